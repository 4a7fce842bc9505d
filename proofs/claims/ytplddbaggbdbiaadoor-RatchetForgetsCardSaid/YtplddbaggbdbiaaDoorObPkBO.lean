/- Own texts of this claim, one behind the other. No condition. -/
import Derived.Test.YtplddbaggbdbiaaDoorObPkAG
import Derived.Test.YtplddbaggbdbiaaDoorObPkAK
import Derived.Test.YtplddbaggbdbiaaDoorObPkAR
import Derived.Maps.Own
import Derived.Maps.OwnSet
import Derived.Maps.Views
import Derived.Outline
import Derived.Maps.RangeWalk
import Derived.Deep.QuietTactic
import Derived.BigQuiet
import Derived.Shelf.SlMaps.Clone

/- ObKnowA, ObKnowB, ObKnowC, ObKnowD, ObKnowE, ObKnowF, ObKnowG, ObKnowH, ObKnowI, ObKnowJ, ObKnowK: one text. No condition. -/
/- Who knows terms, in memory: the state, and what a call turns. No condition. -/
namespace Go.Proofs.YtplddbaggbdbiaaDoor
open Go.RowKit Go.Maps
set_option linter.unusedVariables false
/-! ### a set of ints -/
theorem keyedI : Keyed Tryd.prog 3 := int_keyed Tryd.underlying3
theorem wf_in {x : Int} (h : In64 x) : (Lit.int .i64 x).wf = true := by
  obtain ⟨h1, h2⟩ := h
  simp [Lit.wf, IntKind.min, IntKind.max, IntKind.signed, IntKind.bits]; omega
theorem keyI {x : Int} (h : In64 x) : keyOf Tryd.prog 3 (.int .i64 x) = some (.int .i64 x) := keyOf_int_mk Tryd.underlying3 (wf_in h)
def mK (w : World) (bk n : Nat) (l : List Int) : Prop := ∃ D, w.ownsMap Tryd.prog 3 Rv bk n D ∧ ∀ x, has D (.int .i64 x) = l.contains x
theorem mK.lt {w : World} {bk n : Nat} {l : List Int} (h : mK w bk n l) : bk < w.heap.size := by obtain ⟨D, h, _⟩ := h; exact h.lt
theorem mK.keep {w w' : World} {bk n : Nat} {l : List Int} (h : mK w bk n l) (e : w'.heap[bk]? = w.heap[bk]?) : mK w' bk n l := by
  obtain ⟨D, ⟨es, clock, hb, r⟩, hh⟩ := h
  exact ⟨D, ⟨es, clock, by rw [e]; exact hb, r⟩, hh⟩
theorem mK.up {w : World} {bk n n' : Nat} {l : List Int} (h : mK w bk n l) (hn : n ≤ n') : mK w bk n' l := by
  obtain ⟨D, h, hh⟩ := h
  exact ⟨D, h.mono hn, hh⟩
theorem mK.obj {w : World} {bk n : Nat} {l : List Int} (h : mK w bk n l) : ∃ es clock, w.heap[bk]? = some (.map es clock) := by
  obtain ⟨D, ⟨es, clock, hb, r⟩, hh⟩ := h
  exact ⟨es, clock, hb⟩
theorem has_put_int {D : DataW Value} (hD : IsMap D) (x z : Int) (v : DataW Value) : has (D.put (.int .i64 z) v) (.int .i64 x) = ((x == z) || has D (.int .i64 x)) := by
  by_cases h : x = z
  · subst h; rw [has_put_same hD (show WideAt.IsKeyLit (Lit.int .i64 x) from trivial)]; simp
  · rw [has_put_other (fun e => h (by injection e))]; simp [h]
theorem has_del_int {D : DataW Value} (x z : Int) : has (D.del (.int .i64 z)) (.int .i64 x) = (!(x == z) && has D (.int .i64 x)) := by
  by_cases h : x = z
  · subst h; rw [has_del_same]; simp
  · rw [has_del_other (fun e => h (by injection e))]; simp [h]
/-- The element that every id has. -/
def markV : Value := .agg #[]
theorem keys_notin {D : DataW Value} {w : World} {bk n : Nat} (h : w.ownsMap Tryd.prog 3 Rv bk n D) : IsMap D := h.isMap
theorem run_mark (w : World) (bk n : Nat) (l : List Int) (z : Int) (hz : In64 z) (h : mK w bk n l) (hn : n ≤ 1000000) :
    ∃ w', (Instr.mapUpdate 87 (.map (some bk)) (.int .i64 z) markV).run Tryd.prog w = .ok () w' ∧ mK w' bk (n + 1) (l ++ [z]) ∧ Tch (fun b => b = bk) w w' := by
  obtain ⟨D, h, hh⟩ := h
  have hv : Rv markV = some (.held markV, []) := rfl
  obtain ⟨w', hr, h1, h2⟩ := World.ownsMap.store h keyedI Tryd.underlying87 (by unfold maxLen; omega) (keyI hz) hv
  refine ⟨w', hr, ⟨_, h1, fun x => ?_⟩, Tch.grown h2.grown (fun k hk => (Option.some.inj hk).symm)⟩
  rw [has_put_int h.isMap, hh]
  by_cases hx : x = z <;> simp [hx]
theorem wpList_mark {ops : Array Oper} {rest : List Oper} {o : Oper} {a : Act} {Q : Exit → Act → World → Prop} (hg : o.guard = none) (m x v : Operand) (hop : o.op = Op.mapUpdate 87 m x v)
    (w : World) (bk n : Nat) (l : List Int) (z : Int) (hm : a.eval m = .map (some bk)) (hx : a.eval x = .int .i64 z) (hv : a.eval v = markV) (hz : In64 z) (h : mK w bk n l) (hn : n ≤ 1000000)
    (hK : ∀ w', mK w' bk (n + 1) (l ++ [z]) → Tch (fun b => b = bk) w w' → wpList Tryd.prog ops Q rest (a.put o.dst undef) w') :
    wpList Tryd.prog ops Q (o :: rest) a w := by
  refine wpList_plain hg fun K' hK' => ?_
  obtain ⟨w', hrun, r1, r2⟩ := run_mark w bk n l z hz h hn
  unfold Oper.wp
  simp [execOp, hop, hm, hx, hv, hrun, Result.andThen]
  exact hK' _ _ (hK w' r1 r2)
/-! ### rows of ints, gathered -/
structure IRow where
  a : Option Addr
  n : Nat
  c : Nat
  l : List Int
def IRow.v (r : IRow) : Value := .slice r.a r.n r.c
def IApart (v : Value) (r : IRow) : Prop := ∀ b o, 0 < r.n → r.a = some ⟨b, o, none⟩ → v.ownBlock ≠ some b
/-- A row in memory that has come since. -/
def NewI (w0 : World) (r : IRow) : Prop := ∀ b o, 0 < r.n → r.a = some ⟨b, o, none⟩ → w0.heap.size ≤ b
def GathI (w0 w : World) (v : Value) (R : List IRow) : Prop := Own w0 w 36 1 v R.length (R.map IRow.v) ∧ ∀ r ∈ R, Is w r.a r.n r.c r.l ∧ IApart v r
theorem GathI.nil' {w0 w : World} (hb : Below w0.heap.size w0 w) : GathI w0 w (.slice none 0 0) [] := ⟨Own.nil' hb _ _, fun r hr => by cases hr⟩
theorem GathI.mono {w0 w w' : World} {v : Value} {R : List IRow} (h : GathI w0 w v R) (hg : Gr w w') : GathI w0 w' v R := ⟨h.1.mono hg, fun r hr => ⟨(h.2 r hr).1.mono hg, (h.2 r hr).2⟩⟩
theorem GathI.tch {w0 w w' : World} {v : Value} {R : List IRow} {S : Nat → Prop} (h : GathI w0 w v R) (k : Tch S w w') (hB : ∀ b, S b → w0.heap.size ≤ b) (hn : ∀ b, v.ownBlock = some b → ¬ S b) (hr : ∀ r ∈ R, 0 < r.n → ∀ b o, r.a = some ⟨b, o, none⟩ → ¬ S b) : GathI w0 w' v R :=
  ⟨h.1.tch k hB hn, fun r hrr => ⟨(h.2 r hrr).1.tch (by decide) k (hr r hrr), (h.2 r hrr).2⟩⟩
theorem GathI.push {w0 w w' : World} {v v' : Value} {R : List IRow} {r : IRow} (h : GathI w0 w v R) (hr : Is w r.a r.n r.c r.l) (ha : IApart v r) (ho : Own w0 w' 36 1 v' (R.length + 1) (R.map IRow.v ++ [r.v])) (hk : Kept w w' v v') : GathI w0 w' v' (R ++ [r]) := by
  have ht : Tch (fun b => v.ownBlock = some b) w w' := Tch.kept hk ho h.1.2
  have one : ∀ x : IRow, Is w x.a x.n x.c x.l → IApart v x → Is w' x.a x.n x.c x.l ∧ IApart v' x := fun x hx hax => by
    refine ⟨hx.tch (by decide) ht (fun h0 b o e => hax b o h0 e), fun b o h0 e => ?_⟩
    have hlt := Sl.lt hx (by decide) h0 e
    rcases hk.2.2 with q | q
    · rw [q]; exact hax b o h0 e
    · rw [q]; intro hh; injection hh with hh; omega
  refine ⟨by rw [List.length_append, List.map_append]; exact ho, fun x hx => ?_⟩
  rcases List.mem_append.1 hx with hx | hx
  · exact one x (h.2 x hx).1 (h.2 x hx).2
  · obtain rfl : x = r := by simpa using hx
    exact one x hr ha
theorem tRowsI : ElemT Tryd.prog 88 36 (.slice none 0 0) 1 24 := ⟨Tryd.underlying88, by kernel_rfl, rfl, by decide, by decide⟩
/-! ### the state -/
def kindsA (T : List Nd) : List Int := (List.range (T.length + 1)).map fun id : Nat => (kindOf T (id : Int) : Int)
def partsA (T : List Nd) : List (List Int) := (List.range (T.length + 1)).map fun id : Nat => (partsOf T (id : Int)).map Int.ofNat
def boolc (b : Bool) : Value := .bool b
/-- All kinds and parts, or none yet. -/
def KnowAll (w0 w : World) (T : List Nd) (vk vp : Value) : Prop := (vk = .slice none 0 0 ∧ vp = .slice none 0 0) ∨ (Own w0 w 3 1 vk (T.length + 1) ((kindsA T).map i64c) ∧ ∃ R, GathI w0 w vp R ∧ R.map IRow.l = partsA T ∧ ∀ r ∈ R, IApart vk r ∧ NewI w0 r)
/-- What is derived, or not asked yet. -/
def IsAll (w0 w : World) (T : List Nd) (l : List Int) (vi : Value) : Prop := vi = .slice none 0 0 ∨ ∃ d, Own w0 w 4 1 vi d.length (d.map boolc) ∧ d.length ≤ T.length + 1 ∧ (d.length = T.length + 1 → Tells T (fun i => (i : Int) ∈ l) d)
structure KnF (w0 w : World) (gk g bk n : Nat) (T : List Nd) (l : List Int) (vk vp vi : Value) : Prop where
  ge : w0.heap.size ≤ gk
  gm : w0.heap.size ≤ bk
  bel : Below w0.heap.size w0 w
  blk : Blk w gk 91 [.pointer (some ⟨g, 0, none⟩), .map (some bk), vk, vp, vi]
  m : mK w bk n l
  kp : KnowAll w0 w T vk vp
  is : IsAll w0 w T l vi
theorem Is.off {w : World} {A : Option Addr} {n c : Nat} {l : List Int} (h : Is w A n c l) (h0 : 0 < n) {b o : Nat} (e : A = some ⟨b, o, none⟩) {g : Nat} {t : TypeId} {cs : List Value} (hb : Blk w g t cs) (hk : ∀ u ∈ cs, ∀ x, u ≠ .int .i64 x) : b ≠ g :=
  Sl.not_blk h (by decide) hb (fun u hu x hx => by
    have hm := List.mem_of_getElem? hx
    obtain ⟨z, _, rfl⟩ := List.mem_map.1 hm
    exact hk u hu z) h0 e
/-- Whatever turns other blocks than a state's own leaves it. -/
theorem KnF.tch {w0 w w' : World} {gk g bk n : Nat} {T : List Nd} {l : List Int} {vk vp vi : Value} {S : Nat → Prop} (h : KnF w0 w gk g bk n T l vk vp vi) (k : Tch S w w') (hB : ∀ b, S b → w0.heap.size ≤ b) (h1 : ¬ S gk) (h2 : ¬ S bk)
    (hv : ∀ b, vk.ownBlock = some b ∨ vp.ownBlock = some b ∨ vi.ownBlock = some b → ¬ S b) (hi : ∀ A n c xs, 0 < n → Is w A n c xs → ∀ b o, A = some ⟨b, o, none⟩ → ¬ S b) : KnF w0 w' gk g bk n T l vk vp vi := by
  refine ⟨h.ge, h.gm, k.below h.bel h.bel.size hB, h.blk.tch k h1, h.m.keep (k.keep bk h.m.lt h2), ?_, ?_⟩
  · rcases h.kp with q | ⟨q1, R, q2, q3⟩
    · exact .inl q
    · exact .inr ⟨q1.tch k hB (fun b hb => hv b (.inl hb)), R, q2.tch k hB (fun b hb => hv b (.inr (.inl hb))) (fun r hr h0 b o e => hi _ _ _ _ h0 (q2.2 r hr).1 b o e), q3⟩
  · rcases h.is with q | ⟨d, q1, q2⟩
    · exact .inl q
    · exact .inr ⟨d, q1.tch k hB (fun b hb => hv b (.inr (.inr hb))), q2⟩
theorem KnF.gr {w0 w w' : World} {gk g bk n : Nat} {T : List Nd} {l : List Int} {vk vp vi : Value} (h : KnF w0 w gk g bk n T l vk vp vi) (k : Gr w w') : KnF w0 w' gk g bk n T l vk vp vi :=
  h.tch (S := fun _ => False) (Tch.gr k) (fun _ q => q.elim) (fun q => q) (fun q => q) (fun _ _ q => q) (fun _ _ _ _ _ _ _ _ _ q => q)
end Go.Proofs.YtplddbaggbdbiaaDoor
/- Who knows terms: New, Learn. No condition. -/
namespace Go.Proofs.YtplddbaggbdbiaaDoor
open Go.RowKit
set_option linter.unusedVariables false
theorem mK.new (w : World) : mK (w.alloc (.map #[] 0)) w.heap.size 0 [] := ⟨_, World.ownsMap_made w Tryd.prog 3 Rv, fun x => by simp [Go.Maps.has]⟩
theorem knowNew_any (w0 : World) (g : Nat) (T : List Nd) (w : World) (hb : Below w0.heap.size w0 w) :
    Calls Tryd.prog 15 #[.pointer (some ⟨g, 0, none⟩)] w fun e w' => ∃ gk bk, e = .returned (.pointer (some ⟨gk, 0, none⟩)) ∧ KnF w0 w' gk g bk 0 T [] (.slice none 0 0) (.slice none 0 0) (.slice none 0 0) ∧ Gr w w' ∧ w.heap.size ≤ gk ∧ w.heap.size ≤ bk := by
  have hmm := @run_makeMap Tryd.prog
  have HB := Lib.hid hb; clear hb
  go_enter Tryd.func15, Tryd.ntmps15
  go_wp2_with fail
  go_ret
  have hs := HB.out.size
  refine ⟨w.heap.size + 1, w.heap.size, rfl, ⟨by omega, hs, (HB.out.alloc hs _).alloc (by simp; omega) _, ?_, (mK.new w).keep ?_, .inl ⟨rfl, rfl⟩, .inl rfl⟩, (Gr.alloc _ _).trans (Gr.alloc _ _), by omega, Nat.le_refl _⟩
  · have h := Blk.new (w.alloc (.map #[] 0)) 91 #[.pointer (some ⟨g, 0, none⟩), .map (some w.heap.size), .slice none 0 0, .slice none 0 0, .slice none 0 0]
    rw [show (w.alloc (.map #[] 0)).heap.size = w.heap.size + 1 by simp] at h
    exact h
  · exact Below.heap_alloc _ _ _ (by simp)
/-- What a call on a state turns. -/
def KS (gk bk : Nat) : Nat → Prop := fun b => b = gk ∨ b = bk
theorem know_ints {g bk : Nat} {vk vp vi : Value} (hs : (∃ A n c, vk = .slice A n c) ∧ (∃ A n c, vp = .slice A n c) ∧ ∃ A n c, vi = .slice A n c) : ∀ u ∈ [Value.pointer (some ⟨g, 0, none⟩), .map (some bk), vk, vp, vi], ∀ x, u ≠ .int .i64 x := by
  obtain ⟨⟨A, n, c, rfl⟩, ⟨A', n', c', rfl⟩, A'', n'', c'', rfl⟩ := hs
  intro u hu x
  simp at hu
  rcases hu with rfl | rfl | rfl | rfl | rfl <;> simp
theorem KnowAll.slices {w0 w : World} {T : List Nd} {vk vp : Value} (h : KnowAll w0 w T vk vp) : (∃ A n c, vk = .slice A n c) ∧ ∃ A n c, vp = .slice A n c := by
  rcases h with ⟨rfl, rfl⟩ | ⟨q1, R, q2, q3⟩
  · exact ⟨⟨_, _, _, rfl⟩, _, _, _, rfl⟩
  · obtain ⟨A, c, e, _⟩ := q1.slice
    obtain ⟨A', c', e', _⟩ := q2.1.slice
    exact ⟨⟨_, _, _, e⟩, _, _, _, e'⟩
theorem IsAll.slices {w0 w : World} {T : List Nd} {l : List Int} {vi : Value} (h : IsAll w0 w T l vi) : ∃ A n c, vi = .slice A n c := by
  rcases h with rfl | ⟨d, q1, q2⟩
  · exact ⟨_, _, _, rfl⟩
  · obtain ⟨A, c, e, _⟩ := q1.slice
    exact ⟨_, _, _, e⟩
theorem KnF.ints {w0 w : World} {gk g bk n : Nat} {T : List Nd} {l : List Int} {vk vp vi : Value} (h : KnF w0 w gk g bk n T l vk vp vi) : ∀ u ∈ [Value.pointer (some ⟨g, 0, none⟩), .map (some bk), vk, vp, vi], ∀ x, u ≠ .int .i64 x := know_ints ⟨h.kp.slices.1, h.kp.slices.2, h.is.slices⟩
/-- A row of ints lies elsewhere. -/
theorem KnF.row_off {w0 w : World} {gk g bk n : Nat} {T : List Nd} {l : List Int} {vk vp vi : Value} (h : KnF w0 w gk g bk n T l vk vp vi) {A : Option Addr} {m c : Nat} {xs : List Int} (hr : Is w A m c xs) (h0 : 0 < m) : ∀ b o, A = some ⟨b, o, none⟩ → ¬ KS gk bk b := fun b o e q => by
  rcases q with q | q
  · exact hr.off h0 e h.blk h.ints q
  · obtain ⟨es, clock, hm⟩ := h.m.obj
    exact Sl.not_map hr (by decide) hm h0 e q
theorem KnF.own_off {w0 w : World} {gk g bk n : Nat} {T : List Nd} {l : List Int} {vk vp vi : Value} (h : KnF w0 w gk g bk n T l vk vp vi) {w1 : World} {e : TypeId} {s m : Nat} {v : Value} {xs : List Value} (ho : Own w1 w e s v m xs) (he : e ≠ 91) : ∀ b, v.ownBlock = some b → ¬ KS gk bk b := fun b hb q => by
  rcases q with q | q
  · subst q; exact ho.not_blk h.blk he hb
  · subst q
    obtain ⟨es, clock, hm⟩ := h.m.obj
    exact ho.not_map hm hb
/-- The kinds and parts stay. -/
theorem KnF.kept {w0 w w' : World} {gk g bk n : Nat} {T : List Nd} {l : List Int} {vk vp vi : Value} (h : KnF w0 w gk g bk n T l vk vp vi) (k : Tch (KS gk bk) w w') : KnowAll w0 w' T vk vp := by
  have hB : ∀ b, KS gk bk b → w0.heap.size ≤ b := fun b q => by rcases q with rfl | rfl; exact h.ge; exact h.gm
  rcases h.kp with q | ⟨q1, R, q2, q3⟩
  · exact .inl q
  · exact .inr ⟨q1.tch k hB (h.own_off q1 (by decide)), R, q2.tch k hB (h.own_off q2.1 (by decide)) (fun r hr h0 => h.row_off (q2.2 r hr).1 h0), q3⟩
def okIds (T : List Nd) (ids : List Int) : List Int := ids.filter fun id => !outside T.length id
theorem kindOf_pos {T : List Nd} (hk : Kinds T) (id : Int) : 0 < kindOf T id ↔ outside T.length id = false := by
  unfold kindOf
  cases ho : outside T.length id with
  | true => simp
  | false =>
    have hin : 1 ≤ id ∧ id ≤ T.length := by unfold outside at ho; simp at ho; omega
    have hl : id.toNat - 1 < T.length := by omega
    simp only [Bool.false_eq_true, if_false, List.getElem?_eq_getElem hl]
    have := hk T[id.toNat - 1] (List.getElem_mem hl)
    simp; omega
theorem okIds_snoc (T : List Nd) (ids : List Int) (k : Nat) (hk : k < ids.length) : okIds T (ids.take (k + 1)) = okIds T (ids.take k) ++ if outside T.length (iAt ids k) then [] else [iAt ids k] := by
  unfold okIds
  rw [List.take_succ_eq_append_getElem hk, List.filter_append, iAt_get hk]
  cases ho : outside T.length ids[k] <;> simp [ho]
theorem kindOf_le {T : List Nd} (hk : Kinds T) (id : Int) : kindOf T id ≤ 5 := by
  unfold kindOf
  split
  · omega
  · split
    · next x hx => exact (hk x (List.mem_of_getElem? hx)).2
    · omega
set_option maxHeartbeats 1000000 in
theorem learn_any (w0 : World) (gk g bk N : Nat) (T : List Nd) (l : List Int) (vk vp vi : Value) (A : Option Addr) (n c : Nat) (ids : List Int) (w : World) (h : KnF w0 w gk g bk N T l vk vp vi) (ht : TRd w0 g T) (hk : Kinds T) (hi : Is w A n c ids) (hf : ∀ x ∈ ids, In64 x) (hN : N + n ≤ 1000000) :
    Calls Tryd.prog 17 #[.pointer (some ⟨gk, 0, none⟩), .slice A n c] w fun e w' => e = .returned (.tuple #[]) ∧ KnF w0 w' gk g bk (N + n) T (l ++ okIds T ids) vk vp (.slice none 0 0) ∧ Tch (KS gk bk) w w' := by
  have hmax := hi.max; have hcap := hi.cap
  have HL := Lib.hid hi.len
  have HI := Lib.hid hi; have H := Lib.hid h; have HT := Lib.hid ht; have HK := Lib.hid hk; have HF := Lib.hid hf
  have HB : Hid (∀ b, KS gk bk b → w0.heap.size ≤ b) := fun b q => by rcases q with rfl | rfl; exact h.ge; exact h.gm
  clear hi h ht hk hf
  go_enter Tryd.func17, Tryd.ntmps17
  go_wp2_with fail
  go_loopw [10] (fun i wr => ∃ k : Nat, k ≤ n ∧ i = .int .i64 k ∧ Tch (fun b => b = bk) w wr ∧ mK wr bk (N + k) (l ++ okIds T (ids.take k))) (fun i _ => n - (Go.RowKit.intOf i).toNat)
  case atStart => exact ⟨0, Nat.zero_le _, rfl, Tch.refl _, by simpa [okIds] using H.out.m⟩
  case round =>
    obtain ⟨k, hkn, rfl, htc, hm⟩ := hrel
    have TC := Lib.hid htc; have HM := Lib.hid hm; clear htc hm
    have hng : gk ≠ bk := by
      rintro rfl
      obtain ⟨es, clock, hm⟩ := H.out.m.obj
      have := H.out.blk
      unfold Blk at this
      rw [hm] at this
      cases this
    have BK := Lib.hid (H.out.blk.tch TC.out hng)
    have NG := Lib.hid hng
    by_cases hlt : k < n
    · have hrow := HI.out.tch (by decide) (TC.out.mono (S' := KS gk bk) (fun b _ q => .inr q)) (fun h0 => H.out.row_off HI.out h0)
      obtain ⟨b, o, rfl, hcc⟩ := Is.addr hrow (by omega)
      have c2 := hcc k hlt
      have hkl : k < ids.length := by rw [HL.out]; exact hlt
      have hin := HF.out (iAt ids k) (iAt_mem hkl)
      have HS := Lib.hid (okIds_snoc T ids k hkl)
      clear hcc hrow
      have hbel : Below w0.heap.size w0 wr := TC.out.below H.out.bel H.out.bel.size (fun b q => by have := H.out.gm; omega)
      have HKC := Lib.hid (kind_any g T (iAt ids k) wr (HT.out.mono hbel) HK.out hin)
      have HIN := Lib.hid hin
      have HP := Lib.hid (kindOf_pos HK.out (iAt ids k))
      have hk5 := kindOf_le HK.out (iAt ids k)
      have d0 := (BK.out.cell 0).trans rfl
      have d1 := (BK.out.cell 1).trans rfl
      have e1 : ∀ wq, Gr wr wq → wq.cell? ⟨gk, 1, none⟩ = some (.map (some bk)) := fun wq hq => ((hq.blk BK.out).cell 1).trans rfl
      have E1 := Lib.hid e1
      clear hin hbel e1 hng d1
      generalize iAt ids k = z at *
      generalize kindOf T z = q at *
      by_cases hq : 0 < q
      · have t0 : decide (0 < (q : Int)) = true := decide_eq_true (by omega)
        go_wp2_with fail
        refine HKC.out.mono ?_
        rintro e w2 ⟨rfl, g2⟩
        have c1 := E1.out w2 g2
        have M2 := Lib.hid (HM.out.keep (g2.block bk HM.out.lt))
        have G2 := Lib.hid g2
        clear g2 d0 c2
        go_wp2_with (at_mapUpdate; refine wpList_mark rfl (.tmp 24) (.tmp 25) (.tmp 26) rfl _ bk (N + k) _ z rfl rfl rfl HIN.out M2.out (by omega) ?_; intro w3 m3 t3)
        refine ⟨⟨k + 1, by omega, by simp, (TC.out.trans (Tch.gr G2.out)).trans t3, ?_⟩, by simp [Go.RowKit.intOf]; omega⟩
        rw [HS.out, HP.out.1 hq]
        have := m3
        rw [List.append_assoc] at this
        exact this
      · obtain rfl : q = 0 := by omega
        go_wp2_with fail
        refine HKC.out.mono ?_
        rintro e w2 ⟨rfl, g2⟩
        have M2 := Lib.hid (HM.out.keep (g2.block bk HM.out.lt))
        have G2 := Lib.hid g2
        have HO : Hid (outside T.length z = true) := by
          cases ho : outside T.length z with
          | true => rfl
          | false => exact absurd (HP.out.2 ho) hq
        clear g2 d0 c2
        go_wp2_with fail
        refine ⟨⟨k + 1, by omega, by simp, TC.out.trans (Tch.gr G2.out), ?_⟩, by simp [Go.RowKit.intOf]; omega⟩
        rw [HS.out, HO.out]
        simpa using M2.out.up (by omega)
    · obtain rfl : k = n := by omega
      have hB := BK.out
      have c4 : wr.cell? ⟨gk, 4, none⟩ = some vi := (hB.cell 4).trans rfl
      have f4 := hB.free 4
      have hlg := hB.lt
      clear hB hng
      go_wp2_with fail
      go_end0
      have t9 : Tch (KS gk bk) w (wr.setCell ⟨gk, 4, none⟩ (.slice none 0 0)) := (TC.out.mono (S' := KS gk bk) (fun b _ q => .inr q)).trans (Tch.set _ _ (.inl rfl))
      have he : ids.take k = ids := List.take_of_length_le (by rw [HL.out]; exact Nat.le_refl _)
      have hm := HM.out
      rw [he] at hm
      refine ⟨rfl, ⟨H.out.ge, H.out.gm, t9.below H.out.bel H.out.bel.size HB.out, BK.out.set 4 _, hm.keep ?_, H.out.kept t9, .inl rfl⟩, t9⟩
      exact Below.heap_setCell _ _ _ _ (fun e => NG.out e.symm)
end Go.Proofs.YtplddbaggbdbiaaDoor
/- Who knows terms: grow. No condition. -/
namespace Go.Proofs.YtplddbaggbdbiaaDoor
open Go.RowKit
set_option linter.unusedVariables false
theorem range_take_snoc {α : Type} (f : Nat → α) (n k : Nat) (hk : k < n) : ((List.range n).map f).take (k + 1) = ((List.range n).map f).take k ++ [f k] := by
  rw [List.take_succ_eq_append_getElem (by simpa using hk)]
  simp
theorem kinds_snoc (T : List Nd) (k : Nat) (hk : k ≤ T.length) : (kindsA T).take (k + 1) = (kindsA T).take k ++ [(kindOf T (k : Int) : Int)] := range_take_snoc _ _ _ (by omega)
theorem parts_snoc (T : List Nd) (k : Nat) (hk : k ≤ T.length) : (partsA T).take (k + 1) = (partsA T).take k ++ [(partsOf T (k : Int)).map Int.ofNat] := range_take_snoc _ _ _ (by omega)
theorem kindsA_len (T : List Nd) : (kindsA T).length = T.length + 1 := by simp [kindsA]
theorem partsA_len (T : List Nd) : (partsA T).length = T.length + 1 := by simp [partsA]
/-- As far as id k. -/
structure GrowTo (w0 w : World) (gk g bk : Nat) (T : List Nd) (vk vp vi : Value) (k : Nat) (R : List IRow) : Prop where
  blk : Blk w gk 91 [.pointer (some ⟨g, 0, none⟩), .map (some bk), vk, vp, vi]
  kk : Own w0 w 3 1 vk k (((kindsA T).take k).map i64c)
  pp : GathI w0 w vp R
  rr : R.map IRow.l = (partsA T).take k
  ap : ∀ r ∈ R, IApart vk r
  nw : ∀ r ∈ R, NewI w0 r
theorem GrowTo.gr {w0 w w' : World} {gk g bk : Nat} {T : List Nd} {vk vp vi : Value} {k : Nat} {R : List IRow} (h : GrowTo w0 w gk g bk T vk vp vi k R) (hg : Gr w w') : GrowTo w0 w' gk g bk T vk vp vi k R :=
  ⟨hg.blk h.blk, h.kk.mono hg, h.pp.mono hg, h.rr, h.ap, h.nw⟩
/-- Behind the first append. -/
structure GrowMid (w0 w : World) (gk g bk : Nat) (T : List Nd) (vk vp vi : Value) (k : Nat) (R : List IRow) (vk' : Value) : Prop where
  blk : Blk w gk 91 [.pointer (some ⟨g, 0, none⟩), .map (some bk), vk, vp, vi]
  kk : Own w0 w 3 1 vk' (k + 1) (((kindsA T).take (k + 1)).map i64c)
  pp : GathI w0 w vp R
  ap : ∀ r ∈ R, IApart vk' r
  nw : ∀ r ∈ R, NewI w0 r
theorem GrowTo.mid {w0 w w' : World} {gk g bk : Nat} {T : List Nd} {vk vp vi vk' : Value} {k : Nat} {R : List IRow} (h : GrowTo w0 w gk g bk T vk vp vi k R) (hk : Kept w w' vk vk') (ho : Own w0 w' 3 1 vk' (k + 1) (((kindsA T).take (k + 1)).map i64c)) : GrowMid w0 w' gk g bk T vk vp vi k R vk' := by
  have t := Tch.kept hk ho h.kk.2
  refine ⟨h.blk.tch t (h.kk.not_blk h.blk (by decide)), ho, h.pp.tch t (fun b hb => (h.kk.1.lt b hb).1) (fun b hb e => own_other h.pp.1 h.kk (by decide) hb e) (fun r hr h0 b o e hb => h.ap r hr b o h0 e hb), fun r hr b o h0 e => ?_, h.nw⟩
  have hlt := Sl.lt (h.pp.2 r hr).1 (by decide) h0 e
  rcases hk.2.2 with q | q
  · rw [q]; exact h.ap r hr b o h0 e
  · rw [q]; intro hh; injection hh with hh; omega
theorem GrowMid.gr {w0 w w' : World} {gk g bk : Nat} {T : List Nd} {vk vp vi vk' : Value} {k : Nat} {R : List IRow} (h : GrowMid w0 w gk g bk T vk vp vi k R vk') (hg : Gr w w') : GrowMid w0 w' gk g bk T vk vp vi k R vk' :=
  ⟨hg.blk h.blk, h.kk.mono hg, h.pp.mono hg, h.ap, h.nw⟩
/-- Behind both, and both stores. -/
theorem GrowMid.fin {w0 w w' w9 : World} {gk g bk : Nat} {T : List Nd} {vk vp vi vk' vp' : Value} {k : Nat} {R : List IRow} {r : IRow} (h : GrowMid w0 w gk g bk T vk vp vi k R vk') (hge : w0.heap.size ≤ gk) (hrr : R.map IRow.l = (partsA T).take k) (hr : Is w r.a r.n r.c r.l) (ha : IApart vp r) (hak : IApart vk' r) (hnw : NewI w0 r)
    (hl : r.l = (partsOf T (k : Int)).map Int.ofNat) (hkT : k ≤ T.length) (ho : Own w0 w' 36 1 vp' (R.length + 1) (R.map IRow.v ++ [r.v])) (hk : Kept w w' vp vp') (h9 : w9 = (w'.setCell ⟨gk, 2, none⟩ vk').setCell ⟨gk, 3, none⟩ vp') (hsl : (∃ A n c, vk = .slice A n c) ∧ (∃ A n c, vp = .slice A n c) ∧ (∃ A n c, vi = .slice A n c) ∧ (∃ A n c, vk' = .slice A n c) ∧ ∃ A n c, vp' = .slice A n c) :
    GrowTo w0 w9 gk g bk T vk' vp' vi (k + 1) (R ++ [r]) := by
  have t := Tch.kept hk ho h.pp.1.2
  have b1 := h.blk.tch t (h.pp.1.not_blk h.blk (by decide))
  have k1 : Own w0 w' 3 1 vk' (k + 1) (((kindsA T).take (k + 1)).map i64c) := h.kk.tch t (fun b hb => (h.pp.1.1.lt b hb).1) (fun b hb e => own_other h.kk h.pp.1 (by decide) hb e)
  have p1 := h.pp.push hr ha ho hk
  have t9 : Tch (fun b => b = gk) w' w9 := by
    rw [h9]
    exact (Tch.set (S := fun b => b = gk) ⟨gk, 2, none⟩ vk' rfl).trans (Tch.set ⟨gk, 3, none⟩ vp' rfl)
  have b9 : Blk w9 gk 91 [.pointer (some ⟨g, 0, none⟩), .map (some bk), vk', vp', vi] := by
    rw [h9]
    exact (b1.set 2 vk').set 3 vp'
  obtain ⟨s1, s2, s3, s4, s5⟩ := hsl
  refine ⟨b9, k1.tch t9 (fun b hb => by omega) (fun b hb e => by subst e; exact k1.not_blk b1 (by decide) hb), p1.tch t9 (fun b hb => by omega) (fun b hb e => by subst e; exact p1.1.not_blk b1 (by decide) hb) (fun x hx h0 b o e q => (p1.2 x hx).1.off h0 e b1 (know_ints ⟨s1, s2, s3⟩) q), ?_, fun x hx => ?_, fun x hx => ?_⟩
  · rw [List.map_append, hrr, parts_snoc T k hkT, ← hl]; rfl
  · rcases List.mem_append.1 hx with hx | hx
    · exact h.ap x hx
    · rw [List.mem_singleton.1 hx]; exact hak
  · rcases List.mem_append.1 hx with hx | hx
    · exact h.nw x hx
    · rw [List.mem_singleton.1 hx]; exact hnw
end Go.Proofs.YtplddbaggbdbiaaDoor
/- Who knows terms: grow walked. No condition. -/
namespace Go.Proofs.YtplddbaggbdbiaaDoor
open Go.RowKit
set_option linter.unusedVariables false
/-- v's row lies in memory that has come since w. -/
def NewB (w : World) (v : Value) : Prop := ∀ b, v.ownBlock = some b → w.heap.size ≤ b
theorem NewB.nil (w : World) : NewB w (.slice none 0 0) := fun b h => by cases h
theorem NewB.kept {w w1 w2 : World} {v v' : Value} (h : NewB w v) (hk : Kept w1 w2 v v') (hs : w.heap.size ≤ w1.heap.size) : NewB w v' := fun b hb => by
  rcases hk.2.2 with q | q
  · rw [q] at hb; exact h b hb
  · rw [q] at hb; injection hb with hb; omega
set_option maxRecDepth 100000 in
set_option maxHeartbeats 2000000 in
theorem growLoop_any (w0 : World) (gk g bk : Nat) (T : List Nd) (vi : Value) (w : World) (hb : Below w0.heap.size w0 w) (hge : w0.heap.size ≤ gk) (hB : Blk w gk 91 [.pointer (some ⟨g, 0, none⟩), .map (some bk), .slice none 0 0, .slice none 0 0, vi]) (hvi : ∃ A n c, vi = .slice A n c) (ht : TRd w0 g T) (hk : Kinds T) (hn : T.length ≤ 1000) :
    Calls Tryd.prog 89 #[.pointer (some ⟨gk, 0, none⟩)] w fun e w' => e = .returned (.tuple #[]) ∧ Tch (fun b => b = gk) w w' ∧ ∃ vk vp R, GrowTo w0 w' gk g bk T vk vp vi (T.length + 1) R := by
  have HB := Lib.hid hb; have HBK := Lib.hid hB; have HT := Lib.hid ht; have HK := Lib.hid hk; have HV := Lib.hid hvi
  have c0 := (hB.cell 0).trans rfl
  have c2 := (hB.cell 2).trans rfl
  obtain ⟨N, hN⟩ : ∃ N, N = T.length := ⟨_, rfl⟩
  rw [← hN] at hn ⊢
  have HN := Lib.hid hN
  clear hb hB ht hk hvi hN
  go_enter Tryd.func89, Tryd.ntmps89
  go_wp2_with fail
  go_loopw [2] (fun i wr => ∃ (k : Nat) (vk vp : Value) (R : List IRow), k ≤ N + 1 ∧ i = .int .i64 k ∧ Tch (fun b => b = gk) w wr ∧ GrowTo w0 wr gk g bk T vk vp vi k R ∧ NewB w vk ∧ NewB w vp) (fun i _ => N + 1 - (Go.RowKit.intOf i).toNat)
  case atStart => exact ⟨0, _, _, [], Nat.zero_le _, rfl, Tch.refl _, ⟨HBK.out, Own.nil' HB.out _ _, GathI.nil' HB.out, rfl, (fun r hr => by cases hr), fun r hr => by cases hr⟩, NewB.nil _, NewB.nil _⟩
  case round =>
    obtain ⟨k, vk, vp, R, hkn, rfl, htc, hgt, hnk, hnp⟩ := hrel
    have NK := Lib.hid hnk; have NP := Lib.hid hnp; clear hnk hnp
    have TC := Lib.hid htc; have G := Lib.hid hgt; clear htc hgt c0 c2
    have hbel : Below w0.heap.size w0 wr := G.out.kk.2
    have HL := Lib.hid (len_any g T wr (HT.out.mono hbel))
    have c0 : wr.cell? ⟨gk, 0, none⟩ = some (.pointer (some ⟨g, 0, none⟩)) := (G.out.blk.cell 0).trans rfl
    rw [← HN.out] at HL
    clear hbel
    by_cases hlt : k ≤ N
    · have t0 : decide ((k : Int) ≤ (N : Int)) = true := decide_eq_true (by omega)
      go_wp2_with fail
      refine HL.out.mono ?_
      rintro e w1 ⟨rfl, rfl⟩
      obtain ⟨Ak, ck, rfl, sk⟩ := G.out.kk.slice
      obtain ⟨Ap, cp, rfl, sp⟩ := G.out.pp.1.slice
      have hmk := sk.max; have hmp := sp.max; have hck := sk.cap; have hcp := sp.cap
      have hRl : R.length = k := by have := congrArg List.length G.out.rr; simp [partsA_len] at this; rw [this]; have := HN.out; omega
      have HRl := Lib.hid hRl; clear hRl
      have c2 : wr.cell? ⟨gk, 2, none⟩ = some (.slice Ak k ck) := (G.out.blk.cell 2).trans rfl
      have c3 : wr.cell? ⟨gk, 3, none⟩ = some (.slice Ap R.length cp) := (G.out.blk.cell 3).trans rfl
      clear sk sp
      go_upto_region 3 with fail
      refine wp_region_pre (by kernel_rfl) (fun w' => w'.cell? ⟨gk, 0, none⟩ = some (.pointer (some ⟨g, 0, none⟩)) ∧ w'.cell? ⟨gk, 2, none⟩ = some (.slice Ak k ck) ∧ w'.cell? ⟨gk, 3, none⟩ = some (.slice Ap R.length cp)) (fun i => i == 5 || i == 9 || i == 17 || i == 21) (fun i => Nat.ble 28 i) [0, 1, 2, 3, 4, 6, 7, 8, 10, 14, 15, 16, 18, 19, 20, 22, 5, 9, 17, 21] 12 (by kernel_rfl) (by kernel_rfl) (by kernel_rfl) ⟨c0, c2, c3⟩ ?_
      refine wpPre_e rfl rfl ?_
      apply Exists.intro
      refine ⟨fun wq hq => ?_, ?_⟩
      · clear hq
        unfold plainAt
        go_simp
        first | exact rfl | exact ⟨rfl, rfl⟩
      go_simp
      refine wpPre_e rfl rfl ?_
      apply Exists.intro
      refine ⟨fun wq hq => ?_, ?_⟩
      · clear hq
        unfold plainAt
        go_simp
        first | exact rfl | exact ⟨rfl, rfl⟩
      go_simp
      refine wpPre_e rfl rfl ?_
      apply Exists.intro
      refine ⟨fun wq hq => ?_, ?_⟩
      · clear hq
        unfold plainAt
        go_simp
        first | exact rfl | exact ⟨rfl, rfl⟩
      go_simp
      refine wpPre_e rfl rfl ?_
      apply Exists.intro
      refine ⟨fun wq hq => ?_, ?_⟩
      · clear hq
        unfold plainAt
        go_simp
        first | exact rfl | exact ⟨rfl, rfl⟩
      go_simp
      refine wpPre_e rfl rfl ?_
      apply Exists.intro
      refine ⟨fun wq hq => ?_, ?_⟩
      · clear hq
        unfold plainAt
        go_simp
        first | exact rfl | exact ⟨rfl, rfl⟩
      go_simp
      refine wpPre_e rfl rfl ?_
      apply Exists.intro
      refine ⟨fun wq hq => ?_, ?_⟩
      · clear hq
        unfold plainAt
        go_simp
        first | exact rfl | exact ⟨rfl, rfl⟩
      go_simp
      refine wpPre_e rfl rfl ?_
      apply Exists.intro
      refine ⟨fun wq hq => ?_, ?_⟩
      · clear hq
        unfold plainAt
        go_simp
        first | exact rfl | exact ⟨rfl, rfl⟩
      go_simp
      refine wpPre_e rfl rfl ?_
      apply Exists.intro
      refine ⟨fun wq hq => ?_, ?_⟩
      · clear hq
        unfold plainAt
        go_simp
        first | exact rfl | exact ⟨rfl, rfl⟩
      go_simp
      refine wpPre_e rfl rfl ?_
      apply Exists.intro
      refine ⟨fun wq hq => ?_, ?_⟩
      · clear hq
        unfold plainAt
        go_simp
        first | exact rfl | exact ⟨rfl, rfl⟩
      go_simp
      refine wpPre_e rfl rfl ?_
      apply Exists.intro
      refine ⟨fun wq hq => ?_, ?_⟩
      · clear hq
        unfold plainAt
        go_simp
        first | exact rfl | exact ⟨rfl, rfl⟩
      go_simp
      refine wpPre_e rfl rfl ?_
      apply Exists.intro
      refine ⟨fun wq hq => ?_, ?_⟩
      · clear hq
        unfold plainAt
        go_simp
        first | exact rfl | exact ⟨rfl, rfl⟩
      go_simp
      refine wpPre_e rfl rfl ?_
      apply Exists.intro
      refine ⟨fun wq hq => ?_, ?_⟩
      · clear hq
        unfold plainAt
        go_simp
        first | exact rfl | exact ⟨rfl, rfl⟩
      go_simp
      refine wpPre_e rfl rfl ?_
      apply Exists.intro
      refine ⟨fun wq hq => ?_, ?_⟩
      · clear hq
        unfold plainAt
        go_simp
        first | exact rfl | exact ⟨rfl, rfl⟩
      go_simp
      refine wpPre_e rfl rfl ?_
      apply Exists.intro
      refine ⟨fun wq hq => ?_, ?_⟩
      · clear hq
        unfold plainAt
        go_simp
        first | exact rfl | exact ⟨rfl, rfl⟩
      go_simp
      refine wpPre_e rfl rfl ?_
      apply Exists.intro
      refine ⟨fun wq hq => ?_, ?_⟩
      · clear hq
        unfold plainAt
        go_simp
        first | exact rfl | exact ⟨rfl, rfl⟩
      go_simp
      refine wpPre_e rfl rfl ?_
      apply Exists.intro
      refine ⟨fun wq hq => ?_, ?_⟩
      · clear hq
        unfold plainAt
        go_simp
        first | exact rfl | exact ⟨rfl, rfl⟩
      go_simp
      refine wpPre_e rfl rfl ?_
      apply Exists.intro
      refine ⟨fun wq hq => ?_, ?_⟩
      · replace hq := hq rfl
        obtain ⟨z0, z2, z3⟩ := hq
        unfold plainAt
        go_simp
        first | exact rfl | exact ⟨rfl, rfl⟩
      go_simp
      refine wpPre_e rfl rfl ?_
      apply Exists.intro
      refine ⟨fun wq hq => ?_, ?_⟩
      · replace hq := hq rfl
        obtain ⟨z0, z2, z3⟩ := hq
        unfold plainAt
        go_simp
        first | exact rfl | exact ⟨rfl, rfl⟩
      go_simp
      refine wpPre_e rfl rfl ?_
      apply Exists.intro
      refine ⟨fun wq hq => ?_, ?_⟩
      · replace hq := hq rfl
        obtain ⟨z0, z2, z3⟩ := hq
        unfold plainAt
        go_simp
        first | exact rfl | exact ⟨rfl, rfl⟩
      go_simp
      refine wpPre_e rfl rfl ?_
      apply Exists.intro
      refine ⟨fun wq hq => ?_, ?_⟩
      · replace hq := hq rfl
        obtain ⟨z0, z2, z3⟩ := hq
        unfold plainAt
        go_simp
        first | exact rfl | exact ⟨rfl, rfl⟩
      go_simp
      refine wpPre_nil ?_
      have HC : Hid (∀ wq, Gr wr wq → wq.cell? ⟨gk, 0, none⟩ = some (.pointer (some ⟨g, 0, none⟩)) ∧ wq.cell? ⟨gk, 2, none⟩ = some (.slice Ak k ck) ∧ wq.cell? ⟨gk, 3, none⟩ = some (.slice Ap R.length cp)) := fun wq hq => ⟨((hq.blk G.out.blk).cell 0).trans rfl, ((hq.blk G.out.blk).cell 2).trans rfl, ((hq.blk G.out.blk).cell 3).trans rfl⟩
      have HKC : Hid (∀ wq, Gr wr wq → Calls Tryd.prog 42 #[.pointer (some ⟨g, 0, none⟩), .int .i64 (k : Int)] wq fun e w' => e = .returned (.int .i64 (kindOf T (k : Int) : Int)) ∧ Gr wq w') := fun wq hq => kind_any g T (k : Int) wq (HT.out.mono (G.out.gr hq).kk.2) HK.out ⟨by omega, by omega⟩
      clear c0 c2 c3 HL
      refine wpRest_one (i := 11) (by kernel_rfl) rfl rfl ?_
      intro K hK
      go_simp
      go_at_call 42
      refine (HKC.out _ (Gr.drew _)).mono ?_
      rintro e w2 ⟨rfl, g2⟩
      have G2 := Lib.hid ((Gr.drew _).trans g2); clear g2
      refine hK _ _ (fun _ => HC.out w2 G2.out) ?_
      clear hK
      go_simp
      refine wpRest_one (i := 12) (by kernel_rfl) rfl rfl ?_
      intro K hK
      go_simp
      refine hK _ _ (fun _ => HC.out _ (G2.out.trans (Gr.alloc _ _))) ?_
      clear hK
      go_simp
      refine wpRest_one (i := 13) (by kernel_rfl) rfl rfl ?_
      intro K hK
      have N1 : Hid ((w2.alloc (.cells #[.int .i64 (kindOf T (k : Int) : Int)] 3)).cell? ⟨w2.heap.size, 0, none⟩ = some (.int .i64 (kindOf T (k : Int) : Int))) := (Blk.new w2 3 #[.int .i64 (kindOf T (k : Int) : Int)]).cell 0
      refine wp_pushG (n := k) (.tmp 22) (.tmp 29) 36 rfl tNums rfl (G.out.kk.mono (G2.out.trans (Gr.alloc _ _))) _ _ [.int .i64 (kindOf T (k : Int) : Int)] rfl rfl (one_int _ _) (one_cells N1.out) (by omega) ?_
      intro vk3 w3 own3 kept3
      have HO3 : Hid (Own w0 w3 3 1 vk3 (k + 1) (((kindsA T).take (k + 1)).map i64c)) := by
        show Own _ _ _ _ _ _ _
        rw [kinds_snoc T k (by rw [← HN.out]; exact hlt), List.map_append]
        exact own3
      have M3 := Lib.hid ((G.out.gr (G2.out.trans (Gr.alloc _ _))).mid kept3 HO3.out)
      have T3 := Lib.hid (Tch.kept kept3 own3 (G.out.gr (G2.out.trans (Gr.alloc _ _))).kk.2)
      have NK3 := Lib.hid (NK.out.kept kept3 (Nat.le_trans TC.out.size (G2.out.trans (Gr.alloc _ _)).size))
      clear own3 kept3
      have HC3 : Hid (∀ wq, Gr w3 wq → wq.cell? ⟨gk, 0, none⟩ = some (.pointer (some ⟨g, 0, none⟩)) ∧ wq.cell? ⟨gk, 2, none⟩ = some (.slice Ak k ck) ∧ wq.cell? ⟨gk, 3, none⟩ = some (.slice Ap R.length cp)) := fun wq hq => ⟨((hq.blk M3.out.blk).cell 0).trans rfl, ((hq.blk M3.out.blk).cell 2).trans rfl, ((hq.blk M3.out.blk).cell 3).trans rfl⟩
      obtain ⟨A3, d3, rfl, _⟩ := HO3.out.slice
      refine hK _ _ (fun _ => HC3.out _ (Gr.refl _)) ?_
      clear hK
      go_simp
      refine wpRest_one (i := 23) (by kernel_rfl) rfl rfl ?_
      intro K hK
      go_simp
      go_at_call 121
      refine (parts_any g T (k : Int) w3 (HT.out.mono M3.out.kk.2) HK.out ⟨by omega, by omega⟩).mono ?_
      rintro e w4 ⟨A4, c4, rfl, i4, g4, f4⟩
      have I4 := Lib.hid i4; have G4 := Lib.hid g4; have F4 := Lib.hid f4.1; clear i4 g4 f4
      refine hK _ _ (fun _ => HC3.out _ G4.out) ?_
      clear hK
      obtain ⟨L4, hL4⟩ : ∃ L4, L4 = (partsOf T (k : Int)).map Int.ofNat := ⟨_, rfl⟩
      rw [← hL4] at I4 ⊢
      have HL4 := Lib.hid hL4; clear hL4
      go_simp
      refine wpRest_one (i := 24) (by kernel_rfl) rfl rfl ?_
      intro K hK
      go_simp
      refine hK _ _ (fun _ => HC3.out _ (G4.out.trans (Gr.alloc _ _))) ?_
      clear hK
      go_simp
      refine wpRest_one (i := 25) (by kernel_rfl) rfl rfl ?_
      intro K hK
      have N2 : Hid ((w4.alloc (.cells #[.slice A4 L4.length c4] 36)).cell? ⟨w4.heap.size, 0, none⟩ = some (.slice A4 L4.length c4)) := (Blk.new w4 36 #[.slice A4 L4.length c4]).cell 0
      refine wp_pushG (n := R.length) (.tmp 34) (.tmp 41) 88 rfl tRowsI rfl (M3.out.gr (G4.out.trans (Gr.alloc _ _))).pp.1 _ _ [.slice A4 L4.length c4] rfl rfl (by intro u hu; rw [List.mem_singleton.1 hu]; rfl) (one_cells N2.out) (by have := HRl.out; omega) ?_
      intro vp5 w5 own5 kept5
      have M4 := Lib.hid (M3.out.gr (G4.out.trans (Gr.alloc w4 (.cells #[.slice A4 L4.length c4] 36))))
      have T5 := Lib.hid (Tch.kept kept5 own5 M4.out.pp.1.2)
      have B5 := Lib.hid (M4.out.blk.tch T5.out (M4.out.pp.1.not_blk M4.out.blk (by decide)))
      have OK5 := Lib.hid own5; have KE5 := Lib.hid kept5
      obtain ⟨A5, d5, rfl, _⟩ := own5.slice
      clear own5 kept5
      refine hK _ _ (fun _ => ⟨(B5.out.cell 0).trans rfl, (B5.out.cell 2).trans rfl, (B5.out.cell 3).trans rfl⟩) ?_
      clear hK
      have y2 := B5.out.free 2
      have y3 := B5.out.free 3
      have x2 : w5.cell? ⟨gk, 2, none⟩ = some (.slice Ak k ck) := (B5.out.cell 2).trans rfl
      have x3 : w5.cell? ⟨gk, 3, none⟩ = some (.slice Ap R.length cp) := (B5.out.cell 3).trans rfl
      have hlg := B5.out.lt
      go_simp
      refine wpRest_one (i := 26) (by kernel_rfl) rfl rfl ?_
      intro K hK
      go_simp
      refine hK _ _ (fun _ => ⟨(B5.out.cell 0).trans rfl, (B5.out.cell 2).trans rfl, (B5.out.cell 3).trans rfl⟩) ?_
      clear hK
      go_simp
      refine wpRest_one (i := 27) (by kernel_rfl) rfl rfl ?_
      intro K hK
      go_simp
      refine hK _ _ (fun _ => ⟨(B5.out.cell 0).trans rfl, (B5.out.cell 2).trans rfl, (B5.out.cell 3).trans rfl⟩) ?_
      clear hK
      go_simp
      refine wpRest_one (i := 28) (by kernel_rfl) rfl rfl ?_
      intro K hK
      go_simp
      refine hK _ _ (fun h => by cases h) ?_
      clear hK
      go_simp
      refine wpRest_one (i := 29) (by kernel_rfl) rfl rfl ?_
      intro K hK
      go_simp
      refine hK _ _ (fun h => by cases h) ?_
      clear hK
      go_simp
      refine wpRest_one (i := 30) (by kernel_rfl) rfl rfl ?_
      intro K hK
      go_simp
      refine hK _ _ (fun h => by cases h) ?_
      clear hK
      go_simp
      refine wpRest_one (i := 31) (by kernel_rfl) rfl rfl ?_
      intro K hK
      go_simp
      refine hK _ _ (fun h => by cases h) ?_
      clear hK
      go_simp
      refine wpRest_nil (by kernel_rfl) ?_
      obtain ⟨w9, h9⟩ : ∃ w9, w9 = (w5.setCell ⟨gk, 2, none⟩ (.slice A3 (k + 1) d3)).setCell ⟨gk, 3, none⟩ (.slice A5 (R.length + 1) d5) := ⟨_, rfl⟩
      rw [← h9]
      have hkT : k ≤ T.length := by rw [← HN.out]; exact hlt
      have T9 : Hid (Tch (fun b => b = gk) w5 w9) := by
        show Tch _ _ _
        rw [h9]
        exact (Tch.set (S := fun b => b = gk) ⟨gk, 2, none⟩ _ rfl).trans (Tch.set ⟨gk, 3, none⟩ _ rfl)
      have F9 : Hid (GrowTo w0 w9 gk g bk T (.slice A3 (k + 1) d3) (.slice A5 (R.length + 1) d5) vi (k + 1) (R ++ [⟨A4, L4.length, c4, L4⟩])) :=
        GrowMid.fin (r := ⟨A4, L4.length, c4, L4⟩) M4.out hge G.out.rr (I4.out.mono (Gr.alloc _ _)) (fun b o _ e hb => by have h1 := F4.out b o e; have h2 := (M3.out.pp.1.1.lt b hb).2; omega) (fun b o _ e hb => by have h1 := F4.out b o e; have h2 := (M3.out.kk.1.lt b hb).2; omega) (fun b o _ e => by have h1 := F4.out b o e; have h2 := M3.out.kk.2.size; omega) HL4.out hkT OK5.out KE5.out h9 ⟨⟨_, _, _, rfl⟩, ⟨_, _, _, rfl⟩, HV.out, ⟨_, _, _, rfl⟩, ⟨_, _, _, rfl⟩⟩
      clear h9 x2 x3 y2 y3 hlg hkT
      go_wp2_with fail
      have s1 : Tch (fun b => b = gk) w (w2.alloc (.cells #[.int .i64 (kindOf T (k : Int) : Int)] 3)) := TC.out.trans (Tch.gr (G2.out.trans (Gr.alloc _ _)))
      have s2 := s1.trans' T3.out (fun x hx e => by have := NK.out x e; omega)
      have s3 := s2.trans (Tch.gr (G4.out.trans (Gr.alloc w4 (.cells #[.slice A4 L4.length c4] 36))))
      have s4 := s3.trans' T5.out (fun x hx e => by have := NP.out x e; omega)
      exact ⟨⟨k + 1, _, _, _, by omega, by simp, s4.trans T9.out, F9.out, NK3.out, NP.out.kept KE5.out s3.size⟩, by simp [Go.RowKit.intOf]; omega⟩
    · obtain rfl : k = N + 1 := by omega
      have t0 : decide (((N + 1 : Nat) : Int) ≤ (N : Int)) = false := decide_eq_false (by omega)
      go_wp2_with fail
      refine HL.out.mono ?_
      rintro e w1 ⟨rfl, rfl⟩
      go_wp2_with fail
      go_end0
      exact ⟨rfl, TC.out, vk, vp, R, G.out⟩
def KnowFull (w0 w : World) (T : List Nd) (vk vp : Value) : Prop := Own w0 w 3 1 vk (T.length + 1) ((kindsA T).map i64c) ∧ ∃ R, GathI w0 w vp R ∧ R.map IRow.l = partsA T ∧ ∀ r ∈ R, IApart vk r ∧ NewI w0 r
theorem growFull_any (w0 : World) (gk g bk N : Nat) (T : List Nd) (l : List Int) (vk vp vi : Value) (w : World) (h : KnF w0 w gk g bk N T l vk vp vi) (hf : KnowFull w0 w T vk vp) (ht : TRd w0 g T) (hn : T.length ≤ 1000) :
    Calls Tryd.prog 89 #[.pointer (some ⟨gk, 0, none⟩)] w fun e w' => e = .returned (.tuple #[]) ∧ w = w' := by
  obtain ⟨A, c, rfl, hs⟩ := hf.1.slice
  have c0 := (h.blk.cell 0).trans rfl
  have c2 := (h.blk.cell 2).trans rfl
  have hm := hs.max; have hcp := hs.cap
  have HL := Lib.hid (len_any g T w (ht.mono h.bel))
  obtain ⟨n, hn'⟩ : ∃ n, n = T.length := ⟨_, rfl⟩
  rw [← hn'] at c2 hn HL hcp
  clear h hf ht hs hn'
  have t0 : decide (((n + 1 : Nat) : Int) ≤ (n : Int)) = false := decide_eq_false (by omega)
  have e0 : ((n + 1 : Nat) : Int) = (n : Int) + 1 := by omega
  have t1 : decide ((n : Int) + 1 ≤ (n : Int)) = false := decide_eq_false (by omega)
  clear e0
  go_enter Tryd.func89, Tryd.ntmps89
  go_wp2_with fail
  refine wp_loop_rounds 1 ?_
  rw [rounds_succ]
  go_wp2_with fail
  refine HL.out.mono ?_
  rintro e w1 ⟨rfl, rfl⟩
  go_wp2_with fail
  go_end0
  exact ⟨rfl, rfl⟩
theorem grow_any (w0 : World) (gk g bk N : Nat) (T : List Nd) (l : List Int) (vk vp vi : Value) (w : World) (h : KnF w0 w gk g bk N T l vk vp vi) (ht : TRd w0 g T) (hk : Kinds T) (hn : T.length ≤ 1000) :
    Calls Tryd.prog 89 #[.pointer (some ⟨gk, 0, none⟩)] w fun e w' => e = .returned (.tuple #[]) ∧ Tch (fun b => b = gk) w w' ∧ ∃ vk' vp', KnF w0 w' gk g bk N T l vk' vp' vi ∧ KnowFull w0 w' T vk' vp' := by
  rcases h.kp with ⟨rfl, rfl⟩ | hf
  · refine (growLoop_any w0 gk g bk T vi w h.bel h.ge h.blk h.is.slices ht hk hn).mono ?_
    rintro e w' ⟨rfl, t, vk, vp, R, hg⟩
    have hfull : KnowFull w0 w' T vk vp := by
      have h1 := hg.kk
      have h2 := hg.rr
      rw [List.take_of_length_le (by rw [kindsA_len]; exact Nat.le_refl _)] at h1
      rw [List.take_of_length_le (by rw [partsA_len]; exact Nat.le_refl _)] at h2
      exact ⟨h1, R, hg.pp, h2, fun r hr => ⟨hg.ap r hr, hg.nw r hr⟩⟩
    have hng : bk ≠ gk := by
      rintro rfl
      obtain ⟨es, clock, hm⟩ := h.m.obj
      have := h.blk
      unfold Blk at this
      rw [hm] at this
      cases this
    have hB : ∀ b, (fun b => b = gk) b → w0.heap.size ≤ b := fun b q => by have := h.ge; omega
    refine ⟨rfl, t, vk, vp, ⟨h.ge, h.gm, t.below h.bel h.bel.size hB, hg.blk, h.m.keep (t.keep bk h.m.lt hng), .inr hfull, ?_⟩, hfull⟩
    rcases h.is with q | ⟨d, q1, q2⟩
    · exact .inl q
    · exact .inr ⟨d, q1.tch t hB (fun b hb e => by subst e; exact q1.not_blk h.blk (by decide) hb), q2⟩
  · refine (growFull_any w0 gk g bk N T l vk vp vi w h hf ht hn).mono ?_
    rintro e w' ⟨rfl, rfl⟩
    exact ⟨rfl, Tch.refl _, vk, vp, h, hf⟩
end Go.Proofs.YtplddbaggbdbiaaDoor
/- Who knows terms: built. No condition. -/
namespace Go.Proofs.YtplddbaggbdbiaaDoor
open Go.RowKit
set_option linter.unusedVariables false
set_option maxHeartbeats 400000 in
theorem indexBuilt (C : Value) (A : Option Addr) (n c : Nat) (l : List Int) (q : Int → Bool) (w : World) (h : Is w A n c l) (hq : ∀ x ∈ l, ∀ w', Gr w w' → Calls Tryd.prog 122 #[.int .i64 x, C] w' fun e w'' => e = .returned (.bool (q x)) ∧ Gr w' w'') :
    Calls Tryd.prog 120 #[.slice A n c, .func (.func 122) #[] #[C]] w fun e w' => ∃ r, e = .returned (.int .i64 r) ∧ decide (0 ≤ r) = l.any q ∧ Gr w w' := by
  have hmax := h.max
  have hcap := h.cap
  have hll := h.len
  have HL := Lib.hid h.len
  have HH := Lib.hid h; have HQ := Lib.hid hq; clear h hq hll
  go_enter Tryd.func120, Tryd.ntmps120
  go_wp2
  go_loopw [8] (fun i wr => ∃ k : Nat, k ≤ n ∧ i = .int .i64 k ∧ Gr w wr ∧ (l.take k).any q = false) (fun i _ => n - (Go.RowKit.intOf i).toNat)
  case atStart => exact ⟨0, Nat.zero_le _, rfl, Gr.refl _, rfl⟩
  case round =>
    obtain ⟨k, hk, rfl, hbel, hall⟩ := hrel
    have HA := Lib.hid hall; have HB := Lib.hid hbel; clear hall
    by_cases hlt : k < n
    · obtain ⟨b, o, rfl, hcc⟩ := Is.addr (l := l) (HH.out.mono hbel) (by omega)
      have c1 := hcc k hlt
      have hkl : k < l.length := by rw [HL.out]; exact hlt
      have HC := Lib.hid (HQ.out (iAt l k) (iAt_mem hkl) wr hbel)
      have HS := Lib.hid (any_take_snoc q l k hkl)
      have HT : Hid (q (iAt l k) = true → l.any q = true) := fun hh => any_of_at q l k hkl hh
      clear hcc hkl hbel
      generalize iAt l k = x at *
      cases he : q x
      · have HT2 : Hid ((l.take (k + 1)).any q = false) := by show _ = _; rw [HS.out, HA.out, he]; rfl
        rw [he] at HC
        clear he
        go_wp2_with (go_at_call 122; refine HC.out.mono ?_; rintro e w1 ⟨rfl, b1⟩)
        go_roundw
        case rel => exact ⟨k + 1, by omega, by go_num, HB.out.trans b1, HT2.out⟩
        case measure => simp [Go.RowKit.intOf]; omega
      · have HF : Hid (l.any q = true) := HT.out he
        rw [he] at HC
        clear he
        go_wp2_with (go_at_call 122; refine HC.out.mono ?_; rintro e w1 ⟨rfl, b1⟩)
        go_ret
        exact ⟨k, rfl, by rw [HF.out, decide_eq_true_iff]; omega, HB.out.trans b1⟩
    · obtain rfl : n = k := by omega
      have HF : Hid (l.any q = false) := by have := HA.out; rwa [List.take_of_length_le (by rw [HL.out]; omega)] at this
      clear hbel
      go_wp2
      go_ret
      exact ⟨-1, rfl, by rw [HF.out]; rfl, HB.out⟩
theorem containsBuilt (C : Value) (A : Option Addr) (n c : Nat) (l : List Int) (q : Int → Bool) (w : World) (h : Is w A n c l) (hq : ∀ x ∈ l, ∀ w', Gr w w' → Calls Tryd.prog 122 #[.int .i64 x, C] w' fun e w'' => e = .returned (.bool (q x)) ∧ Gr w' w'') :
    Calls Tryd.prog 87 #[.slice A n c, .func (.func 122) #[] #[C]] w fun e w' => e = .returned (.bool (l.any q)) ∧ Gr w w' := by
  have HI := Lib.hid (indexBuilt C A n c l q w h hq)
  clear h hq
  go_enter Tryd.func87, Tryd.ntmps87
  go_wp2_with fail
  refine HI.out.mono ?_
  rintro e w1 ⟨r, rfl, hr, g1⟩
  have HR := Lib.hid hr; have G1 := Lib.hid g1; clear hr g1
  go_wp2_with fail
  go_ret
  exact ⟨ret_bool HR.out, G1.out⟩
theorem tBools : ElemT Tryd.prog 89 4 (.bool false) 1 1 := ⟨Tryd.underlying89, by kernel_rfl, rfl, by decide, by decide⟩
theorem boolc_at {d : List Bool} {i : Nat} (h : i < d.length) : (d.map boolc)[i]? = some (.bool (dAt d i)) := by
  rw [List.getElem?_map, List.getElem?_eq_getElem h]
  unfold dAt
  rw [List.getD_eq_getElem?_getD, List.getElem?_eq_getElem h]; rfl
theorem missing_any (gp go n c : Nat) (out : List Bool) (k : Nat) (w : World) (hp : w.cell? ⟨gp, 0, none⟩ = some (.slice (some ⟨go, 0, none⟩) n c)) (ho : w.cell? ⟨go, k, none⟩ = some (.bool (dAt out k))) (hk : k < n) (hn : n ≤ 1000000) :
    Calls Tryd.prog 122 #[.int .i64 (k : Int), .pointer (some ⟨gp, 0, none⟩)] w fun e w' => e = .returned (.bool (!dAt out k)) ∧ Gr w w' := by
  go_enter Tryd.func122, Tryd.ntmps122
  go_wp2_with fail
  go_ret
  exact ⟨rfl, Gr.refl _⟩
end Go.Proofs.YtplddbaggbdbiaaDoor
/- Who knows terms: built walked. No condition. -/
namespace Go.Proofs.YtplddbaggbdbiaaDoor
open Go.RowKit
set_option linter.unusedVariables false
abbrev Bls (w : World) (A : Option Addr) (n c : Nat) (d : List Bool) : Prop := Sl w A n c 1 (d.map boolc)
theorem kindsA_at {T : List Nd} {k : Nat} (hk : k ≤ T.length) : ((kindsA T).map i64c)[k]? = some (.int .i64 (kindOf T (k : Int) : Int)) := by
  simp [kindsA, i64c, show k < T.length + 1 by omega]
/-- What a state's kinds and parts are at an id. -/
structure AtId (w0 w : World) (gk : Nat) (T : List Nd) (vk vp : Value) (k : Nat) (bk' ok' bp op' : Nat) (ck cp : Nat) (r : IRow) : Prop where
  vk : vk = .slice (some ⟨bk', ok', none⟩) (T.length + 1) ck
  vp : vp = .slice (some ⟨bp, op', none⟩) (T.length + 1) cp
  ck : T.length + 1 ≤ ck ∧ ck ≤ 9223372036854775807
  cp : T.length + 1 ≤ cp ∧ cp ≤ 9223372036854775807
  kc : w.cell? ⟨bk', ok' + k, none⟩ = some (.int .i64 (kindOf T (k : Int) : Int))
  pc : w.cell? ⟨bp, op' + k, none⟩ = some (.slice r.a r.n r.c)
  rr : Is w r.a r.n r.c r.l
  rl : r.l = (partsOf T (k : Int)).map Int.ofNat
theorem KnowFull.at {w0 w : World} {gk : Nat} {T : List Nd} {vk vp : Value} (h : KnowFull w0 w T vk vp) {k : Nat} (hk : k ≤ T.length) : ∃ b o b' o' c c' r, AtId w0 w gk T vk vp k b o b' o' c c' r := by
  obtain ⟨h1, R, h2, h3, _⟩ := h
  obtain ⟨A, c, rfl, s⟩ := h1.slice
  obtain ⟨A', c', e', s'⟩ := h2.1.slice
  have hl : R.length = T.length + 1 := by have := congrArg List.length h3; simpa [partsA_len] using this
  rw [hl] at e' s'
  obtain ⟨b, o, rfl, hc⟩ := s.addr (by omega)
  obtain ⟨b', o', rfl, hc'⟩ := s'.addr (by omega)
  have hr : R[k]? = some (R[k]'(by omega)) := List.getElem?_eq_getElem (by omega)
  refine ⟨b, o, b', o', c, c', R[k]'(by omega), rfl, e', ⟨s.cap, s.max⟩, ⟨s'.cap, s'.max⟩, hc k _ (kindsA_at hk), hc' k _ (by rw [List.getElem?_map, hr]; rfl), (h2.2 _ (List.getElem_mem _)).1, ?_⟩
  have h4 : (R.map IRow.l)[k]? = (partsA T)[k]? := by rw [h3]
  rw [List.getElem?_map, hr] at h4
  simp [partsA, show k < T.length + 1 by omega] at h4
  exact h4
theorem AtId.gr {w0 w w' : World} {gk : Nat} {T : List Nd} {vk vp : Value} {k b o b' o' c c' : Nat} {r : IRow} (h : AtId w0 w gk T vk vp k b o b' o' c c' r) (hg : Gr w w') : AtId w0 w' gk T vk vp k b o b' o' c c' r :=
  ⟨h.vk, h.vp, h.ck, h.cp, (Below.cell hg (World.block_lt_of_cell? w _ h.kc)).trans h.kc, (Below.cell hg (World.block_lt_of_cell? w _ h.pc)).trans h.pc, h.rr.mono hg, h.rl⟩
theorem built_next {T : List Nd} {had : List Bool} {i : Nat} {x : Nd} (hx : T[i]? = some x) : builtTo T had (i + 1) = (builtTo T had i).set (i + 1) (dAt had (i + 1) || (decide (x.k ≠ 1) && !(x.parts.map Int.ofNat).any fun z => !dAt (builtTo T had i) z.toNat)) := by
  conv => lhs; unfold builtTo
  rw [hx]
  unfold builtOne
  have e : ∀ l : List Nat, l.all (dAt (builtTo T had i)) = !(l.map Int.ofNat).any fun z => !dAt (builtTo T had i) z.toNat := fun l => by
    induction l with
    | nil => rfl
    | cons a l ih => rw [List.all_cons, List.map_cons, List.any_cons, ih, Bool.not_or]; simp
  dsimp only
  rw [e]
set_option maxRecDepth 100000 in
set_option maxHeartbeats 400000 in
theorem built_any (w0 : World) (gk g bk N : Nat) (T : List Nd) (l : List Int) (vk vp vi : Value) (A : Option Addr) (c : Nat) (had : List Bool) (w : World) (h : KnF w0 w gk g bk N T l vk vp vi) (hf : KnowFull w0 w T vk vp) (hh : Bls w A (T.length + 1) c had) (hn : T.length ≤ 1000) (hT : Parted T) :
    Calls Tryd.prog 90 #[.pointer (some ⟨gk, 0, none⟩), .slice A (T.length + 1) c] w fun e w' => ∃ go, w.heap.size ≤ go ∧ e = .returned (.slice (some ⟨go, 0, none⟩) (T.length + 1) (T.length + 1)) ∧ Blk w' go 4 ((builtL T had).map boolc) ∧ Gr w w' := by
  have hmax := hh.max; have hcap := hh.cap
  have H := Lib.hid h; have HF := Lib.hid hf; have HH := Lib.hid hh; have HP := Lib.hid hT
  have HBK : Hid (∀ wq, Gr w wq → wq.cell? ⟨gk, 2, none⟩ = some vk ∧ wq.cell? ⟨gk, 3, none⟩ = some vp) := fun wq hq => ⟨((hq.blk H.out.blk).cell 2).trans rfl, ((hq.blk H.out.blk).cell 3).trans rfl⟩
  have HAT : Hid (∀ k, k ≤ T.length → ∃ b o b' o' c c' r, AtId w0 w gk T vk vp k b o b' o' c c' r) := fun k hk => hf.at hk
  obtain ⟨n, hN⟩ : ∃ n, n = T.length + 1 := ⟨_, rfl⟩
  have HHL : Hid (had.length = n) := by have := hh.1; simp at this; rw [hN]; exact this
  have hn' : n ≤ 1001 := by omega
  have hn1 : 1 ≤ n := by omega
  rw [← hN] at hcap ⊢
  have HN := Lib.hid hN
  have hmk := fun w => run_mk tBools rfl n (by omega) w
  clear h hf hh hN hT hn
  go_enter Tryd.func90, Tryd.ntmps90
  go_wp2_with fail
  clear hmk
  go_loopw [7] (fun i wr => ∃ k : Nat, 1 ≤ k ∧ k ≤ n ∧ i = .int .i64 k ∧ Blk wr w.heap.size 4 ((builtTo T had (k - 1)).map boolc) ∧ Blk wr (w.heap.size + 1) 89 [.slice (some ⟨w.heap.size, 0, none⟩) n n] ∧ Gr w wr) (fun i _ => n - (Go.RowKit.intOf i).toNat)
  case atStart =>
    have h1 := (Blk.new w 4 (reps n (.bool false)).toArray).alloc (.cells #[.slice (some ⟨w.heap.size, 0, none⟩) n n] 89)
    have h2 := Blk.new (w.alloc (.cells (reps n (.bool false)).toArray 4)) 89 #[.slice (some ⟨w.heap.size, 0, none⟩) n n]
    rw [show (w.alloc (.cells (reps n (.bool false)).toArray 4)).heap.size = w.heap.size + 1 by simp] at h2
    refine ⟨1, Nat.le_refl _, hn1, rfl, ?_, h2, (Gr.alloc _ _).trans (Gr.alloc _ _)⟩
    have e : (builtTo T had (1 - 1)).map boolc = (reps n (.bool false)) := by
      show (List.replicate (T.length + 1) false).map boolc = _
      rw [← HN.out, List.map_replicate]; rfl
    rw [e]
    exact h1
  case round =>
    obtain ⟨k, hk1, hkn, rfl, hbo, hbp, hgr⟩ := hrel
    have BO := Lib.hid hbo; have BP := Lib.hid hbp; have G := Lib.hid hgr; clear hbo hbp hgr
    have p0 : wr.cell? ⟨w.heap.size + 1, 0, none⟩ = some (.slice (some ⟨w.heap.size, 0, none⟩) n n) := (BP.out.cell 0).trans rfl
    by_cases hlt : k < n
    · have t0 : decide ((k : Int) < (n : Int)) = true := decide_eq_true (by omega)
      obtain ⟨b1, o1, b2, o2, c1, c2, r, hat⟩ := HAT.out k (by have := HN.out; omega)
      have AT := Lib.hid hat
      have hvk := hat.vk; have hvp := hat.vp
      rw [← HN.out] at hvk hvp
      have hc1 := hat.ck; have hc2 := hat.cp
      rw [← HN.out] at hc1 hc2
      subst hvk hvp
      have hrc := hat.rr.cap; have hrm := hat.rr.max
      obtain ⟨bh, oh, rfl, hhc⟩ := Sl.addr HH.out (by have := HN.out; omega)
      have ch := hhc k _ (boolc_at (by rw [HHL.out]; exact hlt))
      have FA : Hid (∀ wq, Gr wr wq → wq.cell? ⟨bh, oh + k, none⟩ = some (.bool (dAt had k)) ∧ wq.cell? ⟨gk, 2, none⟩ = some (.slice (some ⟨b1, o1, none⟩) n c1) ∧ wq.cell? ⟨gk, 3, none⟩ = some (.slice (some ⟨b2, o2, none⟩) n c2) ∧ wq.cell? ⟨b1, o1 + k, none⟩ = some (.int .i64 (kindOf T (k : Int) : Int)) ∧ wq.cell? ⟨b2, o2 + k, none⟩ = some (.slice r.a r.n r.c) ∧ wq.cell? ⟨w.heap.size + 1, 0, none⟩ = some (.slice (some ⟨w.heap.size, 0, none⟩) n n)) := fun wq hq => by
        obtain ⟨z2, z3⟩ := HBK.out wq (G.out.trans hq)
        have hq' := AT.out.gr (G.out.trans hq)
        exact ⟨(Below.cell (G.out.trans hq) (World.block_lt_of_cell? w _ ch)).trans ch, z2, z3, hq'.kc, hq'.pc, ((hq.blk BP.out).cell 0).trans rfl⟩
      obtain ⟨i, hki⟩ : ∃ i, k = i + 1 := ⟨k - 1, by omega⟩
      obtain ⟨x, hx⟩ : ∃ x, T[i]? = some x := ⟨T[i]'(by have := HN.out; omega), List.getElem?_eq_getElem _⟩
      obtain ⟨ek, ep⟩ := kindOf_succ hx
      rw [← hki] at ek ep
      have HNX := Lib.hid (built_next (had := had) hx)
      rw [ek] at FA
      have hP := HP.out i x hx
      have hxk := hP.1
      have HPS := Lib.hid hP.2
      have HR := Lib.hid (AT.out.rl.trans (by rw [ep]))
      have HKI := Lib.hid hki
      have hpo : ∀ z ∈ r.l, ∃ p : Nat, z = (p : Int) ∧ p < n := fun z hz => by
        rw [HR.out] at hz
        obtain ⟨p, hp, rfl⟩ := List.mem_map.1 hz
        have := HPS.out p hp
        have := HN.out
        have := HKI.out
        exact ⟨p, rfl, by omega⟩
      have HPO := Lib.hid hpo
      clear hki hx ek ep hP hat hhc ch hpo
      have HBL : Hid ((builtTo T had (k - 1)).length = n) := by show _ = _; rw [builtTo_len, HN.out]
      have HCF : Hid (∀ wq, Gr wr wq → Calls Tryd.prog 87 #[.slice r.a r.n r.c, .func (.func 122) #[] #[.pointer (some ⟨w.heap.size + 1, 0, none⟩)]] wq fun e w' => e = .returned (.bool (r.l.any fun z => !dAt (builtTo T had (k - 1)) z.toNat)) ∧ Gr wq w') := fun wq hq =>
        containsBuilt (.pointer (some ⟨w.heap.size + 1, 0, none⟩)) r.a r.n r.c r.l (fun z => !dAt (builtTo T had (k - 1)) z.toNat) wq (AT.out.rr.mono (G.out.trans hq)) (fun z hz w' hw => by
          obtain ⟨p, rfl, hp⟩ := HPO.out z hz
          refine (missing_any (w.heap.size + 1) w.heap.size n n (builtTo T had (k - 1)) p w' (((hw.blk (hq.blk BP.out)).cell 0).trans rfl) (((hw.blk (hq.blk BO.out)).cell p).trans (boolc_at (by rw [HBL.out]; exact hp))) hp (by omega)).mono ?_
          rintro e w'' ⟨rfl, g⟩
          exact ⟨rfl, g⟩)
      have HNX2 : Hid (∀ v, v = (dAt had k || (decide (x.k ≠ 1) && !(r.l.any fun z => !dAt (builtTo T had (k - 1)) z.toNat))) → (builtTo T had k) = (builtTo T had (k - 1)).set k v) := fun v hv => by
        have h := HNX.out
        rw [hv, HR.out]
        rw [← HKI.out] at h
        rw [h, show k - 1 = i by have := HKI.out; omega]
      generalize builtTo T had (k - 1) = out at *
      generalize hq' : (r.l.any fun z => !dAt out z.toNat) = q at *
      have HQ := Lib.hid hq'; clear hq'
      have hlo := HBL.out
      generalize dAt had k = h0 at *
      cases h0 with
      | true =>
        go_wp2_with fail
        refine wp_region_grow (by kernel_rfl) [0, 0, 0, 0, 12, 28, 60, 124, 252, 508, 1020, 124, 4092, 8188, 16380, 32764, 65532, 131068, 262140, 524284, 65532, 2097148, 4194300, 65532, 16777212, 33554428, 67108860, 134217724, 268435455, 536870911] [.p 1, .p 2, .p 3, .p 4, .q 0, .q 5, .p 6, .p 7, .p 8, .p 9, .p 11, .q 10, .p 12, .q 13, .p 14, .p 15, .p 16, .p 17, .p 18, .p 20, .p 23, .q 19, .p 21, .q 22, .c 24, .p 25, .p 26, .p 27, .p 28, .s 29] (by kernel_rfl) (trivial) ?_
        refine wpG_pe rfl rfl ?_
        apply Exists.intro
        refine ⟨fun wq => ?_, ?_⟩
        · unfold plainAt
          go_simp
          first | exact rfl | exact ⟨rfl, rfl⟩
        go_simp
        refine wpG_pe rfl rfl ?_
        apply Exists.intro
        refine ⟨fun wq => ?_, ?_⟩
        · unfold plainAt
          go_simp
          first | exact rfl | exact ⟨rfl, rfl⟩
        go_simp
        refine wpG_pe rfl rfl ?_
        apply Exists.intro
        refine ⟨fun wq => ?_, ?_⟩
        · unfold plainAt
          go_simp
          first | exact rfl | exact ⟨rfl, rfl⟩
        go_simp
        refine wpG_pe rfl rfl ?_
        apply Exists.intro
        refine ⟨fun wq => ?_, ?_⟩
        · unfold plainAt
          go_simp
          first | exact rfl | exact ⟨rfl, rfl⟩
        go_simp
        refine wpG_qe rfl rfl ?_
        apply Exists.intro
        refine ⟨fun wq hq => ?_, ?_⟩
        · obtain ⟨y0, y1, y2, y3, y4, y5⟩ := FA.out wq ((Gr.drew _).trans hq)
          unfold plainAt
          go_simp
          first | exact rfl | exact ⟨rfl, rfl⟩
        go_simp
        refine wpG_qe rfl rfl ?_
        apply Exists.intro
        refine ⟨fun wq hq => ?_, ?_⟩
        · obtain ⟨y0, y1, y2, y3, y4, y5⟩ := FA.out wq ((Gr.drew _).trans hq)
          unfold plainAt
          go_simp
          first | exact rfl | exact ⟨rfl, rfl⟩
        go_simp
        refine wpG_pe rfl rfl ?_
        apply Exists.intro
        refine ⟨fun wq => ?_, ?_⟩
        · unfold plainAt
          go_simp
          first | exact rfl | exact ⟨rfl, rfl⟩
        go_simp
        first | refine wpG_skip_p rfl rfl ?_ | refine wpG_skip_q rfl rfl ?_ | refine wpG_skip_c rfl rfl ?_
        go_simp
        first | refine wpG_skip_p rfl rfl ?_ | refine wpG_skip_q rfl rfl ?_ | refine wpG_skip_c rfl rfl ?_
        go_simp
        first | refine wpG_skip_p rfl rfl ?_ | refine wpG_skip_q rfl rfl ?_ | refine wpG_skip_c rfl rfl ?_
        go_simp
        first | refine wpG_skip_p rfl rfl ?_ | refine wpG_skip_q rfl rfl ?_ | refine wpG_skip_c rfl rfl ?_
        go_simp
        first | refine wpG_skip_p rfl rfl ?_ | refine wpG_skip_q rfl rfl ?_ | refine wpG_skip_c rfl rfl ?_
        go_simp
        first | refine wpG_skip_p rfl rfl ?_ | refine wpG_skip_q rfl rfl ?_ | refine wpG_skip_c rfl rfl ?_
        go_simp
        first | refine wpG_skip_p rfl rfl ?_ | refine wpG_skip_q rfl rfl ?_ | refine wpG_skip_c rfl rfl ?_
        go_simp
        first | refine wpG_skip_p rfl rfl ?_ | refine wpG_skip_q rfl rfl ?_ | refine wpG_skip_c rfl rfl ?_
        go_simp
        first | refine wpG_skip_p rfl rfl ?_ | refine wpG_skip_q rfl rfl ?_ | refine wpG_skip_c rfl rfl ?_
        go_simp
        first | refine wpG_skip_p rfl rfl ?_ | refine wpG_skip_q rfl rfl ?_ | refine wpG_skip_c rfl rfl ?_
        go_simp
        first | refine wpG_skip_p rfl rfl ?_ | refine wpG_skip_q rfl rfl ?_ | refine wpG_skip_c rfl rfl ?_
        go_simp
        first | refine wpG_skip_p rfl rfl ?_ | refine wpG_skip_q rfl rfl ?_ | refine wpG_skip_c rfl rfl ?_
        go_simp
        first | refine wpG_skip_p rfl rfl ?_ | refine wpG_skip_q rfl rfl ?_ | refine wpG_skip_c rfl rfl ?_
        go_simp
        first | refine wpG_skip_p rfl rfl ?_ | refine wpG_skip_q rfl rfl ?_ | refine wpG_skip_c rfl rfl ?_
        go_simp
        first | refine wpG_skip_p rfl rfl ?_ | refine wpG_skip_q rfl rfl ?_ | refine wpG_skip_c rfl rfl ?_
        go_simp
        first | refine wpG_skip_p rfl rfl ?_ | refine wpG_skip_q rfl rfl ?_ | refine wpG_skip_c rfl rfl ?_
        go_simp
        first | refine wpG_skip_p rfl rfl ?_ | refine wpG_skip_q rfl rfl ?_ | refine wpG_skip_c rfl rfl ?_
        go_simp
        first | refine wpG_skip_p rfl rfl ?_ | refine wpG_skip_q rfl rfl ?_ | refine wpG_skip_c rfl rfl ?_
        go_simp
        first | refine wpG_skip_p rfl rfl ?_ | refine wpG_skip_q rfl rfl ?_ | refine wpG_skip_c rfl rfl ?_
        go_simp
        first | refine wpG_skip_p rfl rfl ?_ | refine wpG_skip_q rfl rfl ?_ | refine wpG_skip_c rfl rfl ?_
        go_simp
        refine wpG_pe rfl rfl ?_
        apply Exists.intro
        refine ⟨fun wq => ?_, ?_⟩
        · unfold plainAt
          go_simp
          first | exact rfl | exact ⟨rfl, rfl⟩
        go_simp
        refine wpG_pe rfl rfl ?_
        apply Exists.intro
        refine ⟨fun wq => ?_, ?_⟩
        · unfold plainAt
          go_simp
          first | exact rfl | exact ⟨rfl, rfl⟩
        go_simp
        refine wpG_s rfl rfl ?_
        intro w5 g5 K hK
        have B5 := Lib.hid (((Gr.drew _).trans g5).blk BO.out)
        have G5 := Lib.hid ((G.out.trans (Gr.drew _)).trans g5)
        have BP5 := Lib.hid (((Gr.drew _).trans g5).blk BP.out)
        have x0 : w5.cell? ⟨w.heap.size, k, none⟩ = some (.bool (dAt out k)) := (B5.out.cell k).trans (boolc_at (by rw [hlo]; exact hlt))
        have y0 := B5.out.free k
        have hl5 := B5.out.lt
        clear g5
        go_simp
        refine hK _ _ ?_
        clear hK x0 y0
        go_simp
        refine wpG_nil ?_
        intro w6 g6
        have B6 := Lib.hid (g6.blk (B5.out.set k (.bool true)))
        have G6 := Lib.hid ((G5.out.setCell (p := ⟨w.heap.size, k, none⟩) (Nat.le_refl _) (.bool true)).trans (Below.mono g6 (by have := G5.out.size; simp [World.setCell]; omega)))
        have BP6 := Lib.hid (g6.blk (BP5.out.far (p := ⟨w.heap.size, k, none⟩) (by simp) (.bool true)))
        clear g6
        go_wp2_with fail
        refine ⟨⟨k + 1, by omega, by omega, by simp, ?_, BP6.out, G6.out⟩, by simp [Go.RowKit.intOf]; omega⟩
        rw [show k + 1 - 1 = k by omega]
        have h6 := B6.out
        rw [HNX2.out true (by simp), List.map_set]
        exact h6
      | false =>
        by_cases hk1' : x.k = 1
        · rw [hk1'] at FA
          have HE : Hid (decide (x.k ≠ 1) = false) := by show _ = _; simp [hk1']
          clear hxk hk1'
          go_wp2_with fail
          refine wp_region_grow (by kernel_rfl) [0, 0, 0, 0, 12, 28, 60, 124, 252, 508, 1020, 124, 4092, 8188, 16380, 32764, 65532, 131068, 262140, 524284, 65532, 2097148, 4194300, 65532, 16777212, 33554428, 67108860, 134217724, 268435455, 536870911] [.p 1, .p 2, .p 3, .p 4, .q 0, .q 5, .p 6, .p 7, .p 8, .p 9, .p 11, .q 10, .p 12, .q 13, .p 14, .p 15, .p 16, .p 17, .p 18, .p 20, .p 23, .q 19, .p 21, .q 22, .c 24, .p 25, .p 26, .p 27, .p 28, .s 29] (by kernel_rfl) (trivial) ?_
          refine wpG_pe rfl rfl ?_
          apply Exists.intro
          refine ⟨fun wq => ?_, ?_⟩
          · unfold plainAt
            go_simp
            first | exact rfl | exact ⟨rfl, rfl⟩
          go_simp
          refine wpG_pe rfl rfl ?_
          apply Exists.intro
          refine ⟨fun wq => ?_, ?_⟩
          · unfold plainAt
            go_simp
            first | exact rfl | exact ⟨rfl, rfl⟩
          go_simp
          refine wpG_pe rfl rfl ?_
          apply Exists.intro
          refine ⟨fun wq => ?_, ?_⟩
          · unfold plainAt
            go_simp
            first | exact rfl | exact ⟨rfl, rfl⟩
          go_simp
          refine wpG_pe rfl rfl ?_
          apply Exists.intro
          refine ⟨fun wq => ?_, ?_⟩
          · unfold plainAt
            go_simp
            first | exact rfl | exact ⟨rfl, rfl⟩
          go_simp
          refine wpG_qe rfl rfl ?_
          apply Exists.intro
          refine ⟨fun wq hq => ?_, ?_⟩
          · obtain ⟨y0, y1, y2, y3, y4, y5⟩ := FA.out wq ((Gr.drew _).trans hq)
            unfold plainAt
            go_simp
            first | exact rfl | exact ⟨rfl, rfl⟩
          go_simp
          refine wpG_qe rfl rfl ?_
          apply Exists.intro
          refine ⟨fun wq hq => ?_, ?_⟩
          · obtain ⟨y0, y1, y2, y3, y4, y5⟩ := FA.out wq ((Gr.drew _).trans hq)
            unfold plainAt
            go_simp
            first | exact rfl | exact ⟨rfl, rfl⟩
          go_simp
          refine wpG_pe rfl rfl ?_
          apply Exists.intro
          refine ⟨fun wq => ?_, ?_⟩
          · unfold plainAt
            go_simp
            first | exact rfl | exact ⟨rfl, rfl⟩
          go_simp
          refine wpG_pe rfl rfl ?_
          apply Exists.intro
          refine ⟨fun wq => ?_, ?_⟩
          · unfold plainAt
            go_simp
            first | exact rfl | exact ⟨rfl, rfl⟩
          go_simp
          refine wpG_pe rfl rfl ?_
          apply Exists.intro
          refine ⟨fun wq => ?_, ?_⟩
          · unfold plainAt
            go_simp
            first | exact rfl | exact ⟨rfl, rfl⟩
          go_simp
          refine wpG_pe rfl rfl ?_
          apply Exists.intro
          refine ⟨fun wq => ?_, ?_⟩
          · unfold plainAt
            go_simp
            first | exact rfl | exact ⟨rfl, rfl⟩
          go_simp
          refine wpG_pe rfl rfl ?_
          apply Exists.intro
          refine ⟨fun wq => ?_, ?_⟩
          · unfold plainAt
            go_simp
            first | exact rfl | exact ⟨rfl, rfl⟩
          go_simp
          refine wpG_qe rfl rfl ?_
          apply Exists.intro
          refine ⟨fun wq hq => ?_, ?_⟩
          · obtain ⟨y0, y1, y2, y3, y4, y5⟩ := FA.out wq ((Gr.drew _).trans hq)
            unfold plainAt
            go_simp
            first | exact rfl | exact ⟨rfl, rfl⟩
          go_simp
          refine wpG_pe rfl rfl ?_
          apply Exists.intro
          refine ⟨fun wq => ?_, ?_⟩
          · unfold plainAt
            go_simp
            first | exact rfl | exact ⟨rfl, rfl⟩
          go_simp
          refine wpG_qe rfl rfl ?_
          apply Exists.intro
          refine ⟨fun wq hq => ?_, ?_⟩
          · obtain ⟨y0, y1, y2, y3, y4, y5⟩ := FA.out wq ((Gr.drew _).trans hq)
            unfold plainAt
            go_simp
            first | exact rfl | exact ⟨rfl, rfl⟩
          go_simp
          refine wpG_pe rfl rfl ?_
          apply Exists.intro
          refine ⟨fun wq => ?_, ?_⟩
          · unfold plainAt
            go_simp
            first | exact rfl | exact ⟨rfl, rfl⟩
          go_simp
          refine wpG_pe rfl rfl ?_
          apply Exists.intro
          refine ⟨fun wq => ?_, ?_⟩
          · unfold plainAt
            go_simp
            first | exact rfl | exact ⟨rfl, rfl⟩
          go_simp
          first | refine wpG_skip_p rfl rfl ?_ | refine wpG_skip_q rfl rfl ?_ | refine wpG_skip_c rfl rfl ?_
          go_simp
          first | refine wpG_skip_p rfl rfl ?_ | refine wpG_skip_q rfl rfl ?_ | refine wpG_skip_c rfl rfl ?_
          go_simp
          first | refine wpG_skip_p rfl rfl ?_ | refine wpG_skip_q rfl rfl ?_ | refine wpG_skip_c rfl rfl ?_
          go_simp
          first | refine wpG_skip_p rfl rfl ?_ | refine wpG_skip_q rfl rfl ?_ | refine wpG_skip_c rfl rfl ?_
          go_simp
          first | refine wpG_skip_p rfl rfl ?_ | refine wpG_skip_q rfl rfl ?_ | refine wpG_skip_c rfl rfl ?_
          go_simp
          first | refine wpG_skip_p rfl rfl ?_ | refine wpG_skip_q rfl rfl ?_ | refine wpG_skip_c rfl rfl ?_
          go_simp
          first | refine wpG_skip_p rfl rfl ?_ | refine wpG_skip_q rfl rfl ?_ | refine wpG_skip_c rfl rfl ?_
          go_simp
          first | refine wpG_skip_p rfl rfl ?_ | refine wpG_skip_q rfl rfl ?_ | refine wpG_skip_c rfl rfl ?_
          go_simp
          first | refine wpG_skip_p rfl rfl ?_ | refine wpG_skip_q rfl rfl ?_ | refine wpG_skip_c rfl rfl ?_
          go_simp
          first | refine wpG_skip_p rfl rfl ?_ | refine wpG_skip_q rfl rfl ?_ | refine wpG_skip_c rfl rfl ?_
          go_simp
          refine wpG_pe rfl rfl ?_
          apply Exists.intro
          refine ⟨fun wq => ?_, ?_⟩
          · unfold plainAt
            go_simp
            first | exact rfl | exact ⟨rfl, rfl⟩
          go_simp
          refine wpG_pe rfl rfl ?_
          apply Exists.intro
          refine ⟨fun wq => ?_, ?_⟩
          · unfold plainAt
            go_simp
            first | exact rfl | exact ⟨rfl, rfl⟩
          go_simp
          refine wpG_pe rfl rfl ?_
          apply Exists.intro
          refine ⟨fun wq => ?_, ?_⟩
          · unfold plainAt
            go_simp
            first | exact rfl | exact ⟨rfl, rfl⟩
          go_simp
          refine wpG_s rfl rfl ?_
          intro w5 g5 K hK
          have B5 := Lib.hid (((Gr.drew _).trans g5).blk BO.out)
          have G5 := Lib.hid ((G.out.trans (Gr.drew _)).trans g5)
          have BP5 := Lib.hid (((Gr.drew _).trans g5).blk BP.out)
          have x0 : w5.cell? ⟨w.heap.size, k, none⟩ = some (.bool (dAt out k)) := (B5.out.cell k).trans (boolc_at (by rw [hlo]; exact hlt))
          have y0 := B5.out.free k
          have hl5 := B5.out.lt
          clear g5
          go_simp
          refine hK _ _ ?_
          clear hK x0 y0
          go_simp
          refine wpG_nil ?_
          intro w6 g6
          have B6 := Lib.hid (g6.blk (B5.out.set k (.bool false)))
          have G6 := Lib.hid ((G5.out.setCell (p := ⟨w.heap.size, k, none⟩) (Nat.le_refl _) (.bool false)).trans (Below.mono g6 (by have := G5.out.size; simp [World.setCell]; omega)))
          have BP6 := Lib.hid (g6.blk (BP5.out.far (p := ⟨w.heap.size, k, none⟩) (by simp) (.bool false)))
          clear g6
          go_wp2_with fail
          refine ⟨⟨k + 1, by omega, by omega, by simp, ?_, BP6.out, G6.out⟩, by simp [Go.RowKit.intOf]; omega⟩
          rw [show k + 1 - 1 = k by omega]
          have h6 := B6.out
          rw [HNX2.out false (by rw [HE.out]; rfl), List.map_set]
          exact h6
        · have HE : Hid (decide (x.k ≠ 1) = true) := by show _ = _; simp [hk1']
          have tk : ((x.k : Int) != 1) = true := by rw [bne_iff_ne]; omega
          have tk2 : ((x.k : Int) == 1) = false := by rw [beq_eq_false_iff_ne]; omega
          clear hxk hk1'
          go_wp2_with fail
          refine wp_region_grow (by kernel_rfl) [0, 0, 0, 0, 12, 28, 60, 124, 252, 508, 1020, 124, 4092, 8188, 16380, 32764, 65532, 131068, 262140, 524284, 65532, 2097148, 4194300, 65532, 16777212, 33554428, 67108860, 134217724, 268435455, 536870911] [.p 1, .p 2, .p 3, .p 4, .q 0, .q 5, .p 6, .p 7, .p 8, .p 9, .p 11, .q 10, .p 12, .q 13, .p 14, .p 15, .p 16, .p 17, .p 18, .p 20, .p 23, .q 19, .p 21, .q 22, .c 24, .p 25, .p 26, .p 27, .p 28, .s 29] (by kernel_rfl) (trivial) ?_
          refine wpG_pe rfl rfl ?_
          apply Exists.intro
          refine ⟨fun wq => ?_, ?_⟩
          · unfold plainAt
            go_simp
            first | exact rfl | exact ⟨rfl, rfl⟩
          go_simp
          refine wpG_pe rfl rfl ?_
          apply Exists.intro
          refine ⟨fun wq => ?_, ?_⟩
          · unfold plainAt
            go_simp
            first | exact rfl | exact ⟨rfl, rfl⟩
          go_simp
          refine wpG_pe rfl rfl ?_
          apply Exists.intro
          refine ⟨fun wq => ?_, ?_⟩
          · unfold plainAt
            go_simp
            first | exact rfl | exact ⟨rfl, rfl⟩
          go_simp
          refine wpG_pe rfl rfl ?_
          apply Exists.intro
          refine ⟨fun wq => ?_, ?_⟩
          · unfold plainAt
            go_simp
            first | exact rfl | exact ⟨rfl, rfl⟩
          go_simp
          refine wpG_qe rfl rfl ?_
          apply Exists.intro
          refine ⟨fun wq hq => ?_, ?_⟩
          · obtain ⟨y0, y1, y2, y3, y4, y5⟩ := FA.out wq ((Gr.drew _).trans hq)
            unfold plainAt
            go_simp
            first | exact rfl | exact ⟨rfl, rfl⟩
          go_simp
          refine wpG_qe rfl rfl ?_
          apply Exists.intro
          refine ⟨fun wq hq => ?_, ?_⟩
          · obtain ⟨y0, y1, y2, y3, y4, y5⟩ := FA.out wq ((Gr.drew _).trans hq)
            unfold plainAt
            go_simp
            first | exact rfl | exact ⟨rfl, rfl⟩
          go_simp
          refine wpG_pe rfl rfl ?_
          apply Exists.intro
          refine ⟨fun wq => ?_, ?_⟩
          · unfold plainAt
            go_simp
            first | exact rfl | exact ⟨rfl, rfl⟩
          go_simp
          refine wpG_pe rfl rfl ?_
          apply Exists.intro
          refine ⟨fun wq => ?_, ?_⟩
          · unfold plainAt
            go_simp
            first | exact rfl | exact ⟨rfl, rfl⟩
          go_simp
          refine wpG_pe rfl rfl ?_
          apply Exists.intro
          refine ⟨fun wq => ?_, ?_⟩
          · unfold plainAt
            go_simp
            first | exact rfl | exact ⟨rfl, rfl⟩
          go_simp
          refine wpG_pe rfl rfl ?_
          apply Exists.intro
          refine ⟨fun wq => ?_, ?_⟩
          · unfold plainAt
            go_simp
            first | exact rfl | exact ⟨rfl, rfl⟩
          go_simp
          refine wpG_pe rfl rfl ?_
          apply Exists.intro
          refine ⟨fun wq => ?_, ?_⟩
          · unfold plainAt
            go_simp
            first | exact rfl | exact ⟨rfl, rfl⟩
          go_simp
          refine wpG_qe rfl rfl ?_
          apply Exists.intro
          refine ⟨fun wq hq => ?_, ?_⟩
          · obtain ⟨y0, y1, y2, y3, y4, y5⟩ := FA.out wq ((Gr.drew _).trans hq)
            unfold plainAt
            go_simp
            first | exact rfl | exact ⟨rfl, rfl⟩
          go_simp
          refine wpG_pe rfl rfl ?_
          apply Exists.intro
          refine ⟨fun wq => ?_, ?_⟩
          · unfold plainAt
            go_simp
            first | exact rfl | exact ⟨rfl, rfl⟩
          go_simp
          refine wpG_qe rfl rfl ?_
          apply Exists.intro
          refine ⟨fun wq hq => ?_, ?_⟩
          · obtain ⟨y0, y1, y2, y3, y4, y5⟩ := FA.out wq ((Gr.drew _).trans hq)
            unfold plainAt
            go_simp
            first | exact rfl | exact ⟨rfl, rfl⟩
          go_simp
          refine wpG_pe rfl rfl ?_
          apply Exists.intro
          refine ⟨fun wq => ?_, ?_⟩
          · unfold plainAt
            go_simp
            first | exact rfl | exact ⟨rfl, rfl⟩
          go_simp
          refine wpG_pe rfl rfl ?_
          apply Exists.intro
          refine ⟨fun wq => ?_, ?_⟩
          · unfold plainAt
            go_simp
            first | exact rfl | exact ⟨rfl, rfl⟩
          go_simp
          refine wpG_pe rfl rfl ?_
          apply Exists.intro
          refine ⟨fun wq => ?_, ?_⟩
          · unfold plainAt
            go_simp
            first | exact rfl | exact ⟨rfl, rfl⟩
          go_simp
          refine wpG_pe rfl rfl ?_
          apply Exists.intro
          refine ⟨fun wq => ?_, ?_⟩
          · unfold plainAt
            go_simp
            first | exact rfl | exact ⟨rfl, rfl⟩
          go_simp
          refine wpG_pe rfl rfl ?_
          apply Exists.intro
          refine ⟨fun wq => ?_, ?_⟩
          · unfold plainAt
            go_simp
            first | exact rfl | exact ⟨rfl, rfl⟩
          go_simp
          refine wpG_pe rfl rfl ?_
          apply Exists.intro
          refine ⟨fun wq => ?_, ?_⟩
          · unfold plainAt
            go_simp
            first | exact rfl | exact ⟨rfl, rfl⟩
          go_simp
          refine wpG_pe rfl rfl ?_
          apply Exists.intro
          refine ⟨fun wq => ?_, ?_⟩
          · unfold plainAt
            go_simp
            first | exact rfl | exact ⟨rfl, rfl⟩
          go_simp
          refine wpG_qe rfl rfl ?_
          apply Exists.intro
          refine ⟨fun wq hq => ?_, ?_⟩
          · obtain ⟨y0, y1, y2, y3, y4, y5⟩ := FA.out wq ((Gr.drew _).trans hq)
            unfold plainAt
            go_simp
            first | exact rfl | exact ⟨rfl, rfl⟩
          go_simp
          refine wpG_pe rfl rfl ?_
          apply Exists.intro
          refine ⟨fun wq => ?_, ?_⟩
          · unfold plainAt
            go_simp
            first | exact rfl | exact ⟨rfl, rfl⟩
          go_simp
          refine wpG_qe rfl rfl ?_
          apply Exists.intro
          refine ⟨fun wq hq => ?_, ?_⟩
          · obtain ⟨y0, y1, y2, y3, y4, y5⟩ := FA.out wq ((Gr.drew _).trans hq)
            unfold plainAt
            go_simp
            first | exact rfl | exact ⟨rfl, rfl⟩
          go_simp
          refine wpG_c rfl rfl ?_
          intro w4 g4 K hK
          go_simp
          go_at_call 87
          refine (HCF.out w4 ((Gr.drew _).trans g4)).mono ?_
          rintro e wn ⟨rfl, g5⟩
          refine hK _ _ g5 ?_; have G45 := Lib.hid (g4.trans g5); clear hK g4 g5
          go_simp
          refine wpG_pe rfl rfl ?_
          apply Exists.intro
          refine ⟨fun wq => ?_, ?_⟩
          · unfold plainAt
            go_simp
            first | exact rfl | exact ⟨rfl, rfl⟩
          go_simp
          refine wpG_pe rfl rfl ?_
          apply Exists.intro
          refine ⟨fun wq => ?_, ?_⟩
          · unfold plainAt
            go_simp
            first | exact rfl | exact ⟨rfl, rfl⟩
          go_simp
          refine wpG_pe rfl rfl ?_
          apply Exists.intro
          refine ⟨fun wq => ?_, ?_⟩
          · unfold plainAt
            go_simp
            first | exact rfl | exact ⟨rfl, rfl⟩
          go_simp
          refine wpG_pe rfl rfl ?_
          apply Exists.intro
          refine ⟨fun wq => ?_, ?_⟩
          · unfold plainAt
            go_simp
            first | exact rfl | exact ⟨rfl, rfl⟩
          go_simp
          refine wpG_s rfl rfl ?_
          intro w5 g5 K hK
          have B5 := Lib.hid ((((Gr.drew _).trans G45.out).trans g5).blk BO.out)
          have G5 := Lib.hid ((G.out.trans ((Gr.drew _).trans G45.out)).trans g5)
          have BP5 := Lib.hid ((((Gr.drew _).trans G45.out).trans g5).blk BP.out)
          have x0 : w5.cell? ⟨w.heap.size, k, none⟩ = some (.bool (dAt out k)) := (B5.out.cell k).trans (boolc_at (by rw [hlo]; exact hlt))
          have y0 := B5.out.free k
          have hl5 := B5.out.lt
          clear g5
          go_simp
          refine hK _ _ ?_
          clear hK x0 y0
          go_simp
          refine wpG_nil ?_
          intro w6 g6
          have B6 := Lib.hid (g6.blk (B5.out.set k (.bool (!q))))
          have G6 := Lib.hid ((G5.out.setCell (p := ⟨w.heap.size, k, none⟩) (Nat.le_refl _) (.bool (!q))).trans (Below.mono g6 (by have := G5.out.size; simp [World.setCell]; omega)))
          have BP6 := Lib.hid (g6.blk (BP5.out.far (p := ⟨w.heap.size, k, none⟩) (by simp) (.bool (!q))))
          clear g6
          go_wp2_with fail
          refine ⟨⟨k + 1, by omega, by omega, by simp, ?_, BP6.out, G6.out⟩, by simp [Go.RowKit.intOf]; omega⟩
          rw [show k + 1 - 1 = k by omega]
          have h6 := B6.out
          rw [HNX2.out (!q) (by rw [HE.out]; simp), List.map_set]
          exact h6
    · obtain rfl : k = n := by omega
      have t0 : decide ((k : Int) < (k : Int)) = false := by simp
      go_wp2_with fail
      go_ret
      have e : k - 1 = T.length := by have := HN.out; omega
      refine ⟨w.heap.size, Nat.le_refl _, rfl, ?_, G.out⟩
      have := BO.out
      rw [e] at this
      exact this
end Go.Proofs.YtplddbaggbdbiaaDoor
/- Who knows terms: the rounds of 'closed', in plain Lean. No condition. -/
namespace Go.Proofs.YtplddbaggbdbiaaDoor
open Go.RowKit
set_option linter.unusedVariables false
def InL (l : List Int) : Nat → Prop := fun i => (i : Int) ∈ l
/-- What stands in 'had' at a round's head. -/
structure HadOk (T : List Nd) (l : List Int) (hd : List Bool) : Prop where
  len : hd.length = T.length + 1
  der : ∀ id, dAt hd id = true → Der T (InL l) id
  has : ∀ id, 1 ≤ id → id ≤ T.length → InL l id → dAt hd id = true
/-- Behind the ids below j of a round. -/
structure ScanI (T : List Nd) (l : List Int) (had hd : List Bool) (j : Nat) (more : Bool) : Prop where
  ok : HadOk T l hd
  no : more = false → hd = had ∧ ∀ i x, T[i]? = some x → i + 1 < j → x.k = 5 → dAt (builtL T had) (i + 1) = true → dAt (builtL T had) x.a = true → dAt (builtL T had) x.b = true
  yes : more = true → cnt had < cnt hd
theorem ScanI.start {T : List Nd} {l : List Int} {had : List Bool} (h : HadOk T l had) : ScanI T l had had 0 false := ⟨h, fun _ => ⟨rfl, fun i x _ hi => by omega⟩, fun h => by cases h⟩
/-- Nothing follows of an id. -/
theorem ScanI.skip {T : List Nd} {l : List Int} {had hd : List Bool} {j : Nat} {more : Bool} (h : ScanI T l had hd j more) (hn : ∀ i x, T[i]? = some x → i + 1 = j → x.k = 5 → dAt (builtL T had) j = true → dAt (builtL T had) x.a = true → dAt (builtL T had) x.b = true) : ScanI T l had hd (j + 1) more :=
  ⟨h.ok, fun hm => ⟨(h.no hm).1, fun i x hx hi hk h1 h2 => by
    rcases Nat.lt_or_ge (i + 1) j with q | q
    · exact (h.no hm).2 i x hx q hk h1 h2
    · have e : i + 1 = j := by omega
      exact hn i x hx e hk (e ▸ h1) h2⟩, h.yes⟩
theorem cnt_mono {d : List Bool} {i : Nat} (hi : i < d.length) : cnt d ≤ cnt (d.set i true) := by
  cases h : dAt d i with
  | false => exact Nat.le_of_lt (cnt_set hi h)
  | true =>
    have e : d.set i true = d := by
      apply List.ext_getElem (by simp)
      intro k h1 h2
      rw [List.getElem_set]
      split
      · next q =>
        subst q
        unfold dAt at h
        rw [List.getD_eq_getElem?_getD, List.getElem?_eq_getElem hi] at h
        simpa using h.symm
      · rfl
    rw [e]; exact Nat.le_refl _
theorem had_built {T : List Nd} (hT : Parted T) {had : List Bool} {i : Nat} {x : Nd} (hx : T[i]? = some x) (h : dAt (builtL T had) (i + 1) = false) : dAt had (i + 1) = false := by
  rw [builtL_at hT had hx] at h
  cases hh : dAt had (i + 1) with
  | false => rfl
  | true => rw [hh] at h; simp at h
/-- A sealed one is opened: what it holds comes to be had. -/
theorem ScanI.opens {T : List Nd} (hT : Parted T) {l : List Int} {had hd : List Bool} {i : Nat} {x : Nd} {more : Bool} (hhad : HadOk T l had) (h : ScanI T l had hd (i + 1) more) (hx : T[i]? = some x) (hk : x.k = 5) (h1 : dAt (builtL T had) (i + 1) = true) (h2 : dAt (builtL T had) x.a = true) (h3 : dAt (builtL T had) x.b = false) : ScanI T l had (hd.set x.b true) (i + 2) true := by
  have hil := (List.getElem?_eq_some_iff.1 hx).1
  have hb := (hT i x hx).2 x.b (by simp [Nd.parts, hk])
  have hbl : x.b < hd.length := by rw [h.ok.len]; omega
  have hs := builtL_sound hT hhad.der
  obtain ⟨y, hy⟩ : ∃ y, T[x.b - 1]? = some y := ⟨_, List.getElem?_eq_getElem (show x.b - 1 < T.length by omega)⟩
  have hb0 : dAt had x.b = false := by
    have e : x.b - 1 + 1 = x.b := by omega
    have := had_built hT (had := had) hy (by rw [e]; exact h3)
    rwa [e] at this
  refine ⟨⟨by rw [List.length_set]; exact h.ok.len, fun id hid => ?_, fun id q1 q2 q3 => ?_⟩, fun q => by (exact absurd q (by decide)), fun _ => ?_⟩
  · rw [dAt_set _ _ _ _ hbl] at hid
    by_cases e : x.b = id
    · rw [← e]
      exact Der.opens hx hk (hs _ h1) (hs _ h2)
    · rw [if_neg e] at hid
      exact h.ok.der id hid
  · rw [dAt_set _ _ _ _ hbl]
    split
    · rfl
    · exact h.ok.has id q1 q2 q3
  · cases hm : more with
    | false =>
      rw [(h.no hm).1]
      exact cnt_set (by rw [hhad.len]; omega) hb0
    | true => exact Nat.lt_of_lt_of_le (h.yes hm) (cnt_mono hbl)
theorem ScanI.tells {T : List Nd} (hT : Parted T) {l : List Int} {had hd : List Bool} {j : Nat} (h : ScanI T l had hd j false) (hj : T.length < j) : Tells T (InL l) (builtL T had) := by
  obtain ⟨e, hn⟩ := h.no rfl
  have ho := h.ok
  rw [e] at ho
  exact built_tells hT ho.der ho.has (fun i x hx hk h1 h2 => hn i x hx (by have := (List.getElem?_eq_some_iff.1 hx).1; omega) hk h1 h2)
end Go.Proofs.YtplddbaggbdbiaaDoor
/- Who knows terms: closed walked. No condition. -/
namespace Go.Proofs.YtplddbaggbdbiaaDoor
open Go.RowKit
set_option linter.unusedVariables false
/-- As far as the range has come. -/
structure RangeI (w1 wr : World) (bs r ns gh : Nat) (D : DataW Value) (ls : List Int) (n : Nat) (left : Lit → Bool) (cnt : Nat) (hd : List Bool) : Prop where
  rg : wr.ranges Tryd.prog 3 Rv bs r ns D left cnt
  lf : ∀ kl, left kl = true → Go.Maps.has D kl = true
  blk : Blk wr gh 4 (hd.map boolc)
  hl : hd.length = n
  is : ∀ id, dAt hd id = true ↔ (id : Int) ∈ ls ∧ left (.int .i64 (id : Int)) = false
  gr : Gr w1 wr
theorem sameKey_int (a b : Int) : (Lit.int .i64 a).sameKey (.int .i64 b) = decide (a = b) := by
  show decide (IntKind.i64 = IntKind.i64 ∧ a = b) = decide (a = b)
  rw [decide_eq_decide]
  exact ⟨fun h => h.2, fun h => ⟨rfl, h⟩⟩
theorem RangeI.step {w1 wr w2 w3 : World} {bs r ns gh : Nat} {D : DataW Value} {ls : List Int} {n : Nat} {left : Lit → Bool} {cnt cnt' : Nat} {hd : List Bool} (h : RangeI w1 wr bs r ns gh D ls n left cnt hd) (hD : ∀ x, Go.Maps.has D (.int .i64 x) = ls.contains x) (x : Nat) (hx : x < n) (hlf : left (.int .i64 (x : Int)) = true)
    (hr : w2.ranges Tryd.prog 3 Rv bs r ns D (fun z => left z && !z.sameKey (.int .i64 (x : Int))) cnt') (hg : wr.grownBy w2 (some r)) (hgr : w1.heap.size ≤ gh) (hr1 : w1.heap.size ≤ r) (hgh : gh ≠ r) (hgb : gh ≠ bs) (h3 : w3 = w2.setCell ⟨gh, x, none⟩ (.bool true)) : RangeI w1 w3 bs r ns gh D ls n (fun z => left z && !z.sameKey (.int .i64 (x : Int))) cnt' (hd.set x true) := by
  have b2 : Blk w2 gh 4 (hd.map boolc) := (hg.block gh h.blk.lt (fun e => hgh (Option.some.inj e))).trans h.blk
  have e3 : ∀ k, k ≠ gh → w3.heap[k]? = w2.heap[k]? := fun k hk => by rw [h3]; exact Below.heap_setCell w2 _ _ k hk
  have z3 : w3.heap.size = w2.heap.size := by rw [h3]; simp [World.setCell]
  have g3 : w2.grownBy w3 (some gh) := ⟨by rw [h3]; rfl, by rw [h3]; rfl, by rw [h3]; rfl, by rw [z3]; exact Nat.le_refl _, fun k _ hk => e3 k (fun e => hk (by rw [e]))⟩
  refine ⟨hr.kept g3 (fun e => hgb (Option.some.inj e).symm) (fun e => hgh (Option.some.inj e).symm), fun kl hkl => h.lf kl (by simp at hkl; exact hkl.1), ?_, by rw [List.length_set]; exact h.hl, fun id => ?_, ?_⟩
  · rw [h3, List.map_set]
    exact b2.set x _
  · have hxin : (x : Int) ∈ ls := by
      have := h.lf _ hlf
      rw [hD] at this
      simpa using this
    rw [dAt_set _ _ _ _ (by rw [h.hl]; exact hx)]
    by_cases e : x = id
    · subst e
      rw [if_pos rfl]
      simp [sameKey_int, hxin]
    · rw [if_neg e, h.is, sameKey_int]
      have : ¬ ((id : Int) = (x : Int)) := by omega
      simp [this]
  · exact (Below.grown h.gr hg h.gr.size (fun k hk => by have := Option.some.inj hk; omega)).grown g3 (Nat.le_trans h.gr.size hg.size) (fun k hk => by have := Option.some.inj hk; omega)
theorem RangeI.had {w1 wr : World} {bs r ns gh : Nat} {D : DataW Value} {ls : List Int} {T : List Nd} {left : Lit → Bool} {cnt : Nat} {hd : List Bool} (h : RangeI w1 wr bs r ns gh D ls (T.length + 1) left cnt hd) (h0 : ∀ kl, left kl = false) (hls : ∀ x ∈ ls, outside T.length x = false) : HadOk T ls hd :=
  ⟨h.hl, fun id hid => by
    have h1 := ((h.is id).1 hid).1
    have h2 := hls _ h1
    unfold outside at h2
    simp at h2
    exact Der.know (by omega) (by omega) h1, fun id _ _ h3 => (h.is id).2 ⟨h3, h0 _⟩⟩
theorem kindOf_zero (T : List Nd) : kindOf T ((0 : Nat) : Int) = 0 := by unfold kindOf outside; simp
def isT : Value → Bool
  | .bool b => b
  | _ => false
/-- How many stand in a block of bools. -/
def cntAt (w : World) (b : Nat) : Nat := match w.heap[b]? with
  | some (.cells cs _ _) => (cs.toList.filter isT).length
  | _ => 0
theorem cntAt_eq {w : World} {b : Nat} {t : TypeId} {hd : List Bool} (h : Blk w b t (hd.map boolc)) : cntAt w b = cnt hd := by
  unfold cntAt
  rw [h]
  unfold cnt
  dsimp only
  rw [List.filter_map, List.length_map]
  congr 1
set_option maxRecDepth 100000 in
set_option maxHeartbeats 2000000 in
theorem closed_of (w0 : World) (gk g bk N : Nat) (T : List Nd) (l : List Int) (vi : Value) (bs ns : Nat) (ls : List Int) (w : World) (SB : Nat → Prop) (hgr : Calls Tryd.prog 89 #[.pointer (some ⟨gk, 0, none⟩)] w fun e w' => e = .returned (.tuple #[]) ∧ Tch SB w w' ∧ ∃ vk' vp', KnF w0 w' gk g bk N T l vk' vp' vi ∧ KnowFull w0 w' T vk' vp') (hsb : ¬ SB bs) (hT : Parted T) (hk : Kinds T) (hn : T.length ≤ 1000) (hm : mK w bs ns ls) (hls : ∀ x ∈ ls, outside T.length x = false) :
    Calls Tryd.prog 72 #[.pointer (some ⟨gk, 0, none⟩), .map (some bs)] w fun e w' => ∃ go d vk' vp', w.heap.size ≤ go ∧ e = .returned (.slice (some ⟨go, 0, none⟩) (T.length + 1) (T.length + 1)) ∧ Blk w' go 4 (d.map boolc) ∧ Tells T (InL ls) d ∧ KnF w0 w' gk g bk N T l vk' vp' vi ∧ KnowFull w0 w' T vk' vp' ∧ Tch SB w w' := by
  have HP := Lib.hid hT; have HK := Lib.hid hk; have HM := Lib.hid hm; have HLS := Lib.hid hls
  have HGR := Lib.hid hgr; have HSB := Lib.hid hsb
  obtain ⟨n, hN⟩ : ∃ n, n = T.length + 1 := ⟨_, rfl⟩
  have hn' : n ≤ 1001 := by omega
  have hn1 : 1 ≤ n := by omega
  rw [← hN]
  have HN := Lib.hid hN
  have hmk := fun w => run_mk tBools rfl n (by omega) w
  clear hgr hsb hT hk hm hls hn hN
  go_enter Tryd.func72, Tryd.ntmps72
  go_wp2_with fail
  go_step3
  go_wp2_with fail
  refine HGR.out.mono ?_
  rintro e w1 ⟨rfl, t1, vk1, vp1, k1, f1⟩
  have T1 := Lib.hid t1; have K1 := Lib.hid k1; have F1 := Lib.hid f1
  obtain ⟨Ak, ck, rfl, sk⟩ := f1.1.slice
  have c2 := (k1.blk.cell 2).trans rfl
  have hck := sk.cap; have hcm := sk.max
  rw [← HN.out] at c2 hck
  clear t1 k1 f1 sk
  obtain ⟨D, hD1, hD2⟩ := HM.out.keep (T1.out.keep bs HM.out.lt HSB.out)
  have HD := Lib.hid hD2
  have hown := hD1.alloc (.cells (reps n (.bool false)).toArray 4)
  clear hD1 hD2
  go_wp2_with (first
    | (at_range; refine wpList_range_own _ rfl _ 87 rfl 3 94 keyedI Tryd.underlying87 _ bs ns D rfl hown ?_; intro w2 hrg2 hg2 hs2)
    | go_in)
  go_frame
  have hz1 : (w1.alloc (.cells (reps n (.bool false)).toArray 4)).heap.size = w1.heap.size + 1 := by simp
  rw [hz1] at hrg2 hs2 ⊢
  have HR0 : Hid (RangeI w1 w2 bs (w1.heap.size + 1) ns w1.heap.size D ls n (Go.Maps.has D) (Go.Maps.size D) (List.replicate n false)) := by
    have hb1 := Blk.new w1 4 (reps n (.bool false)).toArray
    refine ⟨hrg2, fun _ h => h, ?_, by simp, fun id => ?_, (Gr.alloc w1 _).trans ⟨hg2.os, hg2.tape, hg2.output, hg2.size, fun k hk => hg2.block k hk (by simp)⟩⟩
    · rw [List.map_replicate]
      exact (hg2.block _ hb1.lt (by simp)).trans hb1
    · rw [HD.out, dAt_rep]
      simp
  clear hrg2 hg2 hs2 hz1 hown hmk
  go_loopw [6] (fun _ wr => ∃ (left : Lit → Bool) (cnt : Nat) (hd : List Bool), RangeI w1 wr bs (w1.heap.size + 1) ns w1.heap.size D ls n left cnt hd) (fun _ wr => wr.rangeLeft bs (w1.heap.size + 1))
  case atStart => exact ⟨_, _, _, HR0.out⟩
  case round =>
    obtain ⟨left, cn, hd, hri⟩ := hrel
    have RI := Lib.hid hri; clear hri HR0
    have hrg := RI.out.rg
    go_wp2_with (first
      | (at_next; refine wpList_next_ranges (α := Int) (β := Value) _ rfl _ rfl 3 keyedI Rv (Value.int .i64) id (fun key kl hkey => by obtain ⟨x, rfl, _⟩ := Go.Maps.keyOf_int_inv Tryd.underlying3 hkey; exact ⟨x, rfl⟩) (fun v y hv => ⟨v, rfl⟩) bs (w1.heap.size + 1) ns D left cn rfl hrg ?_ ?_)
      | go_in)
    · intro hc0 hl0
      have HDK : Hid (HadOk T ls hd) := by
        have h := RI.out
        rw [HN.out] at h
        exact h.had hl0 HLS.out
      have HB := Lib.hid RI.out.blk; have HGR := Lib.hid RI.out.gr
      clear RI hrg hc0 hl0
      go_wp2_with fail
      go_step3
      go_wp2_with fail
      go_loopw [8] (fun _ wx => ∃ hd : List Bool, HadOk T ls hd ∧ Blk wx w1.heap.size 4 (hd.map boolc) ∧ Gr w1 wx) (fun _ wx => n - cntAt wx w1.heap.size)
      case atStart => exact ⟨_, HDK.out, HB.out, HGR.out⟩
      case round =>
        obtain ⟨hh, hok, hbl, hgr⟩ := hrel
        have OK := Lib.hid hok; have BL := Lib.hid hbl; have G := Lib.hid hgr; clear hok hbl hgr HDK HB HGR
        obtain ⟨wo, rfl⟩ : ∃ wo : World, wo = wr := ⟨_, rfl⟩
        have HBU := Lib.hid (built_any w0 gk g bk N T l _ vp1 vi (some ⟨w1.heap.size, 0, none⟩) n hh wo (K1.out.gr G.out) (by
          obtain ⟨q1, R, q2, q3⟩ := F1.out
          exact ⟨q1.mono G.out, R, q2.mono G.out, q3⟩) (by
          refine ⟨by simp [OK.out.len], by rw [← HN.out]; exact Nat.le_refl _, by unfold maxLen; omega, fun _ => ⟨_, _, rfl, fun j u hu => ?_⟩⟩
          rw [Nat.zero_add, BL.out.cell]; exact hu) (by have := HN.out; omega) HP.out)
        rw [← HN.out] at HBU
        go_wp2_with fail
        refine HBU.out.mono ?_
        rintro e w5 ⟨go, hgo, rfl, hbo, hg5⟩
        have BO := Lib.hid hbo; have G5 := Lib.hid hg5; have HGO := Lib.hid hgo
        clear hbo hg5 HBU hgo
        obtain ⟨out, hout⟩ : ∃ out, out = builtL T hh := ⟨_, rfl⟩
        have HOUT := Lib.hid hout
        have HOL : Hid (out.length = n) := by show _ = _; rw [hout, HN.out]; exact builtTo_len _ _ _
        rw [← hout] at BO
        clear hout
        have hgg : go ≠ w1.heap.size := by have h1 := HGO.out; have h2 := BL.out.lt; omega
        have HGG := Lib.hid hgg; clear hgg
        go_wp2_with fail
        go_loopw [8, 33] (fun mo i wx => ∃ (j : Nat) (m : Bool) (hd' : List Bool), j ≤ n ∧ i = .int .i64 j ∧ mo = .bool m ∧ ScanI T ls hh hd' j m ∧ Blk wx w1.heap.size 4 (hd'.map boolc) ∧ Blk wx go 4 (out.map boolc) ∧ Gr w1 wx) (fun _ i _ => n - (Go.RowKit.intOf i).toNat)
        case atStart => exact ⟨0, false, hh, Nat.zero_le _, rfl, rfl, ScanI.start OK.out, G5.out.blk BL.out, BO.out, G.out.trans G5.out⟩
        case round =>
          obtain ⟨j, m, hd', hjn, rfl, rfl, hsc, hb1, hb2, hgx⟩ := hrel
          obtain ⟨wi, rfl⟩ : ∃ wi : World, wi = wr := ⟨_, rfl⟩
          have SC := Lib.hid hsc; have B1 := Lib.hid hb1; have B2 := Lib.hid hb2; have GX := Lib.hid hgx
          clear hsc hb1 hb2 hgx
          by_cases hlt : j < n
          · have t0 : decide ((j : Int) < (n : Int)) = true := decide_eq_true (by omega)
            have ci : wi.cell? ⟨go, j, none⟩ = some (.bool (dAt out j)) := (B2.out.cell j).trans (boolc_at (by rw [HOL.out]; exact hlt))
            cases ho : dAt out j with
            | false =>
              rw [ho] at ci
              have HO := Lib.hid ho; clear ho
              go_wp2_with fail
              refine ⟨⟨j + 1, m, hd', by omega, by simp, rfl, SC.out.skip (fun i x hx e hk h1 _ => ?_), B1.out, B2.out, GX.out⟩, by simp [Go.RowKit.intOf]; omega⟩
              rw [← HOUT.out, HO.out] at h1
              cases h1
            | true =>
              rw [ho] at ci
              have HO := Lib.hid ho; clear ho
              obtain ⟨b1, o1, b2, o2, c1', c2', r, hat⟩ := KnowFull.at (gk := gk) F1.out (k := j) (by have := HN.out; omega)
              have hA := hat.gr GX.out
              have e1 := hat.vk; have e2 := hat.vp
              rw [← HN.out] at e1 e2
              have q1 := hat.ck; have q2 := hat.cp
              rw [← HN.out] at q1 q2
              obtain ⟨rfl, rfl⟩ : Ak = some ⟨b1, o1, none⟩ ∧ ck = c1' := by
                have := hat.vk
                injection this with a1 a2 a3
                exact ⟨a1, a3⟩
              subst e2
              have k0 := hA.kc; have k1 := hA.pc
              have hbk := (Gr.blk GX.out K1.out.blk)
              have d2 : wi.cell? ⟨gk, 2, none⟩ = some (.slice (some ⟨b1, o1, none⟩) n ck) := by rw [HN.out]; exact (hbk.cell 2).trans rfl
              have d3 : wi.cell? ⟨gk, 3, none⟩ = some (.slice (some ⟨b2, o2, none⟩) n c2') := (hbk.cell 3).trans rfl
              have HA := Lib.hid hA
              clear hat hA hbk e1
              by_cases h5 : kindOf T (j : Int) = 5
              · obtain ⟨i, hji⟩ : ∃ i, j = i + 1 := by
                  cases j with
                  | zero => exact absurd h5 (by rw [kindOf_zero]; decide)
                  | succ i => exact ⟨i, rfl⟩
                obtain ⟨x, hx⟩ : ∃ x, T[i]? = some x := ⟨T[i]'(by have := HN.out; omega), List.getElem?_eq_getElem _⟩
                have hks := kindOf_succ hx
                rw [← hji] at hks
                have hx5 : x.k = 5 := hks.1.symm.trans h5
                have hp2 : x.parts = [x.a, x.b] := by simp [Nd.parts, hx5]
                have hrl := HA.out.rl
                rw [hks.2, hp2] at hrl
                have hPx := (HP.out i x hx).2
                have ha := hPx x.a (by rw [hp2]; simp)
                have hb := hPx x.b (by rw [hp2]; simp)
                have hrr := HA.out.rr
                have hrn : r.n = 2 := by rw [← hrr.len, hrl]; rfl
                have hrc := hrr.cap; have hrm := hrr.max
                obtain ⟨br, or', era, hrcell⟩ := Is.addr hrr (by omega)
                have u0 := hrcell 0 (by omega)
                have u1 := hrcell 1 (by omega)
                rw [hrl] at u0 u1
                rw [Nat.add_zero] at u0
                have hla : x.a < n := by have := HN.out; omega
                have hlb : x.b < n := by have := HN.out; omega
                have va : wi.cell? ⟨go, x.a, none⟩ = some (.bool (dAt out x.a)) := (B2.out.cell x.a).trans (boolc_at (by rw [HOL.out]; exact hla))
                have vb : wi.cell? ⟨go, x.b, none⟩ = some (.bool (dAt out x.b)) := (B2.out.cell x.b).trans (boolc_at (by rw [HOL.out]; exact hlb))
                rw [era, hrn] at k1
                rw [h5] at k0
                rw [hrn] at hrc
                have HX := Lib.hid hx; have HJI := Lib.hid hji; have HX5 := Lib.hid hx5
                have SK : Hid ((dAt out x.a = true → dAt out x.b = true) → ScanI T ls hh hd' (j + 1) m) := fun hh2 => SC.out.skip (fun i' x' hx' e _ _ h1 => by
                  have ei : i' = i := by have := HJI.out; omega
                  subst ei
                  obtain rfl : x' = x := Option.some.inj (hx'.symm.trans HX.out)
                  rw [← HOUT.out] at h1 ⊢
                  exact hh2 h1)
                have u0' : wi.cell? ⟨br, or', none⟩ = some (.int .i64 (x.a : Int)) := u0
                have u1' : wi.cell? ⟨br, or' + 1, none⟩ = some (.int .i64 (x.b : Int)) := u1
                clear hks hp2 hrl hPx ha hb hrr hrn hrcell u0 u1 hx hji hx5 h5 era
                cases hoa : dAt out x.a with
                | false =>
                  rw [hoa] at va
                  have SK1 := Lib.hid (SK.out (fun q => by rw [hoa] at q; cases q))
                  clear hoa
                  go_wp2_with fail
                  exact ⟨⟨j + 1, m, hd', by omega, by simp, rfl, SK1.out, B1.out, B2.out, GX.out⟩, by simp [Go.RowKit.intOf]; omega⟩
                | true =>
                  rw [hoa] at va
                  have HOA := Lib.hid hoa; clear hoa
                  cases hob : dAt out x.b with
                  | true =>
                    rw [hob] at vb
                    have SK1 := Lib.hid (SK.out (fun _ => hob))
                    clear hob
                    go_wp2_with fail
                    exact ⟨⟨j + 1, m, hd', by omega, by simp, rfl, SK1.out, B1.out, B2.out, GX.out⟩, by simp [Go.RowKit.intOf]; omega⟩
                  | false =>
                    rw [hob] at vb
                    have HOP : Hid (ScanI T ls hh (hd'.set x.b true) (j + 1) true) := by
                      have h1 := HO.out; have h2 := HOA.out; have h3 := hob
                      rw [HOUT.out] at h1 h2 h3
                      have e := HJI.out
                      subst e
                      exact SC.out.opens HP.out OK.out HX.out HX5.out h1 h2 h3
                    clear hob
                    have hl' : hd'.length = n := by rw [SC.out.ok.len, HN.out]
                    have cb : wi.cell? ⟨w1.heap.size, x.b, none⟩ = some (.bool (dAt hd' x.b)) := (B1.out.cell x.b).trans (boolc_at (by rw [hl']; exact hlb))
                    have yb := B1.out.free x.b
                    have hlg := B1.out.lt
                    have B1s : Hid (Blk (wi.setCell ⟨w1.heap.size, x.b, none⟩ (.bool true)) w1.heap.size 4 ((hd'.set x.b true).map boolc)) := by
                      show Blk _ _ _ _
                      rw [List.map_set]
                      exact B1.out.set x.b _
                    have B2s := Lib.hid (B2.out.far (p := ⟨w1.heap.size, x.b, none⟩) HGG.out (.bool true))
                    have GXs := Lib.hid (GX.out.setCell (p := ⟨w1.heap.size, x.b, none⟩) (Nat.le_refl _) (.bool true))
                    clear hl'
                    go_wp2_with fail
                    exact ⟨⟨j + 1, true, hd'.set x.b true, by omega, by simp, rfl, HOP.out, B1s.out, B2s.out, GXs.out⟩, by simp [Go.RowKit.intOf]; omega⟩
              · have t5 : ((kindOf T (j : Int) : Int) != 5) = true := by rw [bne_iff_ne]; omega
                have t6 : ((kindOf T (j : Int) : Int) == 5) = false := by rw [beq_eq_false_iff_ne]; omega
                have H5 := Lib.hid h5; clear h5
                generalize kindOf T (j : Int) = q at k0 t5 t6
                go_wp2_with fail
                refine ⟨⟨j + 1, m, hd', by omega, by simp, rfl, SC.out.skip (fun i x hx e hk h1 _ => ?_), B1.out, B2.out, GX.out⟩, by simp [Go.RowKit.intOf]; omega⟩
                exfalso
                refine H5.out ?_
                rw [← e, (kindOf_succ hx).1]
                exact hk
          · obtain rfl : j = n := by omega
            have t0 : decide ((j : Int) < (j : Int)) = false := by simp
            have hcm := cntAt_eq B1.out
            have hcl := cntAt_eq BL.out
            have hle : cnt hd' ≤ j := by have := cnt_le hd'; rw [SC.out.ok.len] at this; rw [HN.out]; exact this
            cases m with
            | true =>
              have HY := Lib.hid (SC.out.yes rfl)
              have HM1 : Hid (j - cntAt wi w1.heap.size < j - cntAt wo w1.heap.size) := by
                show _ < _
                rw [hcm, hcl]
                have := HY.out; omega
              have HSC := Lib.hid SC.out.ok
              clear hcm hcl
              go_wp2_with fail
              exact ⟨⟨hd', HSC.out, B1.out, GX.out⟩, HM1.out⟩
            | false =>
              have HTL := Lib.hid (SC.out.tells HP.out (by have := HN.out; omega))
              have hK := K1.out.gr GX.out
              have hF : KnowFull w0 wi T (.slice Ak (T.length + 1) ck) vp1 := by
                obtain ⟨q1, R, q2, q3⟩ := F1.out
                exact ⟨q1.mono GX.out, R, q2.mono GX.out, q3⟩
              have HKF := Lib.hid hK; have HFF := Lib.hid hF
              clear hK hF hcm hcl
              go_wp2_with fail
              rw [Exit.noGoto_ret]
              go_ret
              rw [← HOUT.out] at HTL
              exact ⟨go, out, _, _, by have h1 := HGO.out; have h2 := G.out.size; have h3 := T1.out.size; omega, rfl, B2.out, HTL.out, HKF.out, HFF.out, T1.out.trans (Tch.gr GX.out)⟩
    · intro x c kl y ys w3 cnt1 hkey hlx hv hat hrg1 hlt hg1 hs1 hen
      obtain ⟨x', ex, rfl, hwx⟩ := Go.Maps.keyOf_int_inv Tryd.underlying3 hkey
      cases ex
      have hin : x ∈ ls := by
        have := RI.out.lf _ hlx
        rw [HD.out] at this
        simpa using this
      have hx2 := HLS.out x hin
      obtain ⟨m, rfl, hmn⟩ : ∃ m : Nat, x = (m : Int) ∧ m < n := by
        unfold outside at hx2
        simp at hx2
        have := HN.out
        exact ⟨x.toNat, by omega, by omega⟩
      have hb3 : Blk w3 w1.heap.size 4 (hd.map boolc) := (hg1.block _ RI.out.blk.lt (by simp)).trans RI.out.blk
      have c0 : w3.cell? ⟨w1.heap.size, m, none⟩ = some (.bool (dAt hd m)) := (hb3.cell m).trans (boolc_at (by rw [RI.out.hl]; exact hmn))
      have y0 := hb3.free m
      have hl3 := hb3.lt
      obtain ⟨w4, hw4⟩ : ∃ w4, w4 = w3.setCell ⟨w1.heap.size, m, none⟩ (.bool true) := ⟨_, rfl⟩
      have HST := Lib.hid (RI.out.step HD.out m hmn hlx hrg1 hg1 (Nat.le_refl _) (Nat.le_succ _) (by omega) (fun e => by have h := HM.out.lt; have h2 := T1.out.size; omega) hw4)
      have HLT : Hid (w4.rangeLeft bs (w1.heap.size + 1) < wr.rangeLeft bs (w1.heap.size + 1)) := by
        show _ < _
        rw [HST.out.rg.left_eq, RI.out.rg.left_eq]; exact hlt
      have HW4 := Lib.hid hw4
      clear hkey hlx hv hat hrg1 hlt hg1 hs1 hin hx2 hb3 hw4 hwx RI hrg
      go_wp2_with fail
      rw [← HW4.out]
      refine ⟨⟨_, _, _, HST.out⟩, HLT.out⟩
theorem closed_any (w0 : World) (gk g bk N : Nat) (T : List Nd) (l : List Int) (vk vp vi : Value) (bs ns : Nat) (ls : List Int) (w : World) (h : KnF w0 w gk g bk N T l vk vp vi) (ht : TRd w0 g T) (hT : Parted T) (hk : Kinds T) (hn : T.length ≤ 1000) (hm : mK w bs ns ls) (hls : ∀ x ∈ ls, outside T.length x = false) :
    Calls Tryd.prog 72 #[.pointer (some ⟨gk, 0, none⟩), .map (some bs)] w fun e w' => ∃ go d vk' vp', w.heap.size ≤ go ∧ e = .returned (.slice (some ⟨go, 0, none⟩) (T.length + 1) (T.length + 1)) ∧ Blk w' go 4 (d.map boolc) ∧ Tells T (InL ls) d ∧ KnF w0 w' gk g bk N T l vk' vp' vi ∧ KnowFull w0 w' T vk' vp' ∧ Tch (fun b => b = gk) w w' := by
  have hsg : ¬ bs = gk := by
    rintro rfl
    obtain ⟨es, clock, hm⟩ := hm.obj
    have := h.blk
    unfold Blk at this
    rw [hm] at this
    cases this
  exact closed_of w0 gk g bk N T l vi bs ns ls w (fun b => b = gk) (grow_any w0 gk g bk N T l vk vp vi w h ht hk hn) hsg hT hk hn hm hls
end Go.Proofs.YtplddbaggbdbiaaDoor
/- Who knows terms: all, Derives. No condition. -/
namespace Go.Proofs.YtplddbaggbdbiaaDoor
open Go.RowKit
set_option linter.unusedVariables false
/-- What is asked of a state, and of its table. -/
structure KnT (w0 : World) (g : Nat) (T : List Nd) (l : List Int) : Prop where
  t : TRd w0 g T
  p : Parted T
  k : Kinds T
  n : T.length ≤ 1000
  l : ∀ x ∈ l, outside T.length x = false
/-- A list of all that is derived, in memory. -/
def RetAllS (SB : Nat → Prop) (w0 w : World) (gk g bk N : Nat) (T : List Nd) (l : List Int) (e : Ending) (w' : World) : Prop := ∃ A c d vk vp vi, e = .returned (.slice A (T.length + 1) c) ∧ Bls w' A (T.length + 1) c d ∧ Tells T (InL l) d ∧ KnF w0 w' gk g bk N T l vk vp vi ∧ Tch SB w w'
def RetAll (w0 w : World) (gk g bk N : Nat) (T : List Nd) (l : List Int) (e : Ending) (w' : World) : Prop := RetAllS (KS gk bk) w0 w gk g bk N T l e w'
set_option maxRecDepth 100000 in
set_option maxHeartbeats 2000000 in
theorem all_new (SB : Nat → Prop) (w0 : World) (gk g bk N : Nat) (T : List Nd) (l : List Int) (vk vp : Value) (A0 : Option Addr) (n0 c0' : Nat) (w : World) (hsb : SB gk) (hle : w0.heap.size ≤ w.heap.size) (hB : Blk w gk 91 [.pointer (some ⟨g, 0, none⟩), .map (some bk), vk, vp, .slice A0 n0 c0']) (hne : n0 ≠ T.length + 1) (hn : T.length ≤ 1000)
    (hlen : ∀ q, Calls Tryd.prog 45 #[.pointer (some ⟨g, 0, none⟩)] (w.drewN q) fun e w' => e = .returned (.int .i64 (T.length : Int)) ∧ w' = w.drewN q)
    (hcl : ∀ w1, Gr w w1 → Calls Tryd.prog 72 #[.pointer (some ⟨gk, 0, none⟩), .map (some bk)] w1 fun e w' => ∃ go d vk' vp', w1.heap.size ≤ go ∧ e = .returned (.slice (some ⟨go, 0, none⟩) (T.length + 1) (T.length + 1)) ∧ Blk w' go 4 (d.map boolc) ∧ Tells T (InL l) d ∧ KnF w0 w' gk g bk N T l vk' vp' (.slice A0 n0 c0') ∧ KnowFull w0 w' T vk' vp' ∧ Tch SB w1 w') :
    Calls Tryd.prog 48 #[.pointer (some ⟨gk, 0, none⟩)] w (RetAllS SB w0 w gk g bk N T l) := by
  have HB := Lib.hid hB; have HSB := Lib.hid hsb; have HLE := Lib.hid hle
  have c0 : w.cell? ⟨gk, 0, none⟩ = some (.pointer (some ⟨g, 0, none⟩)) := (hB.cell 0).trans rfl
  have hwn : IntKind.i64.wrap ((T.length : Int) + 1) = (T.length : Int) + 1 := IntWalk.i64_in _ (by omega)
  have HLEN := Lib.hid hlen
  have HCL := Lib.hid hcl
  have c4 : w.cell? ⟨gk, 4, none⟩ = some (.slice A0 n0 c0') := (hB.cell 4).trans rfl
  have t0 : ((n0 : Int) != (T.length : Int) + 1) = true := by rw [bne_iff_ne]; omega
  have HTN := Lib.hid hn
  clear hB hlen hcl hsb hle hne hn
  go_enter Tryd.func48, Tryd.ntmps48
  go_wp2_with fail
  go_quiet ((go_at_call 45; exact Calls.quiet_of_same (HLEN.out _)))
  have d1 : (w.drewN nq).cell? ⟨gk, 1, none⟩ = some (.map (some bk)) := (HB.out.cell 1).trans rfl
  go_wp2_with fail
  refine (HCL.out _ (belowN (Below.refl _ _) _)).mono ?_
  rintro e w5 ⟨go, d, vk', vp', hgo, rfl, hb, htl, hk5, hf5, ht5⟩
  have K5 := Lib.hid hk5; have B5 := Lib.hid hb; have TL := Lib.hid htl; have T5 := Lib.hid ht5; have HGO := Lib.hid hgo
  have c45 : w5.cell? ⟨gk, 4, none⟩ = some (.slice A0 n0 c0') := (hk5.blk.cell 4).trans rfl
  have y45 := hk5.blk.free 4
  have hlg := hk5.blk.lt
  obtain ⟨m, hm⟩ : ∃ m, m = T.length + 1 := ⟨_, rfl⟩
  rw [← hm]
  have HM := Lib.hid hm
  clear hk5 hf5 hb htl ht5 hm c0 c4 t0 hwn hgo d1
  go_wp2_with fail
  obtain ⟨w9, hw9⟩ : ∃ w9, w9 = w5.setCell ⟨gk, 4, none⟩ (.slice (some ⟨go, 0, none⟩) m m) := ⟨_, rfl⟩
  have FIN : Hid (RetAllS SB w0 w gk g bk N T l (.returned (.slice (some ⟨go, 0, none⟩) m m)) w9) := by
    have t9 : Tch (KS gk bk) w5 w9 := by rw [hw9]; exact Tch.set _ _ (.inl rfl)
    have t9' : Tch SB w5 w9 := by rw [hw9]; exact Tch.set _ _ HSB.out
    have hB : ∀ b, KS gk bk b → w0.heap.size ≤ b := fun b q => by rcases q with rfl | rfl; exact K5.out.ge; exact K5.out.gm
    have hng : bk ≠ gk := by
      rintro rfl
      obtain ⟨es, clock, hm⟩ := K5.out.m.obj
      have := K5.out.blk
      unfold Blk at this
      rw [hm] at this
      cases this
    have hgg : go ≠ gk := by have := HB.out.lt; have h2 := HGO.out; simp at h2; omega
    have b9 : Blk w9 go 4 (d.map boolc) := by rw [hw9]; exact B5.out.far hgg _
    have bel9 := t9.below K5.out.bel K5.out.bel.size hB
    have hdl : d.length = m := by rw [TL.out.1, HM.out]
    refine ⟨_, m, d, vk', vp', .slice (some ⟨go, 0, none⟩) m m, by rw [← HM.out], ?_, TL.out, ⟨K5.out.ge, K5.out.gm, bel9, ?_, K5.out.m.keep ?_, K5.out.kept t9, .inr ⟨d, ?_, Nat.le_of_eq TL.out.1, fun _ => TL.out⟩⟩, ?_⟩
    · rw [← HM.out]
      refine ⟨by simp [hdl], Nat.le_refl _, by unfold maxLen; have := HM.out; have := HTN.out; omega, fun _ => ⟨_, _, rfl, fun j u hu => ?_⟩⟩
      rw [Nat.zero_add, b9.cell]; exact hu
    · rw [hw9]; exact K5.out.blk.set 4 _
    · rw [hw9]; exact Below.heap_setCell _ _ _ _ hng
    · rw [hdl]
      exact b9.own (by have := HLE.out; have h2 := HGO.out; simp at h2; omega) bel9 (by simp [hdl]) (by unfold maxLen; have := HM.out; have := HTN.out; omega)
    · exact ((Tch.gr (belowN (Below.refl _ _) nq)).trans T5.out).trans t9'
  have HW9 := Lib.hid hw9; clear hw9
  go_ret
  rw [← HW9.out]
  exact FIN.out
set_option maxRecDepth 100000 in
set_option maxHeartbeats 2000000 in
theorem all_memo (SB : Nat → Prop) (w0 : World) (gk g bk N : Nat) (T : List Nd) (l : List Int) (vk vp vi : Value) (d : List Bool) (w : World) (h : KnF w0 w gk g bk N T l vk vp vi) (hd1 : Own w0 w 4 1 vi d.length (d.map boolc)) (hd2 : Tells T (InL l) d) (hn : T.length ≤ 1000)
    (hlen : ∀ q, Calls Tryd.prog 45 #[.pointer (some ⟨g, 0, none⟩)] (w.drewN q) fun e w' => e = .returned (.int .i64 (T.length : Int)) ∧ w' = w.drewN q) :
    Calls Tryd.prog 48 #[.pointer (some ⟨gk, 0, none⟩)] w (RetAllS SB w0 w gk g bk N T l) := by
  have H := Lib.hid h
  have c0 : w.cell? ⟨gk, 0, none⟩ = some (.pointer (some ⟨g, 0, none⟩)) := (h.blk.cell 0).trans rfl
  have hwn : IntKind.i64.wrap ((T.length : Int) + 1) = (T.length : Int) + 1 := IntWalk.i64_in _ (by omega)
  have HLEN := Lib.hid hlen
  obtain ⟨A, c, rfl, hs⟩ := hd1.slice
  have hdl : d.length = T.length + 1 := hd2.1
  rw [hdl] at hs
  have c4 : w.cell? ⟨gk, 4, none⟩ = some (.slice A (T.length + 1) c) := by rw [h.blk.cell 4, ← hdl]; rfl
  obtain ⟨m, hm⟩ : ∃ m, m = T.length := ⟨_, rfl⟩
  rw [← hm] at c4 hwn HLEN
  have t0 : (((m : Int) + 1) != (m : Int) + 1) = false := by simp
  have HM := Lib.hid hm; have HS := Lib.hid hs; have HD2 := Lib.hid hd2
  have hcap := hs.cap; have hmx := hs.max
  clear h hd1 hd2 hdl hs hm hlen
  go_enter Tryd.func48, Tryd.ntmps48
  go_wp2_with fail
  go_quiet ((go_at_call 45; exact Calls.quiet_of_same (HLEN.out _)))
  go_wp2_with fail
  go_ret
  have hg : Gr w (w.drewN nq) := belowN (Below.refl _ _) nq
  exact ⟨A, c, d, vk, vp, _, by rw [HM.out]; rfl, HS.out.mono hg, HD2.out, H.out.gr hg, Tch.gr hg⟩
theorem KnF.apart {w0 w : World} {gk g bk n : Nat} {T : List Nd} {l : List Int} {vk vp vi : Value} (h : KnF w0 w gk g bk n T l vk vp vi) : bk ≠ gk := by
  rintro rfl
  obtain ⟨es, clock, hm⟩ := h.m.obj
  have := h.blk
  unfold Blk at this
  rw [hm] at this
  cases this
/-- What is told of a state, whatever its table has become. -/
theorem all_of (SB : Nat → Prop) (w0 : World) (gk g bk N : Nat) (T : List Nd) (l : List Int) (vk vp vi : Value) (w : World) (hsb : SB gk) (h : KnF w0 w gk g bk N T l vk vp vi) (hn : T.length ≤ 1000)
    (hlen : ∀ q, Calls Tryd.prog 45 #[.pointer (some ⟨g, 0, none⟩)] (w.drewN q) fun e w' => e = .returned (.int .i64 (T.length : Int)) ∧ w' = w.drewN q)
    (hcl : ∀ w1, Gr w w1 → Calls Tryd.prog 72 #[.pointer (some ⟨gk, 0, none⟩), .map (some bk)] w1 fun e w' => ∃ go d vk' vp', w1.heap.size ≤ go ∧ e = .returned (.slice (some ⟨go, 0, none⟩) (T.length + 1) (T.length + 1)) ∧ Blk w' go 4 (d.map boolc) ∧ Tells T (InL l) d ∧ KnF w0 w' gk g bk N T l vk' vp' vi ∧ KnowFull w0 w' T vk' vp' ∧ Tch SB w1 w') :
    Calls Tryd.prog 48 #[.pointer (some ⟨gk, 0, none⟩)] w (RetAllS SB w0 w gk g bk N T l) := by
  rcases h.is with rfl | ⟨d, hd1, hd2⟩
  · exact all_new SB w0 gk g bk N T l vk vp none 0 0 w hsb h.bel.size h.blk (by omega) hn hlen hcl
  · by_cases hd : d.length = T.length + 1
    · exact all_memo SB w0 gk g bk N T l vk vp vi d w h hd1 (hd2.2 hd) hn hlen
    · obtain ⟨A, c, rfl, _⟩ := hd1.slice
      exact all_new SB w0 gk g bk N T l vk vp A d.length c w hsb h.bel.size h.blk hd hn hlen hcl
theorem all_any (w0 : World) (gk g bk N : Nat) (T : List Nd) (l : List Int) (vk vp vi : Value) (w : World) (h : KnF w0 w gk g bk N T l vk vp vi) (ht : KnT w0 g T l) :
    Calls Tryd.prog 48 #[.pointer (some ⟨gk, 0, none⟩)] w (RetAll w0 w gk g bk N T l) :=
  all_of (KS gk bk) w0 gk g bk N T l vk vp vi w (.inl rfl) h ht.n
    (fun q => (len_any g T (w.drewN q) (ht.t.mono (h.gr (belowN (Below.refl _ _) q)).bel)).mono fun e w' ⟨h1, h2⟩ => ⟨h1, h2.symm⟩)
    (fun w1 hg => (closed_any w0 gk g bk N T l vk vp vi bk N l w1 (h.gr hg) ht.t ht.p ht.k ht.n (h.gr hg).m ht.l).mono fun e w' ⟨go, d, vk', vp', h1, h2, h3, h4, h5, h6, h7⟩ => ⟨go, d, vk', vp', h1, h2, h3, h4, h5, h6, h7.mono (fun b _ q => .inl q)⟩)
/-- Is an id derived? -/
def derB (T : List Nd) (l : List Int) (id : Int) : Prop := outside T.length id = false ∧ Der T (InL l) id.toNat
def RetDerS (SB : Nat → Prop) (w0 w : World) (gk g bk N : Nat) (T : List Nd) (l : List Int) (id : Int) (e : Ending) (w' : World) : Prop := ∃ r vk vp vi, e = .returned (.bool r) ∧ (r = true ↔ derB T l id) ∧ KnF w0 w' gk g bk N T l vk vp vi ∧ Tch SB w w'
def RetDer (w0 w : World) (gk g bk N : Nat) (T : List Nd) (l : List Int) (id : Int) (e : Ending) (w' : World) : Prop := RetDerS (KS gk bk) w0 w gk g bk N T l id e w'
set_option maxHeartbeats 1000000 in
theorem derives_of (SB : Nat → Prop) (w0 : World) (gk g bk N : Nat) (T : List Nd) (l : List Int) (vk vp vi : Value) (id : Int) (w : World) (h : KnF w0 w gk g bk N T l vk vp vi) (hkd : Kinds T) (hn : T.length ≤ 1000) (hid : In64 id)
    (hkc : Calls Tryd.prog 42 #[.pointer (some ⟨g, 0, none⟩), .int .i64 id] w fun e w' => e = .returned (.int .i64 (kindOf T id : Int)) ∧ Gr w w')
    (hall : ∀ w1, Gr w w1 → Calls Tryd.prog 48 #[.pointer (some ⟨gk, 0, none⟩)] w1 (RetAllS SB w0 w1 gk g bk N T l)) :
    Calls Tryd.prog 19 #[.pointer (some ⟨gk, 0, none⟩), .int .i64 id] w (RetDerS SB w0 w gk g bk N T l id) := by
  have H := Lib.hid h; have HTN := Lib.hid hn
  have c0 : w.cell? ⟨gk, 0, none⟩ = some (.pointer (some ⟨g, 0, none⟩)) := (h.blk.cell 0).trans rfl
  have HKC := Lib.hid hkc
  have HP := Lib.hid (kindOf_pos hkd id)
  obtain ⟨q, hq⟩ : ∃ q, q = kindOf T id := ⟨_, rfl⟩
  rw [← hq] at HKC HP
  have HA := Lib.hid hall
  clear h hq hkc hkd hall hn
  by_cases h0 : q = 0
  · subst h0
    have HO : Hid (outside T.length id = true) := by
      cases ho : outside T.length id with
      | true => rfl
      | false => exact absurd (HP.out.2 ho) (by decide)
    go_enter Tryd.func19, Tryd.ntmps19
    go_wp2_with fail
    refine HKC.out.mono ?_
    rintro e w1 ⟨rfl, g1⟩
    have G1 := Lib.hid g1; clear g1
    go_wp2_with fail
    go_ret
    exact ⟨false, vk, vp, vi, rfl, ⟨(fun q => by cases q), (fun q => by have := q.1; rw [HO.out] at this; cases this)⟩, H.out.gr G1.out, Tch.gr G1.out⟩
  · have t0 : ((q : Int) == 0) = false := by rw [beq_eq_false_iff_ne]; omega
    have HO := Lib.hid (HP.out.1 (by omega))
    have hin : 1 ≤ id ∧ id ≤ T.length := by have := HO.out; unfold outside at this; simp at this; omega
    obtain ⟨k, rfl⟩ : ∃ k : Nat, id = (k : Int) := ⟨id.toNat, by omega⟩
    have hn := HTN.out
    go_enter Tryd.func19, Tryd.ntmps19
    go_wp2_with fail
    refine HKC.out.mono ?_
    rintro e w1 ⟨rfl, g1⟩
    have G1 := Lib.hid g1; clear g1 c0
    go_wp2_with fail
    refine (HA.out w1 G1.out).mono ?_
    rintro e w2 ⟨A, c, d, vk', vp', vi', rfl, hs, htl, hk2, ht2⟩
    have hcap := hs.cap; have hmx := hs.max
    obtain ⟨b, o, rfl, hcc⟩ := hs.addr (by omega)
    have c2 := hcc k _ (boolc_at (by rw [htl.1]; omega))
    have TL := Lib.hid htl; have K2 := Lib.hid hk2; have T2 := Lib.hid ht2
    obtain ⟨m, hm⟩ : ∃ m, m = T.length := ⟨_, rfl⟩
    rw [← hm] at hin hn hcap ⊢
    clear hs hcc htl hk2 ht2 hm h0
    go_wp2_with fail
    go_ret
    refine ⟨dAt d k, vk', vp', vi', rfl, ?_, K2.out, (Tch.gr G1.out).trans T2.out⟩
    rw [TL.out.2 k]
    exact ⟨fun q => ⟨HO.out, q⟩, fun q => q.2⟩
theorem derives_any (w0 : World) (gk g bk N : Nat) (T : List Nd) (l : List Int) (vk vp vi : Value) (id : Int) (w : World) (h : KnF w0 w gk g bk N T l vk vp vi) (ht : KnT w0 g T l) (hid : In64 id) :
    Calls Tryd.prog 19 #[.pointer (some ⟨gk, 0, none⟩), .int .i64 id] w (RetDer w0 w gk g bk N T l id) :=
  derives_of (KS gk bk) w0 gk g bk N T l vk vp vi id w h ht.k ht.n hid (kind_any g T id w (ht.t.mono h.bel) ht.k hid) (fun w1 hg => all_any w0 gk g bk N T l vk vp vi w1 (h.gr hg) ht)
end Go.Proofs.YtplddbaggbdbiaaDoor
/- Who knows terms: Clone. No condition. -/
namespace Go.Proofs.YtplddbaggbdbiaaDoor
open Go.RowKit
set_option linter.unusedVariables false
end Go.Proofs.YtplddbaggbdbiaaDoor
/- Who knows terms: Opened. No condition. -/
namespace Go.Proofs.YtplddbaggbdbiaaDoor
open Go.RowKit
set_option linter.unusedVariables false
def openB (T : List Nd) (d : List Bool) (id : Nat) : Bool := dAt d id && (decide (kindOf T (id : Int) = 5) && dAt d ((partsOf T (id : Int)).getD 0 0))
def openedTo (T : List Nd) (d : List Bool) (k : Nat) : List Int := ((List.range k).filter (openB T d)).map Int.ofNat
theorem openedTo_snoc (T : List Nd) (d : List Bool) (k : Nat) : openedTo T d (k + 1) = openedTo T d k ++ if openB T d k then [(k : Int)] else [] := by
  unfold openedTo
  rw [List.range_succ, List.filter_append, List.map_append]
  cases h : openB T d k <;> simp [h]
theorem openedTo_len (T : List Nd) (d : List Bool) (k : Nat) : (openedTo T d k).length ≤ k := by
  unfold openedTo
  rw [List.length_map]
  have := List.length_filter_le (openB T d) (List.range k)
  simpa using this
/-- A sealed one's first part. -/
theorem parts5 {T : List Nd} (hT : Parted T) {k : Nat} (h5 : kindOf T (k : Int) = 5) : ∃ a b : Nat, partsOf T (k : Int) = [a, b] ∧ 1 ≤ a ∧ a < k ∧ 1 ≤ b ∧ b < k ∧ k ≤ T.length := by
  cases k with
  | zero => rw [show ((0 : Nat) : Int) = (0 : Nat) from rfl, kindOf_zero] at h5; cases h5
  | succ i =>
    cases hx : T[i]? with
    | none =>
      unfold kindOf at h5
      have ho : outside T.length ((i + 1 : Nat) : Int) = true := by
        have : T.length ≤ i := by simpa using hx
        unfold outside; simp; omega
      rw [ho] at h5
      simp at h5
    | some x =>
      have hk := kindOf_succ hx
      rw [hk.1] at h5
      have hl := (List.getElem?_eq_some_iff.1 hx).1
      have hp := (hT i x hx).2
      have he : x.parts = [x.a, x.b] := by simp [Nd.parts, h5]
      rw [he] at hp
      have h1 := hp x.a (by simp)
      have h2 := hp x.b (by simp)
      exact ⟨x.a, x.b, hk.2.trans he, h1.1, by omega, h2.1, by omega, by omega⟩
def RetOpened (w0 w : World) (gk g bk N : Nat) (T : List Nd) (l : List Int) (e : Ending) (w' : World) : Prop := ∃ A c d vk vp vi, Tells T (InL l) d ∧ e = .returned (.slice A (openedTo T d (T.length + 1)).length c) ∧ Is w' A (openedTo T d (T.length + 1)).length c (openedTo T d (T.length + 1)) ∧ KnF w0 w' gk g bk N T l vk vp vi ∧ Tch (KS gk bk) w w'
end Go.Proofs.YtplddbaggbdbiaaDoor
