/- Own texts of this claim, one behind the other. No condition. -/
import Derived.Test.YtfemhhjmfckicaaDoorObPkU
import Derived.Test.YtfemhhjmfckicaaDoorObPkZC

/- The laws on leaf: names, and a row turned round. No condition. -/
namespace Go.Proofs.YtfemhhjmfckicaaDoor
open Go.RowKit
set_option linter.unusedVariables false
set_option linter.unusedSimpArgs false
theorem Rw.ws {w0 w : World} {A : Option Addr} {n c : Nat} {ls : List (List UInt8)} (h : Rw w0 w A n c ls) : Ws w A n c ls := by
  obtain ⟨hl, ⟨hc, hm⟩, h⟩ := h
  refine ⟨by rw [List.length_map, hl, Nat.mul_one], hc, hm, fun hn => ?_⟩
  rcases h with ⟨rfl, rfl, rfl⟩ | ⟨g, rfl, hg, hw, hH⟩
  · omega
  · refine ⟨g, 0, rfl, fun j u hu => ?_⟩
    have hj : j < ls.length := by have := (List.getElem?_eq_some_iff.1 hu).1; rwa [List.length_map] at this
    have h1 := (hH j (by simpa using hj)).1
    rw [h1]
    rw [List.getElem?_map, List.getElem?_eq_getElem hj] at hu
    rw [getElem!_pos ls.toArray j (by simpa using hj)]
    exact hu
theorem find_own {N : List (List UInt8)} (h : InOrder N) {i : Nat} (hi : i < N.length) (h0 : N[i] ≠ []) : findH N N[i] = (i : Int) := by
  unfold findH
  rw [if_neg h0]
  have : N.findIdx? (· == N[i]) = some i := by
    rw [List.findIdx?_eq_some_iff_getElem]
    refine ⟨hi, by simp, fun j hj => ?_⟩
    have h1 := List.pairwise_iff_getElem.1 h j i (by omega) hi hj
    simpa using ltH_ne h1
  rw [this]
/-- What the names' loop asks of each name. -/
theorem name_ok {hs N : List (List UInt8)} (h : NamesOf hs N) {i : Nat} (hi : i < N.length) : N[i] ≠ [] ∧ 0 ≤ findH hs N[i] ∧ findH N N[i] = (i : Int) := by
  have h1 := (h.2 N[i]).1 (List.getElem_mem hi)
  exact ⟨h1.2, find_some h1.1 h1.2, find_own h.1 hi h1.2⟩
theorem head_ok {hs N : List (List UInt8)} (h : NamesOf hs N) {x : List UInt8} (hx : x ∈ hs) (h0 : x ≠ []) : 0 ≤ findH N x := find_some ((h.2 x).2 ⟨hx, h0⟩) h0
/-- A row that is being turned round. -/
structure Tu (w0 w : World) (A : Option Addr) (n c g : Nat) (rest : List Value) (N ms : List (List UInt8)) : Prop where
  gr : Gr w0 w
  ws : Ws w A n c ms
  pm : ms.Perm N
  bl : 0 < n → A = some ⟨g, 0, none⟩ ∧ w0.heap.size ≤ g ∧ Blk w g 9 (ms.map strc ++ rest)
theorem Tu.start {w0 w : World} {v : Value} {n : Nat} {N : List (List UInt8)} (h : Own w0 w 9 1 v n (N.map strc)) : ∃ A c g rest, v = .slice A n c ∧ Tu w0 w A n c g rest N N := by
  obtain ⟨A, c, rfl, sl⟩ := h.slice
  by_cases h0 : 0 < n
  · obtain ⟨g, cap, rest, hv, hg, hb, h1, h2, h3⟩ := h.opened h0
    injection hv with e1 e2 e3
    exact ⟨A, c, g, rest, rfl, ⟨h.below, sl, List.Perm.refl _, fun _ => ⟨e1, hg, hb⟩⟩⟩
  · exact ⟨A, c, 0, [], rfl, ⟨h.below, sl, List.Perm.refl _, fun q => absurd q h0⟩⟩
/-- Two stores. -/
theorem Tu.swap {w0 w : World} {A : Option Addr} {n c g i j : Nat} {rest : List Value} {N ms : List (List UInt8)} (h : Tu w0 w A n c g rest N ms) (hi : i < ms.length) (hj : j < ms.length) :
    Tu w0 ((w.setCell ⟨g, i, none⟩ (strc ms[j])).setCell ⟨g, j, none⟩ (strc ms[i])) A n c g rest N ((ms.set i ms[j]).set j ms[i]) := by
  have hl := h.ws.len
  obtain ⟨hA, hg, hb⟩ := h.bl (by omega)
  have b1 := hb.set i (strc ms[j])
  rw [set_left _ _ _ _ (by rw [List.length_map]; exact hi), ← List.map_set] at b1
  have b2 := b1.set j (strc ms[i])
  rw [set_left _ _ _ _ (by rw [List.length_map, List.length_set]; exact hj), ← List.map_set] at b2
  have t : Tch (fun b => b = g) w ((w.setCell ⟨g, i, none⟩ (strc ms[j])).setCell ⟨g, j, none⟩ (strc ms[i])) := (Tch.set (S := fun b => b = g) ⟨g, i, none⟩ _ rfl).trans (Tch.set (S := fun b => b = g) ⟨g, j, none⟩ _ rfl)
  refine ⟨t.below h.gr h.gr.size (fun b e => e ▸ hg), ⟨by rw [List.length_map, List.length_set, List.length_set, hl, Nat.mul_one], h.ws.cap, h.ws.max, fun hn => ⟨g, 0, hA, fun k u hu => ?_⟩⟩, (List.set_set_perm hi hj).trans h.pm, fun _ => ⟨hA, hg, b2⟩⟩
  rw [Nat.zero_add, b2.cell]
  exact at_left hu
theorem Tu.free {w0 w : World} {A : Option Addr} {n c g : Nat} {rest : List Value} {N ms : List (List UInt8)} (h : Tu w0 w A n c g rest N ms) (hn : 0 < n) (i : Nat) : w.frozen? ⟨g, i, none⟩ = false := (h.bl hn).2.2.free i
theorem Tu.cell {w0 w : World} {A : Option Addr} {n c g : Nat} {rest : List Value} {N ms : List (List UInt8)} (h : Tu w0 w A n c g rest N ms) {i : Nat} (hi : i < ms.length) : w.cell? ⟨g, i, none⟩ = some (strc ms[i]) := by
  obtain ⟨_, _, hb⟩ := h.bl (by have := h.ws.len; omega)
  rw [hb.cell]
  refine at_left ?_
  rw [List.getElem?_map, List.getElem?_eq_getElem hi]
  rfl
theorem Tu.names {w0 w : World} {A : Option Addr} {n c g : Nat} {rest : List Value} {hs N ms M : List (List UInt8)} (h : Tu w0 w A n c g rest N ms) (hN : NamesOf hs N) (hM : NamesOf ms M) : M = N :=
  names_same hM (names_perm hN fun x => h.pm.mem_iff)
end Go.Proofs.YtfemhhjmfckicaaDoor

/- LeafOnce, in plain Lean, and rows told of a plan. No condition. -/
namespace Go.Proofs.YtfemhhjmfckicaaDoor
open Go.RowKit
set_option linter.unusedVariables false
set_option linter.unusedSimpArgs false
theorem once_of_find {hs : List (List UInt8)} (h : ∀ i (hi : i < hs.length), hs[i] ≠ [] → findH hs hs[i] = (i : Int)) : Once hs := fun i j hi hj he h0 => by
  have h1 := h i hi h0
  have h2 := h j hj (by rw [← he]; exact h0)
  rw [he, h2] at h1
  omega
theorem find_of_once {hs : List (List UInt8)} (h : Once hs) {i : Nat} (hi : i < hs.length) (h0 : hs[i] ≠ []) : findH hs hs[i] = (i : Int) := by
  obtain ⟨j, hj, hjl, he, _⟩ := find_is (find_some (List.getElem_mem hi) h0)
  rw [hj]
  have := h j i hjl hi he (by rw [he]; exact h0)
  omega
theorem over_take {hs : List (List UInt8)} {p : List TcD} {k : Nat} (hk : k < p.length) : overH hs (p.take (k + 1)) = (overH hs (p.take k)).set p[k].s p[k].h := by
  rw [List.take_succ_eq_append_getElem hk]
  unfold overH
  rw [List.foldl_append]
  rfl
/-- What was put last is there, what went is not. -/
theorem last_told {hs : List (List UInt8)} {l : List ChD} {st : List (List UInt8) × List TcD} (h : PlanOk hs l st) (ho : Once hs) {i : Nat} (hi : i < l.length) (hl : ∀ k (hk : k < l.length), i < k → l[k].n ≠ l[i].n) : decide (findH st.1 l[i].n < 0) = l[i].g := by
  obtain ⟨hr, hm⟩ := h.last ho i hi hl
  have h0 := right_ne hr
  cases hg : l[i].g with
  | false =>
    have h1 := find_some (hm.2 hg) h0
    exact decide_eq_false (by omega)
  | true =>
    refine decide_eq_true (find_neg.2 fun q => ?_)
    have := hm.1 q.1
    rw [hg] at this
    cases this
theorem Tu.mono {w0 w w' : World} {A : Option Addr} {n c g : Nat} {rest : List Value} {N ms : List (List UInt8)} (h : Tu w0 w A n c g rest N ms) (k : Gr w w') : Tu w0 w' A n c g rest N ms :=
  ⟨h.gr.trans k, h.ws.mono k, h.pm, fun hn => ⟨(h.bl hn).1, (h.bl hn).2.1, (h.bl hn).2.2.mono k⟩⟩
theorem Tu.set {w0 w : World} {A : Option Addr} {n c g i : Nat} {rest : List Value} {ms : List (List UInt8)} (h : Tu w0 w A n c g rest ms ms) (hi : i < ms.length) (x : List UInt8) :
    Tu w0 (w.setCell ⟨g, i, none⟩ (strc x)) A n c g rest (ms.set i x) (ms.set i x) := by
  have hl := h.ws.len
  obtain ⟨hA, hg, hb⟩ := h.bl (by omega)
  have b1 := hb.set i (strc x)
  rw [set_left _ _ _ _ (by rw [List.length_map]; exact hi), ← List.map_set] at b1
  refine ⟨(Tch.set (S := fun b => b = g) ⟨g, i, none⟩ _ rfl).below h.gr h.gr.size (fun b e => e ▸ hg), ⟨by rw [List.length_map, List.length_set, hl, Nat.mul_one], h.ws.cap, h.ws.max, fun hn => ⟨g, 0, hA, fun k u hu => ?_⟩⟩, List.Perm.refl _, fun _ => ⟨hA, hg, b1⟩⟩
  rw [Nat.zero_add, b1.cell]
  exact at_left hu
/-- A row of changes of slots. -/
def Tcs (w : World) (A : Option Addr) (n c : Nat) (T : List TcD) : Prop := T.length = n ∧ n ≤ c ∧ c ≤ 9223372036854775807 ∧ ∀ k (hk : k < T.length), ∃ b o, A = some ⟨b, o, none⟩ ∧ w.cell? ⟨b, o + k * 4, none⟩ = some (.int .i64 (T[k].s : Int)) ∧ w.cell? ⟨b, o + k * 4 + 1, none⟩ = some (strc T[k].h)
theorem tcs_of {w0 w : World} {v : Value} {T : List TcV} (h : Own w0 w 33 4 v T.length (T.flatMap TcV.cells)) : ∃ A c, v = .slice A T.length c ∧ Tcs w A T.length c (T.map TcV.d) := by
  obtain ⟨A, c, rfl, sl⟩ := h.slice
  refine ⟨A, c, rfl, by rw [List.length_map], sl.cap, sl.max, fun k hk => ?_⟩
  rw [List.length_map] at hk
  obtain ⟨b, o, rfl, hc⟩ := sl.addr (by omega)
  have hr : T[k]? = some T[k] := List.getElem?_eq_getElem hk
  have h0 := flat_at (s := 4) TcV.cells_len T k 0 (by decide) _ hr
  have h1 := flat_at (s := 4) TcV.cells_len T k 1 (by decide) _ hr
  refine ⟨b, o, rfl, ?_, ?_⟩
  · rw [List.getElem_map]; exact hc _ _ (h0.trans rfl)
  · rw [List.getElem_map, Nat.add_assoc]; exact hc _ _ (h1.trans rfl)
theorem Tcs.mono {w w' : World} {A : Option Addr} {n c : Nat} {T : List TcD} (h : Tcs w A n c T) (g : Gr w w') : Tcs w' A n c T := by
  refine ⟨h.1, h.2.1, h.2.2.1, fun k hk => ?_⟩
  obtain ⟨b, o, e, h1, h2⟩ := h.2.2.2 k hk
  exact ⟨b, o, e, (Below.cell g (World.block_lt_of_cell? w _ h1)).trans h1, (Below.cell g (World.block_lt_of_cell? w _ h2)).trans h2⟩
end Go.Proofs.YtfemhhjmfckicaaDoor
