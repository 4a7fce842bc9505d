/- The reference's table of terms: a new atom. No condition. -/
import Derived.Test.YthlnoaalhojphaaDoorObTermK
namespace Go.Proofs.YthlnoaalhojphaaDoor
open Go.RowKit Go.Maps
set_option linter.unusedVariables false

/-- The number of atoms among the first. -/
theorem atoms_next (T : List Nd) (k : Nat) (x : Nd) (hx : T[k]? = some x) : atomsOf (T.take (k + 1)) = if x.k = 1 then atomsOf (T.take k) + 1 else atomsOf (T.take k) := by
  have hk : k < T.length := (List.getElem?_eq_some_iff.1 hx).1
  rw [List.take_succ_eq_append_getElem hk]
  rw [List.getElem?_eq_getElem hk] at hx
  injection hx with hx
  rw [hx]
  unfold atomsOf
  rw [List.filter_append, List.length_append]
  by_cases h : x.k = 1 <;> simp [h]
theorem tNode : ElemT Tryd.prog 28 85 (.agg #[.int .i64 0, .int .i64 0, .int .i64 0, .string ⟨#[]⟩, .int .i64 0]) 5 48 := ⟨Tryd.underlying28, by kernel_rfl, rfl, by decide, by decide⟩
abbrev RTo (w0 w : World) (v : Value) (T : List Nd) : Prop := Own w0 w 85 5 v T.length (T.flatMap Nd.node)
/-- Only v's own row has turned; v' lies where v lay, or in new memory. -/
structure Turn1 (w w' : World) (v v' : Value) : Prop where
  size : w.heap.size ≤ w'.heap.size
  keep : ∀ b, b < w.heap.size → v.ownBlock ≠ some b → w'.heap[b]? = w.heap[b]?
  own : ∀ b, v'.ownBlock = some b → v.ownBlock = some b ∨ w.heap.size ≤ b
theorem Turn1.gr {w w' : World} (hg : Gr w w') (v : Value) : Turn1 w w' v v := ⟨hg.size, fun b hb _ => hg.block b hb, fun b h => .inl h⟩
theorem Turn1.of {w w' : World} {v v' : Value} (h : Kept w w' v v') : Turn1 w w' v v' := ⟨h.2.1, h.1, fun b hb => by
  rcases h.2.2 with q | q
  · rw [q] at hb; exact .inl hb
  · rw [q] at hb; injection hb with hb; exact .inr (by omega)⟩
theorem Turn1.trans {w w' w'' : World} {v v' v'' : Value} (h : Turn1 w w' v v') (k : Turn1 w' w'' v' v'') : Turn1 w w'' v v'' := by
  refine ⟨Nat.le_trans h.size k.size, fun b hb hn => ?_, fun b hb => ?_⟩
  · refine (k.keep b (Nat.lt_of_lt_of_le hb h.size) (fun e => ?_)).trans (h.keep b hb hn)
    rcases h.own b e with q | q
    · exact hn q
    · omega
  · rcases k.own b hb with q | q
    · exact h.own b q
    · exact .inr (Nat.le_trans h.size q)
theorem wpList_pushAtG {P : Program} {ops : Array Oper} {rest : List Oper} {o : Oper} {a : Act} {Q : Exit → Act → World → Prop} (hgd : o.guard = none) (s x : Operand) (t : TypeId)
    (ho : o.op = .call { callee := .builtin .append, args := #[s, x], argTypes := #[t, t] })
    {e : TypeId} {z : Value} {size bytes : Nat} (ht : ElemT P t e z size bytes) {w0 w : World} {v : Value} {n : Nat} {xs : List Value} (hs : a.eval s = v) (hown : Own w0 w e size v n xs)
    (g : Nat) (hg : g = w.heap.size) (cs : Array Value) (hx : a.eval x = .slice (some ⟨g, 0, none⟩) 1 1) (hl : cs.size = size) (h1 : ∀ u ∈ cs.toList, u.oneCell' = true)
    (hroom : (n + 1) * bytes ≤ 140737488355328)
    (h : ∀ v' w', Own w0 w' e size v' (n + 1) (xs ++ cs.toList) → Turn1 w w' v v' → wpList P ops Q rest (a.put o.dst v') w') : wpList P ops Q (o :: rest) a (w.alloc (.cells cs e)) := by
  subst hg
  exact wpList_pushG hgd s x t ho ht hs hown cs hx hl h1 hroom fun v' w' h2 h3 => h v' w' h2 ((Turn1.gr (Gr.alloc w _) v).trans (Turn1.of h3))
set_option maxHeartbeats 1000000 in
theorem refAtom_any (w0 : World) (T : List Nd) (v : Value) (w : World) (h : RTo w0 w v T) (hn' : T.length ≤ 1000) :
    Calls Tryd.prog 41 #[v] w fun e w' => ∃ v', e = .returned (.tuple #[v', .int .i64 ((T.length : Int) + 1)]) ∧ RTo w0 w' v' (atomT T).1 ∧ Turn1 w w' v v' := by
  obtain ⟨A, c, rfl, hr⟩ := Own.rs h
  have HO := Lib.hid h
  obtain ⟨n, hl⟩ : ∃ n, n = T.length := ⟨_, rfl⟩
  have hn : n ≤ 1000 := by omega
  have HL := Lib.hid hl
  rw [← hl] at HO hr ⊢
  have HH := Lib.hid hr
  clear h hr hl hn'
  have N1 : Hid (∀ m : Int, ∀ u ∈ (#[.int .i64 1, .int .i64 0, .int .i64 0, .string ⟨#[]⟩, .int .i64 m] : Array Value).toList, u.oneCell' = true) := fun m u hu => by simp at hu; rcases hu with rfl | rfl | rfl | rfl <;> rfl
  go_enter Tryd.func41, Tryd.ntmps41
  go_wp2_with fail
  go_loop [4, 5] (fun v i => ∃ k : Nat, k ≤ n ∧ i = .int .i64 k ∧ v = .int .i64 (atomsOf (T.take k) : Int)) (fun v i => n - (Go.RowKit.intOf i).toNat)
  case atStart => exact ⟨0, Nat.zero_le _, rfl, rfl⟩
  case round =>
    obtain ⟨k, hk, rfl, rfl⟩ := hrel
    by_cases hlt : k < n
    · obtain ⟨b, o, x, rfl, hx, c0, _, _, _, _⟩ := RTb.row HH.out hlt
      have HN := Lib.hid (atoms_next T k x hx)
      have hle := Nat.le_trans (atoms_le (T.take k)) (List.length_take_le k T)
      obtain ⟨m, hm⟩ : ∃ m, m = atomsOf (T.take k) := ⟨_, rfl⟩
      rw [← hm] at HN hle ⊢
      have HM := Lib.hid hm; clear hm hx
      have w1 : IntKind.i64.wrap ((k : Int) + 1) = (k : Int) + 1 := IntWalk.i64_in _ (by omega)
      have w2 : IntKind.i64.wrap ((m : Int) + 1) = (m : Int) + 1 := IntWalk.i64_in _ (by omega)
      have t0 : decide ((k : Int) < (n : Int)) = true := by simp; omega
      by_cases h1 : x.k = 1
      · have HN1 := Lib.hid (HN.out.trans (if_pos h1))
        rw [h1] at c0
        go_wp2_with fail
        refine ⟨⟨k + 1, hlt, by simp, by rw [HN1.out]; simp⟩, ?_⟩
        simp [Go.RowKit.intOf]; omega
      · have HN1 := Lib.hid (HN.out.trans (if_neg h1))
        have t1 : decide ((x.k : Int) = 1) = false := by simp; omega
        go_wp2_with fail
        refine ⟨⟨k + 1, hlt, by simp, by rw [HN1.out]⟩, ?_⟩
        simp [Go.RowKit.intOf]; omega
    · obtain rfl : k = n := by omega
      have t0 : decide ((k : Int) < (k : Int)) = false := by simp
      have w1 : IntKind.i64.wrap ((k : Int) + 1) = (k : Int) + 1 := IntWalk.i64_in _ (by omega)
      have N2 : Hid (∀ m : Int, ∀ u ∈ ([.int .i64 1, .int .i64 0, .int .i64 0, .string ⟨#[]⟩, .int .i64 m] : List Value), u.oneCell' = true) := fun m u hu => by simp at hu; rcases hu with rfl | rfl | rfl | rfl <;> rfl
      have HO3 := HO.out
      unfold RTo at HO3
      rw [← HL.out] at HO3
      have HO4 := Lib.hid HO3; clear HO3
      go_wp2_with (at_builtin; go_loud (refine wpList_pushAtG rfl _ _ 28 rfl tNode rfl HO4.out _ (by simp) #[_, _, _, _, _] rfl rfl (N1.out _) (by omega) ?_); intro v1 w3 own1 tn1)
      go_ret2
      refine ⟨v1, rfl, ?_, tn1⟩
      have hl := HL.out
      have ht : T.take k = T := by rw [hl]; exact List.take_length
      rw [ht] at own1
      have e1 : (atomT T).1.length = k + 1 := by unfold atomT; simp; omega
      unfold RTo
      rw [e1]
      have e2 : (atomT T).1.flatMap Nd.node = T.flatMap Nd.node ++ [.int .i64 1, .int .i64 0, .int .i64 0, .string ⟨#[]⟩, .int .i64 (atomsOf T : Int)] := by unfold atomT; rw [List.flatMap_append]; rfl
      rw [e2]
      exact own1
end Go.Proofs.YthlnoaalhojphaaDoor
