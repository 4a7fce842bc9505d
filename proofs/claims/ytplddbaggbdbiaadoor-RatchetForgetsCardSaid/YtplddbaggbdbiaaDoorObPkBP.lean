/- Own texts of this claim, one behind the other. No condition. -/
import Derived.Test.YtplddbaggbdbiaaDoorObPkBO
import Derived.Outline

/- ObKnowM, ObKnowN, ObKnowP, ObKnowQ, ObKnowS: one text. No condition. -/
/- The reference's round. No condition. -/
namespace Go.Proofs.YtplddbaggbdbiaaDoor
open Go.RowKit
set_option linter.unusedVariables false
def RetBls (w : World) (d : List Bool) (e : Ending) (w' : World) : Prop := ∃ A c, e = .returned (.slice A d.length c) ∧ Bls w' A d.length c d ∧ Gr w w'
theorem one_bools (l : List Bool) : ∀ u ∈ l.map boolc, u.oneCell' = true := by intro u hu; obtain ⟨x, _, rfl⟩ := List.mem_map.1 hu; rfl
end Go.Proofs.YtplddbaggbdbiaaDoor
/- The reference's All and Opened. No condition. -/
namespace Go.Proofs.YtplddbaggbdbiaaDoor
open Go.RowKit
set_option linter.unusedVariables false
theorem startL_take (n : Nat) (l : List Int) (k : Nat) (hk : k < l.length) : startL n (l.take (k + 1)) = startOne n (startL n (l.take k)) (iAt l k) := by
  rw [List.take_succ_eq_append_getElem hk, startL_snoc, iAt_get hk]
theorem roundsL_succ (T : List Nd) (d : List Bool) (k : Nat) : roundsL T d (k + 1) = roundL T (roundsL T d k) := rfl
theorem openB_zero (T : List Nd) (d : List Bool) : openB T d 0 = false := by unfold openB; rw [kindOf_zero]; simp
theorem openedTo_one (T : List Nd) (d : List Bool) : openedTo T d 1 = [] := by rw [openedTo_snoc, openB_zero]; rfl
def RetOwnI (w : World) (l : List Int) (e : Ending) (w' : World) : Prop := ∃ A c, e = .returned (.slice A l.length c) ∧ Is w' A l.length c l ∧ Gr w w'
end Go.Proofs.YtplddbaggbdbiaaDoor
/- Who knows terms: light, alive. No condition. -/
namespace Go.Proofs.YtplddbaggbdbiaaDoor
open Go.RowKit
set_option linter.unusedVariables false
def light16 (L : List Ac) (m : Nat) : Bool := lightA L && (decide (L.length ≤ 30) && decide (m ≤ 20))
/-! ### the chapter's example -/
def exT : List Nd := [⟨1, 0, 0, ByteArray.empty, 0⟩, ⟨1, 0, 0, ByteArray.empty, 1⟩, ⟨5, 1, 2, ByteArray.empty, 0⟩]
theorem ex1 : atomT [] = ([⟨1, 0, 0, ByteArray.empty, 0⟩], 1) := rfl
theorem ex2 : atomT [⟨1, 0, 0, ByteArray.empty, 0⟩] = ([⟨1, 0, 0, ByteArray.empty, 0⟩, ⟨1, 0, 0, ByteArray.empty, 1⟩], 2) := rfl
theorem ex3 : pairT [⟨1, 0, 0, ByteArray.empty, 0⟩, ⟨1, 0, 0, ByteArray.empty, 1⟩] 5 1 2 = (exT, 3) := rfl
theorem ex_parted : Parted exT := by
  intro i x hx
  match i with
  | 0 => obtain rfl : _ = x := Option.some.inj hx; exact ⟨⟨by decide, by decide⟩, by decide⟩
  | 1 => obtain rfl : _ = x := Option.some.inj hx; exact ⟨⟨by decide, by decide⟩, by decide⟩
  | 2 => obtain rfl : _ = x := Option.some.inj hx; exact ⟨⟨by decide, by decide⟩, by decide⟩
  | n + 3 => simp [exT] at hx
theorem ex_no : ¬ Der exT (InL [3]) 2 := fun h => by
  have := ((allL_tells ex_parted [3]).2 2).2 h
  revert this
  decide +kernel
theorem ex_yes : Der exT (InL [3, 1]) 2 := ((allL_tells ex_parted [3, 1]).2 2).1 (by decide +kernel)
theorem ex_tin2 : TIn [⟨1, 0, 0, ByteArray.empty, 0⟩, ⟨1, 0, 0, ByteArray.empty, 1⟩] :=
  (doT_in (T := [⟨1, 0, 0, ByteArray.empty, 0⟩]) (doT_in TIn.nil (by decide) 1 0 0 ByteArray.empty (by decide)).1 (by decide) 1 0 0 ByteArray.empty (by decide)).1
theorem ex_tin3 : TIn exT := (doT_in ex_tin2 (by decide) 5 1 2 ByteArray.empty (by decide)).1
theorem ex_ok1 : okIds exT [3] = [3] := by decide
theorem ex_ok2 : okIds exT [1] = [1] := by decide
end Go.Proofs.YtplddbaggbdbiaaDoor
/- Two states beside one another; what is derived of ids that are there. No condition. -/
namespace Go.Proofs.YtplddbaggbdbiaaDoor
open Go.RowKit
set_option linter.unusedVariables false
theorem ok_mem {T : List Nd} {ids : List Int} {z : Int} : z ∈ okIds T ids ↔ z ∈ ids ∧ outside T.length z = false := by
  unfold okIds
  rw [List.mem_filter]
  simp
theorem okIds_in {T : List Nd} {ids : List Int} : ∀ x ∈ okIds T ids, outside T.length x = false := fun x hx => (ok_mem.1 hx).2
theorem der_ok {T : List Nd} {ids : List Int} {id : Nat} : Der T (InL (okIds T ids)) id ↔ Der T (InL ids) id := by
  constructor
  · exact fun h => h.mono fun i hi => (ok_mem.1 hi).1
  · intro h
    induction h with
    | know h1 h2 h3 => exact .know h1 h2 (ok_mem.2 ⟨h3, by unfold outside; simp; omega⟩)
    | make hx hk _ ih => exact .make hx hk ih
    | opens hx hk _ _ ih1 ih2 => exact .opens hx hk ih1 ih2
theorem all_ok {T : List Nd} (hT : Parted T) (ids : List Int) : Tells T (InL (okIds T ids)) (allL T ids) :=
  ⟨(allL_tells hT ids).1, fun id => ((allL_tells hT ids).2 id).trans der_ok.symm⟩
/-- A call on one state leaves another one. -/
theorem KnF.other {w0 w w' : World} {gk g bk n gk' g' bk' n' : Nat} {T : List Nd} {l l' : List Int} {vk vp vi vk' vp' vi' : Value} (h : KnF w0 w gk g bk n T l vk vp vi) (h' : KnF w0 w gk' g' bk' n' T l' vk' vp' vi') (t : Tch (KS gk bk) w w') (h1 : gk' ≠ gk) (h2 : bk' ≠ bk) : KnF w0 w' gk' g' bk' n' T l' vk' vp' vi' := by
  have hB : ∀ b, KS gk bk b → w0.heap.size ≤ b := fun b q => by rcases q with rfl | rfl; exact h.ge; exact h.gm
  have bk_map : ∀ {gg : Nat} {t : TypeId} {cs : List Value}, Blk w gg t cs → gg ≠ bk := fun hb e => by
    subst e
    obtain ⟨es, clock, hm⟩ := h.m.obj
    unfold Blk at hb
    rw [hm] at hb
    cases hb
  have n1 : ¬ KS gk bk gk' := fun q => q.elim h1 (bk_map h'.blk)
  have n2 : ¬ KS gk bk bk' := fun q => q.elim (fun e => by
    subst e
    obtain ⟨es, clock, hm⟩ := h'.m.obj
    have := h.blk
    unfold Blk at this
    rw [hm] at this
    cases this) h2
  refine h'.tch t hB n1 n2 (fun b hb => ?_) (fun A n c xs h0 hi b o e => h.row_off hi h0 b o e)
  rcases hb with hb | hb | hb
  · rcases h'.kp with ⟨e, _⟩ | ⟨q1, R, q2, q3⟩
    · rw [e] at hb; cases hb
    · exact h.own_off q1 (by decide) b hb
  · rcases h'.kp with ⟨_, e⟩ | ⟨q1, R, q2, q3⟩
    · rw [e] at hb; cases hb
    · exact h.own_off q2.1 (by decide) b hb
  · rcases h'.is with e | ⟨d, q1, q2⟩
    · rw [e] at hb; cases hb
    · exact h.own_off q1 (by decide) b hb
theorem know_bools {g bk : Nat} {vk vp vi : Value} (hs : (∃ A n c, vk = .slice A n c) ∧ (∃ A n c, vp = .slice A n c) ∧ ∃ A n c, vi = .slice A n c) : ∀ u ∈ [Value.pointer (some ⟨g, 0, none⟩), .map (some bk), vk, vp, vi], ∀ x, u ≠ .bool x := by
  obtain ⟨⟨A, n, c, rfl⟩, ⟨A', n', c', rfl⟩, A'', n'', c'', rfl⟩ := hs
  intro u hu x
  simp at hu
  rcases hu with rfl | rfl | rfl | rfl | rfl <;> simp
/-- .. and a row of bools. -/
theorem KnF.bools {w0 w w' : World} {gk g bk n : Nat} {T : List Nd} {l : List Int} {vk vp vi : Value} (h : KnF w0 w gk g bk n T l vk vp vi) {A : Option Addr} {m c : Nat} {d : List Bool} (hd : Bls w A m c d) (t : Tch (KS gk bk) w w') : Bls w' A m c d := by
  refine hd.tch (by decide) t fun h0 b o e q => ?_
  rcases q with q | q
  · refine Sl.not_blk hd (by decide) h.blk (fun u hu x hx => ?_) h0 e q
    have hm := List.mem_of_getElem? hx
    obtain ⟨z, _, rfl⟩ := List.mem_map.1 hm
    exact know_bools ⟨h.kp.slices.1, h.kp.slices.2, h.is.slices⟩ u hu z
  · obtain ⟨es, clock, hm⟩ := h.m.obj
    exact Sl.not_map hd (by decide) hm h0 e q
/-- Derives, in words of a list that tells all. -/
theorem derives_at (w0 : World) (gk g bk N : Nat) (T : List Nd) (l : List Int) (vk vp vi : Value) (d : List Bool) (k : Nat) (w : World) (h : KnF w0 w gk g bk N T l vk vp vi) (ht : KnT w0 g T l) (hd : Tells T (InL l) d) (hk : k ≤ 100000) :
    Calls Tryd.prog 19 #[.pointer (some ⟨gk, 0, none⟩), .int .i64 (k : Int)] w fun e w' => e = .returned (.bool (dAt d k)) ∧ ∃ vk vp vi, KnF w0 w' gk g bk N T l vk vp vi ∧ Tch (KS gk bk) w w' := by
  refine (derives_any w0 gk g bk N T l vk vp vi (k : Int) w h ht ⟨by omega, by omega⟩).mono ?_
  rintro e w' ⟨r, vk', vp', vi', rfl, hr, h', t'⟩
  refine ⟨?_, vk', vp', vi', h', t'⟩
  have : r = dAt d k := by
    rw [Bool.eq_iff_iff, hr, hd.2 k]
    unfold derB
    constructor
    · exact fun q => q.2
    · intro q
      have := Der.bound ht.p q
      exact ⟨by unfold outside; simp; omega, q⟩
  rw [this]
theorem derives_out (w0 : World) (gk g bk N : Nat) (T : List Nd) (l : List Int) (vk vp vi : Value) (id : Int) (w : World) (h : KnF w0 w gk g bk N T l vk vp vi) (ht : KnT w0 g T l) (hi : In64 id) (ho : outside T.length id = true) :
    Calls Tryd.prog 19 #[.pointer (some ⟨gk, 0, none⟩), .int .i64 id] w fun e w' => e = .returned (.bool false) ∧ ∃ vk vp vi, KnF w0 w' gk g bk N T l vk vp vi ∧ Tch (KS gk bk) w w' := by
  refine (derives_any w0 gk g bk N T l vk vp vi id w h ht hi).mono ?_
  rintro e w' ⟨r, vk', vp', vi', rfl, hr, h', t'⟩
  refine ⟨?_, vk', vp', vi', h', t'⟩
  cases r with
  | false => rfl
  | true => have := (hr.1 rfl).1; rw [ho] at this; cases this
end Go.Proofs.YtplddbaggbdbiaaDoor
/- Nil states; three states beside one another. No condition. -/
namespace Go.Proofs.YtplddbaggbdbiaaDoor
open Go.RowKit
set_option linter.unusedVariables false
theorem newNil_any (w : World) : Calls Tryd.prog 15 #[.pointer none] w fun e w' => e = .returned (.pointer none) ∧ w = w' := by
  go_enter Tryd.func15, Tryd.ntmps15
  go_wp2_with fail
  go_ret
  exact ⟨rfl, rfl⟩
theorem learnNil_any (v : Value) (w : World) : Calls Tryd.prog 17 #[.pointer none, v] w fun e w' => e = .returned (.tuple #[]) ∧ w = w' := by
  go_enter Tryd.func17, Tryd.ntmps17
  go_wp2_with fail
  exact bodyPost_ret (results_none rfl _ _ _) rfl ⟨rfl, rfl⟩
theorem derivesNil_any (v : Value) (w : World) : Calls Tryd.prog 19 #[.pointer none, v] w fun e w' => e = .returned (.bool false) ∧ w = w' := by
  go_enter Tryd.func19, Tryd.ntmps19
  go_wp2_with fail
  go_ret
  exact ⟨rfl, rfl⟩
/-- A state: where it lies. -/
structure KSt where
  gk : Nat
  bk : Nat
/-- What a state has learned. -/
def Kn1 (w0 w : World) (g : Nat) (T : List Nd) (s : KSt) (N : Nat) (l : List Int) : Prop := ∃ vk vp vi, KnF w0 w s.gk g s.bk N T l vk vp vi
def Off (s s' : KSt) : Prop := s'.gk ≠ s.gk ∧ s'.bk ≠ s.bk
theorem Off.symm {s s' : KSt} (h : Off s s') : Off s' s := ⟨h.1.symm, h.2.symm⟩
theorem Kn1.gr {w0 w w' : World} {g : Nat} {T : List Nd} {s : KSt} {N : Nat} {l : List Int} (h : Kn1 w0 w g T s N l) (hg : Gr w w') : Kn1 w0 w' g T s N l := by
  obtain ⟨vk, vp, vi, h⟩ := h
  exact ⟨vk, vp, vi, h.gr hg⟩
theorem Kn1.bel {w0 w : World} {g : Nat} {T : List Nd} {s : KSt} {N : Nat} {l : List Int} (h : Kn1 w0 w g T s N l) : Below w0.heap.size w0 w := by
  obtain ⟨vk, vp, vi, h⟩ := h
  exact h.bel
theorem Kn1.lt {w0 w : World} {g : Nat} {T : List Nd} {s : KSt} {N : Nat} {l : List Int} (h : Kn1 w0 w g T s N l) : s.gk < w.heap.size ∧ s.bk < w.heap.size := by
  obtain ⟨vk, vp, vi, h⟩ := h
  exact ⟨h.blk.lt, h.m.lt⟩
theorem Kn1.other {w0 w w' : World} {g : Nat} {T : List Nd} {s s' : KSt} {N N' : Nat} {l l' : List Int} (h : Kn1 w0 w g T s N l) (h' : Kn1 w0 w g T s' N' l') (t : Tch (KS s.gk s.bk) w w') (ho : Off s s') : Kn1 w0 w' g T s' N' l' := by
  obtain ⟨vk, vp, vi, h⟩ := h
  obtain ⟨vk', vp', vi', h'⟩ := h'
  exact ⟨vk', vp', vi', h.other h' t ho.1 ho.2⟩
theorem Kn1.new (w0 : World) (g : Nat) (T : List Nd) (w : World) (hb : Below w0.heap.size w0 w) :
    Calls Tryd.prog 15 #[.pointer (some ⟨g, 0, none⟩)] w fun e w' => ∃ s : KSt, e = .returned (.pointer (some ⟨s.gk, 0, none⟩)) ∧ Kn1 w0 w' g T s 0 [] ∧ Gr w w' ∧ w.heap.size ≤ s.gk ∧ w.heap.size ≤ s.bk := by
  refine (knowNew_any w0 g T w hb).mono ?_
  rintro e w' ⟨gk, bk, rfl, k, hg, h1, h2⟩
  exact ⟨⟨gk, bk⟩, rfl, ⟨_, _, _, k⟩, hg, h1, h2⟩
theorem Kn1.learn {w0 : World} {g : Nat} {T : List Nd} {s : KSt} {N : Nat} {l : List Int} {A : Option Addr} {n c : Nat} {ids : List Int} {w : World} (h : Kn1 w0 w g T s N l) (ht : TRd w0 g T) (hk : Kinds T) (hi : Is w A n c ids) (hf : ∀ x ∈ ids, In64 x) (hN : N + n ≤ 1000000) :
    Calls Tryd.prog 17 #[.pointer (some ⟨s.gk, 0, none⟩), .slice A n c] w fun e w' => e = .returned (.tuple #[]) ∧ Kn1 w0 w' g T s (N + n) (l ++ okIds T ids) ∧ Tch (KS s.gk s.bk) w w' := by
  obtain ⟨vk, vp, vi, h⟩ := h
  refine (learn_any w0 s.gk g s.bk N T l vk vp vi A n c ids w h ht hk hi hf hN).mono ?_
  rintro e w' ⟨rfl, k, t⟩
  exact ⟨rfl, ⟨_, _, _, k⟩, t⟩
theorem Kn1.derives {w0 : World} {g : Nat} {T : List Nd} {s : KSt} {N : Nat} {l : List Int} {d : List Bool} {w : World} (h : Kn1 w0 w g T s N l) (ht : KnT w0 g T l) (hd : Tells T (InL l) d) (k : Nat) (hk : k ≤ 100000) :
    Calls Tryd.prog 19 #[.pointer (some ⟨s.gk, 0, none⟩), .int .i64 (k : Int)] w fun e w' => e = .returned (.bool (dAt d k)) ∧ Kn1 w0 w' g T s N l ∧ Tch (KS s.gk s.bk) w w' := by
  obtain ⟨vk, vp, vi, h⟩ := h
  refine (derives_at w0 s.gk g s.bk N T l vk vp vi d k w h ht hd hk).mono ?_
  rintro e w' ⟨rfl, a, b, c, k, t⟩
  exact ⟨rfl, ⟨_, _, _, k⟩, t⟩
/-- A row of ints stays. -/
theorem Kn1.row {w0 w w' : World} {g : Nat} {T : List Nd} {s : KSt} {N : Nat} {l : List Int} (h : Kn1 w0 w g T s N l) {A : Option Addr} {m c : Nat} {xs : List Int} (hr : Is w A m c xs) (t : Tch (KS s.gk s.bk) w w') : Is w' A m c xs := by
  obtain ⟨vk, vp, vi, h⟩ := h
  exact hr.tch (by decide) t (fun h0 b o e => h.row_off hr h0 b o e)
end Go.Proofs.YtplddbaggbdbiaaDoor
