/- Own texts of this claim, one behind the other. No condition. -/
import Derived.Test.YtfemhhjmfckicaaDoorObPkF
import Derived.Test.YtfemhhjmfckicaaDoorObPkH
import Derived.Outline
import Derived.Lib.Join
import Derived.Lib.SplitLaws
import Derived.Lib.CountLaws

/- What a call turns: a set of blocks, and new memory. No condition. -/
namespace Go.Proofs.YtfemhhjmfckicaaDoor
open Go.RowKit
set_option linter.unusedVariables false
/-- From w to w' only the blocks of S have turned, and new ones have come. -/
structure Tch (S : Nat → Prop) (w w' : World) : Prop where
  bel : Below 0 w w'
  keep : ∀ b, b < w.heap.size → ¬ S b → w'.heap[b]? = w.heap[b]?
theorem Tch.size {S : Nat → Prop} {w w' : World} (h : Tch S w w') : w.heap.size ≤ w'.heap.size := h.bel.size
theorem Tch.gr {S : Nat → Prop} {w w' : World} (h : Gr w w') : Tch S w w' := ⟨Below.mono h (Nat.zero_le _), fun b hb _ => h.block b hb⟩
theorem Tch.refl {S : Nat → Prop} (w : World) : Tch S w w := Tch.gr (Gr.refl w)
theorem Tch.trans {S : Nat → Prop} {a b c : World} (h : Tch S a b) (k : Tch S b c) : Tch S a c :=
  ⟨h.bel.trans k.bel, fun x hx hs => (k.keep x (Nat.lt_of_lt_of_le hx h.size) hs).trans (h.keep x hx hs)⟩
/-- A set that is new memory from a's point of view counts for nothing. -/
theorem Tch.trans' {S S' : Nat → Prop} {a b c : World} (h : Tch S a b) (k : Tch S' b c) (hs : ∀ x, x < a.heap.size → S' x → S x) : Tch S a c :=
  ⟨h.bel.trans k.bel, fun x hx hn => (k.keep x (Nat.lt_of_lt_of_le hx h.size) (fun q => hn (hs x hx q))).trans (h.keep x hx hn)⟩
theorem Tch.mono {S S' : Nat → Prop} {w w' : World} (h : Tch S w w') (hs : ∀ b, b < w.heap.size → S b → S' b) : Tch S' w w' := ⟨h.bel, fun b hb hn => h.keep b hb (fun q => hn (hs b hb q))⟩
theorem Tch.below {S : Nat → Prop} {B : Nat} {a w w' : World} (hb : Below B a w) (h : Tch S w w') (hB : B ≤ w.heap.size) (hS : ∀ b, S b → B ≤ b) : Below B a w' :=
  hb.trans ⟨h.bel.os, h.bel.tape, h.bel.output, h.size, fun k hk => h.keep k (by omega) (fun q => by have := hS k q; omega)⟩
theorem Tch.to_gr {S : Nat → Prop} {w w' : World} (h : Tch S w w') (hS : ∀ b, b < w.heap.size → ¬ S b) : Gr w w' := ⟨h.bel.os, h.bel.tape, h.bel.output, h.size, fun k hk => h.keep k hk (hS k hk)⟩
theorem Tch.set {S : Nat → Prop} {w : World} (p : Addr) (u : Value) (hS : S p.block) : Tch S w (w.setCell p u) :=
  ⟨(Below.refl 0 w).setCell (Nat.zero_le _) u, fun b _ hn => Below.heap_setCell w p u b (fun e => hn (e ▸ hS))⟩
theorem Tch.grown {S : Nat → Prop} {w w' : World} {row : Option Nat} (hg : w.grownBy w' row) (hr : ∀ k, row = some k → S k) : Tch S w w' :=
  ⟨(Below.refl 0 w).grown hg (Nat.zero_le _) (fun _ _ => Nat.zero_le _), fun b hb hn => hg.block b hb (fun e => hn (hr b e.symm))⟩
section
variable {S : Nat → Prop} {w w' : World}
theorem Blk.tch {g : Nat} {t : TypeId} {cs : List Value} (h : Blk w g t cs) (k : Tch S w w') (hn : ¬ S g) : Blk w' g t cs := (k.keep g h.lt hn).trans h
theorem Sl.lt {A : Option Addr} {n c s : Nat} {xs : List Value} (h : Sl w A n c s xs) (hs : 0 < s) (hn : 0 < n) {b o : Nat} (e : A = some ⟨b, o, none⟩) : b < w.heap.size := by
  obtain ⟨h1, _, _, h4⟩ := h
  obtain ⟨b', o', e', hc⟩ := h4 hn
  rw [e] at e'
  injection e' with e'
  injection e' with e1 e2
  subst e1
  have hl : 0 < xs.length := by rw [h1]; exact Nat.mul_pos hn hs
  have hcell := hc 0 _ (List.getElem?_eq_getElem hl)
  exact World.block_lt_of_cell? w _ hcell
theorem Sl.tch {A : Option Addr} {n c s : Nat} {xs : List Value} (h : Sl w A n c s xs) (hs : 0 < s) (k : Tch S w w') (hn : 0 < n → ∀ b o, A = some ⟨b, o, none⟩ → ¬ S b) : Sl w' A n c s xs := by
  refine ⟨h.1, h.2.1, h.2.2.1, fun h0 => ?_⟩
  obtain ⟨b, o, e, hc⟩ := h.2.2.2 h0
  refine ⟨b, o, e, fun j u hu => ?_⟩
  rw [World.cell?_of_block (w := w) (a := ⟨b, o + j, none⟩) (k.keep b (Sl.lt h hs h0 e) (hn h0 b o e))]
  exact hc j u hu
theorem Own.tch {w0 : World} {e : TypeId} {s n : Nat} {v : Value} {xs : List Value} (h : Own w0 w e s v n xs) (k : Tch S w w') (hB : ∀ b, S b → w0.heap.size ≤ b) (hn : ∀ b, v.ownBlock = some b → ¬ S b) : Own w0 w' e s v n xs := by
  have hb : Below w0.heap.size w0 w' := k.below h.2 h.2.size hB
  obtain ⟨⟨hl, ho⟩, _⟩ := h
  refine ⟨⟨hl, ?_⟩, hb⟩
  rcases ho with h | ⟨g, cap, cur, hv, hg, hh, r⟩
  · exact .inl h
  · exact .inr ⟨g, cap, cur, hv, hg, by rw [k.keep g (Array.getElem?_eq_some_iff.1 hh).1 (hn g (by rw [hv]; rfl))]; exact hh, r⟩
/-- Where the first cell is of another kind, the block is another one. -/
theorem Sl.not_blk {A : Option Addr} {n c s : Nat} {xs cs : List Value} {g : Nat} {t : TypeId} (h : Sl w A n c s xs) (hs : 0 < s) (hb : Blk w g t cs) (hk : ∀ u ∈ cs, ∀ x, xs[0]? = some x → u ≠ x) (hn : 0 < n) {b o : Nat} (e : A = some ⟨b, o, none⟩) : b ≠ g := by
  rintro rfl
  obtain ⟨h1, _, _, h4⟩ := h
  obtain ⟨b', o', e', hc⟩ := h4 hn
  rw [e] at e'
  injection e' with e'
  injection e' with e1 e2
  subst e1 e2
  have hl : 0 < xs.length := by rw [h1]; exact Nat.mul_pos hn hs
  have hcell := hc 0 _ (List.getElem?_eq_getElem hl)
  rw [Nat.add_zero, hb.cell] at hcell
  exact hk _ (List.mem_of_getElem? hcell) _ (List.getElem?_eq_getElem hl) rfl
theorem Sl.not_map {A : Option Addr} {n c s : Nat} {xs : List Value} {g : Nat} {es : Array MapEntry} {clock : Nat} (h : Sl w A n c s xs) (hs : 0 < s) (hm : w.heap[g]? = some (.map es clock)) (hn : 0 < n) {b o : Nat} (e : A = some ⟨b, o, none⟩) : b ≠ g := by
  rintro rfl
  obtain ⟨h1, _, _, h4⟩ := h
  obtain ⟨b', o', e', hc⟩ := h4 hn
  rw [e] at e'
  injection e' with e'
  injection e' with e1 e2
  subst e1 e2
  have hl : 0 < xs.length := by rw [h1]; exact Nat.mul_pos hn hs
  have hcell := hc 0 _ (List.getElem?_eq_getElem hl)
  simp [World.cell?, hm] at hcell
theorem Own.not_map {w0 : World} {e : TypeId} {s n : Nat} {v : Value} {xs : List Value} {g : Nat} {es : Array MapEntry} {clock : Nat} (h : Own w0 w e s v n xs) (hm : w.heap[g]? = some (.map es clock)) : v.ownBlock ≠ some g := by
  intro hv
  rcases h.1.2 with ⟨h1, _⟩ | ⟨g', cap, cur, hv', _, hh, _⟩
  · rw [h1] at hv; cases hv
  · have e1 : g' = g := by rw [hv'] at hv; exact Option.some.inj hv
    rw [e1, hm] at hh
    cases hh
theorem Own.not_blk {w0 : World} {e t : TypeId} {s n g : Nat} {v : Value} {xs cs : List Value} (h : Own w0 w e s v n xs) (hb : Blk w g t cs) (he : e ≠ t) : v.ownBlock ≠ some g := by
  intro hv
  rcases h.1.2 with ⟨h1, _⟩ | ⟨g', cap, cur, hv', _, hh, _⟩
  · rw [h1] at hv; cases hv
  · have e1 : g' = g := by rw [hv'] at hv; exact Option.some.inj hv
    rw [e1, hb] at hh
    injection hh with hh
    injection hh with _ h3
    exact he h3.symm
end
/-- append turns the slice's own block alone. -/
theorem Tch.kept {w0 w w' : World} {e : TypeId} {s n : Nat} {v v' : Value} {xs : List Value} (hk : Kept w w' v v') (h : Own w0 w' e s v' n xs) (hB : Below w0.heap.size w0 w) : Tch (fun b => v.ownBlock = some b) w w' :=
  ⟨⟨h.2.os.trans hB.os.symm, h.2.tape.trans hB.tape.symm, h.2.output.trans hB.output.symm, hk.2.1, fun k hk => by omega⟩, fun b hb hn => hk.1 b hb hn⟩
/-- A row of the call's own, cell by cell, with the room behind it. -/
theorem Own.opened {w0 w : World} {e : TypeId} {s n : Nat} {v : Value} {xs : List Value} (h : Own w0 w e s v n xs) (h0 : 0 < n) : ∃ g cap rest, v = .slice (some ⟨g, 0, none⟩) n cap ∧ w0.heap.size ≤ g ∧ Blk w g e (xs ++ rest) ∧ n ≤ cap ∧ cap ≤ 9223372036854775807 ∧ (xs ++ rest).length = cap * s := by
  rcases h.1.2 with ⟨_, h1⟩ | ⟨g, cap, cur, hv, hg, hh, hn, hm, hc, hx⟩
  · omega
  · have e1 : xs ++ cur.toList.drop (n * s) = cur.toList := by rw [← hx, List.take_append_drop]
    refine ⟨g, cap, cur.toList.drop (n * s), hv, hg, ?_, hn, hm, ?_⟩
    · unfold Blk
      rw [e1]
      simpa using hh
    · rw [e1]; simpa using hc
/-- .. and back. -/
theorem Blk.closed {w0 w : World} {e : TypeId} {s n g cap : Nat} {xs rest : List Value} (h : Blk w g e (xs ++ rest)) (hb : Below w0.heap.size w0 w) (hg : w0.heap.size ≤ g) (hn : n ≤ cap) (hm : cap ≤ 9223372036854775807) (hc : (xs ++ rest).length = cap * s) (hx : xs.length = n * s) : Own w0 w e s (.slice (some ⟨g, 0, none⟩) n cap) n xs :=
  ⟨⟨hx, .inr ⟨g, cap, (xs ++ rest).toArray, rfl, hg, h, hn, hm, by simpa using hc, by rw [← hx]; simp⟩⟩, hb⟩
theorem set_left (xs rest : List Value) (k : Nat) (u : Value) (hk : k < xs.length) : (xs ++ rest).set k u = xs.set k u ++ rest := by rw [List.set_append, if_pos hk]
theorem at_left {xs rest : List Value} {k : Nat} {u : Value} (h : xs[k]? = some u) : (xs ++ rest)[k]? = some u := by
  rw [List.getElem?_append_left (List.getElem?_eq_some_iff.1 h).1]; exact h
end Go.Proofs.YtfemhhjmfckicaaDoor

/- Names: the reference's pieces between points. No condition. -/
namespace Go.Proofs.YtfemhhjmfckicaaDoor
open Go.RowKit
set_option linter.unusedVariables false
theorem tWords : ElemT Tryd.prog 22 9 (.string ⟨#[]⟩) 1 16 := ⟨Tryd.underlying22, by kernel_rfl, rfl, by decide, by decide⟩
/-- A text's value. -/
def strc (p : List UInt8) : Value := .string ⟨p.toArray⟩
theorem strc_one (p : List UInt8) : ∀ u ∈ [strc p], u.oneCell' = true := by intro u hu; simp at hu; subst hu; rfl
theorem pieces_snd : ∀ l : List UInt8, ∃ init z, piecesL l = init ++ [z] := fun l => by
  obtain ⟨init, z, h⟩ := List.eq_nil_or_concat (piecesL l) |>.resolve_left (pieces_ne l)
  exact ⟨init, z, by simpa using h⟩
theorem pieces_size : ∀ l : List UInt8, (piecesL l).length ≤ l.length + 1 ∧ ∀ p ∈ piecesL l, p.length ≤ l.length
  | [] => ⟨by simp [piecesL], by simp [piecesL]⟩
  | b :: t => by
    obtain ⟨h1, h2⟩ := pieces_size t
    unfold piecesL
    by_cases hb : b = 46
    · rw [if_pos hb]
      refine ⟨by simp; exact h1, fun p hp => ?_⟩
      rcases List.mem_cons.1 hp with rfl | hp
      · simp
      · have := h2 p hp; simp; omega
    · rw [if_neg hb]
      cases hq : piecesL t with
      | nil => exact absurd hq (pieces_ne t)
      | cons q ps =>
        rw [hq] at h1 h2
        refine ⟨by show ((b :: q) :: ps).length ≤ _; simp at h1 ⊢; omega, fun p hp => ?_⟩
        have hp : p ∈ (b :: q) :: ps := hp
        rcases List.mem_cons.1 hp with rfl | hp
        · have := h2 q List.mem_cons_self; simp; omega
        · have := h2 p (List.mem_cons_of_mem _ hp); simp; omega
theorem push_point (init : List (List UInt8)) (z : List UInt8) : pushP (init ++ [z]) 46 = (init ++ [z]) ++ [[]] := by unfold pushP; rw [if_pos rfl]
theorem push_other (init : List (List UInt8)) (z : List UInt8) (b : UInt8) (h : b ≠ 46) : pushP (init ++ [z]) b = init ++ [z ++ [b]] := by
  unfold pushP
  rw [if_neg h, List.dropLast_concat, List.getLastD_concat]
theorem set_last (init : List (List UInt8)) (z q : List UInt8) (n : Nat) (hn : n = init.length) : ((init ++ [z]).map strc).set n (strc q) = (init ++ [q]).map strc := by
  subst hn
  rw [List.map_append, List.map_append, List.set_append]
  simp
theorem extract_one (l : List UInt8) (s : ByteArray) (hs : s = ⟨l.toArray⟩) (k : Nat) (h : k < l.length) : s.extract k (k + 1) = ⟨[l[k]].toArray⟩ := by
  subst hs
  apply ByteArray.ext
  simp [ByteArray.extract, ByteArray.copySlice]
  rw [List.drop_eq_getElem_cons h]
  rfl
theorem ba_snoc (p : List UInt8) (b : UInt8) : (⟨p.toArray⟩ : ByteArray) ++ ⟨[b].toArray⟩ = ⟨(p ++ [b]).toArray⟩ := by
  apply ByteArray.ext
  simp
/-- An own row of texts. -/
def RetWs (w : World) (ps : List (List UInt8)) (e : Ending) (w' : World) : Prop := ∃ v, e = .returned v ∧ Own w w' 9 1 v ps.length (ps.map strc)
end Go.Proofs.YtfemhhjmfckicaaDoor

/- Names: the reference's Right, Split, Join, and rows of words. No condition. -/
namespace Go.Proofs.YtfemhhjmfckicaaDoor
open Go.RowKit
set_option linter.unusedVariables false
/-- A slice that reads as texts. -/
abbrev Ws (w : World) (A : Option Addr) (n c : Nat) (ps : List (List UInt8)) : Prop := Sl w A n c 1 (ps.map strc)
theorem Ws.len {w : World} {A : Option Addr} {n c : Nat} {ps : List (List UInt8)} (h : Ws w A n c ps) : ps.length = n := by have := Sl.len h; simpa using this
theorem Ws.addr {w : World} {A : Option Addr} {n c : Nat} {ps : List (List UInt8)} (h : Ws w A n c ps) (hn : 0 < n) : ∃ b o, A = some ⟨b, o, none⟩ ∧ ∀ j (hj : j < ps.length), w.cell? ⟨b, o + j, none⟩ = some (.string ⟨ps[j].toArray⟩) := by
  obtain ⟨b, o, e, hc⟩ := Sl.addr h hn
  exact ⟨b, o, e, fun j hj => hc j _ (by rw [List.getElem?_map, List.getElem?_eq_getElem hj]; rfl)⟩
theorem Own.onto {w0 w1 w : World} {e : TypeId} {size n : Nat} {v : Value} {xs : List Value} (h : Own w1 w e size v n xs) (hb : Below w0.heap.size w0 w1) : Own w0 w e size v n xs := by
  refine ⟨⟨h.1.1, ?_⟩, hb.trans (h.2.mono hb.size)⟩
  rcases h.1.2 with h' | ⟨g, cap, cur, hv, hg, r⟩
  · exact .inl h'
  · exact .inr ⟨g, cap, cur, hv, Nat.le_trans hb.size hg, r⟩
/-! ### parts of slices -/
theorem Sl.gr {w w' : World} {A : Option Addr} {n c s : Nat} {xs : List Value} (h : Sl w A n c s xs) (g : Gr w w') : Sl w' A n c s xs := h.mono g
/-- What Split tells. -/
def splitL (l : List UInt8) : List (List UInt8) := if rightL l = true then piecesL l else []
end Go.Proofs.YtfemhhjmfckicaaDoor

/- Names: the reference's Join, and the laws on joined and split texts. No condition. -/
namespace Go.Proofs.YtfemhhjmfckicaaDoor
open Go.RowKit
set_option linter.unusedVariables false
def joinL (ps : List (List UInt8)) : List UInt8 := Lib.join ps [46]
theorem joinL_nil : joinL [] = [] := rfl
theorem joinL_one (x : List UInt8) : joinL [x] = x := Lib.join_one x _
theorem joinTail_snoc (r : List (List UInt8)) (x : List UInt8) : Lib.joinTail [46] (r ++ [x]) = Lib.joinTail [46] r ++ ([46] ++ x) := by simp [Lib.joinTail]
theorem joinL_snoc (xs : List (List UInt8)) (x : List UInt8) (h : xs ≠ []) : joinL (xs ++ [x]) = joinL xs ++ [46] ++ x := by
  match xs, h with
  | y :: r, _ =>
    unfold joinL
    rw [List.cons_append, Lib.join_cons, Lib.join_cons, joinTail_snoc]
    simp
theorem joinTail_len (B : Nat) : ∀ r : List (List UInt8), (∀ p ∈ r, p.length ≤ B) → (Lib.joinTail [46] r).length ≤ r.length * (B + 1)
  | [], _ => by simp [Lib.joinTail]
  | x :: r, h => by
    have ih := joinTail_len B r (fun p hp => h p (List.mem_cons_of_mem _ hp))
    have hx := h x List.mem_cons_self
    have e : Lib.joinTail [46] (x :: r) = ([46] ++ x) ++ Lib.joinTail [46] r := by simp [Lib.joinTail]
    have e2 : (x :: r).length * (B + 1) = r.length * (B + 1) + (B + 1) := by rw [List.length_cons, Nat.add_mul, Nat.one_mul]
    have e3 : ([46] ++ x : List UInt8).length = 1 + x.length := by simp; omega
    rw [e, List.length_append, e3, e2]
    omega
theorem joinL_len (B : Nat) (xs : List (List UInt8)) (h : ∀ p ∈ xs, p.length ≤ B) : (joinL xs).length ≤ xs.length * (B + 1) := by
  match xs, h with
  | [], _ => simp [joinL_nil]
  | y :: r, h =>
    unfold joinL
    have e2 : (y :: r).length * (B + 1) = r.length * (B + 1) + (B + 1) := by rw [List.length_cons, Nat.add_mul, Nat.one_mul]
    rw [Lib.join_cons, List.length_append, e2]
    have := joinTail_len B r (fun p hp => h p (List.mem_cons_of_mem _ hp))
    have := h y List.mem_cons_self
    omega
theorem take_text' (l : List UInt8) (s : ByteArray) (hs : s = ⟨l.toArray⟩) (k : Nat) : s.extract 0 k = ⟨(l.take k).toArray⟩ := by
  subst hs
  apply ByteArray.ext
  simp [ByteArray.extract, ByteArray.copySlice]
/-- What Join tells: a text and a fault. -/
def joinR (ps : List (List UInt8)) : List UInt8 × Nat := if ps.length < 1 ∨ 4 < ps.length then ([], 3) else if ps.all partL = false then ([], 3) else if rightL (joinL ps) = false then ([], 6) else (joinL ps, 0)
def RetJ (w : World) (r : List UInt8 × Nat) (e : Ending) (w' : World) : Prop := e = .returned (.tuple #[strc r.1, .int .i64 (r.2 : Int)]) ∧ Gr w w'
theorem split_pieces : ∀ (k : Nat) (s : ByteArray), Lib.countB s ⟨#[46]⟩ = k → (Lib.splitB ⟨#[46]⟩ 0 k s).map Value.string = (piecesL s.data.toList).map strc := by
  intro k
  induction k with
  | zero =>
    intro s hk
    have hix : Lib.indexB s ⟨#[46]⟩ = Lib.indexByte s.data.toList 46 := Lib.index_one s.data.toList 46
    rcases pieces_index s.data.toList _ rfl with ⟨hi, hp⟩ | ⟨j, hi, hj, hp⟩
    · rw [hp]; rfl
    · rw [hi] at hix
      have := Lib.countB_hit s ⟨#[46]⟩ j (by decide) hix
      omega
  | succ k ih =>
    intro s hk
    have hix : Lib.indexB s ⟨#[46]⟩ = Lib.indexByte s.data.toList 46 := Lib.index_one s.data.toList 46
    rcases pieces_index s.data.toList _ rfl with ⟨hi, hp⟩ | ⟨j, hi, hj, hp⟩
    · rw [hi] at hix
      have := Lib.countB_miss s ⟨#[46]⟩ hix
      omega
    · rw [hi] at hix
      have hc := Lib.countB_hit s ⟨#[46]⟩ j (by decide) hix
      rw [Lib.splitB_hit _ 0 k s j hix, hp, List.map_cons, List.map_cons, ih _ (by omega)]
      have e1 : (⟨#[46]⟩ : ByteArray).size = 1 := rfl
      have hs : s = ⟨s.data.toList.toArray⟩ := by cases s; rfl
      congr 1
      · show Value.string _ = strc _
        unfold strc
        rw [← take_text' _ s hs j]
        rfl
      · rw [e1, drop_text _ s hs (j + 1)]
end Go.Proofs.YtfemhhjmfckicaaDoor
