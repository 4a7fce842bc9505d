/- ObOqM, ObOqF, ObOqR: one text. No condition. -/
import Derived.Test.YtadenlhnfkccaaaDoorObOqL
import Derived.Test.YtadenlhnfkccaaaDoorObTch
import Derived.Test.YtadenlhnfkccaaaDoorObInts
import Derived.Test.YtadenlhnfkccaaaDoorObHexQ
import Derived.Outline
import Derived.Test.YtadenlhnfkccaaaDoorObOqCD
import Derived.Test.YtadenlhnfkccaaaDoorObOpU
/- Answers as lines: how large what is gathered is; the frame of op.Read's answer. No condition. -/
namespace Go.Proofs.YtadenlhnfkccaaaDoor
open Go.RowKit
set_option linter.unusedVariables false
set_option linter.unusedSimpArgs false
theorem hexG_bd : ∀ l : List UInt8, (hexG l).length ≤ l.length
  | a :: b :: t => by
    have := hexG_bd t
    simp only [hexG, List.length_cons]; omega
  | [] => Nat.le_refl _
  | [a] => by simp [hexG]
theorem hexR_bd (l : List UInt8) : (hexR l).1.length ≤ l.length := by
  unfold hexR
  split
  · simp
  · split
    · simp
    · exact hexG_bd l
theorem trimE_le (x : List UInt8) : (trimE x).length ≤ x.length := by
  unfold trimE
  split <;> simp
theorem parseN_bd (l : List UInt8) (m : Int) (hm : 0 ≤ m) : 0 ≤ parseN l m ∧ parseN l m ≤ m := by
  unfold parseN
  split
  · omega
  · split
    · omega
    · omega
structure GotOk (a : AnD) (j L : Nat) : Prop where
  n : a.n.length ≤ j
  b : a.b.length ≤ L
  t : a.t.length ≤ L
  r : ∀ x ∈ a.n, -9223372036854775808 ≤ x ∧ x ≤ 9223372036854775807
theorem GotOk.eat {a : AnD} {j L : Nat} (h : GotOk a j L) (x : List UInt8) (hx : x.length ≤ L) : GotOk (eatA a x) (j + 1) L := by
  unfold eatA
  split
  · refine ⟨by have := h.n; simp only [List.length_append, List.length_cons, List.length_nil]; omega, h.b, h.t, fun y hy => ?_⟩
    rcases List.mem_append.1 hy with hy | hy
    · exact h.r y hy
    · simp only [List.mem_singleton] at hy
      subst hy
      have := parseN_bd x 1073741824 (by decide)
      omega
  · split
    · refine ⟨Nat.le_succ_of_le h.n, ?_, h.t, h.r⟩
      have h1 := hexR_bd x.tail
      have h2 : x.tail.length ≤ x.length := by simp
      show (hexR x.tail).1.length ≤ L
      omega
    · exact ⟨Nat.le_succ_of_le h.n, h.b, Nat.le_trans (trimE_le x) hx, h.r⟩
theorem got_ok {L : Nat} : ∀ (xs : List (List UInt8)) (a : AnD) (j : Nat), (∀ x ∈ xs, x.length ≤ L) → GotOk a j L → GotOk (xs.foldl eatA a) (j + xs.length) L
  | [], a, j, _, h => h
  | x :: xs, a, j, hx, h => by
    have := got_ok xs (eatA a x) (j + 1) (fun y hy => hx y (List.mem_cons_of_mem _ hy)) (h.eat x (hx x List.mem_cons_self))
    rw [List.foldl_cons, List.length_cons]
    rw [show j + (xs.length + 1) = j + 1 + xs.length by omega]
    exact this
def got0 (l : List UInt8) : AnD := ⟨faultT ((cutL 32 l).headD []), [], [], []⟩
def gotJ (l : List UInt8) (j : Nat) : AnD := ((cutL 32 l).tail.take j).foldl eatA (got0 l)
theorem gotJ_ok (l : List UInt8) (j : Nat) : GotOk (gotJ l j) j l.length := by
  have h := cut_size 32 l
  have := got_ok (L := l.length) ((cutL 32 l).tail.take j) (got0 l) 0 (fun x hx => h.2 x (List.mem_of_mem_tail (List.mem_of_mem_take hx))) ⟨Nat.le_refl _, Nat.zero_le _, Nat.zero_le _, fun x hx => by cases hx⟩
  refine ⟨?_, this.b, this.t, this.r⟩
  have h1 := this.n
  rw [List.length_take] at h1
  show (gotJ l j).n.length ≤ j
  unfold gotJ
  omega
theorem gotJ_zero (l : List UInt8) : gotJ l 0 = got0 l := rfl
theorem gotJ_succ (l : List UInt8) (j : Nat) (h : j < (cutL 32 l).tail.length) : gotJ l (j + 1) = eatA (gotJ l j) (cutL 32 l).tail[j] := by
  unfold gotJ
  rw [List.take_succ_eq_append_getElem h, List.foldl_append]
  rfl
theorem gotJ_all (l : List UInt8) (j : Nat) (h : (cutL 32 l).tail.length ≤ j) : gotJ l j = gotA l := by
  unfold gotJ
  rw [List.take_of_length_le h]
  rfl
theorem pre_one (c : UInt8) (x : List UInt8) : Lib.hasPrefix x [c] = decide (x.head? = some c) := by
  unfold Lib.hasPrefix
  cases x with
  | nil => rfl
  | cons b t =>
    simp only [List.isPrefixOf, Bool.and_true, List.head?_cons, Option.some.injEq]
    by_cases h : c = b
    · subst h; simp
    · rw [beq_eq_false_iff_ne.2 h, decide_eq_false (fun e => h e.symm)]
theorem trim_hash {x : List UInt8} (h : x.head? = some 35) : Lib.trimPrefix x [35] = x.tail := by
  unfold Lib.trimPrefix
  rw [pre_one, decide_eq_true h, if_pos rfl]
  simp
theorem trim_eq (x : List UInt8) : Lib.trimPrefix x [61] = trimE x := by
  unfold Lib.trimPrefix
  rw [pre_one]
  cases x with
  | nil => rfl
  | cons b t =>
    by_cases h : b = 61
    · subst h; simp [trimE]
    · rw [if_neg (by simp [h])]
      unfold trimE
      split
      · rename_i e; injection e with e; exact absurd e h
      · rfl
/-! ### the frame -/
theorem Own.other {w0 w0' w : World} {e e' : TypeId} {s s' n n' : Nat} {v u : Value} {xs xs' : List Value} (h : Own w0 w e s v n xs) (k : Own w0' w e' s' u n' xs') (he : e ≠ e') {g : Nat} (hv : v.ownBlock = some g) : u.ownBlock ≠ some g := by
  rcases h.1.2 with ⟨h1, _⟩ | ⟨g', cap, cur, hv', _, hh, _⟩
  · rw [h1] at hv; cases hv
  · have e1 : g' = g := by rw [hv'] at hv; exact Option.some.inj hv
    subst e1
    exact k.not_blk (show Blk w g' e cur.toList from hh) (fun x => he x.symm)
/-- What an answer that is being read lies in: R, its bytes, its numbers; the words in V. -/
structure RdOk (w : World) (V : Nat) (ws : List (List UInt8)) (wr : World) (a : AnD) (A : Option Addr) (c : Nat) (B : Option Addr) (q : Nat) : Prop where
  r : Blk wr w.heap.size 37 (anC a A a.b.length c B a.n.length q).toList
  g : Gr w wr
  b : Own w wr 5 1 (.slice A a.b.length c) a.b.length (a.b.map u8c)
  n : Own w wr 3 1 (.slice B a.n.length q) a.n.length (a.n.map i64c)
  v : Blk wr V 9 (ws.map strc)
  vr : w.heap.size < V
theorem RdOk.gr {w wr wr' : World} {V : Nat} {ws : List (List UInt8)} {a : AnD} {A B : Option Addr} {c q : Nat} (h : RdOk w V ws wr a A c B q) (g : Gr wr wr') : RdOk w V ws wr' a A c B q := ⟨h.r.mono g, h.g.trans g, h.b.mono g, h.n.mono g, h.v.mono g, h.vr⟩
theorem RdOk.setN {w wr wx w' : World} {V : Nat} {ws : List (List UInt8)} {a : AnD} {A B : Option Addr} {c q : Nat} (h : RdOk w V ws wr a A c B q) (hx : Gr wr wx) {v' : Value} {n : Int} (o : Own w w' 3 1 v' (a.n.length + 1) (a.n.map i64c ++ [.int .i64 n])) (k : Kept wx w' (.slice B a.n.length q) v') :
    ∃ B' q', v' = .slice B' (a.n.length + 1) q' ∧ Blk w' w.heap.size 37 (anC a A a.b.length c B a.n.length q).toList ∧ RdOk w V ws (w'.setCell ⟨w.heap.size, 2, none⟩ v') { a with n := a.n ++ [n] } A c B' q' := by
  have h := h.gr hx
  obtain ⟨B', q', rfl, _⟩ := o.slice
  have T := Tch.kept k o h.g
  have nR : (Value.slice B a.n.length q).ownBlock ≠ some w.heap.size := h.n.not_blk h.r (by decide)
  have nV : (Value.slice B a.n.length q).ownBlock ≠ some V := h.n.not_blk h.v (by decide)
  have hr := h.r.tch T nR
  have hv := h.v.tch T nV
  have nR' : (Value.slice B' (a.n.length + 1) q').ownBlock ≠ some w.heap.size := o.not_blk hr (by decide)
  have hb := h.b.tch T (fun b hb => by
    rcases h.n.1.2 with ⟨h1, _⟩ | ⟨g', cap, cur, hv', hg, _⟩
    · rw [h1] at hb; cases hb
    · rw [hv'] at hb; have hgb : g' = b := Option.some.inj hb; omega) (fun b hb => h.b.other h.n (by decide) hb)
  have nA : (Value.slice A a.b.length c).ownBlock ≠ some w.heap.size := hb.not_blk hr (by decide)
  have TS : Tch (fun b => b = w.heap.size) w' (w'.setCell ⟨w.heap.size, 2, none⟩ (.slice B' (a.n.length + 1) q')) := Tch.set _ _ rfl
  refine ⟨B', q', rfl, hr, ?_, TS.below o.2 o.2.size (fun b hb => by omega), hb.tch TS (fun b hb => by omega) (fun b hb hS => nA (hS ▸ hb)), ?_, hv.tch TS (by have := h.vr; omega), h.vr⟩
  · have := hr.set 2 (.slice B' (a.n.length + 1) q')
    simpa [anC] using this
  · have := o.tch TS (fun b hb => by omega) (fun b hb hS => nR' (hS ▸ hb))
    simpa [i64c] using this
theorem RdOk.setB {w wr w' : World} {V : Nat} {ws : List (List UInt8)} {a : AnD} {A B : Option Addr} {c q : Nat} (h : RdOk w V ws wr a A c B q) {v : Value} {bs : List UInt8} (o : Own wr w' 5 1 v bs.length (bs.map u8c)) :
    ∃ A' c', v = .slice A' bs.length c' ∧ Blk w' w.heap.size 37 (anC a A a.b.length c B a.n.length q).toList ∧ RdOk w V ws (w'.setCell ⟨w.heap.size, 1, none⟩ v) { a with b := bs } A' c' B q := by
  have h' := h.gr o.below
  obtain ⟨A', c', rfl, _⟩ := o.slice
  have o := o.onto h.g
  have nA : (Value.slice A' bs.length c').ownBlock ≠ some w.heap.size := o.not_blk h'.r (by decide)
  have nN : (Value.slice B a.n.length q).ownBlock ≠ some w.heap.size := h'.n.not_blk h'.r (by decide)
  have TS : Tch (fun b => b = w.heap.size) w' (w'.setCell ⟨w.heap.size, 1, none⟩ (.slice A' bs.length c')) := Tch.set _ _ rfl
  refine ⟨A', c', rfl, h'.r, ?_, TS.below o.2 o.2.size (fun b hb => by omega), o.tch TS (fun b hb => by omega) (fun b hb hS => nA (hS ▸ hb)), h'.n.tch TS (fun b hb => by omega) (fun b hb hS => nN (hS ▸ hb)), h'.v.tch TS (by have := h.vr; omega), h.vr⟩
  have := h'.r.set 1 (.slice A' bs.length c')
  simpa [anC] using this
theorem RdOk.setT {w wr : World} {V : Nat} {ws : List (List UInt8)} {a : AnD} {A B : Option Addr} {c q : Nat} (h : RdOk w V ws wr a A c B q) (t : List UInt8) :
    RdOk w V ws (wr.setCell ⟨w.heap.size, 3, none⟩ (strc t)) { a with t := t } A c B q := by
  have nA : (Value.slice A a.b.length c).ownBlock ≠ some w.heap.size := h.b.not_blk h.r (by decide)
  have nN : (Value.slice B a.n.length q).ownBlock ≠ some w.heap.size := h.n.not_blk h.r (by decide)
  have TS : Tch (fun b => b = w.heap.size) wr (wr.setCell ⟨w.heap.size, 3, none⟩ (strc t)) := Tch.set _ _ rfl
  refine ⟨?_, TS.below h.g h.g.size (fun b hb => by omega), h.b.tch TS (fun b hb => by omega) (fun b hb hS => nA (hS ▸ hb)), h.n.tch TS (fun b hb => by omega) (fun b hb hS => nN (hS ▸ hb)), h.v.tch TS (by have := h.vr; omega), h.vr⟩
  have := h.r.set 3 (strc t)
  simpa [anC] using this
end Go.Proofs.YtadenlhnfkccaaaDoor
/- Operations as lines: which fault a word tells. No condition. -/
namespace Go.Proofs.YtadenlhnfkccaaaDoor
open Go.RowKit
set_option linter.unusedVariables false
set_option linter.unusedSimpArgs false
def wordZs : List ByteArray := (List.range' 0 15).map fun k => (⟨(wordL k).toArray⟩ : ByteArray)
theorem ba_inj {a b : List UInt8} : (⟨a.toArray⟩ : ByteArray) = ⟨b.toArray⟩ ↔ a = b := by
  constructor
  · intro h
    injection h with h
    injection h
  · rintro rfl; rfl
def findI (o : Option Nat) : Int := match o with | some k => (k : Int) | none => -1
theorem idx_find (f : Nat → List UInt8) (l : List UInt8) : ∀ n i, Lib.idxFromS ((List.range' i n).map fun k => (⟨(f k).toArray⟩ : ByteArray)) ⟨l.toArray⟩ i = findI ((List.range' i n).find? fun k => f k == l)
  | 0, i => rfl
  | n + 1, i => by
    rw [List.range'_succ, List.map_cons, Lib.idxFromS, List.find?_cons]
    by_cases h : f i = l
    · rw [if_pos (ba_inj.2 h), beq_iff_eq.2 h]; rfl
    · rw [if_neg (fun e => h (ba_inj.1 e)), beq_eq_false_iff_ne.2 h]
      exact idx_find f l n (i + 1)
theorem wordZs_idx (l : List UInt8) : Lib.idxOfS wordZs ⟨l.toArray⟩ = findI ((List.range 15).find? fun k => wordL k == l) := by
  unfold Lib.idxOfS wordZs
  rw [idx_find, List.range_eq_range']
theorem words_at (W : World) (b : Nat) (h : Blk W b 122 wordCells.toList) : ∀ j, j < wordZs.length → W.cell? ⟨b, 0 + j, none⟩ = some (.string (wordZs.getD j ByteArray.empty)) := fun j hj => by
  have hj : j < 15 := by simpa [wordZs] using hj
  rw [Nat.zero_add, h.cell, wordCells_at j hj]
  unfold strc wordZs
  rw [List.getD_eq_getElem?_getD, List.getElem?_map, List.getElem?_range' (by omega)]
  simp
set_option maxRecDepth 100000 in
theorem fault_any (l : List UInt8) (w : World) : Calls Tryd.prog 42 #[strc l] w fun e w' => ∃ b, e = .returned (.tuple #[.int .i64 (faultT l), .bool b]) ∧ Gr w w' := by
  have HW := Lib.hid (words_any39 w)
  have HO := Lib.hid wordOne
  have HIX : Hid (∀ W b, Blk W b 122 wordCells.toList → Calls Tryd.prog 64 #[.slice (some ⟨b, 0, none⟩) 15 15, strc l] W fun e w' => e = .returned (.int .i64 (findI ((List.range 15).find? fun k => wordL k == l))) ∧ w' = W) := fun W b h => by
    have := Tryd.slices_Index_string b 0 15 15 wordZs ⟨l.toArray⟩ W (by decide) (by decide) (words_at W b h)
    rw [List.take_of_length_le (by decide), wordZs_idx] at this
    exact this
  obtain ⟨o, ho⟩ : ∃ o, o = (List.range 15).find? fun k => wordL k == l := ⟨_, rfl⟩
  have hF : faultT l = if o = none then 0 else findI o := by
    unfold faultT faultN
    rw [← ho]
    cases o with
    | none => rfl
    | some k =>
      have hk : k < 15 := by have := List.mem_of_find?_eq_some ho.symm; simpa using this
      show (if k = 15 then (0 : Int) else (k : Int)) = _
      rw [if_neg (by omega)]; rfl
  rw [← ho] at HIX
  clear ho
  rw [hF]
  obtain ⟨s, hs⟩ : ∃ s : ByteArray, strc l = .string s := ⟨_, rfl⟩
  rw [hs] at HIX ⊢
  clear hs hF
  go_enter Tryd.func42, Tryd.ntmps42
  go_wp2_with fail
  refine HW.out.mono ?_
  rintro e w2 ⟨rfl, g2⟩
  have G23 : Gr w2 ((w2.alloc (.cells #[.string ⟨#[]⟩, .string ⟨#[]⟩, .string ⟨#[]⟩, .string ⟨#[]⟩, .string ⟨#[]⟩, .string ⟨#[]⟩, .string ⟨#[]⟩, .string ⟨#[]⟩, .string ⟨#[]⟩, .string ⟨#[]⟩, .string ⟨#[]⟩, .string ⟨#[]⟩, .string ⟨#[]⟩, .string ⟨#[]⟩, .string ⟨#[]⟩] 122)).setRow w2.heap.size wordCells) := below_row39 ((Below.refl _ _).alloc (Nat.le_refl _) _) (Nat.le_refl _) _
  have BW : Blk ((w2.alloc (.cells #[.string ⟨#[]⟩, .string ⟨#[]⟩, .string ⟨#[]⟩, .string ⟨#[]⟩, .string ⟨#[]⟩, .string ⟨#[]⟩, .string ⟨#[]⟩, .string ⟨#[]⟩, .string ⟨#[]⟩, .string ⟨#[]⟩, .string ⟨#[]⟩, .string ⟨#[]⟩, .string ⟨#[]⟩, .string ⟨#[]⟩, .string ⟨#[]⟩] 122)).setRow w2.heap.size wordCells) w2.heap.size 122 wordCells.toList := setRow_heap _ w2.heap.size _ _ _ _ (heap_alloc_new w2 _)
  have HC := Lib.hid (HIX.out _ _ BW)
  have GG := Lib.hid (g2.trans G23)
  clear G23 BW g2
  go_wp2_with (refine wpList_store_row rfl 122 (.tmp 4) (.tmp 6) rfl w2.heap.size wordCells rfl rfl 122 (reps 15 (.string ⟨#[]⟩)).toArray (by exact heap_alloc_new w2 _) wordSize rfl HO.out ?_)
  refine HC.out.mono ?_
  rintro e w3 ⟨rfl, rfl⟩
  cases o with
  | none =>
    go_wp2_with fail
    go_ret2
    exact ⟨by first | exact .inl rfl | exact .inr rfl, GG.out⟩
  | some k =>
    have t1 : decide ((k : Int) < 0) = false := decide_eq_false (by omega)
    skip
    go_wp2_with fail
    go_ret2
    exact ⟨by first | exact .inl rfl | exact .inr rfl, GG.out⟩
end Go.Proofs.YtadenlhnfkccaaaDoor
/- Answers as lines: op.Read. No condition. -/
namespace Go.Proofs.YtadenlhnfkccaaaDoor
open Go.RowKit
set_option linter.unusedVariables false
set_option linter.unusedSimpArgs false
/-- An answer and a fault, told. -/
def RetAn (w : World) (r : AnD × Nat) (e : Ending) (w' : World) : Prop := ∃ A m c B p q, e = .returned (.tuple #[.agg (anC r.1 A m c B p q), .int .i64 (r.2 : Int)]) ∧ Bs w' A m c r.1.b ∧ Is w' B p q r.1.n ∧ Gr w w'
def RetSp (wr : World) (ws : List (List UInt8)) (e : Ending) (w' : World) : Prop := ∃ V, wr.heap.size ≤ V ∧ e = .returned (.slice (some ⟨V, 0, none⟩) ws.length ws.length) ∧ Blk w' V 9 (ws.map strc) ∧ Gr wr w'
theorem split_blk (l : List UInt8) (w : World) (hl : l.length ≤ 100000) (hM : MLen w) : Calls Tryd.prog 30 #[strc l, .string ⟨#[32]⟩] w (RetSp w (cutL 32 l)) := by
  obtain ⟨m, hm⟩ := hM
  have h := Tryd.strings_Split ⟨l.toArray⟩ ⟨#[32]⟩ m w (by rw [size_of']; omega) hm (by decide)
  have hsp := split_cut 32 _ ⟨l.toArray⟩ rfl
  rw [hsp] at h
  have hln : (cutL 32 l).length = Lib.countB ⟨l.toArray⟩ ⟨#[32]⟩ + 1 := by
    have := congrArg List.length hsp
    rw [List.length_map, List.length_map, Lib.splitB_all _ (by decide) 0 _ _ rfl] at this
    exact this.symm
  refine h.mono ?_
  rintro e w' ⟨rfl, rfl⟩
  rw [← hln]
  exact ⟨w.heap.size, Nat.le_refl _, rfl, Blk.new w 9 ((cutL 32 l).map strc).toArray, Gr.alloc w _⟩
theorem run_fromR {P : Program} {t e : TypeId} {z : Value} {size bytes : Nat} (ht : ElemT P t e z size bytes) (g m : Nat) :
    ∃ A', (0 < m → A' = some ⟨g, size, none⟩) ∧ ∀ w : World, (Instr.slice t (.slice (some ⟨g, 0, none⟩) (m + 1) (m + 1)) (some (.int .i64 1)) none none).run P w = .ok (.slice A' m m) w := by
  obtain ⟨i, hi, hz, hsz, hby⟩ := info_parts ht.info
  have hu : P.underlying t = some (.slice (P.elem t)) := by
    have := ht.und
    simp [Program.elem, this]
  have he : P.elem t = e := by simp [Program.elem, ht.und]
  refine ⟨if m + 1 = 1 then some ⟨g, 0, none⟩ else (some (⟨g, 0, none⟩ : Addr)).map (·.add (1 * size)), fun hlt => ?_, fun w => ?_⟩
  · rw [if_neg (by omega)]
    simp only [Option.map_some]
    rw [add_flat, Nat.zero_add, Nat.one_mul]
  · have h := run_slice_l w t (some ⟨g, 0, none⟩) (m + 1) (m + 1) hu .i64 (1 : Nat) (by omega) (by omega)
    refine Eq.trans h ?_
    simp [sizeOf, typeInfo, he, hi, Result.andThen, sliced, hsz]
theorem anSize : (Tryd.prog.info? 37).map (·.size) = some 4 := by kernel_rfl
theorem anOne (a : AnD) (A B : Option Addr) (m c p q : Nat) : (anC a A m c B p q).all (·.oneCell') = true := by
  rw [Array.all_eq_true']
  intro v hv
  have : v ∈ (anC a A m c B p q).toList := Array.mem_toList_iff.2 hv
  simp only [anC, List.mem_cons, List.not_mem_nil, or_false] at this
  rcases this with h | h | h | h <;> subst h <;> rfl
theorem results_an {fn : Func} {p u : Tmp} (h : fn.results = #[.cell p 37, .tmp u]) (tmps : Array Value) (w : World) (g : Nat) (t : TypeId) (cs : Array Value)
    (hp : tmps.getD p undef = .pointer (some ⟨g, 0, none⟩)) (hg : w.heap[g]? = some (.cells cs t (0, 0))) (hc : cs.size = 4) :
    (results fn tmps).run Tryd.prog w = .ok (.tuple #[.agg cs, tmps.getD u undef]) w := by
  rw [results_cell_tmp h, hp]
  simp only [asAddr, Sem.run_pure, Result.andThen, run_loadVar_row w g t 37 cs (0, 0) _ hg Tryd.underlying37 rfl (by rw [anSize, hc])]
theorem Tch.rowA (w : World) (g : Nat) (cs : Array Value) : Tch (fun b => b = g) w (w.setRow g cs) :=
  ⟨below_row39 (Below.refl 0 w) (Nat.zero_le _) cs, fun b _ hn => by
    have hne : g ≠ b := fun e => hn e.symm
    simp [World.setRow, Array.getElem?_modify, hne]⟩
/-- The answer is told whole. -/
theorem RdOk.told {w wr : World} {V : Nat} {ws : List (List UInt8)} {a : AnD} {A B : Option Addr} {c q : Nat} (h : RdOk w V ws wr a A c B q) (cs : Array Value) : Bs (wr.setRow w.heap.size cs) A a.b.length c a.b ∧ Is (wr.setRow w.heap.size cs) B a.n.length q a.n ∧ Gr w (wr.setRow w.heap.size cs) := by
  have nA : (Value.slice A a.b.length c).ownBlock ≠ some w.heap.size := h.b.not_blk h.r (by decide)
  have nN : (Value.slice B a.n.length q).ownBlock ≠ some w.heap.size := h.n.not_blk h.r (by decide)
  have TS := Tch.rowA wr w.heap.size cs
  have o1 := h.b.tch TS (fun b hb => by omega) (fun b hb hS => nA (hS ▸ hb))
  have o2 := h.n.tch TS (fun b hb => by omega) (fun b hb hS => nN (hS ▸ hb))
  obtain ⟨A', c', e1, s1⟩ := o1.slice
  obtain ⟨B', q', e2, s2⟩ := o2.slice
  injection e1 with x1 _ x2
  injection e2 with y1 _ y2
  subst x1 x2 y1 y2
  exact ⟨s1, s2, TS.below h.g h.g.size (fun b hb => by omega)⟩
theorem RdOk.bs {w wr : World} {V : Nat} {ws : List (List UInt8)} {a : AnD} {A B : Option Addr} {c q : Nat} (h : RdOk w V ws wr a A c B q) : Bs wr A a.b.length c a.b ∧ Is wr B a.n.length q a.n := by
  obtain ⟨A', c', e1, s1⟩ := h.b.slice
  obtain ⟨B', q', e2, s2⟩ := h.n.slice
  injection e1 with x1 _ x2
  injection e2 with y1 _ y2
  subst x1 x2 y1 y2
  exact ⟨s1, s2⟩
set_option maxRecDepth 100000 in
set_option maxHeartbeats 4000000 in
theorem opRead_any (l : List UInt8) (w : World) (hl : l.length ≤ 10000) (hM : MLen w) (hT : Pow10 w) : Calls Tryd.prog 15 #[strc l] w (RetAn w (readA l)) := by
  have HSP : Hid (∀ wr, Gr w wr → Calls Tryd.prog 30 #[strc l, .string ⟨#[32]⟩] wr (RetSp wr (cutL 32 l))) := fun wr g => split_blk l wr (by omega) (hM.mono g)
  have HFT : Hid (∀ wr : World, Calls Tryd.prog 42 #[strc ((cutL 32 l).headD [])] wr fun e w' => ∃ b, e = .returned (.tuple #[.int .i64 (got0 l).f, .bool b]) ∧ Gr wr w') := fun wr => fault_any _ wr
  obtain ⟨x0, xs, hws⟩ : ∃ x0 xs, cutL 32 l = x0 :: xs := by
    cases h : cutL 32 l with
    | nil => exact absurd h (cut_ne 32 l)
    | cons x xs => exact ⟨x, xs, rfl⟩
  have hcz := cut_size 32 l
  rw [hws] at HSP HFT hcz
  have hxn : xs.length ≤ l.length := by have := hcz.1; simp only [List.length_cons] at this; omega
  have HXZ : Hid (∀ x ∈ xs, x.length ≤ l.length) := fun x hx => hcz.2 x (List.mem_cons_of_mem _ hx)
  have HG0 : Hid (gotJ l 0 = got0 l) := rfl
  have HGS : Hid (∀ j (h : j < xs.length), gotJ l (j + 1) = eatA (gotJ l j) xs[j]) := fun j h => by
    have := gotJ_succ l j (by rw [hws]; exact h)
    rw [this]
    simp only [hws, List.tail_cons]
  have HGA : Hid (gotJ l xs.length = gotA l) := gotJ_all l xs.length (by rw [hws]; exact Nat.le_refl _)
  have HGK : Hid (∀ j, GotOk (gotJ l j) j l.length) := gotJ_ok l
  have hg0 : got0 l = ⟨(got0 l).f, [], [], []⟩ := rfl
  obtain ⟨s, hs⟩ : ∃ s : ByteArray, s = ⟨l.toArray⟩ := ⟨_, rfl⟩
  have hsl : s.toList = l := by rw [hs, ByteArray.toList_eq]
  have hss : strc l = .string s := by rw [hs]; rfl
  rw [hss] at HSP ⊢
  clear hs hss hcz hM hws
  obtain ⟨y0, hy0⟩ : ∃ y0, strc x0 = .string y0 := ⟨_, rfl⟩
  have HY0 := Lib.hid hy0
  rw [show (x0 :: xs).headD [] = x0 from rfl, hy0] at HFT
  generalize (got0 l).f = f0 at *
  have HE0 := Lib.hid hg0
  have HPT := Lib.hid hT; have HLL := Lib.hid hl; have HSL := Lib.hid hsl
  clear hy0 hg0 hT hl hsl
  go_enter Tryd.func15, Tryd.ntmps15
  go_wp2_with fail
  go_step3
  go_wp2_with fail
  refine (HSP.out _ (Gr.alloc _ _)).mono ?_
  rintro e w1 ⟨V, hV, rfl, b1, g1⟩
  have B1 := Lib.hid b1
  have G1 : Hid (Gr w w1) := (Gr.alloc _ _).trans g1
  have hV' : w.heap.size < V := by rw [World.size_alloc] at hV; omega
  have BR1 : Hid (Blk w1 w.heap.size 37 [.int .i64 0, .slice none 0 0, .slice none 0 0, .string ⟨#[]⟩]) := (Blk.new w 37 #[.int .i64 0, .slice none 0 0, .slice none 0 0, .string ⟨#[]⟩]).mono g1
  have cz : w1.cell? ⟨V, 0, none⟩ = some (.string y0) := by rw [b1.cell, ← HY0.out]; rfl
  have t0 : (0 : Int) < ((x0 :: xs).length : Int) := by simp only [List.length_cons]; omega
  clear hV b1 g1
  go_wp2_with fail
  refine (HFT.out _).mono ?_
  rintro e w2 ⟨bb, rfl, g2⟩
  obtain ⟨A', hA', hsl⟩ := run_fromR tWords V xs.length (P := Tryd.prog)
  have HA' := Lib.hid hA'; clear hA'
  have BR2 : Hid (Blk w2 w.heap.size 37 [.int .i64 0, .slice none 0 0, .slice none 0 0, .string ⟨#[]⟩]) := BR1.out.mono g2
  have fr := BR2.out.free 0
  have ck := BR2.out.cell 0
  have hR3 : Hid (RdOk w V (x0 :: xs) (w2.setCell ⟨w.heap.size, 0, none⟩ (.int .i64 f0)) (gotJ l 0) none 0 none 0) := by
    have TS : Tch (fun b => b = w.heap.size) w2 (w2.setCell ⟨w.heap.size, 0, none⟩ (.int .i64 f0)) := Tch.set _ _ rfl
    have g : Gr w (w2.setCell ⟨w.heap.size, 0, none⟩ (.int .i64 f0)) := TS.below (G1.out.trans g2) (G1.out.trans g2).size (fun b hb => by omega)
    show RdOk _ _ _ _ _ _ _ _ _
    rw [HG0.out, HE0.out]
    exact ⟨BR2.out.set 0 _, g, Own.nil' g _ _, Own.nil' g _ _, (B1.out.mono g2).tch TS (by omega), hV'⟩
  clear g2 cz t0 BR1 B1 G1
  go_wp2_with fail
  go_step3
  obtain ⟨w3, hw3⟩ : ∃ w3, w3 = w2.setCell ⟨w.heap.size, 0, none⟩ (.int .i64 f0) := ⟨_, rfl⟩
  rw [← hw3] at hR3 ⊢
  clear hw3 fr ck BR2
  go_wp2_with fail
  go_loopw [24] (fun i wr => ∃ (j : Nat) (A : Option Addr) (c : Nat) (B : Option Addr) (q : Nat), j ≤ xs.length ∧ i = .int .i64 j ∧ RdOk w V (x0 :: xs) wr (gotJ l j) A c B q) (fun i _ => xs.length - (intOf i).toNat)
  case atStart => exact ⟨0, none, 0, none, 0, Nat.zero_le _, rfl, hR3.out⟩
  case round =>
    obtain ⟨j, A, c, B, q, hj, rfl, rd⟩ := hrel
    have RD := Lib.hid rd; clear rd
    by_cases hlt : j < xs.length
    · obtain rfl := HA'.out (by omega)
      have HX := HXZ.out _ (List.getElem_mem hlt)
      have HSX := Lib.hid (HGS.out j hlt)
      have HK := Lib.hid (HGK.out j)
      have cw : wr.cell? ⟨V, 1 + j, none⟩ = some (strc xs[j]) := by
        rw [RD.out.v.cell, Nat.add_comm]
        simp [hlt]
      generalize xs[j] = x at *
      obtain ⟨y, hy⟩ : ∃ y : ByteArray, y = ⟨x.toArray⟩ := ⟨_, rfl⟩
      have hyl : y.data.toList = x := by rw [hy]
      have hyz : y.size = x.length := by rw [hy]; exact size_of' _
      have hys : strc x = .string y := by rw [hy]; rfl
      rw [hys] at cw
      have HP := Lib.hid (parse_any y x 1073741824 wr hyl (by have := HLL.out; omega))
      have HYL := Lib.hid hyl
      clear hy hys hyz hyl
      go_wp2_with fail
      refine HP.out.mono ?_
      rintro e w4 ⟨rfl, g4⟩
      have R4 := Lib.hid (RD.out.gr g4)
      clear cw HP g4
      have hnl := HK.out.n
      have hll := HLL.out
      by_cases hpf : parseF x 1073741824 = 0
      · have t34 : (parseF x 1073741824 == 0) = true := beq_iff_eq.2 hpf
        have HE : Hid (eatA (gotJ l j) x = { gotJ l j with n := (gotJ l j).n ++ [parseN x 1073741824] }) := by show _ = _; unfold eatA; rw [if_pos hpf]
        have c2 : w4.cell? ⟨w.heap.size, 2, none⟩ = some (.slice B (gotJ l j).n.length q) := R4.out.r.cell 2
        clear hpf
        go_wp2_with (at_builtin; go_loud (refine wpList_pushG rfl (.tmp 36) (.tmp 38) 35 rfl tNums rfl R4.out.n #[Value.int .i64 (parseN x 1073741824)] rfl rfl (by intro u hu; simp at hu; subst hu; rfl) (by omega) ?_); intro v5 w5 o5 k5; obtain ⟨B5, q5, rfl, b5, r5⟩ := RdOk.setN R4.out (Gr.alloc _ _) o5 k5; have c2 := b5.cell 2; have f2 := b5.free 2; have R5 := Lib.hid r5; clear b5 r5 o5 k5)
        refine ⟨⟨j + 1, A, c, B5, q5, by omega, by first | trivial | go_num, ?_⟩, ?_⟩
        · rw [HSX.out, HE.out]
          have := R5.out
          simpa using this
        · show xs.length - ((j : Int) + 1).toNat < xs.length - (j : Int).toNat
          omega
      · have t34 : (parseF x 1073741824 == 0) = false := beq_eq_false_iff_ne.2 hpf
        by_cases hh : x.head? = some 35
        · have HE : Hid (eatA (gotJ l j) x = { gotJ l j with b := (hexR x.tail).1 }) := by show _ = _; unfold eatA; rw [if_neg hpf, if_pos hh]
          have HCP := Lib.hid (Tryd.strings_CutPrefix y ⟨#[35]⟩ w4)
          rw [HYL.out, show (⟨#[35]⟩ : ByteArray).data.toList = [35] from rfl, trim_hash hh, pre_one, decide_eq_true hh] at HCP
          have HHX := Lib.hid (fun wr => hexParse_any x.tail wr (by have := HLL.out; simp only [List.length_tail]; omega))
          clear hpf
          go_wp2_with fail
          refine HCP.out.mono ?_
          rintro e w5 ⟨rfl, rfl⟩
          go_wp2_with fail
          refine (HHX.out _).mono ?_
          rintro e w6 ⟨v6, rfl, o6⟩
          obtain ⟨A6, c6, rfl, b6, r6⟩ := RdOk.setB R4.out o6
          have c1 := b6.cell 1; have f1 := b6.free 1; have R6 := Lib.hid r6
          clear b6 r6 o6
          go_wp2_with fail
          refine ⟨⟨j + 1, A6, c6, B, q, by omega, by first | trivial | go_num, ?_⟩, ?_⟩
          · rw [HSX.out, HE.out]
            exact R6.out
          · show xs.length - ((j : Int) + 1).toNat < xs.length - (j : Int).toNat
            omega
        · have HE : Hid (eatA (gotJ l j) x = { gotJ l j with t := trimE x }) := by show _ = _; unfold eatA; rw [if_neg hpf, if_neg hh]
          have HCP := Lib.hid (Tryd.strings_CutPrefix y ⟨#[35]⟩ w4)
          rw [HYL.out, show (⟨#[35]⟩ : ByteArray).data.toList = [35] from rfl, pre_one, decide_eq_false hh] at HCP
          have HTP := Lib.hid (Tryd.strings_TrimPrefix y ⟨#[61]⟩ w4)
          rw [HYL.out, show (⟨#[61]⟩ : ByteArray).data.toList = [61] from rfl, trim_eq] at HTP
          have c3 := R4.out.r.cell 3; have f3 := R4.out.r.free 3
          have R6 := Lib.hid (R4.out.setT (trimE x))
          clear hpf
          go_wp2_with fail
          refine HCP.out.mono ?_
          rintro e w5 ⟨rfl, rfl⟩
          go_wp2_with fail
          refine HTP.out.mono ?_
          rintro e w6 ⟨rfl, rfl⟩
          go_wp2_with fail
          refine ⟨⟨j + 1, A, c, B, q, by omega, by first | trivial | go_num, ?_⟩, ?_⟩
          · rw [HSX.out, HE.out]
            exact R6.out
          · show xs.length - ((j : Int) + 1).toNat < xs.length - (j : Int).toNat
            omega
    · obtain rfl : j = xs.length := by omega
      rw [HGA.out] at RD
      have HL2 := HLL.out
      by_cases hnil : l = []
      · have te : (s.toList == ([] : List UInt8)) = true := by rw [HSL.out, hnil]; rfl
        have HF : Hid (readA l = (noAn, 3)) := by show _ = _; unfold readA; rw [if_neg (by simp [hnil])]
        have BR : Hid (Blk wr w.heap.size 37 (anC (gotA l) A (gotA l).b.length c B (gotA l).n.length q).toList) := RD.out.r
        clear hnil
        go_wp2_with (refine wpList_store_row rfl 37 (.tmp 2) (.tmp 66) rfl w.heap.size (anC noAn none 0 0 none 0 0) rfl rfl 37 (anC (gotA l) A (gotA l).b.length c B (gotA l).n.length q) BR.out anSize rfl (anOne _ _ _ _ _ _ _) ?_)
        have HN := setRow_heap wr w.heap.size _ (anC noAn none 0 0 none 0 0) _ _ BR.out
        have GE : Gr w (wr.setRow w.heap.size (anC noAn none 0 0 none 0 0)) := below_row39 RD.out.g (Nat.le_refl _) _
        rw [HF.out, Exit.noGoto_ret]
        exact bodyPost_ret (results_an Tryd.results15 _ _ w.heap.size _ _ rfl HN rfl) rfl ⟨none, 0, 0, none, 0, 0, rfl, Sl.nil _ _, Sl.nil _ _, GE⟩
      · have te : (s.toList == ([] : List UInt8)) = false := by rw [HSL.out]; exact beq_false_of_ne hnil
        have HK : GotOk (gotA l) xs.length l.length := HGA.out ▸ HGK.out xs.length
        have k1 := HK.n; have k2 := HK.b; have k3 := HK.t
        have HTL := Lib.hid (tell_any (gotA l) A B (gotA l).b.length c (gotA l).n.length q wr RD.out.bs.1 RD.out.bs.2 (by omega) (by omega) (by omega) HK.r (HPT.out.mono RD.out.g))
        obtain ⟨tx, htx⟩ : ∃ tx : ByteArray, tx = ⟨(tellL (gotA l)).toArray⟩ := ⟨_, rfl⟩
        have htl : tx.toList = tellL (gotA l) := by rw [htx, ByteArray.toList_eq]
        have htv : strc (tellL (gotA l)) = .string tx := by rw [htx]; rfl
        rw [htv] at HTL
        have c0 : wr.cell? ⟨w.heap.size, 0, none⟩ = some (.int .i64 (gotA l).f) := (RD.out.r.cell 0).trans rfl
        have c1 : wr.cell? ⟨w.heap.size, 1, none⟩ = some (.slice A (gotA l).b.length c) := (RD.out.r.cell 1).trans rfl
        have c2 : wr.cell? ⟨w.heap.size, 2, none⟩ = some (.slice B (gotA l).n.length q) := (RD.out.r.cell 2).trans rfl
        have c3 : wr.cell? ⟨w.heap.size, 3, none⟩ = some (strc (gotA l).t) := (RD.out.r.cell 3).trans rfl
        clear htx htv k1 k2 k3 HK
        by_cases hq : tellL (gotA l) = l
        · have tq : (tx.toList == s.toList) = true := by rw [beq_iff_eq, htl, HSL.out]; exact hq
          have HF : Hid (readA l = (gotA l, 0)) := by show _ = _; unfold readA; rw [if_pos ⟨hnil, hq⟩]
          clear htl hq hnil
          go_wp2_with fail
          refine HTL.out.mono ?_
          rintro e w5 ⟨rfl, g5⟩
          have R5 := Lib.hid (RD.out.gr g5)
          have BR : Hid (Blk w5 w.heap.size 37 (anC (gotA l) A (gotA l).b.length c B (gotA l).n.length q).toList) := R5.out.r
          clear c0 c1 c2 c3
          have c0 : w5.cell? ⟨w.heap.size, 0, none⟩ = some (.int .i64 (gotA l).f) := (R5.out.r.cell 0).trans rfl
          have c1 : w5.cell? ⟨w.heap.size, 1, none⟩ = some (.slice A (gotA l).b.length c) := (R5.out.r.cell 1).trans rfl
          have c2 : w5.cell? ⟨w.heap.size, 2, none⟩ = some (.slice B (gotA l).n.length q) := (R5.out.r.cell 2).trans rfl
          have c3 : w5.cell? ⟨w.heap.size, 3, none⟩ = some (strc (gotA l).t) := (R5.out.r.cell 3).trans rfl
          clear g5
          go_wp2_with (refine wpList_store_row rfl 37 (.tmp 2) (.tmp 67) rfl w.heap.size (anC (gotA l) A (gotA l).b.length c B (gotA l).n.length q) rfl rfl 37 (anC (gotA l) A (gotA l).b.length c B (gotA l).n.length q) BR.out anSize rfl (anOne _ _ _ _ _ _ _) ?_)
          have HN := setRow_heap w5 w.heap.size _ (anC (gotA l) A (gotA l).b.length c B (gotA l).n.length q) _ _ BR.out
          obtain ⟨z1, z2, z3⟩ := R5.out.told (anC (gotA l) A (gotA l).b.length c B (gotA l).n.length q)
          rw [HF.out, Exit.noGoto_ret]
          exact bodyPost_ret (results_an Tryd.results15 _ _ w.heap.size _ _ rfl HN rfl) rfl ⟨_, _, _, _, _, _, rfl, z1, z2, z3⟩
        · have tq : (tx.toList == s.toList) = false := by rw [htl, HSL.out]; exact beq_false_of_ne hq
          have HF : Hid (readA l = (noAn, 3)) := by show _ = _; unfold readA; rw [if_neg (by simp [hq])]
          clear htl hq hnil
          go_wp2_with fail
          refine HTL.out.mono ?_
          rintro e w5 ⟨rfl, g5⟩
          have R5 := Lib.hid (RD.out.gr g5)
          have BR : Hid (Blk w5 w.heap.size 37 (anC (gotA l) A (gotA l).b.length c B (gotA l).n.length q).toList) := R5.out.r
          clear c0 c1 c2 c3 g5
          go_wp2_with (refine wpList_store_row rfl 37 (.tmp 2) (.tmp 66) rfl w.heap.size (anC noAn none 0 0 none 0 0) rfl rfl 37 (anC (gotA l) A (gotA l).b.length c B (gotA l).n.length q) BR.out anSize rfl (anOne _ _ _ _ _ _ _) ?_)
          have HN := setRow_heap w5 w.heap.size _ (anC noAn none 0 0 none 0 0) _ _ BR.out
          have GE : Gr w (w5.setRow w.heap.size (anC noAn none 0 0 none 0 0)) := below_row39 R5.out.g (Nat.le_refl _) _
          rw [HF.out, Exit.noGoto_ret]
          exact bodyPost_ret (results_an Tryd.results15 _ _ w.heap.size _ _ rfl HN rfl) rfl ⟨none, 0, 0, none, 0, 0, rfl, Sl.nil _ _, Sl.nil _ _, GE⟩
end Go.Proofs.YtadenlhnfkccaaaDoor
