/- Own texts of this claim, one behind the other. No condition. -/
import Derived.Test.YtfemhhjmfckicaaGreatDoorObPkA
import Derived.Test.YtfemhhjmfckicaaGreatDoorObPkP
import Derived.Test.YtfemhhjmfckicaaGreatDoorObPkY
import Derived.Lib.SlicesCompact
import Derived.Shelf.SlSortCmp.NoneTotal
import Derived.Maps.Own
import Derived.Maps.Views
import Derived.Lib.SlKeysI
import Derived.Lib.SlMapMerge

/- leaf.Names: what slices.Compact leaves, in plain Lean. No condition. -/
namespace Go.Proofs.YtfemhhjmfckicaaGreatDoor
open Go.RowKit
set_option linter.unusedVariables false
set_option linter.unusedSimpArgs false
theorem compactL_snoc : ∀ (l : List (List UInt8)) (x : List UInt8), compactL (l ++ [x]) = compactL l ++ (if l.getLast? = some x then [] else [x])
  | [], x => rfl
  | [y], x => by
    show (if y = x then compactL [x] else y :: compactL [x]) = _
    by_cases h : y = x
    · subst h; simp [compactL]
    · simp [compactL, h]
  | y :: z :: l, x => by
    have ih := compactL_snoc (z :: l) x
    have e : (y :: z :: l).getLast? = (z :: l).getLast? := List.getLast?_cons_cons
    rw [e]
    show (if y = z then compactL ((z :: l) ++ [x]) else y :: compactL ((z :: l) ++ [x])) = (if y = z then compactL (z :: l) else y :: compactL (z :: l)) ++ _
    rw [ih]
    by_cases h : y = z
    · rw [if_pos h, if_pos h]
    · rw [if_neg h, if_neg h]; rfl
theorem compact_upto (ls : List (List UInt8)) : ∀ m, m ≤ ls.length → Lib.compactUpTo ls.toArray m = compactL (ls.take m)
  | 0, _ => by simp [Lib.compactUpTo, compactL]
  | m + 1, h => by
    have hm : m < ls.length := by omega
    rw [Lib.compactUpTo_succ, compact_upto ls m (by omega), List.take_succ_eq_append_getElem hm, compactL_snoc]
    congr 1
    have e1 : ls.toArray[m]! = ls[m] := by rw [getElem!_pos ls.toArray m (by simpa using hm)]; simp
    rw [e1]
    by_cases h0 : m = 0
    · subst h0
      simp [Lib.keeps]
    · have hm1 : m - 1 < ls.length := by omega
      have e2 : ls.toArray[m - 1]! = ls[m - 1] := by rw [getElem!_pos ls.toArray (m - 1) (by simpa using hm1)]; simp
      have e3 : (ls.take m).getLast? = some ls[m - 1] := by
        rw [List.getLast?_eq_getElem?, List.length_take, Nat.min_eq_left (by omega), List.getElem?_take_of_lt (by omega), List.getElem?_eq_getElem hm1]
      rw [e3]
      unfold Lib.keeps
      rw [e1, e2]
      by_cases h1 : ls[m] = ls[m - 1]
      · simp [h0, h1]
      · have h2 : ¬ ls[m - 1] = ls[m] := fun e => h1 e.symm
        simp [h0, h1, h2]
theorem lib_compact (ls : List (List UInt8)) : Lib.compact ls = compactL ls := by
  unfold Lib.compact
  rw [compact_upto ls _ (Nat.le_refl _), List.take_length]
end Go.Proofs.YtfemhhjmfckicaaGreatDoor

/- leaf.Names: slices.Compact of heads. No condition. -/
namespace Go.Proofs.YtfemhhjmfckicaaGreatDoor
open Go.RowKit
set_option linter.unusedVariables false
set_option linter.unusedSimpArgs false
theorem compact_row {w0 w : World} (gr : Gr w0 w) (A : Option Addr) (n c : Nat) (ls : List (List UInt8)) (h : Rw w0 w A n c ls) (hn : n ≤ 1000) :
    Calls Tryz.prog 30 #[.slice A n c] w fun e w' => ∃ A' n' c', e = .returned (.slice A' n' c') ∧ Rw w0 w' A' n' c' (compactL ls) ∧ Gr w0 w' := by
  obtain ⟨hl, hc, h⟩ := h
  rcases h with ⟨rfl, rfl, rfl⟩ | ⟨g, rfl, hg, hw, hH⟩
  · have e : ls = [] := List.eq_nil_of_length_eq_zero hl
    subst e
    exact (Tryz.slices_Compact_string_empty none 0 w).mono fun e w' ⟨he, h2⟩ => ⟨none, 0, 0, he, ⟨rfl, ⟨Nat.zero_le _, by omega⟩, .inl ⟨rfl, rfl, rfl⟩⟩, h2 ▸ gr⟩
  · subst hl
    have k := Tryz.slices_Compact_string g 0 c ls w hH (by omega) hc.1
    rw [lib_compact] at k
    refine k.mono fun e w' ⟨he, q, hq⟩ => ?_
    have hle : (compactL ls).length ≤ ls.length := compact_len ls
    subst hq
    refine ⟨_, _, _, he, ⟨rfl, ⟨by omega, hc.2⟩, .inr ⟨g, rfl, hg, ?_, holds_part hH _ ?_⟩⟩, gr_putRow gr hg 0 q _⟩
    · rw [Go.Sort.size_putRow]; exact hw
    · rw [List.length_replicate]; omega
theorem delete_row {w0 w : World} (gr : Gr w0 w) (g n c : Nat) (ls : List (List UInt8)) (h : Rw w0 w (some ⟨g, 0, none⟩) n c ls) (hn : n ≤ 1000) :
    Calls Tryz.prog 25 #[.slice (some ⟨g, 0, none⟩) n c, .func (.func 27) #[] #[]] w fun e w' => ∃ A' n' c', e = .returned (.slice A' n' c') ∧ Rw w0 w' A' n' c' (fullH ls) ∧ Gr w0 w' := by
  obtain ⟨hl, hc, h⟩ := h
  rcases h with ⟨h1, rfl, rfl⟩ | ⟨g', h1, hg, hw, hH⟩
  · cases h1
  · injection h1 with h1
    injection h1 with h1 _
    subst h1
    exact delete_some gr g n c ls hl hc.1 hc.2 hg hw hH hn
end Go.Proofs.YtfemhhjmfckicaaGreatDoor

/- leaf.Names: slices.DeleteFunc at nil. No condition. -/
namespace Go.Proofs.YtfemhhjmfckicaaGreatDoor
open Go.RowKit
set_option linter.unusedVariables false
set_option linter.unusedSimpArgs false
set_option maxHeartbeats 1000000 in
theorem indexNil_any (CL : Nat) (w : World) : Calls Tryz.prog 55 #[.slice none 0 0, .func (.func CL) #[] #[]] w fun e w' => e = .returned (.int .i64 (-1)) ∧ w' = w := by
  go_enter Tryz.func55, Tryz.ntmps55
  go_wp2
  go_loopw [8] (fun i wr => i = .int .i64 0 ∧ wr = w) (fun i _ => 0)
  case atStart => exact ⟨rfl, rfl⟩
  case round =>
    obtain ⟨rfl, rfl⟩ := hrel
    go_wp2_with fail
    go_ret
    exact ⟨rfl, rfl⟩
set_option maxHeartbeats 1000000 in
theorem delete_nil (w : World) : Calls Tryz.prog 25 #[.slice none 0 0, .func (.func 27) #[] #[]] w fun e w' => e = .returned (.slice none 0 0) ∧ w' = w := by
  have H := fun W => Lib.hid (indexNil_any 27 W)
  go_enter Tryz.func25, Tryz.ntmps25
  go_wp2_with fail
  refine (H _).out.mono ?_
  rintro e w1 ⟨rfl, rfl⟩
  go_wp2_with fail
  go_ret
  exact ⟨rfl, rfl⟩
theorem delete_any {w0 w : World} (gr : Gr w0 w) (A : Option Addr) (n c : Nat) (ls : List (List UInt8)) (h : Rw w0 w A n c ls) (hn : n ≤ 1000) :
    Calls Tryz.prog 25 #[.slice A n c, .func (.func 27) #[] #[]] w fun e w' => ∃ A' n' c', e = .returned (.slice A' n' c') ∧ Rw w0 w' A' n' c' (fullH ls) ∧ Gr w0 w' := by
  obtain ⟨hl, hc, h⟩ := h
  rcases h with ⟨rfl, rfl, rfl⟩ | ⟨g, rfl, hg, hw, hH⟩
  · have e : ls = [] := List.eq_nil_of_length_eq_zero hl
    subst e
    exact (delete_nil w).mono fun e w' ⟨he, h2⟩ => ⟨none, 0, 0, he, ⟨rfl, ⟨Nat.le_refl _, by omega⟩, .inl ⟨rfl, rfl, rfl⟩⟩, h2 ▸ gr⟩
  · exact delete_some gr g n c ls hl hc.1 hc.2 hg hw hH hn
end Go.Proofs.YtfemhhjmfckicaaGreatDoor

/- leaf.Names: slices.SortFunc at a row of the call's own. No condition. -/
namespace Go.Proofs.YtfemhhjmfckicaaGreatDoor
open Go.RowKit
set_option linter.unusedVariables false
set_option linter.unusedSimpArgs false
theorem vals_at (d : Array Hd) (j : Nat) (hj : j < d.size) : (valsH d).toArray[j]! = d[j]!.1 := by
  rw [getElem!_pos (valsH d).toArray j (by unfold valsH; simpa using hj), getElem!_pos d j hj]
  simp [valsH]
theorem holds_vals {w : World} {g o : Nat} {d : Array Hd} : Go.Sort.Holds encH w g o d ↔ Go.Sort.Holds strc w g o (valsH d).toArray := by
  have hs : (valsH d).toArray.size = d.size := by unfold valsH; simp
  constructor
  · intro h j hj
    rw [hs] at hj
    rw [vals_at d j hj]
    exact h j hj
  · intro h j hj
    have := h j (by rw [hs]; exact hj)
    rw [vals_at d j hj] at this
    exact this
theorem sort_some {w0 w : World} (gr : Gr w0 w) (g n c : Nat) (ls : List (List UInt8)) (hl : ls.length = n) (hc : n ≤ c) (hcm : c ≤ 9223372036854775807) (hg : w0.heap.size ≤ g) (hw : g < w.heap.size) (hH : Go.Sort.Holds strc w g 0 ls.toArray) (hn : n ≤ 1000)
    (hb : ∀ x ∈ ls, x.length ≤ 100000) (hT : U8 w0) (hM : MLen w0) :
    Calls Tryz.prog 28 #[.slice (some ⟨g, 0, none⟩) n c, .func (.func 29) #[] #[]] w fun e w' => e = .returned (.tuple #[]) ∧ ∃ S, S.Perm ls ∧ Weak S ∧ Rw w0 w' (some ⟨g, 0, none⟩) n c S ∧ Gr w0 w' := by
  have hd := size_hds ls hb
  have hH2 : Go.Sort.Holds encH w g 0 (hdsOf ls hb) := holds_vals.2 (by rw [vals_hds]; exact hH)
  have k := sort_any gr g 0 c hg hT hM (hdsOf ls hb) hH2 hw (by rw [hd]; omega)
  rw [hd, hl] at k
  refine k.mono fun e w' ⟨he, d', m, os, hp, hs, hq⟩ => ⟨he, valsH d', ?_, ?_, ?_, ?_⟩
  · have h2 := sort_perm (d := hdsOf ls hb) (d' := d') (by rw [hd, hl]; exact hp)
    rwa [vals_hds] at h2
  · exact sort_weak (d := hdsOf ls hb) (by rw [hd, hl, hp.1, hd, hl]) (by rw [hd, hl]; exact hs)
  · have hsz : d'.size = n := by rw [hp.1, hd, hl]
    refine ⟨by unfold valsH; simpa using hsz, ⟨hc, hcm⟩, .inr ⟨g, rfl, hg, ?_, ?_⟩⟩
    · subst hq
      show g < ((Go.Sort.putRow encH (Go.Sort.ahead w m) g 0 d').heap ++ os).size
      rw [Array.size_append, Go.Sort.size_putRow]
      show g < w.heap.size + os.size
      omega
    · subst hq
      exact holds_vals.1 (Go.Proofs.holds_sortWorld encH w g 0 m (hdsOf ls hb) d' os hw hH2 (by rw [hsz, hd, hl]))
  · subst hq
    exact gr_sort gr hg encH 0 m d' os
end Go.Proofs.YtfemhhjmfckicaaGreatDoor

/- leaf.Names: all names, in order. No condition. -/
namespace Go.Proofs.YtfemhhjmfckicaaGreatDoor
open Go.RowKit
set_option linter.unusedVariables false
set_option linter.unusedSimpArgs false
theorem sort_row {w0 w : World} (gr : Gr w0 w) (A : Option Addr) (n c : Nat) (ls : List (List UInt8)) (h : Rw w0 w A n c ls) (hn : n ≤ 1000)
    (hb : ∀ x ∈ ls, x.length ≤ 100000) (hT : U8 w0) (hM : MLen w0) :
    Calls Tryz.prog 28 #[.slice A n c, .func (.func 29) #[] #[]] w fun e w' => e = .returned (.tuple #[]) ∧ ∃ S, S.Perm ls ∧ Weak S ∧ Rw w0 w' A n c S ∧ Gr w0 w' := by
  obtain ⟨hl, hc, h⟩ := h
  rcases h with ⟨rfl, rfl, rfl⟩ | ⟨g, rfl, hg, hw, hH⟩
  · have e : ls = [] := List.eq_nil_of_length_eq_zero hl
    subst e
    exact (Go.Proofs.AnyF.slices_SortFunc_none { Tryz.sortFuncA with } none 0 (.func (.func 29) #[] #[]) w).mono fun e w' ⟨he, h2⟩ =>
      ⟨he, [], List.Perm.refl _, List.Pairwise.nil, ⟨rfl, ⟨Nat.le_refl _, by omega⟩, .inl ⟨rfl, rfl, rfl⟩⟩, h2 ▸ gr⟩
  · exact sort_some gr g n c ls hl hc.1 hc.2 hg hw hH hn hb hT hM
theorem full_len (ls : List (List UInt8)) : (fullH ls).length = usedH ls := rfl
theorem full_sub {ls : List (List UInt8)} {x : List UInt8} (h : x ∈ fullH ls) : x ∈ ls := (List.mem_filter.1 h).1
set_option maxHeartbeats 1000000 in
theorem names_any (A : Option Addr) (n c : Nat) (ls : List (List UInt8)) (w : World) (h : Ws w A n c ls) (hn : n ≤ 1000) (hb : ∀ x ∈ ls, x.length ≤ 100000) (hT : U8 w) (hM : MLen w) :
    Calls Tryz.prog 13 #[.slice A n c] w fun e w' => ∃ A' n' c' N, e = .returned (.slice A' n' c') ∧ NamesOf ls N ∧ N.length ≤ usedH ls ∧ Rw w w' A' n' c' N ∧ Gr w w' := by
  have hll := h.len
  have H1 := Lib.hid (cloneW_any A n c ls w h hn)
  have H2 : Hid (∀ wr A1 c1, Gr w wr → Rw w wr A1 n c1 ls → Calls Tryz.prog 25 #[.slice A1 n c1, .func (.func 27) #[] #[]] wr fun e w' => ∃ A' n' c', e = .returned (.slice A' n' c') ∧ Rw w w' A' n' c' (fullH ls) ∧ Gr w w') := fun wr A1 c1 g r => delete_any g A1 n c1 ls r hn
  have hfl : (fullH ls).length ≤ n := by rw [← hll]; exact List.length_filter_le _ _
  have H3 : Hid (∀ wr A1 n1 c1, Gr w wr → Rw w wr A1 n1 c1 (fullH ls) → Calls Tryz.prog 28 #[.slice A1 n1 c1, .func (.func 29) #[] #[]] wr fun e w' => e = .returned (.tuple #[]) ∧ ∃ S, S.Perm (fullH ls) ∧ Weak S ∧ Rw w w' A1 n1 c1 S ∧ Gr w w') := fun wr A1 n1 c1 g r => sort_row g A1 n1 c1 (fullH ls) r (by have := r.1; omega) (fun x hx => hb x (full_sub hx)) hT hM
  have H4 : Hid (∀ wr A1 n1 c1 S, S.Perm (fullH ls) → Gr w wr → Rw w wr A1 n1 c1 S → Calls Tryz.prog 30 #[.slice A1 n1 c1] wr fun e w' => ∃ A' n' c', e = .returned (.slice A' n' c') ∧ Rw w w' A' n' c' (compactL S) ∧ Gr w w') := fun wr A1 n1 c1 S hp g r => compact_row g A1 n1 c1 S r (by have := r.1; have := hp.length_eq; omega)
  have HF : Hid (∀ S, S.Perm (fullH ls) → Weak S → NamesOf ls (compactL S) ∧ (compactL S).length ≤ usedH ls) := fun S hp hw => ⟨compact_names hp hw, by rw [← full_len, ← hp.length_eq]; exact compact_len S⟩
  clear h hb hT hM hll hfl
  go_enter Tryz.func13, Tryz.ntmps13
  go_wp2_with fail
  refine H1.out.mono ?_
  rintro e w1 ⟨A1, c1, rfl, r1, g1⟩
  have R1 := Lib.hid r1; clear r1
  have G1 := Lib.hid g1; clear g1
  go_wp2_with fail
  refine (H2.out _ _ _ G1.out R1.out).mono ?_
  rintro e w2 ⟨A2, n2, c2, rfl, r2, g2⟩
  have R2 := Lib.hid r2; clear r2
  have G2 := Lib.hid g2; clear g2
  go_wp2_with fail
  refine (H3.out _ _ _ _ G2.out R2.out).mono ?_
  rintro e w3 ⟨rfl, S, hp, hwk, r3, g3⟩
  have R3 := Lib.hid r3; clear r3
  have G3 := Lib.hid g3; clear g3
  have HP := Lib.hid hp; clear hp
  have HW := Lib.hid hwk; clear hwk
  go_wp2_with fail
  refine (H4.out _ _ _ _ S HP.out G3.out R3.out).mono ?_
  rintro e w4 ⟨A4, n4, c4, rfl, r4, g4⟩
  have R4 := Lib.hid r4; clear r4
  have G4 := Lib.hid g4; clear g4
  go_wp2_with fail
  go_ret
  exact ⟨_, _, _, _, rfl, (HF.out S HP.out HW.out).1, (HF.out S HP.out HW.out).2, R4.out, G4.out⟩
end Go.Proofs.YtfemhhjmfckicaaGreatDoor

namespace Go.Proofs.YtfemhhjmfckicaaGreatDoor
open Go.RowKit Go.Maps
set_option linter.unusedVariables false

/-! ### a map with ints as keys: what stands in it is told value for value -/
def Rv (v : Value) : Option (DataW Value × List MemPlace) := some (.held v, [])
def dOf (l : List (Int × Value)) : DataW Value := (l.map fun p => (Lit.int .i64 p.1, DataW.held p.2)).foldl (fun D p => D.put p.1 p.2) (.map [])
theorem dOf_snoc (l : List (Int × Value)) (x : Int) (v : Value) : dOf (l ++ [(x, v)]) = (dOf l).put (.int .i64 x) (.held v) := by simp [dOf]
theorem dOf_has (l : List (Int × Value)) (x : Int) : has (dOf l) (.int .i64 x) = (l.map Prod.fst).contains x := by
  unfold dOf
  rw [has_foldPut _ _ _ isMap_empty (by intro p hp; obtain ⟨q, _, rfl⟩ := List.mem_map.1 hp; exact trivial)]
  have : has (DataW.map ([] : List (Lit × DataW Value))) (.int .i64 x) = false := rfl
  rw [this, Bool.false_or, List.any_map]
  induction l with
  | nil => rfl
  | cons p l ih =>
    simp only [List.any_cons, List.map_cons, List.contains_cons]
    rw [ih]
    congr 1
    refine Bool.eq_iff_iff.2 ?_
    show decide (IntKind.i64 = IntKind.i64 ∧ p.1 = x) = true ↔ (x == p.1) = true
    rw [decide_eq_true_iff, beq_iff_eq]
    exact ⟨fun h => h.2.symm, fun h => ⟨rfl, h.symm⟩⟩

/-! ### numbers in order, each once -/
def insU (x : Int) : List Int → List Int
  | [] => [x]
  | y :: t => if y < x then y :: insU x t else if y = x then y :: t else x :: y :: t
def sortU (l : List Int) : List Int := l.foldl (fun a x => insU x a) []
theorem insU_mem (x z : Int) : ∀ l, z ∈ insU x l ↔ z = x ∨ z ∈ l
  | [] => by simp [insU]
  | y :: t => by
    unfold insU
    split
    · rw [List.mem_cons, insU_mem x z t, List.mem_cons]; constructor <;> (intro h; rcases h with h | h | h <;> simp [h])
    · split
      · rename_i h; subst h; simp
      · simp
theorem insU_up (x : Int) : ∀ l, l.Pairwise (· < ·) → (insU x l).Pairwise (· < ·)
  | [], _ => by simp [insU]
  | y :: t, h => by
    have ht := List.pairwise_cons.1 h
    unfold insU
    split
    · rename_i hy
      refine List.pairwise_cons.2 ⟨fun z hz => ?_, insU_up x t ht.2⟩
      rcases (insU_mem x z t).1 hz with rfl | hz
      · exact hy
      · exact ht.1 z hz
    · split
      · exact h
      · rename_i h1 h2
        refine List.pairwise_cons.2 ⟨fun z hz => ?_, h⟩
        rcases List.mem_cons.1 hz with rfl | hz
        · omega
        · have := ht.1 z hz; omega
theorem sortU_snoc (l : List Int) (x : Int) : sortU (l ++ [x]) = insU x (sortU l) := by simp [sortU]
theorem foldU (l : List Int) : ∀ a : List Int, a.Pairwise (· < ·) → (l.foldl (fun a x => insU x a) a).Pairwise (· < ·) ∧ ∀ z, z ∈ l.foldl (fun a x => insU x a) a ↔ z ∈ a ∨ z ∈ l := by
  induction l with
  | nil => intro a h; exact ⟨h, fun z => by simp⟩
  | cons x l ih =>
    intro a h
    have := ih (insU x a) (insU_up x a h)
    refine ⟨this.1, fun z => ?_⟩
    rw [List.foldl_cons, this.2 z, insU_mem, List.mem_cons]
    constructor
    · rintro ((h | h) | h) <;> simp [h]
    · rintro (h | h | h) <;> simp [h]
theorem sortU_up (l : List Int) : (sortU l).Pairwise (· < ·) := (foldU l [] List.Pairwise.nil).1
theorem sortU_mem (l : List Int) (z : Int) : z ∈ sortU l ↔ z ∈ l := by unfold sortU; rw [(foldU l [] List.Pairwise.nil).2 z]; simp
theorem up_uniq {a b : List Int} (ha : a.Pairwise (· < ·)) (hb : b.Pairwise (· < ·)) (h : ∀ z, z ∈ a ↔ z ∈ b) : a = b := by
  have na : a.Nodup := ha.imp (fun {x y} h => by omega)
  have nb : b.Nodup := hb.imp (fun {x y} h => by omega)
  exact List.Perm.eq_of_pairwise (le := (· < ·)) (fun x y _ _ h1 h2 => by omega) ha hb ((List.perm_ext_iff_of_nodup na nb).2 h)
theorem sorted_uniq {ss l : List Int} (hn : ss.Nodup) (h : ∀ z, z ∈ ss ↔ z ∈ l) : ss.mergeSort (fun x y => decide (x ≤ y)) = sortU l := by
  have tr : ∀ a b c : Int, decide (a ≤ b) = true → decide (b ≤ c) = true → decide (a ≤ c) = true := fun a b c h1 h2 => by simp at *; omega
  have tot : ∀ a b : Int, (decide (a ≤ b) || decide (b ≤ a)) = true := fun a b => by simp; omega
  have hp := List.mergeSort_perm ss (fun x y => decide (x ≤ y))
  have hm : (ss.mergeSort (fun x y => decide (x ≤ y))).Nodup := hp.nodup_iff.2 hn
  refine up_uniq ?_ (sortU_up l) (fun z => by rw [sortU_mem, ← h z]; exact hp.mem_iff)
  have hle := List.pairwise_mergeSort tr tot ss
  have := List.pairwise_and_iff.2 ⟨hle, hm⟩
  exact this.imp (fun {x y} h => by simp at h; omega)

/-- The keys of such a map, in order. -/
theorem keys_sorted {P : Program} {w : World} {b n : Nat} {l : List (Int × Value)} {ss : List Int} (hk : P.underlying 3 = some (.int .i64)) (K : Keyed P 3) (h : w.ownsMap P 3 Rv b n (dOf l)) (hp : ss.Perm (intKeys (dOf l))) :
    ss.mergeSort (fun x y => decide (x ≤ y)) = sortU (l.map Prod.fst) := by
  have nd : (sortU (l.map Prod.fst)).Nodup := (sortU_up _).imp (fun {x y} h => by omega)
  have hc : CollectedI (dOf l) (fun _ => false) (sortU (l.map Prod.fst)) := ⟨nd, fun x => by rw [sortU_mem, dOf_has, List.contains_iff_mem]; simp⟩
  have hq := hc.perm h K hk (fun _ => rfl)
  have hr := hp.trans hq.symm
  exact sorted_uniq (hr.nodup_iff.2 nd) (fun z => by rw [hr.mem_iff, sortU_mem])
/-- .. of any map with ints as keys. -/
theorem keys_sortedG {H : Type} {R : Value → Option (DataW H × List MemPlace)} {P : Program} {w : World} {b n : Nat} {D : DataW H} {l ss : List Int} (hk : P.underlying 3 = some (.int .i64)) (K : Keyed P 3) (h : w.ownsMap P 3 R b n D) (hh : ∀ x, has D (.int .i64 x) = l.contains x) (hp : ss.Perm (intKeys D)) :
    ss.mergeSort (fun x y => decide (x ≤ y)) = sortU l := by
  have nd : (sortU l).Nodup := (sortU_up _).imp (fun {x y} h => by omega)
  have hc : CollectedI D (fun _ => false) (sortU l) := ⟨nd, fun x => by rw [sortU_mem, hh, List.contains_iff_mem]; simp⟩
  have hq := hc.perm h K hk (fun _ => rfl)
  have hr := hp.trans hq.symm
  exact sorted_uniq (hr.nodup_iff.2 nd) (fun z => by rw [hr.mem_iff, sortU_mem])
end Go.Proofs.YtfemhhjmfckicaaGreatDoor
