/- Names: the reference's Join, and the laws on joined and split texts. No condition. -/
import Derived.Test.YtciokbponfilfaaDoorObNameI
import Derived.Lib.Join
import Derived.Lib.SplitLaws
import Derived.Lib.CountLaws
import Derived.Outline
namespace Go.Proofs.YtciokbponfilfaaDoor
open Go.RowKit
set_option linter.unusedVariables false
def joinL (ps : List (List UInt8)) : List UInt8 := Lib.join ps [46]
theorem joinL_nil : joinL [] = [] := rfl
theorem joinL_one (x : List UInt8) : joinL [x] = x := Lib.join_one x _
theorem joinTail_snoc (r : List (List UInt8)) (x : List UInt8) : Lib.joinTail [46] (r ++ [x]) = Lib.joinTail [46] r ++ ([46] ++ x) := by simp [Lib.joinTail]
theorem joinL_snoc (xs : List (List UInt8)) (x : List UInt8) (h : xs ≠ []) : joinL (xs ++ [x]) = joinL xs ++ [46] ++ x := by
  match xs, h with
  | y :: r, _ =>
    unfold joinL
    rw [List.cons_append, Lib.join_cons, Lib.join_cons, joinTail_snoc]
    simp
theorem joinTail_len (B : Nat) : ∀ r : List (List UInt8), (∀ p ∈ r, p.length ≤ B) → (Lib.joinTail [46] r).length ≤ r.length * (B + 1)
  | [], _ => by simp [Lib.joinTail]
  | x :: r, h => by
    have ih := joinTail_len B r (fun p hp => h p (List.mem_cons_of_mem _ hp))
    have hx := h x List.mem_cons_self
    have e : Lib.joinTail [46] (x :: r) = ([46] ++ x) ++ Lib.joinTail [46] r := by simp [Lib.joinTail]
    have e2 : (x :: r).length * (B + 1) = r.length * (B + 1) + (B + 1) := by rw [List.length_cons, Nat.add_mul, Nat.one_mul]
    have e3 : ([46] ++ x : List UInt8).length = 1 + x.length := by simp; omega
    rw [e, List.length_append, e3, e2]
    omega
theorem joinL_len (B : Nat) (xs : List (List UInt8)) (h : ∀ p ∈ xs, p.length ≤ B) : (joinL xs).length ≤ xs.length * (B + 1) := by
  match xs, h with
  | [], _ => simp [joinL_nil]
  | y :: r, h =>
    unfold joinL
    have e2 : (y :: r).length * (B + 1) = r.length * (B + 1) + (B + 1) := by rw [List.length_cons, Nat.add_mul, Nat.one_mul]
    rw [Lib.join_cons, List.length_append, e2]
    have := joinTail_len B r (fun p hp => h p (List.mem_cons_of_mem _ hp))
    have := h y List.mem_cons_self
    omega
theorem take_text' (l : List UInt8) (s : ByteArray) (hs : s = ⟨l.toArray⟩) (k : Nat) : s.extract 0 k = ⟨(l.take k).toArray⟩ := by
  subst hs
  apply ByteArray.ext
  simp [ByteArray.extract, ByteArray.copySlice]
/-- What Join tells: a text and a fault. -/
def joinR (ps : List (List UInt8)) : List UInt8 × Nat := if ps.length < 1 ∨ 4 < ps.length then ([], 3) else if ps.all partL = false then ([], 3) else if rightL (joinL ps) = false then ([], 6) else (joinL ps, 0)
def RetJ (w : World) (r : List UInt8 × Nat) (e : Ending) (w' : World) : Prop := e = .returned (.tuple #[strc r.1, .int .i64 (r.2 : Int)]) ∧ Gr w w'
set_option maxRecDepth 100000 in
set_option maxHeartbeats 2000000 in
theorem refJoin_any (A : Option Addr) (n c : Nat) (ps : List (List UInt8)) (w : World) (h : Ws w A n c ps) (hB : ∀ p ∈ ps, p.length ≤ 10000) : Calls Tryd.prog 8 #[.slice A n c] w (RetJ w (joinR ps)) := by
  have hmax := h.max
  have hcap := h.cap
  have HL := Lib.hid h.len
  have HH := Lib.hid h; have HBB := Lib.hid hB
  have hll := h.len
  clear h hB
  obtain ⟨r, hr⟩ : ∃ r, r = joinR ps := ⟨_, rfl⟩
  rw [← hr]
  by_cases h1 : n < 1
  · have HF : Hid (r = ([], 3)) := by show _ = _; rw [hr]; unfold joinR; rw [if_pos (.inl (by omega))]
    have t1 : decide ((n : Int) < 1) = true := decide_eq_true (by omega)
    clear hr hll
    go_enter Tryd.func8, Tryd.ntmps8
    go_wp2_with fail
    go_ret2
    rw [HF.out]
    exact ⟨rfl, Gr.refl w⟩
  have t1 : decide ((n : Int) < 1) = false := decide_eq_false (by omega)
  by_cases h4 : 4 < n
  · have HF : Hid (r = ([], 3)) := by show _ = _; rw [hr]; unfold joinR; rw [if_pos (.inr (by omega))]
    have t4 : decide ((4 : Int) < (n : Int)) = true := decide_eq_true (by omega)
    clear hr hll
    go_enter Tryd.func8, Tryd.ntmps8
    go_wp2_with fail
    go_ret2
    rw [HF.out]
    exact ⟨rfl, Gr.refl w⟩
  have t4 : decide ((4 : Int) < (n : Int)) = false := decide_eq_false (by omega)
  have HR : Hid (r = if ps.all partL = false then ([], 3) else if rightL (joinL ps) = false then ([], 6) else (joinL ps, 0)) := by
    show _ = _
    rw [hr]
    unfold joinR
    rw [if_neg (by omega)]
  clear hr hll
  obtain ⟨b, o, rfl, hcl⟩ := Ws.addr HH.out (by omega)
  have HC : Hid (∀ wr, Gr w wr → ∀ j (hj : j < ps.length), wr.cell? ⟨b, o + j, none⟩ = some (strc ps[j])) := fun wr g j hj => (g.cell (p := ⟨b, o + j, none⟩) (World.block_lt_of_cell? w _ (hcl j hj))).trans (hcl j hj)
  clear hcl
  go_enter Tryd.func8, Tryd.ntmps8
  go_wp2_with fail
  go_loopw [4, 5] (fun v i wr => ∃ (k : Nat) (t : ByteArray), k ≤ n ∧ i = .int .i64 k ∧ v = .string t ∧ t = ⟨(joinL (ps.take k)).toArray⟩ ∧ Gr w wr ∧ (ps.take k).all partL = true) (fun _ i _ => n - (intOf i).toNat)
  case atStart => exact ⟨0, _, Nat.zero_le _, rfl, rfl, rfl, Gr.refl _, rfl⟩
  case round =>
    obtain ⟨k, t, hk, rfl, rfl, ht, g, hall⟩ := hrel
    have HAL := Lib.hid hall; clear hall
    have G := Lib.hid g
    have HT := Lib.hid ht
    by_cases hlt : k < n
    · have hkl : k < ps.length := by rw [HL.out]; exact hlt
      have hpl := HBB.out _ (List.getElem_mem hkl)
      have hjl := joinL_len 10000 (ps.take k) (fun p hp => HBB.out p (List.mem_of_mem_take hp))
      rw [List.length_take, Nat.min_eq_left (by omega)] at hjl
      have htz : t.size = (joinL (ps.take k)).length := by rw [ht]; exact size_of' _
      have htz2 : t.size ≤ 40004 := by omega
      have c1 := HC.out wr g k hkl
      have HTK : Hid ((ps.take (k + 1)).all partL = partL ps[k]) := by
        show _ = _
        rw [List.take_succ_eq_append_getElem hkl, List.all_append, HAL.out]
        simp
      have HIN : Hid (partL ps[k] = false → r = ([], 3)) := fun e => by
        rw [HR.out, if_pos]
        rw [List.all_eq_false]
        exact ⟨ps[k], List.getElem_mem hkl, by rw [e]; decide⟩
      have HJN : Hid (0 < k → joinL (ps.take (k + 1)) = joinL (ps.take k) ++ [46] ++ ps[k]) := fun h0 => by
        rw [List.take_succ_eq_append_getElem hkl, joinL_snoc]
        intro e
        have := congrArg List.length e
        rw [List.length_take, Nat.min_eq_left (by omega)] at this
        simp at this
        omega
      have HJ0 : Hid (k = 0 → joinL (ps.take (k + 1)) = ps[k]) := fun h0 => by
        subst h0
        rw [List.take_succ_eq_append_getElem hkl]
        exact joinL_one _
      have HPT := Lib.hid (refPart_any ps[k] wr (by omega))
      have hcw : ∀ w2, Gr wr w2 → w2.cell? ⟨b, o + k, none⟩ = some (strc ps[k]) := fun w2 g2 => HC.out w2 (g.trans g2) k hkl
      clear g ht htz hjl
      generalize ps[k] = y at *
      obtain ⟨ys, hys⟩ : ∃ ys : ByteArray, ys = ⟨y.toArray⟩ := ⟨_, rfl⟩
      have hyz : ys.size = y.length := by rw [hys]; exact size_of' _
      have hsy : strc y = .string ys := by rw [hys]; rfl
      rw [hsy] at c1
      simp only [hsy] at hcw
      rw [← hys] at HPT
      have HYS := Lib.hid hys
      have HCW := Lib.hid hcw
      have hyl : ys.size ≤ 10000 := by omega
      clear hys hsy hcw hyz hpl
      cases hsm : partL y with
      | false =>
        rw [hsm] at HPT
        have HF := Lib.hid (HIN.out hsm)
        clear hsm
        go_wp2_with fail
        refine HPT.out.mono ?_
        rintro e w2 ⟨rfl, g2⟩
        have G2 := Lib.hid g2; clear g2
        go_wp2_with fail
        go_ret2
        rw [HF.out]
        exact ⟨rfl, Gr.trans G.out G2.out⟩
      | true =>
        rw [hsm] at HPT HTK
        clear hsm
        by_cases h0 : 0 < k
        · have t0 : decide ((0 : Int) < (k : Int)) = true := decide_eq_true (by omega)
          have HX : Hid (t ++ ⟨#[46]⟩ ++ ys = ⟨(joinL (ps.take (k + 1))).toArray⟩) := by
            show _ = _
            rw [HJN.out h0, HT.out, HYS.out]
            apply ByteArray.ext
            simp
          have l1 : ¬ 9223372036854775807 < t.size + 1 := by omega
          have l2 : ¬ 9223372036854775807 < t.size + 1 + ys.size := by omega
          go_wp2_with fail
          refine HPT.out.mono ?_
          rintro e w2 ⟨rfl, g2⟩
          have G2 := Lib.hid g2
          have c2 := HCW.out w2 g2
          clear g2
          go_wp2_with fail
          refine ⟨⟨k + 1, _, by omega, by first | trivial | go_num, rfl, HX.out, Gr.trans G.out G2.out, HTK.out⟩, ?_⟩
          show n - ((k : Int) + 1).toNat < n - (k : Int).toNat
          omega
        · obtain rfl : k = 0 := by omega
          have c1 : wr.cell? ⟨b, o, none⟩ = some (.string ys) := c1
          have HX : Hid (t ++ ys = ⟨(joinL (ps.take (0 + 1))).toArray⟩) := by
            show _ = _
            rw [HJ0.out rfl, HT.out, HYS.out]
            apply ByteArray.ext
            simp [joinL_nil]
          have l2 : ¬ 9223372036854775807 < t.size + ys.size := by omega
          go_wp2_with fail
          refine HPT.out.mono ?_
          rintro e w2 ⟨rfl, g2⟩
          have G2 := Lib.hid g2
          have c2 : w2.cell? ⟨b, o, none⟩ = some (.string ys) := HCW.out w2 g2
          clear g2
          go_wp2_with fail
          refine ⟨⟨0 + 1, _, by omega, by first | trivial | go_num, rfl, HX.out, Gr.trans G.out G2.out, HTK.out⟩, ?_⟩
          show n - (1 : Int).toNat < n - (0 : Int).toNat
          omega
    · obtain rfl : k = n := by omega
      have htk : ps.take k = ps := List.take_of_length_le (by rw [HL.out]; omega)
      have hall2 := HAL.out
      rw [htk] at ht hall2
      have hjl := joinL_len 10000 ps HBB.out
      rw [HL.out] at hjl
      have hR2 : r = if rightL (joinL ps) = false then ([], 6) else (joinL ps, 0) := by rw [HR.out, if_neg (by rw [hall2]; decide)]
      have HRT := Lib.hid (refRight_any (joinL ps) wr (by omega))
      rw [← ht] at HRT
      have HTT := Lib.hid ht
      clear g HT ht hall2 htk hjl
      cases hb : rightL (joinL ps) with
      | false =>
        rw [hb] at HRT
        have HF : Hid (r = ([], 6)) := by show _ = _; rw [hR2, if_pos hb]
        clear hR2 hb
        go_wp2_with fail
        refine HRT.out.mono ?_
        rintro e w2 ⟨rfl, g2⟩
        have G2 := Lib.hid g2; clear g2
        go_wp2_with fail
        go_ret2
        rw [HF.out]
        exact ⟨rfl, Gr.trans G.out G2.out⟩
      | true =>
        rw [hb] at HRT
        have HF : Hid (r = (joinL ps, 0)) := by show _ = _; rw [hR2, if_neg (by rw [hb]; decide)]
        clear hR2 hb
        go_wp2_with fail
        refine HRT.out.mono ?_
        rintro e w2 ⟨rfl, g2⟩
        have G2 := Lib.hid g2; clear g2
        go_wp2_with fail
        go_ret2
        rw [HF.out]
        exact ⟨by rw [HTT.out]; rfl, Gr.trans G.out G2.out⟩
theorem split_pieces : ∀ (k : Nat) (s : ByteArray), Lib.countB s ⟨#[46]⟩ = k → (Lib.splitB ⟨#[46]⟩ 0 k s).map Value.string = (piecesL s.data.toList).map strc := by
  intro k
  induction k with
  | zero =>
    intro s hk
    have hix : Lib.indexB s ⟨#[46]⟩ = Lib.indexByte s.data.toList 46 := Lib.index_one s.data.toList 46
    rcases pieces_index s.data.toList _ rfl with ⟨hi, hp⟩ | ⟨j, hi, hj, hp⟩
    · rw [hp]; rfl
    · rw [hi] at hix
      have := Lib.countB_hit s ⟨#[46]⟩ j (by decide) hix
      omega
  | succ k ih =>
    intro s hk
    have hix : Lib.indexB s ⟨#[46]⟩ = Lib.indexByte s.data.toList 46 := Lib.index_one s.data.toList 46
    rcases pieces_index s.data.toList _ rfl with ⟨hi, hp⟩ | ⟨j, hi, hj, hp⟩
    · rw [hi] at hix
      have := Lib.countB_miss s ⟨#[46]⟩ hix
      omega
    · rw [hi] at hix
      have hc := Lib.countB_hit s ⟨#[46]⟩ j (by decide) hix
      rw [Lib.splitB_hit _ 0 k s j hix, hp, List.map_cons, List.map_cons, ih _ (by omega)]
      have e1 : (⟨#[46]⟩ : ByteArray).size = 1 := rfl
      have hs : s = ⟨s.data.toList.toArray⟩ := by cases s; rfl
      congr 1
      · show Value.string _ = strc _
        unfold strc
        rw [← take_text' _ s hs j]
        rfl
      · rw [e1, drop_text _ s hs (j + 1)]
end Go.Proofs.YtciokbponfilfaaDoor
