/- Names: the reference's Right, Split, Join, and rows of words. No condition. -/
import Derived.Test.YtciokbponfilfaaDoorObNameH
import Derived.Outline
namespace Go.Proofs.YtciokbponfilfaaDoor
open Go.RowKit
set_option linter.unusedVariables false
/-- A slice that reads as texts. -/
abbrev Ws (w : World) (A : Option Addr) (n c : Nat) (ps : List (List UInt8)) : Prop := Sl w A n c 1 (ps.map strc)
theorem Ws.len {w : World} {A : Option Addr} {n c : Nat} {ps : List (List UInt8)} (h : Ws w A n c ps) : ps.length = n := by have := Sl.len h; simpa using this
theorem Ws.addr {w : World} {A : Option Addr} {n c : Nat} {ps : List (List UInt8)} (h : Ws w A n c ps) (hn : 0 < n) : ∃ b o, A = some ⟨b, o, none⟩ ∧ ∀ j (hj : j < ps.length), w.cell? ⟨b, o + j, none⟩ = some (.string ⟨ps[j].toArray⟩) := by
  obtain ⟨b, o, e, hc⟩ := Sl.addr h hn
  exact ⟨b, o, e, fun j hj => hc j _ (by rw [List.getElem?_map, List.getElem?_eq_getElem hj]; rfl)⟩
theorem Own.onto {w0 w1 w : World} {e : TypeId} {size n : Nat} {v : Value} {xs : List Value} (h : Own w1 w e size v n xs) (hb : Below w0.heap.size w0 w1) : Own w0 w e size v n xs := by
  refine ⟨⟨h.1.1, ?_⟩, hb.trans (h.2.mono hb.size)⟩
  rcases h.1.2 with h' | ⟨g, cap, cur, hv, hg, r⟩
  · exact .inl h'
  · exact .inr ⟨g, cap, cur, hv, Nat.le_trans hb.size hg, r⟩
/-! ### parts of slices -/
theorem Sl.gr {w w' : World} {A : Option Addr} {n c s : Nat} {xs : List Value} (h : Sl w A n c s xs) (g : Gr w w') : Sl w' A n c s xs := h.mono g
set_option maxHeartbeats 2000000 in
theorem refRight_any (l : List UInt8) (w : World) (hl : l.length ≤ 100000) : Calls Tryd.prog 20 #[.string ⟨l.toArray⟩] w fun e w' => e = .returned (.bool (rightL l)) ∧ Gr w w' := by
  have HR := Lib.hid (refPieces_any l w hl)
  have HCT := Lib.hid (fun w => refCount_any l w hl)
  obtain ⟨s, hs⟩ : ∃ s : ByteArray, s = ⟨l.toArray⟩ := ⟨_, rfl⟩
  rw [← hs] at HR ⊢
  simp only [← hs] at HCT
  clear hs
  obtain ⟨b, hb⟩ : ∃ b, b = rightL l := ⟨_, rfl⟩
  rw [← hb]
  have HB : Hid (b = ((piecesL l).all partL && decide ((piecesL l).length ≤ 4) && decide (countR (runesA l) ≤ 24))) := by
    show _ = _
    rw [hb, ← rightRef_eq]
    unfold rightRef
    have hp : (piecesL l).all partR = (piecesL l).all partL := by congr 1; funext x; exact partR_eq x
    rw [hp]
    congr 1
    show (match runesA l with | some rs => decide (rs.length ≤ 24) | none => true) = _
    cases runesA l with
    | none => rfl
    | some rs => exact decide_eq_decide.2 (by show _ ↔ ((rs.length : Nat) : Int) ≤ 24; omega)
  clear hb
  have HLEN := Lib.hid (fun p hp => Nat.le_trans ((pieces_size l).2 p hp) hl)
  have hmx : (piecesL l).length ≤ 100001 := Nat.le_trans (pieces_size l).1 (by omega)
  have hne : 0 < (piecesL l).length := List.length_pos_iff.2 (pieces_ne l)
  have hc1 : -1 ≤ countR (runesA l) := by unfold countR; cases runesA l <;> simp <;> omega
  generalize piecesL l = ps at *
  generalize countR (runesA l) = ct at *
  go_enter Tryd.func20, Tryd.ntmps20
  go_wp2_with fail
  refine HR.out.mono ?_
  rintro e w1 ⟨v, rfl, own⟩
  have G1 := Lib.hid own.below
  obtain ⟨A, c, rfl, sl⟩ := own.slice
  have hm := sl.max
  have hcap := sl.cap
  clear own
  obtain ⟨bk, o, rfl, hcl⟩ := Ws.addr sl hne
  have HC := Lib.hid hcl; clear hcl sl
  go_wp2_with fail
  go_loopw [4] (fun i wr => ∃ k : Nat, k ≤ ps.length ∧ i = .int .i64 k ∧ Gr w1 wr ∧ (ps.take k).all partL = true) (fun i _ => ps.length - (intOf i).toNat)
  case atStart => exact ⟨0, Nat.zero_le _, rfl, Gr.refl _, rfl⟩
  case round =>
    obtain ⟨k, hk, rfl, g, hall⟩ := hrel
    have HAL := Lib.hid hall; clear hall
    have G := Lib.hid g
    by_cases hlt : k < ps.length
    · have hc0 := HC.out k hlt
      have hc : wr.cell? ⟨bk, o + k, none⟩ = some (.string ⟨ps[k].toArray⟩) := (g.cell (p := ⟨bk, o + k, none⟩) (World.block_lt_of_cell? w1 _ hc0)).trans hc0
      have HTK : Hid ((ps.take (k + 1)).all partL = partL ps[k]) := by
        show _ = _
        rw [List.take_succ_eq_append_getElem hlt, List.all_append, HAL.out]
        simp
      have HIN : Hid (partL ps[k] = false → b = false) := fun e => by
        rw [HB.out]
        have : ps.all partL = false := by
          rw [List.all_eq_false]
          exact ⟨ps[k], List.getElem_mem hlt, by rw [e]; decide⟩
        rw [this]; rfl
      have HSM := Lib.hid (refPart_any ps[k] wr (HLEN.out _ (List.getElem_mem hlt)))
      clear hc0 g
      generalize ps[k] = y at *
      obtain ⟨ys, hys⟩ : ∃ ys : ByteArray, ys = ⟨y.toArray⟩ := ⟨_, rfl⟩
      rw [← hys] at hc HSM
      clear hys
      cases hsm : partL y with
      | false =>
        rw [hsm] at HSM
        have HF := Lib.hid (HIN.out hsm)
        clear hsm
        go_wp2_with fail
        refine HSM.out.mono ?_
        rintro e w2 ⟨rfl, g2⟩
        have G2 := Lib.hid g2; clear g2
        go_wp2_with fail
        go_ret
        exact ⟨by rw [HF.out]; rfl, Gr.trans (Gr.trans G1.out G.out) G2.out⟩
      | true =>
        rw [hsm] at HSM HTK
        clear hsm
        go_wp2_with fail
        refine HSM.out.mono ?_
        rintro e w2 ⟨rfl, g2⟩
        have G2 := Lib.hid g2; clear g2
        go_wp2_with fail
        go_roundw
        case rel => exact ⟨k + 1, by omega, by first | trivial | go_num, Gr.trans G.out G2.out, HTK.out⟩
        case measure =>
          show ps.length - ((k : Int) + 1).toNat < ps.length - (k : Int).toNat
          omega
    · have HA : Hid (b = (decide (ps.length ≤ 4) && decide (ct ≤ 24))) := by
        show _ = _
        have := HAL.out
        rw [List.take_of_length_le (by omega)] at this
        rw [HB.out, this]; rfl
      clear g
      by_cases h4 : ps.length ≤ 4
      · have t4 : decide ((ps.length : Int) ≤ 4) = true := decide_eq_true (by omega)
        have HF : Hid (b = decide (ct ≤ 24)) := by show _ = _; rw [HA.out, decide_eq_true h4]; rfl
        go_wp2_with fail
        refine (HCT.out _).mono ?_
        rintro e w2 ⟨rfl, g2⟩
        have G2 := Lib.hid g2; clear g2
        go_wp2_with fail
        go_ret
        exact ⟨by rw [HF.out]; rfl, Gr.trans (Gr.trans G1.out G.out) G2.out⟩
      · have t4 : decide ((ps.length : Int) ≤ 4) = false := decide_eq_false (by omega)
        have HF : Hid (b = false) := by show _ = _; rw [HA.out, decide_eq_false h4]; rfl
        go_wp2_with fail
        go_ret
        exact ⟨by rw [HF.out]; rfl, Gr.trans G1.out G.out⟩
/-- What Split tells. -/
def splitL (l : List UInt8) : List (List UInt8) := if rightL l = true then piecesL l else []
set_option maxHeartbeats 2000000 in
theorem refSplit_any (l : List UInt8) (w : World) (hl : l.length ≤ 100000) : Calls Tryd.prog 11 #[.string ⟨l.toArray⟩] w (RetWs w (splitL l)) := by
  have HR := Lib.hid (refRight_any l w hl)
  have HP := Lib.hid (fun w => refPieces_any l w hl)
  obtain ⟨s, hs⟩ : ∃ s : ByteArray, s = ⟨l.toArray⟩ := ⟨_, rfl⟩
  rw [← hs] at HR ⊢
  simp only [← hs] at HP
  clear hs
  cases hb : rightL l with
  | false =>
    rw [hb] at HR
    have HS : Hid (splitL l = []) := by show _ = _; unfold splitL; rw [if_neg (by rw [hb]; decide)]
    go_enter Tryd.func11, Tryd.ntmps11
    go_wp2_with fail
    refine HR.out.mono ?_
    rintro e w1 ⟨rfl, g1⟩
    have G1 := Lib.hid g1; clear g1
    go_wp2_with fail
    go_ret
    exact ⟨_, rfl, by rw [HS.out]; exact Own.nil' G1.out _ _⟩
  | true =>
    rw [hb] at HR
    have HS : Hid (splitL l = piecesL l) := by show _ = _; unfold splitL; rw [if_pos hb]
    go_enter Tryd.func11, Tryd.ntmps11
    go_wp2_with fail
    refine HR.out.mono ?_
    rintro e w1 ⟨rfl, g1⟩
    have G1 := Lib.hid g1; clear g1
    go_wp2_with fail
    refine (HP.out _).mono ?_
    rintro e w2 ⟨v, rfl, own⟩
    have OW := Lib.hid own; clear own
    go_wp2_with fail
    go_ret
    exact ⟨_, rfl, by rw [HS.out]; exact OW.out.onto G1.out⟩
end Go.Proofs.YtciokbponfilfaaDoor
