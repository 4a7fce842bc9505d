/- Names: the iterator of the pieces between points. No condition. -/
import Derived.Test.YtciokbponfilfaaDoorObNameI
import Derived.Test.YtciokbponfilfaaDoorObNameC
import Derived.Test.YtciokbponfilfaaDoorObShelf
import Derived.RangeFuncNested
import Derived.RangeFuncBound
import Derived.RangeFuncCalls
import Derived.RangeFuncLeaves
import Derived.Shelf.Abstract
import Derived.Shelf.RegionOpen
import Derived.WalkKit
import Derived.OwnWalkIn
import Derived.TacticsInMore
import Derived.LoopNIn
import Derived.LoopIn
namespace Go.Proofs.YtciokbponfilfaaDoor
open Go.RowKit Go.Shelf
attribute [local go_sem] Oper.semAt_some
set_option linter.unusedVariables false
/-- How long the text is that stands in a box. -/
def textLen (w : World) (b : Nat) : Nat := match w.cell? ⟨b, 0, none⟩ with
  | some (.string t) => t.size
  | _ => 0
theorem textLen_of {w : World} {b : Nat} {t : ByteArray} (h : w.cell? ⟨b, 0, none⟩ = some (.string t)) : textLen w b = t.size := by unfold textLen; rw [h]
/-- Three boxes are as they were. -/
def K3 (Bs Bp Bn : Nat) (A A' : World) : Prop := ∀ b, b = Bs ∨ b = Bp ∨ b = Bn → A'.heap[b]? = A.heap[b]?
theorem K3.refl (Bs Bp Bn : Nat) (A : World) : K3 Bs Bp Bn A A := fun _ _ => rfl
theorem K3.trans {Bs Bp Bn : Nat} {A B C : World} (h : K3 Bs Bp Bn A B) (k : K3 Bs Bp Bn B C) : K3 Bs Bp Bn A C := fun b hb => (k b hb).trans (h b hb)
theorem take_text (l : List UInt8) (s : ByteArray) (hs : s = ⟨l.toArray⟩) (k : Nat) : s.extract 0 k = ⟨(l.take k).toArray⟩ := by
  subst hs
  apply ByteArray.ext
  simp [ByteArray.extract, ByteArray.copySlice]
theorem blk_cell0 {w : World} {b : Nat} {t : TypeId} {v : Value} (h : Blk w b t [v]) : w.cell? ⟨b, 0, none⟩ = some v := (h.cell 0).trans rfl
set_option maxRecDepth 100000 in
set_option maxHeartbeats 2000000 in
theorem split1_in (n : Nat) (hn : 1 ≤ n) (q Bs Bp Bn : Nat) (hsp : Bs ≠ Bp) (hsn : Bs ≠ Bn) (l : List UInt8) (hl : l.length ≤ 100000) (J Jx : List (List UInt8) → World → Prop)
    (hJs : ∀ s A v, J s A → Bs < A.heap.size → J s (A.setCell ⟨Bs, 0, none⟩ v))
    (hY : ∀ pre x W, J pre W → (∃ rest, pre ++ x :: rest = piecesL l) → YieldAt Fence.wide (n - 1) Tryd.prog q #[strc x] W fun e W' =>
      (e = .returned (.bool true) ∧ J (pre ++ [x]) W' ∧ K3 Bs Bp Bn W W') ∨ (e = .returned (.bool false) ∧ Jx (pre ++ [x]) W'))
    (W : World) (hBs : Blk W Bs 9 [strc l]) (hBp : Blk W Bp 9 [strc [46]]) (hBn : Blk W Bn 3 [.int .i64 0]) (h0 : J [] W) :
    CallsIn Fence.wide n Tryd.prog 62 #[.func (.yield q) #[] #[], .pointer (some ⟨Bp, 0, none⟩), .pointer (some ⟨Bs, 0, none⟩), .pointer (some ⟨Bn, 0, none⟩)] W fun e W' => (∃ v, e = .returned v) ∧
      (J (piecesL l) W' ∨ ∃ pre, (∃ rest, pre ++ rest = piecesL l) ∧ Jx pre W') := by
  refine callsIn_of_wp Tryd.func62 rfl trivial ?_ rfl
  simp only [Tryd.ntmps62, List.size_toArray, List.length_cons, List.length_nil, Nat.reduceAdd, Nat.reduceSub, Array.replicate_succ, Array.replicate_zero, List.push_toArray, List.append_toArray, List.nil_append, List.cons_append]
  have cp : W.cell? ⟨Bp, 0, none⟩ = some (.string ⟨#[46]⟩) := blk_cell0 hBp
  have HJS := Lib.hid hJs; have HYY := Lib.hid hY
  have HL : Hid (l.length ≤ 100000) := hl
  clear hJs hY hl
  gi_wp2
  clear cp
  gi_loopw [7] (fun i wr => ∃ (pre : List (List UInt8)) (m : List UInt8), pre ++ piecesL m = piecesL l ∧ m.length ≤ 100000 ∧ Blk wr Bs 9 [strc m] ∧ Blk wr Bp 9 [strc [46]] ∧ Blk wr Bn 3 [.int .i64 0] ∧ J pre wr) (fun _ wr => textLen wr Bs)
  case atStart => exact ⟨[], l, rfl, HL.out, hBs, hBp, hBn, h0⟩
  case round =>
    obtain ⟨pre, m, hpm, hm, bs, bp, bn, hJ⟩ := hrel
    have BS := Lib.hid bs; have BP := Lib.hid bp; have BN := Lib.hid bn; have HJ := Lib.hid hJ; have HPM := Lib.hid hpm
    clear bs bp bn hJ hpm
    obtain ⟨t, ht⟩ : ∃ t : ByteArray, t = ⟨m.toArray⟩ := ⟨_, rfl⟩
    have htz : t.size = m.length := by rw [ht]; exact size_of' m
    have htd : t.data.toList = m := by rw [ht]
    have cs : wr.cell? ⟨Bs, 0, none⟩ = some (.string t) := by rw [ht]; exact blk_cell0 BS.out
    have cp : wr.cell? ⟨Bp, 0, none⟩ = some (.string ⟨#[46]⟩) := blk_cell0 BP.out
    have cn : wr.cell? ⟨Bn, 0, none⟩ = some (.int .i64 0) := blk_cell0 BN.out
    have hix := Tryd.strings_Index_one t 46 wr
    rw [htd] at hix
    have HT := Lib.hid ht; have HTZ := Lib.hid htz
    have hts : t.size ≤ 100000 := by omega
    clear ht htz htd
    rcases pieces_index m _ rfl with ⟨hi, hp1⟩ | ⟨k, hi, hk, hp1⟩
    · rw [hi] at hix
      have HIX := Lib.hid hix
      clear hix hi
      have hfin : pre ++ [m] = piecesL l := by rw [← hp1]; exact HPM.out
      obtain ⟨fn, tmps, assign, body, hy, hR⟩ := HYY.out pre m wr HJ.out ⟨[], hfin⟩
      rw [hfin] at hR
      have hy : (Instr.yield q #[.string t]).run Tryd.prog wr = .ok (.round q fn tmps assign body) wr := by rw [HT.out]; exact hy
      have HRR := Lib.hid hR
      clear hfin hR hp1
      gi_wp2_with (refine ⟨trivial, ?_⟩; gi_at_call 60; refine (callsIn_wide.2 HIX.out).mono ?_; rintro e w6 ⟨rfl, rfl⟩)
      refine HRR.out.mono ?_
      rintro e W3 (⟨rfl, hJ3, hk3⟩ | ⟨rfl, hJx3⟩)
      · gi_wp2
        go_end0
        exact ⟨⟨_, rfl⟩, .inl hJ3⟩
      · gi_wp2
        go_end0
        exact ⟨⟨_, rfl⟩, .inr ⟨_, ⟨[], List.append_nil _⟩, hJx3⟩⟩
    · rw [hi] at hix
      have HIX := Lib.hid hix
      clear hix hi
      have hfin : pre ++ m.take k :: piecesL (m.drop (k + 1)) = piecesL l := by rw [← hp1]; exact HPM.out
      obtain ⟨fn, tmps, assign, body, hy, hR⟩ := HYY.out pre (m.take k) wr HJ.out ⟨_, hfin⟩
      have hy : (Instr.yield q #[.string (t.extract 0 k)]).run Tryd.prog wr = .ok (.round q fn tmps assign body) wr := by rw [take_text m t HT.out k]; exact hy
      have HRR := Lib.hid hR
      have HFI := Lib.hid hfin
      have HDR := Lib.hid (drop_text m t HT.out (k + 1))
      have hkz : k < t.size := by have := HTZ.out; omega
      clear hfin hR hp1
      gi_wp2_with (refine ⟨trivial, ?_⟩; gi_at_call 60; refine (callsIn_wide.2 HIX.out).mono ?_; rintro e w6 ⟨rfl, rfl⟩)
      refine HRR.out.mono ?_
      rintro e W3 (⟨rfl, hJ3, hk3⟩ | ⟨rfl, hJx3⟩)
      · have bs3 : Blk W3 Bs 9 [strc m] := (hk3 Bs (.inl rfl)).trans BS.out
        have bp3 : Blk W3 Bp 9 [strc [46]] := (hk3 Bp (.inr (.inl rfl))).trans BP.out
        have bn3 : Blk W3 Bn 3 [.int .i64 0] := (hk3 Bn (.inr (.inr rfl))).trans BN.out
        have cs3 : W3.cell? ⟨Bs, 0, none⟩ = some (.string t) := by rw [HT.out]; exact blk_cell0 bs3
        have cp3 : W3.cell? ⟨Bp, 0, none⟩ = some (.string ⟨#[46]⟩) := blk_cell0 bp3
        have fs3 := bs3.free 0
        have ls3 := bs3.lt
        have HJ3 := Lib.hid hJ3
        have BS3 := Lib.hid bs3; have BP3 := Lib.hid bp3; have BN3 := Lib.hid bn3
        clear hk3 bs3 bp3 bn3 hJ3 cs cp cn hy
        gi_wp2
        have bs4 := BS3.out.set 0 (.string (t.extract (k + 1) t.size))
        rw [HDR.out] at bs4 ⊢
        have bs4 : Blk (W3.setCell ⟨Bs, 0, none⟩ (.string ⟨(m.drop (k + 1)).toArray⟩)) Bs 9 [strc (m.drop (k + 1))] := bs4
        refine ⟨⟨pre ++ [m.take k], m.drop (k + 1), ?_, ?_, bs4, BP3.out.far (p := ⟨Bs, 0, none⟩) (Ne.symm hsp) _, BN3.out.far (p := ⟨Bs, 0, none⟩) (Ne.symm hsn) _, HJS.out _ _ _ HJ3.out ls3⟩, ?_⟩
        · rw [List.append_assoc]; exact HFI.out
        · rw [List.length_drop]; omega
        · rw [textLen_of (blk_cell0 BS.out), textLen_of (blk_cell0 bs4), size_of', size_of', List.length_drop]
          omega
      · gi_wp2
        refine bodyPost_ret (results_none rfl _ _ _) rfl ?_
        exact ⟨⟨_, rfl⟩, .inr ⟨_, ⟨piecesL (m.drop (k + 1)), by rw [List.append_assoc]; exact HFI.out⟩, hJx3⟩⟩
end Go.Proofs.YtciokbponfilfaaDoor
