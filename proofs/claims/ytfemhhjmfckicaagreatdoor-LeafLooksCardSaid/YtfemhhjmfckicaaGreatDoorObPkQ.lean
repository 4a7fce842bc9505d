/- Own texts of this claim, one behind the other. No condition. -/
import Derived.Test.YtfemhhjmfckicaaGreatDoorObPkN
import Derived.Test.YtfemhhjmfckicaaGreatDoorObPkO
import Derived.Test.YtfemhhjmfckicaaGreatDoorObPkP
import Derived.RangeFuncNested
import Derived.RangeFuncBound
import Derived.RangeFuncCalls
import Derived.RangeFuncLeaves
import Derived.Shelf.Abstract
import Derived.Shelf.RegionOpen
import Derived.WalkKit
import Derived.OwnWalkIn
import Derived.TacticsInMore
import Derived.LoopNIn
import Derived.LoopIn

/- Names: the iterator of the pieces between points. No condition. -/
namespace Go.Proofs.YtfemhhjmfckicaaGreatDoor
open Go.RowKit Go.Shelf
attribute [local go_sem] Oper.semAt_some
set_option linter.unusedVariables false
/-- How long the text is that stands in a box. -/
def textLen (w : World) (b : Nat) : Nat := match w.cell? ⟨b, 0, none⟩ with
  | some (.string t) => t.size
  | _ => 0
theorem textLen_of {w : World} {b : Nat} {t : ByteArray} (h : w.cell? ⟨b, 0, none⟩ = some (.string t)) : textLen w b = t.size := by unfold textLen; rw [h]
/-- Three boxes are as they were. -/
def K3 (Bs Bp Bn : Nat) (A A' : World) : Prop := ∀ b, b = Bs ∨ b = Bp ∨ b = Bn → A'.heap[b]? = A.heap[b]?
theorem K3.refl (Bs Bp Bn : Nat) (A : World) : K3 Bs Bp Bn A A := fun _ _ => rfl
theorem K3.trans {Bs Bp Bn : Nat} {A B C : World} (h : K3 Bs Bp Bn A B) (k : K3 Bs Bp Bn B C) : K3 Bs Bp Bn A C := fun b hb => (k b hb).trans (h b hb)
theorem take_text (l : List UInt8) (s : ByteArray) (hs : s = ⟨l.toArray⟩) (k : Nat) : s.extract 0 k = ⟨(l.take k).toArray⟩ := by
  subst hs
  apply ByteArray.ext
  simp [ByteArray.extract, ByteArray.copySlice]
theorem blk_cell0 {w : World} {b : Nat} {t : TypeId} {v : Value} (h : Blk w b t [v]) : w.cell? ⟨b, 0, none⟩ = some v := (h.cell 0).trans rfl
set_option maxRecDepth 100000 in
set_option maxHeartbeats 2000000 in
theorem split1_in (n : Nat) (hn : 1 ≤ n) (q Bs Bp Bn : Nat) (hsp : Bs ≠ Bp) (hsn : Bs ≠ Bn) (l : List UInt8) (hl : l.length ≤ 100000) (J Jx : List (List UInt8) → World → Prop)
    (hJs : ∀ s A v, J s A → Bs < A.heap.size → J s (A.setCell ⟨Bs, 0, none⟩ v))
    (hY : ∀ pre x W, J pre W → (∃ rest, pre ++ x :: rest = piecesL l) → YieldAt Fence.wide (n - 1) Tryz.prog q #[strc x] W fun e W' =>
      (e = .returned (.bool true) ∧ J (pre ++ [x]) W' ∧ K3 Bs Bp Bn W W') ∨ (e = .returned (.bool false) ∧ Jx (pre ++ [x]) W'))
    (W : World) (hBs : Blk W Bs 9 [strc l]) (hBp : Blk W Bp 9 [strc [46]]) (hBn : Blk W Bn 3 [.int .i64 0]) (h0 : J [] W) :
    CallsIn Fence.wide n Tryz.prog 150 #[.func (.yield q) #[] #[], .pointer (some ⟨Bp, 0, none⟩), .pointer (some ⟨Bs, 0, none⟩), .pointer (some ⟨Bn, 0, none⟩)] W fun e W' => (∃ v, e = .returned v) ∧
      (J (piecesL l) W' ∨ ∃ pre, (∃ rest, pre ++ rest = piecesL l) ∧ Jx pre W') := by
  refine callsIn_of_wp Tryz.func150 rfl trivial ?_ rfl
  simp only [Tryz.ntmps150, List.size_toArray, List.length_cons, List.length_nil, Nat.reduceAdd, Nat.reduceSub, Array.replicate_succ, Array.replicate_zero, List.push_toArray, List.append_toArray, List.nil_append, List.cons_append]
  have cp : W.cell? ⟨Bp, 0, none⟩ = some (.string ⟨#[46]⟩) := blk_cell0 hBp
  have HJS := Lib.hid hJs; have HYY := Lib.hid hY
  have HL : Hid (l.length ≤ 100000) := hl
  clear hJs hY hl
  gi_wp2
  clear cp
  gi_loopw [7] (fun i wr => ∃ (pre : List (List UInt8)) (m : List UInt8), pre ++ piecesL m = piecesL l ∧ m.length ≤ 100000 ∧ Blk wr Bs 9 [strc m] ∧ Blk wr Bp 9 [strc [46]] ∧ Blk wr Bn 3 [.int .i64 0] ∧ J pre wr) (fun _ wr => textLen wr Bs)
  case atStart => exact ⟨[], l, rfl, HL.out, hBs, hBp, hBn, h0⟩
  case round =>
    obtain ⟨pre, m, hpm, hm, bs, bp, bn, hJ⟩ := hrel
    have BS := Lib.hid bs; have BP := Lib.hid bp; have BN := Lib.hid bn; have HJ := Lib.hid hJ; have HPM := Lib.hid hpm
    clear bs bp bn hJ hpm
    obtain ⟨t, ht⟩ : ∃ t : ByteArray, t = ⟨m.toArray⟩ := ⟨_, rfl⟩
    have htz : t.size = m.length := by rw [ht]; exact size_of' m
    have htd : t.data.toList = m := by rw [ht]
    have cs : wr.cell? ⟨Bs, 0, none⟩ = some (.string t) := by rw [ht]; exact blk_cell0 BS.out
    have cp : wr.cell? ⟨Bp, 0, none⟩ = some (.string ⟨#[46]⟩) := blk_cell0 BP.out
    have cn : wr.cell? ⟨Bn, 0, none⟩ = some (.int .i64 0) := blk_cell0 BN.out
    have hix := Tryz.strings_Index_one t 46 wr
    rw [htd] at hix
    have HT := Lib.hid ht; have HTZ := Lib.hid htz
    have hts : t.size ≤ 100000 := by omega
    clear ht htz htd
    rcases pieces_index m _ rfl with ⟨hi, hp1⟩ | ⟨k, hi, hk, hp1⟩
    · rw [hi] at hix
      have HIX := Lib.hid hix
      clear hix hi
      have hfin : pre ++ [m] = piecesL l := by rw [← hp1]; exact HPM.out
      obtain ⟨fn, tmps, assign, body, hy, hR⟩ := HYY.out pre m wr HJ.out ⟨[], hfin⟩
      rw [hfin] at hR
      have hy : (Instr.yield q #[.string t]).run Tryz.prog wr = .ok (.round q fn tmps assign body) wr := by rw [HT.out]; exact hy
      have HRR := Lib.hid hR
      clear hfin hR hp1
      gi_wp2_with (refine ⟨trivial, ?_⟩; gi_at_call 152; refine (callsIn_wide.2 HIX.out).mono ?_; rintro e w6 ⟨rfl, rfl⟩)
      refine HRR.out.mono ?_
      rintro e W3 (⟨rfl, hJ3, hk3⟩ | ⟨rfl, hJx3⟩)
      · gi_wp2
        go_end0
        exact ⟨⟨_, rfl⟩, .inl hJ3⟩
      · gi_wp2
        go_end0
        exact ⟨⟨_, rfl⟩, .inr ⟨_, ⟨[], List.append_nil _⟩, hJx3⟩⟩
    · rw [hi] at hix
      have HIX := Lib.hid hix
      clear hix hi
      have hfin : pre ++ m.take k :: piecesL (m.drop (k + 1)) = piecesL l := by rw [← hp1]; exact HPM.out
      obtain ⟨fn, tmps, assign, body, hy, hR⟩ := HYY.out pre (m.take k) wr HJ.out ⟨_, hfin⟩
      have hy : (Instr.yield q #[.string (t.extract 0 k)]).run Tryz.prog wr = .ok (.round q fn tmps assign body) wr := by rw [take_text m t HT.out k]; exact hy
      have HRR := Lib.hid hR
      have HFI := Lib.hid hfin
      have HDR := Lib.hid (drop_text m t HT.out (k + 1))
      have hkz : k < t.size := by have := HTZ.out; omega
      clear hfin hR hp1
      gi_wp2_with (refine ⟨trivial, ?_⟩; gi_at_call 152; refine (callsIn_wide.2 HIX.out).mono ?_; rintro e w6 ⟨rfl, rfl⟩)
      refine HRR.out.mono ?_
      rintro e W3 (⟨rfl, hJ3, hk3⟩ | ⟨rfl, hJx3⟩)
      · have bs3 : Blk W3 Bs 9 [strc m] := (hk3 Bs (.inl rfl)).trans BS.out
        have bp3 : Blk W3 Bp 9 [strc [46]] := (hk3 Bp (.inr (.inl rfl))).trans BP.out
        have bn3 : Blk W3 Bn 3 [.int .i64 0] := (hk3 Bn (.inr (.inr rfl))).trans BN.out
        have cs3 : W3.cell? ⟨Bs, 0, none⟩ = some (.string t) := by rw [HT.out]; exact blk_cell0 bs3
        have cp3 : W3.cell? ⟨Bp, 0, none⟩ = some (.string ⟨#[46]⟩) := blk_cell0 bp3
        have fs3 := bs3.free 0
        have ls3 := bs3.lt
        have HJ3 := Lib.hid hJ3
        have BS3 := Lib.hid bs3; have BP3 := Lib.hid bp3; have BN3 := Lib.hid bn3
        clear hk3 bs3 bp3 bn3 hJ3 cs cp cn hy
        gi_wp2
        have bs4 := BS3.out.set 0 (.string (t.extract (k + 1) t.size))
        rw [HDR.out] at bs4 ⊢
        have bs4 : Blk (W3.setCell ⟨Bs, 0, none⟩ (.string ⟨(m.drop (k + 1)).toArray⟩)) Bs 9 [strc (m.drop (k + 1))] := bs4
        refine ⟨⟨pre ++ [m.take k], m.drop (k + 1), ?_, ?_, bs4, BP3.out.far (p := ⟨Bs, 0, none⟩) (Ne.symm hsp) _, BN3.out.far (p := ⟨Bs, 0, none⟩) (Ne.symm hsn) _, HJS.out _ _ _ HJ3.out ls3⟩, ?_⟩
        · rw [List.append_assoc]; exact HFI.out
        · rw [List.length_drop]; omega
        · rw [textLen_of (blk_cell0 BS.out), textLen_of (blk_cell0 bs4), size_of', size_of', List.length_drop]
          omega
      · gi_wp2
        refine bodyPost_ret (results_none rfl _ _ _) rfl ?_
        exact ⟨⟨_, rfl⟩, .inr ⟨_, ⟨piecesL (m.drop (k + 1)), by rw [List.append_assoc]; exact HFI.out⟩, hJx3⟩⟩
end Go.Proofs.YtfemhhjmfckicaaGreatDoor

/- Names: a range over an iterator that writes a box of its own between the rounds. No condition. -/
namespace Go.Proofs.YtfemhhjmfckicaaGreatDoor
open Go.RowKit Go.Shelf
attribute [local go_sem] Oper.semAt_some
set_option linter.unusedVariables false
/-- How a round may be left: off its end, or by a return. -/
def boxPost {α : Type} (Kp : World → World → Prop) (I Ix : List α → World → Prop) (xs : List α) (W : World) : Exit → Act → World → Prop
  | .normal, _, W' => KeepsOthers W W' ∧ Kp W W' ∧ I xs W'
  | .ret, _, W' => KeepsOthers W W' ∧ Ix xs W'
  | _, _, _ => False
/-- The loop's record and the block for deferred calls lie where they were laid. -/
structure Laid (L : Nat) (r : Loop) (W : World) : Prop where
  loop : W.heap[L + 1]? = some (.loop r)
  defer : W.heap[L]? = some (.deferred (some []))
theorem Laid.put {L : Nat} {r r' : Loop} {W : World} (h : Laid L r W) : Laid L r' (W.putObj (L + 1) (.loop r')) :=
  ⟨World.putObj_heap_same (Array.getElem?_eq_some_iff.1 h.loop).1, (World.putObj_heap_other (by omega)).trans h.defer⟩
theorem Laid.keep {L : Nat} {r : Loop} {W W' : World} (h : Laid L r W) (k : KeepsOthers W W') : Laid L r W' := ⟨k.same _ _ h.loop rfl, k.same _ _ h.defer rfl⟩
theorem Laid.set {L B : Nat} {r : Loop} {W : World} (h : Laid L r W) (v : Value) : Laid L r (W.setCell ⟨B, 0, none⟩ v) := h.keep (KeepsOthers.setCell _ _ _)
set_option maxHeartbeats 400000 in
theorem range_box {P : Program} {α : Type} {g : Operand} {p : Tmp} {assign body : Code} {Q : Exit → Act → World → Prop} {a : Act} {w : World} {n : Nat} (h1 : 1 ≤ n)
    {gf : Nat} {lb : Array Value} (hg : a.eval g = .func (.func gf) #[] lb) (eg : ∀ args w, (callFunc gf args).run P w = .ok (.enter gf args) w)
    (enc : α → Value) (Kp : World → World → Prop) (hKt : ∀ A B C, Kp A B → Kp B C → Kp A C) (hKp : ∀ W l o, w.heap.size ≤ l → Kp W (W.putObj l o))
    (S Sp : List α → Prop) (B : Nat) (ok : List α → α → Prop)
    (hseq : ∀ (q : Nat) (J Jx : List α → World → Prop) (W : World), Gr w W → (∀ s A v, J s A → B < A.heap.size → J s (A.setCell ⟨B, 0, none⟩ v)) →
      (∀ pre x A, J pre A → ok pre x → YieldAt Fence.wide (n - 1 - 1) P q #[enc x] A fun e A' => (e = .returned (.bool true) ∧ J (pre ++ [x]) A' ∧ Kp A A') ∨ (e = .returned (.bool false) ∧ Jx (pre ++ [x]) A')) → J [] W →
      CallsIn Fence.wide (n - 1) P gf (#[.func (.yield q) #[] #[]] ++ lb) W fun e W' => (∃ v, e = .returned v) ∧ ((∃ xs, S xs ∧ J xs W') ∨ ∃ pre, Sp pre ∧ Jx pre W'))
    (I Ix : List α → World → Prop) (hIa : ∀ s W o, I s W → I s (W.alloc o))
    (hIp : ∀ s W l o o', I s W → w.heap.size ≤ l → W.heap[l]? = some o → o.isCells = false → I s (W.putObj l o'))
    (hXp : ∀ s W l o o', Ix s W → w.heap.size ≤ l → W.heap[l]? = some o → o.isCells = false → Ix s (W.putObj l o'))
    (hIs : ∀ s W v, I s W → I s (W.setCell ⟨B, 0, none⟩ v)) (h0 : I [] w) (a₁ : α → Act)
    (hassign : ∀ (q : Nat) (x : α) (W : World) (K : Act → World → Prop), K (a₁ x) W →
      assign.wpIn (Fence.wide.inRound q) (n - 1 - 1) P (Exit.then K (fun _ _ _ => False)) { tmps := (#[p].zip #[enc x]).foldl (fun t (p, v) => t.setIfInBounds p v) a.tmps, defers := [] } W)
    (hbody : ∀ (q : Nat) (pre : List α) (x : α) (W : World), I pre W → ok pre x → body.wpIn (Fence.wide.inRound q) (n - 1 - 1) P (boxPost Kp I Ix (pre ++ [x]) W) (a₁ x) W)
    (hdone : ∀ (D : Nat) (xs : List α) (W : World), w.heap.size ≤ D → S xs → I xs W → W.heap[D]? = some (.deferred (some [])) → Q .normal { a with defers := { target := .collected D, args := #[] } :: a.defers } W)
    (hstop : ∀ (D : Nat) (pre : List α) (W : World), w.heap.size ≤ D → Sp pre → Ix pre W → W.heap[D]? = some (.deferred (some [])) → Code.ret.wpIn Fence.wide n P Q { a with defers := { target := .collected D, args := #[] } :: a.defers } W) :
    (Code.rangeFunc g #[p] assign body).wpIn Fence.wide n P Q a w := by
  refine wpIn_rangeFunc fun fn hfn => ?_
  rw [show Fence.wide.round = none from rfl]
  obtain ⟨L, hL⟩ : ∃ L, L = w.heap.size := ⟨_, rfl⟩
  obtain ⟨rc, hrc⟩ : ∃ rc : LoopState → Option Code → Loop, rc = fun st pe => { state := st, pending := pe, fn, tmps := a.tmps, params := #[p], assign, body, defers := L } := ⟨_, rfl⟩
  obtain ⟨W1, hW1⟩ : ∃ W1, W1 = (w.alloc (.deferred (some []))).alloc (.loop (rc .ready none)) := ⟨_, rfl⟩
  have lay : Laid L (rc .ready none) W1 := by
    refine ⟨?_, ?_⟩
    · rw [hW1, hL]
      have := World.alloc_heap_new (w.alloc (.deferred (some []))) (.loop (rc .ready none))
      rwa [World.size_alloc] at this
    · rw [hW1, hL]
      exact (Below.heap_alloc _ _ _ (by simp)).trans (World.alloc_heap_new w _)
  have gW1 : Gr w W1 := by rw [hW1]; exact (Gr.alloc w _).trans (Gr.alloc _ _)
  have rdy : (rc .ready none).state = .ready := by rw [hrc]
  have call := hseq (L + 1) (fun pre W => I pre W ∧ Laid L (rc .ready none) W) (fun pre W => Ix pre W ∧ Laid L (rc .done (some .ret)) W) W1 gW1
    (fun s A v h _ => ⟨hIs s A v h.1, h.2.set v⟩)
    (by
      rintro pre x A ⟨hi, hl⟩ hok
      have hy := run_yield (P := P) (args := #[enc x]) hl.loop (by rw [hrc]; rfl)
      rw [hrc] at hy
      refine ⟨fn, _, assign, body, hy, roundIn_of_wpIn hfn (hassign _ x A _ ⟨_, run_beginRound hl.loop rdy, ?_⟩)⟩
      obtain ⟨A2, hA2⟩ : ∃ A2, A2 = A.putObj (L + 1) (.loop { rc .ready none with state := .busy }) := ⟨_, rfl⟩
      have hl2 : Laid L { rc .ready none with state := .busy } A2 := by rw [hA2]; exact hl.put
      have hk2 : Kp A A2 := by rw [hA2]; exact hKp _ _ _ (by omega)
      have hi2 : I pre A2 := by rw [hA2]; exact hIp _ _ _ _ _ hi (by omega) hl.loop rfl
      rw [← hA2]
      refine wpIn_mono (hbody _ pre x A2 hi2 hok) ?_
      rintro e a3 A3 hp
      cases e with
      | normal =>
        obtain ⟨hk3, hkp3, hi3⟩ := hp
        have hl3 := hl2.keep hk3
        have hr := run_endRound (P := P) none hl3.loop
        refine ⟨_, _, hr, .inl ⟨rfl, ⟨hIp _ _ _ _ _ hi3 (by omega) hl3.loop rfl, ?_⟩, hKt _ _ _ (hKt _ _ _ hk2 hkp3) (hKp _ _ _ (by omega))⟩⟩
        have := hl3.put (r' := rc .ready none)
        rw [hrc] at this ⊢
        exact this
      | ret =>
        obtain ⟨hk3, hi3⟩ := hp
        have hl3 := hl2.keep hk3
        have hr := run_endRound (P := P) (some .ret) hl3.loop
        refine ⟨_, _, hr, .inr ⟨rfl, hXp _ _ _ _ _ hi3 (by omega) hl3.loop rfl, ?_⟩⟩
        have := hl3.put (r' := rc .done (some .ret))
        rw [hrc] at this ⊢
        exact this
      | exit id => exact hp.elim
      | goto t => exact hp.elim
      | panic ch => exact hp.elim
      | outgrown => exact hp.elim)
    ⟨by rw [hW1]; exact hIa _ _ _ (hIa _ _ _ h0), lay⟩
  refine ⟨L + 1, [{ target := .collected L, args := #[] }], W1, { target := .fn (.func gf) lb, args := #[.func (.yield (L + 1)) #[] #[]] }, W1, gf,
    #[.func (.yield (L + 1)) #[] #[]] ++ lb, W1, ?_, ?_, ?_, ?_, ?_, ?_⟩
  · rw [hW1, hrc, hL]; exact run_enterLoop_outer _ _ _ _ _
  · simp only [resolve, hg]
    simp [go_sem]
  · exact fun _ _ => trivial
  · simp [invoke, go_sem, eg]
  · exact fun _ => h1
  · refine call.mono ?_
    rintro e W2 ⟨⟨v, rfl⟩, (⟨xs, hS, hi, hl⟩ | ⟨pre, hSp, hx, hl⟩)⟩
    · refine ⟨none, W2.putObj (L + 1) (.loop { rc .ready none with state := .exhausted }), ?_, hdone L xs _ (by omega) hS (hIp _ _ _ _ _ hi (by omega) hl.loop rfl) ((World.putObj_heap_other (by omega)).trans hl.defer)⟩
      have := run_endLoop (P := P) hl.loop (by rw [hrc]; simp)
      rw [hrc] at this ⊢
      exact this
    · refine ⟨some .ret, W2.putObj (L + 1) (.loop { rc .done (some .ret) with state := .exhausted }), ?_, hstop L pre _ (by omega) hSp (hXp _ _ _ _ _ hx (by omega) hl.loop rfl) ((World.putObj_heap_other (by omega)).trans hl.defer)⟩
      have := run_endLoop (P := P) hl.loop (by rw [hrc]; simp)
      rw [hrc] at this ⊢
      exact this
end Go.Proofs.YtfemhhjmfckicaaGreatDoor
