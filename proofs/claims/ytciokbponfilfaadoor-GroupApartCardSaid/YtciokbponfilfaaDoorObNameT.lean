/- Names: a range over an iterator that writes a box of its own between the rounds. No condition. -/
import Derived.Test.YtciokbponfilfaaDoorObNameS
namespace Go.Proofs.YtciokbponfilfaaDoor
open Go.RowKit Go.Shelf
attribute [local go_sem] Oper.semAt_some
set_option linter.unusedVariables false
/-- How a round may be left: off its end, or by a return. -/
def boxPost {α : Type} (Kp : World → World → Prop) (I Ix : List α → World → Prop) (xs : List α) (W : World) : Exit → Act → World → Prop
  | .normal, _, W' => KeepsOthers W W' ∧ Kp W W' ∧ I xs W'
  | .ret, _, W' => KeepsOthers W W' ∧ Ix xs W'
  | _, _, _ => False
/-- The loop's record and the block for deferred calls lie where they were laid. -/
structure Laid (L : Nat) (r : Loop) (W : World) : Prop where
  loop : W.heap[L + 1]? = some (.loop r)
  defer : W.heap[L]? = some (.deferred (some []))
theorem Laid.put {L : Nat} {r r' : Loop} {W : World} (h : Laid L r W) : Laid L r' (W.putObj (L + 1) (.loop r')) :=
  ⟨World.putObj_heap_same (Array.getElem?_eq_some_iff.1 h.loop).1, (World.putObj_heap_other (by omega)).trans h.defer⟩
theorem Laid.keep {L : Nat} {r : Loop} {W W' : World} (h : Laid L r W) (k : KeepsOthers W W') : Laid L r W' := ⟨k.same _ _ h.loop rfl, k.same _ _ h.defer rfl⟩
theorem Laid.set {L B : Nat} {r : Loop} {W : World} (h : Laid L r W) (v : Value) : Laid L r (W.setCell ⟨B, 0, none⟩ v) := h.keep (KeepsOthers.setCell _ _ _)
set_option maxHeartbeats 400000 in
theorem range_box {P : Program} {α : Type} {g : Operand} {p : Tmp} {assign body : Code} {Q : Exit → Act → World → Prop} {a : Act} {w : World} {n : Nat} (h1 : 1 ≤ n)
    {gf : Nat} {lb : Array Value} (hg : a.eval g = .func (.func gf) #[] lb) (eg : ∀ args w, (callFunc gf args).run P w = .ok (.enter gf args) w)
    (enc : α → Value) (Kp : World → World → Prop) (hKt : ∀ A B C, Kp A B → Kp B C → Kp A C) (hKp : ∀ W l o, w.heap.size ≤ l → Kp W (W.putObj l o))
    (S Sp : List α → Prop) (B : Nat) (ok : List α → α → Prop)
    (hseq : ∀ (q : Nat) (J Jx : List α → World → Prop) (W : World), Gr w W → (∀ s A v, J s A → B < A.heap.size → J s (A.setCell ⟨B, 0, none⟩ v)) →
      (∀ pre x A, J pre A → ok pre x → YieldAt Fence.wide (n - 1 - 1) P q #[enc x] A fun e A' => (e = .returned (.bool true) ∧ J (pre ++ [x]) A' ∧ Kp A A') ∨ (e = .returned (.bool false) ∧ Jx (pre ++ [x]) A')) → J [] W →
      CallsIn Fence.wide (n - 1) P gf (#[.func (.yield q) #[] #[]] ++ lb) W fun e W' => (∃ v, e = .returned v) ∧ ((∃ xs, S xs ∧ J xs W') ∨ ∃ pre, Sp pre ∧ Jx pre W'))
    (I Ix : List α → World → Prop) (hIa : ∀ s W o, I s W → I s (W.alloc o))
    (hIp : ∀ s W l o o', I s W → w.heap.size ≤ l → W.heap[l]? = some o → o.isCells = false → I s (W.putObj l o'))
    (hXp : ∀ s W l o o', Ix s W → w.heap.size ≤ l → W.heap[l]? = some o → o.isCells = false → Ix s (W.putObj l o'))
    (hIs : ∀ s W v, I s W → I s (W.setCell ⟨B, 0, none⟩ v)) (h0 : I [] w) (a₁ : α → Act)
    (hassign : ∀ (q : Nat) (x : α) (W : World) (K : Act → World → Prop), K (a₁ x) W →
      assign.wpIn (Fence.wide.inRound q) (n - 1 - 1) P (Exit.then K (fun _ _ _ => False)) { tmps := (#[p].zip #[enc x]).foldl (fun t (p, v) => t.setIfInBounds p v) a.tmps, defers := [] } W)
    (hbody : ∀ (q : Nat) (pre : List α) (x : α) (W : World), I pre W → ok pre x → body.wpIn (Fence.wide.inRound q) (n - 1 - 1) P (boxPost Kp I Ix (pre ++ [x]) W) (a₁ x) W)
    (hdone : ∀ (D : Nat) (xs : List α) (W : World), w.heap.size ≤ D → S xs → I xs W → W.heap[D]? = some (.deferred (some [])) → Q .normal { a with defers := { target := .collected D, args := #[] } :: a.defers } W)
    (hstop : ∀ (D : Nat) (pre : List α) (W : World), w.heap.size ≤ D → Sp pre → Ix pre W → W.heap[D]? = some (.deferred (some [])) → Code.ret.wpIn Fence.wide n P Q { a with defers := { target := .collected D, args := #[] } :: a.defers } W) :
    (Code.rangeFunc g #[p] assign body).wpIn Fence.wide n P Q a w := by
  refine wpIn_rangeFunc fun fn hfn => ?_
  rw [show Fence.wide.round = none from rfl]
  obtain ⟨L, hL⟩ : ∃ L, L = w.heap.size := ⟨_, rfl⟩
  obtain ⟨rc, hrc⟩ : ∃ rc : LoopState → Option Code → Loop, rc = fun st pe => { state := st, pending := pe, fn, tmps := a.tmps, params := #[p], assign, body, defers := L } := ⟨_, rfl⟩
  obtain ⟨W1, hW1⟩ : ∃ W1, W1 = (w.alloc (.deferred (some []))).alloc (.loop (rc .ready none)) := ⟨_, rfl⟩
  have lay : Laid L (rc .ready none) W1 := by
    refine ⟨?_, ?_⟩
    · rw [hW1, hL]
      have := World.alloc_heap_new (w.alloc (.deferred (some []))) (.loop (rc .ready none))
      rwa [World.size_alloc] at this
    · rw [hW1, hL]
      exact (Below.heap_alloc _ _ _ (by simp)).trans (World.alloc_heap_new w _)
  have gW1 : Gr w W1 := by rw [hW1]; exact (Gr.alloc w _).trans (Gr.alloc _ _)
  have rdy : (rc .ready none).state = .ready := by rw [hrc]
  have call := hseq (L + 1) (fun pre W => I pre W ∧ Laid L (rc .ready none) W) (fun pre W => Ix pre W ∧ Laid L (rc .done (some .ret)) W) W1 gW1
    (fun s A v h _ => ⟨hIs s A v h.1, h.2.set v⟩)
    (by
      rintro pre x A ⟨hi, hl⟩ hok
      have hy := run_yield (P := P) (args := #[enc x]) hl.loop (by rw [hrc]; rfl)
      rw [hrc] at hy
      refine ⟨fn, _, assign, body, hy, roundIn_of_wpIn hfn (hassign _ x A _ ⟨_, run_beginRound hl.loop rdy, ?_⟩)⟩
      obtain ⟨A2, hA2⟩ : ∃ A2, A2 = A.putObj (L + 1) (.loop { rc .ready none with state := .busy }) := ⟨_, rfl⟩
      have hl2 : Laid L { rc .ready none with state := .busy } A2 := by rw [hA2]; exact hl.put
      have hk2 : Kp A A2 := by rw [hA2]; exact hKp _ _ _ (by omega)
      have hi2 : I pre A2 := by rw [hA2]; exact hIp _ _ _ _ _ hi (by omega) hl.loop rfl
      rw [← hA2]
      refine wpIn_mono (hbody _ pre x A2 hi2 hok) ?_
      rintro e a3 A3 hp
      cases e with
      | normal =>
        obtain ⟨hk3, hkp3, hi3⟩ := hp
        have hl3 := hl2.keep hk3
        have hr := run_endRound (P := P) none hl3.loop
        refine ⟨_, _, hr, .inl ⟨rfl, ⟨hIp _ _ _ _ _ hi3 (by omega) hl3.loop rfl, ?_⟩, hKt _ _ _ (hKt _ _ _ hk2 hkp3) (hKp _ _ _ (by omega))⟩⟩
        have := hl3.put (r' := rc .ready none)
        rw [hrc] at this ⊢
        exact this
      | ret =>
        obtain ⟨hk3, hi3⟩ := hp
        have hl3 := hl2.keep hk3
        have hr := run_endRound (P := P) (some .ret) hl3.loop
        refine ⟨_, _, hr, .inr ⟨rfl, hXp _ _ _ _ _ hi3 (by omega) hl3.loop rfl, ?_⟩⟩
        have := hl3.put (r' := rc .done (some .ret))
        rw [hrc] at this ⊢
        exact this
      | exit id => exact hp.elim
      | goto t => exact hp.elim
      | panic ch => exact hp.elim
      | outgrown => exact hp.elim)
    ⟨by rw [hW1]; exact hIa _ _ _ (hIa _ _ _ h0), lay⟩
  refine ⟨L + 1, [{ target := .collected L, args := #[] }], W1, { target := .fn (.func gf) lb, args := #[.func (.yield (L + 1)) #[] #[]] }, W1, gf,
    #[.func (.yield (L + 1)) #[] #[]] ++ lb, W1, ?_, ?_, ?_, ?_, ?_, ?_⟩
  · rw [hW1, hrc, hL]; exact run_enterLoop_outer _ _ _ _ _
  · simp only [resolve, hg]
    simp [go_sem]
  · exact fun _ _ => trivial
  · simp [invoke, go_sem, eg]
  · exact fun _ => h1
  · refine call.mono ?_
    rintro e W2 ⟨⟨v, rfl⟩, (⟨xs, hS, hi, hl⟩ | ⟨pre, hSp, hx, hl⟩)⟩
    · refine ⟨none, W2.putObj (L + 1) (.loop { rc .ready none with state := .exhausted }), ?_, hdone L xs _ (by omega) hS (hIp _ _ _ _ _ hi (by omega) hl.loop rfl) ((World.putObj_heap_other (by omega)).trans hl.defer)⟩
      have := run_endLoop (P := P) hl.loop (by rw [hrc]; simp)
      rw [hrc] at this ⊢
      exact this
    · refine ⟨some .ret, W2.putObj (L + 1) (.loop { rc .done (some .ret) with state := .exhausted }), ?_, hstop L pre _ (by omega) hSp (hXp _ _ _ _ _ hx (by omega) hl.loop rfl) ((World.putObj_heap_other (by omega)).trans hl.defer)⟩
      have := run_endLoop (P := P) hl.loop (by rw [hrc]; simp)
      rw [hrc] at this ⊢
      exact this
end Go.Proofs.YtciokbponfilfaaDoor
