/- Own texts of this claim, one behind the other. No condition. -/
import Derived.Calls
import Derived.Below
import Derived.Sort.Grow
import Derived.Deep.Draws

/- A call never lowers the count of draws (World.drawn): calls_drawn. No condition, no seat. -/
namespace Go.Proofs.YtfemhhjmfckicaaGreatDoor.Drw
open Go Go.RowKit
set_option linter.unusedVariables false
set_option linter.unusedSimpArgs false

/-- The count of draws of a run's last world. -/
def drOf {α : Type} : Result α → Nat
  | .ok _ w => w.drawn
  | .halt _ w => w.drawn

theorem ask_drawn {α : Type} (a : Ask α) : ∀ w : World, w.drawn ≤ (w.ask a).2.drawn := by
  induction a with
  | done a => intro w; exact Nat.le_refl _
  | ask what range k ih =>
    intro w
    simp only [World.ask]
    split
    · exact ih _ w
    · exact Nat.le_trans (Nat.le_succ _) (ih _ { w with drawn := w.drawn + 1 })

theorem sys_drawn (w : World) (c : Sys) : w.drawn ≤ (w.sys c).2.drawn := by
  have h := ask_drawn (Kernel.perform c w.os) w
  unfold World.sys
  split
  · exact Nat.le_refl _
  · rename_i e; rw [e] at h; exact h


theorem viewStore_drawn {p : Program} {w w' : World} {at_ : Addr} {u : TypeId} {k : Addr} {v : Value} {atomic : Bool} {t : List Addr}
    (h : w.viewStore p at_ u k v atomic = .ok (w', t)) : w'.drawn = w.drawn := by
  unfold World.viewStore at h
  simp only [bind, Except.bind, pure, Except.pure] at h
  repeat' split at h
  all_goals first
    | (injection h with h; injection h with h1 h2; rw [← h1])
    | cases h

theorem farStore_drawn {p : Program} {w w' : World} {a : Addr} {v : Value} {atomic : Bool} {t : List Addr}
    (h : w.farStore p a v atomic = .ok (w', t)) : w'.drawn = w.drawn := by
  unfold World.farStore at h
  split at h
  · split at h
    · rename_i r e; injection h with h; subst h; exact viewStore_drawn e
    · cases h
  · cases h

theorem freeze_drawn (w : World) (a : Addr) (n : Nat) : (w.freeze a n).drawn = w.drawn := by
  unfold World.freeze; split <;> rfl

theorem run_drawn {α : Type} (p : Program) (s : Sem α) : ∀ w : World, w.drawn ≤ drOf (s.run p w) := by
  induction s with
  | pure a => intro w; exact Nat.le_refl _
  | load m a k ih =>
    intro w; simp only [Sem.run]
    split
    · exact ih _ w
    · split
      · exact ih _ w
      · exact Nat.le_refl _
  | store m a v k ih =>
    intro w
    cases v
    case agg => exact Nat.le_refl _
    case tuple => exact Nat.le_refl _
    all_goals
      simp only [Sem.run]
      split
      · split
        · exact Nat.le_refl _
        · exact ih (w.setCell a _)
      · split
        · rename_i e; have := farStore_drawn e; rw [← this]; exact ih _
        · exact Nat.le_refl _
  | new o k ih => intro w; exact ih _ { w with heap := w.heap.push o }
  | shape r k ih => intro w; exact ih _ w
  | freeze a n k ih => intro w; simp only [Sem.run]; rw [← freeze_drawn w a n]; exact ih _
  | frozen a k ih => intro w; exact ih _ w
  | getObj r k ih =>
    intro w; simp only [Sem.run]
    split
    · exact Nat.le_refl _
    · exact ih _ w
    · exact Nat.le_refl _
  | setObj r o k ih =>
    intro w; simp only [Sem.run]
    split
    · exact Nat.le_refl _
    · exact ih { w with heap := w.heap.setIfInBounds r o }
    · exact Nat.le_refl _
  | choose q k ih =>
    intro w; simp only [Sem.run]
    split
    · exact ih _ w
    · exact Nat.le_trans (Nat.le_succ _) (ih _ { w with drawn := w.drawn + 1 })
  | sys c k ih => intro w; simp only [Sem.run]; exact Nat.le_trans (sys_drawn w c) (ih _ _)
  | program k ih => intro w; exact ih _ w
  | mark m k ih => intro w; exact ih w
  | halt h => intro w; exact Nat.le_refl _

theorem runT_drawn {α : Type} (p : Program) (s : Sem α) : ∀ (w : World) (es : Array Event), w.drawn ≤ drOf (s.runT p w es).1 := by
  induction s with
  | pure a => intro w es; exact Nat.le_refl _
  | load m a k ih =>
    intro w es; simp only [Sem.runT]
    split
    · exact ih _ w _
    · split
      · exact ih _ w _
      · exact Nat.le_refl _
  | store m a v k ih =>
    intro w es
    cases v
    case agg => exact Nat.le_refl _
    case tuple => exact Nat.le_refl _
    all_goals
      simp only [Sem.runT]
      split
      · split
        · exact Nat.le_refl _
        · exact ih (w.setCell a _) _
      · split
        · rename_i e; have := farStore_drawn e; rw [← this]; exact ih _ _
        · exact Nat.le_refl _
  | new o k ih => intro w es; exact ih _ { w with heap := w.heap.push o } _
  | shape r k ih => intro w es; exact ih _ w _
  | freeze a n k ih => intro w es; simp only [Sem.runT]; rw [← freeze_drawn w a n]; exact ih _ _
  | frozen a k ih => intro w es; exact ih _ w _
  | getObj r k ih =>
    intro w es; simp only [Sem.runT]
    split
    · exact Nat.le_refl _
    · exact ih _ w _
    · exact Nat.le_refl _
  | setObj r o k ih =>
    intro w es; simp only [Sem.runT]
    split
    · exact Nat.le_refl _
    · exact ih { w with heap := w.heap.setIfInBounds r o } _
    · exact Nat.le_refl _
  | choose q k ih =>
    intro w es; simp only [Sem.runT]
    split
    · exact ih _ w _
    · exact Nat.le_trans (Nat.le_succ _) (ih _ { w with drawn := w.drawn + 1 } _)
  | sys c k ih => intro w es; simp only [Sem.runT]; exact Nat.le_trans (sys_drawn w c) (ih _ _ _)
  | program k ih => intro w es; exact ih _ w _
  | mark m k ih => intro w es; exact ih w _
  | halt h => intro w es; exact Nat.le_refl _


section
variable {α : Type} {p : Program} {s : Sem α} {w w' : World} {v : α} {h : Halt} {es es' : Array Event}
theorem run_ok (e : s.run p w = .ok v w') : w.drawn ≤ w'.drawn := by have := run_drawn p s w; rwa [e] at this
theorem run_halt (e : s.run p w = .halt h w') : w.drawn ≤ w'.drawn := by have := run_drawn p s w; rwa [e] at this
theorem runT_ok (e : s.runT p w es = (.ok v w', es')) : w.drawn ≤ w'.drawn := by have := runT_drawn p s w es; rwa [e] at this
theorem runT_halt (e : s.runT p w es = (.halt h w', es')) : w.drawn ≤ w'.drawn := by have := runT_drawn p s w es; rwa [e] at this
theorem listen_ok {l : Bool} (e : (if l = true then s.runT p w es else (s.run p w, es)) = (.ok v w', es')) : w.drawn ≤ w'.drawn := by
  cases l
  · injection e with e; exact run_ok e
  · exact runT_ok e
theorem listen_halt {l : Bool} (e : (if l = true then s.runT p w es else (s.run p w, es)) = (.halt h w', es')) : w.drawn ≤ w'.drawn := by
  cases l
  · injection e with e; exact run_halt e
  · exact runT_halt e
theorem runT1_ok (e : (s.runT p w es).1 = .ok v w') : w.drawn ≤ w'.drawn := runT_ok (es' := (s.runT p w es).2) (Prod.ext e rfl)
theorem runT1_halt (e : (s.runT p w es).1 = .halt h w') : w.drawn ≤ w'.drawn := runT_halt (es' := (s.runT p w es).2) (Prod.ext e rfl)
theorem listen1_ok {l : Bool} (e : (if l = true then s.runT p w es else (s.run p w, es)).1 = .ok v w') : w.drawn ≤ w'.drawn := listen_ok (l := l) (es' := (if l = true then s.runT p w es else (s.run p w, es)).2) (Prod.ext e rfl)
theorem listen1_halt {l : Bool} (e : (if l = true then s.runT p w es else (s.run p w, es)).1 = .halt h w') : w.drawn ≤ w'.drawn := listen_halt (l := l) (es' := (if l = true then s.runT p w es else (s.run p w, es)).2) (Prod.ext e rfl)
end

/-- Where the step has not ended, its world has drawn at least so often. -/
def Up (d : Nat) : GStep → Prop
  | .go _ w _ | .comm _ _ _ _ w _ | .spawn _ _ w _ | .count _ w _ | .timer _ _ w _ | .alone _ _ w _ | .newcoro _ _ _ w _ | .coroswitch _ _ _ w _ | .collect _ w _ | .watch _ w _ => d ≤ w.drawn
  | .ended .. => True

theorem up_after {d : Nat} {es : Array Event} {s : GStep} (h : Up d s) : Up d (s.after es) := by cases s <;> exact h

theorem Up.mono {d d' : Nat} {s : GStep} (h : Up d s) (k : d' ≤ d) : Up d' s := by
  cases s <;> first | exact trivial | exact Nat.le_trans k h

theorem up_ended {d : Nat} {o : Outcome} {w : World} {es : Array Event} : Up d (.ended o w es) := trivial

theorem dieOf_up (fr : Frame) (a : List ByteArray) (m : String) (b : Bool) (w : World) : Up w.drawn (dieOf fr a m b w) := Nat.le_refl _
theorem endThrow_up (fr : Frame) (m : String) (w : World) : Up w.drawn (endThrow fr m w) := Nat.le_refl _

theorem endWith_ended (w : World) (fd : Nat) (t : ByteArray) (o : Outcome) (d : Nat) : Up d (endWith w fd t o) := by
  unfold endWith
  dsimp only
  repeat' split
  all_goals exact trivial

theorem endPrinting_up (p : Program) (fr : Frame) (v : Value) (w : World) : Up w.drawn (endPrinting p fr v w) := by
  unfold endPrinting
  dsimp only
  split
  · exact endThrow_up _ _ _
  · exact trivial

theorem endFatal_up (p : Program) (fr : Frame) (cs : List Frame) (dy : Option Dying) (m : String) (w : World) : Up w.drawn (endFatal p fr cs dy m w) := by
  unfold endFatal
  dsimp only
  split
  · exact Up.mono (dieOf_up _ _ _ _ _) (by (first | exact Nat.le_refl _ | (apply run_ok; assumption) | (apply run_halt; assumption) | (apply runT_ok; assumption) | (apply runT_halt; assumption) | (apply runT1_ok; assumption) | (apply runT1_halt; assumption) | (apply listen_ok; assumption) | (apply listen_halt; assumption) | (apply listen1_ok; assumption) | (apply listen1_halt; assumption)))
  · exact trivial
  · exact trivial

theorem writeOn_up (p : Program) (fr : Frame) (d : Dying) (f : Fatal) (w : World) : Up w.drawn (writeOn p fr d f w) := by
  unfold writeOn
  dsimp only
  split
  · exact trivial
  · split
    · show _ ≤ _; (first | exact Nat.le_refl _ | (apply run_ok; assumption) | (apply run_halt; assumption) | (apply runT_ok; assumption) | (apply runT_halt; assumption) | (apply runT1_ok; assumption) | (apply runT1_halt; assumption) | (apply listen_ok; assumption) | (apply listen_halt; assumption) | (apply listen1_ok; assumption) | (apply listen1_halt; assumption))
    · show _ ≤ _; (first | exact Nat.le_refl _ | (apply run_ok; assumption) | (apply run_halt; assumption) | (apply runT_ok; assumption) | (apply runT_halt; assumption) | (apply runT1_ok; assumption) | (apply runT1_halt; assumption) | (apply listen_ok; assumption) | (apply listen_halt; assumption) | (apply listen1_ok; assumption) | (apply listen1_halt; assumption))
    · exact trivial
    · exact trivial

theorem die_up (p : Program) (fr : Frame) (d : Dying) (w : World) : Up w.drawn (die p fr d w) := by
  unfold die
  dsimp only
  split
  · exact writeOn_up _ _ _ _ _
  · split
    · split
      · exact Nat.le_refl _
      · exact endWith_ended _ _ _ _ _
    · split
      · exact Nat.le_refl _
      · split
        · show _ ≤ _; (first | exact Nat.le_refl _ | (apply run_ok; assumption) | (apply run_halt; assumption) | (apply runT_ok; assumption) | (apply runT_halt; assumption) | (apply runT1_ok; assumption) | (apply runT1_halt; assumption) | (apply listen_ok; assumption) | (apply listen_halt; assumption) | (apply listen1_ok; assumption) | (apply listen1_halt; assumption))
        · exact trivial
      · apply up_after
        split
        · show _ ≤ _; (first | exact Nat.le_refl _ | (apply run_ok; assumption) | (apply run_halt; assumption) | (apply runT_ok; assumption) | (apply runT_halt; assumption) | (apply runT1_ok; assumption) | (apply runT1_halt; assumption) | (apply listen_ok; assumption) | (apply listen_halt; assumption) | (apply listen1_ok; assumption) | (apply listen1_halt; assumption))
        · show _ ≤ _; (first | exact Nat.le_refl _ | (apply run_ok; assumption) | (apply run_halt; assumption) | (apply runT_ok; assumption) | (apply runT_halt; assumption) | (apply runT1_ok; assumption) | (apply runT1_halt; assumption) | (apply listen_ok; assumption) | (apply listen_halt; assumption) | (apply listen1_ok; assumption) | (apply listen1_halt; assumption))
        · exact trivial
        · exact Up.mono (endPrinting_up _ _ _ _) (by (first | exact Nat.le_refl _ | (apply run_ok; assumption) | (apply run_halt; assumption) | (apply runT_ok; assumption) | (apply runT_halt; assumption) | (apply runT1_ok; assumption) | (apply runT1_halt; assumption) | (apply listen_ok; assumption) | (apply listen_halt; assumption) | (apply listen1_ok; assumption) | (apply listen1_halt; assumption)))
        · exact trivial
      · exact trivial

theorem doReturn_up (p : Program) (b : Bool) (fr : Frame) (cs : List Frame) (dy : Option Dying) (v : Value) (w : World) : Up w.drawn (doReturn p b fr cs dy v w) := by
  unfold doReturn
  dsimp only
  repeat' split
  all_goals first | exact trivial | exact Nat.le_refl _


theorem up_ite {d : Nat} {c : Prop} [Decidable c] {a b : GStep} (h : Up d a) (k : Up d b) : Up d (if c then a else b) := by split <;> assumption

theorem callDeferred_up (p : Program) (fr : Frame) (cs : List Frame) (dy : Option Dying) (d : Deferred) (w : World) : Up w.drawn (callDeferred p fr cs dy d w) := by
  unfold callDeferred
  refine up_ite trivial ?_
  · dsimp only
    apply up_after
    split
    all_goals first | (first | exact trivial | (show _ ≤ _; (first | exact Nat.le_refl _ | (apply run_ok; assumption) | (apply run_halt; assumption) | (apply runT_ok; assumption) | (apply runT_halt; assumption) | (apply runT1_ok; assumption) | (apply runT1_halt; assumption) | (apply listen_ok; assumption) | (apply listen_halt; assumption) | (apply listen1_ok; assumption) | (apply listen1_halt; assumption))) | exact Up.mono (endPrinting_up _ _ _ _) (by (first | exact Nat.le_refl _ | (apply run_ok; assumption) | (apply run_halt; assumption) | (apply runT_ok; assumption) | (apply runT_halt; assumption) | (apply runT1_ok; assumption) | (apply runT1_halt; assumption) | (apply listen_ok; assumption) | (apply listen_halt; assumption) | (apply listen1_ok; assumption) | (apply listen1_halt; assumption))) | exact Up.mono (endFatal_up _ _ _ _ _ _) (by (first | exact Nat.le_refl _ | (apply run_ok; assumption) | (apply run_halt; assumption) | (apply runT_ok; assumption) | (apply runT_halt; assumption) | (apply runT1_ok; assumption) | (apply runT1_halt; assumption) | (apply listen_ok; assumption) | (apply listen_halt; assumption) | (apply listen1_ok; assumption) | (apply listen1_halt; assumption))) | exact Up.mono (endThrow_up _ _ _) (by (first | exact Nat.le_refl _ | (apply run_ok; assumption) | (apply run_halt; assumption) | (apply runT_ok; assumption) | (apply runT_halt; assumption) | (apply runT1_ok; assumption) | (apply runT1_halt; assumption) | (apply listen_ok; assumption) | (apply listen_halt; assumption) | (apply listen1_ok; assumption) | (apply listen1_halt; assumption))) | exact Up.mono (doReturn_up _ _ _ _ _ _ _) (by (first | exact Nat.le_refl _ | (apply run_ok; assumption) | (apply run_halt; assumption) | (apply runT_ok; assumption) | (apply runT_halt; assumption) | (apply runT1_ok; assumption) | (apply runT1_halt; assumption) | (apply listen_ok; assumption) | (apply listen_halt; assumption) | (apply listen1_ok; assumption) | (apply listen1_halt; assumption))) | exact Up.mono (die_up _ _ _ _) (by (first | exact Nat.le_refl _ | (apply run_ok; assumption) | (apply run_halt; assumption) | (apply runT_ok; assumption) | (apply runT_halt; assumption) | (apply runT1_ok; assumption) | (apply runT1_halt; assumption) | (apply listen_ok; assumption) | (apply listen_halt; assumption) | (apply listen1_ok; assumption) | (apply listen1_halt; assumption)))) | (split <;> (first | exact trivial | (show _ ≤ _; (first | exact Nat.le_refl _ | (apply run_ok; assumption) | (apply run_halt; assumption) | (apply runT_ok; assumption) | (apply runT_halt; assumption) | (apply runT1_ok; assumption) | (apply runT1_halt; assumption) | (apply listen_ok; assumption) | (apply listen_halt; assumption) | (apply listen1_ok; assumption) | (apply listen1_halt; assumption))) | exact Up.mono (endPrinting_up _ _ _ _) (by (first | exact Nat.le_refl _ | (apply run_ok; assumption) | (apply run_halt; assumption) | (apply runT_ok; assumption) | (apply runT_halt; assumption) | (apply runT1_ok; assumption) | (apply runT1_halt; assumption) | (apply listen_ok; assumption) | (apply listen_halt; assumption) | (apply listen1_ok; assumption) | (apply listen1_halt; assumption))) | exact Up.mono (endFatal_up _ _ _ _ _ _) (by (first | exact Nat.le_refl _ | (apply run_ok; assumption) | (apply run_halt; assumption) | (apply runT_ok; assumption) | (apply runT_halt; assumption) | (apply runT1_ok; assumption) | (apply runT1_halt; assumption) | (apply listen_ok; assumption) | (apply listen_halt; assumption) | (apply listen1_ok; assumption) | (apply listen1_halt; assumption))) | exact Up.mono (endThrow_up _ _ _) (by (first | exact Nat.le_refl _ | (apply run_ok; assumption) | (apply run_halt; assumption) | (apply runT_ok; assumption) | (apply runT_halt; assumption) | (apply runT1_ok; assumption) | (apply runT1_halt; assumption) | (apply listen_ok; assumption) | (apply listen_halt; assumption) | (apply listen1_ok; assumption) | (apply listen1_halt; assumption))) | exact Up.mono (doReturn_up _ _ _ _ _ _ _) (by (first | exact Nat.le_refl _ | (apply run_ok; assumption) | (apply run_halt; assumption) | (apply runT_ok; assumption) | (apply runT_halt; assumption) | (apply runT1_ok; assumption) | (apply runT1_halt; assumption) | (apply listen_ok; assumption) | (apply listen_halt; assumption) | (apply listen1_ok; assumption) | (apply listen1_halt; assumption))) | exact Up.mono (die_up _ _ _ _) (by (first | exact Nat.le_refl _ | (apply run_ok; assumption) | (apply run_halt; assumption) | (apply runT_ok; assumption) | (apply runT_halt; assumption) | (apply runT1_ok; assumption) | (apply runT1_halt; assumption) | (apply listen_ok; assumption) | (apply listen_halt; assumption) | (apply listen1_ok; assumption) | (apply listen1_halt; assumption)))))

theorem unwind_up (p : Program) (b : Bool) (fr : Frame) (cs : List Frame) (dy : Option Dying) (w : World) : Up w.drawn (unwind p b fr cs dy w) := by
  unfold unwind
  dsimp only
  split
  · apply up_after
    split <;> (first | exact trivial | (show _ ≤ _; (first | exact Nat.le_refl _ | (apply run_ok; assumption) | (apply run_halt; assumption) | (apply runT_ok; assumption) | (apply runT_halt; assumption) | (apply runT1_ok; assumption) | (apply runT1_halt; assumption) | (apply listen_ok; assumption) | (apply listen_halt; assumption) | (apply listen1_ok; assumption) | (apply listen1_halt; assumption))) | exact Up.mono (endPrinting_up _ _ _ _) (by (first | exact Nat.le_refl _ | (apply run_ok; assumption) | (apply run_halt; assumption) | (apply runT_ok; assumption) | (apply runT_halt; assumption) | (apply runT1_ok; assumption) | (apply runT1_halt; assumption) | (apply listen_ok; assumption) | (apply listen_halt; assumption) | (apply listen1_ok; assumption) | (apply listen1_halt; assumption))) | exact Up.mono (endFatal_up _ _ _ _ _ _) (by (first | exact Nat.le_refl _ | (apply run_ok; assumption) | (apply run_halt; assumption) | (apply runT_ok; assumption) | (apply runT_halt; assumption) | (apply runT1_ok; assumption) | (apply runT1_halt; assumption) | (apply listen_ok; assumption) | (apply listen_halt; assumption) | (apply listen1_ok; assumption) | (apply listen1_halt; assumption))) | exact Up.mono (endThrow_up _ _ _) (by (first | exact Nat.le_refl _ | (apply run_ok; assumption) | (apply run_halt; assumption) | (apply runT_ok; assumption) | (apply runT_halt; assumption) | (apply runT1_ok; assumption) | (apply runT1_halt; assumption) | (apply listen_ok; assumption) | (apply listen_halt; assumption) | (apply listen1_ok; assumption) | (apply listen1_halt; assumption))) | exact Up.mono (doReturn_up _ _ _ _ _ _ _) (by (first | exact Nat.le_refl _ | (apply run_ok; assumption) | (apply run_halt; assumption) | (apply runT_ok; assumption) | (apply runT_halt; assumption) | (apply runT1_ok; assumption) | (apply runT1_halt; assumption) | (apply listen_ok; assumption) | (apply listen_halt; assumption) | (apply listen1_ok; assumption) | (apply listen1_halt; assumption))) | exact Up.mono (die_up _ _ _ _) (by (first | exact Nat.le_refl _ | (apply run_ok; assumption) | (apply run_halt; assumption) | (apply runT_ok; assumption) | (apply runT_halt; assumption) | (apply runT1_ok; assumption) | (apply runT1_halt; assumption) | (apply listen_ok; assumption) | (apply listen_halt; assumption) | (apply listen1_ok; assumption) | (apply listen1_halt; assumption))))
  · exact callDeferred_up _ _ _ _ _ _
  · split
    · exact trivial
    · split
      · exact trivial
      · split
        · (first | exact trivial | (show _ ≤ _; (first | exact Nat.le_refl _ | (apply run_ok; assumption) | (apply run_halt; assumption) | (apply runT_ok; assumption) | (apply runT_halt; assumption) | (apply runT1_ok; assumption) | (apply runT1_halt; assumption) | (apply listen_ok; assumption) | (apply listen_halt; assumption) | (apply listen1_ok; assumption) | (apply listen1_halt; assumption))) | exact Up.mono (endPrinting_up _ _ _ _) (by (first | exact Nat.le_refl _ | (apply run_ok; assumption) | (apply run_halt; assumption) | (apply runT_ok; assumption) | (apply runT_halt; assumption) | (apply runT1_ok; assumption) | (apply runT1_halt; assumption) | (apply listen_ok; assumption) | (apply listen_halt; assumption) | (apply listen1_ok; assumption) | (apply listen1_halt; assumption))) | exact Up.mono (endFatal_up _ _ _ _ _ _) (by (first | exact Nat.le_refl _ | (apply run_ok; assumption) | (apply run_halt; assumption) | (apply runT_ok; assumption) | (apply runT_halt; assumption) | (apply runT1_ok; assumption) | (apply runT1_halt; assumption) | (apply listen_ok; assumption) | (apply listen_halt; assumption) | (apply listen1_ok; assumption) | (apply listen1_halt; assumption))) | exact Up.mono (endThrow_up _ _ _) (by (first | exact Nat.le_refl _ | (apply run_ok; assumption) | (apply run_halt; assumption) | (apply runT_ok; assumption) | (apply runT_halt; assumption) | (apply runT1_ok; assumption) | (apply runT1_halt; assumption) | (apply listen_ok; assumption) | (apply listen_halt; assumption) | (apply listen1_ok; assumption) | (apply listen1_halt; assumption))) | exact Up.mono (doReturn_up _ _ _ _ _ _ _) (by (first | exact Nat.le_refl _ | (apply run_ok; assumption) | (apply run_halt; assumption) | (apply runT_ok; assumption) | (apply runT_halt; assumption) | (apply runT1_ok; assumption) | (apply runT1_halt; assumption) | (apply listen_ok; assumption) | (apply listen_halt; assumption) | (apply listen1_ok; assumption) | (apply listen1_halt; assumption))) | exact Up.mono (die_up _ _ _ _) (by (first | exact Nat.le_refl _ | (apply run_ok; assumption) | (apply run_halt; assumption) | (apply runT_ok; assumption) | (apply runT_halt; assumption) | (apply runT1_ok; assumption) | (apply runT1_halt; assumption) | (apply listen_ok; assumption) | (apply listen_halt; assumption) | (apply listen1_ok; assumption) | (apply listen1_halt; assumption))))
        · split
          · split
            · (first | exact trivial | (show _ ≤ _; (first | exact Nat.le_refl _ | (apply run_ok; assumption) | (apply run_halt; assumption) | (apply runT_ok; assumption) | (apply runT_halt; assumption) | (apply runT1_ok; assumption) | (apply runT1_halt; assumption) | (apply listen_ok; assumption) | (apply listen_halt; assumption) | (apply listen1_ok; assumption) | (apply listen1_halt; assumption))) | exact Up.mono (endPrinting_up _ _ _ _) (by (first | exact Nat.le_refl _ | (apply run_ok; assumption) | (apply run_halt; assumption) | (apply runT_ok; assumption) | (apply runT_halt; assumption) | (apply runT1_ok; assumption) | (apply runT1_halt; assumption) | (apply listen_ok; assumption) | (apply listen_halt; assumption) | (apply listen1_ok; assumption) | (apply listen1_halt; assumption))) | exact Up.mono (endFatal_up _ _ _ _ _ _) (by (first | exact Nat.le_refl _ | (apply run_ok; assumption) | (apply run_halt; assumption) | (apply runT_ok; assumption) | (apply runT_halt; assumption) | (apply runT1_ok; assumption) | (apply runT1_halt; assumption) | (apply listen_ok; assumption) | (apply listen_halt; assumption) | (apply listen1_ok; assumption) | (apply listen1_halt; assumption))) | exact Up.mono (endThrow_up _ _ _) (by (first | exact Nat.le_refl _ | (apply run_ok; assumption) | (apply run_halt; assumption) | (apply runT_ok; assumption) | (apply runT_halt; assumption) | (apply runT1_ok; assumption) | (apply runT1_halt; assumption) | (apply listen_ok; assumption) | (apply listen_halt; assumption) | (apply listen1_ok; assumption) | (apply listen1_halt; assumption))) | exact Up.mono (doReturn_up _ _ _ _ _ _ _) (by (first | exact Nat.le_refl _ | (apply run_ok; assumption) | (apply run_halt; assumption) | (apply runT_ok; assumption) | (apply runT_halt; assumption) | (apply runT1_ok; assumption) | (apply runT1_halt; assumption) | (apply listen_ok; assumption) | (apply listen_halt; assumption) | (apply listen1_ok; assumption) | (apply listen1_halt; assumption))) | exact Up.mono (die_up _ _ _ _) (by (first | exact Nat.le_refl _ | (apply run_ok; assumption) | (apply run_halt; assumption) | (apply runT_ok; assumption) | (apply runT_halt; assumption) | (apply runT1_ok; assumption) | (apply runT1_halt; assumption) | (apply listen_ok; assumption) | (apply listen_halt; assumption) | (apply listen1_ok; assumption) | (apply listen1_halt; assumption))))
            · split <;> (first | exact trivial | (show _ ≤ _; (first | exact Nat.le_refl _ | (apply run_ok; assumption) | (apply run_halt; assumption) | (apply runT_ok; assumption) | (apply runT_halt; assumption) | (apply runT1_ok; assumption) | (apply runT1_halt; assumption) | (apply listen_ok; assumption) | (apply listen_halt; assumption) | (apply listen1_ok; assumption) | (apply listen1_halt; assumption))) | exact Up.mono (endPrinting_up _ _ _ _) (by (first | exact Nat.le_refl _ | (apply run_ok; assumption) | (apply run_halt; assumption) | (apply runT_ok; assumption) | (apply runT_halt; assumption) | (apply runT1_ok; assumption) | (apply runT1_halt; assumption) | (apply listen_ok; assumption) | (apply listen_halt; assumption) | (apply listen1_ok; assumption) | (apply listen1_halt; assumption))) | exact Up.mono (endFatal_up _ _ _ _ _ _) (by (first | exact Nat.le_refl _ | (apply run_ok; assumption) | (apply run_halt; assumption) | (apply runT_ok; assumption) | (apply runT_halt; assumption) | (apply runT1_ok; assumption) | (apply runT1_halt; assumption) | (apply listen_ok; assumption) | (apply listen_halt; assumption) | (apply listen1_ok; assumption) | (apply listen1_halt; assumption))) | exact Up.mono (endThrow_up _ _ _) (by (first | exact Nat.le_refl _ | (apply run_ok; assumption) | (apply run_halt; assumption) | (apply runT_ok; assumption) | (apply runT_halt; assumption) | (apply runT1_ok; assumption) | (apply runT1_halt; assumption) | (apply listen_ok; assumption) | (apply listen_halt; assumption) | (apply listen1_ok; assumption) | (apply listen1_halt; assumption))) | exact Up.mono (doReturn_up _ _ _ _ _ _ _) (by (first | exact Nat.le_refl _ | (apply run_ok; assumption) | (apply run_halt; assumption) | (apply runT_ok; assumption) | (apply runT_halt; assumption) | (apply runT1_ok; assumption) | (apply runT1_halt; assumption) | (apply listen_ok; assumption) | (apply listen_halt; assumption) | (apply listen1_ok; assumption) | (apply listen1_halt; assumption))) | exact Up.mono (die_up _ _ _ _) (by (first | exact Nat.le_refl _ | (apply run_ok; assumption) | (apply run_halt; assumption) | (apply runT_ok; assumption) | (apply runT_halt; assumption) | (apply runT1_ok; assumption) | (apply runT1_halt; assumption) | (apply listen_ok; assumption) | (apply listen_halt; assumption) | (apply listen1_ok; assumption) | (apply listen1_halt; assumption))))
          · split <;> (first | exact trivial | (show _ ≤ _; (first | exact Nat.le_refl _ | (apply run_ok; assumption) | (apply run_halt; assumption) | (apply runT_ok; assumption) | (apply runT_halt; assumption) | (apply runT1_ok; assumption) | (apply runT1_halt; assumption) | (apply listen_ok; assumption) | (apply listen_halt; assumption) | (apply listen1_ok; assumption) | (apply listen1_halt; assumption))) | exact Up.mono (endPrinting_up _ _ _ _) (by (first | exact Nat.le_refl _ | (apply run_ok; assumption) | (apply run_halt; assumption) | (apply runT_ok; assumption) | (apply runT_halt; assumption) | (apply runT1_ok; assumption) | (apply runT1_halt; assumption) | (apply listen_ok; assumption) | (apply listen_halt; assumption) | (apply listen1_ok; assumption) | (apply listen1_halt; assumption))) | exact Up.mono (endFatal_up _ _ _ _ _ _) (by (first | exact Nat.le_refl _ | (apply run_ok; assumption) | (apply run_halt; assumption) | (apply runT_ok; assumption) | (apply runT_halt; assumption) | (apply runT1_ok; assumption) | (apply runT1_halt; assumption) | (apply listen_ok; assumption) | (apply listen_halt; assumption) | (apply listen1_ok; assumption) | (apply listen1_halt; assumption))) | exact Up.mono (endThrow_up _ _ _) (by (first | exact Nat.le_refl _ | (apply run_ok; assumption) | (apply run_halt; assumption) | (apply runT_ok; assumption) | (apply runT_halt; assumption) | (apply runT1_ok; assumption) | (apply runT1_halt; assumption) | (apply listen_ok; assumption) | (apply listen_halt; assumption) | (apply listen1_ok; assumption) | (apply listen1_halt; assumption))) | exact Up.mono (doReturn_up _ _ _ _ _ _ _) (by (first | exact Nat.le_refl _ | (apply run_ok; assumption) | (apply run_halt; assumption) | (apply runT_ok; assumption) | (apply runT_halt; assumption) | (apply runT1_ok; assumption) | (apply runT1_halt; assumption) | (apply listen_ok; assumption) | (apply listen_halt; assumption) | (apply listen1_ok; assumption) | (apply listen1_halt; assumption))) | exact Up.mono (die_up _ _ _ _) (by (first | exact Nat.le_refl _ | (apply run_ok; assumption) | (apply run_halt; assumption) | (apply runT_ok; assumption) | (apply runT_halt; assumption) | (apply runT1_ok; assumption) | (apply runT1_halt; assumption) | (apply listen_ok; assumption) | (apply listen_halt; assumption) | (apply listen1_ok; assumption) | (apply listen1_halt; assumption))))
    · split
      · (first | exact trivial | (show _ ≤ _; (first | exact Nat.le_refl _ | (apply run_ok; assumption) | (apply run_halt; assumption) | (apply runT_ok; assumption) | (apply runT_halt; assumption) | (apply runT1_ok; assumption) | (apply runT1_halt; assumption) | (apply listen_ok; assumption) | (apply listen_halt; assumption) | (apply listen1_ok; assumption) | (apply listen1_halt; assumption))) | exact Up.mono (endPrinting_up _ _ _ _) (by (first | exact Nat.le_refl _ | (apply run_ok; assumption) | (apply run_halt; assumption) | (apply runT_ok; assumption) | (apply runT_halt; assumption) | (apply runT1_ok; assumption) | (apply runT1_halt; assumption) | (apply listen_ok; assumption) | (apply listen_halt; assumption) | (apply listen1_ok; assumption) | (apply listen1_halt; assumption))) | exact Up.mono (endFatal_up _ _ _ _ _ _) (by (first | exact Nat.le_refl _ | (apply run_ok; assumption) | (apply run_halt; assumption) | (apply runT_ok; assumption) | (apply runT_halt; assumption) | (apply runT1_ok; assumption) | (apply runT1_halt; assumption) | (apply listen_ok; assumption) | (apply listen_halt; assumption) | (apply listen1_ok; assumption) | (apply listen1_halt; assumption))) | exact Up.mono (endThrow_up _ _ _) (by (first | exact Nat.le_refl _ | (apply run_ok; assumption) | (apply run_halt; assumption) | (apply runT_ok; assumption) | (apply runT_halt; assumption) | (apply runT1_ok; assumption) | (apply runT1_halt; assumption) | (apply listen_ok; assumption) | (apply listen_halt; assumption) | (apply listen1_ok; assumption) | (apply listen1_halt; assumption))) | exact Up.mono (doReturn_up _ _ _ _ _ _ _) (by (first | exact Nat.le_refl _ | (apply run_ok; assumption) | (apply run_halt; assumption) | (apply runT_ok; assumption) | (apply runT_halt; assumption) | (apply runT1_ok; assumption) | (apply runT1_halt; assumption) | (apply listen_ok; assumption) | (apply listen_halt; assumption) | (apply listen1_ok; assumption) | (apply listen1_halt; assumption))) | exact Up.mono (die_up _ _ _ _) (by (first | exact Nat.le_refl _ | (apply run_ok; assumption) | (apply run_halt; assumption) | (apply runT_ok; assumption) | (apply runT_halt; assumption) | (apply runT1_ok; assumption) | (apply runT1_halt; assumption) | (apply listen_ok; assumption) | (apply listen_halt; assumption) | (apply listen1_ok; assumption) | (apply listen1_halt; assumption))))
      · apply up_after
        split <;> (first | exact trivial | (show _ ≤ _; (first | exact Nat.le_refl _ | (apply run_ok; assumption) | (apply run_halt; assumption) | (apply runT_ok; assumption) | (apply runT_halt; assumption) | (apply runT1_ok; assumption) | (apply runT1_halt; assumption) | (apply listen_ok; assumption) | (apply listen_halt; assumption) | (apply listen1_ok; assumption) | (apply listen1_halt; assumption))) | exact Up.mono (endPrinting_up _ _ _ _) (by (first | exact Nat.le_refl _ | (apply run_ok; assumption) | (apply run_halt; assumption) | (apply runT_ok; assumption) | (apply runT_halt; assumption) | (apply runT1_ok; assumption) | (apply runT1_halt; assumption) | (apply listen_ok; assumption) | (apply listen_halt; assumption) | (apply listen1_ok; assumption) | (apply listen1_halt; assumption))) | exact Up.mono (endFatal_up _ _ _ _ _ _) (by (first | exact Nat.le_refl _ | (apply run_ok; assumption) | (apply run_halt; assumption) | (apply runT_ok; assumption) | (apply runT_halt; assumption) | (apply runT1_ok; assumption) | (apply runT1_halt; assumption) | (apply listen_ok; assumption) | (apply listen_halt; assumption) | (apply listen1_ok; assumption) | (apply listen1_halt; assumption))) | exact Up.mono (endThrow_up _ _ _) (by (first | exact Nat.le_refl _ | (apply run_ok; assumption) | (apply run_halt; assumption) | (apply runT_ok; assumption) | (apply runT_halt; assumption) | (apply runT1_ok; assumption) | (apply runT1_halt; assumption) | (apply listen_ok; assumption) | (apply listen_halt; assumption) | (apply listen1_ok; assumption) | (apply listen1_halt; assumption))) | exact Up.mono (doReturn_up _ _ _ _ _ _ _) (by (first | exact Nat.le_refl _ | (apply run_ok; assumption) | (apply run_halt; assumption) | (apply runT_ok; assumption) | (apply runT_halt; assumption) | (apply runT1_ok; assumption) | (apply runT1_halt; assumption) | (apply listen_ok; assumption) | (apply listen_halt; assumption) | (apply listen1_ok; assumption) | (apply listen1_halt; assumption))) | exact Up.mono (die_up _ _ _ _) (by (first | exact Nat.le_refl _ | (apply run_ok; assumption) | (apply run_halt; assumption) | (apply runT_ok; assumption) | (apply runT_halt; assumption) | (apply runT1_ok; assumption) | (apply runT1_halt; assumption) | (apply listen_ok; assumption) | (apply listen_halt; assumption) | (apply listen1_ok; assumption) | (apply listen1_halt; assumption))))

theorem early_up (p : Program) (fr : Frame) (cs : List Frame) (dy : Option Dying) (g : Nat) (w : World) : Up w.drawn (early p fr cs dy g w) := by
  have ny : ∀ w1 : World, w.drawn ≤ w1.drawn → Up w.drawn (match w1.heap[g]? with
      | some (.pending c elem) => .go { frame := fr, callers := cs, status := .running, dying := dy } { w1 with heap := w1.heap.setIfInBounds g (.cells c elem) }
      | _ => .ended (.stuck "early: the variable does not wait" (fr.pos p)) w1) := by
    intro w1 h; split
    · exact h
    · exact trivial
  unfold early
  dsimp only
  split
  · exact ny w (Nat.le_refl _)
  · split
    · exact trivial
    · split
      · exact ny w (Nat.le_refl _)
      · split
        · exact ny w (Nat.le_refl _)
        · split
          · exact trivial
          · (first | exact trivial | (show _ ≤ _; (first | exact Nat.le_refl _ | (apply run_ok; assumption) | (apply run_halt; assumption) | (apply runT_ok; assumption) | (apply runT_halt; assumption) | (apply runT1_ok; assumption) | (apply runT1_halt; assumption) | (apply listen_ok; assumption) | (apply listen_halt; assumption) | (apply listen1_ok; assumption) | (apply listen1_halt; assumption))) | exact Up.mono (endPrinting_up _ _ _ _) (by (first | exact Nat.le_refl _ | (apply run_ok; assumption) | (apply run_halt; assumption) | (apply runT_ok; assumption) | (apply runT_halt; assumption) | (apply runT1_ok; assumption) | (apply runT1_halt; assumption) | (apply listen_ok; assumption) | (apply listen_halt; assumption) | (apply listen1_ok; assumption) | (apply listen1_halt; assumption))) | exact Up.mono (endFatal_up _ _ _ _ _ _) (by (first | exact Nat.le_refl _ | (apply run_ok; assumption) | (apply run_halt; assumption) | (apply runT_ok; assumption) | (apply runT_halt; assumption) | (apply runT1_ok; assumption) | (apply runT1_halt; assumption) | (apply listen_ok; assumption) | (apply listen_halt; assumption) | (apply listen1_ok; assumption) | (apply listen1_halt; assumption))) | exact Up.mono (endThrow_up _ _ _) (by (first | exact Nat.le_refl _ | (apply run_ok; assumption) | (apply run_halt; assumption) | (apply runT_ok; assumption) | (apply runT_halt; assumption) | (apply runT1_ok; assumption) | (apply runT1_halt; assumption) | (apply listen_ok; assumption) | (apply listen_halt; assumption) | (apply listen1_ok; assumption) | (apply listen1_halt; assumption))) | exact Up.mono (doReturn_up _ _ _ _ _ _ _) (by (first | exact Nat.le_refl _ | (apply run_ok; assumption) | (apply run_halt; assumption) | (apply runT_ok; assumption) | (apply runT_halt; assumption) | (apply runT1_ok; assumption) | (apply runT1_halt; assumption) | (apply listen_ok; assumption) | (apply listen_halt; assumption) | (apply listen1_ok; assumption) | (apply listen1_halt; assumption))) | exact Up.mono (die_up _ _ _ _) (by (first | exact Nat.le_refl _ | (apply run_ok; assumption) | (apply run_halt; assumption) | (apply runT_ok; assumption) | (apply runT_halt; assumption) | (apply runT1_ok; assumption) | (apply runT1_halt; assumption) | (apply listen_ok; assumption) | (apply listen_halt; assumption) | (apply listen1_ok; assumption) | (apply listen1_halt; assumption))))
          · exact trivial
          · exact ny w (Nat.le_refl _)
          · split
            · (first | exact trivial | (show _ ≤ _; (first | exact Nat.le_refl _ | (apply run_ok; assumption) | (apply run_halt; assumption) | (apply runT_ok; assumption) | (apply runT_halt; assumption) | (apply runT1_ok; assumption) | (apply runT1_halt; assumption) | (apply listen_ok; assumption) | (apply listen_halt; assumption) | (apply listen1_ok; assumption) | (apply listen1_halt; assumption))) | exact Up.mono (endPrinting_up _ _ _ _) (by (first | exact Nat.le_refl _ | (apply run_ok; assumption) | (apply run_halt; assumption) | (apply runT_ok; assumption) | (apply runT_halt; assumption) | (apply runT1_ok; assumption) | (apply runT1_halt; assumption) | (apply listen_ok; assumption) | (apply listen_halt; assumption) | (apply listen1_ok; assumption) | (apply listen1_halt; assumption))) | exact Up.mono (endFatal_up _ _ _ _ _ _) (by (first | exact Nat.le_refl _ | (apply run_ok; assumption) | (apply run_halt; assumption) | (apply runT_ok; assumption) | (apply runT_halt; assumption) | (apply runT1_ok; assumption) | (apply runT1_halt; assumption) | (apply listen_ok; assumption) | (apply listen_halt; assumption) | (apply listen1_ok; assumption) | (apply listen1_halt; assumption))) | exact Up.mono (endThrow_up _ _ _) (by (first | exact Nat.le_refl _ | (apply run_ok; assumption) | (apply run_halt; assumption) | (apply runT_ok; assumption) | (apply runT_halt; assumption) | (apply runT1_ok; assumption) | (apply runT1_halt; assumption) | (apply listen_ok; assumption) | (apply listen_halt; assumption) | (apply listen1_ok; assumption) | (apply listen1_halt; assumption))) | exact Up.mono (doReturn_up _ _ _ _ _ _ _) (by (first | exact Nat.le_refl _ | (apply run_ok; assumption) | (apply run_halt; assumption) | (apply runT_ok; assumption) | (apply runT_halt; assumption) | (apply runT1_ok; assumption) | (apply runT1_halt; assumption) | (apply listen_ok; assumption) | (apply listen_halt; assumption) | (apply listen1_ok; assumption) | (apply listen1_halt; assumption))) | exact Up.mono (die_up _ _ _ _) (by (first | exact Nat.le_refl _ | (apply run_ok; assumption) | (apply run_halt; assumption) | (apply runT_ok; assumption) | (apply runT_halt; assumption) | (apply runT1_ok; assumption) | (apply runT1_halt; assumption) | (apply listen_ok; assumption) | (apply listen_halt; assumption) | (apply listen1_ok; assumption) | (apply listen1_halt; assumption))))
            · split
              · exact ny w (Nat.le_refl _)
              · split
                · exact ny _ (by (first | exact Nat.le_refl _ | (apply run_ok; assumption) | (apply run_halt; assumption) | (apply runT_ok; assumption) | (apply runT_halt; assumption) | (apply runT1_ok; assumption) | (apply runT1_halt; assumption) | (apply listen_ok; assumption) | (apply listen_halt; assumption) | (apply listen1_ok; assumption) | (apply listen1_halt; assumption)))
                · (first | exact trivial | (show _ ≤ _; (first | exact Nat.le_refl _ | (apply run_ok; assumption) | (apply run_halt; assumption) | (apply runT_ok; assumption) | (apply runT_halt; assumption) | (apply runT1_ok; assumption) | (apply runT1_halt; assumption) | (apply listen_ok; assumption) | (apply listen_halt; assumption) | (apply listen1_ok; assumption) | (apply listen1_halt; assumption))) | exact Up.mono (endPrinting_up _ _ _ _) (by (first | exact Nat.le_refl _ | (apply run_ok; assumption) | (apply run_halt; assumption) | (apply runT_ok; assumption) | (apply runT_halt; assumption) | (apply runT1_ok; assumption) | (apply runT1_halt; assumption) | (apply listen_ok; assumption) | (apply listen_halt; assumption) | (apply listen1_ok; assumption) | (apply listen1_halt; assumption))) | exact Up.mono (endFatal_up _ _ _ _ _ _) (by (first | exact Nat.le_refl _ | (apply run_ok; assumption) | (apply run_halt; assumption) | (apply runT_ok; assumption) | (apply runT_halt; assumption) | (apply runT1_ok; assumption) | (apply runT1_halt; assumption) | (apply listen_ok; assumption) | (apply listen_halt; assumption) | (apply listen1_ok; assumption) | (apply listen1_halt; assumption))) | exact Up.mono (endThrow_up _ _ _) (by (first | exact Nat.le_refl _ | (apply run_ok; assumption) | (apply run_halt; assumption) | (apply runT_ok; assumption) | (apply runT_halt; assumption) | (apply runT1_ok; assumption) | (apply runT1_halt; assumption) | (apply listen_ok; assumption) | (apply listen_halt; assumption) | (apply listen1_ok; assumption) | (apply listen1_halt; assumption))) | exact Up.mono (doReturn_up _ _ _ _ _ _ _) (by (first | exact Nat.le_refl _ | (apply run_ok; assumption) | (apply run_halt; assumption) | (apply runT_ok; assumption) | (apply runT_halt; assumption) | (apply runT1_ok; assumption) | (apply runT1_halt; assumption) | (apply listen_ok; assumption) | (apply listen_halt; assumption) | (apply listen1_ok; assumption) | (apply listen1_halt; assumption))) | exact Up.mono (die_up _ _ _ _) (by (first | exact Nat.le_refl _ | (apply run_ok; assumption) | (apply run_halt; assumption) | (apply runT_ok; assumption) | (apply runT_halt; assumption) | (apply runT1_ok; assumption) | (apply runT1_halt; assumption) | (apply listen_ok; assumption) | (apply listen_halt; assumption) | (apply listen1_ok; assumption) | (apply listen1_halt; assumption))))
                · exact trivial

theorem apply_up (p : Program) (l : Bool) (fr : Frame) (cs : List Frame) (dy : Option Dying) (s : Sem Next) (w : World) : Up w.drawn (stepG.apply p l fr cs dy s w) := by
  unfold stepG.apply
  dsimp only
  apply up_after
  split
  all_goals first
    | (first | exact trivial | (show _ ≤ _; (first | exact Nat.le_refl _ | (apply run_ok; assumption) | (apply run_halt; assumption) | (apply runT_ok; assumption) | (apply runT_halt; assumption) | (apply runT1_ok; assumption) | (apply runT1_halt; assumption) | (apply listen_ok; assumption) | (apply listen_halt; assumption) | (apply listen1_ok; assumption) | (apply listen1_halt; assumption))) | exact Up.mono (endPrinting_up _ _ _ _) (by (first | exact Nat.le_refl _ | (apply run_ok; assumption) | (apply run_halt; assumption) | (apply runT_ok; assumption) | (apply runT_halt; assumption) | (apply runT1_ok; assumption) | (apply runT1_halt; assumption) | (apply listen_ok; assumption) | (apply listen_halt; assumption) | (apply listen1_ok; assumption) | (apply listen1_halt; assumption))) | exact Up.mono (endFatal_up _ _ _ _ _ _) (by (first | exact Nat.le_refl _ | (apply run_ok; assumption) | (apply run_halt; assumption) | (apply runT_ok; assumption) | (apply runT_halt; assumption) | (apply runT1_ok; assumption) | (apply runT1_halt; assumption) | (apply listen_ok; assumption) | (apply listen_halt; assumption) | (apply listen1_ok; assumption) | (apply listen1_halt; assumption))) | exact Up.mono (endThrow_up _ _ _) (by (first | exact Nat.le_refl _ | (apply run_ok; assumption) | (apply run_halt; assumption) | (apply runT_ok; assumption) | (apply runT_halt; assumption) | (apply runT1_ok; assumption) | (apply runT1_halt; assumption) | (apply listen_ok; assumption) | (apply listen_halt; assumption) | (apply listen1_ok; assumption) | (apply listen1_halt; assumption))) | exact Up.mono (doReturn_up _ _ _ _ _ _ _) (by (first | exact Nat.le_refl _ | (apply run_ok; assumption) | (apply run_halt; assumption) | (apply runT_ok; assumption) | (apply runT_halt; assumption) | (apply runT1_ok; assumption) | (apply runT1_halt; assumption) | (apply listen_ok; assumption) | (apply listen_halt; assumption) | (apply listen1_ok; assumption) | (apply listen1_halt; assumption))) | exact Up.mono (die_up _ _ _ _) (by (first | exact Nat.le_refl _ | (apply run_ok; assumption) | (apply run_halt; assumption) | (apply runT_ok; assumption) | (apply runT_halt; assumption) | (apply runT1_ok; assumption) | (apply runT1_halt; assumption) | (apply listen_ok; assumption) | (apply listen_halt; assumption) | (apply listen1_ok; assumption) | (apply listen1_halt; assumption))))
    | exact Up.mono (early_up _ _ _ _ _ _) (by (first | exact Nat.le_refl _ | (apply run_ok; assumption) | (apply run_halt; assumption) | (apply runT_ok; assumption) | (apply runT_halt; assumption) | (apply runT1_ok; assumption) | (apply runT1_halt; assumption) | (apply listen_ok; assumption) | (apply listen_halt; assumption) | (apply listen1_ok; assumption) | (apply listen1_halt; assumption)))
    | (apply up_ite <;> (first | exact trivial | (show _ ≤ _; (first | exact Nat.le_refl _ | (apply run_ok; assumption) | (apply run_halt; assumption) | (apply runT_ok; assumption) | (apply runT_halt; assumption) | (apply runT1_ok; assumption) | (apply runT1_halt; assumption) | (apply listen_ok; assumption) | (apply listen_halt; assumption) | (apply listen1_ok; assumption) | (apply listen1_halt; assumption))) | exact Up.mono (endPrinting_up _ _ _ _) (by (first | exact Nat.le_refl _ | (apply run_ok; assumption) | (apply run_halt; assumption) | (apply runT_ok; assumption) | (apply runT_halt; assumption) | (apply runT1_ok; assumption) | (apply runT1_halt; assumption) | (apply listen_ok; assumption) | (apply listen_halt; assumption) | (apply listen1_ok; assumption) | (apply listen1_halt; assumption))) | exact Up.mono (endFatal_up _ _ _ _ _ _) (by (first | exact Nat.le_refl _ | (apply run_ok; assumption) | (apply run_halt; assumption) | (apply runT_ok; assumption) | (apply runT_halt; assumption) | (apply runT1_ok; assumption) | (apply runT1_halt; assumption) | (apply listen_ok; assumption) | (apply listen_halt; assumption) | (apply listen1_ok; assumption) | (apply listen1_halt; assumption))) | exact Up.mono (endThrow_up _ _ _) (by (first | exact Nat.le_refl _ | (apply run_ok; assumption) | (apply run_halt; assumption) | (apply runT_ok; assumption) | (apply runT_halt; assumption) | (apply runT1_ok; assumption) | (apply runT1_halt; assumption) | (apply listen_ok; assumption) | (apply listen_halt; assumption) | (apply listen1_ok; assumption) | (apply listen1_halt; assumption))) | exact Up.mono (doReturn_up _ _ _ _ _ _ _) (by (first | exact Nat.le_refl _ | (apply run_ok; assumption) | (apply run_halt; assumption) | (apply runT_ok; assumption) | (apply runT_halt; assumption) | (apply runT1_ok; assumption) | (apply runT1_halt; assumption) | (apply listen_ok; assumption) | (apply listen_halt; assumption) | (apply listen1_ok; assumption) | (apply listen1_halt; assumption))) | exact Up.mono (die_up _ _ _ _) (by (first | exact Nat.le_refl _ | (apply run_ok; assumption) | (apply run_halt; assumption) | (apply runT_ok; assumption) | (apply runT_halt; assumption) | (apply runT1_ok; assumption) | (apply runT1_halt; assumption) | (apply listen_ok; assumption) | (apply listen_halt; assumption) | (apply listen1_ok; assumption) | (apply listen1_halt; assumption)))))
    | (split <;> first | (first | exact trivial | (show _ ≤ _; (first | exact Nat.le_refl _ | (apply run_ok; assumption) | (apply run_halt; assumption) | (apply runT_ok; assumption) | (apply runT_halt; assumption) | (apply runT1_ok; assumption) | (apply runT1_halt; assumption) | (apply listen_ok; assumption) | (apply listen_halt; assumption) | (apply listen1_ok; assumption) | (apply listen1_halt; assumption))) | exact Up.mono (endPrinting_up _ _ _ _) (by (first | exact Nat.le_refl _ | (apply run_ok; assumption) | (apply run_halt; assumption) | (apply runT_ok; assumption) | (apply runT_halt; assumption) | (apply runT1_ok; assumption) | (apply runT1_halt; assumption) | (apply listen_ok; assumption) | (apply listen_halt; assumption) | (apply listen1_ok; assumption) | (apply listen1_halt; assumption))) | exact Up.mono (endFatal_up _ _ _ _ _ _) (by (first | exact Nat.le_refl _ | (apply run_ok; assumption) | (apply run_halt; assumption) | (apply runT_ok; assumption) | (apply runT_halt; assumption) | (apply runT1_ok; assumption) | (apply runT1_halt; assumption) | (apply listen_ok; assumption) | (apply listen_halt; assumption) | (apply listen1_ok; assumption) | (apply listen1_halt; assumption))) | exact Up.mono (endThrow_up _ _ _) (by (first | exact Nat.le_refl _ | (apply run_ok; assumption) | (apply run_halt; assumption) | (apply runT_ok; assumption) | (apply runT_halt; assumption) | (apply runT1_ok; assumption) | (apply runT1_halt; assumption) | (apply listen_ok; assumption) | (apply listen_halt; assumption) | (apply listen1_ok; assumption) | (apply listen1_halt; assumption))) | exact Up.mono (doReturn_up _ _ _ _ _ _ _) (by (first | exact Nat.le_refl _ | (apply run_ok; assumption) | (apply run_halt; assumption) | (apply runT_ok; assumption) | (apply runT_halt; assumption) | (apply runT1_ok; assumption) | (apply runT1_halt; assumption) | (apply listen_ok; assumption) | (apply listen_halt; assumption) | (apply listen1_ok; assumption) | (apply listen1_halt; assumption))) | exact Up.mono (die_up _ _ _ _) (by (first | exact Nat.le_refl _ | (apply run_ok; assumption) | (apply run_halt; assumption) | (apply runT_ok; assumption) | (apply runT_halt; assumption) | (apply runT1_ok; assumption) | (apply runT1_halt; assumption) | (apply listen_ok; assumption) | (apply listen_halt; assumption) | (apply listen1_ok; assumption) | (apply listen1_halt; assumption)))) | (apply up_ite <;> (first | exact trivial | (show _ ≤ _; (first | exact Nat.le_refl _ | (apply run_ok; assumption) | (apply run_halt; assumption) | (apply runT_ok; assumption) | (apply runT_halt; assumption) | (apply runT1_ok; assumption) | (apply runT1_halt; assumption) | (apply listen_ok; assumption) | (apply listen_halt; assumption) | (apply listen1_ok; assumption) | (apply listen1_halt; assumption))) | exact Up.mono (endPrinting_up _ _ _ _) (by (first | exact Nat.le_refl _ | (apply run_ok; assumption) | (apply run_halt; assumption) | (apply runT_ok; assumption) | (apply runT_halt; assumption) | (apply runT1_ok; assumption) | (apply runT1_halt; assumption) | (apply listen_ok; assumption) | (apply listen_halt; assumption) | (apply listen1_ok; assumption) | (apply listen1_halt; assumption))) | exact Up.mono (endFatal_up _ _ _ _ _ _) (by (first | exact Nat.le_refl _ | (apply run_ok; assumption) | (apply run_halt; assumption) | (apply runT_ok; assumption) | (apply runT_halt; assumption) | (apply runT1_ok; assumption) | (apply runT1_halt; assumption) | (apply listen_ok; assumption) | (apply listen_halt; assumption) | (apply listen1_ok; assumption) | (apply listen1_halt; assumption))) | exact Up.mono (endThrow_up _ _ _) (by (first | exact Nat.le_refl _ | (apply run_ok; assumption) | (apply run_halt; assumption) | (apply runT_ok; assumption) | (apply runT_halt; assumption) | (apply runT1_ok; assumption) | (apply runT1_halt; assumption) | (apply listen_ok; assumption) | (apply listen_halt; assumption) | (apply listen1_ok; assumption) | (apply listen1_halt; assumption))) | exact Up.mono (doReturn_up _ _ _ _ _ _ _) (by (first | exact Nat.le_refl _ | (apply run_ok; assumption) | (apply run_halt; assumption) | (apply runT_ok; assumption) | (apply runT_halt; assumption) | (apply runT1_ok; assumption) | (apply runT1_halt; assumption) | (apply listen_ok; assumption) | (apply listen_halt; assumption) | (apply listen1_ok; assumption) | (apply listen1_halt; assumption))) | exact Up.mono (die_up _ _ _ _) (by (first | exact Nat.le_refl _ | (apply run_ok; assumption) | (apply run_halt; assumption) | (apply runT_ok; assumption) | (apply runT_halt; assumption) | (apply runT1_ok; assumption) | (apply runT1_halt; assumption) | (apply listen_ok; assumption) | (apply listen_halt; assumption) | (apply listen1_ok; assumption) | (apply listen1_halt; assumption))))))

theorem oper_up (p : Program) (l : Bool) (fr : Frame) (cs : List Frame) (dy : Option Dying) (w : World) : Up w.drawn (stepG.oper p l fr cs dy w) := by
  unfold stepG.oper
  split
  · exact trivial
  · split <;> exact apply_up _ _ _ _ _ _ _

theorem up_elim {α : Type} {d : Nat} {o : Option α} {a : GStep} {f : α → GStep} (h : Up d a) (k : ∀ x, Up d (f x)) : Up d (o.elim a f) := by cases o; exact h; exact k _

theorem exec_up (p : Program) (b l : Bool) (fr : Frame) (cs : List Frame) (dy : Option Dying) (w : World) : Up w.drawn (stepG.exec p b l fr cs dy w) := by
  obtain ⟨fn, tmps, todo, defers, mode, kind, ro⟩ := fr
  cases ro
  all_goals
    unfold stepG.exec
    dsimp only
    split
  all_goals first
    | (first | exact trivial | (show _ ≤ _; (first | exact Nat.le_refl _ | (apply run_ok; assumption) | (apply run_halt; assumption) | (apply runT_ok; assumption) | (apply runT_halt; assumption) | (apply runT1_ok; assumption) | (apply runT1_halt; assumption) | (apply listen_ok; assumption) | (apply listen_halt; assumption) | (apply listen1_ok; assumption) | (apply listen1_halt; assumption))) | exact Up.mono (endPrinting_up _ _ _ _) (by (first | exact Nat.le_refl _ | (apply run_ok; assumption) | (apply run_halt; assumption) | (apply runT_ok; assumption) | (apply runT_halt; assumption) | (apply runT1_ok; assumption) | (apply runT1_halt; assumption) | (apply listen_ok; assumption) | (apply listen_halt; assumption) | (apply listen1_ok; assumption) | (apply listen1_halt; assumption))) | exact Up.mono (endFatal_up _ _ _ _ _ _) (by (first | exact Nat.le_refl _ | (apply run_ok; assumption) | (apply run_halt; assumption) | (apply runT_ok; assumption) | (apply runT_halt; assumption) | (apply runT1_ok; assumption) | (apply runT1_halt; assumption) | (apply listen_ok; assumption) | (apply listen_halt; assumption) | (apply listen1_ok; assumption) | (apply listen1_halt; assumption))) | exact Up.mono (endThrow_up _ _ _) (by (first | exact Nat.le_refl _ | (apply run_ok; assumption) | (apply run_halt; assumption) | (apply runT_ok; assumption) | (apply runT_halt; assumption) | (apply runT1_ok; assumption) | (apply runT1_halt; assumption) | (apply listen_ok; assumption) | (apply listen_halt; assumption) | (apply listen1_ok; assumption) | (apply listen1_halt; assumption))) | exact Up.mono (doReturn_up _ _ _ _ _ _ _) (by (first | exact Nat.le_refl _ | (apply run_ok; assumption) | (apply run_halt; assumption) | (apply runT_ok; assumption) | (apply runT_halt; assumption) | (apply runT1_ok; assumption) | (apply runT1_halt; assumption) | (apply listen_ok; assumption) | (apply listen_halt; assumption) | (apply listen1_ok; assumption) | (apply listen1_halt; assumption))) | exact Up.mono (die_up _ _ _ _) (by (first | exact Nat.le_refl _ | (apply run_ok; assumption) | (apply run_halt; assumption) | (apply runT_ok; assumption) | (apply runT_halt; assumption) | (apply runT1_ok; assumption) | (apply runT1_halt; assumption) | (apply listen_ok; assumption) | (apply listen_halt; assumption) | (apply listen1_ok; assumption) | (apply listen1_halt; assumption))))
    | exact apply_up _ _ _ _ _ _ _
    | (apply up_ite <;> first | (first | exact trivial | (show _ ≤ _; (first | exact Nat.le_refl _ | (apply run_ok; assumption) | (apply run_halt; assumption) | (apply runT_ok; assumption) | (apply runT_halt; assumption) | (apply runT1_ok; assumption) | (apply runT1_halt; assumption) | (apply listen_ok; assumption) | (apply listen_halt; assumption) | (apply listen1_ok; assumption) | (apply listen1_halt; assumption))) | exact Up.mono (endPrinting_up _ _ _ _) (by (first | exact Nat.le_refl _ | (apply run_ok; assumption) | (apply run_halt; assumption) | (apply runT_ok; assumption) | (apply runT_halt; assumption) | (apply runT1_ok; assumption) | (apply runT1_halt; assumption) | (apply listen_ok; assumption) | (apply listen_halt; assumption) | (apply listen1_ok; assumption) | (apply listen1_halt; assumption))) | exact Up.mono (endFatal_up _ _ _ _ _ _) (by (first | exact Nat.le_refl _ | (apply run_ok; assumption) | (apply run_halt; assumption) | (apply runT_ok; assumption) | (apply runT_halt; assumption) | (apply runT1_ok; assumption) | (apply runT1_halt; assumption) | (apply listen_ok; assumption) | (apply listen_halt; assumption) | (apply listen1_ok; assumption) | (apply listen1_halt; assumption))) | exact Up.mono (endThrow_up _ _ _) (by (first | exact Nat.le_refl _ | (apply run_ok; assumption) | (apply run_halt; assumption) | (apply runT_ok; assumption) | (apply runT_halt; assumption) | (apply runT1_ok; assumption) | (apply runT1_halt; assumption) | (apply listen_ok; assumption) | (apply listen_halt; assumption) | (apply listen1_ok; assumption) | (apply listen1_halt; assumption))) | exact Up.mono (doReturn_up _ _ _ _ _ _ _) (by (first | exact Nat.le_refl _ | (apply run_ok; assumption) | (apply run_halt; assumption) | (apply runT_ok; assumption) | (apply runT_halt; assumption) | (apply runT1_ok; assumption) | (apply runT1_halt; assumption) | (apply listen_ok; assumption) | (apply listen_halt; assumption) | (apply listen1_ok; assumption) | (apply listen1_halt; assumption))) | exact Up.mono (die_up _ _ _ _) (by (first | exact Nat.le_refl _ | (apply run_ok; assumption) | (apply run_halt; assumption) | (apply runT_ok; assumption) | (apply runT_halt; assumption) | (apply runT1_ok; assumption) | (apply runT1_halt; assumption) | (apply listen_ok; assumption) | (apply listen_halt; assumption) | (apply listen1_ok; assumption) | (apply listen1_halt; assumption)))) | exact oper_up _ _ _ _ _ _)
    | (apply up_elim; (first | (first | exact trivial | (show _ ≤ _; (first | exact Nat.le_refl _ | (apply run_ok; assumption) | (apply run_halt; assumption) | (apply runT_ok; assumption) | (apply runT_halt; assumption) | (apply runT1_ok; assumption) | (apply runT1_halt; assumption) | (apply listen_ok; assumption) | (apply listen_halt; assumption) | (apply listen1_ok; assumption) | (apply listen1_halt; assumption))) | exact Up.mono (endPrinting_up _ _ _ _) (by (first | exact Nat.le_refl _ | (apply run_ok; assumption) | (apply run_halt; assumption) | (apply runT_ok; assumption) | (apply runT_halt; assumption) | (apply runT1_ok; assumption) | (apply runT1_halt; assumption) | (apply listen_ok; assumption) | (apply listen_halt; assumption) | (apply listen1_ok; assumption) | (apply listen1_halt; assumption))) | exact Up.mono (endFatal_up _ _ _ _ _ _) (by (first | exact Nat.le_refl _ | (apply run_ok; assumption) | (apply run_halt; assumption) | (apply runT_ok; assumption) | (apply runT_halt; assumption) | (apply runT1_ok; assumption) | (apply runT1_halt; assumption) | (apply listen_ok; assumption) | (apply listen_halt; assumption) | (apply listen1_ok; assumption) | (apply listen1_halt; assumption))) | exact Up.mono (endThrow_up _ _ _) (by (first | exact Nat.le_refl _ | (apply run_ok; assumption) | (apply run_halt; assumption) | (apply runT_ok; assumption) | (apply runT_halt; assumption) | (apply runT1_ok; assumption) | (apply runT1_halt; assumption) | (apply listen_ok; assumption) | (apply listen_halt; assumption) | (apply listen1_ok; assumption) | (apply listen1_halt; assumption))) | exact Up.mono (doReturn_up _ _ _ _ _ _ _) (by (first | exact Nat.le_refl _ | (apply run_ok; assumption) | (apply run_halt; assumption) | (apply runT_ok; assumption) | (apply runT_halt; assumption) | (apply runT1_ok; assumption) | (apply runT1_halt; assumption) | (apply listen_ok; assumption) | (apply listen_halt; assumption) | (apply listen1_ok; assumption) | (apply listen1_halt; assumption))) | exact Up.mono (die_up _ _ _ _) (by (first | exact Nat.le_refl _ | (apply run_ok; assumption) | (apply run_halt; assumption) | (apply runT_ok; assumption) | (apply runT_halt; assumption) | (apply runT1_ok; assumption) | (apply runT1_halt; assumption) | (apply listen_ok; assumption) | (apply listen_halt; assumption) | (apply listen1_ok; assumption) | (apply listen1_halt; assumption)))) | (apply up_ite <;> (first | exact trivial | (show _ ≤ _; (first | exact Nat.le_refl _ | (apply run_ok; assumption) | (apply run_halt; assumption) | (apply runT_ok; assumption) | (apply runT_halt; assumption) | (apply runT1_ok; assumption) | (apply runT1_halt; assumption) | (apply listen_ok; assumption) | (apply listen_halt; assumption) | (apply listen1_ok; assumption) | (apply listen1_halt; assumption))) | exact Up.mono (endPrinting_up _ _ _ _) (by (first | exact Nat.le_refl _ | (apply run_ok; assumption) | (apply run_halt; assumption) | (apply runT_ok; assumption) | (apply runT_halt; assumption) | (apply runT1_ok; assumption) | (apply runT1_halt; assumption) | (apply listen_ok; assumption) | (apply listen_halt; assumption) | (apply listen1_ok; assumption) | (apply listen1_halt; assumption))) | exact Up.mono (endFatal_up _ _ _ _ _ _) (by (first | exact Nat.le_refl _ | (apply run_ok; assumption) | (apply run_halt; assumption) | (apply runT_ok; assumption) | (apply runT_halt; assumption) | (apply runT1_ok; assumption) | (apply runT1_halt; assumption) | (apply listen_ok; assumption) | (apply listen_halt; assumption) | (apply listen1_ok; assumption) | (apply listen1_halt; assumption))) | exact Up.mono (endThrow_up _ _ _) (by (first | exact Nat.le_refl _ | (apply run_ok; assumption) | (apply run_halt; assumption) | (apply runT_ok; assumption) | (apply runT_halt; assumption) | (apply runT1_ok; assumption) | (apply runT1_halt; assumption) | (apply listen_ok; assumption) | (apply listen_halt; assumption) | (apply listen1_ok; assumption) | (apply listen1_halt; assumption))) | exact Up.mono (doReturn_up _ _ _ _ _ _ _) (by (first | exact Nat.le_refl _ | (apply run_ok; assumption) | (apply run_halt; assumption) | (apply runT_ok; assumption) | (apply runT_halt; assumption) | (apply runT1_ok; assumption) | (apply runT1_halt; assumption) | (apply listen_ok; assumption) | (apply listen_halt; assumption) | (apply listen1_ok; assumption) | (apply listen1_halt; assumption))) | exact Up.mono (die_up _ _ _ _) (by (first | exact Nat.le_refl _ | (apply run_ok; assumption) | (apply run_halt; assumption) | (apply runT_ok; assumption) | (apply runT_halt; assumption) | (apply runT1_ok; assumption) | (apply runT1_halt; assumption) | (apply listen_ok; assumption) | (apply listen_halt; assumption) | (apply listen1_ok; assumption) | (apply listen1_halt; assumption)))))); intro x; first | (first | exact trivial | (show _ ≤ _; (first | exact Nat.le_refl _ | (apply run_ok; assumption) | (apply run_halt; assumption) | (apply runT_ok; assumption) | (apply runT_halt; assumption) | (apply runT1_ok; assumption) | (apply runT1_halt; assumption) | (apply listen_ok; assumption) | (apply listen_halt; assumption) | (apply listen1_ok; assumption) | (apply listen1_halt; assumption))) | exact Up.mono (endPrinting_up _ _ _ _) (by (first | exact Nat.le_refl _ | (apply run_ok; assumption) | (apply run_halt; assumption) | (apply runT_ok; assumption) | (apply runT_halt; assumption) | (apply runT1_ok; assumption) | (apply runT1_halt; assumption) | (apply listen_ok; assumption) | (apply listen_halt; assumption) | (apply listen1_ok; assumption) | (apply listen1_halt; assumption))) | exact Up.mono (endFatal_up _ _ _ _ _ _) (by (first | exact Nat.le_refl _ | (apply run_ok; assumption) | (apply run_halt; assumption) | (apply runT_ok; assumption) | (apply runT_halt; assumption) | (apply runT1_ok; assumption) | (apply runT1_halt; assumption) | (apply listen_ok; assumption) | (apply listen_halt; assumption) | (apply listen1_ok; assumption) | (apply listen1_halt; assumption))) | exact Up.mono (endThrow_up _ _ _) (by (first | exact Nat.le_refl _ | (apply run_ok; assumption) | (apply run_halt; assumption) | (apply runT_ok; assumption) | (apply runT_halt; assumption) | (apply runT1_ok; assumption) | (apply runT1_halt; assumption) | (apply listen_ok; assumption) | (apply listen_halt; assumption) | (apply listen1_ok; assumption) | (apply listen1_halt; assumption))) | exact Up.mono (doReturn_up _ _ _ _ _ _ _) (by (first | exact Nat.le_refl _ | (apply run_ok; assumption) | (apply run_halt; assumption) | (apply runT_ok; assumption) | (apply runT_halt; assumption) | (apply runT1_ok; assumption) | (apply runT1_halt; assumption) | (apply listen_ok; assumption) | (apply listen_halt; assumption) | (apply listen1_ok; assumption) | (apply listen1_halt; assumption))) | exact Up.mono (die_up _ _ _ _) (by (first | exact Nat.le_refl _ | (apply run_ok; assumption) | (apply run_halt; assumption) | (apply runT_ok; assumption) | (apply runT_halt; assumption) | (apply runT1_ok; assumption) | (apply runT1_halt; assumption) | (apply listen_ok; assumption) | (apply listen_halt; assumption) | (apply listen1_ok; assumption) | (apply listen1_halt; assumption)))) | exact apply_up _ _ _ _ _ _ _)
    | (apply up_after; split <;> (first | exact trivial | (show _ ≤ _; (first | exact Nat.le_refl _ | (apply run_ok; assumption) | (apply run_halt; assumption) | (apply runT_ok; assumption) | (apply runT_halt; assumption) | (apply runT1_ok; assumption) | (apply runT1_halt; assumption) | (apply listen_ok; assumption) | (apply listen_halt; assumption) | (apply listen1_ok; assumption) | (apply listen1_halt; assumption))) | exact Up.mono (endPrinting_up _ _ _ _) (by (first | exact Nat.le_refl _ | (apply run_ok; assumption) | (apply run_halt; assumption) | (apply runT_ok; assumption) | (apply runT_halt; assumption) | (apply runT1_ok; assumption) | (apply runT1_halt; assumption) | (apply listen_ok; assumption) | (apply listen_halt; assumption) | (apply listen1_ok; assumption) | (apply listen1_halt; assumption))) | exact Up.mono (endFatal_up _ _ _ _ _ _) (by (first | exact Nat.le_refl _ | (apply run_ok; assumption) | (apply run_halt; assumption) | (apply runT_ok; assumption) | (apply runT_halt; assumption) | (apply runT1_ok; assumption) | (apply runT1_halt; assumption) | (apply listen_ok; assumption) | (apply listen_halt; assumption) | (apply listen1_ok; assumption) | (apply listen1_halt; assumption))) | exact Up.mono (endThrow_up _ _ _) (by (first | exact Nat.le_refl _ | (apply run_ok; assumption) | (apply run_halt; assumption) | (apply runT_ok; assumption) | (apply runT_halt; assumption) | (apply runT1_ok; assumption) | (apply runT1_halt; assumption) | (apply listen_ok; assumption) | (apply listen_halt; assumption) | (apply listen1_ok; assumption) | (apply listen1_halt; assumption))) | exact Up.mono (doReturn_up _ _ _ _ _ _ _) (by (first | exact Nat.le_refl _ | (apply run_ok; assumption) | (apply run_halt; assumption) | (apply runT_ok; assumption) | (apply runT_halt; assumption) | (apply runT1_ok; assumption) | (apply runT1_halt; assumption) | (apply listen_ok; assumption) | (apply listen_halt; assumption) | (apply listen1_ok; assumption) | (apply listen1_halt; assumption))) | exact Up.mono (die_up _ _ _ _) (by (first | exact Nat.le_refl _ | (apply run_ok; assumption) | (apply run_halt; assumption) | (apply runT_ok; assumption) | (apply runT_halt; assumption) | (apply runT1_ok; assumption) | (apply runT1_halt; assumption) | (apply listen_ok; assumption) | (apply listen_halt; assumption) | (apply listen1_ok; assumption) | (apply listen1_halt; assumption)))))
    | (apply up_after; split <;> first | (first | exact trivial | (show _ ≤ _; (first | exact Nat.le_refl _ | (apply run_ok; assumption) | (apply run_halt; assumption) | (apply runT_ok; assumption) | (apply runT_halt; assumption) | (apply runT1_ok; assumption) | (apply runT1_halt; assumption) | (apply listen_ok; assumption) | (apply listen_halt; assumption) | (apply listen1_ok; assumption) | (apply listen1_halt; assumption))) | exact Up.mono (endPrinting_up _ _ _ _) (by (first | exact Nat.le_refl _ | (apply run_ok; assumption) | (apply run_halt; assumption) | (apply runT_ok; assumption) | (apply runT_halt; assumption) | (apply runT1_ok; assumption) | (apply runT1_halt; assumption) | (apply listen_ok; assumption) | (apply listen_halt; assumption) | (apply listen1_ok; assumption) | (apply listen1_halt; assumption))) | exact Up.mono (endFatal_up _ _ _ _ _ _) (by (first | exact Nat.le_refl _ | (apply run_ok; assumption) | (apply run_halt; assumption) | (apply runT_ok; assumption) | (apply runT_halt; assumption) | (apply runT1_ok; assumption) | (apply runT1_halt; assumption) | (apply listen_ok; assumption) | (apply listen_halt; assumption) | (apply listen1_ok; assumption) | (apply listen1_halt; assumption))) | exact Up.mono (endThrow_up _ _ _) (by (first | exact Nat.le_refl _ | (apply run_ok; assumption) | (apply run_halt; assumption) | (apply runT_ok; assumption) | (apply runT_halt; assumption) | (apply runT1_ok; assumption) | (apply runT1_halt; assumption) | (apply listen_ok; assumption) | (apply listen_halt; assumption) | (apply listen1_ok; assumption) | (apply listen1_halt; assumption))) | exact Up.mono (doReturn_up _ _ _ _ _ _ _) (by (first | exact Nat.le_refl _ | (apply run_ok; assumption) | (apply run_halt; assumption) | (apply runT_ok; assumption) | (apply runT_halt; assumption) | (apply runT1_ok; assumption) | (apply runT1_halt; assumption) | (apply listen_ok; assumption) | (apply listen_halt; assumption) | (apply listen1_ok; assumption) | (apply listen1_halt; assumption))) | exact Up.mono (die_up _ _ _ _) (by (first | exact Nat.le_refl _ | (apply run_ok; assumption) | (apply run_halt; assumption) | (apply runT_ok; assumption) | (apply runT_halt; assumption) | (apply runT1_ok; assumption) | (apply runT1_halt; assumption) | (apply listen_ok; assumption) | (apply listen_halt; assumption) | (apply listen1_ok; assumption) | (apply listen1_halt; assumption)))) | exact Up.mono (apply_up _ _ _ _ _ _ _) (by (first | exact Nat.le_refl _ | (apply run_ok; assumption) | (apply run_halt; assumption) | (apply runT_ok; assumption) | (apply runT_halt; assumption) | (apply runT1_ok; assumption) | (apply runT1_halt; assumption) | (apply listen_ok; assumption) | (apply listen_halt; assumption) | (apply listen1_ok; assumption) | (apply listen1_halt; assumption))))
    | (apply up_elim; (apply up_after; split <;> (first | exact trivial | (show _ ≤ _; (first | exact Nat.le_refl _ | (apply run_ok; assumption) | (apply run_halt; assumption) | (apply runT_ok; assumption) | (apply runT_halt; assumption) | (apply runT1_ok; assumption) | (apply runT1_halt; assumption) | (apply listen_ok; assumption) | (apply listen_halt; assumption) | (apply listen1_ok; assumption) | (apply listen1_halt; assumption))) | exact Up.mono (endPrinting_up _ _ _ _) (by (first | exact Nat.le_refl _ | (apply run_ok; assumption) | (apply run_halt; assumption) | (apply runT_ok; assumption) | (apply runT_halt; assumption) | (apply runT1_ok; assumption) | (apply runT1_halt; assumption) | (apply listen_ok; assumption) | (apply listen_halt; assumption) | (apply listen1_ok; assumption) | (apply listen1_halt; assumption))) | exact Up.mono (endFatal_up _ _ _ _ _ _) (by (first | exact Nat.le_refl _ | (apply run_ok; assumption) | (apply run_halt; assumption) | (apply runT_ok; assumption) | (apply runT_halt; assumption) | (apply runT1_ok; assumption) | (apply runT1_halt; assumption) | (apply listen_ok; assumption) | (apply listen_halt; assumption) | (apply listen1_ok; assumption) | (apply listen1_halt; assumption))) | exact Up.mono (endThrow_up _ _ _) (by (first | exact Nat.le_refl _ | (apply run_ok; assumption) | (apply run_halt; assumption) | (apply runT_ok; assumption) | (apply runT_halt; assumption) | (apply runT1_ok; assumption) | (apply runT1_halt; assumption) | (apply listen_ok; assumption) | (apply listen_halt; assumption) | (apply listen1_ok; assumption) | (apply listen1_halt; assumption))) | exact Up.mono (doReturn_up _ _ _ _ _ _ _) (by (first | exact Nat.le_refl _ | (apply run_ok; assumption) | (apply run_halt; assumption) | (apply runT_ok; assumption) | (apply runT_halt; assumption) | (apply runT1_ok; assumption) | (apply runT1_halt; assumption) | (apply listen_ok; assumption) | (apply listen_halt; assumption) | (apply listen1_ok; assumption) | (apply listen1_halt; assumption))) | exact Up.mono (die_up _ _ _ _) (by (first | exact Nat.le_refl _ | (apply run_ok; assumption) | (apply run_halt; assumption) | (apply runT_ok; assumption) | (apply runT_halt; assumption) | (apply runT1_ok; assumption) | (apply runT1_halt; assumption) | (apply listen_ok; assumption) | (apply listen_halt; assumption) | (apply listen1_ok; assumption) | (apply listen1_halt; assumption))))); intro x; (first | exact trivial | (show _ ≤ _; (first | exact Nat.le_refl _ | (apply run_ok; assumption) | (apply run_halt; assumption) | (apply runT_ok; assumption) | (apply runT_halt; assumption) | (apply runT1_ok; assumption) | (apply runT1_halt; assumption) | (apply listen_ok; assumption) | (apply listen_halt; assumption) | (apply listen1_ok; assumption) | (apply listen1_halt; assumption))) | exact Up.mono (endPrinting_up _ _ _ _) (by (first | exact Nat.le_refl _ | (apply run_ok; assumption) | (apply run_halt; assumption) | (apply runT_ok; assumption) | (apply runT_halt; assumption) | (apply runT1_ok; assumption) | (apply runT1_halt; assumption) | (apply listen_ok; assumption) | (apply listen_halt; assumption) | (apply listen1_ok; assumption) | (apply listen1_halt; assumption))) | exact Up.mono (endFatal_up _ _ _ _ _ _) (by (first | exact Nat.le_refl _ | (apply run_ok; assumption) | (apply run_halt; assumption) | (apply runT_ok; assumption) | (apply runT_halt; assumption) | (apply runT1_ok; assumption) | (apply runT1_halt; assumption) | (apply listen_ok; assumption) | (apply listen_halt; assumption) | (apply listen1_ok; assumption) | (apply listen1_halt; assumption))) | exact Up.mono (endThrow_up _ _ _) (by (first | exact Nat.le_refl _ | (apply run_ok; assumption) | (apply run_halt; assumption) | (apply runT_ok; assumption) | (apply runT_halt; assumption) | (apply runT1_ok; assumption) | (apply runT1_halt; assumption) | (apply listen_ok; assumption) | (apply listen_halt; assumption) | (apply listen1_ok; assumption) | (apply listen1_halt; assumption))) | exact Up.mono (doReturn_up _ _ _ _ _ _ _) (by (first | exact Nat.le_refl _ | (apply run_ok; assumption) | (apply run_halt; assumption) | (apply runT_ok; assumption) | (apply runT_halt; assumption) | (apply runT1_ok; assumption) | (apply runT1_halt; assumption) | (apply listen_ok; assumption) | (apply listen_halt; assumption) | (apply listen1_ok; assumption) | (apply listen1_halt; assumption))) | exact Up.mono (die_up _ _ _ _) (by (first | exact Nat.le_refl _ | (apply run_ok; assumption) | (apply run_halt; assumption) | (apply runT_ok; assumption) | (apply runT_halt; assumption) | (apply runT1_ok; assumption) | (apply runT1_halt; assumption) | (apply listen_ok; assumption) | (apply listen_halt; assumption) | (apply listen1_ok; assumption) | (apply listen1_halt; assumption)))))
    | (split <;> (first | exact trivial | (show _ ≤ _; (first | exact Nat.le_refl _ | (apply run_ok; assumption) | (apply run_halt; assumption) | (apply runT_ok; assumption) | (apply runT_halt; assumption) | (apply runT1_ok; assumption) | (apply runT1_halt; assumption) | (apply listen_ok; assumption) | (apply listen_halt; assumption) | (apply listen1_ok; assumption) | (apply listen1_halt; assumption))) | exact Up.mono (endPrinting_up _ _ _ _) (by (first | exact Nat.le_refl _ | (apply run_ok; assumption) | (apply run_halt; assumption) | (apply runT_ok; assumption) | (apply runT_halt; assumption) | (apply runT1_ok; assumption) | (apply runT1_halt; assumption) | (apply listen_ok; assumption) | (apply listen_halt; assumption) | (apply listen1_ok; assumption) | (apply listen1_halt; assumption))) | exact Up.mono (endFatal_up _ _ _ _ _ _) (by (first | exact Nat.le_refl _ | (apply run_ok; assumption) | (apply run_halt; assumption) | (apply runT_ok; assumption) | (apply runT_halt; assumption) | (apply runT1_ok; assumption) | (apply runT1_halt; assumption) | (apply listen_ok; assumption) | (apply listen_halt; assumption) | (apply listen1_ok; assumption) | (apply listen1_halt; assumption))) | exact Up.mono (endThrow_up _ _ _) (by (first | exact Nat.le_refl _ | (apply run_ok; assumption) | (apply run_halt; assumption) | (apply runT_ok; assumption) | (apply runT_halt; assumption) | (apply runT1_ok; assumption) | (apply runT1_halt; assumption) | (apply listen_ok; assumption) | (apply listen_halt; assumption) | (apply listen1_ok; assumption) | (apply listen1_halt; assumption))) | exact Up.mono (doReturn_up _ _ _ _ _ _ _) (by (first | exact Nat.le_refl _ | (apply run_ok; assumption) | (apply run_halt; assumption) | (apply runT_ok; assumption) | (apply runT_halt; assumption) | (apply runT1_ok; assumption) | (apply runT1_halt; assumption) | (apply listen_ok; assumption) | (apply listen_halt; assumption) | (apply listen1_ok; assumption) | (apply listen1_halt; assumption))) | exact Up.mono (die_up _ _ _ _) (by (first | exact Nat.le_refl _ | (apply run_ok; assumption) | (apply run_halt; assumption) | (apply runT_ok; assumption) | (apply runT_halt; assumption) | (apply runT1_ok; assumption) | (apply runT1_halt; assumption) | (apply listen_ok; assumption) | (apply listen_halt; assumption) | (apply listen1_ok; assumption) | (apply listen1_halt; assumption)))))
    | (apply up_ite; (first | exact trivial | (show _ ≤ _; (first | exact Nat.le_refl _ | (apply run_ok; assumption) | (apply run_halt; assumption) | (apply runT_ok; assumption) | (apply runT_halt; assumption) | (apply runT1_ok; assumption) | (apply runT1_halt; assumption) | (apply listen_ok; assumption) | (apply listen_halt; assumption) | (apply listen1_ok; assumption) | (apply listen1_halt; assumption))) | exact Up.mono (endPrinting_up _ _ _ _) (by (first | exact Nat.le_refl _ | (apply run_ok; assumption) | (apply run_halt; assumption) | (apply runT_ok; assumption) | (apply runT_halt; assumption) | (apply runT1_ok; assumption) | (apply runT1_halt; assumption) | (apply listen_ok; assumption) | (apply listen_halt; assumption) | (apply listen1_ok; assumption) | (apply listen1_halt; assumption))) | exact Up.mono (endFatal_up _ _ _ _ _ _) (by (first | exact Nat.le_refl _ | (apply run_ok; assumption) | (apply run_halt; assumption) | (apply runT_ok; assumption) | (apply runT_halt; assumption) | (apply runT1_ok; assumption) | (apply runT1_halt; assumption) | (apply listen_ok; assumption) | (apply listen_halt; assumption) | (apply listen1_ok; assumption) | (apply listen1_halt; assumption))) | exact Up.mono (endThrow_up _ _ _) (by (first | exact Nat.le_refl _ | (apply run_ok; assumption) | (apply run_halt; assumption) | (apply runT_ok; assumption) | (apply runT_halt; assumption) | (apply runT1_ok; assumption) | (apply runT1_halt; assumption) | (apply listen_ok; assumption) | (apply listen_halt; assumption) | (apply listen1_ok; assumption) | (apply listen1_halt; assumption))) | exact Up.mono (doReturn_up _ _ _ _ _ _ _) (by (first | exact Nat.le_refl _ | (apply run_ok; assumption) | (apply run_halt; assumption) | (apply runT_ok; assumption) | (apply runT_halt; assumption) | (apply runT1_ok; assumption) | (apply runT1_halt; assumption) | (apply listen_ok; assumption) | (apply listen_halt; assumption) | (apply listen1_ok; assumption) | (apply listen1_halt; assumption))) | exact Up.mono (die_up _ _ _ _) (by (first | exact Nat.le_refl _ | (apply run_ok; assumption) | (apply run_halt; assumption) | (apply runT_ok; assumption) | (apply runT_halt; assumption) | (apply runT1_ok; assumption) | (apply runT1_halt; assumption) | (apply listen_ok; assumption) | (apply listen_halt; assumption) | (apply listen1_ok; assumption) | (apply listen1_halt; assumption)))); split <;> (first | exact trivial | (show _ ≤ _; (first | exact Nat.le_refl _ | (apply run_ok; assumption) | (apply run_halt; assumption) | (apply runT_ok; assumption) | (apply runT_halt; assumption) | (apply runT1_ok; assumption) | (apply runT1_halt; assumption) | (apply listen_ok; assumption) | (apply listen_halt; assumption) | (apply listen1_ok; assumption) | (apply listen1_halt; assumption))) | exact Up.mono (endPrinting_up _ _ _ _) (by (first | exact Nat.le_refl _ | (apply run_ok; assumption) | (apply run_halt; assumption) | (apply runT_ok; assumption) | (apply runT_halt; assumption) | (apply runT1_ok; assumption) | (apply runT1_halt; assumption) | (apply listen_ok; assumption) | (apply listen_halt; assumption) | (apply listen1_ok; assumption) | (apply listen1_halt; assumption))) | exact Up.mono (endFatal_up _ _ _ _ _ _) (by (first | exact Nat.le_refl _ | (apply run_ok; assumption) | (apply run_halt; assumption) | (apply runT_ok; assumption) | (apply runT_halt; assumption) | (apply runT1_ok; assumption) | (apply runT1_halt; assumption) | (apply listen_ok; assumption) | (apply listen_halt; assumption) | (apply listen1_ok; assumption) | (apply listen1_halt; assumption))) | exact Up.mono (endThrow_up _ _ _) (by (first | exact Nat.le_refl _ | (apply run_ok; assumption) | (apply run_halt; assumption) | (apply runT_ok; assumption) | (apply runT_halt; assumption) | (apply runT1_ok; assumption) | (apply runT1_halt; assumption) | (apply listen_ok; assumption) | (apply listen_halt; assumption) | (apply listen1_ok; assumption) | (apply listen1_halt; assumption))) | exact Up.mono (doReturn_up _ _ _ _ _ _ _) (by (first | exact Nat.le_refl _ | (apply run_ok; assumption) | (apply run_halt; assumption) | (apply runT_ok; assumption) | (apply runT_halt; assumption) | (apply runT1_ok; assumption) | (apply runT1_halt; assumption) | (apply listen_ok; assumption) | (apply listen_halt; assumption) | (apply listen1_ok; assumption) | (apply listen1_halt; assumption))) | exact Up.mono (die_up _ _ _ _) (by (first | exact Nat.le_refl _ | (apply run_ok; assumption) | (apply run_halt; assumption) | (apply runT_ok; assumption) | (apply runT_halt; assumption) | (apply runT1_ok; assumption) | (apply runT1_halt; assumption) | (apply listen_ok; assumption) | (apply listen_halt; assumption) | (apply listen1_ok; assumption) | (apply listen1_halt; assumption)))))


theorem stepG_up (p : Program) (b : Bool) (g : Goroutine) (w : World) (l : Bool) : Up w.drawn (stepG p b g w l) := by
  unfold stepG
  split
  split
  · exact die_up _ _ _ _
  · exact exec_up _ _ _ _ _ _ _
  · exact unwind_up _ _ _ _ _ _

/-- Where the machine has not ended, its world has drawn at least so often. -/
def UpS (d : Nat) : Stepped → Prop
  | .next m => d ≤ m.world.drawn
  | .ended .. => True

theorem UpS.mono {d d' : Nat} {s : Stepped} (h : UpS d s) (k : d' ≤ d) : UpS d' s := by
  cases s
  · exact Nat.le_trans k h
  · exact trivial

theorem upS_ite {d : Nat} {c : Prop} [Decidable c] {a b : Stepped} (h : UpS d a) (k : UpS d b) : UpS d (if c then a else b) := by split <;> assumption
theorem upS_ite1 {d : Nat} {c : Prop} [Decidable c] {a b : Stepped × Array MemOp} (h : UpS d a.1) (k : UpS d b.1) : UpS d (if c then a else b).1 := by split <;> assumption

theorem waitingAt_drawn {rest : Rest} {cs : Array CommCase} {w w' : World} (h : waitingAt rest cs w = some w') : w'.drawn = w.drawn := by
  unfold waitingAt at h
  split at h
  · split at h
    · injection h with h; rw [← h]
    · cases h
  · injection h with h; rw [h]

theorem communicate_up (p : Program) (rest : Rest) (gs : Array Goroutine) (i : Nat) (g : Goroutine) (cases : Array CommCase) (blocking : Bool) (shape : CommShape) (w : World) :
    UpS w.drawn (communicate p rest gs i g cases blocking shape w).1 := by
  unfold communicate
  dsimp only
  refine upS_ite1 trivial ?_
  refine upS_ite1 ?_ ?_
  · refine upS_ite1 ?_ ?_
    · split
      · rename_i e; show _ ≤ _; rw [waitingAt_drawn e]; exact Nat.le_refl _
      · exact trivial
    · exact Nat.le_refl _
  · split
    · exact trivial
    · rename_i e
      have hd := run_ok e
      split
      · split
        · rename_i e2; exact Nat.le_trans hd (run_halt e2)
        · exact trivial
      · exact hd
      · exact hd
      · split
        · exact hd
        · split
          · rename_i e2; have h2 := run_ok e2; exact Nat.le_trans hd h2
          · exact trivial
      · exact hd
      · exact hd
      · exact trivial

theorem serve_up (p : Program) (m : Machine) (k : Nat) : UpS m.world.drawn (serve p m k) := by
  unfold serve
  split
  · exact trivial
  · exact Nat.le_refl _
  · dsimp only
    split
    · exact trivial
    · exact Nat.le_refl _

theorem timerOp_drawn {m m' : Machine} {op : TimerOp} {v : Value} (h : timerOp m op = .ok (v, m')) : m'.world.drawn = m.world.drawn := by
  have rt : ∀ (m1 : Machine) (k : Nat) (t : Timer) (a b : Nat), (retime m1 k t a b).2.world.drawn = m1.world.drawn := by
    intro m1 k t a b
    unfold retime
    dsimp only
    split
    · unfold drain; split <;> rfl
    · rfl
  cases op with
  | new t =>
    simp only [timerOp] at h
    split at h
    · injection h with h; injection h with h1 h2; rw [← h2]; rfl
    · split at h
      · split at h
        · cases h
        · injection h with h; injection h with h1 h2; rw [← h2]
      · cases h
  | stop var =>
    simp only [timerOp, timerOp.named] at h
    split at h
    · injection h with h; have := congrArg (·.2.world.drawn) h; rw [← this]; exact rt _ _ _ _ _
    · cases h
  | reset var a b =>
    simp only [timerOp, timerOp.named, timerOp.opened] at h
    split at h
    · rename_i m1 e
      have hm : m1.world.drawn = m.world.drawn := by
        split at e
        · split at e
          · injection e with e; rw [← e]
          · cases e
        · injection e with e; rw [e]
      split at h
      · injection h with h; have := congrArg (·.2.world.drawn) h; rw [← this, ← hm]; exact rt _ _ _ _ _
      · cases h
    · cases h
  | deadline a b c d =>
    simp only [timerOp] at h
    injection h with h; injection h with h1 h2; rw [← h2]; rfl

theorem look_up (p : Program) (gs : Array Goroutine) (rest : Rest) (w : World) : UpS w.drawn (look p gs rest w) := by
  unfold look
  split
  · dsimp only
    refine upS_ite trivial ?_
    split
    · exact trivial
    · split
      · rename_i e; have h2 := run_ok e; exact h2
      · exact trivial
      · exact trivial
  · exact trivial


theorem endThrow_go {fr : Frame} {m : String} {w w' : World} {g : Goroutine} {es : Array Event} (h : endThrow fr m w = .go g w' es) : w'.drawn = w.drawn := by
  unfold endThrow dieOf at h; injection h with h1 h2; rw [h2]

theorem runT_up (p : Program) (m : Machine) (i : Nat) (l : Bool) : UpS m.world.drawn (runT p m i l).1 := by
  unfold runT
  dsimp only
  have hs := fun g => stepG_up p (i == 0) g m.world l
  generalize hg : (m.gs.swapAt! i _) = sw
  obtain ⟨g, gs⟩ := sw
  dsimp only
  have hg := hs g
  split <;> rename_i e <;> rw [e] at hg
  · exact trivial
  · exact UpS.mono (communicate_up _ _ _ _ _ _ _ _ _) hg
  · exact hg
  · exact hg
  · exact upS_ite (d := m.world.drawn) trivial hg
  · exact hg
  · exact UpS.mono (look_up _ _ _ _) hg
  · exact hg
  · exact hg
  · split
    · exact hg
    · split
      · rename_i e2; show _ ≤ _; rw [endThrow_go e2]; exact hg
      · exact trivial
    · exact trivial
  · split
    · rename_i e2; show _ ≤ _; have := timerOp_drawn e2; show _ ≤ World.drawn _; rw [this]; exact hg
    · split
      · rename_i e2; show _ ≤ _; rw [endThrow_go e2]; exact hg
      · exact trivial
    · exact trivial
    · exact trivial

/-- What moves next. -/
def UpM (d : Nat) : Move → Prop
  | .goroutine m _ => d ≤ m.world.drawn
  | .machine s _ => UpS d s

theorem UpM.mono {d d' : Nat} {s : Move} (h : UpM d s) (k : d' ≤ d) : UpM d' s := by
  cases s
  · exact Nat.le_trans k h
  · exact UpS.mono h k

theorem upM_ite {d : Nat} {c : Prop} [Decidable c] {a b : Move} (h : UpM d a) (k : UpM d b) : UpM d (if c then a else b) := by split <;> assumption

theorem askOn_up (p : Program) (m : Machine) : UpM m.world.drawn (askOn p m) := by
  have pk : ∀ (m1 : Machine) (rs : List Nat), m.world.drawn ≤ m1.world.drawn → UpM m.world.drawn (match (choose (.sched rs.length)).run p m1.world with
      | .halt _ w => .machine (.ended (.stuck "sched" "") w)
      | .ok k world =>
        if rs.length ≤ 1 then .goroutine { m1 with world } (rs.getD k 0) else        
        match (choose (.extern "sched.slice" 65536)).run p world with
        | .halt _ w => .machine (.ended (.stuck "sched.slice" "") w)
        | .ok n world => .goroutine { m1 with world, rest := { m1.rest with slice := if n = 0 then none else some (rs.getD k 0, n) } } (rs.getD k 0)) := by
    intro m1 rs h
    split
    · exact trivial
    · rename_i e
      have h1 := Nat.le_trans h (run_ok e)
      refine upM_ite h1 ?_
      split
      · exact trivial
      · rename_i e2; exact Nat.le_trans h1 (run_ok e2)
  unfold askOn
  dsimp only
  split
  · exact trivial
  · rename_i e
    have h1 := run_ok e
    refine upM_ite ?_ ?_
    · exact UpS.mono (serve_up _ _ _) h1
    · split
      · split
        · exact h1
        · refine upM_ite h1 ?_
          split
          · exact trivial
          · exact trivial
      · split
        · exact pk { m with world := _ } _ h1
        · split
          · exact trivial
          · rename_i e2; exact pk { m with world := _ } _ (Nat.le_trans h1 (run_ok e2))
          · rename_i e2; have h2 := run_ok e2; exact Nat.le_trans h1 h2
          · rename_i e2; have h2 := run_ok e2; exact pk _ _ (Nat.le_trans h1 h2)

theorem ask_up (p : Program) (m : Machine) : UpM m.world.drawn (ask p m) := by
  unfold ask
  refine upM_ite ?_ (askOn_up _ _)
  split
  · exact trivial
  · rename_i w1 e
    have h1 := run_ok e
    have h2 := look_up p m.gs m.rest w1
    split
    · rename_i m2 e2
      exact UpM.mono (askOn_up _ _) (by rw [e2] at h2; exact Nat.le_trans h1 h2)
    · exact UpS.mono h2 h1
  · rename_i e; exact UpM.mono (askOn_up _ _) (run_ok e)

theorem move_up (p : Program) (m : Machine) : UpM m.world.drawn (move p m) := by
  unfold move
  split
  · exact upM_ite (Nat.le_refl _) trivial
  · split
    · exact upM_ite (Nat.le_refl _) (ask_up _ _)
    · exact ask_up _ _

theorem step_up (p : Program) (m : Machine) : UpS m.world.drawn (step p m) := by
  unfold step stepT
  have h := move_up p m
  split
  · rename_i e; rw [e] at h; exact UpS.mono (runT_up _ _ _ _) h
  · rename_i e; rw [e] at h; exact h

theorem runN_up (p : Program) : ∀ (n : Nat) (m : Machine), UpS m.world.drawn (runN p n m)
  | 0, m => Nat.le_refl _
  | n + 1, m => by
    unfold runN
    have h := step_up p m
    split
    · rename_i e; rw [e] at h; exact UpS.mono (runN_up p n _) h
    · exact UpS.mono h (Nat.le_refl _)

theorem steps_drawn {p : Program} {m m' : Machine} (h : Steps p m m') : m.world.drawn ≤ m'.world.drawn := by
  obtain ⟨n, e⟩ := h
  have := runN_up p n m
  rw [e] at this
  exact this

end Go.Proofs.YtfemhhjmfckicaaGreatDoor.Drw
namespace Go.Proofs.YtfemhhjmfckicaaGreatDoor
open Go Go.RowKit Drw
/-- **A call never lowers the count of draws.** -/
theorem calls_drawn {P : Program} {f : FuncId} {args : Array Value} {w : World} {R : Ending → World → Prop} (h : Calls P f args w R) :
    Calls P f args w fun e w' => R e w' ∧ (e ≠ .outgrown → w.drawn ≤ w'.drawn) := by
  intro cs
  obtain ⟨e, w', fr, hR, hC, hf, hl⟩ := h cs
  refine ⟨e, w', fr, ⟨hR, fun he => ?_⟩, hC, hf, hl⟩
  cases e with
  | returned v => exact steps_drawn hC
  | panicked c => exact steps_drawn hC
  | outgrown => exact absurd rfl he


/-- A later world in which nothing has turned is the old one, drawn on and grown. -/
theorem gr_grow {w w' : World} (h : Go.RowKit.Below w.heap.size w w') (hd : w.drawn ≤ w'.drawn) : ∃ q os, w' = Go.Sort.grow (w.drewN q) os := by
  refine ⟨w'.drawn - w.drawn, w'.heap.extract w.heap.size w'.heap.size, ?_⟩
  obtain ⟨ho, ht, hp, hs, hb⟩ := h
  obtain ⟨heap, tape, drawn, os, output⟩ := w
  obtain ⟨heap', tape', drawn', os', output'⟩ := w'
  simp only at ho ht hp hs hb hd
  subst ho ht hp
  simp only [Go.Sort.grow, World.drewN]
  have e : drawn + (drawn' - drawn) = drawn' := by omega
  rw [e]
  congr 1
  apply Array.ext'
  apply List.ext_getElem?
  intro i
  by_cases hi : i < heap.size
  · have := hb i hi
    simp only [Array.toList_append, List.getElem?_append, Array.length_toList, hi, if_true, Array.getElem?_toList]
    exact this
  · simp only [Array.toList_append, List.getElem?_append, Array.length_toList, hi, if_false, Array.getElem?_toList, Array.getElem?_extract]
    by_cases h2 : i - heap.size < heap'.size - heap.size
    · simp [h2]; congr 1; omega
    · simp [h2]; omega

/-- What a contract of ours says of a call, as the sort asks it. -/
theorem calls_grow {P : Program} {f : FuncId} {args : Array Value} {w : World} {v : Value} (h : Calls P f args w fun e w' => e = .returned v ∧ Go.RowKit.Below w.heap.size w w') :
    Calls P f args w fun e w' => e = .returned v ∧ ∃ q os, w' = Go.Sort.grow (w.drewN q) os :=
  (calls_drawn h).mono fun e w' ⟨⟨he, hb⟩, hd⟩ => ⟨he, gr_grow hb (hd (by rw [he]; intro c; cases c))⟩

end Go.Proofs.YtfemhhjmfckicaaGreatDoor
