/- ObEpG, ObEpW: one text. No condition. -/
import Derived.Test.YthlnoaalhojphaaGreatDoorObEpA
import Derived.Test.YthlnoaalhojphaaGreatDoorObEpD
import Derived.Test.YthlnoaalhojphaaGreatDoorObEpF
import Derived.Outline
/- Epochs of terms: what they are, in plain Lean. No condition. -/
namespace Go.Proofs.YthlnoaalhojphaaGreatDoor
open Go.RowKit
set_option linter.unusedVariables false
section
variable {σ : Type}
def chF (dv : σ → List UInt8 → List UInt8 → σ × List UInt8) (lab : Nat → List UInt8) (k : List UInt8) (s : σ) : Nat → σ × List (List UInt8)
  | 0 => (s, [])
  | n + 1 => let r := chF dv lab k s n; let d := dv r.1 k (lab n); (d.1, r.2 ++ [d.2])
def bornF (dv : σ → List UInt8 → List UInt8 → σ × List UInt8) (lab : Nat → List UInt8) (s : σ) (k : List UInt8) (snd : Nat) : σ × Brt :=
  let a := dv s k exS
  let b := dv a.1 k inS
  let c := chF dv lab k b.1 snd
  (c.1, ⟨a.2, b.2, c.2⟩)
def firstF (dv : σ → List UInt8 → List UInt8 → σ × List UInt8) (lab : Nat → List UInt8) (s : σ) (k : List UInt8) (snd : Nat) : σ × Brt := let a := dv s k joinS; bornF dv lab a.1 a.2 snd
def nextF (dv mx : σ → List UInt8 → List UInt8 → σ × List UInt8) (lab : Nat → List UInt8) (s : σ) (i k : List UInt8) (snd : Nat) : σ × Brt := let a := mx s i k; firstF dv lab a.1 a.2 snd
end
/-- Labels below ten. -/
def labC (k : Nat) : List UInt8 := [115, 101, 110, 100, 101, 114, 32, UInt8.ofNat (48 + k)]
theorem labC_eq (k : Nat) (h : k < 10) : senderS k = labC k := by unfold senderS labC; rw [dec_small k h]; rfl
section
variable {w0 : World} {p : Nat}
theorem chS_F (S : Sui w0 p) (k : List UInt8) (s : S.σ) : ∀ n, n ≤ 10 → chS S k s n = chF S.dv labC k s n
  | 0, _ => rfl
  | n + 1, h => by
    have ih := chS_F S k s n (by omega)
    show (let r := chS S k s n; let d := S.dv r.1 k (senderS n); (d.1, r.2 ++ [d.2])) = _
    rw [ih, labC_eq n (by omega)]
    rfl
theorem bornS_F (S : Sui w0 p) (s : S.σ) (k : List UInt8) (n : Nat) (h : n ≤ 10) : bornS S s k n = bornF S.dv labC s k n := by
  unfold bornS bornF
  simp only [chS_F S k _ n h]
theorem firstS_F (S : Sui w0 p) (s : S.σ) (k : List UInt8) (n : Nat) (h : n ≤ 10) : firstS S s k n = firstF S.dv labC s k n := by
  unfold firstS firstF
  exact bornS_F S _ _ n h
theorem nextS_F (S : Sui w0 p) (s : S.σ) (i k : List UInt8) (n : Nat) (h : n ≤ 10) : nextS S s i k n = nextF S.dv S.mx labC s i k n := by
  unfold nextS nextF
  exact firstS_F S _ _ n h
end
def dvT (T : List Nd) (k l : List UInt8) : List Nd × List UInt8 := ((derT T k ⟨l.toArray⟩).1, handleL (derT T k ⟨l.toArray⟩).2)
def mxT (T : List Nd) (a b : List UInt8) : List Nd × List UInt8 := ((mixT T a b).1, handleL (mixT T a b).2)
def T2 : List Nd := (atomT (atomT []).1).1
def alikeB (snd : Nat) : Bool :=
  let r := nextF dvT mxT labC T2 (handleL 1) (handleL 2) snd
  let q := nextF dvT mxT labC r.1 (handleL 1) (handleL 2) snd
  decide (q.2.ex = r.2.ex) && decide (q.2.ini = r.2.ini) && decide (q.2.ch = r.2.ch) && decide (r.2.ch.Nodup) && decide (r.2.ex ≠ r.2.ini)
set_option maxRecDepth 100000 in
theorem alike4 : (alikeB 1 && alikeB 2 && alikeB 3 && alikeB 4) = true := by decide +kernel
end Go.Proofs.YthlnoaalhojphaaGreatDoor
/- EpochAlike walked. No condition. -/
namespace Go.Proofs.YthlnoaalhojphaaGreatDoor
open Go.RowKit
set_option linter.unusedVariables false
theorem alike_of (n : Nat) (h1 : 1 ≤ n) (h4 : n ≤ 4) : alikeB n = true := by
  have h := alike4
  rw [Bool.and_eq_true, Bool.and_eq_true, Bool.and_eq_true] at h
  obtain ⟨⟨⟨a, b⟩, c⟩, d⟩ := h
  match n, h1, h4 with
  | 1, _, _ => exact a
  | 2, _, _ => exact b
  | 3, _, _ => exact c
  | 4, _, _ => exact d
/-- What two epochs of the same secrets have. -/
theorem alike_facts {w : World} {p g bm bs : Nat} (n : Nat) (h1 : 1 ≤ n) (h4 : n ≤ 4) (r q : List Nd × Brt) (hr : r = nextS (symSui w p g bm bs) T2 (handleL 1) (handleL 2) n) (hq : q = nextS (symSui w p g bm bs) r.1 (handleL 1) (handleL 2) n) :
    q.2.ex = r.2.ex ∧ q.2.ini = r.2.ini ∧ q.2.ch = r.2.ch ∧ r.2.ch.Nodup ∧ r.2.ex ≠ r.2.ini := by
  have e1 : r = nextF dvT mxT labC T2 (handleL 1) (handleL 2) n := hr.trans (nextS_F _ _ _ _ n (by omega))
  have e2 : q = nextF dvT mxT labC r.1 (handleL 1) (handleL 2) n := hq.trans (nextS_F _ _ _ _ n (by omega))
  have h := alike_of n h1 h4
  unfold alikeB at h
  simp only [← e1, ← e2, Bool.and_eq_true, decide_eq_true_eq] at h
  exact ⟨h.1.1.1.1, h.1.1.1.2, h.1.1.2, h.1.2, h.2⟩
theorem nextS_len {w0 : World} {p : Nat} (S : Sui w0 p) (s : S.σ) (i k : List UInt8) (n : Nat) : (nextS S s i k n).2.ch.length = n := chS_len S _ _ n
theorem Kp.bs {w0 w : World} {A : Option Addr} {n c : Nat} {l : List UInt8} (h : Kp w0 w (.slice A n c) l) (hb : Below w0.heap.size w0 w) : Bs w A n c l := by
  obtain ⟨A', c', e, hs, _⟩ := h.at hb
  injection e with e1 e2 e3
  subst e1 e2 e3
  exact hs
/-- A birth, to be read. -/
structure Bir (w : World) (g n : Nat) (Ae Ai Ac : Option Addr) (ce ci cc : Nat) (ex ini : List UInt8) (M : List BRow) : Prop where
  blk : Blk w g 30 [.slice Ae 32 ce, .slice Ai 32 ci, .slice Ac n cc]
  e : Bs w Ae 32 ce ex
  i : Bs w Ai 32 ci ini
  c : Chr w Ac n cc M
theorem Bir.gr {w w' : World} {g n : Nat} {Ae Ai Ac : Option Addr} {ce ci cc : Nat} {ex ini : List UInt8} {M : List BRow} (h : Bir w g n Ae Ai Ac ce ci cc ex ini M) (hg : Gr w w') : Bir w' g n Ae Ai Ac ce ci cc ex ini M := ⟨hg.blk h.blk, h.e.mono hg, h.i.mono hg, h.c.mono hg⟩
/-- A birth that a call answered, laid in a cell, behind more calls. -/
theorem bir_of {w0 w2 : World} {g n B : Nat} {Ae Ai : Option Addr} {vc : Value} {ce ci : Nat} {ex ini : List UInt8} {M : List BRow} (hb : Below w0.heap.size w0 w2) (hB : B ≤ w2.heap.size) (blk : Blk w2 g 30 [.slice Ae 32 ce, .slice Ai 32 ci, vc]) (ke : Kp w0 w2 (.slice Ae 32 ce) ex) (ki : Kp w0 w2 (.slice Ai 32 ci) ini) (ch : Chs w0 B w2 vc M) (hl : M.length = n) :
    ∃ Ac cc, vc = .slice Ac n cc ∧ Bir w2 g n Ae Ai Ac ce ci cc ex ini M := by
  obtain ⟨Ac, cc, rfl, hc⟩ := ch.chr hb hB
  rw [hl] at hc blk ⊢
  exact ⟨Ac, cc, rfl, blk, ke.bs hb, ki.bs hb, hc⟩
end Go.Proofs.YthlnoaalhojphaaGreatDoor
