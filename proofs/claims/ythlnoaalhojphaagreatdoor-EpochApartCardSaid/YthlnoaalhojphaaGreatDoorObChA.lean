import Derived.Test.YthlnoaalhojphaaGreatDoorObImageW
import Derived.Test.YthlnoaalhojphaaGreatDoorObPushG
import Derived.Test.YthlnoaalhojphaaGreatDoorObSmall
namespace Go.Proofs.YthlnoaalhojphaaGreatDoor
open Go.RowKit
set_option linter.unusedVariables false

/-! ### chains: what was skipped, copied; where a gen is -/
def Wr.kk (x : Wr) : Int × List UInt8 := (x.p, x.r.l)
theorem Wr.ones (x : Wr) : ∀ u ∈ x.cells, u.oneCell' = true := by intro u hu; simp [Wr.cells, BRow.v] at hu; rcases hu with rfl | rfl <;> rfl
theorem tSk : ElemT Tryz.prog 48 102 (.agg #[.int .i64 0, .slice none 0 0]) 2 32 := ⟨Tryz.underlying48, by kernel_rfl, rfl, by decide, by decide⟩
theorem tSr : ElemT Tryz.prog 74 101 (.agg #[.int .i64 0, .slice none 0 0]) 2 32 := ⟨Tryz.underlying74, by kernel_rfl, rfl, by decide, by decide⟩
/-- Skipped keys in a row of the call's own, each one's bytes elsewhere. -/
def OwnK (t : TypeId) (w0 w : World) (v : Value) (M : List Wr) : Prop := Own w0 w t 2 v M.length (M.flatMap Wr.cells) ∧ ∀ x ∈ M, (Bs w x.r.a x.r.n x.r.c x.r.l ∧ Apart v x.r) ∧ -9223372036854775808 ≤ x.p ∧ x.p ≤ 9223372036854775807
def FreshK (w0 : World) (r : BRow) : Prop := ∀ b o, 0 < r.n → r.a = some ⟨b, o, none⟩ → w0.heap.size ≤ b
def RetOwnK (w : World) (L : List Wr) (e : Ending) (w' : World) : Prop := ∃ v M, e = .returned v ∧ OwnK 102 w w' v M ∧ (∀ x ∈ M, FreshK w x.r) ∧ M.map Wr.kk = L.map Wr.kk
theorem OwnK.wrs {t : TypeId} {w0 w : World} {v : Value} {M : List Wr} (h : OwnK t w0 w v M) : ∃ A c, v = .slice A M.length c ∧ Wrs w A M.length c M := by
  obtain ⟨A', c', rfl, hs⟩ := h.1.slice
  exact ⟨A', c', rfl, rfl, hs, fun x hx => ⟨(h.2 x hx).1.1, (h.2 x hx).2⟩⟩
theorem OwnK.mono {t : TypeId} {w0 w w' : World} {v : Value} {M : List Wr} (h : OwnK t w0 w v M) (hb : Below w.heap.size w w') : OwnK t w0 w' v M := ⟨h.1.mono hb, fun x hx => ⟨⟨(h.2 x hx).1.1.mono hb, (h.2 x hx).1.2⟩, (h.2 x hx).2⟩⟩
theorem OwnK.base {t : TypeId} {w0 w1 w : World} {v : Value} {M : List Wr} (h : OwnK t w1 w v M) (hb : Below w0.heap.size w0 w1) : OwnK t w0 w v M := ⟨h.1.base hb, h.2⟩
def firstK (g : Int) (L : List Wr) (r : Int) : Prop := (r = -1 ∧ L.all (fun x => !(x.p == g)) = true) ∨ ∃ k : Nat, r = k ∧ k < L.length ∧ (L.take k).all (fun x => !(x.p == g)) = true ∧ ∃ x, L[k]? = some x ∧ (x.p == g) = true
/-- The place of a gen; -1: none. -/
def idxK (g : Int) (L : List Wr) : Int := match L.findIdx? (fun x => x.p == g) with
  | some k => k
  | none => -1
theorem firstK_eq {g : Int} {L : List Wr} {r : Int} (h : firstK g L r) : r = idxK g L := by
  unfold idxK
  rcases h with ⟨rfl, ha⟩ | ⟨k, rfl, hk, ha, x, hx, he⟩
  · rw [List.findIdx?_eq_none_iff.2 (fun x hx => by have := List.all_eq_true.1 ha x hx; simpa using this)]
  · have e : L[k] = x := by rw [List.getElem?_eq_getElem hk] at hx; exact Option.some.inj hx
    have : L.findIdx? (fun x => x.p == g) = some k := by
      rw [List.findIdx?_eq_some_iff_getElem]
      refine ⟨hk, by rw [e]; exact he, fun j hj => ?_⟩
      have := List.all_eq_true.1 ha L[j] (List.mem_iff_getElem.2 ⟨j, by rw [List.length_take]; omega, by rw [List.getElem_take]⟩)
      simpa using this
    rw [this]
def hasK (p0 : Int) (L : List Wr) (g : Int) : Bool := decide (p0 ≤ g) || decide (0 ≤ idxK g L)
end Go.Proofs.YthlnoaalhojphaaGreatDoor
