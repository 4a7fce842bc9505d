/- The program's table and the reference's, made of the same acts. No condition. -/
import Derived.Test.YthlnoaalhojphaaDoorObTermO
namespace Go.Proofs.YthlnoaalhojphaaDoor
open Go.RowKit
set_option linter.unusedVariables false
def stepT (T : List Nd) (x : Ac) : List Nd := (doT T x.k x.a x.b x.s).1
def madeT (L : List Ac) : List Nd := L.foldl stepT []
theorem madeT_snoc (L : List Ac) (k : Nat) (x : Ac) (h : L[k]? = some x) : madeT (L.take (k + 1)) = stepT (madeT (L.take k)) x := by
  have hk : k < L.length := (List.getElem?_eq_some_iff.1 h).1
  rw [List.take_succ_eq_append_getElem hk]
  rw [List.getElem?_eq_getElem hk] at h
  injection h with h
  rw [h]
  unfold madeT
  rw [List.foldl_append]; rfl
structure TGood (T : List Nd) (n : Nat) : Prop where
  i : TIn T
  z : NZ T
  l : T.length ≤ n
theorem madeT_good (L : List Ac) (hL : ∀ x ∈ L, x.ok) : ∀ k, k ≤ 1000 → TGood (madeT (L.take k)) k
  | 0, _ => ⟨by simpa [madeT] using TIn.nil, by intro y hy; simp [madeT] at hy, by simp [madeT]⟩
  | k + 1, hk => by
    have ih := madeT_good L hL k (by omega)
    cases hx : L[k]? with
    | none =>
      have hl : L.length ≤ k := by simpa using hx
      have e : L.take (k + 1) = L.take k := by rw [List.take_of_length_le hl, List.take_of_length_le (by omega)]
      rw [e]
      exact ⟨ih.i, ih.z, Nat.le_succ_of_le ih.l⟩
    | some x =>
      rw [madeT_snoc L k x hx]
      have ho := hL x (List.mem_of_getElem? hx)
      have h1 := doT_in ih.i (Nat.le_trans ih.l (by omega)) x.k x.a x.b x.s ho.2.2.2
      exact ⟨h1.1, doT_nz ih.z _ _ _ _, Nat.le_trans h1.2.2 (by have := ih.l; omega)⟩
theorem madeT_all (L : List Ac) (hL : ∀ x ∈ L, x.ok) (hn : L.length ≤ 1000) : TGood (madeT L) L.length := by
  have := madeT_good L hL L.length hn
  rwa [List.take_length] at this
theorem TbF.below {w0 w : World} {g : Nat} {T : List Nd} {vl vs : Value} {bm : Nat} (h : TbF w0 w g T vl vs bm) : Below w0.heap.size w0 w := h.x.l.below
theorem TbF.turn {w0 w w' : World} {g : Nat} {T T' : List Nd} {vl vs vx vx' : Value} {bm : Nat} (h : TbF w0 w g T vl vs bm) (hr : RTo w0 w vx T') (t : Turn1 w w' vx vx') (hb : Below w0.heap.size w0 w') : TbF w0 w' g T vl vs bm := by
  have lt : ∀ {e : TypeId} {s n : Nat} {v : Value} {xs : List Value}, Own w0 w e s v n xs → ∀ b, v.ownBlock = some b → b < w.heap.size := fun ho b hv => by
    rcases ho.1.2 with ⟨h1, _⟩ | ⟨g', cap, cur, hv', _, hh, _⟩
    · rw [h1] at hv; cases hv
    · have e1 : g' = b := by rw [hv'] at hv; exact Option.some.inj hv
      rw [e1] at hh
      exact (Array.getElem?_eq_some_iff.1 hh).1
  have k1 : w'.heap[g]? = w.heap[g]? := t.keep g h.x.blk.lt (own_blk hr h.x.blk (by decide))
  have k2 : w'.heap[bm]? = w.heap[bm]? := t.keep bm h.m.lt (h.m.ne_own hr)
  have k3 : ∀ b, vl.ownBlock = some b → w'.heap[b]? = w.heap[b]? := fun b hv => t.keep b (lt h.x.l b hv) (own_other h.x.l hr (by decide) hv)
  have k4 : ∀ b, vs.ownBlock = some b → w'.heap[b]? = w.heap[b]? := fun b hv => t.keep b (lt h.x.s b hv) (own_other h.x.s hr (by decide) hv)
  exact ⟨⟨k1.trans h.x.blk, h.x.l.keepN hb k3, h.x.s.keepN hb k4, h.x.ge, h.x.gm⟩, h.m.keep k2⟩
theorem RTo.chg {w0 w w' : World} {g : Nat} {T T' : List Nd} {vl vs vl' vs' vx : Value} {bm : Nat} (hr : RTo w0 w vx T') (h : TbF w0 w g T vl vs bm) (c : TChM w w' g bm vl vs vl' vs') (hb : Below w0.heap.size w0 w') : RTo w0 w' vx T' := by
  refine Own.keepN hr hb fun b hv => ?_
  have hlt : b < w.heap.size := by
    rcases hr.1.2 with ⟨h1, _⟩ | ⟨g', cap, cur, hv', _, hh, _⟩
    · rw [h1] at hv; cases hv
    · have e1 : g' = b := by rw [hv'] at hv; exact Option.some.inj hv
      rw [e1] at hh
      exact (Array.getElem?_eq_some_iff.1 hh).1
  refine c.keep b hlt (fun e => ?_) (fun e => ?_) (own_other hr h.x.l (by decide) hv) (own_other hr h.x.s (by decide) hv)
  · subst e; exact own_blk hr h.x.blk (by decide) hv
  · subst e; exact h.m.ne_own hr hv
theorem kindOf_succ {T : List Nd} {i : Nat} {x : Nd} (hx : T[i]? = some x) : kindOf T ((i + 1 : Nat) : Int) = x.k ∧ partsOf T ((i + 1 : Nat) : Int) = x.parts := by
  have hi : i < T.length := (List.getElem?_eq_some_iff.1 hx).1
  have ho : outside T.length ((i + 1 : Nat) : Int) = false := by unfold outside; simp; omega
  unfold kindOf partsOf
  rw [ho]
  have : (((i + 1 : Nat) : Int)).toNat - 1 = i := by omega
  simp only [Bool.false_eq_true, if_false, this, hx]
  exact ⟨trivial, trivial⟩
end Go.Proofs.YthlnoaalhojphaaDoor
