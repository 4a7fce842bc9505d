/- Who knows terms: grow. No condition. -/
import Derived.Test.YthlnoaalhojphaaObKnowB
import Derived.Test.YthlnoaalhojphaaObPre
namespace Go.Proofs.Ythlnoaalhojphaa
open Go.RowKit
set_option linter.unusedVariables false
theorem range_take_snoc {α : Type} (f : Nat → α) (n k : Nat) (hk : k < n) : ((List.range n).map f).take (k + 1) = ((List.range n).map f).take k ++ [f k] := by
  rw [List.take_succ_eq_append_getElem (by simpa using hk)]
  simp
theorem kinds_snoc (T : List Nd) (k : Nat) (hk : k ≤ T.length) : (kindsA T).take (k + 1) = (kindsA T).take k ++ [(kindOf T (k : Int) : Int)] := range_take_snoc _ _ _ (by omega)
theorem parts_snoc (T : List Nd) (k : Nat) (hk : k ≤ T.length) : (partsA T).take (k + 1) = (partsA T).take k ++ [(partsOf T (k : Int)).map Int.ofNat] := range_take_snoc _ _ _ (by omega)
theorem kindsA_len (T : List Nd) : (kindsA T).length = T.length + 1 := by simp [kindsA]
theorem partsA_len (T : List Nd) : (partsA T).length = T.length + 1 := by simp [partsA]
/-- As far as id k. -/
structure GrowTo (w0 w : World) (gk g bk : Nat) (T : List Nd) (vk vp vi : Value) (k : Nat) (R : List IRow) : Prop where
  blk : Blk w gk 56 [.pointer (some ⟨g, 0, none⟩), .map (some bk), vk, vp, vi]
  kk : Own w0 w 3 1 vk k (((kindsA T).take k).map i64c)
  pp : GathI w0 w vp R
  rr : R.map IRow.l = (partsA T).take k
  ap : ∀ r ∈ R, IApart vk r
theorem GrowTo.gr {w0 w w' : World} {gk g bk : Nat} {T : List Nd} {vk vp vi : Value} {k : Nat} {R : List IRow} (h : GrowTo w0 w gk g bk T vk vp vi k R) (hg : Gr w w') : GrowTo w0 w' gk g bk T vk vp vi k R :=
  ⟨hg.blk h.blk, h.kk.mono hg, h.pp.mono hg, h.rr, h.ap⟩
/-- Behind the first append. -/
structure GrowMid (w0 w : World) (gk g bk : Nat) (T : List Nd) (vk vp vi : Value) (k : Nat) (R : List IRow) (vk' : Value) : Prop where
  blk : Blk w gk 56 [.pointer (some ⟨g, 0, none⟩), .map (some bk), vk, vp, vi]
  kk : Own w0 w 3 1 vk' (k + 1) (((kindsA T).take (k + 1)).map i64c)
  pp : GathI w0 w vp R
  ap : ∀ r ∈ R, IApart vk' r
theorem GrowTo.mid {w0 w w' : World} {gk g bk : Nat} {T : List Nd} {vk vp vi vk' : Value} {k : Nat} {R : List IRow} (h : GrowTo w0 w gk g bk T vk vp vi k R) (hk : Kept w w' vk vk') (ho : Own w0 w' 3 1 vk' (k + 1) (((kindsA T).take (k + 1)).map i64c)) : GrowMid w0 w' gk g bk T vk vp vi k R vk' := by
  have t := Tch.kept hk ho h.kk.2
  refine ⟨h.blk.tch t (h.kk.not_blk h.blk (by decide)), ho, h.pp.tch t (fun b hb => (h.kk.1.lt b hb).1) (fun b hb e => own_other h.pp.1 h.kk (by decide) hb e) (fun r hr h0 b o e hb => h.ap r hr b o h0 e hb), fun r hr b o h0 e => ?_⟩
  have hlt := Sl.lt (h.pp.2 r hr).1 (by decide) h0 e
  rcases hk.2.2 with q | q
  · rw [q]; exact h.ap r hr b o h0 e
  · rw [q]; intro hh; injection hh with hh; omega
theorem GrowMid.gr {w0 w w' : World} {gk g bk : Nat} {T : List Nd} {vk vp vi vk' : Value} {k : Nat} {R : List IRow} (h : GrowMid w0 w gk g bk T vk vp vi k R vk') (hg : Gr w w') : GrowMid w0 w' gk g bk T vk vp vi k R vk' :=
  ⟨hg.blk h.blk, h.kk.mono hg, h.pp.mono hg, h.ap⟩
/-- Behind both, and both stores. -/
theorem GrowMid.fin {w0 w w' w9 : World} {gk g bk : Nat} {T : List Nd} {vk vp vi vk' vp' : Value} {k : Nat} {R : List IRow} {r : IRow} (h : GrowMid w0 w gk g bk T vk vp vi k R vk') (hge : w0.heap.size ≤ gk) (hrr : R.map IRow.l = (partsA T).take k) (hr : Is w r.a r.n r.c r.l) (ha : IApart vp r) (hak : IApart vk' r)
    (hl : r.l = (partsOf T (k : Int)).map Int.ofNat) (hkT : k ≤ T.length) (ho : Own w0 w' 23 1 vp' (R.length + 1) (R.map IRow.v ++ [r.v])) (hk : Kept w w' vp vp') (h9 : w9 = (w'.setCell ⟨gk, 2, none⟩ vk').setCell ⟨gk, 3, none⟩ vp') (hsl : (∃ A n c, vk = .slice A n c) ∧ (∃ A n c, vp = .slice A n c) ∧ (∃ A n c, vi = .slice A n c) ∧ (∃ A n c, vk' = .slice A n c) ∧ ∃ A n c, vp' = .slice A n c) :
    GrowTo w0 w9 gk g bk T vk' vp' vi (k + 1) (R ++ [r]) := by
  have t := Tch.kept hk ho h.pp.1.2
  have b1 := h.blk.tch t (h.pp.1.not_blk h.blk (by decide))
  have k1 : Own w0 w' 3 1 vk' (k + 1) (((kindsA T).take (k + 1)).map i64c) := h.kk.tch t (fun b hb => (h.pp.1.1.lt b hb).1) (fun b hb e => own_other h.kk h.pp.1 (by decide) hb e)
  have p1 := h.pp.push hr ha ho hk
  have t9 : Tch (fun b => b = gk) w' w9 := by
    rw [h9]
    exact (Tch.set (S := fun b => b = gk) ⟨gk, 2, none⟩ vk' rfl).trans (Tch.set ⟨gk, 3, none⟩ vp' rfl)
  have b9 : Blk w9 gk 56 [.pointer (some ⟨g, 0, none⟩), .map (some bk), vk', vp', vi] := by
    rw [h9]
    exact (b1.set 2 vk').set 3 vp'
  obtain ⟨s1, s2, s3, s4, s5⟩ := hsl
  refine ⟨b9, k1.tch t9 (fun b hb => by omega) (fun b hb e => by subst e; exact k1.not_blk b1 (by decide) hb), p1.tch t9 (fun b hb => by omega) (fun b hb e => by subst e; exact p1.1.not_blk b1 (by decide) hb) (fun x hx h0 b o e q => (p1.2 x hx).1.off h0 e b1 (know_ints ⟨s1, s2, s3⟩) q), ?_, fun x hx => ?_⟩
  · rw [List.map_append, hrr, parts_snoc T k hkT, ← hl]; rfl
  · rcases List.mem_append.1 hx with hx | hx
    · exact h.ap x hx
    · rw [List.mem_singleton.1 hx]; exact hak
end Go.Proofs.Ythlnoaalhojphaa
