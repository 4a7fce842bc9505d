/- The program's table of terms: atoms, and any act. No condition. -/
import Derived.Test.YthlnoaalhojphaaDoorObTermF
namespace Go.Proofs.YthlnoaalhojphaaDoor
open Go.RowKit Go.Maps
set_option linter.unusedVariables false

def atomT (T : List Nd) : List Nd × Nat := (T ++ [⟨1, 0, 0, ByteArray.empty, atomsOf T⟩], T.length + 1)
theorem atoms_le (T : List Nd) : atomsOf T ≤ T.length := List.length_filter_le _ _
theorem atom_fin {w0 w w1 w3 : World} {g bm : Nat} {T : List Nd} {vl vs vl' vs' : Value} (h : TbF w0 w g T vl vs bm) (hw1 : w1 = w.setCell ⟨g, 3, none⟩ (.int .i64 ((atomsOf T + 1 : Nat) : Int)))
    (h3 : TbX w0 w3 g (T.map Nd.cell ++ [.iface 95 (.agg #[.int .i64 (atomsOf T : Int)])]) (sizesL T ++ [sizeOf' (sizesL T) []]) (atomsOf T + 1) vl' vs' bm) (c3 : TChg w1 w3 g vl vs vl' vs') :
    TbF w0 w3 g (atomT T).1 vl' vs' bm ∧ TChM w w3 g bm vl vs vl' vs' := by
  have hot : ∀ b, b ≠ g → w1.heap[b]? = w.heap[b]? := fun b hb => by rw [hw1]; exact Below.heap_setCell _ _ _ b hb
  have hsz : w.heap.size ≤ w1.heap.size := by
    have := (Below.refl 0 w).setCell (p := ⟨g, 3, none⟩) (Nat.zero_le _) (.int .i64 ((atomsOf T + 1 : Nat) : Int))
    rw [hw1]; exact this.size
  have hmg := h.m.ne_blk h.x.blk
  have m1 : mT w1 bm T := h.m.keep (hot bm hmg)
  have m3 : mT w3 bm T := m1.keep (c3.keep bm m1.lt hmg (h.m.ne_own h.x.l) (h.m.ne_own h.x.s))
  have m3' : mT w3 bm (atomT T).1 := by
    obtain ⟨es, clock, hb, hf, hz, hd⟩ := m3
    have e : keysTo (atomT T).1 (atomT T).1.length = keysTo T T.length := by
      unfold atomT
      simp only [List.length_append, List.length_cons, List.length_nil, Nat.zero_add]
      conv => lhs; unfold keysTo
      rw [List.getElem?_append_right (Nat.le_refl _), Nat.sub_self]
      simp only [List.getElem?_cons_zero, if_true]
      exact keysTo_low T _ T.length (Nat.le_refl _)
    exact ⟨es, clock, hb, hf, by unfold atomT; rw [List.length_append]; omega, by rw [e]; exact hd⟩
  refine ⟨⟨?_, m3'⟩, ⟨Nat.le_trans hsz c3.size, fun b h1 h2 _ h4 h5 => (c3.keep b (Nat.lt_of_lt_of_le h1 hsz) h2 h4 h5).trans (hot b h2), fun b hb => (c3.ol b hb).imp id (Nat.le_trans hsz), fun b hb => (c3.os b hb).imp id (Nat.le_trans hsz)⟩⟩
  unfold atomT
  simp only
  rw [List.map_append, sizesL_snoc]
  have ea : atomsOf (T ++ [⟨1, 0, 0, ByteArray.empty, atomsOf T⟩]) = atomsOf T + 1 := by
    show (List.filter _ (T ++ [_])).length = _
    rw [List.filter_append]
    simp [atomsOf]
  rw [ea]
  exact h3
theorem atom_any (w0 : World) (g : Nat) (T : List Nd) (vl vs : Value) (bm : Nat) (w : World) (h : TbF w0 w g T vl vs bm) (hn : T.length ≤ 1000) :
    Calls Tryd.prog 18 #[.pointer (some ⟨g, 0, none⟩)] w (RetT w0 w g bm vl vs (atomT T)) := by
  have c3 : w.cell? ⟨g, 3, none⟩ = some (.int .i64 (atomsOf T : Int)) := (h.x.blk.cell 3).trans rfl
  have y3 := h.x.blk.free 3
  have ha := atoms_le T
  obtain ⟨W, hW⟩ : ∃ W, W = w.setCell ⟨g, 3, none⟩ (.int .i64 ((atomsOf T + 1 : Nat) : Int)) := ⟨_, rfl⟩
  have hot : ∀ b, b ≠ g → W.heap[b]? = w.heap[b]? := fun b hb => by rw [hW]; exact Below.heap_setCell _ _ _ b hb
  have hbl : Below w0.heap.size w0 W := by rw [hW]; exact h.x.l.below.setCell (p := ⟨g, 3, none⟩) h.x.ge _
  have hx : TbX w0 W g (T.map Nd.cell) (sizesL T) (atomsOf T + 1) vl vs bm :=
    ⟨by rw [hW]; exact h.x.blk.set 3 _, h.x.l.keepN hbl (fun b hb => hot b (fun e => own_blk h.x.l h.x.blk (by decide) (by rw [hb, e]))), h.x.s.keepN hbl (fun b hb => hot b (fun e => own_blk h.x.s h.x.blk (by decide) (by rw [hb, e]))), h.x.ge, h.x.gm⟩
  have HP := Lib.hid (put_any w0 g _ _ _ vl vs bm 95 (.agg #[.int .i64 (atomsOf T : Int)]) none 0 0 [] W hx (by rw [sizesL_len, List.length_map]) (sizesL_small T) (Sl.nil _ _) (fun p hp => by cases hp) (by rw [List.length_map]; omega))
  have H := Lib.hid h; have HW := Lib.hid hW
  have k3 : W.cell? ⟨g, 3, none⟩ = some (.int .i64 ((atomsOf T : Int) + 1)) := (hx.blk.cell 3).trans (by simp)
  have K3 := Lib.hid k3
  have hw1 : IntKind.i64.wrap ((atomsOf T : Int) + 1) = (atomsOf T : Int) + 1 := IntWalk.i64_in _ (by omega)
  have hl : (T.map Nd.cell).length = T.length := List.length_map ..
  rw [hl] at HP
  have HWE := Lib.hid (show w.setCell ⟨g, 3, none⟩ (.int .i64 ((atomsOf T : Int) + 1)) = W by rw [HW.out]; simp)
  have hw2 : wrap64 (atomsOf T : Int) = (atomsOf T : Int) := IntWalk.wrap64_in _ ⟨by omega, by omega⟩
  clear h hW hot hbl hx k3 hl ha
  have FIN := Lib.hid (fun w3 vl' vs' => atom_fin (w0 := w0) (w3 := w3) (vl' := vl') (vs' := vs') H.out HW.out)
  obtain ⟨a, hae⟩ : ∃ a, a = atomsOf T := ⟨_, rfl⟩
  rw [← hae] at c3 hw1 HP K3 HW FIN HWE hw2
  have HAE := Lib.hid hae; clear hae
  go_enter Tryd.func18, Tryd.ntmps18
  go_upto_region 4 with fail
  rw [HWE.out]
  clear HWE HW
  have k3 := K3.out
  clear K3 hw1 c3 y3
  go_wp2_with fail
  rw [hw2]
  refine HP.out.mono ?_
  rintro e w3 ⟨rfl, vl', vs', tb, ch⟩
  have TB := Lib.hid tb; have CH := Lib.hid ch; clear tb ch
  go_wp2_with fail
  go_ret
  obtain ⟨t, c⟩ := FIN.out w3 vl' vs' TB.out CH.out
  exact ⟨vl', vs', rfl, t, c⟩
end Go.Proofs.YthlnoaalhojphaaDoor
