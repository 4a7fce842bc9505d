/- Own texts of this claim, one behind the other. No condition. -/
import Derived.Test.YtcfbbgbjlgonpaaGreatDoorObPkAI

/- ObTermF, ObTermG, ObTermH, ObTermI: one text. No condition. -/
/- The program's table of terms: a new one, atoms, texts, kdf, mix, enc. No condition. -/
namespace Go.Proofs.YtcfbbgbjlgonpaaGreatDoor
open Go.RowKit Go.Maps
set_option linter.unusedVariables false

theorem termNew_any (w : World) : Calls Tryz.prog 26 #[] w fun e w' => ∃ g bm, e = .returned (.pointer (some ⟨g, 0, none⟩)) ∧ TbF w w' g [] (.slice none 0 0) (.slice none 0 0) bm ∧ Gr w w' := by
  have hmm := @run_makeMap Tryz.prog
  go_enter Tryz.func26, Tryz.ntmps26
  go_wp2_with fail
  go_ret
  have hg : Gr w ((w.alloc (.map #[] 0)).alloc (.cells #[.slice none 0 0, .slice none 0 0, .map (some w.heap.size), .int .i64 0] 68)) := (Gr.alloc _ _).trans (Gr.alloc _ _)
  refine ⟨w.heap.size + 1, w.heap.size, rfl, ⟨⟨heap_alloc2_new w _ _, Own.nil' hg _ _, Own.nil' hg _ _, by omega, Nat.le_refl _⟩, ?_⟩, hg⟩
  have hm : mT (w.alloc (.map #[] 0)) w.heap.size [] := World.ownsMap_made _ _ _ _
  exact hm.keep ((Gr.alloc (w.alloc (.map #[] 0)) (.cells #[.slice none 0 0, .slice none 0 0, .map (some w.heap.size), .int .i64 0] 68)).block _ (by simp))
/-- An id that is none among the parts. -/
theorem found_out (w0 : World) (g : Nat) (T : List Nd) (vl vs : Value) (bm : Nat) (k0 a0 b0 : Int) (s : ByteArray) (xv : Value) (A : Option Addr) (m c : Nat) (ids : List Int) (w : World) (h : TbF w0 w g T vl vs bm) (hP : Is w A m c ids) (ho : ids.any (outside T.length) = true) :
    Calls Tryz.prog 83 #[.pointer (some ⟨g, 0, none⟩), .agg #[.int .i64 k0, .int .i64 a0, .int .i64 b0, .string s], xv, .slice A m c] w (RetT w0 w g bm vl vs (T, 0)) := by
  have hg := Gr.alloc w (.cells #[.int .i64 k0, .int .i64 a0, .int .i64 b0, .string s] 115)
  have HTH := Lib.hid (there_any g T.length A m c _ _ (h.rd.mono hg).len (hP.mono hg))
  have H := Lib.hid h; have HG := Lib.hid hg
  rw [ho] at HTH
  clear h hg hP ho
  go_enter Tryz.func83, Tryz.ntmps83
  go_wp2_with fail
  refine HTH.out.mono ?_
  rintro e w1 ⟨rfl, g1⟩
  have G1 := Lib.hid (HG.out.trans g1); clear g1
  go_wp2_with fail
  go_ret
  exact ⟨vl, vs, rfl, H.out.gr G1.out, TChM.gr G1.out⟩
theorem RetT.gr {w0 w w1 : World} {g bm : Nat} {vl vs : Value} {r : List Nd × Nat} {e : Ending} {w' : World} (hg : Gr w w1) (h : RetT w0 w1 g bm vl vs r e w') : RetT w0 w g bm vl vs r e w' := by
  obtain ⟨vl', vs', he, ht, hc⟩ := h
  exact ⟨vl', vs', he, ht, (TChM.gr hg).trans hc⟩
/-- What a table is to be. -/
structure TOk (T : List Nd) : Prop where
  fit : Fit' T
  uniq : Uniq T
  n : T.length ≤ 1000
theorem text_any (w0 : World) (g : Nat) (T : List Nd) (vl vs : Value) (bm : Nat) (s : ByteArray) (w : World) (h : TbF w0 w g T vl vs bm) (hT : TOk T) (hs : s.size ≤ maxLen) :
    Calls Tryz.prog 82 #[.pointer (some ⟨g, 0, none⟩), .string s] w (RetT w0 w g bm vl vs (putT T ⟨2, 0, 0, s, 0⟩ [])) := by
  have HF := Lib.hid (found_any w0 g T vl vs bm ⟨2, 0, 0, s, 0⟩ none 0 0 w h hT.fit hT.uniq ⟨by dsimp only; decide, by dsimp only; decide, by dsimp only; decide, hs⟩ ⟨by dsimp only; decide, by dsimp only; decide⟩ (Sl.nil _ _) hT.n)
  clear h hT hs
  go_enter Tryz.func82, Tryz.ntmps82
  go_wp2_with fail
  refine HF.out.mono ?_
  rintro e w1 ⟨vl', vs', rfl, h2, h3⟩
  have H2 := Lib.hid h2; have H3 := Lib.hid h3; clear h2 h3
  go_wp2_with fail
  go_ret
  exact ⟨vl', vs', rfl, H2.out, H3.out⟩
def kdfT (T : List Nd) (a : Int) (s : ByteArray) : List Nd × Nat := if outside T.length a then (T, 0) else putT T ⟨3, a.toNat, 0, s, 0⟩ [a]
def pairT (T : List Nd) (k : Nat) (a b : Int) : List Nd × Nat := if outside T.length a || outside T.length b then (T, 0) else putT T ⟨k, a.toNat, b.toNat, ByteArray.empty, 0⟩ [a, b]
theorem kdf_any (w0 : World) (g : Nat) (T : List Nd) (vl vs : Value) (bm : Nat) (a : Int) (s : ByteArray) (w : World) (h : TbF w0 w g T vl vs bm) (hT : TOk T) (hs : s.size ≤ maxLen) :
    Calls Tryz.prog 58 #[.pointer (some ⟨g, 0, none⟩), .int .i64 a, .string s] w (RetT w0 w g bm vl vs (kdfT T a s)) := by
  have hg := Gr.alloc w (.cells #[.int .i64 a] 3)
  unfold kdfT
  cases ho : outside T.length a with
  | true =>
    have HF := Lib.hid (found_out w0 g T vl vs bm 3 a 0 s (.iface 78 (.agg #[.int .i64 a, .string s])) (some ⟨w.heap.size, 0, none⟩) 1 1 [a] _ (h.gr hg) (is_one w a) (by simp [ho]))
    have HG := Lib.hid hg
    clear h hT hs ho hg
    go_enter Tryz.func58, Tryz.ntmps58
    go_wp2_with fail
    refine HF.out.mono ?_
    rintro e w1 ⟨vl', vs', rfl, h2, h3⟩
    have H2 := Lib.hid h2; have H3 := Lib.hid h3; clear h2 h3
    go_wp2_with fail
    go_ret
    exact ⟨vl', vs', rfl, H2.out, (TChM.gr HG.out).trans H3.out⟩
  | false =>
    have hin : 1 ≤ a ∧ a ≤ T.length := by unfold outside at ho; simp at ho; omega
    obtain ⟨n, rfl⟩ : ∃ n : Nat, a = n := ⟨a.toNat, by omega⟩
    have hn := hT.n
    have HF := Lib.hid (found_any w0 g T vl vs bm ⟨3, n, 0, s, 0⟩ (some ⟨w.heap.size, 0, none⟩) 1 1 _ (h.gr hg) hT.fit hT.uniq ⟨by dsimp only; decide, by show n ≤ _; omega, by dsimp only; decide, hs⟩ ⟨by dsimp only; decide, by dsimp only; decide⟩ (is_one w n) hT.n)
    have HG := Lib.hid hg
    clear h hT hs ho hg hin hn
    go_enter Tryz.func58, Tryz.ntmps58
    go_wp2_with fail
    refine HF.out.mono ?_
    rintro e w1 ⟨vl', vs', rfl, h2, h3⟩
    have H2 := Lib.hid h2; have H3 := Lib.hid h3; clear h2 h3
    go_wp2_with fail
    go_ret
    exact ⟨vl', vs', rfl, H2.out, (TChM.gr HG.out).trans H3.out⟩
theorem mix_any (w0 : World) (g : Nat) (T : List Nd) (vl vs : Value) (bm : Nat) (a b : Int) (w : World) (h : TbF w0 w g T vl vs bm) (hT : TOk T) :
    Calls Tryz.prog 60 #[.pointer (some ⟨g, 0, none⟩), .int .i64 a, .int .i64 b] w (RetT w0 w g bm vl vs (pairT T 4 a b)) := by
  have hg := Gr.alloc w (.cells #[.int .i64 a, .int .i64 b] 3)
  unfold pairT
  cases ho : outside T.length a || outside T.length b with
  | true =>
    have HF := Lib.hid (found_out w0 g T vl vs bm 4 a b ByteArray.empty (.iface 81 (.agg #[.int .i64 a, .int .i64 b])) (some ⟨w.heap.size, 0, none⟩) 2 2 [a, b] _ (h.gr hg) (is_two w a b) (by simpa using ho))
    have HG := Lib.hid hg
    clear h hT ho hg
    go_enter Tryz.func60, Tryz.ntmps60
    go_wp2_with fail
    refine HF.out.mono ?_
    rintro e w1 ⟨vl', vs', rfl, h2, h3⟩
    have H2 := Lib.hid h2; have H3 := Lib.hid h3; clear h2 h3
    go_wp2_with fail
    go_ret
    exact ⟨vl', vs', rfl, H2.out, (TChM.gr HG.out).trans H3.out⟩
  | false =>
    rw [Bool.or_eq_false_iff] at ho
    have hin : (1 ≤ a ∧ a ≤ T.length) ∧ (1 ≤ b ∧ b ≤ T.length) := by unfold outside at ho; simp at ho; omega
    obtain ⟨n, rfl⟩ : ∃ n : Nat, a = n := ⟨a.toNat, by omega⟩
    obtain ⟨m, rfl⟩ : ∃ m : Nat, b = m := ⟨b.toNat, by omega⟩
    have hn := hT.n
    have HF := Lib.hid (found_any w0 g T vl vs bm ⟨4, n, m, ByteArray.empty, 0⟩ (some ⟨w.heap.size, 0, none⟩) 2 2 _ (h.gr hg) hT.fit hT.uniq ⟨by dsimp only; decide, by show n ≤ _; omega, by show m ≤ _; omega, by dsimp only; decide⟩ ⟨by dsimp only; decide, by dsimp only; decide⟩ (is_two w n m) hT.n)
    have HG := Lib.hid hg
    clear h hT ho hg hin hn
    go_enter Tryz.func60, Tryz.ntmps60
    go_wp2_with fail
    refine HF.out.mono ?_
    rintro e w1 ⟨vl', vs', rfl, h2, h3⟩
    have H2 := Lib.hid h2; have H3 := Lib.hid h3; clear h2 h3
    go_wp2_with fail
    go_ret
    exact ⟨vl', vs', rfl, H2.out, (TChM.gr HG.out).trans H3.out⟩
theorem enc_any (w0 : World) (g : Nat) (T : List Nd) (vl vs : Value) (bm : Nat) (a b : Int) (w : World) (h : TbF w0 w g T vl vs bm) (hT : TOk T) :
    Calls Tryz.prog 48 #[.pointer (some ⟨g, 0, none⟩), .int .i64 a, .int .i64 b] w (RetT w0 w g bm vl vs (pairT T 5 a b)) := by
  have hg := Gr.alloc w (.cells #[.int .i64 a, .int .i64 b] 3)
  unfold pairT
  cases ho : outside T.length a || outside T.length b with
  | true =>
    have HF := Lib.hid (found_out w0 g T vl vs bm 5 a b ByteArray.empty (.iface 117 (.agg #[.int .i64 a, .int .i64 b])) (some ⟨w.heap.size, 0, none⟩) 2 2 [a, b] _ (h.gr hg) (is_two w a b) (by simpa using ho))
    have HG := Lib.hid hg
    clear h hT ho hg
    go_enter Tryz.func48, Tryz.ntmps48
    go_wp2_with fail
    refine HF.out.mono ?_
    rintro e w1 ⟨vl', vs', rfl, h2, h3⟩
    have H2 := Lib.hid h2; have H3 := Lib.hid h3; clear h2 h3
    go_wp2_with fail
    go_ret
    exact ⟨vl', vs', rfl, H2.out, (TChM.gr HG.out).trans H3.out⟩
  | false =>
    rw [Bool.or_eq_false_iff] at ho
    have hin : (1 ≤ a ∧ a ≤ T.length) ∧ (1 ≤ b ∧ b ≤ T.length) := by unfold outside at ho; simp at ho; omega
    obtain ⟨n, rfl⟩ : ∃ n : Nat, a = n := ⟨a.toNat, by omega⟩
    obtain ⟨m, rfl⟩ : ∃ m : Nat, b = m := ⟨b.toNat, by omega⟩
    have hn := hT.n
    have HF := Lib.hid (found_any w0 g T vl vs bm ⟨5, n, m, ByteArray.empty, 0⟩ (some ⟨w.heap.size, 0, none⟩) 2 2 _ (h.gr hg) hT.fit hT.uniq ⟨by dsimp only; decide, by show n ≤ _; omega, by show m ≤ _; omega, by dsimp only; decide⟩ ⟨by dsimp only; decide, by dsimp only; decide⟩ (is_two w n m) hT.n)
    have HG := Lib.hid hg
    clear h hT ho hg hin hn
    go_enter Tryz.func48, Tryz.ntmps48
    go_wp2_with fail
    refine HF.out.mono ?_
    rintro e w1 ⟨vl', vs', rfl, h2, h3⟩
    have H2 := Lib.hid h2; have H3 := Lib.hid h3; clear h2 h3
    go_wp2_with fail
    go_ret
    exact ⟨vl', vs', rfl, H2.out, (TChM.gr HG.out).trans H3.out⟩
end Go.Proofs.YtcfbbgbjlgonpaaGreatDoor
/- The program's table of terms: atoms, and any act. No condition. -/
namespace Go.Proofs.YtcfbbgbjlgonpaaGreatDoor
open Go.RowKit Go.Maps
set_option linter.unusedVariables false

def atomT (T : List Nd) : List Nd × Nat := (T ++ [⟨1, 0, 0, ByteArray.empty, atomsOf T⟩], T.length + 1)
theorem atoms_le (T : List Nd) : atomsOf T ≤ T.length := List.length_filter_le _ _
theorem atom_fin {w0 w w1 w3 : World} {g bm : Nat} {T : List Nd} {vl vs vl' vs' : Value} (h : TbF w0 w g T vl vs bm) (hw1 : w1 = w.setCell ⟨g, 3, none⟩ (.int .i64 ((atomsOf T + 1 : Nat) : Int)))
    (h3 : TbX w0 w3 g (T.map Nd.cell ++ [.iface 72 (.agg #[.int .i64 (atomsOf T : Int)])]) (sizesL T ++ [sizeOf' (sizesL T) []]) (atomsOf T + 1) vl' vs' bm) (c3 : TChg w1 w3 g vl vs vl' vs') :
    TbF w0 w3 g (atomT T).1 vl' vs' bm ∧ TChM w w3 g bm vl vs vl' vs' := by
  have hot : ∀ b, b ≠ g → w1.heap[b]? = w.heap[b]? := fun b hb => by rw [hw1]; exact Below.heap_setCell _ _ _ b hb
  have hsz : w.heap.size ≤ w1.heap.size := by
    have := (Below.refl 0 w).setCell (p := ⟨g, 3, none⟩) (Nat.zero_le _) (.int .i64 ((atomsOf T + 1 : Nat) : Int))
    rw [hw1]; exact this.size
  have hmg := h.m.ne_blk h.x.blk
  have m1 : mT w1 bm T := h.m.keep (hot bm hmg)
  have m3 : mT w3 bm T := m1.keep (c3.keep bm m1.lt hmg (h.m.ne_own h.x.l) (h.m.ne_own h.x.s))
  have m3' : mT w3 bm (atomT T).1 := by
    obtain ⟨es, clock, hb, hf, hz, hd⟩ := m3
    have e : keysTo (atomT T).1 (atomT T).1.length = keysTo T T.length := by
      unfold atomT
      simp only [List.length_append, List.length_cons, List.length_nil, Nat.zero_add]
      conv => lhs; unfold keysTo
      rw [List.getElem?_append_right (Nat.le_refl _), Nat.sub_self]
      simp only [List.getElem?_cons_zero, if_true]
      exact keysTo_low T _ T.length (Nat.le_refl _)
    exact ⟨es, clock, hb, hf, by unfold atomT; rw [List.length_append]; omega, by rw [e]; exact hd⟩
  refine ⟨⟨?_, m3'⟩, ⟨Nat.le_trans hsz c3.size, fun b h1 h2 _ h4 h5 => (c3.keep b (Nat.lt_of_lt_of_le h1 hsz) h2 h4 h5).trans (hot b h2), fun b hb => (c3.ol b hb).imp id (Nat.le_trans hsz), fun b hb => (c3.os b hb).imp id (Nat.le_trans hsz)⟩⟩
  unfold atomT
  simp only
  rw [List.map_append, sizesL_snoc]
  have ea : atomsOf (T ++ [⟨1, 0, 0, ByteArray.empty, atomsOf T⟩]) = atomsOf T + 1 := by
    show (List.filter _ (T ++ [_])).length = _
    rw [List.filter_append]
    simp [atomsOf]
  rw [ea]
  exact h3
theorem atom_any (w0 : World) (g : Nat) (T : List Nd) (vl vs : Value) (bm : Nat) (w : World) (h : TbF w0 w g T vl vs bm) (hn : T.length ≤ 1000) :
    Calls Tryz.prog 56 #[.pointer (some ⟨g, 0, none⟩)] w (RetT w0 w g bm vl vs (atomT T)) := by
  have c3 : w.cell? ⟨g, 3, none⟩ = some (.int .i64 (atomsOf T : Int)) := (h.x.blk.cell 3).trans rfl
  have y3 := h.x.blk.free 3
  have ha := atoms_le T
  obtain ⟨W, hW⟩ : ∃ W, W = w.setCell ⟨g, 3, none⟩ (.int .i64 ((atomsOf T + 1 : Nat) : Int)) := ⟨_, rfl⟩
  have hot : ∀ b, b ≠ g → W.heap[b]? = w.heap[b]? := fun b hb => by rw [hW]; exact Below.heap_setCell _ _ _ b hb
  have hbl : Below w0.heap.size w0 W := by rw [hW]; exact h.x.l.below.setCell (p := ⟨g, 3, none⟩) h.x.ge _
  have hx : TbX w0 W g (T.map Nd.cell) (sizesL T) (atomsOf T + 1) vl vs bm :=
    ⟨by rw [hW]; exact h.x.blk.set 3 _, h.x.l.keepN hbl (fun b hb => hot b (fun e => own_blk h.x.l h.x.blk (by decide) (by rw [hb, e]))), h.x.s.keepN hbl (fun b hb => hot b (fun e => own_blk h.x.s h.x.blk (by decide) (by rw [hb, e]))), h.x.ge, h.x.gm⟩
  have HP := Lib.hid (termPut_any w0 g _ _ _ vl vs bm 72 (.agg #[.int .i64 (atomsOf T : Int)]) none 0 0 [] W hx (by rw [sizesL_len, List.length_map]) (sizesL_small T) (Sl.nil _ _) (fun p hp => by cases hp) (by rw [List.length_map]; omega))
  have H := Lib.hid h; have HW := Lib.hid hW
  have k3 : W.cell? ⟨g, 3, none⟩ = some (.int .i64 ((atomsOf T : Int) + 1)) := (hx.blk.cell 3).trans (by simp)
  have K3 := Lib.hid k3
  have hw1 : IntKind.i64.wrap ((atomsOf T : Int) + 1) = (atomsOf T : Int) + 1 := IntWalk.i64_in _ (by omega)
  have hl : (T.map Nd.cell).length = T.length := List.length_map ..
  rw [hl] at HP
  have HWE := Lib.hid (show w.setCell ⟨g, 3, none⟩ (.int .i64 ((atomsOf T : Int) + 1)) = W by rw [HW.out]; simp)
  have hw2 : wrap64 (atomsOf T : Int) = (atomsOf T : Int) := IntWalk.wrap64_in _ ⟨by omega, by omega⟩
  clear h hW hot hbl hx k3 hl ha
  have FIN := Lib.hid (fun w3 vl' vs' => atom_fin (w0 := w0) (w3 := w3) (vl' := vl') (vs' := vs') H.out HW.out)
  obtain ⟨a, hae⟩ : ∃ a, a = atomsOf T := ⟨_, rfl⟩
  rw [← hae] at c3 hw1 HP K3 HW FIN HWE hw2
  have HAE := Lib.hid hae; clear hae
  go_enter Tryz.func56, Tryz.ntmps56
  go_upto_region 4 with fail
  rw [HWE.out]
  clear HWE HW
  have k3 := K3.out
  clear K3 hw1 c3 y3
  go_wp2_with fail
  rw [hw2]
  refine HP.out.mono ?_
  rintro e w3 ⟨rfl, vl', vs', tb, ch⟩
  have TB := Lib.hid tb; have CH := Lib.hid ch; clear tb ch
  go_wp2_with fail
  go_ret
  obtain ⟨t, c⟩ := FIN.out w3 vl' vs' TB.out CH.out
  exact ⟨vl', vs', rfl, t, c⟩
end Go.Proofs.YtcfbbgbjlgonpaaGreatDoor
/- The program's table of terms: any act. No condition. -/
namespace Go.Proofs.YtcfbbgbjlgonpaaGreatDoor
open Go.RowKit Go.Maps
set_option linter.unusedVariables false

def doT (T : List Nd) (k a b : Int) (s : ByteArray) : List Nd × Nat :=
  if k = 1 then atomT T else if k = 2 then putT T ⟨2, 0, 0, s, 0⟩ [] else if k = 3 then kdfT T a s else if k = 4 then pairT T 4 a b else pairT T 5 a b
end Go.Proofs.YtcfbbgbjlgonpaaGreatDoor
/- What every act keeps: the parts lie before, every term fits, no two are the same. No condition. -/
namespace Go.Proofs.YtcfbbgbjlgonpaaGreatDoor
open Go.RowKit Go.Maps
set_option linter.unusedVariables false

structure TIn (T : List Nd) : Prop where
  parts : Parted T
  fit : Fit' T
  uniq : Uniq T
theorem TIn.nil : TIn [] := ⟨fun i x h => (by simp at h), fun x h => (by cases h), fun j j' y y' _ h => (by simp at h)⟩
theorem TIn.ok {T : List Nd} (h : TIn T) (hn : T.length ≤ 1000) : TOk T := ⟨h.fit, h.uniq, hn⟩
theorem TIn.kinds {T : List Nd} (h : TIn T) : Kinds T := fun x hx => by
  obtain ⟨i, hi⟩ := List.mem_iff_getElem?.1 hx
  exact (h.parts i x hi).1
theorem TIn.snoc {T : List Nd} (h : TIn T) {x : Nd} (hk : 1 ≤ x.k ∧ x.k ≤ 5) (hp : ∀ p ∈ x.parts, 1 ≤ p ∧ p ≤ T.length) (hf : x.fits) (hs : x.k ≠ 1 → ∀ y ∈ T, y.k ≠ 1 → y.same x = false) : TIn (T ++ [x]) := by
  have at' : ∀ i y, (T ++ [x])[i]? = some y → (i < T.length ∧ T[i]? = some y) ∨ (i = T.length ∧ y = x) := fun i y hy => by
    rcases Nat.lt_or_ge i T.length with hl | hl
    · rw [List.getElem?_append_left hl] at hy
      exact .inl ⟨hl, hy⟩
    · rw [List.getElem?_append_right hl] at hy
      rcases Nat.lt_or_ge i (T.length + 1) with h1 | h1
      · have e : i = T.length := by omega
        subst e
        rw [Nat.sub_self] at hy
        simp at hy
        exact .inr ⟨rfl, hy.symm⟩
      · rw [List.getElem?_eq_none (by simp; omega)] at hy
        cases hy
  refine ⟨fun i y hy => ?_, fun y hy => ?_, fun j j' y y' hj hy hy' hk1 hk2 => ?_⟩
  · rcases at' i y hy with ⟨_, h1⟩ | ⟨rfl, rfl⟩
    · exact h.parts i y h1
    · exact ⟨hk, hp⟩
  · rcases List.mem_append.1 hy with h1 | h1
    · exact h.fit y h1
    · rw [List.mem_singleton] at h1
      rw [h1]; exact hf
  · rcases at' j' y' hy' with ⟨_, h1⟩ | ⟨rfl, rfl⟩
    · rcases at' j y hy with ⟨_, h2⟩ | ⟨rfl, rfl⟩
      · exact h.uniq j j' y y' hj h2 h1 hk1 hk2
      · omega
    · rcases at' j y hy with ⟨_, h2⟩ | ⟨h2, rfl⟩
      · exact hs hk2 y (List.mem_of_getElem? h2) hk1
      · omega
theorem putT_in {T : List Nd} (h : TIn T) {x : Nd} {ids : List Int} (hk : 1 ≤ x.k ∧ x.k ≤ 5) (hp : ∀ p ∈ x.parts, (p : Int) ∈ ids) (hf : x.fits) : TIn (putT T x ids).1 ∧ T.length ≤ (putT T x ids).1.length ∧ (putT T x ids).1.length ≤ T.length + 1 := by
  unfold putT
  split
  · exact ⟨h, Nat.le_refl _, Nat.le_succ _⟩
  · next ho =>
    cases hfd : findT T x with
    | some j => exact ⟨h, Nat.le_refl _, Nat.le_succ _⟩
    | none =>
      refine ⟨h.snoc hk (fun p hpp => ?_) hf (fun _ y hy hk1 => ?_), by simp, by simp⟩
      · have := hp p hpp
        rw [Bool.not_eq_true, List.any_eq_false] at ho
        have h2 := ho _ this
        unfold outside at h2
        simp at h2
        omega
      · unfold findT at hfd
        rw [List.findIdx?_eq_none_iff] at hfd
        have := hfd y hy
        simpa [hk1] using this
theorem doT_in {T : List Nd} (h : TIn T) (hn : T.length ≤ 1000) (k a b : Int) (s : ByteArray) (hs : s.size ≤ maxLen) : TIn (doT T k a b s).1 ∧ T.length ≤ (doT T k a b s).1.length ∧ (doT T k a b s).1.length ≤ T.length + 1 := by
  have stay : TIn T ∧ T.length ≤ T.length ∧ T.length ≤ T.length + 1 := ⟨h, Nat.le_refl _, Nat.le_succ _⟩
  have pair : ∀ k', (k' = 4 ∨ k' = 5) → TIn (pairT T k' a b).1 ∧ T.length ≤ (pairT T k' a b).1.length ∧ (pairT T k' a b).1.length ≤ T.length + 1 := fun k' hk' => by
    unfold pairT
    split
    · exact stay
    · next ho =>
      unfold outside at ho
      simp at ho
      refine putT_in h ⟨by show 1 ≤ k'; omega, by show k' ≤ 5; omega⟩ (fun p hp => ?_) ⟨by show k' ≤ _; omega, by show a.toNat ≤ _; omega, by show b.toNat ≤ _; omega, by show ByteArray.empty.size ≤ _; decide⟩
      have hp' : p = a.toNat ∨ p = b.toNat := by
        unfold Nd.parts at hp
        rcases hk' with rfl | rfl <;> simpa using hp
      rcases hp' with rfl | rfl
      · have : ((a.toNat : Nat) : Int) = a := by omega
        rw [this]; simp
      · have : ((b.toNat : Nat) : Int) = b := by omega
        rw [this]; simp
  unfold doT
  split
  · unfold atomT
    have := atoms_le T
    exact ⟨h.snoc ⟨by dsimp only; decide, by dsimp only; decide⟩ (fun p hp => by simp [Nd.parts] at hp) ⟨by dsimp only; decide, by dsimp only; decide, by dsimp only; decide, by show ByteArray.empty.size ≤ _; decide⟩ (fun hk => (hk rfl).elim), by simp, by simp⟩
  split
  · exact putT_in h ⟨by dsimp only; decide, by dsimp only; decide⟩ (fun p hp => by simp [Nd.parts] at hp) ⟨by dsimp only; decide, by dsimp only; decide, by dsimp only; decide, hs⟩
  split
  · unfold kdfT
    split
    · exact stay
    · next ho =>
      unfold outside at ho
      simp at ho
      refine putT_in h ⟨by dsimp only; decide, by dsimp only; decide⟩ (fun p hp => ?_) ⟨by dsimp only; decide, by show a.toNat ≤ _; omega, by dsimp only; decide, hs⟩
      have hp' : p = a.toNat := by simpa [Nd.parts] using hp
      have : ((a.toNat : Nat) : Int) = a := by omega
      rw [hp', this]; simp
  split
  · exact pair 4 (.inl rfl)
  · exact pair 5 (.inr rfl)
end Go.Proofs.YtcfbbgbjlgonpaaGreatDoor
