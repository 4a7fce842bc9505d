/- Own texts, one behind the other. No condition. -/
import Derived.Test.YtdkmlmbehlooiaaGreatDoorObPkAF
import Derived.Lib.SlBytesConst
import Derived.ArgAppend
import Derived.ProofKit
import Derived.Deep.Slices
import Derived.Deep.Fields
import Derived.Lib.SmallJoins
set_option linter.unusedVariables false
set_option linter.unusedSimpArgs false
namespace Go.Proofs.YtdkmlmbehlooiaaGreatDoor
section
open Go.RowKit Go.Maps
theorem termNew_any (w : World) : Calls Tryz.prog 19 #[] w fun e w' => ∃ g bm, e = .returned (.pointer (some ⟨g, 0, none⟩)) ∧ TbF w w' g [] (.slice none 0 0) (.slice none 0 0) bm ∧ Gr w w' := by
 have hmm := @run_makeMap Tryz.prog
 go_enter Tryz.func19, Tryz.ntmps19
 go_wp2_with fail
 go_ret
 have hg : Gr w ((w.alloc (.map #[] 0)).alloc (.cells #[.slice none 0 0, .slice none 0 0, .map (some w.heap.size), .int .i64 0] 103)) := (Gr.alloc _ _).trans (Gr.alloc _ _)
 refine ⟨w.heap.size + 1, w.heap.size, rfl, ⟨⟨heap_alloc2_new w _ _, Own.nil' hg _ _, Own.nil' hg _ _, by omega, Nat.le_refl _⟩, ?_⟩, hg⟩
 have hm : mT (w.alloc (.map #[] 0)) w.heap.size [] := World.ownsMap_made _ _ _ _
 exact hm.keep ((Gr.alloc (w.alloc (.map #[] 0)) (.cells #[.slice none 0 0, .slice none 0 0, .map (some w.heap.size), .int .i64 0] 103)).block _ (by simp))
theorem found_out (w0 : World) (g : Nat) (T : List Nd) (vl vs : Value) (bm : Nat) (k0 a0 b0 : Int) (s : ByteArray) (xv : Value) (A : Option Addr) (m c : Nat) (ids : List Int) (w : World) (h : TbF w0 w g T vl vs bm) (hP : Is w A m c ids) (ho : ids.any (outside T.length) = true) :
 Calls Tryz.prog 233 #[.pointer (some ⟨g, 0, none⟩), .agg #[.int .i64 k0, .int .i64 a0, .int .i64 b0, .string s], xv, .slice A m c] w (RetT w0 w g bm vl vs (T, 0)) := by
 have hg := Gr.alloc w (.cells #[.int .i64 k0, .int .i64 a0, .int .i64 b0, .string s] 280)
 have HTH := Lib.hid (there_any g T.length A m c _ _ (h.rd.mono hg).len (hP.mono hg))
 have H := Lib.hid h; have HG := Lib.hid hg
 rw [ho] at HTH
 clear h hg hP ho
 go_enter Tryz.func233, Tryz.ntmps233
 go_wp2_with fail
 refine HTH.out.mono ?_
 rintro e w1 ⟨rfl, g1⟩
 have G1 := Lib.hid (HG.out.trans g1); clear g1
 go_wp2_with fail
 go_ret
 exact ⟨vl, vs, rfl, H.out.gr G1.out, TChM.gr G1.out⟩
structure TOk (T : List Nd) : Prop where
 fit : Fit' T
 uniq : Uniq T
 n : T.length ≤ 1000
theorem text_any (w0 : World) (g : Nat) (T : List Nd) (vl vs : Value) (bm : Nat) (s : ByteArray) (w : World) (h : TbF w0 w g T vl vs bm) (hT : TOk T) (hs : s.size ≤ maxLen) :
 Calls Tryz.prog 232 #[.pointer (some ⟨g, 0, none⟩), .string s] w (RetT w0 w g bm vl vs (putT T ⟨2, 0, 0, s, 0⟩ [])) := by
 have HF := Lib.hid (found_any w0 g T vl vs bm ⟨2, 0, 0, s, 0⟩ none 0 0 w h hT.fit hT.uniq ⟨by dsimp only; decide, by dsimp only; decide, by dsimp only; decide, hs⟩ ⟨by dsimp only; decide, by dsimp only; decide⟩ (Sl.nil _ _) hT.n)
 clear h hT hs
 go_enter Tryz.func232, Tryz.ntmps232
 go_wp2_with fail
 refine HF.out.mono ?_
 rintro e w1 ⟨vl', vs', rfl, h2, h3⟩
 have H2 := Lib.hid h2; have H3 := Lib.hid h3; clear h2 h3
 go_wp2_with fail
 go_ret
 exact ⟨vl', vs', rfl, H2.out, H3.out⟩
def kdfT (T : List Nd) (a : Int) (s : ByteArray) : List Nd × Nat := if outside T.length a then (T, 0) else putT T ⟨3, a.toNat, 0, s, 0⟩ [a]
def pairT (T : List Nd) (k : Nat) (a b : Int) : List Nd × Nat := if outside T.length a || outside T.length b then (T, 0) else putT T ⟨k, a.toNat, b.toNat, ByteArray.empty, 0⟩ [a, b]
theorem enc_any (w0 : World) (g : Nat) (T : List Nd) (vl vs : Value) (bm : Nat) (a b : Int) (w : World) (h : TbF w0 w g T vl vs bm) (hT : TOk T) :
 Calls Tryz.prog 185 #[.pointer (some ⟨g, 0, none⟩), .int .i64 a, .int .i64 b] w (RetT w0 w g bm vl vs (pairT T 5 a b)) := by
 have hg := Gr.alloc w (.cells #[.int .i64 a, .int .i64 b] 3)
 unfold pairT
 cases ho : outside T.length a || outside T.length b with
 | true =>
  have HF := Lib.hid (found_out w0 g T vl vs bm 5 a b ByteArray.empty (.iface 233 (.agg #[.int .i64 a, .int .i64 b])) (some ⟨w.heap.size, 0, none⟩) 2 2 [a, b] _ (h.gr hg) (is_two w a b) (by simpa using ho))
  have HG := Lib.hid hg
  clear h hT ho hg
  go_enter Tryz.func185, Tryz.ntmps185
  go_wp2_with fail
  refine HF.out.mono ?_
  rintro e w1 ⟨vl', vs', rfl, h2, h3⟩
  have H2 := Lib.hid h2; have H3 := Lib.hid h3; clear h2 h3
  go_wp2_with fail
  go_ret
  exact ⟨vl', vs', rfl, H2.out, (TChM.gr HG.out).trans H3.out⟩
 | false =>
  rw [Bool.or_eq_false_iff] at ho
  have hin : (1 ≤ a ∧ a ≤ T.length) ∧ (1 ≤ b ∧ b ≤ T.length) := by unfold outside at ho; simp at ho; omega
  obtain ⟨n, rfl⟩ : ∃ n : Nat, a = n := ⟨a.toNat, by omega⟩
  obtain ⟨m, rfl⟩ : ∃ m : Nat, b = m := ⟨b.toNat, by omega⟩
  have hn := hT.n
  have HF := Lib.hid (found_any w0 g T vl vs bm ⟨5, n, m, ByteArray.empty, 0⟩ (some ⟨w.heap.size, 0, none⟩) 2 2 _ (h.gr hg) hT.fit hT.uniq ⟨by dsimp only; decide, by show n ≤ _; omega, by show m ≤ _; omega, by dsimp only; decide⟩ ⟨by dsimp only; decide, by dsimp only; decide⟩ (is_two w n m) hT.n)
  have HG := Lib.hid hg
  clear h hT ho hg hin hn
  go_enter Tryz.func185, Tryz.ntmps185
  go_wp2_with fail
  refine HF.out.mono ?_
  rintro e w1 ⟨vl', vs', rfl, h2, h3⟩
  have H2 := Lib.hid h2; have H3 := Lib.hid h3; clear h2 h3
  go_wp2_with fail
  go_ret
  exact ⟨vl', vs', rfl, H2.out, (TChM.gr HG.out).trans H3.out⟩
end
section
open Go.RowKit Go.Maps
def atomT (T : List Nd) : List Nd × Nat := (T ++ [⟨1, 0, 0, ByteArray.empty, atomsOf T⟩], T.length + 1)
theorem atoms_le (T : List Nd) : atomsOf T ≤ T.length := List.length_filter_le _ _
theorem atom_fin {w0 w w1 w3 : World} {g bm : Nat} {T : List Nd} {vl vs vl' vs' : Value} (h : TbF w0 w g T vl vs bm) (hw1 : w1 = w.setCell ⟨g, 3, none⟩ (.int .i64 ((atomsOf T + 1 : Nat) : Int)))
 (h3 : TbX w0 w3 g (T.map Nd.cell ++ [.iface 203 (.agg #[.int .i64 (atomsOf T : Int)])]) (sizesL T ++ [sizeOf' (sizesL T) []]) (atomsOf T + 1) vl' vs' bm) (c3 : TChg w1 w3 g vl vs vl' vs') :
 TbF w0 w3 g (atomT T).1 vl' vs' bm ∧ TChM w w3 g bm vl vs vl' vs' := by
 have hot : ∀ b, b ≠ g → w1.heap[b]? = w.heap[b]? := fun b hb => by rw [hw1]; exact Below.heap_setCell _ _ _ b hb
 have hsz : w.heap.size ≤ w1.heap.size := by
  have := (Below.refl 0 w).setCell (p := ⟨g, 3, none⟩) (Nat.zero_le _) (.int .i64 ((atomsOf T + 1 : Nat) : Int))
  rw [hw1]; exact this.size
 have hmg := h.m.ne_blk h.x.blk
 have m1 : mT w1 bm T := h.m.keep (hot bm hmg)
 have m3 : mT w3 bm T := m1.keep (c3.keep bm m1.lt hmg (h.m.ne_own h.x.l) (h.m.ne_own h.x.s))
 have m3' : mT w3 bm (atomT T).1 := by
  obtain ⟨es, clock, hb, hf, hz, hd⟩ := m3
  have e : keysTo (atomT T).1 (atomT T).1.length = keysTo T T.length := by
   unfold atomT
   simp only [List.length_append, List.length_cons, List.length_nil, Nat.zero_add]
   conv => lhs; unfold keysTo
   rw [List.getElem?_append_right (Nat.le_refl _), Nat.sub_self]
   simp only [List.getElem?_cons_zero, if_true]
   exact keysTo_low T _ T.length (Nat.le_refl _)
  exact ⟨es, clock, hb, hf, by unfold atomT; rw [List.length_append]; omega, by rw [e]; exact hd⟩
 refine ⟨⟨?_, m3'⟩, ⟨Nat.le_trans hsz c3.size, fun b h1 h2 _ h4 h5 => (c3.keep b (Nat.lt_of_lt_of_le h1 hsz) h2 h4 h5).trans (hot b h2), fun b hb => (c3.ol b hb).imp id (Nat.le_trans hsz), fun b hb => (c3.os b hb).imp id (Nat.le_trans hsz)⟩⟩
 unfold atomT
 simp only
 rw [List.map_append, sizesL_snoc]
 have ea : atomsOf (T ++ [⟨1, 0, 0, ByteArray.empty, atomsOf T⟩]) = atomsOf T + 1 := by
  show (List.filter _ (T ++ [_])).length = _
  rw [List.filter_append]
  simp [atomsOf]
 rw [ea]
 exact h3
theorem atom_any (w0 : World) (g : Nat) (T : List Nd) (vl vs : Value) (bm : Nat) (w : World) (h : TbF w0 w g T vl vs bm) (hn : T.length ≤ 1000) :
 Calls Tryz.prog 79 #[.pointer (some ⟨g, 0, none⟩)] w (RetT w0 w g bm vl vs (atomT T)) := by
 have c3 : w.cell? ⟨g, 3, none⟩ = some (.int .i64 (atomsOf T : Int)) := (h.x.blk.cell 3).trans rfl
 have y3 := h.x.blk.free 3
 have ha := atoms_le T
 obtain ⟨W, hW⟩ : ∃ W, W = w.setCell ⟨g, 3, none⟩ (.int .i64 ((atomsOf T + 1 : Nat) : Int)) := ⟨_, rfl⟩
 have hot : ∀ b, b ≠ g → W.heap[b]? = w.heap[b]? := fun b hb => by rw [hW]; exact Below.heap_setCell _ _ _ b hb
 have hbl : Below w0.heap.size w0 W := by rw [hW]; exact h.x.l.below.setCell (p := ⟨g, 3, none⟩) h.x.ge _
 have hx : TbX w0 W g (T.map Nd.cell) (sizesL T) (atomsOf T + 1) vl vs bm :=
  ⟨by rw [hW]; exact h.x.blk.set 3 _, h.x.l.keepN hbl (fun b hb => hot b (fun e => own_blk h.x.l h.x.blk (by decide) (by rw [hb, e]))), h.x.s.keepN hbl (fun b hb => hot b (fun e => own_blk h.x.s h.x.blk (by decide) (by rw [hb, e]))), h.x.ge, h.x.gm⟩
 have HP := Lib.hid (termPut_any w0 g _ _ _ vl vs bm 203 (.agg #[.int .i64 (atomsOf T : Int)]) none 0 0 [] W hx (by rw [sizesL_len, List.length_map]) (sizesL_small T) (Sl.nil _ _) (fun p hp => by cases hp) (by rw [List.length_map]; omega))
 have H := Lib.hid h; have HW := Lib.hid hW
 have k3 : W.cell? ⟨g, 3, none⟩ = some (.int .i64 ((atomsOf T : Int) + 1)) := (hx.blk.cell 3).trans (by simp)
 have K3 := Lib.hid k3
 have hw1 : IntKind.i64.wrap ((atomsOf T : Int) + 1) = (atomsOf T : Int) + 1 := IntWalk.i64_in _ (by omega)
 have hl : (T.map Nd.cell).length = T.length := List.length_map ..
 rw [hl] at HP
 have HWE := Lib.hid (show w.setCell ⟨g, 3, none⟩ (.int .i64 ((atomsOf T : Int) + 1)) = W by rw [HW.out]; simp)
 have hw2 : wrap64 (atomsOf T : Int) = (atomsOf T : Int) := IntWalk.wrap64_in _ ⟨by omega, by omega⟩
 clear h hW hot hbl hx k3 hl ha
 have FIN := Lib.hid (fun w3 vl' vs' => atom_fin (w0 := w0) (w3 := w3) (vl' := vl') (vs' := vs') H.out HW.out)
 obtain ⟨a, hae⟩ : ∃ a, a = atomsOf T := ⟨_, rfl⟩
 rw [← hae] at c3 hw1 HP K3 HW FIN HWE hw2
 have HAE := Lib.hid hae; clear hae
 go_enter Tryz.func79, Tryz.ntmps79
 go_upto_region 4 with fail
 rw [HWE.out]
 clear HWE HW
 have k3 := K3.out
 clear K3 hw1 c3 y3
 go_wp2_with fail
 rw [hw2]
 refine HP.out.mono ?_
 rintro e w3 ⟨rfl, vl', vs', tb, ch⟩
 have TB := Lib.hid tb; have CH := Lib.hid ch; clear tb ch
 go_wp2_with fail
 go_ret
 obtain ⟨t, c⟩ := FIN.out w3 vl' vs' TB.out CH.out
 exact ⟨vl', vs', rfl, t, c⟩
end
section
open Go.RowKit Go.Maps
def doT (T : List Nd) (k a b : Int) (s : ByteArray) : List Nd × Nat :=
 if k = 1 then atomT T else if k = 2 then putT T ⟨2, 0, 0, s, 0⟩ [] else if k = 3 then kdfT T a s else if k = 4 then pairT T 4 a b else pairT T 5 a b
end
section
open Go.RowKit Go.Maps
structure TIn (T : List Nd) : Prop where
 parts : Parted T
 fit : Fit' T
 uniq : Uniq T
theorem TIn.nil : TIn [] := ⟨fun i x h => (by simp at h), fun x h => (by cases h), fun j j' y y' _ h => (by simp at h)⟩
theorem TIn.ok {T : List Nd} (h : TIn T) (hn : T.length ≤ 1000) : TOk T := ⟨h.fit, h.uniq, hn⟩
theorem TIn.kinds {T : List Nd} (h : TIn T) : Kinds T := fun x hx => by
 obtain ⟨i, hi⟩ := List.mem_iff_getElem?.1 hx
 exact (h.parts i x hi).1
theorem TIn.snoc {T : List Nd} (h : TIn T) {x : Nd} (hk : 1 ≤ x.k ∧ x.k ≤ 5) (hp : ∀ p ∈ x.parts, 1 ≤ p ∧ p ≤ T.length) (hf : x.fits) (hs : x.k ≠ 1 → ∀ y ∈ T, y.k ≠ 1 → y.same x = false) : TIn (T ++ [x]) := by
 have at' : ∀ i y, (T ++ [x])[i]? = some y → (i < T.length ∧ T[i]? = some y) ∨ (i = T.length ∧ y = x) := fun i y hy => by
  rcases Nat.lt_or_ge i T.length with hl | hl
  · rw [List.getElem?_append_left hl] at hy
    exact .inl ⟨hl, hy⟩
  · rw [List.getElem?_append_right hl] at hy
    rcases Nat.lt_or_ge i (T.length + 1) with h1 | h1
    · have e : i = T.length := by omega
      subst e
      rw [Nat.sub_self] at hy
      simp at hy
      exact .inr ⟨rfl, hy.symm⟩
    · rw [List.getElem?_eq_none (by simp; omega)] at hy
      cases hy
 refine ⟨fun i y hy => ?_, fun y hy => ?_, fun j j' y y' hj hy hy' hk1 hk2 => ?_⟩
 · rcases at' i y hy with ⟨_, h1⟩ | ⟨rfl, rfl⟩
   · exact h.parts i y h1
   · exact ⟨hk, hp⟩
 · rcases List.mem_append.1 hy with h1 | h1
   · exact h.fit y h1
   · rw [List.mem_singleton] at h1
     rw [h1]; exact hf
 · rcases at' j' y' hy' with ⟨_, h1⟩ | ⟨rfl, rfl⟩
   · rcases at' j y hy with ⟨_, h2⟩ | ⟨rfl, rfl⟩
     · exact h.uniq j j' y y' hj h2 h1 hk1 hk2
     · omega
   · rcases at' j y hy with ⟨_, h2⟩ | ⟨h2, rfl⟩
     · exact hs hk2 y (List.mem_of_getElem? h2) hk1
     · omega
theorem putT_in {T : List Nd} (h : TIn T) {x : Nd} {ids : List Int} (hk : 1 ≤ x.k ∧ x.k ≤ 5) (hp : ∀ p ∈ x.parts, (p : Int) ∈ ids) (hf : x.fits) : TIn (putT T x ids).1 ∧ T.length ≤ (putT T x ids).1.length ∧ (putT T x ids).1.length ≤ T.length + 1 := by
 unfold putT
 split
 · exact ⟨h, Nat.le_refl _, Nat.le_succ _⟩
 · next ho =>
   cases hfd : findT T x with
   | some j => exact ⟨h, Nat.le_refl _, Nat.le_succ _⟩
   | none =>
    refine ⟨h.snoc hk (fun p hpp => ?_) hf (fun _ y hy hk1 => ?_), by simp, by simp⟩
    · have := hp p hpp
      rw [Bool.not_eq_true, List.any_eq_false] at ho
      have h2 := ho _ this
      unfold outside at h2
      simp at h2
      omega
    · unfold findT at hfd
      rw [List.findIdx?_eq_none_iff] at hfd
      have := hfd y hy
      simpa [hk1] using this
theorem doT_in {T : List Nd} (h : TIn T) (hn : T.length ≤ 1000) (k a b : Int) (s : ByteArray) (hs : s.size ≤ maxLen) : TIn (doT T k a b s).1 ∧ T.length ≤ (doT T k a b s).1.length ∧ (doT T k a b s).1.length ≤ T.length + 1 := by
 have stay : TIn T ∧ T.length ≤ T.length ∧ T.length ≤ T.length + 1 := ⟨h, Nat.le_refl _, Nat.le_succ _⟩
 have pair : ∀ k', (k' = 4 ∨ k' = 5) → TIn (pairT T k' a b).1 ∧ T.length ≤ (pairT T k' a b).1.length ∧ (pairT T k' a b).1.length ≤ T.length + 1 := fun k' hk' => by
  unfold pairT
  split
  · exact stay
  · next ho =>
    unfold outside at ho
    simp at ho
    refine putT_in h ⟨by show 1 ≤ k'; omega, by show k' ≤ 5; omega⟩ (fun p hp => ?_) ⟨by show k' ≤ _; omega, by show a.toNat ≤ _; omega, by show b.toNat ≤ _; omega, by show ByteArray.empty.size ≤ _; decide⟩
    have hp' : p = a.toNat ∨ p = b.toNat := by
     unfold Nd.parts at hp
     rcases hk' with rfl | rfl <;> simpa using hp
    rcases hp' with rfl | rfl
    · have : ((a.toNat : Nat) : Int) = a := by omega
      rw [this]; simp
    · have : ((b.toNat : Nat) : Int) = b := by omega
      rw [this]; simp
 unfold doT
 split
 · unfold atomT
   have := atoms_le T
   exact ⟨h.snoc ⟨by dsimp only; decide, by dsimp only; decide⟩ (fun p hp => by simp [Nd.parts] at hp) ⟨by dsimp only; decide, by dsimp only; decide, by dsimp only; decide, by show ByteArray.empty.size ≤ _; decide⟩ (fun hk => (hk rfl).elim), by simp, by simp⟩
 split
 · exact putT_in h ⟨by dsimp only; decide, by dsimp only; decide⟩ (fun p hp => by simp [Nd.parts] at hp) ⟨by dsimp only; decide, by dsimp only; decide, by dsimp only; decide, hs⟩
 split
 · unfold kdfT
   split
   · exact stay
   · next ho =>
     unfold outside at ho
     simp at ho
     refine putT_in h ⟨by dsimp only; decide, by dsimp only; decide⟩ (fun p hp => ?_) ⟨by dsimp only; decide, by show a.toNat ≤ _; omega, by dsimp only; decide, hs⟩
     have hp' : p = a.toNat := by simpa [Nd.parts] using hp
     have : ((a.toNat : Nat) : Int) = a := by omega
     rw [hp', this]; simp
 split
 · exact pair 4 (.inl rfl)
 · exact pair 5 (.inr rfl)
end
section
open Go.RowKit
theorem wpList_catFull {P : Program} {ops : Array Oper} {rest : List Oper} {o : Oper} {a : Act} {Q : Exit → Act → World → Prop} (hgd : o.guard = none) (s x : Operand) (t : TypeId)
 (ho : o.op = .call { callee := .builtin .append, args := #[s, x], argTypes := #[t, t] })
 {e : TypeId} {z : Value} {size bytes : Nat} (ht : ElemT P t e z size bytes) {w : World} {A B : Option Addr} {n c m d : Nat} {xs news : List Value} (hs : a.eval s = .slice A n c) (hsl : Sl w A n c size xs) (hn : 0 < n)
 (hx : a.eval x = .slice B m d) (hsx : Sl w B m d size news) (hm : 0 < m) (hg : c < n + m)
 (hroom : (n + m) * bytes ≤ 140737488355328)
 (h : ∀ v' w', Own w w' e size v' (n + m) (xs ++ news) → wpList P ops Q rest (a.put o.dst v') w') : wpList P ops Q (o :: rest) a w :=
 wpList_plain hgd fun _ hK => by
  obtain ⟨i, hi, hz, hsz, hby⟩ := info_parts ht.info
  have hb1 : n + m ≤ (n + m) * bytes := Nat.le_mul_of_pos_right _ ht.bpos
  obtain ⟨b, off, rfl, hc⟩ := hsl.addr hn
  obtain ⟨b', off', rfl, hc'⟩ := hsx.addr hm
  have ad : ∀ (b off j : Nat), (Addr.mk b off none).add j = ⟨b, off + j, none⟩ := fun b off j => by unfold Addr.add; split <;> simp_all
  obtain ⟨v', w', hrun, h2, h3⟩ := run_append_arg_grows (P := P) w t o.type e i z size bytes ht.und hi hz hsz hby ht.cells ht.pos ⟨b, off, none⟩ n c xs hsl.1 (fun j u hu => by rw [ad]; exact hc j u hu) ⟨b', off', none⟩ m d news hsx.1 (fun j u hu => by rw [ad]; exact hc' j u hu) hg (by simp only [maxLen]; omega) hroom
  unfold Oper.wp execOp
  simp only [ho, resolve, invoke, builtin, Sem.run_bind, Sem.run_pure, Result.andThen_ok, List.map_toArray, List.map_cons, List.map_nil, hs, hx, hrun]
  exact hK _ _ (h v' w' ⟨h2, (Below.refl _ w).grown h3 (Nat.le_refl _) (fun k hk => by cases hk)⟩)
def magicL : List UInt8 := [255, 254, 116, 101, 114, 109, 254, 255]
def handleL (id : Nat) : List UInt8 := padL (magicL ++ be id 8) 32
theorem be_len8 (id : Nat) : (be id 8).length = 8 := be_length 8 id
theorem handleL_len (id : Nat) : (handleL id).length = 32 := padL_length _ _
abbrev magicO : Obj := .cells #[.int .u8 255, .int .u8 254, .int .u8 116, .int .u8 101, .int .u8 114, .int .u8 109, .int .u8 254, .int .u8 255] 5 (8, 9)
theorem magic_sl (w : World) : Sl (w.alloc magicO) (some ⟨w.heap.size, 0, none⟩) 8 8 1 (magicL.map u8c) := by
 refine ⟨rfl, Nat.le_refl _, by decide, fun _ => ⟨_, _, rfl, fun j u hu => ?_⟩⟩
 change [Value.int .u8 255, .int .u8 254, .int .u8 116, .int .u8 101, .int .u8 114, .int .u8 109, .int .u8 254, .int .u8 255][j]? = some u at hu
 have hj : (w.alloc magicO).heap[w.heap.size]? = some magicO := heap_alloc_new w _
 simp only [World.cell?, hj, Nat.zero_add]
 rw [if_neg (by decide)]
 simpa using hu
set_option maxRecDepth 100000 in
set_option maxHeartbeats 1000000 in
theorem handle_any (id : Nat) (w : World) (h : id < 9223372036854775808) :
 Calls Tryz.prog 78 #[.int .i64 (id : Int)] w (RetBs w (handleL id)) := by
 have e1 : putS (id : Int) 8 = be id 8 := by unfold putS; rw [if_pos (by decide)]; rfl
 have HP := Lib.hid (put_any (id : Int) 8 (w.alloc magicO) (by omega) (by omega))
 rw [e1] at HP
 have HM := Lib.hid (magic_sl w)
 have HG := Lib.hid (Gr.alloc w magicO)
 have hb8 := be_len8 id
 have hcv := fun (W : World) (C : Array Value) (n c : Nat) => Lib.run_convert_bytes_const (P := Tryz.prog) W 36 5 C n c Tryz.underlying36 Tryz.underlying5
 have hwr : IntKind.u64.wrap (id : Int) = id := IntWalk.u64_in _ (by omega)
 clear e1
 go_enter Tryz.func78, Tryz.ntmps78
 go_wp2_with fail
 refine HP.out.mono ?_
 rintro e w1 ⟨v1, rfl, o1⟩
 rw [hb8] at o1
 have G1 : Hid (Gr (w.alloc magicO) w1) := o1.below
 have M1 := Lib.hid (HM.out.mono o1.below)
 obtain ⟨A1, c1, rfl, s1⟩ := o1.slice
 have S1 := Lib.hid s1
 clear o1 s1
 go_wp2_with (at_builtin; refine wpList_catFull rfl (.tmp 4) (.tmp 7) 36 rfl tBytes rfl M1.out (by omega) rfl S1.out (by omega) (by omega) (by omega) ?_; intro v2 w2 own2; rw [← List.map_append] at own2; obtain ⟨A2, c2, rfl, s2⟩ := own2.slice; have S2 := Lib.hid s2; have B2 : Hid (Gr w1 w2) := own2.below; clear own2 s2)
 refine (pad_any _ _ _ _ _ _ S2.out).mono ?_
 rintro e w3 ⟨v3, rfl, o3⟩
 have O3 := Lib.hid (o3.base (HG.out.trans (G1.out.trans B2.out)))
 clear o3
 go_wp2_with fail
 go_ret
 exact ⟨_, rfl, O3.out⟩
end
section
open Go.RowKit
def FSt (w w' : World) : Prop := ∀ g t cs, t ≠ 103 → t ≠ 20 → t ≠ 3 → Blk w g t cs → Blk w' g t cs
theorem FSt.gr {w w' : World} (h : Gr w w') : FSt w w' := fun g t cs _ _ _ hb => h.blk hb
theorem FSt.trans {a b c : World} (h : FSt a b) (k : FSt b c) : FSt a c := fun g t cs h1 h2 h3 hb => k g t cs h1 h2 h3 (h g t cs h1 h2 h3 hb)
theorem FSt.tbl {w0 w w' : World} {g bm : Nat} {T : List Nd} {vl vs vl' vs' : Value} (h : TbF w0 w g T vl vs bm) (c : TChM w w' g bm vl vs vl' vs') : FSt w w' := fun b t cs h1 h2 h3 hb => by
 refine (c.keep b hb.lt (fun e => ?_) (fun e => ?_) (fun e => ?_) (fun e => ?_)).trans hb
 · subst e
   have hk := h.x.blk
   unfold Blk at hb hk
   rw [hk] at hb
   injection hb with hb
   injection hb with _ hb
   exact h1 hb.symm
 · subst e; exact h.m.ne_blk hb rfl
 · exact h.x.l.not_blk hb (fun q => h2 q.symm) e
 · exact h.x.s.not_blk hb (fun q => h3 q.symm) e
structure SymS (w0 w : World) (p g bm bs : Nat) (T : List Nd) : Prop where
 blk : Blk w p 61 [.pointer (some ⟨g, 0, none⟩), .map (some bs), .pointer none]
 t : ∃ vl vs, TbF w0 w g T vl vs bm
 i : TIn T
theorem SymS.below {w0 w : World} {p g bm bs : Nat} {T : List Nd} (h : SymS w0 w p g bm bs T) : Below w0.heap.size w0 w := by obtain ⟨vl, vs, ht⟩ := h.t; exact ht.x.l.below
theorem SymS.gr {w0 w w' : World} {p g bm bs : Nat} {T : List Nd} (h : SymS w0 w p g bm bs T) (hg : Gr w w') : SymS w0 w' p g bm bs T := by
 obtain ⟨vl, vs, ht⟩ := h.t
 exact ⟨hg.blk h.blk, ⟨vl, vs, ht.gr hg⟩, h.i⟩
theorem SymS.rd {w0 w : World} {p g bm bs : Nat} {T : List Nd} (h : SymS w0 w p g bm bs T) : TRd w g T := by obtain ⟨vl, vs, ht⟩ := h.t; exact ht.rd
theorem SymS.turn {w0 w w' : World} {p g bm bs : Nat} {T T' : List Nd} {vl vs vl' vs' : Value} (h : SymS w0 w p g bm bs T) (ht : TbF w0 w g T vl vs bm) (ht' : TbF w0 w' g T' vl' vs' bm) (c : TChM w w' g bm vl vs vl' vs') (i : TIn T') : SymS w0 w' p g bm bs T' ∧ FSt w w' :=
 have f := FSt.tbl ht c
 ⟨⟨f _ _ _ (by decide) (by decide) (by decide) h.blk, ⟨vl', vs', ht'⟩, i⟩, f⟩
section
variable {w0 w : World} {p g bm bs : Nat} {T : List Nd}
theorem SymS.isNone (h : SymS w0 w p g bm bs T) : Calls Tryz.prog 75 #[.pointer (some ⟨p, 0, none⟩)] w fun e w' => e = .returned (.bool false) ∧ w = w' := by
 have c0 : w.cell? ⟨p, 0, none⟩ = some (.pointer (some ⟨g, 0, none⟩)) := (h.blk.cell 0).trans rfl
 have c2 : w.cell? ⟨p, 2, none⟩ = some (.pointer none) := (h.blk.cell 2).trans rfl
 clear h
 go_enter Tryz.func75, Tryz.ntmps75
 go_wp2_with fail
 go_ret
 exact ⟨rfl, rfl⟩
theorem SymS.isReal (h : SymS w0 w p g bm bs T) : Calls Tryz.prog 76 #[.pointer (some ⟨p, 0, none⟩)] w fun e w' => e = .returned (.bool false) ∧ w = w' := by
 have c2 : w.cell? ⟨p, 2, none⟩ = some (.pointer none) := (h.blk.cell 2).trans rfl
 clear h
 go_enter Tryz.func76, Tryz.ntmps76
 go_wp2_with fail
 go_ret
 exact ⟨rfl, rfl⟩
def bearsT (T : List Nd) (id : Int) : Bool := decide (kindOf T id ≠ 0) && decide (kindOf T id ≠ 2)
theorem SymS.bears (h : SymS w0 w p g bm bs T) (id : Int) (hid : -9223372036854775808 ≤ id ∧ id ≤ 9223372036854775807) : Calls Tryz.prog 171 #[.pointer (some ⟨p, 0, none⟩), .int .i64 id] w fun e w' => e = .returned (.bool (bearsT T id)) ∧ Gr w w' := by
 have c0 : w.cell? ⟨p, 0, none⟩ = some (.pointer (some ⟨g, 0, none⟩)) := (h.blk.cell 0).trans rfl
 have HK := Lib.hid (kind_any g T id w h.rd h.i.kinds hid)
 unfold bearsT
 clear h
 generalize kindOf T id = q at *
 by_cases h0 : q = 0
 · subst h0
   go_enter Tryz.func171, Tryz.ntmps171
   go_wp2_with fail
   refine HK.out.mono ?_
   rintro e w1 ⟨rfl, g1⟩
   have G1 := Lib.hid g1; clear g1
   go_wp2_with fail
   go_ret
   exact ⟨rfl, G1.out⟩
 · have t0 : ((q : Int) != 0) = true := by rw [bne_iff_ne]; omega
   by_cases h2 : q = 2
   · subst h2
     go_enter Tryz.func171, Tryz.ntmps171
     go_wp2_with fail
     refine HK.out.mono ?_
     rintro e w1 ⟨rfl, g1⟩
     have G1 := Lib.hid g1; clear g1
     go_wp2_with fail
     go_ret
     exact ⟨rfl, G1.out⟩
   · have t1 : ((q : Int) != 2) = true := by rw [bne_iff_ne]; omega
     have HB : Hid ((decide (q ≠ 0) && decide (q ≠ 2)) = true) := by show _ = _; rw [decide_eq_true h0, decide_eq_true h2]; rfl
     rw [HB.out]
     go_enter Tryz.func171, Tryz.ntmps171
     go_wp2_with fail
     refine HK.out.mono ?_
     rintro e w1 ⟨rfl, g1⟩
     have G1 := Lib.hid g1; clear g1
     go_wp2_with fail
     go_ret
     exact ⟨rfl, G1.out⟩
end
end
section
open Go.RowKit
theorem bytesEqual_any (A B : Option Addr) (n m c d : Nat) (a b : List UInt8) (w : World) (ha : Bs w A n c a) (hb : Bs w B m d b) :
 Calls Tryz.prog 173 #[.slice A n c, .slice B m d] w fun e w' => e = .returned (.bool (a == b)) ∧ w = w' := by
 have h1 := run_bytes_string Tryz.underlying36 Tryz.underlying5 Tryz.underlying9 ha
 have h2 := run_bytes_string Tryz.underlying36 Tryz.underlying5 Tryz.underlying9 hb
 clear ha hb
 go_enter Tryz.func173, Tryz.ntmps173
 go_wp2
 go_ret
 exact ⟨ret_bool rfl, rfl⟩
theorem hasPrefix_any (A B : Option Addr) (n m c d : Nat) (a b : List UInt8) (w : World) (ha : Bs w A n c a) (hb : Bs w B m d b) (hm : m ≤ n) :
 Calls Tryz.prog 168 #[.slice A n c, .slice B m d] w fun e w' => e = .returned (.bool (a.take m == b)) ∧ w = w' := by
 have hu : Bs w A m c (a.take m) := by
  have := ha.upto hm
  rwa [← List.map_take] at this
 have HE := Lib.hid (bytesEqual_any A B m m c d (a.take m) b w hu hb)
 have h1 := ha.cap; have h2 := ha.max; have h3 := hb.cap; have h4 := hb.max
 have t1 : decide ((m : Int) ≤ (n : Int)) = true := decide_eq_true (by omega)
 clear ha hb hu
 go_enter Tryz.func168, Tryz.ntmps168
 go_wp2_with fail
 refine HE.out.mono ?_
 rintro e w1 ⟨rfl, rfl⟩
 go_wp2_with fail
 go_ret
 exact ⟨rfl, rfl⟩
def termB (T : List Nd) (b : List UInt8) : Nat :=
 if b.length = 32 ∧ b.take 8 = magicL then
  (if 1 ≤ getL ((b.drop 8).take 8) ∧ getL ((b.drop 8).take 8) ≤ T.length ∧ bearsT T (getL ((b.drop 8).take 8) : Int) = true ∧ b = handleL (getL ((b.drop 8).take 8)) then getL ((b.drop 8).take 8) else 0)
 else 0
section
variable {w0 w : World} {p g bm bs : Nat} {T : List Nd}
set_option maxRecDepth 100000 in
set_option maxHeartbeats 2000000 in
theorem SymS.term (h : SymS w0 w p g bm bs T) (hn : T.length ≤ 1000) (A : Option Addr) (n c : Nat) (b : List UInt8) (hb : Bs w A n c b) :
 Calls Tryz.prog 103 #[.pointer (some ⟨p, 0, none⟩), .slice A n c] w fun e w' => e = .returned (.int .i64 (termB T b : Int)) ∧ Gr w w' := by
 have HN := Lib.hid h.isNone
 have hl : b.length = n := by have := hb.len; simpa using this
 have hcp := hb.cap; have hmx := hb.max
 unfold termB
 rw [hl]
 by_cases h32 : n = 32
 · subst h32
   have HPX := Lib.hid (hasPrefix_any A (some ⟨w.heap.size, 0, none⟩) 32 8 c 8 b magicL (w.alloc magicO) (hb.mono (Gr.alloc _ _)) (magic_sl w) (by omega))
   have HG := Lib.hid (Gr.alloc w magicO)
   have hcv := fun (W : World) (C : Array Value) (n c : Nat) => Lib.run_convert_bytes_const (P := Tryz.prog) W 36 5 C n c Tryz.underlying36 Tryz.underlying5
   by_cases hm : b.take 8 = magicL
   · rw [hm] at HPX
     rw [if_pos ⟨rfl, hm⟩]
     have tm : (magicL == magicL) = true := by decide
     rw [tm] at HPX
     obtain ⟨bb, oo, rfl, hcc⟩ := hb.addr (by omega)
     have hsub : Bs w (some ⟨bb, oo + 8, none⟩) 8 (c - 8) ((b.drop 8).take 8) := by
      have h1 := hb.from (A' := some ⟨bb, oo + 8, none⟩) (k := 8) (by omega) (fun _ b' o' e => by injection e with e; injection e with e1 e2; subst e1 e2; rfl)
      have h2 := h1.upto (k := 8) (by omega)
      rwa [← List.map_drop, ← List.map_take] at h2
     have HGT := Lib.hid (get_any (some ⟨bb, oo + 8, none⟩) 8 (c - 8) ((b.drop 8).take 8) (w.alloc magicO) (hsub.mono (Gr.alloc _ _)))
     have hlen8 : ((b.drop 8).take 8).length = 8 := by simp; omega
     have e1 : getS ((b.drop 8).take 8) = getL ((b.drop 8).take 8) := if_pos ⟨by omega, by omega⟩
     rw [e1] at HGT
     have hgl : getL ((b.drop 8).take 8) < 18446744073709551616 := by have := getL_lt ((b.drop 8).take 8); rw [hlen8] at this; omega
     have hw := h.gr HG.out
     have c0 : (w.alloc magicO).cell? ⟨p, 0, none⟩ = some (.pointer (some ⟨g, 0, none⟩)) := (hw.blk.cell 0).trans rfl
     have HLN := Lib.hid (len_any g T _ hw.rd)
     have HBE := Lib.hid (fun id hid => hw.bears id hid)
     have HHD := Lib.hid (fun id wq hq => handle_any id wq hq)
     have HBB := Lib.hid (hb.mono HG.out)
     clear e1 hlen8 hsub hcc hw hb h hm tm
     generalize getL ((b.drop 8).take 8) = q at *
     have hwu : IntKind.u64.wrap (T.length : Int) = T.length := IntWalk.u64_in _ (by omega)
     by_cases h1 : q < 1
     · have t1 : decide ((q : Int) < 1) = true := decide_eq_true (by omega)
       rw [if_neg (by omega)]
       go_enter Tryz.func103, Tryz.ntmps103
       go_wp2_with fail
       refine HN.out.mono ?_
       rintro e w1 ⟨rfl, h1⟩
       obtain rfl : w = w1 := h1
       go_wp2_with fail
       refine HPX.out.mono ?_
       rintro e w2 ⟨rfl, h2⟩
       subst h2
       go_wp2_with fail
       refine HGT.out.mono ?_
       rintro e w3 ⟨rfl, h3⟩
       subst h3
       go_wp2_with fail
       go_ret
       exact ⟨rfl, HG.out⟩
     have t1 : decide ((q : Int) < 1) = false := decide_eq_false (by omega)
     by_cases h2 : T.length < q
     · have t2 : decide ((T.length : Int) < (q : Int)) = true := decide_eq_true (by omega)
       rw [if_neg (by omega)]
       go_enter Tryz.func103, Tryz.ntmps103
       go_wp2_with fail
       refine HN.out.mono ?_
       rintro e w1 ⟨rfl, h1⟩
       obtain rfl : w = w1 := h1
       go_wp2_with fail
       refine HPX.out.mono ?_
       rintro e w2 ⟨rfl, h2⟩
       subst h2
       go_wp2_with fail
       refine HGT.out.mono ?_
       rintro e w3 ⟨rfl, h3⟩
       subst h3
       go_wp2_with fail
       refine HLN.out.mono ?_
       rintro e w4 ⟨rfl, h4⟩
       subst h4
       go_wp2_with fail
       go_ret
       exact ⟨rfl, HG.out⟩
     have t2 : decide ((T.length : Int) < (q : Int)) = false := decide_eq_false (by omega)
     have hwq : IntKind.i64.wrap (q : Int) = q := IntWalk.i64_in _ (by omega)
     replace HBE := Lib.hid (HBE.out (q : Int) ⟨by omega, by omega⟩)
     cases h3 : bearsT T (q : Int) with
     | false =>
      rw [h3] at HBE
      rw [if_neg (fun qq => by cases qq.2.2.1)]
      clear h3
      go_enter Tryz.func103, Tryz.ntmps103
      go_wp2_with fail
      refine HN.out.mono ?_
      rintro e w1 ⟨rfl, h1⟩
      obtain rfl : w = w1 := h1
      go_wp2_with fail
      refine HPX.out.mono ?_
      rintro e w2 ⟨rfl, h2⟩
      subst h2
      go_wp2_with fail
      refine HGT.out.mono ?_
      rintro e w3 ⟨rfl, h3⟩
      subst h3
      go_wp2_with fail
      refine HLN.out.mono ?_
      rintro e w4 ⟨rfl, h4⟩
      subst h4
      go_wp2_with fail
      refine HBE.out.mono ?_
      rintro e w5 ⟨rfl, g5⟩
      have G5 : Hid (Gr w w5) := HG.out.trans g5
      clear g5
      go_wp2_with fail
      go_ret
      exact ⟨rfl, G5.out⟩
     | true =>
      rw [h3] at HBE
      clear h3
      by_cases hh : b = handleL q
      · have tt : (b == handleL q) = true := by rw [beq_iff_eq]; exact hh
        rw [if_pos ⟨by omega, by omega, rfl, hh⟩]
        have TT := Lib.hid tt
        clear tt hh
        go_enter Tryz.func103, Tryz.ntmps103
        go_wp2_with fail
        refine HN.out.mono ?_
        rintro e w1 ⟨rfl, h1⟩
        obtain rfl : w = w1 := h1
        go_wp2_with fail
        refine HPX.out.mono ?_
        rintro e w2 ⟨rfl, h2⟩
        subst h2
        go_wp2_with fail
        refine HGT.out.mono ?_
        rintro e w3 ⟨rfl, h3⟩
        subst h3
        go_wp2_with fail
        refine HLN.out.mono ?_
        rintro e w4 ⟨rfl, h4⟩
        subst h4
        go_wp2_with fail
        refine HBE.out.mono ?_
        rintro e w5 ⟨rfl, g5⟩
        have G5 : Hid (Gr w w5) := HG.out.trans g5
        have B5 := Lib.hid (HBB.out.mono g5)
        clear g5
        go_wp2_with fail
        refine (HHD.out q _ (by omega)).mono ?_
        rintro e w6 ⟨v6, rfl, o6⟩
        obtain ⟨A6, c6, rfl, s6⟩ := o6.slice
        have G6 : Hid (Gr w w6) := G5.out.trans o6.below
        have HSM := Lib.hid (same_any _ _ _ _ _ _ b (handleL q) w6 (B5.out.mono o6.below) s6)
        rw [TT.out] at HSM
        clear o6 s6
        go_wp2_with fail
        refine HSM.out.mono ?_
        rintro e w7 ⟨rfl, h7⟩
        subst h7
        go_wp2_with fail
        go_ret
        exact ⟨rfl, G6.out⟩
      · have tt : (b == handleL q) = false := by rw [beq_eq_false_iff_ne]; exact hh
        rw [if_neg (fun qq => hh qq.2.2.2)]
        have TT := Lib.hid tt
        clear tt hh
        go_enter Tryz.func103, Tryz.ntmps103
        go_wp2_with fail
        refine HN.out.mono ?_
        rintro e w1 ⟨rfl, h1⟩
        obtain rfl : w = w1 := h1
        go_wp2_with fail
        refine HPX.out.mono ?_
        rintro e w2 ⟨rfl, h2⟩
        subst h2
        go_wp2_with fail
        refine HGT.out.mono ?_
        rintro e w3 ⟨rfl, h3⟩
        subst h3
        go_wp2_with fail
        refine HLN.out.mono ?_
        rintro e w4 ⟨rfl, h4⟩
        subst h4
        go_wp2_with fail
        refine HBE.out.mono ?_
        rintro e w5 ⟨rfl, g5⟩
        have G5 : Hid (Gr w w5) := HG.out.trans g5
        have B5 := Lib.hid (HBB.out.mono g5)
        clear g5
        go_wp2_with fail
        refine (HHD.out q _ (by omega)).mono ?_
        rintro e w6 ⟨v6, rfl, o6⟩
        obtain ⟨A6, c6, rfl, s6⟩ := o6.slice
        have G6 : Hid (Gr w w6) := G5.out.trans o6.below
        have HSM := Lib.hid (same_any _ _ _ _ _ _ b (handleL q) w6 (B5.out.mono o6.below) s6)
        rw [TT.out] at HSM
        clear o6 s6
        go_wp2_with fail
        refine HSM.out.mono ?_
        rintro e w7 ⟨rfl, h7⟩
        subst h7
        go_wp2_with fail
        go_ret
        exact ⟨rfl, G6.out⟩
   · have tm : (b.take 8 == magicL) = false := by rw [beq_eq_false_iff_ne]; exact hm
     rw [tm] at HPX
     rw [if_neg (fun q => hm q.2)]
     clear h hb tm
     go_enter Tryz.func103, Tryz.ntmps103
     go_wp2_with fail
     refine HN.out.mono ?_
     rintro e w1 ⟨rfl, h1⟩
     obtain rfl : w = w1 := h1
     go_wp2_with fail
     refine HPX.out.mono ?_
     rintro e w2 ⟨rfl, h2⟩
     subst h2
     go_wp2_with fail
     go_ret
     exact ⟨rfl, HG.out⟩
 · have t1 : ((n : Int) != 32) = true := by rw [bne_iff_ne]; omega
   rw [if_neg (fun q => h32 q.1)]
   clear h hb
   go_enter Tryz.func103, Tryz.ntmps103
   go_wp2_with fail
   refine HN.out.mono ?_
   rintro e w1 ⟨rfl, h1⟩
   obtain rfl : w = w1 := h1
   go_wp2_with fail
   go_ret
   exact ⟨rfl, Gr.refl _⟩
end
end
section
open Go.RowKit
def ofT (T : List Nd) (b : List UInt8) : List Nd × Nat := if 0 < termB T b then (T, termB T b) else putT T ⟨2, 0, 0, ⟨b.toArray⟩, 0⟩ []
theorem doT_text (T : List Nd) (s : ByteArray) : doT T 2 0 0 s = putT T ⟨2, 0, 0, s, 0⟩ [] := by unfold doT; rw [if_neg (by decide), if_pos rfl]
theorem doT_atom (T : List Nd) : doT T 1 0 0 ByteArray.empty = atomT T := by unfold doT; rw [if_pos rfl]
theorem ofT_in {T : List Nd} (h : TIn T) (hn : T.length ≤ 1000) (b : List UInt8) (hb : b.length ≤ maxLen) : TIn (ofT T b).1 ∧ T.length ≤ (ofT T b).1.length ∧ (ofT T b).1.length ≤ T.length + 1 := by
 unfold ofT
 split
 · exact ⟨h, Nat.le_refl _, Nat.le_succ _⟩
 · rw [← doT_text]; exact doT_in h hn 2 0 0 _ hb
theorem putT_id {T : List Nd} {x : Nd} {ids : List Int} : (putT T x ids).2 ≤ T.length + 1 := by
 unfold putT
 split
 · exact Nat.zero_le _
 · cases hf : findT T x with
   | none => exact Nat.le_refl _
   | some j =>
    have : j < T.length := by
     unfold findT at hf
     rw [List.findIdx?_eq_some_iff_getElem] at hf
     exact hf.1
    show j + 1 ≤ _
    omega
theorem termB_le (T : List Nd) (b : List UInt8) : termB T b ≤ T.length := by
 unfold termB
 split
 · split
   · next h => exact h.2.1
   · exact Nat.zero_le _
 · exact Nat.zero_le _
theorem pairT_id (T : List Nd) (k : Nat) (a b : Int) : (pairT T k a b).2 ≤ T.length + 1 := by
 unfold pairT
 split
 · exact Nat.zero_le _
 · exact putT_id
def RetId (w0 w : World) (p g bm bs : Nat) (r : List Nd × Nat) (e : Ending) (w' : World) : Prop := e = .returned (.int .i64 (r.2 : Int)) ∧ SymS w0 w' p g bm bs r.1 ∧ FSt w w'
def RetHd (w0 w : World) (p g bm bs : Nat) (r : List Nd × Nat) (e : Ending) (w' : World) : Prop := ∃ v, e = .returned v ∧ Own w0 w' 5 1 v 32 ((handleL r.2).map u8c) ∧ SymS w0 w' p g bm bs r.1 ∧ FSt w w'
section
variable {w0 w : World} {p g bm bs : Nat} {T : List Nd}
end
end
section
open Go.RowKit
section
variable {w0 w : World} {p g bm bs : Nat} {T : List Nd}
theorem SymS.c0 (h : SymS w0 w p g bm bs T) : w.cell? ⟨p, 0, none⟩ = some (.pointer (some ⟨g, 0, none⟩)) := (h.blk.cell 0).trans rfl
theorem atomT_in {T : List Nd} (h : TIn T) (hn : T.length ≤ 1000) : TIn (atomT T).1 := by
 have := doT_in h hn 1 0 0 ByteArray.empty (by decide)
 rw [doT_atom] at this
 exact this.1
end
end
end Go.Proofs.YtdkmlmbehlooiaaGreatDoor
