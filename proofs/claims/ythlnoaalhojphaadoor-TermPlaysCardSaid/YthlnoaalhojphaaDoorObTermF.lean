/- The program's table of terms: a new one, atoms, texts, kdf, mix, enc. No condition. -/
import Derived.Test.YthlnoaalhojphaaDoorObTermE
namespace Go.Proofs.YthlnoaalhojphaaDoor
open Go.RowKit Go.Maps
set_option linter.unusedVariables false

theorem termNew_any (w : World) : Calls Tryd.prog 10 #[] w fun e w' => ∃ g bm, e = .returned (.pointer (some ⟨g, 0, none⟩)) ∧ TbF w w' g [] (.slice none 0 0) (.slice none 0 0) bm ∧ Gr w w' := by
  have hmm := @run_makeMap Tryd.prog
  go_enter Tryd.func10, Tryd.ntmps10
  go_wp2_with fail
  go_ret
  have hg : Gr w ((w.alloc (.map #[] 0)).alloc (.cells #[.slice none 0 0, .slice none 0 0, .map (some w.heap.size), .int .i64 0] 81)) := (Gr.alloc _ _).trans (Gr.alloc _ _)
  refine ⟨w.heap.size + 1, w.heap.size, rfl, ⟨⟨heap_alloc2_new w _ _, Own.nil' hg _ _, Own.nil' hg _ _, by omega, Nat.le_refl _⟩, ?_⟩, hg⟩
  have hm : mT (w.alloc (.map #[] 0)) w.heap.size [] := World.ownsMap_made _ _ _ _
  exact hm.keep ((Gr.alloc (w.alloc (.map #[] 0)) (.cells #[.slice none 0 0, .slice none 0 0, .map (some w.heap.size), .int .i64 0] 81)).block _ (by simp))
/-- An id that is none among the parts. -/
theorem found_out (w0 : World) (g : Nat) (T : List Nd) (vl vs : Value) (bm : Nat) (k0 a0 b0 : Int) (s : ByteArray) (xv : Value) (A : Option Addr) (m c : Nat) (ids : List Int) (w : World) (h : TbF w0 w g T vl vs bm) (hP : Is w A m c ids) (ho : ids.any (outside T.length) = true) :
    Calls Tryd.prog 51 #[.pointer (some ⟨g, 0, none⟩), .agg #[.int .i64 k0, .int .i64 a0, .int .i64 b0, .string s], xv, .slice A m c] w (RetT w0 w g bm vl vs (T, 0)) := by
  have hg := Gr.alloc w (.cells #[.int .i64 k0, .int .i64 a0, .int .i64 b0, .string s] 105)
  have HTH := Lib.hid (there_any g T.length A m c _ _ (h.rd.mono hg).len (hP.mono hg))
  have H := Lib.hid h; have HG := Lib.hid hg
  rw [ho] at HTH
  clear h hg hP ho
  go_enter Tryd.func51, Tryd.ntmps51
  go_wp2_with fail
  refine HTH.out.mono ?_
  rintro e w1 ⟨rfl, g1⟩
  have G1 := Lib.hid (HG.out.trans g1); clear g1
  go_wp2_with fail
  go_ret
  exact ⟨vl, vs, rfl, H.out.gr G1.out, TChM.gr G1.out⟩
theorem RetT.gr {w0 w w1 : World} {g bm : Nat} {vl vs : Value} {r : List Nd × Nat} {e : Ending} {w' : World} (hg : Gr w w1) (h : RetT w0 w1 g bm vl vs r e w') : RetT w0 w g bm vl vs r e w' := by
  obtain ⟨vl', vs', he, ht, hc⟩ := h
  exact ⟨vl', vs', he, ht, (TChM.gr hg).trans hc⟩
/-- What a table is to be. -/
structure TOk (T : List Nd) : Prop where
  fit : Fit' T
  uniq : Uniq T
  n : T.length ≤ 1000
theorem text_any (w0 : World) (g : Nat) (T : List Nd) (vl vs : Value) (bm : Nat) (s : ByteArray) (w : World) (h : TbF w0 w g T vl vs bm) (hT : TOk T) (hs : s.size ≤ maxLen) :
    Calls Tryd.prog 19 #[.pointer (some ⟨g, 0, none⟩), .string s] w (RetT w0 w g bm vl vs (putT T ⟨2, 0, 0, s, 0⟩ [])) := by
  have HF := Lib.hid (found_any w0 g T vl vs bm ⟨2, 0, 0, s, 0⟩ none 0 0 w h hT.fit hT.uniq ⟨by dsimp only; decide, by dsimp only; decide, by dsimp only; decide, hs⟩ ⟨by dsimp only; decide, by dsimp only; decide⟩ (Sl.nil _ _) hT.n)
  clear h hT hs
  go_enter Tryd.func19, Tryd.ntmps19
  go_wp2_with fail
  refine HF.out.mono ?_
  rintro e w1 ⟨vl', vs', rfl, h2, h3⟩
  have H2 := Lib.hid h2; have H3 := Lib.hid h3; clear h2 h3
  go_wp2_with fail
  go_ret
  exact ⟨vl', vs', rfl, H2.out, H3.out⟩
def kdfT (T : List Nd) (a : Int) (s : ByteArray) : List Nd × Nat := if outside T.length a then (T, 0) else putT T ⟨3, a.toNat, 0, s, 0⟩ [a]
def pairT (T : List Nd) (k : Nat) (a b : Int) : List Nd × Nat := if outside T.length a || outside T.length b then (T, 0) else putT T ⟨k, a.toNat, b.toNat, ByteArray.empty, 0⟩ [a, b]
theorem kdf_any (w0 : World) (g : Nat) (T : List Nd) (vl vs : Value) (bm : Nat) (a : Int) (s : ByteArray) (w : World) (h : TbF w0 w g T vl vs bm) (hT : TOk T) (hs : s.size ≤ maxLen) :
    Calls Tryd.prog 20 #[.pointer (some ⟨g, 0, none⟩), .int .i64 a, .string s] w (RetT w0 w g bm vl vs (kdfT T a s)) := by
  have hg := Gr.alloc w (.cells #[.int .i64 a] 3)
  unfold kdfT
  cases ho : outside T.length a with
  | true =>
    have HF := Lib.hid (found_out w0 g T vl vs bm 3 a 0 s (.iface 89 (.agg #[.int .i64 a, .string s])) (some ⟨w.heap.size, 0, none⟩) 1 1 [a] _ (h.gr hg) (is_one w a) (by simp [ho]))
    have HG := Lib.hid hg
    clear h hT hs ho hg
    go_enter Tryd.func20, Tryd.ntmps20
    go_wp2_with fail
    refine HF.out.mono ?_
    rintro e w1 ⟨vl', vs', rfl, h2, h3⟩
    have H2 := Lib.hid h2; have H3 := Lib.hid h3; clear h2 h3
    go_wp2_with fail
    go_ret
    exact ⟨vl', vs', rfl, H2.out, (TChM.gr HG.out).trans H3.out⟩
  | false =>
    have hin : 1 ≤ a ∧ a ≤ T.length := by unfold outside at ho; simp at ho; omega
    obtain ⟨n, rfl⟩ : ∃ n : Nat, a = n := ⟨a.toNat, by omega⟩
    have hn := hT.n
    have HF := Lib.hid (found_any w0 g T vl vs bm ⟨3, n, 0, s, 0⟩ (some ⟨w.heap.size, 0, none⟩) 1 1 _ (h.gr hg) hT.fit hT.uniq ⟨by dsimp only; decide, by show n ≤ _; omega, by dsimp only; decide, hs⟩ ⟨by dsimp only; decide, by dsimp only; decide⟩ (is_one w n) hT.n)
    have HG := Lib.hid hg
    clear h hT hs ho hg hin hn
    go_enter Tryd.func20, Tryd.ntmps20
    go_wp2_with fail
    refine HF.out.mono ?_
    rintro e w1 ⟨vl', vs', rfl, h2, h3⟩
    have H2 := Lib.hid h2; have H3 := Lib.hid h3; clear h2 h3
    go_wp2_with fail
    go_ret
    exact ⟨vl', vs', rfl, H2.out, (TChM.gr HG.out).trans H3.out⟩
theorem mix_any (w0 : World) (g : Nat) (T : List Nd) (vl vs : Value) (bm : Nat) (a b : Int) (w : World) (h : TbF w0 w g T vl vs bm) (hT : TOk T) :
    Calls Tryd.prog 21 #[.pointer (some ⟨g, 0, none⟩), .int .i64 a, .int .i64 b] w (RetT w0 w g bm vl vs (pairT T 4 a b)) := by
  have hg := Gr.alloc w (.cells #[.int .i64 a, .int .i64 b] 3)
  unfold pairT
  cases ho : outside T.length a || outside T.length b with
  | true =>
    have HF := Lib.hid (found_out w0 g T vl vs bm 4 a b ByteArray.empty (.iface 91 (.agg #[.int .i64 a, .int .i64 b])) (some ⟨w.heap.size, 0, none⟩) 2 2 [a, b] _ (h.gr hg) (is_two w a b) (by simpa using ho))
    have HG := Lib.hid hg
    clear h hT ho hg
    go_enter Tryd.func21, Tryd.ntmps21
    go_wp2_with fail
    refine HF.out.mono ?_
    rintro e w1 ⟨vl', vs', rfl, h2, h3⟩
    have H2 := Lib.hid h2; have H3 := Lib.hid h3; clear h2 h3
    go_wp2_with fail
    go_ret
    exact ⟨vl', vs', rfl, H2.out, (TChM.gr HG.out).trans H3.out⟩
  | false =>
    rw [Bool.or_eq_false_iff] at ho
    have hin : (1 ≤ a ∧ a ≤ T.length) ∧ (1 ≤ b ∧ b ≤ T.length) := by unfold outside at ho; simp at ho; omega
    obtain ⟨n, rfl⟩ : ∃ n : Nat, a = n := ⟨a.toNat, by omega⟩
    obtain ⟨m, rfl⟩ : ∃ m : Nat, b = m := ⟨b.toNat, by omega⟩
    have hn := hT.n
    have HF := Lib.hid (found_any w0 g T vl vs bm ⟨4, n, m, ByteArray.empty, 0⟩ (some ⟨w.heap.size, 0, none⟩) 2 2 _ (h.gr hg) hT.fit hT.uniq ⟨by dsimp only; decide, by show n ≤ _; omega, by show m ≤ _; omega, by dsimp only; decide⟩ ⟨by dsimp only; decide, by dsimp only; decide⟩ (is_two w n m) hT.n)
    have HG := Lib.hid hg
    clear h hT ho hg hin hn
    go_enter Tryd.func21, Tryd.ntmps21
    go_wp2_with fail
    refine HF.out.mono ?_
    rintro e w1 ⟨vl', vs', rfl, h2, h3⟩
    have H2 := Lib.hid h2; have H3 := Lib.hid h3; clear h2 h3
    go_wp2_with fail
    go_ret
    exact ⟨vl', vs', rfl, H2.out, (TChM.gr HG.out).trans H3.out⟩
theorem enc_any (w0 : World) (g : Nat) (T : List Nd) (vl vs : Value) (bm : Nat) (a b : Int) (w : World) (h : TbF w0 w g T vl vs bm) (hT : TOk T) :
    Calls Tryd.prog 22 #[.pointer (some ⟨g, 0, none⟩), .int .i64 a, .int .i64 b] w (RetT w0 w g bm vl vs (pairT T 5 a b)) := by
  have hg := Gr.alloc w (.cells #[.int .i64 a, .int .i64 b] 3)
  unfold pairT
  cases ho : outside T.length a || outside T.length b with
  | true =>
    have HF := Lib.hid (found_out w0 g T vl vs bm 5 a b ByteArray.empty (.iface 93 (.agg #[.int .i64 a, .int .i64 b])) (some ⟨w.heap.size, 0, none⟩) 2 2 [a, b] _ (h.gr hg) (is_two w a b) (by simpa using ho))
    have HG := Lib.hid hg
    clear h hT ho hg
    go_enter Tryd.func22, Tryd.ntmps22
    go_wp2_with fail
    refine HF.out.mono ?_
    rintro e w1 ⟨vl', vs', rfl, h2, h3⟩
    have H2 := Lib.hid h2; have H3 := Lib.hid h3; clear h2 h3
    go_wp2_with fail
    go_ret
    exact ⟨vl', vs', rfl, H2.out, (TChM.gr HG.out).trans H3.out⟩
  | false =>
    rw [Bool.or_eq_false_iff] at ho
    have hin : (1 ≤ a ∧ a ≤ T.length) ∧ (1 ≤ b ∧ b ≤ T.length) := by unfold outside at ho; simp at ho; omega
    obtain ⟨n, rfl⟩ : ∃ n : Nat, a = n := ⟨a.toNat, by omega⟩
    obtain ⟨m, rfl⟩ : ∃ m : Nat, b = m := ⟨b.toNat, by omega⟩
    have hn := hT.n
    have HF := Lib.hid (found_any w0 g T vl vs bm ⟨5, n, m, ByteArray.empty, 0⟩ (some ⟨w.heap.size, 0, none⟩) 2 2 _ (h.gr hg) hT.fit hT.uniq ⟨by dsimp only; decide, by show n ≤ _; omega, by show m ≤ _; omega, by dsimp only; decide⟩ ⟨by dsimp only; decide, by dsimp only; decide⟩ (is_two w n m) hT.n)
    have HG := Lib.hid hg
    clear h hT ho hg hin hn
    go_enter Tryd.func22, Tryd.ntmps22
    go_wp2_with fail
    refine HF.out.mono ?_
    rintro e w1 ⟨vl', vs', rfl, h2, h3⟩
    have H2 := Lib.hid h2; have H3 := Lib.hid h3; clear h2 h3
    go_wp2_with fail
    go_ret
    exact ⟨vl', vs', rfl, H2.out, (TChM.gr HG.out).trans H3.out⟩
end Go.Proofs.YthlnoaalhojphaaDoor
