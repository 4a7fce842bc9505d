/- Own texts of this claim, one behind the other. No condition. -/
import Derived.Test.YtplddbaggbdbiaaDoorObPkAE
import Derived.Test.YtplddbaggbdbiaaDoorObPkBF
import Derived.Test.YtplddbaggbdbiaaDoorObPkBG

namespace Go.Proofs.YtplddbaggbdbiaaDoor
open Go.RowKit
set_option linter.unusedVariables false

/-! ### ratchet.At: no key, and a kept key -/
/-- No key, no chain, a fault. -/
def RetNone (w : World) (f : Int) (e : Ending) (w' : World) : Prop :=
  e = .returned (.tuple #[.slice none 0 0, .agg #[.int .i64 0, .slice none 0 0, .slice none 0 0], .int .i64 f]) ∧ Below w.heap.size w w'
set_option maxHeartbeats 1000000 in
theorem atUsed_any (S : Value) (p0 : Int) (A B : Option Addr) (n c m d : Nat) (L : List Wr) (gen win : Int) (w : World) (hL : Wrs w B m d L) (hp1 : 0 ≤ p0) (hg0 : 0 ≤ gen) (hg : gen < 1073741824) (hw1 : 1 ≤ win) (hw2 : win ≤ 8) (t1 : gen < p0) (t2 : idxK gen L < 0) :
    Calls Tryd.prog 14 #[S, .agg #[.int .i64 p0, .slice A n c, .slice B m d], .int .i64 gen, .int .i64 win] w (RetNone w 9) := by
  obtain ⟨W, hW⟩ : ∃ W, W = (w.alloc (.cells #[.int .i64 p0, .slice A n c, .slice B m d] 41)).alloc (.cells #[.int .i64 0, .slice none 0 0, .slice none 0 0] 41) := ⟨_, rfl⟩
  have hBW : Below w.heap.size w W := by rw [hW]; exact ((Below.refl _ _).alloc (Nat.le_refl _) _).alloc (by simp) _
  have hb0 : Blk W w.heap.size 41 [.int .i64 p0, .slice A n c, .slice B m d] := by rw [hW]; exact (Blk.new w 41 #[.int .i64 p0, .slice A n c, .slice B m d]).alloc _
  have hb1 : Blk W (w.heap.size + 1) 41 [.int .i64 0, .slice none 0 0, .slice none 0 0] := by
    rw [hW]
    exact heap_alloc2_new w _ _
  have HP := Lib.hid (place_any p0 A B n c m d L gen W (hL.mono hBW))
  have hll : L.length = m := hL.1
  have HB0 := Lib.hid hb0; have HB1 := Lib.hid hb1; have HBW := Lib.hid hBW; have HW := Lib.hid hW
  have HL := Lib.hid hL; have HLL := Lib.hid hll
  clear hL hb0 hb1 hBW hW hll
  generalize idxK gen L = r at *
  go_enter Tryd.func14, Tryd.ntmps14
  go_wp2_with fail
  go_step3
  go_wp2_with fail
  rw [← HW.out]
  refine HP.out.mono ?_
  rintro e w1 ⟨rfl, b1⟩
  have BK1 := Lib.hid (HB0.out.mono b1); have BR1 := Lib.hid (HB1.out.mono b1); have BW1 := Lib.hid (below_both HBW.out b1)
  have k0 : w1.cell? ⟨w.heap.size, 0, none⟩ = some (.int .i64 p0) := (BK1.out.cell 0).trans rfl
  clear b1
  go_wp2_with (first
    | (refine wpList_store_ch rfl (.tmp 9) (.tmp 48) rfl (w.heap.size + 1) 0 none none 0 0 0 0 rfl rfl BR1.out ?_))
  try rw [Exit.noGoto_ret]
  have hBK : Blk (w1.setRow (w.heap.size + 1) #[.int .i64 0, .slice none 0 0, .slice none 0 0]) (w.heap.size + 1) 41 [.int .i64 0, .slice none 0 0, .slice none 0 0] := setRow_heap w1 (w.heap.size + 1) _ _ _ _ BR1.out
  have q0 : (w1.setRow (w.heap.size + 1) #[.int .i64 0, .slice none 0 0, .slice none 0 0]).cell? ⟨w.heap.size + 1, 0, none⟩ = some (.int .i64 0) := (hBK.cell 0).trans rfl
  have q1 : (w1.setRow (w.heap.size + 1) #[.int .i64 0, .slice none 0 0, .slice none 0 0]).cell? ⟨w.heap.size + 1, 1, none⟩ = some (.slice none 0 0) := (hBK.cell 1).trans rfl
  have q2 : (w1.setRow (w.heap.size + 1) #[.int .i64 0, .slice none 0 0, .slice none 0 0]).cell? ⟨w.heap.size + 1, 2, none⟩ = some (.slice none 0 0) := (hBK.cell 2).trans rfl
  exact bodyPost_ret (v := .tuple #[.slice none 0 0, .agg #[.int .i64 0, .slice none 0 0, .slice none 0 0], .int .i64 9]) (by simp [results, Tryd.results14, go_sem, q0, q1, q2]) rfl ⟨rfl, below_row BW1.out (by omega) _⟩
set_option maxHeartbeats 1000000 in
theorem atWindow_any (S : Value) (p0 : Int) (A B : Option Addr) (n c m d : Nat) (L : List Wr) (gen win : Int) (w : World) (hL : Wrs w B m d L) (hp1 : 0 ≤ p0) (hg : gen < 1073741824) (hw1 : 1 ≤ win) (hw2 : win ≤ 8) (t1 : p0 ≤ gen) (t2 : win < gen - p0) :
    Calls Tryd.prog 14 #[S, .agg #[.int .i64 p0, .slice A n c, .slice B m d], .int .i64 gen, .int .i64 win] w (RetNone w 10) := by
  obtain ⟨W, hW⟩ : ∃ W, W = (w.alloc (.cells #[.int .i64 p0, .slice A n c, .slice B m d] 41)).alloc (.cells #[.int .i64 0, .slice none 0 0, .slice none 0 0] 41) := ⟨_, rfl⟩
  have hBW : Below w.heap.size w W := by rw [hW]; exact ((Below.refl _ _).alloc (Nat.le_refl _) _).alloc (by simp) _
  have hb0 : Blk W w.heap.size 41 [.int .i64 p0, .slice A n c, .slice B m d] := by rw [hW]; exact (Blk.new w 41 #[.int .i64 p0, .slice A n c, .slice B m d]).alloc _
  have hb1 : Blk W (w.heap.size + 1) 41 [.int .i64 0, .slice none 0 0, .slice none 0 0] := by
    rw [hW]
    exact heap_alloc2_new w _ _
  have HP := Lib.hid (place_any p0 A B n c m d L gen W (hL.mono hBW))
  have hll : L.length = m := hL.1
  have HB0 := Lib.hid hb0; have HB1 := Lib.hid hb1; have HBW := Lib.hid hBW; have HW := Lib.hid hW
  have HL := Lib.hid hL; have HLL := Lib.hid hll
  clear hL hb0 hb1 hBW hW hll
  generalize idxK gen L = r at *
  go_enter Tryd.func14, Tryd.ntmps14
  go_wp2_with fail
  go_step3
  go_wp2_with fail
  rw [← HW.out]
  refine HP.out.mono ?_
  rintro e w1 ⟨rfl, b1⟩
  have BK1 := Lib.hid (HB0.out.mono b1); have BR1 := Lib.hid (HB1.out.mono b1); have BW1 := Lib.hid (below_both HBW.out b1)
  have k0 : w1.cell? ⟨w.heap.size, 0, none⟩ = some (.int .i64 p0) := (BK1.out.cell 0).trans rfl
  clear b1
  have hwr : IntKind.i64.wrap (gen - p0) = gen - p0 := IntWalk.i64_in _ (by omega)
  go_wp2_with (first
    | (refine wpList_store_ch rfl (.tmp 9) (.tmp 81) rfl (w.heap.size + 1) 0 none none 0 0 0 0 rfl rfl BR1.out ?_))
  try rw [Exit.noGoto_ret]
  have hBK : Blk (w1.setRow (w.heap.size + 1) #[.int .i64 0, .slice none 0 0, .slice none 0 0]) (w.heap.size + 1) 41 [.int .i64 0, .slice none 0 0, .slice none 0 0] := setRow_heap w1 (w.heap.size + 1) _ _ _ _ BR1.out
  have q0 : (w1.setRow (w.heap.size + 1) #[.int .i64 0, .slice none 0 0, .slice none 0 0]).cell? ⟨w.heap.size + 1, 0, none⟩ = some (.int .i64 0) := (hBK.cell 0).trans rfl
  have q1 : (w1.setRow (w.heap.size + 1) #[.int .i64 0, .slice none 0 0, .slice none 0 0]).cell? ⟨w.heap.size + 1, 1, none⟩ = some (.slice none 0 0) := (hBK.cell 1).trans rfl
  have q2 : (w1.setRow (w.heap.size + 1) #[.int .i64 0, .slice none 0 0, .slice none 0 0]).cell? ⟨w.heap.size + 1, 2, none⟩ = some (.slice none 0 0) := (hBK.cell 2).trans rfl
  exact bodyPost_ret (v := .tuple #[.slice none 0 0, .agg #[.int .i64 0, .slice none 0 0, .slice none 0 0], .int .i64 10]) (by simp [results, Tryd.results14, go_sem, q0, q1, q2]) rfl ⟨rfl, below_row BW1.out (by omega) _⟩
/-- The rows of the call's own, in a block. -/
theorem OwnK.block {t : TypeId} {w0 w : World} {v : Value} {M : List Wr} (h : OwnK t w0 w v M) (hm : 0 < M.length) : ∃ g c cs, v = .slice (some ⟨g, 0, none⟩) M.length c ∧ w0.heap.size ≤ g ∧ Blk w g t cs ∧ M.length ≤ c ∧ c ≤ maxLen ∧ cs.length = c * 2 ∧ cs.take (M.length * 2) = M.flatMap Wr.cells := by
  obtain ⟨⟨⟨hl, ho⟩, _⟩, _⟩ := h
  rcases ho with ⟨_, h0⟩ | ⟨g, cap, cur, hv, hg, hh, r1, r2, r3, r4⟩
  · omega
  · exact ⟨g, cap, cur.toList, hv, hg, hh, r1, r2, by simpa using r3, r4⟩
/-- A chain in new memory, its bytes apart from its rows. -/
def RetChA (w : World) (g : Int) (cur : List UInt8) (K : List (Int × List UInt8)) (e : Ending) (w' : World) : Prop :=
  ∃ A c v M, e = .returned (.agg #[.int .i64 g, .slice A cur.length c, v]) ∧ Bs w' A cur.length c cur ∧ OwnK 54 w w' v M ∧ (∀ x ∈ M, FreshK w x.r) ∧ M.map Wr.kk = K ∧ FreshA w A ∧ Below w.heap.size w w' ∧ Apart v ⟨A, cur.length, c, cur⟩
set_option maxRecDepth 100000 in
set_option maxHeartbeats 2000000 in
theorem dropA_any (p0 : Int) (A B : Option Addr) (n c m d : Nat) (cur : List UInt8) (L : List Wr) (nn : Int) (w : World) (hcur : Bs w A n c cur) (hn : n ≤ 50000) (hL : Wrs w B m d L) (hm : m ≤ 1000) (hrow : ∀ x ∈ L, x.r.n ≤ 20000) (hn1 : -9223372036854775808 ≤ nn) (hn2 : nn ≤ 9223372036854775807) :
    Calls Tryd.prog 39 #[.agg #[.int .i64 p0, .slice A n c, .slice B m d], .int .i64 nn] w (RetChA w p0 cur ((L.drop (m - nn.toNat)).map Wr.kk)) := by
  have hcl : cur.length = n := by have := Sl.len hcur; simpa using this
  subst hcl
  have hcap := hL.2.1.cap
  have hmax := hL.2.1.max
  obtain ⟨kk, hkk⟩ : ∃ kk, kk = m - nn.toNat := ⟨_, rfl⟩
  obtain ⟨A', hA', hrun⟩ := run_from3 tSk B m d kk (by omega) hcap
  obtain ⟨W, hW⟩ : ∃ W, W = (w.alloc (.cells #[.int .i64 p0, .slice A cur.length c, .slice B m d] 41)).alloc (.cells #[.int .i64 0, .slice none 0 0, .slice none 0 0] 41) := ⟨_, rfl⟩
  have hBW : Below w.heap.size w W := by rw [hW]; exact ((Below.refl _ _).alloc (Nat.le_refl _) _).alloc (by simp) _
  have hb0 : Blk W w.heap.size 41 [.int .i64 p0, .slice A cur.length c, .slice B m d] := by rw [hW]; exact (Blk.new w 41 #[.int .i64 p0, .slice A cur.length c, .slice B m d]).alloc _
  have hb1 : Blk W (w.heap.size + 1) 41 [.int .i64 0, .slice none 0 0, .slice none 0 0] := by
    rw [hW]
    exact heap_alloc2_new w _ _
  have hzW : W.heap.size = w.heap.size + 1 + 1 := by rw [hW]; simp
  have HC := Lib.hid (clone_any A _ c cur W.drew ((hcur.mono hBW).mono (Below.refl _ _).drew) (by omega))
  have HD : Hid (∀ W', Below W.heap.size W W' → Calls Tryd.prog 69 #[.slice A' (m - kk) (m - kk)] W' (RetOwnK W' (L.drop kk))) := fun W' hW' => copiedK_any A' _ _ (L.drop kk) W' ((hL.fromK (by omega) hA').mono (below_both hBW hW')) (by omega) (fun x hx => hrow x (List.mem_of_mem_drop hx))
  have x1 : W.cell? ⟨w.heap.size, 1, none⟩ = some (.slice A cur.length c) := (hb0.cell 1).trans rfl
  have HB0 := Lib.hid hb0; have HB1 := Lib.hid hb1; have HBW := Lib.hid hBW; have HZ := Lib.hid hzW; have HW := Lib.hid hW
  have HKK := Lib.hid hkk
  have hmx : max 0 ((m : Int) - max nn 0) = (kk : Int) := by omega
  have HMX := Lib.hid hmx; clear hmx
  clear hcur hL hb0 hb1 hBW hzW hW hA' hrow
  rw [← hkk]
  clear hkk
  go_enter Tryd.func39, Tryd.ntmps39
  go_wp2_with fail
  rw [HMX.out, ← HW.out]
  go_region_law (first
    | (go_simp; go_at_call 32; refine HC.out.mono ?_; rintro e w1 ⟨v1, rfl, own1⟩; obtain ⟨A1, c1, rfl, s1⟩ := own1.slice; have B1 : Hid (Below W.heap.size W w1) := ((Below.refl W.heap.size W).drew).trans own1.below; have S1 := Lib.hid s1; have O1 := Lib.hid own1; clear own1 s1)
    | (go_simp; go_at_call 69; refine (HD.out w1 B1.out).mono ?_; rintro e w2 ⟨v2, M2, rfl, own2, fr2, hk2⟩; obtain ⟨A2, c2, rfl, wr2⟩ := own2.wrs; have B2 : Hid (Below W.heap.size W w2) := below_both B1.out own2.1.below; have BK2 : Hid (Blk w2 w.heap.size 41 [.int .i64 p0, .slice A cur.length c, .slice B m d]) := HB0.out.mono B2.out; have O2 := Lib.hid own2; have F2 := Lib.hid fr2; have AP2 : Hid (Apart (.slice A2 M2.length c2) ⟨A1, cur.length, c1, cur⟩) := Apart.old own2.1 S1.out; have K2 := Lib.hid hk2; have S2 := Lib.hid (S1.out.mono own2.1.below); have z1 : w2.cell? ⟨w.heap.size, 1, none⟩ = some (.slice A cur.length c) := (BK2.out.cell 1).trans rfl; have z2 : w2.cell? ⟨w.heap.size, 2, none⟩ = some (.slice B m d) := (BK2.out.cell 2).trans rfl; have y1 := BK2.out.free 1; have y2 := BK2.out.free 2; clear own2 fr2 hk2 wr2))
  all_goals
    obtain ⟨W3, hW3⟩ : ∃ W3, W3 = (w2.setCell ⟨w.heap.size, 1, none⟩ (.slice A1 cur.length c1)).setCell ⟨w.heap.size, 2, none⟩ (.slice A2 M2.length c2) := ⟨_, rfl⟩
    have BK3 : Hid (Blk W3 w.heap.size 41 [.int .i64 p0, .slice A1 cur.length c1, .slice A2 M2.length c2]) := by rw [hW3]; exact (BK2.out.set 1 _).set 2 _
    have BR3 : Hid (Blk W3 (w.heap.size + 1) 41 [.int .i64 0, .slice none 0 0, .slice none 0 0]) := by
      rw [hW3]
      exact ((HB1.out.mono B2.out).far (p := ⟨w.heap.size, 1, none⟩) (by simp) _).far (p := ⟨w.heap.size, 2, none⟩) (by simp) _
    have OTH : Hid (∀ b, b ≠ w.heap.size → W3.heap[b]? = w2.heap[b]?) := by
      intro b hb
      rw [hW3, Below.heap_setCell _ _ _ b hb, Below.heap_setCell _ _ _ b hb]
    have BW3 : Hid (Below w.heap.size w W3) := by
      rw [hW3]
      exact ((below_both HBW.out B2.out).setCell (p := ⟨w.heap.size, 1, none⟩) (Nat.le_refl _) _).setCell (p := ⟨w.heap.size, 2, none⟩) (Nat.le_refl _) _
    rw [← hW3]
    clear hW3 z1 z2 y1 y2 x1
    go_wp2_with (first
      | (refine wpList_load_row rfl 41 (.tmp 2) rfl w.heap.size rfl 41 #[.int .i64 p0, .slice A1 cur.length c1, .slice A2 M2.length c2] (0, 0) _ BK3.out Tryd.underlying41 rfl chSize ?_)
      | (refine wpList_store_ch rfl (.tmp 4) (.tmp 28) rfl (w.heap.size + 1) p0 A1 A2 cur.length c1 M2.length c2 rfl rfl BR3.out ?_))
    have hz := HZ.out
    have hN : (W3.setRow (w.heap.size + 1) #[.int .i64 p0, .slice A1 cur.length c1, .slice A2 M2.length c2]).heap[w.heap.size + 1]? = some (.cells #[.int .i64 p0, .slice A1 cur.length c1, .slice A2 M2.length c2] 41 (0, 0)) := setRow_heap W3 (w.heap.size + 1) _ _ _ _ BR3.out
    have hB4 : Below w.heap.size w (W3.setRow (w.heap.size + 1) #[.int .i64 p0, .slice A1 cur.length c1, .slice A2 M2.length c2]) := below_row BW3.out (by omega) _
    have hoth : ∀ b, W.heap.size ≤ b → (W3.setRow (w.heap.size + 1) #[.int .i64 p0, .slice A1 cur.length c1, .slice A2 M2.length c2]).heap[b]? = w2.heap[b]? := fun b hb => (setRow_other W3 (w.heap.size + 1) b _ (by omega)).trans (OTH.out b (by omega))
    have hS : Bs (W3.setRow (w.heap.size + 1) #[.int .i64 p0, .slice A1 cur.length c1, .slice A2 M2.length c2]) A1 cur.length c1 cur := Sl.keepB S2.out (fun b o e => hoth b ((O1.out.1.lt b (by rw [e]; rfl)).1))
    have hO : OwnK 54 w (W3.setRow (w.heap.size + 1) #[.int .i64 p0, .slice A1 cur.length c1, .slice A2 M2.length c2]) (.slice A2 M2.length c2) M2 := O2.out.carry F2.out hB4 (by have := B1.out.size; omega) (fun b hb => hoth b (by have := B1.out.size; omega))
    exact bodyPost_ret (v := .agg #[.int .i64 p0, .slice A1 cur.length c1, .slice A2 M2.length c2]) (results_cell_row Tryd.results39 _ _ (w.heap.size + 1) 41 _ (0, 0) _ rfl hN Tryd.underlying41 rfl chSize) rfl ⟨A1, c1, .slice A2 M2.length c2, M2, rfl, hS, hO, (fun x hx b o h0 e => by have h1 := F2.out x hx b o h0 e; have h2 := B1.out.size; omega), K2.out, (fun b o e => by have h1 : W.heap.size ≤ b := (O1.out.1.lt b (by rw [e]; rfl)).1; omega), hB4, AP2.out⟩
theorem Bs.keepC' {w w' : World} {A : Option Addr} {n c : Nat} {l : List UInt8} {p : Nat} {t : TypeId} {g : Int} {B B' : Option Addr} {m k m' k' : Nat} (h : Bs w A n c l) (hb : Blk w p t [.int .i64 g, .slice B m k, .slice B' m' k']) (ho : ∀ b, b < w.heap.size → b ≠ p → w'.heap[b]? = w.heap[b]?) : Bs w' A n c l := by
  rcases Nat.eq_zero_or_pos n with h0 | h0
  · exact ⟨h.1, h.2.1, h.2.2.1, fun h => absurd h (by omega)⟩
  · refine Sl.keepB h (fun b o e => ho b (Bs.lt (r := ⟨A, n, c, l⟩) h h0 b o e) (bs_farC h h0 hb b o e))
theorem erase_map {α β : Type} (f : α → β) : ∀ (L : List α) (k : Nat), (L.eraseIdx k).map f = (L.map f).eraseIdx k
  | [], _ => rfl
  | _ :: _, 0 => rfl
  | x :: L, k + 1 => by simp [List.eraseIdx_cons_succ, erase_map f L k]
theorem kk_at {M L : List Wr} {k : Nat} {x y : Wr} (h : M.map Wr.kk = L.map Wr.kk) (hy : M[k]? = some y) (hx : L[k]? = some x) : y.kk = x.kk := by
  have e : (M.map Wr.kk)[k]? = (L.map Wr.kk)[k]? := by rw [h]
  rw [List.getElem?_map, List.getElem?_map, hy, hx] at e
  exact Option.some.inj e
theorem row_at {M : List Wr} {cs : List Value} {m k : Nat} {y : Wr} (h : cs.take (m * 2) = M.flatMap Wr.cells) (hk : k < m) (hy : M[k]? = some y) : cs[k * 2 + 1]? = some (.slice y.r.a y.r.n y.r.c) := by
  have h2 := flat_at Wr.cells_len M k 1 (by omega) y hy
  rw [← h, List.getElem?_take_of_lt (by omega)] at h2
  exact h2
set_option maxRecDepth 100000 in
set_option maxHeartbeats 2000000 in
theorem atKept_any (S : Value) (p0 : Int) (A B : Option Addr) (n c m d : Nat) (cur : List UInt8) (L : List Wr) (gen win : Int) (k : Nat) (x : Wr) (w : World) (hcur : Bs w A n c cur) (hn : n ≤ 50000) (hL : Wrs w B m d L) (hm : m ≤ 100) (hrow : ∀ x ∈ L, x.r.n ≤ 20000) (hp1 : 0 ≤ p0) (hg0 : 0 ≤ gen) (hg : gen < 1073741824) (hw1 : 1 ≤ win) (hw2 : win ≤ 8) (t1 : gen < p0) (hx : L[k]? = some x) (hk : idxK gen L = (k : Int)) :
    Calls Tryd.prog 14 #[S, .agg #[.int .i64 p0, .slice A n c, .slice B m d], .int .i64 gen, .int .i64 win] w (RetAt w p0 cur x.r.l ((L.map Wr.kk).eraseIdx k)) := by
  have hkm : k < m := by have := (List.getElem?_eq_some_iff.1 hx).1; rw [hL.1] at this; exact this
  obtain ⟨W, hW⟩ : ∃ W, W = (w.alloc (.cells #[.int .i64 p0, .slice A n c, .slice B m d] 41)).alloc (.cells #[.int .i64 0, .slice none 0 0, .slice none 0 0] 41) := ⟨_, rfl⟩
  have hBW : Below w.heap.size w W := by rw [hW]; exact ((Below.refl _ _).alloc (Nat.le_refl _) _).alloc (by simp) _
  have hb0 : Blk W w.heap.size 41 [.int .i64 p0, .slice A n c, .slice B m d] := by rw [hW]; exact (Blk.new w 41 #[.int .i64 p0, .slice A n c, .slice B m d]).alloc _
  have hb1 : Blk W (w.heap.size + 1) 41 [.int .i64 0, .slice none 0 0, .slice none 0 0] := by
    rw [hW]
    exact heap_alloc2_new w _ _
  have HP := Lib.hid (place_any p0 A B n c m d L gen W (hL.mono hBW))
  have hll : L.length = m := hL.1
  have HB0 := Lib.hid hb0; have HB1 := Lib.hid hb1; have HBW := Lib.hid hBW; have HW := Lib.hid hW
  have HL := Lib.hid hL; have HLL := Lib.hid hll
  clear hL hb0 hb1 hBW hW hll
  rw [hk] at HP
  have HDR : Hid (∀ W, Below w.heap.size w W → Calls Tryd.prog 39 #[.agg #[.int .i64 p0, .slice A n c, .slice B m d], .int .i64 (m : Int)] W (RetChA W p0 cur (L.map Wr.kk))) := fun W hW => by
    have := dropA_any p0 A B n c m d cur L m W (hcur.mono hW) hn (HL.out.mono hW) (by omega) hrow (by omega) (by omega)
    rw [show m - (m : Int).toNat = 0 by omega] at this
    exact this
  have HX := Lib.hid hx; have HRW := Lib.hid hrow; have HCU := Lib.hid hcur
  clear hk hx hrow hcur
  have f1 : (0 : Int) ≤ k := by omega
  go_enter Tryd.func14, Tryd.ntmps14
  go_wp2_with fail
  go_step3
  go_wp2_with fail
  rw [← HW.out]
  refine HP.out.mono ?_
  rintro e w1 ⟨rfl, b1⟩
  have BK1 := Lib.hid (HB0.out.mono b1); have BR1 := Lib.hid (HB1.out.mono b1); have BW1 := Lib.hid (below_both HBW.out b1)
  have k0 : w1.cell? ⟨w.heap.size, 0, none⟩ = some (.int .i64 p0) := (BK1.out.cell 0).trans rfl
  clear b1
  have k1 : w1.cell? ⟨w.heap.size, 1, none⟩ = some (.slice A n c) := (BK1.out.cell 1).trans rfl
  have k2 : w1.cell? ⟨w.heap.size, 2, none⟩ = some (.slice B m d) := (BK1.out.cell 2).trans rfl
  have LT1 : Hid (w.heap.size + 1 < w1.heap.size) := BR1.out.lt
  go_wp2_with (first
    | (go_at_call 39; refine (HDR.out w1 BW1.out).mono ?_; rintro e w2 ⟨A2, c2, v2, M2, rfl, s2, o2, f2, k2', fa2, b2, ap2⟩; have hml : M2.length = m := (by have := congrArg List.length k2'; rw [List.length_map, List.length_map, HLL.out] at this; exact this); obtain ⟨g2, d2, cs2, rfl, hg2, hbk2, hc1, hc2, hc3, hc4⟩ := o2.block (by rw [hml]; exact Nat.lt_of_le_of_lt (Nat.zero_le k) hkm); rw [hml] at o2 ap2 hc1 hc4; rw [hml]; have AP2 := Lib.hid ap2; obtain ⟨y, hy⟩ : ∃ y, M2[k]? = some y := ⟨M2[k]'(by rw [hml]; exact hkm), List.getElem?_eq_getElem _⟩; have hyk : y.kk = x.kk := kk_at k2' hy HX.out; have hyc : cs2[k * 2 + 1]? = some (.slice y.r.a y.r.n y.r.c) := row_at hc4 hkm hy; have HY := Lib.hid hy; have HYK := Lib.hid hyk; have HYC := Lib.hid hyc; clear hy hyk hyc; have S2 := Lib.hid s2; have O2 := Lib.hid o2; have F2 := Lib.hid f2; have K2 := Lib.hid k2'; have FA2 := Lib.hid fa2; have B2' := Lib.hid b2; have BK2 := Lib.hid (BK1.out.mono b2); have BR2 := Lib.hid (BR1.out.mono b2); have HG2 := Lib.hid hg2; have HBK2 := Lib.hid hbk2; have HC1 := Lib.hid hc1; have HC2 := Lib.hid hc2; have HC3 := Lib.hid hc3; have HC4 := Lib.hid hc4; have HML := Lib.hid hml; clear s2 o2 f2 k2' fa2 b2 ap2 hg2 hbk2 hc1 hc2 hc3 hc4 hml k0 k1 k2)
    | (refine wpList_store_ch rfl (.tmp 5) (.tmp 58) rfl w.heap.size p0 A2 (some ⟨g2, 0, none⟩) cur.length c2 m d2 rfl rfl BK2.out ?_; obtain ⟨W3, hW3⟩ : ∃ W3, W3 = w2.setRow w.heap.size #[.int .i64 p0, .slice A2 cur.length c2, .slice (some ⟨g2, 0, none⟩) m d2] := ⟨_, rfl⟩; have BK3 : Hid (Blk W3 w.heap.size 41 [.int .i64 p0, .slice A2 cur.length c2, .slice (some ⟨g2, 0, none⟩) m d2]) := (by rw [hW3]; exact setRow_heap w2 w.heap.size _ _ _ _ BK2.out); have OT3 : Hid (∀ b, b ≠ w.heap.size → W3.heap[b]? = w2.heap[b]?) := (fun b hb => by rw [hW3]; exact setRow_other w2 w.heap.size b _ hb); have BW3 : Hid (Below w.heap.size w W3) := (by rw [hW3]; exact below_row (below_both BW1.out B2'.out) (Nat.le_refl _) _); rw [← hW3]; clear hW3; have HG3 : Hid (Blk W3 g2 54 cs2) := (OT3.out g2 (by have := HG2.out; have := LT1.out; omega)).trans HBK2.out; have kr : W3.cell? ⟨g2, k * 2 + 1, none⟩ = some (.slice y.r.a y.r.n y.r.c) := (HG3.out.cell _).trans HYC.out; have HDE := Lib.hid (deleteK_any g2 m d2 k M2 cs2 W3 HG3.out HC3.out HML.out HC1.out HC2.out HC4.out hkm (by omega)); have k0 : W3.cell? ⟨w.heap.size, 0, none⟩ = some (.int .i64 p0) := (BK3.out.cell 0).trans rfl; have k1 : W3.cell? ⟨w.heap.size, 1, none⟩ = some (.slice A2 cur.length c2) := (BK3.out.cell 1).trans rfl; have k2 : W3.cell? ⟨w.heap.size, 2, none⟩ = some (.slice (some ⟨g2, 0, none⟩) m d2) := (BK3.out.cell 2).trans rfl)
    | (go_at_call 40; refine HDE.out.mono ?_; rintro e w4 ⟨cs4, n4, rfl, hn4, hb4, hl4, ht4, ho4, hbe4⟩; have HN4 := Lib.hid hn4; have HB4 := Lib.hid hb4; have HL4 := Lib.hid hl4; have HT4 := Lib.hid ht4; have HO4 := Lib.hid ho4; have HBE4 := Lib.hid hbe4; have BK4 : Hid (Blk w4 w.heap.size 41 [.int .i64 p0, .slice A2 cur.length c2, .slice (some ⟨g2, 0, none⟩) m d2]) := (ho4 w.heap.size (by have := HG2.out; have := LT1.out; omega)).trans BK3.out; have z2 : w4.cell? ⟨w.heap.size, 2, none⟩ = some (.slice (some ⟨g2, 0, none⟩) m d2) := (BK4.out.cell 2).trans rfl; have y2 := BK4.out.free 2; clear hn4 hb4 hl4 ht4 ho4 hbe4 k0 k1 k2 kr))
  obtain ⟨W5, hW5⟩ : ∃ W5, W5 = w4.setCell ⟨w.heap.size, 2, none⟩ (.slice (some ⟨g2, 0, none⟩) n4 d2) := ⟨_, rfl⟩
  have BK5 : Hid (Blk W5 w.heap.size 41 [.int .i64 p0, .slice A2 cur.length c2, .slice (some ⟨g2, 0, none⟩) n4 d2]) := by rw [hW5]; exact BK4.out.set 2 _
  have OT5 : Hid (∀ b, b ≠ w.heap.size → W5.heap[b]? = w4.heap[b]?) := fun b hb => by rw [hW5]; exact Below.heap_setCell _ _ _ b hb
  have NG : Hid (w.heap.size + 1 < g2) := by have := HG2.out; have := LT1.out; show _ < _; omega
  have BR5 : Hid (Blk W5 (w.heap.size + 1) 41 [.int .i64 0, .slice none 0 0, .slice none 0 0]) :=
    (OT5.out _ (by omega)).trans ((HO4.out _ (by have := NG.out; omega)).trans ((OT3.out _ (by omega)).trans BR2.out))
  have BW5 : Hid (Below w.heap.size w W5) := by
    rw [hW5]
    exact (HBE4.out w w.heap.size BW3.out (by have := NG.out; omega)).setCell (p := ⟨w.heap.size, 2, none⟩) (Nat.le_refl _) _
  rw [← hW5]
  clear hW5 z2 y2
  have z0 : W5.cell? ⟨w.heap.size, 0, none⟩ = some (.int .i64 p0) := (BK5.out.cell 0).trans rfl
  have z1 : W5.cell? ⟨w.heap.size, 1, none⟩ = some (.slice A2 cur.length c2) := (BK5.out.cell 1).trans rfl
  have z2 : W5.cell? ⟨w.heap.size, 2, none⟩ = some (.slice (some ⟨g2, 0, none⟩) n4 d2) := (BK5.out.cell 2).trans rfl
  have keep : ∀ (r : BRow), Bs w2 r.a r.n r.c r.l → Apart (.slice (some ⟨g2, 0, none⟩) m d2) r → Bs W5 r.a r.n r.c r.l := by
    intro r hr ha
    have h3 : Bs W3 r.a r.n r.c r.l := Bs.keepC hr BK2.out OT3.out
    have h4 : Bs w4 r.a r.n r.c r.l := by
      rcases Nat.eq_zero_or_pos r.n with h0 | h0
      · exact ⟨h3.1, h3.2.1, h3.2.2.1, fun h => absurd h (by omega)⟩
      · exact Sl.keepB h3 (fun b o e => HO4.out b (fun hb => ha b o h0 e (by rw [hb]; rfl)))
    exact Bs.keepC h4 BK4.out OT5.out
  have KEEP := Lib.hid keep; clear keep
  have HZ : Hid (∀ wq, Gr W5 wq → wq.cell? ⟨w.heap.size, 0, none⟩ = some (.int .i64 p0) ∧ wq.cell? ⟨w.heap.size, 1, none⟩ = some (.slice A2 cur.length c2) ∧ wq.cell? ⟨w.heap.size, 2, none⟩ = some (.slice (some ⟨g2, 0, none⟩) n4 d2)) := fun wq hq => ⟨(hq.blk BK5.out).cell 0, (hq.blk BK5.out).cell 1, (hq.blk BK5.out).cell 2⟩
  clear z0 z1 z2
  refine wp_region_grow (by kernel_rfl) [0, 0, 1, 7, 15] [.p 0, .p 2, .q 1, .s 3, .p 4] (by kernel_rfl) (trivial) ?_
  refine wpG_pe rfl rfl ?_
  apply Exists.intro
  refine ⟨fun wq => ?_, ?_⟩
  · unfold plainAt
    go_simp
    first | exact rfl | exact ⟨rfl, rfl⟩
  go_simp
  refine wpG_pe rfl rfl ?_
  apply Exists.intro
  refine ⟨fun wq => ?_, ?_⟩
  · unfold plainAt
    go_simp
    first | exact rfl | exact ⟨rfl, rfl⟩
  go_simp
  refine wpG_qe rfl rfl ?_
  apply Exists.intro
  refine ⟨fun wq hq => ?_, ?_⟩
  · obtain ⟨z0, z1, z2⟩ := HZ.out wq ((Gr.drew _).trans hq)
    unfold plainAt
    go_simp
    first | exact rfl | exact ⟨rfl, rfl⟩
  go_simp
  refine wpG_s rfl rfl ?_
  intro W5' g5 K hK
  have G5 := Lib.hid ((Gr.drew W5).trans g5)
  clear g5
  refine wp_store_row 41 (.tmp 9) (.tmp 73) rfl (w.heap.size + 1) _ rfl rfl 41 #[.int .i64 0, .slice none 0 0, .slice none 0 0] (G5.out.blk BR5.out) chSize rfl (chOne _ _ _ _ _ _ _) ?_
  obtain ⟨W6, hW6⟩ : ∃ W6, W6 = W5'.setRow (w.heap.size + 1) #[.int .i64 p0, .slice A2 cur.length c2, .slice (some ⟨g2, 0, none⟩) n4 d2] := ⟨_, rfl⟩
  have BR7 : Hid (Blk W6 (w.heap.size + 1) 41 [.int .i64 p0, .slice A2 cur.length c2, .slice (some ⟨g2, 0, none⟩) n4 d2]) := by rw [hW6]; exact setRow_heap W5' (w.heap.size + 1) _ _ _ _ (G5.out.blk BR5.out)
  have OT7 : Hid (∀ b, b < W5.heap.size → b ≠ w.heap.size + 1 → W6.heap[b]? = W5.heap[b]?) := fun b hb hn => by rw [hW6]; exact (setRow_other W5' (w.heap.size + 1) b _ hn).trans (G5.out.block b hb)
  have BW7 : Hid (Below w.heap.size w W6) := by rw [hW6]; exact below_row (below_both BW5.out G5.out) (by omega) _
  refine hK _ _ ?_
  go_simp
  rw [← hW6]
  clear hW6
  refine wpG_pe rfl rfl ?_
  apply Exists.intro
  refine ⟨fun wq => ?_, ?_⟩
  · unfold plainAt
    go_simp
    first | exact rfl | exact ⟨rfl, rfl⟩
  go_simp
  refine wpG_nil ?_
  intro W7 G7
  have BR8 := G7.blk BR7.out
  have keep7 : ∀ (r : BRow), Bs w2 r.a r.n r.c r.l → Apart (.slice (some ⟨g2, 0, none⟩) m d2) r → Bs W7 r.a r.n r.c r.l := fun r hr ha =>
    (Bs.keepC' (KEEP.out r hr ha) BR5.out OT7.out).mono G7
  have q0 : W7.cell? ⟨w.heap.size + 1, 0, none⟩ = some (.int .i64 p0) := (BR8.cell 0).trans rfl
  have q1 : W7.cell? ⟨w.heap.size + 1, 1, none⟩ = some (.slice A2 cur.length c2) := (BR8.cell 1).trans rfl
  have q2 : W7.cell? ⟨w.heap.size + 1, 2, none⟩ = some (.slice (some ⟨g2, 0, none⟩) n4 d2) := (BR8.cell 2).trans rfl
  have FIN : Hid (RetAt w p0 cur x.r.l ((L.map Wr.kk).eraseIdx k) (.returned (.tuple #[.slice y.r.a y.r.n y.r.c, .agg #[.int .i64 p0, .slice A2 cur.length c2, .slice (some ⟨g2, 0, none⟩) n4 d2], .int .i64 0])) W7) := by
    have hym : y ∈ M2 := List.mem_of_getElem? HY.out
    have hyl : y.r.l = x.r.l := (Prod.mk.inj HYK.out).2
    have hyb := (O2.out.2 y hym).1
    have hyn : x.r.l.length = y.r.n := by rw [← hyl]; exact Bs.len hyb.1
    have hne : n4 = (M2.eraseIdx k).length := by rw [List.length_eraseIdx, if_pos (by rw [HML.out]; exact hkm), HML.out]; have := HN4.out; omega
    have hG5 : Blk W5 g2 54 cs4 := (OT5.out g2 (by have := NG.out; omega)).trans HB4.out
    have hG6 : Blk W7 g2 54 cs4 := G7.blk ((OT7.out g2 hG5.lt (by have := NG.out; omega)).trans hG5)
    have hBW : Below w.heap.size w W7 := below_both BW7.out G7
    have hw16 := BW1.out.size
    refine ⟨y.r.a, y.r.c, A2, c2, .slice (some ⟨g2, 0, none⟩) n4 d2, M2.eraseIdx k, by rw [hyn], ?_, keep7 ⟨A2, cur.length, c2, cur⟩ S2.out AP2.out, ⟨⟨⟨?_, .inr ⟨g2, d2, cs4.toArray, ?_, ?_, hG6, ?_, HC2.out, ?_, ?_⟩⟩, hBW⟩, fun z hz => ?_⟩, fun z hz => ?_, ?_, ?_, hBW⟩
    · rw [hyn, ← hyl]; exact keep7 y.r hyb.1 hyb.2
    · rw [flat_length Wr.cells_len]
    · rw [hne]
    · have := NG.out; omega
    · rw [← hne]; have := HN4.out; have := HC1.out; omega
    · rw [List.size_toArray, HL4.out]
    · rw [← hne]; exact HT4.out
    · have hz2 := List.mem_of_mem_eraseIdx hz
      exact ⟨⟨keep7 z.r (O2.out.2 z hz2).1.1 (O2.out.2 z hz2).1.2, fun b o h0 e => (O2.out.2 z hz2).1.2 b o h0 e⟩, (O2.out.2 z hz2).2⟩
    · intro b o h0 e
      have := F2.out z (List.mem_of_mem_eraseIdx hz) b o h0 e
      omega
    · rw [← K2.out, erase_map]
    · intro b o e
      have := FA2.out b o e
      omega
  go_wp2_with fail
  try rw [Exit.noGoto_ret]
  exact bodyPost_ret (v := .tuple #[.slice y.r.a y.r.n y.r.c, .agg #[.int .i64 p0, .slice A2 cur.length c2, .slice (some ⟨g2, 0, none⟩) n4 d2], .int .i64 0]) (by simp [results, Tryd.results14, go_sem, q0, q1, q2]) rfl FIN.out
end Go.Proofs.YtplddbaggbdbiaaDoor
