/- Own texts of this claim, one behind the other. No condition. -/
import Derived.Test.YtplddbaggbdbiaaDoorObPkBI

/- Chains: Drop and Start, in new memory. No condition. -/
namespace Go.Proofs.YtplddbaggbdbiaaDoor
open Go.RowKit
set_option linter.unusedVariables false
set_option linter.unusedSimpArgs false
/-- A chain in new memory. -/
def RetD (w : World) (g : Int) (cur : List UInt8) (K : List (Int × List UInt8)) (e : Ending) (w' : World) : Prop :=
  ∃ A c v M, e = .returned (.agg #[.int .i64 g, .slice A cur.length c, v]) ∧ RowO w w' ⟨A, cur.length, c, cur⟩ ∧ OwnT w w' v M ∧ M.map Wr.kk = K
set_option maxRecDepth 100000 in
set_option maxHeartbeats 2000000 in
theorem dropT_any (p0 : Int) (A B : Option Addr) (n c m d : Nat) (cur : List UInt8) (L : List Wr) (nn : Int) (w : World) (hcur : Bs w A n c cur) (hn : n ≤ 50000) (hL : Wrs w B m d L) (hm : m ≤ 1000) (hrow : ∀ x ∈ L, x.r.n ≤ 20000) (hn1 : -9223372036854775808 ≤ nn) (hn2 : nn ≤ 9223372036854775807) :
    Calls Tryd.prog 39 #[.agg #[.int .i64 p0, .slice A n c, .slice B m d], .int .i64 nn] w (RetD w p0 cur ((L.drop (m - nn.toNat)).map Wr.kk)) := by
  have hcl : cur.length = n := by have := Sl.len hcur; simpa using this
  subst hcl
  have hcap := hL.2.1.cap
  have hmax := hL.2.1.max
  obtain ⟨kk, hkk⟩ : ∃ kk, kk = m - nn.toNat := ⟨_, rfl⟩
  obtain ⟨A', hA', hrun⟩ := run_from3 tSk B m d kk (by omega) hcap
  obtain ⟨W, hW⟩ : ∃ W, W = (w.alloc (.cells #[.int .i64 p0, .slice A cur.length c, .slice B m d] 41)).alloc (.cells #[.int .i64 0, .slice none 0 0, .slice none 0 0] 41) := ⟨_, rfl⟩
  have hBW : Below w.heap.size w W := by rw [hW]; exact ((Below.refl _ _).alloc (Nat.le_refl _) _).alloc (by simp) _
  have hb0 : Blk W w.heap.size 41 [.int .i64 p0, .slice A cur.length c, .slice B m d] := by rw [hW]; exact (Blk.new w 41 #[.int .i64 p0, .slice A cur.length c, .slice B m d]).alloc _
  have hb1 : Blk W (w.heap.size + 1) 41 [.int .i64 0, .slice none 0 0, .slice none 0 0] := by
    rw [hW]
    exact heap_alloc2_new w _ _
  have hzW : W.heap.size = w.heap.size + 1 + 1 := by rw [hW]; simp
  have HC := Lib.hid (clone_any A _ c cur W.drew ((hcur.mono hBW).mono (Below.refl _ _).drew) (by omega))
  have HD : Hid (∀ W', Below W.heap.size W W' → Calls Tryd.prog 69 #[.slice A' (m - kk) (m - kk)] W' (RetCo W' ((L.drop kk).map Wr.kk))) := fun W' hW' => copiedT_any A' _ _ (L.drop kk) W' ((hL.fromK (by omega) hA').mono (below_both hBW hW')) (by omega) (fun x hx => hrow x (List.mem_of_mem_drop hx))
  have x1 : W.cell? ⟨w.heap.size, 1, none⟩ = some (.slice A cur.length c) := (hb0.cell 1).trans rfl
  have HB0 := Lib.hid hb0; have HB1 := Lib.hid hb1; have HBW := Lib.hid hBW; have HZ := Lib.hid hzW; have HW := Lib.hid hW
  have HKK := Lib.hid hkk
  have hmx : max 0 ((m : Int) - max nn 0) = (kk : Int) := by omega
  have HMX := Lib.hid hmx; clear hmx
  clear hcur hL hb0 hb1 hBW hzW hW hA' hrow
  rw [← hkk]
  clear hkk
  go_enter Tryd.func39, Tryd.ntmps39
  go_wp2_with fail
  rw [HMX.out, ← HW.out]
  go_region_law (first
    | (go_simp; go_at_call 32; refine HC.out.mono ?_; rintro e w1 ⟨v1, rfl, own1⟩; obtain ⟨A1, c1, rfl, s1⟩ := own1.slice; have B1 : Hid (Below W.heap.size W w1) := ((Below.refl W.heap.size W).drew).trans own1.below; have O1 : Hid (RowO w w1 ⟨A1, cur.length, c1, cur⟩) := own1.base (HBW.out.trans ((Below.refl W.heap.size W).drew.mono HBW.out.size)); clear own1 s1)
    | (go_simp; go_at_call 69; refine (HD.out w1 B1.out).mono ?_; rintro e w2 ⟨v2, M2, rfl, own2, hk2⟩; obtain ⟨A2, c2, rfl, wr2⟩ := own2.wrs; have B2 : Hid (Below W.heap.size W w2) := below_both B1.out own2.1.below; have BK2 : Hid (Blk w2 w.heap.size 41 [.int .i64 p0, .slice A cur.length c, .slice B m d]) := HB0.out.mono B2.out; have O2 : Hid (OwnT w w2 (.slice A2 M2.length c2) M2) := own2.base (below_both HBW.out B1.out); have K2 := Lib.hid hk2; have S2 := Lib.hid (O1.out.mono own2.1.below); have z1 : w2.cell? ⟨w.heap.size, 1, none⟩ = some (.slice A cur.length c) := (BK2.out.cell 1).trans rfl; have z2 : w2.cell? ⟨w.heap.size, 2, none⟩ = some (.slice B m d) := (BK2.out.cell 2).trans rfl; have y1 := BK2.out.free 1; have y2 := BK2.out.free 2; clear own2 hk2 wr2))
  all_goals
    obtain ⟨W3, hW3⟩ : ∃ W3, W3 = (w2.setCell ⟨w.heap.size, 1, none⟩ (.slice A1 cur.length c1)).setCell ⟨w.heap.size, 2, none⟩ (.slice A2 M2.length c2) := ⟨_, rfl⟩
    have BK3 : Hid (Blk W3 w.heap.size 41 [.int .i64 p0, .slice A1 cur.length c1, .slice A2 M2.length c2]) := by rw [hW3]; exact (BK2.out.set 1 _).set 2 _
    have BR3 : Hid (Blk W3 (w.heap.size + 1) 41 [.int .i64 0, .slice none 0 0, .slice none 0 0]) := by
      rw [hW3]
      exact ((HB1.out.mono B2.out).far (p := ⟨w.heap.size, 1, none⟩) (by simp) _).far (p := ⟨w.heap.size, 2, none⟩) (by simp) _
    have OTH : Hid (∀ b, b ≠ w.heap.size → W3.heap[b]? = w2.heap[b]?) := by
      intro b hb
      rw [hW3, Below.heap_setCell _ _ _ b hb, Below.heap_setCell _ _ _ b hb]
    have BW3 : Hid (Below w.heap.size w W3) := by
      rw [hW3]
      exact ((below_both HBW.out B2.out).setCell (p := ⟨w.heap.size, 1, none⟩) (Nat.le_refl _) _).setCell (p := ⟨w.heap.size, 2, none⟩) (Nat.le_refl _) _
    rw [← hW3]
    clear hW3 z1 z2 y1 y2 x1
    go_wp2_with (first
      | (refine wpList_load_row rfl 41 (.tmp 2) rfl w.heap.size rfl 41 #[.int .i64 p0, .slice A1 cur.length c1, .slice A2 M2.length c2] (0, 0) _ BK3.out Tryd.underlying41 rfl chSize ?_)
      | (refine wpList_store_ch rfl (.tmp 4) (.tmp 28) rfl (w.heap.size + 1) p0 A1 A2 cur.length c1 M2.length c2 rfl rfl BR3.out ?_))
    obtain ⟨W4, hW4⟩ : ∃ W4, W4 = W3.setRow (w.heap.size + 1) #[.int .i64 p0, .slice A1 cur.length c1, .slice A2 M2.length c2] := ⟨_, rfl⟩
    rw [← hW4]
    have hN : W4.heap[w.heap.size + 1]? = some (.cells #[.int .i64 p0, .slice A1 cur.length c1, .slice A2 M2.length c2] 41 (0, 0)) := by rw [hW4]; exact setRow_heap W3 (w.heap.size + 1) _ _ _ _ BR3.out
    have hB4 : Below w.heap.size w W4 := by rw [hW4]; exact below_row BW3.out (by omega) _
    have hoth : ∀ b, b < W3.heap.size → b ≠ w.heap.size + 1 → W4.heap[b]? = W3.heap[b]? := fun b _ hb => by rw [hW4]; exact setRow_other W3 (w.heap.size + 1) b _ hb
    have hS : RowO w W4 ⟨A1, cur.length, c1, cur⟩ := own_of_blk (blk_off BR3.out hoth (by decide)) (own_of_blk (blk_off BK2.out (fun b _ hb => OTH.out b hb) (by decide)) S2.out BW3.out) hB4
    have hO : OwnT w W4 (.slice A2 M2.length c2) M2 := (O2.out.off BK2.out (fun b _ hb => OTH.out b hb) BW3.out).off BR3.out hoth hB4
    exact bodyPost_ret (v := .agg #[.int .i64 p0, .slice A1 cur.length c1, .slice A2 M2.length c2]) (results_cell_row Tryd.results39 _ _ (w.heap.size + 1) 41 _ (0, 0) _ rfl hN Tryd.underlying41 rfl chSize) rfl ⟨A1, c1, .slice A2 M2.length c2, M2, rfl, hS, hO, K2.out⟩
/-- A chain's start, its bytes the call's own. -/
theorem startT_any (A : Option Addr) (n c : Nat) (k : List UInt8) (w : World) (h : Bs w A n c k) (hn : n ≤ 50000) :
    Calls Tryd.prog 12 #[.slice A n c] w (RetD w 0 k []) := by
  have hb0 : Below w.heap.size w (w.alloc (.cells #[.int .i64 0, .slice none 0 0, .slice none 0 0] 41)) := (Below.refl _ _).alloc (Nat.le_refl _) _
  have HC := Lib.hid (clone_any A n c k _ (h.mono hb0) (by omega))
  have HB0 := Lib.hid hb0; clear h hb0
  go_enter Tryd.func12, Tryd.ntmps12
  go_wp2_with (first
    | (go_at_call 32; refine HC.out.mono ?_; rintro e w1 ⟨v1, rfl, own1⟩; obtain ⟨A1, c1, rfl, s1⟩ := own1.slice; have O1 := Lib.hid own1; have BK : Hid (Blk w1 w.heap.size 41 [.int .i64 0, .slice none 0 0, .slice none 0 0]) := (Blk.new w _ _).mono own1.below; have S1 := Lib.hid s1; clear own1 s1)
    | (refine wpList_store_ch rfl (.tmp 2) (.tmp 5) rfl w.heap.size 0 A1 none k.length c1 0 0 rfl rfl BK.out ?_))
  have hB1 : Below w.heap.size w w1 := below_both HB0.out O1.out.below
  have hB2 : Below w.heap.size w (w1.setRow w.heap.size #[.int .i64 0, .slice A1 k.length c1, .slice none 0 0]) := below_row hB1 (Nat.le_refl _) _
  have hN : (w1.setRow w.heap.size #[.int .i64 0, .slice A1 k.length c1, .slice none 0 0]).heap[w.heap.size]? = some (.cells #[.int .i64 0, .slice A1 k.length c1, .slice none 0 0] 41 (0, 0)) := setRow_heap w1 w.heap.size _ _ _ _ BK.out
  have hO : RowO w (w1.setRow w.heap.size #[.int .i64 0, .slice A1 k.length c1, .slice none 0 0]) ⟨A1, k.length, c1, k⟩ := own_of_blk (blk_off BK.out (fun b _ hb => setRow_other w1 w.heap.size b _ hb) (by decide)) (O1.out.base HB0.out) hB2
  exact bodyPost_ret (v := .agg #[.int .i64 0, .slice A1 k.length c1, .slice none 0 0]) (results_cell_row Tryd.results12 _ _ w.heap.size 41 _ (0, 0) _ rfl hN Tryd.underlying41 rfl chSize) rfl ⟨A1, c1, .slice none 0 0, [], rfl, hO, OwnT.nil hB2, rfl⟩
end Go.Proofs.YtplddbaggbdbiaaDoor
