/- Own texts of this claim, one behind the other. No condition. -/
import Derived.Test.YtplddbaggbdbiaaDoorObPkBB

namespace Go.Proofs.YtplddbaggbdbiaaDoor
open Go.RowKit
set_option linter.unusedVariables false

theorem cellsK_drop : ∀ (L : List Wr) (k : Nat), (L.drop k).flatMap Wr.cells = (L.flatMap Wr.cells).drop (k * 2)
  | [], k => by simp
  | x :: L, 0 => by simp
  | x :: L, k + 1 => by
    rw [List.drop_succ_cons, List.flatMap_cons, cellsK_drop L k, Nat.add_mul]
    simp [Wr.cells]
theorem Wrs.fromK {w : World} {A A' : Option Addr} {n c : Nat} {L : List Wr} (h : Wrs w A n c L) {k : Nat} (hk : k ≤ n) (hA : k < n → ∀ b o, A = some ⟨b, o, none⟩ → A' = some ⟨b, o + k * 2, none⟩) : Wrs w A' (n - k) (n - k) (L.drop k) := by
  obtain ⟨h1, ⟨s1, s2, s3, s4⟩, h3⟩ := h
  refine ⟨by rw [List.length_drop]; omega, ⟨?_, Nat.le_refl _, by omega, fun hp => ?_⟩, fun x hx => h3 x (List.mem_of_mem_drop hx)⟩
  · rw [cellsK_drop, List.length_drop, s1, Nat.sub_mul]
  · obtain ⟨b, o, e, hc⟩ := s4 (by omega)
    refine ⟨b, o + k * 2, hA (by omega) b o e, fun j u hu => ?_⟩
    rw [cellsK_drop, List.getElem?_drop] at hu
    rw [Nat.add_assoc]
    exact hc _ u hu
theorem run_from3 {P : Program} {t e : TypeId} {z : Value} {size bytes : Nat} (ht : ElemT P t e z size bytes) (A : Option Addr) (n c k : Nat) (hk : k ≤ n) (hc : n ≤ c) :
    ∃ A', (k < n → ∀ b o, A = some ⟨b, o, none⟩ → A' = some ⟨b, o + k * size, none⟩) ∧ ∀ w : World, (Instr.slice t (.slice A n c) (some (.int .i64 (k : Int))) (some (.int .i64 (n : Int))) (some (.int .i64 (n : Int)))).run P w = .ok (.slice A' (n - k) (n - k)) w := by
  obtain ⟨i, hi, hz, hsz, hby⟩ := info_parts ht.info
  have hu : P.underlying t = some (.slice (P.elem t)) := by
    have := ht.und
    simp [Program.elem, this]
  have he : P.elem t = e := by simp [Program.elem, ht.und]
  refine ⟨if n = k then A else A.map (·.add (k * size)), fun hlt b o hA => ?_, fun w => ?_⟩
  · rw [if_neg (by omega), hA]
    simp only [Option.map_some]
    rw [add_flat]
  · rw [run_slice_lhm w t A n c hu .i64 .i64 .i64 k n n (by omega) (by omega) (by omega) (by omega)]
    simp [sizeOf, typeInfo, he, hi, Result.andThen, sliced, hsz]
theorem OwnK.carry {t : TypeId} {w0 w1 w2 w3 : World} {v : Value} {M : List Wr} (h : OwnK t w1 w2 v M) (hf : ∀ x ∈ M, FreshK w1 x.r) (hb : Below w0.heap.size w0 w3) (hle : w0.heap.size ≤ w1.heap.size) (hbl : ∀ b, w1.heap.size ≤ b → w3.heap[b]? = w2.heap[b]?) : OwnK t w0 w3 v M := by
  obtain ⟨⟨⟨hl, ho⟩, _⟩, hr⟩ := h
  refine ⟨⟨⟨hl, ?_⟩, hb⟩, fun x hx => ?_⟩
  · rcases ho with h | ⟨g, cap, cur, hv, hg, hh, r⟩
    · exact .inl h
    · exact .inr ⟨g, cap, cur, hv, Nat.le_trans hle hg, by rw [hbl g hg]; exact hh, r⟩
  · obtain ⟨⟨hb2, hap⟩, hp⟩ := hr x hx
    refine ⟨⟨?_, hap⟩, hp⟩
    rcases Nat.eq_zero_or_pos x.r.n with h0 | h0
    · exact ⟨hb2.1, hb2.2.1, hb2.2.2.1, fun h => absurd h (by omega)⟩
    · exact Sl.keepB hb2 (fun b o e => hbl b (hf x hx b o h0 e))
set_option maxRecDepth 100000 in
set_option maxHeartbeats 2000000 in
theorem drop_any (p0 : Int) (A B : Option Addr) (n c m d : Nat) (cur : List UInt8) (L : List Wr) (nn : Int) (w : World) (hcur : Bs w A n c cur) (hn : n ≤ 50000) (hL : Wrs w B m d L) (hm : m ≤ 1000) (hrow : ∀ x ∈ L, x.r.n ≤ 20000) (hn1 : -9223372036854775808 ≤ nn) (hn2 : nn ≤ 9223372036854775807) :
    Calls Tryd.prog 39 #[.agg #[.int .i64 p0, .slice A n c, .slice B m d], .int .i64 nn] w (RetCh w p0 cur ((L.drop (m - nn.toNat)).map Wr.kk)) := by
  have hcl : cur.length = n := by have := Sl.len hcur; simpa using this
  subst hcl
  have hcap := hL.2.1.cap
  have hmax := hL.2.1.max
  obtain ⟨kk, hkk⟩ : ∃ kk, kk = m - nn.toNat := ⟨_, rfl⟩
  obtain ⟨A', hA', hrun⟩ := run_from3 tSk B m d kk (by omega) hcap
  obtain ⟨W, hW⟩ : ∃ W, W = (w.alloc (.cells #[.int .i64 p0, .slice A cur.length c, .slice B m d] 41)).alloc (.cells #[.int .i64 0, .slice none 0 0, .slice none 0 0] 41) := ⟨_, rfl⟩
  have hBW : Below w.heap.size w W := by rw [hW]; exact ((Below.refl _ _).alloc (Nat.le_refl _) _).alloc (by simp) _
  have hb0 : Blk W w.heap.size 41 [.int .i64 p0, .slice A cur.length c, .slice B m d] := by rw [hW]; exact (Blk.new w 41 #[.int .i64 p0, .slice A cur.length c, .slice B m d]).alloc _
  have hb1 : Blk W (w.heap.size + 1) 41 [.int .i64 0, .slice none 0 0, .slice none 0 0] := by
    rw [hW]
    exact heap_alloc2_new w _ _
  have hzW : W.heap.size = w.heap.size + 1 + 1 := by rw [hW]; simp
  have HC := Lib.hid (clone_any A _ c cur W.drew ((hcur.mono hBW).mono (Below.refl _ _).drew) (by omega))
  have HD : Hid (∀ W', Below W.heap.size W W' → Calls Tryd.prog 69 #[.slice A' (m - kk) (m - kk)] W' (RetOwnK W' (L.drop kk))) := fun W' hW' => copiedK_any A' _ _ (L.drop kk) W' ((hL.fromK (by omega) hA').mono (below_both hBW hW')) (by omega) (fun x hx => hrow x (List.mem_of_mem_drop hx))
  have x1 : W.cell? ⟨w.heap.size, 1, none⟩ = some (.slice A cur.length c) := (hb0.cell 1).trans rfl
  have HB0 := Lib.hid hb0; have HB1 := Lib.hid hb1; have HBW := Lib.hid hBW; have HZ := Lib.hid hzW; have HW := Lib.hid hW
  have HKK := Lib.hid hkk
  have hmx : max 0 ((m : Int) - max nn 0) = (kk : Int) := by omega
  have HMX := Lib.hid hmx; clear hmx
  clear hcur hL hb0 hb1 hBW hzW hW hA' hrow
  rw [← hkk]
  clear hkk
  go_enter Tryd.func39, Tryd.ntmps39
  go_wp2_with fail
  rw [HMX.out, ← HW.out]
  go_region_law (first
    | (go_simp; go_at_call 32; refine HC.out.mono ?_; rintro e w1 ⟨v1, rfl, own1⟩; obtain ⟨A1, c1, rfl, s1⟩ := own1.slice; have B1 : Hid (Below W.heap.size W w1) := ((Below.refl W.heap.size W).drew).trans own1.below; have S1 := Lib.hid s1; have O1 := Lib.hid own1; clear own1 s1)
    | (go_simp; go_at_call 69; refine (HD.out w1 B1.out).mono ?_; rintro e w2 ⟨v2, M2, rfl, own2, fr2, hk2⟩; obtain ⟨A2, c2, rfl, wr2⟩ := own2.wrs; have B2 : Hid (Below W.heap.size W w2) := below_both B1.out own2.1.below; have BK2 : Hid (Blk w2 w.heap.size 41 [.int .i64 p0, .slice A cur.length c, .slice B m d]) := HB0.out.mono B2.out; have O2 := Lib.hid own2; have F2 := Lib.hid fr2; have K2 := Lib.hid hk2; have S2 := Lib.hid (S1.out.mono own2.1.below); have z1 : w2.cell? ⟨w.heap.size, 1, none⟩ = some (.slice A cur.length c) := (BK2.out.cell 1).trans rfl; have z2 : w2.cell? ⟨w.heap.size, 2, none⟩ = some (.slice B m d) := (BK2.out.cell 2).trans rfl; have y1 := BK2.out.free 1; have y2 := BK2.out.free 2; clear own2 fr2 hk2 wr2))
  all_goals
    obtain ⟨W3, hW3⟩ : ∃ W3, W3 = (w2.setCell ⟨w.heap.size, 1, none⟩ (.slice A1 cur.length c1)).setCell ⟨w.heap.size, 2, none⟩ (.slice A2 M2.length c2) := ⟨_, rfl⟩
    have BK3 : Hid (Blk W3 w.heap.size 41 [.int .i64 p0, .slice A1 cur.length c1, .slice A2 M2.length c2]) := by rw [hW3]; exact (BK2.out.set 1 _).set 2 _
    have BR3 : Hid (Blk W3 (w.heap.size + 1) 41 [.int .i64 0, .slice none 0 0, .slice none 0 0]) := by
      rw [hW3]
      exact ((HB1.out.mono B2.out).far (p := ⟨w.heap.size, 1, none⟩) (by simp) _).far (p := ⟨w.heap.size, 2, none⟩) (by simp) _
    have OTH : Hid (∀ b, b ≠ w.heap.size → W3.heap[b]? = w2.heap[b]?) := by
      intro b hb
      rw [hW3, Below.heap_setCell _ _ _ b hb, Below.heap_setCell _ _ _ b hb]
    have BW3 : Hid (Below w.heap.size w W3) := by
      rw [hW3]
      exact ((below_both HBW.out B2.out).setCell (p := ⟨w.heap.size, 1, none⟩) (Nat.le_refl _) _).setCell (p := ⟨w.heap.size, 2, none⟩) (Nat.le_refl _) _
    rw [← hW3]
    clear hW3 z1 z2 y1 y2 x1
    go_wp2_with (first
      | (refine wpList_load_row rfl 41 (.tmp 2) rfl w.heap.size rfl 41 #[.int .i64 p0, .slice A1 cur.length c1, .slice A2 M2.length c2] (0, 0) _ BK3.out Tryd.underlying41 rfl chSize ?_)
      | (refine wpList_store_ch rfl (.tmp 4) (.tmp 28) rfl (w.heap.size + 1) p0 A1 A2 cur.length c1 M2.length c2 rfl rfl BR3.out ?_))
    have hz := HZ.out
    have hN : (W3.setRow (w.heap.size + 1) #[.int .i64 p0, .slice A1 cur.length c1, .slice A2 M2.length c2]).heap[w.heap.size + 1]? = some (.cells #[.int .i64 p0, .slice A1 cur.length c1, .slice A2 M2.length c2] 41 (0, 0)) := setRow_heap W3 (w.heap.size + 1) _ _ _ _ BR3.out
    have hB4 : Below w.heap.size w (W3.setRow (w.heap.size + 1) #[.int .i64 p0, .slice A1 cur.length c1, .slice A2 M2.length c2]) := below_row BW3.out (by omega) _
    have hoth : ∀ b, W.heap.size ≤ b → (W3.setRow (w.heap.size + 1) #[.int .i64 p0, .slice A1 cur.length c1, .slice A2 M2.length c2]).heap[b]? = w2.heap[b]? := fun b hb => (setRow_other W3 (w.heap.size + 1) b _ (by omega)).trans (OTH.out b (by omega))
    have hS : Bs (W3.setRow (w.heap.size + 1) #[.int .i64 p0, .slice A1 cur.length c1, .slice A2 M2.length c2]) A1 cur.length c1 cur := Sl.keepB S2.out (fun b o e => hoth b ((O1.out.1.lt b (by rw [e]; rfl)).1))
    have hO : OwnK 54 w (W3.setRow (w.heap.size + 1) #[.int .i64 p0, .slice A1 cur.length c1, .slice A2 M2.length c2]) (.slice A2 M2.length c2) M2 := O2.out.carry F2.out hB4 (by have := B1.out.size; omega) (fun b hb => hoth b (by have := B1.out.size; omega))
    exact bodyPost_ret (v := .agg #[.int .i64 p0, .slice A1 cur.length c1, .slice A2 M2.length c2]) (results_cell_row Tryd.results39 _ _ (w.heap.size + 1) 41 _ (0, 0) _ rfl hN Tryd.underlying41 rfl chSize) rfl ⟨A1, c1, .slice A2 M2.length c2, M2, rfl, hS, hO, (fun x hx b o h0 e => by have h1 := F2.out x hx b o h0 e; have h2 := B1.out.size; omega), K2.out, (fun b o e => by have h1 : W.heap.size ≤ b := (O1.out.1.lt b (by rw [e]; rfl)).1; omega), hB4⟩
end Go.Proofs.YtplddbaggbdbiaaDoor
