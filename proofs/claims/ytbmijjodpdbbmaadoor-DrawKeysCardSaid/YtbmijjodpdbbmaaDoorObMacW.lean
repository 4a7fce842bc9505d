import Derived.Test.YtbmijjodpdbbmaaDoorObShaD
import Derived.Laws.CopyOwn
import Derived.Lib.MakeNoZero
import Derived.Deep.RegionLaw
namespace Go.Proofs.YtbmijjodpdbbmaaDoor
open Go.RowKit
set_option linter.unusedVariables false

theorem mul64_one (w : World) : Calls Tryd.prog 162 #[.int .u64 1, .int .u64 64] w fun e w' => e = .returned (.tuple #[.int .u64 0, .int .u64 64]) ∧ w = w' := by
  have b1 : bits .and .u64 1 4294967295 = 1 := by decide
  have b2 : bits .and .u64 64 4294967295 = 64 := by decide
  have b3 : bits .and .u64 0 4294967295 = 0 := by decide
  have b4 : IntKind.u64.wrap 64 = 64 := by decide
  have b5 : IntKind.u64.wrap 0 = 0 := by decide
  go_enter Tryd.func162, Tryd.ntmps162
  go_wp2_with go_in
  go_ret2
  exact ⟨rfl, rfl⟩
theorem splice_at (C cs : List Value) (off k : Nat) (v : Value) (hC : ∀ j, j < off → C[j]? = some v) (hcs : ∀ j, j < cs.length → cs[j]? = some v) (hl : off + cs.length ≤ C.length) : ∀ j, j < off + cs.length → (splice C off cs)[j]? = some v := by
  intro j hj
  unfold splice
  rcases Nat.lt_or_ge j off with h | h
  · rw [List.getElem?_append_left (by rw [List.length_take]; omega), List.getElem?_take_of_lt h]; exact hC j h
  · rw [List.getElem?_append_right (by rw [List.length_take]; omega), List.length_take, Nat.min_eq_left (by omega), List.getElem?_append_left (by omega)]
    exact hcs _ (by omega)
def RetRd (w : World) (l : List UInt8) (e : Ending) (w' : World) : Prop := ∃ A c, e = .returned (.slice A l.length c) ∧ Bs w' A l.length c l ∧ Below w.heap.size w w'
theorem rep_list (k : Nat) (v : Value) (h1 : v.oneCell' = true) : ∀ u ∈ reps k v, u.oneCell' = true := by
  intro u hu
  rw [List.eq_of_mem_replicate hu]; exact h1
theorem reps_at2 (n j : Nat) (v : Value) (h : j < n) : (reps n v)[j]? = some v := by simp [reps, h]
theorem reps_len (n : Nat) (v : Value) : (reps n v).length = n := by simp [reps]
theorem reps_lt {n j : Nat} {v u : Value} (h : (reps n v)[j]? = some u) : j < n ∧ u = v := by
  refine ⟨?_, List.eq_of_mem_replicate (List.mem_of_getElem? h)⟩
  have := (List.getElem?_eq_some_iff.1 h).1
  rwa [reps_len] at this
theorem rep_src {w0 wr : World} {g n : Nat} {v : Value} {C : List Value} {t : TypeId} (hg : wr.heap[g]? = some (.cells C.toArray t (0, 0))) (hall : ∀ j, j < n → C[j]? = some v) :
    ∀ W : World, W.heap = wr.heap → ∀ j u, (reps n v)[j]? = some u → W.cell? ((⟨g, 0, none⟩ : Addr).add j) = some u := by
  intro W hW j u hj
  obtain ⟨hlt, rfl⟩ := reps_lt hj
  rw [add_flat, Nat.zero_add]
  have hb : Blk W g t C := by unfold Blk; rw [hW]; exact hg
  rw [hb.cell]
  exact hall j hlt
theorem rep_splice (C : List Value) (n m : Nat) (v : Value) (hC : ∀ j, j < n → C[j]? = some v) (hm : m = n + n) (hl : m ≤ C.length) : ∀ j, j < m → (splice C n (reps n v))[j]? = some v := by
  intro j hj
  exact splice_at C (reps n v) n 0 v hC (by intro j hj; rw [reps_len] at hj; exact reps_at2 n j v hj) (by rw [reps_len]; omega) j (by rw [reps_len]; omega)
theorem rep_copy (g n d : Nat) (C : List Value) (x : UInt8) (w wr : World) (hB : Below g w wr) (hg : wr.heap[g]? = some (.cells C.toArray 5 (0, 0))) (hall : ∀ j, j < n → C[j]? = some (u8c x)) (hd : n ≤ d) (hl : n + n ≤ C.length) :
    ∃ W3, (Builtin.copy_ #[22, 22] 3 #[.slice (some ⟨g, n, none⟩) d d, .slice (some ⟨g, 0, none⟩) n 64]).run Tryd.prog wr.drew = .ok (.int .i64 n) W3 ∧ Hid (W3.heap[g]? = some (.cells (splice C n (reps n (u8c x))).toArray 5 (0, 0))) ∧ Hid (Below g w W3) := by
  have e := run_copy_row (P := Tryd.prog) wr.drew 22 22 3 5 g n d d ⟨g, 0, none⟩ n 64 C.toArray 5 (reps n (u8c x)) Tryd.underlying22 (by kernel_rfl) hg (by rw [reps_len]; exact (Nat.min_eq_left hd).symm) (rep_src (w0 := w) hg hall _ rfl) (by rw [reps_len]; simpa using hl) (rep_list n _ rfl)
  rw [reps_len] at e
  refine ⟨_, e, ?_, ?_⟩
  · show _ = _
    have := setRow_heap wr.drew g _ (C.toArray.toList.take n ++ reps n (u8c x) ++ C.toArray.toList.drop (n + n)).toArray _ _ hg
    rw [this]
    simp [splice, reps_len]
  · exact below_setRow hB.drew (Nat.le_refl _) _
set_option maxRecDepth 100000 in
set_option maxHeartbeats 2000000 in
theorem repeat_any (A : Option Addr) (k : Nat) (x : UInt8) (w : World) (h : Bs w A 1 k [x]) :
    Calls Tryd.prog 152 #[.slice A 1 k, .int .i64 64] w (RetRd w (List.replicate 64 x)) := by
  obtain ⟨b, o, rfl, hc⟩ := h.addr (by omega)
  have hk := h.cap
  have hmax := h.max
  have hc0 : w.cell? ⟨b, o, none⟩ = some (u8c x) := hc 0 (by omega)
  have hblt : b < w.heap.size := World.block_lt_of_cell? w _ hc0
  obtain ⟨cs, hrun, hle, hmx⟩ := Lib.run_makeNoZero (P := Tryd.prog) w #[3] 22 5 Tryd.underlying22 64 (by omega)
  obtain ⟨C0, rfl⟩ : ∃ C0 : List Value, cs = C0.toArray := ⟨cs.toList, by simp⟩
  have hC0 : 64 ≤ C0.length := by simpa using hle
  have hCm : C0.length ≤ 9223372036854775807 := by have := hmx (by simp [maxLen]); simpa [maxLen] using this
  have hcall : (callFunc 128 #[.int .i64 64]).run Tryd.prog w = .ok (.value (.slice (some ⟨w.heap.size, 0, none⟩) 64 C0.length)) ((w.alloc (.cells C0.toArray 5)).drewN 2) := by
    have e := run_callFunc_extern Tryd.func128 (by kernel_rfl) (by kernel_rfl) (by kernel_rfl) (e := Extern.BytealgMakeNoZero.makeNoZero #[3] #[22]) (by kernel_rfl) (args := #[.int .i64 64]) (w := w)
    rw [e, show (Value.int .i64 64) = Value.int .i64 ((64 : Nat) : Int) from rfl, hrun]
    simp
    rfl
  obtain ⟨W1, hW1⟩ : ∃ W1, W1 = (w.alloc (.cells C0.toArray 5)).drewN 2 := ⟨_, rfl⟩
  rw [← hW1] at hcall
  have B1 : Hid (Below w.heap.size w W1) := by rw [hW1]; exact belowN ((Below.refl _ _).alloc (Nat.le_refl _) _) 2
  have G1 : Hid (W1.heap[w.heap.size]? = some (.cells C0.toArray 5 (0, 0))) := by rw [hW1]; exact heap_alloc_new w _
  have HX : Hid (W1.cell? ⟨b, o, none⟩ = some (u8c x)) := (B1.out.cell (p := ⟨b, o, none⟩) hblt).trans hc0
  clear hrun hle hmx hc hc0 hW1 h
  obtain ⟨L, hL⟩ : ∃ L, L = List.replicate 64 x := ⟨_, rfl⟩
  rw [← hL]
  have HL := Lib.hid hL; clear hL
  have HS : Hid (∀ W : World, W.cell? ⟨b, o, none⟩ = some (u8c x) → ∀ j v, [u8c x][j]? = some v → W.cell? ((⟨b, o, none⟩ : Addr).add j) = some v) := by
    intro W hW j v hj
    have h0 : j = 0 := by have := (List.getElem?_eq_some_iff.1 hj).1; simpa using this
    subst h0
    rw [add_flat]
    rw [← hj]; exact hW
  have HO : Hid (∀ v ∈ [u8c x], v.oneCell' = true) := by intro v hv; simp at hv; subst hv; rfl
  obtain ⟨W2, hcopy, G2, B2⟩ : ∃ W2, (Builtin.copy_ #[22, 22] 3 #[.slice (some ⟨w.heap.size, 0, none⟩) 64 64, .slice (some ⟨b, o, none⟩) 1 k]).run Tryd.prog W1 = .ok (.int .i64 1) W2 ∧ Hid (W2.heap[w.heap.size]? = some (.cells (splice C0 0 [u8c x]).toArray 5 (0, 0))) ∧ Hid (Below w.heap.size w W2) := by
    refine ⟨_, run_copy_row (P := Tryd.prog) W1 22 22 3 5 w.heap.size 0 64 64 ⟨b, o, none⟩ 1 k C0.toArray 5 [u8c x] Tryd.underlying22 (by kernel_rfl) G1.out rfl (HS.out _ HX.out) (by simp; omega) HO.out, ?_, ?_⟩
    · show _ = _
      simpa [splice] using setRow_heap W1 w.heap.size _ _ _ _ G1.out
    · exact below_setRow B1.out (Nat.le_refl _) _
  go_enter Tryd.func152, Tryd.ntmps152
  go_wp2_with (go_at_call 162; refine (mul64_one _).mono ?_; rintro e w' ⟨rfl, rfl⟩)
  go_loopw [10, 11] (fun i _ wr => ∃ (n : Nat) (C : List Value), (n = 1 ∨ n = 2 ∨ n = 4 ∨ n = 8 ∨ n = 16 ∨ n = 32 ∨ n = 64) ∧ i = .int .i64 n ∧ 64 ≤ C.length ∧ (∀ j, j < n → C[j]? = some (u8c x)) ∧ Hid (wr.heap[w.heap.size]? = some (.cells C.toArray 5 (0, 0))) ∧ Below w.heap.size w wr) (fun i _ _ => 64 - (intOf i).toNat)
  case atStart =>
    refine ⟨1, splice C0 0 [u8c x], .inl rfl, rfl, by rw [length_splice _ _ _ (by simp; omega)]; exact hC0, ?_, G2, B2.out⟩
    exact splice_at C0 [u8c x] 0 0 (u8c x) (by omega) (by intro j hj; have h0 : j = 0 := (by simpa using hj); subst h0; rfl) (by simp; omega)
  case round =>
    obtain ⟨n, C, hn, rfl, hCl, hall, hg, hbel⟩ := hrel
    have HAL := Lib.hid hall
    have HB2 := Lib.hid hbel
    clear hall hbel
    rcases hn with rfl | rfl | rfl | rfl | rfl | rfl | rfl
    · have HP : Hid (∀ W : World, W.heap = wr.heap → ∀ j v, (reps 1 (u8c x))[j]? = some v → W.cell? ((⟨w.heap.size, 0, none⟩ : Addr).add j) = some v) := rep_src (w0 := w) hg.out HAL.out
      have HR : Hid ((reps 1 (u8c x)).length = 1) := reps_len _ _
      have HF : Hid (1 + (reps 1 (u8c x)).length ≤ C.length) := by have := HR.out; show _ ≤ _; omega
      have HO2 : Hid (∀ v ∈ reps 1 (u8c x), v.oneCell' = true) := rep_list 1 _ rfl
      have HSP : Hid (∀ j, j < 2 → (splice C 1 (reps 1 (u8c x)))[j]? = some (u8c x)) := rep_splice C 1 2 _ HAL.out rfl (by omega)
      have HLS : Hid (64 ≤ (splice C 1 (reps 1 (u8c x))).length) := by show _ ≤ _; rw [length_splice _ _ _ HF.out]; exact hCl
      have hm : min (1 : Int) 64 = 1 := by decide
      obtain ⟨W3, hcp, G3, B3⟩ : ∃ W3, (Builtin.copy_ #[22, 22] 3 #[.slice (some ⟨w.heap.size, 1, none⟩) 63 63, .slice (some ⟨w.heap.size, 0, none⟩) 1 64]).run Tryd.prog wr.drew = .ok (.int .i64 1) W3 ∧ Hid (W3.heap[w.heap.size]? = some (.cells (splice C 1 (reps 1 (u8c x))).toArray 5 (0, 0))) ∧ Hid (Below w.heap.size w W3) := rep_copy w.heap.size 1 63 C x w wr HB2.out hg.out HAL.out (by omega) (by omega)
      go_wp2
      go_region
      all_goals
        go_wp2
        go_roundw
        case rel => exact ⟨2, _, by simp, rfl, HLS.out, HSP.out, G3, B3.out⟩
        case measure => simp [intOf]
    · have HP : Hid (∀ W : World, W.heap = wr.heap → ∀ j v, (reps 2 (u8c x))[j]? = some v → W.cell? ((⟨w.heap.size, 0, none⟩ : Addr).add j) = some v) := rep_src (w0 := w) hg.out HAL.out
      have HR : Hid ((reps 2 (u8c x)).length = 2) := reps_len _ _
      have HF : Hid (2 + (reps 2 (u8c x)).length ≤ C.length) := by have := HR.out; show _ ≤ _; omega
      have HO2 : Hid (∀ v ∈ reps 2 (u8c x), v.oneCell' = true) := rep_list 2 _ rfl
      have HSP : Hid (∀ j, j < 4 → (splice C 2 (reps 2 (u8c x)))[j]? = some (u8c x)) := rep_splice C 2 4 _ HAL.out rfl (by omega)
      have HLS : Hid (64 ≤ (splice C 2 (reps 2 (u8c x))).length) := by show _ ≤ _; rw [length_splice _ _ _ HF.out]; exact hCl
      have hm : min (2 : Int) 64 = 2 := by decide
      obtain ⟨W3, hcp, G3, B3⟩ : ∃ W3, (Builtin.copy_ #[22, 22] 3 #[.slice (some ⟨w.heap.size, 2, none⟩) 62 62, .slice (some ⟨w.heap.size, 0, none⟩) 2 64]).run Tryd.prog wr.drew = .ok (.int .i64 2) W3 ∧ Hid (W3.heap[w.heap.size]? = some (.cells (splice C 2 (reps 2 (u8c x))).toArray 5 (0, 0))) ∧ Hid (Below w.heap.size w W3) := rep_copy w.heap.size 2 62 C x w wr HB2.out hg.out HAL.out (by omega) (by omega)
      go_wp2
      go_region
      all_goals
        go_wp2
        go_roundw
        case rel => exact ⟨4, _, by simp, rfl, HLS.out, HSP.out, G3, B3.out⟩
        case measure => simp [intOf]
    · have HP : Hid (∀ W : World, W.heap = wr.heap → ∀ j v, (reps 4 (u8c x))[j]? = some v → W.cell? ((⟨w.heap.size, 0, none⟩ : Addr).add j) = some v) := rep_src (w0 := w) hg.out HAL.out
      have HR : Hid ((reps 4 (u8c x)).length = 4) := reps_len _ _
      have HF : Hid (4 + (reps 4 (u8c x)).length ≤ C.length) := by have := HR.out; show _ ≤ _; omega
      have HO2 : Hid (∀ v ∈ reps 4 (u8c x), v.oneCell' = true) := rep_list 4 _ rfl
      have HSP : Hid (∀ j, j < 8 → (splice C 4 (reps 4 (u8c x)))[j]? = some (u8c x)) := rep_splice C 4 8 _ HAL.out rfl (by omega)
      have HLS : Hid (64 ≤ (splice C 4 (reps 4 (u8c x))).length) := by show _ ≤ _; rw [length_splice _ _ _ HF.out]; exact hCl
      have hm : min (4 : Int) 64 = 4 := by decide
      obtain ⟨W3, hcp, G3, B3⟩ : ∃ W3, (Builtin.copy_ #[22, 22] 3 #[.slice (some ⟨w.heap.size, 4, none⟩) 60 60, .slice (some ⟨w.heap.size, 0, none⟩) 4 64]).run Tryd.prog wr.drew = .ok (.int .i64 4) W3 ∧ Hid (W3.heap[w.heap.size]? = some (.cells (splice C 4 (reps 4 (u8c x))).toArray 5 (0, 0))) ∧ Hid (Below w.heap.size w W3) := rep_copy w.heap.size 4 60 C x w wr HB2.out hg.out HAL.out (by omega) (by omega)
      go_wp2
      go_region
      all_goals
        go_wp2
        go_roundw
        case rel => exact ⟨8, _, by simp, rfl, HLS.out, HSP.out, G3, B3.out⟩
        case measure => simp [intOf]
    · have HP : Hid (∀ W : World, W.heap = wr.heap → ∀ j v, (reps 8 (u8c x))[j]? = some v → W.cell? ((⟨w.heap.size, 0, none⟩ : Addr).add j) = some v) := rep_src (w0 := w) hg.out HAL.out
      have HR : Hid ((reps 8 (u8c x)).length = 8) := reps_len _ _
      have HF : Hid (8 + (reps 8 (u8c x)).length ≤ C.length) := by have := HR.out; show _ ≤ _; omega
      have HO2 : Hid (∀ v ∈ reps 8 (u8c x), v.oneCell' = true) := rep_list 8 _ rfl
      have HSP : Hid (∀ j, j < 16 → (splice C 8 (reps 8 (u8c x)))[j]? = some (u8c x)) := rep_splice C 8 16 _ HAL.out rfl (by omega)
      have HLS : Hid (64 ≤ (splice C 8 (reps 8 (u8c x))).length) := by show _ ≤ _; rw [length_splice _ _ _ HF.out]; exact hCl
      have hm : min (8 : Int) 64 = 8 := by decide
      obtain ⟨W3, hcp, G3, B3⟩ : ∃ W3, (Builtin.copy_ #[22, 22] 3 #[.slice (some ⟨w.heap.size, 8, none⟩) 56 56, .slice (some ⟨w.heap.size, 0, none⟩) 8 64]).run Tryd.prog wr.drew = .ok (.int .i64 8) W3 ∧ Hid (W3.heap[w.heap.size]? = some (.cells (splice C 8 (reps 8 (u8c x))).toArray 5 (0, 0))) ∧ Hid (Below w.heap.size w W3) := rep_copy w.heap.size 8 56 C x w wr HB2.out hg.out HAL.out (by omega) (by omega)
      go_wp2
      go_region
      all_goals
        go_wp2
        go_roundw
        case rel => exact ⟨16, _, by simp, rfl, HLS.out, HSP.out, G3, B3.out⟩
        case measure => simp [intOf]
    · have HP : Hid (∀ W : World, W.heap = wr.heap → ∀ j v, (reps 16 (u8c x))[j]? = some v → W.cell? ((⟨w.heap.size, 0, none⟩ : Addr).add j) = some v) := rep_src (w0 := w) hg.out HAL.out
      have HR : Hid ((reps 16 (u8c x)).length = 16) := reps_len _ _
      have HF : Hid (16 + (reps 16 (u8c x)).length ≤ C.length) := by have := HR.out; show _ ≤ _; omega
      have HO2 : Hid (∀ v ∈ reps 16 (u8c x), v.oneCell' = true) := rep_list 16 _ rfl
      have HSP : Hid (∀ j, j < 32 → (splice C 16 (reps 16 (u8c x)))[j]? = some (u8c x)) := rep_splice C 16 32 _ HAL.out rfl (by omega)
      have HLS : Hid (64 ≤ (splice C 16 (reps 16 (u8c x))).length) := by show _ ≤ _; rw [length_splice _ _ _ HF.out]; exact hCl
      have hm : min (16 : Int) 64 = 16 := by decide
      obtain ⟨W3, hcp, G3, B3⟩ : ∃ W3, (Builtin.copy_ #[22, 22] 3 #[.slice (some ⟨w.heap.size, 16, none⟩) 48 48, .slice (some ⟨w.heap.size, 0, none⟩) 16 64]).run Tryd.prog wr.drew = .ok (.int .i64 16) W3 ∧ Hid (W3.heap[w.heap.size]? = some (.cells (splice C 16 (reps 16 (u8c x))).toArray 5 (0, 0))) ∧ Hid (Below w.heap.size w W3) := rep_copy w.heap.size 16 48 C x w wr HB2.out hg.out HAL.out (by omega) (by omega)
      go_wp2
      go_region
      all_goals
        go_wp2
        go_roundw
        case rel => exact ⟨32, _, by simp, rfl, HLS.out, HSP.out, G3, B3.out⟩
        case measure => simp [intOf]
    · have HP : Hid (∀ W : World, W.heap = wr.heap → ∀ j v, (reps 32 (u8c x))[j]? = some v → W.cell? ((⟨w.heap.size, 0, none⟩ : Addr).add j) = some v) := rep_src (w0 := w) hg.out HAL.out
      have HR : Hid ((reps 32 (u8c x)).length = 32) := reps_len _ _
      have HF : Hid (32 + (reps 32 (u8c x)).length ≤ C.length) := by have := HR.out; show _ ≤ _; omega
      have HO2 : Hid (∀ v ∈ reps 32 (u8c x), v.oneCell' = true) := rep_list 32 _ rfl
      have HSP : Hid (∀ j, j < 64 → (splice C 32 (reps 32 (u8c x)))[j]? = some (u8c x)) := rep_splice C 32 64 _ HAL.out rfl (by omega)
      have HLS : Hid (64 ≤ (splice C 32 (reps 32 (u8c x))).length) := by show _ ≤ _; rw [length_splice _ _ _ HF.out]; exact hCl
      have hm : min (32 : Int) 64 = 32 := by decide
      obtain ⟨W3, hcp, G3, B3⟩ : ∃ W3, (Builtin.copy_ #[22, 22] 3 #[.slice (some ⟨w.heap.size, 32, none⟩) 32 32, .slice (some ⟨w.heap.size, 0, none⟩) 32 64]).run Tryd.prog wr.drew = .ok (.int .i64 32) W3 ∧ Hid (W3.heap[w.heap.size]? = some (.cells (splice C 32 (reps 32 (u8c x))).toArray 5 (0, 0))) ∧ Hid (Below w.heap.size w W3) := rep_copy w.heap.size 32 32 C x w wr HB2.out hg.out HAL.out (by omega) (by omega)
      go_wp2
      go_region
      all_goals
        go_wp2
        go_roundw
        case rel => exact ⟨64, _, by simp, rfl, HLS.out, HSP.out, G3, B3.out⟩
        case measure => simp [intOf]
    · have hfin : RetRd w L (.returned (.slice (some ⟨w.heap.size, 0, none⟩) 64 64)) wr := by
        rw [HL.out]
        refine ⟨some ⟨w.heap.size, 0, none⟩, 64, ?_, ?_, HB2.out⟩
        · rfl
        · refine ⟨by simp, by simp, by simp [maxLen], fun _ => ⟨_, _, rfl, ?_⟩⟩
          intro j u hu
          have hj : j < 64 := by have := (List.getElem?_eq_some_iff.1 hu).1; simpa using this
          have hv : u = u8c x := by rw [List.map_replicate] at hu; exact List.eq_of_mem_replicate (List.mem_of_getElem? hu)
          subst hv
          rw [Nat.zero_add]
          have hb : Blk wr w.heap.size 5 C := hg.out
          rw [hb.cell]
          exact HAL.out j hj
      have HF := Lib.hid hfin; clear hfin
      go_wp2
      go_ret
      exact HF.out
end Go.Proofs.YtbmijjodpdbbmaaDoor
