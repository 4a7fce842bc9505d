/- Own texts of this claim, one behind the other. No condition. -/
import Derived.Test.YtcfbbgbjlgonpaaGreatDoorObPkAC
import Derived.Test.YtcfbbgbjlgonpaaGreatDoorObPkAD
import Derived.Test.YtcfbbgbjlgonpaaGreatDoorObPkAE
import Derived.Test.YtcfbbgbjlgonpaaGreatDoorObPkAG
import Derived.Laws.CopyOwn
import Derived.Lib.MakeNoZero
import Derived.Deep.RegionLaw

/- ObMacW, ObMacK, ObMacT: one text. No condition. -/
namespace Go.Proofs.YtcfbbgbjlgonpaaGreatDoor
open Go.RowKit
set_option linter.unusedVariables false

theorem mul64_one (w : World) : Calls Tryz.prog 166 #[.int .u64 1, .int .u64 64] w fun e w' => e = .returned (.tuple #[.int .u64 0, .int .u64 64]) ∧ w = w' := by
  have b1 : bits .and .u64 1 4294967295 = 1 := by decide
  have b2 : bits .and .u64 64 4294967295 = 64 := by decide
  have b3 : bits .and .u64 0 4294967295 = 0 := by decide
  have b4 : IntKind.u64.wrap 64 = 64 := by decide
  have b5 : IntKind.u64.wrap 0 = 0 := by decide
  go_enter Tryz.func166, Tryz.ntmps166
  go_wp2_with go_in
  go_ret2
  exact ⟨rfl, rfl⟩
theorem splice_at (C cs : List Value) (off k : Nat) (v : Value) (hC : ∀ j, j < off → C[j]? = some v) (hcs : ∀ j, j < cs.length → cs[j]? = some v) (hl : off + cs.length ≤ C.length) : ∀ j, j < off + cs.length → (splice C off cs)[j]? = some v := by
  intro j hj
  unfold splice
  rcases Nat.lt_or_ge j off with h | h
  · rw [List.getElem?_append_left (by rw [List.length_take]; omega), List.getElem?_take_of_lt h]; exact hC j h
  · rw [List.getElem?_append_right (by rw [List.length_take]; omega), List.length_take, Nat.min_eq_left (by omega), List.getElem?_append_left (by omega)]
    exact hcs _ (by omega)
def RetRd (w : World) (l : List UInt8) (e : Ending) (w' : World) : Prop := ∃ A c, e = .returned (.slice A l.length c) ∧ Bs w' A l.length c l ∧ Below w.heap.size w w'
theorem rep_list (k : Nat) (v : Value) (h1 : v.oneCell' = true) : ∀ u ∈ reps k v, u.oneCell' = true := by
  intro u hu
  rw [List.eq_of_mem_replicate hu]; exact h1
theorem reps_at2 (n j : Nat) (v : Value) (h : j < n) : (reps n v)[j]? = some v := by simp [reps, h]
theorem reps_len (n : Nat) (v : Value) : (reps n v).length = n := by simp [reps]
theorem reps_lt {n j : Nat} {v u : Value} (h : (reps n v)[j]? = some u) : j < n ∧ u = v := by
  refine ⟨?_, List.eq_of_mem_replicate (List.mem_of_getElem? h)⟩
  have := (List.getElem?_eq_some_iff.1 h).1
  rwa [reps_len] at this
theorem rep_src {w0 wr : World} {g n : Nat} {v : Value} {C : List Value} {t : TypeId} (hg : wr.heap[g]? = some (.cells C.toArray t (0, 0))) (hall : ∀ j, j < n → C[j]? = some v) :
    ∀ W : World, W.heap = wr.heap → ∀ j u, (reps n v)[j]? = some u → W.cell? ((⟨g, 0, none⟩ : Addr).add j) = some u := by
  intro W hW j u hj
  obtain ⟨hlt, rfl⟩ := reps_lt hj
  rw [add_flat, Nat.zero_add]
  have hb : Blk W g t C := by unfold Blk; rw [hW]; exact hg
  rw [hb.cell]
  exact hall j hlt
theorem rep_splice (C : List Value) (n m : Nat) (v : Value) (hC : ∀ j, j < n → C[j]? = some v) (hm : m = n + n) (hl : m ≤ C.length) : ∀ j, j < m → (splice C n (reps n v))[j]? = some v := by
  intro j hj
  exact splice_at C (reps n v) n 0 v hC (by intro j hj; rw [reps_len] at hj; exact reps_at2 n j v hj) (by rw [reps_len]; omega) j (by rw [reps_len]; omega)
theorem rep_copy (g n d : Nat) (C : List Value) (x : UInt8) (w wr : World) (hB : Below g w wr) (hg : wr.heap[g]? = some (.cells C.toArray 5 (0, 0))) (hall : ∀ j, j < n → C[j]? = some (u8c x)) (hd : n ≤ d) (hl : n + n ≤ C.length) :
    ∃ W3, (Builtin.copy_ #[28, 28] 3 #[.slice (some ⟨g, n, none⟩) d d, .slice (some ⟨g, 0, none⟩) n 64]).run Tryz.prog wr.drew = .ok (.int .i64 n) W3 ∧ Hid (W3.heap[g]? = some (.cells (splice C n (reps n (u8c x))).toArray 5 (0, 0))) ∧ Hid (Below g w W3) := by
  have e := run_copy_row (P := Tryz.prog) wr.drew 28 28 3 5 g n d d ⟨g, 0, none⟩ n 64 C.toArray 5 (reps n (u8c x)) Tryz.underlying28 (by kernel_rfl) hg (by rw [reps_len]; exact (Nat.min_eq_left hd).symm) (rep_src (w0 := w) hg hall _ rfl) (by rw [reps_len]; simpa using hl) (rep_list n _ rfl)
  rw [reps_len] at e
  refine ⟨_, e, ?_, ?_⟩
  · show _ = _
    have := setRow_heap wr.drew g _ (C.toArray.toList.take n ++ reps n (u8c x) ++ C.toArray.toList.drop (n + n)).toArray _ _ hg
    rw [this]
    simp [splice, reps_len]
  · exact below_setRow hB.drew (Nat.le_refl _) _
set_option maxRecDepth 100000 in
set_option maxHeartbeats 2000000 in
theorem repeat_any (A : Option Addr) (k : Nat) (x : UInt8) (w : World) (h : Bs w A 1 k [x]) :
    Calls Tryz.prog 145 #[.slice A 1 k, .int .i64 64] w (RetRd w (List.replicate 64 x)) := by
  obtain ⟨b, o, rfl, hc⟩ := h.addr (by omega)
  have hk := h.cap
  have hmax := h.max
  have hc0 : w.cell? ⟨b, o, none⟩ = some (u8c x) := hc 0 (by omega)
  have hblt : b < w.heap.size := World.block_lt_of_cell? w _ hc0
  obtain ⟨cs, hrun, hle, hmx⟩ := Lib.run_makeNoZero (P := Tryz.prog) w #[3] 28 5 Tryz.underlying28 64 (by omega)
  obtain ⟨C0, rfl⟩ : ∃ C0 : List Value, cs = C0.toArray := ⟨cs.toList, by simp⟩
  have hC0 : 64 ≤ C0.length := by simpa using hle
  have hCm : C0.length ≤ 9223372036854775807 := by have := hmx (by simp [maxLen]); simpa [maxLen] using this
  have hcall : (callFunc 167 #[.int .i64 64]).run Tryz.prog w = .ok (.value (.slice (some ⟨w.heap.size, 0, none⟩) 64 C0.length)) ((w.alloc (.cells C0.toArray 5)).drewN 2) := by
    have e := run_callFunc_extern Tryz.func167 (by kernel_rfl) (by kernel_rfl) (by kernel_rfl) (e := Extern.BytealgMakeNoZero.makeNoZero #[3] #[28]) (by kernel_rfl) (args := #[.int .i64 64]) (w := w)
    rw [e, show (Value.int .i64 64) = Value.int .i64 ((64 : Nat) : Int) from rfl, hrun]
    simp
    rfl
  obtain ⟨W1, hW1⟩ : ∃ W1, W1 = (w.alloc (.cells C0.toArray 5)).drewN 2 := ⟨_, rfl⟩
  rw [← hW1] at hcall
  have B1 : Hid (Below w.heap.size w W1) := by rw [hW1]; exact belowN ((Below.refl _ _).alloc (Nat.le_refl _) _) 2
  have G1 : Hid (W1.heap[w.heap.size]? = some (.cells C0.toArray 5 (0, 0))) := by rw [hW1]; exact heap_alloc_new w _
  have HX : Hid (W1.cell? ⟨b, o, none⟩ = some (u8c x)) := (B1.out.cell (p := ⟨b, o, none⟩) hblt).trans hc0
  clear hrun hle hmx hc hc0 hW1 h
  obtain ⟨L, hL⟩ : ∃ L, L = List.replicate 64 x := ⟨_, rfl⟩
  rw [← hL]
  have HL := Lib.hid hL; clear hL
  have HS : Hid (∀ W : World, W.cell? ⟨b, o, none⟩ = some (u8c x) → ∀ j v, [u8c x][j]? = some v → W.cell? ((⟨b, o, none⟩ : Addr).add j) = some v) := by
    intro W hW j v hj
    have h0 : j = 0 := by have := (List.getElem?_eq_some_iff.1 hj).1; simpa using this
    subst h0
    rw [add_flat]
    rw [← hj]; exact hW
  have HO : Hid (∀ v ∈ [u8c x], v.oneCell' = true) := by intro v hv; simp at hv; subst hv; rfl
  obtain ⟨W2, hcopy, G2, B2⟩ : ∃ W2, (Builtin.copy_ #[28, 28] 3 #[.slice (some ⟨w.heap.size, 0, none⟩) 64 64, .slice (some ⟨b, o, none⟩) 1 k]).run Tryz.prog W1 = .ok (.int .i64 1) W2 ∧ Hid (W2.heap[w.heap.size]? = some (.cells (splice C0 0 [u8c x]).toArray 5 (0, 0))) ∧ Hid (Below w.heap.size w W2) := by
    refine ⟨_, run_copy_row (P := Tryz.prog) W1 28 28 3 5 w.heap.size 0 64 64 ⟨b, o, none⟩ 1 k C0.toArray 5 [u8c x] Tryz.underlying28 (by kernel_rfl) G1.out rfl (HS.out _ HX.out) (by simp; omega) HO.out, ?_, ?_⟩
    · show _ = _
      simpa [splice] using setRow_heap W1 w.heap.size _ _ _ _ G1.out
    · exact below_setRow B1.out (Nat.le_refl _) _
  go_enter Tryz.func145, Tryz.ntmps145
  go_wp2_with (go_at_call 166; refine (mul64_one _).mono ?_; rintro e w' ⟨rfl, rfl⟩)
  go_loopw [10, 11] (fun i _ wr => ∃ (n : Nat) (C : List Value), (n = 1 ∨ n = 2 ∨ n = 4 ∨ n = 8 ∨ n = 16 ∨ n = 32 ∨ n = 64) ∧ i = .int .i64 n ∧ 64 ≤ C.length ∧ (∀ j, j < n → C[j]? = some (u8c x)) ∧ Hid (wr.heap[w.heap.size]? = some (.cells C.toArray 5 (0, 0))) ∧ Below w.heap.size w wr) (fun i _ _ => 64 - (intOf i).toNat)
  case atStart =>
    refine ⟨1, splice C0 0 [u8c x], .inl rfl, rfl, by rw [length_splice _ _ _ (by simp; omega)]; exact hC0, ?_, G2, B2.out⟩
    exact splice_at C0 [u8c x] 0 0 (u8c x) (by omega) (by intro j hj; have h0 : j = 0 := (by simpa using hj); subst h0; rfl) (by simp; omega)
  case round =>
    obtain ⟨n, C, hn, rfl, hCl, hall, hg, hbel⟩ := hrel
    have HAL := Lib.hid hall
    have HB2 := Lib.hid hbel
    clear hall hbel
    rcases hn with rfl | rfl | rfl | rfl | rfl | rfl | rfl
    · have HP : Hid (∀ W : World, W.heap = wr.heap → ∀ j v, (reps 1 (u8c x))[j]? = some v → W.cell? ((⟨w.heap.size, 0, none⟩ : Addr).add j) = some v) := rep_src (w0 := w) hg.out HAL.out
      have HR : Hid ((reps 1 (u8c x)).length = 1) := reps_len _ _
      have HF : Hid (1 + (reps 1 (u8c x)).length ≤ C.length) := by have := HR.out; show _ ≤ _; omega
      have HO2 : Hid (∀ v ∈ reps 1 (u8c x), v.oneCell' = true) := rep_list 1 _ rfl
      have HSP : Hid (∀ j, j < 2 → (splice C 1 (reps 1 (u8c x)))[j]? = some (u8c x)) := rep_splice C 1 2 _ HAL.out rfl (by omega)
      have HLS : Hid (64 ≤ (splice C 1 (reps 1 (u8c x))).length) := by show _ ≤ _; rw [length_splice _ _ _ HF.out]; exact hCl
      have hm : min (1 : Int) 64 = 1 := by decide
      obtain ⟨W3, hcp, G3, B3⟩ : ∃ W3, (Builtin.copy_ #[28, 28] 3 #[.slice (some ⟨w.heap.size, 1, none⟩) 63 63, .slice (some ⟨w.heap.size, 0, none⟩) 1 64]).run Tryz.prog wr.drew = .ok (.int .i64 1) W3 ∧ Hid (W3.heap[w.heap.size]? = some (.cells (splice C 1 (reps 1 (u8c x))).toArray 5 (0, 0))) ∧ Hid (Below w.heap.size w W3) := rep_copy w.heap.size 1 63 C x w wr HB2.out hg.out HAL.out (by omega) (by omega)
      go_wp2
      go_region
      all_goals
        go_wp2
        go_roundw
        case rel => exact ⟨2, _, by simp, rfl, HLS.out, HSP.out, G3, B3.out⟩
        case measure => simp [intOf]
    · have HP : Hid (∀ W : World, W.heap = wr.heap → ∀ j v, (reps 2 (u8c x))[j]? = some v → W.cell? ((⟨w.heap.size, 0, none⟩ : Addr).add j) = some v) := rep_src (w0 := w) hg.out HAL.out
      have HR : Hid ((reps 2 (u8c x)).length = 2) := reps_len _ _
      have HF : Hid (2 + (reps 2 (u8c x)).length ≤ C.length) := by have := HR.out; show _ ≤ _; omega
      have HO2 : Hid (∀ v ∈ reps 2 (u8c x), v.oneCell' = true) := rep_list 2 _ rfl
      have HSP : Hid (∀ j, j < 4 → (splice C 2 (reps 2 (u8c x)))[j]? = some (u8c x)) := rep_splice C 2 4 _ HAL.out rfl (by omega)
      have HLS : Hid (64 ≤ (splice C 2 (reps 2 (u8c x))).length) := by show _ ≤ _; rw [length_splice _ _ _ HF.out]; exact hCl
      have hm : min (2 : Int) 64 = 2 := by decide
      obtain ⟨W3, hcp, G3, B3⟩ : ∃ W3, (Builtin.copy_ #[28, 28] 3 #[.slice (some ⟨w.heap.size, 2, none⟩) 62 62, .slice (some ⟨w.heap.size, 0, none⟩) 2 64]).run Tryz.prog wr.drew = .ok (.int .i64 2) W3 ∧ Hid (W3.heap[w.heap.size]? = some (.cells (splice C 2 (reps 2 (u8c x))).toArray 5 (0, 0))) ∧ Hid (Below w.heap.size w W3) := rep_copy w.heap.size 2 62 C x w wr HB2.out hg.out HAL.out (by omega) (by omega)
      go_wp2
      go_region
      all_goals
        go_wp2
        go_roundw
        case rel => exact ⟨4, _, by simp, rfl, HLS.out, HSP.out, G3, B3.out⟩
        case measure => simp [intOf]
    · have HP : Hid (∀ W : World, W.heap = wr.heap → ∀ j v, (reps 4 (u8c x))[j]? = some v → W.cell? ((⟨w.heap.size, 0, none⟩ : Addr).add j) = some v) := rep_src (w0 := w) hg.out HAL.out
      have HR : Hid ((reps 4 (u8c x)).length = 4) := reps_len _ _
      have HF : Hid (4 + (reps 4 (u8c x)).length ≤ C.length) := by have := HR.out; show _ ≤ _; omega
      have HO2 : Hid (∀ v ∈ reps 4 (u8c x), v.oneCell' = true) := rep_list 4 _ rfl
      have HSP : Hid (∀ j, j < 8 → (splice C 4 (reps 4 (u8c x)))[j]? = some (u8c x)) := rep_splice C 4 8 _ HAL.out rfl (by omega)
      have HLS : Hid (64 ≤ (splice C 4 (reps 4 (u8c x))).length) := by show _ ≤ _; rw [length_splice _ _ _ HF.out]; exact hCl
      have hm : min (4 : Int) 64 = 4 := by decide
      obtain ⟨W3, hcp, G3, B3⟩ : ∃ W3, (Builtin.copy_ #[28, 28] 3 #[.slice (some ⟨w.heap.size, 4, none⟩) 60 60, .slice (some ⟨w.heap.size, 0, none⟩) 4 64]).run Tryz.prog wr.drew = .ok (.int .i64 4) W3 ∧ Hid (W3.heap[w.heap.size]? = some (.cells (splice C 4 (reps 4 (u8c x))).toArray 5 (0, 0))) ∧ Hid (Below w.heap.size w W3) := rep_copy w.heap.size 4 60 C x w wr HB2.out hg.out HAL.out (by omega) (by omega)
      go_wp2
      go_region
      all_goals
        go_wp2
        go_roundw
        case rel => exact ⟨8, _, by simp, rfl, HLS.out, HSP.out, G3, B3.out⟩
        case measure => simp [intOf]
    · have HP : Hid (∀ W : World, W.heap = wr.heap → ∀ j v, (reps 8 (u8c x))[j]? = some v → W.cell? ((⟨w.heap.size, 0, none⟩ : Addr).add j) = some v) := rep_src (w0 := w) hg.out HAL.out
      have HR : Hid ((reps 8 (u8c x)).length = 8) := reps_len _ _
      have HF : Hid (8 + (reps 8 (u8c x)).length ≤ C.length) := by have := HR.out; show _ ≤ _; omega
      have HO2 : Hid (∀ v ∈ reps 8 (u8c x), v.oneCell' = true) := rep_list 8 _ rfl
      have HSP : Hid (∀ j, j < 16 → (splice C 8 (reps 8 (u8c x)))[j]? = some (u8c x)) := rep_splice C 8 16 _ HAL.out rfl (by omega)
      have HLS : Hid (64 ≤ (splice C 8 (reps 8 (u8c x))).length) := by show _ ≤ _; rw [length_splice _ _ _ HF.out]; exact hCl
      have hm : min (8 : Int) 64 = 8 := by decide
      obtain ⟨W3, hcp, G3, B3⟩ : ∃ W3, (Builtin.copy_ #[28, 28] 3 #[.slice (some ⟨w.heap.size, 8, none⟩) 56 56, .slice (some ⟨w.heap.size, 0, none⟩) 8 64]).run Tryz.prog wr.drew = .ok (.int .i64 8) W3 ∧ Hid (W3.heap[w.heap.size]? = some (.cells (splice C 8 (reps 8 (u8c x))).toArray 5 (0, 0))) ∧ Hid (Below w.heap.size w W3) := rep_copy w.heap.size 8 56 C x w wr HB2.out hg.out HAL.out (by omega) (by omega)
      go_wp2
      go_region
      all_goals
        go_wp2
        go_roundw
        case rel => exact ⟨16, _, by simp, rfl, HLS.out, HSP.out, G3, B3.out⟩
        case measure => simp [intOf]
    · have HP : Hid (∀ W : World, W.heap = wr.heap → ∀ j v, (reps 16 (u8c x))[j]? = some v → W.cell? ((⟨w.heap.size, 0, none⟩ : Addr).add j) = some v) := rep_src (w0 := w) hg.out HAL.out
      have HR : Hid ((reps 16 (u8c x)).length = 16) := reps_len _ _
      have HF : Hid (16 + (reps 16 (u8c x)).length ≤ C.length) := by have := HR.out; show _ ≤ _; omega
      have HO2 : Hid (∀ v ∈ reps 16 (u8c x), v.oneCell' = true) := rep_list 16 _ rfl
      have HSP : Hid (∀ j, j < 32 → (splice C 16 (reps 16 (u8c x)))[j]? = some (u8c x)) := rep_splice C 16 32 _ HAL.out rfl (by omega)
      have HLS : Hid (64 ≤ (splice C 16 (reps 16 (u8c x))).length) := by show _ ≤ _; rw [length_splice _ _ _ HF.out]; exact hCl
      have hm : min (16 : Int) 64 = 16 := by decide
      obtain ⟨W3, hcp, G3, B3⟩ : ∃ W3, (Builtin.copy_ #[28, 28] 3 #[.slice (some ⟨w.heap.size, 16, none⟩) 48 48, .slice (some ⟨w.heap.size, 0, none⟩) 16 64]).run Tryz.prog wr.drew = .ok (.int .i64 16) W3 ∧ Hid (W3.heap[w.heap.size]? = some (.cells (splice C 16 (reps 16 (u8c x))).toArray 5 (0, 0))) ∧ Hid (Below w.heap.size w W3) := rep_copy w.heap.size 16 48 C x w wr HB2.out hg.out HAL.out (by omega) (by omega)
      go_wp2
      go_region
      all_goals
        go_wp2
        go_roundw
        case rel => exact ⟨32, _, by simp, rfl, HLS.out, HSP.out, G3, B3.out⟩
        case measure => simp [intOf]
    · have HP : Hid (∀ W : World, W.heap = wr.heap → ∀ j v, (reps 32 (u8c x))[j]? = some v → W.cell? ((⟨w.heap.size, 0, none⟩ : Addr).add j) = some v) := rep_src (w0 := w) hg.out HAL.out
      have HR : Hid ((reps 32 (u8c x)).length = 32) := reps_len _ _
      have HF : Hid (32 + (reps 32 (u8c x)).length ≤ C.length) := by have := HR.out; show _ ≤ _; omega
      have HO2 : Hid (∀ v ∈ reps 32 (u8c x), v.oneCell' = true) := rep_list 32 _ rfl
      have HSP : Hid (∀ j, j < 64 → (splice C 32 (reps 32 (u8c x)))[j]? = some (u8c x)) := rep_splice C 32 64 _ HAL.out rfl (by omega)
      have HLS : Hid (64 ≤ (splice C 32 (reps 32 (u8c x))).length) := by show _ ≤ _; rw [length_splice _ _ _ HF.out]; exact hCl
      have hm : min (32 : Int) 64 = 32 := by decide
      obtain ⟨W3, hcp, G3, B3⟩ : ∃ W3, (Builtin.copy_ #[28, 28] 3 #[.slice (some ⟨w.heap.size, 32, none⟩) 32 32, .slice (some ⟨w.heap.size, 0, none⟩) 32 64]).run Tryz.prog wr.drew = .ok (.int .i64 32) W3 ∧ Hid (W3.heap[w.heap.size]? = some (.cells (splice C 32 (reps 32 (u8c x))).toArray 5 (0, 0))) ∧ Hid (Below w.heap.size w W3) := rep_copy w.heap.size 32 32 C x w wr HB2.out hg.out HAL.out (by omega) (by omega)
      go_wp2
      go_region
      all_goals
        go_wp2
        go_roundw
        case rel => exact ⟨64, _, by simp, rfl, HLS.out, HSP.out, G3, B3.out⟩
        case measure => simp [intOf]
    · have hfin : RetRd w L (.returned (.slice (some ⟨w.heap.size, 0, none⟩) 64 64)) wr := by
        rw [HL.out]
        refine ⟨some ⟨w.heap.size, 0, none⟩, 64, ?_, ?_, HB2.out⟩
        · rfl
        · refine ⟨by simp, by simp, by simp [maxLen], fun _ => ⟨_, _, rfl, ?_⟩⟩
          intro j u hu
          have hj : j < 64 := by have := (List.getElem?_eq_some_iff.1 hu).1; simpa using this
          have hv : u = u8c x := by rw [List.map_replicate] at hu; exact List.eq_of_mem_replicate (List.mem_of_getElem? hu)
          subst hv
          rw [Nat.zero_add]
          have hb : Blk wr w.heap.size 5 C := hg.out
          rw [hb.cell]
          exact HAL.out j hj
      have HF := Lib.hid hfin; clear hfin
      go_wp2
      go_ret
      exact HF.out
end Go.Proofs.YtcfbbgbjlgonpaaGreatDoor
namespace Go.Proofs.YtcfbbgbjlgonpaaGreatDoor
open Go.RowKit
set_option linter.unusedVariables false

/-! ### the mac -/
def keyL (k : List UInt8) : List UInt8 := padL (if 64 < k.length then sumL k else k) 64
theorem keyL_len (k : List UInt8) : (keyL k).length = 64 := padL_length _ _
def keyX (k : List UInt8) (x : UInt8) : List UInt8 := xorL (keyL k) (List.replicate 64 x)
theorem keyX_len (k : List UInt8) (x : UInt8) : (keyX k x).length = 64 := by
  unfold keyX; rw [xorL_length, keyL_len, List.length_replicate]; rfl
def macL (k t : List UInt8) : List UInt8 := sumL (keyX k 92 ++ sumL (keyX k 54 ++ t))
theorem macL_len (k t : List UInt8) : (macL k t).length = 32 := sumL_len _

theorem key_any (A : Option Addr) (n c : Nat) (l : List UInt8) (w : World) (h : Bs w A n c l) (hn : n ≤ 50000) (hK : ShaK w) :
    Calls Tryz.prog 143 #[.slice A n c] w (RetBs w (keyL l)) := by
  have hl : l.length = n := by have := Sl.len h; simpa using this
  have HH := Lib.hid h; clear h
  have HK := Lib.hid hK; clear hK
  by_cases h64 : 64 < n
  · have e1 : keyL l = padL (sumL l) 64 := by unfold keyL; rw [if_pos (by omega)]
    rw [e1]
    obtain ⟨M, hM⟩ : ∃ M, M = sumL l := ⟨_, rfl⟩
    rw [← hM]
    have HM := Lib.hid hM; clear hM e1
    go_enter Tryz.func143, Tryz.ntmps143
    go_wp2_with (first
      | (go_at_call 146; refine (sum_any A n c l _ HH.out (by omega) HK.out).mono ?_; rintro e w1 ⟨v1, rfl, own1⟩; rw [← HM.out] at own1; obtain ⟨A1, k1, rfl, sl1⟩ := own1.slice; have O1 := Lib.hid own1; have S1 := Lib.hid sl1; clear own1 sl1)
      | (go_at_call 47; refine (pad_yes A1 _ k1 M 64 _ S1.out (by omega) (by omega)).mono ?_; rintro e w2 ⟨v2, rfl, own2⟩; have O2 := Lib.hid own2; clear own2))
    go_ret
    exact ⟨_, rfl, O2.out.base O1.out.below⟩
  · have e1 : keyL l = padL l 64 := by unfold keyL; rw [if_neg (by omega)]
    rw [e1]
    go_enter Tryz.func143, Tryz.ntmps143
    go_wp2_with (go_at_call 47; refine (pad_yes A n c l 64 _ HH.out (by omega) (by omega)).mono ?_; rintro e w2 ⟨v2, rfl, own2⟩; have O2 := Lib.hid own2; clear own2)
    go_ret
    exact ⟨_, rfl, O2.out⟩

/-- tag$1: the padded key lies in a box. -/
theorem tagf_any (p : Nat) (x : UInt8) (xi : Int) (hx : xi = (x.toNat : Int)) (A : Option Addr) (c : Nat) (k : List UInt8) (w : World) (hp : w.cell? ⟨p, 0, none⟩ = some (.slice A 64 c)) (hk : Bs w A 64 c k) :
    Calls Tryz.prog 144 #[.int .u8 xi, .pointer (some ⟨p, 0, none⟩)] w (RetBs w (xorL k (List.replicate 64 x))) := by
  have hlt := World.block_lt_of_cell? w _ hp
  have HK := Lib.hid hk; clear hk
  obtain ⟨L, hL⟩ : ∃ L, L = List.replicate 64 x := ⟨_, rfl⟩
  have hLl : L.length = 64 := by rw [hL]; simp
  have HL := Lib.hid hL; clear hL
  have HLL := Lib.hid hLl; clear hLl
  rw [← HL.out]
  have HX := Lib.hid hx; clear hx
  have HREP : Hid (Calls Tryz.prog 145 #[.slice (some ⟨w.heap.size, 0, none⟩) 1 1, .int .i64 64] (w.alloc (.cells #[.int .u8 xi] 5)).drew (RetRd (w.alloc (.cells #[.int .u8 xi] 5)).drew L)) := by
    rw [HL.out]
    refine repeat_any _ 1 x _ ?_
    refine ⟨by simp, Nat.le_refl _, by simp [maxLen], fun _ => ⟨_, _, rfl, ?_⟩⟩
    intro j u hu
    have h0 : j = 0 := by have := (List.getElem?_eq_some_iff.1 hu).1; simpa using this
    subst h0
    have hb : Blk (w.alloc (.cells #[.int .u8 xi] 5)).drew w.heap.size 5 [.int .u8 xi] := Blk.new w _ _
    rw [hb.cell, HX.out]
    exact hu
  have HP : Hid (∀ W : World, Below w.heap.size w W → W.cell? ⟨p, 0, none⟩ = some (.slice A 64 c)) := fun W hW => (hW.cell hlt).trans hp
  go_enter Tryz.func144, Tryz.ntmps144
  go_wp2_with fail
  go_region_law (first
    | (go_simp; go_at_call 145; refine HREP.out.mono ?_; rintro e w1 ⟨A1, k1, rfl, s1, b1⟩; rw [HLL.out] at s1; have B1 : Hid (Below w.heap.size w w1) := (((Below.refl w.heap.size w).alloc (Nat.le_refl _) _).drew).trans (b1.mono (by simp [World.drew])); have S1 := Lib.hid s1; clear s1 b1; rw [HLL.out]; have d1 := HP.out w1 B1.out)
    | (go_simp; go_at_call 114; refine (xor_any A A1 64 64 c k1 k L _ (HK.out.mono B1.out) S1.out (by omega)).mono ?_; rintro e w2 ⟨v2, rfl, own2⟩; have O2 : Hid (Own w w2 _ 1 v2 _ _) := own2.base B1.out; clear own2))
  all_goals
    go_wp2
    go_ret
    exact ⟨_, rfl, O2.out⟩
end Go.Proofs.YtcfbbgbjlgonpaaGreatDoor
namespace Go.Proofs.YtcfbbgbjlgonpaaGreatDoor
open Go.RowKit
set_option linter.unusedVariables false

theorem tag_any (A B : Option Addr) (n c m d : Nat) (k : List UInt8) (L : List BRow) (w : World) (h : Bs w A n c k) (hn : n ≤ 50000) (hL : Bss w B m d L) (hm : (rowsOf L).length ≤ 40000) (hK : ShaK w) :
    Calls Tryz.prog 116 #[.slice A n c, .slice B m d] w (RetBs w (macL k (rowsOf L))) := by
  have HH := Lib.hid h; clear h
  have HK := Lib.hid hK; clear hK
  have HB := Lib.hid hL; clear hL
  obtain ⟨T, hT⟩ : ∃ T, T = rowsOf L := ⟨_, rfl⟩
  rw [← hT] at hm ⊢
  have HT := Lib.hid hT; clear hT
  obtain ⟨K64, hK64⟩ : ∃ K64, K64 = keyL k := ⟨_, rfl⟩
  have hKl : K64.length = 64 := by rw [hK64, keyL_len]
  obtain ⟨X1, hX1⟩ : ∃ X1, X1 = xorL K64 (List.replicate 64 54) := ⟨_, rfl⟩
  obtain ⟨X2, hX2⟩ : ∃ X2, X2 = xorL K64 (List.replicate 64 92) := ⟨_, rfl⟩
  have hX1l : X1.length = 64 := by rw [hX1, xorL_length, hKl, List.length_replicate]; rfl
  have hX2l : X2.length = 64 := by rw [hX2, xorL_length, hKl, List.length_replicate]; rfl
  obtain ⟨S1, hS1⟩ : ∃ S1, S1 = sumL (X1 ++ T) := ⟨_, rfl⟩
  have hS1l : S1.length = 32 := by rw [hS1, sumL_len]
  have hM : macL k T = sumL (X2 ++ S1) := by unfold macL keyX; rw [← hK64, ← hX1, ← hX2, ← hS1]
  rw [hM]
  have HK64 := Lib.hid hK64; have HX1 := Lib.hid hX1; have HX2 := Lib.hid hX2; have HS1 := Lib.hid hS1; have HKl := Lib.hid hKl; have HX1l := Lib.hid hX1l; have HX2l := Lib.hid hX2l; have HS1l := Lib.hid hS1l
  clear hK64 hX1 hX2 hS1 hKl hX1l hX2l hS1l hM
  go_enter Tryz.func116, Tryz.ntmps116
  go_wp2_with (first
    | (go_at_call 143; refine (key_any A n c k _ HH.out hn HK.out).mono ?_; rintro e w1 ⟨v1, rfl, own1⟩; rw [← HK64.out] at own1; obtain ⟨A1, k1, rfl, sl1⟩ := own1.slice; rw [HKl.out] at sl1; rw [HKl.out]; have O1 := Lib.hid own1.below; have SK := Lib.hid sl1; clear own1 sl1)
    | fail)
  obtain ⟨W1, hW1⟩ : ∃ W1, W1 = w1.alloc (.cells #[.slice A1 64 k1] 28) := ⟨_, rfl⟩
  have D1 : Hid (Below w1.heap.size w1 W1) := by rw [hW1]; exact (Below.refl _ _).alloc (Nat.le_refl _) _
  have E1 : Hid (Below w.heap.size w W1) := O1.out.trans (D1.out.mono O1.out.size)
  have SK1 : Hid (Bs W1 A1 64 k1 K64) := SK.out.mono D1.out
  have cb : W1.cell? ⟨w1.heap.size, 0, none⟩ = some (.slice A1 64 k1) := by rw [hW1, (Blk.new w1 _ _).cell]; rfl
  have CB := Lib.hid cb; clear cb
  rw [← hW1]
  generalize w1.heap.size = p1 at *
  clear hW1 D1 O1 SK
  refine (tagf_any p1 54 54 rfl A1 k1 K64 W1 CB.out SK1.out).mono ?_
  rintro e w2 ⟨v2, rfl, own2⟩
  rw [← HX1.out, HX1l.out] at own2
  have O2 := Lib.hid own2; clear own2
  have E2 : Hid (Below w.heap.size w w2) := below_both E1.out O2.out.below
  go_wp2_with (first
    | (go_at_call 80; refine (concat_any B m d L _ (HB.out.mono E2.out) (by rw [← HT.out]; omega)).mono ?_; rintro e w3 ⟨v3, rfl, own3⟩; rw [← HT.out] at own3; obtain ⟨A3, k3, rfl, sl3⟩ := own3.slice; have O3 := Lib.hid own3.below; have S3 := Lib.hid sl3; clear own3 sl3)
    | (at_builtin; refine wpList_cat rfl (.tmp 12) (.tmp 14) 28 rfl tBytes rfl (O2.out.mono O3.out) rfl S3.out (one_bytes _) (by omega) ?_; intro v4 w4 own4; obtain ⟨A4, k4, rfl, sl4⟩ := own4.slice; rw [← List.map_append] at sl4; have E4 : Hid (Below w.heap.size w w4) := below_both E1.out own4.below; have F4 := Lib.hid own4.below; have S4 := Lib.hid sl4; clear own4 sl4)
    | (go_at_call 146; refine (sum_any A4 _ k4 (X1 ++ T) _ S4.out (by omega) (HK.out.mono E4.out)).mono ?_; rintro e w5 ⟨v5, rfl, own5⟩; rw [← HS1.out, HS1l.out] at own5; obtain ⟨A5, k5, rfl, sl5⟩ := own5.slice; have E5 : Hid (Below w.heap.size w w5) := below_both E4.out own5.below; have F5 : Hid (Below W1.heap.size W1 w5) := below_both F4.out own5.below; have S5 := Lib.hid sl5; clear own5 sl5)
    | fail)
  have C5 : Hid (w5.cell? ⟨p1, 0, none⟩ = some (.slice A1 64 k1)) := (F5.out.cell (World.block_lt_of_cell? W1 _ CB.out)).trans CB.out
  refine (tagf_any p1 92 92 rfl A1 k1 K64 w5 C5.out (SK1.out.mono F5.out)).mono ?_
  rintro e w6 ⟨v6, rfl, own6⟩
  rw [← HX2.out, HX2l.out] at own6
  have O6 := Lib.hid own6; clear own6
  go_wp2_with (first
    | (at_builtin; refine wpList_cat rfl (.tmp 18) (.tmp 19) 28 rfl tBytes rfl O6.out rfl (S5.out.mono O6.out.below) (one_bytes _) (by omega) ?_; intro v7 w7 own7; obtain ⟨A7, k7, rfl, sl7⟩ := own7.slice; rw [← List.map_append] at sl7; have E7 : Hid (Below w.heap.size w w7) := below_both E5.out own7.below; have S7 := Lib.hid sl7; clear own7 sl7)
    | (go_at_call 146; refine (sum_any A7 _ k7 (X2 ++ S1) _ S7.out (by omega) (HK.out.mono E7.out)).mono ?_; rintro e w8 ⟨v8, rfl, own8⟩; have O8 := Lib.hid (own8.base E7.out); clear own8)
    | fail)
  go_ret
  exact ⟨_, rfl, O8.out⟩

/-- A row of rows that the call has just made: one row. -/
theorem Bss.one {w : World} {r : BRow} (h : Bs w r.a r.n r.c r.l) (t : TypeId) : Bss (w.alloc (.cells #[.slice r.a r.n r.c] t)) (some ⟨w.heap.size, 0, none⟩) 1 1 [r] := by
  refine ⟨⟨by simp, Nat.le_refl _, by simp [maxLen], fun _ => ⟨_, _, rfl, ?_⟩⟩, ?_⟩
  · intro j u hu
    have h0 : j = 0 := by have := (List.getElem?_eq_some_iff.1 hu).1; simpa using this
    subst h0
    rw [(Blk.new w _ _).cell]
    exact hu
  · intro q hq
    obtain rfl : q = r := by simpa using hq
    exact h.mono ((Below.refl _ _).alloc (Nat.le_refl _) _)
theorem Bss.two {w : World} {r s : BRow} (h : Bs w r.a r.n r.c r.l) (k : Bs w s.a s.n s.c s.l) (t : TypeId) : Bss (w.alloc (.cells #[.slice r.a r.n r.c, .slice s.a s.n s.c] t)) (some ⟨w.heap.size, 0, none⟩) 2 2 [r, s] := by
  refine ⟨⟨by simp, Nat.le_refl _, by simp [maxLen], fun _ => ⟨_, _, rfl, ?_⟩⟩, ?_⟩
  · intro j u hu
    rw [Nat.zero_add, (Blk.new w _ _).cell]
    exact hu
  · intro q hq
    rcases (by simpa using hq : q = r ∨ q = s) with rfl | rfl
    · exact h.mono ((Below.refl _ _).alloc (Nat.le_refl _) _)
    · exact k.mono ((Below.refl _ _).alloc (Nat.le_refl _) _)
theorem mac_any (A B : Option Addr) (n c m d : Nat) (k t : List UInt8) (w : World) (h : Bs w A n c k) (hn : n ≤ 50000) (ht : Bs w B m d t) (hm : m ≤ 40000) (hK : ShaK w) :
    Calls Tryz.prog 81 #[.slice A n c, .slice B m d] w (RetBs w (macL k t)) := by
  have hl : t.length = m := by have := Sl.len ht; simpa using this
  have HT : Hid (Bss (w.alloc (.cells #[.slice B m d] 28)) (some ⟨w.heap.size, 0, none⟩) 1 1 [⟨B, m, d, t⟩]) := Bss.one (r := ⟨B, m, d, t⟩) ht _
  have HB : Hid (Below w.heap.size w (w.alloc (.cells #[.slice B m d] 28))) := (Below.refl _ _).alloc (Nat.le_refl _) _
  have HH := Lib.hid h; clear h
  have HK := Lib.hid hK; clear hK ht
  have HR : Hid (rowsOf [⟨B, m, d, t⟩] = t) := by show _ = _; simp [rowsOf]
  go_enter Tryz.func81, Tryz.ntmps81
  go_wp2_with (go_at_call 116; refine (tag_any A _ n c _ _ k _ _ (HH.out.mono HB.out) (by omega) HT.out (by rw [HR.out]; omega) (HK.out.mono HB.out)).mono ?_; rintro e w2 ⟨v2, rfl, own2⟩; rw [HR.out] at own2; have O2 := Lib.hid (own2.base HB.out); clear own2)
  go_ret
  exact ⟨_, rfl, O2.out⟩
end Go.Proofs.YtcfbbgbjlgonpaaGreatDoor
