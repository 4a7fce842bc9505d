/- Own texts of this claim, one behind the other. No condition. -/
import Derived.Test.YtcfbbgbjlgonpaaGreatDoorObPkAD
import Derived.Test.YtcfbbgbjlgonpaaGreatDoorObPkAP

/- AES: the keys of all rounds. No condition. -/
namespace Go.Proofs.YtcfbbgbjlgonpaaGreatDoor
open Go.RowKit
set_option linter.unusedVariables false
set_option linter.unusedSimpArgs false
/-! ### parts of an array are stored -/
theorem set_splice (l : List UInt8) (o : Nat) (x : UInt8) (m : List UInt8) (h : o + (x :: m).length ≤ l.length) : (l.set o x).take (o + 1) ++ m ++ (l.set o x).drop (o + 1 + m.length) = l.take o ++ (x :: m) ++ l.drop (o + (x :: m).length) := by
  have ho : o < l.length := by simp at h; omega
  rw [List.drop_set_of_lt (by omega), List.take_succ_eq_append_getElem (by rw [List.length_set]; exact ho), List.take_set_of_le (Nat.le_refl _), List.getElem_set_self]
  simp only [List.length_cons, List.append_assoc, List.cons_append, List.nil_append]
  rw [show o + 1 + m.length = o + (m.length + 1) by omega]
theorem By.puts {g : Nat} {t : TypeId} : ∀ (m : List UInt8) (w : World) (l : List UInt8) (o : Nat), By w g t l → o + m.length ≤ l.length → By (w.setCells g o (m.map u8c)) g t (l.take o ++ m ++ l.drop (o + m.length))
  | [], w, l, o, h, _ => by
    have : (l.take o ++ [] ++ l.drop (o + ([] : List UInt8).length)) = l := by simp
    rw [this]; exact h
  | x :: m, w, l, o, h, hl => by
    rw [← set_splice l o x m hl]
    exact By.puts m (w.setCell ⟨g, o, none⟩ (u8c x)) (l.set o x) (o + 1) (h.put o x) (by rw [List.length_set]; simp at hl; omega)
theorem setCells_other (g : Nat) : ∀ (vs : List Value) (o : Nat) (w : World) (b : Nat), b ≠ g → (w.setCells g o vs).heap[b]? = w.heap[b]?
  | [], _, _, _, _ => rfl
  | v :: vs, o, w, b, hb => (setCells_other g vs (o + 1) (w.setCell ⟨g, o, none⟩ v) b hb).trans (Below.heap_setCell _ ⟨g, o, none⟩ _ b hb)
theorem setCells_below {B : Nat} {w0 : World} (g : Nat) (hg : B ≤ g) : ∀ (vs : List Value) (o : Nat) (w : World), Below B w0 w → Below B w0 (w.setCells g o vs)
  | [], _, _, h => h
  | v :: vs, o, w, h => setCells_below g hg vs (o + 1) (w.setCell ⟨g, o, none⟩ v) (h.setCell (p := ⟨g, o, none⟩) hg _)
theorem By.there {w : World} {g : Nat} {t : TypeId} {l : List UInt8} (h : By w g t l) (o n : Nat) (hn : o + n ≤ l.length) : w.there g o n := fun j hj => ⟨by rw [h.at (by omega)]; rfl, Blk.free h _⟩
theorem Bs.range {w : World} {b o n c : Nat} {l : List UInt8} (h : Bs w (some ⟨b, o, none⟩) n c l) (d k : Nat) (hk : d + k ≤ n) : w.rangeAt b (o + d) (((l.drop d).take k).map u8c) := fun j v hv => by
  obtain ⟨b', o', e, hc⟩ := Sl.addr h (by
    rw [List.getElem?_map] at hv
    rcases Nat.eq_zero_or_pos n with h0 | h0
    · exfalso
      have hl := h.len
      have : l = [] := List.eq_nil_of_length_eq_zero (by rw [hl, h0])
      rw [this] at hv
      simp at hv
    · exact h0)
  injection e with e
  injection e with e1 e2
  subst e1 e2
  rw [List.getElem?_map, List.getElem?_take] at hv
  split at hv
  · rw [List.getElem?_drop] at hv
    rw [Nat.add_assoc]
    exact hc (d + j) v (by rw [List.getElem?_map]; exact hv)
  · simp at hv
/-! ### the schedule in plain words -/
def wordS (key W : List UInt8) (t : Nat) : List UInt8 := if t < 8 then (key.drop (4 * t)).take 4 else (List.range 4).map fun n => gB W (4 * (t - 8) + n) ^^^ gB (turnL ((W.drop (4 * (t - 1))).take 4) t) n
def wS (key : List UInt8) : Nat → List UInt8
  | 0 => []
  | t + 1 => wS key t ++ wordS key (wS key t) t
theorem wordS_len {key W : List UInt8} {t : Nat} (hk : key.length = 32) : (wordS key W t).length = 4 := by
  unfold wordS
  split
  · simp [hk]; omega
  · simp
theorem wS_len {key : List UInt8} (hk : key.length = 32) : ∀ t, (wS key t).length = 4 * t
  | 0 => rfl
  | t + 1 => by show (wS key t ++ _).length = _; rw [List.length_append, wS_len hk t, wordS_len hk]; omega
/-- The words' block, ahead of word t. -/
def memS (key : List UInt8) (t : Nat) : List UInt8 := wS key t ++ List.replicate (240 - 4 * t) 0
theorem memS_len {key : List UInt8} (hk : key.length = 32) {t : Nat} (ht : t ≤ 60) : (memS key t).length = 240 := by unfold memS; rw [List.length_append, wS_len hk, List.length_replicate]; omega
theorem memS_next {key : List UInt8} (hk : key.length = 32) {t : Nat} (ht : t < 60) : (memS key t).take (4 * t) ++ wordS key (wS key t) t ++ (memS key t).drop (4 * t + 4) = memS key (t + 1) := by
  have hl := wS_len hk t
  unfold memS
  rw [List.take_append_of_le_length (by omega), List.take_of_length_le (by omega), List.drop_append, List.drop_of_length_le (by omega), List.nil_append, List.drop_replicate, hl]
  show _ = (wS key t ++ _) ++ _
  rw [show 240 - 4 * t - (4 * t + 4 - 4 * t) = 240 - 4 * (t + 1) by omega]
theorem memS_word {key : List UInt8} (hk : key.length = 32) {t j : Nat} (hj : j < t) : ((memS key t).drop (4 * j)).take 4 = ((wS key t).drop (4 * j)).take 4 := by
  have hl := wS_len hk t
  unfold memS
  rw [List.drop_append_of_le_length (by omega), List.take_append_of_le_length (by rw [List.length_drop]; omega)]
/-- A word's first n bytes are laid. -/
def memN (m V : List UInt8) (d n : Nat) : List UInt8 := m.take d ++ V.take n ++ m.drop (d + n)
theorem memN_len {m V : List UInt8} {d n : Nat} (hV : V.length = 4) (hn : n ≤ 4) (hd : d + 4 ≤ m.length) : (memN m V d n).length = m.length := by simp [memN, hV]; omega
theorem memN_zero (m V : List UInt8) (d : Nat) : memN m V d 0 = m := by simp [memN]
theorem memN_set {m V : List UInt8} {d n : Nat} (hV : V.length = 4) (hn : n < 4) (hd : d + 4 ≤ m.length) : (memN m V d n).set (d + n) (gB V n) = memN m V d (n + 1) := by
  unfold memN gB
  have h1 : (m.take d ++ V.take n).length = d + n := by simp [hV]; omega
  have hv : n < V.length := by omega
  have h2 : V.take (n + 1) = V.take n ++ [V[n]] := List.take_succ_eq_append_getElem hv
  rw [List.set_append, if_neg (by omega), h1, Nat.sub_self, List.drop_eq_getElem_cons (by omega : d + n < m.length), List.set_cons_zero, h2, List.getD_eq_getElem?_getD, List.getElem?_eq_getElem hv, Option.getD_some]
  simp only [List.append_assoc, List.cons_append, List.nil_append, Nat.add_assoc]
/-! ### the walk -/
theorem run_toArr2 (A : Option Addr) (m c : Nat) (hm : 4 ≤ m) (w : World) : (Instr.arrayAt 190 (.slice A m c)).run Tryz.prog w = .ok (.pointer A) w := by
  unfold Instr.arrayAt
  simp only [Sem.run_bind, run_underlying Tryz.underlying190, Result.andThen_ok]
  rw [if_neg (by omega)]
  rfl
theorem run_keyFrom (b o c t : Nat) (ht : t < 8) (hc : 32 ≤ c) (w : World) : (Instr.slice 28 (.slice (some ⟨b, o, none⟩) 32 c) (some (.int .i64 (4 * (t : Int)))) none none).run Tryz.prog w = .ok (.slice (some ⟨b, o + 4 * t, none⟩) (32 - 4 * t) (c - 4 * t)) w := by
  obtain ⟨A', hA, hr⟩ := run_from tBytes (some ⟨b, o, none⟩) 32 c (4 * t) (by omega) hc
  rw [hA (by omega) b o rfl, Nat.mul_one] at hr
  have := hr w
  rwa [Int.natCast_mul] at this
def schedL (key : List UInt8) : List UInt8 := wS key 60
def KeyMid (w : World) (h : Nat) (key : List UInt8) (t : Nat) (W : World) : Prop := Gr w W ∧ By W h 153 (List.replicate 240 0) ∧ By W (h + 1) 191 (memS key t)
theorem size4c (l : List UInt8) (hl : l.length = 4) : (Tryz.prog.info? 190).map (·.size) = some (l.map u8c).length := by rw [List.length_map, hl]; kernel_rfl
theorem sizeW (l : List UInt8) (hl : l.length = 240) : (Tryz.prog.info? 191).map (·.size) = some (l.map u8c).toArray.size := by rw [arr_size, hl]; kernel_rfl
theorem sizeK (l : List UInt8) (hl : l.length = 240) : (Tryz.prog.info? 153).map (·.size) = some (l.map u8c).toArray.size := by rw [arr_size, hl]; kernel_rfl
theorem run_idxW (l : List UInt8) (j : Nat) (hj : j < 60) (w : World) : (Instr.index 191 (.agg (l.map u8c).toArray) (.int .i64 (j : Int))).run Tryz.prog w = .ok (.agg (((l.drop (j * 4)).take 4).map u8c).toArray) w := by
  have hs : (sizeOf 190).run Tryz.prog w = .ok 4 w := by kernel_rfl
  have hag : (isAgg 190).run Tryz.prog w = .ok true w := by kernel_rfl
  simp only [Instr.index, asIntOf, Sem.run_bind, Sem.run_pure, Result.andThen_ok, run_underlying Tryz.underlying191]
  rw [if_pos ⟨by omega, by exact_mod_cast hj⟩]
  have he : (l.map u8c).toArray.extract (j * 4) (j * 4 + 4) = (((l.drop (j * 4)).take 4).map u8c).toArray := by
    simp [List.map_take, List.map_drop]
  simp only [Sem.run_bind, hs, Result.andThen_ok, Int.toNat_natCast, part, hag, if_true, Sem.run_pure]
  rw [he]
theorem run_into16 (h a r : Nat) (hr : r = 0 ∨ r = 1 ∨ r = 2 ∨ r = 3) (w : World) : (Instr.sliceAt 151 (.pointer (some ⟨h, a * 16, none⟩)) (some (.int .i64 (4 * (r : Int)))) none none).run Tryz.prog w = .ok (.slice (some ⟨h, a * 16 + 4 * r, none⟩) (16 - 4 * r) (16 - 4 * r)) w := by
  rcases hr with rfl | rfl | rfl | rfl
  all_goals kernel_rfl
theorem toK_next {F : List UInt8} {j : Nat} (hF : F.length = 240) (hj : j < 60) : (toK F (4 * j) 240).take (4 * j) ++ (F.drop (j * 4)).take 4 ++ (toK F (4 * j) 240).drop (4 * j + 4) = toK F (4 * (j + 1)) 240 := by
  have hl : (F.take (4 * j)).length = 4 * j := by simp; omega
  have e1 : (toK F (4 * j) 240).take (4 * j) = F.take (4 * j) := by
    unfold toK
    rw [List.take_append_of_le_length (by omega), List.take_take, Nat.min_self]
  have e2 : (toK F (4 * j) 240).drop (4 * j + 4) = List.replicate (240 - (4 * j + 4)) 0 := by
    unfold toK
    rw [List.drop_append, List.drop_of_length_le (by omega), List.nil_append, List.drop_replicate, hl]
    rw [show 240 - 4 * j - (4 * j + 4 - 4 * j) = 240 - (4 * j + 4) by omega]
  rw [e1, e2, Nat.mul_comm j 4]
  unfold toK
  rw [show 4 * (j + 1) = 4 * j + 4 by omega, List.take_add]
theorem results_keys {fn : Func} {p u : Tmp} (h : fn.results = #[.cell p 153, .tmp u]) (tmps : Array Value) (w : World) (g : Nat) (l : List UInt8) (hl : l.length = 240)
    (hp : tmps.getD p undef = .pointer (some ⟨g, 0, none⟩)) (hg : By w g 153 l) :
    (results fn tmps).run Tryz.prog w = .ok (.tuple #[arr l, tmps.getD u undef]) w := by
  rw [results_cell_tmp h, hp]
  simp only [asAddr, Sem.run_pure, Result.andThen, run_loadVar_row w g 153 153 (l.map u8c).toArray (0, 0) _ hg Tryz.underlying153 rfl (sizeK l hl)]
  rfl
theorem schedL_len {key : List UInt8} (hk : key.length = 32) : (schedL key).length = 240 := wS_len hk 60
set_option maxRecDepth 100000 in
set_option maxHeartbeats 4000000 in
theorem aesSchedule_any (A : Option Addr) (c : Nat) (key : List UInt8) (w : World) (hb : Bs w A 32 c key) :
    Calls Tryz.prog 161 #[.slice A 32 c] w fun e w' => e = .returned (.tuple #[arr (schedL key), .int .i64 0]) ∧ Gr w w' := by
  have hkl : key.length = 32 := hb.len
  have hc := hb.cap; have hmx := hb.max
  obtain ⟨b, o, rfl, hcell⟩ := Sl.addr hb (by decide)
  have HK := Lib.hid hkl; have HB := Lib.hid hb
  have HBR : Hid (∀ W, Gr w W → ∀ t, t < 8 → W.rangeAt b (o + 4 * t) (((key.drop (4 * t)).take 4).map u8c)) := fun W hW t ht => Bs.range (hb.mono hW) (4 * t) 4 (by omega)
  clear hb hcell hkl
  go_enter Tryz.func161, Tryz.ntmps161
  go_upto_region 1 with fail
  obtain ⟨W1, hW1⟩ : ∃ W1, W1 = w.alloc (.cells (reps 240 (.int .u8 0)).toArray 153) := ⟨_, rfl⟩
  first | rw [← hW1] | (change Code.wp _ _ _ _ (w.alloc (.cells (reps 240 (.int .u8 0)).toArray 153)); rw [← hW1])
  have HZ1 : Hid (By W1 w.heap.size 153 (List.replicate 240 0)) := by rw [hW1]; exact heap_alloc_new w _
  have HG1 : Hid (Gr w W1) := by rw [hW1]; exact Gr.alloc _ _
  have HS1 : Hid (W1.heap.size = w.heap.size + 1) := by show _ = _; rw [hW1]; simp
  clear hW1
  go_step3
  go_wp2_with fail
  obtain ⟨W2, hW2⟩ : ∃ W2, W2 = W1.alloc (.cells Tryz.zeroCells191 191) := ⟨_, rfl⟩
  rw [← hW2, HS1.out]
  have HZ2 : Hid (By W2 (w.heap.size + 1) 191 (memS key 0)) := by
    rw [← HS1.out, hW2]
    exact heap_alloc_new W1 _
  have HG2 : Hid (Gr W1 W2) := by rw [hW2]; exact Gr.alloc _ _
  obtain ⟨h, hh⟩ : ∃ h, h = w.heap.size := ⟨_, rfl⟩
  rw [← hh] at HZ2 HZ1 ⊢
  have HH := Lib.hid hh; clear hh hW2 HS1
  have MID0 : Hid (KeyMid w h key 0 W2) := ⟨HG1.out.trans HG2.out, HG2.out.blk HZ1.out, HZ2.out⟩
  clear HG1 HG2 HZ1 HZ2
  go_step3
  go_wp2_with fail
  go_loopw [15] (fun i wr => ∃ t : Nat, t ≤ 60 ∧ i = .int .i64 (t : Int) ∧ KeyMid w h key t wr) (fun i _ => 60 - (Go.RowKit.intOf i).toNat)
  case atStart => exact ⟨0, Nat.zero_le _, rfl, MID0.out⟩
  case round =>
    obtain ⟨t, ht, rfl, g, ha, hb⟩ := hrel
    have GR := Lib.hid g; have HA := Lib.hid ha; have HB2 := Lib.hid hb
    have p0 : (0 : Int) ≤ t := by omega
    have HM := Lib.hid (memS_len HK.out ht)
    by_cases hlt : t < 60
    · have t0 : decide ((t : Int) < 60) = true := decide_eq_true (by omega)
      by_cases h8 : t < 8
      · have t1 : decide ((t : Int) < 8) = true := decide_eq_true (by omega)
        have hs := run_keyFrom b o c t h8 hc
        have hx := run_toArr2 (some ⟨b, o + 4 * t, none⟩) (32 - 4 * t) (c - 4 * t) (by omega)
        have HWD : Hid (wordS key (wS key t) t = (key.drop (4 * t)).take 4) := by show wordS key (wS key t) t = _; unfold wordS; rw [if_pos h8]
        have HWL := Lib.hid (wordS_len (W := wS key t) (t := t) HK.out)
        have HRG := Lib.hid (HBR.out wr g t h8)
        rw [← HWD.out] at HRG
        have HTH := Lib.hid (hb.there (4 * t) 4 (by rw [HM.out]; omega))
        clear g ha hb
        go_wp2_with (first
          | (refine wpList_load_mid rfl 190 (.tmp 25) rfl b (o + 4 * t) rfl _ _ HRG.out Tryz.underlying190 rfl (size4c _ HWL.out) ?_)
          | (refine wpList_store_mid rfl 190 (.tmp 27) (.tmp 26) rfl (h + 1) (t * 4) ((wordS key (wS key t) t).map u8c).toArray rfl rfl (by rw [arr_size, HWL.out, Nat.mul_comm]; exact HTH.out) (size4 _ HWL.out) (arr_one _) ?_))
        go_roundw
        case rel =>
          refine ⟨t + 1, by omega, by go_num, setCells_below (h + 1) (by rw [HH.out]; exact Nat.le_succ _) _ _ _ GR.out, (setCells_other (h + 1) _ _ _ h (by omega)).trans HA.out, ?_⟩
          rw [← memS_next HK.out hlt, Nat.mul_comm t 4]
          have := By.puts (wordS key (wS key t) t) wr _ (4 * t) HB2.out (by rw [HM.out, HWL.out]; omega)
          rw [HWL.out] at this
          exact this
        case measure => simp [Go.RowKit.intOf]; omega
      · have t1 : decide ((t : Int) < 8) = false := decide_eq_false (by omega)
        obtain ⟨p, hp⟩ : ∃ p, t = p + 1 := ⟨t - 1, by omega⟩
        obtain ⟨q, hq⟩ : ∃ q, t = q + 8 := ⟨t - 8, by omega⟩
        have e1 : (t : Int) - 1 = (p : Int) := by omega
        have e2 : (t : Int) - 8 = (q : Int) := by omega
        have p1 : (0 : Int) ≤ p := by omega
        have p2 : (0 : Int) ≤ q := by omega
        have p3 : (p : Int) < 60 := by omega
        have p4 : (q : Int) < 60 := by omega
        obtain ⟨X, hX⟩ : ∃ X, X = ((wS key t).drop (4 * p)).take 4 := ⟨_, rfl⟩
        obtain ⟨Y, hY⟩ : ∃ Y, Y = ((wS key t).drop (4 * q)).take 4 := ⟨_, rfl⟩
        have hWL := wS_len HK.out t
        have HXL : Hid (X.length = 4) := by show _ = _; rw [hX, List.length_take, List.length_drop, hWL]; omega
        have HYL : Hid (Y.length = 4) := by show _ = _; rw [hY, List.length_take, List.length_drop, hWL]; omega
        have HRX : Hid (wr.rangeAt (h + 1) (p * 4) (X.map u8c)) := by
          have := hb.range (4 * p) 4
          rw [memS_word HK.out (by omega), ← hX] at this
          rw [Nat.mul_comm p 4]
          exact this
        have HRY : Hid (∀ W, By W (h + 1) 191 (memS key t) → W.rangeAt (h + 1) (q * 4) (Y.map u8c)) := fun W hW => by
          have := By.range hW (4 * q) 4
          rw [memS_word HK.out (by omega), ← hY] at this
          rw [Nat.mul_comm q 4]
          exact this
        have HTU := Lib.hid (aesTurned_any X t HXL.out (by omega) hlt wr)
        obtain ⟨T, hT⟩ : ∃ T, T = turnL X t := ⟨_, rfl⟩
        rw [← hT] at HTU
        have HTL : Hid (T.length = 4) := by show _ = _; rw [hT]; exact turnL_len t HXL.out
        have HWV : Hid (∀ n, n < 4 → gB (wordS key (wS key t) t) n = gB Y n ^^^ gB T n) := fun n hn => by
          unfold wordS
          rw [if_neg h8, gB_range _ _ _ hn, hT, hX, hY, show t - 8 = q by omega, show t - 1 = p by omega]
          congr 1
          unfold gB
          rw [List.getD_eq_getElem?_getD, List.getD_eq_getElem?_getD, List.getElem?_take, if_pos hn, List.getElem?_drop]
        have HWLN := Lib.hid (wordS_len (W := wS key t) (t := t) HK.out)
        have HPT := Lib.hid hp; have HQT := Lib.hid hq; have H8 := Lib.hid h8
        clear g ha hb hX hY hWL hT hp hq
        go_upto_region 10 with (first
          | (refine wpList_load_mid rfl 190 (.tmp 30) rfl (h + 1) (p * 4) rfl _ _ HRX.out Tryz.underlying190 rfl (size4c _ HXL.out) ?_)
          | (go_at_call 183; refine HTU.out.mono ?_; rintro e w1 ⟨rfl, g1⟩; have G1 := Lib.hid g1; clear g1; unfold arr)
          | (refine wpList_store_row rfl 190 (.tmp 6) (.tmp 33) rfl w1.heap.size (T.map u8c).toArray rfl rfl 190 _ (heap_alloc_new w1 _) (size4 _ HTL.out) (by rw [arr_size, HTL.out]; rfl) (arr_one _) ?_))
        obtain ⟨gT, hgT⟩ : ∃ gT, gT = w1.heap.size := ⟨_, rfl⟩
        rw [← hgT]
        obtain ⟨W3, hW3⟩ : ∃ W3, W3 = (w1.alloc (.cells #[.int .u8 0, .int .u8 0, .int .u8 0, .int .u8 0] 190)).setRow gT (T.map u8c).toArray := ⟨_, rfl⟩
        have hz : By (w1.alloc (.cells #[.int .u8 0, .int .u8 0, .int .u8 0, .int .u8 0] 190)) gT 190 [0, 0, 0, 0] := by rw [hgT]; exact heap_alloc_new w1 _
        have hG3 : Gr wr W3 := by rw [hW3]; exact byRow_below (G1.out.trans (Gr.alloc _ _)) (by rw [hgT]; exact G1.out.size) _
        have HT3 : Hid (By W3 gT 190 T) := by rw [hW3]; exact hz.row
        have HA3 : Hid (By W3 h 153 (List.replicate 240 0)) := hG3.blk HA.out
        have HB3 : Hid (By W3 (h + 1) 191 (memS key t)) := hG3.blk HB2.out
        have HG3 : Hid (Gr w W3) := GR.out.trans hG3
        have HNE : Hid (h + 1 < gT) := by have h1 : h + 1 < wr.heap.size := Blk.lt HB2.out; have h2 := G1.out.size; show _ < _; omega
        have HRY1 := Lib.hid (HRY.out W3 HB3.out)
        rw [← hW3]
        clear hW3 hz hG3 hgT HRX HRY HTU G1
        go_wp2_with (refine wpList_load_mid rfl 190 (.tmp 36) rfl (h + 1) (q * 4) rfl _ _ HRY1.out Tryz.underlying190 rfl (size4c _ HYL.out) ?_)
        obtain ⟨V, hV⟩ : ∃ V, V = wordS key (wS key t) t := ⟨_, rfl⟩
        rw [← hV] at HWV HWLN
        have HVV := Lib.hid hV; clear hV
        go_loopw [38] (fun i wx => ∃ n : Nat, n ≤ 4 ∧ i = .int .i64 (n : Int) ∧ Gr w wx ∧ By wx h 153 (List.replicate 240 0) ∧ By wx gT 190 T ∧ By wx (h + 1) 191 (memN (memS key t) V (t * 4) n)) (fun i _ => 4 - (Go.RowKit.intOf i).toNat)
        case atStart => exact ⟨0, Nat.zero_le _, rfl, HG3.out, HA3.out, HT3.out, by rw [memN_zero]; exact HB3.out⟩
        case round =>
          obtain ⟨n, hn, rfl, gx, hax, htx, hbx⟩ := hrel
          have GX := Lib.hid gx; have HAX := Lib.hid hax; have HTX := Lib.hid htx; have HBX := Lib.hid hbx
          have q0 : (0 : Int) ≤ n := by omega
          have HD4 : Hid (t * 4 + 4 ≤ (memS key t).length) := by show _ ≤ _; rw [HM.out]; omega
          by_cases hn4 : n < 4
          · have t2 : decide ((n : Int) < 4) = true := decide_eq_true (by omega)
            have q1 : (n : Int) < 4 := by omega
            have q2 : (t : Int) < 60 := by omega
            have hxi := run_idx4 Y n HYL.out hn4 wr
            have x1 := ub_xor (gB Y n) (gB T n)
            have HVn := Lib.hid (HWV.out n hn4)
            have HMN : Hid ((memN (memS key t) V (t * 4) n).length = 240) := by show _ = _; rw [memN_len HWLN.out (by omega) HD4.out, HM.out]
            clear gx hax htx hbx
            go_upto_region 13 with fail
            refine wp_region_grow (by kernel_rfl) [0, 0, 0, 0, 8, 24, 60, 1, 255, 511] [.p 0, .p 1, .p 2, .p 3, .p 4, .p 7, .q 5, .p 6, .p 8, .s 9] (by kernel_rfl) (trivial) ?_
            refine wpG_pe rfl rfl ?_
            apply Exists.intro
            refine ⟨fun wq => ?_, ?_⟩
            · unfold plainAt
              go_simp
              first | exact rfl | exact ⟨rfl, rfl⟩
            go_simp
            refine wpG_pe rfl rfl ?_
            apply Exists.intro
            refine ⟨fun wq => ?_, ?_⟩
            · unfold plainAt
              go_simp
              first | exact rfl | exact ⟨rfl, rfl⟩
            go_simp
            refine wpG_pe rfl rfl ?_
            apply Exists.intro
            refine ⟨fun wq => ?_, ?_⟩
            · unfold plainAt
              go_simp
              first | exact rfl | exact ⟨rfl, rfl⟩
            go_simp
            refine wpG_pe rfl rfl ?_
            apply Exists.intro
            refine ⟨fun wq => ?_, ?_⟩
            · unfold plainAt
              go_simp
              first | exact rfl | exact ⟨rfl, rfl⟩
            go_simp
            refine wpG_pe rfl rfl ?_
            apply Exists.intro
            refine ⟨fun wq => ?_, ?_⟩
            · unfold plainAt
              go_simp
              first | exact rfl | exact ⟨rfl, rfl⟩
            go_simp
            refine wpG_pe rfl rfl ?_
            apply Exists.intro
            refine ⟨fun wq => ?_, ?_⟩
            · unfold plainAt
              go_simp
              first | exact rfl | exact ⟨rfl, rfl⟩
            go_simp
            refine wpG_qe rfl rfl ?_
            apply Exists.intro
            refine ⟨fun wq hq => ?_, ?_⟩
            · have cT := By.at (show By wq gT _ _ from ((Gr.drew _).trans hq).blk HTX.out) (i := n) (by rw [HTL.out]; exact hn4)
              unfold plainAt
              go_simp
              first | exact rfl | exact ⟨rfl, rfl⟩
            go_simp
            refine wpG_pe rfl rfl ?_
            apply Exists.intro
            refine ⟨fun wq => ?_, ?_⟩
            · unfold plainAt
              go_simp
              first | exact rfl | exact ⟨rfl, rfl⟩
            go_simp
            refine wpG_pe rfl rfl ?_
            apply Exists.intro
            refine ⟨fun wq => ?_, ?_⟩
            · unfold plainAt
              go_simp
              first | exact rfl | exact ⟨rfl, rfl⟩
            go_simp
            refine wpG_s rfl rfl ?_
            intro w7 g7 K hK
            have G7 : Hid (Gr wr w7) := (Gr.drew _).trans g7
            have HB7 : Hid (By w7 (h + 1) 191 (memN (memS key t) V (t * 4) n)) := G7.out.blk HBX.out
            have cc := HB7.out.at (i := t * 4 + n) (by rw [HMN.out]; omega)
            have ff := Blk.free HB7.out (t * 4 + n)
            go_simp
            refine hK _ _ ?_
            clear hK
            obtain ⟨W7, hW7⟩ : ∃ W7, W7 = w7.setCell ⟨h + 1, t * 4 + n, none⟩ (.int .u8 (ub (gB Y n ^^^ gB T n))) := ⟨_, rfl⟩
            have HB8 : Hid (By W7 (h + 1) 191 (memN (memS key t) V (t * 4) (n + 1))) := by
              rw [hW7, ← memN_set HWLN.out hn4 HD4.out, HVn.out]
              exact HB7.out.put _ _
            have HO8 : ∀ b, b ≠ h + 1 → W7.heap[b]? = w7.heap[b]? := fun b hb => by rw [hW7]; exact Below.heap_setCell _ ⟨h + 1, t * 4 + n, none⟩ _ b hb
            have HA8 : Hid (By W7 h 153 (List.replicate 240 0)) := (HO8 h (by omega)).trans (G7.out.blk HAX.out)
            have HT8 : Hid (By W7 gT 190 T) := (HO8 gT (by have := HNE.out; omega)).trans (G7.out.blk HTX.out)
            have HG8 : Hid (Gr w W7) := by rw [hW7]; exact (GX.out.trans G7.out).setCell (p := ⟨h + 1, t * 4 + n, none⟩) (by rw [HH.out]; exact Nat.le_succ _) _
            rw [← hW7]
            clear hW7 HO8 cc ff HB7
            go_simp
            refine wpG_nil ?_
            intro w9 g9
            have HB9 : Hid (By w9 (h + 1) 191 (memN (memS key t) V (t * 4) (n + 1))) := g9.blk HB8.out
            have HA9 : Hid (By w9 h 153 (List.replicate 240 0)) := g9.blk HA8.out
            have HT9 : Hid (By w9 gT 190 T) := g9.blk HT8.out
            have HG9 : Hid (Gr w w9) := HG8.out.trans g9
            clear g9 g7 G7
            go_wp2_with fail
            go_roundw
            case rel => exact ⟨n + 1, by omega, by go_num, HG9.out, HA9.out, HT9.out, HB9.out⟩
            case measure => simp [Go.RowKit.intOf]; omega
          · obtain rfl : n = 4 := by omega
            have HB10 : Hid (By wr (h + 1) 191 (memS key (t + 1))) := by
              have e : memN (memS key t) V (t * 4) 4 = memS key (t + 1) := by
                rw [← memS_next HK.out hlt, ← HVV.out]
                unfold memN
                rw [Nat.mul_comm t 4, List.take_of_length_le (Nat.le_of_eq HWLN.out)]
              rw [← e]
              exact hbx
            clear gx hax htx hbx
            go_wp2_with fail
            go_roundw
            case rel => exact ⟨t + 1, by omega, by go_num, GX.out, HAX.out, HB10.out⟩
            case measure => simp [Go.RowKit.intOf]; omega
    · obtain rfl : t = 60 := by omega
      obtain ⟨F, hF⟩ : ∃ F, F = schedL key := ⟨_, rfl⟩
      have HFL : Hid (F.length = 240) := by show _ = _; rw [hF]; exact schedL_len HK.out
      have HFB : Hid (By wr (h + 1) 191 F) := by
        have : memS key 60 = F := by rw [hF]; unfold memS schedL; simp
        rw [← this]; exact hb
      have HFE := Lib.hid hF
      clear g ha hb HB2 hF HM
      go_wp2_with (refine wpList_load_row rfl 191 (.tmp 4) rfl (h + 1) rfl 191 _ (0, 0) _ HFB.out Tryz.underlying191 rfl (sizeW _ HFL.out) ?_)
      have HA0 : Hid (By wr h 153 (toK F (4 * 0) 240)) := by rw [Nat.mul_zero, toK_zero]; exact HA.out
      go_loopw [54] (fun i wx => ∃ j : Nat, j ≤ 60 ∧ i = .int .i64 (j : Int) ∧ Gr w wx ∧ By wx h 153 (toK F (4 * j) 240)) (fun i _ => 60 - (Go.RowKit.intOf i).toNat)
      case atStart => exact ⟨0, Nat.zero_le _, rfl, GR.out, HA0.out⟩
      case round =>
        obtain ⟨j, hj, rfl, gx, hax⟩ := hrel
        have GX := Lib.hid gx; have HAX := Lib.hid hax
        have q0 : (0 : Int) ≤ j := by omega
        by_cases hjl : j < 60
        · have t2 : decide ((j : Int) < 60) = true := decide_eq_true (by omega)
          have hx := run_idxW F j hjl
          obtain ⟨V, hV⟩ : ∃ V, V = (F.drop (j * 4)).take 4 := ⟨_, rfl⟩
          rw [← hV] at hx
          have HVL : Hid (V.length = 4) := by show _ = _; rw [hV, List.length_take, List.length_drop, HFL.out]; omega
          have HTK : Hid ((toK F (4 * j) 240).length = 240) := toK_len HFL.out (by omega)
          have HNX : Hid ((toK F (4 * j) 240).take (4 * j) ++ V ++ (toK F (4 * j) 240).drop (4 * j + 4) = toK F (4 * (j + 1)) 240) := by show _ = _; rw [hV]; exact toK_next HFL.out hjl
          clear gx hax hV
          go_upto_region 19 with (refine wpList_store_row rfl 190 (.tmp 10) (.tmp 57) rfl wr.heap.size (V.map u8c).toArray rfl rfl 190 _ (heap_alloc_new wr _) (size4 _ HVL.out) (by rw [arr_size, HVL.out]; rfl) (arr_one _) ?_)
          obtain ⟨g10, hg10⟩ : ∃ g10, g10 = wr.heap.size := ⟨_, rfl⟩
          rw [← hg10]
          obtain ⟨W3, hW3⟩ : ∃ W3, W3 = (wr.alloc (.cells #[.int .u8 0, .int .u8 0, .int .u8 0, .int .u8 0] 190)).setRow g10 (V.map u8c).toArray := ⟨_, rfl⟩
          have hz : By (wr.alloc (.cells #[.int .u8 0, .int .u8 0, .int .u8 0, .int .u8 0] 190)) g10 190 [0, 0, 0, 0] := by rw [hg10]; exact heap_alloc_new wr _
          have hG3 : Gr wr W3 := by rw [hW3]; exact byRow_below (Gr.alloc _ _) (Nat.le_of_eq hg10.symm) _
          have HV3 : Hid (By W3 g10 190 V) := by rw [hW3]; exact hz.row
          have HA3 : Hid (By W3 h 153 (toK F (4 * j) 240)) := hG3.blk HAX.out
          have HG3 : Hid (Gr w W3) := GX.out.trans hG3
          rw [← hW3]
          clear hW3 hz hG3 hg10
          obtain ⟨a, ha⟩ : ∃ a, a = j / 4 := ⟨_, rfl⟩
          obtain ⟨r, hr⟩ : ∃ r, r = j % 4 := ⟨_, rfl⟩
          have e1 : (j : Int).tdiv 4 = (a : Int) := by rw [Int.tdiv_eq_ediv_of_nonneg (by omega)]; omega
          have e2 : (j : Int) % 4 = (r : Int) := by omega
          have e2' : (j : Int).tmod 4 = (r : Int) := by rw [Int.tmod_eq_emod_of_nonneg (by omega)]; omega
          have w1 : IntKind.i64.wrap (a : Int) = (a : Int) := IntWalk.i64_in _ (by omega)
          have w2 : IntKind.i64.wrap (r : Int) = (r : Int) := IntWalk.i64_in _ (by omega)
          have w3 : IntKind.i64.wrap (4 * (r : Int)) = 4 * (r : Int) := IntWalk.i64_in _ (by omega)
          have pa : (0 : Int) ≤ a := by omega
          have pa2 : (a : Int) < 15 := by omega
          have hs := run_into16 h a r (by omega)
          have hs4 := run_arr4 g10
          have HOF : Hid (a * 16 + 4 * r = 4 * j) := by show _ = _; omega
          have HR4 : Hid (r < 4) := by show _ < _; omega
          clear ha hr
          go_simp
          refine wp_region_grow (by kernel_rfl) [0, 1, 3, 0, 8, 24, 63, 0, 255] [.p 0, .p 1, .p 2, .p 3, .p 4, .p 5, .p 6, .p 7, .s 8] (by kernel_rfl) (trivial) ?_
          refine wpG_pe rfl rfl ?_
          apply Exists.intro
          refine ⟨fun wq => ?_, ?_⟩
          · unfold plainAt
            go_simp
            first | exact rfl | exact ⟨rfl, rfl⟩
          go_simp
          refine wpG_pe rfl rfl ?_
          apply Exists.intro
          refine ⟨fun wq => ?_, ?_⟩
          · unfold plainAt
            go_simp
            first | exact rfl | exact ⟨rfl, rfl⟩
          go_simp
          refine wpG_pe rfl rfl ?_
          apply Exists.intro
          refine ⟨fun wq => ?_, ?_⟩
          · unfold plainAt
            go_simp
            first | exact rfl | exact ⟨rfl, rfl⟩
          go_simp
          refine wpG_pe rfl rfl ?_
          apply Exists.intro
          refine ⟨fun wq => ?_, ?_⟩
          · unfold plainAt
            go_simp
            first | exact rfl | exact ⟨rfl, rfl⟩
          go_simp
          refine wpG_pe rfl rfl ?_
          apply Exists.intro
          refine ⟨fun wq => ?_, ?_⟩
          · unfold plainAt
            go_simp
            first | exact rfl | exact ⟨rfl, rfl⟩
          go_simp
          refine wpG_pe rfl rfl ?_
          apply Exists.intro
          refine ⟨fun wq => ?_, ?_⟩
          · unfold plainAt
            go_simp
            first | exact rfl | exact ⟨rfl, rfl⟩
          go_simp
          refine wpG_pe rfl rfl ?_
          apply Exists.intro
          refine ⟨fun wq => ?_, ?_⟩
          · unfold plainAt
            go_simp
            first | exact rfl | exact ⟨rfl, rfl⟩
          go_simp
          refine wpG_pe rfl rfl ?_
          apply Exists.intro
          refine ⟨fun wq => ?_, ?_⟩
          · unfold plainAt
            go_simp
            first | exact rfl | exact ⟨rfl, rfl⟩
          go_simp
          refine wpG_s rfl rfl ?_
          intro w7 g7 K hK
          have HG7 : Hid (Gr W3 w7) := (Gr.drew _).trans g7
          have HA7 : Hid (By w7 h 153 (toK F (4 * j) 240)) := HG7.out.blk HA3.out
          have HV7 : Hid (By w7 g10 190 V) := HG7.out.blk HV3.out
          refine wp_copy_row (.tmp 64) (.tmp 65) 28 28 rfl 5 Tryz.underlying28 (by kernel_rfl) h (a * 16 + 4 * r) (16 - 4 * r) (16 - 4 * r) ⟨g10, 0, none⟩ 4 4 rfl rfl _ 153 HA7.out _ (by rw [List.length_map, HVL.out]; have := HR4.out; show 4 = min 4 (16 - 4 * r); omega) HV7.out.src (by rw [List.length_map, HVL.out, arr_size, HTK.out, HOF.out]; omega) (bytes_one _) ((toK F (4 * (j + 1)) 240).map u8c).toArray (by rw [HA7.out.spliced (a * 16 + 4 * r), HVL.out, HOF.out, HNX.out]) ?_
          refine hK _ _ ?_
          clear hK
          obtain ⟨W7, hW7⟩ : ∃ W7, W7 = w7.setRow h ((toK F (4 * (j + 1)) 240).map u8c).toArray := ⟨_, rfl⟩
          have HA8 : Hid (By W7 h 153 (toK F (4 * (j + 1)) 240)) := by rw [hW7]; exact HA7.out.row
          have HG8 : Hid (Gr w W7) := by rw [hW7]; exact byRow_below (HG3.out.trans HG7.out) (by rw [HH.out]; exact Nat.le_refl _) _
          rw [← hW7]
          clear hW7
          go_simp
          refine wpG_nil ?_
          intro w9 g9
          have HA9 : Hid (By w9 h 153 (toK F (4 * (j + 1)) 240)) := g9.blk HA8.out
          have HG9 : Hid (Gr w w9) := HG8.out.trans g9
          clear g9 g7
          go_wp2_with fail
          go_roundw
          case rel => exact ⟨j + 1, by omega, by go_num, HG9.out, HA9.out⟩
          case measure => simp [Go.RowKit.intOf]; omega
        · obtain rfl : j = 60 := by omega
          have HF2 : Hid (By wr h 153 F) := by have := toK_all HFL.out; rw [← this]; exact hax
          clear gx hax HAX
          go_wp2_with (first
            | (refine wpList_load_row rfl 153 (.tmp 2) rfl h rfl 153 _ (0, 0) _ HF2.out Tryz.underlying153 rfl (sizeK _ HFL.out) ?_)
            | (refine wpList_store_row rfl 153 (.tmp 2) (.tmp 68) rfl h (F.map u8c).toArray rfl rfl 153 _ HF2.out (sizeK _ HFL.out) rfl (arr_one _) ?_))
          try rw [Exit.noGoto_ret]
          rw [HFE.out] at HF2 HFL ⊢
          exact bodyPost_ret (v := .tuple #[arr (schedL key), .int .i64 0]) (results_keys Tryz.results161 _ _ h (schedL key) HFL.out rfl HF2.out.row) rfl ⟨rfl, byRow_below GX.out (by rw [HH.out]; exact Nat.le_refl _) _⟩
