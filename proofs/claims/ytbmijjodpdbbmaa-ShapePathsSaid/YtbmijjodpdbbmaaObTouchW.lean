import Derived.Test.YtbmijjodpdbbmaaObPathW
import Derived.Test.YtbmijjodpdbbmaaObLastW
import Derived.Deep.RegionHeld3
import Derived.Outline
namespace Go.Proofs.Ytbmijjodpdbbmaa
open Go.RowKit Go.Maps
set_option linter.unusedVariables false

/-! ### a map with ints as keys and values, of which the keys matter alone -/
def Ri : Value → Option (DataW Value × List MemPlace)
  | .int .i64 n => some (.held (.int .i64 n), [])
  | _ => none
theorem Ri_inv {v : Value} {x : DataW Value × List MemPlace} (h : Ri v = some x) : ∃ n, v = .int .i64 n := by
  unfold Ri at h
  split at h
  · exact ⟨_, rfl⟩
  · cases h
theorem Ri_of (n : Int) : Ri (.int .i64 n) = some (.held (.int .i64 n), []) := rfl
def KeysAre (w : World) (P : Program) (b q : Nat) (K : List Int) : Prop := ∃ D : DataW Value, w.ownsMap P 3 Ri b q D ∧ IsMap D ∧ ∀ x, has D (.int .i64 x) = K.contains x
theorem KeysAre.at {w w' : World} {P : Program} {b q : Nat} {K : List Int} (h : KeysAre w P b q K) (e : w'.heap[b]? = w.heap[b]?) : KeysAre w' P b q K := by
  obtain ⟨D, ⟨es, cl, hb, r⟩, h2⟩ := h
  exact ⟨D, ⟨es, cl, e.trans hb, r⟩, h2⟩
theorem keys_put {D : DataW Value} {K : List Int} (hm : IsMap D) (hh : ∀ x, has D (.int .i64 x) = K.contains x) (y : Int) (d : DataW Value) : ∀ x, has (D.put (.int .i64 y) d) (.int .i64 x) = (K ++ [y]).contains x := by
  intro x
  rw [List.contains_append]
  by_cases e : x = y
  · subst e
    rw [has_put_same hm (show WideAt.IsKeyLit (Lit.int .i64 x) from trivial)]
    simp
  · rw [has_put_other (by intro h; injection h with _ h; exact e h), hh]
    have : [y].contains x = false := by simpa using e
    rw [this, Bool.or_false]

theorem upI_len (a d l p : Int) : (upI a d l p).length ≤ 300 := by
  have n1 := nodes_le a d l
  have n2 := leaves_le a d l
  unfold upI
  split
  · rename_i h
    have : 0 ≤ p ∧ p < nodesI a d l + leavesI a d l := by unfold thereB at h; simpa using h
    rw [List.length_map]
    have := upL_le a.toNat p.toNat
    omega
  · simp
theorem upI_fits (a d l p : Int) : ∀ z ∈ upI a d l p, 0 ≤ z ∧ z ≤ 1000 := by
  intro z hz
  have n1 := nodes_le a d l
  have n2 := leaves_le a d l
  unfold upI at hz
  split at hz
  · rename_i h
    have h : 0 ≤ p ∧ p < nodesI a d l + leavesI a d l := by unfold thereB at h; simpa using h
    have := (mem_cast _ z).1 hz
    have := upL_mem_le this.2
    omega
  · cases hz

set_option maxHeartbeats 4000000 in
theorem touched_any (a d l : Int) (B : Option Addr) (m c : Nat) (S : List Int) (w : World) (h : Is w B m c S) (hm : m ≤ 20) :
    Calls Try.prog 26 #[.agg #[.int .i64 a, .int .i64 d, .int .i64 l], .slice B m c] w (RetIs w (touR a d l S (pagesI a d l).toNat)) := by
  have hb : Below w.heap.size w (w.alloc (.cells #[.int .i64 a, .int .i64 d, .int .i64 l] 40)) := (Below.refl _ _).alloc (Nat.le_refl _) _
  have hc := (Blk.new w 40 #[.int .i64 a, .int .i64 d, .int .i64 l])
  obtain ⟨wl, hwl⟩ : ∃ wl, wl = w.alloc (.cells #[.int .i64 a, .int .i64 d, .int .i64 l] 40) := ⟨_, rfl⟩
  rw [← hwl] at hb hc
  have HB := Lib.hid hb; have HWL := Lib.hid hwl; clear hb hwl
  have HCELL : Hid (∀ (i : Nat) (v : Value), [Value.int .i64 a, .int .i64 d, .int .i64 l][i]? = some v → ∀ wq, Below wl.heap.size wl wq → wq.cell? ⟨w.heap.size, i, none⟩ = some v) := by
    intro i v hv wq hq
    rw [hq.cell (p := ⟨w.heap.size, i, none⟩) hc.lt, hc.cell]
    exact hv
  clear hc
  have hmm := @run_makeMap Try.prog
  have HLN := Lib.hid h.len
  have hmax := h.max
  have hcap := h.cap
  have HI : Hid (Is wl B m c S) := h.mono HB.out
  have HE := Lib.hid (tou_eq (a := a) (d := d) (l := l) S)
  have hsz0 : wl.heap.size ≤ w.heap.size + 1 := by rw [HWL.out]; simp
  have hsz1 : w.heap.size + 1 ≤ wl.heap.size := by rw [HWL.out]; simp
  clear h
  have K0 : Hid (KeysAre (wl.alloc (.map #[] 0)) Try.prog (w.heap.size + 1) 0 []) := by
    have e : w.heap.size + 1 = wl.heap.size := by omega
    rw [e]
    exact ⟨.map [], World.ownsMap_made _ _ _ _, isMap_empty, fun x => rfl⟩
  go_enter Try.func26, Try.ntmps26
  go_wp2_with fail
  rw [← HWL.out]
  go_loopw [13] (fun i wr => ∃ k : Nat, k ≤ m ∧ i = .int .i64 k ∧ KeysAre wr Try.prog (w.heap.size + 1) (k * 300) ((S.take k).flatMap fun s => upI a d l (leafI a d l s)) ∧ Below wl.heap.size wl wr ∧ w.heap.size + 1 < wr.heap.size) (fun i _ => m - (intOf i).toNat)
  case atStart => exact ⟨0, Nat.zero_le _, rfl, K0.out, (Below.refl _ _).alloc (Nat.le_refl _) _, by simp; omega⟩
  case round =>
    obtain ⟨k, hk, rfl, hkeys, hbel, hlz⟩ := hrel
    have HKS := Lib.hid hkeys; clear hkeys
    by_cases hlt : k < m
    · obtain ⟨b, o, rfl, hc⟩ := Is.addr (l := S) (HI.out.mono hbel) (by omega)
      have c3 := hc k hlt
      clear hc
      have HT : Hid ((S.take (k + 1)).flatMap (fun s => upI a d l (leafI a d l s)) = (S.take k).flatMap (fun s => upI a d l (leafI a d l s)) ++ upI a d l (leafI a d l (iAt S k))) := by
        have hkl : k < S.length := by rw [HLN.out]; exact hlt
        rw [List.take_succ_eq_append_getElem hkl, List.flatMap_append]
        unfold iAt; rw [List.getD_eq_getElem?_getD, List.getElem?_eq_getElem hkl]
        show _ = _
        simp
      have hU1 := upI_len a d l (leafI a d l (iAt S k))
      have HU2 := Lib.hid (upI_fits a d l (leafI a d l (iAt S k)))
      have c0 := HCELL.out 0 _ rfl wr hbel
      have c1 := HCELL.out 1 _ rfl wr hbel
      have c2 := HCELL.out 2 _ rfl wr hbel
      have i0 : (0 : Int) ≤ (k : Int) := by omega
      generalize iAt S k = s at *
      go_wp2
      go_region_held3 (fun w' => w'.cell? ⟨w.heap.size, 0, none⟩ = some (.int .i64 a) ∧ w'.cell? ⟨w.heap.size, 1, none⟩ = some (.int .i64 d) ∧ w'.cell? ⟨w.heap.size, 2, none⟩ = some (.int .i64 l)) (go_keep)
        (first
          | (go_at_call 43; refine (leaf_any a d l s _).mono ?_; rintro e w2 ⟨rfl, b2⟩; have B2 := Lib.hid (below_both ((Below.refl _ wr).drew) b2); have d0 := HCELL.out 0 _ rfl w2 (below_both hbel B2.out); have d1 := HCELL.out 1 _ rfl w2 (below_both hbel B2.out); have d2 := HCELL.out 2 _ rfl w2 (below_both hbel B2.out); clear b2)
          | (go_at_call 44; refine (up_any a d l _ _).mono ?_; rintro e w3 ⟨v3, rfl, o3⟩; obtain ⟨A3, k3, rfl, s3⟩ := o3.slice; have f0 := HCELL.out 0 _ rfl w3 (below_both hbel (below_both B2.out o3.below)); have f1 := HCELL.out 1 _ rfl w3 (below_both hbel (below_both B2.out o3.below)); have f2 := HCELL.out 2 _ rfl w3 (below_both hbel (below_both B2.out o3.below)); have B3 := Lib.hid (below_both B2.out o3.below); have LT3 := Lib.hid (fun (b : Nat) (e : A3.map Addr.block = some b) => o3.1.lt b (by cases A3 with | none => cases e | some q => simpa [Value.ownBlock] using e)); clear o3))
      have HS3 := Lib.hid (show Is w3 A3 _ k3 (upI a d l (leafI a d l s)) from s3)
      have m3 := Sl.max s3
      have q3 := Sl.cap s3
      have HK3 : Hid (KeysAre w3 Try.prog (w.heap.size + 1) (k * 300) ((S.take k).flatMap fun s => upI a d l (leafI a d l s))) := HKS.out.at (B3.out.block _ hlz)
      have hb3 := below_both hbel B3.out
      have hz3 := B3.out.size
      have hz2 := B2.out.size
      have HBL3 := Lib.hid hb3
      clear s3 d0 d1 d2 f0 f1 f2 c0 c1 c2 c3 hb3
      generalize upI a d l (leafI a d l s) = U at *
      generalize ((S.take k).flatMap fun s => upI a d l (leafI a d l s)) = K at *
      obtain ⟨wo, rfl⟩ : ∃ wo : World, wo = wr := ⟨_, rfl⟩
      go_wp2
      go_loopw [23] (fun i wq => ∃ t : Nat, t ≤ U.length ∧ i = .int .i64 t ∧ KeysAre wq Try.prog (w.heap.size + 1) (k * 300 + t) (K ++ U.take t) ∧ Below wl.heap.size wl wq ∧ w3.heap.size ≤ wq.heap.size ∧ ∀ b, b < w3.heap.size → b ≠ w.heap.size + 1 → wq.heap[b]? = w3.heap[b]?) (fun i _ => U.length - (intOf i).toNat)
      case atStart => exact ⟨0, Nat.zero_le _, rfl, by simpa using HK3.out, HBL3.out, Nat.le_refl _, fun b _ _ => rfl⟩
      case round =>
        obtain ⟨t, ht, rfl, hkq, hbq, hzq, hsame⟩ := hrel
        have HSM := Lib.hid hsame; clear hsame
        by_cases hlt2 : t < U.length
        · obtain ⟨b3, o3, rfl, hc3⟩ := Is.addr (l := U) HS3.out (by omega)
          have hl3 := LT3.out b3 rfl
          have hd3 : wr.cell? ⟨b3, o3 + t, none⟩ = some (.int .i64 (iAt U t)) := (World.cell?_of_block (HSM.out b3 hl3.2 (by omega))).trans (hc3 t hlt2)
          clear hc3
          have HTU : Hid (U.take (t + 1) = U.take t ++ [iAt U t]) := by
            rw [List.take_succ_eq_append_getElem hlt2]
            unfold iAt; rw [List.getD_eq_getElem?_getD, List.getElem?_eq_getElem hlt2]; exact rfl
          have hfit := HU2.out (iAt U t) (by unfold iAt; rw [List.getD_eq_getElem?_getD, List.getElem?_eq_getElem hlt2]; exact List.getElem_mem hlt2)
          generalize iAt U t = z at *
          have hkey : keyOf Try.prog 3 (.int .i64 z) = some (.int .i64 z) := keyOf_int_mk Try.underlying3 (wf_i64 (by omega) (by omega))
          obtain ⟨D, hown, hmD, hD⟩ := hkq
          obtain ⟨vv, ps, hlook, hRv⟩ := hown.lookup (t := 61) keyed3 Try.underlying61 (z := .int .i64 0) (by kernel_rfl) (zd := .held (.int .i64 0)) (zp := []) rfl hkey
          obtain ⟨n, rfl⟩ := Ri_inv hRv
          have HD := Lib.hid hD; clear hD hRv
          go_wp2_with (at_mapUpdate; refine wpList_mapUpdate_own _ rfl _ _ _ 61 rfl 3 3 keyed3 Try.underlying61 Ri (w.heap.size + 1) (k * 300 + t) D rfl hown (by unfold maxLen; omega) _ (.int .i64 _) _ rfl rfl hkey _ _ (Ri_of _) ?_; intro w5 hown5 hgrow5)
          have HF : Hid (KeysAre w5 Try.prog (w.heap.size + 1) (k * 300 + (t + 1)) (K ++ U.take (t + 1)) ∧ Below wl.heap.size wl w5 ∧ w3.heap.size ≤ w5.heap.size ∧ ∀ b, b < w3.heap.size → b ≠ w.heap.size + 1 → w5.heap[b]? = w3.heap[b]?) := by
            refine ⟨⟨_, hown5.mono (by omega), hmD.put _ _, ?_⟩, hbq.grown hgrow5 hbq.size (fun j hj => by cases hj; omega), by have := hgrow5.size; omega, fun b h1 h2 => ?_⟩
            · rw [HTU.out, ← List.append_assoc]; exact keys_put hmD HD.out z _
            · rw [hgrow5.block b (by omega) (by intro e; injection e with e; exact h2 e)]; exact HSM.out b h1 h2
          clear hown5 hgrow5 hlook
          go_roundw
          case rel => exact ⟨t + 1, by omega, by go_num, HF.out.1, HF.out.2.1, HF.out.2.2.1, HF.out.2.2.2⟩
          case measure => simp [intOf]; omega
        · obtain rfl : t = U.length := by omega
          have HF : Hid (KeysAre wr Try.prog (w.heap.size + 1) ((k + 1) * 300) ((S.take (k + 1)).flatMap fun s => upI a d l (leafI a d l s)) ∧ w.heap.size + 1 < wr.heap.size) := by
            refine ⟨?_, by omega⟩
            rw [HT.out]
            obtain ⟨D, hown, hmD, hD⟩ := hkq
            rw [List.take_of_length_le (Nat.le_refl _)] at hD
            exact ⟨D, hown.mono (by omega), hmD, hD⟩
          clear hkq
          go_wp2
          go_roundw
          case rel => exact ⟨k + 1, by omega, by go_num, HF.out.1, hbq, HF.out.2⟩
          case measure => simp [intOf]; omega
    · obtain rfl : k = m := by omega
      have HTK : Hid (S.take k = S) := List.take_of_length_le (by rw [HLN.out]; omega)
      rw [HTK.out] at HKS
      obtain ⟨D, hown, hmD, hD⟩ := HKS.out
      have hszD : Maps.size D ≤ k * 300 := hown.size_le
      have cK : ∀ mb W, Calls Try.prog 49 #[.map mb] W fun e w' => e = .returned (.func (.func 65) #[] #[.pointer (some ⟨W.heap.size, 0, none⟩)]) ∧ w' = W.alloc (.cells #[.map mb] 61) := fun mb W => (callsIn_wide (n := 5)).1 (AnyZI.keys_in Try.keysB Fence.wide 5 trivial rfl mb W)
      have hseq : SeqGives Fence.wide 2 Try.prog 65 #[.pointer (some ⟨wr.heap.size, 0, none⟩)] encZ (fun ss => ss.Perm (intKeys D)) (Maps.size D) (wr.alloc (.cells #[.map (some (w.heap.size + 1))] 61)) :=
        AnyZI.keys_gives (ρ := Try.keysB_ren) { Try.keysB with } Fence.wide _ trivial rfl (by omega) wr.heap.size (w.heap.size + 1) (k * 300) D _ (by simp) (by simp) (hown.alloc _)
      have cS := AnyZI.sorted_in Try.sortedA Fence.wide 5 trivial trivial trivial trivial rfl (by omega) (sortsA _) (enters_of Try.func57 (by kernel_rfl) rfl) 65 #[.pointer (some ⟨wr.heap.size, 0, none⟩)] trivial (enters_of Try.func65 (by kernel_rfl) rfl) _ _ (by simp only [maxLen]; omega) (by omega) _ hseq
      change CallsIn _ _ Try.prog 35 _ _ _ at cS
      have CS := Lib.hid (callsIn_wide.1 cS)
      have HKD : Hid (∀ ss : List Int, ss.Perm (intKeys D) → ss.mergeSort (fun x y => decide (x ≤ y)) = touR a d l S (pagesI a d l).toNat) := fun ss hS => (keys_sortedG Try.underlying3 keyed3 hown hD hS).trans HE.out
      have CK := Lib.hid (cK (some (w.heap.size + 1)) wr)
      clear cS hseq cK hD hmD hown hszD HKS
      go_wp2_with fail
      refine CK.out.mono ?_
      rintro e w6 ⟨rfl, rfl⟩
      go_wp2_with fail
      refine CS.out.mono ?_
      rintro e w' ⟨v, ss, rfl, hS, hrow, hnil, hb⟩
      have hsort := HKD.out ss hS
      have hfin : RetIs w (touR a d l S (pagesI a d l).toNat) (.returned v) w' := by
        refine ⟨v, rfl, ?_, below_both HB.out (below_both hbel (below_both ((Below.refl _ wr).alloc (Nat.le_refl _) _) hb))⟩
        have h2 := ownsRow_base_a hrow (show w.heap.size ≤ _ by simp; omega)
        have hlen : ss.length = (touR a d l S (pagesI a d l).toNat).length := by
          have h1 := congrArg List.length hsort
          rwa [List.length_mergeSort] at h1
        rw [hsort, hlen] at h2
        exact h2
      have HF := Lib.hid hfin; clear hfin hS hrow hnil hb hsort
      go_wp2
      go_ret
      exact HF.out

set_option maxHeartbeats 4000000 in
theorem shapePaths_walk (a d l s p : Int) (B : Option Addr) (m c : Nat) (S : List Int) (w : World) (h : Is w B m c S) :
    Calls Try.prog 6 #[.agg #[.int .i64 a, .int .i64 d, .int .i64 l], .int .i64 s, .int .i64 p, .slice B m c] w fun e w' => e = .returned (.bool true) ∧ Below w.heap.size w w' := by
  have hb : Below w.heap.size w (w.alloc (.cells #[.int .i64 a, .int .i64 d, .int .i64 l] 40)) := (Below.refl _ _).alloc (Nat.le_refl _) _
  have hc := (Blk.new w 40 #[.int .i64 a, .int .i64 d, .int .i64 l])
  obtain ⟨wl, hwl⟩ : ∃ wl, wl = w.alloc (.cells #[.int .i64 a, .int .i64 d, .int .i64 l] 40) := ⟨_, rfl⟩
  rw [← hwl] at hb hc
  have HB := Lib.hid hb; have HWL := Lib.hid hwl; clear hb hwl
  have HCELL : Hid (∀ (i : Nat) (v : Value), [Value.int .i64 a, .int .i64 d, .int .i64 l][i]? = some v → ∀ wq, Below wl.heap.size wl wq → wq.cell? ⟨w.heap.size, i, none⟩ = some v) := by
    intro i v hv wq hq
    rw [hq.cell (p := ⟨w.heap.size, i, none⟩) hc.lt, hc.cell]
    exact hv
  clear hc
  have hmax := h.max
  have hcap := h.cap
  have HI : Hid (Is wl B m c S) := h.mono HB.out
  clear h
  by_cases hm : 20 < m
  · have t1 : decide (20 < (m : Int)) = true := by simp; omega
    go_enter Try.func6, Try.ntmps6
    go_wp2_with (go_at_call 23; refine (alive27_any _).mono ?_; rintro e w' ⟨rfl, hb⟩)
    go_ret
    rw [← HWL.out] at hb
    exact ⟨rfl, below_both HB.out hb⟩
  have t1 : decide (20 < (m : Int)) = false := by simp; omega
  have g0 := HCELL.out 0 _ rfl wl (Below.refl _ _)
  have g1 := HCELL.out 1 _ rfl wl (Below.refl _ _)
  have g2 := HCELL.out 2 _ rfl wl (Below.refl _ _)
  go_enter Try.func6, Try.ntmps6
  go_wp2_with fail
  rw [← HWL.out]
  go_region_held3 (fun w' => w'.cell? ⟨w.heap.size, 0, none⟩ = some (.int .i64 a) ∧ w'.cell? ⟨w.heap.size, 1, none⟩ = some (.int .i64 d) ∧ w'.cell? ⟨w.heap.size, 2, none⟩ = some (.int .i64 l)) (go_keep)
    (first
      | (go_at_call 24; refine (path_any a d l s _).mono ?_; rintro e w1 ⟨v1, rfl, o1⟩; obtain ⟨A1, k1, rfl, s1⟩ := o1.slice; have B1 := Lib.hid (below_both ((Below.refl _ wl).drew) o1.below); have d0 := HCELL.out 0 _ rfl w1 B1.out; have d1 := HCELL.out 1 _ rfl w1 B1.out; have d2 := HCELL.out 2 _ rfl w1 B1.out; clear o1)
      | (go_at_call 25; refine (refPath_any a d l s _).mono ?_; rintro e w2 ⟨v2, rfl, o2⟩; obtain ⟨A2, k2, rfl, s2⟩ := o2.slice; have s1' := s1.mono o2.below; have B2 := Lib.hid (below_both B1.out o2.below); have f0 := HCELL.out 0 _ rfl w2 B2.out; have f1 := HCELL.out 1 _ rfl w2 B2.out; have f2 := HCELL.out 2 _ rfl w2 B2.out; clear o2)
      | (go_at_call 14; refine (ints_any A1 A2 _ _ k1 k2 (pathI a d l s) (pathI a d l s) _ s1' s2).mono ?_; rintro e w3 ⟨rfl, q3, rfl⟩; rw [show (pathI a d l s == pathI a d l s) = true from by simp]; have B3 := Lib.hid (belowN B2.out q3); have h0 := HCELL.out 0 _ rfl _ B3.out; have h1 := HCELL.out 1 _ rfl _ B3.out; have h2 := HCELL.out 2 _ rfl _ B3.out; clear s1 s1' s2)
      | (go_at_call 26; refine (touched_any a d l B m c S _ (HI.out.mono B3.out) (by omega)).mono ?_; rintro e w4 ⟨v4, rfl, o4⟩; obtain ⟨A4, k4, rfl, s4⟩ := o4.slice; have B4 := Lib.hid (below_both B3.out o4.below); have d0 := HCELL.out 0 _ rfl w4 B4.out; have d1 := HCELL.out 1 _ rfl w4 B4.out; have d2 := HCELL.out 2 _ rfl w4 B4.out; clear o4)
      | (go_at_call 27; refine (refTouched_any a d l B m c S _ (HI.out.mono B4.out)).mono ?_; rintro e w5 ⟨v5, rfl, o5⟩; obtain ⟨A5, k5, rfl, s5⟩ := o5.slice; have s4' := s4.mono o5.below; have B5 := Lib.hid (below_both B4.out o5.below); have f0 := HCELL.out 0 _ rfl w5 B5.out; have f1 := HCELL.out 1 _ rfl w5 B5.out; have f2 := HCELL.out 2 _ rfl w5 B5.out; clear o5)
      | (go_at_call 14; refine (ints_any A4 A5 _ _ k4 k5 (touR a d l S (pagesI a d l).toNat) (touR a d l S (pagesI a d l).toNat) _ s4' s5).mono ?_; rintro e w6 ⟨rfl, q6, rfl⟩; rw [show (touR a d l S (pagesI a d l).toNat == touR a d l S (pagesI a d l).toNat) = true from by simp]; have B6 := Lib.hid (belowN B5.out q6); have h0 := HCELL.out 0 _ rfl _ B6.out; have h1 := HCELL.out 1 _ rfl _ B6.out; have h2 := HCELL.out 2 _ rfl _ B6.out; clear s4 s4' s5)
      | (go_at_call 28; refine (under_any a d l p _).mono ?_; rintro e w7 ⟨v7, rfl, o7⟩; obtain ⟨A7, k7, rfl, s7⟩ := o7.slice; have B7 := Lib.hid (below_both B6.out o7.below); have d0 := HCELL.out 0 _ rfl w7 B7.out; have d1 := HCELL.out 1 _ rfl w7 B7.out; have d2 := HCELL.out 2 _ rfl w7 B7.out; clear o7)
      | (go_at_call 29; refine (refUnder_any a d l p _).mono ?_; rintro e w8 ⟨v8, rfl, o8⟩; obtain ⟨A8, k8, rfl, s8⟩ := o8.slice; have s7' := s7.mono o8.below; have B8 := Lib.hid (below_both B7.out o8.below); have f0 := HCELL.out 0 _ rfl w8 B8.out; have f1 := HCELL.out 1 _ rfl w8 B8.out; have f2 := HCELL.out 2 _ rfl w8 B8.out; clear o8)
      | (go_at_call 14; refine (ints_any A7 A8 _ _ k7 k8 (underI a d l p) (underI a d l p) _ s7' s8).mono ?_; rintro e w9 ⟨rfl, q9, rfl⟩; rw [show (underI a d l p == underI a d l p) = true from by simp]; have B9 := Lib.hid (belowN B8.out q9); have h0 := HCELL.out 0 _ rfl _ B9.out; have h1 := HCELL.out 1 _ rfl _ B9.out; have h2 := HCELL.out 2 _ rfl _ B9.out; clear s7 s7' s8)
      | (go_at_call 23; refine (alive27_any _).mono ?_; rintro e w10 ⟨rfl, b10⟩; have B10 := Lib.hid (below_both B9.out b10); have d0 := HCELL.out 0 _ rfl w10 B10.out; have d1 := HCELL.out 1 _ rfl w10 B10.out; have d2 := HCELL.out 2 _ rfl w10 B10.out; clear b10))
  all_goals
    go_wp2
    go_ret
    exact ⟨rfl, below_both HB.out B10.out⟩
end Go.Proofs.Ytbmijjodpdbbmaa
