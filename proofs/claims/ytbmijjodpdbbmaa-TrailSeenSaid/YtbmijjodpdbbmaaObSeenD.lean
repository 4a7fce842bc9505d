import Derived.Test.YtbmijjodpdbbmaaObSeenL
import Derived.Deep.RegionHeld3
namespace Go.Proofs.Ytbmijjodpdbbmaa
open Go.RowKit Go.Maps
set_option linter.unusedVariables false

def RetK (w : World) (K : List (Int × List UInt8)) (e : Ending) (w' : World) : Prop := ∃ A n c M, e = .returned (.slice A n c) ∧ Wrs w' A n c M ∧ M.map Wr.k = K ∧ Below w.heap.size w w'
theorem ownsMap_at {H : Type} {w w' : World} {P : Program} {k : TypeId} {R : Value → Option (DataW H × List MemPlace)} {b n : Nat} {D : DataW H} (h : w.ownsMap P k R b n D) (e : w'.heap[b]? = w.heap[b]?) : w'.ownsMap P k R b n D := by
  obtain ⟨es, cl, hb, r⟩ := h
  exact ⟨es, cl, e.trans hb, r⟩
theorem Own.wrs {w0 w : World} {v : Value} {M : List Wr} (h : OwnW w0 w v M) (hr : ∀ x ∈ M, Bs w0 x.r.a x.r.n x.r.c x.r.l ∧ -9223372036854775808 ≤ x.p ∧ x.p ≤ 9223372036854775807) : ∃ A c, v = .slice A M.length c ∧ Wrs w A M.length c M := by
  obtain ⟨A, c, rfl, hs⟩ := Own.slice h
  exact ⟨A, c, rfl, rfl, hs, fun x hx => ⟨(hr x hx).1.mono h.2, (hr x hx).2⟩⟩
theorem own_kept {w0 w w' : World} {e : TypeId} {size n : Nat} {u v v' : Value} {xs : List Value} (h : Own w0 w e size u n xs) (hk : Kept w w' v v') (hb : Below w0.heap.size w0 w') (hne : ∀ b, u.ownBlock = some b → v.ownBlock ≠ some b) : Own w0 w' e size u n xs := by
  refine ⟨⟨h.1.1, ?_⟩, hb⟩
  rcases h.1.2 with h | ⟨g, cap, cur, rfl, hg, hh, r⟩
  · exact .inl h
  · exact .inr ⟨g, cap, cur, rfl, hg, by rw [hk.1 g (Array.getElem?_eq_some_iff.1 hh).1 (hne g rfl)]; exact hh, r⟩
theorem own_same {w0 w w' : World} {e : TypeId} {size n : Nat} {u : Value} {xs : List Value} (h : Own w0 w e size u n xs) (hk : ∀ b, u.ownBlock = some b → w'.heap[b]? = w.heap[b]?) (hb : Below w0.heap.size w0 w') : Own w0 w' e size u n xs := by
  refine ⟨⟨h.1.1, ?_⟩, hb⟩
  rcases h.1.2 with h | ⟨g, cap, cur, rfl, hg, hh, r⟩
  · exact .inl h
  · exact .inr ⟨g, cap, cur, rfl, hg, by rw [hk g rfl]; exact hh, r⟩

set_option maxHeartbeats 2000000 in
theorem seen_any (A : Option Addr) (n c : Nat) (L : List Wr) (B : Option Addr) (m d : Nat) (H : List Int) (w : World) (h : Wrs w A n c L) (hH : Is w B m d H) (hn : n ≤ 60) (hrow : ∀ x ∈ L, x.r.n ≤ 20000) :
    Calls Try.prog 21 #[.slice A n c, .slice B m d] w (RetK w (seenK H L)) := by
  have hmax := h.2.1.max
  have hcap := h.2.1.cap
  have HL := Lib.hid h.1
  obtain ⟨wl, hwl⟩ : ∃ wl, wl = w.alloc (.cells #[.slice B m d] 31) := ⟨_, rfl⟩
  have hbl : Below w.heap.size w wl := by rw [hwl]; exact (Below.refl _ _).alloc (Nat.le_refl _) _
  have d0 : wl.cell? ⟨w.heap.size, 0, none⟩ = some (.slice B m d) := by rw [hwl, (Blk.new w _ _).cell]; rfl
  have hzl : w.heap.size < wl.heap.size := by rw [hwl]; simp
  have HW : Hid (Wrs wl A n c L) := h.mono hbl
  have HI : Hid (Is wl B m d H) := hH.mono hbl
  have HR := Lib.hid hrow
  have HD0 := Lib.hid d0
  have HBL := Lib.hid hbl
  have HWL := Lib.hid hwl
  clear h hH hrow d0 hbl hwl
  go_enter Try.func21, Try.ntmps21
  go_wp2_with fail
  rw [← HWL.out]
  refine (cloneW_any A n c L wl HW.out (by omega)).mono ?_
  rintro e w1 ⟨v1, rfl, o1⟩
  have O1 := Lib.hid o1; clear o1
  go_wp2_with fail
  refine (delW_any v1 L w.heap.size B m d H wl w1 O1.out (by rw [HL.out]; omega) (fun x hx => ⟨(HW.out.2.2 x hx).1, (HW.out.2.2 x hx).2⟩) HD0.out HI.out).mono ?_
  rintro e w2 ⟨v2, rfl, o2⟩
  have hkm : ∀ x ∈ keepW H L, x ∈ L := fun x hx => (List.mem_filter.1 hx).1
  have hkl : (keepW H L).length ≤ 60 := by have := List.length_filter_le (fun x => !hid1 H x) L; have := HL.out; unfold keepW; omega
  obtain ⟨A2, c2, rfl, hw2⟩ := Own.wrs o2 (fun x hx => HW.out.2.2 x (hkm x hx))
  have HB2 := Lib.hid o2.2
  have HKM := Lib.hid hkm
  clear o2 hkm
  go_wp2_with fail
  refine (copiedO_any A2 _ c2 (keepW H L) w2 hw2 (by omega) (fun x hx => HR.out x (HKM.out x hx))).mono ?_
  rintro e w3 ⟨v3, M3, rfl, ho3, _, hk3⟩
  have HO3 := Lib.hid ho3; have HK3 := Lib.hid hk3
  have HB3 := Lib.hid (below_both HB2.out ho3.1.2)
  clear hw2 ho3 hk3
  go_wp2_with fail
  refine (last_any A n c L w3 (HW.out.mono HB3.out) (by omega)).mono ?_
  rintro e w4 ⟨rfl, hmap, hb4⟩
  have HM4 := Lib.hid hmap; have HB4 := Lib.hid hb4
  have hlt4 : w3.heap.size < w4.heap.size := hmap.lt
  clear hmap hb4
  go_wp2_with fail
  refine (places_any A n c L w4 (HW.out.mono (below_both HB3.out HB4.out)) (by omega)).mono ?_
  rintro e w5 ⟨v5, rfl, o5⟩
  have hSl : (sortU (L.map Wr.p)).length ≤ 60 := by
    have h1 := sortU_len (L.map Wr.p) (L.map Wr.p).length
    rw [List.take_of_length_le (Nat.le_refl _), List.length_map, HL.out] at h1
    omega
  have HSM : Hid (∀ z, z ∈ sortU (L.map Wr.p) → z ∈ L.map Wr.p) := fun z hz => (sortU_mem _ z).1 hz
  have HSE : Hid (seenK H L = (keepW H L).map Wr.k ++ covT H L (sortU (L.map Wr.p))) := rfl
  generalize sortU (L.map Wr.p) = S at *
  have HBK5 : Hid (∀ b : Nat, v5.ownBlock = some b → w4.heap.size ≤ b ∧ b < w5.heap.size) := fun b hb => o5.1.lt b hb
  obtain ⟨A5, c5, rfl, s5⟩ := o5.slice
  have HB5 := Lib.hid o5.2
  have HS5 : Hid (Is w5 A5 S.length c5 S) := s5
  have md := Sl.max s5
  have cd := Sl.cap s5
  have hsz5 := o5.2.size
  clear o5 s5
  have HK0 : Hid (∀ b, w3.heap.size ≤ b → b < w5.heap.size → v3.ownBlock ≠ some b) := fun b h1 h2 e => by have := (HO3.out.1.1.lt b e).2; omega
  go_wp2
  go_loopw [6, 22] (fun v i wr => ∃ (k : Nat) (M : List Wr), k ≤ S.length ∧ i = .int .i64 k ∧ OwnWr w2 wr v M ∧ M.map Wr.k = (keepW H L).map Wr.k ++ covT H L (S.take k) ∧ w5.heap.size ≤ wr.heap.size ∧ ∀ b, w3.heap.size ≤ b → b < w5.heap.size → v.ownBlock ≠ some b ∧ wr.heap[b]? = w5.heap[b]?) (fun _ i _ => S.length - (intOf i).toNat)
  case atStart =>
    have hb35 := below_both HB4.out HB5.out
    refine ⟨0, M3, Nat.zero_le _, rfl, ⟨HO3.out.1.mono hb35, fun x hx => ⟨⟨(HO3.out.2 x hx).1.1.mono hb35, (HO3.out.2 x hx).1.2⟩, (HO3.out.2 x hx).2⟩⟩, ?_, Nat.le_refl _, fun b h1 h2 => ⟨HK0.out b h1 h2, rfl⟩⟩
    rw [HK3.out]; simp [covT]
  case round =>
    obtain ⟨k, M, hk, rfl, hown, hM, hsz, hkeep⟩ := hrel
    have HM := Lib.hid hM; have HKP := Lib.hid hkeep; clear hM hkeep
    have HOW := Lib.hid hown; clear hown
    have hbr : Below wl.heap.size wl wr := below_both HB2.out HOW.out.1.2
    by_cases hlt : k < S.length
    · have hML : M.length ≤ 200 := by
        have h1 := congrArg List.length HM.out
        rw [List.length_map, List.length_append, List.length_map] at h1
        have h2 := covT_len H L (S.take k)
        have h3 := List.length_take_le k S
        omega
      obtain ⟨b5, o5, rfl, hc5⟩ := HS5.out.addr (by omega)
      have hz := hc5 k hlt
      have hzb := HBK5.out b5 rfl
      have c1 : wr.cell? ⟨b5, o5 + k, none⟩ = some (.int .i64 (iAt S k)) := (World.cell?_of_block (w := w5) ((HKP.out b5 (by omega) hzb.2).2)).trans hz
      clear hc5 hz
      have hmr := ownsMap_at HM4.out (HB5.out.block w3.heap.size hlt4)
      have hmr2 := ownsMap_at hmr (HKP.out w3.heap.size (Nat.le_refl _) (by omega)).2
      have hzm : iAt S k ∈ L.map Wr.p := HSM.out _ (by unfold iAt; rw [List.getD_eq_getElem?_getD, List.getElem?_eq_getElem hlt]; exact List.getElem_mem hlt)
      have HCS := Lib.hid (covT_snoc H L S k hlt)
      obtain ⟨x, hxL, hxp, hxl, hat⟩ := last_look L (iAt S k) (.held (.agg #[.int .i64 0, .slice none 0 0])) hzm
      generalize iAt S k = z at *
      have hxb := HW.out.2.2 x hxL
      have hxr := HR.out x hxL
      obtain ⟨xp, xr⟩ := x
      simp only at hxp hxl hxb hxr
      subst hxp
      obtain ⟨hxb, hp1, hp2⟩ := hxb
      have hkey : keyOf Try.prog 3 (.int .i64 xp) = some (.int .i64 xp) := keyOf_int_mk Try.underlying3 (wf_i64 hp1 hp2)
      obtain ⟨vv, ps, hlook, hRv⟩ := hmr2.lookup (t := 55) keyed3 Try.underlying55 (z := .agg #[.int .i64 0, .slice none 0 0]) (by kernel_rfl) rfl hkey
      rw [hat] at hRv
      have hvv : vv = .agg #[.int .i64 xp, .slice xr.a xr.n xr.c] := by
        unfold Rv at hRv
        injection hRv with h1
        injection h1 with h1 _
        injection h1
      subst hvv
      clear hRv hat hkey hzm hmr hmr2
      have HXL := Lib.hid hxl; clear hxl
      have HXB := Lib.hid (hxb.mono hbr); clear hxb
      obtain ⟨wa, hwa⟩ : ∃ wa, wa = wr.alloc (.cells #[.int .i64 xp, .slice xr.a xr.n xr.c] 46) := ⟨_, rfl⟩
      have hba : Below wr.heap.size wr wa := by rw [hwa]; exact (Below.refl _ _).alloc (Nat.le_refl _) _
      have f0 : wa.cell? ⟨wr.heap.size, 0, none⟩ = some (.int .i64 xp) := by rw [hwa, (Blk.new wr _ _).cell]; rfl
      have f1 : wa.cell? ⟨wr.heap.size, 1, none⟩ = some (.slice xr.a xr.n xr.c) := by rw [hwa, (Blk.new wr _ _).cell]; rfl
      have hza : wr.heap.size < wa.heap.size := by rw [hwa]; simp
      have hbla := below_both hbr hba
      have HC := Lib.hid (covert_any w.heap.size xp xr B m d H wa ((hbla.cell (p := ⟨w.heap.size, 0, none⟩) hzl).trans HD0.out) (HI.out.mono hbla))
      have HWA := Lib.hid hwa; have HBA := Lib.hid hba
      clear hwa hba hbla
      cases he : H.contains xp
      · rw [he] at HC
        rw [he] at HCS
        clear he
        go_wp2_with fail
        rw [← HWA.out]
        refine HC.out.mono ?_
        rintro e w6 ⟨rfl, b6⟩
        have HB6 := Lib.hid (below_both HBA.out b6); clear b6 f0 f1 hlook c1
        have hz6 := HB6.out.size
        go_wp2
        go_roundw
        case rel =>
          refine ⟨k + 1, M, by omega, by go_num, ⟨HOW.out.1.mono HB6.out, fun x hx => ⟨⟨(HOW.out.2 x hx).1.1.mono HB6.out, (HOW.out.2 x hx).1.2⟩, (HOW.out.2 x hx).2⟩⟩, ?_, by omega, fun b h1 h2 => ⟨(HKP.out b h1 h2).1, (HB6.out.block b (by omega)).trans (HKP.out b h1 h2).2⟩⟩
          rw [HM.out, HCS.out]; simp
        case measure => simp [intOf]; omega
      · rw [he] at HC
        rw [he] at HCS
        clear he
        go_wp2_with fail
        rw [← HWA.out]
        refine HC.out.mono ?_
        rintro e w6 ⟨rfl, b6⟩
        have g0 : w6.cell? ⟨wr.heap.size, 0, none⟩ = some (.int .i64 xp) := (b6.cell (p := ⟨wr.heap.size, 0, none⟩) hza).trans f0
        have g1 : w6.cell? ⟨wr.heap.size, 1, none⟩ = some (.slice xr.a xr.n xr.c) := (b6.cell (p := ⟨wr.heap.size, 1, none⟩) hza).trans f1
        have HB6 := Lib.hid (below_both HBA.out b6); clear b6 f0 f1 hlook c1
        obtain ⟨wb, hwb⟩ : ∃ wb, wb = w6.alloc (.cells #[.int .i64 xp, .slice xr.a xr.n xr.c] 46) := ⟨_, rfl⟩
        have hbb : Below w6.heap.size w6 wb := by rw [hwb]; exact (Below.refl _ _).alloc (Nat.le_refl _) _
        have hbrb := below_both HB6.out hbb
        have HWW : Hid (Wrs wb (some ⟨w6.heap.size, 0, none⟩) 1 1 [⟨xp, xr⟩]) := by
          refine ⟨rfl, ⟨rfl, Nat.le_refl _, by simp [maxLen], fun _ => ⟨_, _, rfl, fun j u hu => ?_⟩⟩, fun y hy => ?_⟩
          · rw [Nat.zero_add, hwb, (Blk.new w6 _ _).cell]
            exact hu
          · obtain rfl : y = ⟨xp, xr⟩ := by simpa using hy
            exact ⟨HXB.out.mono hbrb, hp1, hp2⟩
        have HWB := Lib.hid hwb; have HBRB := Lib.hid hbrb
        clear hwb hbb hbrb
        go_wp2_with fail
        rw [← HWB.out]
        refine (copiedO_any _ 1 1 [⟨xp, xr⟩] wb HWW.out (by omega) (fun y hy => by obtain rfl : y = ⟨xp, xr⟩ := (by simpa using hy); exact hxr)).mono ?_
        rintro e w7 ⟨v7, M7, rfl, ho7, hf7, hk7⟩
        have hl7 : M7.length ≤ 1 := by have := congrArg List.length hk7; simp at this; omega
        have hb7 := below_both HBRB.out ho7.1.2
        obtain ⟨A7, c7, rfl, s7⟩ := ho7.1.slice
        have HO7 := Lib.hid ho7; have HF7 := Lib.hid hf7; have HK7 := Lib.hid hk7; have HS7 := Lib.hid s7; have HB7 := Lib.hid hb7
        have HOW7 := Lib.hid (HOW.out.1.mono hb7)
        clear ho7 hf7 hk7 s7 hb7 g0 g1
        go_wp2_with (at_builtin; refine wpList_catG rfl _ _ 22 rfl tWr rfl HOW7.out rfl HS7.out (one_wrs M7) (by omega) ?_; intro v8 w8 o8 kp8)
        have hz7 := HB7.out.size
        have HFIN : Hid (OwnWr w2 w8 v8 (M ++ M7) ∧ w5.heap.size ≤ w8.heap.size ∧ ∀ b, w3.heap.size ≤ b → b < w5.heap.size → v8.ownBlock ≠ some b ∧ w8.heap[b]? = w5.heap[b]?) := by
          refine ⟨⟨by rw [List.length_append, List.flatMap_append]; exact o8, fun x hx => ?_⟩, by have := kp8.2.1; omega, fun b h1 h2 => ?_⟩
          · rcases List.mem_append.1 hx with hx | hx
            · obtain ⟨⟨hb, hap⟩, hr⟩ := HOW.out.2 x hx
              exact ⟨Bs.kept (r := x.r) (hb.mono HB7.out) kp8 hap, hr⟩
            · obtain ⟨⟨hb, hap⟩, hr⟩ := HO7.out.2 x hx
              refine ⟨Bs.kept (r := x.r) hb kp8 (fun b o hn e hv => ?_), hr⟩
              have q1 := (HOW.out.1.1.lt b hv).2
              have q2 := HF7.out x hx b o hn e
              have q3 := HBRB.out.size
              omega
          · have q := HKP.out b h1 h2
            refine ⟨?_, ?_⟩
            · rcases kp8.2.2 with e | e
              · rw [e]; exact q.1
              · rw [e]; intro e2; injection e2 with e2; omega
            · rw [kp8.1 b (by omega) q.1, HB7.out.block b (by omega)]; exact q.2
        clear o8 kp8
        go_roundw
        case rel =>
          refine ⟨k + 1, M ++ M7, by omega, by go_num, HFIN.out.1, ?_, HFIN.out.2.1, HFIN.out.2.2⟩
          rw [List.map_append, HM.out, HK7.out, HCS.out]
          simp [Wr.k, HXL.out]
        case measure => simp [intOf]; omega
    · obtain rfl : k = S.length := by omega
      have HF : Hid (RetK w (seenK H L) (.returned u6) wr) := by
        obtain ⟨A8, c8, rfl, s8⟩ := HOW.out.1.slice
        refine ⟨A8, M.length, c8, M, rfl, ⟨rfl, s8, fun x hx => ⟨(HOW.out.2 x hx).1.1, (HOW.out.2 x hx).2⟩⟩, ?_, below_both HBL.out hbr⟩
        rw [HM.out, List.take_of_length_le (Nat.le_refl _), HSE.out]
      go_wp2
      go_ret
      exact HF.out

/-! ### the document's -/
set_option maxHeartbeats 2000000 in
theorem refSeen_any (A : Option Addr) (n c : Nat) (L : List Wr) (B : Option Addr) (m d : Nat) (H : List Int) (w : World) (h : Wrs w A n c L) (hH : Is w B m d H) (hn : n ≤ 60) :
    Calls Try.prog 22 #[.slice A n c, .slice B m d] w (RetK w (seenK H L)) := by
  have hmax := h.2.1.max
  have hcap := h.2.1.cap
  have HL := Lib.hid h.1
  have HH := Lib.hid h; have HI := Lib.hid hH; clear h hH
  go_enter Try.func22, Try.ntmps22
  go_wp2
  go_loopw [5, 6, 7] (fun v u i wr => ∃ k : Nat, k ≤ n ∧ i = .int .i64 k ∧ OwnW w wr v (keepW H (L.take k)) ∧ OwnW w wr u (hidW H (L.take k)) ∧ ∀ b, v.ownBlock = some b → u.ownBlock ≠ some b) (fun _ _ i _ => n - (intOf i).toNat)
  case atStart => exact ⟨0, Nat.zero_le _, rfl, Own.nil _ _ _, Own.nil _ _ _, fun b h => by cases h⟩
  case round =>
    obtain ⟨k, hk, rfl, hov, hou, hap⟩ := hrel
    have hlv : (keepW H (L.take k)).length ≤ k := Nat.le_trans (List.length_filter_le _ _) (List.length_take_le _ _)
    have hlu : (hidW H (L.take k)).length ≤ k := Nat.le_trans (List.length_filter_le _ _) (List.length_take_le _ _)
    have hbel := hov.2
    have HOV := Lib.hid (show Own w wr 46 2 u5 _ ((keepW H (L.take k)).flatMap Wr.cells) from hov); have HOU := Lib.hid (show Own w wr 46 2 u6 _ ((hidW H (L.take k)).flatMap Wr.cells) from hou); have HAP := Lib.hid hap; clear hov hou hap
    by_cases hlt : k < n
    · obtain ⟨b, o, ⟨xp, xr⟩, rfl, hx, c1, c2, hrow, hp1, hp2⟩ := (HH.out.mono hbel).row hlt
      simp only at c1 c2 hrow hp1 hp2
      have HX := Lib.hid hx; clear hx hrow
      have HHAS := Lib.hid (refHas_any B m d H xp wr (HI.out.mono hbel))
      have HT : Hid (L.take (k + 1) = L.take k ++ [⟨xp, xr⟩]) := by
        have hk : k < L.length := (List.getElem?_eq_some_iff.1 HX.out).1
        have e1 := HX.out
        rw [List.getElem?_eq_getElem hk] at e1
        injection e1 with e1
        rw [List.take_succ_eq_append_getElem hk, e1]
        exact rfl
      cases he : H.contains xp
      · have HE : Hid (keepW H (L.take (k + 1)) = keepW H (L.take k) ++ [⟨xp, xr⟩] ∧ hidW H (L.take (k + 1)) = hidW H (L.take k)) := by
          have h1 : hid1 H ⟨xp, xr⟩ = false := he
          show _ ∧ _
          rw [HT.out]
          unfold keepW hidW
          rw [List.filter_append, List.filter_append]
          simp [h1]
        rw [he] at HHAS
        clear he
        go_wp2_with (first
          | (go_at_call 20; refine HHAS.out.mono ?_; rintro e w' ⟨rfl, rfl⟩)
          | (at_builtin; refine wpList_pushG rfl (.tmp 31) (.tmp 36) 22 rfl tWr rfl HOV.out #[.int .i64 xp, .slice xr.a xr.n xr.c] rfl rfl (by intro u hu; simp at hu; rcases hu with rfl | rfl <;> rfl) (by omega) ?_; intro v1 w1 o1 kp1))
        have hal := (Below.refl wr.heap.size wr).alloc (Nat.le_refl _) (.cells #[.int .i64 xp, .slice xr.a xr.n xr.c] 46)
        have HF : Hid (OwnW w w1 v1 (keepW H (L.take (k + 1))) ∧ OwnW w w1 u6 (hidW H (L.take (k + 1))) ∧ ∀ b, v1.ownBlock = some b → u6.ownBlock ≠ some b) := by
          rw [HE.out.1, HE.out.2]
          refine ⟨?_, ?_, ?_⟩
          · unfold OwnW; rw [List.length_append, List.flatMap_append]; exact o1
          · exact own_kept (HOU.out.mono hal) kp1 o1.2 (fun b e e2 => HAP.out b e2 e)
          · intro b e e2
            have q := (HOU.out.1.lt b e2).2
            rcases kp1.2.2 with h | h
            · rw [h] at e; exact HAP.out b e e2
            · rw [h] at e; injection e with e; simp at e; omega
        clear o1 kp1 hal
        go_roundw
        case rel => exact ⟨k + 1, by omega, by go_num, HF.out.1, HF.out.2.1, HF.out.2.2⟩
        case measure => simp [intOf]; omega
      · have HE : Hid (keepW H (L.take (k + 1)) = keepW H (L.take k) ∧ hidW H (L.take (k + 1)) = hidW H (L.take k) ++ [⟨xp, xr⟩]) := by
          have h1 : hid1 H ⟨xp, xr⟩ = true := he
          show _ ∧ _
          rw [HT.out]
          unfold keepW hidW
          rw [List.filter_append, List.filter_append]
          simp [h1]
        rw [he] at HHAS
        clear he
        go_wp2_with (first
          | (go_at_call 20; refine HHAS.out.mono ?_; rintro e w' ⟨rfl, rfl⟩)
          | (at_builtin; refine wpList_pushG rfl (.tmp 24) (.tmp 29) 22 rfl tWr rfl HOU.out #[.int .i64 xp, .slice xr.a xr.n xr.c] rfl rfl (by intro u hu; simp at hu; rcases hu with rfl | rfl <;> rfl) (by omega) ?_; intro v1 w1 o1 kp1))
        have hal := (Below.refl wr.heap.size wr).alloc (Nat.le_refl _) (.cells #[.int .i64 xp, .slice xr.a xr.n xr.c] 46)
        have HF : Hid (OwnW w w1 u5 (keepW H (L.take (k + 1))) ∧ OwnW w w1 v1 (hidW H (L.take (k + 1))) ∧ ∀ b, u5.ownBlock = some b → v1.ownBlock ≠ some b) := by
          rw [HE.out.1, HE.out.2]
          refine ⟨?_, ?_, ?_⟩
          · exact own_kept (HOV.out.mono hal) kp1 o1.2 (fun b e e2 => HAP.out b e e2)
          · unfold OwnW; rw [List.length_append, List.flatMap_append]; exact o1
          · intro b e e2
            have q := (HOV.out.1.lt b e).2
            rcases kp1.2.2 with h | h
            · rw [h] at e2; exact HAP.out b e e2
            · rw [h] at e2; injection e2 with e2; simp at e2; omega
        clear o1 kp1 hal
        go_roundw
        case rel => exact ⟨k + 1, by omega, by go_num, HF.out.1, HF.out.2.1, HF.out.2.2⟩
        case measure => simp [intOf]; omega
    · obtain rfl : n = k := by omega
      have HTK : Hid (L.take n = L) := List.take_of_length_le (by rw [HL.out]; omega)
      rw [HTK.out] at HOV HOU hlv hlu
      obtain ⟨wo, rfl⟩ : ∃ wo : World, wo = wr := ⟨_, rfl⟩
      obtain ⟨uo, rfl⟩ : ∃ uo : Value, uo = u5 := ⟨_, rfl⟩
      obtain ⟨Au, cu, rfl, hwu⟩ := Own.wrs HOU.out (fun x hx => HH.out.2.2 x (List.mem_filter.1 hx).1)
      have HWU := Lib.hid hwu; clear hwu
      go_wp2_with fail
      refine (refPlaces_any Au _ cu (hidW H L) wo HWU.out (by omega)).mono ?_
      rintro e w5 ⟨v5, rfl, o5⟩
      rw [places_hid] at o5
      have hSl : ((sortU (L.map Wr.p)).filter fun z => H.contains z).length ≤ 60 := by
        have h0 := List.length_filter_le (fun z => H.contains z) (sortU (L.map Wr.p))
        have h1 := sortU_len (L.map Wr.p) (L.map Wr.p).length
        rw [List.take_of_length_le (Nat.le_refl _), List.length_map, HL.out] at h1
        omega
      have HSM : Hid (∀ z, z ∈ ((sortU (L.map Wr.p)).filter fun z => H.contains z) → H.contains z = true ∧ z ∈ L.map Wr.p) := fun z hz => ⟨(List.mem_filter.1 hz).2, (sortU_mem _ z).1 (List.mem_filter.1 hz).1⟩
      have HSE : Hid (seenK H L = (keepW H L).map Wr.k ++ ((sortU (L.map Wr.p)).filter fun z => H.contains z).map fun z => (z, lastB L z)) := rfl
      generalize ((sortU (L.map Wr.p)).filter fun z => H.contains z) = S at *
      have HBK5 : Hid (∀ b : Nat, v5.ownBlock = some b → wo.heap.size ≤ b ∧ b < w5.heap.size) := fun b hb => o5.1.lt b hb
      obtain ⟨A5, c5, rfl, s5⟩ := o5.slice
      have HB5 := Lib.hid o5.2
      have HS5 : Hid (Is w5 A5 S.length c5 S) := s5
      have md := Sl.max s5
      have cd := Sl.cap s5
      have hsz5 := o5.2.size
      clear o5 s5
      have HK0 : Hid (∀ b, b < w5.heap.size → uo.ownBlock ≠ some b → uo.ownBlock ≠ some b ∧ w5.heap[b]? = w5.heap[b]?) := fun b h1 h2 => ⟨h2, rfl⟩
      have HOLD : Hid (∀ b, wo.heap.size ≤ b → uo.ownBlock ≠ some b) := fun b h1 e => by have := (HOV.out.1.lt b e).2; omega
      go_wp2
      go_loopw [5, 9] (fun v i wq => ∃ (j : Nat) (M : List Wr), j ≤ S.length ∧ i = .int .i64 j ∧ OwnW w wq v M ∧ (∀ x ∈ M, Bs w x.r.a x.r.n x.r.c x.r.l ∧ -9223372036854775808 ≤ x.p ∧ x.p ≤ 9223372036854775807) ∧ M.map Wr.k = (keepW H L).map Wr.k ++ (S.take j).map (fun z => (z, lastB L z)) ∧ w5.heap.size ≤ wq.heap.size ∧ ∀ b, b < w5.heap.size → uo.ownBlock ≠ some b → v.ownBlock ≠ some b ∧ wq.heap[b]? = w5.heap[b]?) (fun _ i _ => S.length - (intOf i).toNat)
      case atStart =>
        refine ⟨0, keepW H L, Nat.zero_le _, rfl, HOV.out.mono HB5.out, fun x hx => HH.out.2.2 x (List.mem_filter.1 hx).1, by simp, Nat.le_refl _, fun b h1 h2 => ⟨h2, rfl⟩⟩
      case round =>
        obtain ⟨j, M, hj, rfl, hown, hbs, hM, hsz, hkeep⟩ := hrel
        have HM := Lib.hid hM; have HKP := Lib.hid hkeep; have HBS := Lib.hid hbs; clear hM hkeep hbs
        have hbq : Below w.heap.size w wr := hown.2
        have HOW := Lib.hid (show Own w wr 46 2 u5 _ (M.flatMap Wr.cells) from hown); clear hown
        by_cases hlt2 : j < S.length
        · have hML : M.length ≤ 200 := by
            have h1 := congrArg List.length HM.out
            rw [List.length_map, List.length_append, List.length_map, List.length_map] at h1
            have h3 := List.length_take_le j S
            omega
          obtain ⟨b5, o5, rfl, hc5⟩ := HS5.out.addr (by omega)
          have hz := hc5 j hlt2
          have hzb := HBK5.out b5 rfl
          have q5 := HKP.out b5 hzb.2 (HOLD.out b5 hzb.1)
          have c1 : wr.cell? ⟨b5, o5 + j, none⟩ = some (.int .i64 (iAt S j)) := (World.cell?_of_block (w := w5) q5.2).trans hz
          have HN5 := Lib.hid q5.1
          have hb5lt : b5 < wr.heap.size := by omega
          clear hc5 hz q5
          have hzm := HSM.out (iAt S j) (by unfold iAt; rw [List.getD_eq_getElem?_getD, List.getElem?_eq_getElem hlt2]; exact List.getElem_mem hlt2)
          have HSN : Hid (S.take (j + 1) = S.take j ++ [iAt S j]) := by
            rw [List.take_succ_eq_append_getElem hlt2]
            unfold iAt; rw [List.getD_eq_getElem?_getD, List.getElem?_eq_getElem hlt2]; exact rfl
          have hbn : -9223372036854775808 ≤ iAt S j ∧ iAt S j ≤ 9223372036854775807 := by
            obtain ⟨x, hx, e⟩ := List.mem_map.1 hzm.2
            rw [← e]; exact (HH.out.2.2 x hx).2
          generalize iAt S j = z at *
          have HWU2 : Hid (Wrs wr Au (hidW H L).length cu (hidW H L)) := by
            have h1 : OwnW w wr (.slice Au (hidW H L).length cu) (hidW H L) := own_same HOU.out (fun b e => by
              have hne : uo.ownBlock ≠ some b := fun e2 => HAP.out b e2 e
              have hlt3 := (HOU.out.1.lt b e).2
              rw [(HKP.out b (by omega) hne).2]
              exact HB5.out.block b hlt3) hbq
            obtain ⟨A9, c9, e9, h9⟩ := Own.wrs h1 (fun x hx => HH.out.2.2 x (List.mem_filter.1 hx).1)
            injection e9 with e1 e2 e3
            subst e1 e3
            exact h9
          have HOF := Lib.hid (ofL_hid H L z hzm.1)
          have HNE : Hid (ofL L z ≠ []) := by
            obtain ⟨x, hx, e⟩ := List.mem_map.1 hzm.2
            intro h
            have : x.r.l ∈ ofL L z := List.mem_map.2 ⟨x, List.mem_filter.2 ⟨hx, by simpa using e⟩, rfl⟩
            rw [h] at this; cases this
          clear hzm
          go_wp2_with fail
          refine (refOfIn_any Au _ cu (hidW H L) z wr HWU2.out (by omega)).mono ?_
          rintro e w6 ⟨A6, n6, c6, R6, rfl, hR6, hi6, hb6, hin6, hfr6⟩
          rw [HOF.out] at hi6
          have hlen6 : n6 = (ofL L z).length := by rw [← hR6.len, ← hi6, List.length_map]
          obtain ⟨q, hq⟩ : ∃ q, n6 = q + 1 := ⟨n6 - 1, by
            have : 0 < (ofL L z).length := List.length_pos_iff.2 HNE.out
            omega⟩
          have m6 := hR6.1.max
          have k6 := hR6.1.cap
          obtain ⟨b6, o6, r, rfl, hr, c2, hrb⟩ := hR6.row (show q < n6 by omega)
          have hrl : r.l = lastB L z := by
            unfold lastB
            rw [List.getLast?_eq_getElem?, ← hlen6, hq, ← hi6, List.getElem?_map]
            simp only [Nat.add_sub_cancel]
            rw [hr]
            rfl
          obtain ⟨y, hy, hyr⟩ := hin6 r (List.mem_of_getElem? hr)
          have hold := (HH.out.2.2 y (List.mem_filter.1 hy).1).1
          rw [hyr] at hold
          have HOLDB := Lib.hid hold; have HRL := Lib.hid hrl
          have d1 : w6.cell? ⟨b5, o5 + j, none⟩ = some (.int .i64 z) := (hb6.cell (p := ⟨b5, o5 + j, none⟩) hb5lt).trans c1
          have hf6 := hfr6 b6 o6 rfl
          have hv6 : u5.ownBlock ≠ some b6 := fun e => by have := (HOW.out.1.lt b6 e).2; omega
          have HO6 := Lib.hid (HOW.out.mono hb6)
          have HB6 := Lib.hid hb6
          have HV6 := Lib.hid hv6
          have hz6 := hb6.size
          have e1 : IntKind.i64.wrap ((n6 : Int) - 1) = (q : Int) := by rw [IntWalk.i64_in _ (by omega)]; omega
          have i0 : (0 : Int) ≤ (q : Int) := by omega
          have i1 : (q : Int) < (n6 : Int) := by omega
          have i2 : (0 : Int) ≤ (j : Int) := by omega
          have i3 : (j : Int) < (S.length : Int) := by omega
          have z1 := World.new_ne w6 _ d1
          have z2 := World.new_ne w6 _ c2
          have HFR : Hid (b6 < w6.heap.size) := hf6.2
          have D1 : Hid (∀ wq, Below w6.heap.size w6 wq → wq.cell? ⟨b5, o5 + j, none⟩ = some (.int .i64 z)) := fun wq hq => (hq.cell (p := ⟨b5, o5 + j, none⟩) (by show b5 < _; omega)).trans d1
          have D2 : Hid (∀ wq, Below w6.heap.size w6 wq → wq.cell? ⟨b6, o6 + q, none⟩ = some (.slice r.a r.n r.c)) := fun wq hq => (hq.cell (p := ⟨b6, o6 + q, none⟩) hf6.2).trans c2
          clear c1 hq hlen6 hy hyr hold hrl hr hrb hR6 hi6 hin6 hfr6 hb6 hf6 hv6
          go_wp2
          go_region_held3 (fun w' => w'.cell? ⟨b5, o5 + j, none⟩ = some (.int .i64 z) ∧ w'.cell? ⟨b6, o6 + q, none⟩ = some (.slice r.a r.n r.c)) (go_keep)
            (first | (refine step_pushG rfl (.tmp 52) (.tmp 64) 22 rfl tWr rfl (by exact (HO6.out.alloc _).drew) _ _ (Wr.cells ⟨z, r⟩) rfl rfl (Wr.one _) (by exact cells_new _ 1 #[.int .i64 z, .slice r.a r.n r.c] _) (by omega) ?_; intro v8 w8 o8 kp8; have e0 : w8.cell? ⟨b5, o5 + j, none⟩ = some (.int .i64 z) := (World.cell?_of_block (kp8.1 b5 (by simp; omega) HN5.out)).trans (D1.out _ (by exact ((Below.refl _ _).alloc (Nat.le_refl _) _).drew)); have e9 : w8.cell? ⟨b6, o6 + q, none⟩ = some (.slice r.a r.n r.c) := (World.cell?_of_block (kp8.1 b6 (by have := HFR.out; simp; omega) HV6.out)).trans (D2.out _ (by exact ((Below.refl _ _).alloc (Nat.le_refl _) _).drew))))
          all_goals
            have hk1 := kp8.1
            have hk2 : w6.heap.size + 1 ≤ w8.heap.size := by have := kp8.2.1; simpa using this
            have hk3 : v8.ownBlock = u5.ownBlock ∨ v8.ownBlock = some (w6.heap.size + 1) := by
              rcases kp8.2.2 with e | e
              · exact .inl e
              · exact .inr (by simpa using e)
            have hab : ∀ b, b < w6.heap.size → (w6.alloc (.cells #[.int .i64 z, .slice r.a r.n r.c] 46)).drew.heap[b]? = w6.heap[b]? := fun b hb => ((Below.refl w6.heap.size w6).alloc (Nat.le_refl _) _).drew.block b hb
            have HFIN : Hid (OwnW w w8 v8 (M ++ [⟨z, r⟩]) ∧ w5.heap.size ≤ w8.heap.size ∧ ∀ b, b < w5.heap.size → uo.ownBlock ≠ some b → v8.ownBlock ≠ some b ∧ w8.heap[b]? = w5.heap[b]?) := by
              refine ⟨by unfold OwnW; rw [List.length_append, List.flatMap_append]; simpa using o8, by omega, fun b h1 h2 => ?_⟩
              have q := HKP.out b h1 h2
              refine ⟨?_, ?_⟩
              · rcases hk3 with e | e
                · rw [e]; exact q.1
                · rw [e]; intro e2; injection e2 with e2; omega
              · rw [hk1 b (by simp; omega) q.1, hab b (by omega), HB6.out.block b (by omega)]; exact q.2
            clear o8 kp8 hk1 hk2 hk3 hab
            go_wp2
            go_roundw
            case rel =>
              refine ⟨j + 1, M ++ [⟨z, r⟩], by omega, by go_num, HFIN.out.1, fun x hx => ?_, ?_, HFIN.out.2.1, HFIN.out.2.2⟩
              · rcases List.mem_append.1 hx with hx | hx
                · exact HBS.out x hx
                · obtain rfl : x = ⟨z, r⟩ := (by simpa using hx)
                  exact ⟨HOLDB.out, hbn⟩
              · rw [List.map_append, HM.out, HSN.out, List.map_append, List.append_assoc]
                show _ ++ (_ ++ [(z, r.l)]) = _
                rw [HRL.out]
                rfl
            case measure => simp [intOf]; omega
        · obtain rfl : j = S.length := by omega
          have HF : Hid (RetK w (seenK H L) (.returned u5) wr) := by
            obtain ⟨A8, c8, rfl, s8⟩ := HOW.out.slice
            refine ⟨A8, M.length, c8, M, rfl, ⟨rfl, s8, fun x hx => ⟨(HBS.out x hx).1.mono hbq, (HBS.out x hx).2⟩⟩, ?_, hbq⟩
            rw [HM.out, List.take_of_length_le (Nat.le_refl _), HSE.out]
          go_wp2
          go_ret
          exact HF.out

set_option maxHeartbeats 1000000 in
theorem trailSeen_walk (A : Option Addr) (n c : Nat) (L : List Wr) (B : Option Addr) (m d : Nat) (H : List Int) (w : World) (h : Wrs w A n c L) (hH : Is w B m d H) :
    Calls Try.prog 5 #[.slice A n c, .slice B m d] w fun e w' => e = .returned (.bool true) ∧ Below w.heap.size w w' := by
  have hmax := h.2.1.max
  have hcap := h.2.1.cap
  have mmax := hH.max
  have mcap := hH.cap
  have HL := Lib.hid h.1
  have HH := Lib.hid h; have HI := Lib.hid hH; clear h hH
  cases hlight : lightL L with
  | false =>
    go_enter Try.func5, Try.ntmps5
    go_wp2_with (first
      | (go_at_call 7; refine (light_any A n c L _ HH.out).mono ?_; rintro e w' ⟨rfl, rfl⟩)
      | (go_at_call 8; refine (alive20_any _).mono ?_; rintro e w' ⟨rfl, hb⟩))
    go_ret
    exact ⟨rfl, hb⟩
  | true =>
    by_cases s1 : 30 < m
    · have t1 : decide (30 < (m : Int)) = true := by simp; omega
      go_enter Try.func5, Try.ntmps5
      go_wp2_with (first
        | (go_at_call 7; refine (light_any A n c L _ HH.out).mono ?_; rintro e w' ⟨rfl, rfl⟩)
        | (go_at_call 8; refine (alive20_any _).mono ?_; rintro e w' ⟨rfl, hb⟩))
      go_ret
      exact ⟨rfl, hb⟩
    have t1 : decide (30 < (m : Int)) = false := by simp; omega
    have HLi := Lib.hid (light_of hlight)
    have hn : n ≤ 60 := by have := HLi.out.1; rw [HL.out] at this; exact this
    have HR : Hid (∀ x ∈ L, x.r.n ≤ 20000) := fun x hx => by have := HLi.out.2 x hx; omega
    go_enter Try.func5, Try.ntmps5
    go_wp2_with (go_at_call 7; refine (light_any A n c L _ HH.out).mono ?_; rintro e w' ⟨rfl, rfl⟩)
    refine (seen_any A n c L B m d H _ HH.out HI.out hn HR.out).mono ?_
    rintro e w1 ⟨A1, n1, c1, M1, rfl, hM1, hk1, b1⟩
    have B1 := Lib.hid b1; clear b1
    go_wp2_with fail
    refine (refSeen_any A n c L B m d H _ (HH.out.mono B1.out) (HI.out.mono B1.out) hn).mono ?_
    rintro e w2 ⟨A2, n2, c2, M2, rfl, hM2, hk2, b2⟩
    have hM1' := hM1.mono b2
    have B2 := Lib.hid (below_both B1.out b2); clear b2 hM1
    have HE : Hid ((M1.map Wr.k == M2.map Wr.k) = true) := by rw [hk1, hk2]; exact beq_iff_eq.2 rfl
    clear hk1 hk2
    go_wp2_with fail
    refine (writes_any A1 A2 n1 n2 c1 c2 M1 M2 _ hM1' hM2).mono ?_
    rintro e w3 ⟨rfl, b3⟩
    rw [HE.out]
    have B3 := Lib.hid (below_both B2.out b3); clear b3 hM1' hM2
    go_wp2_with (go_at_call 8; refine (alive20_any _).mono ?_; rintro e w' ⟨rfl, hb⟩)
    go_ret
    exact ⟨rfl, below_both B3.out hb⟩
end Go.Proofs.Ytbmijjodpdbbmaa
