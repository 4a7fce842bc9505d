/- Own texts, one behind the other. No condition. -/
import Derived.Test.YtdkmlmbehlooiaaGreatDoorObPkBP
set_option linter.unusedVariables false
set_option linter.unusedSimpArgs false
namespace Go.Proofs.YtdkmlmbehlooiaaGreatDoor
section
open Go.RowKit Go.Maps
def Ri : Value → Option (DataW Value × List MemPlace)
 | .int .i64 n => some (.held (.int .i64 n), [])
 | _ => none
theorem Ri_inv {v : Value} {x : DataW Value × List MemPlace} (h : Ri v = some x) : ∃ n, v = .int .i64 n := by
 unfold Ri at h
 split at h
 · exact ⟨_, rfl⟩
 · cases h
theorem Ri_of (n : Int) : Ri (.int .i64 n) = some (.held (.int .i64 n), []) := rfl
def KeysAre (w : World) (P : Program) (b q : Nat) (K : List Int) : Prop := ∃ D : DataW Value, w.ownsMap P 3 Ri b q D ∧ IsMap D ∧ ∀ x, has D (.int .i64 x) = K.contains x
theorem KeysAre.at {w w' : World} {P : Program} {b q : Nat} {K : List Int} (h : KeysAre w P b q K) (e : w'.heap[b]? = w.heap[b]?) : KeysAre w' P b q K := by
 obtain ⟨D, ⟨es, cl, hb, r⟩, h2⟩ := h
 exact ⟨D, ⟨es, cl, e.trans hb, r⟩, h2⟩
theorem keys_put {D : DataW Value} {K : List Int} (hm : IsMap D) (hh : ∀ x, has D (.int .i64 x) = K.contains x) (y : Int) (d : DataW Value) : ∀ x, has (D.put (.int .i64 y) d) (.int .i64 x) = (K ++ [y]).contains x := by
 intro x
 rw [List.contains_append]
 by_cases e : x = y
 · subst e
   rw [has_put_same hm (show WideAt.IsKeyLit (Lit.int .i64 x) from trivial)]
   simp
 · rw [has_put_other (by intro h; injection h with _ h; exact e h), hh]
   have : [y].contains x = false := by simpa using e
   rw [this, Bool.or_false]
theorem upI_len (a d l p : Int) : (upI a d l p).length ≤ 300 := by
 have n1 := nodes_le a d l
 have n2 := leaves_le a d l
 unfold upI
 split
 · rename_i h
   have : 0 ≤ p ∧ p < nodesI a d l + leavesI a d l := by unfold thereB at h; simpa using h
   rw [List.length_map]
   have := upL_le a.toNat p.toNat
   omega
 · simp
theorem upI_fits (a d l p : Int) : ∀ z ∈ upI a d l p, 0 ≤ z ∧ z ≤ 1000 := by
 intro z hz
 have n1 := nodes_le a d l
 have n2 := leaves_le a d l
 unfold upI at hz
 split at hz
 · rename_i h
   have h : 0 ≤ p ∧ p < nodesI a d l + leavesI a d l := by unfold thereB at h; simpa using h
   have := (mem_cast _ z).1 hz
   have := upL_mem_le this.2
   omega
 · cases hz
set_option maxHeartbeats 4000000 in
theorem touched_any (a d l : Int) (B : Option Addr) (m c : Nat) (S : List Int) (w : World) (h : Is w B m c S) (hm : m ≤ 20) :
 Calls Tryz.prog 46 #[.agg #[.int .i64 a, .int .i64 d, .int .i64 l], .slice B m c] w (RetIs w (touR a d l S (pagesI a d l).toNat)) := by
 have hb : Below w.heap.size w (w.alloc (.cells #[.int .i64 a, .int .i64 d, .int .i64 l] 23)) := (Below.refl _ _).alloc (Nat.le_refl _) _
 have hc := (Blk.new w 23 #[.int .i64 a, .int .i64 d, .int .i64 l])
 obtain ⟨wl, hwl⟩ : ∃ wl, wl = w.alloc (.cells #[.int .i64 a, .int .i64 d, .int .i64 l] 23) := ⟨_, rfl⟩
 rw [← hwl] at hb hc
 have HB := Lib.hid hb; have HWL := Lib.hid hwl; clear hb hwl
 have HCELL : Hid (∀ (i : Nat) (v : Value), [Value.int .i64 a, .int .i64 d, .int .i64 l][i]? = some v → ∀ wq, Below wl.heap.size wl wq → wq.cell? ⟨w.heap.size, i, none⟩ = some v) := by
  intro i v hv wq hq
  rw [hq.cell (p := ⟨w.heap.size, i, none⟩) hc.lt, hc.cell]
  exact hv
 clear hc
 have hmm := @run_makeMap Tryz.prog
 have HLN := Lib.hid h.len
 have hmax := h.max
 have hcap := h.cap
 have HI : Hid (Is wl B m c S) := h.mono HB.out
 have HE := Lib.hid (tou_eq (a := a) (d := d) (l := l) S)
 have hsz0 : wl.heap.size ≤ w.heap.size + 1 := by rw [HWL.out]; simp
 have hsz1 : w.heap.size + 1 ≤ wl.heap.size := by rw [HWL.out]; simp
 clear h
 have K0 : Hid (KeysAre (wl.alloc (.map #[] 0)) Tryz.prog (w.heap.size + 1) 0 []) := by
  have e : w.heap.size + 1 = wl.heap.size := by omega
  rw [e]
  exact ⟨.map [], World.ownsMap_made _ _ _ _, isMap_empty, fun x => rfl⟩
 go_enter Tryz.func46, Tryz.ntmps46
 go_wp2_with fail
 rw [← HWL.out]
 go_loopw [13] (fun i wr => ∃ k : Nat, k ≤ m ∧ i = .int .i64 k ∧ KeysAre wr Tryz.prog (w.heap.size + 1) (k * 300) ((S.take k).flatMap fun s => upI a d l (leafI a d l s)) ∧ Below wl.heap.size wl wr ∧ w.heap.size + 1 < wr.heap.size) (fun i _ => m - (intOf i).toNat)
 case atStart => exact ⟨0, Nat.zero_le _, rfl, K0.out, (Below.refl _ _).alloc (Nat.le_refl _) _, by simp; omega⟩
 case round =>
  obtain ⟨k, hk, rfl, hkeys, hbel, hlz⟩ := hrel
  have HKS := Lib.hid hkeys; clear hkeys
  by_cases hlt : k < m
  · obtain ⟨b, o, rfl, hc⟩ := Is.addr (l := S) (HI.out.mono hbel) (by omega)
    have c3 := hc k hlt
    clear hc
    have HT : Hid ((S.take (k + 1)).flatMap (fun s => upI a d l (leafI a d l s)) = (S.take k).flatMap (fun s => upI a d l (leafI a d l s)) ++ upI a d l (leafI a d l (iAt S k))) := by
     have hkl : k < S.length := by rw [HLN.out]; exact hlt
     rw [List.take_succ_eq_append_getElem hkl, List.flatMap_append]
     unfold iAt; rw [List.getD_eq_getElem?_getD, List.getElem?_eq_getElem hkl]
     show _ = _
     simp
    have hU1 := upI_len a d l (leafI a d l (iAt S k))
    have HU2 := Lib.hid (upI_fits a d l (leafI a d l (iAt S k)))
    have c0 := HCELL.out 0 _ rfl wr hbel
    have c1 := HCELL.out 1 _ rfl wr hbel
    have c2 := HCELL.out 2 _ rfl wr hbel
    have i0 : (0 : Int) ≤ (k : Int) := by omega
    generalize iAt S k = s at *
    go_wp2
    go_region_held3 (fun w' => w'.cell? ⟨w.heap.size, 0, none⟩ = some (.int .i64 a) ∧ w'.cell? ⟨w.heap.size, 1, none⟩ = some (.int .i64 d) ∧ w'.cell? ⟨w.heap.size, 2, none⟩ = some (.int .i64 l)) (go_keep)
     (first
      | (go_at_call 37; refine (leaf_any a d l s _).mono ?_; rintro e w2 ⟨rfl, b2⟩; have B2 := Lib.hid (bBo ((Below.refl _ wr).drew) b2); have d0 := HCELL.out 0 _ rfl w2 (bBo hbel B2.out); have d1 := HCELL.out 1 _ rfl w2 (bBo hbel B2.out); have d2 := HCELL.out 2 _ rfl w2 (bBo hbel B2.out); clear b2)
      | (go_at_call 97; refine (up_any a d l _ _).mono ?_; rintro e w3 ⟨v3, rfl, o3⟩; obtain ⟨A3, k3, rfl, s3⟩ := o3.slice; have f0 := HCELL.out 0 _ rfl w3 (bBo hbel (bBo B2.out o3.below)); have f1 := HCELL.out 1 _ rfl w3 (bBo hbel (bBo B2.out o3.below)); have f2 := HCELL.out 2 _ rfl w3 (bBo hbel (bBo B2.out o3.below)); have B3 := Lib.hid (bBo B2.out o3.below); have LT3 := Lib.hid (fun (b : Nat) (e : A3.map Addr.block = some b) => o3.1.lt b (by cases A3 with | none => cases e | some q => simpa [Value.ownBlock] using e)); clear o3))
    have HS3 := Lib.hid (show Is w3 A3 _ k3 (upI a d l (leafI a d l s)) from s3)
    have m3 := Sl.max s3
    have q3 := Sl.cap s3
    have HK3 : Hid (KeysAre w3 Tryz.prog (w.heap.size + 1) (k * 300) ((S.take k).flatMap fun s => upI a d l (leafI a d l s))) := HKS.out.at (B3.out.block _ hlz)
    have hb3 := bBo hbel B3.out
    have hz3 := B3.out.size
    have hz2 := B2.out.size
    have HBL3 := Lib.hid hb3
    clear s3 d0 d1 d2 f0 f1 f2 c0 c1 c2 c3 hb3
    generalize upI a d l (leafI a d l s) = U at *
    generalize ((S.take k).flatMap fun s => upI a d l (leafI a d l s)) = K at *
    obtain ⟨wo, rfl⟩ : ∃ wo : World, wo = wr := ⟨_, rfl⟩
    go_wp2
    go_loopw [23] (fun i wq => ∃ t : Nat, t ≤ U.length ∧ i = .int .i64 t ∧ KeysAre wq Tryz.prog (w.heap.size + 1) (k * 300 + t) (K ++ U.take t) ∧ Below wl.heap.size wl wq ∧ w3.heap.size ≤ wq.heap.size ∧ ∀ b, b < w3.heap.size → b ≠ w.heap.size + 1 → wq.heap[b]? = w3.heap[b]?) (fun i _ => U.length - (intOf i).toNat)
    case atStart => exact ⟨0, Nat.zero_le _, rfl, by simpa using HK3.out, HBL3.out, Nat.le_refl _, fun b _ _ => rfl⟩
    case round =>
     obtain ⟨t, ht, rfl, hkq, hbq, hzq, hsame⟩ := hrel
     have HSM := Lib.hid hsame; clear hsame
     by_cases hlt2 : t < U.length
     · obtain ⟨b3, o3, rfl, hc3⟩ := Is.addr (l := U) HS3.out (by omega)
       have hl3 := LT3.out b3 rfl
       have hd3 : wr.cell? ⟨b3, o3 + t, none⟩ = some (.int .i64 (iAt U t)) := (World.cell?_of_block (HSM.out b3 hl3.2 (by omega))).trans (hc3 t hlt2)
       clear hc3
       have HTU : Hid (U.take (t + 1) = U.take t ++ [iAt U t]) := by
        rw [List.take_succ_eq_append_getElem hlt2]
        unfold iAt; rw [List.getD_eq_getElem?_getD, List.getElem?_eq_getElem hlt2]; exact rfl
       have hfit := HU2.out (iAt U t) (by unfold iAt; rw [List.getD_eq_getElem?_getD, List.getElem?_eq_getElem hlt2]; exact List.getElem_mem hlt2)
       generalize iAt U t = z at *
       have hkey : keyOf Tryz.prog 3 (.int .i64 z) = some (.int .i64 z) := keyOf_int_mk Tryz.underlying3 (wf_i64 (by omega) (by omega))
       obtain ⟨D, hown, hmD, hD⟩ := hkq
       obtain ⟨vv, ps, hlook, hRv⟩ := hown.lookup (t := 147) keyed3 Tryz.underlying147 (z := .int .i64 0) (by kernel_rfl) (zd := .held (.int .i64 0)) (zp := []) rfl hkey
       obtain ⟨n, rfl⟩ := Ri_inv hRv
       have HD := Lib.hid hD; clear hD hRv
       go_wp2_with (at_mapUpdate; refine wpList_mapUpdate_own _ rfl _ _ _ 147 rfl 3 3 keyed3 Tryz.underlying147 Ri (w.heap.size + 1) (k * 300 + t) D rfl hown (by unfold maxLen; omega) _ (.int .i64 _) _ rfl rfl hkey _ _ (Ri_of _) ?_; intro w5 hown5 hgrow5)
       have HF : Hid (KeysAre w5 Tryz.prog (w.heap.size + 1) (k * 300 + (t + 1)) (K ++ U.take (t + 1)) ∧ Below wl.heap.size wl w5 ∧ w3.heap.size ≤ w5.heap.size ∧ ∀ b, b < w3.heap.size → b ≠ w.heap.size + 1 → w5.heap[b]? = w3.heap[b]?) := by
        refine ⟨⟨_, hown5.mono (by omega), hmD.put _ _, ?_⟩, hbq.grown hgrow5 hbq.size (fun j hj => by cases hj; omega), by have := hgrow5.size; omega, fun b h1 h2 => ?_⟩
        · rw [HTU.out, ← List.append_assoc]; exact keys_put hmD HD.out z _
        · rw [hgrow5.block b (by omega) (by intro e; injection e with e; exact h2 e)]; exact HSM.out b h1 h2
       clear hown5 hgrow5 hlook
       go_roundw
       case rel => exact ⟨t + 1, by omega, by go_num, HF.out.1, HF.out.2.1, HF.out.2.2.1, HF.out.2.2.2⟩
       case measure => simp [intOf]; omega
     · obtain rfl : t = U.length := by omega
       have HF : Hid (KeysAre wr Tryz.prog (w.heap.size + 1) ((k + 1) * 300) ((S.take (k + 1)).flatMap fun s => upI a d l (leafI a d l s)) ∧ w.heap.size + 1 < wr.heap.size) := by
        refine ⟨?_, by omega⟩
        rw [HT.out]
        obtain ⟨D, hown, hmD, hD⟩ := hkq
        rw [List.take_of_length_le (Nat.le_refl _)] at hD
        exact ⟨D, hown.mono (by omega), hmD, hD⟩
       clear hkq
       go_wp2
       go_roundw
       case rel => exact ⟨k + 1, by omega, by go_num, HF.out.1, hbq, HF.out.2⟩
       case measure => simp [intOf]; omega
  · obtain rfl : k = m := by omega
    have HTK : Hid (S.take k = S) := List.take_of_length_le (by rw [HLN.out]; omega)
    rw [HTK.out] at HKS
    obtain ⟨D, hown, hmD, hD⟩ := HKS.out
    have hszD : Maps.size D ≤ k * 300 := hown.size_le
    have cK : ∀ mb W, Calls Tryz.prog 113 #[.map mb] W fun e w' => e = .returned (.func (.func 179) #[] #[.pointer (some ⟨W.heap.size, 0, none⟩)]) ∧ w' = W.alloc (.cells #[.map mb] 147) := fun mb W => (callsIn_wide (n := 5)).1 (AnyZI.keys_in Tryz.keysB Fence.wide 5 trivial rfl mb W)
    have hseq : SeqGives Fence.wide 2 Tryz.prog 179 #[.pointer (some ⟨wr.heap.size, 0, none⟩)] encZ (fun ss => ss.Perm (intKeys D)) (Maps.size D) (wr.alloc (.cells #[.map (some (w.heap.size + 1))] 147)) :=
     AnyZI.keys_gives (ρ := Tryz.keysB_ren) { Tryz.keysB with } Fence.wide _ trivial rfl (by omega) wr.heap.size (w.heap.size + 1) (k * 300) D _ (by simp) (by simp) (hown.alloc _)
    have cS := AnyZI.sorted_in Tryz.sortedA Fence.wide 5 trivial trivial trivial trivial rfl (by omega) (sortsA _) (enters_of Tryz.func178 (by kernel_rfl) rfl) 179 #[.pointer (some ⟨wr.heap.size, 0, none⟩)] trivial (enters_of Tryz.func179 (by kernel_rfl) rfl) _ _ (by simp only [maxLen]; omega) (by omega) _ hseq
    change CallsIn _ _ Tryz.prog 112 _ _ _ at cS
    have CS := Lib.hid (callsIn_wide.1 cS)
    have HKD : Hid (∀ ss : List Int, ss.Perm (intKeys D) → ss.mergeSort (fun x y => decide (x ≤ y)) = touR a d l S (pagesI a d l).toNat) := fun ss hS => (keys_sortedG Tryz.underlying3 keyed3 hown hD hS).trans HE.out
    have CK := Lib.hid (cK (some (w.heap.size + 1)) wr)
    clear cS hseq cK hD hmD hown hszD HKS
    go_wp2_with fail
    refine CK.out.mono ?_
    rintro e w6 ⟨rfl, rfl⟩
    go_wp2_with fail
    refine CS.out.mono ?_
    rintro e w' ⟨v, ss, rfl, hS, hrow, hnil, hb⟩
    have hsort := HKD.out ss hS
    have hfin : RetIs w (touR a d l S (pagesI a d l).toNat) (.returned v) w' := by
     refine ⟨v, rfl, ?_, bBo HB.out (bBo hbel (bBo ((Below.refl _ wr).alloc (Nat.le_refl _) _) hb))⟩
     have h2 := ownsRow_base_a hrow (show w.heap.size ≤ _ by simp; omega)
     have hlen : ss.length = (touR a d l S (pagesI a d l).toNat).length := by
      have h1 := congrArg List.length hsort
      rwa [List.length_mergeSort] at h1
     rw [hsort, hlen] at h2
     exact h2
    have HF := Lib.hid hfin; clear hfin hS hrow hnil hb hsort
    go_wp2
    go_ret
    exact HF.out
end
section
open Go.RowKit
structure TrP (w0 : World) (L : Pl) (m : Mc) (n : Nat) (x : Spr) (vl : Value) (next : Nat) (due : Bool) (vk : Value) (pt ps b c : Nat) (R : List BRow) (w : World) : Prop where
 ms : MSt w0 L m w
 ok : m.Ok n
 n9 : n ≤ 900
 ft : Blk w pt 65 (treeC L 2 1 3 (.pointer (some ⟨ps, 0, none⟩)) vk false)
 fx : Blk w ps 111 (storeC L 2 1 3 x vl next (.slice (some ⟨b, 0, none⟩) 3 c) due false)
 fp : Pgo w0 L.kb w b c 3 R
 c1 : 3 ≤ c
 c2 : c ≤ 9223372036854775807
 sm : ∀ r ∈ R, r.n ≤ 473
section
variable {w0 w w' : World} {L : Pl} {m : Mc} {n : Nat} {x : Spr} {vl vk : Value} {next : Nat} {due : Bool} {pt ps b c : Nat} {R : List BRow}
theorem TrP.gr (h : TrP w0 L m n x vl next due vk pt ps b c R w) (g : Gr w w') : TrP w0 L m n x vl next due vk pt ps b c R w' := ⟨h.ms.mono g, h.ok, h.n9, g.blk h.ft, g.blk h.fx, h.fp.mono g, h.c1, h.c2, h.sm⟩
theorem TrP.page (h : TrP w0 L m n x vl next due vk pt ps b c R w) (k : Nat) (r : BRow) (hr : R[k]? = some r) : Calls Tryz.prog 39 #[.pointer (some ⟨ps, 0, none⟩), .int .i64 (k : Int)] w (RetBs w r.l) :=
 storePage_any h.fx L.kb R h.fp k r hr (Nat.le_trans (h.sm r (List.mem_of_getElem? hr)) (by decide)) h.c2 h.c1
theorem TrP.cells (h : TrP w0 L m n x vl next due vk pt ps b c R w) : w.cell? ⟨pt, 1, none⟩ = some (.pointer (some ⟨L.p, 0, none⟩)) ∧ w.cell? ⟨pt, 2, none⟩ = some (.int .i64 2) ∧ w.cell? ⟨pt, 3, none⟩ = some (.int .i64 1) ∧ w.cell? ⟨pt, 4, none⟩ = some (.int .i64 3) ∧ w.cell? ⟨pt, 5, none⟩ = some (.pointer (some ⟨ps, 0, none⟩)) ∧ w.cell? ⟨pt, 6, none⟩ = some vk := ⟨h.ft.cell 1, h.ft.cell 2, h.ft.cell 3, h.ft.cell 4, h.ft.cell 5, h.ft.cell 6⟩
theorem geo213 : Geo 2 1 3 := ⟨by decide⟩
set_option maxRecDepth 100000 in
set_option maxHeartbeats 2000000 in
theorem soundLeaf0_any (h : TrP w0 L m n x vl next due vk pt ps b c R w) (r : BRow) (hr : R[1]? = some r) (hl : r.l = []) (A : Option Addr) (cc : Nat) (hb : Bs w A 0 cc []) :
 Calls Tryz.prog 70 #[.pointer (some ⟨pt, 0, none⟩), .int .i64 1, .slice A 0 cc] w fun e w' => e = .returned (.bool true) ∧ Gr w w' := by
 have HPG := Lib.hid (h.page 1 r hr)
 rw [hl] at HPG
 have HH := Lib.hid h
 have HSL := Lib.hid (fun wr => slot_any 2 1 3 1 wr)
 rw [show slotI 2 1 3 1 = 0 by decide] at HSL
 obtain ⟨s1, s2, s3, s4, s5, s6⟩ := h.cells
 have HB := Lib.hid hb
 clear h hr hl hb
 go_enter Tryz.func70, Tryz.ntmps70
 go_wp2_with fail
 refine HPG.out.mono ?_
 rintro e w1 ⟨v1, rfl, o1⟩
 obtain ⟨A1, c1, rfl, _⟩ := o1.slice
 have G1 := Lib.hid (show Gr w w1 from o1.below)
 clear s1 s2 s3 s4 s5 s6 o1
 obtain ⟨s1, s2, s3, s4, s5, s6⟩ := (HH.out.gr G1.out).cells
 go_wp2_with fail
 refine (HSL.out w1).mono ?_
 rintro e w2 ⟨rfl, g2⟩
 have G2 := Lib.hid (G1.out.trans (show Gr w1 w2 from g2))
 have HDL := Lib.hid (nodeDecodeLeaf0_any A1 c1 w2)
 clear s1 s2 s3 s4 s5 s6 g2
 go_wp2_with fail
 refine HDL.out.mono ?_
 rintro e wd ⟨rfl, hwd⟩
 subst hwd
 have H2 := HH.out.gr G2.out
 have HOP := Lib.hid (H2.ms.openS H2.ok H2.n9 A none 0 cc 0 0 [] [] (HB.out.mono G2.out) (Sl.nil _ _) (by decide))
 obtain ⟨s1, s2, s3, s4, s5, s6⟩ := H2.cells
 have he : (⟨#[]⟩ : ByteArray).toList.isEmpty = true := by rw [ByteArray.toList_eq]; rfl
 clear H2
 go_wp2_with fail
 refine HOP.out.mono ?_
 rintro e w3 ⟨A3, n3, c3, rfl, _, g3⟩
 have G3 := Lib.hid (G2.out.trans g3)
 clear s1 s2 s3 s4 s5 s6 g3 HOP
 generalize (openT m.T [] []).isSome = q at *
 cases q
 · go_wp2_with fail
   go_ret
   exact ⟨rfl, G3.out⟩
 · go_wp2_with fail
   go_ret
   exact ⟨rfl, G3.out⟩
set_option maxRecDepth 100000 in
set_option maxHeartbeats 2000000 in
theorem soundLeaf_any (h : TrP w0 L m n x vl next due vk pt ps b c R w) (r : BRow) (hr : R[2]? = some r) (head z key v : List UInt8) (hl : r.l = fieldL head ++ fieldL z) (h0 : 0 < head.length) (hl2 : head.length ≤ 1000) (hrr : rightL head = true) (h1 : 48 ≤ z.length) (h2 : z.length ≤ 398) (hT : U8 w) (hop : openT m.T key z = some v) (A : Option Addr) (cc : Nat) (hb : Bs w A 32 cc key) :
 Calls Tryz.prog 70 #[.pointer (some ⟨pt, 0, none⟩), .int .i64 2, .slice A 32 cc] w fun e w' => e = .returned (.bool true) ∧ Gr w w' := by
 have HPG := Lib.hid (h.page 2 r hr)
 rw [hl] at HPG
 have HH := Lib.hid h
 have HSL := Lib.hid (fun wr => slot_any 2 1 3 2 wr)
 rw [show slotI 2 1 3 2 = 1 by decide] at HSL
 have hne := head_ne h0
 have HDL := Lib.hid (fun wr (g : Gr w wr) A n c (hb : Bs wr A n c (fieldL head ++ fieldL z)) => nodeDecodeLeaf_any head z A n c hb h0 hl2 hrr h1 h2 (hT.mono g))
 obtain ⟨s, hs⟩ : ∃ s : ByteArray, s = ⟨head.toArray⟩ := ⟨_, rfl⟩
 rw [← hs] at hne HDL
 obtain ⟨s1, s2, s3, s4, s5, s6⟩ := h.cells
 have HB := Lib.hid hb; have HOPN := Lib.hid hop
 obtain ⟨N, hN⟩ : ∃ N, N = (fieldL head ++ fieldL z).length := ⟨_, rfl⟩
 unfold RetBs at HPG
 rw [← hN] at HPG
 clear h hr hl hb hT hrr hop hs hN
 go_enter Tryz.func70, Tryz.ntmps70
 go_wp2_with fail
 refine HPG.out.mono ?_
 rintro e w1 ⟨v1, rfl, o1⟩
 obtain ⟨A1, c1, rfl, b1⟩ := o1.slice
 have G1 := Lib.hid (show Gr w w1 from o1.below)
 have B1 := Lib.hid (show Bs w1 A1 N c1 (fieldL head ++ fieldL z) from b1)
 clear s1 s2 s3 s4 s5 s6 o1 b1
 obtain ⟨s1, s2, s3, s4, s5, s6⟩ := (HH.out.gr G1.out).cells
 go_wp2_with fail
 refine (HSL.out w1).mono ?_
 rintro e w2 ⟨rfl, g2⟩
 have G2 := Lib.hid (G1.out.trans (show Gr w1 w2 from g2))
 have HDL2 := Lib.hid (HDL.out w2 G2.out A1 N c1 (B1.out.mono g2))
 clear s1 s2 s3 s4 s5 s6 g2
 go_wp2_with fail
 refine HDL2.out.mono ?_
 rintro e w3 ⟨A3, c3, rfl, o3⟩
 have G3 := Lib.hid (G2.out.trans (show Gr w2 w3 from o3.below))
 have H3 := HH.out.gr G3.out
 have HOP := Lib.hid (H3.ms.openS H3.ok H3.n9 A A3 32 cc z.length c3 key z (HB.out.mono G3.out) (QB.own (kb := 0) o3).b (by omega))
 rw [HOPN.out] at HOP
 obtain ⟨s1, s2, s3, s4, s5, s6⟩ := H3.cells
 clear H3 o3
 go_wp2_with fail
 refine HOP.out.mono ?_
 rintro e w4 ⟨A4, n4, c4, rfl, _, g4⟩
 have G4 := Lib.hid (G3.out.trans g4)
 clear s1 s2 s3 s4 s5 s6 g4 HOP
 go_wp2_with fail
 go_ret
 exact ⟨rfl, G4.out⟩
structure TrE (m : Mc) (R : List BRow) (head z1 z2 key key2 v : List UInt8) : Prop where
 r : ∃ r0 r1 r2, R = [r0, r1, r2] ∧ r0.l = rowsE [[], z1] ∧ r1.l = [] ∧ r2.l = fieldL head ++ fieldL z2
 h0 : 0 < head.length
 hl : head.length ≤ 1000
 hr : rightL head = true
 l1 : z1.length = 80
 l2 : 48 ≤ z2.length
 l3 : z2.length ≤ 398
 k2 : key2.length = 32
 o1 : openT m.T key z1 = some key2
 o2 : openT m.T key2 z2 = some v
set_option maxRecDepth 100000 in
set_option maxHeartbeats 4000000 in
theorem soundNode_any (h : TrP w0 L m n x vl next due vk pt ps b c R w) (head z1 z2 key key2 v : List UInt8) (e : TrE m R head z1 z2 key key2 v) (hT : U8 w) (A : Option Addr) (cc : Nat) (hb : Bs w A 32 cc key) :
 Calls Tryz.prog 70 #[.pointer (some ⟨pt, 0, none⟩), .int .i64 0, .slice A 32 cc] w fun e w' => e = .returned (.bool true) ∧ Gr w w' := by
 obtain ⟨⟨r0, r1, r2, rfl, l0, l1, l2⟩, h0, hl, hr, q1, q2, q3, q4, o1, o2⟩ := e
 have HPG := Lib.hid (h.page 0 r0 rfl)
 rw [l0] at HPG
 have HSL := Lib.hid (fun wr => slot_any 2 1 3 0 wr)
 rw [show slotI 2 1 3 0 = -1 by decide] at HSL
 have HDC := Lib.hid (fun wr A m c (hb : Bs wr A m c (rowsE [[], z1])) => nodeDecode_any (kb := L.kb) geo213 2 rfl A m c [[], z1] rfl (fun x hx => by
  rcases List.mem_cons.1 hx with e | hx
  · rw [e]; rfl
  · rw [List.mem_singleton.1 hx]; unfold rowOk; rw [q1]; rfl) (by simp [q1]) hb)
 have HC1 := Lib.hid (fun wr => child_any 2 1 3 0 0 wr)
 rw [show childI 2 1 3 0 0 = 1 by decide] at HC1
 have HC2 := Lib.hid (fun wr => child_any 2 1 3 0 1 wr)
 rw [show childI 2 1 3 0 1 = 2 by decide] at HC2
 have HS1 := Lib.hid (fun wr (g : Gr w wr) A cc (hb : Bs wr A 0 cc []) => soundLeaf0_any (h.gr g) r1 rfl l1 A cc hb)
 have HS2 := Lib.hid (fun wr (g : Gr w wr) A cc (hb : Bs wr A 32 cc key2) => soundLeaf_any (h.gr g) r2 rfl head z2 key2 v l2 h0 hl hr q2 q3 (hT.mono g) o2 A cc hb)
 have HOP := Lib.hid (fun wr (g : Gr w wr) B c (hz : Bs wr B 80 c z1) => (h.gr g).ms.openS h.ok h.n9 A B 32 cc 80 c key z1 (hb.mono g) hz (by decide))
 rw [o1] at HOP
 have HH := Lib.hid h
 have HK2 := Lib.hid q4
 have HEM := Lib.hid (fun wr A n c => nodeEmpty_any A n c wr)
 obtain ⟨s1, s2, s3, s4, s5, s6⟩ := h.cells
 obtain ⟨N, hN⟩ : ∃ N, N = (rowsE [[], z1]).length := ⟨_, rfl⟩
 unfold RetBs at HPG
 rw [← hN] at HPG
 have HL1 := Lib.hid q1
 clear h l0 l1 l2 h0 hl hr q1 q2 q3 q4 o1 o2 hT hb hN
 go_enter Tryz.func70, Tryz.ntmps70
 go_wp2_with fail
 refine HPG.out.mono ?_
 rintro e w1 ⟨v1, rfl, o1⟩
 obtain ⟨A1, c1, rfl, b1⟩ := o1.slice
 have G1 := Lib.hid (show Gr w w1 from o1.below)
 have B1 := Lib.hid (show Bs w1 A1 N c1 (rowsE [[], z1]) from b1)
 clear s1 s2 s3 s4 s5 s6 o1 b1
 obtain ⟨s1, s2, s3, s4, s5, s6⟩ := (HH.out.gr G1.out).cells
 go_wp2_with fail
 refine (HSL.out w1).mono ?_
 rintro e w2 ⟨rfl, g2⟩
 have G2 := Lib.hid (G1.out.trans (show Gr w1 w2 from g2))
 have HD2 := Lib.hid (HDC.out w2 A1 N c1 (B1.out.mono g2))
 clear s1 s2 s3 s4 s5 s6 g2
 obtain ⟨s1, s2, s3, s4, s5, s6⟩ := (HH.out.gr G2.out).cells
 go_wp2_with fail
 refine HD2.out.mono ?_
 rintro e w3 ⟨bo, RR, rfl, g3, _, p3, m3⟩
 have G3 := Lib.hid (G2.out.trans g3)
 have hRR : ∃ y0 y1, RR = [y0, y1] ∧ y0.l = [] ∧ y1.l = z1 := by
  match RR, m3 with
  | [y0, y1], hh =>
   injection hh with e1 hh
   injection hh with e2 _
   exact ⟨y0, y1, rfl, e1, e2⟩
 obtain ⟨y0, y1, rfl, e0, e1⟩ := hRR
 have c0 := p3.cell (k := 0) (r := y0) rfl
 have c1' := p3.cell (k := 1) (r := y1) rfl
 have Y0 := Lib.hid (p3.q y0 List.mem_cons_self)
 have Y1 := Lib.hid (p3.q y1 (List.mem_cons_of_mem _ List.mem_cons_self))
 have hn0 : y0.n = 0 := by have := Y0.out.b.len; rw [e0] at this; simpa using this.symm
 have hn1 : y1.n = 80 := by have := Y1.out.b.len; rw [e1] at this; have h2 := HL1.out; omega
 have P3 := Lib.hid p3
 obtain ⟨ya0, yn0, yc0, yl0⟩ := y0
 obtain ⟨ya1, yn1, yc1, yl1⟩ := y1
 clear c0 c1'
 simp only at hn0 hn1 e0 e1
 subst hn0 hn1 e0 e1
 have c0 : w3.cell? ⟨bo, 0, none⟩ = some (.slice ya0 0 yc0) := P3.out.cell (k := 0) rfl
 clear s1 s2 s3 s4 s5 s6 g3 m3 p3
 obtain ⟨s1, s2, s3, s4, s5, s6⟩ := (HH.out.gr G3.out).cells
 go_wp2_with fail
 refine wp_loop_rounds 3 ?_
 rw [rounds_succ]
 go_wp2_with fail
 refine (HC1.out w3).mono ?_
 rintro e w4 ⟨rfl, g4⟩
 have G34 := Lib.hid (show Gr w3 w4 from g4)
 have HS4 := Lib.hid (HS1.out w4 (G3.out.trans G34.out) none 0 (Sl.nil _ _))
 clear s1 s2 s3 s4 s5 s6 g4 c0
 go_wp2_with fail
 refine HS4.out.mono ?_
 rintro e w5 ⟨rfl, g5⟩
 have G35 := Lib.hid (G34.out.trans g5)
 have c1 : w5.cell? ⟨bo, 1, none⟩ = some (.slice ya1 80 yc1) := (P3.out.mono G35.out).cell (k := 1) rfl
 have HO5 := Lib.hid (HOP.out w5 (G3.out.trans G35.out) ya1 yc1 ((Y1.out.mono G35.out).b))
 obtain ⟨s1, s2, s3, s4, s5, s6⟩ := (HH.out.gr (G3.out.trans G35.out)).cells
 clear g5
 go_wp2_with fail
 rw [rounds_succ]
 go_wp2_with fail
 refine HO5.out.mono ?_
 rintro e w6 ⟨A6, n6, c6, rfl, b6, g6⟩
 have hn6 : n6 = 32 := by have := b6.len; have h2 := HK2.out; simp only [List.length_map, Option.getD_some] at this; omega
 subst hn6
 have B6 := Lib.hid b6
 have G36 := Lib.hid (G35.out.trans g6)
 clear s1 s2 s3 s4 s5 s6 g6 c1 b6
 obtain ⟨s1, s2, s3, s4, s5, s6⟩ := (HH.out.gr (G3.out.trans G36.out)).cells
 go_wp2_with fail
 refine (HC2.out w6).mono ?_
 rintro e w7 ⟨rfl, g7⟩
 have HS7 := Lib.hid (HS2.out w7 (G3.out.trans (G36.out.trans (show Gr w6 w7 from g7))) A6 c6 (B6.out.mono g7))
 have G37 := Lib.hid (G36.out.trans (show Gr w6 w7 from g7))
 clear s1 s2 s3 s4 s5 s6 g7
 go_wp2_with fail
 refine HS7.out.mono ?_
 rintro e w8 ⟨rfl, g8⟩
 have G38 := Lib.hid (G3.out.trans (G37.out.trans g8))
 clear g8
 go_wp2_with fail
 rw [rounds_succ]
 go_wp2_with fail
 go_ret
 exact ⟨rfl, G38.out⟩
theorem whole_any {A : Option Addr} {cc : Nat} (h : TrP w0 L m n x vl next due (.slice A 32 cc) pt ps b c R w) (head z1 z2 key key2 v : List UInt8) (e : TrE m R head z1 z2 key key2 v) (hT : U8 w) (hb : Bs w A 32 cc key) :
 Calls Tryz.prog 27 #[.pointer (some ⟨pt, 0, none⟩)] w fun e w' => e = .returned (.int .i64 0) ∧ Gr w w' := by
 have HS := Lib.hid (soundNode_any h head z1 z2 key key2 v e hT A cc hb)
 obtain ⟨s1, s2, s3, s4, s5, s6⟩ := h.cells
 clear h e hT hb
 go_enter Tryz.func27, Tryz.ntmps27
 go_wp2_with fail
 refine HS.out.mono ?_
 rintro e w1 ⟨rfl, g1⟩
 have G1 := Lib.hid g1
 clear g1
 go_wp2_with fail
 go_ret
 exact ⟨rfl, G1.out⟩
end
end
end Go.Proofs.YtdkmlmbehlooiaaGreatDoor
