/- Own texts of this claim, one behind the other. No condition. -/
import Derived.Test.YtplddbaggbdbiaaDoorObPkAF
import Derived.Test.YtplddbaggbdbiaaDoorObPkAT

namespace Go.Proofs.YtplddbaggbdbiaaDoor
open Go.RowKit
set_option linter.unusedVariables false

/-! ### chains: what was skipped, copied; where a gen is -/
def Wr.kk (x : Wr) : Int × List UInt8 := (x.p, x.r.l)
theorem Wr.ones (x : Wr) : ∀ u ∈ x.cells, u.oneCell' = true := by intro u hu; simp [Wr.cells, BRow.v] at hu; rcases hu with rfl | rfl <;> rfl
theorem tSk : ElemT Tryd.prog 39 54 (.agg #[.int .i64 0, .slice none 0 0]) 2 32 := ⟨Tryd.underlying39, by kernel_rfl, rfl, by decide, by decide⟩
/-- Skipped keys in a row of the call's own, each one's bytes elsewhere. -/
def OwnK (t : TypeId) (w0 w : World) (v : Value) (M : List Wr) : Prop := Own w0 w t 2 v M.length (M.flatMap Wr.cells) ∧ ∀ x ∈ M, (Bs w x.r.a x.r.n x.r.c x.r.l ∧ Apart v x.r) ∧ -9223372036854775808 ≤ x.p ∧ x.p ≤ 9223372036854775807
def FreshK (w0 : World) (r : BRow) : Prop := ∀ b o, 0 < r.n → r.a = some ⟨b, o, none⟩ → w0.heap.size ≤ b
def RetOwnK (w : World) (L : List Wr) (e : Ending) (w' : World) : Prop := ∃ v M, e = .returned v ∧ OwnK 54 w w' v M ∧ (∀ x ∈ M, FreshK w x.r) ∧ M.map Wr.kk = L.map Wr.kk
theorem OwnK.wrs {t : TypeId} {w0 w : World} {v : Value} {M : List Wr} (h : OwnK t w0 w v M) : ∃ A c, v = .slice A M.length c ∧ Wrs w A M.length c M := by
  obtain ⟨A', c', rfl, hs⟩ := h.1.slice
  exact ⟨A', c', rfl, rfl, hs, fun x hx => ⟨(h.2 x hx).1.1, (h.2 x hx).2⟩⟩
theorem OwnK.mono {t : TypeId} {w0 w w' : World} {v : Value} {M : List Wr} (h : OwnK t w0 w v M) (hb : Below w.heap.size w w') : OwnK t w0 w' v M := ⟨h.1.mono hb, fun x hx => ⟨⟨(h.2 x hx).1.1.mono hb, (h.2 x hx).1.2⟩, (h.2 x hx).2⟩⟩
theorem OwnK.base {t : TypeId} {w0 w1 w : World} {v : Value} {M : List Wr} (h : OwnK t w1 w v M) (hb : Below w0.heap.size w0 w1) : OwnK t w0 w v M := ⟨h.1.base hb, h.2⟩
set_option maxRecDepth 100000 in
set_option maxHeartbeats 1000000 in
theorem copiedK_any (A : Option Addr) (n c : Nat) (L : List Wr) (w : World) (h : Wrs w A n c L) (hn : n ≤ 1048576) (hrow : ∀ x ∈ L, x.r.n ≤ 20000) :
    Calls Tryd.prog 69 #[.slice A n c] w (RetOwnK w L) := by
  have hmax := h.2.1.max
  have hcap := h.2.1.cap
  have HL := Lib.hid h.1
  have HH := Lib.hid h; clear h
  have HW := Lib.hid hrow; clear hrow
  go_enter Tryd.func69, Tryd.ntmps69
  go_wp2
  go_loopw [2, 7] (fun v i wr => ∃ (k : Nat) (M : List Wr), k ≤ n ∧ i = .int .i64 k ∧ Own w wr 54 2 v k (M.flatMap Wr.cells) ∧ M.map Wr.kk = (L.take k).map Wr.kk ∧ ∀ x ∈ M, ((Bs wr x.r.a x.r.n x.r.c x.r.l ∧ Apart v x.r) ∧ -9223372036854775808 ≤ x.p ∧ x.p ≤ 9223372036854775807) ∧ FreshK w x.r) (fun _ i _ => n - (intOf i).toNat)
  case atStart => exact ⟨0, [], Nat.zero_le _, rfl, Own.nil _ _ _, rfl, fun x hx => by cases hx⟩
  case round =>
    obtain ⟨k, M, hk, rfl, hown, hM, hbs⟩ := hrel
    have HM := Lib.hid hM; clear hM
    have HBS := Lib.hid hbs; clear hbs
    by_cases hlt : k < n
    · have hbel := hown.below
      obtain ⟨b, o, ⟨xp, xr⟩, rfl, hx, c1, c2, hrow, hp1, hp2⟩ := (HH.out.mono hbel).row hlt
      simp only at c1 c2 hrow hp1 hp2
      have HX := Lib.hid hx; clear hx
      obtain ⟨wl, hwl⟩ : ∃ wl, wl = wr.alloc (.cells #[.int .i64 xp, .slice xr.a xr.n xr.c] 54) := ⟨_, rfl⟩
      have hbl : Below wr.heap.size wr wl := by rw [hwl]; exact (Below.refl _ _).alloc (Nat.le_refl _) _
      have d0 : wl.cell? ⟨wr.heap.size, 0, none⟩ = some (.int .i64 xp) := by rw [hwl, (Blk.new wr _ _).cell]; rfl
      have d1 : wl.cell? ⟨wr.heap.size, 1, none⟩ = some (.slice xr.a xr.n xr.c) := by rw [hwl, (Blk.new wr _ _).cell]; rfl
      have hzl : wr.heap.size < wl.heap.size := by rw [hwl]; simp
      have HCL := Lib.hid (clone_any xr.a xr.n xr.c xr.l wl.drew ((hrow.mono hbl).mono (Below.refl _ _).drew) (by have := HW.out ⟨xp, xr⟩ (List.mem_of_getElem? HX.out); simp only at this; omega))
      have HOL := Lib.hid (hown.mono hbl).drew
      have HWL := Lib.hid hwl; clear hwl
      have HBL := Lib.hid hbl; clear hbl
      clear hown hrow
      have HT : Hid ((M ++ [(⟨xp, ⟨none, 0, 0, xr.l⟩⟩ : Wr)]).map Wr.kk = (L.take (k + 1)).map Wr.kk) := by
        have hk : k < L.length := (List.getElem?_eq_some_iff.1 HX.out).1
        have := HX.out
        rw [List.getElem?_eq_getElem hk] at this
        injection this with this
        rw [List.take_succ_eq_append_getElem hk, List.map_append, List.map_append, HM.out, this]
        exact rfl
      go_wp2_with fail
      rw [← HWL.out]
      go_region_law (first
        | (refine step_pushG rfl (.tmp 11) (.tmp 18) 39 rfl tSk rfl (by exact (((HOL.out.mono OWN1.out.below)).alloc _)) _ _ (Wr.cells ⟨xp, ⟨A1, xr.l.length, k1, xr.l⟩⟩) rfl rfl (Wr.ones _) (by exact cells_new _ 0 #[.int .i64 xp, .slice A1 xr.l.length k1] _) (by omega) ?_; intro v2 w2 own2 kept2)
        | (go_simp; go_at_call 32; refine HCL.out.mono ?_; rintro e w1 ⟨v1, rfl, own1⟩; obtain ⟨A1, k1, rfl, sl1⟩ := own1.slice; have e0 : w1.cell? ⟨wr.heap.size, 0, none⟩ = some (.int .i64 xp) := (own1.below.cell (by exact hzl)).trans d0; have OWN1 := Lib.hid own1; clear own1; have SL1 := Lib.hid sl1; clear sl1))
      all_goals
        have hm1 : Below wr.heap.size wr w1 := (HBL.out.drew).trans (OWN1.out.below.mono HBL.out.size)
        have ha1 := (Below.refl w1.heap.size w1).alloc (Nat.le_refl _) (.cells #[.int .i64 xp, .slice A1 xr.l.length k1] 54)
        have HR2 : Hid (∀ x ∈ M ++ [(⟨xp, ⟨A1, xr.l.length, k1, xr.l⟩⟩ : Wr)], ((Bs w2 x.r.a x.r.n x.r.c x.r.l ∧ Apart v2 x.r) ∧ -9223372036854775808 ≤ x.p ∧ x.p ≤ 9223372036854775807) ∧ FreshK w x.r) := by
          intro x hx
          rcases List.mem_append.1 hx with hx | hx
          · obtain ⟨⟨⟨hb, hap⟩, hr⟩, hfr⟩ := HBS.out x hx
            exact ⟨⟨Bs.kept (r := x.r) ((hb.mono hm1).mono ha1) kept2 hap, hr⟩, hfr⟩
          · obtain rfl : x = ⟨xp, ⟨A1, xr.l.length, k1, xr.l⟩⟩ := by simpa using hx
            refine ⟨⟨Bs.kept (r := ⟨A1, xr.l.length, k1, xr.l⟩) (SL1.out.mono ha1) kept2 (Apart.new HOL.out OWN1.out), hp1, hp2⟩, fun b' o' hn' e' => ?_⟩
            have e' : A1 = some ⟨b', o', none⟩ := e'
            have h1 := (OWN1.out.1.lt b' (by rw [e']; rfl)).1
            have h2 := HBL.out.size
            have h3 := hbel.size
            have h4 : wl.drew.heap.size = wl.heap.size := rfl
            omega
        have HO2 := Lib.hid own2; clear own2 kept2 hm1 ha1
        go_wp2
        go_roundw
        case rel =>
          refine ⟨k + 1, M ++ [⟨xp, ⟨A1, xr.l.length, k1, xr.l⟩⟩], by omega, by go_num, ?_, ?_, HR2.out⟩
          · rw [List.flatMap_append]; simpa using HO2.out
          · rw [← HT.out]; simp [Wr.kk]
        case measure => simp [intOf]; omega
    · obtain rfl : n = k := by omega
      have HF : Hid (RetOwnK w L (.returned u2) wr) := by
        have hl : M.length = n := by
          have := congrArg List.length HM.out
          rw [List.length_map, List.length_map, List.length_take, HL.out] at this
          omega
        refine ⟨u2, M, rfl, ⟨by rw [hl]; exact hown, fun x hx => (HBS.out x hx).1⟩, fun x hx => (HBS.out x hx).2, ?_⟩
        rw [HM.out, List.take_of_length_le (by rw [HL.out]; omega)]
      go_wp2
      go_ret
      exact HF.out

def firstK (g : Int) (L : List Wr) (r : Int) : Prop := (r = -1 ∧ L.all (fun x => !(x.p == g)) = true) ∨ ∃ k : Nat, r = k ∧ k < L.length ∧ (L.take k).all (fun x => !(x.p == g)) = true ∧ ∃ x, L[k]? = some x ∧ (x.p == g) = true
theorem placef_any (p : Nat) (xp : Int) (xr : BRow) (g : Int) (w : World) (hp : w.cell? ⟨p, 0, none⟩ = some (.int .i64 g)) :
    Calls Tryd.prog 68 #[.agg #[.int .i64 xp, .slice xr.a xr.n xr.c], .pointer (some ⟨p, 0, none⟩)] w fun e w' => e = .returned (.bool (xp == g)) ∧ Below w.heap.size w w' := by
  have hlt := World.block_lt_of_cell? w _ hp
  have hne : w.heap.size ≠ p := by have : p < w.heap.size := hlt; omega
  have hc : (w.alloc (.cells #[.int .i64 xp, .slice xr.a xr.n xr.c] 54)).cell? ⟨p, 0, none⟩ = some (.int .i64 g) := (((Below.refl w.heap.size w).alloc (Nat.le_refl _) _).cell (p := ⟨p, 0, none⟩) hlt).trans hp
  go_enter Tryd.func68, Tryd.ntmps68
  go_wp2_with fail
  go_ret
  exact ⟨rfl, (Below.refl _ _).alloc (Nat.le_refl _) _⟩
set_option maxHeartbeats 400000 in
theorem indexK_any (A : Option Addr) (n c : Nat) (L : List Wr) (p : Nat) (g : Int) (w : World) (h : Wrs w A n c L) (hp : w.cell? ⟨p, 0, none⟩ = some (.int .i64 g)) :
    Calls Tryd.prog 67 #[.slice A n c, .func (.func 68) #[] #[.pointer (some ⟨p, 0, none⟩)]] w fun e w' => ∃ r, e = .returned (.int .i64 r) ∧ firstK g L r ∧ Below w.heap.size w w' := by
  have hmax := h.2.1.max
  have hcap := h.2.1.cap
  have hplt : p < w.heap.size := World.block_lt_of_cell? w _ hp
  have HL := Lib.hid h.1
  have HH := Lib.hid h; have HP := Lib.hid hp; clear h hp
  go_enter Tryd.func67, Tryd.ntmps67
  go_wp2
  go_loopw [8] (fun i wr => ∃ k : Nat, k ≤ n ∧ i = .int .i64 k ∧ Below w.heap.size w wr ∧ (L.take k).all (fun x => !(x.p == g)) = true) (fun i _ => n - (intOf i).toNat)
  case atStart => exact ⟨0, Nat.zero_le _, rfl, Below.refl _ _, rfl⟩
  case round =>
    obtain ⟨k, hk, rfl, hbel, hall⟩ := hrel
    have HA := Lib.hid hall; clear hall
    by_cases hlt : k < n
    · obtain ⟨b, o, ⟨xp, xr⟩, rfl, hx, c1, c2, hrow, hp1, hp2⟩ := (HH.out.mono hbel).row hlt
      simp only at c1 c2 hrow hp1 hp2
      have HX := Lib.hid hx; clear hx hrow
      have hcp : wr.cell? ⟨p, 0, none⟩ = some (.int .i64 g) := (hbel.cell (p := ⟨p, 0, none⟩) hplt).trans HP.out
      have HC := Lib.hid (placef_any p xp xr g wr hcp); clear hcp
      cases he : (xp == g)
      · have HT : Hid ((L.take (k + 1)).all (fun x => !(x.p == g)) = true) := by
          have hk : k < L.length := (List.getElem?_eq_some_iff.1 HX.out).1
          have e1 := HX.out
          rw [List.getElem?_eq_getElem hk] at e1
          injection e1 with e1
          rw [List.take_succ_eq_append_getElem hk, List.all_append, HA.out, e1, List.all_cons, List.all_nil, Bool.and_true, Bool.true_and]
          show (!(xp == g)) = true
          rw [he]
          rfl
        rw [he] at HC
        clear he
        go_wp2_with (go_at_call 68; refine HC.out.mono ?_; rintro e w1 ⟨rfl, b1⟩)
        go_roundw
        case rel => exact ⟨k + 1, by omega, by go_num, hbel.trans (b1.mono hbel.size), HT.out⟩
        case measure => simp [intOf]; omega
      · have HF : Hid (firstK g L k) := .inr ⟨k, rfl, (List.getElem?_eq_some_iff.1 HX.out).1, HA.out, _, HX.out, he⟩
        rw [he] at HC
        clear he
        go_wp2_with (go_at_call 68; refine HC.out.mono ?_; rintro e w1 ⟨rfl, b1⟩)
        go_ret
        exact ⟨k, rfl, HF.out, hbel.trans (b1.mono hbel.size)⟩
    · obtain rfl : n = k := by omega
      have HF : Hid (firstK g L (-1)) := .inl ⟨rfl, by have := HA.out; rwa [List.take_of_length_le (by rw [HL.out]; omega)] at this⟩
      go_wp2
      go_ret
      exact ⟨-1, rfl, HF.out, hbel⟩

/-- The place of a gen; -1: none. -/
def idxK (g : Int) (L : List Wr) : Int := match L.findIdx? (fun x => x.p == g) with
  | some k => k
  | none => -1
theorem firstK_eq {g : Int} {L : List Wr} {r : Int} (h : firstK g L r) : r = idxK g L := by
  unfold idxK
  rcases h with ⟨rfl, ha⟩ | ⟨k, rfl, hk, ha, x, hx, he⟩
  · rw [List.findIdx?_eq_none_iff.2 (fun x hx => by have := List.all_eq_true.1 ha x hx; simpa using this)]
  · have e : L[k] = x := by rw [List.getElem?_eq_getElem hk] at hx; exact Option.some.inj hx
    have : L.findIdx? (fun x => x.p == g) = some k := by
      rw [List.findIdx?_eq_some_iff_getElem]
      refine ⟨hk, by rw [e]; exact he, fun j hj => ?_⟩
      have := List.all_eq_true.1 ha L[j] (List.mem_iff_getElem.2 ⟨j, by rw [List.length_take]; omega, by rw [List.getElem_take]⟩)
      simpa using this
    rw [this]
theorem place_any (p0 : Int) (A B : Option Addr) (n c m d : Nat) (L : List Wr) (g : Int) (w : World) (h : Wrs w B m d L) :
    Calls Tryd.prog 38 #[.agg #[.int .i64 p0, .slice A n c, .slice B m d], .int .i64 g] w fun e w' => e = .returned (.int .i64 (idxK g L)) ∧ Below w.heap.size w w' := by
  obtain ⟨W, hW⟩ : ∃ W, W = (w.alloc (.cells #[.int .i64 p0, .slice A n c, .slice B m d] 41)).alloc (.cells #[.int .i64 g] 3) := ⟨_, rfl⟩
  have hB : Below w.heap.size w W := by rw [hW]; exact ((Below.refl _ _).alloc (Nat.le_refl _) _).alloc (by simp) _
  have hc : W.cell? ⟨w.heap.size + 1, 0, none⟩ = some (.int .i64 g) := by rw [hW]; simp
  have HI := Lib.hid (indexK_any B m d L (w.heap.size + 1) g W (h.mono hB) hc)
  have HB := Lib.hid hB; have HW := Lib.hid hW
  clear h hB hc hW
  go_enter Tryd.func38, Tryd.ntmps38
  go_wp2_with fail
  rw [← HW.out]
  refine HI.out.mono ?_
  rintro e w1 ⟨r, rfl, hf, b1⟩
  have hr := firstK_eq hf
  have HR := Lib.hid hr; have B1 := Lib.hid b1; clear hf hr b1
  go_wp2_with fail
  go_ret
  exact ⟨by rw [← HR.out]; rfl, below_both HB.out B1.out⟩
def hasK (p0 : Int) (L : List Wr) (g : Int) : Bool := decide (p0 ≤ g) || decide (0 ≤ idxK g L)
theorem has_any (p0 : Int) (A B : Option Addr) (n c m d : Nat) (L : List Wr) (g : Int) (w : World) (h : Wrs w B m d L) :
    Calls Tryd.prog 30 #[.agg #[.int .i64 p0, .slice A n c, .slice B m d], .int .i64 g] w fun e w' => e = .returned (.bool (hasK p0 L g)) ∧ Below w.heap.size w w' := by
  have hB : Below w.heap.size w (w.alloc (.cells #[.int .i64 p0, .slice A n c, .slice B m d] 41)) := (Below.refl _ _).alloc (Nat.le_refl _) _
  have HP := Lib.hid (place_any p0 A B n c m d L g _ (h.mono hB))
  have HB := Lib.hid hB; clear h hB
  by_cases hg : p0 ≤ g
  · have e : hasK p0 L g = true := by unfold hasK; rw [decide_eq_true hg]; rfl
    rw [e]; clear e
    go_enter Tryd.func30, Tryd.ntmps30
    go_wp2_with fail
    go_ret
    exact ⟨rfl, HB.out⟩
  · have e : hasK p0 L g = decide (0 ≤ idxK g L) := by unfold hasK; rw [decide_eq_false hg]; rfl
    rw [e]; clear e
    generalize idxK g L = r at *
    have hg2 : g < p0 := by omega
    go_enter Tryd.func30, Tryd.ntmps30
    go_wp2_with fail
    refine HP.out.mono ?_
    rintro e w1 ⟨rfl, b1⟩
    have B1 := Lib.hid b1; clear b1
    go_wp2_with fail
    go_ret
    exact ⟨rfl, below_both HB.out B1.out⟩
end Go.Proofs.YtplddbaggbdbiaaDoor
