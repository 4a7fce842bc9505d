import Derived.Test.YtbmijjodpdbbmaaObLastW
import Derived.Test.YtbmijjodpdbbmaaObTrailD
import Derived.Test.YtbmijjodpdbbmaaObPushG
namespace Go.Proofs.Ytbmijjodpdbbmaa
open Go.RowKit Go.Maps
set_option linter.unusedVariables false

/-! ### writes: few and short; copied -/
def Wr.k (x : Wr) : Int × List UInt8 := (x.p, x.r.l)
theorem Wr.one (x : Wr) : ∀ u ∈ x.cells, u.oneCell' = true := by intro u hu; simp [Wr.cells, BRow.v] at hu; rcases hu with rfl | rfl <;> rfl
theorem tWr : ElemT Try.prog 22 46 (.agg #[.int .i64 0, .slice none 0 0]) 2 32 := ⟨Try.underlying22, by kernel_rfl, rfl, by decide, by decide⟩
/-- Writes in a row of the call's own, each one's bytes elsewhere. -/
def OwnWr (w0 w : World) (v : Value) (M : List Wr) : Prop := Own w0 w 46 2 v M.length (M.flatMap Wr.cells) ∧ ∀ x ∈ M, (Bs w x.r.a x.r.n x.r.c x.r.l ∧ Apart v x.r) ∧ -9223372036854775808 ≤ x.p ∧ x.p ≤ 9223372036854775807
/-- Bytes that lie in memory that was made behind w0. -/
def Fresh (w0 : World) (r : BRow) : Prop := ∀ b o, 0 < r.n → r.a = some ⟨b, o, none⟩ → w0.heap.size ≤ b
def RetOwnW (w : World) (L : List Wr) (e : Ending) (w' : World) : Prop := ∃ v M, e = .returned v ∧ OwnWr w w' v M ∧ (∀ x ∈ M, Fresh w x.r) ∧ M.map Wr.k = L.map Wr.k
def RetWrs (w : World) (L : List Wr) (e : Ending) (w' : World) : Prop := ∃ A n c M, e = .returned (.slice A n c) ∧ Wrs w' A n c M ∧ M.map Wr.k = L.map Wr.k ∧ Below w.heap.size w w'
def lightL (L : List Wr) : Bool := decide (L.length ≤ 60) && L.all fun x => decide (x.r.n ≤ 600)

set_option maxHeartbeats 400000 in
theorem light_any (A : Option Addr) (n c : Nat) (L : List Wr) (w : World) (h : Wrs w A n c L) :
    Calls Try.prog 7 #[.slice A n c] w fun e w' => e = .returned (.bool (lightL L)) ∧ w = w' := by
  have hmax := h.2.1.max
  have hcap := h.2.1.cap
  have HL := Lib.hid h.1
  have HH := Lib.hid h; clear h
  by_cases hn : 60 < n
  · have t1 : decide (60 < (n : Int)) = true := by simp; omega
    have HE : Hid (lightL L = false) := by unfold lightL; rw [HL.out, decide_eq_false (by omega)]; rfl
    go_enter Try.func7, Try.ntmps7
    go_wp2
    go_ret
    exact ⟨ret_bool HE.out.symm, rfl⟩
  have t1 : decide (60 < (n : Int)) = false := by simp; omega
  go_enter Try.func7, Try.ntmps7
  go_wp2
  clear t1
  go_loopw [3] (fun i wr => ∃ k : Nat, k ≤ n ∧ i = .int .i64 k ∧ wr = w ∧ (L.take k).all (fun x => decide (x.r.n ≤ 600)) = true) (fun i _ => n - (intOf i).toNat)
  case atStart => exact ⟨0, Nat.zero_le _, rfl, rfl, rfl⟩
  case round =>
    obtain ⟨k, hk, rfl, rfl, hall⟩ := hrel
    have HA := Lib.hid hall; clear hall
    by_cases hlt : k < n
    · obtain ⟨b, o, ⟨xp, xr⟩, rfl, hx, c1, c2, hrow, hp1, hp2⟩ := HH.out.row hlt
      simp only at c1 c2 hrow hp1 hp2
      have HX := Lib.hid hx; clear hx
      have m1 := hrow.max
      have m2 := hrow.cap
      clear hrow c1
      by_cases hr : 600 < xr.n
      · have t2 : decide (600 < (xr.n : Int)) = true := by simp; omega
        have HE : Hid (lightL L = false) := by
          unfold lightL
          have : L.all (fun x => decide (x.r.n ≤ 600)) = false := by
            rw [List.all_eq_false]
            exact ⟨_, List.mem_of_getElem? HX.out, by simp; omega⟩
          rw [this, Bool.and_false]
          exact rfl
        go_wp2
        go_ret
        exact ⟨ret_bool HE.out.symm, rfl⟩
      · have t2 : decide (600 < (xr.n : Int)) = false := by simp; omega
        have HT : Hid ((L.take (k + 1)).all (fun x => decide (x.r.n ≤ 600)) = true) := by
          have hk : k < L.length := (List.getElem?_eq_some_iff.1 HX.out).1
          have := HX.out
          rw [List.getElem?_eq_getElem hk] at this
          injection this with this
          rw [List.take_succ_eq_append_getElem hk, List.all_append, HA.out, this, List.all_cons, List.all_nil, Bool.and_true, Bool.true_and]
          exact decide_eq_true (show xr.n ≤ 600 by omega)
        go_wp2
        go_roundw
        case rel => exact ⟨k + 1, by omega, by go_num, by first | trivial | rfl, HT.out⟩
        case measure => simp [intOf]; omega
    · obtain rfl : n = k := by omega
      have HE : Hid (lightL L = true) := by
        unfold lightL
        have := HA.out
        rw [List.take_of_length_le (by rw [HL.out]; omega)] at this
        rw [this, HL.out, decide_eq_true (by omega)]
        exact rfl
      go_wp2
      go_ret
      exact ⟨ret_bool HE.out.symm, rfl⟩

set_option maxHeartbeats 1000000 in
theorem copiedO_any (A : Option Addr) (n c : Nat) (L : List Wr) (w : World) (h : Wrs w A n c L) (hn : n ≤ 1048576) (hrow : ∀ x ∈ L, x.r.n ≤ 20000) :
    Calls Try.prog 34 #[.slice A n c] w (RetOwnW w L) := by
  have hmax := h.2.1.max
  have hcap := h.2.1.cap
  have HL := Lib.hid h.1
  have HH := Lib.hid h; clear h
  have HW := Lib.hid hrow; clear hrow
  go_enter Try.func34, Try.ntmps34
  go_wp2
  go_loopw [2, 7] (fun v i wr => ∃ (k : Nat) (M : List Wr), k ≤ n ∧ i = .int .i64 k ∧ Own w wr 46 2 v k (M.flatMap Wr.cells) ∧ M.map Wr.k = (L.take k).map Wr.k ∧ ∀ x ∈ M, ((Bs wr x.r.a x.r.n x.r.c x.r.l ∧ Apart v x.r) ∧ -9223372036854775808 ≤ x.p ∧ x.p ≤ 9223372036854775807) ∧ Fresh w x.r) (fun _ i _ => n - (intOf i).toNat)
  case atStart => exact ⟨0, [], Nat.zero_le _, rfl, Own.nil _ _ _, rfl, fun x hx => by cases hx⟩
  case round =>
    obtain ⟨k, M, hk, rfl, hown, hM, hbs⟩ := hrel
    have HM := Lib.hid hM; clear hM
    have HBS := Lib.hid hbs; clear hbs
    by_cases hlt : k < n
    · have hbel := hown.below
      obtain ⟨b, o, ⟨xp, xr⟩, rfl, hx, c1, c2, hrow, hp1, hp2⟩ := (HH.out.mono hbel).row hlt
      simp only at c1 c2 hrow hp1 hp2
      have HX := Lib.hid hx; clear hx
      obtain ⟨wl, hwl⟩ : ∃ wl, wl = wr.alloc (.cells #[.int .i64 xp, .slice xr.a xr.n xr.c] 46) := ⟨_, rfl⟩
      have hbl : Below wr.heap.size wr wl := by rw [hwl]; exact (Below.refl _ _).alloc (Nat.le_refl _) _
      have d0 : wl.cell? ⟨wr.heap.size, 0, none⟩ = some (.int .i64 xp) := by rw [hwl, (Blk.new wr _ _).cell]; rfl
      have d1 : wl.cell? ⟨wr.heap.size, 1, none⟩ = some (.slice xr.a xr.n xr.c) := by rw [hwl, (Blk.new wr _ _).cell]; rfl
      have hzl : wr.heap.size < wl.heap.size := by rw [hwl]; simp
      have HCL := Lib.hid (clone_any xr.a xr.n xr.c xr.l wl.drew ((hrow.mono hbl).mono (Below.refl _ _).drew) (by have := HW.out ⟨xp, xr⟩ (List.mem_of_getElem? HX.out); simp only at this; omega))
      have HOL := Lib.hid (hown.mono hbl).drew
      have HWL := Lib.hid hwl; clear hwl
      have HBL := Lib.hid hbl; clear hbl
      clear hown hrow
      have HT : Hid ((M ++ [(⟨xp, ⟨none, 0, 0, xr.l⟩⟩ : Wr)]).map Wr.k = (L.take (k + 1)).map Wr.k) := by
        have hk : k < L.length := (List.getElem?_eq_some_iff.1 HX.out).1
        have := HX.out
        rw [List.getElem?_eq_getElem hk] at this
        injection this with this
        rw [List.take_succ_eq_append_getElem hk, List.map_append, List.map_append, HM.out, this]
        exact rfl
      go_wp2_with fail
      rw [← HWL.out]
      go_region_law (first
        | (refine step_pushG rfl (.tmp 11) (.tmp 18) 22 rfl tWr rfl (by exact (((HOL.out.mono OWN1.out.below)).alloc _)) _ _ (Wr.cells ⟨xp, ⟨A1, xr.l.length, k1, xr.l⟩⟩) rfl rfl (Wr.one _) (by exact cells_new _ 0 #[.int .i64 xp, .slice A1 xr.l.length k1] _) (by omega) ?_; intro v2 w2 own2 kept2)
        | (go_simp; go_at_call 32; refine HCL.out.mono ?_; rintro e w1 ⟨v1, rfl, own1⟩; obtain ⟨A1, k1, rfl, sl1⟩ := own1.slice; have e0 : w1.cell? ⟨wr.heap.size, 0, none⟩ = some (.int .i64 xp) := (own1.below.cell (by exact hzl)).trans d0; have OWN1 := Lib.hid own1; clear own1; have SL1 := Lib.hid sl1; clear sl1))
      all_goals
        have hm1 : Below wr.heap.size wr w1 := (HBL.out.drew).trans (OWN1.out.below.mono HBL.out.size)
        have ha1 := (Below.refl w1.heap.size w1).alloc (Nat.le_refl _) (.cells #[.int .i64 xp, .slice A1 xr.l.length k1] 46)
        have HR2 : Hid (∀ x ∈ M ++ [(⟨xp, ⟨A1, xr.l.length, k1, xr.l⟩⟩ : Wr)], ((Bs w2 x.r.a x.r.n x.r.c x.r.l ∧ Apart v2 x.r) ∧ -9223372036854775808 ≤ x.p ∧ x.p ≤ 9223372036854775807) ∧ Fresh w x.r) := by
          intro x hx
          rcases List.mem_append.1 hx with hx | hx
          · obtain ⟨⟨⟨hb, hap⟩, hr⟩, hfr⟩ := HBS.out x hx
            exact ⟨⟨Bs.kept (r := x.r) ((hb.mono hm1).mono ha1) kept2 hap, hr⟩, hfr⟩
          · obtain rfl : x = ⟨xp, ⟨A1, xr.l.length, k1, xr.l⟩⟩ := by simpa using hx
            refine ⟨⟨Bs.kept (r := ⟨A1, xr.l.length, k1, xr.l⟩) (SL1.out.mono ha1) kept2 (Apart.new HOL.out OWN1.out), hp1, hp2⟩, fun b' o' hn' e' => ?_⟩
            have e' : A1 = some ⟨b', o', none⟩ := e'
            have h1 := (OWN1.out.1.lt b' (by rw [e']; rfl)).1
            have h2 := HBL.out.size
            have h3 := hbel.size
            have h4 : wl.drew.heap.size = wl.heap.size := rfl
            omega
        have HO2 := Lib.hid own2; clear own2 kept2 hm1 ha1
        go_wp2
        go_roundw
        case rel =>
          refine ⟨k + 1, M ++ [⟨xp, ⟨A1, xr.l.length, k1, xr.l⟩⟩], by omega, by go_num, ?_, ?_, HR2.out⟩
          · rw [List.flatMap_append]; simpa using HO2.out
          · rw [← HT.out]; simp [Wr.k]
        case measure => simp [intOf]; omega
    · obtain rfl : n = k := by omega
      have HF : Hid (RetOwnW w L (.returned u2) wr) := by
        have hl : M.length = n := by
          have := congrArg List.length HM.out
          rw [List.length_map, List.length_map, List.length_take, HL.out] at this
          omega
        refine ⟨u2, M, rfl, ⟨by rw [hl]; exact hown, fun x hx => (HBS.out x hx).1⟩, fun x hx => (HBS.out x hx).2, ?_⟩
        rw [HM.out, List.take_of_length_le (by rw [HL.out]; omega)]
      go_wp2
      go_ret
      exact HF.out
theorem RetOwnW.plain {w w' : World} {L : List Wr} {e : Ending} (h : RetOwnW w L e w') : RetWrs w L e w' := by
  obtain ⟨v, M, rfl, ho, _, hk⟩ := h
  obtain ⟨A', c', rfl, hs⟩ := ho.1.slice
  exact ⟨A', M.length, c', M, rfl, ⟨rfl, hs, fun x hx => ⟨(ho.2 x hx).1.1, (ho.2 x hx).2⟩⟩, hk, ho.1.below⟩
theorem copied_any (A : Option Addr) (n c : Nat) (L : List Wr) (w : World) (h : Wrs w A n c L) (hn : n ≤ 1048576) (hrow : ∀ x ∈ L, x.r.n ≤ 20000) :
    Calls Try.prog 34 #[.slice A n c] w (RetWrs w L) := (copiedO_any A n c L w h hn hrow).mono fun _ _ h => h.plain
end Go.Proofs.Ytbmijjodpdbbmaa
