import Derived.Test.YtemfhfhhhjeflaaObVerdW
import Derived.Test.YtemfhfhhhjeflaaObTrailW
namespace Go.Proofs.Ytemfhfhhhjeflaa
open Go.RowKit
set_option linter.unusedVariables false

theorem tOp : ElemT Try.prog 25 33 (.agg #[.int .i64 0, .string ⟨#[]⟩, .string ⟨#[]⟩, .int .i64 0, .int .i64 0, .int .i64 0, .int .i64 0, .slice none 0 0]) 8 96 := ⟨Try.underlying25, by kernel_rfl, rfl, by decide, by decide⟩
def RetVds (w : World) (L : List Vd) (e : Ending) (w' : World) : Prop := ∃ v, e = .returned v ∧ Own w w' 33 8 v L.length (L.flatMap Vd.cells)
theorem judge_take (D L : List Cm) (k : Nat) (x : Cm) (h : D[k]? = some x) : (judgeL (D.take (k + 1)) L).flatMap Vd.cells = (judgeL (D.take k) L).flatMap Vd.cells ++ Vd.cells ⟨x, saidOf L x⟩ := by
  have hk : k < D.length := (List.getElem?_eq_some_iff.1 h).1
  rw [List.take_succ_eq_append_getElem hk]
  rw [List.getElem?_eq_getElem hk] at h
  injection h with h
  rw [h]; simp [judgeL]
theorem judge_len (D L : List Cm) : (judgeL D L).length = D.length := by simp [judgeL]
theorem saidOf_no {L : List Cm} {x : Cm} {si : List UInt8} (h : sayL L x.g x.e = (si, false)) : saidOf L x = 3 := by unfold saidOf; rw [h]; rfl
theorem saidOf_yes {L : List Cm} {x : Cm} {si : List UInt8} (h : sayL L x.g x.e = (si, true)) (h2 : (si == x.i) = true) : saidOf L x = 1 := by unfold saidOf; rw [h]; simp only; rw [h2]; rfl
theorem saidOf_other {L : List Cm} {x : Cm} {si : List UInt8} (h : sayL L x.g x.e = (si, true)) (h2 : (si == x.i) = false) : saidOf L x = 2 := by unfold saidOf; rw [h]; simp only; rw [h2]; rfl

set_option maxRecDepth 100000 in
set_option maxHeartbeats 1000000 in
theorem judge_any (A B : Option Addr) (n m c d : Nat) (D L : List Cm) (w : World) (h : Cms w A n c D) (h' : Cms w B m d L) (hn : n ≤ 30) :
    Calls Try.prog 12 #[.slice A n c, .slice B m d] w (RetVds w (judgeL D L)) := by
  have hmax := h.max
  have hcap := h.cap
  have HL := Lib.hid h.1
  have HH := Lib.hid h; clear h
  have HM := Lib.hid h'; clear h'
  go_enter Try.func12, Try.ntmps12
  go_wp2
  go_loopw [4, 12] (fun v i wr => ∃ k : Nat, k ≤ n ∧ i = .int .i64 k ∧ Own w wr 33 8 v k ((judgeL (D.take k) L).flatMap Vd.cells)) (fun _ i _ => n - (intOf i).toNat)
  case atStart => exact ⟨0, Nat.zero_le _, rfl, Own.nil _ _ _⟩
  case round =>
    obtain ⟨k, hk, rfl, hown⟩ := hrel
    by_cases hlt : k < n
    · skip
      obtain ⟨b, o, x, rfl, hx, k0, k1, k2⟩ := Cms.row HH.out hlt
      have HX := Lib.hid hx; clear hx
      have K0 : Hid (∀ wq, Below w.heap.size w wq → wq.cell? ⟨b, o + k * 3, none⟩ = some (.string ⟨x.g.toArray⟩)) := fun wq hq => (hq.cell (p := ⟨b, o + k * 3, none⟩) (World.block_lt_of_cell? w _ k0)).trans k0
      have K1 : Hid (∀ wq, Below w.heap.size w wq → wq.cell? ⟨b, o + k * 3 + 1, none⟩ = some (.int .i64 x.e)) := fun wq hq => (hq.cell (p := ⟨b, o + k * 3 + 1, none⟩) (World.block_lt_of_cell? w _ k1)).trans k1
      have K2 : Hid (∀ wq, Below w.heap.size w wq → wq.cell? ⟨b, o + k * 3 + 2, none⟩ = some (.string ⟨x.i.toArray⟩)) := fun wq hq => (hq.cell (p := ⟨b, o + k * 3 + 2, none⟩) (World.block_lt_of_cell? w _ k2)).trans k2
      clear k0 k1 k2
      have c0 := K0.out wr hown.below
      have c1 := K1.out wr hown.below
      have c2 := K2.out wr hown.below
      have HT := Lib.hid (judge_take D L k x HX.out)
      obtain ⟨wl, hwl⟩ : ∃ wl, wl = wr.alloc (.cells #[.string ⟨x.g.toArray⟩, .int .i64 x.e, .string ⟨x.i.toArray⟩] 81) := ⟨_, rfl⟩
      have hbl : Below wr.heap.size wr wl := by rw [hwl]; exact (Below.refl _ _).alloc (Nat.le_refl _) _
      have hblk : Blk wl wr.heap.size 81 [.string ⟨x.g.toArray⟩, .int .i64 x.e, .string ⟨x.i.toArray⟩] := by rw [hwl]; exact Blk.new wr _ _
      have HWL := Lib.hid hwl; have HBL := Lib.hid hbl; have HBK := Lib.hid hblk; clear hwl hbl hblk
      have HO := Lib.hid (hown.mono HBL.out); clear hown
      have d0 : wl.cell? ⟨wr.heap.size, 0, none⟩ = some (.string ⟨x.g.toArray⟩) := HBK.out.cell 0
      have d1 : wl.cell? ⟨wr.heap.size, 1, none⟩ = some (.int .i64 x.e) := HBK.out.cell 1
      go_wp2_with fail
      rw [← HWL.out]
      refine (say_any B m d L x.g x.e _ (HM.out.mono HO.out.below)).mono ?_
      rintro e w2 ⟨rfl, b2⟩
      have HO2 := Lib.hid (HO.out.mono b2)
      have HB2 := Lib.hid (HBK.out.mono b2)
      clear b2 d0 d1 c0 c1 c2
      have d0 : w2.cell? ⟨wr.heap.size, 0, none⟩ = some (.string ⟨x.g.toArray⟩) := HB2.out.cell 0
      have d1 : w2.cell? ⟨wr.heap.size, 1, none⟩ = some (.int .i64 x.e) := HB2.out.cell 1
      have d2 : w2.cell? ⟨wr.heap.size, 2, none⟩ = some (.string ⟨x.i.toArray⟩) := HB2.out.cell 2
      obtain ⟨⟨si, sb⟩, hr⟩ : ∃ r, r = sayL L x.g x.e := ⟨_, rfl⟩
      rw [← hr]
      have HR := Lib.hid hr; clear hr
      cases sb
      case' false => have HS := Lib.hid (saidOf_no HR.out.symm)
      case' true => cases hs : si == x.i
      case' true.false => have HS := Lib.hid (saidOf_other HR.out.symm hs)
      case' true.true => have HS := Lib.hid (saidOf_yes HR.out.symm hs)
      all_goals
        rw [HS.out] at HT
        go_wp2_with (at_builtin; refine wpList_push rfl _ _ 25 rfl tOp rfl HO2.out #[_, _, _, _, _, _, _, _] rfl rfl (Vd.one ⟨x, _⟩) (by omega) ?_; intro v1 w3 own1)
        go_roundw
        case rel => exact ⟨k + 1, by omega, by go_num, by rw [HT.out]; exact own1⟩
        case measure => simp [intOf]; omega
    · obtain rfl : n = k := by omega
      go_wp2
      go_ret
      rw [List.take_of_length_le (by rw [HL.out]; omega)] at hown
      exact ⟨_, rfl, by rw [judge_len, HL.out]; exact hown⟩
set_option maxRecDepth 100000 in
set_option maxHeartbeats 2000000 in
theorem refJudge_any (A B : Option Addr) (n m c d : Nat) (D L : List Cm) (w : World) (h : Cms w A n c D) (h' : Cms w B m d L) (hn : n ≤ 30) :
    Calls Try.prog 14 #[.slice A n c, .slice B m d] w (RetVds w (judgeL D L)) := by
  have hmax := h.max
  have hcap := h.cap
  have HL := Lib.hid h.1
  have HH := Lib.hid h; clear h
  have HM := Lib.hid h'; clear h'
  go_enter Try.func14, Try.ntmps14
  go_wp2
  go_loopw [5, 6] (fun v i wr => ∃ k : Nat, k ≤ n ∧ i = .int .i64 k ∧ Own w wr 33 8 v k ((judgeL (D.take k) L).flatMap Vd.cells)) (fun _ i _ => n - (intOf i).toNat)
  case atStart => exact ⟨0, Nat.zero_le _, rfl, Own.nil _ _ _⟩
  case round =>
    obtain ⟨k, hk, rfl, hown⟩ := hrel
    by_cases hlt : k < n
    · skip
      obtain ⟨b, o, x, rfl, hx, k0, k1, k2⟩ := Cms.row HH.out hlt
      have HX := Lib.hid hx; clear hx
      have K0 : Hid (∀ wq, Below w.heap.size w wq → wq.cell? ⟨b, o + k * 3, none⟩ = some (.string ⟨x.g.toArray⟩)) := fun wq hq => (hq.cell (p := ⟨b, o + k * 3, none⟩) (World.block_lt_of_cell? w _ k0)).trans k0
      have K1 : Hid (∀ wq, Below w.heap.size w wq → wq.cell? ⟨b, o + k * 3 + 1, none⟩ = some (.int .i64 x.e)) := fun wq hq => (hq.cell (p := ⟨b, o + k * 3 + 1, none⟩) (World.block_lt_of_cell? w _ k1)).trans k1
      have K2 : Hid (∀ wq, Below w.heap.size w wq → wq.cell? ⟨b, o + k * 3 + 2, none⟩ = some (.string ⟨x.i.toArray⟩)) := fun wq hq => (hq.cell (p := ⟨b, o + k * 3 + 2, none⟩) (World.block_lt_of_cell? w _ k2)).trans k2
      clear k0 k1 k2
      have c0 := K0.out wr hown.below
      have c1 := K1.out wr hown.below
      have c2 := K2.out wr hown.below
      have HT := Lib.hid (judge_take D L k x HX.out)
      have HO := Lib.hid hown; clear hown
      have i1 : (k : Int) < n := by omega
      have z1 := World.new_ne wr _ c0
      have z2 := World.new_ne wr _ c1
      have z3 := World.new_ne wr _ c2
      go_wp2_with fail
      go_region_held3 (fun w' => w'.cell? ⟨b, o + k * 3, none⟩ = some (.string ⟨x.g.toArray⟩) ∧ w'.cell? ⟨b, o + k * 3 + 1, none⟩ = some (.int .i64 x.e) ∧ w'.cell? ⟨b, o + k * 3 + 2, none⟩ = some (.string ⟨x.i.toArray⟩)) (go_keep) (first | fail)
      obtain ⟨wl, hwl⟩ : ∃ wl, wl = (wr.alloc (.cells #[.int .i64 4, .string ⟨x.g.toArray⟩, .string ⟨x.i.toArray⟩, .int .i64 x.e, .int .i64 0, .int .i64 0, .int .i64 3, .slice none 0 0] 33)).drew := ⟨_, rfl⟩
      have hbl : Below wr.heap.size wr wl := by rw [hwl]; exact ((Below.refl _ _).alloc (Nat.le_refl _) _).drew
      have hblk : Blk wl wr.heap.size 33 [.int .i64 4, .string ⟨x.g.toArray⟩, .string ⟨x.i.toArray⟩, .int .i64 x.e, .int .i64 0, .int .i64 0, .int .i64 3, .slice none 0 0] := by rw [hwl]; exact (Blk.new wr _ _).drew
      rw [← hwl]
      clear hwl z1 z2 z3 c0 c1 c2
      have c0 := K0.out wl (below_both HO.out.below hbl)
      have c1 := K1.out wl (below_both HO.out.below hbl)
      have c2 := K2.out wl (below_both HO.out.below hbl)
      have d0 : wl.cell? ⟨wr.heap.size, 0, none⟩ = some (.int .i64 4) := hblk.cell 0
      have d1 : wl.cell? ⟨wr.heap.size, 1, none⟩ = some (.string ⟨x.g.toArray⟩) := hblk.cell 1
      have d2 : wl.cell? ⟨wr.heap.size, 2, none⟩ = some (.string ⟨x.i.toArray⟩) := hblk.cell 2
      have d3 : wl.cell? ⟨wr.heap.size, 3, none⟩ = some (.int .i64 x.e) := hblk.cell 3
      have d4 : wl.cell? ⟨wr.heap.size, 4, none⟩ = some (.int .i64 0) := hblk.cell 4
      have d5 : wl.cell? ⟨wr.heap.size, 5, none⟩ = some (.int .i64 0) := hblk.cell 5
      have d6 : wl.cell? ⟨wr.heap.size, 6, none⟩ = some (.int .i64 3) := hblk.cell 6
      have d7 : wl.cell? ⟨wr.heap.size, 7, none⟩ = some (.slice none 0 0) := hblk.cell 7
      have f6 := hblk.free 6
      have HBL := Lib.hid hbl; clear hbl hblk
      have HSAY := Lib.hid (fun wq (hq : Below wl.heap.size wl wq) => refSay_any B m d L x.g x.e wq (HM.out.mono (below_both (below_both HO.out.below HBL.out) hq)))
      obtain ⟨⟨si, sb⟩, hr⟩ : ∃ r, r = sayL L x.g x.e := ⟨_, rfl⟩
      rw [← hr] at HSAY
      have HR := Lib.hid hr; clear hr
      have hbne : wr.heap.size ≠ b := fun h => by
        have h2 := World.block_lt_of_cell? wr _ (K0.out wr HO.out.below)
        simp only at h2
        omega
      cases sb
      case' false => have HS := Lib.hid (saidOf_no HR.out.symm)
      case' true => cases hs : si == x.i
      case' true.false => have HS := Lib.hid (saidOf_other HR.out.symm hs)
      case' true.true => have HS := Lib.hid (saidOf_yes HR.out.symm hs)
      all_goals
        rw [HS.out] at HT
        go_wp2_with fail
        go_quiet ((go_at_call 17; exact quiet_left (HSAY.out _ (by exact belowN (Below.refl _ _) _))))
        go_wp2_with (at_builtin; refine wpList_pushAt rfl _ _ 25 rfl tOp rfl (by first | exact HO.out.mono (belowN HBL.out _) | exact HO.out.mono ((belowN HBL.out _).setCell (p := ⟨wr.heap.size, 6, none⟩) (Nat.le_refl _) _)) _ (by simp) #[_, _, _, _, _, _, _, _] rfl rfl (Vd.one ⟨x, _⟩) (by omega) ?_; intro v1 w3 own1)
        go_roundw
        case rel => exact ⟨k + 1, by omega, by go_num, by rw [HT.out]; exact own1⟩
        case measure => simp [intOf]; omega
    · obtain rfl : n = k := by omega
      go_wp2
      go_ret
      rw [List.take_of_length_le (by rw [HL.out]; omega)] at hown
      exact ⟨_, rfl, by rw [judge_len, HL.out]; exact hown⟩
end Go.Proofs.Ytemfhfhhhjeflaa
