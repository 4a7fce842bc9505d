import Derived.Test.YtemfhfhhhjeflaaObSlW
import Derived.Test.YtemfhfhhhjeflaaObRowsS
import Derived.Deep.RegionHeld3
import Derived.WalkLawsBesides
namespace Go.Proofs.Ytemfhfhhhjeflaa
open Go.RowKit
set_option linter.unusedVariables false

abbrev Cms (w : World) (A : Option Addr) (n c : Nat) (L : List Cm) : Prop := Rs Cm.cells 3 w A n c L
theorem Cms.row {w : World} {A : Option Addr} {n c : Nat} {L : List Cm} (h : Cms w A n c L) {k : Nat} (hk : k < n) :
    ∃ b o x, A = some ⟨b, o, none⟩ ∧ L[k]? = some x ∧ w.cell? ⟨b, o + k * 3, none⟩ = some (.string ⟨x.g.toArray⟩) ∧ w.cell? ⟨b, o + k * 3 + 1, none⟩ = some (.int .i64 x.e) ∧ w.cell? ⟨b, o + k * 3 + 2, none⟩ = some (.string ⟨x.i.toArray⟩) := by
  obtain ⟨b, o, x, e, hx, hc⟩ := Rs.row h Cm.cells_len hk
  exact ⟨b, o, x, e, hx, hc 0 _ rfl, hc 1 _ rfl, hc 2 _ rfl⟩

set_option maxHeartbeats 400000 in
theorem light40_any (A : Option Addr) (n c : Nat) (L : List Cm) (w : World) (h : Cms w A n c L) (hok : ∀ x ∈ L, x.ok) :
    Calls Try.prog 10 #[.slice A n c] w fun e w' => e = .returned (.bool (lightB L)) ∧ w = w' := by
  have hl := h.1
  have hmax := h.max
  have hcap := h.cap
  by_cases h30 : 30 < n
  · have t1 : decide (30 < (n : Int)) = true := by simp; omega
    have HE : Hid (lightB L = false) := by show _ = _; unfold lightB; rw [decide_eq_false (by omega)]; simp
    clear h hl hok
    go_enter Try.func10, Try.ntmps10
    go_wp2
    go_ret
    exact ⟨ret_bool HE.out.symm, rfl⟩
  · have t1 : decide (30 < (n : Int)) = false := by simp; omega
    have HL := Lib.hid hl; clear hl
    have HH := Lib.hid h; clear h
    have HOK := Lib.hid hok; clear hok
    go_enter Try.func10, Try.ntmps10
    go_wp2
    clear t1
    go_loop [3] (fun i => ∃ k : Nat, k ≤ n ∧ i = .int .i64 k ∧ ((L.take k).all fun c => decide (c.g.length ≤ 100) && decide (c.i.length ≤ 100)) = true) (fun i => n - (intOf i).toNat)
    case atStart => exact ⟨0, Nat.zero_le _, rfl, rfl⟩
    case round =>
      obtain ⟨k, hk, rfl, hall⟩ := hrel
      have HALL := Lib.hid hall; clear hall
      by_cases hlt : k < n
      · obtain ⟨b, o, x, rfl, hx, c0, c1, c2⟩ := HH.out.row hlt
        have HX := Lib.hid hx; clear hx
        obtain ⟨o1, o2, _, _⟩ := HOK.out x (List.mem_of_getElem? HX.out)
        by_cases hg : 100 < x.g.length
        · have HE : Hid (lightB L = false) := by
            show _ = _; unfold lightB; rw [all_bad _ L k x HX.out (by simp; omega)]; simp
          have t1 : decide (100 < (x.g.length : Int)) = true := by simp; omega
          go_wp2
          go_ret
          exact ⟨ret_bool HE.out.symm, rfl⟩
        · have t1 : decide (100 < (x.g.length : Int)) = false := by simp; omega
          by_cases hi : 100 < x.i.length
          · have HE : Hid (lightB L = false) := by
              show _ = _; unfold lightB; rw [all_bad _ L k x HX.out (by simp; omega)]; simp
            have t2 : decide (100 < (x.i.length : Int)) = true := by simp; omega
            go_wp2
            go_ret
            exact ⟨ret_bool HE.out.symm, rfl⟩
          · have t2 : decide (100 < (x.i.length : Int)) = false := by simp; omega
            go_wp2
            go_round
            case rel => exact ⟨k + 1, by omega, by go_num, by rw [all_take _ L k x HX.out, HALL.out]; simp; omega⟩
            case measure => simp [intOf]; omega
      · obtain rfl : n = k := by omega
        have HE : Hid (lightB L = true) := by
          have h := HALL.out
          rw [List.take_of_length_le (by rw [HL.out]; omega)] at h
          show _ = _
          unfold lightB
          rw [h, HL.out, decide_eq_true (by omega)]; rfl
        go_wp2
        go_ret
        exact ⟨ret_bool HE.out.symm, rfl⟩

theorem tCm : ElemT Try.prog 27 81 (.agg #[.string ⟨#[]⟩, .int .i64 0, .string ⟨#[]⟩]) 3 40 := ⟨Try.underlying27, by kernel_rfl, rfl, by decide, by decide⟩
def RetCms (w : World) (L : List Cm) (e : Ending) (w' : World) : Prop := ∃ v, e = .returned v ∧ Own w w' 81 3 v L.length (L.flatMap Cm.cells)

set_option maxRecDepth 100000 in
set_option maxHeartbeats 1000000 in
theorem of_any (A : Option Addr) (n c : Nat) (L : List Cm) (w : World) (h : Cms w A n c L) (hn : n ≤ 30) :
    Calls Try.prog 13 #[.slice A n c] w (RetCms w L) := by
  have hmax := h.max
  have hcap := h.cap
  have HL := Lib.hid h.1
  have HH := Lib.hid h; clear h
  go_enter Try.func13, Try.ntmps13
  go_wp2
  go_loopw [3, 4] (fun v i wr => ∃ k : Nat, k ≤ n ∧ i = .int .i64 k ∧ Own w wr 81 3 v k ((L.take k).flatMap Cm.cells)) (fun _ i _ => n - (intOf i).toNat)
  case atStart => exact ⟨0, Nat.zero_le _, rfl, Own.nil _ _ _⟩
  case round =>
    obtain ⟨k, hk, rfl, hown⟩ := hrel
    by_cases hlt : k < n
    · skip
      obtain ⟨b, o, x, rfl, hx, k0, k1, k2⟩ := Cms.row HH.out hlt
      have HX := Lib.hid hx; clear hx
      have K0 : Hid (∀ wq, Below w.heap.size w wq → wq.cell? ⟨b, o + k * 3, none⟩ = some (.string ⟨x.g.toArray⟩)) := fun wq hq => (hq.cell (p := ⟨b, o + k * 3, none⟩) (World.block_lt_of_cell? w _ k0)).trans k0
      have K1 : Hid (∀ wq, Below w.heap.size w wq → wq.cell? ⟨b, o + k * 3 + 1, none⟩ = some (.int .i64 x.e)) := fun wq hq => (hq.cell (p := ⟨b, o + k * 3 + 1, none⟩) (World.block_lt_of_cell? w _ k1)).trans k1
      have K2 : Hid (∀ wq, Below w.heap.size w wq → wq.cell? ⟨b, o + k * 3 + 2, none⟩ = some (.string ⟨x.i.toArray⟩)) := fun wq hq => (hq.cell (p := ⟨b, o + k * 3 + 2, none⟩) (World.block_lt_of_cell? w _ k2)).trans k2
      clear k0 k1 k2
      have c0 := K0.out _ hown.below
      have c1 := K1.out _ hown.below
      have c2 := K2.out _ hown.below
      have HT := Lib.hid (flat_take (f := Cm.cells) L k x HX.out)
      have i1 : (k : Int) < n := by omega
      have HO := Lib.hid hown; clear hown
      go_wp2
      go_region_held3 (fun w' => w'.cell? ⟨b, o + k * 3, none⟩ = some (.string ⟨x.g.toArray⟩) ∧ w'.cell? ⟨b, o + k * 3 + 1, none⟩ = some (.int .i64 x.e) ∧ w'.cell? ⟨b, o + k * 3 + 2, none⟩ = some (.string ⟨x.i.toArray⟩)) (go_keep)
        (first | (refine step_push rfl (.tmp 11) (.tmp 28) 27 rfl tCm rfl (by exact (HO.out.alloc _).drew) _ _ x.cells rfl rfl x.one (by exact cells_new _ 1 #[strV x.g, .int .i64 x.e, strV x.i] _) (by omega) ?_; intro v1 w1 own1; have e0 := K0.out _ own1.below; have e1 := K1.out _ own1.below; have e2 := K2.out _ own1.below))
      all_goals
        go_wp2
        go_roundw
        case rel => exact ⟨k + 1, by omega, by go_num, by rw [HT.out]; exact own1⟩
        case measure => simp [intOf]; omega
    · obtain rfl : n = k := by omega
      go_wp2
      go_ret
      rw [List.take_of_length_le (by rw [HL.out]; omega)] at hown
      exact ⟨_, rfl, by rw [HL.out]; exact hown⟩
/-! ### what the service said -/
theorem say1_any (x : Cm) (g : List UInt8) (e : Int) (p q : Nat) (w : World) (hp : w.cell? ⟨p, 0, none⟩ = some (.string ⟨g.toArray⟩)) (hq : w.cell? ⟨q, 0, none⟩ = some (.int .i64 e)) :
    Calls Try.prog 63 #[.agg #[.string ⟨x.g.toArray⟩, .int .i64 x.e, .string ⟨x.i.toArray⟩], .pointer (some ⟨p, 0, none⟩), .pointer (some ⟨q, 0, none⟩)] w fun en w' => en = .returned (.bool (hit g e x)) ∧ Below w.heap.size w w' := by
  have hpl := World.block_lt_of_cell? w _ hp
  have hql := World.block_lt_of_cell? w _ hq
  go_enter Try.func63, Try.ntmps63
  go_wp2
  all_goals
    go_ret
    exact ⟨ret_bool (by simp [hit, *]), (Below.refl _ _).alloc (Nat.le_refl _) _⟩

/-- The place of the first commit that is meant; -1: there is none. -/
def placeL (L : List Cm) (g : List UInt8) (e : Int) (r : Int) : Prop := (r = -1 ∧ L.find? (hit g e) = none) ∨ ∃ (k : Nat) (x : Cm), r = k ∧ L[k]? = some x ∧ L.find? (hit g e) = some x
def RetPl (L : List Cm) (g : List UInt8) (e : Int) (w : World) (en : Ending) (w' : World) : Prop := ∃ r, en = .returned (.int .i64 r) ∧ placeL L g e r ∧ Below w.heap.size w w'

set_option maxHeartbeats 1000000 in
theorem index_any (A : Option Addr) (n c : Nat) (L : List Cm) (g : List UInt8) (e : Int) (p q : Nat) (w : World) (h : Cms w A n c L) (hp : w.cell? ⟨p, 0, none⟩ = some (.string ⟨g.toArray⟩)) (hq : w.cell? ⟨q, 0, none⟩ = some (.int .i64 e)) :
    Calls Try.prog 62 #[.slice A n c, .func (.func 63) #[] #[.pointer (some ⟨p, 0, none⟩), .pointer (some ⟨q, 0, none⟩)]] w (RetPl L g e w) := by
  have hmax := h.max
  have hcap := h.cap
  have HL := Lib.hid h.1
  have HH := Lib.hid h; clear h
  have hpl := World.block_lt_of_cell? w _ hp
  have hql := World.block_lt_of_cell? w _ hq
  have HP := Lib.hid hp; have HQ := Lib.hid hq; clear hp hq
  go_enter Try.func62, Try.ntmps62
  go_wp2
  go_loopw [8] (fun i wr => ∃ k : Nat, k ≤ n ∧ i = .int .i64 k ∧ (L.take k).find? (hit g e) = none ∧ Below w.heap.size w wr) (fun i _ => n - (intOf i).toNat)
  case atStart => exact ⟨0, Nat.zero_le _, rfl, rfl, Below.refl _ _⟩
  case round =>
    obtain ⟨k, hk, rfl, hnone, hb⟩ := hrel
    have HNO := Lib.hid hnone; clear hnone
    by_cases hlt : k < n
    · skip
      obtain ⟨b, o, x, rfl, hx, k0, k1, k2⟩ := Cms.row HH.out hlt
      have HX := Lib.hid hx; clear hx
      have K0 : Hid (∀ wq, Below w.heap.size w wq → wq.cell? ⟨b, o + k * 3, none⟩ = some (.string ⟨x.g.toArray⟩)) := fun wq hq => (hq.cell (p := ⟨b, o + k * 3, none⟩) (World.block_lt_of_cell? w _ k0)).trans k0
      have K1 : Hid (∀ wq, Below w.heap.size w wq → wq.cell? ⟨b, o + k * 3 + 1, none⟩ = some (.int .i64 x.e)) := fun wq hq => (hq.cell (p := ⟨b, o + k * 3 + 1, none⟩) (World.block_lt_of_cell? w _ k1)).trans k1
      have K2 : Hid (∀ wq, Below w.heap.size w wq → wq.cell? ⟨b, o + k * 3 + 2, none⟩ = some (.string ⟨x.i.toArray⟩)) := fun wq hq => (hq.cell (p := ⟨b, o + k * 3 + 2, none⟩) (World.block_lt_of_cell? w _ k2)).trans k2
      clear k0 k1 k2
      have c0 := K0.out wr hb
      have c1 := K1.out wr hb
      have c2 := K2.out wr hb
      have B := Lib.hid hb; clear hb
      obtain ⟨f1, f2⟩ := find_take HX.out HNO.out
      have F1 := Lib.hid f1; have F2 := Lib.hid f2; clear f1 f2
      go_wp2_with fail
      refine (say1_any x g e p q _ ((B.out.cell hpl).trans HP.out) ((B.out.cell hql).trans HQ.out)).mono ?_
      rintro en w1 ⟨rfl, b1⟩
      have B1 := Lib.hid (below_both B.out b1); clear b1
      cases hh : hit g e x
      · go_wp2
        go_roundw
        case rel => exact ⟨k + 1, by omega, by go_num, F2.out hh, B1.out⟩
        case measure => simp [intOf]; omega
      · go_wp2
        go_ret
        exact ⟨_, rfl, .inr ⟨k, x, rfl, HX.out, F1.out hh⟩, B1.out⟩
    · obtain rfl : n = k := by omega
      have HE : Hid (L.find? (hit g e) = none) := by
        have h := HNO.out
        rw [List.take_of_length_le (by rw [HL.out]; omega)] at h
        exact h
      have B := Lib.hid hb; clear hb
      go_wp2
      go_ret
      exact ⟨_, rfl, .inl ⟨rfl, HE.out⟩, B.out⟩

def RetSay (r : List UInt8 × Bool) (w : World) (en : Ending) (w' : World) : Prop := en = .returned (.tuple #[.string ⟨r.1.toArray⟩, .bool r.2]) ∧ Below w.heap.size w w'
set_option maxHeartbeats 1000000 in
theorem say_any (A : Option Addr) (n c : Nat) (L : List Cm) (g : List UInt8) (e : Int) (w : World) (h : Cms w A n c L) :
    Calls Try.prog 16 #[.slice A n c, .string ⟨g.toArray⟩, .int .i64 e] w (RetSay (sayL L g e) w) := by
  have hmax := h.max
  have hcap := h.cap
  have HL := Lib.hid h.1
  have HH := Lib.hid h; clear h
  have hb0 : Below w.heap.size w ((w.alloc (.cells #[.string ⟨g.toArray⟩] 9)).alloc (.cells #[.int .i64 e] 3)) := ((Below.refl _ _).alloc (Nat.le_refl _) _).alloc (by simp) _
  have hp0 : ((w.alloc (.cells #[.string ⟨g.toArray⟩] 9)).alloc (.cells #[.int .i64 e] 3)).cell? ⟨w.heap.size, 0, none⟩ = some (.string ⟨g.toArray⟩) := ((Blk.new w 9 #[.string ⟨g.toArray⟩]).alloc _).cell 0
  have hq0 : ((w.alloc (.cells #[.string ⟨g.toArray⟩] 9)).alloc (.cells #[.int .i64 e] 3)).cell? ⟨w.heap.size + 1, 0, none⟩ = some (.int .i64 e) := by
    have h := (Blk.new (w.alloc (.cells #[.string ⟨g.toArray⟩] 9)) 3 #[.int .i64 e]).cell 0
    have e : (w.alloc (.cells #[.string ⟨g.toArray⟩] 9)).heap.size = w.heap.size + 1 := by simp
    rw [e] at h
    exact h
  have HB0 := Lib.hid hb0; have HP0 := Lib.hid hp0; have HQ0 := Lib.hid hq0; clear hb0 hp0 hq0
  go_enter Try.func16, Try.ntmps16
  go_wp2_with fail
  refine (index_any A n c L g e _ _ _ (HH.out.mono HB0.out) HP0.out HQ0.out).mono ?_
  rintro en w1 ⟨r, rfl, hpl, b1⟩
  have B1 := Lib.hid (below_both HB0.out b1); clear b1
  rcases hpl with ⟨rfl, hno⟩ | ⟨k, x, rfl, hx, hf⟩
  · have HE := Lib.hid (sayL_none hno); clear hno
    go_wp2
    go_ret2
    refine ⟨?_, B1.out⟩
    rw [HE.out]; rfl
  · have HE := Lib.hid (sayL_some hf); clear hf
    have hlt : k < n := by have := (List.getElem?_eq_some_iff.1 hx).1; rw [HL.out] at this; exact this
    obtain ⟨b, o, x', rfl, hx', k0, k1, k2⟩ := Cms.row (HH.out.mono B1.out) hlt
    obtain rfl : x = x' := by rw [hx] at hx'; exact Option.some.inj hx'
    clear hx hx' k0 k1
    go_wp2
    go_ret2
    refine ⟨?_, B1.out⟩
    rw [HE.out]; rfl

set_option maxHeartbeats 1000000 in
theorem refSay_any (A : Option Addr) (n c : Nat) (L : List Cm) (g : List UInt8) (e : Int) (w : World) (h : Cms w A n c L) :
    Calls Try.prog 17 #[.slice A n c, .string ⟨g.toArray⟩, .int .i64 e] w fun en w' => en = .returned (.tuple #[.string ⟨(sayL L g e).1.toArray⟩, .bool (sayL L g e).2]) ∧ w = w' := by
  have hmax := h.max
  have hcap := h.cap
  have HL := Lib.hid h.1
  have HH := Lib.hid h; clear h
  go_enter Try.func17, Try.ntmps17
  go_wp2
  go_loop [8] (fun i => ∃ k : Nat, k ≤ n ∧ i = .int .i64 k ∧ (L.take k).find? (hit g e) = none) (fun i => n - (intOf i).toNat)
  case atStart => exact ⟨0, Nat.zero_le _, rfl, rfl⟩
  case round =>
    obtain ⟨k, hk, rfl, hnone⟩ := hrel
    have HNO := Lib.hid hnone; clear hnone
    by_cases hlt : k < n
    · obtain ⟨b, o, x, rfl, hx, c0, c1, c2⟩ := Cms.row HH.out hlt
      have HX := Lib.hid hx; clear hx
      obtain ⟨f1, f2⟩ := find_take HX.out HNO.out
      have F1 := Lib.hid f1; have F2 := Lib.hid f2; clear f1 f2
      cases h1 : x.g == g
      · have HF : Hid (hit g e x = false) := by show _ = _; unfold hit; rw [h1]; rfl
        go_wp2
        go_round
        case rel => exact ⟨k + 1, by omega, by go_num, F2.out HF.out⟩
        case measure => simp [intOf]; omega
      · cases h2 : x.e == e
        · have HF : Hid (hit g e x = false) := by show _ = _; unfold hit; rw [h1, h2]; rfl
          go_wp2
          go_round
          case rel => exact ⟨k + 1, by omega, by go_num, F2.out HF.out⟩
          case measure => simp [intOf]; omega
        · have HF : Hid (hit g e x = true) := by show _ = _; unfold hit; rw [h1, h2]; rfl
          have HE := Lib.hid (sayL_some (F1.out HF.out))
          go_wp2
          go_ret2
          refine ⟨?_, rfl⟩
          rw [HE.out]; rfl
    · obtain rfl : n = k := by omega
      have HE : Hid (L.find? (hit g e) = none) := by
        have h := HNO.out
        rw [List.take_of_length_le (by rw [HL.out]; omega)] at h
        exact h
      have HS := Lib.hid (sayL_none HE.out)
      go_wp2
      go_ret2
      refine ⟨?_, rfl⟩
      rw [HS.out]; rfl
end Go.Proofs.Ytemfhfhhhjeflaa
