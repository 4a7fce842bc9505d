import Derived.Test.YtbmijjodpdbbmaaObSlW
import Derived.Deep.RegionWith
namespace Go.Proofs.Ytbmijjodpdbbmaa
open Go.RowKit
set_option linter.unusedVariables false

/-! ### stores elsewhere -/
theorem Sl.far {w : World} {A : Option Addr} {n c s : Nat} {xs : List Value} (h : Sl w A n c s xs) {p : Addr} (hp : ∀ b o, A = some ⟨b, o, none⟩ → b ≠ p.block) (u : Value) : Sl (w.setCell p u) A n c s xs := by
  obtain ⟨h1, h2, h3, h4⟩ := h
  refine ⟨h1, h2, h3, fun hn => ?_⟩
  obtain ⟨b, o, rfl, hc⟩ := h4 hn
  refine ⟨b, o, rfl, fun j u' hu => ?_⟩
  rw [World.cell?_of_block (w := w) (Below.heap_setCell w p u b (hp b o rfl))]
  exact hc j u' hu
theorem Own.block {w0 w : World} {e : TypeId} {size n : Nat} {A : Option Addr} {m c : Nat} {xs : List Value} (h : Own w0 w e size (.slice A m c) n xs) : ∀ b o, A = some ⟨b, o, none⟩ → w0.heap.size ≤ b := by
  intro b o hA
  rcases h.1.2 with ⟨h', _⟩ | ⟨g, cap, cur, hv, hg, _⟩
  · injection h' with h1 h2 h3; subst h1; cases hA
  · injection hv with h1 h2 h3; subst h1; injection hA with h; injection h with h h'; subst h; exact hg

/-- A block of slices' values: rows of bytes in other blocks. -/
def Img (w : World) (g : Nat) (t : TypeId) (R : List BRow) : Prop := Blk w g t (R.map BRow.v) ∧ ∀ r ∈ R, Bs w r.a r.n r.c r.l ∧ ∀ b o, r.a = some ⟨b, o, none⟩ → b ≠ g
theorem Img.mono {w w' : World} {g : Nat} {t : TypeId} {R : List BRow} (h : Img w g t R) (hb : Below w.heap.size w w') : Img w' g t R :=
  ⟨h.1.mono hb, fun r hr => ⟨(h.2 r hr).1.mono hb, (h.2 r hr).2⟩⟩
theorem Img.set {w : World} {g : Nat} {t : TypeId} {R : List BRow} (h : Img w g t R) (i : Nat) (r : BRow) (hr : Bs w r.a r.n r.c r.l) (hg : ∀ b o, r.a = some ⟨b, o, none⟩ → b ≠ g) : Img (w.setCell ⟨g, i, none⟩ r.v) g t (R.set i r) := by
  refine ⟨by rw [List.map_set]; exact h.1.set i r.v, fun x hx => ?_⟩
  rcases List.mem_or_eq_of_mem_set hx with hx | rfl
  · exact ⟨(h.2 x hx).1.far (p := ⟨g, i, none⟩) (h.2 x hx).2 _, (h.2 x hx).2⟩
  · exact ⟨hr.far (p := ⟨g, i, none⟩) hg _, hg⟩
theorem Img.bss {w : World} {g : Nat} {t : TypeId} {R : List BRow} (h : Img w g t R) (hm : R.length ≤ maxLen) : Bss w (some ⟨g, 0, none⟩) R.length R.length R :=
  ⟨⟨by simp, Nat.le_refl _, hm, fun _ => ⟨g, 0, rfl, fun j u hu => by rw [Nat.zero_add, h.1.cell]; exact hu⟩⟩, fun r hr => (h.2 r hr).1⟩

/-! ### writes -/
structure Wr where
  p : Int
  r : BRow
instance : Inhabited Wr := ⟨⟨0, default⟩⟩
def Wr.cells (x : Wr) : List Value := [.int .i64 x.p, x.r.v]
theorem Wr.cells_len (x : Wr) : x.cells.length = 2 := rfl
def Wrs (w : World) (A : Option Addr) (n c : Nat) (L : List Wr) : Prop := L.length = n ∧ Sl w A n c 2 (L.flatMap Wr.cells) ∧ ∀ x ∈ L, Bs w x.r.a x.r.n x.r.c x.r.l ∧ -9223372036854775808 ≤ x.p ∧ x.p ≤ 9223372036854775807
theorem Wrs.mono {w w' : World} {A : Option Addr} {n c : Nat} {L : List Wr} (h : Wrs w A n c L) (hb : Below w.heap.size w w') : Wrs w' A n c L := ⟨h.1, h.2.1.mono hb, fun x hx => ⟨(h.2.2 x hx).1.mono hb, (h.2.2 x hx).2⟩⟩
theorem Wrs.row {w : World} {A : Option Addr} {n c : Nat} {L : List Wr} (h : Wrs w A n c L) {k : Nat} (hk : k < n) :
    ∃ b o x, A = some ⟨b, o, none⟩ ∧ L[k]? = some x ∧ w.cell? ⟨b, o + k * 2, none⟩ = some (.int .i64 x.p) ∧ w.cell? ⟨b, o + k * 2 + 1, none⟩ = some (.slice x.r.a x.r.n x.r.c) ∧ Bs w x.r.a x.r.n x.r.c x.r.l ∧ -9223372036854775808 ≤ x.p ∧ x.p ≤ 9223372036854775807 := by
  obtain ⟨hl, hs, hx⟩ := h
  obtain ⟨b, o, e, hc⟩ := hs.addr (by omega)
  have hr : L[k]? = some (L[k]'(by omega)) := List.getElem?_eq_getElem (by omega)
  have h0 := flat_at (s := 2) Wr.cells_len L k 0 (by decide) _ hr
  have h1 := flat_at (s := 2) Wr.cells_len L k 1 (by decide) _ hr
  exact ⟨b, o, _, e, hr, hc _ _ (h0.trans rfl), by rw [Nat.add_assoc]; exact hc _ _ (h1.trans rfl), hx _ (List.getElem_mem _)⟩

def zeros512 : List UInt8 := List.replicate 512 0
def imgPut (size : Nat) (I : List (List UInt8)) (x : Wr) : List (List UInt8) := if 0 ≤ x.p ∧ x.p < size then I.set x.p.toNat x.r.l else I
def imgTo (size : Nat) (L : List Wr) : List (List UInt8) := L.foldl (imgPut size) (List.replicate size zeros512)
theorem imgTo_take (size : Nat) (L : List Wr) (k : Nat) (x : Wr) (h : L[k]? = some x) : imgTo size (L.take (k + 1)) = imgPut size (imgTo size (L.take k)) x := by
  have hk : k < L.length := (List.getElem?_eq_some_iff.1 h).1
  rw [List.take_succ_eq_append_getElem hk]
  rw [List.getElem?_eq_getElem hk] at h
  injection h with h
  rw [h]
  simp [imgTo]
theorem imgPut_len (size : Nat) (I : List (List UInt8)) (x : Wr) : (imgPut size I x).length = I.length := by unfold imgPut; split <;> simp
theorem imgTo_len (size : Nat) (L : List Wr) : (imgTo size L).length = size := by
  unfold imgTo
  have : ∀ I : List (List UInt8), (L.foldl (imgPut size) I).length = I.length := by
    induction L with
    | nil => intro I; rfl
    | cons x L ih => intro I; rw [List.foldl_cons, ih, imgPut_len]
  rw [this]; simp

def imgStart (size k : Nat) : List (List UInt8) := List.replicate k zeros512 ++ List.replicate (size - k) []
theorem imgStart_set (size k : Nat) (h : k < size) : (imgStart size k).set k zeros512 = imgStart size (k + 1) := by
  unfold imgStart
  have e : size - k = (size - (k + 1)) + 1 := by omega
  rw [List.set_append_right _ _ (by simp), e, List.replicate_succ, List.length_replicate, Nat.sub_self, List.set_cons_zero, List.replicate_succ', List.append_assoc]
  rfl
theorem zeros512_len : zeros512.length = 512 := List.length_replicate
theorem zeros512_cells : zeros512.map u8c = reps 512 (.int .u8 0) := by unfold zeros512 reps; rw [List.map_replicate]; rfl
theorem Img.new {wr : World} {g : Nat} {t : TypeId} {R : List BRow} (h : Img wr g t R) (k : Nat) :
    Img ((wr.alloc (.cells (reps 512 (.int .u8 0)).toArray 5)).setCell ⟨g, k, none⟩ (.slice (some ⟨wr.heap.size, 0, none⟩) 512 512)) g t (R.set k ⟨some ⟨wr.heap.size, 0, none⟩, 512, 512, zeros512⟩) := by
  have hg := h.1.lt
  refine (h.mono ((Below.refl _ _).alloc (Nat.le_refl _) _)).set k ⟨some ⟨wr.heap.size, 0, none⟩, 512, 512, zeros512⟩ ⟨?_, Nat.le_refl _, by simp only [maxLen]; omega, fun _ => ⟨_, _, rfl, fun j u hu => ?_⟩⟩ ?_
  · rw [List.length_map, zeros512_len]; rfl
  · rw [Nat.zero_add, (Blk.new wr 5 (reps 512 (.int .u8 0)).toArray).cell]
    rw [zeros512_cells] at hu
    exact hu
  · intro b o h'
    injection h' with h'
    injection h' with h'
    omega
theorem tRows : ElemT Try.prog 26 44 (.slice none 0 0) 1 24 := ⟨Try.underlying26, by kernel_rfl, rfl, by decide, by decide⟩
def RetRows (w : World) (R : List (List UInt8)) (e : Ending) (w' : World) : Prop := ∃ A n c L, e = .returned (.slice A n c) ∧ Bss w' A n c L ∧ L.map BRow.l = R ∧ Below w.heap.size w w'

theorem inside_any (p size : Int) (b : Nat) (w : World) (h : w.cell? ⟨b, 0, none⟩ = some (.int .i64 size)) :
    Calls Try.prog 31 #[.int .i64 p, .pointer (some ⟨b, 0, none⟩)] w fun e w' => e = .returned (.bool (decide (0 ≤ p ∧ p < size))) ∧ w = w' := by
  by_cases h0 : 0 ≤ p
  · have t1 : decide (0 ≤ p) = true := by simpa using h0
    by_cases h1 : p < size
    · have t2 : decide (p < size) = true := by simpa using h1
      go_enter Try.func31, Try.ntmps31
      go_wp2
      go_ret
      exact ⟨ret_bool (by simp [h0, h1]), rfl⟩
    · have t2 : decide (p < size) = false := by simpa using h1
      go_enter Try.func31, Try.ntmps31
      go_wp2
      go_ret
      exact ⟨ret_bool (by simp [*]), rfl⟩
  · have t1 : decide (0 ≤ p) = false := by simpa using h0
    go_enter Try.func31, Try.ntmps31
    go_wp2
    go_ret
    exact ⟨ret_bool (by simp [*]), rfl⟩

set_option maxRecDepth 100000 in
set_option maxHeartbeats 1000000 in
theorem image_yes (A : Option Addr) (n c : Nat) (L : List Wr) (size : Nat) (w : World) (h : Wrs w A n c L) (h1 : 1 ≤ size) (h2 : size ≤ 1024) (hrow : ∀ x ∈ L, x.r.n ≤ 20000) :
    Calls Try.prog 10 #[.slice A n c, .int .i64 size] w (RetRows w (imgTo size L)) := by
  have t1 : decide ((size : Int) < 1) = false := by simp; omega
  have t2 : decide (1024 < (size : Int)) = false := by simp; omega
  have hmax := h.2.1.max
  have hcap := h.2.1.cap
  have hmk := fun w => run_mk tRows rfl size (by omega) w
  have HH := Lib.hid h; clear h
  have HW := Lib.hid hrow; clear hrow
  go_enter Try.func10, Try.ntmps10
  go_wp2
  clear t1 t2 hmk
  have hmk : ∀ w : World, (Instr.makeSlice 44 (.int .i64 512) (.int .i64 512)).run Try.prog w = .ok (.slice (some ⟨w.heap.size, 0, none⟩) 512 512) (w.alloc (.cells (reps 512 (.int .u8 0)).toArray 5)) :=
    fun w => run_mk tBytes rfl 512 (by omega) w
  go_loopw [20] (fun i wr => ∃ (k : Nat) (R : List BRow), k ≤ size ∧ i = .int .i64 k ∧ R.map BRow.l = imgStart size k ∧ Img wr (w.heap.size + 1) 44 R ∧ Blk wr w.heap.size 3 [.int .i64 size] ∧ Below w.heap.size w wr) (fun i _ => size - (intOf i).toNat)
  case atStart =>
    refine ⟨0, List.replicate size ⟨none, 0, 0, []⟩, Nat.zero_le _, rfl, by simp [imgStart], ⟨?_, ?_⟩, ?_, ?_⟩
    · have e : (List.replicate size (⟨none, 0, 0, []⟩ : BRow)).map BRow.v = reps size (.slice none 0 0) := by simp [reps, BRow.v]
      rw [e]
      have h := Blk.new (w.alloc (.cells #[.int .i64 size] 3)) 44 (reps size (.slice none 0 0)).toArray
      simpa using h
    · intro r hr
      obtain ⟨_, rfl⟩ := List.mem_replicate.1 hr
      exact ⟨Sl.nil _ _, fun b o h => by cases h⟩
    · exact (Blk.new w 3 #[.int .i64 size]).alloc _
    · exact ((Below.refl _ _).alloc (Nat.le_refl _) _).alloc (by simp) _
  case round =>
    obtain ⟨k, R, hk, rfl, hR, himg, hbox, hbel⟩ := hrel
    have hRl : R.length = size := by have := congrArg List.length hR; simp [imgStart] at this; omega
    have HR := Lib.hid hR; clear hR
    have HRl := Lib.hid hRl; clear hRl
    have hg := himg.1.lt
    by_cases hlt : k < size
    · have c3 := himg.1.cell k
      rw [List.getElem?_map, List.getElem?_eq_getElem (by rw [HRl.out]; exact hlt), Option.map_some] at c3
      have hf := himg.1.free k
      have HI := Lib.hid himg; clear himg
      have HB := Lib.hid hbox; clear hbox
      go_wp2
      go_roundw
      case rel =>
        refine ⟨k + 1, R.set k ⟨some ⟨wr.heap.size, 0, none⟩, 512, 512, zeros512⟩, by omega, by go_num, ?_, ?_, ?_, ?_⟩
        · rw [List.map_set, HR.out, ← imgStart_set size k hlt]
        · rw [← World.setCell_alloc_past _ _ _ _ hg]; exact HI.out.new k
        · rw [← World.setCell_alloc_past _ _ _ _ hg]; exact (HB.out.alloc _).far (p := ⟨w.heap.size + 1, k, none⟩) (by show w.heap.size ≠ w.heap.size + 1; omega) _
        · rw [← World.setCell_alloc_past _ _ _ _ hg]; exact (hbel.alloc hbel.size _).setCell (p := ⟨w.heap.size + 1, k, none⟩) (by show w.heap.size ≤ w.heap.size + 1; omega) _
      case measure => simp [intOf]; omega
    · obtain rfl : size = k := by omega
      clear hmk
      have hR0 : R.map BRow.l = imgTo size (L.take 0) := by rw [HR.out]; simp [imgStart, imgTo]
      have HR0 := Lib.hid hR0; clear hR0 HR
      go_wp2
      go_loopw [31] (fun i wr => ∃ (k : Nat) (R : List BRow), k ≤ n ∧ i = .int .i64 k ∧ R.map BRow.l = imgTo size (L.take k) ∧ Img wr (w.heap.size + 1) 44 R ∧ Blk wr w.heap.size 3 [.int .i64 size] ∧ Below w.heap.size w wr) (fun i _ => n - (intOf i).toNat)
      case atStart => exact ⟨0, R, Nat.zero_le _, rfl, HR0.out, himg, hbox, hbel⟩
      case round =>
        clear HR0 HRl hg himg hbox hbel
        obtain ⟨k, R, hk, rfl, hR, himg, hbox, hbel⟩ := hrel
        have hRl : R.length = size := by have := congrArg List.length hR; rw [imgTo_len, List.length_map] at this; exact this
        have HR := Lib.hid hR; clear hR
        have HRl := Lib.hid hRl; clear hRl
        have hg := himg.1.lt
        by_cases hlt : k < n
        · obtain ⟨b, o, ⟨xp, xr⟩, rfl, hx, c1, c2, hrow, hp1, hp2⟩ := (HH.out.mono hbel).row hlt
          simp only at c1 c2 hrow hp1 hp2
          have HX := Lib.hid hx; clear hx
          have HRW := Lib.hid hrow; clear hrow
          have hbx := hbox.cell 0
          simp only [List.getElem?_cons_zero] at hbx
          have HI := Lib.hid himg; clear himg
          have HB := Lib.hid hbox; clear hbox
          obtain ⟨wl, hwl⟩ : ∃ wl, wl = wr.alloc (.cells #[.int .i64 xp, .slice xr.a xr.n xr.c] 46) := ⟨_, rfl⟩
          have hbl : Below wr.heap.size wr wl := by rw [hwl]; exact (Below.refl _ _).alloc (Nat.le_refl _) _
          have hbx' : wl.cell? ⟨w.heap.size, 0, none⟩ = some (.int .i64 size) := by rw [hbl.cell (by show w.heap.size < wr.heap.size; omega)]; exact hbx
          have HWL := Lib.hid hwl; clear hwl
          have HBL := Lib.hid hbl; clear hbl
          by_cases hin : 0 ≤ xp ∧ xp < size
          · go_wp2_with fail
            rw [← HWL.out]
            refine (inside_any _ _ _ _ hbx').mono ?_
            rintro e w' ⟨rfl, rfl⟩
            rw [decide_eq_true hin]
            obtain ⟨hin1, hin2⟩ := hin
            obtain ⟨p, rfl⟩ := Int.eq_ofNat_of_zero_le hin1
            have d0 : wl.cell? ⟨wr.heap.size, 0, none⟩ = some (.int .i64 (p : Int)) := by rw [HWL.out, (Blk.new wr _ _).cell]; rfl
            have d1 : wl.cell? ⟨wr.heap.size, 1, none⟩ = some (.slice xr.a xr.n xr.c) := by rw [HWL.out, (Blk.new wr _ _).cell]; rfl
            have hzl : wr.heap.size < wl.heap.size := by rw [HWL.out]; simp
            have HCL := Lib.hid (clone_any xr.a xr.n xr.c xr.l wl.drew ((HRW.out.mono HBL.out).mono (Below.refl _ _).drew) (by have := HW.out ⟨p, xr⟩ (List.mem_of_getElem? HX.out); simp only at this; omega))
            have HIL := Lib.hid ((HI.out.mono HBL.out).mono (Below.refl wl.heap.size wl).drew)
            have HBB := Lib.hid ((HB.out.mono HBL.out).mono (Below.refl wl.heap.size wl).drew)
            have hpz : p < R.length := by rw [HRl.out]; omega
            go_wp2_with fail
            go_region_with (go_at_call 32; refine HCL.out.mono ?_; rintro e w1 ⟨v1, rfl, own1⟩; obtain ⟨A1, k1, rfl, sl1⟩ := own1.slice; have e0 : w1.cell? ⟨wr.heap.size, 0, none⟩ = some (.int .i64 (p : Int)) := (own1.below.cell (by exact hzl)).trans d0; have HI1 := Lib.hid (HIL.out.mono own1.below); have e3 := HI1.out.1.cell p; rw [List.getElem?_map, List.getElem?_eq_getElem hpz, Option.map_some] at e3; have ef := HI1.out.1.free p; have OWN1 := Lib.hid own1; clear own1; have SL1 := Lib.hid sl1; clear sl1)
            all_goals
              go_wp2
              go_roundw
              case rel =>
                refine ⟨k + 1, R.set p ⟨A1, xr.l.length, k1, xr.l⟩, by omega, by go_num, ?_, ?_, ?_, ?_⟩
                · rw [List.map_set, HR.out, imgTo_take size L k _ HX.out]
                  unfold imgPut
                  simp only
                  rw [if_pos ⟨by omega, by omega⟩, Int.toNat_natCast]
                · refine HI1.out.set p ⟨A1, xr.l.length, k1, xr.l⟩ SL1.out (fun b o h => ?_)
                  have := OWN1.out.block b o h
                  have h2 : wl.drew.heap.size = wl.heap.size := rfl
                  omega
                · exact (HBB.out.mono OWN1.out.below).far (p := ⟨w.heap.size + 1, p, none⟩) (by show w.heap.size ≠ w.heap.size + 1; omega) _
                · refine Below.setCell (p := ⟨w.heap.size + 1, p, none⟩) ?_ (by show w.heap.size ≤ w.heap.size + 1; omega) _
                  exact below_both (below_both hbel HBL.out).drew (OWN1.out.below)
              case measure => simp [intOf]; omega
          · go_wp2_with fail
            rw [← HWL.out]
            refine (inside_any _ _ _ _ hbx').mono ?_
            rintro e w' ⟨rfl, rfl⟩
            rw [decide_eq_false hin]
            go_wp2
            go_roundw
            case rel =>
              refine ⟨k + 1, R, by omega, by go_num, ?_, HI.out.mono HBL.out, HB.out.mono HBL.out, below_both hbel HBL.out⟩
              rw [HR.out, imgTo_take size L k _ HX.out]
              unfold imgPut
              simp only
              rw [if_neg hin]
            case measure => simp [intOf]; omega
        · obtain rfl : n = k := by omega
          have hfin : RetRows w (imgTo size L) (.returned (.slice (some ⟨w.heap.size + 1, 0, none⟩) size size)) wr := by
            have h := himg.bss (by rw [HRl.out]; simp only [maxLen]; omega)
            rw [HRl.out] at h
            refine ⟨_, _, _, R, rfl, h, ?_, hbel⟩
            rw [HR.out, List.take_of_length_le (by rw [HH.out.1]; omega)]
          have HF := Lib.hid hfin; clear hfin
          go_wp2
          go_ret
          exact HF.out
end Go.Proofs.Ytbmijjodpdbbmaa
