import Derived.Test.YtbmijjodpdbbmaaObSeenW
namespace Go.Proofs.Ytbmijjodpdbbmaa
open Go.RowKit Go.Maps
set_option linter.unusedVariables false

/-! ### writes cloned, some left out (the library's) -/
def OwnW (w w' : World) (v : Value) (L : List Wr) : Prop := Own w w' 46 2 v L.length (L.flatMap Wr.cells)
theorem one_wrs (L : List Wr) : ∀ u ∈ L.flatMap Wr.cells, u.oneCell' = true := by
  intro u hu
  obtain ⟨x, _, hx⟩ := List.mem_flatMap.1 hu
  exact x.one u hx
set_option maxHeartbeats 400000 in
theorem cloneW_any (A : Option Addr) (n c : Nat) (L : List Wr) (w : World) (h : Wrs w A n c L) (hn : n ≤ 1048576) :
    Calls Try.prog 42 #[.slice A n c] w fun e w' => ∃ v, e = .returned v ∧ OwnW w w' v L := by
  have HL := Lib.hid h.1
  have HN := Lib.hid hn; clear hn
  have HA := Lib.hid h.2.1; clear h
  cases A with
  | none =>
    have hnil := fun w => run_eql_slice_nil (P := Try.prog) w 22 46 none n c Try.underlying22
    go_enter Try.func42, Try.ntmps42
    go_wp2
    go_ret
    have : n = 0 := by
      rcases Nat.eq_zero_or_pos n with h | h
      · exact h
      · obtain ⟨_, _, h, _⟩ := HA.out.addr h; cases h
    have : L = [] := List.eq_nil_of_length_eq_zero (by rw [HL.out]; exact this)
    subst this
    exact ⟨_, rfl, Own.nil _ _ _⟩
  | some ad =>
    have hnil := fun w => run_eql_slice_nil (P := Try.prog) w 22 46 (some ad) n c Try.underlying22
    have hblk : ∀ w : World, Own w (w.alloc (.cells #[] 46)) 46 2 (.slice (some ⟨w.heap.size, 0, none⟩) 0 0) 0 [] := fun w =>
      (Blk.new w 46 #[]).own (Nat.le_refl _) ((Below.refl _ _).alloc (Nat.le_refl _) _) rfl (Nat.zero_le _)
    have HB := Lib.hid hblk; clear hblk
    go_enter Try.func42, Try.ntmps42
    go_wp2_with (at_builtin; refine wpList_cat rfl (.tmp 5) (.tmp 6) 22 rfl tWr rfl (HB.out w) rfl (HA.out.mono ((Below.refl _ _).alloc (Nat.le_refl _) _)) (one_wrs L) (by have := HN.out; omega) ?_; intro v1 w1 o1)
    go_ret
    exact ⟨_, rfl, by unfold OwnW; rw [HL.out]; simpa using o1⟩

/-- The place of the first write that is covert; -1: there is none. -/
def hid1 (H : List Int) (x : Wr) : Bool := H.contains x.p
def firstW (H : List Int) (L : List Wr) (r : Int) : Prop := (r = -1 ∧ L.all (fun x => !hid1 H x) = true) ∨ ∃ k : Nat, r = k ∧ k < L.length ∧ (L.take k).all (fun x => !hid1 H x) = true ∧ ∃ x, L[k]? = some x ∧ hid1 H x = true
set_option maxHeartbeats 400000 in
theorem indexW_any (A : Option Addr) (n c : Nat) (L : List Wr) (p : Nat) (B : Option Addr) (m d : Nat) (H : List Int) (w : World) (h : Wrs w A n c L) (hp : w.cell? ⟨p, 0, none⟩ = some (.slice B m d)) (hH : Is w B m d H) :
    Calls Try.prog 61 #[.slice A n c, .func (.func 39) #[] #[.pointer (some ⟨p, 0, none⟩)]] w fun e w' => ∃ r, e = .returned (.int .i64 r) ∧ firstW H L r ∧ Below w.heap.size w w' := by
  have hmax := h.2.1.max
  have hcap := h.2.1.cap
  have hplt : p < w.heap.size := World.block_lt_of_cell? w _ hp
  have HL := Lib.hid h.1
  have HH := Lib.hid h; have HP := Lib.hid hp; have HI := Lib.hid hH; clear h hp hH
  go_enter Try.func61, Try.ntmps61
  go_wp2
  go_loopw [8] (fun i wr => ∃ k : Nat, k ≤ n ∧ i = .int .i64 k ∧ Below w.heap.size w wr ∧ (L.take k).all (fun x => !hid1 H x) = true) (fun i _ => n - (intOf i).toNat)
  case atStart => exact ⟨0, Nat.zero_le _, rfl, Below.refl _ _, rfl⟩
  case round =>
    obtain ⟨k, hk, rfl, hbel, hall⟩ := hrel
    have HA := Lib.hid hall; clear hall
    by_cases hlt : k < n
    · obtain ⟨b, o, ⟨xp, xr⟩, rfl, hx, c1, c2, hrow, hp1, hp2⟩ := (HH.out.mono hbel).row hlt
      simp only at c1 c2 hrow hp1 hp2
      have HX := Lib.hid hx; clear hx hrow
      have hcp : wr.cell? ⟨p, 0, none⟩ = some (.slice B m d) := (hbel.cell (p := ⟨p, 0, none⟩) hplt).trans HP.out
      have HC := Lib.hid (covert_any p xp xr B m d H wr hcp (HI.out.mono hbel)); clear hcp
      cases he : H.contains xp
      · have HT : Hid ((L.take (k + 1)).all (fun x => !hid1 H x) = true) := by
          have hk : k < L.length := (List.getElem?_eq_some_iff.1 HX.out).1
          have e1 := HX.out
          rw [List.getElem?_eq_getElem hk] at e1
          injection e1 with e1
          rw [List.take_succ_eq_append_getElem hk, List.all_append, HA.out, e1, List.all_cons, List.all_nil, Bool.and_true, Bool.true_and]
          show (!H.contains xp) = true
          rw [he]
          rfl
        rw [he] at HC
        clear he
        go_wp2_with (go_at_call 39; refine HC.out.mono ?_; rintro e w1 ⟨rfl, b1⟩)
        go_roundw
        case rel => exact ⟨k + 1, by omega, by go_num, hbel.trans (b1.mono hbel.size), HT.out⟩
        case measure => simp [intOf]; omega
      · have HF : Hid (firstW H L k) := .inr ⟨k, rfl, (List.getElem?_eq_some_iff.1 HX.out).1, HA.out, _, HX.out, he⟩
        rw [he] at HC
        clear he
        go_wp2_with (go_at_call 39; refine HC.out.mono ?_; rintro e w1 ⟨rfl, b1⟩)
        go_ret
        exact ⟨k, rfl, HF.out, hbel.trans (b1.mono hbel.size)⟩
    · obtain rfl : n = k := by omega
      have HF : Hid (firstW H L (-1)) := .inl ⟨rfl, by have := HA.out; rwa [List.take_of_length_le (by rw [HL.out]; omega)] at this⟩
      go_wp2
      go_ret
      exact ⟨-1, rfl, HF.out, hbel⟩
end Go.Proofs.Ytbmijjodpdbbmaa
