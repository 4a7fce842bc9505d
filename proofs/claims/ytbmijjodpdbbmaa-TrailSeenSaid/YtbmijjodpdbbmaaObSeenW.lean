import Derived.Test.YtbmijjodpdbbmaaObPlaceR
namespace Go.Proofs.Ytbmijjodpdbbmaa
open Go.RowKit Go.Maps
set_option linter.unusedVariables false

/-! ### is a number among others? (the library's) -/
theorem slIndex_any (A : Option Addr) (n c : Nat) (l : List Int) (x : Int) (w : World) (h : Is w A n c l) :
    Calls Try.prog 60 #[.slice A n c, .int .i64 x] w fun e w' => ∃ r : Int, e = .returned (.int .i64 r) ∧ decide (0 ≤ r) = l.contains x ∧ w = w' := by
  have hmax := h.max
  have hcap := h.cap
  have HL := Lib.hid h.len
  have HH := Lib.hid h; clear h
  go_enter Try.func60, Try.ntmps60
  go_wp2
  go_loopw [8] (fun i wr => ∃ k : Nat, k ≤ n ∧ i = .int .i64 k ∧ wr = w ∧ (l.take k).contains x = false) (fun i _ => n - (intOf i).toNat)
  case atStart => exact ⟨0, Nat.zero_le _, rfl, rfl, rfl⟩
  case round =>
    obtain ⟨k, hk, rfl, rfl, hno⟩ := hrel
    have HN := Lib.hid hno; clear hno
    by_cases hlt : k < n
    · obtain ⟨b, o, rfl, hc⟩ := HH.out.addr (by omega)
      have hkl : k < l.length := by rw [HL.out]; exact hlt
      have c1 := hc k hlt
      have hg : iAt l k = l[k] := by unfold iAt; rw [List.getD_eq_getElem?_getD, List.getElem?_eq_getElem hkl]; rfl
      have HT : Hid (l.take (k + 1) = l.take k ++ [iAt l k]) := by rw [hg]; exact List.take_succ_eq_append_getElem hkl
      have HME : Hid (iAt l k ∈ l) := by rw [hg]; exact List.getElem_mem hkl
      clear hc hg
      generalize iAt l k = y at *
      by_cases he : x = y
      · subst he
        have HE : Hid (l.contains x = true) := List.contains_iff_mem.2 HME.out
        have t1 : (x == x) = true := by simp
        go_wp2
        go_ret
        exact ⟨k, rfl, by rw [HE.out]; simp, rfl⟩
      · have t1 : (x == y) = false := by simpa using he
        have HE : Hid ((l.take (k + 1)).contains x = false) := by
          rw [HT.out, List.contains_append, HN.out]
          simp
          exact he
        clear he
        go_wp2
        go_roundw
        case rel => exact ⟨k + 1, by omega, by go_num, by first | trivial | rfl, HE.out⟩
        case measure => simp [intOf]; omega
    · obtain rfl : n = k := by omega
      have HE : Hid (l.contains x = false) := by have := HN.out; rwa [List.take_of_length_le (by rw [HL.out]; omega)] at this
      go_wp2
      go_ret
      exact ⟨-1, rfl, by rw [HE.out]; rfl, rfl⟩
theorem slContains_any (A : Option Addr) (n c : Nat) (l : List Int) (x : Int) (w : World) (h : Is w A n c l) :
    Calls Try.prog 40 #[.slice A n c, .int .i64 x] w fun e w' => e = .returned (.bool (l.contains x)) ∧ w = w' := by
  have HH := Lib.hid h; clear h
  go_enter Try.func40, Try.ntmps40
  go_wp2_with (go_at_call 60; refine (slIndex_any A n c l x _ HH.out).mono ?_; rintro e w' ⟨r, rfl, hr, rfl⟩)
  go_ret
  exact ⟨ret_bool (by rw [List.contains_eq_mem]), rfl⟩

/-- covert: the closure's slice lies in a box. -/
theorem covert_any (p : Nat) (xp : Int) (r : BRow) (B : Option Addr) (m d : Nat) (H : List Int) (w : World) (hp : w.cell? ⟨p, 0, none⟩ = some (.slice B m d)) (hH : Is w B m d H) :
    Calls Try.prog 39 #[.agg #[.int .i64 xp, .slice r.a r.n r.c], .pointer (some ⟨p, 0, none⟩)] w fun e w' => e = .returned (.bool (H.contains xp)) ∧ Below w.heap.size w w' := by
  have hlt := World.block_lt_of_cell? w _ hp
  have HH := Lib.hid hH; clear hH
  go_enter Try.func39, Try.ntmps39
  go_wp2_with (go_at_call 40; refine (slContains_any B m d H xp _ (by exact HH.out.mono ((Below.refl _ _).alloc (Nat.le_refl _) _))).mono ?_; rintro e w' ⟨rfl, rfl⟩)
  go_ret
  exact ⟨ret_bool (by rw [List.contains_eq_mem]), (Below.refl _ _).alloc (Nat.le_refl _) _⟩
end Go.Proofs.Ytbmijjodpdbbmaa
