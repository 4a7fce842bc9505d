import Derived.Test.YtbmijjodpdbbmaaObOfW
namespace Go.Proofs.Ytbmijjodpdbbmaa
open Go.RowKit Go.Maps
set_option linter.unusedVariables false

/-- Rows of writes, in a row of the call's own. -/
def RetRowsIn (w : World) (L : List Wr) (K : List (List UInt8)) (e : Ending) (w' : World) : Prop := ∃ A n c R, e = .returned (.slice A n c) ∧ Bss w' A n c R ∧ R.map BRow.l = K ∧ Below w.heap.size w w' ∧ (∀ r ∈ R, ∃ x ∈ L, x.r = r) ∧ ∀ b o, A = some ⟨b, o, none⟩ → w.heap.size ≤ b ∧ b < w'.heap.size
set_option maxHeartbeats 1000000 in
theorem refOfIn_any (A : Option Addr) (n c : Nat) (L : List Wr) (p : Int) (w : World) (h : Wrs w A n c L) (hn : n ≤ 1048576) :
    Calls Try.prog 18 #[.slice A n c, .int .i64 p] w (RetRowsIn w L (ofL L p)) := by
  have hmax := h.2.1.max
  have hcap := h.2.1.cap
  have HL := Lib.hid h.1
  have HH := Lib.hid h; clear h
  go_enter Try.func18, Try.ntmps18
  go_wp2
  go_loopw [5, 6] (fun v i wr => ∃ (k : Nat) (R : List BRow), k ≤ n ∧ i = .int .i64 k ∧ Gath w wr 44 v R ∧ R.map BRow.l = ofL (L.take k) p ∧ ∀ r ∈ R, ∃ x ∈ L, x.r = r) (fun _ i _ => n - (intOf i).toNat)
  case atStart => exact ⟨0, [], Nat.zero_le _, rfl, Gath.nil _ _, rfl, fun r hr => by cases hr⟩
  case round =>
    obtain ⟨k, R, hk, rfl, hg, hR, hin⟩ := hrel
    have HIN := Lib.hid hin; clear hin
    have hRl : R.length ≤ k := by have h1 := congrArg List.length hR; have h2 := ofL_len L p k; rw [List.length_map] at h1; omega
    have HR := Lib.hid hR; clear hR
    have hbel := hg.1.below
    by_cases hlt : k < n
    · obtain ⟨b, o, ⟨xp, xr⟩, rfl, hx, c1, c2, hrow, hp1, hp2⟩ := (HH.out.mono hbel).row hlt
      simp only at c1 c2 hrow hp1 hp2
      have HS := Lib.hid (ofL_snoc L p k _ hx)
      have hold := (HH.out.2.2 _ (List.mem_of_getElem? hx)).1
      have HAP : Hid (Apart u5 xr) := Apart.old hg.1 hold
      have HX := Lib.hid hx; clear hx hold
      have HG := Lib.hid hg; clear hg
      have HRW := Lib.hid hrow; clear hrow
      by_cases he : xp = p
      · subst he
        have t1 : (xp == xp) = true := by simp
        go_wp2_with (at_builtin; refine wpList_pushG rfl _ _ 26 rfl tRows rfl HG.out.1 #[_] rfl rfl (by intro u hu; simp at hu; subst hu; rfl) (by omega) ?_; intro v2 w2 own2 kept2)
        go_roundw
        case rel =>
          refine ⟨k + 1, R ++ [xr], by omega, by go_num, HG.out.push (r := xr) HRW.out HAP.out own2 kept2, ?_, fun r hr => ?_⟩
          · rw [HS.out, if_pos (by simp), List.map_append, HR.out]
            rfl
          · rcases List.mem_append.1 hr with hr | hr
            · exact HIN.out r hr
            · obtain rfl : r = xr := by simpa using hr
              exact ⟨_, List.mem_of_getElem? HX.out, rfl⟩
        case measure => simp [intOf]; omega
      · have t1 : (xp == p) = false := by simpa using he
        go_wp2
        go_roundw
        case rel =>
          refine ⟨k + 1, R, by omega, by go_num, HG.out, ?_, HIN.out⟩
          rw [HS.out, if_neg (by simpa using he), HR.out]
        case measure => simp [intOf]; omega
    · obtain rfl : n = k := by omega
      obtain ⟨A', c', rfl, hs⟩ := hg.bss
      have HF : Hid (RetRowsIn w L (ofL L p) (.returned (.slice A' R.length c')) wr) := ⟨_, _, _, R, rfl, hs, by rw [HR.out, List.take_of_length_le (by rw [HL.out]; omega)], hbel, HIN.out, fun b o e => hg.1.1.lt b (by rw [e]; rfl)⟩
      go_wp2
      go_ret
      exact HF.out
theorem refOf_any (A : Option Addr) (n c : Nat) (L : List Wr) (p : Int) (w : World) (h : Wrs w A n c L) (hn : n ≤ 1048576) :
    Calls Try.prog 18 #[.slice A n c, .int .i64 p] w (RetRows w (ofL L p)) := (refOfIn_any A n c L p w h hn).mono fun _ _ ⟨A', n', c', R, he, hs, hk, hb, _⟩ => ⟨A', n', c', R, he, hs, hk, hb⟩

/-! ### the image, place by place -/
def lastD (l : List (List UInt8)) : List UInt8 := l.getLast?.getD zeros512
theorem imgTo_at (size : Nat) (L : List Wr) (p : Nat) (hp : p < size) : ∀ k, k ≤ L.length → (imgTo size (L.take k))[p]? = some (lastD (ofL (L.take k) p)) := by
  intro k
  induction k with
  | zero =>
    intro _
    have : imgTo size (L.take 0) = List.replicate size zeros512 := rfl
    rw [this, List.getElem?_replicate, if_pos hp]
    rfl
  | succ k ih =>
    intro hk
    have hx : L[k]? = some L[k] := List.getElem?_eq_getElem (by omega)
    have h1 := ih (by omega)
    rw [imgTo_take size L k _ hx, ofL_snoc L p k _ hx]
    by_cases he : L[k].p = p
    · unfold imgPut
      rw [if_pos ⟨by omega, by omega⟩, if_pos (by simpa using he), he, Int.toNat_natCast, List.getElem?_set_self (by rw [imgTo_len]; exact hp)]
      simp [lastD]
    · rw [imgPut_far size _ _ p he, if_neg (by simpa using he)]
      exact h1
def imgRef (L : List Wr) (k : Nat) : List (List UInt8) := (List.range k).map fun (i : Nat) => lastD (ofL L i)
theorem imgRef_all (size : Nat) (L : List Wr) : imgRef L size = imgTo size L := by
  apply List.ext_getElem?
  intro i
  by_cases hi : i < size
  · have h := imgTo_at size L i hi L.length (Nat.le_refl _)
    rw [List.take_of_length_le (Nat.le_refl _)] at h
    rw [h]
    simp [imgRef, hi]
  · rw [List.getElem?_eq_none (by simp [imgRef]; omega), List.getElem?_eq_none (by rw [imgTo_len]; omega)]
theorem imgRef_snoc (L : List Wr) (k : Nat) : imgRef L (k + 1) = imgRef L k ++ [lastD (ofL L k)] := by unfold imgRef; rw [List.range_succ, List.map_append]; rfl
theorem imgRef_len (L : List Wr) (k : Nat) : (imgRef L k).length = k := by simp [imgRef]

set_option maxHeartbeats 1000000 in
theorem refImage_yes (A : Option Addr) (n c : Nat) (L : List Wr) (size : Nat) (w : World) (h : Wrs w A n c L) (h1 : 1 ≤ size) (h2 : size ≤ 1024) :
    Calls Try.prog 11 #[.slice A n c, .int .i64 size] w (RetRows w (imgTo size L)) := by
  have t1 : decide ((size : Int) < 1) = false := by simp; omega
  have t2 : decide (1024 < (size : Int)) = false := by simp; omega
  have hmax := h.2.1.max
  have hcap := h.2.1.cap
  have HL := Lib.hid h.1
  have HH := Lib.hid h; clear h
  go_enter Try.func11, Try.ntmps11
  go_wp2
  clear t1 t2
  have hmk : ∀ w : World, (Instr.makeSlice 44 (.int .i64 512) (.int .i64 512)).run Try.prog w = .ok (.slice (some ⟨w.heap.size, 0, none⟩) 512 512) (w.alloc (.cells (reps 512 (.int .u8 0)).toArray 5)) :=
    fun w => run_mk tBytes rfl 512 (by omega) w
  go_loopw [5, 6] (fun v i wr => ∃ (k : Nat) (R : List BRow), k ≤ size ∧ i = .int .i64 k ∧ Gath w wr 44 v R ∧ R.map BRow.l = imgRef L k) (fun _ i _ => size - (intOf i).toNat)
  case atStart => exact ⟨0, [], Nat.zero_le _, rfl, Gath.nil _ _, rfl⟩
  case round =>
    obtain ⟨k, R, hk, rfl, hg, hR⟩ := hrel
    have hRl : R.length = k := by have h1 := congrArg List.length hR; rw [List.length_map, imgRef_len] at h1; exact h1
    have HRL := Lib.hid hRl; clear hRl
    have HR := Lib.hid hR; clear hR
    have hbel := hg.1.below
    by_cases hlt : k < size
    · have HG := Lib.hid hg; clear hg
      go_wp2
      clear hmk
      obtain ⟨wl, hwl⟩ : ∃ wl, wl = wr.alloc (.cells (reps 512 (.int .u8 0)).toArray 5) := ⟨_, rfl⟩
      have hbl : Below wr.heap.size wr wl := by rw [hwl]; exact (Below.refl _ _).alloc (Nat.le_refl _) _
      have hz : Bs wl (some ⟨wr.heap.size, 0, none⟩) 512 512 zeros512 := by
        refine ⟨by rw [List.length_map, zeros512_len], Nat.le_refl _, by simp only [maxLen]; omega, fun _ => ⟨_, _, rfl, fun j u hu => ?_⟩⟩
        rw [Nat.zero_add, hwl, (Blk.new wr 5 (reps 512 (.int .u8 0)).toArray).cell]
        rw [zeros512_cells] at hu
        exact hu
      have hapz : Apart u5 ⟨some ⟨wr.heap.size, 0, none⟩, 512, 512, zeros512⟩ := fun b o _ e hv => by
        have h1 := (HG.out.1.1.lt b hv).2
        have e : (some ⟨wr.heap.size, 0, none⟩ : Option Addr) = some ⟨b, o, none⟩ := e
        injection e with e
        injection e with e
        omega
      have HZ := Lib.hid hz; have HAZ := Lib.hid hapz; clear hz hapz
      have HGL := Lib.hid (HG.out.mono hbl)
      have HBL := Lib.hid (hbel.trans (hbl.mono hbel.size))
      rw [← hwl]
      clear hwl hbl
      go_loopw [7, 8] (fun v i wq => ∃ (j : Nat) (ra : Option Addr) (rn rc : Nat) (rl : List UInt8), j ≤ n ∧ i = .int .i64 j ∧ v = .slice ra rn rc ∧ wq = wl ∧ Bs wl ra rn rc rl ∧ Apart u5 ⟨ra, rn, rc, rl⟩ ∧ rl = lastD (ofL (L.take j) k)) (fun _ i _ => n - (intOf i).toNat)
      case atStart => exact ⟨0, some ⟨wr.heap.size, 0, none⟩, 512, 512, zeros512, Nat.zero_le _, rfl, rfl, rfl, HZ.out, HAZ.out, rfl⟩
      case round =>
        obtain ⟨j, ra, rn, rc, rl, hj, rfl, rfl, rfl, hb1, hap1, hl1⟩ := hrel
        have HB1 := Lib.hid hb1; have HAP1 := Lib.hid hap1; have HL1 := Lib.hid hl1; clear hb1 hap1 hl1
        by_cases hlt2 : j < n
        · obtain ⟨b, o, ⟨xp, xr⟩, rfl, hx, c1, c2, hrow, hp1, hp2⟩ := (HH.out.mono HBL.out).row hlt2
          simp only at c1 c2 hrow hp1 hp2
          have HS := Lib.hid (ofL_snoc L k j _ hx)
          have hold := (HH.out.2.2 _ (List.mem_of_getElem? hx)).1
          have HAP : Hid (Apart u5 xr) := Apart.old HG.out.1 hold
          have HX := Lib.hid hx; clear hx hold
          have HRW := Lib.hid hrow; clear hrow
          by_cases he : xp = k
          · have HE : Hid (xr.l = lastD (ofL (L.take (j + 1)) k)) := by rw [HS.out, if_pos (by simpa using he)]; show xr.l = _; simp [lastD]
            subst he
            have t1 : ((k : Int) == (k : Int)) = true := by simp
            go_wp2
            go_roundw
            case rel => exact ⟨j + 1, xr.a, xr.n, xr.c, xr.l, by omega, by go_num, rfl, by first | trivial | rfl, HRW.out, HAP.out, HE.out⟩
            case measure => simp [intOf]; omega
          · have HE : Hid (rl = lastD (ofL (L.take (j + 1)) k)) := by rw [HS.out, if_neg (by simpa using he)]; exact HL1.out
            have t1 : (xp == (k : Int)) = false := by simpa using he
            clear he
            go_wp2
            go_roundw
            case rel => exact ⟨j + 1, ra, rn, rc, rl, by omega, by go_num, rfl, by first | trivial | rfl, HB1.out, HAP1.out, HE.out⟩
            case measure => simp [intOf]; omega
        · obtain rfl : n = j := by omega
          have HE : Hid (rl = lastD (ofL L k)) := by have := HL1.out; rwa [List.take_of_length_le (by rw [HL.out]; omega)] at this
          have hrl : R.length = k := HRL.out
          go_wp2_with (at_builtin; refine wpList_pushG rfl _ _ 26 rfl tRows rfl HGL.out.1 #[_] rfl rfl (by intro u hu; simp at hu; subst hu; rfl) (by omega) ?_; intro v2 w2 own2 kept2)
          go_roundw
          case rel =>
            refine ⟨k + 1, R ++ [⟨ra, rn, rc, rl⟩], by omega, by go_num, HGL.out.push (r := ⟨ra, rn, rc, rl⟩) HB1.out HAP1.out own2 kept2, ?_⟩
            rw [List.map_append, HR.out, imgRef_snoc, ← HE.out]
            rfl
          case measure => simp [intOf]; omega
    · obtain rfl : size = k := by omega
      obtain ⟨A', c', rfl, hs⟩ := hg.bss
      have HF : Hid (RetRows w (imgTo size L) (.returned (.slice A' R.length c')) wr) := ⟨_, _, _, R, rfl, hs, by rw [HR.out, imgRef_all], hbel⟩
      go_wp2
      go_ret
      exact HF.out

theorem refImage_no (A : Option Addr) (n c : Nat) (size : Int) (w : World) (h : size < 1 ∨ 1024 < size) :
    Calls Try.prog 11 #[.slice A n c, .int .i64 size] w (RetRows w []) := by
  have HF : Hid (RetRows w [] (.returned (.slice none 0 0)) w) := ⟨none, 0, 0, [], rfl, ⟨Sl.nil _ _, fun r hr => by cases hr⟩, rfl, Below.refl _ _⟩
  by_cases h1 : size < 1
  · have t1 : decide (size < 1) = true := decide_eq_true h1
    go_enter Try.func11, Try.ntmps11
    go_wp2
    go_ret
    exact HF.out
  · have t1 : decide (size < 1) = false := decide_eq_false h1
    have t2 : decide (1024 < size) = true := decide_eq_true (by omega)
    go_enter Try.func11, Try.ntmps11
    go_wp2
    go_ret
    exact HF.out
theorem image_no (A : Option Addr) (n c : Nat) (size : Int) (w : World) (h : size < 1 ∨ 1024 < size) :
    Calls Try.prog 10 #[.slice A n c, .int .i64 size] w (RetRows w []) := by
  have HF : Hid (∀ w', Below w.heap.size w w' → RetRows w [] (.returned (.slice none 0 0)) w') := fun w' hb => ⟨none, 0, 0, [], rfl, ⟨Sl.nil _ _, fun r hr => by cases hr⟩, rfl, hb⟩
  by_cases h1 : size < 1
  · have t1 : decide (size < 1) = true := decide_eq_true h1
    go_enter Try.func10, Try.ntmps10
    go_wp2
    go_ret
    exact HF.out _ ((Below.refl _ _).alloc (Nat.le_refl _) _)
  · have t1 : decide (size < 1) = false := decide_eq_false h1
    have t2 : decide (1024 < size) = true := decide_eq_true (by omega)
    go_enter Try.func10, Try.ntmps10
    go_wp2
    go_ret
    exact HF.out _ ((Below.refl _ _).alloc (Nat.le_refl _) _)
end Go.Proofs.Ytbmijjodpdbbmaa
