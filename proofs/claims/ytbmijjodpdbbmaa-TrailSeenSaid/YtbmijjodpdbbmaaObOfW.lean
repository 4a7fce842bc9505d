import Derived.Test.YtbmijjodpdbbmaaObMoreD
namespace Go.Proofs.Ytbmijjodpdbbmaa
open Go.RowKit Go.Maps
set_option linter.unusedVariables false

/-! ### are rows of bytes the same? -/
theorem diffL_nil {A B : List (List UInt8)} (h : diffL A B = []) : A = B := by
  apply List.ext_getElem?
  intro i
  by_cases hi : i < max A.length B.length
  · unfold diffL diffTo at h
    have h1 := List.map_eq_nil_iff.1 h
    have h2 := List.filter_eq_nil_iff.1 h1 i (List.mem_range.2 hi)
    unfold unlike at h2
    simpa using h2
  · rw [List.getElem?_eq_none (by omega), List.getElem?_eq_none (by omega)]

theorem refRows_any (A B : Option Addr) (n m c d : Nat) (L M : List BRow) (w : World) (ha : Bss w A n c L) (hb : Bss w B m d M) (hn : n ≤ 60000) (hm : m ≤ 60000) :
    Calls Try.prog 9 #[.slice A n c, .slice B m d] w fun e w' => e = .returned (.bool (bytesOf L == bytesOf M)) ∧ Below w.heap.size w w' := by
  have ma := ha.1.max
  have ca := ha.1.cap
  have mb := hb.1.max
  have cb := hb.1.cap
  have HA := Lib.hid ha; have HB := Lib.hid hb; clear ha hb
  by_cases hnm : n = m
  · subst hnm
    have t1 : ((n : Int) != (n : Int)) = false := by simp
    go_enter Try.func9, Try.ntmps9
    go_wp2_with fail
    refine (refDiff_any A B n n c d L M _ HA.out HB.out hn hm).mono ?_
    rintro e w1 ⟨v1, rfl, own1⟩
    obtain ⟨A1, c1, rfl, s1⟩ := own1.slice
    have HBE := Lib.hid own1.below
    clear own1 s1
    by_cases he : bytesOf L = bytesOf M
    · have HE : Hid ((bytesOf L == bytesOf M) = true) := beq_iff_eq.2 he
      have e0 : (diffL (bytesOf L) (bytesOf M)).length = 0 := by rw [he, diffL_self]; rfl
      clear he
      go_wp2
      go_ret
      exact ⟨ret_bool HE.out.symm, HBE.out⟩
    · have HE : Hid ((bytesOf L == bytesOf M) = false) := beq_eq_false_iff_ne.2 he
      have e0 : (((diffL (bytesOf L) (bytesOf M)).length : Int) == 0) = false := by
        rw [beq_eq_false_iff_ne]
        intro h
        exact he (diffL_nil (List.eq_nil_of_length_eq_zero (by omega)))
      clear he
      go_wp2
      go_ret
      exact ⟨ret_bool HE.out.symm, HBE.out⟩
  · have t1 : ((n : Int) != (m : Int)) = true := by rw [bne_iff_ne]; omega
    have HE : Hid ((bytesOf L == bytesOf M) = false) := by
      apply beq_eq_false_iff_ne.2
      intro h
      have := congrArg List.length h
      rw [bytesOf_len, bytesOf_len, HA.out.len, HB.out.len] at this
      exact hnm this
    go_enter Try.func9, Try.ntmps9
    go_wp2
    go_ret
    exact ⟨ret_bool HE.out.symm, Below.refl _ _⟩

/-! ### what was written at a place -/
def ofL (L : List Wr) (p : Int) : List (List UInt8) := (L.filter fun x => x.p == p).map fun x => x.r.l
theorem ofL_snoc (L : List Wr) (p : Int) (k : Nat) (x : Wr) (h : L[k]? = some x) : ofL (L.take (k + 1)) p = if x.p == p then ofL (L.take k) p ++ [x.r.l] else ofL (L.take k) p := by
  have hk : k < L.length := (List.getElem?_eq_some_iff.1 h).1
  rw [List.getElem?_eq_getElem hk] at h
  injection h with h
  rw [List.take_succ_eq_append_getElem hk, h]
  unfold ofL
  rw [List.filter_append, List.map_append]
  cases hp : (x.p == p) <;> simp [hp]
theorem ofL_len (L : List Wr) (p : Int) (k : Nat) : (ofL (L.take k) p).length ≤ k := by
  unfold ofL
  rw [List.length_map]
  exact Nat.le_trans (List.length_filter_le _ _) (List.length_take_le _ _)

set_option maxHeartbeats 1000000 in
theorem of_any (A : Option Addr) (n c : Nat) (L : List Wr) (p : Int) (w : World) (h : Wrs w A n c L) (hn : n ≤ 1048576) (hrow : ∀ x ∈ L, x.r.n ≤ 20000) :
    Calls Try.prog 17 #[.slice A n c, .int .i64 p] w (RetRows w (ofL L p)) := by
  have hmax := h.2.1.max
  have hcap := h.2.1.cap
  have HL := Lib.hid h.1
  have HH := Lib.hid h; clear h
  have HW := Lib.hid hrow; clear hrow
  go_enter Try.func17, Try.ntmps17
  go_wp2
  go_loopw [4, 9] (fun v i wr => ∃ (k : Nat) (R : List BRow), k ≤ n ∧ i = .int .i64 k ∧ Gath w wr 44 v R ∧ R.map BRow.l = ofL (L.take k) p) (fun _ i _ => n - (intOf i).toNat)
  case atStart => exact ⟨0, [], Nat.zero_le _, rfl, Gath.nil _ _, rfl⟩
  case round =>
    obtain ⟨k, R, hk, rfl, hg, hR⟩ := hrel
    have hRl : R.length ≤ k := by have h1 := congrArg List.length hR; have h2 := ofL_len L p k; rw [List.length_map] at h1; omega
    have HR := Lib.hid hR; clear hR
    have hbel := hg.1.below
    by_cases hlt : k < n
    · obtain ⟨b, o, ⟨xp, xr⟩, rfl, hx, c1, c2, hrow, hp1, hp2⟩ := (HH.out.mono hbel).row hlt
      simp only at c1 c2 hrow hp1 hp2
      have HS := Lib.hid (ofL_snoc L p k _ hx)
      have HX := Lib.hid hx; clear hx
      obtain ⟨wl, hwl⟩ : ∃ wl, wl = wr.alloc (.cells #[.int .i64 xp, .slice xr.a xr.n xr.c] 46) := ⟨_, rfl⟩
      have hbl : Below wr.heap.size wr wl := by rw [hwl]; exact (Below.refl _ _).alloc (Nat.le_refl _) _
      have HCL := Lib.hid (clone_any xr.a xr.n xr.c xr.l wl (hrow.mono hbl) (by have := HW.out ⟨xp, xr⟩ (List.mem_of_getElem? HX.out); simp only at this; omega))
      have HG := Lib.hid (hg.mono hbl)
      have HWL := Lib.hid hwl; clear hwl hg hrow hbl
      by_cases he : xp = p
      · subst he
        have t1 : (xp == xp) = true := by simp
        go_wp2_with fail
        rw [← HWL.out]
        refine HCL.out.mono ?_
        rintro e w1 ⟨v1, rfl, own1⟩
        obtain ⟨A1, k1, rfl, sl1⟩ := own1.slice
        have HG1 := Lib.hid (HG.out.mono own1.below)
        have HAP : Hid (Apart u4 ⟨A1, xr.l.length, k1, xr.l⟩) := Apart.new HG.out.1 own1
        have HSL := Lib.hid sl1; clear own1 sl1
        go_wp2_with (at_builtin; refine wpList_pushG rfl _ _ 26 rfl tRows rfl HG1.out.1 #[_] rfl rfl (by intro u hu; simp at hu; subst hu; rfl) (by omega) ?_; intro v2 w2 own2 kept2)
        go_roundw
        case rel =>
          refine ⟨k + 1, R ++ [⟨A1, xr.l.length, k1, xr.l⟩], by omega, by go_num, HG1.out.push (r := ⟨A1, xr.l.length, k1, xr.l⟩) HSL.out HAP.out own2 kept2, ?_⟩
          rw [HS.out, if_pos (by simp), List.map_append, HR.out]
          rfl
        case measure => simp [intOf]; omega
      · have t1 : (xp == p) = false := by simpa using he
        go_wp2
        go_roundw
        case rel =>
          refine ⟨k + 1, R, by omega, by go_num, by rw [← HWL.out]; exact HG.out, ?_⟩
          rw [HS.out, if_neg (by simpa using he), HR.out]
        case measure => simp [intOf]; omega
    · obtain rfl : n = k := by omega
      obtain ⟨A', c', rfl, hs⟩ := hg.bss
      have HF : Hid (RetRows w (ofL L p) (.returned (.slice A' R.length c')) wr) := ⟨_, _, _, R, rfl, hs, by rw [HR.out, List.take_of_length_le (by rw [HL.out]; omega)], hbel⟩
      go_wp2
      go_ret
      exact HF.out
end Go.Proofs.Ytbmijjodpdbbmaa
