import Derived.Test.YtbmijjodpdbbmaaObCopyW
namespace Go.Proofs.Ytbmijjodpdbbmaa
open Go.RowKit Go.Maps
set_option linter.unusedVariables false

/-! ### parts of rows of writes -/
theorem cells_take : ∀ (L : List Wr) (k : Nat), (L.take k).flatMap Wr.cells = (L.flatMap Wr.cells).take (k * 2)
  | [], k => by simp
  | x :: L, 0 => by simp
  | x :: L, k + 1 => by
    rw [List.take_succ_cons, List.flatMap_cons, List.flatMap_cons, cells_take L k, Nat.add_mul]
    simp [Wr.cells]
theorem cells_drop : ∀ (L : List Wr) (k : Nat), (L.drop k).flatMap Wr.cells = (L.flatMap Wr.cells).drop (k * 2)
  | [], k => by simp
  | x :: L, 0 => by simp
  | x :: L, k + 1 => by
    rw [List.drop_succ_cons, List.flatMap_cons, cells_drop L k, Nat.add_mul]
    simp [Wr.cells]
theorem Wrs.upto {w : World} {A : Option Addr} {n c : Nat} {L : List Wr} (h : Wrs w A n c L) {k : Nat} (hk : k ≤ n) : Wrs w A k c (L.take k) := by
  obtain ⟨h1, ⟨s1, s2, s3, s4⟩, h3⟩ := h
  refine ⟨by rw [List.length_take]; omega, ⟨?_, by omega, s3, fun hp => ?_⟩, fun x hx => h3 x (List.mem_of_mem_take hx)⟩
  · rw [cells_take, List.length_take, s1]; omega
  · obtain ⟨b, o, e, hc⟩ := s4 (by omega)
    refine ⟨b, o, e, fun j u hu => hc j u ?_⟩
    rw [cells_take] at hu
    have hj := (List.getElem?_eq_some_iff.1 hu).1
    rw [List.length_take] at hj
    rw [List.getElem?_take_of_lt (by omega)] at hu
    exact hu
theorem Wrs.from {w : World} {A A' : Option Addr} {n c : Nat} {L : List Wr} (h : Wrs w A n c L) {k : Nat} (hk : k ≤ n) (hA : k < n → ∀ b o, A = some ⟨b, o, none⟩ → A' = some ⟨b, o + k * 2, none⟩) : Wrs w A' (n - k) (c - k) (L.drop k) := by
  obtain ⟨h1, ⟨s1, s2, s3, s4⟩, h3⟩ := h
  refine ⟨by rw [List.length_drop]; omega, ⟨?_, by omega, by omega, fun hp => ?_⟩, fun x hx => h3 x (List.mem_of_mem_drop hx)⟩
  · rw [cells_drop, List.length_drop, s1, Nat.sub_mul]
  · obtain ⟨b, o, e, hc⟩ := s4 (by omega)
    refine ⟨b, o + k * 2, hA (by omega) b o e, fun j u hu => ?_⟩
    rw [cells_drop, List.getElem?_drop] at hu
    rw [Nat.add_assoc]
    exact hc _ u hu

/-! ### the first ones, copied -/
theorem upto_any (A : Option Addr) (n c : Nat) (L : List Wr) (m : Int) (w : World) (h : Wrs w A n c L) (hn : n ≤ 1048576) (hrow : ∀ x ∈ L, x.r.n ≤ 20000) :
    Calls Try.prog 13 #[.slice A n c, .int .i64 m] w (RetWrs w (L.take (max 0 (min m n)).toNat)) := by
  have hcap := h.2.1.cap
  have hmax := h.2.1.max
  obtain ⟨k, hk⟩ : ∃ k : Nat, max 0 (min m (n : Int)) = k := ⟨(max 0 (min m (n : Int))).toNat, by omega⟩
  have hkn : k ≤ n := by omega
  have hsl := fun w => run_upto tWr A n c k (by omega) w
  have HU := Lib.hid (h.upto hkn); clear h
  have HW := Lib.hid hrow; clear hrow
  rw [hk]
  simp only [Int.toNat_natCast]
  go_enter Try.func13, Try.ntmps13
  go_wp2_with (go_at_call 34; refine (copied_any A k c (L.take k) _ HU.out (by omega) (fun x hx => HW.out x (List.mem_of_mem_take hx))).mono ?_; rintro e w' ⟨A1, n1, c1, M, rfl, hr⟩)
  go_ret
  exact ⟨A1, n1, c1, M, rfl, hr⟩

theorem refHas_any (A : Option Addr) (n c : Nat) (l : List Int) (x : Int) (w : World) (h : Is w A n c l) :
    Calls Try.prog 20 #[.slice A n c, .int .i64 x] w fun e w' => e = .returned (.bool (l.contains x)) ∧ w = w' := by
  have hmax := h.max
  have hcap := h.cap
  have HL := Lib.hid h.len
  have HH := Lib.hid h; clear h
  go_enter Try.func20, Try.ntmps20
  go_wp2
  go_loopw [5] (fun i wr => ∃ k : Nat, k ≤ n ∧ i = .int .i64 k ∧ wr = w ∧ (l.take k).contains x = false) (fun i _ => n - (intOf i).toNat)
  case atStart => exact ⟨0, Nat.zero_le _, rfl, rfl, rfl⟩
  case round =>
    obtain ⟨k, hk, rfl, rfl, hno⟩ := hrel
    have HN := Lib.hid hno; clear hno
    by_cases hlt : k < n
    · obtain ⟨b, o, rfl, hc⟩ := HH.out.addr (by omega)
      have hkl : k < l.length := by rw [HL.out]; exact hlt
      have c1 := hc k hlt
      have hg : iAt l k = l[k] := by unfold iAt; rw [List.getD_eq_getElem?_getD, List.getElem?_eq_getElem hkl]; rfl
      have HT : Hid (l.take (k + 1) = l.take k ++ [iAt l k]) := by rw [hg]; exact List.take_succ_eq_append_getElem hkl
      have HME : Hid (iAt l k ∈ l) := by rw [hg]; exact List.getElem_mem hkl
      clear hc hg
      generalize iAt l k = y at *
      by_cases he : y = x
      · subst he
        have HE : Hid (l.contains y = true) := List.contains_iff_mem.2 HME.out
        go_wp2
        go_ret
        exact ⟨ret_bool HE.out.symm, rfl⟩
      · have t1 : (y == x) = false := by simpa using he
        have HE : Hid ((l.take (k + 1)).contains x = false) := by
          rw [HT.out, List.contains_append, HN.out]
          simp
          exact fun h => he h.symm
        clear he
        go_wp2
        go_roundw
        case rel => exact ⟨k + 1, by omega, by go_num, by first | trivial | rfl, HE.out⟩
        case measure => simp [intOf]; omega
    · obtain rfl : n = k := by omega
      have HE : Hid (l.contains x = false) := by have := HN.out; rwa [List.take_of_length_le (by rw [HL.out]; omega)] at this
      go_wp2
      go_ret
      exact ⟨ret_bool HE.out.symm, rfl⟩

/-! ### the image of more writes -/
theorem imgPut_far (size : Nat) (I : List (List UInt8)) (x : Wr) (i : Nat) (h : x.p ≠ i) : (imgPut size I x)[i]? = I[i]? := by
  unfold imgPut
  split
  · rename_i h2
    rw [List.getElem?_set_ne (by omega)]
  · rfl
theorem imgFold_far (size : Nat) (i : Nat) : ∀ (M : List Wr) (I : List (List UInt8)), (∀ x ∈ M, x.p ≠ i) → (M.foldl (imgPut size) I)[i]? = I[i]?
  | [], I, _ => rfl
  | x :: M, I, h => by
    rw [List.foldl_cons, imgFold_far size i M _ (fun y hy => h y (List.mem_cons_of_mem _ hy)), imgPut_far size I x i (h x List.mem_cons_self)]
theorem more_mem (size : Nat) (L : List Wr) (n : Nat) (z : Int) (h : z ∈ diffL (imgTo size (L.take n)) (imgTo size L)) : z ∈ sortU ((L.drop n).map Wr.p) := by
  rw [sortU_mem]
  unfold diffL diffTo at h
  obtain ⟨i, hi, rfl⟩ := List.mem_map.1 h
  have hu := (List.mem_filter.1 hi).2
  by_cases hm : (i : Int) ∈ (L.drop n).map Wr.p
  · exact hm
  · exfalso
    have hsame : (imgTo size L)[i]? = (imgTo size (L.take n))[i]? := by
      have e : imgTo size L = (L.drop n).foldl (imgPut size) (imgTo size (L.take n)) := by
        unfold imgTo
        rw [← List.foldl_append, List.take_append_drop]
      rw [e]
      exact imgFold_far size i _ _ (fun x hx he => hm (he ▸ List.mem_map_of_mem hx))
    unfold unlike at hu
    rw [hsame] at hu
    simp at hu
theorem imgTo_k (size : Nat) {L M : List Wr} (h : M.map Wr.k = L.map Wr.k) : imgTo size M = imgTo size L := by
  have e : ∀ (K : List Wr) (I : List (List UInt8)), K.foldl (imgPut size) I = (K.map Wr.k).foldl (fun I (p : Int × List UInt8) => if 0 ≤ p.1 ∧ p.1 < (size : Int) then I.set p.1.toNat p.2 else I) I := by
    intro K
    induction K with
    | nil => intro I; rfl
    | cons x K ih => intro I; rw [List.foldl_cons, ih]; rfl
  unfold imgTo
  rw [e, e, h]
end Go.Proofs.Ytbmijjodpdbbmaa
