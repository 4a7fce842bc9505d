import Derived.Test.YtbmijjodpdbbmaaObMoreW
namespace Go.Proofs.Ytbmijjodpdbbmaa
open Go.RowKit Go.Maps
set_option linter.unusedVariables false

theorem rows_k {w w' : World} {A B : Option Addr} {n m c d : Nat} {L M : List Wr} {q : Nat} (h : Wrs w A n c L) (h' : Wrs w' B m d M) (hk : M.map Wr.k = L.map Wr.k) (hr : ∀ x ∈ L, x.r.n ≤ q) : ∀ x ∈ M, x.r.n ≤ q := by
  intro x hx
  have hm : x.k ∈ L.map Wr.k := hk ▸ List.mem_map_of_mem hx
  obtain ⟨y, hy, e⟩ := List.mem_map.1 hm
  have e2 : y.r.l = x.r.l := congrArg Prod.snd e
  have l1 := (h'.2.2 x hx).1.len
  have l2 := (h.2.2 y hy).1.len
  have := hr y hy
  rw [e2] at l2
  omega
theorem light_of {L : List Wr} (h : lightL L = true) : L.length ≤ 60 ∧ ∀ x ∈ L, x.r.n ≤ 600 := by
  unfold lightL at h
  rw [Bool.and_eq_true] at h
  exact ⟨by simpa using h.1, fun x hx => by have := List.all_eq_true.1 h.2 x hx; simpa using this⟩

set_option maxHeartbeats 1000000 in
theorem trailMore_walk (A : Option Addr) (n c : Nat) (L : List Wr) (size m : Int) (w : World) (h : Wrs w A n c L) :
    Calls Try.prog 4 #[.slice A n c, .int .i64 size, .int .i64 m] w fun e w' => e = .returned (.bool true) ∧ Below w.heap.size w w' := by
  have hmax := h.2.1.max
  have hcap := h.2.1.cap
  have HL := Lib.hid h.1
  have HH := Lib.hid h; clear h
  cases hlight : lightL L with
  | false =>
    go_enter Try.func4, Try.ntmps4
    go_wp2_with (first
      | (go_at_call 7; refine (light_any A n c L _ HH.out).mono ?_; rintro e w' ⟨rfl, rfl⟩)
      | (go_at_call 8; refine (alive20_any _).mono ?_; rintro e w' ⟨rfl, hb⟩))
    go_ret
    exact ⟨rfl, hb⟩
  | true =>
    by_cases s1 : size < 1
    · have t1 : decide (size < 1) = true := decide_eq_true s1
      go_enter Try.func4, Try.ntmps4
      go_wp2_with (first
        | (go_at_call 7; refine (light_any A n c L _ HH.out).mono ?_; rintro e w' ⟨rfl, rfl⟩)
        | (go_at_call 8; refine (alive20_any _).mono ?_; rintro e w' ⟨rfl, hb⟩))
      go_ret
      exact ⟨rfl, hb⟩
    have t1 : decide (size < 1) = false := decide_eq_false s1
    by_cases s2 : 20 < size
    · have t2 : decide (20 < size) = true := decide_eq_true s2
      go_enter Try.func4, Try.ntmps4
      go_wp2_with (first
        | (go_at_call 7; refine (light_any A n c L _ HH.out).mono ?_; rintro e w' ⟨rfl, rfl⟩)
        | (go_at_call 8; refine (alive20_any _).mono ?_; rintro e w' ⟨rfl, hb⟩))
      go_ret
      exact ⟨rfl, hb⟩
    have t2 : decide (20 < size) = false := decide_eq_false s2
    by_cases s3 : m < 0
    · have t3 : decide (m < 0) = true := decide_eq_true s3
      go_enter Try.func4, Try.ntmps4
      go_wp2_with (first
        | (go_at_call 7; refine (light_any A n c L _ HH.out).mono ?_; rintro e w' ⟨rfl, rfl⟩)
        | (go_at_call 8; refine (alive20_any _).mono ?_; rintro e w' ⟨rfl, hb⟩))
      go_ret
      exact ⟨rfl, hb⟩
    have t3 : decide (m < 0) = false := decide_eq_false s3
    by_cases s4 : (n : Int) < m
    · have t4 : decide ((n : Int) < m) = true := decide_eq_true s4
      go_enter Try.func4, Try.ntmps4
      go_wp2_with (first
        | (go_at_call 7; refine (light_any A n c L _ HH.out).mono ?_; rintro e w' ⟨rfl, rfl⟩)
        | (go_at_call 8; refine (alive20_any _).mono ?_; rintro e w' ⟨rfl, hb⟩))
      go_ret
      exact ⟨rfl, hb⟩
    have t4 : decide ((n : Int) < m) = false := decide_eq_false s4
    obtain ⟨S, rfl⟩ := Int.eq_ofNat_of_zero_le (show 0 ≤ size by omega)
    obtain ⟨k, rfl⟩ := Int.eq_ofNat_of_zero_le (show 0 ≤ m by omega)
    have HLi := Lib.hid (light_of hlight)
    have hn : n ≤ 60 := by have := HLi.out.1; rw [HL.out] at this; exact this
    have HR : Hid (∀ x ∈ L, x.r.n ≤ 20000) := fun x hx => by have := HLi.out.2 x hx; omega
    have hmm : (max 0 (min (k : Int) (n : Int))).toNat = k := by omega
    have HMM := Lib.hid hmm; clear hmm
    obtain ⟨A', hA', hfrom⟩ := run_from tWr A n c k (by omega) hcap
    have HF := Lib.hid (HH.out.from (show k ≤ n by omega) hA')
    go_enter Try.func4, Try.ntmps4
    go_wp2_with (go_at_call 7; refine (light_any A n c L _ HH.out).mono ?_; rintro e w' ⟨rfl, rfl⟩)
    refine (upto_any A n c L k _ HH.out (by omega) HR.out).mono ?_
    rintro e w1 ⟨A1, n1, c1, M, rfl, hM, hk1, b1⟩
    rw [HMM.out] at hk1
    have HM1 : Hid (∀ x ∈ M, x.r.n ≤ 20000) := rows_k (HH.out.upto (show k ≤ n by omega)) hM hk1 (fun x hx => HR.out x (List.mem_of_mem_take hx))
    go_wp2_with fail
    refine (image_yes A1 n1 c1 M S _ hM (by omega) (by omega) HM1.out).mono ?_
    rintro e w2 ⟨A2, n2, c2, R2, rfl, hR2, hi2, b2⟩
    have b12 := b1.trans (b2.mono b1.size)
    rw [imgTo_k S hk1] at hi2
    clear HM1 hM hk1 b2
    go_wp2_with fail
    refine (image_yes A n c L S _ (HH.out.mono b12) (by omega) (by omega) HR.out).mono ?_
    rintro e w3 ⟨A3, n3, c3, R3, rfl, hR3, hi3, b3⟩
    have b13 := b12.trans (b3.mono b12.size)
    have hR2' := hR2.mono b3
    have l2 : n2 = S := by rw [← hR2.len, ← imgTo_len S (L.take k), ← hi2, List.length_map]
    have l3 : n3 = S := by rw [← hR3.len, ← imgTo_len S L, ← hi3, List.length_map]
    obtain rfl := l2
    obtain rfl := l3
    go_wp2_with fail
    refine (diff_any A2 A3 _ _ c2 c3 R2 R3 w3 hR2' hR3 (by omega) (by omega)).mono ?_
    rintro e w4 ⟨v4, rfl, own4⟩
    rw [show bytesOf R2 = _ from hi2, show bytesOf R3 = _ from hi3] at own4
    obtain ⟨A4, c4, rfl, s4⟩ := own4.slice
    have b14 := b13.trans (own4.below.mono b13.size)
    clear own4 b13 b12 hi2 hi3 hR2 hR3 hR2' b3
    go_wp2_with fail
    refine (places_any A' _ _ (L.drop k) _ (HF.out.mono b14) (by omega)).mono ?_
    rintro e w5 ⟨v5, rfl, own5⟩
    obtain ⟨A5, c5, rfl, s5⟩ := own5.slice
    have b15 := b14.trans (own5.below.mono b14.size)
    have s4' : Is w5 A4 _ c4 _ := s4.mono own5.below
    have s5' : Is w5 A5 _ c5 (sortU ((L.drop k).map Wr.p)) := s5
    clear own5 s4 s5 b14
    have HMEM := Lib.hid (fun z hz => more_mem n3 L k z hz)
    generalize diffL (imgTo n3 (L.take k)) (imgTo n3 L) = D at *
    generalize sortU ((L.drop k).map Wr.p) = Pl at *
    have md := Sl.max s4'
    have cd := Sl.cap s4'
    have HS4 := Lib.hid s4'; have HS5 := Lib.hid s5'; have HB5 := Lib.hid b15
    clear s4' s5' b15 b1 hfrom t1 t2 t3 t4 hA' HMM
    go_wp2
    go_loopw [9] (fun i wr => ∃ j : Nat, j ≤ D.length ∧ i = .int .i64 j ∧ wr = w5) (fun i _ => D.length - (intOf i).toNat)
    case atStart => exact ⟨0, Nat.zero_le _, rfl, rfl⟩
    case round =>
      obtain ⟨j, hj, rfl, rfl⟩ := hrel
      by_cases hlt : j < D.length
      · obtain ⟨b, o, rfl, hc⟩ := Is.addr HS4.out (by omega)
        have c1 := hc j hlt
        clear hc
        have HC : Hid (Pl.contains (iAt D j) = true) := by
          refine List.contains_iff_mem.2 (HMEM.out _ ?_)
          unfold iAt
          rw [List.getD_eq_getElem?_getD, List.getElem?_eq_getElem hlt]
          exact List.getElem_mem hlt
        go_wp2_with (go_at_call 20; refine (refHas_any A5 _ c5 Pl _ _ HS5.out).mono ?_; rintro e w' ⟨rfl, rfl⟩; rw [HC.out])
        go_roundw
        case rel => exact ⟨j + 1, by omega, by go_num, by first | trivial | rfl⟩
        case measure => simp [intOf]; omega
      · obtain rfl : j = D.length := by omega
        go_wp2_with fail
        refine (image_yes A n c L n3 _ (HH.out.mono HB5.out) (by omega) (by omega) HR.out).mono ?_
        rintro e w6 ⟨A6, n6, c6, R6, rfl, hR6, hi6, b6⟩
        have b16 := HB5.out.trans (b6.mono HB5.out.size)
        clear b6
        go_wp2_with fail
        refine (image_yes A n c L n3 _ (HH.out.mono b16) (by omega) (by omega) HR.out).mono ?_
        rintro e w7 ⟨A7, n7, c7, R7, rfl, hR7, hi7, b7⟩
        have b17 := b16.trans (b7.mono b16.size)
        have hR6' := hR6.mono b7
        have HN6 : Hid (n6 ≤ 60000 ∧ n7 ≤ 60000) := by
          have l6 : n6 = n3 := by rw [← hR6.len, ← imgTo_len n3 L, ← hi6, List.length_map]
          have l7 : n7 = n3 := by rw [← hR7.len, ← imgTo_len n3 L, ← hi7, List.length_map]
          exact ⟨by omega, by omega⟩
        clear b7 b16
        go_wp2_with fail
        refine (diff_any A6 A7 _ _ c6 c7 R6 R7 _ hR6' hR7 HN6.out.1 HN6.out.2).mono ?_
        rintro e w8 ⟨v8, rfl, own8⟩
        rw [show bytesOf R6 = _ from hi6, show bytesOf R7 = _ from hi7, diffL_self] at own8
        obtain ⟨A8, c8, rfl, s8⟩ := own8.slice
        have b18 := b17.trans (own8.below.mono b17.size)
        have hl8 : (([] : List Int).length) = 0 := rfl
        clear own8 s8 b17 hR6 hR6' hR7 hi6 hi7
        go_wp2_with (go_at_call 8; refine (alive20_any _).mono ?_; rintro e w' ⟨rfl, hb⟩)
        go_ret
        exact ⟨rfl, b18.trans (hb.mono b18.size)⟩
end Go.Proofs.Ytbmijjodpdbbmaa
