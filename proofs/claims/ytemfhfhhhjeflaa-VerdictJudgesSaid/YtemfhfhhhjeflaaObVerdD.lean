import Derived.Test.YtemfhfhhhjeflaaObVerdJ
namespace Go.Proofs.Ytemfhfhhhjeflaa
open Go.RowKit
set_option linter.unusedVariables false

set_option maxHeartbeats 1000000 in
theorem same39_self (g i : List UInt8) (e s : Int) (w : World) :
    Calls Try.prog 15 #[.agg #[.int .i64 4, .string ⟨g.toArray⟩, .string ⟨i.toArray⟩, .int .i64 e, .int .i64 0, .int .i64 0, .int .i64 s, .slice none 0 0], .agg #[.int .i64 4, .string ⟨g.toArray⟩, .string ⟨i.toArray⟩, .int .i64 e, .int .i64 0, .int .i64 0, .int .i64 s, .slice none 0 0]] w
      fun en w' => en = .returned (.bool true) ∧ Below w.heap.size w w' := by
  have e1 : (g == g) = true := by simp
  have e2 : (i == i) = true := by simp
  have e3 : (e == e) = true := by simp
  have e4 : (s == s) = true := by simp
  go_enter Try.func15, Try.ntmps15
  go_wp2_with fail
  refine (refSame_b none none 0 0 0 0 [] [] _ (Sl.nil _ _) (Sl.nil _ _)).mono ?_
  rintro en w1 ⟨rfl, b1⟩
  have b0 : Below w.heap.size w w1 := by
    refine Below.trans ?_ (b1.mono ?_)
    · exact ((Below.refl _ _).alloc (Nat.le_refl _) _).alloc (by simp) _
    · simp; omega
  have HB := Lib.hid b0; clear b0 b1
  go_wp2
  go_ret
  exact ⟨rfl, HB.out⟩

theorem Vds.row {w : World} {A : Option Addr} {n c : Nat} {L : List Vd} (h : Rs Vd.cells 8 w A n c L) {k : Nat} (hk : k < n) :
    ∃ b o x, A = some ⟨b, o, none⟩ ∧ L[k]? = some x ∧ ∀ wq, Below w.heap.size w wq →
      wq.cell? ⟨b, o + k * 8, none⟩ = some (.int .i64 4) ∧ wq.cell? ⟨b, o + k * 8 + 1, none⟩ = some (.string ⟨x.c.g.toArray⟩) ∧ wq.cell? ⟨b, o + k * 8 + 2, none⟩ = some (.string ⟨x.c.i.toArray⟩) ∧ wq.cell? ⟨b, o + k * 8 + 3, none⟩ = some (.int .i64 x.c.e) ∧
      wq.cell? ⟨b, o + k * 8 + 4, none⟩ = some (.int .i64 0) ∧ wq.cell? ⟨b, o + k * 8 + 5, none⟩ = some (.int .i64 0) ∧ wq.cell? ⟨b, o + k * 8 + 6, none⟩ = some (.int .i64 x.said) ∧ wq.cell? ⟨b, o + k * 8 + 7, none⟩ = some (.slice none 0 0) := by
  obtain ⟨b, o, x, e, hx, hc⟩ := Rs.row h Vd.cells_len hk
  refine ⟨b, o, x, e, hx, fun wq hq => ?_⟩
  have key : ∀ j u, x.cells[j]? = some u → wq.cell? ⟨b, o + k * 8 + j, none⟩ = some u := fun j u hu => (hq.cell (p := ⟨b, o + k * 8 + j, none⟩) (World.block_lt_of_cell? w _ (hc j u hu))).trans (hc j u hu)
  exact ⟨key 0 _ rfl, key 1 _ rfl, key 2 _ rfl, key 3 _ rfl, key 4 _ rfl, key 5 _ rfl, key 6 _ rfl, key 7 _ rfl⟩

set_option maxHeartbeats 1000000 in
theorem alive40_any (w : World) : Calls Try.prog 11 #[] w fun e w' => e = .returned (.bool true) ∧ Below w.heap.size w w' := by
  have hb : Below w.heap.size w (w.alloc (.cells #[.string ⟨#[97]⟩, .int .i64 0, .string ⟨#[99]⟩] 81)) := (Below.refl _ _).alloc (Nat.le_refl _) _
  have hs : Cms (w.alloc (.cells #[.string ⟨#[97]⟩, .int .i64 0, .string ⟨#[99]⟩] 81)) (some ⟨w.heap.size, 0, none⟩) 1 1 [⟨[97], 0, [99]⟩] := by
    refine ⟨rfl, rfl, Nat.le_refl _, by simp only [maxLen]; omega, fun _ => ⟨_, _, rfl, fun j u hu => ?_⟩⟩
    rw [Nat.zero_add, (Blk.new w _ _).cell]
    exact hu
  have HB := Lib.hid hb; have HS := Lib.hid hs; clear hb hs
  go_enter Try.func11, Try.ntmps11
  go_wp2_with fail
  refine (judge_any _ none 1 0 1 0 _ [] _ HS.out ⟨rfl, Sl.nil _ _⟩ (by omega)).mono ?_
  rintro e w1 ⟨v1, rfl, own1⟩
  obtain ⟨A1, c1, rfl, s1⟩ := own1.rs
  have B1 := Lib.hid (below_both HB.out own1.below)
  have hcap := s1.cap
  have hmax := s1.max
  obtain ⟨b, o, x, rfl, hx, hc⟩ := Vds.row s1 (k := 0) (by decide)
  have hx' : x = ⟨⟨[97], 0, [99]⟩, 3⟩ := by
    have h2 : (judgeL [⟨[97], 0, [99]⟩] [])[0]? = some ⟨⟨[97], 0, [99]⟩, 3⟩ := rfl
    rw [h2] at hx
    exact (Option.some.inj hx).symm
  subst hx'
  obtain ⟨k0, _, _, _, _, _, k6, _⟩ := hc _ (Below.refl _ _)
  simp only [Nat.zero_mul, Nat.add_zero] at k0 k6
  have hj : (judgeL [⟨[97], 0, [99]⟩] []).length = 1 := rfl
  rw [hj] at hcap ⊢
  clear hc hx s1 own1 hj
  go_wp2
  go_ret
  exact ⟨rfl, B1.out⟩

set_option maxRecDepth 100000 in
set_option maxHeartbeats 4000000 in
theorem verdictJudges_walk (A B : Option Addr) (n m c d : Nat) (D L : List Cm) (g : List UInt8) (ep : Int) (w : World) (ha : Cms w A n c D) (hb : Cms w B m d L) (oa : ∀ x ∈ D, x.ok) (ob : ∀ x ∈ L, x.ok) (hg : g.length ≤ 9223372036854775807) :
    Calls Try.prog 3 #[.slice A n c, .slice B m d, .string ⟨g.toArray⟩, .int .i64 ep] w fun e w' => e = .returned (.bool true) ∧ Below w.heap.size w w' := by
  have HN1 : Hid (lightB D = true → n ≤ 30) := by intro h; unfold lightB at h; simp at h; have := ha.1; omega
  have HN2 : Hid (lightB L = true → m ≤ 30) := by intro h; unfold lightB at h; simp at h; have := hb.1; omega
  have HA := Lib.hid ha; have HB := Lib.hid hb; have OA := Lib.hid oa; have OB := Lib.hid ob
  clear ha hb oa ob
  cases h1 : lightB D
  · go_enter Try.func3, Try.ntmps3
    go_wp2_with fail
    refine (light40_any _ _ _ _ _ HA.out OA.out).mono ?_
    rintro e w' ⟨rfl, rfl⟩
    go_wp2_with fail
    refine (alive40_any _).mono ?_
    rintro e w' ⟨rfl, hb⟩
    go_wp2
    go_ret
    exact ⟨rfl, hb⟩
  cases h2 : lightB L
  · go_enter Try.func3, Try.ntmps3
    go_wp2_with fail
    refine (light40_any _ _ _ _ _ HA.out OA.out).mono ?_
    rintro e w' ⟨rfl, rfl⟩
    go_wp2_with fail
    refine (light40_any _ _ _ _ _ HB.out OB.out).mono ?_
    rintro e w' ⟨rfl, rfl⟩
    go_wp2_with fail
    refine (alive40_any _).mono ?_
    rintro e w' ⟨rfl, hb⟩
    go_wp2
    go_ret
    exact ⟨rfl, hb⟩
  have hn30 := HN1.out h1
  have hm30 := HN2.out h2
  by_cases hyes : 100 < g.length
  · have t1 : decide (100 < (g.length : Int)) = true := by simp; omega
    go_enter Try.func3, Try.ntmps3
    go_wp2_with fail
    refine (light40_any _ _ _ _ _ HA.out OA.out).mono ?_
    rintro e w' ⟨rfl, rfl⟩
    go_wp2_with fail
    refine (light40_any _ _ _ _ _ HB.out OB.out).mono ?_
    rintro e w' ⟨rfl, rfl⟩
    go_wp2_with fail
    refine (alive40_any _).mono ?_
    rintro e w' ⟨rfl, hb⟩
    go_wp2
    go_ret
    exact ⟨rfl, hb⟩
  · have t1 : decide (100 < (g.length : Int)) = false := by simp; omega
    go_enter Try.func3, Try.ntmps3
    go_wp2_with fail
    refine (light40_any _ _ _ _ _ HA.out OA.out).mono ?_
    rintro e w' ⟨rfl, rfl⟩
    go_wp2_with fail
    refine (light40_any _ _ _ _ _ HB.out OB.out).mono ?_
    rintro e w' ⟨rfl, rfl⟩
    go_wp2_with fail
    refine (of_any _ _ _ _ _ HA.out hn30).mono ?_
    rintro e w1 ⟨v1, rfl, o1⟩
    obtain ⟨A1, c1, rfl, s1⟩ := o1.rs
    have B1 := Lib.hid o1.below
    have S1 := Lib.hid s1; clear s1 o1
    go_wp2_with fail
    refine (of_any _ _ _ _ _ (HB.out.mono B1.out) hm30).mono ?_
    rintro e w2 ⟨v2, rfl, o2⟩
    obtain ⟨A2, c2, rfl, s2⟩ := o2.rs
    have B2 := Lib.hid (below_both B1.out o2.below)
    have S1' := Lib.hid (S1.out.mono o2.below)
    have S2 := Lib.hid s2; clear s2 o2
    have hDl : D.length ≤ 30 := by rw [HA.out.1]; exact hn30
    go_wp2_with fail
    refine (judge_any _ _ _ _ _ _ _ _ _ S1'.out S2.out hDl).mono ?_
    rintro e w3 ⟨v3, rfl, o3⟩
    obtain ⟨A3, c3, rfl, s3⟩ := o3.rs
    have B3 := Lib.hid (below_both B2.out o3.below)
    have S3 := Lib.hid s3; clear s3 o3
    go_wp2_with fail
    refine (refJudge_any _ _ _ _ _ _ _ _ _ (HA.out.mono B3.out) (HB.out.mono B3.out) hn30).mono ?_
    rintro e w4 ⟨v4, rfl, o4⟩
    obtain ⟨A4, c4, rfl, s4⟩ := o4.rs
    have B4 := Lib.hid (below_both B3.out o4.below)
    have S3' := Lib.hid (S3.out.mono o4.below)
    have S4 := Lib.hid s4; clear s4 o4 S3 S1' S1 S2
    have hjl : (judgeL D L).length ≤ 30 := by rw [judge_len]; exact hDl
    generalize judgeL D L = J at *
    have e0 : ((J.length : Int) != (J.length : Int)) = false := by simp
    go_wp2_with fail
    clear e0
    have k3 := S3'.out.cap; have m3 := S3'.out.max
    have k4 := S4.out.cap; have m4 := S4.out.max
    go_loopw [11] (fun i wr => ∃ k : Nat, k ≤ J.length ∧ i = .int .i64 k ∧ Below w4.heap.size w4 wr) (fun i _ => J.length - (intOf i).toNat)
    case atStart => exact ⟨0, Nat.zero_le _, rfl, Below.refl _ _⟩
    case round =>
      obtain ⟨k, hk, rfl, hbr⟩ := hrel
      by_cases hlt : k < J.length
      · obtain ⟨b3, q3, x, rfl, hx, hc3⟩ := Vds.row S3'.out hlt
        obtain ⟨b4, q4, x', rfl, hx', hc4⟩ := Vds.row S4.out hlt
        obtain rfl : x = x' := by rw [hx] at hx'; exact Option.some.inj hx'
        have HC3 := Lib.hid hc3; have HC4 := Lib.hid hc4; clear hc3 hc4 hx hx'
        have BR := Lib.hid hbr; clear hbr
        have i1 : (k : Int) < J.length := by omega
        go_wp2_with fail
        refine wp_region_quiet (C := fun w' => Below (wr).heap.size (wr) w') (by kernel_rfl) (by kernel_rfl) (Below.refl _ _).drew ?_
        simp only
        repeat (first
          | go_big_quiet_skip
          | (go_big_quiet_want
             apply Exists.intro
             refine ⟨fun wq hq => ?_, ?_⟩
             · (obtain ⟨p0, p1, p2, p3, p4, p5, p6, p7⟩ := HC3.out wq (below_both BR.out hq); obtain ⟨r0, r1, r2, r3, r4, r5, r6, r7⟩ := HC4.out wq (below_both BR.out hq)
                go_simp
                first
                  | done
                  | exact rfl
                  | (with_reducible exact ⟨rfl, rfl⟩)
                  | (go_at_call 15; exact (same39_self _ _ _ _ wq).mono fun e w2 ⟨he, hb⟩ => ⟨he, below_both hq hb⟩))
             go_simp
             go_big_quiet_on))
        refine wpQuiet_nil ?_
        intro wq hq
        have HQ := Lib.hid (below_both BR.out hq); clear hq
        go_wp2
        go_roundw
        case rel => exact ⟨k + 1, by omega, by go_num, HQ.out⟩
        case measure => simp [intOf]; omega
      · have BR := Lib.hid (below_both B4.out hbr); clear hbr
        go_wp2_with fail
        refine (of_any _ _ _ _ _ (HB.out.mono BR.out) hm30).mono ?_
        rintro e w5 ⟨v5, rfl, o5⟩
        obtain ⟨A5, c5, rfl, s5⟩ := o5.rs
        have B5 := Lib.hid (below_both BR.out o5.below)
        have S5 := Lib.hid s5; clear s5 o5
        go_wp2_with fail
        refine (say_any _ _ _ _ g ep _ S5.out).mono ?_
        rintro e w6 ⟨rfl, b6⟩
        have B6 := Lib.hid (below_both B5.out b6); clear b6
        go_wp2_with fail
        refine (refSay_any _ _ _ _ g ep _ (HB.out.mono B6.out)).mono ?_
        rintro e w7 ⟨rfl, rfl⟩
        generalize sayL L g ep = r at *
        have e1 : (r.1 == r.1) = true := by simp
        have e2 : (r.2 == r.2) = true := by simp
        go_wp2_with fail
        refine (alive40_any _).mono ?_
        rintro e w8 ⟨rfl, b8⟩
        have B8 := Lib.hid (below_both B6.out b8); clear b8
        go_wp2
        go_ret
        exact ⟨rfl, B8.out⟩
theorem verdictJudges_any (A B : Option Addr) (n m c d : Nat) (D L : List Cm) (s : ByteArray) (ep : Int) (w : World) (ha : Cms w A n c D ∧ ∀ x ∈ D, x.ok) (hb : Cms w B m d L ∧ ∀ x ∈ L, x.ok) (hs : s.size ≤ maxLen) :
    Calls Try.prog 3 #[.slice A n c, .slice B m d, .string s, .int .i64 ep] w fun e w' => e = .returned (.bool true) ∧ Below w.heap.size w w' := by
  obtain ⟨⟨l⟩⟩ := s
  exact verdictJudges_walk A B n m c d D L l ep w ha.1 hb.1 ha.2 hb.2 (by unfold maxLen at hs; exact hs)
end Go.Proofs.Ytemfhfhhhjeflaa
