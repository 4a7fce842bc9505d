import Derived.Test.YtbmijjodpdbbmaaObSlW
import Derived.Test.YtbmijjodpdbbmaaObTrailL
namespace Go.Proofs.Ytbmijjodpdbbmaa
open Go.RowKit
set_option linter.unusedVariables false

theorem quiet_left {P : Program} {f : FuncId} {args : Array Value} {w : World} {n : Nat} {v : Value}
    (h : Calls P f args (w.drewN n) fun e w' => e = .returned v ∧ w.drewN n = w') : Calls P f args (w.drewN n) fun e w'' => e = .returned v ∧ ∃ m, w'' = w.drewN m :=
  h.mono fun _ _ ⟨he, hm⟩ => ⟨he, n, hm.symm⟩

theorem quiet_read {P : Program} {f : FuncId} {args : Array Value} {w : World} {n : Nat} {v : Value}
    (h : Calls P f args (w.drewN n) fun e w' => e = .returned v ∧ ∃ m, w' = (w.drewN n).drewN m) : Calls P f args (w.drewN n) fun e w'' => e = .returned v ∧ ∃ m, w'' = w.drewN m :=
  h.mono fun _ _ ⟨he, m, hm⟩ => ⟨he, n + m, by rw [hm, World.drewN_drewN]⟩

/-! ### numbers -/
theorem tNums : ElemT Try.prog 31 3 (.int .i64 0) 1 8 := ⟨Try.underlying31, by kernel_rfl, rfl, by decide, by decide⟩
def RetIs (w : World) (l : List Int) (e : Ending) (w' : World) : Prop := ∃ v, e = .returned v ∧ Own w w' 3 1 v l.length (l.map i64c)
theorem Is.len {w : World} {A : Option Addr} {n c : Nat} {l : List Int} (h : Is w A n c l) : l.length = n := by have := Sl.len h; simpa using this
theorem Is.addr {w : World} {A : Option Addr} {n c : Nat} {l : List Int} (h : Is w A n c l) (hn : 0 < n) :
    ∃ b o, A = some ⟨b, o, none⟩ ∧ ∀ j, j < n → w.cell? ⟨b, o + j, none⟩ = some (.int .i64 (iAt l j)) := by
  obtain ⟨b, o, e, hc⟩ := Sl.addr h hn
  exact ⟨b, o, e, fun j hj => hc j _ (by
    have : j < l.length := by rw [h.len]; exact hj
    rw [List.getElem?_map, List.getElem?_eq_getElem this]; simp [i64c, iAt, this])⟩
theorem takeI_same {a b : List Int} {k : Nat} (ha : k < a.length) (hb : k < b.length) (h : a.take k = b.take k) (he : iAt a k = iAt b k) : a.take (k + 1) = b.take (k + 1) := by
  rw [List.take_succ_eq_append_getElem ha, List.take_succ_eq_append_getElem hb, h]
  have : a[k] = b[k] := by simpa [iAt, ha, hb] using he
  rw [this]
theorem ne_of_iAt {a b : List Int} {k : Nat} (h : iAt a k ≠ iAt b k) : (a == b) = false := by
  rw [beq_eq_false_iff_ne]; rintro rfl; exact h rfl

set_option maxHeartbeats 400000 in
theorem ints_any (A B : Option Addr) (n m c d : Nat) (a b : List Int) (w : World) (ha : Is w A n c a) (hb : Is w B m d b) :
    Calls Try.prog 14 #[.slice A n c, .slice B m d] w fun e w' => e = .returned (.bool (a == b)) ∧ ∃ k, w' = w.drewN k := by
  have hla := ha.len
  have hlb := hb.len
  have ma := ha.max
  have mb := hb.max
  have ca := ha.cap
  have cb := hb.cap
  by_cases hnm : n = m
  · subst hnm
    have HA := Lib.hid ha; have HB := Lib.hid hb; clear ha hb
    have HLA := Lib.hid hla; have HLB := Lib.hid hlb; clear hla hlb
    have t1 : ((n : Int) != (n : Int)) = false := by simp
    go_enter Try.func14, Try.ntmps14
    go_wp2
    clear t1
    go_loopw [5] (fun i wr => ∃ k q : Nat, k ≤ n ∧ i = .int .i64 k ∧ wr = w.drewN q ∧ a.take k = b.take k) (fun i _ => n - (intOf i).toNat)
    case atStart => exact ⟨0, 0, Nat.zero_le _, rfl, rfl, rfl⟩
    case round =>
      obtain ⟨k, q, hk, rfl, rfl, hsame⟩ := hrel
      have HSM := Lib.hid hsame; clear hsame
      by_cases hlt : k < n
      · obtain ⟨b1, o1, rfl, hc1⟩ := HA.out.addr (by omega)
        obtain ⟨b2, o2, rfl, hc2⟩ := HB.out.addr (by omega)
        have c1 : w.cell? ⟨b1, o1 + k, none⟩ = some _ := hc1 k hlt
        have c2 : w.cell? ⟨b2, o2 + k, none⟩ = some _ := hc2 k hlt
        have HC1 := Lib.hid hc1; have HC2 := Lib.hid hc2; clear hc1 hc2
        by_cases he : iAt a k = iAt b k
        · have t1 : (iAt a k != iAt b k) = false := by simp [he]
          have HE := Lib.hid he; clear he
          go_wp2
          go_quiet (fail)
          go_wp2
          go_roundw
          case rel => exact ⟨k + 1, _, by omega, by go_num, rfl, takeI_same (by rw [HLA.out]; exact hlt) (by rw [HLB.out]; exact hlt) HSM.out HE.out⟩
          case measure => simp [intOf]; omega
        · have t1 : (iAt a k != iAt b k) = true := by simpa using he
          have HE := Lib.hid (ne_of_iAt he); clear he
          go_wp2
          go_quiet (fail)
          go_wp2
          go_ret
          exact ⟨ret_bool HE.out.symm, _, World.drewN_drewN _ _ _⟩
      · obtain rfl : k = n := by omega
        have HE : Hid ((a == b) = true) := by
          have h := HSM.out
          rw [List.take_of_length_le (by rw [HLA.out]; omega), List.take_of_length_le (by rw [HLB.out]; omega)] at h
          exact beq_iff_eq.2 h
        go_wp2
        go_ret
        exact ⟨ret_bool HE.out.symm, _, rfl⟩
  · have t1 : ((n : Int) != (m : Int)) = true := by rw [bne_iff_ne]; omega
    have HE : Hid ((a == b) = false) := by
      apply beq_eq_false_iff_ne.2
      rintro rfl
      omega
    clear ha hb
    go_enter Try.func14, Try.ntmps14
    go_wp2
    go_ret
    exact ⟨ret_bool HE.out.symm, 0, rfl⟩
theorem ints_b (A B : Option Addr) (n m c d : Nat) (a b : List Int) (w : World) (ha : Is w A n c a) (hb : Is w B m d b) :
    Calls Try.prog 14 #[.slice A n c, .slice B m d] w fun e w' => e = .returned (.bool (a == b)) ∧ Below w.heap.size w w' :=
  (ints_any A B n m c d a b w ha hb).mono fun _ _ ⟨he, k, hk⟩ => ⟨he, by rw [hk]; exact belowN (Below.refl _ _) k⟩

/-! ### rows of bytes -/
def rowsOk (L : List BRow) : Bool := decide (L.length ≤ 20) && L.all fun r => decide (r.n ≤ 100)
theorem rowsOk_take (L : List BRow) (k : Nat) (r : BRow) (h : L[k]? = some r) : ((L.take (k + 1)).all fun r => decide (r.n ≤ 100)) = (((L.take k).all fun r => decide (r.n ≤ 100)) && decide (r.n ≤ 100)) := by
  have hk : k < L.length := (List.getElem?_eq_some_iff.1 h).1
  rw [List.take_succ_eq_append_getElem hk]
  rw [List.getElem?_eq_getElem hk] at h
  injection h with h
  rw [h]; simp [Bool.and_comm]
theorem rowsOk_bad (L : List BRow) (k : Nat) (r : BRow) (h : L[k]? = some r) (hr : 100 < r.n) : rowsOk L = false := by
  unfold rowsOk
  have : (L.all fun r => decide (r.n ≤ 100)) = false := by
    rw [List.all_eq_false]
    exact ⟨r, List.mem_of_getElem? h, by simp; omega⟩
  rw [this]; simp

def bytesOf (L : List BRow) : List (List UInt8) := L.map BRow.l
theorem bytesOf_at {L : List BRow} {k : Nat} {r : BRow} (h : L[k]? = some r) : (bytesOf L)[k]? = some r.l := by simp [bytesOf, h]
theorem bytesOf_len (L : List BRow) : (bytesOf L).length = L.length := by simp [bytesOf]

set_option maxHeartbeats 1000000 in
theorem diff_any (A B : Option Addr) (n m c d : Nat) (L M : List BRow) (w : World) (ha : Bss w A n c L) (hb : Bss w B m d M) (hn : n ≤ 60000) (hm : m ≤ 60000) :
    Calls Try.prog 19 #[.slice A n c, .slice B m d] w (RetIs w (diffL (bytesOf L) (bytesOf M))) := by
  have hla := ha.len
  have hlb := hb.len
  have ca := ha.1.cap
  have cb := hb.1.cap
  have ma := ha.1.max
  have mb := hb.1.max
  obtain ⟨t, ht⟩ : ∃ t, t = max n m := ⟨_, rfl⟩
  have HT : Hid (max (bytesOf L).length (bytesOf M).length = t) := by show _ = _; rw [bytesOf_len, bytesOf_len, hla, hlb, ht]
  have ht0 : t ≤ max n m := by omega
  have ht1 : n ≤ t := by omega
  have ht2 : m ≤ t := by omega
  have HL : Hid (∀ k, k < t → ¬ (k < n ∧ k < m) → unlike (bytesOf L) (bytesOf M) k = true) := by
    intro k hk h
    exact unlike_far (by rw [HT.out]; exact hk) (by rw [bytesOf_len, bytesOf_len, hla, hlb]; exact h)
  clear hla hlb
  have HA := Lib.hid ha; have HB := Lib.hid hb; clear ha hb
  clear ht
  go_enter Try.func19, Try.ntmps19
  go_wp2
  go_step3
  go_wp2
  go_step3
  go_wp2
  go_loopw [4, 11] (fun v i wr => ∃ k : Nat, k ≤ t ∧ i = .int .i64 k ∧ Own w wr 3 1 v (diffTo (bytesOf L) (bytesOf M) k).length ((diffTo (bytesOf L) (bytesOf M) k).map i64c)) (fun _ i _ => t - (intOf i).toNat)
  case atStart => exact ⟨0, Nat.zero_le _, rfl, Own.nil _ _ _⟩
  case round =>
    obtain ⟨k, hk, rfl, hown⟩ := hrel
    have hdl := diffTo_le (bytesOf L) (bytesOf M) k
    by_cases hlt : k < t
    · by_cases hin : k < n ∧ k < m
      · obtain ⟨hi1, hi2⟩ := hin
        obtain ⟨b1, o1, r1, rfl, hr1, c1, s1⟩ := (HA.out.mono hown.below).row (k := k) (by omega)
        obtain ⟨b2, o2, r2, rfl, hr2, c2, s2⟩ := (HB.out.mono hown.below).row (k := k) (by omega)
        have HU := Lib.hid (unlike_near (bytesOf_at hr1) (bytesOf_at hr2))
        clear hr1 hr2
        have HS1 := Lib.hid s1; have HS2 := Lib.hid s2; clear s1 s2
        have g1 : decide ((k : Int) < min (n : Int) (m : Int)) = true := by rw [decide_eq_true_iff]; omega
        cases hs : r1.l == r2.l
        · rw [hs] at HU
          go_wp2
          go_quiet ((go_at_call 38; exact quiet_left (same_any _ _ _ _ _ _ _ _ _ (by exact HS1.out.mono (belowN (Below.refl _ _) _)) (by exact HS2.out.mono (belowN (Below.refl _ _) _)))))
          go_wp2_with (at_builtin; refine wpList_push rfl _ _ 31 rfl tNums rfl (hown.drewN _) #[_] rfl rfl (one_int _ _) (by omega) ?_; intro v1 w1 own1)
          go_roundw
          case rel => exact ⟨k + 1, by omega, by go_num, by rw [diffTo_yes_len _ _ _ HU.out, diffTo_yes _ _ _ HU.out]; exact own1⟩
          case measure => simp [intOf]; omega
        · rw [hs] at HU
          go_wp2
          go_quiet ((go_at_call 38; exact quiet_left (same_any _ _ _ _ _ _ _ _ _ (by exact HS1.out.mono (belowN (Below.refl _ _) _)) (by exact HS2.out.mono (belowN (Below.refl _ _) _)))))
          go_wp2
          go_roundw
          case rel => exact ⟨k + 1, by omega, by go_num, by rw [diffTo_no _ _ _ HU.out]; exact hown.drewN _⟩
          case measure => simp [intOf]; omega
      · have g1 : decide ((k : Int) < min (n : Int) (m : Int)) = false := by rw [decide_eq_false_iff_not]; omega
        have HU := Lib.hid (HL.out k hlt hin)
        go_wp2
        go_quiet (fail)
        go_wp2_with (at_builtin; refine wpList_push rfl _ _ 31 rfl tNums rfl (hown.drewN _) #[_] rfl rfl (one_int _ _) (by omega) ?_; intro v1 w1 own1)
        go_roundw
        case rel => exact ⟨k + 1, by omega, by go_num, by rw [diffTo_yes_len _ _ _ HU.out, diffTo_yes _ _ _ HU.out]; exact own1⟩
        case measure => simp [intOf]; omega
    · obtain rfl : k = t := by omega
      go_wp2
      rw [Exit.noGoto_ret]
      go_ret
      refine ⟨_, rfl, ?_⟩
      unfold diffL
      rw [HT.out]
      exact hown
set_option maxHeartbeats 1000000 in
theorem refDiff_any (A B : Option Addr) (n m c d : Nat) (L M : List BRow) (w : World) (ha : Bss w A n c L) (hb : Bss w B m d M) (hn : n ≤ 60000) (hm : m ≤ 60000) :
    Calls Try.prog 30 #[.slice A n c, .slice B m d] w (RetIs w (diffL (bytesOf L) (bytesOf M))) := by
  have hla := ha.len
  have hlb := hb.len
  have ca := ha.1.cap
  have cb := hb.1.cap
  have ma := ha.1.max
  have mb := hb.1.max
  obtain ⟨t, ht⟩ : ∃ t, t = max n m := ⟨_, rfl⟩
  have HT : Hid (max (bytesOf L).length (bytesOf M).length = t) := by show _ = _; rw [bytesOf_len, bytesOf_len, hla, hlb, ht]
  have ht0 : t ≤ max n m := by omega
  have ht1 : n ≤ t := by omega
  have ht2 : m ≤ t := by omega
  have HL : Hid (∀ k, k < t → ¬ (k < n ∧ k < m) → unlike (bytesOf L) (bytesOf M) k = true) := by
    intro k hk h
    exact unlike_far (by rw [HT.out]; exact hk) (by rw [bytesOf_len, bytesOf_len, hla, hlb]; exact h)
  clear hla hlb
  have HA := Lib.hid ha; have HB := Lib.hid hb; clear ha hb
  clear ht
  go_enter Try.func30, Try.ntmps30
  go_wp2
  go_loopw [5, 6] (fun v i wr => ∃ k : Nat, k ≤ t ∧ i = .int .i64 k ∧ Own w wr 3 1 v (diffTo (bytesOf L) (bytesOf M) k).length ((diffTo (bytesOf L) (bytesOf M) k).map i64c)) (fun _ i _ => t - (intOf i).toNat)
  case atStart => exact ⟨0, Nat.zero_le _, rfl, Own.nil _ _ _⟩
  case round =>
    obtain ⟨k, hk, rfl, hown⟩ := hrel
    have hdl := diffTo_le (bytesOf L) (bytesOf M) k
    by_cases hlt : k < t
    · by_cases hin : k < n ∧ k < m
      · obtain ⟨hi1, hi2⟩ := hin
        obtain ⟨b1, o1, r1, rfl, hr1, c1, s1⟩ := (HA.out.mono hown.below).row (k := k) (by omega)
        obtain ⟨b2, o2, r2, rfl, hr2, c2, s2⟩ := (HB.out.mono hown.below).row (k := k) (by omega)
        have HU := Lib.hid (unlike_near (bytesOf_at hr1) (bytesOf_at hr2))
        clear hr1 hr2
        have HS1 := Lib.hid s1; have HS2 := Lib.hid s2; clear s1 s2
        have g1 : decide (n ≤ k) = false := by simp; omega
        have g2 : decide (m ≤ k) = false := by simp; omega
        cases hs : r1.l == r2.l
        · rw [hs] at HU
          go_wp2
          go_quiet ((go_at_call 33; exact quiet_read (refSame_any _ _ _ _ _ _ _ _ _ (by exact HS1.out.mono (belowN (Below.refl _ _) _)) (by exact HS2.out.mono (belowN (Below.refl _ _) _)))))
          go_wp2_with (at_builtin; refine wpList_push rfl _ _ 31 rfl tNums rfl (hown.drewN _) #[_] rfl rfl (one_int _ _) (by omega) ?_; intro v1 w1 own1)
          go_roundw
          case rel => exact ⟨k + 1, by omega, by go_num, by rw [diffTo_yes_len _ _ _ HU.out, diffTo_yes _ _ _ HU.out]; exact own1⟩
          case measure => simp [intOf]; omega
        · rw [hs] at HU
          go_wp2
          go_quiet ((go_at_call 33; exact quiet_read (refSame_any _ _ _ _ _ _ _ _ _ (by exact HS1.out.mono (belowN (Below.refl _ _) _)) (by exact HS2.out.mono (belowN (Below.refl _ _) _)))))
          go_wp2
          go_roundw
          case rel => exact ⟨k + 1, by omega, by go_num, by rw [diffTo_no _ _ _ HU.out]; exact hown.drewN _⟩
          case measure => simp [intOf]; omega
      · have HU := Lib.hid (HL.out k hlt hin)
        by_cases h1 : k < n
        case' pos =>
          have g1 : decide (n ≤ k) = false := by simp; omega
          have g2 : decide (m ≤ k) = true := by simp; omega
        case' neg => have g1 : decide (n ≤ k) = true := by simp; omega
        all_goals
          go_wp2
          go_quiet (fail)
          go_wp2_with (at_builtin; refine wpList_push rfl _ _ 31 rfl tNums rfl (hown.drewN _) #[_] rfl rfl (one_int _ _) (by omega) ?_; intro v1 w1 own1)
          go_roundw
          case rel => exact ⟨k + 1, by omega, by go_num, by rw [diffTo_yes_len _ _ _ HU.out, diffTo_yes _ _ _ HU.out]; exact own1⟩
          case measure => simp [intOf]; omega
    · obtain rfl : k = t := by omega
      go_wp2
      go_ret
      refine ⟨_, rfl, ?_⟩
      unfold diffL
      rw [HT.out]
      exact hown

/-! ### bytes torn -/
end Go.Proofs.Ytbmijjodpdbbmaa
