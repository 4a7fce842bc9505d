/- Operations as lines: which are the same. No condition. -/
import Derived.Test.YtadenlhnfkccaaaDoorObOpB
import Derived.Outline
namespace Go.Proofs.YtadenlhnfkccaaaDoor
open Go.RowKit
set_option linter.unusedVariables false
set_option linter.unusedSimpArgs false
theorem and_f (b : Bool) : (false && b) = false := rfl
set_option maxRecDepth 100000 in
set_option maxHeartbeats 2000000 in
theorem same39_raw (k1 e1 s1 n1 v1 k2 e2 s2 n2 v2 : Int) (g1 i1 g2 i2 : ByteArray) (A1 A2 : Option Addr) (m1 c1 m2 c2 : Nat) (x y : List UInt8) (w : World) (ha : Bs w A1 m1 c1 x) (hb : Bs w A2 m2 c2 y) :
    Calls Tryd.prog 27 #[.agg #[.int .i64 k1, .string g1, .string i1, .int .i64 e1, .int .i64 s1, .int .i64 n1, .int .i64 v1, .slice A1 m1 c1], .agg #[.int .i64 k2, .string g2, .string i2, .int .i64 e2, .int .i64 s2, .int .i64 n2, .int .i64 v2, .slice A2 m2 c2]] w fun e w' => e = .returned (.bool ((k1 == k2) && (g1.toList == g2.toList) && (i1.toList == i2.toList) && (e1 == e2) && (s1 == s2) && (n1 == n2) && (v1 == v2) && x == y)) ∧ Gr w w' := by
  have HSM : Hid (∀ wr, Gr w wr → Calls Tryd.prog 58 #[.slice A1 m1 c1, .slice A2 m2 c2] wr fun e w' => e = .returned (.bool (x == y)) ∧ Gr wr w') := fun wr g => (same_any A1 A2 m1 m2 c1 c2 x y wr (ha.mono g) (hb.mono g)).mono fun e w' h => ⟨h.1, by rw [h.2]; exact Gr.refl _⟩
  have G0 : Hid (Gr w ((w.alloc (.cells #[.int .i64 k1, .string g1, .string i1, .int .i64 e1, .int .i64 s1, .int .i64 n1, .int .i64 v1, .slice A1 m1 c1] 24)).alloc (.cells #[.int .i64 k2, .string g2, .string i2, .int .i64 e2, .int .i64 s2, .int .i64 n2, .int .i64 v2, .slice A2 m2 c2] 24))) := (Gr.alloc w _).trans (Gr.alloc _ _)
  clear ha hb
  cases t0 : (k1 == k2) with
  | false =>
    go_enter Tryd.func27, Tryd.ntmps27
    go_wp2_with fail
    go_ret
    exact ⟨by simp, G0.out⟩
  | true =>
  cases t1 : (g1.toList == g2.toList) with
  | false =>
    go_enter Tryd.func27, Tryd.ntmps27
    go_wp2_with fail
    go_ret
    exact ⟨by simp, G0.out⟩
  | true =>
  cases t2 : (i1.toList == i2.toList) with
  | false =>
    go_enter Tryd.func27, Tryd.ntmps27
    go_wp2_with fail
    go_ret
    exact ⟨by simp, G0.out⟩
  | true =>
  cases t3 : (e1 == e2) with
  | false =>
    go_enter Tryd.func27, Tryd.ntmps27
    go_wp2_with fail
    go_ret
    exact ⟨by simp, G0.out⟩
  | true =>
  cases t4 : (s1 == s2) with
  | false =>
    go_enter Tryd.func27, Tryd.ntmps27
    go_wp2_with fail
    go_ret
    exact ⟨by simp, G0.out⟩
  | true =>
  cases t5 : (n1 == n2) with
  | false =>
    go_enter Tryd.func27, Tryd.ntmps27
    go_wp2_with fail
    go_ret
    exact ⟨by simp, G0.out⟩
  | true =>
  cases t6 : (v1 == v2) with
  | false =>
    go_enter Tryd.func27, Tryd.ntmps27
    go_wp2_with fail
    go_ret
    exact ⟨by simp, G0.out⟩
  | true =>
  go_enter Tryd.func27, Tryd.ntmps27
  go_wp2_with fail
  refine (HSM.out _ G0.out).mono ?_
  rintro e w2 ⟨rfl, g2⟩
  have G2 := Lib.hid g2; clear g2
  go_wp2_with fail
  go_ret
  exact ⟨by simp, G0.out.trans G2.out⟩
theorem same39_any (o1 o2 : OpD) (A1 A2 : Option Addr) (m1 c1 m2 c2 : Nat) (w : World) (ha : Bs w A1 m1 c1 o1.x) (hb : Bs w A2 m2 c2 o2.x) :
    Calls Tryd.prog 27 #[opV o1 A1 m1 c1, opV o2 A2 m2 c2] w fun e w' => e = .returned (.bool (sameO o1 o2)) ∧ Gr w w' := by
  have h := same39_raw o1.k o1.e o1.s o1.n o1.v o2.k o2.e o2.s o2.n o2.v ⟨o1.g.toArray⟩ ⟨o1.i.toArray⟩ ⟨o2.g.toArray⟩ ⟨o2.i.toArray⟩ A1 A2 m1 c1 m2 c2 o1.x o2.x w ha hb
  simp only [ByteArray.toList_eq] at h
  exact h
set_option maxRecDepth 100000 in
set_option maxHeartbeats 2000000 in
theorem refSame39_raw (k1 e1 s1 n1 v1 k2 e2 s2 n2 v2 : Int) (g1 i1 g2 i2 : ByteArray) (A1 A2 : Option Addr) (m1 c1 m2 c2 : Nat) (x y : List UInt8) (w : World) (ha : Bs w A1 m1 c1 x) (hb : Bs w A2 m2 c2 y) :
    Calls Tryd.prog 12 #[.agg #[.int .i64 k1, .string g1, .string i1, .int .i64 e1, .int .i64 s1, .int .i64 n1, .int .i64 v1, .slice A1 m1 c1], .agg #[.int .i64 k2, .string g2, .string i2, .int .i64 e2, .int .i64 s2, .int .i64 n2, .int .i64 v2, .slice A2 m2 c2]] w fun e w' => e = .returned (.bool ((k1 == k2) && (g1.toList == g2.toList) && (i1.toList == i2.toList) && (e1 == e2) && (s1 == s2) && (n1 == n2) && (v1 == v2) && x == y)) ∧ Gr w w' := by
  have HSM : Hid (∀ wr, Gr w wr → Calls Tryd.prog 36 #[.slice A1 m1 c1, .slice A2 m2 c2] wr fun e w' => e = .returned (.bool (x == y)) ∧ Gr wr w') := fun wr g => (refSame_any A1 A2 m1 m2 c1 c2 x y wr (ha.mono g) (hb.mono g)).mono fun e w' h => ⟨h.1, by obtain ⟨q, h2⟩ := h.2; rw [h2]; exact belowN (Gr.refl _) q⟩
  have G0 : Hid (Gr w ((w.alloc (.cells #[.int .i64 k1, .string g1, .string i1, .int .i64 e1, .int .i64 s1, .int .i64 n1, .int .i64 v1, .slice A1 m1 c1] 24)).alloc (.cells #[.int .i64 k2, .string g2, .string i2, .int .i64 e2, .int .i64 s2, .int .i64 n2, .int .i64 v2, .slice A2 m2 c2] 24))) := (Gr.alloc w _).trans (Gr.alloc _ _)
  clear ha hb
  cases t0 : (k1 == k2) with
  | false =>
    go_enter Tryd.func12, Tryd.ntmps12
    go_wp2_with fail
    go_ret
    exact ⟨by simp, G0.out⟩
  | true =>
  cases t1 : (g1.toList == g2.toList) with
  | false =>
    go_enter Tryd.func12, Tryd.ntmps12
    go_wp2_with fail
    go_ret
    exact ⟨by simp, G0.out⟩
  | true =>
  cases t2 : (i1.toList == i2.toList) with
  | false =>
    go_enter Tryd.func12, Tryd.ntmps12
    go_wp2_with fail
    go_ret
    exact ⟨by simp, G0.out⟩
  | true =>
  cases t3 : (e1 == e2) with
  | false =>
    go_enter Tryd.func12, Tryd.ntmps12
    go_wp2_with fail
    go_ret
    exact ⟨by simp, G0.out⟩
  | true =>
  cases t4 : (s1 == s2) with
  | false =>
    go_enter Tryd.func12, Tryd.ntmps12
    go_wp2_with fail
    go_ret
    exact ⟨by simp, G0.out⟩
  | true =>
  cases t5 : (n1 == n2) with
  | false =>
    go_enter Tryd.func12, Tryd.ntmps12
    go_wp2_with fail
    go_ret
    exact ⟨by simp, G0.out⟩
  | true =>
  cases t6 : (v1 == v2) with
  | false =>
    go_enter Tryd.func12, Tryd.ntmps12
    go_wp2_with fail
    go_ret
    exact ⟨by simp, G0.out⟩
  | true =>
  go_enter Tryd.func12, Tryd.ntmps12
  go_wp2_with fail
  refine (HSM.out _ G0.out).mono ?_
  rintro e w2 ⟨rfl, g2⟩
  have G2 := Lib.hid g2; clear g2
  go_wp2_with fail
  go_ret
  exact ⟨by simp, G0.out.trans G2.out⟩
theorem refSame39_any (o1 o2 : OpD) (A1 A2 : Option Addr) (m1 c1 m2 c2 : Nat) (w : World) (ha : Bs w A1 m1 c1 o1.x) (hb : Bs w A2 m2 c2 o2.x) :
    Calls Tryd.prog 12 #[opV o1 A1 m1 c1, opV o2 A2 m2 c2] w fun e w' => e = .returned (.bool (sameO o1 o2)) ∧ Gr w w' := by
  have h := refSame39_raw o1.k o1.e o1.s o1.n o1.v o2.k o2.e o2.s o2.n o2.v ⟨o1.g.toArray⟩ ⟨o1.i.toArray⟩ ⟨o2.g.toArray⟩ ⟨o2.i.toArray⟩ A1 A2 m1 c1 m2 c2 o1.x o2.x w ha hb
  simp only [ByteArray.toList_eq] at h
  exact h
end Go.Proofs.YtadenlhnfkccaaaDoor
