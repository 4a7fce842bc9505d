/- Operations as lines: words read into an operation. No condition. -/
import Derived.Test.YtadenlhnfkccaaaDoorObOpB
import Derived.Test.YtadenlhnfkccaaaDoorObTch
import Derived.Test.YtadenlhnfkccaaaDoorObShelfI
import Derived.Outline
namespace Go.Proofs.YtadenlhnfkccaaaDoor
open Go.RowKit
set_option linter.unusedVariables false
set_option linter.unusedSimpArgs false
set_option maxRecDepth 100000 in
set_option maxHeartbeats 1000000 in
theorem readG_raw (u0 u1 u2 u3 u4 u5 u6 u7 : Value) (R : Nat) (s f : ByteArray) (pn pf : Int) (b : Bool) (w : World) (hR : Blk w R 77 [u0, u1, u2, u3, u4, u5, u6, u7])
    (HPA : Hid (Calls Tryd.prog 43 #[.string s, .int .i64 1073741824] w fun e w' => e = .returned (.tuple #[.int .i64 pn, .int .i64 pf]) ∧ Gr w w'))
    (HF : Hid (∀ wr, Tch (fun q => q = R) w wr → Calls Tryd.prog 25 #[.agg #[u0, .string s, u2, u3, u4, u5, u6, u7], .int .i32 103] wr fun e w' => e = .returned (.string f) ∧ Gr wr w'))
    (hb : b = (!(s.toList == []) && f.toList == s.toList)) :
    Calls Tryd.prog 33 #[.pointer (some ⟨R, 0, none⟩), .int .i32 103, .string s] w fun e w' => e = .returned (.bool b) ∧ Blk w' R 77 [u0, .string s, u2, u3, u4, u5, u6, u7] ∧ Tch (fun q => q = R) w w' := by
  have HR := Lib.hid hR
  have HB := Lib.hid hb; clear hR hb
  obtain ⟨pb, hpb⟩ : ∃ pb, pb = (pf == 0) := ⟨_, rfl⟩
  go_enter Tryd.func33, Tryd.ntmps33
  go_wp2_with fail
  refine HPA.out.mono ?_
  rintro e w1 ⟨rfl, g1⟩
  have B1 := Lib.hid (HR.out.mono g1)
  have c1 : w1.cell? ⟨R, 1, none⟩ = some u1 := by rw [B1.out.cell]; rfl
  have f1 := B1.out.free 1
  have G1 := Lib.hid g1; clear g1
  have B2 := Lib.hid (B1.out.set 1 (.string s))
  have HC : Hid (∀ j v, ([u0, .string s, u2, u3, u4, u5, u6, u7] : List Value)[j]? = some v → (w1.setCell ⟨R, 1, none⟩ (.string s)).cell? ⟨R, j, none⟩ = some v) := fun j v h => (B2.out.cell j).trans h
  have d0 := HC.out 0 _ rfl
  have d1 := HC.out 1 _ rfl
  have d2 := HC.out 2 _ rfl
  have d3 := HC.out 3 _ rfl
  have d4 := HC.out 4 _ rfl
  have d5 := HC.out 5 _ rfl
  have d6 := HC.out 6 _ rfl
  have d7 := HC.out 7 _ rfl
  have TC : Hid (Tch (fun q => q = R) w (w1.setCell ⟨R, 1, none⟩ (.string s))) := (Tch.gr G1.out).trans (Tch.set ⟨R, 1, none⟩ (.string s) rfl)
  have HF2 := Lib.hid (HF.out _ TC.out)
  cases he : (s.toList == []) with
  | true =>
    have HX : Hid (b = false) := by show _ = _; rw [HB.out, he]; rfl
    go_wp2_with fail
    go_ret
    exact ⟨by rw [HX.out]; rfl, B2.out, TC.out⟩
  | false =>
    have HX : Hid (b = (f.toList == s.toList)) := by show _ = _; rw [HB.out, he]; rfl
    go_wp2_with fail
    refine HF2.out.mono ?_
    rintro e wf ⟨rfl, gf⟩
    have GF := Lib.hid gf; clear gf
    go_wp2_with fail
    go_ret
    exact ⟨by rw [HX.out]; rfl, B2.out.mono GF.out, TC.out.trans (Tch.gr GF.out)⟩
set_option maxRecDepth 100000 in
set_option maxHeartbeats 1000000 in
theorem readI_raw (u0 u1 u2 u3 u4 u5 u6 u7 : Value) (R : Nat) (s f : ByteArray) (pn pf : Int) (b : Bool) (w : World) (hR : Blk w R 77 [u0, u1, u2, u3, u4, u5, u6, u7])
    (HPA : Hid (Calls Tryd.prog 43 #[.string s, .int .i64 1073741824] w fun e w' => e = .returned (.tuple #[.int .i64 pn, .int .i64 pf]) ∧ Gr w w'))
    (HF : Hid (∀ wr, Tch (fun q => q = R) w wr → Calls Tryd.prog 25 #[.agg #[u0, u1, .string s, u3, u4, u5, u6, u7], .int .i32 105] wr fun e w' => e = .returned (.string f) ∧ Gr wr w'))
    (hb : b = (!(s.toList == []) && f.toList == s.toList)) :
    Calls Tryd.prog 33 #[.pointer (some ⟨R, 0, none⟩), .int .i32 105, .string s] w fun e w' => e = .returned (.bool b) ∧ Blk w' R 77 [u0, u1, .string s, u3, u4, u5, u6, u7] ∧ Tch (fun q => q = R) w w' := by
  have HR := Lib.hid hR
  have HB := Lib.hid hb; clear hR hb
  obtain ⟨pb, hpb⟩ : ∃ pb, pb = (pf == 0) := ⟨_, rfl⟩
  go_enter Tryd.func33, Tryd.ntmps33
  go_wp2_with fail
  refine HPA.out.mono ?_
  rintro e w1 ⟨rfl, g1⟩
  have B1 := Lib.hid (HR.out.mono g1)
  have c1 : w1.cell? ⟨R, 2, none⟩ = some u2 := by rw [B1.out.cell]; rfl
  have f1 := B1.out.free 2
  have G1 := Lib.hid g1; clear g1
  have B2 := Lib.hid (B1.out.set 2 (.string s))
  have HC : Hid (∀ j v, ([u0, u1, .string s, u3, u4, u5, u6, u7] : List Value)[j]? = some v → (w1.setCell ⟨R, 2, none⟩ (.string s)).cell? ⟨R, j, none⟩ = some v) := fun j v h => (B2.out.cell j).trans h
  have d0 := HC.out 0 _ rfl
  have d1 := HC.out 1 _ rfl
  have d2 := HC.out 2 _ rfl
  have d3 := HC.out 3 _ rfl
  have d4 := HC.out 4 _ rfl
  have d5 := HC.out 5 _ rfl
  have d6 := HC.out 6 _ rfl
  have d7 := HC.out 7 _ rfl
  have TC : Hid (Tch (fun q => q = R) w (w1.setCell ⟨R, 2, none⟩ (.string s))) := (Tch.gr G1.out).trans (Tch.set ⟨R, 2, none⟩ (.string s) rfl)
  have HF2 := Lib.hid (HF.out _ TC.out)
  cases he : (s.toList == []) with
  | true =>
    have HX : Hid (b = false) := by show _ = _; rw [HB.out, he]; rfl
    go_wp2_with fail
    go_ret
    exact ⟨by rw [HX.out]; rfl, B2.out, TC.out⟩
  | false =>
    have HX : Hid (b = (f.toList == s.toList)) := by show _ = _; rw [HB.out, he]; rfl
    go_wp2_with fail
    refine HF2.out.mono ?_
    rintro e wf ⟨rfl, gf⟩
    have GF := Lib.hid gf; clear gf
    go_wp2_with fail
    go_ret
    exact ⟨by rw [HX.out]; rfl, B2.out.mono GF.out, TC.out.trans (Tch.gr GF.out)⟩
set_option maxRecDepth 100000 in
set_option maxHeartbeats 1000000 in
theorem readE_raw (u0 u1 u2 u3 u4 u5 u6 u7 : Value) (R : Nat) (s : ByteArray) (pn pf : Int) (w : World) (hR : Blk w R 77 [u0, u1, u2, u3, u4, u5, u6, u7])
    (HPA : Hid (Calls Tryd.prog 43 #[.string s, .int .i64 1073741824] w fun e w' => e = .returned (.tuple #[.int .i64 pn, .int .i64 pf]) ∧ Gr w w')) :
    Calls Tryd.prog 33 #[.pointer (some ⟨R, 0, none⟩), .int .i32 101, .string s] w fun e w' => e = .returned (.bool (pf == 0)) ∧ Blk w' R 77 [u0, u1, u2, .int .i64 pn, u4, u5, u6, u7] ∧ Tch (fun q => q = R) w w' := by
  have HR := Lib.hid hR; clear hR
  go_enter Tryd.func33, Tryd.ntmps33
  go_wp2_with fail
  refine HPA.out.mono ?_
  rintro e w1 ⟨rfl, g1⟩
  have B1 := Lib.hid (HR.out.mono g1)
  have c1 : w1.cell? ⟨R, 3, none⟩ = some u3 := by rw [B1.out.cell]; rfl
  have f1 := B1.out.free 3
  have G1 := Lib.hid g1; clear g1
  have B2 := Lib.hid (B1.out.set 3 (.int .i64 pn))
  have TC : Hid (Tch (fun q => q = R) w (w1.setCell ⟨R, 3, none⟩ (.int .i64 pn))) := (Tch.gr G1.out).trans (Tch.set ⟨R, 3, none⟩ (.int .i64 pn) rfl)
  go_wp2_with fail
  go_ret
  exact ⟨rfl, B2.out, TC.out⟩
set_option maxRecDepth 100000 in
set_option maxHeartbeats 1000000 in
theorem readS_raw (u0 u1 u2 u3 u4 u5 u6 u7 : Value) (R : Nat) (s : ByteArray) (pn pf : Int) (w : World) (hR : Blk w R 77 [u0, u1, u2, u3, u4, u5, u6, u7])
    (HPA : Hid (Calls Tryd.prog 43 #[.string s, .int .i64 1073741824] w fun e w' => e = .returned (.tuple #[.int .i64 pn, .int .i64 pf]) ∧ Gr w w')) :
    Calls Tryd.prog 33 #[.pointer (some ⟨R, 0, none⟩), .int .i32 115, .string s] w fun e w' => e = .returned (.bool (pf == 0)) ∧ Blk w' R 77 [u0, u1, u2, u3, .int .i64 pn, u5, u6, u7] ∧ Tch (fun q => q = R) w w' := by
  have HR := Lib.hid hR; clear hR
  go_enter Tryd.func33, Tryd.ntmps33
  go_wp2_with fail
  refine HPA.out.mono ?_
  rintro e w1 ⟨rfl, g1⟩
  have B1 := Lib.hid (HR.out.mono g1)
  have c1 : w1.cell? ⟨R, 4, none⟩ = some u4 := by rw [B1.out.cell]; rfl
  have f1 := B1.out.free 4
  have G1 := Lib.hid g1; clear g1
  have B2 := Lib.hid (B1.out.set 4 (.int .i64 pn))
  have TC : Hid (Tch (fun q => q = R) w (w1.setCell ⟨R, 4, none⟩ (.int .i64 pn))) := (Tch.gr G1.out).trans (Tch.set ⟨R, 4, none⟩ (.int .i64 pn) rfl)
  go_wp2_with fail
  go_ret
  exact ⟨rfl, B2.out, TC.out⟩
set_option maxRecDepth 100000 in
set_option maxHeartbeats 1000000 in
theorem readN_raw (u0 u1 u2 u3 u4 u5 u6 u7 : Value) (R : Nat) (s : ByteArray) (pn pf : Int) (w : World) (hR : Blk w R 77 [u0, u1, u2, u3, u4, u5, u6, u7])
    (HPA : Hid (Calls Tryd.prog 43 #[.string s, .int .i64 1073741824] w fun e w' => e = .returned (.tuple #[.int .i64 pn, .int .i64 pf]) ∧ Gr w w')) :
    Calls Tryd.prog 33 #[.pointer (some ⟨R, 0, none⟩), .int .i32 110, .string s] w fun e w' => e = .returned (.bool (pf == 0)) ∧ Blk w' R 77 [u0, u1, u2, u3, u4, .int .i64 pn, u6, u7] ∧ Tch (fun q => q = R) w w' := by
  have HR := Lib.hid hR; clear hR
  go_enter Tryd.func33, Tryd.ntmps33
  go_wp2_with fail
  refine HPA.out.mono ?_
  rintro e w1 ⟨rfl, g1⟩
  have B1 := Lib.hid (HR.out.mono g1)
  have c1 : w1.cell? ⟨R, 5, none⟩ = some u5 := by rw [B1.out.cell]; rfl
  have f1 := B1.out.free 5
  have G1 := Lib.hid g1; clear g1
  have B2 := Lib.hid (B1.out.set 5 (.int .i64 pn))
  have TC : Hid (Tch (fun q => q = R) w (w1.setCell ⟨R, 5, none⟩ (.int .i64 pn))) := (Tch.gr G1.out).trans (Tch.set ⟨R, 5, none⟩ (.int .i64 pn) rfl)
  go_wp2_with fail
  go_ret
  exact ⟨rfl, B2.out, TC.out⟩
set_option maxRecDepth 100000 in
set_option maxHeartbeats 1000000 in
theorem readX_raw (u0 u1 u2 u3 u4 u5 u6 u7 : Value) (R : Nat) (s f : ByteArray) (pn pf : Int) (b : Bool) (r : List UInt8 × Nat × Nat) (w : World) (hR : Blk w R 77 [u0, u1, u2, u3, u4, u5, u6, u7])
    (HPA : Hid (Calls Tryd.prog 43 #[.string s, .int .i64 1073741824] w fun e w' => e = .returned (.tuple #[.int .i64 pn, .int .i64 pf]) ∧ Gr w w'))
    (HH : Hid (∀ wr, Calls Tryd.prog 45 #[.string s] wr (RetHex wr r)))
    (HF : Hid (∀ A m c wr, Bs wr A m c r.1 → Calls Tryd.prog 25 #[.agg #[u0, u1, u2, u3, u4, u5, u6, .slice A m c], .int .i32 120] wr fun e w' => e = .returned (.string f) ∧ Gr wr w'))
    (hb : b = (!(s.toList == []) && f.toList == s.toList)) :
    Calls Tryd.prog 33 #[.pointer (some ⟨R, 0, none⟩), .int .i32 120, .string s] w fun e w' => e = .returned (.bool b) ∧ ∃ A m c, Blk w' R 77 [u0, u1, u2, u3, u4, u5, u6, .slice A m c] ∧ Bs w' A m c r.1 ∧ (∀ b o, A = some ⟨b, o, none⟩ → w.heap.size ≤ b) ∧ Tch (fun q => q = R) w w' := by
  have HR := Lib.hid hR
  have HB := Lib.hid hb; clear hR hb
  go_enter Tryd.func33, Tryd.ntmps33
  go_wp2_with fail
  refine HPA.out.mono ?_
  rintro e w1 ⟨rfl, g1⟩
  have G1 := Lib.hid g1; clear g1
  go_wp2_with fail
  refine (HH.out _).mono ?_
  rintro e w2 ⟨v2, rfl, ow⟩
  have hlt : R < w1.heap.size := Nat.lt_of_lt_of_le HR.out.lt G1.out.size
  have hfr : Hid (∀ b o (A : Option Addr) m c, v2 = .slice A m c → A = some ⟨b, o, none⟩ → w1.heap.size ≤ b) := fun b o A m c e1 e2 => (ow.1.lt b (by rw [e1, e2]; rfl)).1
  obtain ⟨A, c, rfl, sl⟩ := ow.slice
  have HFR : Hid (∀ b o, A = some ⟨b, o, none⟩ → w1.heap.size ≤ b) := fun b o e => hfr.out b o A _ c rfl e
  have B1 := Lib.hid ((HR.out.mono G1.out).mono ow.below)
  have c1 : w2.cell? ⟨R, 7, none⟩ = some u7 := by rw [B1.out.cell]; rfl
  have f1 := B1.out.free 7
  have G2 := Lib.hid (G1.out.trans ow.below)
  have SL := Lib.hid sl
  have hsz := ow.below.size
  clear ow sl hfr
  generalize hm : r.1.length = m at *
  have TS : Hid (Tch (fun q => q = R) w2 (w2.setCell ⟨R, 7, none⟩ (.slice A m c))) := Tch.set ⟨R, 7, none⟩ (.slice A m c) rfl
  have SL2 : Hid (Bs (w2.setCell ⟨R, 7, none⟩ (.slice A m c)) A m c r.1) := Sl.tch SL.out (by decide) TS.out (fun _ b o e => by have := HFR.out b o e; show ¬ b = R; omega)
  have B2 := Lib.hid (B1.out.set 7 (.slice A m c))
  have HC : Hid (∀ j v, ([u0, u1, u2, u3, u4, u5, u6, .slice A m c] : List Value)[j]? = some v → (w2.setCell ⟨R, 7, none⟩ (.slice A m c)).cell? ⟨R, j, none⟩ = some v) := fun j v h => (B2.out.cell j).trans h
  have d0 := HC.out 0 _ rfl
  have d1 := HC.out 1 _ rfl
  have d2 := HC.out 2 _ rfl
  have d3 := HC.out 3 _ rfl
  have d4 := HC.out 4 _ rfl
  have d5 := HC.out 5 _ rfl
  have d6 := HC.out 6 _ rfl
  have d7 := HC.out 7 _ rfl
  have TC : Hid (Tch (fun q => q = R) w (w2.setCell ⟨R, 7, none⟩ (.slice A m c))) := (Tch.gr G2.out).trans TS.out
  have HF2 := Lib.hid (HF.out A m c _ SL2.out)
  have HFW : Hid (∀ b o, A = some ⟨b, o, none⟩ → w.heap.size ≤ b) := fun b o e => Nat.le_trans G1.out.size (HFR.out b o e)
  clear hm hsz hlt
  cases he : (s.toList == []) with
  | true =>
    have HX : Hid (b = false) := by show _ = _; rw [HB.out, he]; rfl
    go_wp2_with fail
    go_ret
    exact ⟨by rw [HX.out]; rfl, A, m, c, B2.out, SL2.out, HFW.out, TC.out⟩
  | false =>
    have HX : Hid (b = (f.toList == s.toList)) := by show _ = _; rw [HB.out, he]; rfl
    go_wp2_with fail
    refine HF2.out.mono ?_
    rintro e wf ⟨rfl, gf⟩
    have GF := Lib.hid gf; clear gf
    go_wp2_with fail
    go_ret
    exact ⟨by rw [HX.out]; rfl, A, m, c, B2.out.mono GF.out, SL2.out.mono GF.out, HFW.out, TC.out.trans (Tch.gr GF.out)⟩
theorem say_at (W : World) : ∀ j, j < 4 → ∀ v, (#[.string ⟨#[]⟩, .string ⟨#[97, 99, 99, 101, 112, 116, 101, 100]⟩, .string ⟨#[111, 116, 104, 101, 114]⟩, .string ⟨#[110, 111, 116, 104, 105, 110, 103]⟩] : Array Value).toList[j]? = some v → (W.alloc (.cells #[.string ⟨#[]⟩, .string ⟨#[97, 99, 99, 101, 112, 116, 101, 100]⟩, .string ⟨#[111, 116, 104, 101, 114]⟩, .string ⟨#[110, 111, 116, 104, 105, 110, 103]⟩] 116)).cell? ⟨W.heap.size, 0 + j, none⟩ = some v := fun j _ v h => by
  rw [Nat.zero_add, (Blk.new W 116 #[.string ⟨#[]⟩, .string ⟨#[97, 99, 99, 101, 112, 116, 101, 100]⟩, .string ⟨#[111, 116, 104, 101, 114]⟩, .string ⟨#[110, 111, 116, 104, 105, 110, 103]⟩]).cell]
  exact h
def sayZs : List ByteArray := [⟨#[]⟩, ⟨#[97, 99, 99, 101, 112, 116, 101, 100]⟩, ⟨#[111, 116, 104, 101, 114]⟩, ⟨#[110, 111, 116, 104, 105, 110, 103]⟩]
theorem sayIx (W : World) (s : ByteArray) : Calls Tryd.prog 64 #[.slice (some ⟨W.heap.size, 0, none⟩) 4 4, .string s] (W.alloc (.cells #[.string ⟨#[]⟩, .string ⟨#[97, 99, 99, 101, 112, 116, 101, 100]⟩, .string ⟨#[111, 116, 104, 101, 114]⟩, .string ⟨#[110, 111, 116, 104, 105, 110, 103]⟩] 116)) fun e w' => e = .returned (.int .i64 (Lib.idxOfS sayZs s)) ∧ w' = (W.alloc (.cells #[.string ⟨#[]⟩, .string ⟨#[97, 99, 99, 101, 112, 116, 101, 100]⟩, .string ⟨#[111, 116, 104, 101, 114]⟩, .string ⟨#[110, 111, 116, 104, 105, 110, 103]⟩] 116)) :=
  Tryd.slices_Index_string W.heap.size 0 4 4 sayZs s _ (by decide) (by decide) (fun j hj => by
    have hj : j < 4 := hj
    refine say_at W j hj _ ?_
    rcases show j = 0 ∨ j = 1 ∨ j = 2 ∨ j = 3 by omega with rfl | rfl | rfl | rfl <;> rfl)
set_option maxRecDepth 100000 in
set_option maxHeartbeats 1000000 in
theorem readV_raw (u0 u1 u2 u3 u4 u5 u6 u7 : Value) (R : Nat) (s f : ByteArray) (pn pf q : Int) (b : Bool) (w : World) (hR : Blk w R 77 [u0, u1, u2, u3, u4, u5, u6, u7])
    (HPA : Hid (Calls Tryd.prog 43 #[.string s, .int .i64 1073741824] w fun e w' => e = .returned (.tuple #[.int .i64 pn, .int .i64 pf]) ∧ Gr w w'))
    (HF : Hid (∀ wr, Tch (fun q => q = R) w wr → Calls Tryd.prog 25 #[.agg #[u0, u1, u2, u3, u4, u5, .int .i64 q, u7], .int .i32 118] wr fun e w' => e = .returned (.string f) ∧ Gr wr w'))
    (hq : q = max (Lib.idxOfS sayZs s) 0)
    (hb : b = (!(s.toList == []) && f.toList == s.toList)) :
    Calls Tryd.prog 33 #[.pointer (some ⟨R, 0, none⟩), .int .i32 118, .string s] w fun e w' => e = .returned (.bool b) ∧ Blk w' R 77 [u0, u1, u2, u3, u4, u5, .int .i64 q, u7] ∧ Tch (fun q => q = R) w w' := by
  have HR := Lib.hid hR
  have HB := Lib.hid hb; clear hR hb
  have HIX : Hid (∀ W : World, Calls Tryd.prog 64 #[.slice (some ⟨W.heap.size, 0, none⟩) 4 4, .string s] (W.alloc (.cells #[.string ⟨#[]⟩, .string ⟨#[97, 99, 99, 101, 112, 116, 101, 100]⟩, .string ⟨#[111, 116, 104, 101, 114]⟩, .string ⟨#[110, 111, 116, 104, 105, 110, 103]⟩] 116)) fun e w' => e = .returned (.int .i64 (Lib.idxOfS sayZs s)) ∧ w' = (W.alloc (.cells #[.string ⟨#[]⟩, .string ⟨#[97, 99, 99, 101, 112, 116, 101, 100]⟩, .string ⟨#[111, 116, 104, 101, 114]⟩, .string ⟨#[110, 111, 116, 104, 105, 110, 103]⟩] 116))) := fun W => sayIx W s
  have HSY : Hid (∀ W : World, Calls Tryd.prog 56 #[] W fun e w' => e = .returned (.agg #[.string ⟨#[]⟩, .string ⟨#[97, 99, 99, 101, 112, 116, 101, 100]⟩, .string ⟨#[111, 116, 104, 101, 114]⟩, .string ⟨#[110, 111, 116, 104, 105, 110, 103]⟩]) ∧ Gr W w') := fun W => sayings_any W
  obtain ⟨ix, hix⟩ : ∃ ix, ix = Lib.idxOfS sayZs s := ⟨_, rfl⟩
  rw [← hix] at HIX hq
  clear hix
  go_enter Tryd.func33, Tryd.ntmps33
  go_wp2_with fail
  refine HPA.out.mono ?_
  rintro e w1 ⟨rfl, g1⟩
  have G1 := Lib.hid g1; clear g1
  go_wp2_with fail
  refine (HSY.out _).mono ?_
  rintro e w2 ⟨rfl, g2⟩
  have G2 := Lib.hid (G1.out.trans g2); clear g2
  go_wp2_with fail
  refine (HIX.out _).mono ?_
  rintro e w3 ⟨rfl, rfl⟩
  have G3 : Hid (Gr w (w2.alloc (.cells #[.string ⟨#[]⟩, .string ⟨#[97, 99, 99, 101, 112, 116, 101, 100]⟩, .string ⟨#[111, 116, 104, 101, 114]⟩, .string ⟨#[110, 111, 116, 104, 105, 110, 103]⟩] 116))) := G2.out.trans (Gr.alloc _ _)
  obtain ⟨w3, hw3⟩ : ∃ w3, w3 = w2.alloc (.cells #[.string ⟨#[]⟩, .string ⟨#[97, 99, 99, 101, 112, 116, 101, 100]⟩, .string ⟨#[111, 116, 104, 101, 114]⟩, .string ⟨#[110, 111, 116, 104, 105, 110, 103]⟩] 116) := ⟨_, rfl⟩
  rw [← hw3] at G3 ⊢
  have B1 := Lib.hid (HR.out.mono G3.out)
  have c1 : w3.cell? ⟨R, 6, none⟩ = some u6 := by rw [B1.out.cell]; rfl
  have f1 := B1.out.free 6
  clear hw3
  have B2 := Lib.hid (B1.out.set 6 (.int .i64 q))
  have HC : Hid (∀ j v, ([u0, u1, u2, u3, u4, u5, .int .i64 q, u7] : List Value)[j]? = some v → (w3.setCell ⟨R, 6, none⟩ (.int .i64 q)).cell? ⟨R, j, none⟩ = some v) := fun j v h => (B2.out.cell j).trans h
  have d0 := HC.out 0 _ rfl
  have d1 := HC.out 1 _ rfl
  have d2 := HC.out 2 _ rfl
  have d3 := HC.out 3 _ rfl
  have d4 := HC.out 4 _ rfl
  have d5 := HC.out 5 _ rfl
  have d6 := HC.out 6 _ rfl
  have d7 := HC.out 7 _ rfl
  have TC : Hid (Tch (fun q => q = R) w (w3.setCell ⟨R, 6, none⟩ (.int .i64 q))) := (Tch.gr G3.out).trans (Tch.set ⟨R, 6, none⟩ (.int .i64 q) rfl)
  have HF2 := Lib.hid (HF.out _ TC.out)
  subst hq
  cases he : (s.toList == []) with
  | true =>
    have HX : Hid (b = false) := by show _ = _; rw [HB.out, he]; rfl
    go_wp2_with fail
    go_ret
    exact ⟨by rw [HX.out]; rfl, B2.out, TC.out⟩
  | false =>
    have HX : Hid (b = (f.toList == s.toList)) := by show _ = _; rw [HB.out, he]; rfl
    go_wp2_with fail
    refine HF2.out.mono ?_
    rintro e wf ⟨rfl, gf⟩
    have GF := Lib.hid gf; clear gf
    go_wp2_with fail
    go_ret
    exact ⟨by rw [HX.out]; rfl, B2.out.mono GF.out, TC.out.trans (Tch.gr GF.out)⟩
end Go.Proofs.YtadenlhnfkccaaaDoor
