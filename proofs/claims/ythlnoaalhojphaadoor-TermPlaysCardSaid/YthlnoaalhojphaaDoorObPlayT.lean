/- The reference's texts of terms. No condition. -/
import Derived.Test.YthlnoaalhojphaaDoorObPlayR
import Derived.BigQuiet
import Derived.Outline
namespace Go.Proofs.YthlnoaalhojphaaDoor
open Go.RowKit
set_option linter.unusedVariables false
theorem ret_str {a b : ByteArray} (h : a.data.toList = b.data.toList) : Ending.returned (.string a) = Ending.returned (.string b) := by
  obtain ⟨⟨a⟩⟩ := a
  obtain ⟨⟨b⟩⟩ := b
  simp only at h
  rw [h]
def Texts (A : Option Addr) (n c : Nat) (T : List Nd) (id : Nat) : Prop := ∀ w, RTb w A n c T → (printT T id).length ≤ 100000000 →
  Calls Tryd.prog 83 #[.slice A n c, .int .i64 (id : Int)] w fun e w' => e = .returned (.string ⟨(printT T id).toArray⟩) ∧ Gr w w'
set_option maxRecDepth 100000 in
set_option maxHeartbeats 4000000 in
theorem refText_any (A : Option Addr) (n c : Nat) (T : List Nd) (hT : Parted T) (hK : Kinds T) (hB : Brief T) (hTl : T.length = n) (hn : n ≤ 1000) : ∀ id, 1 ≤ id → id ≤ n → Texts A n c T id := by
  intro id
  induction id using Nat.strongRecOn with
  | ind id ih =>
    intro h1 h2 w h hl
    obtain ⟨i, rfl⟩ : ∃ i, id = i + 1 := ⟨id - 1, by omega⟩
    have hin : i < n := by omega
    obtain ⟨b, o, x, rfl, hx, c0, c1, c2, c3, c4⟩ := h.row hin
    have hk := (hT i x hx).1
    have hpp := (hT i x hx).2
    have hm := List.mem_of_getElem? hx
    have hxn := hB.n x hm
    have hxs := hB.s x hm
    have hmx := Nat.le_trans h.cap h.max
    have HIH : Hid (∀ p ∈ x.parts, Texts (some ⟨b, o, none⟩) n c T p) := fun p hpm => ih p (by have := hpp p hpm; omega) (hpp p hpm).1 (by have := hpp p hpm; omega)
    rw [printT_at hT hx] at hl ⊢
    have HR := Lib.hid h
    have hdl := decT_len x.n hxn
    have HND := Lib.hid (fun wq => refNumber_any x.n wq hxn)
    have hw : IntKind.i64.wrap ((i : Int) + 1 - 1) = i := by rw [IntWalk.i64_in _ (by omega)]; omega
    have hw2 : wrap64 (i : Int) = i := IntWalk.wrap64_in _ ⟨by omega, by omega⟩
    have e0 : ((i + 1 : Nat) : Int) = (i : Int) + 1 := by omega
    rw [e0]
    obtain ⟨wl, hwl⟩ : ∃ wl, wl = w.alloc (.cells #[.int .i64 (x.k : Int), .int .i64 (x.a : Int), .int .i64 (x.b : Int), .string x.s, .int .i64 (x.n : Int)] 85) := ⟨_, rfl⟩
    have hbk : Blk wl w.heap.size 85 [.int .i64 (x.k : Int), .int .i64 (x.a : Int), .int .i64 (x.b : Int), .string x.s, .int .i64 (x.n : Int)] := by rw [hwl]; exact Blk.new w _ _
    have hgl : Gr w wl := by rw [hwl]; exact Gr.alloc _ _
    have HC : Hid (∀ wq, Gr wl wq → wq.cell? ⟨w.heap.size, 1, none⟩ = some (.int .i64 (x.a : Int)) ∧ wq.cell? ⟨w.heap.size, 2, none⟩ = some (.int .i64 (x.b : Int)) ∧ wq.cell? ⟨w.heap.size, 3, none⟩ = some (.string x.s)) := fun wq hq => ⟨((hq.blk hbk).cell 1).trans rfl, ((hq.blk hbk).cell 2).trans rfl, ((hq.blk hbk).cell 3).trans rfl⟩
    have HGL := Lib.hid hgl; have HWL := Lib.hid hwl
    have k0 : wl.cell? ⟨w.heap.size, 0, none⟩ = some (.int .i64 (x.k : Int)) := (hbk.cell 0).trans rfl
    have k3 : wl.cell? ⟨w.heap.size, 3, none⟩ = some (.string x.s) := (hbk.cell 3).trans rfl
    have k4 : wl.cell? ⟨w.heap.size, 4, none⟩ = some (.int .i64 (x.n : Int)) := (hbk.cell 4).trans rfl
    have hpa : x.k = 3 → x.parts = [x.a] := fun k3 => by simp [Nd.parts, k3]
    have hpb : 4 ≤ x.k → x.parts = [x.a, x.b] := fun k3 => by unfold Nd.parts; rw [if_neg (by omega), if_neg (by omega)]
    clear e0 h ih hT hK hB hpp hx hm hbk hgl hwl h1 h2
    obtain ⟨xk, xa, xb, xs, xn⟩ := x
    dsimp only at *
    have hkk : xk = 1 ∨ xk = 2 ∨ xk = 3 ∨ xk = 4 ∨ xk = 5 := by omega
    rcases hkk with rfl | rfl | rfl | rfl | rfl
    · clear hpa hpb HIH
      go_enter Tryd.func83, Tryd.ntmps83
      go_wp2_with fail
      refine (HND.out _).mono ?_
      rintro e w2 ⟨rfl, g2⟩
      have G2 := Lib.hid ((Gr.alloc _ _).trans g2); clear g2
      go_wp2_with fail
      go_ret
      exact ⟨ret_str (by simp), G2.out⟩
    · clear hpa hpb HIH
      go_enter Tryd.func83, Tryd.ntmps83
      go_wp2_with fail
      go_ret
      exact ⟨ret_str (by simp), Gr.alloc _ _⟩
    · have hA := HIH.out xa (by rw [hpa rfl]; simp)
      unfold Texts at hA
      have HA := Lib.hid hA; clear hA
      rw [if_neg (by decide), if_neg (by decide), if_pos rfl] at hl ⊢
      have hla : (printT T xa).length ≤ 100000000 := by simp [headS] at hl; omega
      clear hpa hpb HIH hdl
      generalize printT T xa = la at *
      have hwl' : w.alloc (.cells #[.int .i64 3, .int .i64 (xa : Int), .int .i64 (xb : Int), .string xs, .int .i64 (xn : Int)] 85) = wl := HWL.out.symm
      have HWW := Lib.hid hwl'; clear hwl'
      have l1 : ¬ 9223372036854775807 < 4 + la.length := by omega
      have l2 : ¬ 9223372036854775807 < 4 + la.length + 1 := by omega
      have l3 : ¬ 9223372036854775807 < 4 + la.length + 1 + xs.size := by omega
      have l4 : ¬ 9223372036854775807 < 4 + la.length + 1 + xs.size + 1 := by omega
      go_enter Tryd.func83, Tryd.ntmps83
      go_wp2_with fail
      rw [HWW.out]
      refine wp_region_quiet (C := fun w' => Below (wl).heap.size (wl) w') (by kernel_rfl) (by kernel_rfl) (Below.refl _ _).drew ?_
      simp only
      repeat (first
        | go_big_quiet_skip
        | (go_big_quiet_want
           apply Exists.intro
           refine ⟨fun wq hq => ?_, ?_⟩
           · (obtain ⟨c1, c2, c3⟩ := HC.out wq hq
              go_simp
              first
                | done
                | exact rfl
                | (with_reducible exact ⟨rfl, rfl⟩)
                | (go_at_call 83; exact (HA.out wq (HR.out.mono (HGL.out.trans hq)) hla).mono fun e w2 ⟨he, hb⟩ => ⟨he, below_both hq hb⟩))
           go_simp
           go_big_quiet_on))
      refine wpQuiet_nil ?_
      intro wq hq
      go_wp2_with fail
      go_ret
      exact ⟨ret_str (by simp [headS]), HGL.out.trans hq⟩
    · have hA := HIH.out xa (by rw [hpb (by omega)]; simp)
      have hB := HIH.out xb (by rw [hpb (by omega)]; simp)
      unfold Texts at hA hB
      rw [if_neg (by decide), if_neg (by decide), if_neg (by decide)] at hl ⊢
      have hla : (printT T xa).length ≤ 100000000 := by simp [headS] at hl; omega
      have hlb : (printT T xb).length ≤ 100000000 := by simp [headS] at hl; omega
      have HA := Lib.hid hA; have HB := Lib.hid hB
      clear hpa hpb HIH hdl hA hB
      generalize printT T xa = la at *
      generalize printT T xb = lb at *
      have hwl' : w.alloc (.cells #[.int .i64 4, .int .i64 (xa : Int), .int .i64 (xb : Int), .string xs, .int .i64 (xn : Int)] 85) = wl := HWL.out.symm
      have HWW := Lib.hid hwl'; clear hwl'
      have l1 : ¬ 9223372036854775807 < 4 + la.length := by omega
      have l2 : ¬ 9223372036854775807 < 4 + la.length + 1 := by omega
      have l3 : ¬ 9223372036854775807 < 4 + la.length + 1 + lb.length := by omega
      have l4 : ¬ 9223372036854775807 < 4 + la.length + 1 + lb.length + 1 := by omega
      go_enter Tryd.func83, Tryd.ntmps83
      go_wp2_with fail
      rw [HWW.out]
      refine wp_region_quiet (C := fun w' => Below (wl).heap.size (wl) w') (by kernel_rfl) (by kernel_rfl) (Below.refl _ _).drew ?_
      simp only
      repeat (first
        | go_big_quiet_skip
        | (go_big_quiet_want
           apply Exists.intro
           refine ⟨fun wq hq => ?_, ?_⟩
           · (obtain ⟨c1, c2, c3⟩ := HC.out wq hq; have HR2 : Hid (RTb wq (some ⟨b, o, none⟩) n c T) := HR.out.mono (HGL.out.trans hq)
              go_simp
              first
                | done
                | exact rfl
                | (with_reducible exact ⟨rfl, rfl⟩)
                | (go_at_call 83; (first | (have hz := HA.out wq HR2.out hla; with_reducible refine hz.mono ?_) | (have hz := HB.out wq HR2.out hlb; with_reducible refine hz.mono ?_)); exact fun e w2 ⟨he, hb⟩ => ⟨he, below_both hq hb⟩))
           go_simp
           go_big_quiet_on))
      refine wpQuiet_nil ?_
      intro wq hq
      go_wp2_with fail
      go_ret
      exact ⟨ret_str (by simp [headS]), HGL.out.trans hq⟩
    · have hA := HIH.out xa (by rw [hpb (by omega)]; simp)
      have hB := HIH.out xb (by rw [hpb (by omega)]; simp)
      unfold Texts at hA hB
      rw [if_neg (by decide), if_neg (by decide), if_neg (by decide)] at hl ⊢
      have hla : (printT T xa).length ≤ 100000000 := by simp [headS] at hl; omega
      have hlb : (printT T xb).length ≤ 100000000 := by simp [headS] at hl; omega
      have HA := Lib.hid hA; have HB := Lib.hid hB
      clear hpa hpb HIH hdl hA hB
      generalize printT T xa = la at *
      generalize printT T xb = lb at *
      have hwl' : w.alloc (.cells #[.int .i64 5, .int .i64 (xa : Int), .int .i64 (xb : Int), .string xs, .int .i64 (xn : Int)] 85) = wl := HWL.out.symm
      have HWW := Lib.hid hwl'; clear hwl'
      have l1 : ¬ 9223372036854775807 < 4 + la.length := by omega
      have l2 : ¬ 9223372036854775807 < 4 + la.length + 1 := by omega
      have l3 : ¬ 9223372036854775807 < 4 + la.length + 1 + lb.length := by omega
      have l4 : ¬ 9223372036854775807 < 4 + la.length + 1 + lb.length + 1 := by omega
      go_enter Tryd.func83, Tryd.ntmps83
      go_wp2_with fail
      rw [HWW.out]
      refine wp_region_quiet (C := fun w' => Below (wl).heap.size (wl) w') (by kernel_rfl) (by kernel_rfl) (Below.refl _ _).drew ?_
      simp only
      repeat (first
        | go_big_quiet_skip
        | (go_big_quiet_want
           apply Exists.intro
           refine ⟨fun wq hq => ?_, ?_⟩
           · (obtain ⟨c1, c2, c3⟩ := HC.out wq hq; have HR2 : Hid (RTb wq (some ⟨b, o, none⟩) n c T) := HR.out.mono (HGL.out.trans hq)
              go_simp
              first
                | done
                | exact rfl
                | (with_reducible exact ⟨rfl, rfl⟩)
                | (go_at_call 83; (first | (have hz := HA.out wq HR2.out hla; with_reducible refine hz.mono ?_) | (have hz := HB.out wq HR2.out hlb; with_reducible refine hz.mono ?_)); exact fun e w2 ⟨he, hb⟩ => ⟨he, below_both hq hb⟩))
           go_simp
           go_big_quiet_on))
      refine wpQuiet_nil ?_
      intro wq hq
      go_wp2_with fail
      go_ret
      exact ⟨ret_str (by simp [headS]), HGL.out.trans hq⟩
end Go.Proofs.YthlnoaalhojphaaDoor
