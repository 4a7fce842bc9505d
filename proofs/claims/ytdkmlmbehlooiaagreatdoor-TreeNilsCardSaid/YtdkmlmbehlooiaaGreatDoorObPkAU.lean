/- Own texts, one behind the other. No condition. -/
import Derived.Test.YtdkmlmbehlooiaaGreatDoorObPkAT
set_option linter.unusedVariables false
set_option linter.unusedSimpArgs false
namespace Go.Proofs.YtdkmlmbehlooiaaGreatDoor
section
open Go.RowKit
def sprMax : Option Spr → Option Spr → Option Spr
 | x, none => x
 | none, some y => some y
 | some x, some y => if x.life < y.life then some y else some x
def sprBeats (x : Spr) : Option Spr → Bool
 | none => true
 | some y => decide (y.life < x.life)
def superR (S : List (List UInt8)) (a d l : Int) (K : List (List UInt8)) : Option Spr := sprMax (superB S a d l 2 (K.getD 2 [])) (superB S a d l 3 (K.getD 3 []))
theorem spr_cells {w : World} {g : Nat} {t : TypeId} {x : Spr} (h : Blk w g t (sprC x).toList) : w.cell? ⟨g, 0, none⟩ = some (.int .u64 (x.life : Int)) ∧ w.cell? ⟨g, 1, none⟩ = some (.int .i64 (x.base : Int)) ∧ w.cell? ⟨g, 2, none⟩ = some (.int .u64 (x.gen : Int)) := ⟨h.cell 0, h.cell 1, h.cell 2⟩
section
variable {w0 w w' : World} {L : Pl} {m : Mc} {n : Nat} {a d l : Int}
set_option maxHeartbeats 1000000 in
theorem greater_any (x : Spr) (st : Option Spr) (pf pb : Nat) (w : World) (hf : Blk w pf 4 [.bool st.isSome]) (hb : Blk w pb 108 (sprC (st.getD spr0)).toList) :
 Calls Tryz.prog 128 #[.agg (sprC x), .pointer (some ⟨pf, 0, none⟩), .pointer (some ⟨pb, 0, none⟩)] w fun e w' => e = .returned (.bool (sprBeats x st)) ∧ Gr w w' := by
 have c0 := hf.cell 0
 have b0 := hb.cell 0
 have c0' := ((hf.alloc (.cells (sprC x) 108)).cell 0)
 have b0' := ((hb.alloc (.cells (sprC x) 108)).cell 0)
 clear hf hb
 unfold sprC at *
 cases st with
 | none =>
  go_enter Tryz.func128, Tryz.ntmps128
  go_wp2_with fail
  go_ret
  exact ⟨rfl, Gr.alloc _ _⟩
 | some y =>
  have t : decide ((y.life : Int) < (x.life : Int)) = decide (y.life < x.life) := decide_eq_decide.2 (by omega)
  go_enter Tryz.func128, Tryz.ntmps128
  go_wp2_with fail
  go_ret
  exact ⟨ret_bool rfl, Gr.alloc _ _⟩
def superTo (S : List (List UInt8)) (a d l : Int) (K : List (List UInt8)) : Nat → Option Spr
 | 0 => none
 | k + 1 => sprMax (superTo S a d l K k) (superB S a d l (2 + k) (K.getD (2 + k) []))
theorem superTo_two (S : List (List UInt8)) (a d l : Int) (K : List (List UInt8)) : superTo S a d l K 2 = superR S a d l K := by
 unfold superTo superTo superTo superR
 cases superB S a d l 2 (K.getD 2 []) <;> rfl
set_option maxRecDepth 100000 in
set_option maxHeartbeats 4000000 in
theorem superRead_any (h : MSt w0 L m w) (f : Fit m a d l) (ho : m.Ok n) (hn : n ≤ 900) (hd : m.d.down = false) (hp : m.d.pend = []) :
 Calls Tryz.prog 62 #[.pointer (some ⟨L.dp, 0, none⟩), .pointer (some ⟨L.p, 0, none⟩), .agg #[.int .i64 a, .int .i64 d, .int .i64 l]] w fun e w' => e = .returned (.tuple #[.agg (sprC ((superR m.S a d l m.d.kept).getD spr0)), .int .i64 (if (superR m.S a d l m.d.kept).isSome = true then 0 else 11)]) ∧ Gr w w' := by
 have hk : 4 ≤ m.d.kept.length := by have := f.s; have := f.g.l; have := (pgE a d l).1; unfold sizeI at *; omega
 obtain ⟨R, hR⟩ : ∃ R, R = superR m.S a d l m.d.kept := ⟨_, rfl⟩
 rw [← hR]
 rw [← superTo_two] at hR
 obtain ⟨F, hF⟩ : ∃ F, F = superTo m.S a d l m.d.kept := ⟨_, rfl⟩
 rw [← hF] at hR
 obtain ⟨B, hB⟩ : ∃ B : Nat → Option Spr, B = fun k => superB m.S a d l (2 + k) (m.d.kept.getD (2 + k) []) := ⟨_, rfl⟩
 have HF0 : Hid (F 0 = none) := by show _ = _; rw [hF]; rfl
 have HFS : Hid (∀ k, F (k + 1) = sprMax (F k) (B k)) := fun k => by rw [hF, hB]; rfl
 have HAT : Hid (∀ k, k < 2 → ∀ wr, Gr w wr → Calls Tryz.prog 130 #[.pointer (some ⟨L.dp, 0, none⟩), .pointer (some ⟨L.p, 0, none⟩), .agg #[.int .i64 a, .int .i64 d, .int .i64 l], .int .i64 ((2 + k : Nat) : Int)] wr fun e w' => e = .returned (.tuple #[.agg (sprC ((B k).getD spr0)), .bool (B k).isSome, .int .i64 0]) ∧ Gr wr w') := fun k hk2 wr g => by
  have hkk : 2 + k < m.d.kept.length := by omega
  have hb : m.d.kept[2 + k]? = some (m.d.kept.getD (2 + k) []) := by rw [List.getD_eq_getElem?_getD, List.getElem?_eq_getElem hkk]; rfl
  rw [hB]
  exact superAt_any (h.mono g) f ho hn hd hp k hk2 _ hb
 have HBO := Lib.hid (fun wr (g : Gr w wr) => superBoth_any (h.mono g) f)
 have HPL := Lib.hid (fun wr => superPlaces_any wr)
 have HRR := Lib.hid hR
 clear h f ho hd hp hk hR hF hB
 have g0 : Gr w ((w.alloc (.cells #[.int .i64 a, .int .i64 d, .int .i64 l] 23)).alloc (.cells (sprC spr0) 108)) := (Gr.alloc _ _).trans (Gr.alloc _ _)
 have gb : Blk ((w.alloc (.cells #[.int .i64 a, .int .i64 d, .int .i64 l] 23)).alloc (.cells (sprC spr0) 108)) w.heap.size 23 [.int .i64 a, .int .i64 d, .int .i64 l] := (Blk.new w _ _).alloc _
 have rb : Blk ((w.alloc (.cells #[.int .i64 a, .int .i64 d, .int .i64 l] 23)).alloc (.cells (sprC spr0) 108)) (w.heap.size + 1) 108 (sprC spr0).toList := heap_alloc2_new w _ _
 go_enter Tryz.func62, Tryz.ntmps62
 go_upto_region 1 with fail
 change Code.wp _ _ _ _ ((w.alloc (.cells #[.int .i64 a, .int .i64 d, .int .i64 l] 23)).alloc (.cells (sprC spr0) 108))
 obtain ⟨W, hW⟩ : ∃ W, W = (w.alloc (.cells #[.int .i64 a, .int .i64 d, .int .i64 l] 23)).alloc (.cells (sprC spr0) 108) := ⟨_, rfl⟩
 rw [← hW] at g0 gb rb ⊢
 have G0 := Lib.hid g0; have GB := Lib.hid gb; have RB := Lib.hid rb
 have k0 := gb.cell 0
 have k1 := gb.cell 1
 have k2 := gb.cell 2
 clear hW g0 gb rb
 try go_step3
 go_wp2_with fail
 refine (HBO.out _ G0.out).mono ?_
 rintro e w1 ⟨rfl, g1⟩
 have G1 := Lib.hid (G0.out.trans g1)
 have GB1 := Lib.hid (GB.out.mono g1)
 have RB1 := Lib.hid (RB.out.mono g1)
 clear g1 k0 k1 k2
 go_wp2_with fail
 have b2 : Blk (w1.alloc (.cells #[.bool false] 4)) w1.heap.size 4 [.bool false] := Blk.new w1 _ _
 have g2 : Gr w1 (w1.alloc (.cells #[.bool false] 4)) := Gr.alloc _ _
 obtain ⟨w2, hw2⟩ : ∃ w2, w2 = w1.alloc (.cells #[.bool false] 4) := ⟨_, rfl⟩
 rw [← hw2] at b2 g2 ⊢
 obtain ⟨pf, hpf⟩ : ∃ pf, pf = w1.heap.size := ⟨_, rfl⟩
 have hpf1 : w.heap.size + 1 < pf := by rw [hpf]; exact RB1.out.lt
 have hpf2 : w.heap.size < pf := by omega
 rw [← hpf] at b2 ⊢
 have B2 := Lib.hid b2
 have G2 := Lib.hid (G1.out.trans g2)
 have GB2 := Lib.hid (GB1.out.mono g2)
 have RB2 := Lib.hid (RB1.out.mono g2)
 clear hw2 hpf b2 g2
 go_step3
 go_wp2_with fail
 refine (HPL.out _).mono ?_
 rintro e w3 ⟨rfl, g3⟩
 have HX : Hid (∀ k : Nat, k < 2 → ∀ W : World, (Instr.index 166 (.agg #[.int .i64 2, .int .i64 3]) (.int .i64 (k : Int))).run Tryz.prog W = .ok (.int .i64 ((2 + k : Nat) : Int)) W) := fun k hk W => by
  rcases (show k = 0 ∨ k = 1 by omega) with e | e <;> subst e <;> kernel_rfl
 have HI : Hid (Gr w w3 ∧ Blk w3 w.heap.size 23 [.int .i64 a, .int .i64 d, .int .i64 l] ∧ Blk w3 (w.heap.size + 1) 108 (sprC ((F 0).getD spr0)).toList ∧ Blk w3 pf 4 [.bool (F 0).isSome]) :=
  ⟨G2.out.trans g3, GB2.out.mono g3, by rw [HF0.out]; exact RB2.out.mono g3, by rw [HF0.out]; exact B2.out.mono g3⟩
 clear g3
 go_wp2_with fail
 go_loopw [26] (fun i wr => ∃ k : Nat, k ≤ 2 ∧ i = .int .i64 (k : Int) ∧ Gr w wr ∧ Blk wr w.heap.size 23 [.int .i64 a, .int .i64 d, .int .i64 l] ∧ Blk wr (w.heap.size + 1) 108 (sprC ((F k).getD spr0)).toList ∧ Blk wr pf 4 [.bool (F k).isSome]) (fun i _ => 2 - (Go.RowKit.intOf i).toNat)
 case atStart => exact ⟨0, by omega, rfl, HI.out⟩
 case round =>
  obtain ⟨k, hk, rfl, hg, hgb, hrb, hfb⟩ := hrel
  have HG := Lib.hid hg; have HGB := Lib.hid hgb; have HRB := Lib.hid hrb; have HFB := Lib.hid hfb
  clear hg hrb hfb
  by_cases hlt : k < 2
  · have t : decide ((k : Int) < 2) = true := decide_eq_true (by omega)
    have hx := HX.out k hlt
    have HA := Lib.hid (HAT.out k hlt)
    obtain ⟨v, hv⟩ : ∃ v, v = 2 + k := ⟨_, rfl⟩
    rw [← hv] at hx HA
    have HV := Lib.hid hv; clear hv
    have k0 := hgb.cell 0
    have k1 := hgb.cell 1
    have k2 := hgb.cell 2
    clear hgb
    go_wp2_with fail
    refine (HA.out wr HG.out).mono ?_
    rintro e w4 ⟨rfl, g4⟩
    have HG4 := Lib.hid (HG.out.trans g4); have HGB4 := Lib.hid (HGB.out.mono g4); have HRB4 := Lib.hid (HRB.out.mono g4); have HFB4 := Lib.hid (HFB.out.mono g4)
    clear g4 k0 k1 k2
    have HSN := Lib.hid (HFS.out k)
    obtain ⟨r, hr⟩ : ∃ r, r = B k := ⟨_, rfl⟩
    rw [← hr] at HSN ⊢
    clear hr
    have wk : IntKind.i64.wrap ((k : Int) + 1) = (k : Int) + 1 := IntWalk.i64_in _ (by omega)
    cases r with
    | none =>
     simp only [Option.getD_none, Option.isSome_none]
     unfold sprC
     go_wp2_with fail
     have gz : Gr w4 (w4.alloc (.cells (sprC spr0) 108)) := Gr.alloc _ _
     refine ⟨⟨k + 1, by omega, by go_num, HG4.out.trans gz, HGB4.out.mono gz, ?_, ?_⟩, by simp [Go.RowKit.intOf]; omega⟩
     · rw [HSN.out]; exact HRB4.out.mono gz
     · rw [HSN.out]; exact HFB4.out.mono gz
    | some x =>
     simp only [Option.getD_some, Option.isSome_some]
     have gz : Gr w4 (w4.alloc (.cells (sprC x) 108)) := Gr.alloc _ _
     have bz : Blk (w4.alloc (.cells (sprC x) 108)) w4.heap.size 108 (sprC x).toList := Blk.new w4 _ _
     have HGT := Lib.hid (fun wr (g : Gr (w4.alloc (.cells (sprC x) 108)) wr) => greater_any x (F k) pf (w.heap.size + 1) wr ((HFB4.out.mono gz).mono g) ((HRB4.out.mono gz).mono g))
     unfold sprC at HGT
     unfold sprC
     go_wp2_with fail
     change Calls _ _ _ (w4.alloc (.cells (sprC x) 108)) _
     refine (HGT.out _ (Gr.refl _)).mono ?_
     rintro e w5 ⟨rfl, g5⟩
     have BZ5 := Lib.hid (bz.mono g5)
     have HG5 := Lib.hid ((HG4.out.trans gz).trans g5); have HGB5 := Lib.hid ((HGB4.out.mono gz).mono g5); have HRB5 := Lib.hid ((HRB4.out.mono gz).mono g5); have HFB5 := Lib.hid ((HFB4.out.mono gz).mono g5)
     clear bz gz g5
     have HMX : Hid (sprMax (F k) (some x) = if sprBeats x (F k) = true then some x else F k) := by
      show _ = _
      cases F k with
      | none => rfl
      | some y =>
       show (if y.life < x.life then some x else some y) = (if decide (y.life < x.life) = true then some x else some y)
       by_cases h : y.life < x.life
       · rw [if_pos h, if_pos (decide_eq_true h)]
       · rw [if_neg h, if_neg (by simpa using h)]
     obtain ⟨q, hq⟩ : ∃ q, q = sprBeats x (F k) := ⟨_, rfl⟩
     rw [← hq] at HMX ⊢
     clear hq
     cases q
     · go_wp2_with fail
       have he : F (k + 1) = F k := by rw [HSN.out, HMX.out]; rfl
       refine ⟨⟨k + 1, by omega, by go_num, HG5.out, HGB5.out, ?_, ?_⟩, by simp [Go.RowKit.intOf]; omega⟩
       · rw [he]; exact HRB5.out
       · rw [he]; exact HFB5.out
     · obtain ⟨z0, z1, z2⟩ := spr_cells BZ5.out
       have he : Hid (F (k + 1) = some x) := by show _ = _; rw [HSN.out, HMX.out]; rfl
       have HN6 : Hid (Blk (w5.setRow (w.heap.size + 1) (sprC x)) (w.heap.size + 1) 108 (sprC x).toList) := setRow_heap w5 (w.heap.size + 1) _ (sprC x) _ _ HRB5.out
       have T6 : Hid (Tch (fun b => b = w.heap.size + 1) w5 (w5.setRow (w.heap.size + 1) (sprC x))) := Tch.row (S := fun b => b = w.heap.size + 1) rfl _
       obtain ⟨w6, hw6⟩ : ∃ w6, w6 = w5.setRow (w.heap.size + 1) (sprC x) := ⟨_, rfl⟩
       rw [← hw6] at HN6 T6
       have HW6 := Lib.hid hw6; clear hw6
       have B6 := Lib.hid (HFB5.out.tch T6.out (by omega))
       have y9 := B6.out.cell 0
       have z9 := Blk.free B6.out 0
       go_wp2_with (refine wpList_store_row rfl 108 (.tmp 6) (.tmp 52) rfl (w.heap.size + 1) (sprC x) rfl rfl 108 (sprC ((F k).getD spr0)) HRB5.out sprSize rfl (sprOne _) ?_; rw [← HW6.out])
       have T7 : Tch (fun b => b = pf) w6 (w6.setCell ⟨pf, 0, none⟩ (.bool true)) := Tch.set ⟨pf, 0, none⟩ _ rfl
       refine ⟨⟨k + 1, by omega, by go_num, T7.below (T6.out.below HG5.out HG5.out.size (fun b e => by omega)) (by have := HG5.out.size; have := T6.out.size; omega) (fun b e => by omega), (HGB5.out.tch T6.out (by omega)).tch T7 (by omega), ?_, ?_⟩, by simp [Go.RowKit.intOf]; omega⟩
       · rw [he.out]; exact HN6.out.tch T7 (by omega)
       · rw [he.out]; exact B6.out.set 0 _
  · obtain rfl : k = 2 := by omega
    rw [← HRR.out] at HRB HFB
    have b0 := HFB.out.cell 0
    have HRBC := Lib.hid HRB.out
    clear hgb
    cases R with
    | none =>
     go_wp2_with (refine wpList_store_row rfl 108 (.tmp 6) (.tmp 56) rfl (w.heap.size + 1) (sprC spr0) rfl rfl 108 (sprC spr0) HRB.out sprSize rfl (sprOne _) ?_)
     try rw [Exit.noGoto_ret]
     have HN := setRow_heap wr (w.heap.size + 1) _ (sprC spr0) _ _ HRB.out
     exact bodyPost_ret (results_spr2 Tryz.results62 _ _ (w.heap.size + 1) _ _ rfl HN rfl) rfl ⟨rfl, bRb HG.out (by omega) _⟩
    | some x =>
     obtain ⟨z0, z1, z2⟩ := spr_cells HRB.out
     go_wp2_with (refine wpList_store_row rfl 108 (.tmp 6) (.tmp 57) rfl (w.heap.size + 1) (sprC x) rfl rfl 108 (sprC x) HRB.out sprSize rfl (sprOne _) ?_)
     try rw [Exit.noGoto_ret]
     have HN := setRow_heap wr (w.heap.size + 1) _ (sprC x) _ _ HRB.out
     exact bodyPost_ret (results_spr2 Tryz.results62 _ _ (w.heap.size + 1) _ _ rfl HN rfl) rfl ⟨rfl, bRb HG.out (by omega) _⟩
end
end
end Go.Proofs.YtdkmlmbehlooiaaGreatDoor
