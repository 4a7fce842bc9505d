/- Own texts of this claim, one behind the other. No condition. -/
import Derived.Test.YtplddbaggbdbiaaDoorObPkAS
import Derived.Test.YtplddbaggbdbiaaDoorObPkBP

/- Who knows terms, when more terms have come. No condition. -/
namespace Go.Proofs.YtplddbaggbdbiaaDoor
open Go.RowKit
set_option linter.unusedVariables false
set_option linter.unusedSimpArgs false
/-- v's row lies in memory that has come since w, or among S. -/
def OnS (w : World) (S : Nat → Prop) (v : Value) : Prop := ∀ b, v.ownBlock = some b → w.heap.size ≤ b ∨ S b
theorem OnS.kept {w w1 w2 : World} {S : Nat → Prop} {v v' : Value} (h : OnS w S v) (hk : Kept w1 w2 v v') (hs : w.heap.size ≤ w1.heap.size) : OnS w S v' := fun b hb => by
  rcases hk.2.2 with q | q
  · rw [q] at hb; exact h b hb
  · rw [q] at hb; injection hb with hb; exact .inl (by omega)
set_option maxRecDepth 100000 in
set_option maxHeartbeats 2000000 in
theorem growG_any (S : Nat → Prop) (w0 : World) (gk g bk : Nat) (T : List Nd) (vk0 vp0 vi : Value) (k0 : Nat) (R0 : List IRow) (w : World) (hS : S gk) (hge : w0.heap.size ≤ gk) (hk0 : k0 ≤ T.length + 1) (hG : GrowTo w0 w gk g bk T vk0 vp0 vi k0 R0) (hvk : OnS w S vk0) (hvp : OnS w S vp0) (hvi : ∃ A n c, vi = .slice A n c) (ht : ∀ W, Tch S w W → TRd W g T) (hk : Kinds T) (hn : T.length ≤ 1000) :
    Calls Tryd.prog 89 #[.pointer (some ⟨gk, 0, none⟩)] w fun e w' => e = .returned (.tuple #[]) ∧ Tch S w w' ∧ ∃ vk vp R, GrowTo w0 w' gk g bk T vk vp vi (T.length + 1) R := by
  have HG0 := Lib.hid hG; have HT := Lib.hid ht; have HK := Lib.hid hk; have HV := Lib.hid hvi; have HSG := Lib.hid hS; have HVK := Lib.hid hvk; have HVP := Lib.hid hvp
  obtain ⟨Ak0, ck0, ek0, sk0⟩ := hG.kk.slice
  have c0 := (hG.blk.cell 0).trans rfl
  have c2 : w.cell? ⟨gk, 2, none⟩ = some (.slice Ak0 k0 ck0) := by rw [← ek0]; exact (hG.blk.cell 2).trans rfl
  have hmk0 := sk0.max; have hck0 := sk0.cap
  clear ek0 sk0
  obtain ⟨N, hN⟩ : ∃ N, N = T.length := ⟨_, rfl⟩
  rw [← hN] at hn hk0 ⊢
  have HN := Lib.hid hN
  clear hG ht hk hvi hN hS hvk hvp
  go_enter Tryd.func89, Tryd.ntmps89
  go_wp2_with fail
  go_loopw [2] (fun i wr => ∃ (k : Nat) (vk vp : Value) (R : List IRow), k ≤ N + 1 ∧ i = .int .i64 k ∧ Tch S w wr ∧ GrowTo w0 wr gk g bk T vk vp vi k R ∧ OnS w S vk ∧ OnS w S vp) (fun i _ => N + 1 - (Go.RowKit.intOf i).toNat)
  case atStart => exact ⟨k0, vk0, vp0, R0, hk0, rfl, Tch.refl _, HG0.out, HVK.out, HVP.out⟩
  case round =>
    obtain ⟨k, vk, vp, R, hkn, rfl, htc, hgt, hnk, hnp⟩ := hrel
    have NK := Lib.hid hnk; have NP := Lib.hid hnp; clear hnk hnp
    have TC := Lib.hid htc; have G := Lib.hid hgt; clear htc hgt c0 c2
    have HL := Lib.hid (len_any g T wr (HT.out wr TC.out))
    have c0 : wr.cell? ⟨gk, 0, none⟩ = some (.pointer (some ⟨g, 0, none⟩)) := (G.out.blk.cell 0).trans rfl
    rw [← HN.out] at HL
    by_cases hlt : k ≤ N
    · have t0 : decide ((k : Int) ≤ (N : Int)) = true := decide_eq_true (by omega)
      go_wp2_with fail
      refine HL.out.mono ?_
      rintro e w1 ⟨rfl, rfl⟩
      obtain ⟨Ak, ck, rfl, sk⟩ := G.out.kk.slice
      obtain ⟨Ap, cp, rfl, sp⟩ := G.out.pp.1.slice
      have hmk := sk.max; have hmp := sp.max; have hck := sk.cap; have hcp := sp.cap
      have hRl : R.length = k := by have := congrArg List.length G.out.rr; simp [partsA_len] at this; rw [this]; have := HN.out; omega
      have HRl := Lib.hid hRl; clear hRl
      have c2 : wr.cell? ⟨gk, 2, none⟩ = some (.slice Ak k ck) := (G.out.blk.cell 2).trans rfl
      have c3 : wr.cell? ⟨gk, 3, none⟩ = some (.slice Ap R.length cp) := (G.out.blk.cell 3).trans rfl
      clear sk sp
      go_upto_region 3 with fail
      refine wp_region_pre (by kernel_rfl) (fun w' => w'.cell? ⟨gk, 0, none⟩ = some (.pointer (some ⟨g, 0, none⟩)) ∧ w'.cell? ⟨gk, 2, none⟩ = some (.slice Ak k ck) ∧ w'.cell? ⟨gk, 3, none⟩ = some (.slice Ap R.length cp)) (fun i => i == 5 || i == 9 || i == 17 || i == 21) (fun i => Nat.ble 28 i) [0, 1, 2, 3, 4, 6, 7, 8, 10, 14, 15, 16, 18, 19, 20, 22, 5, 9, 17, 21] 12 (by kernel_rfl) (by kernel_rfl) (by kernel_rfl) ⟨c0, c2, c3⟩ ?_
      refine wpPre_e rfl rfl ?_
      apply Exists.intro
      refine ⟨fun wq hq => ?_, ?_⟩
      · clear hq
        unfold plainAt
        go_simp
        first | exact rfl | exact ⟨rfl, rfl⟩
      go_simp
      refine wpPre_e rfl rfl ?_
      apply Exists.intro
      refine ⟨fun wq hq => ?_, ?_⟩
      · clear hq
        unfold plainAt
        go_simp
        first | exact rfl | exact ⟨rfl, rfl⟩
      go_simp
      refine wpPre_e rfl rfl ?_
      apply Exists.intro
      refine ⟨fun wq hq => ?_, ?_⟩
      · clear hq
        unfold plainAt
        go_simp
        first | exact rfl | exact ⟨rfl, rfl⟩
      go_simp
      refine wpPre_e rfl rfl ?_
      apply Exists.intro
      refine ⟨fun wq hq => ?_, ?_⟩
      · clear hq
        unfold plainAt
        go_simp
        first | exact rfl | exact ⟨rfl, rfl⟩
      go_simp
      refine wpPre_e rfl rfl ?_
      apply Exists.intro
      refine ⟨fun wq hq => ?_, ?_⟩
      · clear hq
        unfold plainAt
        go_simp
        first | exact rfl | exact ⟨rfl, rfl⟩
      go_simp
      refine wpPre_e rfl rfl ?_
      apply Exists.intro
      refine ⟨fun wq hq => ?_, ?_⟩
      · clear hq
        unfold plainAt
        go_simp
        first | exact rfl | exact ⟨rfl, rfl⟩
      go_simp
      refine wpPre_e rfl rfl ?_
      apply Exists.intro
      refine ⟨fun wq hq => ?_, ?_⟩
      · clear hq
        unfold plainAt
        go_simp
        first | exact rfl | exact ⟨rfl, rfl⟩
      go_simp
      refine wpPre_e rfl rfl ?_
      apply Exists.intro
      refine ⟨fun wq hq => ?_, ?_⟩
      · clear hq
        unfold plainAt
        go_simp
        first | exact rfl | exact ⟨rfl, rfl⟩
      go_simp
      refine wpPre_e rfl rfl ?_
      apply Exists.intro
      refine ⟨fun wq hq => ?_, ?_⟩
      · clear hq
        unfold plainAt
        go_simp
        first | exact rfl | exact ⟨rfl, rfl⟩
      go_simp
      refine wpPre_e rfl rfl ?_
      apply Exists.intro
      refine ⟨fun wq hq => ?_, ?_⟩
      · clear hq
        unfold plainAt
        go_simp
        first | exact rfl | exact ⟨rfl, rfl⟩
      go_simp
      refine wpPre_e rfl rfl ?_
      apply Exists.intro
      refine ⟨fun wq hq => ?_, ?_⟩
      · clear hq
        unfold plainAt
        go_simp
        first | exact rfl | exact ⟨rfl, rfl⟩
      go_simp
      refine wpPre_e rfl rfl ?_
      apply Exists.intro
      refine ⟨fun wq hq => ?_, ?_⟩
      · clear hq
        unfold plainAt
        go_simp
        first | exact rfl | exact ⟨rfl, rfl⟩
      go_simp
      refine wpPre_e rfl rfl ?_
      apply Exists.intro
      refine ⟨fun wq hq => ?_, ?_⟩
      · clear hq
        unfold plainAt
        go_simp
        first | exact rfl | exact ⟨rfl, rfl⟩
      go_simp
      refine wpPre_e rfl rfl ?_
      apply Exists.intro
      refine ⟨fun wq hq => ?_, ?_⟩
      · clear hq
        unfold plainAt
        go_simp
        first | exact rfl | exact ⟨rfl, rfl⟩
      go_simp
      refine wpPre_e rfl rfl ?_
      apply Exists.intro
      refine ⟨fun wq hq => ?_, ?_⟩
      · clear hq
        unfold plainAt
        go_simp
        first | exact rfl | exact ⟨rfl, rfl⟩
      go_simp
      refine wpPre_e rfl rfl ?_
      apply Exists.intro
      refine ⟨fun wq hq => ?_, ?_⟩
      · clear hq
        unfold plainAt
        go_simp
        first | exact rfl | exact ⟨rfl, rfl⟩
      go_simp
      refine wpPre_e rfl rfl ?_
      apply Exists.intro
      refine ⟨fun wq hq => ?_, ?_⟩
      · replace hq := hq rfl
        obtain ⟨z0, z2, z3⟩ := hq
        unfold plainAt
        go_simp
        first | exact rfl | exact ⟨rfl, rfl⟩
      go_simp
      refine wpPre_e rfl rfl ?_
      apply Exists.intro
      refine ⟨fun wq hq => ?_, ?_⟩
      · replace hq := hq rfl
        obtain ⟨z0, z2, z3⟩ := hq
        unfold plainAt
        go_simp
        first | exact rfl | exact ⟨rfl, rfl⟩
      go_simp
      refine wpPre_e rfl rfl ?_
      apply Exists.intro
      refine ⟨fun wq hq => ?_, ?_⟩
      · replace hq := hq rfl
        obtain ⟨z0, z2, z3⟩ := hq
        unfold plainAt
        go_simp
        first | exact rfl | exact ⟨rfl, rfl⟩
      go_simp
      refine wpPre_e rfl rfl ?_
      apply Exists.intro
      refine ⟨fun wq hq => ?_, ?_⟩
      · replace hq := hq rfl
        obtain ⟨z0, z2, z3⟩ := hq
        unfold plainAt
        go_simp
        first | exact rfl | exact ⟨rfl, rfl⟩
      go_simp
      refine wpPre_nil ?_
      have HC : Hid (∀ wq, Gr wr wq → wq.cell? ⟨gk, 0, none⟩ = some (.pointer (some ⟨g, 0, none⟩)) ∧ wq.cell? ⟨gk, 2, none⟩ = some (.slice Ak k ck) ∧ wq.cell? ⟨gk, 3, none⟩ = some (.slice Ap R.length cp)) := fun wq hq => ⟨((hq.blk G.out.blk).cell 0).trans rfl, ((hq.blk G.out.blk).cell 2).trans rfl, ((hq.blk G.out.blk).cell 3).trans rfl⟩
      have HKC : Hid (∀ wq, Gr wr wq → Calls Tryd.prog 42 #[.pointer (some ⟨g, 0, none⟩), .int .i64 (k : Int)] wq fun e w' => e = .returned (.int .i64 (kindOf T (k : Int) : Int)) ∧ Gr wq w') := fun wq hq => kind_any g T (k : Int) wq (HT.out wq (TC.out.trans (Tch.gr hq))) HK.out ⟨by omega, by omega⟩
      clear c0 c2 c3 HL
      refine wpRest_one (i := 11) (by kernel_rfl) rfl rfl ?_
      intro K hK
      go_simp
      go_at_call 42
      refine (HKC.out _ (Gr.drew _)).mono ?_
      rintro e w2 ⟨rfl, g2⟩
      have G2 := Lib.hid ((Gr.drew _).trans g2); clear g2
      refine hK _ _ (fun _ => HC.out w2 G2.out) ?_
      clear hK
      go_simp
      refine wpRest_one (i := 12) (by kernel_rfl) rfl rfl ?_
      intro K hK
      go_simp
      refine hK _ _ (fun _ => HC.out _ (G2.out.trans (Gr.alloc _ _))) ?_
      clear hK
      go_simp
      refine wpRest_one (i := 13) (by kernel_rfl) rfl rfl ?_
      intro K hK
      have N1 : Hid ((w2.alloc (.cells #[.int .i64 (kindOf T (k : Int) : Int)] 3)).cell? ⟨w2.heap.size, 0, none⟩ = some (.int .i64 (kindOf T (k : Int) : Int))) := (Blk.new w2 3 #[.int .i64 (kindOf T (k : Int) : Int)]).cell 0
      refine wp_pushG (n := k) (.tmp 22) (.tmp 29) 36 rfl tNums rfl (G.out.kk.mono (G2.out.trans (Gr.alloc _ _))) _ _ [.int .i64 (kindOf T (k : Int) : Int)] rfl rfl (one_int _ _) (one_cells N1.out) (by omega) ?_
      intro vk3 w3 own3 kept3
      have HO3 : Hid (Own w0 w3 3 1 vk3 (k + 1) (((kindsA T).take (k + 1)).map i64c)) := by
        show Own _ _ _ _ _ _ _
        rw [kinds_snoc T k (by rw [← HN.out]; exact hlt), List.map_append]
        exact own3
      have M3 := Lib.hid ((G.out.gr (G2.out.trans (Gr.alloc _ _))).mid kept3 HO3.out)
      have T3 := Lib.hid (Tch.kept kept3 own3 (G.out.gr (G2.out.trans (Gr.alloc _ _))).kk.2)
      have NK3 := Lib.hid (NK.out.kept kept3 (Nat.le_trans TC.out.size (G2.out.trans (Gr.alloc _ _)).size))
      have TS3 : Hid (Tch S w w3) := (TC.out.trans (Tch.gr (G2.out.trans (Gr.alloc w2 (.cells #[.int .i64 (kindOf T (k : Int) : Int)] 3))))).trans' T3.out (fun x hx e => (NK.out x e).elim (fun h => by omega) (fun h => h))
      clear own3 kept3
      have HC3 : Hid (∀ wq, Gr w3 wq → wq.cell? ⟨gk, 0, none⟩ = some (.pointer (some ⟨g, 0, none⟩)) ∧ wq.cell? ⟨gk, 2, none⟩ = some (.slice Ak k ck) ∧ wq.cell? ⟨gk, 3, none⟩ = some (.slice Ap R.length cp)) := fun wq hq => ⟨((hq.blk M3.out.blk).cell 0).trans rfl, ((hq.blk M3.out.blk).cell 2).trans rfl, ((hq.blk M3.out.blk).cell 3).trans rfl⟩
      obtain ⟨A3, d3, rfl, _⟩ := HO3.out.slice
      refine hK _ _ (fun _ => HC3.out _ (Gr.refl _)) ?_
      clear hK
      go_simp
      refine wpRest_one (i := 23) (by kernel_rfl) rfl rfl ?_
      intro K hK
      go_simp
      go_at_call 121
      refine (parts_any g T (k : Int) w3 (HT.out w3 TS3.out) HK.out ⟨by omega, by omega⟩).mono ?_
      rintro e w4 ⟨A4, c4, rfl, i4, g4, f4⟩
      have I4 := Lib.hid i4; have G4 := Lib.hid g4; have F4 := Lib.hid f4.1; clear i4 g4 f4
      refine hK _ _ (fun _ => HC3.out _ G4.out) ?_
      clear hK
      obtain ⟨L4, hL4⟩ : ∃ L4, L4 = (partsOf T (k : Int)).map Int.ofNat := ⟨_, rfl⟩
      rw [← hL4] at I4 ⊢
      have HL4 := Lib.hid hL4; clear hL4
      go_simp
      refine wpRest_one (i := 24) (by kernel_rfl) rfl rfl ?_
      intro K hK
      go_simp
      refine hK _ _ (fun _ => HC3.out _ (G4.out.trans (Gr.alloc _ _))) ?_
      clear hK
      go_simp
      refine wpRest_one (i := 25) (by kernel_rfl) rfl rfl ?_
      intro K hK
      have N2 : Hid ((w4.alloc (.cells #[.slice A4 L4.length c4] 36)).cell? ⟨w4.heap.size, 0, none⟩ = some (.slice A4 L4.length c4)) := (Blk.new w4 36 #[.slice A4 L4.length c4]).cell 0
      refine wp_pushG (n := R.length) (.tmp 34) (.tmp 41) 88 rfl tRowsI rfl (M3.out.gr (G4.out.trans (Gr.alloc _ _))).pp.1 _ _ [.slice A4 L4.length c4] rfl rfl (by intro u hu; rw [List.mem_singleton.1 hu]; rfl) (one_cells N2.out) (by have := HRl.out; omega) ?_
      intro vp5 w5 own5 kept5
      have M4 := Lib.hid (M3.out.gr (G4.out.trans (Gr.alloc w4 (.cells #[.slice A4 L4.length c4] 36))))
      have T5 := Lib.hid (Tch.kept kept5 own5 M4.out.pp.1.2)
      have B5 := Lib.hid (M4.out.blk.tch T5.out (M4.out.pp.1.not_blk M4.out.blk (by decide)))
      have OK5 := Lib.hid own5; have KE5 := Lib.hid kept5
      obtain ⟨A5, d5, rfl, _⟩ := own5.slice
      clear own5 kept5
      refine hK _ _ (fun _ => ⟨(B5.out.cell 0).trans rfl, (B5.out.cell 2).trans rfl, (B5.out.cell 3).trans rfl⟩) ?_
      clear hK
      have y2 := B5.out.free 2
      have y3 := B5.out.free 3
      have x2 : w5.cell? ⟨gk, 2, none⟩ = some (.slice Ak k ck) := (B5.out.cell 2).trans rfl
      have x3 : w5.cell? ⟨gk, 3, none⟩ = some (.slice Ap R.length cp) := (B5.out.cell 3).trans rfl
      have hlg := B5.out.lt
      go_simp
      refine wpRest_one (i := 26) (by kernel_rfl) rfl rfl ?_
      intro K hK
      go_simp
      refine hK _ _ (fun _ => ⟨(B5.out.cell 0).trans rfl, (B5.out.cell 2).trans rfl, (B5.out.cell 3).trans rfl⟩) ?_
      clear hK
      go_simp
      refine wpRest_one (i := 27) (by kernel_rfl) rfl rfl ?_
      intro K hK
      go_simp
      refine hK _ _ (fun _ => ⟨(B5.out.cell 0).trans rfl, (B5.out.cell 2).trans rfl, (B5.out.cell 3).trans rfl⟩) ?_
      clear hK
      go_simp
      refine wpRest_one (i := 28) (by kernel_rfl) rfl rfl ?_
      intro K hK
      go_simp
      refine hK _ _ (fun h => by cases h) ?_
      clear hK
      go_simp
      refine wpRest_one (i := 29) (by kernel_rfl) rfl rfl ?_
      intro K hK
      go_simp
      refine hK _ _ (fun h => by cases h) ?_
      clear hK
      go_simp
      refine wpRest_one (i := 30) (by kernel_rfl) rfl rfl ?_
      intro K hK
      go_simp
      refine hK _ _ (fun h => by cases h) ?_
      clear hK
      go_simp
      refine wpRest_one (i := 31) (by kernel_rfl) rfl rfl ?_
      intro K hK
      go_simp
      refine hK _ _ (fun h => by cases h) ?_
      clear hK
      go_simp
      refine wpRest_nil (by kernel_rfl) ?_
      obtain ⟨w9, h9⟩ : ∃ w9, w9 = (w5.setCell ⟨gk, 2, none⟩ (.slice A3 (k + 1) d3)).setCell ⟨gk, 3, none⟩ (.slice A5 (R.length + 1) d5) := ⟨_, rfl⟩
      rw [← h9]
      have hkT : k ≤ T.length := by rw [← HN.out]; exact hlt
      have T9 : Hid (Tch (fun b => b = gk) w5 w9) := by
        show Tch _ _ _
        rw [h9]
        exact (Tch.set (S := fun b => b = gk) ⟨gk, 2, none⟩ _ rfl).trans (Tch.set ⟨gk, 3, none⟩ _ rfl)
      have F9 : Hid (GrowTo w0 w9 gk g bk T (.slice A3 (k + 1) d3) (.slice A5 (R.length + 1) d5) vi (k + 1) (R ++ [⟨A4, L4.length, c4, L4⟩])) :=
        GrowMid.fin (r := ⟨A4, L4.length, c4, L4⟩) M4.out hge G.out.rr (I4.out.mono (Gr.alloc _ _)) (fun b o _ e hb => by have h1 := F4.out b o e; have h2 := (M3.out.pp.1.1.lt b hb).2; omega) (fun b o _ e hb => by have h1 := F4.out b o e; have h2 := (M3.out.kk.1.lt b hb).2; omega) (fun b o _ e => by have h1 := F4.out b o e; have h2 := M3.out.kk.2.size; omega) HL4.out hkT OK5.out KE5.out h9 ⟨⟨_, _, _, rfl⟩, ⟨_, _, _, rfl⟩, HV.out, ⟨_, _, _, rfl⟩, ⟨_, _, _, rfl⟩⟩
      clear h9 x2 x3 y2 y3 hlg hkT
      go_wp2_with fail
      have s3 := TS3.out.trans (Tch.gr (G4.out.trans (Gr.alloc w4 (.cells #[.slice A4 L4.length c4] 36))))
      have s4 := s3.trans' T5.out (fun x hx e => (NP.out x e).elim (fun h => by omega) (fun h => h))
      exact ⟨⟨k + 1, _, _, _, by omega, by simp, s4.trans (T9.out.mono (fun b _ q => by rw [q]; exact HSG.out)), F9.out, NK3.out, NP.out.kept KE5.out s3.size⟩, by simp [Go.RowKit.intOf]; omega⟩
    · obtain rfl : k = N + 1 := by omega
      have t0 : decide (((N + 1 : Nat) : Int) ≤ (N : Int)) = false := decide_eq_false (by omega)
      go_wp2_with fail
      refine HL.out.mono ?_
      rintro e w1 ⟨rfl, rfl⟩
      go_wp2_with fail
      go_end0
      exact ⟨rfl, TC.out, vk, vp, R, G.out⟩
end Go.Proofs.YtplddbaggbdbiaaDoor
