/- Own texts of this claim, one behind the other. No condition. -/
import Derived.Test.YtadenlhnfkccaaaGreatDoorObPkG
import Derived.Outline

/- Operations as lines: the reference's reading of a word. No condition. -/
namespace Go.Proofs.YtadenlhnfkccaaaGreatDoor
open Go.RowKit
set_option linter.unusedVariables false
set_option linter.unusedSimpArgs false
/-- Eight cells of a block, read. -/
def Eight (w : World) (X : Nat) (cs : List Value) : Prop := ∀ j v, cs[j]? = some v → w.cell? ⟨X, j, none⟩ = some v
theorem Tch.row {S : Nat → Prop} (w : World) (g : Nat) (cs : Array Value) (h : S g) : Tch S w (w.setRow g cs) :=
  ⟨below_row39 (Below.refl 0 w) (Nat.zero_le _) cs, fun b _ hn => setRow_other w g b cs (fun e => hn (e ▸ h))⟩
def z8 : Array Value := #[.int .i64 0, .string ⟨#[]⟩, .string ⟨#[]⟩, .int .i64 0, .int .i64 0, .int .i64 0, .int .i64 0, .slice none 0 0]
set_option maxRecDepth 100000 in
set_option maxHeartbeats 4000000 in
theorem withG_raw (u0 u1 u2 u3 u4 u5 u6 u7 : Value) (s f : ByteArray) (pn pf : Int) (w : World) (h1 : (#[u0, .string s, u2, u3, u4, u5, u6, u7] : Array Value).all (·.oneCell') = true)
    (HPA : Hid (∀ wr, Calls Tryz.prog 64 #[.string s, .int .i64 1073741824] wr fun e w' => e = .returned (.tuple #[.int .i64 pn, .int .i64 pf]) ∧ Gr wr w'))
    (HF : Hid (∀ wr, Tch (fun q => q = w.heap.size) (w.alloc (.cells #[u0, u1, u2, u3, u4, u5, u6, u7] 24)) wr → Calls Tryz.prog 76 #[.agg #[u0, .string s, u2, u3, u4, u5, u6, u7], .int .u8 103] wr fun e w' => e = .returned (.string f) ∧ Gr wr w')) :
    Calls Tryz.prog 63 #[.agg #[u0, u1, u2, u3, u4, u5, u6, u7], .int .u8 103, .string s] w fun e w' => e = .returned (.tuple #[.agg #[u0, .string s, u2, u3, u4, u5, u6, u7], .bool (f.toList == s.toList && !(s.toList == []))]) ∧ Gr w w' := by
  go_enter Tryz.func63, Tryz.ntmps63
  go_wp2_with fail
  refine (HPA.out _).mono ?_
  rintro e w1 ⟨rfl, g1⟩
  have B1 := Lib.hid (((Blk.new w 24 #[u0, u1, u2, u3, u4, u5, u6, u7]).mono (Gr.alloc _ _)).mono g1)
  have BY1 := Lib.hid ((Blk.new (w.alloc (.cells #[u0, u1, u2, u3, u4, u5, u6, u7] 24)) 24 z8).mono g1)
  have c1 : w1.cell? ⟨w.heap.size, 1, none⟩ = some u1 := by rw [B1.out.cell]; rfl
  have f1 := B1.out.free 1
  have G1 := Lib.hid g1; clear g1
  go_wp2_with fail
  have BX : Hid (Blk (w1.setCell ⟨w.heap.size, 1, none⟩ (.string s)) w.heap.size 24 [u0, .string s, u2, u3, u4, u5, u6, u7]) := B1.out.set 1 (.string s)
  have BY : Hid (Blk (w1.setCell ⟨w.heap.size, 1, none⟩ (.string s)) (w.heap.size + 1) 24 z8.toList) := by
    show Blk _ _ _ _
    have := BY1.out.far (p := ⟨w.heap.size, 1, none⟩) (by simp) (.string s)
    simpa using this
  have HC8 : Hid (∀ wq, Gr (w1.setCell ⟨w.heap.size, 1, none⟩ (.string s)) wq → Eight wq w.heap.size [u0, .string s, u2, u3, u4, u5, u6, u7]) := fun wq g j v h => ((BX.out.mono g).cell j).trans h
  have TC : Hid (Tch (fun q => q = w.heap.size) (w.alloc (.cells #[u0, u1, u2, u3, u4, u5, u6, u7] 24)) (w1.setCell ⟨w.heap.size, 1, none⟩ (.string s))) := (Tch.gr ((Gr.alloc _ _).trans G1.out)).trans (Tch.set ⟨w.heap.size, 1, none⟩ (.string s) rfl)
  clear c1 f1 B1 BY1
  generalize w1.setCell ⟨w.heap.size, 1, none⟩ (.string s) = W3 at *
  replace HC8 := Lib.hid fun wq (g : Gr W3.drew wq) => HC8.out wq ((Gr.drew _).trans g)
  replace TC := Lib.hid (TC.out.trans (Tch.gr (Gr.drew W3)))
  replace BY := Lib.hid BY.out.drew
  have HFW := Lib.hid fun wr (g : Gr W3.drew wr) => HF.out wr (TC.out.trans (Tch.gr g))
  cases hfs : (f.toList == s.toList) with
  | false =>
    refine wp_region_grow (by kernel_rfl) [0, 0, 0, 6, 0, 30, 62, 126, 254, 510, 127, 2047] [.p 2, .p 4, .q 0, .q 1, .c 3, .p 5, .p 6, .p 7, .p 8, .p 9, .s 10, .p 11] (by kernel_rfl) (trivial) ?_
    refine wpG_pe rfl rfl ?_
    apply Exists.intro
    refine ⟨fun wq => ?_, ?_⟩
    · unfold plainAt
      go_simp
      first | exact rfl | exact ⟨rfl, rfl⟩
    go_simp
    refine wpG_pe rfl rfl ?_
    apply Exists.intro
    refine ⟨fun wq => ?_, ?_⟩
    · unfold plainAt
      go_simp
      first | exact rfl | exact ⟨rfl, rfl⟩
    go_simp
    refine wpG_qe rfl rfl ?_
    apply Exists.intro
    refine ⟨fun wq hq => ?_, ?_⟩
    · have d0 := HC8.out wq hq 0 _ rfl; have d1 := HC8.out wq hq 1 _ rfl; have d2 := HC8.out wq hq 2 _ rfl; have d3 := HC8.out wq hq 3 _ rfl; have d4 := HC8.out wq hq 4 _ rfl; have d5 := HC8.out wq hq 5 _ rfl; have d6 := HC8.out wq hq 6 _ rfl; have d7 := HC8.out wq hq 7 _ rfl
      unfold plainAt
      go_simp
      first | exact rfl | exact ⟨rfl, rfl⟩
    go_simp
    refine wpG_qe rfl rfl ?_
    apply Exists.intro
    refine ⟨fun wq hq => ?_, ?_⟩
    · have d0 := HC8.out wq hq 0 _ rfl; have d1 := HC8.out wq hq 1 _ rfl; have d2 := HC8.out wq hq 2 _ rfl; have d3 := HC8.out wq hq 3 _ rfl; have d4 := HC8.out wq hq 4 _ rfl; have d5 := HC8.out wq hq 5 _ rfl; have d6 := HC8.out wq hq 6 _ rfl; have d7 := HC8.out wq hq 7 _ rfl
      unfold plainAt
      go_simp
      first | exact rfl | exact ⟨rfl, rfl⟩
    go_simp
    refine wpG_c rfl rfl ?_
    intro wc gc K hK
    go_simp
    go_at_call 76
    refine (HFW.out wc gc).mono ?_
    rintro e wn ⟨rfl, gf⟩
    refine hK _ _ gf ?_; have GF := Lib.hid (gc.trans gf); clear gc gf hK
    go_simp
    refine wpG_pe rfl rfl ?_
    apply Exists.intro
    refine ⟨fun wq => ?_, ?_⟩
    · unfold plainAt
      go_simp
      first | exact rfl | exact ⟨rfl, rfl⟩
    go_simp
    refine wpG_pe rfl rfl ?_
    apply Exists.intro
    refine ⟨fun wq => ?_, ?_⟩
    · unfold plainAt
      go_simp
      first | exact rfl | exact ⟨rfl, rfl⟩
    go_simp
    first | refine wpG_skip_p rfl rfl ?_ | refine wpG_skip_q rfl rfl ?_ | refine wpG_skip_c rfl rfl ?_
    go_simp
    first | refine wpG_skip_p rfl rfl ?_ | refine wpG_skip_q rfl rfl ?_ | refine wpG_skip_c rfl rfl ?_
    go_simp
    refine wpG_pe rfl rfl ?_
    apply Exists.intro
    refine ⟨fun wq => ?_, ?_⟩
    · unfold plainAt
      go_simp
      first | exact rfl | exact ⟨rfl, rfl⟩
    go_simp
    refine wpG_s rfl rfl ?_
    intro ws gs0 K hK
    have gs : Gr _ ws := GF.out.trans gs0
    refine wp_store_row 24 (.tmp 6) (.tmp 75) rfl (w.heap.size + 1) #[u0, .string s, u2, u3, u4, u5, u6, u7] rfl rfl 24 z8 (BY.out.mono gs) opSize rfl h1 ?_
    refine hK _ _ ?_
    clear hK
    obtain ⟨wt, hwt⟩ : ∃ wt, wt = ws.setRow (w.heap.size + 1) #[u0, .string s, u2, u3, u4, u5, u6, u7] := ⟨_, rfl⟩
    have HN : Hid (wt.heap[w.heap.size + 1]? = some (.cells #[u0, .string s, u2, u3, u4, u5, u6, u7] 24 (0, 0))) := by rw [hwt]; exact setRow_heap ws _ _ _ _ _ (BY.out.mono gs)
    have GT : Hid (Tch (fun q => q = w.heap.size ∨ q = w.heap.size + 1) (w.alloc (.cells #[u0, u1, u2, u3, u4, u5, u6, u7] 24)) wt) := by rw [hwt]; exact ((TC.out.mono (fun _ _ e => .inl e)).trans (Tch.gr gs)).trans (Tch.row ws _ _ (.inr rfl))
    go_simp
    rw [← hwt]
    clear hwt
    refine wpG_pe rfl rfl ?_
    apply Exists.intro
    refine ⟨fun wq => ?_, ?_⟩
    · unfold plainAt
      go_simp
      first | exact rfl | exact ⟨rfl, rfl⟩
    go_simp
    refine wpG_nil ?_
    intro we ge
    go_wp2_with fail
    have HNE : we.heap[w.heap.size + 1]? = some (.cells #[u0, .string s, u2, u3, u4, u5, u6, u7] 24 (0, 0)) := (ge.block _ (Array.getElem?_eq_some_iff.1 HN.out).1).trans HN.out
    have GE : Gr w we := (Tch.below (Gr.alloc w _) GT.out (by simp) (fun q e => by rcases e with e | e <;> omega)).trans (ge.mono (by have := GT.out.size; simp at this; omega))
    exact bodyPost_ret (results_op Tryz.results63 _ _ (w.heap.size + 1) _ _ rfl HNE rfl) rfl ⟨by rw [hfs]; rfl, GE⟩
  | true =>
    cases hs0 : (s.toList == []) with
    | false =>
      refine wp_region_grow (by kernel_rfl) [0, 0, 0, 6, 0, 30, 62, 126, 254, 510, 127, 2047] [.p 2, .p 4, .q 0, .q 1, .c 3, .p 5, .p 6, .p 7, .p 8, .p 9, .s 10, .p 11] (by kernel_rfl) (trivial) ?_
      refine wpG_pe rfl rfl ?_
      apply Exists.intro
      refine ⟨fun wq => ?_, ?_⟩
      · unfold plainAt
        go_simp
        first | exact rfl | exact ⟨rfl, rfl⟩
      go_simp
      refine wpG_pe rfl rfl ?_
      apply Exists.intro
      refine ⟨fun wq => ?_, ?_⟩
      · unfold plainAt
        go_simp
        first | exact rfl | exact ⟨rfl, rfl⟩
      go_simp
      refine wpG_qe rfl rfl ?_
      apply Exists.intro
      refine ⟨fun wq hq => ?_, ?_⟩
      · have d0 := HC8.out wq hq 0 _ rfl; have d1 := HC8.out wq hq 1 _ rfl; have d2 := HC8.out wq hq 2 _ rfl; have d3 := HC8.out wq hq 3 _ rfl; have d4 := HC8.out wq hq 4 _ rfl; have d5 := HC8.out wq hq 5 _ rfl; have d6 := HC8.out wq hq 6 _ rfl; have d7 := HC8.out wq hq 7 _ rfl
        unfold plainAt
        go_simp
        first | exact rfl | exact ⟨rfl, rfl⟩
      go_simp
      refine wpG_qe rfl rfl ?_
      apply Exists.intro
      refine ⟨fun wq hq => ?_, ?_⟩
      · have d0 := HC8.out wq hq 0 _ rfl; have d1 := HC8.out wq hq 1 _ rfl; have d2 := HC8.out wq hq 2 _ rfl; have d3 := HC8.out wq hq 3 _ rfl; have d4 := HC8.out wq hq 4 _ rfl; have d5 := HC8.out wq hq 5 _ rfl; have d6 := HC8.out wq hq 6 _ rfl; have d7 := HC8.out wq hq 7 _ rfl
        unfold plainAt
        go_simp
        first | exact rfl | exact ⟨rfl, rfl⟩
      go_simp
      refine wpG_c rfl rfl ?_
      intro wc gc K hK
      go_simp
      go_at_call 76
      refine (HFW.out wc gc).mono ?_
      rintro e wn ⟨rfl, gf⟩
      refine hK _ _ gf ?_; have GF := Lib.hid (gc.trans gf); clear gc gf hK
      go_simp
      refine wpG_pe rfl rfl ?_
      apply Exists.intro
      refine ⟨fun wq => ?_, ?_⟩
      · unfold plainAt
        go_simp
        first | exact rfl | exact ⟨rfl, rfl⟩
      go_simp
      refine wpG_pe rfl rfl ?_
      apply Exists.intro
      refine ⟨fun wq => ?_, ?_⟩
      · unfold plainAt
        go_simp
        first | exact rfl | exact ⟨rfl, rfl⟩
      go_simp
      refine wpG_pe rfl rfl ?_
      apply Exists.intro
      refine ⟨fun wq => ?_, ?_⟩
      · unfold plainAt
        go_simp
        first | exact rfl | exact ⟨rfl, rfl⟩
      go_simp
      refine wpG_pe rfl rfl ?_
      apply Exists.intro
      refine ⟨fun wq => ?_, ?_⟩
      · unfold plainAt
        go_simp
        first | exact rfl | exact ⟨rfl, rfl⟩
      go_simp
      refine wpG_pe rfl rfl ?_
      apply Exists.intro
      refine ⟨fun wq => ?_, ?_⟩
      · unfold plainAt
        go_simp
        first | exact rfl | exact ⟨rfl, rfl⟩
      go_simp
      refine wpG_s rfl rfl ?_
      intro ws gs0 K hK
      have gs : Gr _ ws := GF.out.trans gs0
      refine wp_store_row 24 (.tmp 6) (.tmp 75) rfl (w.heap.size + 1) #[u0, .string s, u2, u3, u4, u5, u6, u7] rfl rfl 24 z8 (BY.out.mono gs) opSize rfl h1 ?_
      refine hK _ _ ?_
      clear hK
      obtain ⟨wt, hwt⟩ : ∃ wt, wt = ws.setRow (w.heap.size + 1) #[u0, .string s, u2, u3, u4, u5, u6, u7] := ⟨_, rfl⟩
      have HN : Hid (wt.heap[w.heap.size + 1]? = some (.cells #[u0, .string s, u2, u3, u4, u5, u6, u7] 24 (0, 0))) := by rw [hwt]; exact setRow_heap ws _ _ _ _ _ (BY.out.mono gs)
      have GT : Hid (Tch (fun q => q = w.heap.size ∨ q = w.heap.size + 1) (w.alloc (.cells #[u0, u1, u2, u3, u4, u5, u6, u7] 24)) wt) := by rw [hwt]; exact ((TC.out.mono (fun _ _ e => .inl e)).trans (Tch.gr gs)).trans (Tch.row ws _ _ (.inr rfl))
      go_simp
      rw [← hwt]
      clear hwt
      refine wpG_pe rfl rfl ?_
      apply Exists.intro
      refine ⟨fun wq => ?_, ?_⟩
      · unfold plainAt
        go_simp
        first | exact rfl | exact ⟨rfl, rfl⟩
      go_simp
      refine wpG_nil ?_
      intro we ge
      go_wp2_with fail
      have HNE : we.heap[w.heap.size + 1]? = some (.cells #[u0, .string s, u2, u3, u4, u5, u6, u7] 24 (0, 0)) := (ge.block _ (Array.getElem?_eq_some_iff.1 HN.out).1).trans HN.out
      have GE : Gr w we := (Tch.below (Gr.alloc w _) GT.out (by simp) (fun q e => by rcases e with e | e <;> omega)).trans (ge.mono (by have := GT.out.size; simp at this; omega))
      exact bodyPost_ret (results_op Tryz.results63 _ _ (w.heap.size + 1) _ _ rfl HNE rfl) rfl ⟨by rw [hfs, hs0]; rfl, GE⟩
    | true =>
      refine wp_region_grow (by kernel_rfl) [0, 0, 0, 6, 0, 30, 62, 126, 254, 510, 127, 2047] [.p 2, .p 4, .q 0, .q 1, .c 3, .p 5, .p 6, .p 7, .p 8, .p 9, .s 10, .p 11] (by kernel_rfl) (trivial) ?_
      refine wpG_pe rfl rfl ?_
      apply Exists.intro
      refine ⟨fun wq => ?_, ?_⟩
      · unfold plainAt
        go_simp
        first | exact rfl | exact ⟨rfl, rfl⟩
      go_simp
      refine wpG_pe rfl rfl ?_
      apply Exists.intro
      refine ⟨fun wq => ?_, ?_⟩
      · unfold plainAt
        go_simp
        first | exact rfl | exact ⟨rfl, rfl⟩
      go_simp
      refine wpG_qe rfl rfl ?_
      apply Exists.intro
      refine ⟨fun wq hq => ?_, ?_⟩
      · have d0 := HC8.out wq hq 0 _ rfl; have d1 := HC8.out wq hq 1 _ rfl; have d2 := HC8.out wq hq 2 _ rfl; have d3 := HC8.out wq hq 3 _ rfl; have d4 := HC8.out wq hq 4 _ rfl; have d5 := HC8.out wq hq 5 _ rfl; have d6 := HC8.out wq hq 6 _ rfl; have d7 := HC8.out wq hq 7 _ rfl
        unfold plainAt
        go_simp
        first | exact rfl | exact ⟨rfl, rfl⟩
      go_simp
      refine wpG_qe rfl rfl ?_
      apply Exists.intro
      refine ⟨fun wq hq => ?_, ?_⟩
      · have d0 := HC8.out wq hq 0 _ rfl; have d1 := HC8.out wq hq 1 _ rfl; have d2 := HC8.out wq hq 2 _ rfl; have d3 := HC8.out wq hq 3 _ rfl; have d4 := HC8.out wq hq 4 _ rfl; have d5 := HC8.out wq hq 5 _ rfl; have d6 := HC8.out wq hq 6 _ rfl; have d7 := HC8.out wq hq 7 _ rfl
        unfold plainAt
        go_simp
        first | exact rfl | exact ⟨rfl, rfl⟩
      go_simp
      refine wpG_c rfl rfl ?_
      intro wc gc K hK
      go_simp
      go_at_call 76
      refine (HFW.out wc gc).mono ?_
      rintro e wn ⟨rfl, gf⟩
      refine hK _ _ gf ?_; have GF := Lib.hid (gc.trans gf); clear gc gf hK
      go_simp
      refine wpG_pe rfl rfl ?_
      apply Exists.intro
      refine ⟨fun wq => ?_, ?_⟩
      · unfold plainAt
        go_simp
        first | exact rfl | exact ⟨rfl, rfl⟩
      go_simp
      refine wpG_pe rfl rfl ?_
      apply Exists.intro
      refine ⟨fun wq => ?_, ?_⟩
      · unfold plainAt
        go_simp
        first | exact rfl | exact ⟨rfl, rfl⟩
      go_simp
      refine wpG_pe rfl rfl ?_
      apply Exists.intro
      refine ⟨fun wq => ?_, ?_⟩
      · unfold plainAt
        go_simp
        first | exact rfl | exact ⟨rfl, rfl⟩
      go_simp
      refine wpG_pe rfl rfl ?_
      apply Exists.intro
      refine ⟨fun wq => ?_, ?_⟩
      · unfold plainAt
        go_simp
        first | exact rfl | exact ⟨rfl, rfl⟩
      go_simp
      refine wpG_pe rfl rfl ?_
      apply Exists.intro
      refine ⟨fun wq => ?_, ?_⟩
      · unfold plainAt
        go_simp
        first | exact rfl | exact ⟨rfl, rfl⟩
      go_simp
      refine wpG_s rfl rfl ?_
      intro ws gs0 K hK
      have gs : Gr _ ws := GF.out.trans gs0
      refine wp_store_row 24 (.tmp 6) (.tmp 75) rfl (w.heap.size + 1) #[u0, .string s, u2, u3, u4, u5, u6, u7] rfl rfl 24 z8 (BY.out.mono gs) opSize rfl h1 ?_
      refine hK _ _ ?_
      clear hK
      obtain ⟨wt, hwt⟩ : ∃ wt, wt = ws.setRow (w.heap.size + 1) #[u0, .string s, u2, u3, u4, u5, u6, u7] := ⟨_, rfl⟩
      have HN : Hid (wt.heap[w.heap.size + 1]? = some (.cells #[u0, .string s, u2, u3, u4, u5, u6, u7] 24 (0, 0))) := by rw [hwt]; exact setRow_heap ws _ _ _ _ _ (BY.out.mono gs)
      have GT : Hid (Tch (fun q => q = w.heap.size ∨ q = w.heap.size + 1) (w.alloc (.cells #[u0, u1, u2, u3, u4, u5, u6, u7] 24)) wt) := by rw [hwt]; exact ((TC.out.mono (fun _ _ e => .inl e)).trans (Tch.gr gs)).trans (Tch.row ws _ _ (.inr rfl))
      go_simp
      rw [← hwt]
      clear hwt
      refine wpG_pe rfl rfl ?_
      apply Exists.intro
      refine ⟨fun wq => ?_, ?_⟩
      · unfold plainAt
        go_simp
        first | exact rfl | exact ⟨rfl, rfl⟩
      go_simp
      refine wpG_nil ?_
      intro we ge
      go_wp2_with fail
      have HNE : we.heap[w.heap.size + 1]? = some (.cells #[u0, .string s, u2, u3, u4, u5, u6, u7] 24 (0, 0)) := (ge.block _ (Array.getElem?_eq_some_iff.1 HN.out).1).trans HN.out
      have GE : Gr w we := (Tch.below (Gr.alloc w _) GT.out (by simp) (fun q e => by rcases e with e | e <;> omega)).trans (ge.mono (by have := GT.out.size; simp at this; omega))
      exact bodyPost_ret (results_op Tryz.results63 _ _ (w.heap.size + 1) _ _ rfl HNE rfl) rfl ⟨by rw [hfs, hs0]; rfl, GE⟩
set_option maxRecDepth 100000 in
set_option maxHeartbeats 4000000 in
theorem withI_raw (u0 u1 u2 u3 u4 u5 u6 u7 : Value) (s f : ByteArray) (pn pf : Int) (w : World) (h1 : (#[u0, u1, .string s, u3, u4, u5, u6, u7] : Array Value).all (·.oneCell') = true)
    (HPA : Hid (∀ wr, Calls Tryz.prog 64 #[.string s, .int .i64 1073741824] wr fun e w' => e = .returned (.tuple #[.int .i64 pn, .int .i64 pf]) ∧ Gr wr w'))
    (HF : Hid (∀ wr, Tch (fun q => q = w.heap.size) (w.alloc (.cells #[u0, u1, u2, u3, u4, u5, u6, u7] 24)) wr → Calls Tryz.prog 76 #[.agg #[u0, u1, .string s, u3, u4, u5, u6, u7], .int .u8 105] wr fun e w' => e = .returned (.string f) ∧ Gr wr w')) :
    Calls Tryz.prog 63 #[.agg #[u0, u1, u2, u3, u4, u5, u6, u7], .int .u8 105, .string s] w fun e w' => e = .returned (.tuple #[.agg #[u0, u1, .string s, u3, u4, u5, u6, u7], .bool (f.toList == s.toList && !(s.toList == []))]) ∧ Gr w w' := by
  go_enter Tryz.func63, Tryz.ntmps63
  go_wp2_with fail
  refine (HPA.out _).mono ?_
  rintro e w1 ⟨rfl, g1⟩
  have B1 := Lib.hid (((Blk.new w 24 #[u0, u1, u2, u3, u4, u5, u6, u7]).mono (Gr.alloc _ _)).mono g1)
  have BY1 := Lib.hid ((Blk.new (w.alloc (.cells #[u0, u1, u2, u3, u4, u5, u6, u7] 24)) 24 z8).mono g1)
  have c1 : w1.cell? ⟨w.heap.size, 2, none⟩ = some u2 := by rw [B1.out.cell]; rfl
  have f1 := B1.out.free 2
  have G1 := Lib.hid g1; clear g1
  go_wp2_with fail
  have BX : Hid (Blk (w1.setCell ⟨w.heap.size, 2, none⟩ (.string s)) w.heap.size 24 [u0, u1, .string s, u3, u4, u5, u6, u7]) := B1.out.set 2 (.string s)
  have BY : Hid (Blk (w1.setCell ⟨w.heap.size, 2, none⟩ (.string s)) (w.heap.size + 1) 24 z8.toList) := by
    show Blk _ _ _ _
    have := BY1.out.far (p := ⟨w.heap.size, 2, none⟩) (by simp) (.string s)
    simpa using this
  have HC8 : Hid (∀ wq, Gr (w1.setCell ⟨w.heap.size, 2, none⟩ (.string s)) wq → Eight wq w.heap.size [u0, u1, .string s, u3, u4, u5, u6, u7]) := fun wq g j v h => ((BX.out.mono g).cell j).trans h
  have TC : Hid (Tch (fun q => q = w.heap.size) (w.alloc (.cells #[u0, u1, u2, u3, u4, u5, u6, u7] 24)) (w1.setCell ⟨w.heap.size, 2, none⟩ (.string s))) := (Tch.gr ((Gr.alloc _ _).trans G1.out)).trans (Tch.set ⟨w.heap.size, 2, none⟩ (.string s) rfl)
  clear c1 f1 B1 BY1
  generalize w1.setCell ⟨w.heap.size, 2, none⟩ (.string s) = W3 at *
  replace HC8 := Lib.hid fun wq (g : Gr W3.drew wq) => HC8.out wq ((Gr.drew _).trans g)
  replace TC := Lib.hid (TC.out.trans (Tch.gr (Gr.drew W3)))
  replace BY := Lib.hid BY.out.drew
  have HFW := Lib.hid fun wr (g : Gr W3.drew wr) => HF.out wr (TC.out.trans (Tch.gr g))
  cases hfs : (f.toList == s.toList) with
  | false =>
    refine wp_region_grow (by kernel_rfl) [0, 0, 0, 6, 0, 30, 62, 126, 254, 510, 127, 2047] [.p 2, .p 4, .q 0, .q 1, .c 3, .p 5, .p 6, .p 7, .p 8, .p 9, .s 10, .p 11] (by kernel_rfl) (trivial) ?_
    refine wpG_pe rfl rfl ?_
    apply Exists.intro
    refine ⟨fun wq => ?_, ?_⟩
    · unfold plainAt
      go_simp
      first | exact rfl | exact ⟨rfl, rfl⟩
    go_simp
    refine wpG_pe rfl rfl ?_
    apply Exists.intro
    refine ⟨fun wq => ?_, ?_⟩
    · unfold plainAt
      go_simp
      first | exact rfl | exact ⟨rfl, rfl⟩
    go_simp
    refine wpG_qe rfl rfl ?_
    apply Exists.intro
    refine ⟨fun wq hq => ?_, ?_⟩
    · have d0 := HC8.out wq hq 0 _ rfl; have d1 := HC8.out wq hq 1 _ rfl; have d2 := HC8.out wq hq 2 _ rfl; have d3 := HC8.out wq hq 3 _ rfl; have d4 := HC8.out wq hq 4 _ rfl; have d5 := HC8.out wq hq 5 _ rfl; have d6 := HC8.out wq hq 6 _ rfl; have d7 := HC8.out wq hq 7 _ rfl
      unfold plainAt
      go_simp
      first | exact rfl | exact ⟨rfl, rfl⟩
    go_simp
    refine wpG_qe rfl rfl ?_
    apply Exists.intro
    refine ⟨fun wq hq => ?_, ?_⟩
    · have d0 := HC8.out wq hq 0 _ rfl; have d1 := HC8.out wq hq 1 _ rfl; have d2 := HC8.out wq hq 2 _ rfl; have d3 := HC8.out wq hq 3 _ rfl; have d4 := HC8.out wq hq 4 _ rfl; have d5 := HC8.out wq hq 5 _ rfl; have d6 := HC8.out wq hq 6 _ rfl; have d7 := HC8.out wq hq 7 _ rfl
      unfold plainAt
      go_simp
      first | exact rfl | exact ⟨rfl, rfl⟩
    go_simp
    refine wpG_c rfl rfl ?_
    intro wc gc K hK
    go_simp
    go_at_call 76
    refine (HFW.out wc gc).mono ?_
    rintro e wn ⟨rfl, gf⟩
    refine hK _ _ gf ?_; have GF := Lib.hid (gc.trans gf); clear gc gf hK
    go_simp
    refine wpG_pe rfl rfl ?_
    apply Exists.intro
    refine ⟨fun wq => ?_, ?_⟩
    · unfold plainAt
      go_simp
      first | exact rfl | exact ⟨rfl, rfl⟩
    go_simp
    refine wpG_pe rfl rfl ?_
    apply Exists.intro
    refine ⟨fun wq => ?_, ?_⟩
    · unfold plainAt
      go_simp
      first | exact rfl | exact ⟨rfl, rfl⟩
    go_simp
    first | refine wpG_skip_p rfl rfl ?_ | refine wpG_skip_q rfl rfl ?_ | refine wpG_skip_c rfl rfl ?_
    go_simp
    first | refine wpG_skip_p rfl rfl ?_ | refine wpG_skip_q rfl rfl ?_ | refine wpG_skip_c rfl rfl ?_
    go_simp
    refine wpG_pe rfl rfl ?_
    apply Exists.intro
    refine ⟨fun wq => ?_, ?_⟩
    · unfold plainAt
      go_simp
      first | exact rfl | exact ⟨rfl, rfl⟩
    go_simp
    refine wpG_s rfl rfl ?_
    intro ws gs0 K hK
    have gs : Gr _ ws := GF.out.trans gs0
    refine wp_store_row 24 (.tmp 6) (.tmp 75) rfl (w.heap.size + 1) #[u0, u1, .string s, u3, u4, u5, u6, u7] rfl rfl 24 z8 (BY.out.mono gs) opSize rfl h1 ?_
    refine hK _ _ ?_
    clear hK
    obtain ⟨wt, hwt⟩ : ∃ wt, wt = ws.setRow (w.heap.size + 1) #[u0, u1, .string s, u3, u4, u5, u6, u7] := ⟨_, rfl⟩
    have HN : Hid (wt.heap[w.heap.size + 1]? = some (.cells #[u0, u1, .string s, u3, u4, u5, u6, u7] 24 (0, 0))) := by rw [hwt]; exact setRow_heap ws _ _ _ _ _ (BY.out.mono gs)
    have GT : Hid (Tch (fun q => q = w.heap.size ∨ q = w.heap.size + 1) (w.alloc (.cells #[u0, u1, u2, u3, u4, u5, u6, u7] 24)) wt) := by rw [hwt]; exact ((TC.out.mono (fun _ _ e => .inl e)).trans (Tch.gr gs)).trans (Tch.row ws _ _ (.inr rfl))
    go_simp
    rw [← hwt]
    clear hwt
    refine wpG_pe rfl rfl ?_
    apply Exists.intro
    refine ⟨fun wq => ?_, ?_⟩
    · unfold plainAt
      go_simp
      first | exact rfl | exact ⟨rfl, rfl⟩
    go_simp
    refine wpG_nil ?_
    intro we ge
    go_wp2_with fail
    have HNE : we.heap[w.heap.size + 1]? = some (.cells #[u0, u1, .string s, u3, u4, u5, u6, u7] 24 (0, 0)) := (ge.block _ (Array.getElem?_eq_some_iff.1 HN.out).1).trans HN.out
    have GE : Gr w we := (Tch.below (Gr.alloc w _) GT.out (by simp) (fun q e => by rcases e with e | e <;> omega)).trans (ge.mono (by have := GT.out.size; simp at this; omega))
    exact bodyPost_ret (results_op Tryz.results63 _ _ (w.heap.size + 1) _ _ rfl HNE rfl) rfl ⟨by rw [hfs]; rfl, GE⟩
  | true =>
    cases hs0 : (s.toList == []) with
    | false =>
      refine wp_region_grow (by kernel_rfl) [0, 0, 0, 6, 0, 30, 62, 126, 254, 510, 127, 2047] [.p 2, .p 4, .q 0, .q 1, .c 3, .p 5, .p 6, .p 7, .p 8, .p 9, .s 10, .p 11] (by kernel_rfl) (trivial) ?_
      refine wpG_pe rfl rfl ?_
      apply Exists.intro
      refine ⟨fun wq => ?_, ?_⟩
      · unfold plainAt
        go_simp
        first | exact rfl | exact ⟨rfl, rfl⟩
      go_simp
      refine wpG_pe rfl rfl ?_
      apply Exists.intro
      refine ⟨fun wq => ?_, ?_⟩
      · unfold plainAt
        go_simp
        first | exact rfl | exact ⟨rfl, rfl⟩
      go_simp
      refine wpG_qe rfl rfl ?_
      apply Exists.intro
      refine ⟨fun wq hq => ?_, ?_⟩
      · have d0 := HC8.out wq hq 0 _ rfl; have d1 := HC8.out wq hq 1 _ rfl; have d2 := HC8.out wq hq 2 _ rfl; have d3 := HC8.out wq hq 3 _ rfl; have d4 := HC8.out wq hq 4 _ rfl; have d5 := HC8.out wq hq 5 _ rfl; have d6 := HC8.out wq hq 6 _ rfl; have d7 := HC8.out wq hq 7 _ rfl
        unfold plainAt
        go_simp
        first | exact rfl | exact ⟨rfl, rfl⟩
      go_simp
      refine wpG_qe rfl rfl ?_
      apply Exists.intro
      refine ⟨fun wq hq => ?_, ?_⟩
      · have d0 := HC8.out wq hq 0 _ rfl; have d1 := HC8.out wq hq 1 _ rfl; have d2 := HC8.out wq hq 2 _ rfl; have d3 := HC8.out wq hq 3 _ rfl; have d4 := HC8.out wq hq 4 _ rfl; have d5 := HC8.out wq hq 5 _ rfl; have d6 := HC8.out wq hq 6 _ rfl; have d7 := HC8.out wq hq 7 _ rfl
        unfold plainAt
        go_simp
        first | exact rfl | exact ⟨rfl, rfl⟩
      go_simp
      refine wpG_c rfl rfl ?_
      intro wc gc K hK
      go_simp
      go_at_call 76
      refine (HFW.out wc gc).mono ?_
      rintro e wn ⟨rfl, gf⟩
      refine hK _ _ gf ?_; have GF := Lib.hid (gc.trans gf); clear gc gf hK
      go_simp
      refine wpG_pe rfl rfl ?_
      apply Exists.intro
      refine ⟨fun wq => ?_, ?_⟩
      · unfold plainAt
        go_simp
        first | exact rfl | exact ⟨rfl, rfl⟩
      go_simp
      refine wpG_pe rfl rfl ?_
      apply Exists.intro
      refine ⟨fun wq => ?_, ?_⟩
      · unfold plainAt
        go_simp
        first | exact rfl | exact ⟨rfl, rfl⟩
      go_simp
      refine wpG_pe rfl rfl ?_
      apply Exists.intro
      refine ⟨fun wq => ?_, ?_⟩
      · unfold plainAt
        go_simp
        first | exact rfl | exact ⟨rfl, rfl⟩
      go_simp
      refine wpG_pe rfl rfl ?_
      apply Exists.intro
      refine ⟨fun wq => ?_, ?_⟩
      · unfold plainAt
        go_simp
        first | exact rfl | exact ⟨rfl, rfl⟩
      go_simp
      refine wpG_pe rfl rfl ?_
      apply Exists.intro
      refine ⟨fun wq => ?_, ?_⟩
      · unfold plainAt
        go_simp
        first | exact rfl | exact ⟨rfl, rfl⟩
      go_simp
      refine wpG_s rfl rfl ?_
      intro ws gs0 K hK
      have gs : Gr _ ws := GF.out.trans gs0
      refine wp_store_row 24 (.tmp 6) (.tmp 75) rfl (w.heap.size + 1) #[u0, u1, .string s, u3, u4, u5, u6, u7] rfl rfl 24 z8 (BY.out.mono gs) opSize rfl h1 ?_
      refine hK _ _ ?_
      clear hK
      obtain ⟨wt, hwt⟩ : ∃ wt, wt = ws.setRow (w.heap.size + 1) #[u0, u1, .string s, u3, u4, u5, u6, u7] := ⟨_, rfl⟩
      have HN : Hid (wt.heap[w.heap.size + 1]? = some (.cells #[u0, u1, .string s, u3, u4, u5, u6, u7] 24 (0, 0))) := by rw [hwt]; exact setRow_heap ws _ _ _ _ _ (BY.out.mono gs)
      have GT : Hid (Tch (fun q => q = w.heap.size ∨ q = w.heap.size + 1) (w.alloc (.cells #[u0, u1, u2, u3, u4, u5, u6, u7] 24)) wt) := by rw [hwt]; exact ((TC.out.mono (fun _ _ e => .inl e)).trans (Tch.gr gs)).trans (Tch.row ws _ _ (.inr rfl))
      go_simp
      rw [← hwt]
      clear hwt
      refine wpG_pe rfl rfl ?_
      apply Exists.intro
      refine ⟨fun wq => ?_, ?_⟩
      · unfold plainAt
        go_simp
        first | exact rfl | exact ⟨rfl, rfl⟩
      go_simp
      refine wpG_nil ?_
      intro we ge
      go_wp2_with fail
      have HNE : we.heap[w.heap.size + 1]? = some (.cells #[u0, u1, .string s, u3, u4, u5, u6, u7] 24 (0, 0)) := (ge.block _ (Array.getElem?_eq_some_iff.1 HN.out).1).trans HN.out
      have GE : Gr w we := (Tch.below (Gr.alloc w _) GT.out (by simp) (fun q e => by rcases e with e | e <;> omega)).trans (ge.mono (by have := GT.out.size; simp at this; omega))
      exact bodyPost_ret (results_op Tryz.results63 _ _ (w.heap.size + 1) _ _ rfl HNE rfl) rfl ⟨by rw [hfs, hs0]; rfl, GE⟩
    | true =>
      refine wp_region_grow (by kernel_rfl) [0, 0, 0, 6, 0, 30, 62, 126, 254, 510, 127, 2047] [.p 2, .p 4, .q 0, .q 1, .c 3, .p 5, .p 6, .p 7, .p 8, .p 9, .s 10, .p 11] (by kernel_rfl) (trivial) ?_
      refine wpG_pe rfl rfl ?_
      apply Exists.intro
      refine ⟨fun wq => ?_, ?_⟩
      · unfold plainAt
        go_simp
        first | exact rfl | exact ⟨rfl, rfl⟩
      go_simp
      refine wpG_pe rfl rfl ?_
      apply Exists.intro
      refine ⟨fun wq => ?_, ?_⟩
      · unfold plainAt
        go_simp
        first | exact rfl | exact ⟨rfl, rfl⟩
      go_simp
      refine wpG_qe rfl rfl ?_
      apply Exists.intro
      refine ⟨fun wq hq => ?_, ?_⟩
      · have d0 := HC8.out wq hq 0 _ rfl; have d1 := HC8.out wq hq 1 _ rfl; have d2 := HC8.out wq hq 2 _ rfl; have d3 := HC8.out wq hq 3 _ rfl; have d4 := HC8.out wq hq 4 _ rfl; have d5 := HC8.out wq hq 5 _ rfl; have d6 := HC8.out wq hq 6 _ rfl; have d7 := HC8.out wq hq 7 _ rfl
        unfold plainAt
        go_simp
        first | exact rfl | exact ⟨rfl, rfl⟩
      go_simp
      refine wpG_qe rfl rfl ?_
      apply Exists.intro
      refine ⟨fun wq hq => ?_, ?_⟩
      · have d0 := HC8.out wq hq 0 _ rfl; have d1 := HC8.out wq hq 1 _ rfl; have d2 := HC8.out wq hq 2 _ rfl; have d3 := HC8.out wq hq 3 _ rfl; have d4 := HC8.out wq hq 4 _ rfl; have d5 := HC8.out wq hq 5 _ rfl; have d6 := HC8.out wq hq 6 _ rfl; have d7 := HC8.out wq hq 7 _ rfl
        unfold plainAt
        go_simp
        first | exact rfl | exact ⟨rfl, rfl⟩
      go_simp
      refine wpG_c rfl rfl ?_
      intro wc gc K hK
      go_simp
      go_at_call 76
      refine (HFW.out wc gc).mono ?_
      rintro e wn ⟨rfl, gf⟩
      refine hK _ _ gf ?_; have GF := Lib.hid (gc.trans gf); clear gc gf hK
      go_simp
      refine wpG_pe rfl rfl ?_
      apply Exists.intro
      refine ⟨fun wq => ?_, ?_⟩
      · unfold plainAt
        go_simp
        first | exact rfl | exact ⟨rfl, rfl⟩
      go_simp
      refine wpG_pe rfl rfl ?_
      apply Exists.intro
      refine ⟨fun wq => ?_, ?_⟩
      · unfold plainAt
        go_simp
        first | exact rfl | exact ⟨rfl, rfl⟩
      go_simp
      refine wpG_pe rfl rfl ?_
      apply Exists.intro
      refine ⟨fun wq => ?_, ?_⟩
      · unfold plainAt
        go_simp
        first | exact rfl | exact ⟨rfl, rfl⟩
      go_simp
      refine wpG_pe rfl rfl ?_
      apply Exists.intro
      refine ⟨fun wq => ?_, ?_⟩
      · unfold plainAt
        go_simp
        first | exact rfl | exact ⟨rfl, rfl⟩
      go_simp
      refine wpG_pe rfl rfl ?_
      apply Exists.intro
      refine ⟨fun wq => ?_, ?_⟩
      · unfold plainAt
        go_simp
        first | exact rfl | exact ⟨rfl, rfl⟩
      go_simp
      refine wpG_s rfl rfl ?_
      intro ws gs0 K hK
      have gs : Gr _ ws := GF.out.trans gs0
      refine wp_store_row 24 (.tmp 6) (.tmp 75) rfl (w.heap.size + 1) #[u0, u1, .string s, u3, u4, u5, u6, u7] rfl rfl 24 z8 (BY.out.mono gs) opSize rfl h1 ?_
      refine hK _ _ ?_
      clear hK
      obtain ⟨wt, hwt⟩ : ∃ wt, wt = ws.setRow (w.heap.size + 1) #[u0, u1, .string s, u3, u4, u5, u6, u7] := ⟨_, rfl⟩
      have HN : Hid (wt.heap[w.heap.size + 1]? = some (.cells #[u0, u1, .string s, u3, u4, u5, u6, u7] 24 (0, 0))) := by rw [hwt]; exact setRow_heap ws _ _ _ _ _ (BY.out.mono gs)
      have GT : Hid (Tch (fun q => q = w.heap.size ∨ q = w.heap.size + 1) (w.alloc (.cells #[u0, u1, u2, u3, u4, u5, u6, u7] 24)) wt) := by rw [hwt]; exact ((TC.out.mono (fun _ _ e => .inl e)).trans (Tch.gr gs)).trans (Tch.row ws _ _ (.inr rfl))
      go_simp
      rw [← hwt]
      clear hwt
      refine wpG_pe rfl rfl ?_
      apply Exists.intro
      refine ⟨fun wq => ?_, ?_⟩
      · unfold plainAt
        go_simp
        first | exact rfl | exact ⟨rfl, rfl⟩
      go_simp
      refine wpG_nil ?_
      intro we ge
      go_wp2_with fail
      have HNE : we.heap[w.heap.size + 1]? = some (.cells #[u0, u1, .string s, u3, u4, u5, u6, u7] 24 (0, 0)) := (ge.block _ (Array.getElem?_eq_some_iff.1 HN.out).1).trans HN.out
      have GE : Gr w we := (Tch.below (Gr.alloc w _) GT.out (by simp) (fun q e => by rcases e with e | e <;> omega)).trans (ge.mono (by have := GT.out.size; simp at this; omega))
      exact bodyPost_ret (results_op Tryz.results63 _ _ (w.heap.size + 1) _ _ rfl HNE rfl) rfl ⟨by rw [hfs, hs0]; rfl, GE⟩
set_option maxRecDepth 100000 in
set_option maxHeartbeats 4000000 in
theorem withE_raw (u0 u1 u2 u3 u4 u5 u6 u7 : Value) (s : ByteArray) (pn pf : Int) (w : World) (h1 : (#[u0, u1, u2, .int .i64 pn, u4, u5, u6, u7] : Array Value).all (·.oneCell') = true)
    (HPA : Hid (∀ wr, Calls Tryz.prog 64 #[.string s, .int .i64 1073741824] wr fun e w' => e = .returned (.tuple #[.int .i64 pn, .int .i64 pf]) ∧ Gr wr w')) :
    Calls Tryz.prog 63 #[.agg #[u0, u1, u2, u3, u4, u5, u6, u7], .int .u8 101, .string s] w fun e w' => e = .returned (.tuple #[.agg #[u0, u1, u2, .int .i64 pn, u4, u5, u6, u7], .bool (pf == 0)]) ∧ Gr w w' := by
  go_enter Tryz.func63, Tryz.ntmps63
  go_wp2_with fail
  refine (HPA.out _).mono ?_
  rintro e w1 ⟨rfl, g1⟩
  have B1 := Lib.hid (((Blk.new w 24 #[u0, u1, u2, u3, u4, u5, u6, u7]).mono (Gr.alloc _ _)).mono g1)
  have BY1 := Lib.hid ((Blk.new (w.alloc (.cells #[u0, u1, u2, u3, u4, u5, u6, u7] 24)) 24 z8).mono g1)
  have c1 : w1.cell? ⟨w.heap.size, 3, none⟩ = some u3 := by rw [B1.out.cell]; rfl
  have f1 := B1.out.free 3
  have G1 := Lib.hid g1; clear g1
  have BX : Hid (Blk (w1.setCell ⟨w.heap.size, 3, none⟩ (.int .i64 pn)) w.heap.size 24 [u0, u1, u2, .int .i64 pn, u4, u5, u6, u7]) := B1.out.set 3 (.int .i64 pn)
  have BY : Hid (Blk (w1.setCell ⟨w.heap.size, 3, none⟩ (.int .i64 pn)) (w.heap.size + 1) 24 z8.toList) := by
    show Blk _ _ _ _
    have := BY1.out.far (p := ⟨w.heap.size, 3, none⟩) (by simp) (.int .i64 pn)
    simpa using this
  have HC8 : Hid (∀ wq, Gr (w1.setCell ⟨w.heap.size, 3, none⟩ (.int .i64 pn)) wq → Eight wq w.heap.size [u0, u1, u2, .int .i64 pn, u4, u5, u6, u7]) := fun wq g j v h => ((BX.out.mono g).cell j).trans h
  have TC : Hid (Tch (fun q => q = w.heap.size) (w.alloc (.cells #[u0, u1, u2, u3, u4, u5, u6, u7] 24)) (w1.setCell ⟨w.heap.size, 3, none⟩ (.int .i64 pn))) := (Tch.gr ((Gr.alloc _ _).trans G1.out)).trans (Tch.set ⟨w.heap.size, 3, none⟩ (.int .i64 pn) rfl)
  have d0 := HC8.out _ (Gr.refl _) 0 _ rfl
  have d1 := HC8.out _ (Gr.refl _) 1 _ rfl
  have d2 := HC8.out _ (Gr.refl _) 2 _ rfl
  have d3 := HC8.out _ (Gr.refl _) 3 _ rfl
  have d4 := HC8.out _ (Gr.refl _) 4 _ rfl
  have d5 := HC8.out _ (Gr.refl _) 5 _ rfl
  have d6 := HC8.out _ (Gr.refl _) 6 _ rfl
  have d7 := HC8.out _ (Gr.refl _) 7 _ rfl
  go_wp2_with (refine wpList_store_row rfl 24 (.tmp 6) (.tmp 72) rfl (w.heap.size + 1) #[u0, u1, u2, .int .i64 pn, u4, u5, u6, u7] rfl rfl 24 z8 BY.out opSize rfl h1 ?_)
  have HN := setRow_heap (w1.setCell ⟨w.heap.size, 3, none⟩ (.int .i64 pn)) (w.heap.size + 1) _ #[u0, u1, u2, .int .i64 pn, u4, u5, u6, u7] _ _ BY.out
  have GT := (TC.out.mono (S' := fun q => q = w.heap.size ∨ q = w.heap.size + 1) (fun _ _ e => .inl e)).trans (Tch.row (w1.setCell ⟨w.heap.size, 3, none⟩ (.int .i64 pn)) (w.heap.size + 1) #[u0, u1, u2, .int .i64 pn, u4, u5, u6, u7] (.inr rfl))
  have GE := Tch.below (Gr.alloc w _) GT (by simp) (fun q e => by rcases e with e | e <;> omega)
  exact bodyPost_ret (results_op Tryz.results63 _ _ (w.heap.size + 1) _ _ rfl HN rfl) rfl ⟨rfl, GE⟩
set_option maxRecDepth 100000 in
set_option maxHeartbeats 4000000 in
theorem withS_raw (u0 u1 u2 u3 u4 u5 u6 u7 : Value) (s : ByteArray) (pn pf : Int) (w : World) (h1 : (#[u0, u1, u2, u3, .int .i64 pn, u5, u6, u7] : Array Value).all (·.oneCell') = true)
    (HPA : Hid (∀ wr, Calls Tryz.prog 64 #[.string s, .int .i64 1073741824] wr fun e w' => e = .returned (.tuple #[.int .i64 pn, .int .i64 pf]) ∧ Gr wr w')) :
    Calls Tryz.prog 63 #[.agg #[u0, u1, u2, u3, u4, u5, u6, u7], .int .u8 115, .string s] w fun e w' => e = .returned (.tuple #[.agg #[u0, u1, u2, u3, .int .i64 pn, u5, u6, u7], .bool (pf == 0)]) ∧ Gr w w' := by
  go_enter Tryz.func63, Tryz.ntmps63
  go_wp2_with fail
  refine (HPA.out _).mono ?_
  rintro e w1 ⟨rfl, g1⟩
  have B1 := Lib.hid (((Blk.new w 24 #[u0, u1, u2, u3, u4, u5, u6, u7]).mono (Gr.alloc _ _)).mono g1)
  have BY1 := Lib.hid ((Blk.new (w.alloc (.cells #[u0, u1, u2, u3, u4, u5, u6, u7] 24)) 24 z8).mono g1)
  have c1 : w1.cell? ⟨w.heap.size, 4, none⟩ = some u4 := by rw [B1.out.cell]; rfl
  have f1 := B1.out.free 4
  have G1 := Lib.hid g1; clear g1
  have BX : Hid (Blk (w1.setCell ⟨w.heap.size, 4, none⟩ (.int .i64 pn)) w.heap.size 24 [u0, u1, u2, u3, .int .i64 pn, u5, u6, u7]) := B1.out.set 4 (.int .i64 pn)
  have BY : Hid (Blk (w1.setCell ⟨w.heap.size, 4, none⟩ (.int .i64 pn)) (w.heap.size + 1) 24 z8.toList) := by
    show Blk _ _ _ _
    have := BY1.out.far (p := ⟨w.heap.size, 4, none⟩) (by simp) (.int .i64 pn)
    simpa using this
  have HC8 : Hid (∀ wq, Gr (w1.setCell ⟨w.heap.size, 4, none⟩ (.int .i64 pn)) wq → Eight wq w.heap.size [u0, u1, u2, u3, .int .i64 pn, u5, u6, u7]) := fun wq g j v h => ((BX.out.mono g).cell j).trans h
  have TC : Hid (Tch (fun q => q = w.heap.size) (w.alloc (.cells #[u0, u1, u2, u3, u4, u5, u6, u7] 24)) (w1.setCell ⟨w.heap.size, 4, none⟩ (.int .i64 pn))) := (Tch.gr ((Gr.alloc _ _).trans G1.out)).trans (Tch.set ⟨w.heap.size, 4, none⟩ (.int .i64 pn) rfl)
  have d0 := HC8.out _ (Gr.refl _) 0 _ rfl
  have d1 := HC8.out _ (Gr.refl _) 1 _ rfl
  have d2 := HC8.out _ (Gr.refl _) 2 _ rfl
  have d3 := HC8.out _ (Gr.refl _) 3 _ rfl
  have d4 := HC8.out _ (Gr.refl _) 4 _ rfl
  have d5 := HC8.out _ (Gr.refl _) 5 _ rfl
  have d6 := HC8.out _ (Gr.refl _) 6 _ rfl
  have d7 := HC8.out _ (Gr.refl _) 7 _ rfl
  go_wp2_with (refine wpList_store_row rfl 24 (.tmp 6) (.tmp 72) rfl (w.heap.size + 1) #[u0, u1, u2, u3, .int .i64 pn, u5, u6, u7] rfl rfl 24 z8 BY.out opSize rfl h1 ?_)
  have HN := setRow_heap (w1.setCell ⟨w.heap.size, 4, none⟩ (.int .i64 pn)) (w.heap.size + 1) _ #[u0, u1, u2, u3, .int .i64 pn, u5, u6, u7] _ _ BY.out
  have GT := (TC.out.mono (S' := fun q => q = w.heap.size ∨ q = w.heap.size + 1) (fun _ _ e => .inl e)).trans (Tch.row (w1.setCell ⟨w.heap.size, 4, none⟩ (.int .i64 pn)) (w.heap.size + 1) #[u0, u1, u2, u3, .int .i64 pn, u5, u6, u7] (.inr rfl))
  have GE := Tch.below (Gr.alloc w _) GT (by simp) (fun q e => by rcases e with e | e <;> omega)
  exact bodyPost_ret (results_op Tryz.results63 _ _ (w.heap.size + 1) _ _ rfl HN rfl) rfl ⟨rfl, GE⟩
set_option maxRecDepth 100000 in
set_option maxHeartbeats 4000000 in
theorem withN_raw (u0 u1 u2 u3 u4 u5 u6 u7 : Value) (s : ByteArray) (pn pf : Int) (w : World) (h1 : (#[u0, u1, u2, u3, u4, .int .i64 pn, u6, u7] : Array Value).all (·.oneCell') = true)
    (HPA : Hid (∀ wr, Calls Tryz.prog 64 #[.string s, .int .i64 1073741824] wr fun e w' => e = .returned (.tuple #[.int .i64 pn, .int .i64 pf]) ∧ Gr wr w')) :
    Calls Tryz.prog 63 #[.agg #[u0, u1, u2, u3, u4, u5, u6, u7], .int .u8 110, .string s] w fun e w' => e = .returned (.tuple #[.agg #[u0, u1, u2, u3, u4, .int .i64 pn, u6, u7], .bool (pf == 0)]) ∧ Gr w w' := by
  go_enter Tryz.func63, Tryz.ntmps63
  go_wp2_with fail
  refine (HPA.out _).mono ?_
  rintro e w1 ⟨rfl, g1⟩
  have B1 := Lib.hid (((Blk.new w 24 #[u0, u1, u2, u3, u4, u5, u6, u7]).mono (Gr.alloc _ _)).mono g1)
  have BY1 := Lib.hid ((Blk.new (w.alloc (.cells #[u0, u1, u2, u3, u4, u5, u6, u7] 24)) 24 z8).mono g1)
  have c1 : w1.cell? ⟨w.heap.size, 5, none⟩ = some u5 := by rw [B1.out.cell]; rfl
  have f1 := B1.out.free 5
  have G1 := Lib.hid g1; clear g1
  have BX : Hid (Blk (w1.setCell ⟨w.heap.size, 5, none⟩ (.int .i64 pn)) w.heap.size 24 [u0, u1, u2, u3, u4, .int .i64 pn, u6, u7]) := B1.out.set 5 (.int .i64 pn)
  have BY : Hid (Blk (w1.setCell ⟨w.heap.size, 5, none⟩ (.int .i64 pn)) (w.heap.size + 1) 24 z8.toList) := by
    show Blk _ _ _ _
    have := BY1.out.far (p := ⟨w.heap.size, 5, none⟩) (by simp) (.int .i64 pn)
    simpa using this
  have HC8 : Hid (∀ wq, Gr (w1.setCell ⟨w.heap.size, 5, none⟩ (.int .i64 pn)) wq → Eight wq w.heap.size [u0, u1, u2, u3, u4, .int .i64 pn, u6, u7]) := fun wq g j v h => ((BX.out.mono g).cell j).trans h
  have TC : Hid (Tch (fun q => q = w.heap.size) (w.alloc (.cells #[u0, u1, u2, u3, u4, u5, u6, u7] 24)) (w1.setCell ⟨w.heap.size, 5, none⟩ (.int .i64 pn))) := (Tch.gr ((Gr.alloc _ _).trans G1.out)).trans (Tch.set ⟨w.heap.size, 5, none⟩ (.int .i64 pn) rfl)
  have d0 := HC8.out _ (Gr.refl _) 0 _ rfl
  have d1 := HC8.out _ (Gr.refl _) 1 _ rfl
  have d2 := HC8.out _ (Gr.refl _) 2 _ rfl
  have d3 := HC8.out _ (Gr.refl _) 3 _ rfl
  have d4 := HC8.out _ (Gr.refl _) 4 _ rfl
  have d5 := HC8.out _ (Gr.refl _) 5 _ rfl
  have d6 := HC8.out _ (Gr.refl _) 6 _ rfl
  have d7 := HC8.out _ (Gr.refl _) 7 _ rfl
  go_wp2_with (refine wpList_store_row rfl 24 (.tmp 6) (.tmp 72) rfl (w.heap.size + 1) #[u0, u1, u2, u3, u4, .int .i64 pn, u6, u7] rfl rfl 24 z8 BY.out opSize rfl h1 ?_)
  have HN := setRow_heap (w1.setCell ⟨w.heap.size, 5, none⟩ (.int .i64 pn)) (w.heap.size + 1) _ #[u0, u1, u2, u3, u4, .int .i64 pn, u6, u7] _ _ BY.out
  have GT := (TC.out.mono (S' := fun q => q = w.heap.size ∨ q = w.heap.size + 1) (fun _ _ e => .inl e)).trans (Tch.row (w1.setCell ⟨w.heap.size, 5, none⟩ (.int .i64 pn)) (w.heap.size + 1) #[u0, u1, u2, u3, u4, .int .i64 pn, u6, u7] (.inr rfl))
  have GE := Tch.below (Gr.alloc w _) GT (by simp) (fun q e => by rcases e with e | e <;> omega)
  exact bodyPost_ret (results_op Tryz.results63 _ _ (w.heap.size + 1) _ _ rfl HN rfl) rfl ⟨rfl, GE⟩
set_option maxRecDepth 100000 in
set_option maxHeartbeats 4000000 in
theorem withX_raw (u0 u1 u2 u3 u4 u5 u6 u7 : Value) (s f : ByteArray) (pn pf : Int) (r : List UInt8 × Nat × Nat) (w : World) (h1 : ∀ A m c, (#[u0, u1, u2, u3, u4, u5, u6, .slice A m c] : Array Value).all (·.oneCell') = true)
    (HPA : Hid (∀ wr, Calls Tryz.prog 64 #[.string s, .int .i64 1073741824] wr fun e w' => e = .returned (.tuple #[.int .i64 pn, .int .i64 pf]) ∧ Gr wr w'))
    (HH : Hid (∀ wr, Calls Tryz.prog 37 #[.string s] wr (RetHex wr r)))
    (HF : Hid (∀ A m c wr, Bs wr A m c r.1 → Calls Tryz.prog 76 #[.agg #[u0, u1, u2, u3, u4, u5, u6, .slice A m c], .int .u8 120] wr fun e w' => e = .returned (.string f) ∧ Gr wr w')) :
    Calls Tryz.prog 63 #[.agg #[u0, u1, u2, u3, u4, u5, u6, u7], .int .u8 120, .string s] w fun e w' => ∃ A m c, e = .returned (.tuple #[.agg #[u0, u1, u2, u3, u4, u5, u6, .slice A m c], .bool (f.toList == s.toList && !(s.toList == []))]) ∧ Bs w' A m c r.1 ∧ Gr w w' ∧ ∀ b q, A = some ⟨b, q, none⟩ → w.heap.size ≤ b := by
  go_enter Tryz.func63, Tryz.ntmps63
  go_wp2_with fail
  refine (HPA.out _).mono ?_
  rintro e w1 ⟨rfl, g1⟩
  have G0 := Lib.hid g1; clear g1
  go_wp2_with fail
  refine (HH.out _).mono ?_
  rintro e w2 ⟨v2, rfl, ow⟩
  have hfr : Hid (∀ b o (A : Option Addr) m c, v2 = .slice A m c → A = some ⟨b, o, none⟩ → w1.heap.size ≤ b) := fun b o A m c e1 e2 => (ow.1.lt b (by rw [e1, e2]; rfl)).1
  obtain ⟨A, c, rfl, sl⟩ := ow.slice
  have HFR : Hid (∀ b o, A = some ⟨b, o, none⟩ → w1.heap.size ≤ b) := fun b o e => hfr.out b o A _ c rfl e
  have g2 := G0.out.trans ow.below
  have hsz := G0.out.size
  have hsz2 : w.heap.size + 2 ≤ w1.heap.size := by simpa using hsz
  have SL := Lib.hid sl
  clear ow sl hfr
  generalize hm : r.1.length = m at *
  replace h1 := h1 A m c
  have B1 := Lib.hid (((Blk.new w 24 #[u0, u1, u2, u3, u4, u5, u6, u7]).mono (Gr.alloc _ _)).mono g2)
  have BY1 := Lib.hid ((Blk.new (w.alloc (.cells #[u0, u1, u2, u3, u4, u5, u6, u7] 24)) 24 z8).mono g2)
  have c1 : w2.cell? ⟨w.heap.size, 7, none⟩ = some u7 := by rw [B1.out.cell]; rfl
  have f1 := B1.out.free 7
  have G1 := Lib.hid g2; clear g2
  go_wp2_with fail
  have BX : Hid (Blk (w2.setCell ⟨w.heap.size, 7, none⟩ (.slice A m c)) w.heap.size 24 [u0, u1, u2, u3, u4, u5, u6, .slice A m c]) := B1.out.set 7 (.slice A m c)
  have BY : Hid (Blk (w2.setCell ⟨w.heap.size, 7, none⟩ (.slice A m c)) (w.heap.size + 1) 24 z8.toList) := by
    show Blk _ _ _ _
    have := BY1.out.far (p := ⟨w.heap.size, 7, none⟩) (by simp) (.slice A m c)
    simpa using this
  have HC8 : Hid (∀ wq, Gr (w2.setCell ⟨w.heap.size, 7, none⟩ (.slice A m c)) wq → Eight wq w.heap.size [u0, u1, u2, u3, u4, u5, u6, .slice A m c]) := fun wq g j v h => ((BX.out.mono g).cell j).trans h
  have TC : Hid (Tch (fun q => q = w.heap.size) (w.alloc (.cells #[u0, u1, u2, u3, u4, u5, u6, u7] 24)) (w2.setCell ⟨w.heap.size, 7, none⟩ (.slice A m c))) := (Tch.gr ((Gr.alloc _ _).trans G1.out)).trans (Tch.set ⟨w.heap.size, 7, none⟩ (.slice A m c) rfl)
  have SL2 : Hid (Bs (w2.setCell ⟨w.heap.size, 7, none⟩ (.slice A m c)) A m c r.1) := Sl.tch SL.out (by decide) (Tch.set (S := fun q => q = w.heap.size) ⟨w.heap.size, 7, none⟩ (.slice A m c) rfl) (fun _ b o e h => by have h : b = w.heap.size := h; have := HFR.out b o e; omega)
  clear c1 f1 B1 BY1
  generalize w2.setCell ⟨w.heap.size, 7, none⟩ (.slice A m c) = W3 at *
  replace HC8 := Lib.hid fun wq (g : Gr W3.drew wq) => HC8.out wq ((Gr.drew _).trans g)
  replace TC := Lib.hid (TC.out.trans (Tch.gr (Gr.drew W3)))
  replace BY := Lib.hid BY.out.drew
  have HFW := Lib.hid fun wr (g : Gr W3.drew wr) => HF.out A m c wr (SL2.out.mono ((Gr.drew _).trans g))
  have HSF : Hid (∀ wt, Tch (fun q => q = w.heap.size + 1) W3.drew wt → Bs wt A m c r.1) := fun wt t => Sl.tch (SL2.out.mono (Gr.drew _)) (by decide) t (fun _ b o e h => by have h : b = w.heap.size + 1 := h; have := HFR.out b o e; omega)
  cases hfs : (f.toList == s.toList) with
  | false =>
    refine wp_region_grow (by kernel_rfl) [0, 0, 0, 6, 0, 30, 62, 126, 254, 510, 127, 2047] [.p 2, .p 4, .q 0, .q 1, .c 3, .p 5, .p 6, .p 7, .p 8, .p 9, .s 10, .p 11] (by kernel_rfl) (trivial) ?_
    refine wpG_pe rfl rfl ?_
    apply Exists.intro
    refine ⟨fun wq => ?_, ?_⟩
    · unfold plainAt
      go_simp
      first | exact rfl | exact ⟨rfl, rfl⟩
    go_simp
    refine wpG_pe rfl rfl ?_
    apply Exists.intro
    refine ⟨fun wq => ?_, ?_⟩
    · unfold plainAt
      go_simp
      first | exact rfl | exact ⟨rfl, rfl⟩
    go_simp
    refine wpG_qe rfl rfl ?_
    apply Exists.intro
    refine ⟨fun wq hq => ?_, ?_⟩
    · have d0 := HC8.out wq hq 0 _ rfl; have d1 := HC8.out wq hq 1 _ rfl; have d2 := HC8.out wq hq 2 _ rfl; have d3 := HC8.out wq hq 3 _ rfl; have d4 := HC8.out wq hq 4 _ rfl; have d5 := HC8.out wq hq 5 _ rfl; have d6 := HC8.out wq hq 6 _ rfl; have d7 := HC8.out wq hq 7 _ rfl
      unfold plainAt
      go_simp
      first | exact rfl | exact ⟨rfl, rfl⟩
    go_simp
    refine wpG_qe rfl rfl ?_
    apply Exists.intro
    refine ⟨fun wq hq => ?_, ?_⟩
    · have d0 := HC8.out wq hq 0 _ rfl; have d1 := HC8.out wq hq 1 _ rfl; have d2 := HC8.out wq hq 2 _ rfl; have d3 := HC8.out wq hq 3 _ rfl; have d4 := HC8.out wq hq 4 _ rfl; have d5 := HC8.out wq hq 5 _ rfl; have d6 := HC8.out wq hq 6 _ rfl; have d7 := HC8.out wq hq 7 _ rfl
      unfold plainAt
      go_simp
      first | exact rfl | exact ⟨rfl, rfl⟩
    go_simp
    refine wpG_c rfl rfl ?_
    intro wc gc K hK
    go_simp
    go_at_call 76
    refine (HFW.out wc gc).mono ?_
    rintro e wn ⟨rfl, gf⟩
    refine hK _ _ gf ?_; have GF := Lib.hid (gc.trans gf); clear gc gf hK
    go_simp
    refine wpG_pe rfl rfl ?_
    apply Exists.intro
    refine ⟨fun wq => ?_, ?_⟩
    · unfold plainAt
      go_simp
      first | exact rfl | exact ⟨rfl, rfl⟩
    go_simp
    refine wpG_pe rfl rfl ?_
    apply Exists.intro
    refine ⟨fun wq => ?_, ?_⟩
    · unfold plainAt
      go_simp
      first | exact rfl | exact ⟨rfl, rfl⟩
    go_simp
    first | refine wpG_skip_p rfl rfl ?_ | refine wpG_skip_q rfl rfl ?_ | refine wpG_skip_c rfl rfl ?_
    go_simp
    first | refine wpG_skip_p rfl rfl ?_ | refine wpG_skip_q rfl rfl ?_ | refine wpG_skip_c rfl rfl ?_
    go_simp
    refine wpG_pe rfl rfl ?_
    apply Exists.intro
    refine ⟨fun wq => ?_, ?_⟩
    · unfold plainAt
      go_simp
      first | exact rfl | exact ⟨rfl, rfl⟩
    go_simp
    refine wpG_s rfl rfl ?_
    intro ws gs0 K hK
    have gs : Gr _ ws := GF.out.trans gs0
    refine wp_store_row 24 (.tmp 6) (.tmp 75) rfl (w.heap.size + 1) #[u0, u1, u2, u3, u4, u5, u6, .slice A m c] rfl rfl 24 z8 (BY.out.mono gs) opSize rfl h1 ?_
    refine hK _ _ ?_
    clear hK
    obtain ⟨wt, hwt⟩ : ∃ wt, wt = ws.setRow (w.heap.size + 1) #[u0, u1, u2, u3, u4, u5, u6, .slice A m c] := ⟨_, rfl⟩
    have HN : Hid (wt.heap[w.heap.size + 1]? = some (.cells #[u0, u1, u2, u3, u4, u5, u6, .slice A m c] 24 (0, 0))) := by rw [hwt]; exact setRow_heap ws _ _ _ _ _ (BY.out.mono gs)
    have GT : Hid (Tch (fun q => q = w.heap.size ∨ q = w.heap.size + 1) (w.alloc (.cells #[u0, u1, u2, u3, u4, u5, u6, u7] 24)) wt) := by rw [hwt]; exact ((TC.out.mono (fun _ _ e => .inl e)).trans (Tch.gr gs)).trans (Tch.row ws _ _ (.inr rfl))
    have GTR : Hid (Tch (fun q => q = w.heap.size + 1) ws wt) := by rw [hwt]; exact Tch.row ws _ _ rfl
    go_simp
    rw [← hwt]
    clear hwt
    refine wpG_pe rfl rfl ?_
    apply Exists.intro
    refine ⟨fun wq => ?_, ?_⟩
    · unfold plainAt
      go_simp
      first | exact rfl | exact ⟨rfl, rfl⟩
    go_simp
    refine wpG_nil ?_
    intro we ge
    go_wp2_with fail
    have HNE : we.heap[w.heap.size + 1]? = some (.cells #[u0, u1, u2, u3, u4, u5, u6, .slice A m c] 24 (0, 0)) := (ge.block _ (Array.getElem?_eq_some_iff.1 HN.out).1).trans HN.out
    have GE : Gr w we := (Tch.below (Gr.alloc w _) GT.out (by simp) (fun q e => by rcases e with e | e <;> omega)).trans (ge.mono (by have := GT.out.size; simp at this; omega))
    exact bodyPost_ret (results_op Tryz.results63 _ _ (w.heap.size + 1) _ _ rfl HNE rfl) rfl ⟨A, m, c, by rw [hfs]; rfl, (HSF.out _ ((Tch.gr gs).trans GTR.out)).mono ge, GE, fun b q e => by have := HFR.out b q e; omega⟩
  | true =>
    cases hs0 : (s.toList == []) with
    | false =>
      refine wp_region_grow (by kernel_rfl) [0, 0, 0, 6, 0, 30, 62, 126, 254, 510, 127, 2047] [.p 2, .p 4, .q 0, .q 1, .c 3, .p 5, .p 6, .p 7, .p 8, .p 9, .s 10, .p 11] (by kernel_rfl) (trivial) ?_
      refine wpG_pe rfl rfl ?_
      apply Exists.intro
      refine ⟨fun wq => ?_, ?_⟩
      · unfold plainAt
        go_simp
        first | exact rfl | exact ⟨rfl, rfl⟩
      go_simp
      refine wpG_pe rfl rfl ?_
      apply Exists.intro
      refine ⟨fun wq => ?_, ?_⟩
      · unfold plainAt
        go_simp
        first | exact rfl | exact ⟨rfl, rfl⟩
      go_simp
      refine wpG_qe rfl rfl ?_
      apply Exists.intro
      refine ⟨fun wq hq => ?_, ?_⟩
      · have d0 := HC8.out wq hq 0 _ rfl; have d1 := HC8.out wq hq 1 _ rfl; have d2 := HC8.out wq hq 2 _ rfl; have d3 := HC8.out wq hq 3 _ rfl; have d4 := HC8.out wq hq 4 _ rfl; have d5 := HC8.out wq hq 5 _ rfl; have d6 := HC8.out wq hq 6 _ rfl; have d7 := HC8.out wq hq 7 _ rfl
        unfold plainAt
        go_simp
        first | exact rfl | exact ⟨rfl, rfl⟩
      go_simp
      refine wpG_qe rfl rfl ?_
      apply Exists.intro
      refine ⟨fun wq hq => ?_, ?_⟩
      · have d0 := HC8.out wq hq 0 _ rfl; have d1 := HC8.out wq hq 1 _ rfl; have d2 := HC8.out wq hq 2 _ rfl; have d3 := HC8.out wq hq 3 _ rfl; have d4 := HC8.out wq hq 4 _ rfl; have d5 := HC8.out wq hq 5 _ rfl; have d6 := HC8.out wq hq 6 _ rfl; have d7 := HC8.out wq hq 7 _ rfl
        unfold plainAt
        go_simp
        first | exact rfl | exact ⟨rfl, rfl⟩
      go_simp
      refine wpG_c rfl rfl ?_
      intro wc gc K hK
      go_simp
      go_at_call 76
      refine (HFW.out wc gc).mono ?_
      rintro e wn ⟨rfl, gf⟩
      refine hK _ _ gf ?_; have GF := Lib.hid (gc.trans gf); clear gc gf hK
      go_simp
      refine wpG_pe rfl rfl ?_
      apply Exists.intro
      refine ⟨fun wq => ?_, ?_⟩
      · unfold plainAt
        go_simp
        first | exact rfl | exact ⟨rfl, rfl⟩
      go_simp
      refine wpG_pe rfl rfl ?_
      apply Exists.intro
      refine ⟨fun wq => ?_, ?_⟩
      · unfold plainAt
        go_simp
        first | exact rfl | exact ⟨rfl, rfl⟩
      go_simp
      refine wpG_pe rfl rfl ?_
      apply Exists.intro
      refine ⟨fun wq => ?_, ?_⟩
      · unfold plainAt
        go_simp
        first | exact rfl | exact ⟨rfl, rfl⟩
      go_simp
      refine wpG_pe rfl rfl ?_
      apply Exists.intro
      refine ⟨fun wq => ?_, ?_⟩
      · unfold plainAt
        go_simp
        first | exact rfl | exact ⟨rfl, rfl⟩
      go_simp
      refine wpG_pe rfl rfl ?_
      apply Exists.intro
      refine ⟨fun wq => ?_, ?_⟩
      · unfold plainAt
        go_simp
        first | exact rfl | exact ⟨rfl, rfl⟩
      go_simp
      refine wpG_s rfl rfl ?_
      intro ws gs0 K hK
      have gs : Gr _ ws := GF.out.trans gs0
      refine wp_store_row 24 (.tmp 6) (.tmp 75) rfl (w.heap.size + 1) #[u0, u1, u2, u3, u4, u5, u6, .slice A m c] rfl rfl 24 z8 (BY.out.mono gs) opSize rfl h1 ?_
      refine hK _ _ ?_
      clear hK
      obtain ⟨wt, hwt⟩ : ∃ wt, wt = ws.setRow (w.heap.size + 1) #[u0, u1, u2, u3, u4, u5, u6, .slice A m c] := ⟨_, rfl⟩
      have HN : Hid (wt.heap[w.heap.size + 1]? = some (.cells #[u0, u1, u2, u3, u4, u5, u6, .slice A m c] 24 (0, 0))) := by rw [hwt]; exact setRow_heap ws _ _ _ _ _ (BY.out.mono gs)
      have GT : Hid (Tch (fun q => q = w.heap.size ∨ q = w.heap.size + 1) (w.alloc (.cells #[u0, u1, u2, u3, u4, u5, u6, u7] 24)) wt) := by rw [hwt]; exact ((TC.out.mono (fun _ _ e => .inl e)).trans (Tch.gr gs)).trans (Tch.row ws _ _ (.inr rfl))
      have GTR : Hid (Tch (fun q => q = w.heap.size + 1) ws wt) := by rw [hwt]; exact Tch.row ws _ _ rfl
      go_simp
      rw [← hwt]
      clear hwt
      refine wpG_pe rfl rfl ?_
      apply Exists.intro
      refine ⟨fun wq => ?_, ?_⟩
      · unfold plainAt
        go_simp
        first | exact rfl | exact ⟨rfl, rfl⟩
      go_simp
      refine wpG_nil ?_
      intro we ge
      go_wp2_with fail
      have HNE : we.heap[w.heap.size + 1]? = some (.cells #[u0, u1, u2, u3, u4, u5, u6, .slice A m c] 24 (0, 0)) := (ge.block _ (Array.getElem?_eq_some_iff.1 HN.out).1).trans HN.out
      have GE : Gr w we := (Tch.below (Gr.alloc w _) GT.out (by simp) (fun q e => by rcases e with e | e <;> omega)).trans (ge.mono (by have := GT.out.size; simp at this; omega))
      exact bodyPost_ret (results_op Tryz.results63 _ _ (w.heap.size + 1) _ _ rfl HNE rfl) rfl ⟨A, m, c, by rw [hfs, hs0]; rfl, (HSF.out _ ((Tch.gr gs).trans GTR.out)).mono ge, GE, fun b q e => by have := HFR.out b q e; omega⟩
    | true =>
      refine wp_region_grow (by kernel_rfl) [0, 0, 0, 6, 0, 30, 62, 126, 254, 510, 127, 2047] [.p 2, .p 4, .q 0, .q 1, .c 3, .p 5, .p 6, .p 7, .p 8, .p 9, .s 10, .p 11] (by kernel_rfl) (trivial) ?_
      refine wpG_pe rfl rfl ?_
      apply Exists.intro
      refine ⟨fun wq => ?_, ?_⟩
      · unfold plainAt
        go_simp
        first | exact rfl | exact ⟨rfl, rfl⟩
      go_simp
      refine wpG_pe rfl rfl ?_
      apply Exists.intro
      refine ⟨fun wq => ?_, ?_⟩
      · unfold plainAt
        go_simp
        first | exact rfl | exact ⟨rfl, rfl⟩
      go_simp
      refine wpG_qe rfl rfl ?_
      apply Exists.intro
      refine ⟨fun wq hq => ?_, ?_⟩
      · have d0 := HC8.out wq hq 0 _ rfl; have d1 := HC8.out wq hq 1 _ rfl; have d2 := HC8.out wq hq 2 _ rfl; have d3 := HC8.out wq hq 3 _ rfl; have d4 := HC8.out wq hq 4 _ rfl; have d5 := HC8.out wq hq 5 _ rfl; have d6 := HC8.out wq hq 6 _ rfl; have d7 := HC8.out wq hq 7 _ rfl
        unfold plainAt
        go_simp
        first | exact rfl | exact ⟨rfl, rfl⟩
      go_simp
      refine wpG_qe rfl rfl ?_
      apply Exists.intro
      refine ⟨fun wq hq => ?_, ?_⟩
      · have d0 := HC8.out wq hq 0 _ rfl; have d1 := HC8.out wq hq 1 _ rfl; have d2 := HC8.out wq hq 2 _ rfl; have d3 := HC8.out wq hq 3 _ rfl; have d4 := HC8.out wq hq 4 _ rfl; have d5 := HC8.out wq hq 5 _ rfl; have d6 := HC8.out wq hq 6 _ rfl; have d7 := HC8.out wq hq 7 _ rfl
        unfold plainAt
        go_simp
        first | exact rfl | exact ⟨rfl, rfl⟩
      go_simp
      refine wpG_c rfl rfl ?_
      intro wc gc K hK
      go_simp
      go_at_call 76
      refine (HFW.out wc gc).mono ?_
      rintro e wn ⟨rfl, gf⟩
      refine hK _ _ gf ?_; have GF := Lib.hid (gc.trans gf); clear gc gf hK
      go_simp
      refine wpG_pe rfl rfl ?_
      apply Exists.intro
      refine ⟨fun wq => ?_, ?_⟩
      · unfold plainAt
        go_simp
        first | exact rfl | exact ⟨rfl, rfl⟩
      go_simp
      refine wpG_pe rfl rfl ?_
      apply Exists.intro
      refine ⟨fun wq => ?_, ?_⟩
      · unfold plainAt
        go_simp
        first | exact rfl | exact ⟨rfl, rfl⟩
      go_simp
      refine wpG_pe rfl rfl ?_
      apply Exists.intro
      refine ⟨fun wq => ?_, ?_⟩
      · unfold plainAt
        go_simp
        first | exact rfl | exact ⟨rfl, rfl⟩
      go_simp
      refine wpG_pe rfl rfl ?_
      apply Exists.intro
      refine ⟨fun wq => ?_, ?_⟩
      · unfold plainAt
        go_simp
        first | exact rfl | exact ⟨rfl, rfl⟩
      go_simp
      refine wpG_pe rfl rfl ?_
      apply Exists.intro
      refine ⟨fun wq => ?_, ?_⟩
      · unfold plainAt
        go_simp
        first | exact rfl | exact ⟨rfl, rfl⟩
      go_simp
      refine wpG_s rfl rfl ?_
      intro ws gs0 K hK
      have gs : Gr _ ws := GF.out.trans gs0
      refine wp_store_row 24 (.tmp 6) (.tmp 75) rfl (w.heap.size + 1) #[u0, u1, u2, u3, u4, u5, u6, .slice A m c] rfl rfl 24 z8 (BY.out.mono gs) opSize rfl h1 ?_
      refine hK _ _ ?_
      clear hK
      obtain ⟨wt, hwt⟩ : ∃ wt, wt = ws.setRow (w.heap.size + 1) #[u0, u1, u2, u3, u4, u5, u6, .slice A m c] := ⟨_, rfl⟩
      have HN : Hid (wt.heap[w.heap.size + 1]? = some (.cells #[u0, u1, u2, u3, u4, u5, u6, .slice A m c] 24 (0, 0))) := by rw [hwt]; exact setRow_heap ws _ _ _ _ _ (BY.out.mono gs)
      have GT : Hid (Tch (fun q => q = w.heap.size ∨ q = w.heap.size + 1) (w.alloc (.cells #[u0, u1, u2, u3, u4, u5, u6, u7] 24)) wt) := by rw [hwt]; exact ((TC.out.mono (fun _ _ e => .inl e)).trans (Tch.gr gs)).trans (Tch.row ws _ _ (.inr rfl))
      have GTR : Hid (Tch (fun q => q = w.heap.size + 1) ws wt) := by rw [hwt]; exact Tch.row ws _ _ rfl
      go_simp
      rw [← hwt]
      clear hwt
      refine wpG_pe rfl rfl ?_
      apply Exists.intro
      refine ⟨fun wq => ?_, ?_⟩
      · unfold plainAt
        go_simp
        first | exact rfl | exact ⟨rfl, rfl⟩
      go_simp
      refine wpG_nil ?_
      intro we ge
      go_wp2_with fail
      have HNE : we.heap[w.heap.size + 1]? = some (.cells #[u0, u1, u2, u3, u4, u5, u6, .slice A m c] 24 (0, 0)) := (ge.block _ (Array.getElem?_eq_some_iff.1 HN.out).1).trans HN.out
      have GE : Gr w we := (Tch.below (Gr.alloc w _) GT.out (by simp) (fun q e => by rcases e with e | e <;> omega)).trans (ge.mono (by have := GT.out.size; simp at this; omega))
      exact bodyPost_ret (results_op Tryz.results63 _ _ (w.heap.size + 1) _ _ rfl HNE rfl) rfl ⟨A, m, c, by rw [hfs, hs0]; rfl, (HSF.out _ ((Tch.gr gs).trans GTR.out)).mono ge, GE, fun b q e => by have := HFR.out b q e; omega⟩
end Go.Proofs.YtadenlhnfkccaaaGreatDoor
