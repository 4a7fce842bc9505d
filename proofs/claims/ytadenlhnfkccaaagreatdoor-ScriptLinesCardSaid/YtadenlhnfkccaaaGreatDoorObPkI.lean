/- Own texts of this claim, one behind the other. No condition. -/
import Derived.Test.YtadenlhnfkccaaaGreatDoorObPkC
import Derived.Test.YtadenlhnfkccaaaGreatDoorObPkF
import Derived.Test.YtadenlhnfkccaaaGreatDoorObPkH
import Derived.Outline

/- ObOpW, ObOpX: one text. No condition. -/
/- Operations as lines: the reference's reading of what is said. No condition. -/
namespace Go.Proofs.YtadenlhnfkccaaaGreatDoor
open Go.RowKit
set_option linter.unusedVariables false
set_option linter.unusedSimpArgs false
/-- What the loop over what is said has left. -/
def sayU (k : Nat) (l : List UInt8) (u : Value) : Value := if 1 < k ∧ l = wAcc then .int .i64 1 else if 2 < k ∧ l = wOth then .int .i64 2 else if 3 < k ∧ l = wNot then .int .i64 3 else u
theorem sayU_end (l : List UInt8) (d : Int) : sayU 4 l (.int .i64 d) = .int .i64 (sayN d l) := by
  unfold sayU sayN
  by_cases h1 : l = wAcc
  · rw [if_pos ⟨by omega, h1⟩, if_pos h1]
  · rw [if_neg (fun h => h1 h.2), if_neg h1]
    by_cases h2 : l = wOth
    · rw [if_pos ⟨by omega, h2⟩, if_pos h2]
    · rw [if_neg (fun h => h2 h.2), if_neg h2]
      by_cases h3 : l = wNot
      · rw [if_pos ⟨by omega, h3⟩, if_pos h3]
      · rw [if_neg (fun h => h3 h.2), if_neg h3]
theorem sayU_hit {k : Nat} {l : List UInt8} (u : Value) (h1 : 1 ≤ k) (h3 : k ≤ 3) (h : sayT (k : Int) = l) : sayU (k + 1) l u = .int .i64 (k : Int) := by
  subst h
  rcases show k = 1 ∨ k = 2 ∨ k = 3 by omega with rfl | rfl | rfl <;> rfl
theorem sayU_miss {k : Nat} {l : List UInt8} (u : Value) (h1 : 1 ≤ k) (h3 : k ≤ 3) (h : ¬ sayT (k : Int) = l) : sayU (k + 1) l u = sayU k l u := by
  have ne : ∀ {a : List UInt8}, ¬ a = l → ¬ l = a := fun h e => h e.symm
  rcases show k = 1 ∨ k = 2 ∨ k = 3 by omega with rfl | rfl | rfl
  · have h : ¬ wAcc = l := h
    simp [sayU, ne h]
  · have h : ¬ wOth = l := h
    simp [sayU, ne h]
  · have h : ¬ wNot = l := h
    simp [sayU, ne h]
set_option maxRecDepth 100000 in
set_option maxHeartbeats 4000000 in
theorem withV_raw (u0 u1 u2 u3 u4 u5 u6 u7 : Value) (s f : ByteArray) (l : List UInt8) (pn pf : Int) (w : World) (hsl : s.toList = l) (h1 : (#[u0, u1, u2, u3, u4, u5, sayU 4 l u6, u7] : Array Value).all (·.oneCell') = true)
    (HPA : Hid (∀ wr, Calls Tryz.prog 64 #[.string s, .int .i64 1073741824] wr fun e w' => e = .returned (.tuple #[.int .i64 pn, .int .i64 pf]) ∧ Gr wr w'))
    (HF : Hid (∀ wr, Tch (fun q => q = w.heap.size) (w.alloc (.cells #[u0, u1, u2, u3, u4, u5, u6, u7] 24)) wr → Calls Tryz.prog 76 #[.agg #[u0, u1, u2, u3, u4, u5, sayU 4 l u6, u7], .int .u8 118] wr fun e w' => e = .returned (.string f) ∧ Gr wr w')) :
    Calls Tryz.prog 63 #[.agg #[u0, u1, u2, u3, u4, u5, u6, u7], .int .u8 118, .string s] w fun e w' => e = .returned (.tuple #[.agg #[u0, u1, u2, u3, u4, u5, sayU 4 l u6, u7], .bool (f.toList == s.toList && !(s.toList == []))]) ∧ Gr w w' := by
  have HSD : Hid (∀ (k : Nat) wr, Calls Tryz.prog 85 #[.int .i64 (k : Int)] wr fun e w' => e = .returned (strc (sayT (k : Int))) ∧ Gr wr w') := fun k wr => refSaid_any k wr
  have HSL := Lib.hid hsl; clear hsl
  go_enter Tryz.func63, Tryz.ntmps63
  go_wp2_with fail
  refine (HPA.out _).mono ?_
  rintro e w1 ⟨rfl, g1⟩
  have B1 : Hid (Blk w1 w.heap.size 24 [u0, u1, u2, u3, u4, u5, sayU 1 l u6, u7]) := by
    have : sayU 1 l u6 = u6 := by unfold sayU; rw [if_neg (by omega), if_neg (by omega), if_neg (by omega)]
    rw [this]
    exact ((Blk.new w 24 #[u0, u1, u2, u3, u4, u5, u6, u7]).mono (Gr.alloc _ _)).mono g1
  have BY1 : Hid (Blk w1 (w.heap.size + 1) 24 z8.toList) := by
    have := (Blk.new (w.alloc (.cells #[u0, u1, u2, u3, u4, u5, u6, u7] 24)) 24 z8).mono g1
    show Blk _ _ _ _
    simpa using this
  have TC1 : Hid (Tch (fun q => q = w.heap.size) (w.alloc (.cells #[u0, u1, u2, u3, u4, u5, u6, u7] 24)) w1) := Tch.gr ((Gr.alloc _ _).trans g1)
  clear g1
  go_wp2_with fail
  go_loopw [10] (fun i wr => ∃ k : Nat, 1 ≤ k ∧ k ≤ 4 ∧ i = .int .i64 k ∧ Blk wr w.heap.size 24 [u0, u1, u2, u3, u4, u5, sayU k l u6, u7] ∧ Blk wr (w.heap.size + 1) 24 z8.toList ∧ Tch (fun q => q = w.heap.size) (w.alloc (.cells #[u0, u1, u2, u3, u4, u5, u6, u7] 24)) wr) (fun i _ => 4 - (intOf i).toNat)
  case atStart => exact ⟨1, by omega, by omega, rfl, B1.out, BY1.out, TC1.out⟩
  case round =>
    obtain ⟨k, hk1, hk4, rfl, bx, by', tc⟩ := hrel
    by_cases hlt : k ≤ 3
    · have t1 : decide ((k : Int) ≤ 3) = true := decide_eq_true (by omega)
      have HHIT := Lib.hid (fun h => sayU_hit (l := l) u6 hk1 hlt h)
      have HMIS := Lib.hid (fun h => sayU_miss (l := l) u6 hk1 hlt h)
      have HSK := Lib.hid (HSD.out k wr)
      obtain ⟨x, hx⟩ : ∃ x : ByteArray, x = ⟨(sayT (k : Int)).toArray⟩ := ⟨_, rfl⟩
      have hxs : strc (sayT (k : Int)) = .string x := by rw [hx]; rfl
      have hxl : x.toList = sayT (k : Int) := by rw [hx, ByteArray.toList_eq]
      rw [hxs] at HSK
      rw [← hxl] at HHIT HMIS
      clear hx hxs hxl
      have HBX := Lib.hid bx; have HBY := Lib.hid by'; have HTC := Lib.hid tc
      clear bx by' tc
      by_cases he : x.toList = l
      · have t2 : (x.toList == s.toList) = true := by rw [HSL.out, he]; simp
        have HV := Lib.hid (HHIT.out he)
        clear he
        go_wp2_with fail
        refine HSK.out.mono ?_
        rintro e w2 ⟨rfl, g2⟩
        have b2 := HBX.out.mono g2
        have c6 : w2.cell? ⟨w.heap.size, 6, none⟩ = some (sayU k l u6) := by rw [b2.cell]; rfl
        have f6 := b2.free 6
        have BX3 : Hid (Blk (w2.setCell ⟨w.heap.size, 6, none⟩ (.int .i64 (k : Int))) w.heap.size 24 [u0, u1, u2, u3, u4, u5, sayU (k + 1) l u6, u7]) := by
          rw [HV.out]; exact b2.set 6 (.int .i64 (k : Int))
        have BY3 : Hid (Blk (w2.setCell ⟨w.heap.size, 6, none⟩ (.int .i64 (k : Int))) (w.heap.size + 1) 24 z8.toList) := (HBY.out.mono g2).far (p := ⟨w.heap.size, 6, none⟩) (by simp) _
        have TC3 : Hid (Tch (fun q => q = w.heap.size) (w.alloc (.cells #[u0, u1, u2, u3, u4, u5, u6, u7] 24)) (w2.setCell ⟨w.heap.size, 6, none⟩ (.int .i64 (k : Int)))) := (HTC.out.trans (Tch.gr g2)).trans (Tch.set ⟨w.heap.size, 6, none⟩ _ rfl)
        clear b2 g2
        go_wp2_with fail
        go_roundw
        case rel => exact ⟨k + 1, by omega, by omega, by first | trivial | go_num, BX3.out, BY3.out, TC3.out⟩
        case measure =>
          show 4 - ((k : Int) + 1).toNat < 4 - (k : Int).toNat
          omega
      · have t2 : (x.toList == s.toList) = false := by rw [HSL.out]; exact beq_eq_false_iff_ne.2 he
        have HV := Lib.hid (HMIS.out he)
        clear he
        go_wp2_with fail
        refine HSK.out.mono ?_
        rintro e w2 ⟨rfl, g2⟩
        have BX3 : Hid (Blk w2 w.heap.size 24 [u0, u1, u2, u3, u4, u5, sayU (k + 1) l u6, u7]) := by rw [HV.out]; exact HBX.out.mono g2
        have BY3 := Lib.hid (HBY.out.mono g2)
        have TC3 := Lib.hid (HTC.out.trans (Tch.gr g2))
        clear g2
        go_wp2_with fail
        go_roundw
        case rel => exact ⟨k + 1, by omega, by omega, by first | trivial | go_num, BX3.out, BY3.out, TC3.out⟩
        case measure =>
          show 4 - ((k : Int) + 1).toNat < 4 - (k : Int).toNat
          omega
    · obtain rfl : k = 4 := by omega
      have t1 : decide (((4 : Nat) : Int) ≤ 3) = false := by decide
      have HC8 := Lib.hid fun wq (g : Gr wr.drew wq) (j : Nat) (v : Value) (h : ([u0, u1, u2, u3, u4, u5, sayU 4 l u6, u7] : List Value)[j]? = some v) => ((bx.mono ((Gr.drew wr).trans g)).cell j).trans h
      have TC := Lib.hid (tc.trans (Tch.gr (Gr.drew wr)))
      have BY := Lib.hid by'.drew
      have HFW := Lib.hid fun wq (g : Gr wr.drew wq) => HF.out wq (TC.out.trans (Tch.gr g))
      clear bx by' tc B1 BY1 TC1
      go_wp2_with fail
      cases hfs : (f.toList == s.toList) with
      | false =>
        refine wp_region_grow (by kernel_rfl) [0, 0, 0, 6, 0, 30, 62, 126, 254, 510, 127, 2047] [.p 2, .p 4, .q 0, .q 1, .c 3, .p 5, .p 6, .p 7, .p 8, .p 9, .s 10, .p 11] (by kernel_rfl) (trivial) ?_
        refine wpG_pe rfl rfl ?_
        apply Exists.intro
        refine ⟨fun wq => ?_, ?_⟩
        · unfold plainAt
          go_simp
          first | exact rfl | exact ⟨rfl, rfl⟩
        go_simp
        refine wpG_pe rfl rfl ?_
        apply Exists.intro
        refine ⟨fun wq => ?_, ?_⟩
        · unfold plainAt
          go_simp
          first | exact rfl | exact ⟨rfl, rfl⟩
        go_simp
        refine wpG_qe rfl rfl ?_
        apply Exists.intro
        refine ⟨fun wq hq => ?_, ?_⟩
        · have d0 := HC8.out wq hq 0 _ rfl; have d1 := HC8.out wq hq 1 _ rfl; have d2 := HC8.out wq hq 2 _ rfl; have d3 := HC8.out wq hq 3 _ rfl; have d4 := HC8.out wq hq 4 _ rfl; have d5 := HC8.out wq hq 5 _ rfl; have d6 := HC8.out wq hq 6 _ rfl; have d7 := HC8.out wq hq 7 _ rfl
          unfold plainAt
          go_simp
          first | exact rfl | exact ⟨rfl, rfl⟩
        go_simp
        refine wpG_qe rfl rfl ?_
        apply Exists.intro
        refine ⟨fun wq hq => ?_, ?_⟩
        · have d0 := HC8.out wq hq 0 _ rfl; have d1 := HC8.out wq hq 1 _ rfl; have d2 := HC8.out wq hq 2 _ rfl; have d3 := HC8.out wq hq 3 _ rfl; have d4 := HC8.out wq hq 4 _ rfl; have d5 := HC8.out wq hq 5 _ rfl; have d6 := HC8.out wq hq 6 _ rfl; have d7 := HC8.out wq hq 7 _ rfl
          unfold plainAt
          go_simp
          first | exact rfl | exact ⟨rfl, rfl⟩
        go_simp
        refine wpG_c rfl rfl ?_
        intro wc gc K hK
        go_simp
        go_at_call 76
        refine (HFW.out wc gc).mono ?_
        rintro e wn ⟨rfl, gf⟩
        refine hK _ _ gf ?_; have GF := Lib.hid (gc.trans gf); clear gc gf hK
        go_simp
        refine wpG_pe rfl rfl ?_
        apply Exists.intro
        refine ⟨fun wq => ?_, ?_⟩
        · unfold plainAt
          go_simp
          first | exact rfl | exact ⟨rfl, rfl⟩
        go_simp
        refine wpG_pe rfl rfl ?_
        apply Exists.intro
        refine ⟨fun wq => ?_, ?_⟩
        · unfold plainAt
          go_simp
          first | exact rfl | exact ⟨rfl, rfl⟩
        go_simp
        first | refine wpG_skip_p rfl rfl ?_ | refine wpG_skip_q rfl rfl ?_ | refine wpG_skip_c rfl rfl ?_
        go_simp
        first | refine wpG_skip_p rfl rfl ?_ | refine wpG_skip_q rfl rfl ?_ | refine wpG_skip_c rfl rfl ?_
        go_simp
        refine wpG_pe rfl rfl ?_
        apply Exists.intro
        refine ⟨fun wq => ?_, ?_⟩
        · unfold plainAt
          go_simp
          first | exact rfl | exact ⟨rfl, rfl⟩
        go_simp
        refine wpG_s rfl rfl ?_
        intro ws gs0 K hK
        have gs : Gr _ ws := GF.out.trans gs0
        refine wp_store_row 24 (.tmp 6) (.tmp 75) rfl (w.heap.size + 1) #[u0, u1, u2, u3, u4, u5, sayU 4 l u6, u7] rfl rfl 24 z8 (BY.out.mono gs) opSize rfl h1 ?_
        refine hK _ _ ?_
        clear hK
        obtain ⟨wt, hwt⟩ : ∃ wt, wt = ws.setRow (w.heap.size + 1) #[u0, u1, u2, u3, u4, u5, sayU 4 l u6, u7] := ⟨_, rfl⟩
        have HN : Hid (wt.heap[w.heap.size + 1]? = some (.cells #[u0, u1, u2, u3, u4, u5, sayU 4 l u6, u7] 24 (0, 0))) := by rw [hwt]; exact setRow_heap ws _ _ _ _ _ (BY.out.mono gs)
        have GT : Hid (Tch (fun q => q = w.heap.size ∨ q = w.heap.size + 1) (w.alloc (.cells #[u0, u1, u2, u3, u4, u5, u6, u7] 24)) wt) := by rw [hwt]; exact ((TC.out.mono (fun _ _ e => .inl e)).trans (Tch.gr gs)).trans (Tch.row ws _ _ (.inr rfl))
        go_simp
        rw [← hwt]
        clear hwt
        refine wpG_pe rfl rfl ?_
        apply Exists.intro
        refine ⟨fun wq => ?_, ?_⟩
        · unfold plainAt
          go_simp
          first | exact rfl | exact ⟨rfl, rfl⟩
        go_simp
        refine wpG_nil ?_
        intro we ge
        go_wp2_with fail
        have HNE : we.heap[w.heap.size + 1]? = some (.cells #[u0, u1, u2, u3, u4, u5, sayU 4 l u6, u7] 24 (0, 0)) := (ge.block _ (Array.getElem?_eq_some_iff.1 HN.out).1).trans HN.out
        have GE : Gr w we := (Tch.below (Gr.alloc w _) GT.out (by simp) (fun q e => by rcases e with e | e <;> omega)).trans (ge.mono (by have := GT.out.size; simp at this; omega))
        exact bodyPost_ret (results_op Tryz.results63 _ _ (w.heap.size + 1) _ _ rfl HNE rfl) rfl ⟨by rw [hfs]; rfl, GE⟩
      | true =>
        cases hs0 : (s.toList == []) with
        | false =>
          refine wp_region_grow (by kernel_rfl) [0, 0, 0, 6, 0, 30, 62, 126, 254, 510, 127, 2047] [.p 2, .p 4, .q 0, .q 1, .c 3, .p 5, .p 6, .p 7, .p 8, .p 9, .s 10, .p 11] (by kernel_rfl) (trivial) ?_
          refine wpG_pe rfl rfl ?_
          apply Exists.intro
          refine ⟨fun wq => ?_, ?_⟩
          · unfold plainAt
            go_simp
            first | exact rfl | exact ⟨rfl, rfl⟩
          go_simp
          refine wpG_pe rfl rfl ?_
          apply Exists.intro
          refine ⟨fun wq => ?_, ?_⟩
          · unfold plainAt
            go_simp
            first | exact rfl | exact ⟨rfl, rfl⟩
          go_simp
          refine wpG_qe rfl rfl ?_
          apply Exists.intro
          refine ⟨fun wq hq => ?_, ?_⟩
          · have d0 := HC8.out wq hq 0 _ rfl; have d1 := HC8.out wq hq 1 _ rfl; have d2 := HC8.out wq hq 2 _ rfl; have d3 := HC8.out wq hq 3 _ rfl; have d4 := HC8.out wq hq 4 _ rfl; have d5 := HC8.out wq hq 5 _ rfl; have d6 := HC8.out wq hq 6 _ rfl; have d7 := HC8.out wq hq 7 _ rfl
            unfold plainAt
            go_simp
            first | exact rfl | exact ⟨rfl, rfl⟩
          go_simp
          refine wpG_qe rfl rfl ?_
          apply Exists.intro
          refine ⟨fun wq hq => ?_, ?_⟩
          · have d0 := HC8.out wq hq 0 _ rfl; have d1 := HC8.out wq hq 1 _ rfl; have d2 := HC8.out wq hq 2 _ rfl; have d3 := HC8.out wq hq 3 _ rfl; have d4 := HC8.out wq hq 4 _ rfl; have d5 := HC8.out wq hq 5 _ rfl; have d6 := HC8.out wq hq 6 _ rfl; have d7 := HC8.out wq hq 7 _ rfl
            unfold plainAt
            go_simp
            first | exact rfl | exact ⟨rfl, rfl⟩
          go_simp
          refine wpG_c rfl rfl ?_
          intro wc gc K hK
          go_simp
          go_at_call 76
          refine (HFW.out wc gc).mono ?_
          rintro e wn ⟨rfl, gf⟩
          refine hK _ _ gf ?_; have GF := Lib.hid (gc.trans gf); clear gc gf hK
          go_simp
          refine wpG_pe rfl rfl ?_
          apply Exists.intro
          refine ⟨fun wq => ?_, ?_⟩
          · unfold plainAt
            go_simp
            first | exact rfl | exact ⟨rfl, rfl⟩
          go_simp
          refine wpG_pe rfl rfl ?_
          apply Exists.intro
          refine ⟨fun wq => ?_, ?_⟩
          · unfold plainAt
            go_simp
            first | exact rfl | exact ⟨rfl, rfl⟩
          go_simp
          refine wpG_pe rfl rfl ?_
          apply Exists.intro
          refine ⟨fun wq => ?_, ?_⟩
          · unfold plainAt
            go_simp
            first | exact rfl | exact ⟨rfl, rfl⟩
          go_simp
          refine wpG_pe rfl rfl ?_
          apply Exists.intro
          refine ⟨fun wq => ?_, ?_⟩
          · unfold plainAt
            go_simp
            first | exact rfl | exact ⟨rfl, rfl⟩
          go_simp
          refine wpG_pe rfl rfl ?_
          apply Exists.intro
          refine ⟨fun wq => ?_, ?_⟩
          · unfold plainAt
            go_simp
            first | exact rfl | exact ⟨rfl, rfl⟩
          go_simp
          refine wpG_s rfl rfl ?_
          intro ws gs0 K hK
          have gs : Gr _ ws := GF.out.trans gs0
          refine wp_store_row 24 (.tmp 6) (.tmp 75) rfl (w.heap.size + 1) #[u0, u1, u2, u3, u4, u5, sayU 4 l u6, u7] rfl rfl 24 z8 (BY.out.mono gs) opSize rfl h1 ?_
          refine hK _ _ ?_
          clear hK
          obtain ⟨wt, hwt⟩ : ∃ wt, wt = ws.setRow (w.heap.size + 1) #[u0, u1, u2, u3, u4, u5, sayU 4 l u6, u7] := ⟨_, rfl⟩
          have HN : Hid (wt.heap[w.heap.size + 1]? = some (.cells #[u0, u1, u2, u3, u4, u5, sayU 4 l u6, u7] 24 (0, 0))) := by rw [hwt]; exact setRow_heap ws _ _ _ _ _ (BY.out.mono gs)
          have GT : Hid (Tch (fun q => q = w.heap.size ∨ q = w.heap.size + 1) (w.alloc (.cells #[u0, u1, u2, u3, u4, u5, u6, u7] 24)) wt) := by rw [hwt]; exact ((TC.out.mono (fun _ _ e => .inl e)).trans (Tch.gr gs)).trans (Tch.row ws _ _ (.inr rfl))
          go_simp
          rw [← hwt]
          clear hwt
          refine wpG_pe rfl rfl ?_
          apply Exists.intro
          refine ⟨fun wq => ?_, ?_⟩
          · unfold plainAt
            go_simp
            first | exact rfl | exact ⟨rfl, rfl⟩
          go_simp
          refine wpG_nil ?_
          intro we ge
          go_wp2_with fail
          have HNE : we.heap[w.heap.size + 1]? = some (.cells #[u0, u1, u2, u3, u4, u5, sayU 4 l u6, u7] 24 (0, 0)) := (ge.block _ (Array.getElem?_eq_some_iff.1 HN.out).1).trans HN.out
          have GE : Gr w we := (Tch.below (Gr.alloc w _) GT.out (by simp) (fun q e => by rcases e with e | e <;> omega)).trans (ge.mono (by have := GT.out.size; simp at this; omega))
          exact bodyPost_ret (results_op Tryz.results63 _ _ (w.heap.size + 1) _ _ rfl HNE rfl) rfl ⟨by rw [hfs, hs0]; rfl, GE⟩
        | true =>
          refine wp_region_grow (by kernel_rfl) [0, 0, 0, 6, 0, 30, 62, 126, 254, 510, 127, 2047] [.p 2, .p 4, .q 0, .q 1, .c 3, .p 5, .p 6, .p 7, .p 8, .p 9, .s 10, .p 11] (by kernel_rfl) (trivial) ?_
          refine wpG_pe rfl rfl ?_
          apply Exists.intro
          refine ⟨fun wq => ?_, ?_⟩
          · unfold plainAt
            go_simp
            first | exact rfl | exact ⟨rfl, rfl⟩
          go_simp
          refine wpG_pe rfl rfl ?_
          apply Exists.intro
          refine ⟨fun wq => ?_, ?_⟩
          · unfold plainAt
            go_simp
            first | exact rfl | exact ⟨rfl, rfl⟩
          go_simp
          refine wpG_qe rfl rfl ?_
          apply Exists.intro
          refine ⟨fun wq hq => ?_, ?_⟩
          · have d0 := HC8.out wq hq 0 _ rfl; have d1 := HC8.out wq hq 1 _ rfl; have d2 := HC8.out wq hq 2 _ rfl; have d3 := HC8.out wq hq 3 _ rfl; have d4 := HC8.out wq hq 4 _ rfl; have d5 := HC8.out wq hq 5 _ rfl; have d6 := HC8.out wq hq 6 _ rfl; have d7 := HC8.out wq hq 7 _ rfl
            unfold plainAt
            go_simp
            first | exact rfl | exact ⟨rfl, rfl⟩
          go_simp
          refine wpG_qe rfl rfl ?_
          apply Exists.intro
          refine ⟨fun wq hq => ?_, ?_⟩
          · have d0 := HC8.out wq hq 0 _ rfl; have d1 := HC8.out wq hq 1 _ rfl; have d2 := HC8.out wq hq 2 _ rfl; have d3 := HC8.out wq hq 3 _ rfl; have d4 := HC8.out wq hq 4 _ rfl; have d5 := HC8.out wq hq 5 _ rfl; have d6 := HC8.out wq hq 6 _ rfl; have d7 := HC8.out wq hq 7 _ rfl
            unfold plainAt
            go_simp
            first | exact rfl | exact ⟨rfl, rfl⟩
          go_simp
          refine wpG_c rfl rfl ?_
          intro wc gc K hK
          go_simp
          go_at_call 76
          refine (HFW.out wc gc).mono ?_
          rintro e wn ⟨rfl, gf⟩
          refine hK _ _ gf ?_; have GF := Lib.hid (gc.trans gf); clear gc gf hK
          go_simp
          refine wpG_pe rfl rfl ?_
          apply Exists.intro
          refine ⟨fun wq => ?_, ?_⟩
          · unfold plainAt
            go_simp
            first | exact rfl | exact ⟨rfl, rfl⟩
          go_simp
          refine wpG_pe rfl rfl ?_
          apply Exists.intro
          refine ⟨fun wq => ?_, ?_⟩
          · unfold plainAt
            go_simp
            first | exact rfl | exact ⟨rfl, rfl⟩
          go_simp
          refine wpG_pe rfl rfl ?_
          apply Exists.intro
          refine ⟨fun wq => ?_, ?_⟩
          · unfold plainAt
            go_simp
            first | exact rfl | exact ⟨rfl, rfl⟩
          go_simp
          refine wpG_pe rfl rfl ?_
          apply Exists.intro
          refine ⟨fun wq => ?_, ?_⟩
          · unfold plainAt
            go_simp
            first | exact rfl | exact ⟨rfl, rfl⟩
          go_simp
          refine wpG_pe rfl rfl ?_
          apply Exists.intro
          refine ⟨fun wq => ?_, ?_⟩
          · unfold plainAt
            go_simp
            first | exact rfl | exact ⟨rfl, rfl⟩
          go_simp
          refine wpG_s rfl rfl ?_
          intro ws gs0 K hK
          have gs : Gr _ ws := GF.out.trans gs0
          refine wp_store_row 24 (.tmp 6) (.tmp 75) rfl (w.heap.size + 1) #[u0, u1, u2, u3, u4, u5, sayU 4 l u6, u7] rfl rfl 24 z8 (BY.out.mono gs) opSize rfl h1 ?_
          refine hK _ _ ?_
          clear hK
          obtain ⟨wt, hwt⟩ : ∃ wt, wt = ws.setRow (w.heap.size + 1) #[u0, u1, u2, u3, u4, u5, sayU 4 l u6, u7] := ⟨_, rfl⟩
          have HN : Hid (wt.heap[w.heap.size + 1]? = some (.cells #[u0, u1, u2, u3, u4, u5, sayU 4 l u6, u7] 24 (0, 0))) := by rw [hwt]; exact setRow_heap ws _ _ _ _ _ (BY.out.mono gs)
          have GT : Hid (Tch (fun q => q = w.heap.size ∨ q = w.heap.size + 1) (w.alloc (.cells #[u0, u1, u2, u3, u4, u5, u6, u7] 24)) wt) := by rw [hwt]; exact ((TC.out.mono (fun _ _ e => .inl e)).trans (Tch.gr gs)).trans (Tch.row ws _ _ (.inr rfl))
          go_simp
          rw [← hwt]
          clear hwt
          refine wpG_pe rfl rfl ?_
          apply Exists.intro
          refine ⟨fun wq => ?_, ?_⟩
          · unfold plainAt
            go_simp
            first | exact rfl | exact ⟨rfl, rfl⟩
          go_simp
          refine wpG_nil ?_
          intro we ge
          go_wp2_with fail
          have HNE : we.heap[w.heap.size + 1]? = some (.cells #[u0, u1, u2, u3, u4, u5, sayU 4 l u6, u7] 24 (0, 0)) := (ge.block _ (Array.getElem?_eq_some_iff.1 HN.out).1).trans HN.out
          have GE : Gr w we := (Tch.below (Gr.alloc w _) GT.out (by simp) (fun q e => by rcases e with e | e <;> omega)).trans (ge.mono (by have := GT.out.size; simp at this; omega))
          exact bodyPost_ret (results_op Tryz.results63 _ _ (w.heap.size + 1) _ _ rfl HNE rfl) rfl ⟨by rw [hfs, hs0]; rfl, GE⟩
end Go.Proofs.YtadenlhnfkccaaaGreatDoor
/- Operations as lines: the reference's reading of a word, joined. No condition. -/
namespace Go.Proofs.YtadenlhnfkccaaaGreatDoor
open Go.RowKit
set_option linter.unusedVariables false
set_option linter.unusedSimpArgs false
def RetW (w : World) (A0 : Option Addr) (o : OpD) (b : Bool) (e : Ending) (w' : World) : Prop := ∃ A m c, e = .returned (.tuple #[opV o A m c, .bool b]) ∧ Bs w' A m c o.x ∧ Gr w w' ∧ (A = A0 ∨ ∀ b q, A = some ⟨b, q, none⟩ → w.heap.size ≤ b)
theorem with_any (o : OpD) (A : Option Addr) (m c s : Nat) (l : List UInt8) (w : World) (ho : OpOk o) (hx : Bs w A m c o.x) (hl : l.length ≤ 100000) (hs : Sign s) :
    Calls Tryz.prog 63 #[opV o A m c, .int .u8 (s : Int), strc l] w (RetW w A (readD o.v o s l) (readB (readD o.v o s l) s l)) := by
  have hok := readD_ok (d := o.v) ho ho.v hl hs
  have HPA : Hid (∀ wr, Calls Tryz.prog 64 #[.string ⟨l.toArray⟩, .int .i64 1073741824] wr fun e w' => e = .returned (.tuple #[.int .i64 (parseN l 1073741824), .int .i64 (parseF l 1073741824)]) ∧ Gr wr w') := fun wr =>
    (refParse_any ⟨l.toArray⟩ l 1073741824 wr rfl (by rw [size_of']; omega)).mono fun e w' h => ⟨h.1, by obtain ⟨q, h2⟩ := h.2; rw [h2]; exact belowN (Gr.refl _) q⟩
  have hst : (⟨l.toArray⟩ : ByteArray).toList = l := by rw [ByteArray.toList_eq]
  have hsl : ∀ {wr}, Tch (fun q => q = w.heap.size) (w.alloc (.cells (opC o A m c) 24)) wr → Bs wr A m c o.x := fun t => Sl.tch (hx.mono (Gr.alloc w _)) (by decide) t (fun hn b q e h => by
    have h : b = w.heap.size := h
    have := Sl.lt hx (by decide) hn e
    omega)
  have hFb : ∀ f : List UInt8, ((⟨f.toArray⟩ : ByteArray).toList == (⟨l.toArray⟩ : ByteArray).toList && !((⟨l.toArray⟩ : ByteArray).toList == [])) = (!(l == []) && f == l) := fun f => by rw [hst, ByteArray.toList_eq, Bool.and_comm]
  rcases hs with rfl | rfl | rfl | rfl | rfl | rfl | rfl
  · refine (withG_raw _ _ _ _ _ _ _ _ ⟨l.toArray⟩ ⟨(fieldL (readD o.v o 103 l) 103).toArray⟩ _ _ w (opOne (readD o.v o 103 l) A m c) HPA (Lib.hid fun wr t => refField_any (readD o.v o 103 l) A m c 103 wr hok (hsl t) (by decide))).mono ?_
    rintro e w' ⟨rfl, g⟩
    exact ⟨A, m, c, by rw [hFb]; rfl, hx.mono g, g, .inl rfl⟩
  · refine (withI_raw _ _ _ _ _ _ _ _ ⟨l.toArray⟩ ⟨(fieldL (readD o.v o 105 l) 105).toArray⟩ _ _ w (opOne (readD o.v o 105 l) A m c) HPA (Lib.hid fun wr t => refField_any (readD o.v o 105 l) A m c 105 wr hok (hsl t) (by decide))).mono ?_
    rintro e w' ⟨rfl, g⟩
    exact ⟨A, m, c, by rw [hFb]; rfl, hx.mono g, g, .inl rfl⟩
  · refine (withE_raw _ _ _ _ _ _ _ _ ⟨l.toArray⟩ _ _ w (opOne (readD o.v o 101 l) A m c) HPA).mono ?_
    rintro e w' ⟨rfl, g⟩
    exact ⟨A, m, c, rfl, hx.mono g, g, .inl rfl⟩
  · refine (withS_raw _ _ _ _ _ _ _ _ ⟨l.toArray⟩ _ _ w (opOne (readD o.v o 115 l) A m c) HPA).mono ?_
    rintro e w' ⟨rfl, g⟩
    exact ⟨A, m, c, rfl, hx.mono g, g, .inl rfl⟩
  · refine (withN_raw _ _ _ _ _ _ _ _ ⟨l.toArray⟩ _ _ w (opOne (readD o.v o 110 l) A m c) HPA).mono ?_
    rintro e w' ⟨rfl, g⟩
    exact ⟨A, m, c, rfl, hx.mono g, g, .inl rfl⟩
  · have hv := sayU_end l o.v
    have h1 := opOne (readD o.v o 118 l) A m c
    have hf : Hid (∀ wr, Tch (fun q => q = w.heap.size) (w.alloc (.cells (opC o A m c) 24)) wr → Calls Tryz.prog 76 #[opV (readD o.v o 118 l) A m c, .int .u8 118] wr fun e w' => e = .returned (strc (fieldL (readD o.v o 118 l) 118)) ∧ Gr wr w') := fun wr t => refField_any (readD o.v o 118 l) A m c 118 wr hok (hsl t) (by decide)
    refine (withV_raw _ _ _ _ _ _ (.int .i64 o.v) _ ⟨l.toArray⟩ ⟨(fieldL (readD o.v o 118 l) 118).toArray⟩ l _ _ w hst (by rw [hv]; exact h1) HPA (Lib.hid (by rw [hv]; exact hf.out))).mono ?_
    rintro e w' ⟨rfl, g⟩
    exact ⟨A, m, c, by rw [hFb, hv]; rfl, hx.mono g, g, .inl rfl⟩
  · refine (withX_raw _ _ _ _ _ _ _ _ ⟨l.toArray⟩ ⟨(fieldL (readD o.v o 120 l) 120).toArray⟩ _ _ (hexR l) w (fun A m c => opOne (readD o.v o 120 l) A m c) HPA (Lib.hid fun wr => refHexParse_any l wr hl) (Lib.hid fun A m c wr hb => refField_x _ _ _ _ _ _ _ A m c wr (hexR l).1 hb hok.x)).mono ?_
    rintro e w' ⟨A', m', c', rfl, sl, g, fr⟩
    exact ⟨A', m', c', by rw [hFb]; rfl, sl, g, .inr fr⟩
end Go.Proofs.YtadenlhnfkccaaaGreatDoor

/- Texts cut at blanks, as the reference says. No condition. -/
namespace Go.Proofs.YtadenlhnfkccaaaGreatDoor
open Go.RowKit
set_option linter.unusedVariables false
set_option linter.unusedSimpArgs false
set_option maxHeartbeats 2000000 in
set_option maxRecDepth 100000 in
theorem split39_any (l : List UInt8) (w : World) (hl : l.length ≤ 100000) : Calls Tryz.prog 61 #[.string ⟨l.toArray⟩] w (RetWs w (cutL 32 l)) := by
  obtain ⟨s, hs⟩ : ∃ s : ByteArray, s = ⟨l.toArray⟩ := ⟨_, rfl⟩
  have hsz : s.size = l.length := by rw [hs]; exact size_of' l
  have HAT := Lib.hid (at_of l s hs)
  have HEX := Lib.hid (extract_one l s hs)
  rw [← hs]
  have HS := Lib.hid hs; clear hs
  have HSZ := Lib.hid hsz
  have hsl : s.size ≤ 100000 := by omega
  clear hsz
  go_enter Tryz.func61, Tryz.ntmps61
  go_wp2_with fail
  go_loopw [3, 4] (fun v i wr => ∃ (k n : Nat) (init : List (List UInt8)) (z : List UInt8), k ≤ s.size ∧ i = .int .i64 k ∧ n = init.length ∧ n ≤ k ∧ z.length ≤ k ∧ Own w wr 9 1 v (n + 1) ((init ++ [z]).map strc) ∧ cutL 32 (l.take k) = init ++ [z]) (fun _ i _ => s.size - (intOf i).toNat)
  case atStart => exact ⟨0, 0, [], [], Nat.zero_le _, rfl, rfl, Nat.le_refl _, Nat.le_refl _, (Blk.new w 9 #[strc []]).own (Nat.le_refl _) (Gr.alloc w _) rfl (by decide), by simp [cutL]⟩
  case round v0 i0 =>
    obtain ⟨k, n, init, z, hk, rfl, hn, hnk, hz, own, hp⟩ := hrel
    have HP := Lib.hid hp; clear hp
    have HN := Lib.hid hn; clear hn
    by_cases hlt : k < s.size
    · have hkl : k < l.length := by have := HSZ.out; omega
      have hat := HAT.out k hlt
      have hb0 : bAt l k = (l[k].toNat : Int) := by unfold bAt; rw [List.getD_eq_getElem?_getD, List.getElem?_eq_getElem hkl]; rfl
      rw [hb0] at hat
      clear hb0
      have hex := HEX.out k hkl
      have HST : Hid (cutL 32 (l.take (k + 1)) = pushC 32 (init ++ [z]) l[k]) := by
        show _ = _
        rw [List.take_succ_eq_append_getElem hkl, cut_snoc 32, HP.out]
      generalize l[k] = b at *
      by_cases hb : b = 32
      · subst hb
        have hat : ((s[k]'hlt).toNat : Int) = 32 := hat
        clear hex
        have HS2 : Hid (cutL 32 (l.take (k + 1)) = (init ++ [z]) ++ [[]]) := by show _ = _; rw [HST.out, push_here 32]
        have OW := Lib.hid own
        obtain ⟨A, c, rfl, sl⟩ := own.slice
        clear own sl
        go_wp2_with (at_builtin; go_loud (refine wpList_push rfl (.tmp 16) (.tmp 17) 68 rfl tWords rfl OW.out #[strc []] rfl rfl (strc_one []) (by omega) ?_); intro v5 w5 o5)
        have O5 : Hid (Own w w5 9 1 v5 (n + 1 + 1) (((init ++ [z]) ++ [[]]).map strc)) := by
          have e : ((init ++ [z]) ++ [([] : List UInt8)]).map strc = (init ++ [z]).map strc ++ [strc []] := by simp
          rw [e]
          exact o5
        clear o5
        go_roundw
        case rel => exact ⟨k + 1, n + 1, init ++ [z], [], by omega, by first | trivial | go_num, by simp [HN.out], by omega, Nat.zero_le _, O5.out, HS2.out⟩
        case measure =>
          show s.size - ((k : Int) + 1).toNat < s.size - (k : Int).toNat
          omega
      · have hne : ((b.toNat : Int) == 32) = false := beq_eq_false_iff_ne.2 (fun e => hb (UInt8.toNat_inj.1 (by show b.toNat = 32; omega)))
        have HS2 : Hid (cutL 32 (l.take (k + 1)) = init ++ [z ++ [b]]) := by show _ = _; rw [HST.out, push_else 32 _ _ _ hb]
        obtain ⟨g, cap, rest, rfl, hg, bk, hncap, hcap, hlen⟩ := own.opened (by omega)
        have BK := Lib.hid bk
        have OWN := Lib.hid own.below
        have HLN := Lib.hid hlen
        clear own bk hlen
        have hx : ((init ++ [z]).map strc ++ rest)[n]? = some (.string ⟨z.toArray⟩) := at_left (by rw [List.map_append, List.getElem?_append_right (by simp [HN.out])]; simp [HN.out, strc])
        have HX := Lib.hid hx; clear hx
        obtain ⟨zs, hzs⟩ : ∃ zs : ByteArray, zs = ⟨z.toArray⟩ := ⟨_, rfl⟩
        have hzz : zs.size = z.length := by rw [hzs]; exact size_of' z
        rw [← hzs] at HX
        have HZ : Hid (zs ++ s.extract k (k + 1) = ⟨(z ++ [b]).toArray⟩) := by show _ = _; rw [hzs, hex, ba_snoc]
        have hesz : (s.extract k (k + 1)).size = 1 := by rw [hex]; rfl
        clear hzs hex
        have wn : IntKind.i64.wrap (n : Int) = n := by rw [IntKind.wrap_i64]; omega
        have wk : IntKind.i64.wrap ((k : Int) + 1) = (k : Int) + 1 := by rw [IntKind.wrap_i64]; omega
        have n1 : (n : Int) < (n : Int) + 1 := by omega
        have k1 : (k : Int) ≤ (k : Int) + 1 := by omega
        have k2 : (k : Int) + 1 ≤ (s.size : Int) := by omega
        have k3 : ((k : Int) + 1).toNat = k + 1 := by omega
        go_upto_region 7 with fail
        refine wp_region_grow (by kernel_rfl) [0, 0, 2, 6, 0, 0, 32, 96, 240, 496, 0, 0, 0, 4096, 15360, 32752, 65535, 131071] [.p 0, .p 1, .p 2, .p 3, .p 4, .p 5, .p 6, .p 7, .p 8, .p 10, .p 11, .p 12, .p 13, .p 14, .q 9, .p 15, .p 16, .s 17] (by kernel_rfl) (trivial) ?_
        refine wpG_pe rfl rfl ?_
        apply Exists.intro
        refine ⟨fun wq => ?_, ?_⟩
        · unfold plainAt
          go_simp
          first | exact rfl | exact ⟨rfl, rfl⟩
        go_simp
        refine wpG_pe rfl rfl ?_
        apply Exists.intro
        refine ⟨fun wq => ?_, ?_⟩
        · unfold plainAt
          go_simp
          first | exact rfl | exact ⟨rfl, rfl⟩
        go_simp
        refine wpG_pe rfl rfl ?_
        apply Exists.intro
        refine ⟨fun wq => ?_, ?_⟩
        · unfold plainAt
          go_simp
          first | exact rfl | exact ⟨rfl, rfl⟩
        go_simp
        refine wpG_pe rfl rfl ?_
        apply Exists.intro
        refine ⟨fun wq => ?_, ?_⟩
        · unfold plainAt
          go_simp
          first | exact rfl | exact ⟨rfl, rfl⟩
        go_simp
        refine wpG_pe rfl rfl ?_
        apply Exists.intro
        refine ⟨fun wq => ?_, ?_⟩
        · unfold plainAt
          go_simp
          first | exact rfl | exact ⟨rfl, rfl⟩
        go_simp
        refine wpG_pe rfl rfl ?_
        apply Exists.intro
        refine ⟨fun wq => ?_, ?_⟩
        · unfold plainAt
          go_simp
          first | exact rfl | exact ⟨rfl, rfl⟩
        go_simp
        refine wpG_pe rfl rfl ?_
        apply Exists.intro
        refine ⟨fun wq => ?_, ?_⟩
        · unfold plainAt
          go_simp
          first | exact rfl | exact ⟨rfl, rfl⟩
        go_simp
        refine wpG_pe rfl rfl ?_
        apply Exists.intro
        refine ⟨fun wq => ?_, ?_⟩
        · unfold plainAt
          go_simp
          first | exact rfl | exact ⟨rfl, rfl⟩
        go_simp
        refine wpG_pe rfl rfl ?_
        apply Exists.intro
        refine ⟨fun wq => ?_, ?_⟩
        · unfold plainAt
          go_simp
          first | exact rfl | exact ⟨rfl, rfl⟩
        go_simp
        refine wpG_pe rfl rfl ?_
        apply Exists.intro
        refine ⟨fun wq => ?_, ?_⟩
        · unfold plainAt
          go_simp
          first | exact rfl | exact ⟨rfl, rfl⟩
        go_simp
        refine wpG_pe rfl rfl ?_
        apply Exists.intro
        refine ⟨fun wq => ?_, ?_⟩
        · unfold plainAt
          go_simp
          first | exact rfl | exact ⟨rfl, rfl⟩
        go_simp
        refine wpG_pe rfl rfl ?_
        apply Exists.intro
        refine ⟨fun wq => ?_, ?_⟩
        · unfold plainAt
          go_simp
          first | exact rfl | exact ⟨rfl, rfl⟩
        go_simp
        refine wpG_pe rfl rfl ?_
        apply Exists.intro
        refine ⟨fun wq => ?_, ?_⟩
        · unfold plainAt
          go_simp
          first | exact rfl | exact ⟨rfl, rfl⟩
        go_simp
        refine wpG_pe rfl rfl ?_
        apply Exists.intro
        refine ⟨fun wq => ?_, ?_⟩
        · unfold plainAt
          go_simp
          first | exact rfl | exact ⟨rfl, rfl⟩
        go_simp
        refine wpG_qe rfl rfl ?_
        apply Exists.intro
        refine ⟨fun wq hq => ?_, ?_⟩
        · have x0 := ((((Gr.drew _).trans hq).blk BK.out).cell n).trans HX.out
          unfold plainAt
          go_simp
          first | exact rfl | exact ⟨rfl, rfl⟩
        go_simp
        have zl : ¬ 9223372036854775807 < z.length + 1 := by omega
        refine wpG_pe rfl rfl ?_
        apply Exists.intro
        refine ⟨fun wq => ?_, ?_⟩
        · unfold plainAt
          go_simp
          first | exact rfl | exact ⟨rfl, rfl⟩
        go_simp
        refine wpG_pe rfl rfl ?_
        apply Exists.intro
        refine ⟨fun wq => ?_, ?_⟩
        · unfold plainAt
          go_simp
          first | exact rfl | exact ⟨rfl, rfl⟩
        go_simp
        refine wpG_s rfl rfl ?_
        intro w5 g5 K hK
        have B5 := Lib.hid (((Gr.drew _).trans g5).blk BK.out)
        have G5 := Lib.hid (OWN.out.trans (Below.mono ((Gr.drew _).trans g5) OWN.out.size))
        have x0 : w5.cell? ⟨g, n, none⟩ = some (.string zs) := (B5.out.cell n).trans HX.out
        have y0 := B5.out.free n
        have hl5 := B5.out.lt
        clear g5
        go_simp
        refine hK _ _ ?_
        clear hK x0 y0
        go_simp
        refine wpG_nil ?_
        intro w6 g6
        have b6 := g6.blk (B5.out.set n (.string (zs ++ s.extract k (k + 1))))
        have hst : ((init ++ [z]).map strc ++ rest).set n (.string (zs ++ s.extract k (k + 1))) = (init ++ [z ++ [b]]).map strc ++ rest := by
          rw [HZ.out]
          show _ = _
          rw [set_left _ _ _ _ (by simp [HN.out])]
          exact congrArg (· ++ rest) (set_last init z (z ++ [b]) n HN.out)
        rw [hst] at b6
        have G6 := (G5.out.setCell (p := ⟨g, n, none⟩) hg (.string (zs ++ s.extract k (k + 1)))).trans (Below.mono g6 (by have := G5.out.size; simp [World.setCell]; omega))
        have O6 := Lib.hid (Blk.closed (n := n + 1) (s := 1) b6 G6 hg hncap hcap (by have := HLN.out; simp at this ⊢; exact this) (by simp [HN.out]))
        clear b6 hst G6 g6
        go_wp2_with fail
        go_roundw
        case rel => exact ⟨k + 1, n, init, z ++ [b], by omega, by first | trivial | go_num, HN.out, by omega, by simp; omega, O6.out, HS2.out⟩
        case measure =>
          show s.size - ((k : Int) + 1).toNat < s.size - (k : Int).toNat
          omega
    · have hpe : k = l.length := by have := HSZ.out; omega
      have HE : Hid (cutL 32 l = init ++ [z]) := by
        have h := HP.out
        rwa [hpe, List.take_length] at h
      have OW := Lib.hid own; clear own
      go_wp2_with fail
      go_ret
      refine ⟨_, rfl, ?_⟩
      rw [HE.out, List.length_append, ← HN.out]
      exact OW.out
end Go.Proofs.YtadenlhnfkccaaaGreatDoor

/- Operations as lines: the reference's Parse. No condition. -/
namespace Go.Proofs.YtadenlhnfkccaaaGreatDoor
open Go.RowKit
set_option linter.unusedVariables false
set_option linter.unusedSimpArgs false
theorem form_one : ∀ j k : Fin 10, formW j.1 = formW k.1 → formW j.1 ≠ [] → j = k := by decide +kernel
theorem form_uniq {z : List UInt8} {j k : Nat} (hj : j < 10) (hk : k < 10) (h1 : isForm z j = true) (h2 : isForm z k = true) : j = k := by
  unfold isForm at h1 h2
  rw [Bool.and_eq_true, beq_iff_eq, Bool.not_eq_true', beq_eq_false_iff_ne] at h1 h2
  have := form_one ⟨j, hj⟩ ⟨k, hk⟩ (h1.1.trans h2.1.symm) h1.2
  exact congrArg Fin.val this
theorem kind_is {z : List UInt8} {k : Nat} (hk : k < 10) (h : isForm z k = true) : kindL z = k := kind_hit hk h fun j hj => by
  rw [Bool.eq_false_iff]
  intro h2
  have := form_uniq (by omega) hk h2 h
  omega
theorem kind_form {z : List UInt8} (h : kindL z < 10) : isForm z (kindL z) = true := by
  unfold kindL at h ⊢
  cases hf : (List.range 10).find? (fun k => formW k == z && !(formW k == [])) with
  | none => rw [hf] at h; simp at h
  | some k => exact List.find?_some hf
theorem signs_last : ∀ k s, s ∈ (formS k).dropLast → s ≠ 118 := by
  intro k s h
  match k, h with
  | 0, h => simp [formS] at h
  | 1, h | 2, h | 3, h | 4, h | 5, h | 7, h => simp [formS] at h; rintro rfl; revert h; decide
  | 6, h | 8, h | 9, h => simp [formS] at h
  | k + 10, h => simp [formS] at h
/-- Is a kind's form that of words, and are they read by it? -/
def hitQ (k : Nat) (ws : List (List UInt8)) : Option OpD := if isForm (ws.headD []) k = true ∧ ws.length = (formS k).length + 1 then (if (foldQ { op0 with k := (k : Int) } true (formS k) ws.tail).2 = true then some (foldQ { op0 with k := (k : Int) } true (formS k) ws.tail).1 else none) else none
theorem hitQ_try {k : Nat} {ws : List (List UInt8)} (h : isForm (ws.headD []) k = true) : hitQ k ws = tryL k ws := by
  unfold hitQ tryL
  by_cases hl : ws.length = (formS k).length + 1
  · have hl2 : ws.length = 1 + (formS k).length := by omega
    rw [if_pos ⟨h, hl⟩, if_pos hl2]
    have hq := foldQ_eq (formS k) ws.tail { op0 with k := (k : Int) } rfl (signs_last k) (by rw [List.length_tail]; omega)
    generalize foldQ { op0 with k := (k : Int) } true (formS k) ws.tail = q at *
    cases hp : foldP { op0 with k := (k : Int) } (formS k) ws.tail with
    | some o =>
      rw [hp] at hq
      have hq : q = (o, true) := hq
      rw [hq]; rfl
    | none =>
      rw [hp] at hq
      have hq : q.2 = false := hq
      rw [if_neg (by rw [hq]; decide)]
  · rw [if_neg (fun e => hl e.2), if_neg (by omega)]
theorem formW_ne (k : Nat) (h1 : 1 ≤ k) (h9 : k ≤ 9) : formW k ≠ [] := by
  rcases show k = 1 ∨ k = 2 ∨ k = 3 ∨ k = 4 ∨ k = 5 ∨ k = 6 ∨ k = 7 ∨ k = 8 ∨ k = 9 by omega with rfl | rfl | rfl | rfl | rfl | rfl | rfl | rfl | rfl <;> simp [formW]
theorem bs_rowG {w : World} {A B : Option Addr} {m c m' c' g : Nat} {x : List UInt8} {o : OpD} (hx : Bs w A m c x) (hb : Blk w g 24 (opC o B m' c').toList) (cs : Array Value) : Bs (w.setRow g cs) A m c x := by
  obtain ⟨h1, h2, h3, h4⟩ := hx
  refine ⟨h1, h2, h3, fun hn => ?_⟩
  obtain ⟨b, q, e, hc⟩ := h4 hn
  have hne : b ≠ g := Sl.not_blk (⟨h1, h2, h3, h4⟩ : Bs w A m c x) (by decide) hb (fun u hu v hv => by
    obtain ⟨z, hz, rfl⟩ := List.mem_map.1 (List.mem_of_getElem? hv)
    simp only [opC, List.mem_cons, List.not_mem_nil, or_false] at hu
    rcases hu with h | h | h | h | h | h | h | h <;> subst h <;> simp [u8c, strc]) hn e
  refine ⟨b, q, e, fun j u hu => ?_⟩
  rw [World.cell?_of_block (w := w) (a := ⟨b, q + j, none⟩) (setRow_other w g b cs hne)]
  exact hc j u hu
theorem parse_hit {l : List UInt8} {k : Nat} {o : OpD} (hk : k < 10) (h : hitQ k (cutL 32 l) = some o) : parseO l = (o, 0) := by
  have hf : isForm ((cutL 32 l).headD []) k = true := by
    unfold hitQ at h
    split at h
    · next e => exact e.1
    · cases h
  rw [hitQ_try hf] at h
  unfold parseO opOf
  simp only [kind_is hk hf]
  rw [if_pos hk, h]
theorem parse_miss {l : List UInt8} (h : ∀ k, 1 ≤ k → k < 10 → hitQ k (cutL 32 l) = none) : parseO l = (op0, 3) := by
  unfold parseO opOf
  by_cases hk : kindL ((cutL 32 l).headD []) < 10
  · have hf := kind_form hk
    have h0 : 1 ≤ kindL ((cutL 32 l).headD []) := by
      rcases Nat.eq_zero_or_pos (kindL ((cutL 32 l).headD [])) with e | e
      · rw [e] at hf; revert hf; simp [isForm, formW]
      · exact e
    have := h _ h0 hk
    rw [hitQ_try hf] at this
    simp only [if_pos hk, this]
  · simp only [if_neg hk]
set_option maxRecDepth 100000 in
set_option maxHeartbeats 4000000 in
theorem refOpParse_new (l : List UInt8) (w : World) (hl : l.length ≤ 100000) : Calls Tryz.prog 32 #[strc l] w (RetOpN w (parseO l)) := by
  have HSP : Hid (∀ wr, Calls Tryz.prog 61 #[strc l] wr (RetWs wr (cutL 32 l))) := fun wr => split39_any l wr hl
  have HKD : Hid (∀ (k : Nat) wr, k < 10 → Calls Tryz.prog 62 #[.int .i64 (k : Int)] wr fun e w' => e = .returned (.tuple #[strc (formW k), strc (formS k)]) ∧ Gr wr w') := fun k wr h => kinds_any k wr h
  obtain ⟨s, hs⟩ : ∃ s : ByteArray, strc l = .string s := ⟨_, rfl⟩
  rw [hs] at HSP ⊢
  clear hs
  obtain ⟨r, hr⟩ : ∃ r, r = parseO l := ⟨_, rfl⟩
  rw [← hr]
  have HHIT : Hid (∀ k o, k < 10 → hitQ k (cutL 32 l) = some o → r = (o, 0)) := fun k o hk h => by rw [hr]; exact parse_hit hk h
  have HMISS : Hid ((∀ k, 1 ≤ k → k < 10 → hitQ k (cutL 32 l) = none) → r = (op0, 3)) := fun h => by rw [hr]; exact parse_miss h
  have hwz : ∀ p ∈ cutL 32 l, p.length ≤ 100000 := fun p hp => Nat.le_trans ((cut_size 32 l).2 p hp) hl
  have hne := List.length_pos_iff.2 (cut_ne 32 l)
  have hsm := (cut_size 32 l).1
  clear hr
  generalize cutL 32 l = ws at *
  have HWZ := Lib.hid hwz; clear hwz
  go_enter Tryz.func32, Tryz.ntmps32
  go_wp2_with fail
  refine (HSP.out _).mono ?_
  rintro e w1 ⟨v1, rfl, ow⟩
  have BR : Hid (Blk w1 w.heap.size 24 (opC op0 none 0 0).toList) := (Blk.new w 24 z8).mono ow.below
  have GW : Hid (Gr w w1) := (Gr.alloc w _).trans ow.below
  obtain ⟨A, c, rfl, sl⟩ := ow.slice
  obtain ⟨b, o, rfl, hcw⟩ := Ws.addr sl hne
  have SL := Lib.hid sl
  have hcap := sl.cap
  have hmax := sl.max
  clear ow sl hcw
  go_wp2_with fail
  go_loopw [5] (fun i wr => ∃ k : Nat, 1 ≤ k ∧ k ≤ 10 ∧ i = .int .i64 k ∧ Gr w1 wr ∧ ∀ j, 1 ≤ j → j < k → hitQ j ws = none) (fun i _ => 10 - (intOf i).toNat)
  case atStart => exact ⟨1, by omega, by omega, rfl, Gr.refl _, fun j h1 h2 => by omega⟩
  case round =>
    obtain ⟨k, hk1, hk10, rfl, g, hmiss⟩ := hrel
    have G := Lib.hid g; have HM := Lib.hid hmiss; clear g hmiss
    by_cases hlt : k ≤ 9
    · have t1 : decide ((k : Int) ≤ 9) = true := decide_eq_true (by omega)
      have HKK := Lib.hid (HKD.out k wr (by omega))
      have hfl := formS_len k
      have hfw : formW k ≠ [] := formW_ne k hk1 hlt
      have HSG := Lib.hid (signs_all k)
      obtain ⟨x, hx⟩ : ∃ x : ByteArray, x = ⟨(formW k).toArray⟩ := ⟨_, rfl⟩
      obtain ⟨y, hy⟩ : ∃ y : ByteArray, y = ⟨(formS k).toArray⟩ := ⟨_, rfl⟩
      have hxl : x.toList = formW k := by rw [hx, ByteArray.toList_eq]
      have hys : y.size = (formS k).length := by rw [hy]; exact size_of' _
      have HAT := Lib.hid (at_of (formS k) y hy)
      have hxs : strc (formW k) = .string x := by rw [hx]; rfl
      have hyS : strc (formS k) = .string y := by rw [hy]; rfl
      rw [hxs, hyS] at HKK
      obtain ⟨z, hz⟩ : ∃ z : ByteArray, z = ⟨(ws[0]'hne).toArray⟩ := ⟨_, rfl⟩
      have hzl : z.toList = ws.headD [] := by rw [hz, ByteArray.toList_eq, head_at hne]
      have HCZ : Hid (∀ wq, Gr wr wq → wq.cell? ⟨b, o, none⟩ = some (.string z)) := fun wq g => by
        obtain ⟨b', o', e, hc⟩ := Ws.addr (Sl.gr SL.out (G.out.trans g)) hne
        injection e with e
        injection e with e1 e2
        subst e1 e2
        rw [hz]
        exact hc 0 hne
      have HNX : Hid (hitQ k ws = none → ∀ j, 1 ≤ j → j < k + 1 → hitQ j ws = none) := fun h j h1 h2 => by
        rcases Nat.lt_succ_iff_lt_or_eq.1 h2 with h3 | rfl
        · exact HM.out j h1 h3
        · exact h
      have hisf : isForm (ws.headD []) k = (z.toList == x.toList) := by
        unfold isForm
        rw [hzl, hxl, beq_eq_false_iff_ne.2 hfw]
        simp only [Bool.not_false, Bool.and_true]
        rw [Bool.eq_iff_iff, beq_iff_eq, beq_iff_eq]
        exact eq_comm
      have HHK := Lib.hid (fun o h => HHIT.out k o (by omega) h)
      clear hx hy hxl hxs hyS hz hzl HKD
      cases hzx : (z.toList == x.toList) with
      | false =>
        rw [hzx] at hisf
        have HN2 := Lib.hid (HNX.out (by unfold hitQ; rw [if_neg (by rw [hisf]; rintro ⟨h, _⟩; cases h)]))
        go_wp2_with fail
        refine HKK.out.mono ?_
        rintro e w2 ⟨rfl, g2⟩
        have cz := HCZ.out w2 g2
        have G2 := Lib.hid (G.out.trans g2); clear g2
        go_wp2_with fail
        go_roundw
        case rel => exact ⟨k + 1, by omega, by omega, by first | trivial | go_num, G2.out, HN2.out⟩
        case measure =>
          show 10 - ((k : Int) + 1).toNat < 10 - (k : Int).toNat
          omega
      | true =>
        rw [hzx] at hisf
        by_cases hlen : ws.length = y.size + 1
        · have hl2 : ws.length = (formS k).length + 1 := by omega
          have tl : ((ws.length : Int) != (y.size : Int) + 1) = false := by rw [bne_eq_false_iff_eq]; omega
          have HHQ : Hid (hitQ k ws = if (foldQ { op0 with k := (k : Int) } true (formS k) ws.tail).2 = true then some (foldQ { op0 with k := (k : Int) } true (formS k) ws.tail).1 else none) := by
            show _ = _
            unfold hitQ
            rw [if_pos ⟨hisf, hl2⟩]
          go_wp2_with fail
          refine HKK.out.mono ?_
          rintro e w2 ⟨rfl, g2⟩
          have cz := HCZ.out w2 g2
          have G2 := Lib.hid (G.out.trans g2); clear g2
          go_wp2_with fail
          obtain ⟨O, hO⟩ : ∃ O, O = w2.heap.size := ⟨_, rfl⟩
          obtain ⟨wO, hwO⟩ : ∃ wO, wO = w2.alloc (.cells #[.int .i64 (k : Int), .string ⟨#[]⟩, .string ⟨#[]⟩, .int .i64 0, .int .i64 0, .int .i64 0, .int .i64 0, .slice none 0 0] 24) := ⟨_, rfl⟩
          have gO : Gr w2 wO := by rw [hwO]; exact Gr.alloc _ _
          have hOB : Blk wO O 24 (opC { op0 with k := (k : Int) } none 0 0).toList := by rw [hwO, hO]; exact Blk.new w2 _ _
          have HOB := Lib.hid hOB
          have GO := Lib.hid (G2.out.trans gO)
          have SO := Lib.hid (Sl.gr SL.out GO.out)
          have BRO := Lib.hid (BR.out.mono GO.out)
          have hblt : b < O := by
            have := Sl.lt (Sl.gr SL.out G2.out) (by decide) (by omega) rfl
            omega
          have hr0 : w.heap.size < O := by
            have := (BR.out.mono G2.out).lt
            omega
          have gWO := Lib.hid (GW.out.trans GO.out)
          have hO1 : w1.heap.size ≤ O := by have := G2.out.size; omega
          show Code.wp _ _ _ _ (w2.alloc (.cells #[.int .i64 (k : Int), .string ⟨#[]⟩, .string ⟨#[]⟩, .int .i64 0, .int .i64 0, .int .i64 0, .int .i64 0, .slice none 0 0] 24))
          rw [← hwO, ← hO]
          clear hwO hO gO cz hOB tl hzx hisf HCZ
          go_loopw [9, 10] (fun wh i wq => ∃ (j : Nat) (o' : OpD) (bb : Bool), j ≤ y.size ∧ i = .int .i64 j ∧ wh = .bool bb ∧ foldQ { op0 with k := (k : Int) } true (formS k) ws.tail = foldQ o' bb ((formS k).drop j) (ws.tail.drop j) ∧ OpOk o' ∧ (∃ A m c, Blk wq O 24 (opC o' A m c).toList ∧ Bs wq A m c o'.x ∧ ∀ b q, A = some ⟨b, q, none⟩ → w.heap.size ≤ b) ∧ Tch (fun q => q = O) wO wq) (fun _ i _ => y.size - (intOf i).toNat)
          case atStart => exact ⟨0, { op0 with k := (k : Int) }, true, by omega, rfl, rfl, rfl, ⟨⟨by show _ ≤ (k : Int); omega, by show (k : Int) ≤ _; omega⟩, (by decide : -9223372036854775808 ≤ (0 : Int) ∧ (0 : Int) ≤ 9223372036854775807), (by decide : -9223372036854775808 ≤ (0 : Int) ∧ (0 : Int) ≤ 9223372036854775807), (by decide : -9223372036854775808 ≤ (0 : Int) ∧ (0 : Int) ≤ 9223372036854775807), (by decide : -9223372036854775808 ≤ (0 : Int) ∧ (0 : Int) ≤ 9223372036854775807), Nat.zero_le _, Nat.zero_le _, Nat.zero_le _⟩, ⟨none, 0, 0, HOB.out, Sl.nil _ _, fun b q e => by cases e⟩, Tch.refl _⟩
          case round =>
            obtain ⟨j, o', bb, hj, rfl, rfl, hfold, hok, hop, ht⟩ := hrel
            have HFD := Lib.hid hfold; have HOK := Lib.hid hok; have HT := Lib.hid ht
            obtain ⟨A', m', c', hb', hx', haf⟩ := hop
            have HAF := Lib.hid haf
            have HB := Lib.hid hb'; have HX := Lib.hid hx'
            clear hfold hok ht hb' hx' haf
            by_cases hjl : j < y.size
            · have hka : j < (formS k).length := by omega
              have hws : j < ws.tail.length := by rw [List.length_tail]; omega
              have hasc : ((y[j]'hjl).toNat : Int) = ((formS k)[j].toNat : Int) := by
                rw [HAT.out j hjl]; unfold bAt
                simp [List.getD_eq_getElem?_getD, List.getElem?_eq_getElem hka]
              have hsg := HSG.out _ (List.getElem_mem hka)
              have hwk : ws.tail[j] = ws[j + 1]'(by omega) := by rw [List.getElem_tail]
              have SI := Lib.hid (Sl.tch SO.out (by decide) HT.out (fun _ bb oo e h => by injection e with e; injection e with e1 e2; have h : bb = O := h; omega))
              have HCW : Hid (∀ wq, Gr wr wq → wq.cell? ⟨b, o + (j + 1), none⟩ = some (.string ⟨ws.tail[j].toArray⟩)) := fun wq g => by
                obtain ⟨b', q', eb, hcw⟩ := Ws.addr (Sl.gr SI.out g) (by omega)
                injection eb with eb
                injection eb with eb1 eb2
                subst eb1 eb2
                have cw := hcw (j + 1) (by omega)
                rw [← hwk] at cw
                exact cw
              have hwl : ws.tail[j].length ≤ 100000 := HWZ.out _ (List.mem_of_mem_tail (List.getElem_mem hws))
              have HWC : Hid (∀ wq, Gr wr wq → Calls Tryz.prog 63 #[opV o' A' m' c', .int .u8 ((formS k)[j].toNat : Int), strc ws.tail[j]] wq (RetW wq A' (readD o'.v o' (formS k)[j].toNat ws.tail[j]) (readB (readD o'.v o' (formS k)[j].toNat ws.tail[j]) (formS k)[j].toNat ws.tail[j]))) := fun wq g => with_any o' A' m' c' _ _ wq HOK.out (HX.out.mono g) hwl hsg
              have HOK2 := Lib.hid (readD_ok (d := o'.v) HOK.out HOK.out.v hwl hsg)
              have HFD2 : Hid (foldQ { op0 with k := (k : Int) } true (formS k) ws.tail = foldQ (readD o'.v o' (formS k)[j].toNat ws.tail[j]) (bb && readB (readD o'.v o' (formS k)[j].toNat ws.tail[j]) (formS k)[j].toNat ws.tail[j]) ((formS k).drop (j + 1)) (ws.tail.drop (j + 1))) := by
                show _ = _
                rw [HFD.out, List.drop_eq_getElem_cons hka, List.drop_eq_getElem_cons hws]
                rfl
              have i1 : (j : Int) + 1 < (ws.length : Int) := by omega
              have i0 : (0 : Int) ≤ (j : Int) + 1 := by omega
              have i2 : ((j : Int) + 1).toNat = j + 1 := by omega
              have q1 : IntKind.i64.wrap ((j : Int) + 1) = (j : Int) + 1 := by rw [IntKind.wrap_i64]; omega
              clear hsg hwk hwl
              generalize ws.tail[j] = wd at *
              generalize (formS k)[j].toNat = sg at *
              obtain ⟨wx, hwx⟩ : ∃ wx : ByteArray, strc wd = .string wx := ⟨_, rfl⟩
              rw [show Value.string ⟨wd.toArray⟩ = Value.string wx from hwx] at HCW
              rw [hwx] at HWC
              clear hwx
              generalize readD o'.v o' sg wd = o2 at *
              generalize readB o2 sg wd = b2 at *
              have HC8 := Lib.hid fun wq (g : Gr wr.drew wq) (i : Nat) (v : Value) (h : (opC o' A' m' c').toList[i]? = some v) => ((HB.out.mono ((Gr.drew wr).trans g)).cell i).trans h
              go_wp2_with fail
              refine wp_region_grow (by kernel_rfl) [0, 0, 0, 6, 0, 0, 32, 112, 240, 511, 1023, 2047, 2047, 0, 12287, 32767] [.p 1, .p 2, .p 4, .p 5, .p 6, .p 7, .q 0, .q 3, .q 8, .c 9, .p 10, .p 11, .p 12, .m 13 24 #[.int .i64 0, .string ⟨#[]⟩, .string ⟨#[]⟩, .int .i64 0, .int .i64 0, .int .i64 0, .int .i64 0, .slice none 0 0], .s 14, .p 15] (by kernel_rfl) (⟨fun o ho ρ w => by cases ho; kernel_rfl, trivial⟩) ?_
              refine wpG_pe rfl rfl ?_
              apply Exists.intro
              refine ⟨fun wq => ?_, ?_⟩
              · unfold plainAt
                go_simp
                first | exact rfl | exact ⟨rfl, rfl⟩
              go_simp
              refine wpG_pe rfl rfl ?_
              apply Exists.intro
              refine ⟨fun wq => ?_, ?_⟩
              · unfold plainAt
                go_simp
                first | exact rfl | exact ⟨rfl, rfl⟩
              go_simp
              refine wpG_pe rfl rfl ?_
              apply Exists.intro
              refine ⟨fun wq => ?_, ?_⟩
              · unfold plainAt
                go_simp
                first | exact rfl | exact ⟨rfl, rfl⟩
              go_simp
              refine wpG_pe rfl rfl ?_
              apply Exists.intro
              refine ⟨fun wq => ?_, ?_⟩
              · unfold plainAt
                go_simp
                first | exact rfl | exact ⟨rfl, rfl⟩
              go_simp
              refine wpG_pe rfl rfl ?_
              apply Exists.intro
              refine ⟨fun wq => ?_, ?_⟩
              · unfold plainAt
                go_simp
                first | exact rfl | exact ⟨rfl, rfl⟩
              go_simp
              refine wpG_pe rfl rfl ?_
              apply Exists.intro
              refine ⟨fun wq => ?_, ?_⟩
              · unfold plainAt
                go_simp
                first | exact rfl | exact ⟨rfl, rfl⟩
              go_simp
              refine wpG_qe rfl rfl ?_
              apply Exists.intro
              refine ⟨fun wq hq => ?_, ?_⟩
              · have d0 := HC8.out wq hq 0 _ rfl; have d1 := HC8.out wq hq 1 _ rfl; have d2 := HC8.out wq hq 2 _ rfl; have d3 := HC8.out wq hq 3 _ rfl; have d4 := HC8.out wq hq 4 _ rfl; have d5 := HC8.out wq hq 5 _ rfl; have d6 := HC8.out wq hq 6 _ rfl; have d7 := HC8.out wq hq 7 _ rfl
                unfold plainAt
                go_simp
                first | exact rfl | exact ⟨rfl, rfl⟩
              go_simp
              refine wpG_qe rfl rfl ?_
              apply Exists.intro
              refine ⟨fun wq hq => ?_, ?_⟩
              · skip
                unfold plainAt
                go_simp
                first | exact rfl | exact ⟨rfl, rfl⟩
              go_simp
              refine wpG_qe rfl rfl ?_
              apply Exists.intro
              refine ⟨fun wq hq => ?_, ?_⟩
              · have cw := HCW.out wq ((Gr.drew wr).trans hq)
                unfold plainAt
                go_simp
                first | exact rfl | exact ⟨rfl, rfl⟩
              go_simp
              refine wpG_c rfl rfl ?_
              intro wc gc K hK
              go_simp
              go_at_call 63
              refine (HWC.out wc ((Gr.drew wr).trans gc)).mono ?_
              rintro e wn ⟨A2, m2, c2, rfl, sx, gf, ha2⟩
              refine hK _ _ gf ?_; have HA2 : Hid (∀ b q, A2 = some ⟨b, q, none⟩ → w.heap.size ≤ b) := (by rcases ha2 with e | h; (· rw [e]; exact HAF.out); (· exact fun b q e => Nat.le_trans (Nat.le_trans gWO.out.size (Nat.le_trans HT.out.size gc.size)) (h b q e))); clear ha2; have GF := Lib.hid (((Gr.drew wr).trans gc).trans gf); have SX := Lib.hid sx; clear gc gf hK sx
              go_simp
              refine wpG_pe rfl rfl ?_
              apply Exists.intro
              refine ⟨fun wq => ?_, ?_⟩
              · unfold plainAt
                go_simp
                first | exact rfl | exact ⟨rfl, rfl⟩
              go_simp
              refine wpG_pe rfl rfl ?_
              apply Exists.intro
              refine ⟨fun wq => ?_, ?_⟩
              · unfold plainAt
                go_simp
                first | exact rfl | exact ⟨rfl, rfl⟩
              go_simp
              refine wpG_pe rfl rfl ?_
              apply Exists.intro
              refine ⟨fun wq => ?_, ?_⟩
              · unfold plainAt
                go_simp
                first | exact rfl | exact ⟨rfl, rfl⟩
              go_simp
              refine wpG_m rfl rfl ?_
              intro w11 bn g11 hbn hblk hI
              go_simp
              refine wpG_s rfl rfl ?_
              intro w12 g12 K hK
              refine wp_store_row 24 (.tmp 11) (.tmp 56) rfl bn (opC o2 A2 m2 c2) rfl rfl 24 #[.int .i64 0, .string ⟨#[]⟩, .string ⟨#[]⟩, .int .i64 0, .int .i64 0, .int .i64 0, .int .i64 0, .slice none 0 0] (g12.blk hblk) opSize rfl (opOne _ _ _ _) ?_
              refine hK _ _ ?_
              clear hK
              obtain ⟨wt, hwt⟩ : ∃ wt, wt = w12.setRow bn (opC o2 A2 m2 c2) := ⟨_, rfl⟩
              have HNT : Hid (wt.heap[bn]? = some (.cells (opC o2 A2 m2 c2) 24 (0, 0))) := by rw [hwt]; exact setRow_heap w12 bn _ _ _ _ (g12.blk hblk)
              have g1x : Gr wr w12 := (GF.out.trans g11).trans g12
              have GWT : Hid (Gr wr wt) := by rw [hwt]; exact below_row39 g1x hbn _
              have SXT : Hid (Bs wt A2 m2 c2 o2.x) := by rw [hwt]; exact bs_row (SX.out.mono (g11.trans g12)) (g12.blk hblk) _
              go_simp
              rw [← hwt]
              clear hwt g1x hblk hI g11 g12
              refine wpG_pe rfl rfl ?_
              apply Exists.intro
              refine ⟨fun wq => ?_, ?_⟩
              · unfold plainAt
                go_simp
                first | exact rfl | exact ⟨rfl, rfl⟩
              go_simp
              refine wpG_nil ?_
              intro we ge
              have HNE : Hid (we.heap[bn]? = some (.cells (opC o2 A2 m2 c2) 24 (0, 0))) := (ge.block _ (Array.getElem?_eq_some_iff.1 HNT.out).1).trans HNT.out
              have SXE := Lib.hid (SXT.out.mono ge)
              have GWE := Lib.hid (GWT.out.trans ge)
              have BOE := Lib.hid (HB.out.mono GWE.out)
              clear ge
              cases bb with
              | true =>
                go_wp2_with (first
                  | (refine wpList_load_row rfl 24 (.tmp 11) rfl bn rfl 24 (opC o2 A2 m2 c2) (0, 0) _ HNE.out Tryz.underlying24 rfl opSize ?_)
                  | (refine wpList_store_row rfl 24 (.tmp 8) (.tmp 58) rfl O (opC o2 A2 m2 c2) rfl rfl 24 (opC o' A' m' c') BOE.out opSize rfl (opOne _ _ _ _) ?_))
                go_roundw
                case rel => exact ⟨j + 1, o2, true && b2, by omega, by first | trivial | go_num, rfl, HFD2.out, HOK2.out, ⟨A2, m2, c2, setRow_heap we O _ _ _ _ BOE.out, bs_rowG SXE.out BOE.out _, HA2.out⟩, (HT.out.trans (Tch.gr GWE.out)).trans (Tch.row we O _ rfl)⟩
                case measure =>
                  show y.size - ((j : Int) + 1).toNat < y.size - (j : Int).toNat
                  omega
              | false =>
                go_wp2_with (first
                  | (refine wpList_load_row rfl 24 (.tmp 11) rfl bn rfl 24 (opC o2 A2 m2 c2) (0, 0) _ HNE.out Tryz.underlying24 rfl opSize ?_)
                  | (refine wpList_store_row rfl 24 (.tmp 8) (.tmp 58) rfl O (opC o2 A2 m2 c2) rfl rfl 24 (opC o' A' m' c') BOE.out opSize rfl (opOne _ _ _ _) ?_))
                go_roundw
                case rel => exact ⟨j + 1, o2, false && b2, by omega, by first | trivial | go_num, rfl, HFD2.out, HOK2.out, ⟨A2, m2, c2, setRow_heap we O _ _ _ _ BOE.out, bs_rowG SXE.out BOE.out _, HA2.out⟩, (HT.out.trans (Tch.gr GWE.out)).trans (Tch.row we O _ rfl)⟩
                case measure =>
                  show y.size - ((j : Int) + 1).toNat < y.size - (j : Int).toNat
                  omega
            · obtain rfl : j = y.size := by omega
              have HE : Hid (foldQ { op0 with k := (k : Int) } true (formS k) ws.tail = (o', bb)) := by
                show _ = _
                rw [HFD.out, List.drop_of_length_le (by omega : (formS k).length ≤ y.size)]
                rfl
              cases bb with
              | true =>
                have HF : Hid (r = (o', 0)) := HHK.out o' (by rw [HHQ.out, HE.out]; rfl)
                have BR7 : Hid (Blk wr w.heap.size 24 (opC op0 none 0 0).toList) := BRO.out.tch HT.out (fun e => by have e : w.heap.size = O := e; omega)
                have GW7 : Hid (Gr w wr) := Tch.below gWO.out HT.out gWO.out.size (fun q e => by have e : q = O := e; omega)
                go_wp2_with (first
                  | (refine wpList_load_row rfl 24 (.tmp 8) rfl O rfl 24 (opC o' A' m' c') (0, 0) _ HB.out Tryz.underlying24 rfl opSize ?_)
                  | (refine wpList_store_row rfl 24 (.tmp 2) (.tmp 64) rfl w.heap.size (opC o' A' m' c') rfl rfl 24 (opC op0 none 0 0) BR7.out opSize rfl (opOne _ _ _ _) ?_))
                have HN := setRow_heap wr w.heap.size _ (opC o' A' m' c') _ _ BR7.out
                have G8 : Gr w (wr.setRow w.heap.size (opC o' A' m' c')) := below_row39 GW7.out (Nat.le_refl _) _
                rw [HF.out]
                exact bodyPost_ret (results_op Tryz.results32 _ _ w.heap.size _ _ rfl HN rfl) rfl ⟨A', m', c', rfl, bs_row HX.out BR7.out _, G8, HAF.out⟩
              | false =>
                have HN2 := Lib.hid (HNX.out (by rw [HHQ.out, HE.out]; rfl))
                have G7 : Hid (Gr w1 wr) := Tch.below GO.out HT.out GO.out.size (fun q e => by have e : q = O := e; omega)
                go_wp2_with fail
                go_roundw
                case rel => exact ⟨k + 1, by omega, by omega, by first | trivial | go_num, G7.out, HN2.out⟩
                case measure =>
                  show 10 - ((k : Int) + 1).toNat < 10 - (k : Int).toNat
                  omega
        · have tl : ((ws.length : Int) != (y.size : Int) + 1) = true := by rw [bne_iff_ne]; omega
          have HN2 := Lib.hid (HNX.out (by unfold hitQ; rw [if_neg (by rintro ⟨_, h⟩; omega)]))
          go_wp2_with fail
          refine HKK.out.mono ?_
          rintro e w2 ⟨rfl, g2⟩
          have cz := HCZ.out w2 g2
          have G2 := Lib.hid (G.out.trans g2); clear g2
          go_wp2_with fail
          go_roundw
          case rel => exact ⟨k + 1, by omega, by omega, by first | trivial | go_num, G2.out, HN2.out⟩
          case measure =>
            show 10 - ((k : Int) + 1).toNat < 10 - (k : Int).toNat
            omega
    · obtain rfl : k = 10 := by omega
      have t1 : decide (((10 : Nat) : Int) ≤ 9) = false := by decide
      have HF : Hid (r = (op0, 3)) := HMISS.out (fun j h1 h2 => HM.out j h1 h2)
      have BRw := BR.out.mono G.out
      go_wp2_with (refine wpList_store_row rfl 24 (.tmp 2) (.tmp 65) rfl w.heap.size (opC op0 none 0 0) rfl rfl 24 (opC op0 none 0 0) BRw opSize rfl (opOne _ _ _ _) ?_)
      have HN := setRow_heap wr w.heap.size _ (opC op0 none 0 0) _ _ BRw
      have G6 : Gr w (wr.setRow w.heap.size (opC op0 none 0 0)) := below_row39 (GW.out.trans G.out) (Nat.le_refl _) _
      rw [HF.out]
      exact bodyPost_ret (results_op Tryz.results32 _ _ w.heap.size _ _ rfl HN rfl) rfl ⟨none, 0, 0, rfl, Sl.nil _ _, G6, fun b q e => by cases e⟩
theorem refOpParse_any (l : List UInt8) (w : World) (hl : l.length ≤ 100000) : Calls Tryz.prog 32 #[strc l] w (RetOp w (parseO l)) :=
  (refOpParse_new l w hl).mono fun e w' ⟨A, m, c, h1, h2, h3, _⟩ => ⟨A, m, c, h1, h2, h3⟩
end Go.Proofs.YtadenlhnfkccaaaGreatDoor

/- Operations as lines: which are the same. No condition. -/
namespace Go.Proofs.YtadenlhnfkccaaaGreatDoor
open Go.RowKit
set_option linter.unusedVariables false
set_option linter.unusedSimpArgs false
theorem and_f (b : Bool) : (false && b) = false := rfl
set_option maxRecDepth 100000 in
set_option maxHeartbeats 2000000 in
theorem same39_raw (k1 e1 s1 n1 v1 k2 e2 s2 n2 v2 : Int) (g1 i1 g2 i2 : ByteArray) (A1 A2 : Option Addr) (m1 c1 m2 c2 : Nat) (x y : List UInt8) (w : World) (ha : Bs w A1 m1 c1 x) (hb : Bs w A2 m2 c2 y) :
    Calls Tryz.prog 72 #[.agg #[.int .i64 k1, .string g1, .string i1, .int .i64 e1, .int .i64 s1, .int .i64 n1, .int .i64 v1, .slice A1 m1 c1], .agg #[.int .i64 k2, .string g2, .string i2, .int .i64 e2, .int .i64 s2, .int .i64 n2, .int .i64 v2, .slice A2 m2 c2]] w fun e w' => e = .returned (.bool ((k1 == k2) && (g1.toList == g2.toList) && (i1.toList == i2.toList) && (e1 == e2) && (s1 == s2) && (n1 == n2) && (v1 == v2) && x == y)) ∧ Gr w w' := by
  have HSM : Hid (∀ wr, Gr w wr → Calls Tryz.prog 42 #[.slice A1 m1 c1, .slice A2 m2 c2] wr fun e w' => e = .returned (.bool (x == y)) ∧ Gr wr w') := fun wr g => (same_any A1 A2 m1 m2 c1 c2 x y wr (ha.mono g) (hb.mono g)).mono fun e w' h => ⟨h.1, by rw [h.2]; exact Gr.refl _⟩
  have G0 : Hid (Gr w ((w.alloc (.cells #[.int .i64 k1, .string g1, .string i1, .int .i64 e1, .int .i64 s1, .int .i64 n1, .int .i64 v1, .slice A1 m1 c1] 24)).alloc (.cells #[.int .i64 k2, .string g2, .string i2, .int .i64 e2, .int .i64 s2, .int .i64 n2, .int .i64 v2, .slice A2 m2 c2] 24))) := (Gr.alloc w _).trans (Gr.alloc _ _)
  clear ha hb
  cases t0 : (k1 == k2) with
  | false =>
    go_enter Tryz.func72, Tryz.ntmps72
    go_wp2_with fail
    go_ret
    exact ⟨by simp, G0.out⟩
  | true =>
  cases t1 : (g1.toList == g2.toList) with
  | false =>
    go_enter Tryz.func72, Tryz.ntmps72
    go_wp2_with fail
    go_ret
    exact ⟨by simp, G0.out⟩
  | true =>
  cases t2 : (i1.toList == i2.toList) with
  | false =>
    go_enter Tryz.func72, Tryz.ntmps72
    go_wp2_with fail
    go_ret
    exact ⟨by simp, G0.out⟩
  | true =>
  cases t3 : (e1 == e2) with
  | false =>
    go_enter Tryz.func72, Tryz.ntmps72
    go_wp2_with fail
    go_ret
    exact ⟨by simp, G0.out⟩
  | true =>
  cases t4 : (s1 == s2) with
  | false =>
    go_enter Tryz.func72, Tryz.ntmps72
    go_wp2_with fail
    go_ret
    exact ⟨by simp, G0.out⟩
  | true =>
  cases t5 : (n1 == n2) with
  | false =>
    go_enter Tryz.func72, Tryz.ntmps72
    go_wp2_with fail
    go_ret
    exact ⟨by simp, G0.out⟩
  | true =>
  cases t6 : (v1 == v2) with
  | false =>
    go_enter Tryz.func72, Tryz.ntmps72
    go_wp2_with fail
    go_ret
    exact ⟨by simp, G0.out⟩
  | true =>
  go_enter Tryz.func72, Tryz.ntmps72
  go_wp2_with fail
  refine (HSM.out _ G0.out).mono ?_
  rintro e w2 ⟨rfl, g2⟩
  have G2 := Lib.hid g2; clear g2
  go_wp2_with fail
  go_ret
  exact ⟨by simp, G0.out.trans G2.out⟩
theorem same39_any (o1 o2 : OpD) (A1 A2 : Option Addr) (m1 c1 m2 c2 : Nat) (w : World) (ha : Bs w A1 m1 c1 o1.x) (hb : Bs w A2 m2 c2 o2.x) :
    Calls Tryz.prog 72 #[opV o1 A1 m1 c1, opV o2 A2 m2 c2] w fun e w' => e = .returned (.bool (sameO o1 o2)) ∧ Gr w w' := by
  have h := same39_raw o1.k o1.e o1.s o1.n o1.v o2.k o2.e o2.s o2.n o2.v ⟨o1.g.toArray⟩ ⟨o1.i.toArray⟩ ⟨o2.g.toArray⟩ ⟨o2.i.toArray⟩ A1 A2 m1 c1 m2 c2 o1.x o2.x w ha hb
  simp only [ByteArray.toList_eq] at h
  exact h
set_option maxRecDepth 100000 in
set_option maxHeartbeats 2000000 in
theorem refSame39_raw (k1 e1 s1 n1 v1 k2 e2 s2 n2 v2 : Int) (g1 i1 g2 i2 : ByteArray) (A1 A2 : Option Addr) (m1 c1 m2 c2 : Nat) (x y : List UInt8) (w : World) (ha : Bs w A1 m1 c1 x) (hb : Bs w A2 m2 c2 y) :
    Calls Tryz.prog 38 #[.agg #[.int .i64 k1, .string g1, .string i1, .int .i64 e1, .int .i64 s1, .int .i64 n1, .int .i64 v1, .slice A1 m1 c1], .agg #[.int .i64 k2, .string g2, .string i2, .int .i64 e2, .int .i64 s2, .int .i64 n2, .int .i64 v2, .slice A2 m2 c2]] w fun e w' => e = .returned (.bool ((k1 == k2) && (g1.toList == g2.toList) && (i1.toList == i2.toList) && (e1 == e2) && (s1 == s2) && (n1 == n2) && (v1 == v2) && x == y)) ∧ Gr w w' := by
  have HSM : Hid (∀ wr, Gr w wr → Calls Tryz.prog 39 #[.slice A1 m1 c1, .slice A2 m2 c2] wr fun e w' => e = .returned (.bool (x == y)) ∧ Gr wr w') := fun wr g => (refSame_any A1 A2 m1 m2 c1 c2 x y wr (ha.mono g) (hb.mono g)).mono fun e w' h => ⟨h.1, by obtain ⟨q, h2⟩ := h.2; rw [h2]; exact belowN (Gr.refl _) q⟩
  have G0 : Hid (Gr w ((w.alloc (.cells #[.int .i64 k1, .string g1, .string i1, .int .i64 e1, .int .i64 s1, .int .i64 n1, .int .i64 v1, .slice A1 m1 c1] 24)).alloc (.cells #[.int .i64 k2, .string g2, .string i2, .int .i64 e2, .int .i64 s2, .int .i64 n2, .int .i64 v2, .slice A2 m2 c2] 24))) := (Gr.alloc w _).trans (Gr.alloc _ _)
  clear ha hb
  cases t0 : (k1 == k2) with
  | false =>
    go_enter Tryz.func38, Tryz.ntmps38
    go_wp2_with fail
    go_ret
    exact ⟨by simp, G0.out⟩
  | true =>
  cases t1 : (g1.toList == g2.toList) with
  | false =>
    go_enter Tryz.func38, Tryz.ntmps38
    go_wp2_with fail
    go_ret
    exact ⟨by simp, G0.out⟩
  | true =>
  cases t2 : (i1.toList == i2.toList) with
  | false =>
    go_enter Tryz.func38, Tryz.ntmps38
    go_wp2_with fail
    go_ret
    exact ⟨by simp, G0.out⟩
  | true =>
  cases t3 : (e1 == e2) with
  | false =>
    go_enter Tryz.func38, Tryz.ntmps38
    go_wp2_with fail
    go_ret
    exact ⟨by simp, G0.out⟩
  | true =>
  cases t4 : (s1 == s2) with
  | false =>
    go_enter Tryz.func38, Tryz.ntmps38
    go_wp2_with fail
    go_ret
    exact ⟨by simp, G0.out⟩
  | true =>
  cases t5 : (n1 == n2) with
  | false =>
    go_enter Tryz.func38, Tryz.ntmps38
    go_wp2_with fail
    go_ret
    exact ⟨by simp, G0.out⟩
  | true =>
  cases t6 : (v1 == v2) with
  | false =>
    go_enter Tryz.func38, Tryz.ntmps38
    go_wp2_with fail
    go_ret
    exact ⟨by simp, G0.out⟩
  | true =>
  go_enter Tryz.func38, Tryz.ntmps38
  go_wp2_with fail
  refine (HSM.out _ G0.out).mono ?_
  rintro e w2 ⟨rfl, g2⟩
  have G2 := Lib.hid g2; clear g2
  go_wp2_with fail
  go_ret
  exact ⟨by simp, G0.out.trans G2.out⟩
theorem refSame39_any (o1 o2 : OpD) (A1 A2 : Option Addr) (m1 c1 m2 c2 : Nat) (w : World) (ha : Bs w A1 m1 c1 o1.x) (hb : Bs w A2 m2 c2 o2.x) :
    Calls Tryz.prog 38 #[opV o1 A1 m1 c1, opV o2 A2 m2 c2] w fun e w' => e = .returned (.bool (sameO o1 o2)) ∧ Gr w w' := by
  have h := refSame39_raw o1.k o1.e o1.s o1.n o1.v o2.k o2.e o2.s o2.n o2.v ⟨o1.g.toArray⟩ ⟨o1.i.toArray⟩ ⟨o2.g.toArray⟩ ⟨o2.i.toArray⟩ A1 A2 m1 c1 m2 c2 o1.x o2.x w ha hb
  simp only [ByteArray.toList_eq] at h
  exact h
end Go.Proofs.YtadenlhnfkccaaaGreatDoor
