/- Own texts of this claim, one behind the other. No condition. -/
import Derived.Test.YtfemhhjmfckicaaGreatDoorObPkZG

/- leaf.Plan: the changes, one behind the other. No condition. -/
namespace Go.Proofs.YtfemhhjmfckicaaGreatDoor
open Go.RowKit Go.Maps
set_option linter.unusedVariables false
set_option linter.unusedSimpArgs false
theorem tTc : ElemT Tryz.prog 43 48 (.agg #[.int .i64 0, .string ⟨#[]⟩, .slice none 0 0, .bool false]) 4 56 := ⟨Tryz.underlying43, by kernel_rfl, rfl, by decide, by decide⟩
/-- What a plan answers. -/
def RetPlan (w : World) (hs : List (List UInt8)) (l : List ChD) (e : Ending) (w' : World) : Prop :=
  ∃ v T, e = .returned (.tuple #[v, .int .i64 ((planC 350 (hs, []) l).2 : Int)]) ∧ ((planC 350 (hs, []) l).2 ≠ 0 → T = []) ∧ ((planC 350 (hs, []) l).2 = 0 → T.map TcV.d = outOf (planC 350 (hs, []) l).1.2) ∧
    Own w w' 48 4 v T.length (T.flatMap TcV.cells) ∧ ∀ x ∈ T, Bs w' x.a x.m x.c x.d.v
theorem RetPlan.bad {w w' : World} {hs : List (List UInt8)} {l : List ChD} {q : Nat} (h : (planC 350 (hs, []) l).2 = q) (h0 : q ≠ 0) (g : Gr w w') : RetPlan w hs l (.returned (.tuple #[.slice none 0 0, .int .i64 (q : Int)])) w' :=
  ⟨_, [], by rw [h], fun _ => rfl, fun q2 => absurd (h.symm.trans q2) h0, Own.nil' g _ _, fun x hx => by cases hx⟩
theorem RetPlan.good {w W w' : World} {hs : List (List UInt8)} {l : List ChD} {v : Value} {T log : List TcV} (h : (planC 350 (hs, []) l).2 = 0) (hd : log.map TcV.d = (planC 350 (hs, []) l).1.2) (hT : T.map TcV.d = outOf (log.map TcV.d)) (g : Gr w W) (ho : Own W w' 48 4 v T.length (T.flatMap TcV.cells)) (hb : ∀ x ∈ T, Bs w' x.a x.m x.c x.d.v) :
    RetPlan w hs l (.returned (.tuple #[v, .int .i64 0])) w' :=
  ⟨_, T, by rw [h]; rfl, fun q => absurd h q, fun _ => by rw [hT, hd], ho.onto g, hb⟩
set_option maxRecDepth 100000 in
set_option maxHeartbeats 2000000 in
theorem plan_any (A B : Option Addr) (n c m d : Nat) (hs : List (List UInt8)) (L : List ChV) (w : World) (h : Ws w A n c hs) (hL : Chg w B m d L) (hn : n ≤ 100) (hm : m ≤ 100) (hnl : ∀ x ∈ L, x.d.n.length ≤ 100000) (hT : U8 w) :
    Calls Tryz.prog 23 #[.slice A n c, .slice B m d] w (RetPlan w hs (L.map ChV.d)) := by
  have hmax := h.max
  have hcap := h.cap
  have hmm := hL.max
  have hmm1 := @run_makeMap Tryz.prog
  have hmk := fun W => run_mk tWords rfl n (by omega) W
  have HL := Lib.hid h.len
  have HL2 := Lib.hid hL.1
  have HH := Lib.hid h; have HC := Lib.hid hL
  have HNL := Lib.hid hnl; have HT := Lib.hid hT
  clear h hL hnl hT
  obtain ⟨W3, hW3⟩ : ∃ W3, W3 = ((w.alloc (.cells (reps n (.string ⟨#[]⟩)).toArray 9)).alloc (.map #[] 0)).alloc (.cells #[.slice (some ⟨w.heap.size, 0, none⟩) n n, .map (some (w.heap.size + 1))] 77) := ⟨_, rfl⟩
  have HW3 := Lib.hid hW3
  have hg3 : Gr w W3 := by rw [hW3]; exact ((Gr.alloc w _).trans (Gr.alloc _ _)).trans (Gr.alloc _ _)
  have hb3 : Blk W3 w.heap.size 9 (reps n (.string ⟨#[]⟩)) := by
    rw [hW3]
    have := (((Blk.new w 9 (reps n (.string ⟨#[]⟩)).toArray).alloc (.map #[] 0)).alloc (.cells #[.slice (some ⟨w.heap.size, 0, none⟩) n n, .map (some (w.heap.size + 1))] 77))
    exact this
  have hp3 : W3.cell? ⟨w.heap.size + 1 + 1, 0, none⟩ = some (.slice (some ⟨w.heap.size, 0, none⟩) n n) := by
    rw [hW3]
    have := (Blk.new ((w.alloc (.cells (reps n (.string ⟨#[]⟩)).toArray 9)).alloc (.map #[] 0)) 77 #[.slice (some ⟨w.heap.size, 0, none⟩) n n, .map (some (w.heap.size + 1))]).cell 0
    simpa using this
  obtain ⟨W4, hrun4, t4, b4⟩ := copy_words 3 hb3 (HH.out.mono hg3)
  have HP4 := Lib.hid (PL.start HL.out hW3 t4 b4)
  clear hb3 t4 b4 hg3 hW3
  go_enter Tryz.func23, Tryz.ntmps23
  go_wp2_with fail
  go_step3
  go_upto_region 2 with fail
  rw [← HW3.out]
  clear hmk hmm1
  go_wp2_with fail
  go_step3
  go_wp2_with fail
  go_loopw [5, 28] (fun f i wr => ∃ j : Nat, j ≤ m ∧ f = .int .i64 0 ∧ i = .int .i64 j ∧ PLs w wr (w.heap.size + 1 + 1) w.heap.size (w.heap.size + 1) n hs ((L.take j).map ChV.d)) (fun f i _ => m - (intOf i).toNat)
  case atStart => exact ⟨0, Nat.zero_le _, rfl, rfl, rfl, [], HP4.out, rfl, rfl⟩
  case round =>
    obtain ⟨j, hj, rfl, rfl, hpl⟩ := hrel
    by_cases hlt : j < m
    · obtain ⟨hz, log, hp, hd, hll⟩ := hpl
      have hjl : j < L.length := by rw [HL2.out]; exact hlt
      have hlog : log.length ≤ 1000 := by rw [hll, List.length_map, List.length_take]; omega
      obtain ⟨b, o, rfl, c1, c2, c3, hb, _⟩ := (HC.out.mono hp.gr).row hjl
      have HS : Hid ((L.take (j + 1)).map ChV.d = (L.take j).map ChV.d ++ [L[j].d]) := by
        show _ = _
        rw [List.take_succ_eq_append_getElem hjl, List.map_append]
        rfl
      have HSP : Hid ((planC 350 (hs, []) (L.map ChV.d)).2 = faultC 350 (planC 350 (hs, []) ((L.take j).map ChV.d)).1.1 L[j].d ∨ faultC 350 (planC 350 (hs, []) ((L.take j).map ChV.d)).1.1 L[j].d = 0) := by
        by_cases hf : faultC 350 (planC 350 (hs, []) ((L.take j).map ChV.d)).1.1 L[j].d = 0
        · exact .inr hf
        · refine .inl ?_
          have e : L.map ChV.d = (L.take j).map ChV.d ++ L[j].d :: (L.drop (j + 1)).map ChV.d := by
            rw [← List.map_cons, ← List.map_append, List.getElem_cons_drop, List.take_append_drop]
          rw [e]
          exact plan_stop hz hf
      have hxn := HNL.out _ (List.getElem_mem hjl)
      have HST := Lib.hid (fun w' (h0 : faultC 350 (planC 350 (hs, []) ((L.take j).map ChV.d)).1.1 L[j].d = 0) a' m' c' (hp : PL w w' (w.heap.size + 1 + 1) w.heap.size (w.heap.size + 1) n (doC ((planC 350 (hs, []) ((L.take j).map ChV.d)).1.1, log.map TcV.d) L[j].d).1 (log ++ [⟨tcOf (slotOf (planC 350 (hs, []) ((L.take j).map ChV.d)).1.1 L[j].d).toNat L[j].d, a', m', c'⟩])) => PLs.step hz hd hll h0 hp)
      rw [← HS.out] at HST
      have HDO := Lib.hid (do_any (hp.mono (Gr.alloc wr (chO (strc L[j].d.n) L[j].a L[j].m L[j].c L[j].d.g))) (by omega) hlog L[j] (hb.mono (Gr.alloc _ _)) hxn HT.out)
      have HPJ := Lib.hid hp
      clear HS hz hd hll hp hb hxn
      generalize (planC 350 (hs, []) ((L.take j).map ChV.d)).1.1 = now at *
      generalize L[j] = x at *
      obtain ⟨⟨xn, xv, xg⟩, xa, xm, xc⟩ := x
      simp only at c1 c2 c3
      have HDO : Hid (Calls Tryz.prog 52 #[.pointer (some ⟨w.heap.size + 1 + 1, 0, none⟩), .agg #[strc xn, .slice xa xm xc, .bool xg]] (wr.alloc (chO (strc xn) xa xm xc xg)) (RetP w (w.heap.size + 1 + 1) w.heap.size (w.heap.size + 1) n now log ⟨xn, xv, xg⟩)) := HDO.out
      obtain ⟨xs, hxs⟩ : ∃ xs : ByteArray, strc xn = .string xs := ⟨_, rfl⟩
      rw [hxs] at c1 HDO
      clear hxs
      go_wp2_with fail
      refine HDO.out.mono ?_
      rintro e w1 ⟨rfl, hbad, hgood⟩
      have HBAD := Lib.hid hbad; have HGOOD := Lib.hid hgood
      clear hbad hgood HDO
      by_cases h0 : faultC 350 now ⟨xn, xv, xg⟩ = 0
      · obtain ⟨a', m', c', hp⟩ := HGOOD.out h0
        have HPL := Lib.hid (HST.out w1 h0 a' m' c' hp)
        rw [h0]
        clear hp HST HGOOD HBAD HSP h0
        go_wp2_with fail
        refine ⟨⟨j + 1, by omega, by first | trivial | rfl, by first | trivial | go_num, HPL.out⟩, ?_⟩
        show m - ((j : Int) + 1).toNat < m - (j : Int).toNat
        omega
      · have HG := Lib.hid (HBAD.out h0).gr
        have HQ : Hid ((planC 350 (hs, []) (L.map ChV.d)).2 = faultC 350 now ⟨xn, xv, xg⟩) := HSP.out.resolve_right h0
        have HQ0 := Lib.hid h0
        have t1 : ((faultC 350 now ⟨xn, xv, xg⟩ : Int) != 0) = true := by rw [bne_iff_ne]; omega
        clear HST HGOOD HBAD HSP h0
        generalize faultC 350 now ⟨xn, xv, xg⟩ = q at *
        go_wp2_with fail
        go_ret2
        exact RetPlan.bad HQ.out HQ0.out HG.out
    · obtain rfl : j = m := by omega
      rw [List.take_of_length_le (by rw [HL2.out]; omega)] at hpl
      obtain ⟨hz, log, hp, hd, hll⟩ := hpl
      have hlog : log.length ≤ 100 := by rw [hll, List.length_map, HL2.out]; omega
      obtain ⟨cp0, cp1⟩ := hp.cells
      have HSL := Lib.hid (slots_any hp (by omega))
      have HP := Lib.hid hp
      have HZ := Lib.hid hz; have HD := Lib.hid hd
      clear hp hz hd hll
      go_wp2_with fail
      refine HSL.out.1.mono ?_
      rintro e w5 ⟨rfl, rfl⟩
      go_wp2_with fail
      refine HSL.out.2.mono ?_
      rintro e w6 ⟨v6, rfl, o6⟩
      have HP6 := Lib.hid (HP.out.mono o6.below)
      have HO6 := Lib.hid o6
      obtain ⟨A6, c6, rfl, s6⟩ := o6.slice
      have hsl := slots_len log
      have HSH : Hid (∀ x ∈ slotsOf (log.map TcV.d), ∃ s : Nat, x = s ∧ ∃ t, lastV log s = some t) := fun x hx => slots_has hx
      have HOUT : Hid (∀ T : List TcV, T.map TcV.d = (slotsOf (log.map TcV.d)).filterMap (fun s => lastOf (log.map TcV.d) s.toNat) → T.map TcV.d = outOf (log.map TcV.d)) := fun T h => h
      have HS6 : Hid (Is w6 A6 (slotsOf (log.map TcV.d)).length c6 (slotsOf (log.map TcV.d))) := s6
      have hsc := s6.cap; have hsm := s6.max
      clear s6 o6 cp0 cp1 HSL HP
      generalize slotsOf (log.map TcV.d) = S at *
      go_wp2_with fail
      go_loopw [4, 48] (fun v i wq => ∃ (k : Nat) (T : List TcV), k ≤ S.length ∧ i = .int .i64 k ∧ Own w6 wq 48 4 v T.length (T.flatMap TcV.cells) ∧ T.map TcV.d = (S.take k).filterMap (fun s => lastOf (log.map TcV.d) s.toNat) ∧ (∀ x ∈ T, x ∈ log) ∧ T.length = k) (fun _ i _ => S.length - (intOf i).toNat)
      case atStart => exact ⟨0, [], Nat.zero_le _, rfl, Own.nil _ _ _, by simp, (fun x hx => by cases hx), rfl⟩
      case round =>
        obtain ⟨k, T, hk, rfl, hown, hTd, hTm, hTl⟩ := hrel
        by_cases hlt2 : k < S.length
        · obtain ⟨b6, o6, rfl, hcc⟩ := Is.addr (l := S) (HS6.out.mono hown.below) (by omega)
          have c4 := hcc k hlt2
          have hmem : iAt S k ∈ S := by rw [iAtS_get hlt2]; exact List.getElem_mem hlt2
          obtain ⟨s, hs2, t, ht⟩ := HSH.out _ hmem
          have HTK : Hid ((S.take (k + 1)).filterMap (fun s => lastOf (log.map TcV.d) s.toNat) = (S.take k).filterMap (fun s => lastOf (log.map TcV.d) s.toNat) ++ [t.d]) := by
            show _ = _
            rw [List.take_succ_eq_append_getElem hlt2, List.filterMap_append]
            congr 1
            have e : S[k] = (s : Int) := by rw [← iAtS_get hlt2]; exact hs2
            have e2 := lastV_d s log
            rw [ht] at e2
            rw [e, List.filterMap_cons, Int.toNat_natCast, ← e2]
            rfl
          rw [hs2] at c4
          clear hcc hmem
          have hps := HP6.out.mono hown.below
          have hts := (lastV_mem ht).2
          have htm := (lastV_mem ht).1
          have hsb : s ≤ 1000000 := by
            have h1 := (plan_ok _ _ rfl HZ.out).log.2.1 t.d (by rw [← HD.out]; exact List.mem_map_of_mem htm)
            rw [hts, HL.out] at h1
            omega
          have hkey : keyOf Tryz.prog 3 (.int .i64 (s : Int)) = some (.int .i64 (s : Int)) := keyOf_int_mk Tryz.underlying3 (wfI hsb)
          obtain ⟨vv, ps, hlook, hRv⟩ := hps.om.lookup (t := 75) keyedI Tryz.underlying75 (z := .agg #[.int .i64 0, .string ByteArray.empty, .slice none 0 0, .bool false]) (by kernel_rfl) (zd := .held (.agg #[.int .i64 0, .string ByteArray.empty, .slice none 0 0, .bool false])) (zp := []) rfl hkey
          have hvt : vv = t.v := by
            rw [last_at, ht] at hRv
            unfold Rv at hRv
            injection hRv with hRv
            injection hRv with h1 h2
            injection h1
          subst hvt
          obtain ⟨cp0, cp1⟩ := hps.cells
          have HPS := Lib.hid hps
          have HM : Hid (∀ x ∈ T ++ [t], x ∈ log) := fun x hx => by
            rcases List.mem_append.1 hx with hx | hx
            · exact hTm x hx
            · simp only [List.mem_singleton] at hx; subst hx; exact htm
          have HFL : Hid ((T ++ [t]).flatMap TcV.cells = T.flatMap TcV.cells ++ t.cells) := by show _ = _; simp
          have HTD : Hid ((T ++ [t]).map TcV.d = (S.take (k + 1)).filterMap (fun s => lastOf (log.map TcV.d) s.toNat)) := by show _ = _; rw [HTK.out, ← hTd]; simp
          have OW := Lib.hid hown
          clear hps ht htm hTd hTm hRv hkey hs2 HTK hown
          obtain ⟨⟨ts, th, tv, tg⟩, ta, tm, tc⟩ := t
          simp only at hts
          subst hts
          replace hlook : (Instr.lookup 75 (.map (some (w.heap.size + 1))) (.int .i64 (ts : Int)) false).run Tryz.prog wr = .ok (.agg #[.int .i64 (ts : Int), strc th, .slice ta tm tc, .bool tg]) wr := hlook
          replace HFL : Hid ((T ++ [(⟨⟨ts, th, tv, tg⟩, ta, tm, tc⟩ : TcV)]).flatMap TcV.cells = T.flatMap TcV.cells ++ [.int .i64 (ts : Int), strc th, .slice ta tm tc, .bool tg]) := HFL.out
          obtain ⟨xh, hxh⟩ : ∃ xh : ByteArray, strc th = .string xh := ⟨_, rfl⟩
          rw [hxh] at hlook HFL
          clear hxh
          go_wp2_with (at_builtin; refine wpList_push rfl (.tmp 52) (.tmp 59) 43 rfl tTc rfl OW.out #[.int .i64 (ts : Int), .string xh, .slice ta tm tc, .bool tg] rfl rfl (by intro u hu; simp at hu; rcases hu with rfl | rfl | rfl | rfl <;> rfl) (by omega) ?_; intro v7 w7 o7; have O7 := Lib.hid o7; clear o7)
          refine ⟨⟨k + 1, T ++ [⟨⟨ts, th, tv, tg⟩, ta, tm, tc⟩], by omega, by first | trivial | go_num, ?_, HTD.out, HM.out, by simp [hTl]⟩, ?_⟩
          · have := O7.out
            rw [HFL.out, List.length_append, List.length_singleton]
            exact this
          · show S.length - ((k : Int) + 1).toNat < S.length - (k : Int).toNat
            omega
        · obtain rfl : k = S.length := by omega
          rw [List.take_length] at hTd
          have HFIN : Hid (RetPlan w hs (L.map ChV.d) (.returned (.tuple #[_, .int .i64 0])) wr) := RetPlan.good HZ.out HD.out (HOUT.out T hTd) HP6.out.gr hown (fun x hx => ((HP6.out.mono hown.below).vs x (hTm x hx)).1)
          clear hown hTd hTm
          go_wp2_with fail
          go_ret2
          exact HFIN.out
end Go.Proofs.YtfemhhjmfckicaaGreatDoor

/- The laws on leaf: the chapter's example. No condition. -/
namespace Go.Proofs.YtfemhhjmfckicaaGreatDoor
open Go.RowKit Go.Maps
set_option linter.unusedVariables false
set_option linter.unusedSimpArgs false
theorem right_b : rightL [98] = true := by decide +kernel
theorem plan_ex : planC 350 ([[97], []], []) [⟨[98], [], false⟩] = (([[97], [98]], [⟨1, [98], [], false⟩]), 0) := by
  rw [plan_cons]
  have h : faultC 350 ([[97], []], ([] : List TcD)).1 ⟨[98], [], false⟩ = 0 := by
    unfold faultC
    rw [if_neg]
    · rfl
    · rintro (q | q)
      · rw [right_b] at q; cases q
      · exact absurd q.2 (by decide)
  rw [if_pos h]
  rfl
theorem out_ex : outOf [⟨1, [98], [], false⟩] = [⟨1, [98], [], false⟩] := by rfl
set_option maxHeartbeats 1000000 in
theorem alive31_any (w : World) (hT : U8 w) : Calls Tryz.prog 6 #[] w fun e w' => e = .returned (.bool true) ∧ Gr w w' := by
  obtain ⟨W, hW⟩ : ∃ W, W = (w.alloc (.cells #[.string ⟨#[97]⟩, .string ⟨#[]⟩] 9)).alloc (.cells #[.string ⟨#[98]⟩, .slice none 0 0, .bool false] 42) := ⟨_, rfl⟩
  have hg : Gr w W := by rw [hW]; exact (Gr.alloc w _).trans (Gr.alloc _ _)
  have b1 : Blk W w.heap.size 9 [strc [97], strc []] := by rw [hW]; exact (Blk.new w 9 #[strc [97], strc []]).alloc _
  have b2 : Blk W (w.heap.size + 1) 42 [strc [98], .slice none 0 0, .bool false] := by
    rw [hW]
    have := Blk.new (w.alloc (.cells #[.string ⟨#[97]⟩, .string ⟨#[]⟩] 9)) 42 #[.string ⟨#[98]⟩, .slice none 0 0, .bool false]
    have e : (w.alloc (.cells #[.string ⟨#[97]⟩, .string ⟨#[]⟩] 9)).heap.size = w.heap.size + 1 := by simp
    rw [e] at this
    exact this
  have hws : Ws W (some ⟨w.heap.size, 0, none⟩) 2 2 [[97], []] := ⟨rfl, Nat.le_refl _, by decide, fun _ => ⟨_, 0, rfl, fun j u hu => by rw [Nat.zero_add, b1.cell]; exact hu⟩⟩
  have hch : Chg W (some ⟨w.heap.size + 1, 0, none⟩) 1 1 [⟨⟨[98], [], false⟩, none, 0, 0⟩] := ⟨rfl, ⟨rfl, Nat.le_refl _, by decide, fun _ => ⟨_, 0, rfl, fun j u hu => by rw [Nat.zero_add, b2.cell]; exact hu⟩⟩, fun x hx => by
    simp only [List.mem_singleton] at hx
    subst hx
    exact ⟨Sl.nil _ _, by simp⟩⟩
  have HPL := Lib.hid (plan_any _ _ 2 2 1 1 _ _ W hws hch (by omega) (by omega) (by simp) (hT.mono hg))
  have HW := Lib.hid hW
  have HG := Lib.hid hg
  clear hT hW hg b1 b2 hws hch
  go_enter Tryz.func6, Tryz.ntmps6
  go_wp2_with fail
  rw [← HW.out]
  refine HPL.out.mono ?_
  rintro e w1 ⟨v, T, he, _, hT, ho, _⟩
  have e1 : (planC 350 ([[97], []], []) ([⟨⟨[98], [], false⟩, none, 0, 0⟩].map ChV.d)) = (([[97], [98]], [⟨1, [98], [], false⟩]), 0) := plan_ex
  rw [e1] at he hT
  have hT := hT rfl
  rw [out_ex] at hT
  subst he
  obtain ⟨t, rfl⟩ : ∃ t, T = [t] := by
    have hl := congrArg List.length hT
    rw [List.length_map] at hl
    exact List.length_eq_one_iff.1 hl
  have htd : t.d = ⟨1, [98], [], false⟩ := by simpa using hT
  obtain ⟨⟨ts, th, tv, tg⟩, ta, tm, tc⟩ := t
  simp only [TcD.mk.injEq] at htd
  obtain ⟨rfl, rfl, rfl, rfl⟩ := htd
  obtain ⟨A, c, rfl, sl⟩ := ho.slice
  obtain ⟨b, o, rfl, hc⟩ := sl.addr (by simp)
  have hcap := sl.cap; have hmax := sl.max
  have c0 : w1.cell? ⟨b, o, none⟩ = some (.int .i64 1) := hc 0 _ rfl
  have c1 : w1.cell? ⟨b, o + 1, none⟩ = some (.string ⟨#[98]⟩) := hc 1 _ rfl
  have HG1 : Hid (Gr w w1) := HG.out.trans ho.below
  clear hT ho sl hc e1
  go_wp2_with fail
  have hw2 : Ws (w1.alloc (.cells #[.string ⟨#[97]⟩] 9)) (some ⟨w1.heap.size, 0, none⟩) 1 1 [[97]] := ⟨rfl, Nat.le_refl _, by decide, fun _ => ⟨_, 0, rfl, fun j u hu => by rw [Nat.zero_add, (Blk.new w1 9 #[.string ⟨#[97]⟩]).cell]; exact hu⟩⟩
  have HFR := Lib.hid (free_any _ 1 1 [[97]] _ hw2 (by decide))
  have e3 : freeH [[97]] = -1 := by rfl
  rw [e3] at HFR
  have HG2 : Hid (Gr w (w1.alloc (.cells #[.string ⟨#[97]⟩] 9))) := Gr.trans HG1.out (Gr.alloc _ _)
  clear hw2 e3 c0 c1
  refine HFR.out.mono ?_
  rintro e w2 ⟨rfl, rfl⟩
  go_wp2_with fail
  go_ret
  exact ⟨rfl, HG2.out⟩
end Go.Proofs.YtfemhhjmfckicaaGreatDoor
