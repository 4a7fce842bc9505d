/- Who knows terms: built walked. No condition. -/
import Derived.Test.YthlnoaalhojphaaObKnowE
import Derived.Outline
namespace Go.Proofs.Ythlnoaalhojphaa
open Go.RowKit
set_option linter.unusedVariables false
abbrev Bls (w : World) (A : Option Addr) (n c : Nat) (d : List Bool) : Prop := Sl w A n c 1 (d.map boolc)
theorem kindsA_at {T : List Nd} {k : Nat} (hk : k ≤ T.length) : ((kindsA T).map i64c)[k]? = some (.int .i64 (kindOf T (k : Int) : Int)) := by
  simp [kindsA, i64c, show k < T.length + 1 by omega]
theorem kindOf_succ {T : List Nd} {i : Nat} {x : Nd} (hx : T[i]? = some x) : kindOf T ((i + 1 : Nat) : Int) = x.k ∧ partsOf T ((i + 1 : Nat) : Int) = x.parts := by
  have hi : i < T.length := (List.getElem?_eq_some_iff.1 hx).1
  have ho : outside T.length ((i + 1 : Nat) : Int) = false := by unfold outside; simp; omega
  unfold kindOf partsOf
  rw [ho]
  have : (((i + 1 : Nat) : Int)).toNat - 1 = i := by omega
  simp only [Bool.false_eq_true, if_false, this, hx]
  exact ⟨trivial, trivial⟩
/-- What a state's kinds and parts are at an id. -/
structure AtId (w0 w : World) (gk : Nat) (T : List Nd) (vk vp : Value) (k : Nat) (bk' ok' bp op' : Nat) (ck cp : Nat) (r : IRow) : Prop where
  vk : vk = .slice (some ⟨bk', ok', none⟩) (T.length + 1) ck
  vp : vp = .slice (some ⟨bp, op', none⟩) (T.length + 1) cp
  ck : T.length + 1 ≤ ck ∧ ck ≤ 9223372036854775807
  cp : T.length + 1 ≤ cp ∧ cp ≤ 9223372036854775807
  kc : w.cell? ⟨bk', ok' + k, none⟩ = some (.int .i64 (kindOf T (k : Int) : Int))
  pc : w.cell? ⟨bp, op' + k, none⟩ = some (.slice r.a r.n r.c)
  rr : Is w r.a r.n r.c r.l
  rl : r.l = (partsOf T (k : Int)).map Int.ofNat
theorem KnowFull.at {w0 w : World} {gk : Nat} {T : List Nd} {vk vp : Value} (h : KnowFull w0 w T vk vp) {k : Nat} (hk : k ≤ T.length) : ∃ b o b' o' c c' r, AtId w0 w gk T vk vp k b o b' o' c c' r := by
  obtain ⟨h1, R, h2, h3⟩ := h
  obtain ⟨A, c, rfl, s⟩ := h1.slice
  obtain ⟨A', c', e', s'⟩ := h2.1.slice
  have hl : R.length = T.length + 1 := by have := congrArg List.length h3; simpa [partsA_len] using this
  rw [hl] at e' s'
  obtain ⟨b, o, rfl, hc⟩ := s.addr (by omega)
  obtain ⟨b', o', rfl, hc'⟩ := s'.addr (by omega)
  have hr : R[k]? = some (R[k]'(by omega)) := List.getElem?_eq_getElem (by omega)
  refine ⟨b, o, b', o', c, c', R[k]'(by omega), rfl, e', ⟨s.cap, s.max⟩, ⟨s'.cap, s'.max⟩, hc k _ (kindsA_at hk), hc' k _ (by rw [List.getElem?_map, hr]; rfl), (h2.2 _ (List.getElem_mem _)).1, ?_⟩
  have h4 : (R.map IRow.l)[k]? = (partsA T)[k]? := by rw [h3]
  rw [List.getElem?_map, hr] at h4
  simp [partsA, show k < T.length + 1 by omega] at h4
  exact h4
theorem AtId.gr {w0 w w' : World} {gk : Nat} {T : List Nd} {vk vp : Value} {k b o b' o' c c' : Nat} {r : IRow} (h : AtId w0 w gk T vk vp k b o b' o' c c' r) (hg : Gr w w') : AtId w0 w' gk T vk vp k b o b' o' c c' r :=
  ⟨h.vk, h.vp, h.ck, h.cp, (Below.cell hg (World.block_lt_of_cell? w _ h.kc)).trans h.kc, (Below.cell hg (World.block_lt_of_cell? w _ h.pc)).trans h.pc, h.rr.mono hg, h.rl⟩
theorem built_next {T : List Nd} {had : List Bool} {i : Nat} {x : Nd} (hx : T[i]? = some x) : builtTo T had (i + 1) = (builtTo T had i).set (i + 1) (dAt had (i + 1) || (decide (x.k ≠ 1) && !(x.parts.map Int.ofNat).any fun z => !dAt (builtTo T had i) z.toNat)) := by
  conv => lhs; unfold builtTo
  rw [hx]
  unfold builtOne
  have e : ∀ l : List Nat, l.all (dAt (builtTo T had i)) = !(l.map Int.ofNat).any fun z => !dAt (builtTo T had i) z.toNat := fun l => by
    induction l with
    | nil => rfl
    | cons a l ih => rw [List.all_cons, List.map_cons, List.any_cons, ih, Bool.not_or]; simp
  dsimp only
  rw [e]
set_option maxRecDepth 100000 in
set_option maxHeartbeats 400000 in
theorem built_any (w0 : World) (gk g bk N : Nat) (T : List Nd) (l : List Int) (vk vp vi : Value) (A : Option Addr) (c : Nat) (had : List Bool) (w : World) (h : KnF w0 w gk g bk N T l vk vp vi) (hf : KnowFull w0 w T vk vp) (hh : Bls w A (T.length + 1) c had) (hn : T.length ≤ 1000) (hT : Parted T) :
    Calls Try.prog 52 #[.pointer (some ⟨gk, 0, none⟩), .slice A (T.length + 1) c] w fun e w' => ∃ go, w.heap.size ≤ go ∧ e = .returned (.slice (some ⟨go, 0, none⟩) (T.length + 1) (T.length + 1)) ∧ Blk w' go 4 ((builtL T had).map boolc) ∧ Gr w w' := by
  have hmax := hh.max; have hcap := hh.cap
  have H := Lib.hid h; have HF := Lib.hid hf; have HH := Lib.hid hh; have HP := Lib.hid hT
  have HBK : Hid (∀ wq, Gr w wq → wq.cell? ⟨gk, 2, none⟩ = some vk ∧ wq.cell? ⟨gk, 3, none⟩ = some vp) := fun wq hq => ⟨((hq.blk H.out.blk).cell 2).trans rfl, ((hq.blk H.out.blk).cell 3).trans rfl⟩
  have HAT : Hid (∀ k, k ≤ T.length → ∃ b o b' o' c c' r, AtId w0 w gk T vk vp k b o b' o' c c' r) := fun k hk => hf.at hk
  obtain ⟨n, hN⟩ : ∃ n, n = T.length + 1 := ⟨_, rfl⟩
  have HHL : Hid (had.length = n) := by have := hh.1; simp at this; rw [hN]; exact this
  have hn' : n ≤ 1001 := by omega
  have hn1 : 1 ≤ n := by omega
  rw [← hN] at hcap ⊢
  have HN := Lib.hid hN
  have hmk := fun w => run_mk tBools rfl n (by omega) w
  clear h hf hh hN hT hn
  go_enter Try.func52, Try.ntmps52
  go_wp2_with fail
  clear hmk
  go_loopw [7] (fun i wr => ∃ k : Nat, 1 ≤ k ∧ k ≤ n ∧ i = .int .i64 k ∧ Blk wr w.heap.size 4 ((builtTo T had (k - 1)).map boolc) ∧ Blk wr (w.heap.size + 1) 34 [.slice (some ⟨w.heap.size, 0, none⟩) n n] ∧ Gr w wr) (fun i _ => n - (Go.RowKit.intOf i).toNat)
  case atStart =>
    have h1 := (Blk.new w 4 (reps n (.bool false)).toArray).alloc (.cells #[.slice (some ⟨w.heap.size, 0, none⟩) n n] 34)
    have h2 := Blk.new (w.alloc (.cells (reps n (.bool false)).toArray 4)) 34 #[.slice (some ⟨w.heap.size, 0, none⟩) n n]
    rw [show (w.alloc (.cells (reps n (.bool false)).toArray 4)).heap.size = w.heap.size + 1 by simp] at h2
    refine ⟨1, Nat.le_refl _, hn1, rfl, ?_, h2, (Gr.alloc _ _).trans (Gr.alloc _ _)⟩
    have e : (builtTo T had (1 - 1)).map boolc = (reps n (.bool false)) := by
      show (List.replicate (T.length + 1) false).map boolc = _
      rw [← HN.out, List.map_replicate]; rfl
    rw [e]
    exact h1
  case round =>
    obtain ⟨k, hk1, hkn, rfl, hbo, hbp, hgr⟩ := hrel
    have BO := Lib.hid hbo; have BP := Lib.hid hbp; have G := Lib.hid hgr; clear hbo hbp hgr
    have p0 : wr.cell? ⟨w.heap.size + 1, 0, none⟩ = some (.slice (some ⟨w.heap.size, 0, none⟩) n n) := (BP.out.cell 0).trans rfl
    by_cases hlt : k < n
    · have t0 : decide ((k : Int) < (n : Int)) = true := decide_eq_true (by omega)
      obtain ⟨b1, o1, b2, o2, c1, c2, r, hat⟩ := HAT.out k (by have := HN.out; omega)
      have AT := Lib.hid hat
      have hvk := hat.vk; have hvp := hat.vp
      rw [← HN.out] at hvk hvp
      have hc1 := hat.ck; have hc2 := hat.cp
      rw [← HN.out] at hc1 hc2
      subst hvk hvp
      have hrc := hat.rr.cap; have hrm := hat.rr.max
      obtain ⟨bh, oh, rfl, hhc⟩ := Sl.addr HH.out (by have := HN.out; omega)
      have ch := hhc k _ (boolc_at (by rw [HHL.out]; exact hlt))
      have FA : Hid (∀ wq, Gr wr wq → wq.cell? ⟨bh, oh + k, none⟩ = some (.bool (dAt had k)) ∧ wq.cell? ⟨gk, 2, none⟩ = some (.slice (some ⟨b1, o1, none⟩) n c1) ∧ wq.cell? ⟨gk, 3, none⟩ = some (.slice (some ⟨b2, o2, none⟩) n c2) ∧ wq.cell? ⟨b1, o1 + k, none⟩ = some (.int .i64 (kindOf T (k : Int) : Int)) ∧ wq.cell? ⟨b2, o2 + k, none⟩ = some (.slice r.a r.n r.c) ∧ wq.cell? ⟨w.heap.size + 1, 0, none⟩ = some (.slice (some ⟨w.heap.size, 0, none⟩) n n)) := fun wq hq => by
        obtain ⟨z2, z3⟩ := HBK.out wq (G.out.trans hq)
        have hq' := AT.out.gr (G.out.trans hq)
        exact ⟨(Below.cell (G.out.trans hq) (World.block_lt_of_cell? w _ ch)).trans ch, z2, z3, hq'.kc, hq'.pc, ((hq.blk BP.out).cell 0).trans rfl⟩
      obtain ⟨i, hki⟩ : ∃ i, k = i + 1 := ⟨k - 1, by omega⟩
      obtain ⟨x, hx⟩ : ∃ x, T[i]? = some x := ⟨T[i]'(by have := HN.out; omega), List.getElem?_eq_getElem _⟩
      obtain ⟨ek, ep⟩ := kindOf_succ hx
      rw [← hki] at ek ep
      have HNX := Lib.hid (built_next (had := had) hx)
      rw [ek] at FA
      have hP := HP.out i x hx
      have hxk := hP.1
      have HPS := Lib.hid hP.2
      have HR := Lib.hid (AT.out.rl.trans (by rw [ep]))
      have HKI := Lib.hid hki
      have hpo : ∀ z ∈ r.l, ∃ p : Nat, z = (p : Int) ∧ p < n := fun z hz => by
        rw [HR.out] at hz
        obtain ⟨p, hp, rfl⟩ := List.mem_map.1 hz
        have := HPS.out p hp
        have := HN.out
        have := HKI.out
        exact ⟨p, rfl, by omega⟩
      have HPO := Lib.hid hpo
      clear hki hx ek ep hP hat hhc ch hpo
      have HBL : Hid ((builtTo T had (k - 1)).length = n) := by show _ = _; rw [builtTo_len, HN.out]
      have HCF : Hid (∀ wq, Gr wr wq → Calls Try.prog 53 #[.slice r.a r.n r.c, .func (.func 58) #[] #[.pointer (some ⟨w.heap.size + 1, 0, none⟩)]] wq fun e w' => e = .returned (.bool (r.l.any fun z => !dAt (builtTo T had (k - 1)) z.toNat)) ∧ Gr wq w') := fun wq hq =>
        containsBuilt (.pointer (some ⟨w.heap.size + 1, 0, none⟩)) r.a r.n r.c r.l (fun z => !dAt (builtTo T had (k - 1)) z.toNat) wq (AT.out.rr.mono (G.out.trans hq)) (fun z hz w' hw => by
          obtain ⟨p, rfl, hp⟩ := HPO.out z hz
          refine (missing_any (w.heap.size + 1) w.heap.size n n (builtTo T had (k - 1)) p w' (((hw.blk (hq.blk BP.out)).cell 0).trans rfl) (((hw.blk (hq.blk BO.out)).cell p).trans (boolc_at (by rw [HBL.out]; exact hp))) hp (by omega)).mono ?_
          rintro e w'' ⟨rfl, g⟩
          exact ⟨rfl, g⟩)
      have HNX2 : Hid (∀ v, v = (dAt had k || (decide (x.k ≠ 1) && !(r.l.any fun z => !dAt (builtTo T had (k - 1)) z.toNat))) → (builtTo T had k) = (builtTo T had (k - 1)).set k v) := fun v hv => by
        have h := HNX.out
        rw [hv, HR.out]
        rw [← HKI.out] at h
        rw [h, show k - 1 = i by have := HKI.out; omega]
      generalize builtTo T had (k - 1) = out at *
      generalize hq' : (r.l.any fun z => !dAt out z.toNat) = q at *
      have HQ := Lib.hid hq'; clear hq'
      have hlo := HBL.out
      generalize dAt had k = h0 at *
      cases h0 with
      | true =>
        go_wp2_with fail
        refine wp_region_grow (by kernel_rfl) [0, 0, 0, 0, 12, 28, 60, 124, 252, 508, 1020, 124, 4092, 8188, 16380, 32764, 65532, 131068, 262140, 524284, 65532, 2097148, 4194300, 65532, 16777212, 33554428, 67108860, 134217724, 268435455, 536870911] [.p 1, .p 2, .p 3, .p 4, .q 0, .q 5, .p 6, .p 7, .p 8, .p 9, .p 11, .q 10, .p 12, .q 13, .p 14, .p 15, .p 16, .p 17, .p 18, .p 20, .p 23, .q 19, .p 21, .q 22, .c 24, .p 25, .p 26, .p 27, .p 28, .s 29] (by kernel_rfl) (trivial) ?_
        refine wpG_pe rfl rfl ?_
        apply Exists.intro
        refine ⟨fun wq => ?_, ?_⟩
        · unfold plainAt
          go_simp
          first | exact rfl | exact ⟨rfl, rfl⟩
        go_simp
        refine wpG_pe rfl rfl ?_
        apply Exists.intro
        refine ⟨fun wq => ?_, ?_⟩
        · unfold plainAt
          go_simp
          first | exact rfl | exact ⟨rfl, rfl⟩
        go_simp
        refine wpG_pe rfl rfl ?_
        apply Exists.intro
        refine ⟨fun wq => ?_, ?_⟩
        · unfold plainAt
          go_simp
          first | exact rfl | exact ⟨rfl, rfl⟩
        go_simp
        refine wpG_pe rfl rfl ?_
        apply Exists.intro
        refine ⟨fun wq => ?_, ?_⟩
        · unfold plainAt
          go_simp
          first | exact rfl | exact ⟨rfl, rfl⟩
        go_simp
        refine wpG_qe rfl rfl ?_
        apply Exists.intro
        refine ⟨fun wq hq => ?_, ?_⟩
        · obtain ⟨y0, y1, y2, y3, y4, y5⟩ := FA.out wq ((Gr.drew _).trans hq)
          unfold plainAt
          go_simp
          first | exact rfl | exact ⟨rfl, rfl⟩
        go_simp
        refine wpG_qe rfl rfl ?_
        apply Exists.intro
        refine ⟨fun wq hq => ?_, ?_⟩
        · obtain ⟨y0, y1, y2, y3, y4, y5⟩ := FA.out wq ((Gr.drew _).trans hq)
          unfold plainAt
          go_simp
          first | exact rfl | exact ⟨rfl, rfl⟩
        go_simp
        refine wpG_pe rfl rfl ?_
        apply Exists.intro
        refine ⟨fun wq => ?_, ?_⟩
        · unfold plainAt
          go_simp
          first | exact rfl | exact ⟨rfl, rfl⟩
        go_simp
        first | refine wpG_skip_p rfl rfl ?_ | refine wpG_skip_q rfl rfl ?_ | refine wpG_skip_c rfl rfl ?_
        go_simp
        first | refine wpG_skip_p rfl rfl ?_ | refine wpG_skip_q rfl rfl ?_ | refine wpG_skip_c rfl rfl ?_
        go_simp
        first | refine wpG_skip_p rfl rfl ?_ | refine wpG_skip_q rfl rfl ?_ | refine wpG_skip_c rfl rfl ?_
        go_simp
        first | refine wpG_skip_p rfl rfl ?_ | refine wpG_skip_q rfl rfl ?_ | refine wpG_skip_c rfl rfl ?_
        go_simp
        first | refine wpG_skip_p rfl rfl ?_ | refine wpG_skip_q rfl rfl ?_ | refine wpG_skip_c rfl rfl ?_
        go_simp
        first | refine wpG_skip_p rfl rfl ?_ | refine wpG_skip_q rfl rfl ?_ | refine wpG_skip_c rfl rfl ?_
        go_simp
        first | refine wpG_skip_p rfl rfl ?_ | refine wpG_skip_q rfl rfl ?_ | refine wpG_skip_c rfl rfl ?_
        go_simp
        first | refine wpG_skip_p rfl rfl ?_ | refine wpG_skip_q rfl rfl ?_ | refine wpG_skip_c rfl rfl ?_
        go_simp
        first | refine wpG_skip_p rfl rfl ?_ | refine wpG_skip_q rfl rfl ?_ | refine wpG_skip_c rfl rfl ?_
        go_simp
        first | refine wpG_skip_p rfl rfl ?_ | refine wpG_skip_q rfl rfl ?_ | refine wpG_skip_c rfl rfl ?_
        go_simp
        first | refine wpG_skip_p rfl rfl ?_ | refine wpG_skip_q rfl rfl ?_ | refine wpG_skip_c rfl rfl ?_
        go_simp
        first | refine wpG_skip_p rfl rfl ?_ | refine wpG_skip_q rfl rfl ?_ | refine wpG_skip_c rfl rfl ?_
        go_simp
        first | refine wpG_skip_p rfl rfl ?_ | refine wpG_skip_q rfl rfl ?_ | refine wpG_skip_c rfl rfl ?_
        go_simp
        first | refine wpG_skip_p rfl rfl ?_ | refine wpG_skip_q rfl rfl ?_ | refine wpG_skip_c rfl rfl ?_
        go_simp
        first | refine wpG_skip_p rfl rfl ?_ | refine wpG_skip_q rfl rfl ?_ | refine wpG_skip_c rfl rfl ?_
        go_simp
        first | refine wpG_skip_p rfl rfl ?_ | refine wpG_skip_q rfl rfl ?_ | refine wpG_skip_c rfl rfl ?_
        go_simp
        first | refine wpG_skip_p rfl rfl ?_ | refine wpG_skip_q rfl rfl ?_ | refine wpG_skip_c rfl rfl ?_
        go_simp
        first | refine wpG_skip_p rfl rfl ?_ | refine wpG_skip_q rfl rfl ?_ | refine wpG_skip_c rfl rfl ?_
        go_simp
        first | refine wpG_skip_p rfl rfl ?_ | refine wpG_skip_q rfl rfl ?_ | refine wpG_skip_c rfl rfl ?_
        go_simp
        first | refine wpG_skip_p rfl rfl ?_ | refine wpG_skip_q rfl rfl ?_ | refine wpG_skip_c rfl rfl ?_
        go_simp
        refine wpG_pe rfl rfl ?_
        apply Exists.intro
        refine ⟨fun wq => ?_, ?_⟩
        · unfold plainAt
          go_simp
          first | exact rfl | exact ⟨rfl, rfl⟩
        go_simp
        refine wpG_pe rfl rfl ?_
        apply Exists.intro
        refine ⟨fun wq => ?_, ?_⟩
        · unfold plainAt
          go_simp
          first | exact rfl | exact ⟨rfl, rfl⟩
        go_simp
        refine wpG_s rfl rfl ?_
        intro w5 g5 K hK
        have B5 := Lib.hid (((Gr.drew _).trans g5).blk BO.out)
        have G5 := Lib.hid ((G.out.trans (Gr.drew _)).trans g5)
        have BP5 := Lib.hid (((Gr.drew _).trans g5).blk BP.out)
        have x0 : w5.cell? ⟨w.heap.size, k, none⟩ = some (.bool (dAt out k)) := (B5.out.cell k).trans (boolc_at (by rw [hlo]; exact hlt))
        have y0 := B5.out.free k
        have hl5 := B5.out.lt
        clear g5
        go_simp
        refine hK _ _ ?_
        clear hK x0 y0
        go_simp
        refine wpG_nil ?_
        intro w6 g6
        have B6 := Lib.hid (g6.blk (B5.out.set k (.bool true)))
        have G6 := Lib.hid ((G5.out.setCell (p := ⟨w.heap.size, k, none⟩) (Nat.le_refl _) (.bool true)).trans (Below.mono g6 (by have := G5.out.size; simp [World.setCell]; omega)))
        have BP6 := Lib.hid (g6.blk (BP5.out.far (p := ⟨w.heap.size, k, none⟩) (by simp) (.bool true)))
        clear g6
        go_wp2_with fail
        refine ⟨⟨k + 1, by omega, by omega, by simp, ?_, BP6.out, G6.out⟩, by simp [Go.RowKit.intOf]; omega⟩
        rw [show k + 1 - 1 = k by omega]
        have h6 := B6.out
        rw [HNX2.out true (by simp), List.map_set]
        exact h6
      | false =>
        by_cases hk1' : x.k = 1
        · rw [hk1'] at FA
          have HE : Hid (decide (x.k ≠ 1) = false) := by show _ = _; simp [hk1']
          clear hxk hk1'
          go_wp2_with fail
          refine wp_region_grow (by kernel_rfl) [0, 0, 0, 0, 12, 28, 60, 124, 252, 508, 1020, 124, 4092, 8188, 16380, 32764, 65532, 131068, 262140, 524284, 65532, 2097148, 4194300, 65532, 16777212, 33554428, 67108860, 134217724, 268435455, 536870911] [.p 1, .p 2, .p 3, .p 4, .q 0, .q 5, .p 6, .p 7, .p 8, .p 9, .p 11, .q 10, .p 12, .q 13, .p 14, .p 15, .p 16, .p 17, .p 18, .p 20, .p 23, .q 19, .p 21, .q 22, .c 24, .p 25, .p 26, .p 27, .p 28, .s 29] (by kernel_rfl) (trivial) ?_
          refine wpG_pe rfl rfl ?_
          apply Exists.intro
          refine ⟨fun wq => ?_, ?_⟩
          · unfold plainAt
            go_simp
            first | exact rfl | exact ⟨rfl, rfl⟩
          go_simp
          refine wpG_pe rfl rfl ?_
          apply Exists.intro
          refine ⟨fun wq => ?_, ?_⟩
          · unfold plainAt
            go_simp
            first | exact rfl | exact ⟨rfl, rfl⟩
          go_simp
          refine wpG_pe rfl rfl ?_
          apply Exists.intro
          refine ⟨fun wq => ?_, ?_⟩
          · unfold plainAt
            go_simp
            first | exact rfl | exact ⟨rfl, rfl⟩
          go_simp
          refine wpG_pe rfl rfl ?_
          apply Exists.intro
          refine ⟨fun wq => ?_, ?_⟩
          · unfold plainAt
            go_simp
            first | exact rfl | exact ⟨rfl, rfl⟩
          go_simp
          refine wpG_qe rfl rfl ?_
          apply Exists.intro
          refine ⟨fun wq hq => ?_, ?_⟩
          · obtain ⟨y0, y1, y2, y3, y4, y5⟩ := FA.out wq ((Gr.drew _).trans hq)
            unfold plainAt
            go_simp
            first | exact rfl | exact ⟨rfl, rfl⟩
          go_simp
          refine wpG_qe rfl rfl ?_
          apply Exists.intro
          refine ⟨fun wq hq => ?_, ?_⟩
          · obtain ⟨y0, y1, y2, y3, y4, y5⟩ := FA.out wq ((Gr.drew _).trans hq)
            unfold plainAt
            go_simp
            first | exact rfl | exact ⟨rfl, rfl⟩
          go_simp
          refine wpG_pe rfl rfl ?_
          apply Exists.intro
          refine ⟨fun wq => ?_, ?_⟩
          · unfold plainAt
            go_simp
            first | exact rfl | exact ⟨rfl, rfl⟩
          go_simp
          refine wpG_pe rfl rfl ?_
          apply Exists.intro
          refine ⟨fun wq => ?_, ?_⟩
          · unfold plainAt
            go_simp
            first | exact rfl | exact ⟨rfl, rfl⟩
          go_simp
          refine wpG_pe rfl rfl ?_
          apply Exists.intro
          refine ⟨fun wq => ?_, ?_⟩
          · unfold plainAt
            go_simp
            first | exact rfl | exact ⟨rfl, rfl⟩
          go_simp
          refine wpG_pe rfl rfl ?_
          apply Exists.intro
          refine ⟨fun wq => ?_, ?_⟩
          · unfold plainAt
            go_simp
            first | exact rfl | exact ⟨rfl, rfl⟩
          go_simp
          refine wpG_pe rfl rfl ?_
          apply Exists.intro
          refine ⟨fun wq => ?_, ?_⟩
          · unfold plainAt
            go_simp
            first | exact rfl | exact ⟨rfl, rfl⟩
          go_simp
          refine wpG_qe rfl rfl ?_
          apply Exists.intro
          refine ⟨fun wq hq => ?_, ?_⟩
          · obtain ⟨y0, y1, y2, y3, y4, y5⟩ := FA.out wq ((Gr.drew _).trans hq)
            unfold plainAt
            go_simp
            first | exact rfl | exact ⟨rfl, rfl⟩
          go_simp
          refine wpG_pe rfl rfl ?_
          apply Exists.intro
          refine ⟨fun wq => ?_, ?_⟩
          · unfold plainAt
            go_simp
            first | exact rfl | exact ⟨rfl, rfl⟩
          go_simp
          refine wpG_qe rfl rfl ?_
          apply Exists.intro
          refine ⟨fun wq hq => ?_, ?_⟩
          · obtain ⟨y0, y1, y2, y3, y4, y5⟩ := FA.out wq ((Gr.drew _).trans hq)
            unfold plainAt
            go_simp
            first | exact rfl | exact ⟨rfl, rfl⟩
          go_simp
          refine wpG_pe rfl rfl ?_
          apply Exists.intro
          refine ⟨fun wq => ?_, ?_⟩
          · unfold plainAt
            go_simp
            first | exact rfl | exact ⟨rfl, rfl⟩
          go_simp
          refine wpG_pe rfl rfl ?_
          apply Exists.intro
          refine ⟨fun wq => ?_, ?_⟩
          · unfold plainAt
            go_simp
            first | exact rfl | exact ⟨rfl, rfl⟩
          go_simp
          first | refine wpG_skip_p rfl rfl ?_ | refine wpG_skip_q rfl rfl ?_ | refine wpG_skip_c rfl rfl ?_
          go_simp
          first | refine wpG_skip_p rfl rfl ?_ | refine wpG_skip_q rfl rfl ?_ | refine wpG_skip_c rfl rfl ?_
          go_simp
          first | refine wpG_skip_p rfl rfl ?_ | refine wpG_skip_q rfl rfl ?_ | refine wpG_skip_c rfl rfl ?_
          go_simp
          first | refine wpG_skip_p rfl rfl ?_ | refine wpG_skip_q rfl rfl ?_ | refine wpG_skip_c rfl rfl ?_
          go_simp
          first | refine wpG_skip_p rfl rfl ?_ | refine wpG_skip_q rfl rfl ?_ | refine wpG_skip_c rfl rfl ?_
          go_simp
          first | refine wpG_skip_p rfl rfl ?_ | refine wpG_skip_q rfl rfl ?_ | refine wpG_skip_c rfl rfl ?_
          go_simp
          first | refine wpG_skip_p rfl rfl ?_ | refine wpG_skip_q rfl rfl ?_ | refine wpG_skip_c rfl rfl ?_
          go_simp
          first | refine wpG_skip_p rfl rfl ?_ | refine wpG_skip_q rfl rfl ?_ | refine wpG_skip_c rfl rfl ?_
          go_simp
          first | refine wpG_skip_p rfl rfl ?_ | refine wpG_skip_q rfl rfl ?_ | refine wpG_skip_c rfl rfl ?_
          go_simp
          first | refine wpG_skip_p rfl rfl ?_ | refine wpG_skip_q rfl rfl ?_ | refine wpG_skip_c rfl rfl ?_
          go_simp
          refine wpG_pe rfl rfl ?_
          apply Exists.intro
          refine ⟨fun wq => ?_, ?_⟩
          · unfold plainAt
            go_simp
            first | exact rfl | exact ⟨rfl, rfl⟩
          go_simp
          refine wpG_pe rfl rfl ?_
          apply Exists.intro
          refine ⟨fun wq => ?_, ?_⟩
          · unfold plainAt
            go_simp
            first | exact rfl | exact ⟨rfl, rfl⟩
          go_simp
          refine wpG_pe rfl rfl ?_
          apply Exists.intro
          refine ⟨fun wq => ?_, ?_⟩
          · unfold plainAt
            go_simp
            first | exact rfl | exact ⟨rfl, rfl⟩
          go_simp
          refine wpG_s rfl rfl ?_
          intro w5 g5 K hK
          have B5 := Lib.hid (((Gr.drew _).trans g5).blk BO.out)
          have G5 := Lib.hid ((G.out.trans (Gr.drew _)).trans g5)
          have BP5 := Lib.hid (((Gr.drew _).trans g5).blk BP.out)
          have x0 : w5.cell? ⟨w.heap.size, k, none⟩ = some (.bool (dAt out k)) := (B5.out.cell k).trans (boolc_at (by rw [hlo]; exact hlt))
          have y0 := B5.out.free k
          have hl5 := B5.out.lt
          clear g5
          go_simp
          refine hK _ _ ?_
          clear hK x0 y0
          go_simp
          refine wpG_nil ?_
          intro w6 g6
          have B6 := Lib.hid (g6.blk (B5.out.set k (.bool false)))
          have G6 := Lib.hid ((G5.out.setCell (p := ⟨w.heap.size, k, none⟩) (Nat.le_refl _) (.bool false)).trans (Below.mono g6 (by have := G5.out.size; simp [World.setCell]; omega)))
          have BP6 := Lib.hid (g6.blk (BP5.out.far (p := ⟨w.heap.size, k, none⟩) (by simp) (.bool false)))
          clear g6
          go_wp2_with fail
          refine ⟨⟨k + 1, by omega, by omega, by simp, ?_, BP6.out, G6.out⟩, by simp [Go.RowKit.intOf]; omega⟩
          rw [show k + 1 - 1 = k by omega]
          have h6 := B6.out
          rw [HNX2.out false (by rw [HE.out]; rfl), List.map_set]
          exact h6
        · have HE : Hid (decide (x.k ≠ 1) = true) := by show _ = _; simp [hk1']
          have tk : ((x.k : Int) != 1) = true := by rw [bne_iff_ne]; omega
          have tk2 : ((x.k : Int) == 1) = false := by rw [beq_eq_false_iff_ne]; omega
          clear hxk hk1'
          go_wp2_with fail
          refine wp_region_grow (by kernel_rfl) [0, 0, 0, 0, 12, 28, 60, 124, 252, 508, 1020, 124, 4092, 8188, 16380, 32764, 65532, 131068, 262140, 524284, 65532, 2097148, 4194300, 65532, 16777212, 33554428, 67108860, 134217724, 268435455, 536870911] [.p 1, .p 2, .p 3, .p 4, .q 0, .q 5, .p 6, .p 7, .p 8, .p 9, .p 11, .q 10, .p 12, .q 13, .p 14, .p 15, .p 16, .p 17, .p 18, .p 20, .p 23, .q 19, .p 21, .q 22, .c 24, .p 25, .p 26, .p 27, .p 28, .s 29] (by kernel_rfl) (trivial) ?_
          refine wpG_pe rfl rfl ?_
          apply Exists.intro
          refine ⟨fun wq => ?_, ?_⟩
          · unfold plainAt
            go_simp
            first | exact rfl | exact ⟨rfl, rfl⟩
          go_simp
          refine wpG_pe rfl rfl ?_
          apply Exists.intro
          refine ⟨fun wq => ?_, ?_⟩
          · unfold plainAt
            go_simp
            first | exact rfl | exact ⟨rfl, rfl⟩
          go_simp
          refine wpG_pe rfl rfl ?_
          apply Exists.intro
          refine ⟨fun wq => ?_, ?_⟩
          · unfold plainAt
            go_simp
            first | exact rfl | exact ⟨rfl, rfl⟩
          go_simp
          refine wpG_pe rfl rfl ?_
          apply Exists.intro
          refine ⟨fun wq => ?_, ?_⟩
          · unfold plainAt
            go_simp
            first | exact rfl | exact ⟨rfl, rfl⟩
          go_simp
          refine wpG_qe rfl rfl ?_
          apply Exists.intro
          refine ⟨fun wq hq => ?_, ?_⟩
          · obtain ⟨y0, y1, y2, y3, y4, y5⟩ := FA.out wq ((Gr.drew _).trans hq)
            unfold plainAt
            go_simp
            first | exact rfl | exact ⟨rfl, rfl⟩
          go_simp
          refine wpG_qe rfl rfl ?_
          apply Exists.intro
          refine ⟨fun wq hq => ?_, ?_⟩
          · obtain ⟨y0, y1, y2, y3, y4, y5⟩ := FA.out wq ((Gr.drew _).trans hq)
            unfold plainAt
            go_simp
            first | exact rfl | exact ⟨rfl, rfl⟩
          go_simp
          refine wpG_pe rfl rfl ?_
          apply Exists.intro
          refine ⟨fun wq => ?_, ?_⟩
          · unfold plainAt
            go_simp
            first | exact rfl | exact ⟨rfl, rfl⟩
          go_simp
          refine wpG_pe rfl rfl ?_
          apply Exists.intro
          refine ⟨fun wq => ?_, ?_⟩
          · unfold plainAt
            go_simp
            first | exact rfl | exact ⟨rfl, rfl⟩
          go_simp
          refine wpG_pe rfl rfl ?_
          apply Exists.intro
          refine ⟨fun wq => ?_, ?_⟩
          · unfold plainAt
            go_simp
            first | exact rfl | exact ⟨rfl, rfl⟩
          go_simp
          refine wpG_pe rfl rfl ?_
          apply Exists.intro
          refine ⟨fun wq => ?_, ?_⟩
          · unfold plainAt
            go_simp
            first | exact rfl | exact ⟨rfl, rfl⟩
          go_simp
          refine wpG_pe rfl rfl ?_
          apply Exists.intro
          refine ⟨fun wq => ?_, ?_⟩
          · unfold plainAt
            go_simp
            first | exact rfl | exact ⟨rfl, rfl⟩
          go_simp
          refine wpG_qe rfl rfl ?_
          apply Exists.intro
          refine ⟨fun wq hq => ?_, ?_⟩
          · obtain ⟨y0, y1, y2, y3, y4, y5⟩ := FA.out wq ((Gr.drew _).trans hq)
            unfold plainAt
            go_simp
            first | exact rfl | exact ⟨rfl, rfl⟩
          go_simp
          refine wpG_pe rfl rfl ?_
          apply Exists.intro
          refine ⟨fun wq => ?_, ?_⟩
          · unfold plainAt
            go_simp
            first | exact rfl | exact ⟨rfl, rfl⟩
          go_simp
          refine wpG_qe rfl rfl ?_
          apply Exists.intro
          refine ⟨fun wq hq => ?_, ?_⟩
          · obtain ⟨y0, y1, y2, y3, y4, y5⟩ := FA.out wq ((Gr.drew _).trans hq)
            unfold plainAt
            go_simp
            first | exact rfl | exact ⟨rfl, rfl⟩
          go_simp
          refine wpG_pe rfl rfl ?_
          apply Exists.intro
          refine ⟨fun wq => ?_, ?_⟩
          · unfold plainAt
            go_simp
            first | exact rfl | exact ⟨rfl, rfl⟩
          go_simp
          refine wpG_pe rfl rfl ?_
          apply Exists.intro
          refine ⟨fun wq => ?_, ?_⟩
          · unfold plainAt
            go_simp
            first | exact rfl | exact ⟨rfl, rfl⟩
          go_simp
          refine wpG_pe rfl rfl ?_
          apply Exists.intro
          refine ⟨fun wq => ?_, ?_⟩
          · unfold plainAt
            go_simp
            first | exact rfl | exact ⟨rfl, rfl⟩
          go_simp
          refine wpG_pe rfl rfl ?_
          apply Exists.intro
          refine ⟨fun wq => ?_, ?_⟩
          · unfold plainAt
            go_simp
            first | exact rfl | exact ⟨rfl, rfl⟩
          go_simp
          refine wpG_pe rfl rfl ?_
          apply Exists.intro
          refine ⟨fun wq => ?_, ?_⟩
          · unfold plainAt
            go_simp
            first | exact rfl | exact ⟨rfl, rfl⟩
          go_simp
          refine wpG_pe rfl rfl ?_
          apply Exists.intro
          refine ⟨fun wq => ?_, ?_⟩
          · unfold plainAt
            go_simp
            first | exact rfl | exact ⟨rfl, rfl⟩
          go_simp
          refine wpG_pe rfl rfl ?_
          apply Exists.intro
          refine ⟨fun wq => ?_, ?_⟩
          · unfold plainAt
            go_simp
            first | exact rfl | exact ⟨rfl, rfl⟩
          go_simp
          refine wpG_qe rfl rfl ?_
          apply Exists.intro
          refine ⟨fun wq hq => ?_, ?_⟩
          · obtain ⟨y0, y1, y2, y3, y4, y5⟩ := FA.out wq ((Gr.drew _).trans hq)
            unfold plainAt
            go_simp
            first | exact rfl | exact ⟨rfl, rfl⟩
          go_simp
          refine wpG_pe rfl rfl ?_
          apply Exists.intro
          refine ⟨fun wq => ?_, ?_⟩
          · unfold plainAt
            go_simp
            first | exact rfl | exact ⟨rfl, rfl⟩
          go_simp
          refine wpG_qe rfl rfl ?_
          apply Exists.intro
          refine ⟨fun wq hq => ?_, ?_⟩
          · obtain ⟨y0, y1, y2, y3, y4, y5⟩ := FA.out wq ((Gr.drew _).trans hq)
            unfold plainAt
            go_simp
            first | exact rfl | exact ⟨rfl, rfl⟩
          go_simp
          refine wpG_c rfl rfl ?_
          intro w4 g4 K hK
          go_simp
          go_at_call 53
          refine (HCF.out w4 ((Gr.drew _).trans g4)).mono ?_
          rintro e wn ⟨rfl, g5⟩
          refine hK _ _ g5 ?_; have G45 := Lib.hid (g4.trans g5); clear hK g4 g5
          go_simp
          refine wpG_pe rfl rfl ?_
          apply Exists.intro
          refine ⟨fun wq => ?_, ?_⟩
          · unfold plainAt
            go_simp
            first | exact rfl | exact ⟨rfl, rfl⟩
          go_simp
          refine wpG_pe rfl rfl ?_
          apply Exists.intro
          refine ⟨fun wq => ?_, ?_⟩
          · unfold plainAt
            go_simp
            first | exact rfl | exact ⟨rfl, rfl⟩
          go_simp
          refine wpG_pe rfl rfl ?_
          apply Exists.intro
          refine ⟨fun wq => ?_, ?_⟩
          · unfold plainAt
            go_simp
            first | exact rfl | exact ⟨rfl, rfl⟩
          go_simp
          refine wpG_pe rfl rfl ?_
          apply Exists.intro
          refine ⟨fun wq => ?_, ?_⟩
          · unfold plainAt
            go_simp
            first | exact rfl | exact ⟨rfl, rfl⟩
          go_simp
          refine wpG_s rfl rfl ?_
          intro w5 g5 K hK
          have B5 := Lib.hid ((((Gr.drew _).trans G45.out).trans g5).blk BO.out)
          have G5 := Lib.hid ((G.out.trans ((Gr.drew _).trans G45.out)).trans g5)
          have BP5 := Lib.hid ((((Gr.drew _).trans G45.out).trans g5).blk BP.out)
          have x0 : w5.cell? ⟨w.heap.size, k, none⟩ = some (.bool (dAt out k)) := (B5.out.cell k).trans (boolc_at (by rw [hlo]; exact hlt))
          have y0 := B5.out.free k
          have hl5 := B5.out.lt
          clear g5
          go_simp
          refine hK _ _ ?_
          clear hK x0 y0
          go_simp
          refine wpG_nil ?_
          intro w6 g6
          have B6 := Lib.hid (g6.blk (B5.out.set k (.bool (!q))))
          have G6 := Lib.hid ((G5.out.setCell (p := ⟨w.heap.size, k, none⟩) (Nat.le_refl _) (.bool (!q))).trans (Below.mono g6 (by have := G5.out.size; simp [World.setCell]; omega)))
          have BP6 := Lib.hid (g6.blk (BP5.out.far (p := ⟨w.heap.size, k, none⟩) (by simp) (.bool (!q))))
          clear g6
          go_wp2_with fail
          refine ⟨⟨k + 1, by omega, by omega, by simp, ?_, BP6.out, G6.out⟩, by simp [Go.RowKit.intOf]; omega⟩
          rw [show k + 1 - 1 = k by omega]
          have h6 := B6.out
          rw [HNX2.out (!q) (by rw [HE.out]; simp), List.map_set]
          exact h6
    · obtain rfl : k = n := by omega
      have t0 : decide ((k : Int) < (k : Int)) = false := by simp
      go_wp2_with fail
      go_ret
      have e : k - 1 = T.length := by have := HN.out; omega
      refine ⟨w.heap.size, Nat.le_refl _, rfl, ?_, G.out⟩
      have := BO.out
      rw [e] at this
      exact this
end Go.Proofs.Ythlnoaalhojphaa
