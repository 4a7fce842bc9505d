/- Own texts of this claim, one behind the other. No condition. -/
import Derived.Test.YtfemhhjmfckicaaGreatDoorObPkQ

/- Names: which texts are names, as the program says. No condition. -/
namespace Go.Proofs.YtfemhhjmfckicaaGreatDoor
open Go.RowKit Go.Shelf
attribute [local go_sem] Oper.semAt_some
set_option linter.unusedVariables false
theorem splitseq_in (n : Nat) (hn : 1 ≤ n) (s t : ByteArray) (w : World) :
    CallsIn Fence.wide n Tryz.prog 121 #[.string s, .string t, .int .i64 0] w fun e w' => e = .returned (.func (.func 150) #[] #[.pointer (some ⟨w.heap.size + 1, 0, none⟩), .pointer (some ⟨w.heap.size, 0, none⟩), .pointer (some ⟨w.heap.size + 2, 0, none⟩)]) ∧ w' = ((w.alloc (.cells #[.string s] 9)).alloc (.cells #[.string t] 9)).alloc (.cells #[.int .i64 0] 3) := by
  refine callsIn_of_wp Tryz.func121 rfl trivial ?_ rfl
  simp only [Tryz.ntmps121, List.size_toArray, List.length_cons, List.length_nil, Nat.reduceAdd, Nat.reduceSub, Array.replicate_succ, Array.replicate_zero, List.push_toArray, List.append_toArray, List.nil_append, List.cons_append]
  gi_wp2
  go_ret
  exact ⟨rfl, rfl⟩
theorem splitSeq_in (n : Nat) (hn : 2 ≤ n) (s t : ByteArray) (w : World) :
    CallsIn Fence.wide n Tryz.prog 95 #[.string s, .string t] w fun e w' => e = .returned (.func (.func 150) #[] #[.pointer (some ⟨w.heap.size + 1, 0, none⟩), .pointer (some ⟨w.heap.size, 0, none⟩), .pointer (some ⟨w.heap.size + 2, 0, none⟩)]) ∧ w' = ((w.alloc (.cells #[.string s] 9)).alloc (.cells #[.string t] 9)).alloc (.cells #[.int .i64 0] 3) := by
  have H := Lib.hid (fun w => splitseq_in (n - 1) (by omega) s t w)
  have hn1 : 1 ≤ n := by omega
  refine callsIn_of_wp Tryz.func95 rfl trivial ?_ rfl
  simp only [Tryz.ntmps95, List.size_toArray, List.length_cons, List.length_nil, Nat.reduceAdd, Nat.reduceSub, Array.replicate_succ, Array.replicate_zero, List.push_toArray, List.append_toArray, List.nil_append, List.cons_append]
  gi_wp2_with (refine ⟨trivial, ?_⟩; gi_at_call 121; refine (H.out _).mono ?_; rintro e w6 ⟨rfl, rfl⟩)
  go_ret
  exact ⟨rfl, rfl⟩
theorem U8.mono {w w' : World} (h : U8 w) (g : Gr w w') : U8 w' :=
  ⟨fun c hc => (g.cell (p := ⟨_, c, none⟩) (World.block_lt_of_cell? w _ (h.1 c hc))).trans (h.1 c hc),
   fun i hi => ⟨(g.cell (p := ⟨_, 2 * i, none⟩) (World.block_lt_of_cell? w _ (h.2 i hi).1)).trans (h.2 i hi).1, (g.cell (p := ⟨_, 2 * i + 1, none⟩) (World.block_lt_of_cell? w _ (h.2 i hi).2)).trans (h.2 i hi).2⟩⟩
theorem Blk.at {w : World} {g g' : Nat} {t : TypeId} {cs : List Value} (h : Blk w g t cs) (e : g = g') : Blk w g' t cs := e ▸ h
theorem gr_put {w W : World} (h : Gr w W) (q : Nat) (o : Obj) (hq : w.heap.size ≤ q) : Gr w (W.putObj q o) := Below.grown h (grownBy_putObj' W q o) (Below.size h) (fun k e => by cases e; exact hq)
theorem blk_put {w : World} {g q : Nat} {t : TypeId} {cs : List Value} (h : Blk w g t cs) (hne : g ≠ q) (o : Obj) : Blk (w.putObj q o) g t cs := (World.putObj_heap_other hne).trans h
theorem keeps_gr {W W' : World} (h : Gr W W') : KeepsOthers W W' := ⟨h.size, fun k o hk _ => (Below.block h k (Array.getElem?_eq_some_iff.1 hk).1).trans hk⟩
theorem gr_set {w W : World} (h : Gr w W) {b i : Nat} (hb : w.heap.size ≤ b) (v : Value) : Gr w (W.setCell ⟨b, i, none⟩ v) := Below.setCell h (p := ⟨b, i, none⟩) hb v
theorem results_cell_bool {fn : Func} {p : Tmp} (h : fn.results = #[.cell p 4]) (tmps : Array Value) (w : World) (g : Nat) (v : Bool) (hp : tmps.getD p undef = .pointer (some ⟨g, 0, none⟩)) (hc : w.cell? ⟨g, 0, none⟩ = some (.bool v)) :
    (results fn tmps).run Tryz.prog w = .ok (.bool v) w := by
  have hp' : tmps[p]?.getD undef = .pointer (some ⟨g, 0, none⟩) := by simpa using hp
  simp only [results, h]
  simp [hp', asAddr]
  go_simp
/-- What stands between two rounds. -/
structure RI (w : World) (N : Nat) (pre : List (List UInt8)) (W : World) : Prop where
  r : Blk W w.heap.size 4 [.bool false]
  p : Blk W (w.heap.size + 1) 3 [.int .i64 (pre.length : Int)]
  q : Blk W (w.heap.size + 1 + 1) 3 [.int .i64 (sumN pre : Int)]
  g : Gr w W
  s : N ≤ W.heap.size
  ok : pre.all partL = true
structure RX (w : World) (pre : List (List UInt8)) (W : World) : Prop where
  r : Blk W w.heap.size 4 [.bool false]
  g : Gr w W
  no : pre.all partL = false
theorem sumN_snoc (ps : List (List UInt8)) (p : List UInt8) : sumN (ps ++ [p]) = sumN ps + ((runesN p).getD 0 + 1) := by simp [sumN]
theorem sumN_le : ∀ ps : List (List UInt8), ps.all partL = true → sumN ps ≤ 9 * ps.length
  | [], _ => by simp [sumN]
  | p :: ps, h => by
    rw [List.all_cons, Bool.and_eq_true] at h
    have ih := sumN_le ps h.2
    have hp := h.1
    unfold partL at hp
    unfold sumN at ih ⊢
    rw [List.map_cons, List.sum_cons, List.length_cons]
    cases hr : runesN p with
    | none => rw [hr] at hp; cases hp
    | some n =>
      rw [hr] at hp
      simp at hp ⊢
      omega
set_option maxRecDepth 100000 in
set_option maxHeartbeats 4000000 in
theorem right_any (l : List UInt8) (w : World) (hl : l.length ≤ 100000) (hT : U8 w) : Calls Tryz.prog 58 #[.string ⟨l.toArray⟩] w fun e w' => e = .returned (.bool (rightL l)) ∧ Gr w w' := by
  obtain ⟨s, hs⟩ : ∃ s : ByteArray, s = ⟨l.toArray⟩ := ⟨_, rfl⟩
  rw [← hs]
  have HS := Lib.hid hs; clear hs
  have HT := Lib.hid hT; clear hT
  obtain ⟨b, hb⟩ : ∃ b, b = rightL l := ⟨_, rfl⟩
  rw [← hb]
  have HB := Lib.hid hb; clear hb
  have HLL := Lib.hid hl; clear hl
  refine (callsIn_wide (n := 6)).1 ?_
  refine callsIn_of_wp_marks Tryz.func58 rfl trivial ?_ rfl
  simp only [Tryz.ntmps58, List.size_toArray, List.length_cons, List.length_nil, Nat.reduceAdd, Nat.reduceSub, Array.replicate_succ, Array.replicate_zero, List.push_toArray, List.append_toArray, List.nil_append, List.cons_append]
  gi_wp2_with (first
    | (refine ⟨trivial, ?_⟩; gi_at_call 95; refine (splitSeq_in _ (by omega) _ _ _).mono ?_; rintro e w6 ⟨rfl, rfl⟩)
    | fail)
  obtain ⟨W0, hW0⟩ : ∃ W0, W0 = (((((w.alloc (Obj.cells #[Value.bool false] 4)).alloc (Obj.cells #[Value.int IntKind.i64 0] 3)).alloc (Obj.cells #[Value.int IntKind.i64 0] 3)).alloc (Obj.cells #[Value.string s] 9)).alloc (Obj.cells #[Value.string { data := #[46] }] 9)).alloc (Obj.cells #[Value.int IntKind.i64 0] 3) := ⟨_, rfl⟩
  have zW : W0.heap.size = w.heap.size + 6 := by rw [hW0]; simp
  have bR : Blk W0 w.heap.size 4 [.bool false] := by
    rw [hW0]
    exact (((((Blk.new w 4 #[.bool false]).alloc _).alloc _).alloc _).alloc _).alloc _
  have bP : Blk W0 (w.heap.size + 1) 3 [.int .i64 0] := by
    rw [hW0]
    exact ((((((Blk.new (w.alloc (Obj.cells #[Value.bool false] 4)) 3 #[.int .i64 0]).alloc _).alloc _).alloc _).alloc _)).at (by simp)
  have bQ : Blk W0 (w.heap.size + 1 + 1) 3 [.int .i64 0] := by
    rw [hW0]
    exact (((((Blk.new ((w.alloc (Obj.cells #[Value.bool false] 4)).alloc (Obj.cells #[Value.int IntKind.i64 0] 3)) 3 #[.int .i64 0]).alloc _).alloc _).alloc _)).at (by simp)
  have bS : Blk W0 (w.heap.size + 1 + 1 + 1) 9 [strc l] := by
    have : strc l = .string s := by unfold strc; rw [HS.out]
    rw [hW0, this]
    exact ((((Blk.new (((w.alloc (Obj.cells #[Value.bool false] 4)).alloc (Obj.cells #[Value.int IntKind.i64 0] 3)).alloc (Obj.cells #[Value.int IntKind.i64 0] 3)) 9 #[.string s]).alloc _).alloc _)).at (by simp)
  have bT : Blk W0 (w.heap.size + 1 + 1 + 1 + 1) 9 [strc [46]] := by
    rw [hW0]
    exact (((Blk.new ((((w.alloc (Obj.cells #[Value.bool false] 4)).alloc (Obj.cells #[Value.int IntKind.i64 0] 3)).alloc (Obj.cells #[Value.int IntKind.i64 0] 3)).alloc (Obj.cells #[Value.string s] 9)) 9 #[strc [46]]).alloc _)).at (by simp)
  have bN : Blk W0 (w.heap.size + 1 + 1 + 1 + 2) 3 [.int .i64 0] := by
    rw [hW0]
    exact ((Blk.new (((((w.alloc (Obj.cells #[Value.bool false] 4)).alloc (Obj.cells #[Value.int IntKind.i64 0] 3)).alloc (Obj.cells #[Value.int IntKind.i64 0] 3)).alloc (Obj.cells #[Value.string s] 9)).alloc (Obj.cells #[Value.string { data := #[46] }] 9)) 3 #[.int .i64 0])).at (by simp)
  have g0 : Gr w W0 := by
    rw [hW0]
    exact (((((Gr.alloc w _).trans (Gr.alloc _ _)).trans (Gr.alloc _ _)).trans (Gr.alloc _ _)).trans (Gr.alloc _ _)).trans (Gr.alloc _ _)
  rw [← hW0]
  clear hW0
  refine range_box (by omega) (gf := 150) (lb := #[.pointer (some ⟨w.heap.size + 1 + 1 + 1 + 1, 0, none⟩), .pointer (some ⟨w.heap.size + 1 + 1 + 1, 0, none⟩), .pointer (some ⟨w.heap.size + 1 + 1 + 1 + 2, 0, none⟩)]) rfl (enters_of Tryz.func150 (by kernel_rfl) rfl)
    strc (K3 (w.heap.size + 1 + 1 + 1) (w.heap.size + 1 + 1 + 1 + 1) (w.heap.size + 1 + 1 + 1 + 2)) (fun _ _ _ h k => K3.trans h k)
    (fun W q o hq c hc => World.putObj_heap_other (by omega))
    (fun xs => xs = piecesL l) (fun pre => ∃ rest, pre ++ rest = piecesL l) (w.heap.size + 1 + 1 + 1) (fun pre x => ∃ rest, pre ++ x :: rest = piecesL l)
    (fun q J Jx W gW hJs hY h0 => (split1_in 5 (by omega) q _ _ _ (by omega) (by omega) l HLL.out J Jx hJs hY W (gW.blk bS) (gW.blk bT) (gW.blk bN) h0).mono (fun e W' h => ⟨h.1, h.2.imp (fun k => ⟨_, rfl, k⟩) id⟩))
    (RI w W0.heap.size) (RX w)
    (fun s A o h => ⟨h.r.alloc o, h.p.alloc o, h.q.alloc o, h.g.trans (Gr.alloc _ _), Nat.le_trans h.s (Gr.alloc A o).size, h.ok⟩)
    (fun s A q o o' h hq _ _ => ⟨blk_put h.r (by omega) _, blk_put h.p (by omega) _, blk_put h.q (by omega) _, gr_put h.g q o' (by omega), by rw [World.putObj_size]; exact h.s, h.ok⟩)
    (fun s A q o o' h hq _ _ => ⟨blk_put h.r (by omega) _, gr_put h.g q o' (by omega), h.no⟩)
    (fun s A v h => ⟨h.r.far (p := ⟨_, 0, none⟩) (by show _ ≠ _ + 1 + 1 + 1; omega) v, h.p.far (p := ⟨_, 0, none⟩) (by simp) v, h.q.far (p := ⟨_, 0, none⟩) (by simp) v, gr_set h.g (by omega) v, by have := h.s; simp [World.setCell]; exact this, h.ok⟩)
    ⟨bR, bP, bQ, g0, Nat.le_refl _, rfl⟩
    (fun x => { tmps := #[.string s, undef, .pointer (some ⟨w.heap.size, 0, none⟩), .pointer (some ⟨w.heap.size + 1, 0, none⟩), .pointer (some ⟨w.heap.size + 1 + 1, 0, none⟩), strc x, .string s,
      .func (.func 150) #[] #[.pointer (some ⟨w.heap.size + 1 + 1 + 1 + 1, 0, none⟩), .pointer (some ⟨w.heap.size + 1 + 1 + 1, 0, none⟩), .pointer (some ⟨w.heap.size + 1 + 1 + 1 + 2, 0, none⟩)],
      strc x, undef, undef, undef, undef, undef, undef, undef, undef, undef, undef, undef, undef, undef, undef, undef, undef, undef], defers := [] }) ?assign ?body ?done ?stop
  case assign =>
    intro q x W K hK
    gi_wp2
    exact hK
  case body =>
    rintro q pre x W hi ⟨rest, hr⟩
    have hmem : x ∈ piecesL l := by rw [← hr]; simp
    have hxl : x.length ≤ 100000 := Nat.le_trans ((pieces_size l).2 x hmem) HLL.out
    have hpl : pre.length ≤ 100001 := by
      have h := (pieces_size l).1
      rw [← hr] at h
      simp at h
      have := HLL.out
      omega
    have hsum := sumN_le pre hi.ok
    have HI := Lib.hid hi
    have HP : Hid (Calls Tryz.prog 96 #[strc x] W fun e w' => e = .returned (.bool (partL x)) ∧ Gr W w') := part_any x W (by omega)
    have HSN := Lib.hid (sumN_snoc pre x)
    have hsz := hi.s
    clear hr hmem hi
    cases hpx : partL x with
    | false =>
      have HA : Hid ((pre ++ [x]).all partL = false) := by show _ = _; rw [List.all_append]; simp [hpx]
      rw [hpx] at HP
      clear hpx
      gi_wp2_with (refine ⟨trivial, ?_⟩; gi_at_call 96; refine (CallsIn.inRound q (callsIn_wide.2 HP.out)).mono ?_; rintro e W1 ⟨rfl, g1⟩; have bR1 := g1.blk HI.out.r; have x0 := blk_cell0 bR1; have y0 := bR1.free 0; have z0 := bR1.lt)
      refine ⟨(keeps_gr g1).trans (KeepsOthers.setCell _ _ _), bR1.set 0 (.bool false), gr_set (HI.out.g.trans g1) (Nat.le_refl _) _, HA.out⟩
    | true =>
      have HA : Hid ((pre ++ [x]).all partL = true) := by show _ = _; rw [List.all_append, HI.out.ok]; simp [hpx]
      rw [hpx] at HP
      obtain ⟨k, hk, hk8⟩ : ∃ k, runesN x = some k ∧ k ≤ 8 := by
        unfold partL at hpx
        cases hr : runesN x with
        | none => rw [hr] at hpx; cases hpx
        | some k => rw [hr] at hpx; simp at hpx; exact ⟨k, rfl, hpx.2⟩
      have HC : Hid (∀ W', Gr w W' → Calls Tryz.prog 97 #[strc x] W' fun e w' => e = .returned (.int .i64 (k : Int)) ∧ Gr W' w') := fun W' g' => utfCount_any x k hk W' (by omega) (HT.out.mono g')
      have HK := Lib.hid hk
      clear hpx hk
      have wl : IntKind.i64.wrap ((pre.length : Int) + 1) = (pre.length : Int) + 1 := by rw [IntKind.wrap_i64]; omega
      gi_wp2_with (refine ⟨trivial, ?_⟩; gi_at_call 96; refine (CallsIn.inRound q (callsIn_wide.2 HP.out)).mono ?_; rintro e W1 ⟨rfl, g1⟩; have bP1 := g1.blk HI.out.p; have x0 := blk_cell0 bP1; have y0 := bP1.free 0; have z0 := bP1.lt)
      have bR1 := g1.blk HI.out.r
      have bQ1 := g1.blk HI.out.q
      have g01 : Gr w W1 := HI.out.g.trans g1
      have kb : ∀ c, c < W0.heap.size → W1.heap[c]? = W.heap[c]? := fun c hc => Below.block g1 c (by omega)
      have ko := keeps_gr g1
      clear x0 y0 z0 g1
      obtain ⟨W2, hW2⟩ : ∃ W2, W2 = W1.setCell ⟨w.heap.size + 1, 0, none⟩ (.int .i64 ((pre.length : Int) + 1)) := ⟨_, rfl⟩
      have bR2 : Blk W2 w.heap.size 4 [.bool false] := by rw [hW2]; exact bR1.far (p := ⟨_, 0, none⟩) (by show _ ≠ _ + 1; omega) _
      have bQ2 : Blk W2 (w.heap.size + 1 + 1) 3 [.int .i64 (sumN pre : Int)] := by rw [hW2]; exact bQ1.far (p := ⟨_, 0, none⟩) (by show _ ≠ _ + 1; omega) _
      have bP2 : Blk W2 (w.heap.size + 1) 3 [.int .i64 ((pre.length : Int) + 1)] := by rw [hW2]; exact bP1.set 0 _
      have g2 : Gr w W2 := by rw [hW2]; exact gr_set g01 (by omega) _
      have ko2 : KeepsOthers W W2 := by rw [hW2]; exact ko.trans (KeepsOthers.setCell _ _ _)
      have kb2 : ∀ c, c < W0.heap.size → c ≠ w.heap.size + 1 → W2.heap[c]? = W.heap[c]? := fun c hc hn => by rw [hW2, Below.heap_setCell _ ⟨_, 0, none⟩ _ c hn]; exact kb c hc
      have hs2 : W0.heap.size ≤ W2.heap.size := by have := ko2.size; omega
      rw [← hW2]
      have BR2 := Lib.hid bR2; have BQ2 := Lib.hid bQ2; have BP2 := Lib.hid bP2; have G2 := Lib.hid g2; have KO2 := Lib.hid ko2; have KB2 := Lib.hid kb2
      have c2 := blk_cell0 bQ2
      clear bR2 bQ2 bP2 g2 ko2 kb2 bR1 bQ1 bP1 g01 kb ko hW2
      have hmix : Tryz.prog.follows .mixedOrders = true := by kernel_rfl
      have wk : IntKind.i64.wrap ((k : Int) + 1) = (k : Int) + 1 := by rw [IntKind.wrap_i64]; omega
      have ws : IntKind.i64.wrap ((sumN pre : Int) + ((k : Int) + 1)) = (sumN pre : Int) + ((k : Int) + 1) := by rw [IntKind.wrap_i64]; omega
      gi_region_with_o (refine ⟨trivial, ?_⟩; gi_at_call 97; refine (CallsIn.inRound q (callsIn_wide.2 (HC.out _ (by first | exact G2.out | exact G2.out.trans (Gr.drew _))))).mono ?_; rintro e W3 ⟨rfl, g3⟩; have bQ3 := g3.blk (show Blk _ _ _ _ from BQ2.out); have x3 := blk_cell0 bQ3; have y3 := bQ3.free 0; have z3 := bQ3.lt)
      all_goals
        have G3 : Gr W2 W3 := (Gr.drew _).trans g3
        show KeepsOthers W _ ∧ K3 _ _ _ W _ ∧ RI w W0.heap.size (pre ++ [x]) _
        refine ⟨(KO2.out.trans (keeps_gr G3)).trans (KeepsOthers.setCell _ _ _), fun c hc => ?_, ?_⟩
        · have hc' : c < W0.heap.size ∧ c ≠ w.heap.size + 1 ∧ c ≠ w.heap.size + 1 + 1 := by rcases hc with rfl | rfl | rfl <;> omega
          rw [Below.heap_setCell _ ⟨_, 0, none⟩ _ c hc'.2.2, Below.block G3 c (by omega)]
          exact KB2.out c hc'.1 hc'.2.1
        · have e1 : (((pre ++ [x]).length : Nat) : Int) = (pre.length : Int) + 1 := by simp
          have e2 : ((sumN (pre ++ [x]) : Nat) : Int) = (sumN pre : Int) + ((k : Int) + 1) := by rw [HSN.out, HK.out]; simp
          refine ⟨(G3.blk BR2.out).far (p := ⟨_, 0, none⟩) (by show _ ≠ _ + 1 + 1; omega) _, ?_, ?_, gr_set (G2.out.trans G3) (by omega) _, by have := G3.size; simp [World.setCell]; omega, HA.out⟩
          · rw [e1]; exact (G3.blk BP2.out).far (p := ⟨_, 0, none⟩) (by show _ ≠ _ + 1 + 1; omega) _
          · rw [e2]; exact bQ3.set 0 _
  case done =>
    rintro D xs W hD rfl hi hKd
    have HI := Lib.hid hi
    have cR := blk_cell0 hi.r
    have fR := hi.r.free 0
    have lR := hi.r.lt
    have cP := blk_cell0 hi.p
    have cQ := blk_cell0 hi.q
    have hHB : b = (decide ((piecesL l).length ≤ 4) && decide (sumN (piecesL l) ≤ 25)) := by
      rw [HB.out]
      unfold rightL
      rw [hi.ok]; rfl
    have hps := sumN_le _ hi.ok
    have hpl : (piecesL l).length ≤ 100001 := Nat.le_trans (pieces_size l).1 (by have := HLL.out; omega)
    clear hi
    have fin : ∀ v, (W.setCell ⟨w.heap.size, 0, none⟩ v).heap[D]? = some (.deferred (some [])) := fun v => (KeepsOthers.setCell W ⟨w.heap.size, 0, none⟩ v).same _ _ hKd rfl
    have FIN := Lib.hid fin; clear fin
    have HGR : Hid (∀ v, Gr w ((W.setCell ⟨w.heap.size, 0, none⟩ v).putObj D (.deferred none))) := fun v => gr_put (gr_set HI.out.g (Nat.le_refl _) v) D _ (by omega)
    have HRB : Hid (∀ v, Blk ((W.setCell ⟨w.heap.size, 0, none⟩ v).putObj D (.deferred none)) w.heap.size 4 [v]) := fun v => blk_put (HI.out.r.set 0 v) (by omega) _
    have HBB := Lib.hid hHB; clear hHB
    obtain ⟨N, hN⟩ : ∃ N, N = (piecesL l).length := ⟨_, rfl⟩
    obtain ⟨M, hM⟩ : ∃ M, M = sumN (piecesL l) := ⟨_, rfl⟩
    rw [← hN] at cP hpl hps HBB
    rw [← hM] at cQ hps HBB
    clear hN hM hKd
    have wm : IntKind.i64.wrap ((M : Int) - 1) = (M : Int) - 1 := by rw [IntKind.wrap_i64]; omega
    by_cases h4 : N ≤ 4
    · have t4 : decide ((N : Int) ≤ 4) = true := decide_eq_true (by omega)
      have HF : Hid (b = decide ((M : Int) - 1 ≤ 24)) := by show _ = _; rw [HBB.out, decide_eq_true h4, Bool.true_and]; exact decide_eq_decide.2 (by omega)
      gi_wp2
      refine ⟨by simp, .inl ⟨_, _, rfl, run_takeDeferred (FIN.out _), ?_⟩⟩
      rw [← HF.out]
      exact ⟨_, results_cell_bool rfl _ _ w.heap.size b rfl (blk_cell0 (HRB.out _)), rfl, HGR.out _⟩
    · have t4 : decide ((N : Int) ≤ 4) = false := decide_eq_false (by omega)
      have HF : Hid (b = false) := by show _ = _; rw [HBB.out, decide_eq_false h4]; rfl
      gi_wp2
      refine ⟨by simp, .inl ⟨_, _, rfl, run_takeDeferred (FIN.out _), ?_⟩⟩
      rw [HF.out]
      exact ⟨_, results_cell_bool rfl _ _ w.heap.size false rfl (blk_cell0 (HRB.out _)), rfl, HGR.out _⟩
  case stop =>
    rintro D pre W hD ⟨rest, hr⟩ hx hKd
    have HF : Hid (b = false) := by
      show _ = _
      rw [HB.out]
      unfold rightL
      have : (piecesL l).all partL = false := by rw [← hr, List.all_append, hx.no]; rfl
      rw [this]; rfl
    gi_wp2
    refine ⟨by simp, .inl ⟨_, _, rfl, run_takeDeferred hKd, ?_⟩⟩
    rw [HF.out]
    exact ⟨_, results_cell_bool rfl _ _ w.heap.size false rfl (blk_cell0 (blk_put hx.r (by omega) _)), rfl, gr_put hx.g D _ (by omega)⟩
end Go.Proofs.YtfemhhjmfckicaaGreatDoor
