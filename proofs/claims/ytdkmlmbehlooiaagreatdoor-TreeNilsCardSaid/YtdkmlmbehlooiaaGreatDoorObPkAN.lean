/- Own texts, one behind the other. No condition. -/
import Derived.Test.YtdkmlmbehlooiaaGreatDoorObPkAM
set_option linter.unusedVariables false
set_option linter.unusedSimpArgs false
namespace Go.Proofs.YtdkmlmbehlooiaaGreatDoor
section
open Go.RowKit Go.Shelf
attribute [local go_sem] Oper.semAt_some
theorem splitseq_in (n : Nat) (hn : 1 ≤ n) (s t : ByteArray) (w : World) :
 CallsIn Fence.wide n Tryz.prog 223 #[.string s, .string t, .int .i64 0] w fun e w' => e = .returned (.func (.func 252) #[] #[.pointer (some ⟨w.heap.size + 1, 0, none⟩), .pointer (some ⟨w.heap.size, 0, none⟩), .pointer (some ⟨w.heap.size + 2, 0, none⟩)]) ∧ w' = ((w.alloc (.cells #[.string s] 9)).alloc (.cells #[.string t] 9)).alloc (.cells #[.int .i64 0] 3) := by
 refine callsIn_of_wp Tryz.func223 rfl trivial ?_ rfl
 simp only [Tryz.ntmps223, List.size_toArray, List.length_cons, List.length_nil, Nat.reduceAdd, Nat.reduceSub, Array.replicate_succ, Array.replicate_zero, List.push_toArray, List.append_toArray, List.nil_append, List.cons_append]
 gi_wp2
 go_ret
 exact ⟨rfl, rfl⟩
theorem splitSeq_in (n : Nat) (hn : 2 ≤ n) (s t : ByteArray) (w : World) :
 CallsIn Fence.wide n Tryz.prog 175 #[.string s, .string t] w fun e w' => e = .returned (.func (.func 252) #[] #[.pointer (some ⟨w.heap.size + 1, 0, none⟩), .pointer (some ⟨w.heap.size, 0, none⟩), .pointer (some ⟨w.heap.size + 2, 0, none⟩)]) ∧ w' = ((w.alloc (.cells #[.string s] 9)).alloc (.cells #[.string t] 9)).alloc (.cells #[.int .i64 0] 3) := by
 have H := Lib.hid (fun w => splitseq_in (n - 1) (by omega) s t w)
 have hn1 : 1 ≤ n := by omega
 refine callsIn_of_wp Tryz.func175 rfl trivial ?_ rfl
 simp only [Tryz.ntmps175, List.size_toArray, List.length_cons, List.length_nil, Nat.reduceAdd, Nat.reduceSub, Array.replicate_succ, Array.replicate_zero, List.push_toArray, List.append_toArray, List.nil_append, List.cons_append]
 gi_wp2_with (refine ⟨trivial, ?_⟩; gi_at_call 223; refine (H.out _).mono ?_; rintro e w6 ⟨rfl, rfl⟩)
 go_ret
 exact ⟨rfl, rfl⟩
theorem U8.mono {w w' : World} (h : U8 w) (g : Gr w w') : U8 w' :=
 ⟨fun c hc => (g.cell (p := ⟨_, c, none⟩) (World.block_lt_of_cell? w _ (h.1 c hc))).trans (h.1 c hc),
  fun i hi => ⟨(g.cell (p := ⟨_, 2 * i, none⟩) (World.block_lt_of_cell? w _ (h.2 i hi).1)).trans (h.2 i hi).1, (g.cell (p := ⟨_, 2 * i + 1, none⟩) (World.block_lt_of_cell? w _ (h.2 i hi).2)).trans (h.2 i hi).2⟩⟩
theorem Blk.at {w : World} {g g' : Nat} {t : TypeId} {cs : List Value} (h : Blk w g t cs) (e : g = g') : Blk w g' t cs := e ▸ h
theorem gr_put {w W : World} (h : Gr w W) (q : Nat) (o : Obj) (hq : w.heap.size ≤ q) : Gr w (W.putObj q o) := Below.grown h (grownBy_putObj' W q o) (Below.size h) (fun k e => by cases e; exact hq)
theorem blk_put {w : World} {g q : Nat} {t : TypeId} {cs : List Value} (h : Blk w g t cs) (hne : g ≠ q) (o : Obj) : Blk (w.putObj q o) g t cs := (World.putObj_heap_other hne).trans h
theorem keeps_gr {W W' : World} (h : Gr W W') : KeepsOthers W W' := ⟨h.size, fun k o hk _ => (Below.block h k (Array.getElem?_eq_some_iff.1 hk).1).trans hk⟩
theorem gr_set {w W : World} (h : Gr w W) {b i : Nat} (hb : w.heap.size ≤ b) (v : Value) : Gr w (W.setCell ⟨b, i, none⟩ v) := Below.setCell h (p := ⟨b, i, none⟩) hb v
theorem results_cell_bool {fn : Func} {p : Tmp} (h : fn.results = #[.cell p 4]) (tmps : Array Value) (w : World) (g : Nat) (v : Bool) (hp : tmps.getD p undef = .pointer (some ⟨g, 0, none⟩)) (hc : w.cell? ⟨g, 0, none⟩ = some (.bool v)) :
 (results fn tmps).run Tryz.prog w = .ok (.bool v) w := by
 have hp' : tmps[p]?.getD undef = .pointer (some ⟨g, 0, none⟩) := by simpa using hp
 simp only [results, h]
 simp [hp', asAddr]
 go_simp
structure RI (w : World) (N : Nat) (pre : List (List UInt8)) (W : World) : Prop where
 r : Blk W w.heap.size 4 [.bool false]
 p : Blk W (w.heap.size + 1) 3 [.int .i64 (pre.length : Int)]
 q : Blk W (w.heap.size + 1 + 1) 3 [.int .i64 (sumN pre : Int)]
 g : Gr w W
 s : N ≤ W.heap.size
 ok : pre.all partL = true
structure RX (w : World) (pre : List (List UInt8)) (W : World) : Prop where
 r : Blk W w.heap.size 4 [.bool false]
 g : Gr w W
 no : pre.all partL = false
theorem sumN_snoc (ps : List (List UInt8)) (p : List UInt8) : sumN (ps ++ [p]) = sumN ps + ((runesN p).getD 0 + 1) := by simp [sumN]
theorem sumN_le : ∀ ps : List (List UInt8), ps.all partL = true → sumN ps ≤ 9 * ps.length
 | [], _ => by simp [sumN]
 | p :: ps, h => by
  rw [List.all_cons, Bool.and_eq_true] at h
  have ih := sumN_le ps h.2
  have hp := h.1
  unfold partL at hp
  unfold sumN at ih ⊢
  rw [List.map_cons, List.sum_cons, List.length_cons]
  cases hr : runesN p with
  | none => rw [hr] at hp; cases hp
  | some n =>
   rw [hr] at hp
   simp at hp ⊢
   omega
set_option maxRecDepth 100000 in
set_option maxHeartbeats 4000000 in
theorem right_any (l : List UInt8) (w : World) (hl : l.length ≤ 100000) (hT : U8 w) : Calls Tryz.prog 110 #[.string ⟨l.toArray⟩] w fun e w' => e = .returned (.bool (rightL l)) ∧ Gr w w' := by
 obtain ⟨s, hs⟩ : ∃ s : ByteArray, s = ⟨l.toArray⟩ := ⟨_, rfl⟩
 rw [← hs]
 have HS := Lib.hid hs; clear hs
 have HT := Lib.hid hT; clear hT
 obtain ⟨b, hb⟩ : ∃ b, b = rightL l := ⟨_, rfl⟩
 rw [← hb]
 have HB := Lib.hid hb; clear hb
 have HLL := Lib.hid hl; clear hl
 refine (callsIn_wide (n := 6)).1 ?_
 refine callsIn_of_wp_marks Tryz.func110 rfl trivial ?_ rfl
 simp only [Tryz.ntmps110, List.size_toArray, List.length_cons, List.length_nil, Nat.reduceAdd, Nat.reduceSub, Array.replicate_succ, Array.replicate_zero, List.push_toArray, List.append_toArray, List.nil_append, List.cons_append]
 gi_wp2_with (first
  | (refine ⟨trivial, ?_⟩; gi_at_call 175; refine (splitSeq_in _ (by omega) _ _ _).mono ?_; rintro e w6 ⟨rfl, rfl⟩)
  | fail)
 obtain ⟨W0, hW0⟩ : ∃ W0, W0 = (((((w.alloc (Obj.cells #[Value.bool false] 4)).alloc (Obj.cells #[Value.int IntKind.i64 0] 3)).alloc (Obj.cells #[Value.int IntKind.i64 0] 3)).alloc (Obj.cells #[Value.string s] 9)).alloc (Obj.cells #[Value.string { data := #[46] }] 9)).alloc (Obj.cells #[Value.int IntKind.i64 0] 3) := ⟨_, rfl⟩
 have zW : W0.heap.size = w.heap.size + 6 := by rw [hW0]; simp
 have bR : Blk W0 w.heap.size 4 [.bool false] := by
  rw [hW0]
  exact (((((Blk.new w 4 #[.bool false]).alloc _).alloc _).alloc _).alloc _).alloc _
 have bP : Blk W0 (w.heap.size + 1) 3 [.int .i64 0] := by
  rw [hW0]
  exact ((((((Blk.new (w.alloc (Obj.cells #[Value.bool false] 4)) 3 #[.int .i64 0]).alloc _).alloc _).alloc _).alloc _)).at (by simp)
 have bQ : Blk W0 (w.heap.size + 1 + 1) 3 [.int .i64 0] := by
  rw [hW0]
  exact (((((Blk.new ((w.alloc (Obj.cells #[Value.bool false] 4)).alloc (Obj.cells #[Value.int IntKind.i64 0] 3)) 3 #[.int .i64 0]).alloc _).alloc _).alloc _)).at (by simp)
 have bS : Blk W0 (w.heap.size + 1 + 1 + 1) 9 [strc l] := by
  have : strc l = .string s := by unfold strc; rw [HS.out]
  rw [hW0, this]
  exact ((((Blk.new (((w.alloc (Obj.cells #[Value.bool false] 4)).alloc (Obj.cells #[Value.int IntKind.i64 0] 3)).alloc (Obj.cells #[Value.int IntKind.i64 0] 3)) 9 #[.string s]).alloc _).alloc _)).at (by simp)
 have bT : Blk W0 (w.heap.size + 1 + 1 + 1 + 1) 9 [strc [46]] := by
  rw [hW0]
  exact (((Blk.new ((((w.alloc (Obj.cells #[Value.bool false] 4)).alloc (Obj.cells #[Value.int IntKind.i64 0] 3)).alloc (Obj.cells #[Value.int IntKind.i64 0] 3)).alloc (Obj.cells #[Value.string s] 9)) 9 #[strc [46]]).alloc _)).at (by simp)
 have bN : Blk W0 (w.heap.size + 1 + 1 + 1 + 2) 3 [.int .i64 0] := by
  rw [hW0]
  exact ((Blk.new (((((w.alloc (Obj.cells #[Value.bool false] 4)).alloc (Obj.cells #[Value.int IntKind.i64 0] 3)).alloc (Obj.cells #[Value.int IntKind.i64 0] 3)).alloc (Obj.cells #[Value.string s] 9)).alloc (Obj.cells #[Value.string { data := #[46] }] 9)) 3 #[.int .i64 0])).at (by simp)
 have g0 : Gr w W0 := by
  rw [hW0]
  exact (((((Gr.alloc w _).trans (Gr.alloc _ _)).trans (Gr.alloc _ _)).trans (Gr.alloc _ _)).trans (Gr.alloc _ _)).trans (Gr.alloc _ _)
 rw [← hW0]
 clear hW0
 refine range_box (by omega) (gf := 252) (lb := #[.pointer (some ⟨w.heap.size + 1 + 1 + 1 + 1, 0, none⟩), .pointer (some ⟨w.heap.size + 1 + 1 + 1, 0, none⟩), .pointer (some ⟨w.heap.size + 1 + 1 + 1 + 2, 0, none⟩)]) rfl (enters_of Tryz.func252 (by kernel_rfl) rfl)
  strc (K3 (w.heap.size + 1 + 1 + 1) (w.heap.size + 1 + 1 + 1 + 1) (w.heap.size + 1 + 1 + 1 + 2)) (fun _ _ _ h k => K3.trans h k)
  (fun W q o hq c hc => World.putObj_heap_other (by omega))
  (fun xs => xs = pcL l) (fun pre => ∃ rest, pre ++ rest = pcL l) (w.heap.size + 1 + 1 + 1) (fun pre x => ∃ rest, pre ++ x :: rest = pcL l)
  (fun q J Jx W gW hJs hY h0 => (split1_in 5 (by omega) q _ _ _ (by omega) (by omega) l HLL.out J Jx hJs hY W (gW.blk bS) (gW.blk bT) (gW.blk bN) h0).mono (fun e W' h => ⟨h.1, h.2.imp (fun k => ⟨_, rfl, k⟩) id⟩))
  (RI w W0.heap.size) (RX w)
  (fun s A o h => ⟨h.r.alloc o, h.p.alloc o, h.q.alloc o, h.g.trans (Gr.alloc _ _), Nat.le_trans h.s (Gr.alloc A o).size, h.ok⟩)
  (fun s A q o o' h hq _ _ => ⟨blk_put h.r (by omega) _, blk_put h.p (by omega) _, blk_put h.q (by omega) _, gr_put h.g q o' (by omega), by rw [World.putObj_size]; exact h.s, h.ok⟩)
  (fun s A q o o' h hq _ _ => ⟨blk_put h.r (by omega) _, gr_put h.g q o' (by omega), h.no⟩)
  (fun s A v h => ⟨h.r.far (p := ⟨_, 0, none⟩) (by show _ ≠ _ + 1 + 1 + 1; omega) v, h.p.far (p := ⟨_, 0, none⟩) (by simp) v, h.q.far (p := ⟨_, 0, none⟩) (by simp) v, gr_set h.g (by omega) v, by have := h.s; simp [World.setCell]; exact this, h.ok⟩)
  ⟨bR, bP, bQ, g0, Nat.le_refl _, rfl⟩
  (fun x => { tmps := #[.string s, undef, .pointer (some ⟨w.heap.size, 0, none⟩), .pointer (some ⟨w.heap.size + 1, 0, none⟩), .pointer (some ⟨w.heap.size + 1 + 1, 0, none⟩), strc x, .string s,
   .func (.func 252) #[] #[.pointer (some ⟨w.heap.size + 1 + 1 + 1 + 1, 0, none⟩), .pointer (some ⟨w.heap.size + 1 + 1 + 1, 0, none⟩), .pointer (some ⟨w.heap.size + 1 + 1 + 1 + 2, 0, none⟩)],
   strc x, undef, undef, undef, undef, undef, undef, undef, undef, undef, undef, undef, undef, undef, undef, undef, undef, undef], defers := [] }) ?assign ?body ?done ?stop
 case assign =>
  intro q x W K hK
  gi_wp2
  exact hK
 case body =>
  rintro q pre x W hi ⟨rest, hr⟩
  have hmem : x ∈ pcL l := by rw [← hr]; simp
  have hxl : x.length ≤ 100000 := Nat.le_trans ((pieces_size l).2 x hmem) HLL.out
  have hpl : pre.length ≤ 100001 := by
   have h := (pieces_size l).1
   rw [← hr] at h
   simp at h
   have := HLL.out
   omega
  have hsum := sumN_le pre hi.ok
  have HI := Lib.hid hi
  have HP : Hid (Calls Tryz.prog 176 #[strc x] W fun e w' => e = .returned (.bool (partL x)) ∧ Gr W w') := part_any x W (by omega)
  have HSN := Lib.hid (sumN_snoc pre x)
  have hsz := hi.s
  clear hr hmem hi
  cases hpx : partL x with
  | false =>
   have HA : Hid ((pre ++ [x]).all partL = false) := by show _ = _; rw [List.all_append]; simp [hpx]
   rw [hpx] at HP
   clear hpx
   gi_wp2_with (refine ⟨trivial, ?_⟩; gi_at_call 176; refine (CallsIn.inRound q (callsIn_wide.2 HP.out)).mono ?_; rintro e W1 ⟨rfl, g1⟩; have bR1 := g1.blk HI.out.r; have x0 := bC0 bR1; have y0 := bR1.free 0; have z0 := bR1.lt)
   refine ⟨(keeps_gr g1).trans (KeepsOthers.setCell _ _ _), bR1.set 0 (.bool false), gr_set (HI.out.g.trans g1) (Nat.le_refl _) _, HA.out⟩
  | true =>
   have HA : Hid ((pre ++ [x]).all partL = true) := by show _ = _; rw [List.all_append, HI.out.ok]; simp [hpx]
   rw [hpx] at HP
   obtain ⟨k, hk, hk8⟩ : ∃ k, runesN x = some k ∧ k ≤ 8 := by
    unfold partL at hpx
    cases hr : runesN x with
    | none => rw [hr] at hpx; cases hpx
    | some k => rw [hr] at hpx; simp at hpx; exact ⟨k, rfl, hpx.2⟩
   have HC : Hid (∀ W', Gr w W' → Calls Tryz.prog 177 #[strc x] W' fun e w' => e = .returned (.int .i64 (k : Int)) ∧ Gr W' w') := fun W' g' => utfCount_any x k hk W' (by omega) (HT.out.mono g')
   have HK := Lib.hid hk
   clear hpx hk
   have wl : IntKind.i64.wrap ((pre.length : Int) + 1) = (pre.length : Int) + 1 := by rw [IntKind.wrap_i64]; omega
   gi_wp2_with (refine ⟨trivial, ?_⟩; gi_at_call 176; refine (CallsIn.inRound q (callsIn_wide.2 HP.out)).mono ?_; rintro e W1 ⟨rfl, g1⟩; have bP1 := g1.blk HI.out.p; have x0 := bC0 bP1; have y0 := bP1.free 0; have z0 := bP1.lt)
   have bR1 := g1.blk HI.out.r
   have bQ1 := g1.blk HI.out.q
   have g01 : Gr w W1 := HI.out.g.trans g1
   have kb : ∀ c, c < W0.heap.size → W1.heap[c]? = W.heap[c]? := fun c hc => Below.block g1 c (by omega)
   have ko := keeps_gr g1
   clear x0 y0 z0 g1
   obtain ⟨W2, hW2⟩ : ∃ W2, W2 = W1.setCell ⟨w.heap.size + 1, 0, none⟩ (.int .i64 ((pre.length : Int) + 1)) := ⟨_, rfl⟩
   have bR2 : Blk W2 w.heap.size 4 [.bool false] := by rw [hW2]; exact bR1.far (p := ⟨_, 0, none⟩) (by show _ ≠ _ + 1; omega) _
   have bQ2 : Blk W2 (w.heap.size + 1 + 1) 3 [.int .i64 (sumN pre : Int)] := by rw [hW2]; exact bQ1.far (p := ⟨_, 0, none⟩) (by show _ ≠ _ + 1; omega) _
   have bP2 : Blk W2 (w.heap.size + 1) 3 [.int .i64 ((pre.length : Int) + 1)] := by rw [hW2]; exact bP1.set 0 _
   have g2 : Gr w W2 := by rw [hW2]; exact gr_set g01 (by omega) _
   have ko2 : KeepsOthers W W2 := by rw [hW2]; exact ko.trans (KeepsOthers.setCell _ _ _)
   have kb2 : ∀ c, c < W0.heap.size → c ≠ w.heap.size + 1 → W2.heap[c]? = W.heap[c]? := fun c hc hn => by rw [hW2, Below.heap_setCell _ ⟨_, 0, none⟩ _ c hn]; exact kb c hc
   have hs2 : W0.heap.size ≤ W2.heap.size := by have := ko2.size; omega
   rw [← hW2]
   have BR2 := Lib.hid bR2; have BQ2 := Lib.hid bQ2; have BP2 := Lib.hid bP2; have G2 := Lib.hid g2; have KO2 := Lib.hid ko2; have KB2 := Lib.hid kb2
   have c2 := bC0 bQ2
   clear bR2 bQ2 bP2 g2 ko2 kb2 bR1 bQ1 bP1 g01 kb ko hW2
   have hmix : Tryz.prog.follows .mixedOrders = true := by kernel_rfl
   have wk : IntKind.i64.wrap ((k : Int) + 1) = (k : Int) + 1 := by rw [IntKind.wrap_i64]; omega
   have ws : IntKind.i64.wrap ((sumN pre : Int) + ((k : Int) + 1)) = (sumN pre : Int) + ((k : Int) + 1) := by rw [IntKind.wrap_i64]; omega
   gi_region_with_o (refine ⟨trivial, ?_⟩; gi_at_call 177; refine (CallsIn.inRound q (callsIn_wide.2 (HC.out _ (by first | exact G2.out | exact G2.out.trans (Gr.drew _))))).mono ?_; rintro e W3 ⟨rfl, g3⟩; have bQ3 := g3.blk (show Blk _ _ _ _ from BQ2.out); have x3 := bC0 bQ3; have y3 := bQ3.free 0; have z3 := bQ3.lt)
   all_goals
    have G3 : Gr W2 W3 := (Gr.drew _).trans g3
    show KeepsOthers W _ ∧ K3 _ _ _ W _ ∧ RI w W0.heap.size (pre ++ [x]) _
    refine ⟨(KO2.out.trans (keeps_gr G3)).trans (KeepsOthers.setCell _ _ _), fun c hc => ?_, ?_⟩
    · have hc' : c < W0.heap.size ∧ c ≠ w.heap.size + 1 ∧ c ≠ w.heap.size + 1 + 1 := by rcases hc with rfl | rfl | rfl <;> omega
      rw [Below.heap_setCell _ ⟨_, 0, none⟩ _ c hc'.2.2, Below.block G3 c (by omega)]
      exact KB2.out c hc'.1 hc'.2.1
    · have e1 : (((pre ++ [x]).length : Nat) : Int) = (pre.length : Int) + 1 := by simp
      have e2 : ((sumN (pre ++ [x]) : Nat) : Int) = (sumN pre : Int) + ((k : Int) + 1) := by rw [HSN.out, HK.out]; simp
      refine ⟨(G3.blk BR2.out).far (p := ⟨_, 0, none⟩) (by show _ ≠ _ + 1 + 1; omega) _, ?_, ?_, gr_set (G2.out.trans G3) (by omega) _, by have := G3.size; simp [World.setCell]; omega, HA.out⟩
      · rw [e1]; exact (G3.blk BP2.out).far (p := ⟨_, 0, none⟩) (by show _ ≠ _ + 1 + 1; omega) _
      · rw [e2]; exact bQ3.set 0 _
 case done =>
  rintro D xs W hD rfl hi hKd
  have HI := Lib.hid hi
  have cR := bC0 hi.r
  have fR := hi.r.free 0
  have lR := hi.r.lt
  have cP := bC0 hi.p
  have cQ := bC0 hi.q
  have hHB : b = (decide ((pcL l).length ≤ 4) && decide (sumN (pcL l) ≤ 25)) := by
   rw [HB.out]
   unfold rightL
   rw [hi.ok]; rfl
  have hps := sumN_le _ hi.ok
  have hpl : (pcL l).length ≤ 100001 := Nat.le_trans (pieces_size l).1 (by have := HLL.out; omega)
  clear hi
  have fin : ∀ v, (W.setCell ⟨w.heap.size, 0, none⟩ v).heap[D]? = some (.deferred (some [])) := fun v => (KeepsOthers.setCell W ⟨w.heap.size, 0, none⟩ v).same _ _ hKd rfl
  have FIN := Lib.hid fin; clear fin
  have HGR : Hid (∀ v, Gr w ((W.setCell ⟨w.heap.size, 0, none⟩ v).putObj D (.deferred none))) := fun v => gr_put (gr_set HI.out.g (Nat.le_refl _) v) D _ (by omega)
  have HRB : Hid (∀ v, Blk ((W.setCell ⟨w.heap.size, 0, none⟩ v).putObj D (.deferred none)) w.heap.size 4 [v]) := fun v => blk_put (HI.out.r.set 0 v) (by omega) _
  have HBB := Lib.hid hHB; clear hHB
  obtain ⟨N, hN⟩ : ∃ N, N = (pcL l).length := ⟨_, rfl⟩
  obtain ⟨M, hM⟩ : ∃ M, M = sumN (pcL l) := ⟨_, rfl⟩
  rw [← hN] at cP hpl hps HBB
  rw [← hM] at cQ hps HBB
  clear hN hM hKd
  have wm : IntKind.i64.wrap ((M : Int) - 1) = (M : Int) - 1 := by rw [IntKind.wrap_i64]; omega
  by_cases h4 : N ≤ 4
  · have t4 : decide ((N : Int) ≤ 4) = true := decide_eq_true (by omega)
    have HF : Hid (b = decide ((M : Int) - 1 ≤ 24)) := by show _ = _; rw [HBB.out, decide_eq_true h4, Bool.true_and]; exact decide_eq_decide.2 (by omega)
    gi_wp2
    refine ⟨by simp, .inl ⟨_, _, rfl, run_takeDeferred (FIN.out _), ?_⟩⟩
    rw [← HF.out]
    exact ⟨_, results_cell_bool rfl _ _ w.heap.size b rfl (bC0 (HRB.out _)), rfl, HGR.out _⟩
  · have t4 : decide ((N : Int) ≤ 4) = false := decide_eq_false (by omega)
    have HF : Hid (b = false) := by show _ = _; rw [HBB.out, decide_eq_false h4]; rfl
    gi_wp2
    refine ⟨by simp, .inl ⟨_, _, rfl, run_takeDeferred (FIN.out _), ?_⟩⟩
    rw [HF.out]
    exact ⟨_, results_cell_bool rfl _ _ w.heap.size false rfl (bC0 (HRB.out _)), rfl, HGR.out _⟩
 case stop =>
  rintro D pre W hD ⟨rest, hr⟩ hx hKd
  have HF : Hid (b = false) := by
   show _ = _
   rw [HB.out]
   unfold rightL
   have : (pcL l).all partL = false := by rw [← hr, List.all_append, hx.no]; rfl
   rw [this]; rfl
  gi_wp2
  refine ⟨by simp, .inl ⟨_, _, rfl, run_takeDeferred hKd, ?_⟩⟩
  rw [HF.out]
  exact ⟨_, results_cell_bool rfl _ _ w.heap.size false rfl (bC0 (blk_put hx.r (by omega) _)), rfl, gr_put hx.g D _ (by omega)⟩
end
section
open Go.RowKit Go.Shelf
attribute [local go_sem] Oper.semAt_some
set_option maxHeartbeats 400000 in
theorem range_none {P : Program} {g : Operand} {ps : Array Tmp} {assign body : Code} {Q : Exit → Act → World → Prop} {a : Act} {w : World} {n : Nat} (h1 : 1 ≤ n)
 {gf : Nat} {lb : Array Value} (hg : a.eval g = .func (.func gf) #[] lb) (eg : ∀ args w, (callFunc gf args).run P w = .ok (.enter gf args) w)
 (hseq : ∀ (q : Nat) (W : World), Gr w W → CallsIn Fence.wide (n - 1) P gf (#[.func (.yield q) #[] #[]] ++ lb) W fun e W' => (∃ v, e = .returned v) ∧ Gr W W')
 (hdone : ∀ (D : Nat) (W : World), w.heap.size ≤ D → Gr w W → W.heap[D]? = some (.deferred (some [])) → Q .normal { a with defers := { target := .collected D, args := #[] } :: a.defers } W) :
 (Code.rangeFunc g ps assign body).wpIn Fence.wide n P Q a w := by
 refine wpIn_rangeFunc fun fn hfn => ?_
 rw [show Fence.wide.round = none from rfl]
 obtain ⟨L, hL⟩ : ∃ L, L = w.heap.size := ⟨_, rfl⟩
 obtain ⟨rc, hrc⟩ : ∃ rc : LoopState → Option Code → Loop, rc = fun st pe => { state := st, pending := pe, fn, tmps := a.tmps, params := ps, assign, body, defers := L } := ⟨_, rfl⟩
 obtain ⟨W1, hW1⟩ : ∃ W1, W1 = (w.alloc (.deferred (some []))).alloc (.loop (rc .ready none)) := ⟨_, rfl⟩
 have lay : Laid L (rc .ready none) W1 := by
  refine ⟨?_, ?_⟩
  · rw [hW1, hL]
    have := World.alloc_heap_new (w.alloc (.deferred (some []))) (.loop (rc .ready none))
    rwa [World.size_alloc] at this
  · rw [hW1, hL]
    exact (Below.heap_alloc _ _ _ (by simp)).trans (World.alloc_heap_new w _)
 have gW1 : Gr w W1 := by rw [hW1]; exact (Gr.alloc w _).trans (Gr.alloc _ _)
 have call := hseq (L + 1) W1 gW1
 refine ⟨L + 1, [{ target := .collected L, args := #[] }], W1, { target := .fn (.func gf) lb, args := #[.func (.yield (L + 1)) #[] #[]] }, W1, gf,
  #[.func (.yield (L + 1)) #[] #[]] ++ lb, W1, ?_, ?_, ?_, ?_, ?_, ?_⟩
 · rw [hW1, hrc, hL]; exact run_enterLoop_outer _ _ _ _ _
 · simp only [resolve, hg]
   simp [go_sem]
 · exact fun _ _ => trivial
 · simp [invoke, go_sem, eg]
 · exact fun _ => h1
 · refine call.mono ?_
   rintro e W2 ⟨⟨v, rfl⟩, g2⟩
   have hl := lay.keep (keeps_gr g2)
   refine ⟨none, W2.putObj (L + 1) (.loop { rc .ready none with state := .exhausted }), ?_, hdone L _ (by omega) (gr_put (gW1.trans g2) _ _ (by omega)) ((World.putObj_heap_other (by omega)).trans hl.defer)⟩
   have := run_endLoop (P := P) hl.loop (by rw [hrc]; simp)
   rw [hrc] at this ⊢
   exact this
end
section
open Go.RowKit Go.Shelf
attribute [local go_sem] Oper.semAt_some
theorem QB.keep {kb : Nat} {w w' : World} {A : Option Addr} {n c : Nat} {l : List UInt8} (h : QB kb w A n c l) (hk : ∀ b o a t m, 0 < n → A = some ⟨b, o, none⟩ → w.heap[b]? = some (.cells a t m) → w'.heap[b]? = w.heap[b]?) : QB kb w' A n c l := by
 have hu : ∀ b o, 0 < n → A = some ⟨b, o, none⟩ → w'.heap[b]? = w.heap[b]? := fun b o h0 e => by
  obtain ⟨a, t, m, q, _, _⟩ := h.u b o h0 e
  exact hk b o a t m h0 e q
 refine ⟨h.b.stay (fun b o h0 e => hu b o h0 e), fun b o h0 e => ?_⟩
 obtain ⟨a, t, m, q, h1, h2⟩ := h.u b o h0 e
 exact ⟨a, t, m, (hu b o h0 e).trans q, h1, h2⟩
theorem QB.put {kb : Nat} {w : World} {A : Option Addr} {n c : Nat} {l : List UInt8} (h : QB kb w A n c l) {D : Nat} {o : Obj} (hD : w.heap[D]? = some o) (ho : o.isCells = false) (o' : Obj) : QB kb (w.putObj D o') A n c l :=
 h.keep fun b of a t m _ _ e => World.putObj_heap_other (fun q => by rw [q, hD] at e; injection e with e; rw [e] at ho; cases ho)
theorem QB.tch {kb : Nat} {S : Nat → Prop} {w w' : World} {A : Option Addr} {n c : Nat} {l : List UInt8} (h : QB kb w A n c l) (T : Tch S w w') (hS : ∀ b, S b → ∃ t cs, Blk w b t cs ∧ ∀ u ∈ cs, ∀ x : UInt8, u ≠ u8c x) : QB kb w' A n c l := by
 refine h.keep fun b o a t m h0 e q => T.keep b (at_lt q) (fun hs => ?_)
 obtain ⟨t', cs, hb, hc⟩ := hS b hs
 exact Sl.not_blk h.b (by decide) hb (fun u hu x hx => by
  rw [List.getElem?_map] at hx
  cases hl : l[0]? with
  | none => rw [hl] at hx; cases hx
  | some y => rw [hl] at hx; have : u8c y = x := by simpa using hx
              rw [← this]; exact hc u hu y) h0 e rfl
theorem QB.tchT {kb : Nat} {S : Nat → Prop} {w w' : World} {A : Option Addr} {n c : Nat} {l : List UInt8} (h : QB kb w A n c l) (T : Tch S w w') (hS : ∀ b, S b → ∃ t cs, Blk w b t cs ∧ ¬ tyB t) : QB kb w' A n c l := by
 refine h.keep fun b o a t m h0 e q => T.keep b (at_lt q) (fun hs => ?_)
 obtain ⟨t', cs, hb, hc⟩ := hS b hs
 obtain ⟨a2, t2, m2, q2, h1, _⟩ := h.u b o h0 e
 rw [cells_ty q2 hb] at h1
 exact hc h1
section
variable {w0 w : World} {dp kb : Nat} {vP vA : Value} {d : Dk}
set_option maxRecDepth 100000 in
set_option maxHeartbeats 2000000 in
theorem backNone_in (n : Nat) (hn : 1 ≤ n) (q Bs : Nat) (W : World) (A : Option Addr) (c : Nat) (h : Blk W Bs 50 [.slice A 0 c]) :
 CallsIn Fence.wide n Tryz.prog 241 #[.func (.yield q) #[] #[], .pointer (some ⟨Bs, 0, none⟩)] W fun e W' => (∃ v, e = .returned v) ∧ Gr W W' := by
 have c0 := bC0 h
 have HH := Lib.hid h
 clear h
 refine callsIn_of_wp Tryz.func241 rfl trivial ?_ rfl
 simp only [Tryz.ntmps241, List.size_toArray, List.length_cons, List.length_nil, Nat.reduceAdd, Nat.reduceSub, Array.replicate_succ, Array.replicate_zero, List.push_toArray, List.append_toArray, List.nil_append, List.cons_append]
 gi_wp2
 refine wpIn_loop_once ?_
 gi_wp2
 go_end0
 exact ⟨⟨_, rfl⟩, Gr.refl _⟩
theorem backward_any (W : World) (A : Option Addr) (n c : Nat) : Calls Tryz.prog 203 #[.slice A n c] W fun e W' => e = .returned (.func (.func 241) #[] #[.pointer (some ⟨W.heap.size, 0, none⟩)]) ∧ W' = W.alloc (.cells #[.slice A n c] 50) := by
 have hmf : ∀ (fn : Fn) (first cap : Array Value) (w : World), (Instr.makeFunc fn first cap).run Tryz.prog w = .ok (.func fn first cap) w := fun _ _ _ _ => rfl
 go_enter Tryz.func203, Tryz.ntmps203
 go_wp2_with fail
 go_ret
 exact ⟨rfl, rfl⟩
theorem results_two {fn : Func} {p u : Tmp} (h : fn.results = #[.cell p 36, .cell u 27]) (tmps : Array Value) (w : World) (g g' : Nat) (A : Option Addr) (n c : Nat) (q : Int) (hp : tmps.getD p undef = .pointer (some ⟨g, 0, none⟩)) (hu : tmps.getD u undef = .pointer (some ⟨g', 0, none⟩)) (hc : w.cell? ⟨g, 0, none⟩ = some (.slice A n c)) (hd : w.cell? ⟨g', 0, none⟩ = some (.int .i64 q)) :
 (results fn tmps).run Tryz.prog w = .ok (.tuple #[.slice A n c, .int .i64 q]) w := by
 have hp' : tmps[p]?.getD undef = .pointer (some ⟨g, 0, none⟩) := by simpa using hp
 have hu' : tmps[u]?.getD undef = .pointer (some ⟨g', 0, none⟩) := by simpa using hu
 simp only [results, h]
 simp [Sem.run_bind, hp', hu', asAddr]
 go_simp
set_option maxRecDepth 100000 in
set_option maxHeartbeats 2000000 in
theorem diskRead_any (h : DkM w0 w dp kb vP vA d) (hs : d.small) (hd : d.down = false) (hpn : d.pend = []) (place : Nat) (l : List UInt8) (hl : d.kept[place]? = some l) :
 Calls Tryz.prog 137 #[.pointer (some ⟨dp, 0, none⟩), .int .i64 (place : Int)] w fun e w' => ∃ A c, e = .returned (.tuple #[.slice A 512 c, .int .i64 0]) ∧ QB kb w' A 512 c l ∧ Gr w w' := by
 have hp : place < d.kept.length := (List.getElem?_eq_some_iff.1 hl).1
 have HDN : Hid (∀ wr, Gr w wr → Calls Tryz.prog 201 #[.pointer (some ⟨dp, 0, none⟩)] wr fun e w' => e = .returned (.bool false) ∧ wr = w') := fun wr g => by have := diskDown_any (h.mono g); rwa [hd] at this
 have HAS : Hid (∀ wr, Gr w wr → Calls Tryz.prog 202 #[.pointer (some ⟨dp, 0, none⟩), .int .i64 (place : Int)] wr fun e w' => e = .returned (.int .i64 0) ∧ wr = w') := fun wr g => by have := diskAsked_any (h.mono g) (place : Int); rwa [if_pos ⟨by omega, by omega⟩] at this
 have HKP : Hid (∀ wr, Gr w wr → Calls Tryz.prog 204 #[.pointer (some ⟨dp, 0, none⟩), .int .i64 (place : Int)] wr fun e w' => ∃ A c, e = .returned (.slice A 512 c) ∧ QB kb w' A 512 c l ∧ Gr wr w') := fun wr g => diskKept_any (h.mono g) hs place l hl
 have HH := Lib.hid h
 obtain ⟨A, c, hv, _⟩ := h.pend.slice
 rw [hpn] at hv
 subst hv
 have C1 : Hid (∀ wr, Gr w wr → wr.cell? ⟨dp, 1, none⟩ = some (.slice A 0 c)) := fun wr g => (g.blk HH.out.blk).cell 1
 clear h hs hd hpn hl hp
 refine (callsIn_wide (n := 6)).1 ?_
 refine callsIn_of_wp_marks Tryz.func137 rfl trivial ?_ rfl
 simp only [Tryz.ntmps137, List.size_toArray, List.length_cons, List.length_nil, Nat.reduceAdd, Nat.reduceSub, Array.replicate_succ, Array.replicate_zero, List.push_toArray, List.append_toArray, List.nil_append, List.cons_append]
 refine wpIn_wide.2 ?_
 go_upto_region 1 with fail
 have g0 : Gr w (((w.alloc (.cells #[.int .i64 (place : Int)] 3)).alloc (.cells #[.slice none 0 0] 36)).alloc (.cells #[.int .i64 0] 27)) := ((Gr.alloc w _).trans (Gr.alloc _ _)).trans (Gr.alloc _ _)
 have b3 : Blk (((w.alloc (.cells #[.int .i64 (place : Int)] 3)).alloc (.cells #[.slice none 0 0] 36)).alloc (.cells #[.int .i64 0] 27)) w.heap.size 3 [.int .i64 (place : Int)] := ((Blk.new w 3 #[.int .i64 (place : Int)]).alloc _).alloc _
 have b4 : Blk (((w.alloc (.cells #[.int .i64 (place : Int)] 3)).alloc (.cells #[.slice none 0 0] 36)).alloc (.cells #[.int .i64 0] 27)) (w.heap.size + 1) 36 [.slice none 0 0] := by
  have := (Blk.new (w.alloc (.cells #[.int .i64 (place : Int)] 3)) 36 #[.slice none 0 0]).alloc (.cells #[.int .i64 0] 27)
  rwa [World.size_alloc] at this
 have b5 : Blk (((w.alloc (.cells #[.int .i64 (place : Int)] 3)).alloc (.cells #[.slice none 0 0] 36)).alloc (.cells #[.int .i64 0] 27)) (w.heap.size + 1 + 1) 27 [.int .i64 0] := by
  have := Blk.new ((w.alloc (.cells #[.int .i64 (place : Int)] 3)).alloc (.cells #[.slice none 0 0] 36)) 27 #[.int .i64 0]
  rwa [World.size_alloc, World.size_alloc] at this
 obtain ⟨W0, hW0⟩ : ∃ W0, W0 = (((w.alloc (.cells #[.int .i64 (place : Int)] 3)).alloc (.cells #[.slice none 0 0] 36)).alloc (.cells #[.int .i64 0] 27)) := ⟨_, rfl⟩
 rw [← hW0] at g0 b3 b4 b5 ⊢
 clear hW0
 have c3 := bC0 b3
 have c1 := C1.out W0 g0
 have G0 := Lib.hid g0; have B3 := Lib.hid b3; have B4 := Lib.hid b4; have B5 := Lib.hid b5
 clear g0 b3 b4 b5
 go_step3
 go_wp2_with fail
 refine (HDN.out _ G0.out).mono ?_
 rintro e w6 ⟨rfl, h6⟩
 subst h6
 go_wp2_with fail
 refine (HAS.out _ G0.out).mono ?_
 rintro e w6 ⟨rfl, h6⟩
 subst h6
 go_wp2_with fail
 go_step3
 go_wp2_with fail
 refine (backward_any W0 A 0 c).mono ?_
 rintro e w6 ⟨rfl, h6⟩
 have g6 : Gr W0 w6 := by rw [h6]; exact Gr.alloc _ _
 have k6 : Blk w6 W0.heap.size 50 [.slice A 0 c] := by rw [h6]; exact Blk.new W0 50 #[.slice A 0 c]
 have G6 := Lib.hid g6; have K6 := Lib.hid k6
 clear h6 g6 k6
 go_wp2_with fail
 refine (wpIn_wide (n := 6)).1 ?_
 refine range_none (by omega) (gf := 241) (lb := #[.pointer (some ⟨W0.heap.size, 0, none⟩)]) rfl (enters_of Tryz.func241 (by kernel_rfl) rfl)
  (fun q W gW => backNone_in 5 (by omega) q W0.heap.size W A c (gW.blk K6.out)) ?_
 intro D W hD gW hKd
 have GW : Hid (Gr W0 W) := G6.out.trans gW
 have D0 : W0.heap.size < D := Nat.lt_of_lt_of_le K6.out.lt hD
 have C3 : Hid (∀ v, Gr W v → v.cell? ⟨w.heap.size, 0, none⟩ = some (.int .i64 (place : Int))) := fun v g => bC0 ((GW.out.trans g).blk B3.out)
 have HKD := Lib.hid hKd
 have DL := Lib.hid (show D < W.heap.size from (Array.getElem?_eq_some_iff.1 hKd).1)
 have c3' := C3.out W (Gr.refl _)
 clear hKd gW c3
 simp only [Exit.then, Exit.inBlock]
 go_wp2_with fail
 refine (HKP.out W (G0.out.trans GW.out)).mono ?_
 rintro e w7 ⟨A7, c7, rfl, q7, g7⟩
 have Q7 := Lib.hid q7
 have B47 := Lib.hid ((GW.out.trans g7).blk B4.out)
 have B57 := Lib.hid ((GW.out.trans g7).blk B5.out)
 have KD7 : Hid (w7.heap[D]? = some (.deferred (some []))) := (g7.block D DL.out).trans HKD.out
 have G7 := Lib.hid ((G0.out.trans GW.out).trans g7)
 have hs7 : W0.heap.size ≤ w7.heap.size := Nat.le_trans GW.out.size g7.size
 clear q7 g7
 have c4 := bC0 B47.out
 have f4 := Blk.free B47.out 0
 have c5 := bC0 B57.out
 have f5 := Blk.free B57.out 0
 go_wp2_with fail
 rw [Exit.noGoto_ret]
 obtain ⟨w8, hw8⟩ : ∃ w8, w8 = (w7.setCell ⟨w.heap.size + 1, 0, none⟩ (.slice A7 512 c7)).setCell ⟨w.heap.size + 1 + 1, 0, none⟩ (.int .i64 0) := ⟨_, rfl⟩
 have hz1 : w.heap.size + 1 < W0.heap.size := B4.out.lt
 have hz2 : w.heap.size + 1 + 1 < W0.heap.size := B5.out.lt
 have K8 : w8.heap[D]? = some (.deferred (some [])) := by
  rw [hw8]
  exact (KeepsOthers.setCell _ ⟨w.heap.size + 1 + 1, 0, none⟩ _).same _ _ ((KeepsOthers.setCell _ ⟨w.heap.size + 1, 0, none⟩ _).same _ _ KD7.out rfl) rfl
 have G8 : Gr w w8 := by rw [hw8]; exact gr_set (gr_set G7.out (Nat.le_succ _) _) (by omega) _
 have B48 : Blk w8 (w.heap.size + 1) 36 [.slice A7 512 c7] := by rw [hw8]; exact (B47.out.set 0 _).far (p := ⟨w.heap.size + 1 + 1, 0, none⟩) (by show w.heap.size + 1 ≠ w.heap.size + 1 + 1; omega) _
 have B58 : Blk w8 (w.heap.size + 1 + 1) 27 [.int .i64 0] := by rw [hw8]; exact (B57.out.far (p := ⟨w.heap.size + 1, 0, none⟩) (by show w.heap.size + 1 + 1 ≠ w.heap.size + 1; omega) _).set 0 _
 rw [← hw8]
 refine ⟨by simp, .inl ⟨_, _, rfl, run_takeDeferred K8, ?_⟩⟩
 have n1 : w.heap.size + 1 ≠ D := by omega
 have n2 : w.heap.size + 1 + 1 ≠ D := by omega
 have n3 : w.heap.size ≤ D := by omega
 refine ⟨_, results_two rfl _ _ (w.heap.size + 1) (w.heap.size + 1 + 1) A7 512 c7 0 rfl rfl (bC0 (blk_put B48 n1 _)) (bC0 (blk_put B58 n2 _)), ?_⟩
 have T8 : Tch (fun b => b = w.heap.size + 1 ∨ b = w.heap.size + 1 + 1) w7 w8 := by rw [hw8]; exact (Tch.set ⟨w.heap.size + 1, 0, none⟩ _ (.inl rfl)).trans (Tch.set ⟨w.heap.size + 1 + 1, 0, none⟩ _ (.inr rfl))
 refine ⟨A7, c7, rfl, ?_, gr_put G8 D _ n3⟩
 refine QB.put (QB.tch Q7.out T8 (fun b hb => ?_)) K8 rfl _
 rcases hb with e | e
 · rw [e]
   exact ⟨_, _, B47.out, fun u hu x => by rw [List.mem_singleton] at hu; rw [hu]; unfold u8c; simp⟩
 · rw [e]
   exact ⟨_, _, B57.out, fun u hu x => by rw [List.mem_singleton] at hu; rw [hu]; unfold u8c; simp⟩
end
end
end Go.Proofs.YtdkmlmbehlooiaaGreatDoor
