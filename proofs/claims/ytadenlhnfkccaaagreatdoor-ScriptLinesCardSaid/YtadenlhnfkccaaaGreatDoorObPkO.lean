/- Own texts of this claim, one behind the other. No condition. -/
import Derived.Test.YtadenlhnfkccaaaGreatDoorObPkF
import Derived.Test.YtadenlhnfkccaaaGreatDoorObPkI
import Derived.Test.YtadenlhnfkccaaaGreatDoorObPkK
import Derived.Test.YtadenlhnfkccaaaGreatDoorObPkL
import Derived.Test.YtadenlhnfkccaaaGreatDoorObPkM
import Derived.Test.YtadenlhnfkccaaaGreatDoorObPkN
import Derived.Outline

/- Lines of scripts: Read's walk. No condition. -/
namespace Go.Proofs.YtadenlhnfkccaaaGreatDoor
open Go.RowKit Go.Shelf
attribute [local go_sem] Oper.semAt_some
set_option linter.unusedVariables false
set_option linter.unusedSimpArgs false
theorem Blk.at {w : World} {g g' : Nat} {t : TypeId} {cs : List Value} (h : Blk w g t cs) (e : g = g') : Blk w g' t cs := e ▸ h
theorem gr_putD {w W : World} (h : Gr w W) (q : Nat) (o : Obj) (hq : w.heap.size ≤ q) : Gr w (W.putObj q o) := Below.grown h (grownBy_putObj' W q o) (Below.size h) (fun k e => by cases e; exact hq)
theorem blk_putD {w : World} {g q : Nat} {t : TypeId} {cs : List Value} (h : Blk w g t cs) (hne : g ≠ q) (o : Obj) : Blk (w.putObj q o) g t cs := (World.putObj_heap_other hne).trans h
def RetRs (w : World) (r : List LnD × Nat × Nat) (e : Ending) (w' : World) : Prop := ∃ A n c L, e = .returned (.tuple #[.slice A n c, .int .i64 (r.2.1 : Int), .int .i64 (r.2.2 : Int)]) ∧ Lns w' A n c L ∧ L.map LnV.d = r.1 ∧ Gr w w'
theorem results_read {fn : Func} {p q r : Tmp} (h : fn.results = #[.cell p 49, .cell q 3, .cell r 32]) (tmps : Array Value) (w : World) (g0 g1 g2 : Nat) (A : Option Addr) (n c : Nat) (a b : Int)
    (hp : tmps.getD p undef = .pointer (some ⟨g0, 0, none⟩)) (hq : tmps.getD q undef = .pointer (some ⟨g1, 0, none⟩)) (hr : tmps.getD r undef = .pointer (some ⟨g2, 0, none⟩))
    (h0 : w.cell? ⟨g0, 0, none⟩ = some (.slice A n c)) (h1 : w.cell? ⟨g1, 0, none⟩ = some (.int .i64 a)) (h2 : w.cell? ⟨g2, 0, none⟩ = some (.int .i64 b)) :
    (results fn tmps).run Tryz.prog w = .ok (.tuple #[.slice A n c, .int .i64 a, .int .i64 b]) w := by
  have hp' : tmps[p]?.getD undef = .pointer (some ⟨g0, 0, none⟩) := by simpa using hp
  have hq' : tmps[q]?.getD undef = .pointer (some ⟨g1, 0, none⟩) := by simpa using hq
  have hr' : tmps[r]?.getD undef = .pointer (some ⟨g2, 0, none⟩) := by simpa using hr
  simp only [results, h]
  simp [hp', hq', hr', asAddr]
  go_simp
theorem read_done {w W : World} {N D : Nat} {v u1 u2 : Value} {L : List LnV} (a b : Int) (b0 : Blk W w.heap.size 49 [v]) (b1 : Blk W (w.heap.size + 1) 3 [u1]) (b2 : Blk W (w.heap.size + 1 + 1) 32 [u2]) (out : OutL w N W v L) (g : Gr w W) (hN : w.heap.size + 4 ≤ N) (hD : N ≤ D) {ds : Option (List Deferred)} (hKd : W.heap[D]? = some (.deferred ds)) (o : Obj) (ho : o.isCells = false) :
    Blk ((((W.setCell ⟨w.heap.size, 0, none⟩ v).setCell ⟨w.heap.size + 1, 0, none⟩ (.int .i64 a)).setCell ⟨w.heap.size + 1 + 1, 0, none⟩ (.int .i64 b)).putObj D o) w.heap.size 49 [v] ∧
    Blk ((((W.setCell ⟨w.heap.size, 0, none⟩ v).setCell ⟨w.heap.size + 1, 0, none⟩ (.int .i64 a)).setCell ⟨w.heap.size + 1 + 1, 0, none⟩ (.int .i64 b)).putObj D o) (w.heap.size + 1) 3 [.int .i64 a] ∧
    Blk ((((W.setCell ⟨w.heap.size, 0, none⟩ v).setCell ⟨w.heap.size + 1, 0, none⟩ (.int .i64 a)).setCell ⟨w.heap.size + 1 + 1, 0, none⟩ (.int .i64 b)).putObj D o) (w.heap.size + 1 + 1) 32 [.int .i64 b] ∧
    OutL w N ((((W.setCell ⟨w.heap.size, 0, none⟩ v).setCell ⟨w.heap.size + 1, 0, none⟩ (.int .i64 a)).setCell ⟨w.heap.size + 1 + 1, 0, none⟩ (.int .i64 b)).putObj D o) v L ∧
    Gr w ((((W.setCell ⟨w.heap.size, 0, none⟩ v).setCell ⟨w.heap.size + 1, 0, none⟩ (.int .i64 a)).setCell ⟨w.heap.size + 1 + 1, 0, none⟩ (.int .i64 b)).putObj D o) := by
  refine ⟨?_, ?_, ?_, ?_, ?_⟩
  · exact blk_putD (((b0.set 0 v).far (p := ⟨_, 0, none⟩) (by show _ ≠ _ + 1; omega) _).far (p := ⟨_, 0, none⟩) (by show _ ≠ _ + 1 + 1; omega) _) (by omega) o
  · exact blk_putD (((b1.far (p := ⟨w.heap.size, 0, none⟩) (by show w.heap.size + 1 ≠ w.heap.size; omega) _).set 0 (.int .i64 a)).far (p := ⟨_, 0, none⟩) (by show _ + 1 ≠ _ + 1 + 1; omega) _) (by omega) o
  · exact blk_putD (((b2.far (p := ⟨w.heap.size, 0, none⟩) (by show w.heap.size + 1 + 1 ≠ w.heap.size; omega) _).far (p := ⟨_, 0, none⟩) (by show _ + 1 + 1 ≠ _ + 1; omega) _).set 0 (.int .i64 b)) (by omega) o
  · refine out.tch (S := fun q => q = w.heap.size ∨ q = w.heap.size + 1 ∨ q = w.heap.size + 1 + 1 ∨ q = D) ((((Tch.set _ _ (.inl rfl)).trans (Tch.set _ _ (.inr (.inl rfl)))).trans (Tch.set _ _ (.inr (.inr (.inl rfl))))).trans ((Tch.putObj _ D o).mono fun q _ h => .inr (.inr (.inr h)))) ?_ ?_
    · intro q hq hs
      have h1 := (World.ownsRow.lt out.own q hq).1
      rcases hs with rfl | rfl | rfl | rfl
      · omega
      · omega
      · omega
      · rcases out.own.2 with ⟨e, _⟩ | ⟨g', cap, cur, hv, _, hh, _⟩
        · rw [e] at hq; cases hq
        · have e1 : g' = q := by rw [hv] at hq; exact Option.some.inj hq
          rw [e1, hKd] at hh; cases hh
    · rintro q hq ⟨i, u, hc⟩ hs
      rcases hs with rfl | rfl | rfl | rfl
      · omega
      · omega
      · omega
      · rw [World.cell?, hKd] at hc; simp at hc
  · exact gr_putD (gr_set (gr_set (gr_set g (Nat.le_refl _) _) (by omega) _) (by omega) _) D o (by omega)
theorem lns_out {w W : World} {N : Nat} {A : Option Addr} {n c : Nat} {L : List LnV} (out : OutL w N W (.slice A n c) L) (hN : N ≤ W.heap.size) : n = L.length ∧ Lns W A n c L := by
  obtain ⟨A1, c1, e, sl⟩ := (own_cut out.own hN).slice
  injection e with e1 e2 e3
  subst e1 e2 e3
  exact ⟨rfl, rfl, sl, out.at_⟩
set_option maxRecDepth 100000 in
set_option maxHeartbeats 4000000 in
theorem scRead_any (l : List UInt8) (w : World) (hl : l.length ≤ 100000) (hT : Pow10 w) (hM : MLen w) : Calls Tryz.prog 17 #[strc l] w (RetRs w (readS l)) := by
  obtain ⟨s, hs⟩ : ∃ s : ByteArray, s = ⟨l.toArray⟩ := ⟨_, rfl⟩
  have hss : strc l = .string s := by rw [hs]; rfl
  rw [hss]
  have HS := Lib.hid hss; clear hs hss
  have HT := Lib.hid hT; have HMLEN := Lib.hid hM; clear hT hM
  have HLL := Lib.hid hl; clear hl
  refine (callsIn_wide (n := 6)).1 ?_
  refine callsIn_of_wp_marks Tryz.func17 rfl trivial ?_ rfl
  simp only [Tryz.ntmps17, List.size_toArray, List.length_cons, List.length_nil, Nat.reduceAdd, Nat.reduceSub, Array.replicate_succ, Array.replicate_zero, List.push_toArray, List.append_toArray, List.nil_append, List.cons_append]
  refine wpIn_wide.2 ?_
  have HSS : Hid (∀ wr, Calls Tryz.prog 45 #[.string s, .string ⟨#[10]⟩] wr fun e w' => e = .returned (.func (.func 90) #[] #[.pointer (some ⟨wr.heap.size + 1, 0, none⟩), .pointer (some ⟨wr.heap.size, 0, none⟩), .pointer (some ⟨wr.heap.size + 2, 0, none⟩)]) ∧ w' = ((wr.alloc (.cells #[.string s] 9)).alloc (.cells #[.string ⟨#[10]⟩] 9)).alloc (.cells #[.int .i64 0] 3)) := fun wr => callsIn_wide.1 (splitSeq_in 6 (by omega) s ⟨#[10]⟩ wr)
  go_wp2_with fail
  go_step3
  go_wp2_with fail
  go_step3
  go_wp2_with fail
  refine (HSS.out _).mono ?_
  rintro e w6 ⟨rfl, rfl⟩
  go_wp2_with fail
  obtain ⟨W0, hW0⟩ : ∃ W0, W0 = (((((((w.alloc (Obj.cells #[Value.slice none 0 0] 49)).alloc (Obj.cells #[Value.int IntKind.i64 0] 3)).alloc (Obj.cells #[Value.int IntKind.i64 0] 32)).alloc (Obj.cells #[Value.int IntKind.i64 0] 3)).alloc (Obj.cells #[Value.string s] 9)).alloc (Obj.cells #[Value.string { data := #[10] }] 9)).alloc (Obj.cells #[Value.int IntKind.i64 0] 3)) := ⟨_, rfl⟩
  have zW : W0.heap.size = w.heap.size + 7 := by rw [hW0]; simp
  have bO : Blk W0 w.heap.size 49 [.slice none 0 0] := by
    rw [hW0]
    exact (((((((Blk.new w 49 #[Value.slice none 0 0]).alloc _).alloc _).alloc _).alloc _).alloc _).alloc _).at (by simp)
  have b1 : Blk W0 (w.heap.size + 1) 3 [.int .i64 0] := by
    rw [hW0]
    exact ((((((Blk.new (w.alloc (Obj.cells #[Value.slice none 0 0] 49)) 3 #[Value.int .i64 0]).alloc _).alloc _).alloc _).alloc _).alloc _).at (by simp)
  have b2 : Blk W0 (w.heap.size + 1 + 1) 32 [.int .i64 0] := by
    rw [hW0]
    exact (((((Blk.new ((w.alloc (Obj.cells #[Value.slice none 0 0] 49)).alloc (Obj.cells #[Value.int IntKind.i64 0] 3)) 32 #[Value.int .i64 0]).alloc _).alloc _).alloc _).alloc _).at (by simp)
  have b3 : Blk W0 (w.heap.size + 1 + 1 + 1) 3 [.int .i64 0] := by
    rw [hW0]
    exact ((((Blk.new (((w.alloc (Obj.cells #[Value.slice none 0 0] 49)).alloc (Obj.cells #[Value.int IntKind.i64 0] 3)).alloc (Obj.cells #[Value.int IntKind.i64 0] 32)) 3 #[Value.int .i64 0]).alloc _).alloc _).alloc _).at (by simp)
  have bS : Blk W0 (w.heap.size + 1 + 1 + 1 + 1) 9 [strc l] := by
    rw [hW0, HS.out]
    exact (((Blk.new ((((w.alloc (Obj.cells #[Value.slice none 0 0] 49)).alloc (Obj.cells #[Value.int IntKind.i64 0] 3)).alloc (Obj.cells #[Value.int IntKind.i64 0] 32)).alloc (Obj.cells #[Value.int IntKind.i64 0] 3)) 9 #[Value.string s]).alloc _).alloc _).at (by simp)
  have bT : Blk W0 (w.heap.size + 1 + 1 + 1 + 1 + 1) 9 [strc [10]] := by
    rw [hW0]
    exact ((Blk.new (((((w.alloc (Obj.cells #[Value.slice none 0 0] 49)).alloc (Obj.cells #[Value.int IntKind.i64 0] 3)).alloc (Obj.cells #[Value.int IntKind.i64 0] 32)).alloc (Obj.cells #[Value.int IntKind.i64 0] 3)).alloc (Obj.cells #[Value.string s] 9)) 9 #[strc [10]]).alloc _).at (by simp)
  have bN : Blk W0 (w.heap.size + 1 + 1 + 1 + 1 + 2) 3 [.int .i64 0] := by
    rw [hW0]
    exact (Blk.new ((((((w.alloc (Obj.cells #[Value.slice none 0 0] 49)).alloc (Obj.cells #[Value.int IntKind.i64 0] 3)).alloc (Obj.cells #[Value.int IntKind.i64 0] 32)).alloc (Obj.cells #[Value.int IntKind.i64 0] 3)).alloc (Obj.cells #[Value.string s] 9)).alloc (Obj.cells #[Value.string { data := #[10] }] 9)) 3 #[Value.int .i64 0]).at (by simp)
  have g0 : Gr w W0 := by
    rw [hW0]
    exact ((((((Gr.alloc w _).trans (Gr.alloc _ _)).trans (Gr.alloc _ _)).trans (Gr.alloc _ _)).trans (Gr.alloc _ _)).trans (Gr.alloc _ _)).trans (Gr.alloc _ _)
  rw [← hW0]
  clear hW0
  refine (wpIn_wide (n := 6)).1 ?_
  refine range_box (by omega) (gf := 90) (lb := #[.pointer (some ⟨w.heap.size + 1 + 1 + 1 + 1 + 1, 0, none⟩), .pointer (some ⟨w.heap.size + 1 + 1 + 1 + 1, 0, none⟩), .pointer (some ⟨w.heap.size + 1 + 1 + 1 + 1 + 2, 0, none⟩)]) rfl (enters_of Tryz.func90 (by kernel_rfl) rfl)
    strc (K3 (w.heap.size + 1 + 1 + 1 + 1) (w.heap.size + 1 + 1 + 1 + 1 + 1) (w.heap.size + 1 + 1 + 1 + 1 + 2)) (fun _ _ _ h k => K3.trans h k)
    (fun W q o hq c hc => World.putObj_heap_other (by omega))
    (fun xs => xs = cutL 10 l) (fun pre => ∃ rest, pre ++ rest = cutL 10 l) (w.heap.size + 1 + 1 + 1 + 1) (fun pre x => ∃ rest, pre ++ x :: rest = cutL 10 l)
    (fun q J Jx W gW hJs hY h0 => (splitR_in 5 (by omega) q _ _ _ (by omega) (by omega) l HLL.out J Jx hJs hY W (gW.blk bS) (gW.blk bT) (gW.blk bN) h0).mono (fun e W' h => ⟨h.1, h.2.imp (fun k => ⟨_, rfl, k⟩) id⟩))
    (RdI w W0.heap.size) (RdX w)
    (fun pre A o h => h.tch (S := fun _ => False) (Tch.gr (Gr.alloc A o)) (fun _ _ h => h) (fun _ _ _ _ h => h) (fun _ _ _ h => h))
    (fun pre A q o o' h hq ho hc => h.tch (Tch.putObj A q o') (fun b hb e => by have e : b = q := e; omega) (fun g cs _ hg e => by have e : g = q := e; rw [e, ho] at hg; injection hg with hg; rw [hg] at hc; cases hc) (fun b hb hx e => by
      have e : b = q := e
      subst e
      obtain ⟨q', v, hv⟩ := hx
      rw [World.cell?, ho] at hv
      cases o <;> simp_all [Obj.isCells]))
    (fun pre A q o o' h hq _ _ => h.tch (Tch.putObj A q o') (fun b hb e => by have e : b = q := e; omega))
    (fun pre A v h => h.tch (Tch.set (S := fun b => b = w.heap.size + 1 + 1 + 1 + 1) ⟨w.heap.size + 1 + 1 + 1 + 1, 0, none⟩ v rfl) (fun b hb e => by have e : b = w.heap.size + 1 + 1 + 1 + 1 := e; omega) (fun g cs hN hg e => by have e : g = w.heap.size + 1 + 1 + 1 + 1 := e; omega) (fun b hb hx e => by have e : b = w.heap.size + 1 + 1 + 1 + 1 := e; omega))
    ⟨.slice none 0 0, [], bO, ⟨World.ownsRow_nil _ _ _ _, fun x hx => (by cases hx), fun x hx => (by cases hx), fun x hx => (by cases hx)⟩, rfl, b1, b2, b3, g0, Nat.le_refl _, rfl⟩
    (fun x => { tmps := #[.string s, undef, .pointer (some ⟨w.heap.size, 0, none⟩), .pointer (some ⟨w.heap.size + 1, 0, none⟩), .pointer (some ⟨w.heap.size + 1 + 1, 0, none⟩), .pointer (some ⟨w.heap.size + 1 + 1 + 1, 0, none⟩), strc x, undef, undef, .string s,
      .func (.func 90) #[] #[.pointer (some ⟨w.heap.size + 1 + 1 + 1 + 1 + 1, 0, none⟩), .pointer (some ⟨w.heap.size + 1 + 1 + 1 + 1, 0, none⟩), .pointer (some ⟨w.heap.size + 1 + 1 + 1 + 1 + 2, 0, none⟩)],
      strc x, undef, undef, undef, undef, undef, undef, undef, undef, undef, undef, undef, undef, undef, undef, undef, undef, undef], defers := [] }) ?assign ?body ?done ?stop
  case assign =>
    intro q x W K hK
    gi_wp2
    exact hK
  case body =>
    rintro q pre x W hi ⟨rest, hr⟩
    have hmem : x ∈ cutL 10 l := by rw [← hr]; simp
    have hxl : x.length ≤ 100000 := Nat.le_trans ((cut_size 10 l).2 x hmem) HLL.out
    have hpl : pre.length ≤ 100001 := by
      have h := (cut_size 10 l).1
      rw [← hr] at h
      simp at h
      have := HLL.out
      omega
    obtain ⟨v, L, b0, out, hm, b1, b2, b3, g, hN, hk⟩ := hi
    have c5 := blk_cell0 b3
    have f5 := b3.free 0
    have wl : IntKind.i64.wrap ((pre.length : Int) + 1) = (pre.length : Int) + 1 := by rw [IntKind.wrap_i64]; omega
    apply wpIn_block
    apply wpIn_seq_k
    intro K1 hK1
    apply wpIn_region_lit
    refine wpListIn_of (fun ⟨a, w, h⟩ => h) _ _ _ rfl ?_
    go_wp2_with fail
    obtain ⟨W1, hW1⟩ : ∃ W1, W1 = W.setCell ⟨w.heap.size + 1 + 1 + 1, 0, none⟩ (.int .i64 ((pre.length : Int) + 1)) := ⟨_, rfl⟩
    rw [← hW1]
    have T1 : Tch (fun b => b = (w.heap.size + 1 + 1 + 1)) W W1 := by rw [hW1]; exact Tch.set _ _ rfl
    have ko1 : KeepsOthers W W1 := by rw [hW1]; exact KeepsOthers.setCell _ _ _
    have k31 : K3 (w.heap.size + 1 + 1 + 1 + 1) (w.heap.size + 1 + 1 + 1 + 1 + 1) (w.heap.size + 1 + 1 + 1 + 1 + 2) W W1 := fun c hc => T1.keep c (by rcases hc with rfl | rfl | rfl <;> omega) (by rcases hc with rfl | rfl | rfl <;> omega)
    have b0 := b0.tch T1 (by omega)
    have b1 := b1.tch T1 (by omega)
    have b2 := b2.tch T1 (by omega)
    have b3 : Blk W1 (w.heap.size + 1 + 1 + 1) 3 [.int .i64 ((pre.length : Int) + 1)] := by rw [hW1]; exact b3.set 0 _
    have out := out.tch T1 (fun g hg e => by have := (World.ownsRow.lt out.own g hg).1; have e : g = (w.heap.size + 1 + 1 + 1) := e; omega) (fun b hb _ e => by have e : b = (w.heap.size + 1 + 1 + 1) := e; omega)
    have g := T1.below g g.size (fun b e => by have e : b = (w.heap.size + 1 + 1 + 1) := e; omega)
    have hN := Nat.le_trans hN T1.size
    have HPN := Lib.hid hW1
    clear hW1 c5 f5 T1 hmem wl
    obtain ⟨tx, htx⟩ : ∃ tx : ByteArray, strc x = .string tx := ⟨_, rfl⟩
    have hxt : tx.toList = x := by
      unfold strc at htx
      injection htx with htx
      rw [← htx, ByteArray.toList_eq]
    have HTX := Lib.hid htx
    have B0 := Lib.hid b0; have B1 := Lib.hid b1; have B2 := Lib.hid b2; have B3 := Lib.hid b3; have OUT := Lib.hid out; have KO1 := Lib.hid ko1; have K31 := Lib.hid k31; have GW := Lib.hid g; have HM := Lib.hid hm; have HOKP := Lib.hid hk
    rw [htx]
    clear htx b0 b1 b2 b3 out ko1 k31 g hm hk
    apply wpIn_seq_k
    intro K2 hK2
    apply wpIn_seq_k
    intro K3 hK3
    by_cases hx0 : x = []
    · have te : (tx.toList == ([] : List UInt8)) = true := by rw [hxt, hx0]; rfl
      have HOK2 : Hid ((pre ++ [x]).all pieceOk = true) := by show _ = _; rw [List.all_append, HOKP.out, hx0]; rfl
      have HF2 : Hid ((pre ++ [x]).foldl eatP [] = pre.foldl eatP []) := by show _ = _; rw [List.foldl_append, hx0]; rfl
      have hle : (pre ++ [x]).length = pre.length + 1 := by simp
      clear hxt hx0
      apply wpIn_region_lit
      refine wpListIn_of (fun ⟨a, w, h⟩ => h) _ _ _ rfl ?_
      go_wp2_with fail
      refine wpIn_cond_true rfl ?_
      apply wpIn_exit
      refine (show KeepsOthers W W1 ∧ K3 _ _ _ W W1 ∧ RdI w W0.heap.size (pre ++ [x]) W1 from ⟨KO1.out, K31.out, v, L, B0.out, OUT.out, HM.out.trans HF2.out.symm, B1.out, B2.out, ?_, GW.out, hN, HOK2.out⟩)
      rw [hle]
      exact B3.out
    · have te : (tx.toList == ([] : List UInt8)) = false := by rw [hxt]; exact beq_false_of_ne hx0
      have HPC : Hid (Calls Tryz.prog 10 #[.string tx] W1 (RetLn W1 (parseT x))) := by
        rw [← HTX.out]
        exact scParse_any x W1 hxl (HMLEN.out.mono GW.out) (HT.out.mono GW.out)
      have HOK2 : Hid ((pre ++ [x]).all pieceOk = ((parseT x).2 == 0)) := by show _ = _; rw [List.all_append, HOKP.out]; simp [pieceOk, hx0]
      have HOKX : Hid (pieceOk x = ((parseT x).2 == 0)) := by show _ = _; simp [pieceOk, hx0]
      have HF2 : Hid ((pre ++ [x]).foldl eatP [] = pre.foldl eatP [] ++ [(parseT x).1]) := by show _ = _; rw [List.foldl_append]; simp [eatP, hx0]
      clear hxt hx0
      apply wpIn_region_lit
      refine wpListIn_of (fun ⟨a, w, h⟩ => h) _ _ _ rfl ?_
      go_wp2_with fail
      refine wpIn_cond_false rfl ?_
      apply wpIn_skip
      refine hK2 _ _ ?_
      generalize parseT x = px at *
      obtain ⟨pd, pf⟩ := px
      simp only at HOK2 HF2 HOKX
      apply wpIn_seq_k
      intro K4 hK4
      apply wpIn_region_lit
      refine wpListIn_of (fun ⟨a, w, h⟩ => h) _ _ _ rfl ?_
      go_wp2_with fail
      refine HPC.out.mono ?_
      rintro e W2 ⟨y, rfl, hyd, hya, g2, hyn⟩
      subst hyd
      have BY : Hid (Blk ((W2.alloc (.cells #[.int .i64 0, .int .i64 0, .string ⟨#[]⟩, .string ⟨#[]⟩, .int .i64 0, .int .i64 0, .int .i64 0, .int .i64 0, .slice none 0 0, .int .i64 0, .slice none 0 0, .int .i64 0, .int .i64 0, .string ⟨#[]⟩, .int .i64 0, .string ⟨#[]⟩, .slice none 0 0] 37)).setRow W2.heap.size y.arr) W2.heap.size 37 y.arr.toList) := setRow_heap _ W2.heap.size _ _ _ _ (heap_alloc_new W2 _)
      have G23 : Gr W2 ((W2.alloc (.cells #[.int .i64 0, .int .i64 0, .string ⟨#[]⟩, .string ⟨#[]⟩, .int .i64 0, .int .i64 0, .int .i64 0, .int .i64 0, .slice none 0 0, .int .i64 0, .slice none 0 0, .int .i64 0, .int .i64 0, .string ⟨#[]⟩, .int .i64 0, .string ⟨#[]⟩, .slice none 0 0] 37)).setRow W2.heap.size y.arr) := below_row39 ((Below.refl _ _).alloc (Nat.le_refl _) _) (Nat.le_refl _) _
      have G13 := Lib.hid (g2.trans G23)
      have YA := Lib.hid (hya.gr G23)
      have YN := Lib.hid hyn
      clear g2 G23 hya hyn
      go_wp2_with (refine wpList_store_row rfl 37 (.tmp 7) (.tmp 19) rfl W2.heap.size y.arr rfl rfl 37 #[.int .i64 0, .int .i64 0, .string ⟨#[]⟩, .string ⟨#[]⟩, .int .i64 0, .int .i64 0, .int .i64 0, .int .i64 0, .slice none 0 0, .int .i64 0, .slice none 0 0, .int .i64 0, .int .i64 0, .string ⟨#[]⟩, .int .i64 0, .string ⟨#[]⟩, .slice none 0 0] (by exact heap_alloc_new W2 _) lnSize rfl (lnOne _) ?_)
      obtain ⟨W3, hW3⟩ : ∃ W3, W3 = ((W2.alloc (.cells #[.int .i64 0, .int .i64 0, .string ⟨#[]⟩, .string ⟨#[]⟩, .int .i64 0, .int .i64 0, .int .i64 0, .int .i64 0, .slice none 0 0, .int .i64 0, .slice none 0 0, .int .i64 0, .int .i64 0, .string ⟨#[]⟩, .int .i64 0, .string ⟨#[]⟩, .slice none 0 0] 37)).setRow W2.heap.size y.arr) := ⟨_, rfl⟩
      rw [← hW3] at BY G13 YA ⊢
      have hs3 : W2.heap.size < W3.heap.size := by have := BY.out.lt; omega
      clear hW3
      have c2 : W3.cell? ⟨w.heap.size, 0, none⟩ = some v := blk_cell0 (B0.out.mono G13.out)
      have f2 := (B0.out.mono G13.out).free 0
      have b3' := B3.out.mono G13.out
      have b1' := B1.out.mono G13.out
      have b2' := B2.out.mono G13.out
      apply wpIn_seq_k
      intro K5 hK5
      apply wpIn_seq_k
      intro K6 hK6
      by_cases hf : pf = 0
      · have tf : ((pf : Int) != 0) = false := by rw [hf]; rfl
        have HOK3 : Hid ((pre ++ [x]).all pieceOk = true) := by show _ = _; rw [HOK2.out, hf]; rfl
        clear hf
        apply wpIn_region_lit
        refine wpListIn_of (fun ⟨a, w, h⟩ => h) _ _ _ rfl ?_
        go_wp2_with fail
        refine wpIn_cond_false rfl ?_
        apply wpIn_skip
        refine hK5 _ _ ?_
        have hll : L.length ≤ 100001 := by
          have h1 := congrArg List.length HM.out
          have h2 := fold_len pre []
          rw [List.length_map] at h1
          simp at h2
          omega
        have hN3 : W0.heap.size ≤ W3.heap.size := Nat.le_trans hN G13.out.size
        have OUT3 : Hid (OutL w W0.heap.size W3 v L) := OUT.out.tch (S := fun _ => False) (Tch.gr G13.out) (fun _ _ h => h) (fun _ _ _ h => h)
        have OW3 : Hid (Own (cutR W3 W0.heap.size) W3 37 17 v L.length (L.flatMap LnV.cells)) := own_cut OUT3.out.own hN3
        clear b3' b1' b2'
        apply wpIn_region_lit
        refine wpListIn_of (fun ⟨a, w, h⟩ => h) _ _ _ rfl ?_
        go_wp2_with (first
          | (refine wpList_load_row rfl 37 (.tmp 7) rfl W2.heap.size rfl 37 y.arr (0, 0) _ BY.out Tryz.underlying37 rfl lnSize ?_)
          | (refine wpList_build1 rfl 49 37 (.tmp 25) rfl y.arr rfl Tryz.underlying49 lnSize (by kernel_rfl) (by show 0 < 17; omega) (by show 17 ≤ _; omega) ?_)
          | (at_builtin; go_loud (refine wpList_pushG rfl (.tmp 24) (.tmp 26) 49 rfl tLines rfl OW3.out y.arr rfl rfl y.one (by omega) ?_); intro v5 w5 o5 k5; obtain ⟨A5, c5, rfl, _⟩ := o5.slice; obtain ⟨p0, p1, p2, p3, p4, p5, p6⟩ := OutL.push B0.out OUT.out GW.out (by omega) hN G13.out YA.out YN.out o5 k5; have c2 := blk_cell0 p0; have f2 := p0.free 0; have P1 := Lib.hid p1; have P2 := Lib.hid p2; have P3 := Lib.hid p3; have P4 := Lib.hid p4; have P5 := Lib.hid p5; have P6 := Lib.hid p6; clear p0 p1 p2 p3 p4 p5 p6 o5 k5))
        refine (show KeepsOthers W _ ∧ K3 _ _ _ W _ ∧ RdI w W0.heap.size (pre ++ [x]) _ from ⟨KO1.out.trans P3.out, fun c hc => ?_, _, L ++ [y], P1.out, P5.out, ?_, ?_, ?_, ?_, P4.out, P6.out, HOK3.out⟩)
        · rw [P2.out c (by rcases hc with rfl | rfl | rfl <;> omega) (by rcases hc with rfl | rfl | rfl <;> omega)]
          exact K31.out c hc
        · rw [HF2.out, ← HM.out, List.map_append]; rfl
        · exact (P2.out _ (by omega) (by omega)).trans B1.out
        · exact (P2.out _ (by omega) (by omega)).trans B2.out
        · have hle : (pre ++ [x]).length = pre.length + 1 := by simp
          rw [hle]
          exact (P2.out _ (by omega) (by omega)).trans B3.out
      · have tf : ((pf : Int) != 0) = true := bne_iff_ne.2 (by omega)
        have HBX : Hid (pieceOk x = false) := by show _ = _; rw [HOKX.out]; exact beq_false_of_ne hf
        clear hf
        apply wpIn_region_lit
        refine wpListIn_of (fun ⟨a, w, h⟩ => h) _ _ _ rfl ?_
        go_wp2_with fail
        refine wpIn_cond_true rfl ?_
        have c5 := blk_cell0 b3'
        have f3 := b1'.free 0
        have f4 := b2'.free 0
        have c3 := blk_cell0 b1'
        have c4 := blk_cell0 b2'
        apply wpIn_seq_k
        intro K7 hK7
        have hmix : Tryz.prog.follows .mixedOrders = true := by kernel_rfl
        gi_region_with_o (fail)
        all_goals
          refine hK7 _ _ ?_
          apply wpIn_ret
          refine (show KeepsOthers W _ ∧ RdX w (pre ++ [x]) _ from ⟨((((KO1.out.trans (keeps_gr G13.out)).trans (KeepsOthers.setCell _ _ _)).trans (KeepsOthers.setCell _ _ _)).trans (KeepsOthers.setCell _ _ _)).trans (keeps_gr (Gr.drew _)), rdX_of (B0.out.mono G13.out) (B1.out.mono G13.out) (B2.out.mono G13.out) (Gr.trans GW.out G13.out) (by simp) HOKP.out HBX.out⟩)
  case done =>
    rintro D xs W hD rfl hi hKd
    obtain ⟨v, L, b0, out, hm, b1, b2, b3, g, hN, hk⟩ := hi
    have HF : Hid (readS l = ((cutL 10 l).foldl eatP [], 0, 0)) := readS_good hk
    obtain ⟨A1, c1, rfl, _⟩ := (own_cut out.own hN).slice
    have c0 := blk_cell0 b0
    have f0 := b0.free 0
    have b1i := b1.far (p := ⟨w.heap.size, 0, none⟩) (by show w.heap.size + 1 ≠ w.heap.size; omega) (.slice A1 L.length c1)
    have b2i := (b2.far (p := ⟨w.heap.size, 0, none⟩) (by show w.heap.size + 1 + 1 ≠ w.heap.size; omega) (.slice A1 L.length c1)).far (p := ⟨w.heap.size + 1, 0, none⟩) (by show w.heap.size + 1 + 1 ≠ w.heap.size + 1; omega) (.int .i64 0)
    have f1 := b1i.free 0
    have f2 := b2i.free 0
    have c1i := blk_cell0 b1i
    have c2i := blk_cell0 b2i
    clear b1i b2i
    have fin : (((W.setCell ⟨w.heap.size, 0, none⟩ (.slice A1 L.length c1)).setCell ⟨w.heap.size + 1, 0, none⟩ (.int .i64 0)).setCell ⟨w.heap.size + 1 + 1, 0, none⟩ (.int .i64 0)).heap[D]? = some (.deferred (some [])) := (((KeepsOthers.setCell W ⟨w.heap.size, 0, none⟩ _).trans (KeepsOthers.setCell _ ⟨w.heap.size + 1, 0, none⟩ _)).trans (KeepsOthers.setCell _ ⟨w.heap.size + 1 + 1, 0, none⟩ _)).same _ _ hKd rfl
    have FIN := Lib.hid fin
    have RD := Lib.hid (read_done 0 0 b0 b1 b2 out g (by omega) (by omega) hKd (.deferred none) rfl)
    have hDW : D < W.heap.size := (Array.getElem?_eq_some_iff.1 hKd).1
    have HNW := Lib.hid hN
    have HM := Lib.hid hm
    clear fin b0 b1 b2 b3 out g hk hKd hm
    simp only [Exit.then, Exit.inBlock, ↓reduceIte, Nat.reduceEqDiff]
    go_wp2_with fail
    refine ⟨by simp, .inl ⟨_, _, rfl, run_takeDeferred FIN.out, ?_⟩⟩
    obtain ⟨p0, p1, p2, p3, p4⟩ := RD.out
    have hN2 := Nat.le_trans HNW.out (Tch.size (S := fun _ => True) ((((Tch.set (w := W) ⟨w.heap.size, 0, none⟩ (.slice A1 L.length c1) trivial).trans (Tch.set ⟨w.heap.size + 1, 0, none⟩ (.int .i64 0) trivial)).trans (Tch.set ⟨w.heap.size + 1 + 1, 0, none⟩ (.int .i64 0) trivial)).trans ((Tch.putObj _ D (.deferred none)).mono fun _ _ _ => trivial)))
    rw [HF.out]
    exact ⟨_, results_read rfl _ _ w.heap.size (w.heap.size + 1) (w.heap.size + 1 + 1) A1 L.length c1 0 0 rfl rfl rfl (blk_cell0 p0) (blk_cell0 p1) (blk_cell0 p2), A1, L.length, c1, L, rfl, (lns_out p3 hN2).2, HM.out, p4⟩
  case stop =>
    rintro D pre W hD ⟨rest, hr⟩ hx hKd
    obtain ⟨b0, b1, b2, g, p0, x, hpx, ha, hb⟩ := hx
    have HF : Hid (readS l = ([], p0.length + 1, 3)) := readS_bad (by rw [← hpx]; exact hr) ha hb
    have hle : pre.length = p0.length + 1 := by rw [hpx]; simp
    have HLE : Hid ((pre.length : Int) = ((p0.length + 1 : Nat) : Int)) := by show _ = _; rw [hle]
    have B0 := Lib.hid (blk_putD b0 (q := D) (by omega) (.deferred none))
    have B1 := Lib.hid (blk_putD b1 (q := D) (by omega) (.deferred none))
    have B2 := Lib.hid (blk_putD b2 (q := D) (by omega) (.deferred none))
    have GF := Lib.hid (gr_putD g D (.deferred none) (by omega))
    clear b0 b1 b2 g
    gi_wp2
    refine ⟨by simp, .inl ⟨_, _, rfl, run_takeDeferred hKd, ?_⟩⟩
    rw [HF.out]
    exact ⟨_, results_read rfl _ _ w.heap.size (w.heap.size + 1) (w.heap.size + 1 + 1) none 0 0 _ 3 rfl rfl rfl (blk_cell0 B0.out) (blk_cell0 B1.out) (blk_cell0 B2.out), none, 0, 0, [], by rw [HLE.out]; rfl, ⟨rfl, Sl.nil _ _, fun x hx => by cases hx⟩, rfl, GF.out⟩
end Go.Proofs.YtadenlhnfkccaaaGreatDoor

/- Lines of scripts: the reference's keep, numbers, split. No condition. -/
namespace Go.Proofs.YtadenlhnfkccaaaGreatDoor
open Go.RowKit
set_option linter.unusedVariables false
set_option linter.unusedSimpArgs false
def RetKeep (w : World) (l : List UInt8) (e : Ending) (w' : World) : Prop := ∃ B m q p, e = .returned (.tuple #[.slice B m q, .bool (keepB l)]) ∧ Is w' B m q p ∧ (keepB l = true → p = keepL l) ∧ Gr w w' ∧ ∀ b o, B = some ⟨b, o, none⟩ → w.heap.size ≤ b
set_option maxRecDepth 100000 in
set_option maxHeartbeats 4000000 in
theorem refKeep41_any (l : List UInt8) (w : World) (hl : l.length ≤ 100000) : Calls Tryz.prog 35 #[strc l] w (RetKeep w l) := by
  obtain ⟨s, hs⟩ : ∃ s : ByteArray, s = ⟨l.toArray⟩ := ⟨_, rfl⟩
  have hsz : s.size = l.length := by rw [hs]; exact size_of' l
  have hsl : s.toList = l := by rw [hs, ByteArray.toList_eq]
  have HAT := Lib.hid (at_of l s hs)
  have hss : strc l = .string s := by rw [hs]; rfl
  rw [hss]
  clear hs hss
  go_enter Tryz.func35, Tryz.ntmps35
  by_cases hd : l = [45]
  · have td : (s.toList == ([45] : List UInt8)) = true := by rw [hsl, hd]; rfl
    have HK : Hid (keepB l = true ∧ keepL l = []) := by subst hd; exact ⟨rfl, rfl⟩
    clear hsl
    go_wp2_with fail
    go_ret2
    exact ⟨none, 0, 0, [], by rw [HK.out.1]; rfl, Sl.nil _ _, fun _ => HK.out.2.symm, Gr.refl _, fun b o e => by cases e⟩
  · have td : (s.toList == ([45] : List UInt8)) = false := by rw [hsl]; exact beq_false_of_ne hd
    have HKB : Hid (keepB l = (l.all (fun c => c == 48 || c == 49) && decide (1 ≤ l.length) && decide (l.length ≤ 64))) := by show _ = _; unfold keepB; rw [beq_false_of_ne hd, Bool.false_or]
    have HKL : Hid (keepL l = keepL' l) := by show _ = _; unfold keepL; rw [if_neg hd]; rfl
    have HSZ := Lib.hid hsz
    clear hsl hd hsz
    go_wp2_with fail
    go_loopw [4, 5] (fun v i wr => ∃ k : Nat, k ≤ s.size ∧ i = .int .i64 k ∧ (l.take k).all (fun c => c == 48 || c == 49) = true ∧ Own w wr 3 1 v k ((keepL' (l.take k)).map i64c)) (fun _ i _ => s.size - (intOf i).toNat)
    case atStart => exact ⟨0, Nat.zero_le _, rfl, rfl, Own.nil _ _ _⟩
    case round =>
      obtain ⟨k, hk, rfl, hok, own⟩ := hrel
      have HOK := Lib.hid hok; have OW := Lib.hid own
      obtain ⟨A1, c1, rfl, sl1⟩ := own.slice
      have SL1 := Lib.hid sl1
      clear hok own sl1
      have hsz := HSZ.out
      by_cases hlt : k < s.size
      · have hkl : k < l.length := by omega
        have hsc : ((s[k]'hlt).toNat : Int) = (l[k].toNat : Int) := by
          rw [HAT.out k hlt]
          unfold bAt
          rw [List.getD_eq_getElem?_getD, List.getElem?_eq_getElem hkl]; rfl
        have HSTP := Lib.hid (keep_step hkl)
        have HALL : Hid ((l.take (k + 1)).all (fun c => c == 48 || c == 49) = ((l.take k).all (fun c => c == 48 || c == 49) && (l[k] == 48 || l[k] == 49))) := by
          show _ = _
          rw [List.take_succ_eq_append_getElem hkl, List.all_append]; simp
        have HBAD : Hid ((l[k] == 48 || l[k] == 49) = false → keepB l = false) := fun h => by
          rw [HKB.out, List.all_eq_false.2 ⟨l[k], List.getElem_mem hkl, by rw [h]; decide⟩]; rfl
        generalize l[k] = ch at *
        have hk2 : (k : Int) < (s.size : Int) := by omega
        have hok2 := HOK.out
        clear hsz
        by_cases hc48 : ch = 48
        · have hs8 : ((s[k]'hlt).toNat : Int) = 48 := by rw [hsc, hc48]; rfl
          have HE : Hid ((keepL' (l.take (k + 1))).map i64c = (keepL' (l.take k)).map i64c ++ [Value.int .i64 0]) := by show _ = _; rw [HSTP.out, hc48, List.map_append]; rfl
          have HA2 : Hid ((l.take (k + 1)).all (fun c => c == 48 || c == 49) = true) := by show _ = _; rw [HALL.out, hok2, hc48]; rfl
          clear hsc hok2 hc48
          go_wp2_with (at_builtin; go_loud (refine wpList_push rfl (.tmp 24) (.tmp 30) 25 rfl tNums rfl OW.out #[Value.int .i64 0] rfl rfl (by intro u hu; simp at hu; subst hu; rfl) (by omega) ?_); intro v5 w5 o5; obtain ⟨B5, q5, rfl, _⟩ := o5.slice; have O5 := Lib.hid o5; clear o5)
          refine ⟨⟨k + 1, by omega, by first | trivial | go_num, HA2.out, by rw [HE.out]; exact O5.out⟩, ?_⟩
          show s.size - ((k : Int) + 1).toNat < s.size - (k : Int).toNat
          omega
        by_cases hc49 : ch = 49
        · have hs8 : ((s[k]'hlt).toNat : Int) = 49 := by rw [hsc, hc49]; rfl
          have HE : Hid ((keepL' (l.take (k + 1))).map i64c = (keepL' (l.take k)).map i64c ++ [Value.int .i64 1]) := by show _ = _; rw [HSTP.out, hc49, List.map_append]; rfl
          have HA2 : Hid ((l.take (k + 1)).all (fun c => c == 48 || c == 49) = true) := by show _ = _; rw [HALL.out, hok2, hc49]; rfl
          clear hsc hok2 hc49
          go_wp2_with (at_builtin; go_loud (refine wpList_push rfl (.tmp 24) (.tmp 30) 25 rfl tNums rfl OW.out #[Value.int .i64 1] rfl rfl (by intro u hu; simp at hu; subst hu; rfl) (by omega) ?_); intro v5 w5 o5; obtain ⟨B5, q5, rfl, _⟩ := o5.slice; have O5 := Lib.hid o5; clear o5)
          refine ⟨⟨k + 1, by omega, by first | trivial | go_num, HA2.out, by rw [HE.out]; exact O5.out⟩, ?_⟩
          show s.size - ((k : Int) + 1).toNat < s.size - (k : Int).toNat
          omega
        have HF := Lib.hid (HBAD.out (by simp [hc48, hc49]))
        have hn48 : (((s[k]'hlt).toNat : Int) != 48) = true := bne_iff_ne.2 fun e => hc48 (UInt8.toNat_inj.1 (by show ch.toNat = 48; omega))
        have hn49 : (((s[k]'hlt).toNat : Int) != 49) = true := bne_iff_ne.2 fun e => hc49 (UInt8.toNat_inj.1 (by show ch.toNat = 49; omega))
        have GW : Hid (Gr w wr) := OW.out.below
        clear hsc hok2
        go_wp2_with fail
        go_ret2
        exact ⟨none, 0, 0, [], by rw [HF.out]; rfl, Sl.nil _ _, fun h => (by rw [HF.out] at h; cases h), GW.out, fun b o e => by cases e⟩
      · obtain rfl : k = s.size := by omega
        have HTA : Hid (l.take s.size = l) := List.take_of_length_le (by omega)
        have HKB2 : Hid (keepB l = (decide ((s.size : Int) ≥ 1) && decide ((s.size : Int) ≤ 64))) := by
          have h := HOK.out
          rw [HTA.out] at h
          show _ = _
          rw [HKB.out, h, Bool.true_and, hsz]
          congr 1
          · exact decide_eq_decide.2 (by omega)
          · exact decide_eq_decide.2 (by omega)
        clear hsz
        have GW : Hid (Gr w wr) := OW.out.below
        have SF : Hid (Is wr A1 s.size c1 (keepL' l)) := by
          have h := SL1.out
          rw [HTA.out] at h
          exact h
        by_cases h1 : 1 ≤ s.size
        · have t1 : decide ((1 : Int) ≤ (s.size : Int)) = true := decide_eq_true (by omega)
          have HKB3 : Hid (keepB l = decide ((s.size : Int) ≤ 64)) := by show _ = _; rw [HKB2.out, decide_eq_true (by omega : (s.size : Int) ≥ 1), Bool.true_and]
          go_wp2_with fail
          go_ret2
          exact ⟨A1, s.size, c1, keepL' l, by rw [HKB3.out]; rfl, SF.out, fun _ => HKL.out.symm, GW.out, fun b o e => (World.ownsRow.lt OW.out.1 b (by rw [e]; rfl)).1⟩
        · have t1 : decide ((1 : Int) ≤ (s.size : Int)) = false := decide_eq_false (by omega)
          have HKB3 : Hid (keepB l = false) := by show _ = _; rw [HKB2.out, decide_eq_false (by omega : ¬ (s.size : Int) ≥ 1), Bool.false_and]
          go_wp2_with fail
          go_ret2
          exact ⟨A1, s.size, c1, keepL' l, by rw [HKB3.out]; rfl, SF.out, fun _ => HKL.out.symm, GW.out, fun b o e => (World.ownsRow.lt OW.out.1 b (by rw [e]; rfl)).1⟩
def numsB (ws : List (List UInt8)) : Bool := ws.all fun x => parseF x 1073741824 == 0
def numsL (ws : List (List UInt8)) : List Int := ws.map fun x => parseN x 1073741824
def RetNums (w : World) (ws : List (List UInt8)) (e : Ending) (w' : World) : Prop := ∃ B m q p, e = .returned (.tuple #[.slice B m q, .bool (numsB ws)]) ∧ Is w' B m q p ∧ (numsB ws = true → p = numsL ws) ∧ Gr w w'
set_option maxRecDepth 100000 in
set_option maxHeartbeats 4000000 in
theorem numbers41_any (A : Option Addr) (n c : Nat) (ws : List (List UInt8)) (w : World) (hW : Ws w A n c ws) (hn : n ≤ 100001) (hl : ∀ x ∈ ws, x.length ≤ 100000) : Calls Tryz.prog 34 #[.slice A n c] w (RetNums w ws) := by
  have hmax := Sl.max hW
  have hcap := Sl.cap hW
  have hln := hW.len
  have HW := Lib.hid hW
  have HPA : Hid (∀ x ∈ ws, ∀ wr, Calls Tryz.prog 64 #[strc x, .int .i64 1073741824] wr fun e w' => e = .returned (.tuple #[.int .i64 (parseN x 1073741824), .int .i64 (parseF x 1073741824)]) ∧ Gr wr w') := fun x hx wr => (refParse_any ⟨x.toArray⟩ x 1073741824 wr rfl (by rw [size_of']; have := hl x hx; omega)).mono fun e w' h => ⟨h.1, by obtain ⟨k, rfl⟩ := h.2; exact belowN (Gr.refl _) k⟩
  clear hW hl
  go_enter Tryz.func34, Tryz.ntmps34
  go_wp2_with fail
  go_loopw [4, 5] (fun v i wr => ∃ k : Nat, k ≤ n ∧ i = .int .i64 k ∧ numsB (ws.take k) = true ∧ Own w wr 3 1 v k ((numsL (ws.take k)).map i64c)) (fun _ i _ => n - (intOf i).toNat)
  case atStart => exact ⟨0, Nat.zero_le _, rfl, rfl, Own.nil _ _ _⟩
  case round =>
    obtain ⟨k, hk, rfl, hok, own⟩ := hrel
    have HOK := Lib.hid hok; have OW := Lib.hid own
    have GW : Hid (Gr w wr) := own.below
    obtain ⟨A1, c1, rfl, sl1⟩ := own.slice
    have SL1 := Lib.hid sl1
    clear hok own sl1
    by_cases hlt : k < n
    · have hkl : k < ws.length := by omega
      obtain ⟨b, o, rfl, hc⟩ := (show Ws wr A n c ws from Sl.gr HW.out GW.out).addr (by omega)
      have cx := hc k hkl
      have HPC := Lib.hid (HPA.out ws[k] (List.getElem_mem hkl))
      have HBK : Hid (numsB (ws.take (k + 1)) = (numsB (ws.take k) && (parseF ws[k] 1073741824 == 0))) := by
        show _ = _
        unfold numsB
        rw [List.take_succ_eq_append_getElem hkl, List.all_append]; simp
      have HLK : Hid ((numsL (ws.take (k + 1))).map i64c = (numsL (ws.take k)).map i64c ++ [Value.int .i64 (parseN ws[k] 1073741824)]) := by
        show _ = _
        unfold numsL
        rw [List.take_succ_eq_append_getElem hkl, List.map_append, List.map_append]; rfl
      have HBAD : Hid ((parseF ws[k] 1073741824 == 0) = false → numsB ws = false) := fun h => by
        unfold numsB
        exact List.all_eq_false.2 ⟨ws[k], List.getElem_mem hkl, by rw [h]; decide⟩
      clear hc
      obtain ⟨tx, htx⟩ : ∃ tx : ByteArray, tx = ⟨(ws[k]).toArray⟩ := ⟨_, rfl⟩
      rw [← htx] at cx
      rw [show strc ws[k] = .string tx by rw [htx]; rfl] at HPC
      clear htx
      generalize parseF ws[k] 1073741824 = pf at *
      generalize parseN ws[k] 1073741824 = pn at *
      by_cases hf : pf = 0
      · have tf : (pf != 0) = false := by rw [hf]; rfl
        have HA2 : Hid (numsB (ws.take (k + 1)) = true) := by show _ = _; rw [HBK.out, HOK.out, hf]; rfl
        clear hf
        go_wp2_with fail
        refine (HPC.out _).mono ?_
        rintro e w2 ⟨rfl, g2⟩
        have OW2 := Lib.hid (OW.out.mono g2)
        clear g2
        go_wp2_with (at_builtin; go_loud (refine wpList_push rfl (.tmp 24) (.tmp 26) 25 rfl tNums rfl OW2.out #[Value.int .i64 pn] rfl rfl (by intro u hu; simp at hu; subst hu; rfl) (by omega) ?_); intro v5 w5 o5; obtain ⟨B5, q5, rfl, _⟩ := o5.slice; have O5 := Lib.hid o5; clear o5)
        refine ⟨⟨k + 1, by omega, by first | trivial | go_num, HA2.out, by rw [HLK.out]; exact O5.out⟩, ?_⟩
        show n - ((k : Int) + 1).toNat < n - (k : Int).toNat
        omega
      · have tf : (pf != 0) = true := bne_iff_ne.2 hf
        have HF := Lib.hid (HBAD.out (beq_false_of_ne hf))
        clear hf
        go_wp2_with fail
        refine (HPC.out _).mono ?_
        rintro e w2 ⟨rfl, g2⟩
        have G2 := Lib.hid (GW.out.trans g2)
        clear g2
        go_wp2_with fail
        go_ret2
        exact ⟨none, 0, 0, [], by rw [HF.out]; rfl, Sl.nil _ _, fun h => (by rw [HF.out] at h; cases h), G2.out⟩
    · obtain rfl : k = n := by omega
      have HTA : Hid (ws.take k = ws) := List.take_of_length_le (by omega)
      have HF : Hid (numsB ws = true) := by have h := HOK.out; rw [HTA.out] at h; exact h
      have SF : Hid (Is wr A1 k c1 (numsL ws)) := by
        have h := SL1.out
        rw [HTA.out] at h
        exact h
      go_wp2_with fail
      go_ret2
      exact ⟨A1, k, c1, numsL ws, by rw [HF.out]; rfl, SF.out, fun _ => rfl, GW.out⟩
end Go.Proofs.YtadenlhnfkccaaaGreatDoor

/- Lines of scripts: the reference's text of a line. No condition. -/
namespace Go.Proofs.YtadenlhnfkccaaaGreatDoor
open Go.RowKit
set_option linter.unusedVariables false
set_option linter.unusedSimpArgs false
theorem text_k {d : LnD} {k : Nat} (h : d.k = (k : Int)) (h1 : k ≠ 1) (h9 : k < 9) : textT d = Lib.join (scrW k :: (scrS k).map fun s => wordS d s.toNat) [32] := by
  unfold textT
  rw [if_neg (by omega), if_pos (by omega), h]
  rfl
theorem text_2 {d : LnD} (h : d.k = 2) : textT d = [97, 114, 109, 32] ++ printL d.n := by rw [text_k (k := 2) h (by decide) (by decide)]; rw [Lib.join_cons]; simp [scrS, scrW, Lib.joinTail, wordS]
theorem text_3 {d : LnD} (h : d.k = 3) : textT d = [99, 114, 97, 115, 104, 32] ++ keepT d.p ++ [32] ++ printL d.t ++ [32] ++ printL d.a := by rw [text_k (k := 3) h (by decide) (by decide)]; rw [Lib.join_cons]; simp [scrS, scrW, Lib.joinTail, wordS]
theorem text_4 {d : LnD} (h : d.k = 4) : textT d = [111, 112, 101, 110] := by rw [text_k (k := 4) h (by decide) (by decide)]; rfl
theorem text_5 {d : LnD} (h : d.k = 5) : textT d = [108, 111, 103, 32] ++ d.g ++ [32] ++ printL d.e ++ [32] ++ d.i := by rw [text_k (k := 5) h (by decide) (by decide)]; rw [Lib.join_cons]; simp [scrS, scrW, Lib.joinTail, wordS]
theorem text_6 {d : LnD} (h : d.k = 6) : textT d = [115, 101, 116, 116, 108, 101] := by rw [text_k (k := 6) h (by decide) (by decide)]; rfl
theorem text_7 {d : LnD} (h : d.k = 7) : textT d = [115, 112, 111, 105, 108, 32] ++ printL d.n ++ [32] ++ printL d.a ++ [32] ++ hexP d.b := by rw [text_k (k := 7) h (by decide) (by decide)]; rw [Lib.join_cons]; simp [scrS, scrW, Lib.joinTail, wordS]
theorem text_8 {d : LnD} (h : d.k = 8) : textT d = [108, 105, 115, 116] := by rw [text_k (k := 8) h (by decide) (by decide)]; rfl
theorem text_out {d : LnD} (h : ∀ k : Nat, 1 ≤ k → k ≤ 8 → d.k ≠ (k : Int)) : textT d = [] := by
  by_cases h0 : d.k = 0
  · rw [text_k (k := 0) h0 (by decide) (by decide)]; rfl
  · unfold textT
    rw [if_neg (by have := h 1 (by decide) (by decide); omega), if_neg]
    rintro ⟨h1, h2⟩
    have := h d.k.toNat (by omega) (by omega)
    omega
theorem refPrintS_any (n : Int) (w : World) (h1 : n ≤ 9223372036854775807) : Calls Tryz.prog 50 #[.int .i64 n] w fun e w' => e = .returned (strc (printL n)) ∧ Gr w w' := refPrint_any n.toNat n w (by omega) h1
theorem str_of {l : List UInt8} {t : ByteArray} (h : t = ⟨l.toArray⟩) : Value.string t = strc l := by rw [h]; rfl
set_option maxRecDepth 100000 in
set_option maxHeartbeats 1000000 in
theorem refText41_1 (x : LnV) (w : World) (ho : LnOk x.d) (hop : OpLt x.d.o) (hx : LnAt w x) (h1 : x.d.k = 1) :
    Calls Tryz.prog 25 #[.agg x.arr] w fun e w' => e = .returned (strc (textT x.d)) ∧ Gr w w' := by
  have HC : Hid (∀ wq, Gr (w.alloc (.cells x.arr 29)) wq → ∀ (i : Nat) (v : Value), x.cells[i]? = some v → wq.cell? ⟨w.heap.size, i, none⟩ = some v) := fun wq g i v h => (((Blk.new w 29 x.arr).mono g).cell i).trans h
  have G0 : Hid (Gr w (w.alloc (.cells x.arr 29))) := Gr.alloc w _
  have c0 := HC.out _ (Gr.refl _) 0 _ rfl
  obtain ⟨r, hr⟩ : ∃ r, r = textT x.d := ⟨_, rfl⟩
  have HR := Lib.hid hr
  rw [← hr]
  clear hr
  have HPR : Hid (∀ (n : Int) wr, n ≤ 9223372036854775807 → Calls Tryz.prog 50 #[.int .i64 n] wr fun e w' => e = .returned (strc (printL n)) ∧ Gr wr w') := fun n wr h => refPrintS_any n wr h
  have HPB : Hid (∀ n : Int, n ≤ 9223372036854775807 → (printL n).length ≤ 20) := fun n h => printL_bd h
  have HF : Hid (r = (printO x.d.o).1) := HR.out.trans (if_pos h1)
  have HPO := Lib.hid (refOpPrint_any x.d.o x.A x.d.o.x.length x.c _ hop.1 hop.2.1 hop.2.2 (hx.o.mono G0.out))
  rw [HF.out]
  clear hx hop ho
  rw [h1] at c0
  go_enter Tryz.func25, Tryz.ntmps25
  have c1 := HC.out _ (Gr.refl _) 1 _ rfl
  have c2 := HC.out _ (Gr.refl _) 2 _ rfl
  have c3 := HC.out _ (Gr.refl _) 3 _ rfl
  have c4 := HC.out _ (Gr.refl _) 4 _ rfl
  have c5 := HC.out _ (Gr.refl _) 5 _ rfl
  have c6 := HC.out _ (Gr.refl _) 6 _ rfl
  have c7 := HC.out _ (Gr.refl _) 7 _ rfl
  have c8 := HC.out _ (Gr.refl _) 8 _ rfl
  unfold opV opC at HPO
  clear h1
  go_wp2_with fail
  refine HPO.out.mono ?_
  rintro e w2 ⟨rfl, g⟩
  have G2 := Lib.hid (G0.out.trans g)
  clear g
  go_wp2_with fail
  go_ret
  exact ⟨rfl, G2.out⟩
set_option maxRecDepth 100000 in
set_option maxHeartbeats 1000000 in
theorem refText41_2 (x : LnV) (w : World) (ho : LnOk x.d) (hop : OpLt x.d.o) (hx : LnAt w x) (h2 : x.d.k = 2) :
    Calls Tryz.prog 25 #[.agg x.arr] w fun e w' => e = .returned (strc (textT x.d)) ∧ Gr w w' := by
  have HC : Hid (∀ wq, Gr (w.alloc (.cells x.arr 29)) wq → ∀ (i : Nat) (v : Value), x.cells[i]? = some v → wq.cell? ⟨w.heap.size, i, none⟩ = some v) := fun wq g i v h => (((Blk.new w 29 x.arr).mono g).cell i).trans h
  have G0 : Hid (Gr w (w.alloc (.cells x.arr 29))) := Gr.alloc w _
  have c0 := HC.out _ (Gr.refl _) 0 _ rfl
  obtain ⟨r, hr⟩ : ∃ r, r = textT x.d := ⟨_, rfl⟩
  have HR := Lib.hid hr
  rw [← hr]
  clear hr
  have HPR : Hid (∀ (n : Int) wr, n ≤ 9223372036854775807 → Calls Tryz.prog 50 #[.int .i64 n] wr fun e w' => e = .returned (strc (printL n)) ∧ Gr wr w') := fun n wr h => refPrintS_any n wr h
  have HPB : Hid (∀ n : Int, n ≤ 9223372036854775807 → (printL n).length ≤ 20) := fun n h => printL_bd h
  have HF := Lib.hid (HR.out.trans (text_2 h2))
  have c9 := HC.out _ (Gr.refl _) 9 _ rfl
  have HPC := Lib.hid (HPR.out x.d.n (w.alloc (.cells x.arr 29)) ho.n.2)
  have hb := HPB.out x.d.n ho.n.2
  obtain ⟨ft, hft⟩ : ∃ ft : ByteArray, ft = ⟨(printL x.d.n).toArray⟩ := ⟨_, rfl⟩
  have hfz : ft.size = (printL x.d.n).length := by rw [hft]; exact size_of' _
  rw [show strc (printL x.d.n) = .string ft by rw [hft]; rfl] at HPC
  have HV : Hid (Value.string (⟨#[97, 114, 109, 32]⟩ ++ ft) = strc r) := str_of (by rw [HF.out, hft]; apply ByteArray.ext; simp)
  have l1 : ¬ 9223372036854775807 < 4 + ft.size := by omega
  rw [h2] at c0
  clear hx hop ho h2 hft hfz hb
  go_enter Tryz.func25, Tryz.ntmps25
  go_wp2_with fail
  refine HPC.out.mono ?_
  rintro e w2 ⟨rfl, g⟩
  have G2 := Lib.hid (G0.out.trans g)
  clear g
  go_wp2_with fail
  go_ret
  exact ⟨by rw [← HV.out]; rfl, G2.out⟩
set_option maxRecDepth 100000 in
set_option maxHeartbeats 1000000 in
theorem refText41_3 (x : LnV) (w : World) (ho : LnOk x.d) (hop : OpLt x.d.o) (hx : LnAt w x) (h3 : x.d.k = 3) :
    Calls Tryz.prog 25 #[.agg x.arr] w fun e w' => e = .returned (strc (textT x.d)) ∧ Gr w w' := by
  have HC : Hid (∀ wq, Gr (w.alloc (.cells x.arr 29)) wq → ∀ (i : Nat) (v : Value), x.cells[i]? = some v → wq.cell? ⟨w.heap.size, i, none⟩ = some v) := fun wq g i v h => (((Blk.new w 29 x.arr).mono g).cell i).trans h
  have G0 : Hid (Gr w (w.alloc (.cells x.arr 29))) := Gr.alloc w _
  have c0 := HC.out _ (Gr.refl _) 0 _ rfl
  obtain ⟨r, hr⟩ : ∃ r, r = textT x.d := ⟨_, rfl⟩
  have HR := Lib.hid hr
  rw [← hr]
  clear hr
  have HPR : Hid (∀ (n : Int) wr, n ≤ 9223372036854775807 → Calls Tryz.prog 50 #[.int .i64 n] wr fun e w' => e = .returned (strc (printL n)) ∧ Gr wr w') := fun n wr h => refPrintS_any n wr h
  have HPB : Hid (∀ n : Int, n ≤ 9223372036854775807 → (printL n).length ≤ 20) := fun n h => printL_bd h
  have HF := Lib.hid (HR.out.trans (text_3 h3))
  have HTC := Lib.hid (HPR.out x.d.t)
  have HAC := Lib.hid (HPR.out x.d.a)
  have bt := HPB.out x.d.t ho.t.2
  have ba := HPB.out x.d.a ho.a.2
  have HO := Lib.hid ho
  have HP := Lib.hid hx.p
  have hmax := hx.p.max
  have hcap := hx.p.cap
  have HBD := Lib.hid (fun k => Nat.le_trans (flat_len (x.d.p.take k) (fun n hn => (ho.p n (List.mem_of_mem_take hn)).2)) (Nat.mul_le_mul_right 20 (show (x.d.p.take k).length ≤ x.d.p.length by rw [List.length_take]; omega)))
  have hpl := ho.pl
  have c10 := HC.out _ (Gr.refl _) 10 _ rfl
  obtain ⟨ft, hft⟩ : ∃ ft : ByteArray, ft = ⟨(printL x.d.t).toArray⟩ := ⟨_, rfl⟩
  have hfz : ft.size = (printL x.d.t).length := by rw [hft]; exact size_of' _
  obtain ⟨fa, hfa⟩ : ∃ fa : ByteArray, fa = ⟨(printL x.d.a).toArray⟩ := ⟨_, rfl⟩
  have haz : fa.size = (printL x.d.a).length := by rw [hfa]; exact size_of' _
  rw [show strc (printL x.d.t) = .string ft by rw [hft]; rfl] at HTC
  rw [show strc (printL x.d.a) = .string fa by rw [hfa]; rfl] at HAC
  have HV : Hid (∀ kt : ByteArray, kt = ⟨(keepT x.d.p).toArray⟩ → Value.string (⟨#[99, 114, 97, 115, 104, 32]⟩ ++ kt ++ ⟨#[32]⟩ ++ ft ++ ⟨#[32]⟩ ++ fa) = strc r) := fun kt hkt => str_of (by rw [HF.out, hkt, hft, hfa]; apply ByteArray.ext; simp)
  have HKT : Hid (x.d.p.length ≠ 0 → keepT x.d.p = x.d.p.flatMap printL) := fun h => if_neg (by intro e; rw [e] at h; exact h rfl)
  have HKZ : Hid (x.d.p.length = 0 → keepT x.d.p = [45]) := fun h => if_pos (List.length_eq_zero_iff.1 h)
  rw [h3] at c0
  clear hx hop ho h3 hft hfa
  have htz : ft.size ≤ 20 := by omega
  have haz2 : fa.size ≤ 20 := by omega
  clear hfz haz bt ba
  go_enter Tryz.func25, Tryz.ntmps25
  go_wp2_with fail
  go_loopw [5, 6] (fun v i wr => ∃ (k : Nat) (t : ByteArray), k ≤ x.d.p.length ∧ i = .int .i64 k ∧ v = .string t ∧ t = ⟨((x.d.p.take k).flatMap printL).toArray⟩ ∧ Gr (w.alloc (.cells x.arr 29)) wr) (fun _ i _ => x.d.p.length - (intOf i).toNat)
  case atStart => exact ⟨0, ⟨#[]⟩, Nat.zero_le _, rfl, rfl, rfl, Gr.refl _⟩
  case round =>
    obtain ⟨k, t, hk, rfl, rfl, ht, g⟩ := hrel
    have HT := Lib.hid ht; have G := Lib.hid g
    have hts : t.size = ((x.d.p.take k).flatMap printL).length := by rw [ht]; exact size_of' _
    have hbd := HBD.out k
    have c10 := HC.out _ G.out 10 _ rfl
    clear ht g
    by_cases hlt : k < x.d.p.length
    · obtain ⟨bn, on, hB, hc⟩ := Is.addr (HP.out.mono (G0.out.trans G.out)) (show 0 < x.d.p.length by omega)
      rw [hB] at c10
      have ck := hc k hlt
      have hia : iAt x.d.p k = x.d.p[k] := by simp [iAt, List.getElem?_eq_getElem hlt]
      rw [hia] at ck
      have hpn := (HO.out.p _ (List.getElem_mem hlt)).2
      have HPC := Lib.hid (HPR.out x.d.p[k] wr hpn)
      have hpz := HPB.out x.d.p[k] hpn
      have HSN := Lib.hid (keepT_snoc x.d.p k hlt)
      clear hc hia hpn
      generalize x.d.p[k] = n at *
      obtain ⟨fx, hfx⟩ : ∃ fx : ByteArray, fx = ⟨(printL n).toArray⟩ := ⟨_, rfl⟩
      have hfz : fx.size = (printL n).length := by rw [hfx]; exact size_of' _
      rw [show strc (printL n) = .string fx by rw [hfx]; rfl] at HPC
      have HX2 : Hid (t ++ fx = ⟨((x.d.p.take (k + 1)).flatMap printL).toArray⟩) := by
        show _ = _
        rw [HSN.out, HT.out, hfx]
        apply ByteArray.ext
        simp
      have l1 : ¬ 9223372036854775807 < t.size + fx.size := by omega
      have hk2 : (k : Int) < (x.d.p.length : Int) := by omega
      clear hfx hfz hts hbd hpz hB
      go_wp2_with fail
      refine HPC.out.mono ?_
      rintro e w2 ⟨rfl, g2⟩
      have G2 := Lib.hid (G.out.trans g2)
      clear g2 ck
      go_wp2_with fail
      refine ⟨⟨k + 1, t ++ fx, by omega, by first | trivial | go_num, rfl, HX2.out, G2.out⟩, ?_⟩
      show x.d.p.length - ((k : Int) + 1).toNat < x.d.p.length - (k : Int).toNat
      omega
    · obtain rfl : k = x.d.p.length := by omega
      have HTA : Hid (t = ⟨(x.d.p.flatMap printL).toArray⟩) := by
        show _ = _
        rw [HT.out, List.take_of_length_le (Nat.le_refl _)]
      clear HT
      by_cases h0 : x.d.p.length = 0
      · have t0 : ((x.d.p.length : Int) == 0) = true := by rw [h0]; rfl
        have HV2 := Lib.hid (HV.out ⟨#[45]⟩ (by rw [HKZ.out h0]))
        have l2 : ¬ 9223372036854775807 < 8 + ft.size := by omega
        have l3 : ¬ 9223372036854775807 < 8 + ft.size + 1 := by omega
        have l4 : ¬ 9223372036854775807 < 8 + ft.size + 1 + fa.size := by omega
        have HTC2 : Hid (∀ wr, Calls Tryz.prog 50 #[.int .i64 x.d.t] wr fun e w' => e = .returned (.string ft) ∧ Gr wr w') := fun wr => HTC.out wr HO.out.t.2
        have HAC2 : Hid (∀ wr, Calls Tryz.prog 50 #[.int .i64 x.d.a] wr fun e w' => e = .returned (.string fa) ∧ Gr wr w') := fun wr => HAC.out wr HO.out.a.2
        clear h0 hts hbd
        go_wp2_with fail
        trace_state
        have GDR : Hid (Gr wr wr.drew) := Gr.drew _
        refine wp_region_grow (by kernel_rfl) [0, 1, 3, 0, 8, 24, 63, 127, 0, 256, 824, 2047, 4095] [.p 0, .p 1, .p 2, .p 3, .p 8, .q 4, .q 9, .c 5, .p 6, .p 7, .c 10, .p 11, .p 12] (by kernel_rfl) (trivial) ?_
        refine wpG_pe rfl rfl ?_
        apply Exists.intro
        refine ⟨fun wq => ?_, ?_⟩
        · unfold plainAt
          go_simp
          first | exact rfl | exact ⟨rfl, rfl⟩
        go_simp
        refine wpG_pe rfl rfl ?_
        apply Exists.intro
        refine ⟨fun wq => ?_, ?_⟩
        · unfold plainAt
          go_simp
          first | exact rfl | exact ⟨rfl, rfl⟩
        go_simp
        refine wpG_pe rfl rfl ?_
        apply Exists.intro
        refine ⟨fun wq => ?_, ?_⟩
        · unfold plainAt
          go_simp
          first | exact rfl | exact ⟨rfl, rfl⟩
        go_simp
        refine wpG_pe rfl rfl ?_
        apply Exists.intro
        refine ⟨fun wq => ?_, ?_⟩
        · unfold plainAt
          go_simp
          first | exact rfl | exact ⟨rfl, rfl⟩
        go_simp
        refine wpG_pe rfl rfl ?_
        apply Exists.intro
        refine ⟨fun wq => ?_, ?_⟩
        · unfold plainAt
          go_simp
          first | exact rfl | exact ⟨rfl, rfl⟩
        go_simp
        refine wpG_qe rfl rfl ?_
        apply Exists.intro
        refine ⟨fun wq hq => ?_, ?_⟩
        · have d11 := HC.out wq (Gr.trans G.out (Gr.trans GDR.out hq)) 11 _ rfl
          unfold plainAt
          go_simp
          first | exact rfl | exact ⟨rfl, rfl⟩
        go_simp
        refine wpG_qe rfl rfl ?_
        apply Exists.intro
        refine ⟨fun wq hq => ?_, ?_⟩
        · have d12 := HC.out wq (Gr.trans G.out (Gr.trans GDR.out hq)) 12 _ rfl
          unfold plainAt
          go_simp
          first | exact rfl | exact ⟨rfl, rfl⟩
        go_simp
        refine wpG_c rfl rfl ?_
        intro wc gc K hK
        go_simp
        go_at_call 50
        refine (HTC2.out wc).mono ?_
        rintro e wn ⟨rfl, gf⟩
        refine hK _ _ gf ?_; have GX1 := Lib.hid (Gr.trans GDR.out (Gr.trans gc gf)); clear gc gf hK
        go_simp
        refine wpG_pe rfl rfl ?_
        apply Exists.intro
        refine ⟨fun wq => ?_, ?_⟩
        · unfold plainAt
          go_simp
          first | exact rfl | exact ⟨rfl, rfl⟩
        go_simp
        refine wpG_pe rfl rfl ?_
        apply Exists.intro
        refine ⟨fun wq => ?_, ?_⟩
        · unfold plainAt
          go_simp
          first | exact rfl | exact ⟨rfl, rfl⟩
        go_simp
        refine wpG_c rfl rfl ?_
        intro wc gc K hK
        go_simp
        go_at_call 50
        refine (HAC2.out wc).mono ?_
        rintro e wn ⟨rfl, gf⟩
        refine hK _ _ gf ?_; have GX2 := Lib.hid (Gr.trans GX1.out (Gr.trans gc gf)); clear gc gf hK
        go_simp
        refine wpG_pe rfl rfl ?_
        apply Exists.intro
        refine ⟨fun wq => ?_, ?_⟩
        · unfold plainAt
          go_simp
          first | exact rfl | exact ⟨rfl, rfl⟩
        go_simp
        refine wpG_pe rfl rfl ?_
        apply Exists.intro
        refine ⟨fun wq => ?_, ?_⟩
        · unfold plainAt
          go_simp
          first | exact rfl | exact ⟨rfl, rfl⟩
        go_simp
        refine wpG_nil ?_
        intro wz gz
        have GQ : Hid (Gr w wz) := G0.out.trans (Gr.trans G.out (Gr.trans GX2.out gz))
        clear gz
        go_wp2_with fail
        go_ret
        exact ⟨by rw [← HV2.out]; rfl, GQ.out⟩
      · have t0 : ((x.d.p.length : Int) == 0) = false := beq_eq_false_iff_ne.2 (by omega)
        have HV2 := Lib.hid (HV.out t (by rw [HTA.out, HKT.out h0]))
        have hbt : t.size ≤ 2000 := by have := Nat.mul_le_mul_right 20 hpl; omega
        have l0 : ¬ 9223372036854775807 < 6 + t.size := by omega
        have l1 : ¬ 9223372036854775807 < 6 + t.size + 1 := by omega
        have l2 : ¬ 9223372036854775807 < 6 + t.size + 1 + ft.size := by omega
        have l3 : ¬ 9223372036854775807 < 6 + t.size + 1 + ft.size + 1 := by omega
        have l4 : ¬ 9223372036854775807 < 6 + t.size + 1 + ft.size + 1 + fa.size := by omega
        have HTC2 : Hid (∀ wr, Calls Tryz.prog 50 #[.int .i64 x.d.t] wr fun e w' => e = .returned (.string ft) ∧ Gr wr w') := fun wr => HTC.out wr HO.out.t.2
        have HAC2 : Hid (∀ wr, Calls Tryz.prog 50 #[.int .i64 x.d.a] wr fun e w' => e = .returned (.string fa) ∧ Gr wr w') := fun wr => HAC.out wr HO.out.a.2
        clear h0 hts hbd hbt
        go_wp2_with fail
        have GDR : Hid (Gr wr wr.drew) := Gr.drew _
        refine wp_region_grow (by kernel_rfl) [0, 1, 3, 0, 8, 24, 63, 127, 0, 256, 824, 2047, 4095] [.p 0, .p 1, .p 2, .p 3, .p 8, .q 4, .q 9, .c 5, .p 6, .p 7, .c 10, .p 11, .p 12] (by kernel_rfl) (trivial) ?_
        refine wpG_pe rfl rfl ?_
        apply Exists.intro
        refine ⟨fun wq => ?_, ?_⟩
        · unfold plainAt
          go_simp
          first | exact rfl | exact ⟨rfl, rfl⟩
        go_simp
        refine wpG_pe rfl rfl ?_
        apply Exists.intro
        refine ⟨fun wq => ?_, ?_⟩
        · unfold plainAt
          go_simp
          first | exact rfl | exact ⟨rfl, rfl⟩
        go_simp
        refine wpG_pe rfl rfl ?_
        apply Exists.intro
        refine ⟨fun wq => ?_, ?_⟩
        · unfold plainAt
          go_simp
          first | exact rfl | exact ⟨rfl, rfl⟩
        go_simp
        refine wpG_pe rfl rfl ?_
        apply Exists.intro
        refine ⟨fun wq => ?_, ?_⟩
        · unfold plainAt
          go_simp
          first | exact rfl | exact ⟨rfl, rfl⟩
        go_simp
        refine wpG_pe rfl rfl ?_
        apply Exists.intro
        refine ⟨fun wq => ?_, ?_⟩
        · unfold plainAt
          go_simp
          first | exact rfl | exact ⟨rfl, rfl⟩
        go_simp
        refine wpG_qe rfl rfl ?_
        apply Exists.intro
        refine ⟨fun wq hq => ?_, ?_⟩
        · have d11 := HC.out wq (Gr.trans G.out (Gr.trans GDR.out hq)) 11 _ rfl
          unfold plainAt
          go_simp
          first | exact rfl | exact ⟨rfl, rfl⟩
        go_simp
        refine wpG_qe rfl rfl ?_
        apply Exists.intro
        refine ⟨fun wq hq => ?_, ?_⟩
        · have d12 := HC.out wq (Gr.trans G.out (Gr.trans GDR.out hq)) 12 _ rfl
          unfold plainAt
          go_simp
          first | exact rfl | exact ⟨rfl, rfl⟩
        go_simp
        refine wpG_c rfl rfl ?_
        intro wc gc K hK
        go_simp
        go_at_call 50
        refine (HTC2.out wc).mono ?_
        rintro e wn ⟨rfl, gf⟩
        refine hK _ _ gf ?_; have GX1 := Lib.hid (Gr.trans GDR.out (Gr.trans gc gf)); clear gc gf hK
        go_simp
        refine wpG_pe rfl rfl ?_
        apply Exists.intro
        refine ⟨fun wq => ?_, ?_⟩
        · unfold plainAt
          go_simp
          first | exact rfl | exact ⟨rfl, rfl⟩
        go_simp
        refine wpG_pe rfl rfl ?_
        apply Exists.intro
        refine ⟨fun wq => ?_, ?_⟩
        · unfold plainAt
          go_simp
          first | exact rfl | exact ⟨rfl, rfl⟩
        go_simp
        refine wpG_c rfl rfl ?_
        intro wc gc K hK
        go_simp
        go_at_call 50
        refine (HAC2.out wc).mono ?_
        rintro e wn ⟨rfl, gf⟩
        refine hK _ _ gf ?_; have GX2 := Lib.hid (Gr.trans GX1.out (Gr.trans gc gf)); clear gc gf hK
        go_simp
        refine wpG_pe rfl rfl ?_
        apply Exists.intro
        refine ⟨fun wq => ?_, ?_⟩
        · unfold plainAt
          go_simp
          first | exact rfl | exact ⟨rfl, rfl⟩
        go_simp
        refine wpG_pe rfl rfl ?_
        apply Exists.intro
        refine ⟨fun wq => ?_, ?_⟩
        · unfold plainAt
          go_simp
          first | exact rfl | exact ⟨rfl, rfl⟩
        go_simp
        refine wpG_nil ?_
        intro wz gz
        have GQ : Hid (Gr w wz) := G0.out.trans (Gr.trans G.out (Gr.trans GX2.out gz))
        clear gz
        go_wp2_with fail
        go_ret
        exact ⟨by rw [← HV2.out]; rfl, GQ.out⟩
set_option maxRecDepth 100000 in
set_option maxHeartbeats 1000000 in
theorem refText41_5 (x : LnV) (w : World) (ho : LnOk x.d) (hop : OpLt x.d.o) (hx : LnAt w x) (h5 : x.d.k = 5) :
    Calls Tryz.prog 25 #[.agg x.arr] w fun e w' => e = .returned (strc (textT x.d)) ∧ Gr w w' := by
  have HC : Hid (∀ wq, Gr (w.alloc (.cells x.arr 29)) wq → ∀ (i : Nat) (v : Value), x.cells[i]? = some v → wq.cell? ⟨w.heap.size, i, none⟩ = some v) := fun wq g i v h => (((Blk.new w 29 x.arr).mono g).cell i).trans h
  have G0 : Hid (Gr w (w.alloc (.cells x.arr 29))) := Gr.alloc w _
  have c0 := HC.out _ (Gr.refl _) 0 _ rfl
  obtain ⟨r, hr⟩ : ∃ r, r = textT x.d := ⟨_, rfl⟩
  have HR := Lib.hid hr
  rw [← hr]
  clear hr
  have HPR : Hid (∀ (n : Int) wr, n ≤ 9223372036854775807 → Calls Tryz.prog 50 #[.int .i64 n] wr fun e w' => e = .returned (strc (printL n)) ∧ Gr wr w') := fun n wr h => refPrintS_any n wr h
  have HPB : Hid (∀ n : Int, n ≤ 9223372036854775807 → (printL n).length ≤ 20) := fun n h => printL_bd h
  have HF := Lib.hid (HR.out.trans (text_5 h5))
  obtain ⟨fg, hfg⟩ : ∃ fg : ByteArray, fg = ⟨x.d.g.toArray⟩ := ⟨_, rfl⟩
  have hgz : fg.size = x.d.g.length := by rw [hfg]; exact size_of' _
  obtain ⟨fi, hfi⟩ : ∃ fi : ByteArray, fi = ⟨x.d.i.toArray⟩ := ⟨_, rfl⟩
  have hiz : fi.size = x.d.i.length := by rw [hfi]; exact size_of' _
  obtain ⟨fe, hfe⟩ : ∃ fe : ByteArray, fe = ⟨(printL x.d.e).toArray⟩ := ⟨_, rfl⟩
  have hez : fe.size = (printL x.d.e).length := by rw [hfe]; exact size_of' _
  have HEC : Hid (∀ wr, Calls Tryz.prog 50 #[.int .i64 x.d.e] wr fun e w' => e = .returned (.string fe) ∧ Gr wr w') := fun wr => by
    have := HPR.out x.d.e wr ho.e.2
    rw [show strc (printL x.d.e) = .string fe by rw [hfe]; rfl] at this
    exact this
  have be := HPB.out x.d.e ho.e.2
  have bg := ho.gl
  have bi := ho.il
  have HV : Hid (Value.string (⟨#[108, 111, 103, 32]⟩ ++ fg ++ ⟨#[32]⟩ ++ fe ++ ⟨#[32]⟩ ++ fi) = strc r) := str_of (by rw [HF.out, hfg, hfe, hfi]; apply ByteArray.ext; simp)
  have HG : Hid (strc x.d.g = .string fg) := by show _ = _; rw [hfg]; rfl
  have HI : Hid (strc x.d.i = .string fi) := by show _ = _; rw [hfi]; rfl
  have l0 : ¬ 9223372036854775807 < 4 + fg.size := by omega
  have l1 : ¬ 9223372036854775807 < 4 + fg.size + 1 := by omega
  have l2 : ¬ 9223372036854775807 < 4 + fg.size + 1 + fe.size := by omega
  have l3 : ¬ 9223372036854775807 < 4 + fg.size + 1 + fe.size + 1 := by omega
  have l4 : ¬ 9223372036854775807 < 4 + fg.size + 1 + fe.size + 1 + fi.size := by omega
  rw [h5] at c0
  clear hx hop ho h5 hfg hfi hfe hgz hiz hez be bg bi
  go_enter Tryz.func25, Tryz.ntmps25
  go_wp2_with fail
  have GDR : Hid (Gr (w.alloc (.cells x.arr 29)) (w.alloc (.cells x.arr 29)).drew) := Gr.drew _
  refine wp_region_grow (by kernel_rfl) [0, 1, 3, 7, 15, 0, 32, 96, 224, 511, 1023, 0, 2048, 6144, 16383, 32767] [.p 0, .p 1, .p 5, .p 6, .p 11, .p 12, .q 2, .p 3, .p 4, .q 7, .q 13, .c 8, .p 9, .p 10, .p 14, .p 15] (by kernel_rfl) (trivial) ?_
  refine wpG_pe rfl rfl ?_
  apply Exists.intro
  refine ⟨fun wq => ?_, ?_⟩
  · unfold plainAt
    go_simp
    first | exact rfl | exact ⟨rfl, rfl⟩
  go_simp
  refine wpG_pe rfl rfl ?_
  apply Exists.intro
  refine ⟨fun wq => ?_, ?_⟩
  · unfold plainAt
    go_simp
    first | exact rfl | exact ⟨rfl, rfl⟩
  go_simp
  refine wpG_pe rfl rfl ?_
  apply Exists.intro
  refine ⟨fun wq => ?_, ?_⟩
  · unfold plainAt
    go_simp
    first | exact rfl | exact ⟨rfl, rfl⟩
  go_simp
  refine wpG_pe rfl rfl ?_
  apply Exists.intro
  refine ⟨fun wq => ?_, ?_⟩
  · unfold plainAt
    go_simp
    first | exact rfl | exact ⟨rfl, rfl⟩
  go_simp
  refine wpG_pe rfl rfl ?_
  apply Exists.intro
  refine ⟨fun wq => ?_, ?_⟩
  · unfold plainAt
    go_simp
    first | exact rfl | exact ⟨rfl, rfl⟩
  go_simp
  refine wpG_pe rfl rfl ?_
  apply Exists.intro
  refine ⟨fun wq => ?_, ?_⟩
  · unfold plainAt
    go_simp
    first | exact rfl | exact ⟨rfl, rfl⟩
  go_simp
  refine wpG_qe rfl rfl ?_
  apply Exists.intro
  refine ⟨fun wq hq => ?_, ?_⟩
  · have d13 := (HC.out wq (Gr.trans GDR.out hq) 13 _ rfl).trans (congrArg some HG.out)
    unfold plainAt
    go_simp
    first | exact rfl | exact ⟨rfl, rfl⟩
  go_simp
  refine wpG_pe rfl rfl ?_
  apply Exists.intro
  refine ⟨fun wq => ?_, ?_⟩
  · unfold plainAt
    go_simp
    first | exact rfl | exact ⟨rfl, rfl⟩
  go_simp
  refine wpG_pe rfl rfl ?_
  apply Exists.intro
  refine ⟨fun wq => ?_, ?_⟩
  · unfold plainAt
    go_simp
    first | exact rfl | exact ⟨rfl, rfl⟩
  go_simp
  refine wpG_qe rfl rfl ?_
  apply Exists.intro
  refine ⟨fun wq hq => ?_, ?_⟩
  · have d14 := HC.out wq (Gr.trans GDR.out hq) 14 _ rfl
    unfold plainAt
    go_simp
    first | exact rfl | exact ⟨rfl, rfl⟩
  go_simp
  refine wpG_qe rfl rfl ?_
  apply Exists.intro
  refine ⟨fun wq hq => ?_, ?_⟩
  · have d15 := (HC.out wq (Gr.trans GDR.out hq) 15 _ rfl).trans (congrArg some HI.out)
    unfold plainAt
    go_simp
    first | exact rfl | exact ⟨rfl, rfl⟩
  go_simp
  refine wpG_c rfl rfl ?_
  intro wc gc K hK
  go_simp
  go_at_call 50
  refine (HEC.out wc).mono ?_
  rintro e wn ⟨rfl, gf⟩
  refine hK _ _ gf ?_; have GX1 := Lib.hid (Gr.trans GDR.out (Gr.trans gc gf)); clear gc gf hK
  go_simp
  refine wpG_pe rfl rfl ?_
  apply Exists.intro
  refine ⟨fun wq => ?_, ?_⟩
  · unfold plainAt
    go_simp
    first | exact rfl | exact ⟨rfl, rfl⟩
  go_simp
  refine wpG_pe rfl rfl ?_
  apply Exists.intro
  refine ⟨fun wq => ?_, ?_⟩
  · unfold plainAt
    go_simp
    first | exact rfl | exact ⟨rfl, rfl⟩
  go_simp
  refine wpG_pe rfl rfl ?_
  apply Exists.intro
  refine ⟨fun wq => ?_, ?_⟩
  · unfold plainAt
    go_simp
    first | exact rfl | exact ⟨rfl, rfl⟩
  go_simp
  refine wpG_pe rfl rfl ?_
  apply Exists.intro
  refine ⟨fun wq => ?_, ?_⟩
  · unfold plainAt
    go_simp
    first | exact rfl | exact ⟨rfl, rfl⟩
  go_simp
  refine wpG_nil ?_
  intro wz gz
  have GQ : Hid (Gr w wz) := G0.out.trans (Gr.trans GX1.out gz)
  clear gz
  go_wp2_with fail
  go_ret
  exact ⟨by rw [← HV.out]; rfl, GQ.out⟩
set_option maxRecDepth 100000 in
set_option maxHeartbeats 1000000 in
theorem refText41_7 (x : LnV) (w : World) (ho : LnOk x.d) (hop : OpLt x.d.o) (hx : LnAt w x) (h7 : x.d.k = 7) :
    Calls Tryz.prog 25 #[.agg x.arr] w fun e w' => e = .returned (strc (textT x.d)) ∧ Gr w w' := by
  have HC : Hid (∀ wq, Gr (w.alloc (.cells x.arr 29)) wq → ∀ (i : Nat) (v : Value), x.cells[i]? = some v → wq.cell? ⟨w.heap.size, i, none⟩ = some v) := fun wq g i v h => (((Blk.new w 29 x.arr).mono g).cell i).trans h
  have G0 : Hid (Gr w (w.alloc (.cells x.arr 29))) := Gr.alloc w _
  have c0 := HC.out _ (Gr.refl _) 0 _ rfl
  obtain ⟨r, hr⟩ : ∃ r, r = textT x.d := ⟨_, rfl⟩
  have HR := Lib.hid hr
  rw [← hr]
  clear hr
  have HPR : Hid (∀ (n : Int) wr, n ≤ 9223372036854775807 → Calls Tryz.prog 50 #[.int .i64 n] wr fun e w' => e = .returned (strc (printL n)) ∧ Gr wr w') := fun n wr h => refPrintS_any n wr h
  have HPB : Hid (∀ n : Int, n ≤ 9223372036854775807 → (printL n).length ≤ 20) := fun n h => printL_bd h
  have HF := Lib.hid (HR.out.trans (text_7 h7))
  obtain ⟨fn, hfn⟩ : ∃ fg : ByteArray, fg = ⟨(printL x.d.n).toArray⟩ := ⟨_, rfl⟩
  have hnz : fn.size = (printL x.d.n).length := by rw [hfn]; exact size_of' _
  obtain ⟨fa, hfa⟩ : ∃ fi : ByteArray, fi = ⟨(printL x.d.a).toArray⟩ := ⟨_, rfl⟩
  have haz : fa.size = (printL x.d.a).length := by rw [hfa]; exact size_of' _
  obtain ⟨fh, hfh⟩ : ∃ fe : ByteArray, fe = ⟨(hexP x.d.b).toArray⟩ := ⟨_, rfl⟩
  have hhz : fh.size = (hexP x.d.b).length := by rw [hfh]; exact size_of' _
  have HNC : Hid (∀ wr, Calls Tryz.prog 50 #[.int .i64 x.d.n] wr fun e w' => e = .returned (.string fn) ∧ Gr wr w') := fun wr => by
    have := HPR.out x.d.n wr ho.n.2
    rw [show strc (printL x.d.n) = .string fn by rw [hfn]; rfl] at this
    exact this
  have HAC : Hid (∀ wr, Calls Tryz.prog 50 #[.int .i64 x.d.a] wr fun e w' => e = .returned (.string fa) ∧ Gr wr w') := fun wr => by
    have := HPR.out x.d.a wr ho.a.2
    rw [show strc (printL x.d.a) = .string fa by rw [hfa]; rfl] at this
    exact this
  have HHC : Hid (∀ wr, Gr w wr → Calls Tryz.prog 51 #[.slice x.C x.d.b.length x.s] wr fun e w' => e = .returned (.string fh) ∧ Gr wr w') := fun wr g => by
    have := refHexPrint_any x.C x.d.b.length x.s x.d.b wr (hx.b.mono g) (by have := ho.bl; omega)
    rw [← hfh] at this
    exact this
  have bn := HPB.out x.d.n ho.n.2
  have ba := HPB.out x.d.a ho.a.2
  have bh : (hexP x.d.b).length ≤ 2000 := by have := ho.bl; rw [hexP_len]; omega
  have HV : Hid (Value.string (⟨#[115, 112, 111, 105, 108, 32]⟩ ++ fn ++ ⟨#[32]⟩ ++ fa ++ ⟨#[32]⟩ ++ fh) = strc r) := str_of (by rw [HF.out, hfn, hfa, hfh]; apply ByteArray.ext; simp)
  have l0 : ¬ 9223372036854775807 < 6 + fn.size := by omega
  have l1 : ¬ 9223372036854775807 < 6 + fn.size + 1 := by omega
  have l2 : ¬ 9223372036854775807 < 6 + fn.size + 1 + fa.size := by omega
  have l3 : ¬ 9223372036854775807 < 6 + fn.size + 1 + fa.size + 1 := by omega
  have l4 : ¬ 9223372036854775807 < 6 + fn.size + 1 + fa.size + 1 + fh.size := by omega
  rw [h7] at c0
  clear hx hop ho h7 hfn hfa hfh hnz haz hhz bn ba bh
  go_enter Tryz.func25, Tryz.ntmps25
  go_wp2_with fail
  have GDR : Hid (Gr (w.alloc (.cells x.arr 29)) (w.alloc (.cells x.arr 29)).drew) := Gr.drew _
  refine wp_region_grow (by kernel_rfl) [0, 1, 3, 7, 15, 0, 32, 103, 255, 511, 0, 1024, 3303, 8191, 16383] [.p 0, .p 5, .p 10, .q 1, .q 6, .q 11, .c 2, .p 3, .p 4, .c 7, .p 8, .p 9, .c 12, .p 13, .p 14] (by kernel_rfl) (trivial) ?_
  refine wpG_pe rfl rfl ?_
  apply Exists.intro
  refine ⟨fun wq => ?_, ?_⟩
  · unfold plainAt
    go_simp
    first | exact rfl | exact ⟨rfl, rfl⟩
  go_simp
  refine wpG_pe rfl rfl ?_
  apply Exists.intro
  refine ⟨fun wq => ?_, ?_⟩
  · unfold plainAt
    go_simp
    first | exact rfl | exact ⟨rfl, rfl⟩
  go_simp
  refine wpG_pe rfl rfl ?_
  apply Exists.intro
  refine ⟨fun wq => ?_, ?_⟩
  · unfold plainAt
    go_simp
    first | exact rfl | exact ⟨rfl, rfl⟩
  go_simp
  refine wpG_qe rfl rfl ?_
  apply Exists.intro
  refine ⟨fun wq hq => ?_, ?_⟩
  · have d9 := HC.out wq (Gr.trans GDR.out hq) 9 _ rfl
    unfold plainAt
    go_simp
    first | exact rfl | exact ⟨rfl, rfl⟩
  go_simp
  refine wpG_qe rfl rfl ?_
  apply Exists.intro
  refine ⟨fun wq hq => ?_, ?_⟩
  · have d12 := HC.out wq (Gr.trans GDR.out hq) 12 _ rfl
    unfold plainAt
    go_simp
    first | exact rfl | exact ⟨rfl, rfl⟩
  go_simp
  refine wpG_qe rfl rfl ?_
  apply Exists.intro
  refine ⟨fun wq hq => ?_, ?_⟩
  · have d16 := HC.out wq (Gr.trans GDR.out hq) 16 _ rfl
    unfold plainAt
    go_simp
    first | exact rfl | exact ⟨rfl, rfl⟩
  go_simp
  refine wpG_c rfl rfl ?_
  intro wc gc K hK
  go_simp
  go_at_call 50
  refine (HNC.out wc).mono ?_
  rintro e wn ⟨rfl, gf⟩
  refine hK _ _ gf ?_; have GX1 := Lib.hid (Gr.trans GDR.out (Gr.trans gc gf)); clear gc gf hK
  go_simp
  refine wpG_pe rfl rfl ?_
  apply Exists.intro
  refine ⟨fun wq => ?_, ?_⟩
  · unfold plainAt
    go_simp
    first | exact rfl | exact ⟨rfl, rfl⟩
  go_simp
  refine wpG_pe rfl rfl ?_
  apply Exists.intro
  refine ⟨fun wq => ?_, ?_⟩
  · unfold plainAt
    go_simp
    first | exact rfl | exact ⟨rfl, rfl⟩
  go_simp
  refine wpG_c rfl rfl ?_
  intro wc gc K hK
  go_simp
  go_at_call 50
  refine (HAC.out wc).mono ?_
  rintro e wn ⟨rfl, gf⟩
  refine hK _ _ gf ?_; have GX2 := Lib.hid (Gr.trans GX1.out (Gr.trans gc gf)); clear gc gf hK
  go_simp
  refine wpG_pe rfl rfl ?_
  apply Exists.intro
  refine ⟨fun wq => ?_, ?_⟩
  · unfold plainAt
    go_simp
    first | exact rfl | exact ⟨rfl, rfl⟩
  go_simp
  refine wpG_pe rfl rfl ?_
  apply Exists.intro
  refine ⟨fun wq => ?_, ?_⟩
  · unfold plainAt
    go_simp
    first | exact rfl | exact ⟨rfl, rfl⟩
  go_simp
  refine wpG_c rfl rfl ?_
  intro wc gc K hK
  go_simp
  go_at_call 51
  refine (HHC.out wc (G0.out.trans (Gr.trans GX2.out gc))).mono ?_
  rintro e wn ⟨rfl, gf⟩
  refine hK _ _ gf ?_; have GX3 := Lib.hid (Gr.trans GX2.out (Gr.trans gc gf)); clear gc gf hK
  go_simp
  refine wpG_pe rfl rfl ?_
  apply Exists.intro
  refine ⟨fun wq => ?_, ?_⟩
  · unfold plainAt
    go_simp
    first | exact rfl | exact ⟨rfl, rfl⟩
  go_simp
  refine wpG_pe rfl rfl ?_
  apply Exists.intro
  refine ⟨fun wq => ?_, ?_⟩
  · unfold plainAt
    go_simp
    first | exact rfl | exact ⟨rfl, rfl⟩
  go_simp
  refine wpG_nil ?_
  intro wz gz
  have GQ : Hid (Gr w wz) := G0.out.trans (Gr.trans GX3.out gz)
  clear gz
  go_wp2_with fail
  go_ret
  exact ⟨by rw [← HV.out]; rfl, GQ.out⟩
set_option maxRecDepth 100000 in
set_option maxHeartbeats 1000000 in
theorem refText41_4 (x : LnV) (w : World) (h4 : x.d.k = 4) :
    Calls Tryz.prog 25 #[.agg x.arr] w fun e w' => e = .returned (strc (textT x.d)) ∧ Gr w w' := by
  have HC : Hid (∀ wq, Gr (w.alloc (.cells x.arr 29)) wq → ∀ (i : Nat) (v : Value), x.cells[i]? = some v → wq.cell? ⟨w.heap.size, i, none⟩ = some v) := fun wq g i v h => (((Blk.new w 29 x.arr).mono g).cell i).trans h
  have G0 : Hid (Gr w (w.alloc (.cells x.arr 29))) := Gr.alloc w _
  have c0 := HC.out _ (Gr.refl _) 0 _ rfl
  obtain ⟨r, hr⟩ : ∃ r, r = textT x.d := ⟨_, rfl⟩
  have HR := Lib.hid hr
  rw [← hr]
  clear hr
  have HPR : Hid (∀ (n : Int) wr, n ≤ 9223372036854775807 → Calls Tryz.prog 50 #[.int .i64 n] wr fun e w' => e = .returned (strc (printL n)) ∧ Gr wr w') := fun n wr h => refPrintS_any n wr h
  have HPB : Hid (∀ n : Int, n ≤ 9223372036854775807 → (printL n).length ≤ 20) := fun n h => printL_bd h
  have HF := Lib.hid (HR.out.trans (text_4 h4))
  rw [h4] at c0
  rw [HF.out]
  clear h4
  go_enter Tryz.func25, Tryz.ntmps25
  go_wp2_with fail
  go_ret
  exact ⟨rfl, G0.out⟩
set_option maxRecDepth 100000 in
set_option maxHeartbeats 1000000 in
theorem refText41_6 (x : LnV) (w : World) (h6 : x.d.k = 6) :
    Calls Tryz.prog 25 #[.agg x.arr] w fun e w' => e = .returned (strc (textT x.d)) ∧ Gr w w' := by
  have HC : Hid (∀ wq, Gr (w.alloc (.cells x.arr 29)) wq → ∀ (i : Nat) (v : Value), x.cells[i]? = some v → wq.cell? ⟨w.heap.size, i, none⟩ = some v) := fun wq g i v h => (((Blk.new w 29 x.arr).mono g).cell i).trans h
  have G0 : Hid (Gr w (w.alloc (.cells x.arr 29))) := Gr.alloc w _
  have c0 := HC.out _ (Gr.refl _) 0 _ rfl
  obtain ⟨r, hr⟩ : ∃ r, r = textT x.d := ⟨_, rfl⟩
  have HR := Lib.hid hr
  rw [← hr]
  clear hr
  have HPR : Hid (∀ (n : Int) wr, n ≤ 9223372036854775807 → Calls Tryz.prog 50 #[.int .i64 n] wr fun e w' => e = .returned (strc (printL n)) ∧ Gr wr w') := fun n wr h => refPrintS_any n wr h
  have HPB : Hid (∀ n : Int, n ≤ 9223372036854775807 → (printL n).length ≤ 20) := fun n h => printL_bd h
  have HF := Lib.hid (HR.out.trans (text_6 h6))
  rw [h6] at c0
  rw [HF.out]
  clear h6
  go_enter Tryz.func25, Tryz.ntmps25
  go_wp2_with fail
  go_ret
  exact ⟨rfl, G0.out⟩
set_option maxRecDepth 100000 in
set_option maxHeartbeats 1000000 in
theorem refText41_8 (x : LnV) (w : World) (h8 : x.d.k = 8) :
    Calls Tryz.prog 25 #[.agg x.arr] w fun e w' => e = .returned (strc (textT x.d)) ∧ Gr w w' := by
  have HC : Hid (∀ wq, Gr (w.alloc (.cells x.arr 29)) wq → ∀ (i : Nat) (v : Value), x.cells[i]? = some v → wq.cell? ⟨w.heap.size, i, none⟩ = some v) := fun wq g i v h => (((Blk.new w 29 x.arr).mono g).cell i).trans h
  have G0 : Hid (Gr w (w.alloc (.cells x.arr 29))) := Gr.alloc w _
  have c0 := HC.out _ (Gr.refl _) 0 _ rfl
  obtain ⟨r, hr⟩ : ∃ r, r = textT x.d := ⟨_, rfl⟩
  have HR := Lib.hid hr
  rw [← hr]
  clear hr
  have HPR : Hid (∀ (n : Int) wr, n ≤ 9223372036854775807 → Calls Tryz.prog 50 #[.int .i64 n] wr fun e w' => e = .returned (strc (printL n)) ∧ Gr wr w') := fun n wr h => refPrintS_any n wr h
  have HPB : Hid (∀ n : Int, n ≤ 9223372036854775807 → (printL n).length ≤ 20) := fun n h => printL_bd h
  have HF := Lib.hid (HR.out.trans (text_8 h8))
  rw [h8] at c0
  rw [HF.out]
  clear h8
  go_enter Tryz.func25, Tryz.ntmps25
  go_wp2_with fail
  go_ret
  exact ⟨rfl, G0.out⟩
set_option maxRecDepth 100000 in
set_option maxHeartbeats 1000000 in
theorem refText41_out (x : LnV) (w : World) (h : ∀ k : Nat, 1 ≤ k → k ≤ 8 → x.d.k ≠ (k : Int)) :
    Calls Tryz.prog 25 #[.agg x.arr] w fun e w' => e = .returned (strc (textT x.d)) ∧ Gr w w' := by
  have HC : Hid (∀ wq, Gr (w.alloc (.cells x.arr 29)) wq → ∀ (i : Nat) (v : Value), x.cells[i]? = some v → wq.cell? ⟨w.heap.size, i, none⟩ = some v) := fun wq g i v h => (((Blk.new w 29 x.arr).mono g).cell i).trans h
  have G0 : Hid (Gr w (w.alloc (.cells x.arr 29))) := Gr.alloc w _
  have c0 := HC.out _ (Gr.refl _) 0 _ rfl
  obtain ⟨r, hr⟩ : ∃ r, r = textT x.d := ⟨_, rfl⟩
  have HR := Lib.hid hr
  rw [← hr]
  clear hr
  have HPR : Hid (∀ (n : Int) wr, n ≤ 9223372036854775807 → Calls Tryz.prog 50 #[.int .i64 n] wr fun e w' => e = .returned (strc (printL n)) ∧ Gr wr w') := fun n wr h => refPrintS_any n wr h
  have HPB : Hid (∀ n : Int, n ≤ 9223372036854775807 → (printL n).length ≤ 20) := fun n h => printL_bd h
  have HF := Lib.hid (HR.out.trans (text_out h))
  rw [HF.out]
  have t1 : (x.d.k == 1) = false := beq_eq_false_iff_ne.2 (h 1 (by decide) (by decide))
  have t2 : (x.d.k == 2) = false := beq_eq_false_iff_ne.2 (h 2 (by decide) (by decide))
  have t3 : (x.d.k == 3) = false := beq_eq_false_iff_ne.2 (h 3 (by decide) (by decide))
  have t4 : (x.d.k == 4) = false := beq_eq_false_iff_ne.2 (h 4 (by decide) (by decide))
  have t5 : (x.d.k == 5) = false := beq_eq_false_iff_ne.2 (h 5 (by decide) (by decide))
  have t6 : (x.d.k == 6) = false := beq_eq_false_iff_ne.2 (h 6 (by decide) (by decide))
  have t7 : (x.d.k == 7) = false := beq_eq_false_iff_ne.2 (h 7 (by decide) (by decide))
  have t8 : (x.d.k == 8) = false := beq_eq_false_iff_ne.2 (h 8 (by decide) (by decide))
  clear h
  go_enter Tryz.func25, Tryz.ntmps25
  go_wp2_with fail
  go_ret
  exact ⟨rfl, G0.out⟩
theorem refText41_any (x : LnV) (w : World) (ho : LnOk x.d) (hop : OpLt x.d.o) (hx : LnAt w x) :
    Calls Tryz.prog 25 #[.agg x.arr] w fun e w' => e = .returned (strc (textT x.d)) ∧ Gr w w' := by
  by_cases h1 : x.d.k = 1
  · exact refText41_1 x w ho hop hx h1
  by_cases h2 : x.d.k = 2
  · exact refText41_2 x w ho hop hx h2
  by_cases h3 : x.d.k = 3
  · exact refText41_3 x w ho hop hx h3
  by_cases h4 : x.d.k = 4
  · exact refText41_4 x w h4
  by_cases h5 : x.d.k = 5
  · exact refText41_5 x w ho hop hx h5
  by_cases h6 : x.d.k = 6
  · exact refText41_6 x w h6
  by_cases h7 : x.d.k = 7
  · exact refText41_7 x w ho hop hx h7
  by_cases h8 : x.d.k = 8
  · exact refText41_8 x w h8
  refine refText41_out x w ?_
  intro k hk1 hk8
  rcases show k = 1 ∨ k = 2 ∨ k = 3 ∨ k = 4 ∨ k = 5 ∨ k = 6 ∨ k = 7 ∨ k = 8 by omega with rfl | rfl | rfl | rfl | rfl | rfl | rfl | rfl
  · exact h1
  · exact h2
  · exact h3
  · exact h4
  · exact h5
  · exact h6
  · exact h7
  · exact h8
end Go.Proofs.YtadenlhnfkccaaaGreatDoor
