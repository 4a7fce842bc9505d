/- The program's table of terms in memory: a term that comes to be. No condition. -/
import Derived.Test.YthlnoaalhojphaaDoorObTermB
import Derived.Test.YthlnoaalhojphaaDoorObPre
import Derived.Deep.RegionLaw
import Derived.Deep.RegionHeld3
namespace Go.Proofs.YthlnoaalhojphaaDoor
open Go.RowKit Go.Maps
set_option linter.unusedVariables false

def great : Nat := 1073741824
def sizeOf' (S : List Nat) (ps : List Nat) : Nat := ps.foldl (fun n p => min (n + S.getD (p - 1) 0) great) 1
def sizesL (T : List Nd) : List Nat := T.foldl (fun S x => S ++ [sizeOf' S x.parts]) []
theorem sizesL_snoc (T : List Nd) (x : Nd) : sizesL (T ++ [x]) = sizesL T ++ [sizeOf' (sizesL T) x.parts] := by simp [sizesL]
theorem foldT_len (T : List Nd) : ∀ S : List Nat, (T.foldl (fun S x => S ++ [sizeOf' S x.parts]) S).length = S.length + T.length := by
  induction T with
  | nil => intro S; rfl
  | cons x T ih => intro S; rw [List.foldl_cons, ih]; simp; omega
theorem sizesL_len (T : List Nd) : (sizesL T).length = T.length := by unfold sizesL; rw [foldT_len]; simp
theorem sizeOf'_le (S ps : List Nat) : sizeOf' S ps ≤ great := by
  unfold sizeOf'
  rcases List.eq_nil_or_concat ps with rfl | ⟨l, p, rfl⟩
  · simp [great]
  · rw [List.concat_eq_append, List.foldl_append]; simp; omega
def Small (S : List Nat) : Prop := ∀ s ∈ S, s ≤ great
theorem Small.at {S : List Nat} (h : Small S) (i : Nat) : S.getD i 0 ≤ great := by
  rw [List.getD_eq_getElem?_getD]
  cases hi : S[i]? with
  | none => simp
  | some s => exact h s (List.mem_of_getElem? hi)
theorem sizesL_small (T : List Nd) : Small (sizesL T) := by
  have : ∀ (T : List Nd) (S : List Nat), Small S → Small (T.foldl (fun S x => S ++ [sizeOf' S x.parts]) S) := by
    intro T
    induction T with
    | nil => intro S h; exact h
    | cons x T ih =>
      intro S h
      rw [List.foldl_cons]
      refine ih _ (fun s hs => ?_)
      rcases List.mem_append.1 hs with hs | hs
      · exact h s hs
      · rw [List.mem_singleton.1 hs]; exact sizeOf'_le _ _
  exact this T [] (fun s hs => by cases hs)

/-! ### the table in memory, to be written -/
theorem tAny : ElemT Tryd.prog 79 20 .nilIface 1 16 := ⟨Tryd.underlying79, by kernel_rfl, rfl, by decide, by decide⟩
/-- A table at block g (w0: what was there ahead of it; L: its terms' cells, S: their sizes, a: its count of atoms; vl, vs: its slices' values, bm: its map's block). -/
structure TbX (w0 w : World) (g : Nat) (L : List Value) (S : List Nat) (a : Nat) (vl vs : Value) (bm : Nat) : Prop where
  blk : Blk w g 81 [vl, vs, .map (some bm), .int .i64 (a : Int)]
  l : Own w0 w 20 1 vl L.length L
  s : Own w0 w 3 1 vs L.length (S.map i64n)
  ge : w0.heap.size ≤ g
  gm : w0.heap.size ≤ bm
/-- What a change of the table has turned: its own blocks alone. -/
structure TChg (w w' : World) (g : Nat) (vl vs vl' vs' : Value) : Prop where
  size : w.heap.size ≤ w'.heap.size
  keep : ∀ b, b < w.heap.size → b ≠ g → vl.ownBlock ≠ some b → vs.ownBlock ≠ some b → w'.heap[b]? = w.heap[b]?
  ol : ∀ b, vl'.ownBlock = some b → vl.ownBlock = some b ∨ w.heap.size ≤ b
  os : ∀ b, vs'.ownBlock = some b → vs.ownBlock = some b ∨ w.heap.size ≤ b
theorem own_other {w0 w0' w : World} {e e' : TypeId} {s s' n n' : Nat} {v v' : Value} {xs xs' : List Value} (h : Own w0 w e s v n xs) (h' : Own w0' w e' s' v' n' xs') (he : e ≠ e') {b : Nat} (hb : v.ownBlock = some b) : v'.ownBlock ≠ some b := by
  intro hb'
  rcases h.1.2 with ⟨h1, _⟩ | ⟨g, cap, cur, hv, _, hh, _⟩
  · rw [h1] at hb; cases hb
  · rcases h'.1.2 with ⟨h1', _⟩ | ⟨g', cap', cur', hv', _, hh', _⟩
    · rw [h1'] at hb'; cases hb'
    · have e1 : g = b := by rw [hv] at hb; exact Option.some.inj hb
      have e2 : g' = b := by rw [hv'] at hb'; exact Option.some.inj hb'
      rw [e1] at hh
      rw [e2, hh] at hh'
      injection hh' with hh'
      injection hh' with _ h3
      exact he h3
theorem own_blk {w0 w : World} {e t : TypeId} {s n g : Nat} {v : Value} {xs cs : List Value} (h : Own w0 w e s v n xs) (hb : Blk w g t cs) (he : e ≠ t) : v.ownBlock ≠ some g := by
  intro hv
  rcases h.1.2 with ⟨h1, _⟩ | ⟨g', cap, cur, hv', _, hh, _⟩
  · rw [h1] at hv; cases hv
  · have e1 : g' = g := by rw [hv'] at hv; exact Option.some.inj hv
    rw [e1, hb] at hh
    injection hh with hh
    injection hh with _ h3
    exact he h3.symm
theorem i64n_at {S : List Nat} {i : Nat} (hi : i < S.length) : (S.map i64n)[i]? = some (.int .i64 ((S.getD i 0 : Nat) : Int)) := by
  rw [List.getElem?_map, List.getD_eq_getElem?_getD, List.getElem?_eq_getElem hi]; rfl
theorem Own.keepN {w0 w w' : World} {e : TypeId} {s n : Nat} {v : Value} {xs : List Value} (h : Own w0 w e s v n xs) (hb : Below w0.heap.size w0 w') (hp : ∀ b, v.ownBlock = some b → w'.heap[b]? = w.heap[b]?) : Own w0 w' e s v n xs := by
  obtain ⟨⟨hl, ho⟩, _⟩ := h
  refine ⟨⟨hl, ?_⟩, hb⟩
  rcases ho with h | ⟨g, cap, cur, hv, hg, hh, r⟩
  · exact .inl h
  · exact .inr ⟨g, cap, cur, hv, hg, by rw [hp g (by rw [hv]; rfl)]; exact hh, r⟩
/-- Behind the first append to the terms, to the sizes; behind both. -/
structure PutL (w0 w w1 : World) (g : Nat) (L : List Value) (S : List Nat) (a : Nat) (vl vs : Value) (bm : Nat) (x : Value) (v1 : Value) : Prop where
  l : Own w0 w1 20 1 v1 (L.length + 1) (L ++ [x])
  s : Own w0 w1 3 1 vs L.length (S.map i64n)
  blk : Blk w1 g 81 [vl, vs, .map (some bm), .int .i64 (a : Int)]
  keep : ∀ b, b < w.heap.size → vl.ownBlock ≠ some b → w1.heap[b]? = w.heap[b]?
  ol : ∀ b, v1.ownBlock = some b → vl.ownBlock = some b ∨ w.heap.size ≤ b
  size : w.heap.size ≤ w1.heap.size
structure PutR (w0 w w1 : World) (g : Nat) (L : List Value) (S : List Nat) (a : Nat) (vl vs : Value) (bm : Nat) (q : Nat) (v2 : Value) : Prop where
  l : Own w0 w1 20 1 vl L.length L
  s : Own w0 w1 3 1 v2 (L.length + 1) (S.map i64n ++ [i64n q])
  blk : Blk w1 g 81 [vl, vs, .map (some bm), .int .i64 (a : Int)]
  keep : ∀ b, b < w.heap.size → vs.ownBlock ≠ some b → w1.heap[b]? = w.heap[b]?
  os : ∀ b, v2.ownBlock = some b → vs.ownBlock = some b ∨ w.heap.size ≤ b
  size : w.heap.size ≤ w1.heap.size
structure PutM (w0 w w1 : World) (g : Nat) (L : List Value) (S : List Nat) (a : Nat) (vl vs : Value) (bm : Nat) (x : Value) (q : Nat) (v1 v2 : Value) : Prop where
  l : Own w0 w1 20 1 v1 (L.length + 1) (L ++ [x])
  s : Own w0 w1 3 1 v2 (L.length + 1) (S.map i64n ++ [i64n q])
  blk : Blk w1 g 81 [vl, vs, .map (some bm), .int .i64 (a : Int)]
  chg : TChg w w1 g vl vs v1 v2
section
variable {w0 w wx w1 : World} {g : Nat} {L : List Value} {S : List Nat} {a : Nat} {vl vs : Value} {bm : Nat} {x : Value} {q : Nat} {v1 v2 : Value}
theorem Kept.own {e e' : TypeId} {s s' n n' : Nat} {v v' u : Value} {xs xs' : List Value} (hk : Kept wx w1 v v') (h : Own w0 wx e s v n xs) (hu : Own w0 wx e' s' u n' xs') (he : e' ≠ e) (hb : Below w0.heap.size w0 w1) : Own w0 w1 e' s' u n' xs' :=
  hu.keepN hb (fun b hb' => hk.1 b (hu.1.lt b hb').2 (own_other hu h he hb'))
theorem PutL.of (h : TbX w0 w g L S a vl vs bm) (hg : Gr w wx) (hk : Kept wx w1 vl v1) (ho : Own w0 w1 20 1 v1 (L.length + 1) (L ++ [x])) : PutL w0 w w1 g L S a vl vs bm x v1 := by
  have hl := h.l.mono hg
  have hb := hg.blk h.blk
  refine ⟨ho, hk.own hl (h.s.mono hg) (by decide) ho.below, (hk.1 g hb.lt (own_blk hl hb (by decide))).trans hb, fun b h1 h2 => (hk.1 b (Nat.lt_of_lt_of_le h1 hg.size) h2).trans (hg.block b h1), fun b hb' => ?_, Nat.le_trans hg.size hk.2.1⟩
  rcases hk.2.2 with e | e
  · left; rw [← e]; exact hb'
  · right; rw [e] at hb'; have := Option.some.inj hb'; have := hg.size; omega
theorem PutR.of (h : TbX w0 w g L S a vl vs bm) (hg : Gr w wx) (hk : Kept wx w1 vs v2) (ho : Own w0 w1 3 1 v2 (L.length + 1) (S.map i64n ++ [i64n q])) : PutR w0 w w1 g L S a vl vs bm q v2 := by
  have hl := h.s.mono hg
  have hb := hg.blk h.blk
  refine ⟨hk.own hl (h.l.mono hg) (by decide) ho.below, ho, (hk.1 g hb.lt (own_blk hl hb (by decide))).trans hb, fun b h1 h2 => (hk.1 b (Nat.lt_of_lt_of_le h1 hg.size) h2).trans (hg.block b h1), fun b hb' => ?_, Nat.le_trans hg.size hk.2.1⟩
  rcases hk.2.2 with e | e
  · left; rw [← e]; exact hb'
  · right; rw [e] at hb'; have := Option.some.inj hb'; have := hg.size; omega
theorem PutM.ofL {w2 : World} (h : PutL w0 w w1 g L S a vl vs bm x v1) (hg : Gr w1 wx) (hk : Kept wx w2 vs v2) (ho : Own w0 w2 3 1 v2 (L.length + 1) (S.map i64n ++ [i64n q])) : PutM w0 w w2 g L S a vl vs bm x q v1 v2 := by
  have hs := h.s.mono hg
  have hb := hg.blk h.blk
  refine ⟨hk.own hs (h.l.mono hg) (by decide) ho.below, ho, (hk.1 g hb.lt (own_blk hs hb (by decide))).trans hb, ⟨Nat.le_trans h.size (Nat.le_trans hg.size hk.2.1), fun b h1 _ h3 h4 => ?_, h.ol, fun b hb' => ?_⟩⟩
  · have hlt := Nat.lt_of_lt_of_le h1 h.size
    exact (hk.1 b (Nat.lt_of_lt_of_le hlt hg.size) h4).trans ((hg.block b hlt).trans (h.keep b h1 h3))
  · rcases hk.2.2 with e | e
    · left; rw [← e]; exact hb'
    · right; rw [e] at hb'; have := Option.some.inj hb'; have := hg.size; have := h.size; omega
theorem PutM.ofR {w2 : World} (h : PutR w0 w w1 g L S a vl vs bm q v2) (hg : Gr w1 wx) (hk : Kept wx w2 vl v1) (ho : Own w0 w2 20 1 v1 (L.length + 1) (L ++ [x])) : PutM w0 w w2 g L S a vl vs bm x q v1 v2 := by
  have hs := h.l.mono hg
  have hb := hg.blk h.blk
  refine ⟨ho, hk.own hs (h.s.mono hg) (by decide) ho.below, (hk.1 g hb.lt (own_blk hs hb (by decide))).trans hb, ⟨Nat.le_trans h.size (Nat.le_trans hg.size hk.2.1), fun b h1 _ h3 h4 => ?_, fun b hb' => ?_, h.os⟩⟩
  · have hlt := Nat.lt_of_lt_of_le h1 h.size
    exact (hk.1 b (Nat.lt_of_lt_of_le hlt hg.size) h3).trans ((hg.block b hlt).trans (h.keep b h1 h4))
  · rcases hk.2.2 with e | e
    · left; rw [← e]; exact hb'
    · right; rw [e] at hb'; have := Option.some.inj hb'; have := hg.size; have := h.size; omega
theorem one_cells {W : World} {b : Nat} {u : Value} (h : W.cell? ⟨b, 0, none⟩ = some u) : ∀ j v, [u][j]? = some v → W.cell? ⟨b, j, none⟩ = some v := by
  intro j v hj
  cases j with
  | zero => rw [h]; exact hj
  | succ j => simp at hj
theorem kept_cell {v v' u : Value} {b : Nat} (hk : Kept wx w1 v v') (h : wx.cell? ⟨b, 0, none⟩ = some u) (hn : v.ownBlock ≠ some b) : w1.cell? ⟨b, 0, none⟩ = some u := by
  have e := hk.1 b (World.block_lt_of_cell? wx _ h) hn
  rw [← h]
  simp only [World.cell?, e]
end
theorem put_fin {w0 w w2 W9 : World} {g : Nat} {L : List Value} {S : List Nat} {a : Nat} {vl vs : Value} {bm : Nat} {x : Value} {q : Nat} {v1 v2 : Value} (h : TbX w0 w g L S a vl vs bm) (hm : PutM w0 w w2 g L S a vl vs bm x q v1 v2) (hW : W9 = (w2.setCell ⟨g, 0, none⟩ v1).setCell ⟨g, 1, none⟩ v2) :
    TbX w0 W9 g (L ++ [x]) (S ++ [q]) a v1 v2 bm ∧ TChg w W9 g vl vs v1 v2 := by
  have hbk : Blk W9 g 81 [v1, v2, .map (some bm), .int .i64 (a : Int)] := by rw [hW]; exact (hm.blk.set 0 v1).set 1 v2
  have hot : ∀ b, b ≠ g → W9.heap[b]? = w2.heap[b]? := fun b hb => by rw [hW, Below.heap_setCell _ _ _ b hb, Below.heap_setCell _ _ _ b hb]
  have hbl : Below w0.heap.size w0 W9 := by rw [hW]; exact (hm.l.below.setCell (p := ⟨g, 0, none⟩) h.ge _).setCell (p := ⟨g, 1, none⟩) h.ge _
  have hsz : w2.heap.size ≤ W9.heap.size := by
    have := ((Below.refl 0 w2).setCell (p := ⟨g, 0, none⟩) (Nat.zero_le _) v1).setCell (p := ⟨g, 1, none⟩) (Nat.zero_le _) v2
    rw [hW]; exact this.size
  have hl := hm.l.keepN hbl (fun b hb => hot b (fun e => own_blk hm.l hm.blk (by decide) (by rw [hb, e])))
  have hs := hm.s.keepN hbl (fun b hb => hot b (fun e => own_blk hm.s hm.blk (by decide) (by rw [hb, e])))
  refine ⟨⟨hbk, by rw [List.length_append]; exact hl, by rw [List.length_append, List.map_append]; exact hs, h.ge, h.gm⟩, Nat.le_trans hm.chg.size hsz, fun b h1 h2 h3 h4 => (hot b h2).trans (hm.chg.keep b h1 h2 h3 h4), hm.chg.ol, hm.chg.os⟩
set_option maxRecDepth 100000 in
set_option maxHeartbeats 2000000 in
theorem put_any (w0 : World) (g : Nat) (L : List Value) (S : List Nat) (a : Nat) (vl vs : Value) (bm : Nat) (ty : TypeId) (xv : Value) (P : Option Addr) (m c : Nat) (ps : List Nat) (w : World) (h : TbX w0 w g L S a vl vs bm) (hS : S.length = L.length) (hsm : Small S) (hP : Is w P m c (ps.map Int.ofNat)) (hps : ∀ p ∈ ps, 1 ≤ p ∧ p ≤ L.length) (hn : L.length ≤ 100000) :
    Calls Tryd.prog 50 #[.pointer (some ⟨g, 0, none⟩), .iface ty xv, .slice P m c] w fun e w' => e = .returned (.int .i64 ((L.length + 1 : Nat) : Int)) ∧ ∃ vl' vs', TbX w0 w' g (L ++ [.iface ty xv]) (S ++ [sizeOf' S ps]) a vl' vs' bm ∧ TChg w w' g vl vs vl' vs' := by
  obtain ⟨Al, cl, rfl, sl⟩ := h.l.slice
  obtain ⟨As, cs, rfl, ss⟩ := h.s.slice
  have hmax := hP.max; have hcap := hP.cap; have hlen := hP.len
  have hml : ps.length = m := by simpa using hlen
  have c0 : w.cell? ⟨g, 0, none⟩ = some (.slice Al L.length cl) := (h.blk.cell 0).trans rfl
  have c1 : w.cell? ⟨g, 1, none⟩ = some (.slice As L.length cs) := (h.blk.cell 1).trans rfl
  have hsm1 := ss.max; have hsm2 := ss.cap
  have H := Lib.hid h; have SS := Lib.hid ss; have HP := Lib.hid hP; have HPS := Lib.hid hps; have HSM := Lib.hid hsm; have HML := Lib.hid hml; have HSL := Lib.hid hS
  clear h sl ss hP hps hsm hlen hml hS
  go_enter Tryd.func50, Tryd.ntmps50
  go_wp2_with fail
  go_loop [7, 12] (fun v i => ∃ k : Nat, k ≤ m ∧ i = .int .i64 (k : Int) ∧ v = .int .i64 ((sizeOf' S (ps.take k) : Nat) : Int)) (fun _ i => m - (intOf i).toNat)
  case atStart => exact ⟨0, Nat.zero_le _, rfl, rfl⟩
  case round =>
    obtain ⟨k, hk, rfl, rfl⟩ := hrel
    by_cases hlt : k < m
    · obtain ⟨b, o, rfl, hcc⟩ := Is.addr HP.out (show 0 < m by omega)
      have c2 := hcc k hlt
      have hkl : k < ps.length := by rw [HML.out]; exact hlt
      have e1 : iAt (ps.map Int.ofNat) k = (ps[k] : Int) := by rw [iAt_get (by simpa using hkl)]; simp
      obtain ⟨hp1, hp2⟩ := HPS.out ps[k] (List.getElem_mem hkl)
      have HT : Hid (sizeOf' S (ps.take (k + 1)) = min (sizeOf' S (ps.take k) + S.getD (ps[k] - 1) 0) great) := by
        show _ = _
        unfold sizeOf'
        rw [List.take_succ_eq_append_getElem hkl, List.foldl_append]; rfl
      rw [e1] at c2
      have hq1 := sizeOf'_le S (ps.take k)
      have hq2 := HSM.out.at (ps[k] - 1)
      obtain ⟨b2, o2, rfl, hcc2⟩ := Sl.addr SS.out (by omega)
      have c3 := hcc2 (ps[k] - 1) _ (i64n_at (by rw [HSL.out]; omega))
      clear hcc hcc2 e1
      generalize ps[k] = p at *
      generalize S.getD (p - 1) 0 = s at *
      generalize sizeOf' S (ps.take k) = q at *
      obtain ⟨p', rfl⟩ : ∃ p', p = p' + 1 := ⟨p - 1, by omega⟩
      simp only [Nat.add_sub_cancel] at c3
      have hlt2 : (k : Int) < m := by omega
      unfold great at hq1 hq2
      have hw1 : IntKind.i64.wrap ((q : Int) + s) = (q : Int) + s := IntWalk.i64_in _ (by omega)
      go_wp2_with fail
      refine ⟨⟨k + 1, by omega, by go_num, ?_⟩, by simp [intOf]; omega⟩
      rw [HT.out]
      congr 1
      unfold great
      split <;> omega
    · obtain rfl : k = m := by omega
      rw [List.take_of_length_le (by rw [HML.out]; exact Nat.le_refl _)]
      have hq1 := sizeOf'_le S ps
      obtain ⟨q, hq⟩ : ∃ q, q = sizeOf' S ps := ⟨_, rfl⟩
      rw [← hq] at hq1 ⊢
      have HQ := Lib.hid hq; clear hq
      have OL := Lib.hid H.out.l; have OS := Lib.hid H.out.s; have BK := Lib.hid H.out.blk
      have hgl : g < w.heap.size := BK.out.lt
      have NL : Hid ((Value.slice Al L.length cl).ownBlock ≠ some g) := own_blk OL.out BK.out (by decide)
      have NS : Hid ((Value.slice As L.length cs).ownBlock ≠ some g) := own_blk OS.out BK.out (by decide)
      have NLS : Hid (∀ b, (Value.slice Al L.length cl).ownBlock = some b → (Value.slice As L.length cs).ownBlock ≠ some b) := fun b hb => own_other OL.out OS.out (by decide) hb
      have y0 := BK.out.free 0; have y1 := BK.out.free 1
      have HA1 : Hid (∀ W : World, (W.alloc (.cells #[.iface ty xv] 20)).cell? ⟨W.heap.size, 0, none⟩ = some (.iface ty xv)) := fun W => (Blk.new W _ _).cell 0
      have HB1 : Hid (∀ (W : World) o, ((W.alloc (.cells #[.iface ty xv] 20)).alloc o).cell? ⟨W.heap.size, 0, none⟩ = some (.iface ty xv)) := fun W o => ((Blk.new W 20 #[.iface ty xv]).alloc o).cell 0
      have HC1 : Hid (∀ (W : World) o, ((W.alloc o).alloc (.cells #[.iface ty xv] 20)).cell? ⟨W.heap.size + 1, 0, none⟩ = some (.iface ty xv)) := fun W o => by have h := (Blk.new (W.alloc o) 20 #[.iface ty xv]).cell 0; rw [show (W.alloc o).heap.size = W.heap.size + 1 by simp] at h; exact h
      have HA2 : Hid (∀ W : World, (W.alloc (.cells #[.int .i64 (q : Int)] 3)).cell? ⟨W.heap.size, 0, none⟩ = some (.int .i64 (q : Int))) := fun W => (Blk.new W _ _).cell 0
      have HB2 : Hid (∀ (W : World) o, ((W.alloc (.cells #[.int .i64 (q : Int)] 3)).alloc o).cell? ⟨W.heap.size, 0, none⟩ = some (.int .i64 (q : Int))) := fun W o => ((Blk.new W 3 #[.int .i64 (q : Int)]).alloc o).cell 0
      have HC2 : Hid (∀ (W : World) o, ((W.alloc o).alloc (.cells #[.int .i64 (q : Int)] 3)).cell? ⟨W.heap.size + 1, 0, none⟩ = some (.int .i64 (q : Int))) := fun W o => by have h := (Blk.new (W.alloc o) 3 #[.int .i64 (q : Int)]).cell 0; rw [show (W.alloc o).heap.size = W.heap.size + 1 by simp] at h; exact h
      have NLW : Hid (∀ b, w.heap.size ≤ b → (Value.slice Al L.length cl).ownBlock ≠ some b) := fun b hb e => by have := (OL.out.1.lt b e).2; omega
      have NSW : Hid (∀ b, w.heap.size ≤ b → (Value.slice As L.length cs).ownBlock ≠ some b) := fun b hb e => by have := (OS.out.1.lt b e).2; omega
      go_upto_region 7 with fail
      refine wp_region_pre (by kernel_rfl) (fun w' => w'.cell? ⟨g, 0, none⟩ = some (.slice Al L.length cl) ∧ w'.cell? ⟨g, 1, none⟩ = some (.slice As L.length cs)) (fun i => i == 5 || i == 12) (fun i => Nat.ble 18 i) [0, 1, 2, 3, 4, 6, 9, 10, 11, 13, 5, 12] 10 (by kernel_rfl) (by kernel_rfl) (by kernel_rfl) ⟨c0, c1⟩ ?_
      refine wpPre_e rfl rfl ?_
      apply Exists.intro
      refine ⟨fun wq hq => ?_, ?_⟩
      · clear hq
        unfold plainAt
        go_simp
        first | exact rfl | exact ⟨rfl, rfl⟩
      go_simp
      refine wpPre_e rfl rfl ?_
      apply Exists.intro
      refine ⟨fun wq hq => ?_, ?_⟩
      · clear hq
        unfold plainAt
        go_simp
        first | exact rfl | exact ⟨rfl, rfl⟩
      go_simp
      refine wpPre_e rfl rfl ?_
      apply Exists.intro
      refine ⟨fun wq hq => ?_, ?_⟩
      · clear hq
        unfold plainAt
        go_simp
        first | exact rfl | exact ⟨rfl, rfl⟩
      go_simp
      refine wpPre_e rfl rfl ?_
      apply Exists.intro
      refine ⟨fun wq hq => ?_, ?_⟩
      · clear hq
        unfold plainAt
        go_simp
        first | exact rfl | exact ⟨rfl, rfl⟩
      go_simp
      refine wpPre_e rfl rfl ?_
      apply Exists.intro
      refine ⟨fun wq hq => ?_, ?_⟩
      · clear hq
        unfold plainAt
        go_simp
        first | exact rfl | exact ⟨rfl, rfl⟩
      go_simp
      refine wpPre_e rfl rfl ?_
      apply Exists.intro
      refine ⟨fun wq hq => ?_, ?_⟩
      · clear hq
        unfold plainAt
        go_simp
        first | exact rfl | exact ⟨rfl, rfl⟩
      go_simp
      refine wpPre_e rfl rfl ?_
      apply Exists.intro
      refine ⟨fun wq hq => ?_, ?_⟩
      · clear hq
        unfold plainAt
        go_simp
        first | exact rfl | exact ⟨rfl, rfl⟩
      go_simp
      refine wpPre_e rfl rfl ?_
      apply Exists.intro
      refine ⟨fun wq hq => ?_, ?_⟩
      · clear hq
        unfold plainAt
        go_simp
        first | exact rfl | exact ⟨rfl, rfl⟩
      go_simp
      refine wpPre_e rfl rfl ?_
      apply Exists.intro
      refine ⟨fun wq hq => ?_, ?_⟩
      · clear hq
        unfold plainAt
        go_simp
        first | exact rfl | exact ⟨rfl, rfl⟩
      go_simp
      refine wpPre_e rfl rfl ?_
      apply Exists.intro
      refine ⟨fun wq hq => ?_, ?_⟩
      · clear hq
        unfold plainAt
        go_simp
        first | exact rfl | exact ⟨rfl, rfl⟩
      go_simp
      refine wpPre_e rfl rfl ?_
      apply Exists.intro
      refine ⟨fun wq hq => ?_, ?_⟩
      · replace hq := hq rfl
        obtain ⟨z0, z1⟩ := hq
        unfold plainAt
        go_simp
        first | exact rfl | exact ⟨rfl, rfl⟩
      go_simp
      refine wpPre_e rfl rfl ?_
      apply Exists.intro
      refine ⟨fun wq hq => ?_, ?_⟩
      · replace hq := hq rfl
        obtain ⟨z0, z1⟩ := hq
        unfold plainAt
        go_simp
        first | exact rfl | exact ⟨rfl, rfl⟩
      go_simp
      refine wpPre_nil ?_
      clear c0 c1 y0 y1
      have HBK : Hid (∀ wq, Gr w wq → wq.cell? ⟨g, 0, none⟩ = some (.slice Al L.length cl) ∧ wq.cell? ⟨g, 1, none⟩ = some (.slice As L.length cs)) := fun wq hq => ⟨(hq.blk BK.out).cell 0, (hq.blk BK.out).cell 1⟩
      refine wpRest_two (i := 7) (j := 14) (by kernel_rfl) rfl rfl rfl rfl ?_ ?_
      · skip
        intro K hK
        go_simp
        refine hK _ _ (fun _ => HBK.out _ (by repeat (first | exact Gr.refl _ | refine Gr.trans ?_ (Gr.drew _) | refine Gr.trans ?_ (Gr.alloc _ _)))) ?_
        clear hK
        go_simp
        refine wpRest_two (i := 8) (j := 14) (by kernel_rfl) rfl rfl rfl rfl ?_ ?_
        · skip
          intro K hK
          refine wp_pushG (.tmp 33) (.tmp 35) 79 rfl tAny rfl (by first | exact R2.out.l.mono (by repeat (first | exact Gr.refl _ | refine Gr.trans ?_ (Gr.drew _) | refine Gr.trans ?_ (Gr.alloc _ _))) | exact OL.out.mono (by repeat (first | exact Gr.refl _ | refine Gr.trans ?_ (Gr.drew _) | refine Gr.trans ?_ (Gr.alloc _ _)))) _ _ [.iface ty xv] rfl rfl (by intro u hu; rw [List.mem_singleton.1 hu]; rfl) (one_cells (by first | exact HA1.out _ | exact HB1.out _ _ | exact HC1.out _ _ | exact CA1)) (by omega) ?_
          intro v1 w1 own1 kept1
          obtain ⟨A1, d1, rfl, _⟩ := own1.slice
          first
            | (have M1 := Lib.hid (PutM.ofR R2.out (by repeat (first | exact Gr.refl _ | refine Gr.trans ?_ (Gr.drew _) | refine Gr.trans ?_ (Gr.alloc _ _))) kept1 own1); have BM := M1.out.blk)
            | (have L1 := Lib.hid (PutL.of H.out (by repeat (first | exact Gr.refl _ | refine Gr.trans ?_ (Gr.drew _) | refine Gr.trans ?_ (Gr.alloc _ _))) kept1 own1); have BM := L1.out.blk)
          first
            | have CA2 := kept_cell kept1 (HB2.out _ _) (NLW.out _ (by simp))
            | have CA2 := kept_cell kept1 (HC2.out _ _) (NLW.out _ (by simp))
            | skip
          have c0 : w1.cell? ⟨g, 0, none⟩ = some (.slice Al L.length cl) := (BM.cell 0).trans rfl
          have c1 : w1.cell? ⟨g, 1, none⟩ = some (.slice As L.length cs) := (BM.cell 1).trans rfl
          have y0 := BM.free 0
          have y1 := BM.free 1
          have hg1 : g < w1.heap.size := BM.lt
          refine hK _ _ (fun _ => ⟨c0, c1⟩) ?_
          clear BM own1 kept1 hK
          go_simp
          refine wpRest_one (i := 14) (by kernel_rfl) rfl rfl ?_
          intro K hK
          go_simp
          refine hK _ _ (fun _ => by first | exact ⟨by go_simp, by go_simp⟩ | exact ⟨(L1.out.blk.alloc _).cell 0, (L1.out.blk.alloc _).cell 1⟩ | exact ⟨(R2.out.blk.alloc _).cell 0, (R2.out.blk.alloc _).cell 1⟩) ?_
          clear hK
          go_simp
          refine wpRest_one (i := 15) (by kernel_rfl) rfl rfl ?_
          intro K hK
          refine wp_pushG (.tmp 40) (.tmp 42) 36 rfl tNums rfl (by first | exact L1.out.s.mono (by repeat (first | exact Gr.refl _ | refine Gr.trans ?_ (Gr.drew _) | refine Gr.trans ?_ (Gr.alloc _ _))) | exact OS.out.mono (by repeat (first | exact Gr.refl _ | refine Gr.trans ?_ (Gr.drew _) | refine Gr.trans ?_ (Gr.alloc _ _)))) _ _ [.int .i64 (q : Int)] rfl rfl (one_int _ _) (one_cells (by first | exact HA2.out _ | exact HB2.out _ _ | exact HC2.out _ _ | exact CA2)) (by omega) ?_
          intro v2 w2 own2 kept2
          obtain ⟨A2, d2, rfl, _⟩ := own2.slice
          first
            | (have M1 := Lib.hid (PutM.ofL (q := q) L1.out (by repeat (first | exact Gr.refl _ | refine Gr.trans ?_ (Gr.drew _) | refine Gr.trans ?_ (Gr.alloc _ _))) kept2 own2); have BM := M1.out.blk)
            | (have R2 := Lib.hid (PutR.of (q := q) H.out (by repeat (first | exact Gr.refl _ | refine Gr.trans ?_ (Gr.drew _) | refine Gr.trans ?_ (Gr.alloc _ _))) kept2 own2); have BM := R2.out.blk)
          first
            | have CA1 := kept_cell kept2 (HB1.out _ _) (NSW.out _ (by simp))
            | have CA1 := kept_cell kept2 (HC1.out _ _) (NSW.out _ (by simp))
            | skip
          have c0 : w2.cell? ⟨g, 0, none⟩ = some (.slice Al L.length cl) := (BM.cell 0).trans rfl
          have c1 : w2.cell? ⟨g, 1, none⟩ = some (.slice As L.length cs) := (BM.cell 1).trans rfl
          have y0 := BM.free 0
          have y1 := BM.free 1
          have hg2 : g < w2.heap.size := BM.lt
          refine hK _ _ (fun _ => ⟨c0, c1⟩) ?_
          clear BM own2 kept2 hK
          go_simp
          refine wpRest_one (i := 16) (by kernel_rfl) rfl rfl ?_
          intro K hK
          go_simp
          refine hK _ _ (fun _ => ⟨c0, c1⟩) ?_
          clear hK
          go_simp
          refine wpRest_one (i := 17) (by kernel_rfl) rfl rfl ?_
          intro K hK
          go_simp
          refine hK _ _ (fun _ => ⟨c0, c1⟩) ?_
          clear hK
          go_simp
          refine wpRest_one (i := 18) (by kernel_rfl) rfl rfl ?_
          intro K hK
          go_simp
          refine hK _ _ (fun h => by cases h) ?_
          clear hK
          go_simp
          refine wpRest_one (i := 19) (by kernel_rfl) rfl rfl ?_
          intro K hK
          go_simp
          refine hK _ _ (fun h => by cases h) ?_
          clear hK
          go_simp
          refine wpRest_one (i := 20) (by kernel_rfl) rfl rfl ?_
          intro K hK
          go_simp
          refine hK _ _ (fun h => by cases h) ?_
          clear hK
          go_simp
          refine wpRest_one (i := 21) (by kernel_rfl) rfl rfl ?_
          intro K hK
          go_simp
          refine hK _ _ (fun h => by cases h) ?_
          clear hK
          go_simp
          refine wpRest_nil (by kernel_rfl) ?_
          obtain ⟨W9, hW9⟩ : ∃ W9, W9 = (w2.setCell ⟨g, 0, none⟩ (.slice A1 (L.length + 1) d1)).setCell ⟨g, 1, none⟩ (.slice A2 (L.length + 1) d2) := ⟨_, rfl⟩
          rw [← hW9]
          have FIN := Lib.hid (put_fin H.out M1.out hW9)
          rw [HQ.out] at FIN
          have c9 : W9.cell? ⟨g, 0, none⟩ = some (.slice A1 (L.length + 1) d1) := (FIN.out.1.blk.cell 0).trans rfl
          have HQ2 := HQ
          clear hW9 c0 c1 y0 y1
          go_wp2_with fail
          go_ret
          exact ⟨ret_int (by simp), _, _, FIN.out.1, FIN.out.2⟩
        · skip
          intro K hK
          go_simp
          refine hK _ _ (fun _ => HBK.out _ (by repeat (first | exact Gr.refl _ | refine Gr.trans ?_ (Gr.drew _) | refine Gr.trans ?_ (Gr.alloc _ _)))) ?_
          clear hK
          go_simp
          refine wpRest_one (i := 8) (by kernel_rfl) rfl rfl ?_
          intro K hK
          refine wp_pushG (.tmp 33) (.tmp 35) 79 rfl tAny rfl (by first | exact R2.out.l.mono (by repeat (first | exact Gr.refl _ | refine Gr.trans ?_ (Gr.drew _) | refine Gr.trans ?_ (Gr.alloc _ _))) | exact OL.out.mono (by repeat (first | exact Gr.refl _ | refine Gr.trans ?_ (Gr.drew _) | refine Gr.trans ?_ (Gr.alloc _ _)))) _ _ [.iface ty xv] rfl rfl (by intro u hu; rw [List.mem_singleton.1 hu]; rfl) (one_cells (by first | exact HA1.out _ | exact HB1.out _ _ | exact HC1.out _ _ | exact CA1)) (by omega) ?_
          intro v1 w1 own1 kept1
          obtain ⟨A1, d1, rfl, _⟩ := own1.slice
          first
            | (have M1 := Lib.hid (PutM.ofR R2.out (by repeat (first | exact Gr.refl _ | refine Gr.trans ?_ (Gr.drew _) | refine Gr.trans ?_ (Gr.alloc _ _))) kept1 own1); have BM := M1.out.blk)
            | (have L1 := Lib.hid (PutL.of H.out (by repeat (first | exact Gr.refl _ | refine Gr.trans ?_ (Gr.drew _) | refine Gr.trans ?_ (Gr.alloc _ _))) kept1 own1); have BM := L1.out.blk)
          first
            | have CA2 := kept_cell kept1 (HB2.out _ _) (NLW.out _ (by simp))
            | have CA2 := kept_cell kept1 (HC2.out _ _) (NLW.out _ (by simp))
            | skip
          have c0 : w1.cell? ⟨g, 0, none⟩ = some (.slice Al L.length cl) := (BM.cell 0).trans rfl
          have c1 : w1.cell? ⟨g, 1, none⟩ = some (.slice As L.length cs) := (BM.cell 1).trans rfl
          have y0 := BM.free 0
          have y1 := BM.free 1
          have hg1 : g < w1.heap.size := BM.lt
          refine hK _ _ (fun _ => ⟨c0, c1⟩) ?_
          clear BM own1 kept1 hK
          go_simp
          refine wpRest_one (i := 15) (by kernel_rfl) rfl rfl ?_
          intro K hK
          refine wp_pushG (.tmp 40) (.tmp 42) 36 rfl tNums rfl (by first | exact L1.out.s.mono (by repeat (first | exact Gr.refl _ | refine Gr.trans ?_ (Gr.drew _) | refine Gr.trans ?_ (Gr.alloc _ _))) | exact OS.out.mono (by repeat (first | exact Gr.refl _ | refine Gr.trans ?_ (Gr.drew _) | refine Gr.trans ?_ (Gr.alloc _ _)))) _ _ [.int .i64 (q : Int)] rfl rfl (one_int _ _) (one_cells (by first | exact HA2.out _ | exact HB2.out _ _ | exact HC2.out _ _ | exact CA2)) (by omega) ?_
          intro v2 w2 own2 kept2
          obtain ⟨A2, d2, rfl, _⟩ := own2.slice
          first
            | (have M1 := Lib.hid (PutM.ofL (q := q) L1.out (by repeat (first | exact Gr.refl _ | refine Gr.trans ?_ (Gr.drew _) | refine Gr.trans ?_ (Gr.alloc _ _))) kept2 own2); have BM := M1.out.blk)
            | (have R2 := Lib.hid (PutR.of (q := q) H.out (by repeat (first | exact Gr.refl _ | refine Gr.trans ?_ (Gr.drew _) | refine Gr.trans ?_ (Gr.alloc _ _))) kept2 own2); have BM := R2.out.blk)
          first
            | have CA1 := kept_cell kept2 (HB1.out _ _) (NSW.out _ (by simp))
            | have CA1 := kept_cell kept2 (HC1.out _ _) (NSW.out _ (by simp))
            | skip
          have c0 : w2.cell? ⟨g, 0, none⟩ = some (.slice Al L.length cl) := (BM.cell 0).trans rfl
          have c1 : w2.cell? ⟨g, 1, none⟩ = some (.slice As L.length cs) := (BM.cell 1).trans rfl
          have y0 := BM.free 0
          have y1 := BM.free 1
          have hg2 : g < w2.heap.size := BM.lt
          refine hK _ _ (fun _ => ⟨c0, c1⟩) ?_
          clear BM own2 kept2 hK
          go_simp
          refine wpRest_one (i := 16) (by kernel_rfl) rfl rfl ?_
          intro K hK
          go_simp
          refine hK _ _ (fun _ => ⟨c0, c1⟩) ?_
          clear hK
          go_simp
          refine wpRest_one (i := 17) (by kernel_rfl) rfl rfl ?_
          intro K hK
          go_simp
          refine hK _ _ (fun _ => ⟨c0, c1⟩) ?_
          clear hK
          go_simp
          refine wpRest_one (i := 18) (by kernel_rfl) rfl rfl ?_
          intro K hK
          go_simp
          refine hK _ _ (fun h => by cases h) ?_
          clear hK
          go_simp
          refine wpRest_one (i := 19) (by kernel_rfl) rfl rfl ?_
          intro K hK
          go_simp
          refine hK _ _ (fun h => by cases h) ?_
          clear hK
          go_simp
          refine wpRest_one (i := 20) (by kernel_rfl) rfl rfl ?_
          intro K hK
          go_simp
          refine hK _ _ (fun h => by cases h) ?_
          clear hK
          go_simp
          refine wpRest_one (i := 21) (by kernel_rfl) rfl rfl ?_
          intro K hK
          go_simp
          refine hK _ _ (fun h => by cases h) ?_
          clear hK
          go_simp
          refine wpRest_nil (by kernel_rfl) ?_
          obtain ⟨W9, hW9⟩ : ∃ W9, W9 = (w2.setCell ⟨g, 0, none⟩ (.slice A1 (L.length + 1) d1)).setCell ⟨g, 1, none⟩ (.slice A2 (L.length + 1) d2) := ⟨_, rfl⟩
          rw [← hW9]
          have FIN := Lib.hid (put_fin H.out M1.out hW9)
          rw [HQ.out] at FIN
          have c9 : W9.cell? ⟨g, 0, none⟩ = some (.slice A1 (L.length + 1) d1) := (FIN.out.1.blk.cell 0).trans rfl
          have HQ2 := HQ
          clear hW9 c0 c1 y0 y1
          go_wp2_with fail
          go_ret
          exact ⟨ret_int (by simp), _, _, FIN.out.1, FIN.out.2⟩
      · skip
        intro K hK
        go_simp
        refine hK _ _ (fun _ => HBK.out _ (by repeat (first | exact Gr.refl _ | refine Gr.trans ?_ (Gr.drew _) | refine Gr.trans ?_ (Gr.alloc _ _)))) ?_
        clear hK
        go_simp
        refine wpRest_one (i := 7) (by kernel_rfl) rfl rfl ?_
        intro K hK
        go_simp
        refine hK _ _ (fun _ => HBK.out _ (by repeat (first | exact Gr.refl _ | refine Gr.trans ?_ (Gr.drew _) | refine Gr.trans ?_ (Gr.alloc _ _)))) ?_
        clear hK
        go_simp
        refine wpRest_one (i := 8) (by kernel_rfl) rfl rfl ?_
        intro K hK
        refine wp_pushG (.tmp 33) (.tmp 35) 79 rfl tAny rfl (by first | exact R2.out.l.mono (by repeat (first | exact Gr.refl _ | refine Gr.trans ?_ (Gr.drew _) | refine Gr.trans ?_ (Gr.alloc _ _))) | exact OL.out.mono (by repeat (first | exact Gr.refl _ | refine Gr.trans ?_ (Gr.drew _) | refine Gr.trans ?_ (Gr.alloc _ _)))) _ _ [.iface ty xv] rfl rfl (by intro u hu; rw [List.mem_singleton.1 hu]; rfl) (one_cells (by first | exact HA1.out _ | exact HB1.out _ _ | exact HC1.out _ _ | exact CA1)) (by omega) ?_
        intro v1 w1 own1 kept1
        obtain ⟨A1, d1, rfl, _⟩ := own1.slice
        first
          | (have M1 := Lib.hid (PutM.ofR R2.out (by repeat (first | exact Gr.refl _ | refine Gr.trans ?_ (Gr.drew _) | refine Gr.trans ?_ (Gr.alloc _ _))) kept1 own1); have BM := M1.out.blk)
          | (have L1 := Lib.hid (PutL.of H.out (by repeat (first | exact Gr.refl _ | refine Gr.trans ?_ (Gr.drew _) | refine Gr.trans ?_ (Gr.alloc _ _))) kept1 own1); have BM := L1.out.blk)
        first
          | have CA2 := kept_cell kept1 (HB2.out _ _) (NLW.out _ (by simp))
          | have CA2 := kept_cell kept1 (HC2.out _ _) (NLW.out _ (by simp))
          | skip
        have c0 : w1.cell? ⟨g, 0, none⟩ = some (.slice Al L.length cl) := (BM.cell 0).trans rfl
        have c1 : w1.cell? ⟨g, 1, none⟩ = some (.slice As L.length cs) := (BM.cell 1).trans rfl
        have y0 := BM.free 0
        have y1 := BM.free 1
        have hg1 : g < w1.heap.size := BM.lt
        refine hK _ _ (fun _ => ⟨c0, c1⟩) ?_
        clear BM own1 kept1 hK
        go_simp
        refine wpRest_one (i := 15) (by kernel_rfl) rfl rfl ?_
        intro K hK
        refine wp_pushG (.tmp 40) (.tmp 42) 36 rfl tNums rfl (by first | exact L1.out.s.mono (by repeat (first | exact Gr.refl _ | refine Gr.trans ?_ (Gr.drew _) | refine Gr.trans ?_ (Gr.alloc _ _))) | exact OS.out.mono (by repeat (first | exact Gr.refl _ | refine Gr.trans ?_ (Gr.drew _) | refine Gr.trans ?_ (Gr.alloc _ _)))) _ _ [.int .i64 (q : Int)] rfl rfl (one_int _ _) (one_cells (by first | exact HA2.out _ | exact HB2.out _ _ | exact HC2.out _ _ | exact CA2)) (by omega) ?_
        intro v2 w2 own2 kept2
        obtain ⟨A2, d2, rfl, _⟩ := own2.slice
        first
          | (have M1 := Lib.hid (PutM.ofL (q := q) L1.out (by repeat (first | exact Gr.refl _ | refine Gr.trans ?_ (Gr.drew _) | refine Gr.trans ?_ (Gr.alloc _ _))) kept2 own2); have BM := M1.out.blk)
          | (have R2 := Lib.hid (PutR.of (q := q) H.out (by repeat (first | exact Gr.refl _ | refine Gr.trans ?_ (Gr.drew _) | refine Gr.trans ?_ (Gr.alloc _ _))) kept2 own2); have BM := R2.out.blk)
        first
          | have CA1 := kept_cell kept2 (HB1.out _ _) (NSW.out _ (by simp))
          | have CA1 := kept_cell kept2 (HC1.out _ _) (NSW.out _ (by simp))
          | skip
        have c0 : w2.cell? ⟨g, 0, none⟩ = some (.slice Al L.length cl) := (BM.cell 0).trans rfl
        have c1 : w2.cell? ⟨g, 1, none⟩ = some (.slice As L.length cs) := (BM.cell 1).trans rfl
        have y0 := BM.free 0
        have y1 := BM.free 1
        have hg2 : g < w2.heap.size := BM.lt
        refine hK _ _ (fun _ => ⟨c0, c1⟩) ?_
        clear BM own2 kept2 hK
        go_simp
        refine wpRest_one (i := 16) (by kernel_rfl) rfl rfl ?_
        intro K hK
        go_simp
        refine hK _ _ (fun _ => ⟨c0, c1⟩) ?_
        clear hK
        go_simp
        refine wpRest_one (i := 17) (by kernel_rfl) rfl rfl ?_
        intro K hK
        go_simp
        refine hK _ _ (fun _ => ⟨c0, c1⟩) ?_
        clear hK
        go_simp
        refine wpRest_one (i := 18) (by kernel_rfl) rfl rfl ?_
        intro K hK
        go_simp
        refine hK _ _ (fun h => by cases h) ?_
        clear hK
        go_simp
        refine wpRest_one (i := 19) (by kernel_rfl) rfl rfl ?_
        intro K hK
        go_simp
        refine hK _ _ (fun h => by cases h) ?_
        clear hK
        go_simp
        refine wpRest_one (i := 20) (by kernel_rfl) rfl rfl ?_
        intro K hK
        go_simp
        refine hK _ _ (fun h => by cases h) ?_
        clear hK
        go_simp
        refine wpRest_one (i := 21) (by kernel_rfl) rfl rfl ?_
        intro K hK
        go_simp
        refine hK _ _ (fun h => by cases h) ?_
        clear hK
        go_simp
        refine wpRest_nil (by kernel_rfl) ?_
        obtain ⟨W9, hW9⟩ : ∃ W9, W9 = (w2.setCell ⟨g, 0, none⟩ (.slice A1 (L.length + 1) d1)).setCell ⟨g, 1, none⟩ (.slice A2 (L.length + 1) d2) := ⟨_, rfl⟩
        rw [← hW9]
        have FIN := Lib.hid (put_fin H.out M1.out hW9)
        rw [HQ.out] at FIN
        have c9 : W9.cell? ⟨g, 0, none⟩ = some (.slice A1 (L.length + 1) d1) := (FIN.out.1.blk.cell 0).trans rfl
        have HQ2 := HQ
        clear hW9 c0 c1 y0 y1
        go_wp2_with fail
        go_ret
        exact ⟨ret_int (by simp), _, _, FIN.out.1, FIN.out.2⟩
end Go.Proofs.YthlnoaalhojphaaDoor
