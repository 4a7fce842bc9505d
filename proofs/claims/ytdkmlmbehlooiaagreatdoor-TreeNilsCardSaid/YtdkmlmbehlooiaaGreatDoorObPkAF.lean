/- Own texts, one behind the other. No condition. -/
import Derived.Test.YtdkmlmbehlooiaaGreatDoorObPkAD
import Derived.Test.YtdkmlmbehlooiaaGreatDoorObPkAE
import Derived.Deep.RegionHeld3
import Derived.DeepKeys4
set_option linter.unusedVariables false
set_option linter.unusedSimpArgs false
namespace Go.Proofs.YtdkmlmbehlooiaaGreatDoor
section
open Go.RowKit Go.Maps
def great : Nat := 1073741824
def sizeOf' (S : List Nat) (ps : List Nat) : Nat := ps.foldl (fun n p => min (n + S.getD (p - 1) 0) great) 1
def sizesL (T : List Nd) : List Nat := T.foldl (fun S x => S ++ [sizeOf' S x.parts]) []
theorem sizesL_snoc (T : List Nd) (x : Nd) : sizesL (T ++ [x]) = sizesL T ++ [sizeOf' (sizesL T) x.parts] := by simp [sizesL]
theorem foldT_len (T : List Nd) : ∀ S : List Nat, (T.foldl (fun S x => S ++ [sizeOf' S x.parts]) S).length = S.length + T.length := by
 induction T with
 | nil => intro S; rfl
 | cons x T ih => intro S; rw [List.foldl_cons, ih]; simp; omega
theorem sizesL_len (T : List Nd) : (sizesL T).length = T.length := by unfold sizesL; rw [foldT_len]; simp
theorem sizeOf'_le (S ps : List Nat) : sizeOf' S ps ≤ great := by
 unfold sizeOf'
 rcases List.eq_nil_or_concat ps with rfl | ⟨l, p, rfl⟩
 · simp [great]
 · rw [List.concat_eq_append, List.foldl_append]; simp; omega
def Small (S : List Nat) : Prop := ∀ s ∈ S, s ≤ great
theorem Small.at {S : List Nat} (h : Small S) (i : Nat) : S.getD i 0 ≤ great := by
 rw [List.getD_eq_getElem?_getD]
 cases hi : S[i]? with
 | none => simp
 | some s => exact h s (List.mem_of_getElem? hi)
theorem sizesL_small (T : List Nd) : Small (sizesL T) := by
 have : ∀ (T : List Nd) (S : List Nat), Small S → Small (T.foldl (fun S x => S ++ [sizeOf' S x.parts]) S) := by
  intro T
  induction T with
  | nil => intro S h; exact h
  | cons x T ih =>
   intro S h
   rw [List.foldl_cons]
   refine ih _ (fun s hs => ?_)
   rcases List.mem_append.1 hs with hs | hs
   · exact h s hs
   · rw [List.mem_singleton.1 hs]; exact sizeOf'_le _ _
 exact this T [] (fun s hs => by cases hs)
theorem tAny : ElemT Tryz.prog 101 20 .nilIface 1 16 := ⟨Tryz.underlying101, by kernel_rfl, rfl, by decide, by decide⟩
structure TbX (w0 w : World) (g : Nat) (L : List Value) (S : List Nat) (a : Nat) (vl vs : Value) (bm : Nat) : Prop where
 blk : Blk w g 103 [vl, vs, .map (some bm), .int .i64 (a : Int)]
 l : Own w0 w 20 1 vl L.length L
 s : Own w0 w 3 1 vs L.length (S.map i64n)
 ge : w0.heap.size ≤ g
 gm : w0.heap.size ≤ bm
structure TChg (w w' : World) (g : Nat) (vl vs vl' vs' : Value) : Prop where
 size : w.heap.size ≤ w'.heap.size
 keep : ∀ b, b < w.heap.size → b ≠ g → vl.ownBlock ≠ some b → vs.ownBlock ≠ some b → w'.heap[b]? = w.heap[b]?
 ol : ∀ b, vl'.ownBlock = some b → vl.ownBlock = some b ∨ w.heap.size ≤ b
 os : ∀ b, vs'.ownBlock = some b → vs.ownBlock = some b ∨ w.heap.size ≤ b
theorem own_other {w0 w0' w : World} {e e' : TypeId} {s s' n n' : Nat} {v v' : Value} {xs xs' : List Value} (h : Own w0 w e s v n xs) (h' : Own w0' w e' s' v' n' xs') (he : e ≠ e') {b : Nat} (hb : v.ownBlock = some b) : v'.ownBlock ≠ some b := by
 intro hb'
 rcases h.1.2 with ⟨h1, _⟩ | ⟨g, cap, cur, hv, _, hh, _⟩
 · rw [h1] at hb; cases hb
 · rcases h'.1.2 with ⟨h1', _⟩ | ⟨g', cap', cur', hv', _, hh', _⟩
   · rw [h1'] at hb'; cases hb'
   · have e1 : g = b := by rw [hv] at hb; exact Option.some.inj hb
     have e2 : g' = b := by rw [hv'] at hb'; exact Option.some.inj hb'
     rw [e1] at hh
     rw [e2, hh] at hh'
     injection hh' with hh'
     injection hh' with _ h3
     exact he h3
theorem own_blk {w0 w : World} {e t : TypeId} {s n g : Nat} {v : Value} {xs cs : List Value} (h : Own w0 w e s v n xs) (hb : Blk w g t cs) (he : e ≠ t) : v.ownBlock ≠ some g := by
 intro hv
 rcases h.1.2 with ⟨h1, _⟩ | ⟨g', cap, cur, hv', _, hh, _⟩
 · rw [h1] at hv; cases hv
 · have e1 : g' = g := by rw [hv'] at hv; exact Option.some.inj hv
   rw [e1, hb] at hh
   injection hh with hh
   injection hh with _ h3
   exact he h3.symm
theorem i64n_at {S : List Nat} {i : Nat} (hi : i < S.length) : (S.map i64n)[i]? = some (.int .i64 ((S.getD i 0 : Nat) : Int)) := by
 rw [List.getElem?_map, List.getD_eq_getElem?_getD, List.getElem?_eq_getElem hi]; rfl
theorem Own.keepN {w0 w w' : World} {e : TypeId} {s n : Nat} {v : Value} {xs : List Value} (h : Own w0 w e s v n xs) (hb : Below w0.heap.size w0 w') (hp : ∀ b, v.ownBlock = some b → w'.heap[b]? = w.heap[b]?) : Own w0 w' e s v n xs := by
 obtain ⟨⟨hl, ho⟩, _⟩ := h
 refine ⟨⟨hl, ?_⟩, hb⟩
 rcases ho with h | ⟨g, cap, cur, hv, hg, hh, r⟩
 · exact .inl h
 · exact .inr ⟨g, cap, cur, hv, hg, by rw [hp g (by rw [hv]; rfl)]; exact hh, r⟩
structure PutL (w0 w w1 : World) (g : Nat) (L : List Value) (S : List Nat) (a : Nat) (vl vs : Value) (bm : Nat) (x : Value) (v1 : Value) : Prop where
 l : Own w0 w1 20 1 v1 (L.length + 1) (L ++ [x])
 s : Own w0 w1 3 1 vs L.length (S.map i64n)
 blk : Blk w1 g 103 [vl, vs, .map (some bm), .int .i64 (a : Int)]
 keep : ∀ b, b < w.heap.size → vl.ownBlock ≠ some b → w1.heap[b]? = w.heap[b]?
 ol : ∀ b, v1.ownBlock = some b → vl.ownBlock = some b ∨ w.heap.size ≤ b
 size : w.heap.size ≤ w1.heap.size
structure PutR (w0 w w1 : World) (g : Nat) (L : List Value) (S : List Nat) (a : Nat) (vl vs : Value) (bm : Nat) (q : Nat) (v2 : Value) : Prop where
 l : Own w0 w1 20 1 vl L.length L
 s : Own w0 w1 3 1 v2 (L.length + 1) (S.map i64n ++ [i64n q])
 blk : Blk w1 g 103 [vl, vs, .map (some bm), .int .i64 (a : Int)]
 keep : ∀ b, b < w.heap.size → vs.ownBlock ≠ some b → w1.heap[b]? = w.heap[b]?
 os : ∀ b, v2.ownBlock = some b → vs.ownBlock = some b ∨ w.heap.size ≤ b
 size : w.heap.size ≤ w1.heap.size
structure PutM (w0 w w1 : World) (g : Nat) (L : List Value) (S : List Nat) (a : Nat) (vl vs : Value) (bm : Nat) (x : Value) (q : Nat) (v1 v2 : Value) : Prop where
 l : Own w0 w1 20 1 v1 (L.length + 1) (L ++ [x])
 s : Own w0 w1 3 1 v2 (L.length + 1) (S.map i64n ++ [i64n q])
 blk : Blk w1 g 103 [vl, vs, .map (some bm), .int .i64 (a : Int)]
 chg : TChg w w1 g vl vs v1 v2
section
variable {w0 w wx w1 : World} {g : Nat} {L : List Value} {S : List Nat} {a : Nat} {vl vs : Value} {bm : Nat} {x : Value} {q : Nat} {v1 v2 : Value}
theorem Kept.own {e e' : TypeId} {s s' n n' : Nat} {v v' u : Value} {xs xs' : List Value} (hk : Kept wx w1 v v') (h : Own w0 wx e s v n xs) (hu : Own w0 wx e' s' u n' xs') (he : e' ≠ e) (hb : Below w0.heap.size w0 w1) : Own w0 w1 e' s' u n' xs' :=
 hu.keepN hb (fun b hb' => hk.1 b (hu.1.lt b hb').2 (own_other hu h he hb'))
theorem PutL.of (h : TbX w0 w g L S a vl vs bm) (hg : Gr w wx) (hk : Kept wx w1 vl v1) (ho : Own w0 w1 20 1 v1 (L.length + 1) (L ++ [x])) : PutL w0 w w1 g L S a vl vs bm x v1 := by
 have hl := h.l.mono hg
 have hb := hg.blk h.blk
 refine ⟨ho, hk.own hl (h.s.mono hg) (by decide) ho.below, (hk.1 g hb.lt (own_blk hl hb (by decide))).trans hb, fun b h1 h2 => (hk.1 b (Nat.lt_of_lt_of_le h1 hg.size) h2).trans (hg.block b h1), fun b hb' => ?_, Nat.le_trans hg.size hk.2.1⟩
 rcases hk.2.2 with e | e
 · left; rw [← e]; exact hb'
 · right; rw [e] at hb'; have := Option.some.inj hb'; have := hg.size; omega
theorem PutR.of (h : TbX w0 w g L S a vl vs bm) (hg : Gr w wx) (hk : Kept wx w1 vs v2) (ho : Own w0 w1 3 1 v2 (L.length + 1) (S.map i64n ++ [i64n q])) : PutR w0 w w1 g L S a vl vs bm q v2 := by
 have hl := h.s.mono hg
 have hb := hg.blk h.blk
 refine ⟨hk.own hl (h.l.mono hg) (by decide) ho.below, ho, (hk.1 g hb.lt (own_blk hl hb (by decide))).trans hb, fun b h1 h2 => (hk.1 b (Nat.lt_of_lt_of_le h1 hg.size) h2).trans (hg.block b h1), fun b hb' => ?_, Nat.le_trans hg.size hk.2.1⟩
 rcases hk.2.2 with e | e
 · left; rw [← e]; exact hb'
 · right; rw [e] at hb'; have := Option.some.inj hb'; have := hg.size; omega
theorem PutM.ofL {w2 : World} (h : PutL w0 w w1 g L S a vl vs bm x v1) (hg : Gr w1 wx) (hk : Kept wx w2 vs v2) (ho : Own w0 w2 3 1 v2 (L.length + 1) (S.map i64n ++ [i64n q])) : PutM w0 w w2 g L S a vl vs bm x q v1 v2 := by
 have hs := h.s.mono hg
 have hb := hg.blk h.blk
 refine ⟨hk.own hs (h.l.mono hg) (by decide) ho.below, ho, (hk.1 g hb.lt (own_blk hs hb (by decide))).trans hb, ⟨Nat.le_trans h.size (Nat.le_trans hg.size hk.2.1), fun b h1 _ h3 h4 => ?_, h.ol, fun b hb' => ?_⟩⟩
 · have hlt := Nat.lt_of_lt_of_le h1 h.size
   exact (hk.1 b (Nat.lt_of_lt_of_le hlt hg.size) h4).trans ((hg.block b hlt).trans (h.keep b h1 h3))
 · rcases hk.2.2 with e | e
   · left; rw [← e]; exact hb'
   · right; rw [e] at hb'; have := Option.some.inj hb'; have := hg.size; have := h.size; omega
theorem PutM.ofR {w2 : World} (h : PutR w0 w w1 g L S a vl vs bm q v2) (hg : Gr w1 wx) (hk : Kept wx w2 vl v1) (ho : Own w0 w2 20 1 v1 (L.length + 1) (L ++ [x])) : PutM w0 w w2 g L S a vl vs bm x q v1 v2 := by
 have hs := h.l.mono hg
 have hb := hg.blk h.blk
 refine ⟨ho, hk.own hs (h.s.mono hg) (by decide) ho.below, (hk.1 g hb.lt (own_blk hs hb (by decide))).trans hb, ⟨Nat.le_trans h.size (Nat.le_trans hg.size hk.2.1), fun b h1 _ h3 h4 => ?_, fun b hb' => ?_, h.os⟩⟩
 · have hlt := Nat.lt_of_lt_of_le h1 h.size
   exact (hk.1 b (Nat.lt_of_lt_of_le hlt hg.size) h3).trans ((hg.block b hlt).trans (h.keep b h1 h4))
 · rcases hk.2.2 with e | e
   · left; rw [← e]; exact hb'
   · right; rw [e] at hb'; have := Option.some.inj hb'; have := hg.size; have := h.size; omega
theorem one_cells {W : World} {b : Nat} {u : Value} (h : W.cell? ⟨b, 0, none⟩ = some u) : ∀ j v, [u][j]? = some v → W.cell? ⟨b, j, none⟩ = some v := by
 intro j v hj
 cases j with
 | zero => rw [h]; exact hj
 | succ j => simp at hj
theorem kept_cell {v v' u : Value} {b : Nat} (hk : Kept wx w1 v v') (h : wx.cell? ⟨b, 0, none⟩ = some u) (hn : v.ownBlock ≠ some b) : w1.cell? ⟨b, 0, none⟩ = some u := by
 have e := hk.1 b (World.block_lt_of_cell? wx _ h) hn
 rw [← h]
 simp only [World.cell?, e]
end
theorem put_fin {w0 w w2 W9 : World} {g : Nat} {L : List Value} {S : List Nat} {a : Nat} {vl vs : Value} {bm : Nat} {x : Value} {q : Nat} {v1 v2 : Value} (h : TbX w0 w g L S a vl vs bm) (hm : PutM w0 w w2 g L S a vl vs bm x q v1 v2) (hW : W9 = (w2.setCell ⟨g, 0, none⟩ v1).setCell ⟨g, 1, none⟩ v2) :
 TbX w0 W9 g (L ++ [x]) (S ++ [q]) a v1 v2 bm ∧ TChg w W9 g vl vs v1 v2 := by
 have hbk : Blk W9 g 103 [v1, v2, .map (some bm), .int .i64 (a : Int)] := by rw [hW]; exact (hm.blk.set 0 v1).set 1 v2
 have hot : ∀ b, b ≠ g → W9.heap[b]? = w2.heap[b]? := fun b hb => by rw [hW, Below.heap_setCell _ _ _ b hb, Below.heap_setCell _ _ _ b hb]
 have hbl : Below w0.heap.size w0 W9 := by rw [hW]; exact (hm.l.below.setCell (p := ⟨g, 0, none⟩) h.ge _).setCell (p := ⟨g, 1, none⟩) h.ge _
 have hsz : w2.heap.size ≤ W9.heap.size := by
  have := ((Below.refl 0 w2).setCell (p := ⟨g, 0, none⟩) (Nat.zero_le _) v1).setCell (p := ⟨g, 1, none⟩) (Nat.zero_le _) v2
  rw [hW]; exact this.size
 have hl := hm.l.keepN hbl (fun b hb => hot b (fun e => own_blk hm.l hm.blk (by decide) (by rw [hb, e])))
 have hs := hm.s.keepN hbl (fun b hb => hot b (fun e => own_blk hm.s hm.blk (by decide) (by rw [hb, e])))
 refine ⟨⟨hbk, by rw [List.length_append]; exact hl, by rw [List.length_append, List.map_append]; exact hs, h.ge, h.gm⟩, Nat.le_trans hm.chg.size hsz, fun b h1 h2 h3 h4 => (hot b h2).trans (hm.chg.keep b h1 h2 h3 h4), hm.chg.ol, hm.chg.os⟩
set_option maxRecDepth 100000 in
set_option maxHeartbeats 2000000 in
theorem termPut_any (w0 : World) (g : Nat) (L : List Value) (S : List Nat) (a : Nat) (vl vs : Value) (bm : Nat) (ty : TypeId) (xv : Value) (P : Option Addr) (m c : Nat) (ps : List Nat) (w : World) (h : TbX w0 w g L S a vl vs bm) (hS : S.length = L.length) (hsm : Small S) (hP : Is w P m c (ps.map Int.ofNat)) (hps : ∀ p ∈ ps, 1 ≤ p ∧ p ≤ L.length) (hn : L.length ≤ 100000) :
 Calls Tryz.prog 150 #[.pointer (some ⟨g, 0, none⟩), .iface ty xv, .slice P m c] w fun e w' => e = .returned (.int .i64 ((L.length + 1 : Nat) : Int)) ∧ ∃ vl' vs', TbX w0 w' g (L ++ [.iface ty xv]) (S ++ [sizeOf' S ps]) a vl' vs' bm ∧ TChg w w' g vl vs vl' vs' := by
 obtain ⟨Al, cl, rfl, sl⟩ := h.l.slice
 obtain ⟨As, cs, rfl, ss⟩ := h.s.slice
 have hmax := hP.max; have hcap := hP.cap; have hlen := hP.len
 have hml : ps.length = m := by simpa using hlen
 have c0 : w.cell? ⟨g, 0, none⟩ = some (.slice Al L.length cl) := (h.blk.cell 0).trans rfl
 have c1 : w.cell? ⟨g, 1, none⟩ = some (.slice As L.length cs) := (h.blk.cell 1).trans rfl
 have hsm1 := ss.max; have hsm2 := ss.cap
 have H := Lib.hid h; have SS := Lib.hid ss; have HP := Lib.hid hP; have HPS := Lib.hid hps; have HSM := Lib.hid hsm; have HML := Lib.hid hml; have HSL := Lib.hid hS
 clear h sl ss hP hps hsm hlen hml hS
 go_enter Tryz.func150, Tryz.ntmps150
 go_wp2_with fail
 go_loop [7, 12] (fun v i => ∃ k : Nat, k ≤ m ∧ i = .int .i64 (k : Int) ∧ v = .int .i64 ((sizeOf' S (ps.take k) : Nat) : Int)) (fun _ i => m - (Go.RowKit.intOf i).toNat)
 case atStart => exact ⟨0, Nat.zero_le _, rfl, rfl⟩
 case round =>
  obtain ⟨k, hk, rfl, rfl⟩ := hrel
  by_cases hlt : k < m
  · obtain ⟨b, o, rfl, hcc⟩ := Is.addr HP.out (show 0 < m by omega)
    have c2 := hcc k hlt
    have hkl : k < ps.length := by rw [HML.out]; exact hlt
    have e1 : iAt (ps.map Int.ofNat) k = (ps[k] : Int) := by rw [iAt_get (by simpa using hkl)]; simp
    obtain ⟨hp1, hp2⟩ := HPS.out ps[k] (List.getElem_mem hkl)
    have HT : Hid (sizeOf' S (ps.take (k + 1)) = min (sizeOf' S (ps.take k) + S.getD (ps[k] - 1) 0) great) := by
     show _ = _
     unfold sizeOf'
     rw [List.take_succ_eq_append_getElem hkl, List.foldl_append]; rfl
    rw [e1] at c2
    have hq1 := sizeOf'_le S (ps.take k)
    have hq2 := HSM.out.at (ps[k] - 1)
    obtain ⟨b2, o2, rfl, hcc2⟩ := Sl.addr SS.out (by omega)
    have c3 := hcc2 (ps[k] - 1) _ (i64n_at (by rw [HSL.out]; omega))
    clear hcc hcc2 e1
    generalize ps[k] = p at *
    generalize S.getD (p - 1) 0 = s at *
    generalize sizeOf' S (ps.take k) = q at *
    obtain ⟨p', rfl⟩ : ∃ p', p = p' + 1 := ⟨p - 1, by omega⟩
    simp only [Nat.add_sub_cancel] at c3
    have hlt2 : (k : Int) < m := by omega
    unfold great at hq1 hq2
    have hw1 : IntKind.i64.wrap ((q : Int) + s) = (q : Int) + s := IntWalk.i64_in _ (by omega)
    go_wp2_with fail
    refine ⟨⟨k + 1, by omega, by go_num, ?_⟩, by simp [Go.RowKit.intOf]; omega⟩
    rw [HT.out]
    congr 1
    unfold great
    first | (split <;> omega) | omega
  · obtain rfl : k = m := by omega
    rw [List.take_of_length_le (by rw [HML.out]; exact Nat.le_refl _)]
    have hq1 := sizeOf'_le S ps
    obtain ⟨q, hq⟩ : ∃ q, q = sizeOf' S ps := ⟨_, rfl⟩
    rw [← hq] at hq1 ⊢
    have HQ := Lib.hid hq; clear hq
    have OL := Lib.hid H.out.l; have OS := Lib.hid H.out.s; have BK := Lib.hid H.out.blk
    have hgl : g < w.heap.size := BK.out.lt
    have NL : Hid ((Value.slice Al L.length cl).ownBlock ≠ some g) := own_blk OL.out BK.out (by decide)
    have NS : Hid ((Value.slice As L.length cs).ownBlock ≠ some g) := own_blk OS.out BK.out (by decide)
    have NLS : Hid (∀ b, (Value.slice Al L.length cl).ownBlock = some b → (Value.slice As L.length cs).ownBlock ≠ some b) := fun b hb => own_other OL.out OS.out (by decide) hb
    have y0 := BK.out.free 0; have y1 := BK.out.free 1
    have HA1 : Hid (∀ W : World, (W.alloc (.cells #[.iface ty xv] 20)).cell? ⟨W.heap.size, 0, none⟩ = some (.iface ty xv)) := fun W => (Blk.new W _ _).cell 0
    have HB1 : Hid (∀ (W : World) o, ((W.alloc (.cells #[.iface ty xv] 20)).alloc o).cell? ⟨W.heap.size, 0, none⟩ = some (.iface ty xv)) := fun W o => ((Blk.new W 20 #[.iface ty xv]).alloc o).cell 0
    have HC1 : Hid (∀ (W : World) o, ((W.alloc o).alloc (.cells #[.iface ty xv] 20)).cell? ⟨W.heap.size + 1, 0, none⟩ = some (.iface ty xv)) := fun W o => by have h := (Blk.new (W.alloc o) 20 #[.iface ty xv]).cell 0; rw [show (W.alloc o).heap.size = W.heap.size + 1 by simp] at h; exact h
    have HA2 : Hid (∀ W : World, (W.alloc (.cells #[.int .i64 (q : Int)] 3)).cell? ⟨W.heap.size, 0, none⟩ = some (.int .i64 (q : Int))) := fun W => (Blk.new W _ _).cell 0
    have HB2 : Hid (∀ (W : World) o, ((W.alloc (.cells #[.int .i64 (q : Int)] 3)).alloc o).cell? ⟨W.heap.size, 0, none⟩ = some (.int .i64 (q : Int))) := fun W o => ((Blk.new W 3 #[.int .i64 (q : Int)]).alloc o).cell 0
    have HC2 : Hid (∀ (W : World) o, ((W.alloc o).alloc (.cells #[.int .i64 (q : Int)] 3)).cell? ⟨W.heap.size + 1, 0, none⟩ = some (.int .i64 (q : Int))) := fun W o => by have h := (Blk.new (W.alloc o) 3 #[.int .i64 (q : Int)]).cell 0; rw [show (W.alloc o).heap.size = W.heap.size + 1 by simp] at h; exact h
    have NLW : Hid (∀ b, w.heap.size ≤ b → (Value.slice Al L.length cl).ownBlock ≠ some b) := fun b hb e => by have := (OL.out.1.lt b e).2; omega
    have NSW : Hid (∀ b, w.heap.size ≤ b → (Value.slice As L.length cs).ownBlock ≠ some b) := fun b hb e => by have := (OS.out.1.lt b e).2; omega
    go_upto_region 7 with fail
    refine wrP (by kernel_rfl) (fun w' => w'.cell? ⟨g, 0, none⟩ = some (.slice Al L.length cl) ∧ w'.cell? ⟨g, 1, none⟩ = some (.slice As L.length cs)) (fun i => i == 5 || i == 12) (fun i => Nat.ble 18 i) [0, 1, 2, 3, 4, 6, 9, 10, 11, 13, 5, 12] 10 (by kernel_rfl) (by kernel_rfl) (by kernel_rfl) ⟨c0, c1⟩ ?_
    iterate 10
     refine wpPre_e rfl rfl ?_
     apply Exists.intro
     refine ⟨fun wq hq => ?_, ?_⟩
     · clear hq
       unfold pLa
       go_simp
       first | exact rfl | exact ⟨rfl, rfl⟩
     go_simp
    iterate 2
     refine wpPre_e rfl rfl ?_
     apply Exists.intro
     refine ⟨fun wq hq => ?_, ?_⟩
     · replace hq := hq rfl
       obtain ⟨z0, z1⟩ := hq
       unfold pLa
       go_simp
       first | exact rfl | exact ⟨rfl, rfl⟩
     go_simp
    refine wpPre_nil ?_
    clear c0 c1 y0 y1
    have HBK : Hid (∀ wq, Gr w wq → wq.cell? ⟨g, 0, none⟩ = some (.slice Al L.length cl) ∧ wq.cell? ⟨g, 1, none⟩ = some (.slice As L.length cs)) := fun wq hq => ⟨(hq.blk BK.out).cell 0, (hq.blk BK.out).cell 1⟩
    refine wpRest_two (i := 7) (j := 14) (by kernel_rfl) rfl rfl rfl rfl ?_ ?_
    · skip
      intro K hK
      go_simp
      refine hK _ _ (fun _ => HBK.out _ (by repeat (first | exact Gr.refl _ | refine Gr.trans ?_ (Gr.drew _) | refine Gr.trans ?_ (Gr.alloc _ _)))) ?_
      clear hK
      go_simp
      refine wpRest_two (i := 8) (j := 14) (by kernel_rfl) rfl rfl rfl rfl ?_ ?_
      · skip
        intro K hK
        refine wp_pushG (.tmp 33) (.tmp 35) 101 rfl tAny rfl (by first | exact R2.out.l.mono (by repeat (first | exact Gr.refl _ | refine Gr.trans ?_ (Gr.drew _) | refine Gr.trans ?_ (Gr.alloc _ _))) | exact OL.out.mono (by repeat (first | exact Gr.refl _ | refine Gr.trans ?_ (Gr.drew _) | refine Gr.trans ?_ (Gr.alloc _ _)))) _ _ [.iface ty xv] rfl rfl (by intro u hu; rw [List.mem_singleton.1 hu]; rfl) (one_cells (by first | exact HA1.out _ | exact HB1.out _ _ | exact HC1.out _ _ | exact CA1)) (by omega) ?_
        intro v1 w1 own1 kept1
        obtain ⟨A1, d1, rfl, _⟩ := own1.slice
        first
         | (have M1 := Lib.hid (PutM.ofR R2.out (by repeat (first | exact Gr.refl _ | refine Gr.trans ?_ (Gr.drew _) | refine Gr.trans ?_ (Gr.alloc _ _))) kept1 own1); have BM := M1.out.blk)
         | (have L1 := Lib.hid (PutL.of H.out (by repeat (first | exact Gr.refl _ | refine Gr.trans ?_ (Gr.drew _) | refine Gr.trans ?_ (Gr.alloc _ _))) kept1 own1); have BM := L1.out.blk)
        first
         | have CA2 := kept_cell kept1 (HB2.out _ _) (NLW.out _ (by simp))
         | have CA2 := kept_cell kept1 (HC2.out _ _) (NLW.out _ (by simp))
         | skip
        have c0 : w1.cell? ⟨g, 0, none⟩ = some (.slice Al L.length cl) := (BM.cell 0).trans rfl
        have c1 : w1.cell? ⟨g, 1, none⟩ = some (.slice As L.length cs) := (BM.cell 1).trans rfl
        have y0 := BM.free 0
        have y1 := BM.free 1
        have hg1 : g < w1.heap.size := BM.lt
        refine hK _ _ (fun _ => ⟨c0, c1⟩) ?_
        clear BM own1 kept1 hK
        go_simp
        refine wR1 (i := 14) (by kernel_rfl) rfl rfl ?_
        intro K hK
        go_simp
        refine hK _ _ (fun _ => by first | exact ⟨by go_simp, by go_simp⟩ | exact ⟨(L1.out.blk.alloc _).cell 0, (L1.out.blk.alloc _).cell 1⟩ | exact ⟨(R2.out.blk.alloc _).cell 0, (R2.out.blk.alloc _).cell 1⟩) ?_
        clear hK
        go_simp
        refine wR1 (i := 15) (by kernel_rfl) rfl rfl ?_
        intro K hK
        refine wp_pushG (.tmp 40) (.tmp 42) 79 rfl tNums rfl (by first | exact L1.out.s.mono (by repeat (first | exact Gr.refl _ | refine Gr.trans ?_ (Gr.drew _) | refine Gr.trans ?_ (Gr.alloc _ _))) | exact OS.out.mono (by repeat (first | exact Gr.refl _ | refine Gr.trans ?_ (Gr.drew _) | refine Gr.trans ?_ (Gr.alloc _ _)))) _ _ [.int .i64 (q : Int)] rfl rfl (one_int _ _) (one_cells (by first | exact HA2.out _ | exact HB2.out _ _ | exact HC2.out _ _ | exact CA2)) (by omega) ?_
        intro v2 w2 own2 kept2
        obtain ⟨A2, d2, rfl, _⟩ := own2.slice
        first
         | (have M1 := Lib.hid (PutM.ofL (q := q) L1.out (by repeat (first | exact Gr.refl _ | refine Gr.trans ?_ (Gr.drew _) | refine Gr.trans ?_ (Gr.alloc _ _))) kept2 own2); have BM := M1.out.blk)
         | (have R2 := Lib.hid (PutR.of (q := q) H.out (by repeat (first | exact Gr.refl _ | refine Gr.trans ?_ (Gr.drew _) | refine Gr.trans ?_ (Gr.alloc _ _))) kept2 own2); have BM := R2.out.blk)
        first
         | have CA1 := kept_cell kept2 (HB1.out _ _) (NSW.out _ (by simp))
         | have CA1 := kept_cell kept2 (HC1.out _ _) (NSW.out _ (by simp))
         | skip
        have c0 : w2.cell? ⟨g, 0, none⟩ = some (.slice Al L.length cl) := (BM.cell 0).trans rfl
        have c1 : w2.cell? ⟨g, 1, none⟩ = some (.slice As L.length cs) := (BM.cell 1).trans rfl
        have y0 := BM.free 0
        have y1 := BM.free 1
        have hg2 : g < w2.heap.size := BM.lt
        refine hK _ _ (fun _ => ⟨c0, c1⟩) ?_
        clear BM own2 kept2 hK
        go_simp
        refine wR1 (i := 16) (by kernel_rfl) rfl rfl ?_
        intro K hK
        go_simp
        refine hK _ _ (fun _ => ⟨c0, c1⟩) ?_
        clear hK
        go_simp
        refine wR1 (i := 17) (by kernel_rfl) rfl rfl ?_
        intro K hK
        go_simp
        refine hK _ _ (fun _ => ⟨c0, c1⟩) ?_
        clear hK
        go_simp
        refine wR1 (i := 18) (by kernel_rfl) rfl rfl ?_
        intro K hK
        go_simp
        refine hK _ _ (fun h => by cases h) ?_
        clear hK
        go_simp
        refine wR1 (i := 19) (by kernel_rfl) rfl rfl ?_
        intro K hK
        go_simp
        refine hK _ _ (fun h => by cases h) ?_
        clear hK
        go_simp
        refine wR1 (i := 20) (by kernel_rfl) rfl rfl ?_
        intro K hK
        go_simp
        refine hK _ _ (fun h => by cases h) ?_
        clear hK
        go_simp
        refine wR1 (i := 21) (by kernel_rfl) rfl rfl ?_
        intro K hK
        go_simp
        refine hK _ _ (fun h => by cases h) ?_
        clear hK
        go_simp
        refine wpRest_nil (by kernel_rfl) ?_
        obtain ⟨W9, hW9⟩ : ∃ W9, W9 = (w2.setCell ⟨g, 0, none⟩ (.slice A1 (L.length + 1) d1)).setCell ⟨g, 1, none⟩ (.slice A2 (L.length + 1) d2) := ⟨_, rfl⟩
        rw [← hW9]
        have FIN := Lib.hid (put_fin H.out M1.out hW9)
        rw [HQ.out] at FIN
        have c9 : W9.cell? ⟨g, 0, none⟩ = some (.slice A1 (L.length + 1) d1) := (FIN.out.1.blk.cell 0).trans rfl
        have HQ2 := HQ
        clear hW9 c0 c1 y0 y1
        go_wp2_with fail
        go_ret
        exact ⟨ret_int (by simp), _, _, FIN.out.1, FIN.out.2⟩
      · skip
        intro K hK
        go_simp
        refine hK _ _ (fun _ => HBK.out _ (by repeat (first | exact Gr.refl _ | refine Gr.trans ?_ (Gr.drew _) | refine Gr.trans ?_ (Gr.alloc _ _)))) ?_
        clear hK
        go_simp
        refine wR1 (i := 8) (by kernel_rfl) rfl rfl ?_
        intro K hK
        refine wp_pushG (.tmp 33) (.tmp 35) 101 rfl tAny rfl (by first | exact R2.out.l.mono (by repeat (first | exact Gr.refl _ | refine Gr.trans ?_ (Gr.drew _) | refine Gr.trans ?_ (Gr.alloc _ _))) | exact OL.out.mono (by repeat (first | exact Gr.refl _ | refine Gr.trans ?_ (Gr.drew _) | refine Gr.trans ?_ (Gr.alloc _ _)))) _ _ [.iface ty xv] rfl rfl (by intro u hu; rw [List.mem_singleton.1 hu]; rfl) (one_cells (by first | exact HA1.out _ | exact HB1.out _ _ | exact HC1.out _ _ | exact CA1)) (by omega) ?_
        intro v1 w1 own1 kept1
        obtain ⟨A1, d1, rfl, _⟩ := own1.slice
        first
         | (have M1 := Lib.hid (PutM.ofR R2.out (by repeat (first | exact Gr.refl _ | refine Gr.trans ?_ (Gr.drew _) | refine Gr.trans ?_ (Gr.alloc _ _))) kept1 own1); have BM := M1.out.blk)
         | (have L1 := Lib.hid (PutL.of H.out (by repeat (first | exact Gr.refl _ | refine Gr.trans ?_ (Gr.drew _) | refine Gr.trans ?_ (Gr.alloc _ _))) kept1 own1); have BM := L1.out.blk)
        first
         | have CA2 := kept_cell kept1 (HB2.out _ _) (NLW.out _ (by simp))
         | have CA2 := kept_cell kept1 (HC2.out _ _) (NLW.out _ (by simp))
         | skip
        have c0 : w1.cell? ⟨g, 0, none⟩ = some (.slice Al L.length cl) := (BM.cell 0).trans rfl
        have c1 : w1.cell? ⟨g, 1, none⟩ = some (.slice As L.length cs) := (BM.cell 1).trans rfl
        have y0 := BM.free 0
        have y1 := BM.free 1
        have hg1 : g < w1.heap.size := BM.lt
        refine hK _ _ (fun _ => ⟨c0, c1⟩) ?_
        clear BM own1 kept1 hK
        go_simp
        refine wR1 (i := 15) (by kernel_rfl) rfl rfl ?_
        intro K hK
        refine wp_pushG (.tmp 40) (.tmp 42) 79 rfl tNums rfl (by first | exact L1.out.s.mono (by repeat (first | exact Gr.refl _ | refine Gr.trans ?_ (Gr.drew _) | refine Gr.trans ?_ (Gr.alloc _ _))) | exact OS.out.mono (by repeat (first | exact Gr.refl _ | refine Gr.trans ?_ (Gr.drew _) | refine Gr.trans ?_ (Gr.alloc _ _)))) _ _ [.int .i64 (q : Int)] rfl rfl (one_int _ _) (one_cells (by first | exact HA2.out _ | exact HB2.out _ _ | exact HC2.out _ _ | exact CA2)) (by omega) ?_
        intro v2 w2 own2 kept2
        obtain ⟨A2, d2, rfl, _⟩ := own2.slice
        first
         | (have M1 := Lib.hid (PutM.ofL (q := q) L1.out (by repeat (first | exact Gr.refl _ | refine Gr.trans ?_ (Gr.drew _) | refine Gr.trans ?_ (Gr.alloc _ _))) kept2 own2); have BM := M1.out.blk)
         | (have R2 := Lib.hid (PutR.of (q := q) H.out (by repeat (first | exact Gr.refl _ | refine Gr.trans ?_ (Gr.drew _) | refine Gr.trans ?_ (Gr.alloc _ _))) kept2 own2); have BM := R2.out.blk)
        first
         | have CA1 := kept_cell kept2 (HB1.out _ _) (NSW.out _ (by simp))
         | have CA1 := kept_cell kept2 (HC1.out _ _) (NSW.out _ (by simp))
         | skip
        have c0 : w2.cell? ⟨g, 0, none⟩ = some (.slice Al L.length cl) := (BM.cell 0).trans rfl
        have c1 : w2.cell? ⟨g, 1, none⟩ = some (.slice As L.length cs) := (BM.cell 1).trans rfl
        have y0 := BM.free 0
        have y1 := BM.free 1
        have hg2 : g < w2.heap.size := BM.lt
        refine hK _ _ (fun _ => ⟨c0, c1⟩) ?_
        clear BM own2 kept2 hK
        go_simp
        refine wR1 (i := 16) (by kernel_rfl) rfl rfl ?_
        intro K hK
        go_simp
        refine hK _ _ (fun _ => ⟨c0, c1⟩) ?_
        clear hK
        go_simp
        refine wR1 (i := 17) (by kernel_rfl) rfl rfl ?_
        intro K hK
        go_simp
        refine hK _ _ (fun _ => ⟨c0, c1⟩) ?_
        clear hK
        go_simp
        refine wR1 (i := 18) (by kernel_rfl) rfl rfl ?_
        intro K hK
        go_simp
        refine hK _ _ (fun h => by cases h) ?_
        clear hK
        go_simp
        refine wR1 (i := 19) (by kernel_rfl) rfl rfl ?_
        intro K hK
        go_simp
        refine hK _ _ (fun h => by cases h) ?_
        clear hK
        go_simp
        refine wR1 (i := 20) (by kernel_rfl) rfl rfl ?_
        intro K hK
        go_simp
        refine hK _ _ (fun h => by cases h) ?_
        clear hK
        go_simp
        refine wR1 (i := 21) (by kernel_rfl) rfl rfl ?_
        intro K hK
        go_simp
        refine hK _ _ (fun h => by cases h) ?_
        clear hK
        go_simp
        refine wpRest_nil (by kernel_rfl) ?_
        obtain ⟨W9, hW9⟩ : ∃ W9, W9 = (w2.setCell ⟨g, 0, none⟩ (.slice A1 (L.length + 1) d1)).setCell ⟨g, 1, none⟩ (.slice A2 (L.length + 1) d2) := ⟨_, rfl⟩
        rw [← hW9]
        have FIN := Lib.hid (put_fin H.out M1.out hW9)
        rw [HQ.out] at FIN
        have c9 : W9.cell? ⟨g, 0, none⟩ = some (.slice A1 (L.length + 1) d1) := (FIN.out.1.blk.cell 0).trans rfl
        have HQ2 := HQ
        clear hW9 c0 c1 y0 y1
        go_wp2_with fail
        go_ret
        exact ⟨ret_int (by simp), _, _, FIN.out.1, FIN.out.2⟩
    · skip
      intro K hK
      go_simp
      refine hK _ _ (fun _ => HBK.out _ (by repeat (first | exact Gr.refl _ | refine Gr.trans ?_ (Gr.drew _) | refine Gr.trans ?_ (Gr.alloc _ _)))) ?_
      clear hK
      go_simp
      refine wR1 (i := 7) (by kernel_rfl) rfl rfl ?_
      intro K hK
      go_simp
      refine hK _ _ (fun _ => HBK.out _ (by repeat (first | exact Gr.refl _ | refine Gr.trans ?_ (Gr.drew _) | refine Gr.trans ?_ (Gr.alloc _ _)))) ?_
      clear hK
      go_simp
      refine wR1 (i := 8) (by kernel_rfl) rfl rfl ?_
      intro K hK
      refine wp_pushG (.tmp 33) (.tmp 35) 101 rfl tAny rfl (by first | exact R2.out.l.mono (by repeat (first | exact Gr.refl _ | refine Gr.trans ?_ (Gr.drew _) | refine Gr.trans ?_ (Gr.alloc _ _))) | exact OL.out.mono (by repeat (first | exact Gr.refl _ | refine Gr.trans ?_ (Gr.drew _) | refine Gr.trans ?_ (Gr.alloc _ _)))) _ _ [.iface ty xv] rfl rfl (by intro u hu; rw [List.mem_singleton.1 hu]; rfl) (one_cells (by first | exact HA1.out _ | exact HB1.out _ _ | exact HC1.out _ _ | exact CA1)) (by omega) ?_
      intro v1 w1 own1 kept1
      obtain ⟨A1, d1, rfl, _⟩ := own1.slice
      first
       | (have M1 := Lib.hid (PutM.ofR R2.out (by repeat (first | exact Gr.refl _ | refine Gr.trans ?_ (Gr.drew _) | refine Gr.trans ?_ (Gr.alloc _ _))) kept1 own1); have BM := M1.out.blk)
       | (have L1 := Lib.hid (PutL.of H.out (by repeat (first | exact Gr.refl _ | refine Gr.trans ?_ (Gr.drew _) | refine Gr.trans ?_ (Gr.alloc _ _))) kept1 own1); have BM := L1.out.blk)
      first
       | have CA2 := kept_cell kept1 (HB2.out _ _) (NLW.out _ (by simp))
       | have CA2 := kept_cell kept1 (HC2.out _ _) (NLW.out _ (by simp))
       | skip
      have c0 : w1.cell? ⟨g, 0, none⟩ = some (.slice Al L.length cl) := (BM.cell 0).trans rfl
      have c1 : w1.cell? ⟨g, 1, none⟩ = some (.slice As L.length cs) := (BM.cell 1).trans rfl
      have y0 := BM.free 0
      have y1 := BM.free 1
      have hg1 : g < w1.heap.size := BM.lt
      refine hK _ _ (fun _ => ⟨c0, c1⟩) ?_
      clear BM own1 kept1 hK
      go_simp
      refine wR1 (i := 15) (by kernel_rfl) rfl rfl ?_
      intro K hK
      refine wp_pushG (.tmp 40) (.tmp 42) 79 rfl tNums rfl (by first | exact L1.out.s.mono (by repeat (first | exact Gr.refl _ | refine Gr.trans ?_ (Gr.drew _) | refine Gr.trans ?_ (Gr.alloc _ _))) | exact OS.out.mono (by repeat (first | exact Gr.refl _ | refine Gr.trans ?_ (Gr.drew _) | refine Gr.trans ?_ (Gr.alloc _ _)))) _ _ [.int .i64 (q : Int)] rfl rfl (one_int _ _) (one_cells (by first | exact HA2.out _ | exact HB2.out _ _ | exact HC2.out _ _ | exact CA2)) (by omega) ?_
      intro v2 w2 own2 kept2
      obtain ⟨A2, d2, rfl, _⟩ := own2.slice
      first
       | (have M1 := Lib.hid (PutM.ofL (q := q) L1.out (by repeat (first | exact Gr.refl _ | refine Gr.trans ?_ (Gr.drew _) | refine Gr.trans ?_ (Gr.alloc _ _))) kept2 own2); have BM := M1.out.blk)
       | (have R2 := Lib.hid (PutR.of (q := q) H.out (by repeat (first | exact Gr.refl _ | refine Gr.trans ?_ (Gr.drew _) | refine Gr.trans ?_ (Gr.alloc _ _))) kept2 own2); have BM := R2.out.blk)
      first
       | have CA1 := kept_cell kept2 (HB1.out _ _) (NSW.out _ (by simp))
       | have CA1 := kept_cell kept2 (HC1.out _ _) (NSW.out _ (by simp))
       | skip
      have c0 : w2.cell? ⟨g, 0, none⟩ = some (.slice Al L.length cl) := (BM.cell 0).trans rfl
      have c1 : w2.cell? ⟨g, 1, none⟩ = some (.slice As L.length cs) := (BM.cell 1).trans rfl
      have y0 := BM.free 0
      have y1 := BM.free 1
      have hg2 : g < w2.heap.size := BM.lt
      refine hK _ _ (fun _ => ⟨c0, c1⟩) ?_
      clear BM own2 kept2 hK
      go_simp
      refine wR1 (i := 16) (by kernel_rfl) rfl rfl ?_
      intro K hK
      go_simp
      refine hK _ _ (fun _ => ⟨c0, c1⟩) ?_
      clear hK
      go_simp
      refine wR1 (i := 17) (by kernel_rfl) rfl rfl ?_
      intro K hK
      go_simp
      refine hK _ _ (fun _ => ⟨c0, c1⟩) ?_
      clear hK
      go_simp
      refine wR1 (i := 18) (by kernel_rfl) rfl rfl ?_
      intro K hK
      go_simp
      refine hK _ _ (fun h => by cases h) ?_
      clear hK
      go_simp
      refine wR1 (i := 19) (by kernel_rfl) rfl rfl ?_
      intro K hK
      go_simp
      refine hK _ _ (fun h => by cases h) ?_
      clear hK
      go_simp
      refine wR1 (i := 20) (by kernel_rfl) rfl rfl ?_
      intro K hK
      go_simp
      refine hK _ _ (fun h => by cases h) ?_
      clear hK
      go_simp
      refine wR1 (i := 21) (by kernel_rfl) rfl rfl ?_
      intro K hK
      go_simp
      refine hK _ _ (fun h => by cases h) ?_
      clear hK
      go_simp
      refine wpRest_nil (by kernel_rfl) ?_
      obtain ⟨W9, hW9⟩ : ∃ W9, W9 = (w2.setCell ⟨g, 0, none⟩ (.slice A1 (L.length + 1) d1)).setCell ⟨g, 1, none⟩ (.slice A2 (L.length + 1) d2) := ⟨_, rfl⟩
      rw [← hW9]
      have FIN := Lib.hid (put_fin H.out M1.out hW9)
      rw [HQ.out] at FIN
      have c9 : W9.cell? ⟨g, 0, none⟩ = some (.slice A1 (L.length + 1) d1) := (FIN.out.1.blk.cell 0).trans rfl
      have HQ2 := HQ
      clear hW9 c0 c1 y0 y1
      go_wp2_with fail
      go_ret
      exact ⟨ret_int (by simp), _, _, FIN.out.1, FIN.out.2⟩
end
section
open Go.RowKit Go.Maps
theorem lawKey : Keyed Tryz.prog 280 := Keyed.of_law (deep_law_laid (by kernel_rfl) (m := 3) (by decide) (of_decide_eq_true (by kernel_rfl)) (by kernel_rfl) (by kernel_rfl))
def keyV (x : Nd) : Value := .agg #[.int .i64 (x.k : Int), .int .i64 (x.a : Int), .int .i64 (x.b : Int), .string x.s]
def Nd.fits (x : Nd) : Prop := x.k ≤ 9223372036854775807 ∧ x.a ≤ 9223372036854775807 ∧ x.b ≤ 9223372036854775807 ∧ x.s.size ≤ maxLen
theorem wf_nat {n : Nat} (h : n ≤ 9223372036854775807) : (Lit.int .i64 (n : Int)).wf = true := WalkArith.wf_i64 (by omega)
theorem key4_ex {P : Program} {k : TypeId} {f0 f1 f2 f3 : Field} {x0 x1 x2 : Int} {y : ByteArray} (hu : P.underlying k = some (.struct #[f0, f1, f2, f3])) (hk : P.keyType k = true) (hc : P.cellsOf k = 4) (hn : ¬f0.name = "_" ∧ ¬f1.name = "_" ∧ ¬f2.name = "_" ∧ ¬f3.name = "_") (hz : 0 < P.types.size)
 (u0 : P.underlying f0.type = some (.int .i64)) (u1 : P.underlying f1.type = some (.int .i64)) (u2 : P.underlying f2.type = some (.int .i64)) (u3 : P.underlying f3.type = some .string)
 (c0 : P.cellsOf f0.type = 1) (c1 : P.cellsOf f1.type = 1) (c2 : P.cellsOf f2.type = 1) (c3 : P.cellsOf f3.type = 1) (o0 : f0.offset = 0) (o1 : f1.offset = 1) (o2 : f2.offset = 2) (o3 : f3.offset = 3)
 (w0 : (Lit.int .i64 x0).wf = true) (w1 : (Lit.int .i64 x1).wf = true) (w2 : (Lit.int .i64 x2).wf = true) (h : y.size ≤ maxLen) :
 keyOf P k (.agg #[.int .i64 x0, .int .i64 x1, .int .i64 x2, .string y]) = some (.string (keyBytes [.int .i64 x0, .int .i64 x1, .int .i64 x2, .string y.data.toList])) := by
 obtain ⟨d, hd⟩ : ∃ d, P.types.size = d + 1 := ⟨P.types.size - 1, by omega⟩
 unfold keyOf
 simp [hu, hk, Value.formed, hc, Value.cells, Program.keyLits, hd, hn, u0, u1, u2, u3, c0, c1, c2, c3, o0, o1, o2, o3, w0, w1, w2, h]
def kl (x : Nd) : Lit := .string (keyBytes [.int .i64 (x.k : Int), .int .i64 (x.a : Int), .int .i64 (x.b : Int), .string x.s.data.toList])
theorem kl_ok (x : Nd) (h : x.fits) : keyOf Tryz.prog 280 (keyV x) = some (kl x) :=
 key4_ex Tryz.underlying280 (by kernel_rfl) (by kernel_rfl) (by decide) (of_decide_eq_true (by kernel_rfl)) Tryz.underlying3 Tryz.underlying3 Tryz.underlying3 Tryz.underlying9 (by kernel_rfl) (by kernel_rfl) (by kernel_rfl) (by kernel_rfl) rfl rfl rfl rfl (wf_nat h.1) (wf_nat h.2.1) (wf_nat h.2.2.1) h.2.2.2
def Nd.same (x y : Nd) : Bool := decide (x.k = y.k ∧ x.a = y.a ∧ x.b = y.b ∧ x.s = y.s)
theorem kl_inj {x y : Nd} (hx : x.fits) (hy : y.fits) : (kl x = kl y) ↔ x.same y = true := by
 unfold Nd.same
 rw [decide_eq_true_iff]
 constructor
 · intro h
   have h1 := kl_ok x hx
   rw [h] at h1
   have h2 := lawKey.inj h1 (kl_ok y hy)
   unfold keyV at h2
   simp at h2
   exact ⟨by omega, by omega, by omega, h2.2.2.2⟩
 · rintro ⟨h1, h2, h3, h4⟩
   unfold kl
   rw [h1, h2, h3, h4]
def idV (i : Nat) : DataW Value := .held (.int .i64 ((i : Int) + 1))
def keysTo (T : List Nd) : Nat → DataW Value
 | 0 => .map []
 | i + 1 => match T[i]? with
  | none => keysTo T i
  | some x => if x.k = 1 then keysTo T i else (keysTo T i).put (kl x) (idV i)
def findT (T : List Nd) (x : Nd) : Option Nat := T.findIdx? fun y => decide (y.k ≠ 1) && y.same x
theorem kl_key (x : Nd) : WideAt.IsKeyLit (kl x) := by unfold kl; exact trivial
theorem keysTo_map (T : List Nd) : ∀ i, IsMap (keysTo T i)
 | 0 => ⟨[], rfl⟩
 | i + 1 => by
  unfold keysTo
  split
  · exact keysTo_map T i
  · split
    · exact keysTo_map T i
    · exact (keysTo_map T i).put _ _
def Fit' (T : List Nd) : Prop := ∀ x ∈ T, x.fits
theorem keysTo_low (T : List Nd) (x : Nd) : ∀ i, i ≤ T.length → keysTo (T ++ [x]) i = keysTo T i
 | 0, _ => rfl
 | i + 1, h => by
  unfold keysTo
  rw [List.getElem?_append_left (by omega), keysTo_low T x i (by omega)]
theorem keys_has {T : List Nd} (hT : Fit' T) {x : Nd} (hx : x.fits) : ∀ i, i ≤ T.length → has (keysTo T i) (kl x) = (T.take i).any (fun y => decide (y.k ≠ 1) && y.same x)
 | 0, _ => rfl
 | i + 1, h => by
  have hi : i < T.length := by omega
  have hy := List.getElem?_eq_getElem hi
  have hyf := hT T[i] (List.getElem_mem hi)
  rw [List.take_succ_eq_append_getElem hi, List.any_append, ← keys_has hT hx i (by omega)]
  conv => lhs; unfold keysTo
  rw [hy]
  simp only [List.any_cons, List.any_nil, Bool.or_false]
  split
  · rename_i h1
    rw [decide_eq_false (by simpa using h1), Bool.false_and, Bool.or_false]
  · rename_i h1
    rw [decide_eq_true h1, Bool.true_and]
    cases hs : T[i].same x with
    | true =>
     have e := (kl_inj hyf hx).2 hs
     rw [← e, has_put_same (keysTo_map T i) (kl_key _), Bool.or_true]
    | false =>
     rw [has_put_other (fun e => by have := (kl_inj hyf hx).1 e.symm; rw [hs] at this; cases this), Bool.or_false]
theorem keys_at {T : List Nd} (hT : Fit' T) {x : Nd} (hx : x.fits) (z : DataW Value) {j : Nat} {y : Nd} (hj : T[j]? = some y) (hk : y.k ≠ 1) (hs : y.same x = true) : ∀ i, i ≤ T.length → j < i → (∀ j' y', j < j' → j' < i → T[j']? = some y' → y'.k ≠ 1 → y'.same x = false) → (keysTo T i).atKey (kl x) z = idV j
 | 0, _, h, _ => by omega
 | i + 1, h, hji, hu => by
  have hi : i < T.length := by omega
  have hy := List.getElem?_eq_getElem hi
  have hyf := hT T[i] (List.getElem_mem hi)
  conv => lhs; unfold keysTo
  rw [hy]
  simp only
  by_cases e : i = j
  · subst e
    rw [hy] at hj
    cases hj
    rw [if_neg hk, ← (kl_inj hyf hx).2 hs, atKey_put_same (keysTo_map T i) (kl_key _)]
  · have IH := keys_at hT hx z hj hk hs i (by omega) (by omega) (fun j' y' h1 h2 => hu j' y' h1 (by omega))
    split
    · exact IH
    · rename_i h1
      have h2 := hu i T[i] (by omega) (by omega) hy h1
      rw [atKey_put_other (fun e => by have := (kl_inj hyf hx).1 e.symm; rw [h2] at this; cases this)]
      exact IH
def Uniq (T : List Nd) : Prop := ∀ (j j' : Nat) (y y' : Nd), j < j' → T[j]? = some y → T[j']? = some y' → y.k ≠ 1 → y'.k ≠ 1 → y.same y' = false
theorem same_trans {x y z : Nd} (h : x.same z = true) (k : y.same z = true) : x.same y = true := by
 unfold Nd.same at *
 rw [decide_eq_true_iff] at *
 exact ⟨h.1.trans k.1.symm, h.2.1.trans k.2.1.symm, h.2.2.1.trans k.2.2.1.symm, h.2.2.2.trans k.2.2.2.symm⟩
theorem find_yes {T : List Nd} (hT : Fit' T) (hu : Uniq T) {x : Nd} (hx : x.fits) {j : Nat} (h : findT T x = some j) (z : DataW Value) : has (keysTo T T.length) (kl x) = true ∧ (keysTo T T.length).atKey (kl x) z = idV j ∧ j < T.length := by
 unfold findT at h
 rw [List.findIdx?_eq_some_iff_getElem] at h
 obtain ⟨hj, hp, _⟩ := h
 rw [Bool.and_eq_true, decide_eq_true_iff] at hp
 have hjx := List.getElem?_eq_getElem hj
 refine ⟨?_, keys_at hT hx z hjx hp.1 hp.2 T.length (Nat.le_refl _) hj (fun j' y' h1 h2 h3 h4 => ?_), hj⟩
 · rw [keys_has hT hx T.length (Nat.le_refl _), List.take_of_length_le (Nat.le_refl _)]
   exact List.any_eq_true.2 ⟨T[j], List.getElem_mem hj, by rw [hp.2, decide_eq_true hp.1]; rfl⟩
 · rw [Bool.eq_false_iff]
   intro e
   have := hu j j' T[j] y' h1 hjx h3 hp.1 h4
   rw [same_trans hp.2 e] at this
   cases this
theorem find_no {T : List Nd} (hT : Fit' T) {x : Nd} (hx : x.fits) (h : findT T x = none) : has (keysTo T T.length) (kl x) = false := by
 unfold findT at h
 rw [List.findIdx?_eq_none_iff] at h
 rw [keys_has hT hx T.length (Nat.le_refl _), List.take_of_length_le (Nat.le_refl _), List.any_eq_false]
 intro y hy
 have := h y hy
 simpa using this
end
section
open Go.RowKit Go.Maps
def atomsOf (T : List Nd) : Nat := (T.filter fun x => decide (x.k = 1)).length
def mT (w : World) (bm : Nat) (T : List Nd) : Prop := w.ownsMap Tryz.prog 280 Rv bm T.length (keysTo T T.length)
structure TbF (w0 w : World) (g : Nat) (T : List Nd) (vl vs : Value) (bm : Nat) : Prop where
 x : TbX w0 w g (T.map Nd.cell) (sizesL T) (atomsOf T) vl vs bm
 m : mT w bm T
theorem mT.keep {w w' : World} {bm : Nat} {T : List Nd} (h : mT w bm T) (e : w'.heap[bm]? = w.heap[bm]?) : mT w' bm T := by
 obtain ⟨es, clock, hb, r⟩ := h
 exact ⟨es, clock, by rw [e]; exact hb, r⟩
theorem mT.lt {w : World} {bm : Nat} {T : List Nd} (h : mT w bm T) : bm < w.heap.size := by
 obtain ⟨es, clock, hb, r⟩ := h
 exact (Array.getElem?_eq_some_iff.1 hb).1
theorem mT.ne_blk {w : World} {bm g : Nat} {t : TypeId} {cs : List Value} {T : List Nd} (h : mT w bm T) (hb : Blk w g t cs) : bm ≠ g := by
 obtain ⟨es, clock, hm, r⟩ := h
 rintro rfl
 rw [hb] at hm
 cases hm
theorem mT.ne_own {w0 w : World} {bm : Nat} {e : TypeId} {s n : Nat} {v : Value} {xs : List Value} {T : List Nd} (h : mT w bm T) (ho : Own w0 w e s v n xs) : v.ownBlock ≠ some bm := by
 obtain ⟨es, clock, hm, r⟩ := h
 intro hv
 rcases ho.1.2 with ⟨h1, _⟩ | ⟨g', cap, cur, hv', _, hh, _⟩
 · rw [h1] at hv; cases hv
 · have e1 : g' = bm := by rw [hv'] at hv; exact Option.some.inj hv
   rw [e1, hm] at hh
   cases hh
theorem TbX.gr {w0 w w' : World} {g : Nat} {L : List Value} {S : List Nat} {a : Nat} {vl vs : Value} {bm : Nat} (h : TbX w0 w g L S a vl vs bm) (hg : Gr w w') : TbX w0 w' g L S a vl vs bm := ⟨hg.blk h.blk, h.l.mono hg, h.s.mono hg, h.ge, h.gm⟩
theorem TbF.gr {w0 w w' : World} {g : Nat} {T : List Nd} {vl vs : Value} {bm : Nat} (h : TbF w0 w g T vl vs bm) (hg : Gr w w') : TbF w0 w' g T vl vs bm := ⟨h.x.gr hg, h.m.keep (hg.block bm h.m.lt)⟩
theorem TbF.rd {w0 w : World} {g : Nat} {T : List Nd} {vl vs : Value} {bm : Nat} (h : TbF w0 w g T vl vs bm) : TRd w g T := by
 obtain ⟨A, c, e, hs⟩ := h.x.l.slice
 rw [List.length_map] at e hs
 have hb := h.x.blk.cell 0
 exact ⟨A, c, by rw [hb, e]; rfl, hs⟩
structure TChM (w w' : World) (g bm : Nat) (vl vs vl' vs' : Value) : Prop where
 size : w.heap.size ≤ w'.heap.size
 keep : ∀ b, b < w.heap.size → b ≠ g → b ≠ bm → vl.ownBlock ≠ some b → vs.ownBlock ≠ some b → w'.heap[b]? = w.heap[b]?
 ol : ∀ b, vl'.ownBlock = some b → vl.ownBlock = some b ∨ w.heap.size ≤ b
 os : ∀ b, vs'.ownBlock = some b → vs.ownBlock = some b ∨ w.heap.size ≤ b
theorem TChM.gr {w w' : World} {g bm : Nat} {vl vs : Value} (hg : Gr w w') : TChM w w' g bm vl vs vl vs := ⟨hg.size, fun b h1 _ _ _ _ => hg.block b h1, fun b h => .inl h, fun b h => .inl h⟩
theorem TChM.trans {w w' w'' : World} {g bm : Nat} {vl vs vl' vs' vl'' vs'' : Value} (h : TChM w w' g bm vl vs vl' vs') (k : TChM w' w'' g bm vl' vs' vl'' vs'') : TChM w w'' g bm vl vs vl'' vs'' := by
 refine ⟨Nat.le_trans h.size k.size, fun b h1 h2 h3 h4 h5 => ?_, fun b hb => ?_, fun b hb => ?_⟩
 · refine (k.keep b (Nat.lt_of_lt_of_le h1 h.size) h2 h3 (fun e => ?_) (fun e => ?_)).trans (h.keep b h1 h2 h3 h4 h5)
   · rcases h.ol b e with h' | h'
     · exact h4 h'
     · omega
   · rcases h.os b e with h' | h'
     · exact h5 h'
     · omega
 · rcases k.ol b hb with h' | h'
   · exact h.ol b h'
   · exact .inr (Nat.le_trans h.size h')
 · rcases k.os b hb with h' | h'
   · exact h.os b h'
   · exact .inr (Nat.le_trans h.size h')
def putT (T : List Nd) (x : Nd) (ids : List Int) : List Nd × Nat := if ids.any (outside T.length) then (T, 0) else match findT T x with
 | some j => (T, j + 1)
 | none => (T ++ [x], T.length + 1)
def RetT (w0 w : World) (g bm : Nat) (vl vs : Value) (r : List Nd × Nat) (e : Ending) (w' : World) : Prop :=
 ∃ vl' vs', e = .returned (.int .i64 (r.2 : Int)) ∧ TbF w0 w' g r.1 vl' vs' bm ∧ TChM w w' g bm vl vs vl' vs'
theorem zInt (w : World) : (zeroValue 3).run Tryz.prog w = .ok (.int .i64 0) w := by kernel_rfl
theorem rv_inv {v : Value} {d : DataW Value} {ps : List MemPlace} (h : Rv v = some (d, ps)) : d = .held v := by
 unfold Rv at h
 injection h with h
 injection h with h1 h2
 exact h1.symm
set_option maxRecDepth 100000 in
theorem look_any {w : World} {bm : Nat} {T : List Nd} (h : mT w bm T) (x : Nd) (hx : x.fits) : ∀ v, (keysTo T T.length).atKey (kl x) (.held (.int .i64 0)) = .held v → (Instr.lookup 100 (.map (some bm)) (keyV x) true).run Tryz.prog w = .ok (.tuple #[v, .bool (has (keysTo T T.length) (kl x))]) w := by
 intro v hv
 obtain ⟨v', ps, hrun, hR⟩ := World.ownsMap.look_ok (zd := .held (.int .i64 0)) (zp := []) h lawKey Tryz.underlying100 (zInt w) rfl (kl_ok x hx)
 have := rv_inv hR
 rw [hv] at this
 injection this with this
 rw [this]
 exact hrun
def Nd.known (x : Nd) : Prop := 2 ≤ x.k ∧ x.k ≤ 5
theorem cell_iface (x : Nd) : ∃ ty xv, x.cell = .iface ty xv := by
 unfold Nd.cell
 split
 · exact ⟨_, _, rfl⟩
 · split
   · exact ⟨_, _, rfl⟩
   · split
     · exact ⟨_, _, rfl⟩
     · split <;> exact ⟨_, _, rfl⟩
theorem keysTo_snoc (T : List Nd) (x : Nd) (hk : x.k ≠ 1) : keysTo (T ++ [x]) (T ++ [x]).length = (keysTo T T.length).put (kl x) (idV T.length) := by
 rw [List.length_append]
 show keysTo (T ++ [x]) (T.length + 1) = _
 conv => lhs; unfold keysTo
 rw [List.getElem?_append_right (Nat.le_refl _), Nat.sub_self]
 simp only [List.getElem?_cons_zero, if_neg hk]
 rw [keysTo_low T x T.length (Nat.le_refl _)]
theorem atoms_snoc (T : List Nd) (x : Nd) (hk : x.k ≠ 1) : atomsOf (T ++ [x]) = atomsOf T := by
 unfold atomsOf
 rw [List.filter_append]
 simp [hk]
theorem TChM.of {w w' : World} {g bm : Nat} {vl vs vl' vs' : Value} (h : TChg w w' g vl vs vl' vs') : TChM w w' g bm vl vs vl' vs' := ⟨h.size, fun b h1 h2 _ h3 h4 => h.keep b h1 h2 h3 h4, h.ol, h.os⟩
theorem found_fin {w0 w w2 w3 w5 w6 w7 : World} {g bm : Nat} {T : List Nd} {vl vs vl' vs' : Value} {x : Nd} {ty : TypeId} {xv : Value} (h : TbF w0 w g T vl vs bm) (hk : x.known) (hc : x.cell = .iface ty xv) (g2 : Gr w w2)
 (h3 : TbX w0 w3 g (T.map Nd.cell ++ [.iface ty xv]) (sizesL T ++ [sizeOf' (sizesL T) x.parts]) (atomsOf T) vl' vs' bm) (c3 : TChg w2 w3 g vl vs vl' vs') (m3 : mT w3 bm T) (g5 : Gr w3 w5)
 (m6 : w6.ownsMap Tryz.prog 280 Rv bm (T.length + 1) ((keysTo T T.length).put (kl x) (idV T.length))) (hg6 : w5.grownBy w6 (some bm)) (g7 : Gr w6 w7) :
 TbF w0 w7 g (T ++ [x]) vl' vs' bm ∧ TChM w w7 g bm vl vs vl' vs' := by
 have hk1 : x.k ≠ 1 := by have := hk.1; omega
 have x5 := h3.gr g5
 have m5 : mT w5 bm T := m3.keep (g5.block bm m3.lt)
 have hb6 : Below w0.heap.size w0 w6 := x5.l.below.grown hg6 x5.l.below.size (fun k hk => by cases hk; exact h3.gm)
 have ho6 : ∀ b, b < w5.heap.size → b ≠ bm → w6.heap[b]? = w5.heap[b]? := fun b h1 h2 => hg6.block b h1 (fun e => h2 (by injection e))
 have x6 : TbX w0 w6 g (T.map Nd.cell ++ [.iface ty xv]) (sizesL T ++ [sizeOf' (sizesL T) x.parts]) (atomsOf T) vl' vs' bm :=
  ⟨(ho6 g x5.blk.lt (fun e => m5.ne_blk x5.blk e.symm)).trans x5.blk, x5.l.keepN hb6 (fun b hb => ho6 b (x5.l.1.lt b hb).2 (fun e => m5.ne_own x5.l (by rw [hb, e]))), x5.s.keepN hb6 (fun b hb => ho6 b (x5.s.1.lt b hb).2 (fun e => m5.ne_own x5.s (by rw [hb, e]))), h3.ge, h3.gm⟩
 have m6' : mT w6 bm (T ++ [x]) := by
  unfold mT
  rw [keysTo_snoc T x hk1, List.length_append]
  exact m6
 have f6 : TbF w0 w6 g (T ++ [x]) vl' vs' bm := by
  refine ⟨?_, m6'⟩
  rw [List.map_append, sizesL_snoc, atoms_snoc T x hk1]
  show TbX w0 w6 g (T.map Nd.cell ++ [x.cell]) _ _ vl' vs' bm
  rw [hc]
  exact x6
 have c6 : TChM w5 w6 g bm vl' vs' vl' vs' := ⟨hg6.size, fun b h1 _ h3 _ _ => ho6 b h1 h3, fun b h => .inl h, fun b h => .inl h⟩
 exact ⟨f6.gr g7, ((((TChM.gr g2).trans (TChM.of c3)).trans (TChM.gr g5)).trans c6).trans (TChM.gr g7)⟩
set_option maxRecDepth 100000 in
set_option maxHeartbeats 2000000 in
theorem found_any (w0 : World) (g : Nat) (T : List Nd) (vl vs : Value) (bm : Nat) (x : Nd) (A : Option Addr) (m c : Nat) (w : World) (h : TbF w0 w g T vl vs bm) (hT : Fit' T) (hu : Uniq T) (hx : x.fits) (hk : x.known) (hP : Is w A m c (x.parts.map Int.ofNat)) (hn : T.length ≤ 1000) :
 Calls Tryz.prog 233 #[.pointer (some ⟨g, 0, none⟩), keyV x, x.cell, .slice A m c] w (RetT w0 w g bm vl vs (putT T x (x.parts.map Int.ofNat))) := by
 obtain ⟨ty, xv, hcell⟩ := cell_iface x
 obtain ⟨W, hW⟩ : ∃ W, W = w.alloc (.cells #[.int .i64 (x.k : Int), .int .i64 (x.a : Int), .int .i64 (x.b : Int), .string x.s] 280) := ⟨_, rfl⟩
 have hg : Gr w W := by rw [hW]; exact Gr.alloc _ _
 have hb : Blk W w.heap.size 280 [.int .i64 (x.k : Int), .int .i64 (x.a : Int), .int .i64 (x.b : Int), .string x.s] := by rw [hW]; exact Blk.new w _ _
 have HTH := Lib.hid (there_any g T.length A m c _ W (h.rd.mono hg).len (hP.mono hg))
 have H := Lib.hid h; have HG := Lib.hid hg; have HB := Lib.hid hb; have HW := Lib.hid hW; have HP := Lib.hid hP; have HC := Lib.hid hcell
 unfold putT keyV
 rw [hcell]
 clear h hg hb hW hP hcell
 cases ho : (x.parts.map Int.ofNat).any (outside T.length) with
 | true =>
  rw [ho] at HTH
  clear ho
  go_enter Tryz.func233, Tryz.ntmps233
  go_wp2_with fail
  rw [← HW.out]
  refine HTH.out.mono ?_
  rintro e w1 ⟨rfl, g1⟩
  have G1 := Lib.hid (HG.out.trans g1); clear g1
  go_wp2_with fail
  go_ret
  exact ⟨vl, vs, rfl, H.out.gr G1.out, TChM.gr G1.out⟩
 | false =>
  rw [ho] at HTH
  have HO := Lib.hid ho; clear ho
  obtain ⟨v, hv⟩ : ∃ v, (keysTo T T.length).atKey (kl x) (.held (.int .i64 0)) = .held v := by
   obtain ⟨v', ps, _, hR⟩ := World.ownsMap.look_ok (zd := .held (.int .i64 0)) (zp := []) H.out.m lawKey Tryz.underlying100 (zInt w) rfl (kl_ok x hx)
   exact ⟨v', rv_inv hR⟩
  have HV := Lib.hid hv
  have HLK : Hid (∀ wq, Gr w wq → (Instr.lookup 100 (.map (some bm)) (.agg #[.int .i64 (x.k : Int), .int .i64 (x.a : Int), .int .i64 (x.b : Int), .string x.s]) true).run Tryz.prog wq = .ok (.tuple #[v, .bool (has (keysTo T T.length) (kl x))]) wq) := fun wq hq => look_any (H.out.gr hq).m x hx v hv
  have HBK : Hid (∀ wq, Gr w wq → wq.cell? ⟨g, 2, none⟩ = some (.map (some bm))) := fun wq hq => (H.out.gr hq).x.blk.cell 2
  have HKC : Hid (∀ wq, Gr W wq → wq.cell? ⟨w.heap.size, 0, none⟩ = some (.int .i64 (x.k : Int)) ∧ wq.cell? ⟨w.heap.size, 1, none⟩ = some (.int .i64 (x.a : Int)) ∧ wq.cell? ⟨w.heap.size, 2, none⟩ = some (.int .i64 (x.b : Int)) ∧ wq.cell? ⟨w.heap.size, 3, none⟩ = some (.string x.s)) := fun wq hq => ⟨(hq.blk HB.out).cell 0, (hq.blk HB.out).cell 1, (hq.blk HB.out).cell 2, (hq.blk HB.out).cell 3⟩
  have HXF := Lib.hid hx; have HTF := Lib.hid hT; have HU := Lib.hid hu; have HKN := Lib.hid hk
  clear hv hx hT hu hk
  cases hf : findT T x with
  | some j =>
   obtain ⟨f1, f2, f3⟩ := find_yes HTF.out HU.out HXF.out hf (.held (.int .i64 0))
   have hv2 : v = .int .i64 ((j : Int) + 1) := by
    have := HV.out
    rw [f2] at this
    unfold idV at this
    injection this with this
    exact this.symm
   subst hv2
   rw [f1] at HLK
   clear f1 f2 f3 hf
   go_enter Tryz.func233, Tryz.ntmps233
   go_wp2_with fail
   rw [← HW.out]
   refine HTH.out.mono ?_
   rintro e w1 ⟨rfl, g1⟩
   have G1 := Lib.hid g1; clear g1
   go_upto_region 3 with fail
   refine wrG (by kernel_rfl) [0, 1, 3, 7, 0, 31, 63, 127, 127, 255, 1023] [.p 0, .p 1, .p 2, .q 3, .q 4, .q 5, .p 6, .p 7, .p 8, .p 9, .p 10] (by kernel_rfl) (trivial) ?_
   have GD : Hid (Gr W w1.drew) := G1.out.trans (Gr.drew _)
   iterate 3
    refine wPe rfl rfl ?_
    apply Exists.intro
    refine ⟨fun wq => ?_, ?_⟩
    · unfold pLa
      go_simp
      first | exact rfl | exact ⟨rfl, rfl⟩
    go_simp
   refine wQe rfl rfl ?_
   apply Exists.intro
   refine ⟨fun wq hq => ?_, ?_⟩
   · have z0 := HBK.out wq (HG.out.trans (GD.out.trans hq))
     unfold pLa
     go_simp
     first | exact rfl | exact ⟨rfl, rfl⟩
   go_simp
   refine wQe rfl rfl ?_
   apply Exists.intro
   refine ⟨fun wq hq => ?_, ?_⟩
   · obtain ⟨z0, z1, z2, z3⟩ := HKC.out wq (GD.out.trans hq)
     unfold pLa
     go_simp
     first | exact rfl | exact ⟨rfl, rfl⟩
   go_simp
   refine wQe rfl rfl ?_
   apply Exists.intro
   refine ⟨fun wq hq => ?_, ?_⟩
   · have z0 := HLK.out wq (HG.out.trans (GD.out.trans hq))
     unfold pLa
     go_simp
     first | exact rfl | exact ⟨rfl, rfl⟩
   go_simp
   iterate 5
    refine wPe rfl rfl ?_
    apply Exists.intro
    refine ⟨fun wq => ?_, ?_⟩
    · unfold pLa
      go_simp
      first | exact rfl | exact ⟨rfl, rfl⟩
    go_simp
   refine wNi ?_
   intro w2 g2
   have G2 := Lib.hid (GD.out.trans g2); clear g2
   go_wp2_with fail
   go_ret
   exact ⟨vl, vs, rfl, H.out.gr (HG.out.trans G2.out), TChM.gr (HG.out.trans G2.out)⟩
  | none =>
   have f1 := find_no HTF.out HXF.out hf
   rw [f1] at HLK
   clear f1
   have HPUT : Hid (∀ wq, Gr w wq → Calls Tryz.prog 150 #[.pointer (some ⟨g, 0, none⟩), .iface ty xv, .slice A m c] wq fun e w' => e = .returned (.int .i64 (((T.map Nd.cell).length + 1 : Nat) : Int)) ∧ ∃ vl' vs', TbX w0 w' g (T.map Nd.cell ++ [.iface ty xv]) (sizesL T ++ [sizeOf' (sizesL T) x.parts]) (atomsOf T) vl' vs' bm ∧ TChg wq w' g vl vs vl' vs') := fun wq hq =>
    termPut_any w0 g _ _ _ vl vs bm ty xv A m c x.parts wq (H.out.gr hq).x (by rw [sizesL_len, List.length_map]) (sizesL_small T) (HP.out.mono hq) (fun p hp => by
     have := HO.out
     rw [List.any_eq_false] at this
     have := this (Int.ofNat p) (List.mem_map_of_mem hp)
     unfold outside at this
     simp at this
     rw [List.length_map]
     omega) (by rw [List.length_map]; omega)
   go_enter Tryz.func233, Tryz.ntmps233
   go_wp2_with fail
   rw [← HW.out]
   refine HTH.out.mono ?_
   rintro e w1 ⟨rfl, g1⟩
   have G1 := Lib.hid g1; clear g1
   go_upto_region 3 with fail
   refine wrG (by kernel_rfl) [0, 1, 3, 7, 0, 31, 63, 127, 127, 255, 1023] [.p 0, .p 1, .p 2, .q 3, .q 4, .q 5, .p 6, .p 7, .p 8, .p 9, .p 10] (by kernel_rfl) (trivial) ?_
   have GD : Hid (Gr W w1.drew) := G1.out.trans (Gr.drew _)
   iterate 3
    refine wPe rfl rfl ?_
    apply Exists.intro
    refine ⟨fun wq => ?_, ?_⟩
    · unfold pLa
      go_simp
      first | exact rfl | exact ⟨rfl, rfl⟩
    go_simp
   refine wQe rfl rfl ?_
   apply Exists.intro
   refine ⟨fun wq hq => ?_, ?_⟩
   · have z0 := HBK.out wq (HG.out.trans (GD.out.trans hq))
     unfold pLa
     go_simp
     first | exact rfl | exact ⟨rfl, rfl⟩
   go_simp
   refine wQe rfl rfl ?_
   apply Exists.intro
   refine ⟨fun wq hq => ?_, ?_⟩
   · obtain ⟨z0, z1, z2, z3⟩ := HKC.out wq (GD.out.trans hq)
     unfold pLa
     go_simp
     first | exact rfl | exact ⟨rfl, rfl⟩
   go_simp
   refine wQe rfl rfl ?_
   apply Exists.intro
   refine ⟨fun wq hq => ?_, ?_⟩
   · have z0 := HLK.out wq (HG.out.trans (GD.out.trans hq))
     unfold pLa
     go_simp
     first | exact rfl | exact ⟨rfl, rfl⟩
   go_simp
   iterate 5
    refine wPe rfl rfl ?_
    apply Exists.intro
    refine ⟨fun wq => ?_, ?_⟩
    · unfold pLa
      go_simp
      first | exact rfl | exact ⟨rfl, rfl⟩
    go_simp
   refine wNi ?_
   intro w2 g2
   have G2 := Lib.hid (GD.out.trans g2); clear g2
   have HLW : Hid (∀ b, (vl.ownBlock = some b ∨ vs.ownBlock = some b ∨ b = g ∨ b = bm) → b < w.heap.size) := fun b h => by
    rcases h with h | h | h | h
    · exact (H.out.x.l.1.lt b h).2
    · exact (H.out.x.s.1.lt b h).2
    · rw [h]; exact H.out.x.blk.lt
    · rw [h]; exact H.out.m.lt
   have HZW : Hid (w.heap.size < W.heap.size) := HB.out.lt
   go_wp2_with fail
   refine (HPUT.out w2 (HG.out.trans G2.out)).mono ?_
   rintro e w3 ⟨rfl, vl', vs', tb3, ch3⟩
   have TB3 := Lib.hid tb3; have CH3 := Lib.hid ch3
   have hm2 := (H.out.gr (HG.out.trans G2.out))
   have M3 : Hid (mT w3 bm T) := hm2.m.keep (ch3.keep bm hm2.m.lt (hm2.m.ne_blk hm2.x.blk) (hm2.m.ne_own hm2.x.l) (hm2.m.ne_own hm2.x.s))
   have KB3 : Hid (Blk w3 w.heap.size 280 [.int .i64 (x.k : Int), .int .i64 (x.a : Int), .int .i64 (x.b : Int), .string x.s]) := by
    have hb2 := G2.out.blk HB.out
    exact (ch3.keep w.heap.size hb2.lt (fun e => by have := HLW.out g (.inr (.inr (.inl rfl))); omega) (fun e => by have := HLW.out _ (.inl e); omega) (fun e => by have := HLW.out _ (.inr (.inl e)); omega)).trans hb2
   have HMC3 : Hid (∀ wq, Gr w3 wq → wq.cell? ⟨g, 2, none⟩ = some (.map (some bm))) := fun wq hq => (hq.blk TB3.out.blk).cell 2
   have HKC3 : Hid (∀ wq, Gr w3 wq → wq.cell? ⟨w.heap.size, 0, none⟩ = some (.int .i64 (x.k : Int)) ∧ wq.cell? ⟨w.heap.size, 1, none⟩ = some (.int .i64 (x.a : Int)) ∧ wq.cell? ⟨w.heap.size, 2, none⟩ = some (.int .i64 (x.b : Int)) ∧ wq.cell? ⟨w.heap.size, 3, none⟩ = some (.string x.s)) := fun wq hq => ⟨(hq.blk KB3.out).cell 0, (hq.blk KB3.out).cell 1, (hq.blk KB3.out).cell 2, (hq.blk KB3.out).cell 3⟩
   have hlm : (T.map Nd.cell).length = T.length := List.length_map ..
   rw [hlm]
   clear tb3 ch3 hm2 hlm
   go_upto_region 6 with fail
   refine wrG (by kernel_rfl) [0, 1, 3, 7, 0, 0, 63] [.p 0, .p 1, .p 2, .p 5, .q 3, .q 4, .s 6] (by kernel_rfl) (trivial) ?_
   iterate 4
    refine wPe rfl rfl ?_
    apply Exists.intro
    refine ⟨fun wq => ?_, ?_⟩
    · unfold pLa
      go_simp
      first | exact rfl | exact ⟨rfl, rfl⟩
    go_simp
   refine wQe rfl rfl ?_
   apply Exists.intro
   refine ⟨fun wq hq => ?_, ?_⟩
   · have z0 := HMC3.out wq ((Gr.drew _).trans hq)
     unfold pLa
     go_simp
     first | exact rfl | exact ⟨rfl, rfl⟩
   go_simp
   refine wQe rfl rfl ?_
   apply Exists.intro
   refine ⟨fun wq hq => ?_, ?_⟩
   · obtain ⟨z0, z1, z2, z3⟩ := HKC3.out wq ((Gr.drew _).trans hq)
     unfold pLa
     go_simp
     first | exact rfl | exact ⟨rfl, rfl⟩
   go_simp
   refine wpG_s rfl rfl ?_
   intro w5 g5 K hK
   have G5 := Lib.hid ((Gr.drew w3).trans g5); clear g5
   have hm5 : mT w5 bm T := M3.out.keep (G5.out.block bm M3.out.lt)
   obtain ⟨w6, hrun, hm6, hgr6⟩ := World.ownsMap.update (R := Rv) (val := .int .i64 ((T.length : Int) + 1)) (d := idV T.length) (ps := []) hm5 lawKey Tryz.underlying100 (by unfold maxLen; omega) (kl_ok x HXF.out) rfl
   unfold keyV at hrun
   have HM6 := Lib.hid hm6; have HG6 := Lib.hid hgr6; clear hm5 hm6 hgr6
   go_simp
   refine hK _ _ ?_
   clear hK hrun
   go_simp
   refine wNi ?_
   intro w7 g7
   have FIN := Lib.hid (found_fin H.out HKN.out HC.out (HG.out.trans G2.out) TB3.out CH3.out M3.out G5.out HM6.out HG6.out g7)
   clear g7
   go_wp2_with fail
   go_ret
   exact ⟨vl', vs', ret_int (by simp), FIN.out.1, FIN.out.2⟩
end
end Go.Proofs.YtdkmlmbehlooiaaGreatDoor
