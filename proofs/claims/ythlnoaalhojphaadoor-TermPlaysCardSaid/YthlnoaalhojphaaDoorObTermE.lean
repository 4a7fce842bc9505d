/- The program's table of terms in memory: the one that is there, or one that comes to be. No condition. -/
import Derived.Test.YthlnoaalhojphaaDoorObTermD
namespace Go.Proofs.YthlnoaalhojphaaDoor
open Go.RowKit Go.Maps
set_option linter.unusedVariables false

def atomsOf (T : List Nd) : Nat := (T.filter fun x => decide (x.k = 1)).length
def mT (w : World) (bm : Nat) (T : List Nd) : Prop := w.ownsMap Tryd.prog 105 Rv bm T.length (keysTo T T.length)
/-- The whole table. -/
structure TbF (w0 w : World) (g : Nat) (T : List Nd) (vl vs : Value) (bm : Nat) : Prop where
  x : TbX w0 w g (T.map Nd.cell) (sizesL T) (atomsOf T) vl vs bm
  m : mT w bm T
theorem mT.keep {w w' : World} {bm : Nat} {T : List Nd} (h : mT w bm T) (e : w'.heap[bm]? = w.heap[bm]?) : mT w' bm T := by
  obtain ⟨es, clock, hb, r⟩ := h
  exact ⟨es, clock, by rw [e]; exact hb, r⟩
theorem mT.lt {w : World} {bm : Nat} {T : List Nd} (h : mT w bm T) : bm < w.heap.size := by
  obtain ⟨es, clock, hb, r⟩ := h
  exact (Array.getElem?_eq_some_iff.1 hb).1
theorem mT.ne_blk {w : World} {bm g : Nat} {t : TypeId} {cs : List Value} {T : List Nd} (h : mT w bm T) (hb : Blk w g t cs) : bm ≠ g := by
  obtain ⟨es, clock, hm, r⟩ := h
  rintro rfl
  rw [hb] at hm
  cases hm
theorem mT.ne_own {w0 w : World} {bm : Nat} {e : TypeId} {s n : Nat} {v : Value} {xs : List Value} {T : List Nd} (h : mT w bm T) (ho : Own w0 w e s v n xs) : v.ownBlock ≠ some bm := by
  obtain ⟨es, clock, hm, r⟩ := h
  intro hv
  rcases ho.1.2 with ⟨h1, _⟩ | ⟨g', cap, cur, hv', _, hh, _⟩
  · rw [h1] at hv; cases hv
  · have e1 : g' = bm := by rw [hv'] at hv; exact Option.some.inj hv
    rw [e1, hm] at hh
    cases hh
theorem TbX.gr {w0 w w' : World} {g : Nat} {L : List Value} {S : List Nat} {a : Nat} {vl vs : Value} {bm : Nat} (h : TbX w0 w g L S a vl vs bm) (hg : Gr w w') : TbX w0 w' g L S a vl vs bm := ⟨hg.blk h.blk, h.l.mono hg, h.s.mono hg, h.ge, h.gm⟩
theorem TbF.gr {w0 w w' : World} {g : Nat} {T : List Nd} {vl vs : Value} {bm : Nat} (h : TbF w0 w g T vl vs bm) (hg : Gr w w') : TbF w0 w' g T vl vs bm := ⟨h.x.gr hg, h.m.keep (hg.block bm h.m.lt)⟩
theorem TbF.rd {w0 w : World} {g : Nat} {T : List Nd} {vl vs : Value} {bm : Nat} (h : TbF w0 w g T vl vs bm) : TRd w g T := by
  obtain ⟨A, c, e, hs⟩ := h.x.l.slice
  rw [List.length_map] at e hs
  have hb := h.x.blk.cell 0
  exact ⟨A, c, by rw [hb, e]; rfl, hs⟩
/-- What a change has turned, the map's block with it. -/
structure TChM (w w' : World) (g bm : Nat) (vl vs vl' vs' : Value) : Prop where
  size : w.heap.size ≤ w'.heap.size
  keep : ∀ b, b < w.heap.size → b ≠ g → b ≠ bm → vl.ownBlock ≠ some b → vs.ownBlock ≠ some b → w'.heap[b]? = w.heap[b]?
  ol : ∀ b, vl'.ownBlock = some b → vl.ownBlock = some b ∨ w.heap.size ≤ b
  os : ∀ b, vs'.ownBlock = some b → vs.ownBlock = some b ∨ w.heap.size ≤ b
theorem TChM.gr {w w' : World} {g bm : Nat} {vl vs : Value} (hg : Gr w w') : TChM w w' g bm vl vs vl vs := ⟨hg.size, fun b h1 _ _ _ _ => hg.block b h1, fun b h => .inl h, fun b h => .inl h⟩
theorem TChM.trans {w w' w'' : World} {g bm : Nat} {vl vs vl' vs' vl'' vs'' : Value} (h : TChM w w' g bm vl vs vl' vs') (k : TChM w' w'' g bm vl' vs' vl'' vs'') : TChM w w'' g bm vl vs vl'' vs'' := by
  refine ⟨Nat.le_trans h.size k.size, fun b h1 h2 h3 h4 h5 => ?_, fun b hb => ?_, fun b hb => ?_⟩
  · refine (k.keep b (Nat.lt_of_lt_of_le h1 h.size) h2 h3 (fun e => ?_) (fun e => ?_)).trans (h.keep b h1 h2 h3 h4 h5)
    · rcases h.ol b e with h' | h'
      · exact h4 h'
      · omega
    · rcases h.os b e with h' | h'
      · exact h5 h'
      · omega
  · rcases k.ol b hb with h' | h'
    · exact h.ol b h'
    · exact .inr (Nat.le_trans h.size h')
  · rcases k.os b hb with h' | h'
    · exact h.os b h'
    · exact .inr (Nat.le_trans h.size h')
def putT (T : List Nd) (x : Nd) (ids : List Int) : List Nd × Nat := if ids.any (outside T.length) then (T, 0) else match findT T x with
  | some j => (T, j + 1)
  | none => (T ++ [x], T.length + 1)
/-- An id; the table then. -/
def RetT (w0 w : World) (g bm : Nat) (vl vs : Value) (r : List Nd × Nat) (e : Ending) (w' : World) : Prop :=
  ∃ vl' vs', e = .returned (.int .i64 (r.2 : Int)) ∧ TbF w0 w' g r.1 vl' vs' bm ∧ TChM w w' g bm vl vs vl' vs'
theorem zInt (w : World) : (zeroValue 3).run Tryd.prog w = .ok (.int .i64 0) w := by kernel_rfl
theorem rv_inv {v : Value} {d : DataW Value} {ps : List MemPlace} (h : Rv v = some (d, ps)) : d = .held v := by
  unfold Rv at h
  injection h with h
  injection h with h1 h2
  exact h1.symm
set_option maxRecDepth 100000 in
/-- What a term's key finds. -/
theorem look_any {w : World} {bm : Nat} {T : List Nd} (h : mT w bm T) (x : Nd) (hx : x.fits) : ∀ v, (keysTo T T.length).atKey (kl x) (.held (.int .i64 0)) = .held v → (Instr.lookup 78 (.map (some bm)) (keyV x) true).run Tryd.prog w = .ok (.tuple #[v, .bool (has (keysTo T T.length) (kl x))]) w := by
  intro v hv
  obtain ⟨v', ps, hrun, hR⟩ := World.ownsMap.look_ok (zd := .held (.int .i64 0)) (zp := []) h lawKey Tryd.underlying78 (zInt w) rfl (kl_ok x hx)
  have := rv_inv hR
  rw [hv] at this
  injection this with this
  rw [this]
  exact hrun
def Nd.known (x : Nd) : Prop := 2 ≤ x.k ∧ x.k ≤ 5
theorem cell_iface (x : Nd) : ∃ ty xv, x.cell = .iface ty xv := by
  unfold Nd.cell
  split
  · exact ⟨_, _, rfl⟩
  · split
    · exact ⟨_, _, rfl⟩
    · split
      · exact ⟨_, _, rfl⟩
      · split <;> exact ⟨_, _, rfl⟩
theorem keysTo_snoc (T : List Nd) (x : Nd) (hk : x.k ≠ 1) : keysTo (T ++ [x]) (T ++ [x]).length = (keysTo T T.length).put (kl x) (idV T.length) := by
  rw [List.length_append]
  show keysTo (T ++ [x]) (T.length + 1) = _
  conv => lhs; unfold keysTo
  rw [List.getElem?_append_right (Nat.le_refl _), Nat.sub_self]
  simp only [List.getElem?_cons_zero, if_neg hk]
  rw [keysTo_low T x T.length (Nat.le_refl _)]
theorem atoms_snoc (T : List Nd) (x : Nd) (hk : x.k ≠ 1) : atomsOf (T ++ [x]) = atomsOf T := by
  unfold atomsOf
  rw [List.filter_append]
  simp [hk]
theorem TChM.of {w w' : World} {g bm : Nat} {vl vs vl' vs' : Value} (h : TChg w w' g vl vs vl' vs') : TChM w w' g bm vl vs vl' vs' := ⟨h.size, fun b h1 h2 _ h3 h4 => h.keep b h1 h2 h3 h4, h.ol, h.os⟩
theorem found_fin {w0 w w2 w3 w5 w6 w7 : World} {g bm : Nat} {T : List Nd} {vl vs vl' vs' : Value} {x : Nd} {ty : TypeId} {xv : Value} (h : TbF w0 w g T vl vs bm) (hk : x.known) (hc : x.cell = .iface ty xv) (g2 : Gr w w2)
    (h3 : TbX w0 w3 g (T.map Nd.cell ++ [.iface ty xv]) (sizesL T ++ [sizeOf' (sizesL T) x.parts]) (atomsOf T) vl' vs' bm) (c3 : TChg w2 w3 g vl vs vl' vs') (m3 : mT w3 bm T) (g5 : Gr w3 w5)
    (m6 : w6.ownsMap Tryd.prog 105 Rv bm (T.length + 1) ((keysTo T T.length).put (kl x) (idV T.length))) (hg6 : w5.grownBy w6 (some bm)) (g7 : Gr w6 w7) :
    TbF w0 w7 g (T ++ [x]) vl' vs' bm ∧ TChM w w7 g bm vl vs vl' vs' := by
  have hk1 : x.k ≠ 1 := by have := hk.1; omega
  have x5 := h3.gr g5
  have m5 : mT w5 bm T := m3.keep (g5.block bm m3.lt)
  have hb6 : Below w0.heap.size w0 w6 := x5.l.below.grown hg6 x5.l.below.size (fun k hk => by cases hk; exact h3.gm)
  have ho6 : ∀ b, b < w5.heap.size → b ≠ bm → w6.heap[b]? = w5.heap[b]? := fun b h1 h2 => hg6.block b h1 (fun e => h2 (by injection e))
  have x6 : TbX w0 w6 g (T.map Nd.cell ++ [.iface ty xv]) (sizesL T ++ [sizeOf' (sizesL T) x.parts]) (atomsOf T) vl' vs' bm :=
    ⟨(ho6 g x5.blk.lt (fun e => m5.ne_blk x5.blk e.symm)).trans x5.blk, x5.l.keepN hb6 (fun b hb => ho6 b (x5.l.1.lt b hb).2 (fun e => m5.ne_own x5.l (by rw [hb, e]))), x5.s.keepN hb6 (fun b hb => ho6 b (x5.s.1.lt b hb).2 (fun e => m5.ne_own x5.s (by rw [hb, e]))), h3.ge, h3.gm⟩
  have m6' : mT w6 bm (T ++ [x]) := by
    unfold mT
    rw [keysTo_snoc T x hk1, List.length_append]
    exact m6
  have f6 : TbF w0 w6 g (T ++ [x]) vl' vs' bm := by
    refine ⟨?_, m6'⟩
    rw [List.map_append, sizesL_snoc, atoms_snoc T x hk1]
    show TbX w0 w6 g (T.map Nd.cell ++ [x.cell]) _ _ vl' vs' bm
    rw [hc]
    exact x6
  have c6 : TChM w5 w6 g bm vl' vs' vl' vs' := ⟨hg6.size, fun b h1 _ h3 _ _ => ho6 b h1 h3, fun b h => .inl h, fun b h => .inl h⟩
  exact ⟨f6.gr g7, ((((TChM.gr g2).trans (TChM.of c3)).trans (TChM.gr g5)).trans c6).trans (TChM.gr g7)⟩
set_option maxRecDepth 100000 in
set_option maxHeartbeats 2000000 in
theorem found_any (w0 : World) (g : Nat) (T : List Nd) (vl vs : Value) (bm : Nat) (x : Nd) (A : Option Addr) (m c : Nat) (w : World) (h : TbF w0 w g T vl vs bm) (hT : Fit' T) (hu : Uniq T) (hx : x.fits) (hk : x.known) (hP : Is w A m c (x.parts.map Int.ofNat)) (hn : T.length ≤ 1000) :
    Calls Tryd.prog 51 #[.pointer (some ⟨g, 0, none⟩), keyV x, x.cell, .slice A m c] w (RetT w0 w g bm vl vs (putT T x (x.parts.map Int.ofNat))) := by
  obtain ⟨ty, xv, hcell⟩ := cell_iface x
  obtain ⟨W, hW⟩ : ∃ W, W = w.alloc (.cells #[.int .i64 (x.k : Int), .int .i64 (x.a : Int), .int .i64 (x.b : Int), .string x.s] 105) := ⟨_, rfl⟩
  have hg : Gr w W := by rw [hW]; exact Gr.alloc _ _
  have hb : Blk W w.heap.size 105 [.int .i64 (x.k : Int), .int .i64 (x.a : Int), .int .i64 (x.b : Int), .string x.s] := by rw [hW]; exact Blk.new w _ _
  have HTH := Lib.hid (there_any g T.length A m c _ W (h.rd.mono hg).len (hP.mono hg))
  have H := Lib.hid h; have HG := Lib.hid hg; have HB := Lib.hid hb; have HW := Lib.hid hW; have HP := Lib.hid hP; have HC := Lib.hid hcell
  unfold putT keyV
  rw [hcell]
  clear h hg hb hW hP hcell
  cases ho : (x.parts.map Int.ofNat).any (outside T.length) with
  | true =>
    rw [ho] at HTH
    clear ho
    go_enter Tryd.func51, Tryd.ntmps51
    go_wp2_with fail
    rw [← HW.out]
    refine HTH.out.mono ?_
    rintro e w1 ⟨rfl, g1⟩
    have G1 := Lib.hid (HG.out.trans g1); clear g1
    go_wp2_with fail
    go_ret
    exact ⟨vl, vs, rfl, H.out.gr G1.out, TChM.gr G1.out⟩
  | false =>
    rw [ho] at HTH
    have HO := Lib.hid ho; clear ho
    obtain ⟨v, hv⟩ : ∃ v, (keysTo T T.length).atKey (kl x) (.held (.int .i64 0)) = .held v := by
      obtain ⟨v', ps, _, hR⟩ := World.ownsMap.look_ok (zd := .held (.int .i64 0)) (zp := []) H.out.m lawKey Tryd.underlying78 (zInt w) rfl (kl_ok x hx)
      exact ⟨v', rv_inv hR⟩
    have HV := Lib.hid hv
    have HLK : Hid (∀ wq, Gr w wq → (Instr.lookup 78 (.map (some bm)) (.agg #[.int .i64 (x.k : Int), .int .i64 (x.a : Int), .int .i64 (x.b : Int), .string x.s]) true).run Tryd.prog wq = .ok (.tuple #[v, .bool (has (keysTo T T.length) (kl x))]) wq) := fun wq hq => look_any (H.out.gr hq).m x hx v hv
    have HBK : Hid (∀ wq, Gr w wq → wq.cell? ⟨g, 2, none⟩ = some (.map (some bm))) := fun wq hq => (H.out.gr hq).x.blk.cell 2
    have HKC : Hid (∀ wq, Gr W wq → wq.cell? ⟨w.heap.size, 0, none⟩ = some (.int .i64 (x.k : Int)) ∧ wq.cell? ⟨w.heap.size, 1, none⟩ = some (.int .i64 (x.a : Int)) ∧ wq.cell? ⟨w.heap.size, 2, none⟩ = some (.int .i64 (x.b : Int)) ∧ wq.cell? ⟨w.heap.size, 3, none⟩ = some (.string x.s)) := fun wq hq => ⟨(hq.blk HB.out).cell 0, (hq.blk HB.out).cell 1, (hq.blk HB.out).cell 2, (hq.blk HB.out).cell 3⟩
    have HXF := Lib.hid hx; have HTF := Lib.hid hT; have HU := Lib.hid hu; have HKN := Lib.hid hk
    clear hv hx hT hu hk
    cases hf : findT T x with
    | some j =>
      obtain ⟨f1, f2, f3⟩ := find_yes HTF.out HU.out HXF.out hf (.held (.int .i64 0))
      have hv2 : v = .int .i64 ((j : Int) + 1) := by
        have := HV.out
        rw [f2] at this
        unfold idV at this
        injection this with this
        exact this.symm
      subst hv2
      rw [f1] at HLK
      clear f1 f2 f3 hf
      go_enter Tryd.func51, Tryd.ntmps51
      go_wp2_with fail
      rw [← HW.out]
      refine HTH.out.mono ?_
      rintro e w1 ⟨rfl, g1⟩
      have G1 := Lib.hid g1; clear g1
      go_upto_region 3 with fail
      refine wp_region_grow (by kernel_rfl) [0, 1, 3, 7, 0, 31, 63, 127, 127, 255, 1023] [.p 0, .p 1, .p 2, .q 3, .q 4, .q 5, .p 6, .p 7, .p 8, .p 9, .p 10] (by kernel_rfl) (trivial) ?_
      have GD : Hid (Gr W w1.drew) := G1.out.trans (Gr.drew _)
      refine wpG_pe rfl rfl ?_
      apply Exists.intro
      refine ⟨fun wq => ?_, ?_⟩
      · unfold plainAt
        go_simp
        first | exact rfl | exact ⟨rfl, rfl⟩
      go_simp
      refine wpG_pe rfl rfl ?_
      apply Exists.intro
      refine ⟨fun wq => ?_, ?_⟩
      · unfold plainAt
        go_simp
        first | exact rfl | exact ⟨rfl, rfl⟩
      go_simp
      refine wpG_pe rfl rfl ?_
      apply Exists.intro
      refine ⟨fun wq => ?_, ?_⟩
      · unfold plainAt
        go_simp
        first | exact rfl | exact ⟨rfl, rfl⟩
      go_simp
      refine wpG_qe rfl rfl ?_
      apply Exists.intro
      refine ⟨fun wq hq => ?_, ?_⟩
      · have z0 := HBK.out wq (HG.out.trans (GD.out.trans hq))
        unfold plainAt
        go_simp
        first | exact rfl | exact ⟨rfl, rfl⟩
      go_simp
      refine wpG_qe rfl rfl ?_
      apply Exists.intro
      refine ⟨fun wq hq => ?_, ?_⟩
      · obtain ⟨z0, z1, z2, z3⟩ := HKC.out wq (GD.out.trans hq)
        unfold plainAt
        go_simp
        first | exact rfl | exact ⟨rfl, rfl⟩
      go_simp
      refine wpG_qe rfl rfl ?_
      apply Exists.intro
      refine ⟨fun wq hq => ?_, ?_⟩
      · have z0 := HLK.out wq (HG.out.trans (GD.out.trans hq))
        unfold plainAt
        go_simp
        first | exact rfl | exact ⟨rfl, rfl⟩
      go_simp
      refine wpG_pe rfl rfl ?_
      apply Exists.intro
      refine ⟨fun wq => ?_, ?_⟩
      · unfold plainAt
        go_simp
        first | exact rfl | exact ⟨rfl, rfl⟩
      go_simp
      refine wpG_pe rfl rfl ?_
      apply Exists.intro
      refine ⟨fun wq => ?_, ?_⟩
      · unfold plainAt
        go_simp
        first | exact rfl | exact ⟨rfl, rfl⟩
      go_simp
      refine wpG_pe rfl rfl ?_
      apply Exists.intro
      refine ⟨fun wq => ?_, ?_⟩
      · unfold plainAt
        go_simp
        first | exact rfl | exact ⟨rfl, rfl⟩
      go_simp
      refine wpG_pe rfl rfl ?_
      apply Exists.intro
      refine ⟨fun wq => ?_, ?_⟩
      · unfold plainAt
        go_simp
        first | exact rfl | exact ⟨rfl, rfl⟩
      go_simp
      refine wpG_pe rfl rfl ?_
      apply Exists.intro
      refine ⟨fun wq => ?_, ?_⟩
      · unfold plainAt
        go_simp
        first | exact rfl | exact ⟨rfl, rfl⟩
      go_simp
      refine wpG_nil ?_
      intro w2 g2
      have G2 := Lib.hid (GD.out.trans g2); clear g2
      go_wp2_with fail
      go_ret
      exact ⟨vl, vs, rfl, H.out.gr (HG.out.trans G2.out), TChM.gr (HG.out.trans G2.out)⟩
    | none =>
      have f1 := find_no HTF.out HXF.out hf
      rw [f1] at HLK
      clear f1
      have HPUT : Hid (∀ wq, Gr w wq → Calls Tryd.prog 50 #[.pointer (some ⟨g, 0, none⟩), .iface ty xv, .slice A m c] wq fun e w' => e = .returned (.int .i64 (((T.map Nd.cell).length + 1 : Nat) : Int)) ∧ ∃ vl' vs', TbX w0 w' g (T.map Nd.cell ++ [.iface ty xv]) (sizesL T ++ [sizeOf' (sizesL T) x.parts]) (atomsOf T) vl' vs' bm ∧ TChg wq w' g vl vs vl' vs') := fun wq hq =>
        put_any w0 g _ _ _ vl vs bm ty xv A m c x.parts wq (H.out.gr hq).x (by rw [sizesL_len, List.length_map]) (sizesL_small T) (HP.out.mono hq) (fun p hp => by
          have := HO.out
          rw [List.any_eq_false] at this
          have := this (Int.ofNat p) (List.mem_map_of_mem hp)
          unfold outside at this
          simp at this
          rw [List.length_map]
          omega) (by rw [List.length_map]; omega)
      go_enter Tryd.func51, Tryd.ntmps51
      go_wp2_with fail
      rw [← HW.out]
      refine HTH.out.mono ?_
      rintro e w1 ⟨rfl, g1⟩
      have G1 := Lib.hid g1; clear g1
      go_upto_region 3 with fail
      refine wp_region_grow (by kernel_rfl) [0, 1, 3, 7, 0, 31, 63, 127, 127, 255, 1023] [.p 0, .p 1, .p 2, .q 3, .q 4, .q 5, .p 6, .p 7, .p 8, .p 9, .p 10] (by kernel_rfl) (trivial) ?_
      have GD : Hid (Gr W w1.drew) := G1.out.trans (Gr.drew _)
      refine wpG_pe rfl rfl ?_
      apply Exists.intro
      refine ⟨fun wq => ?_, ?_⟩
      · unfold plainAt
        go_simp
        first | exact rfl | exact ⟨rfl, rfl⟩
      go_simp
      refine wpG_pe rfl rfl ?_
      apply Exists.intro
      refine ⟨fun wq => ?_, ?_⟩
      · unfold plainAt
        go_simp
        first | exact rfl | exact ⟨rfl, rfl⟩
      go_simp
      refine wpG_pe rfl rfl ?_
      apply Exists.intro
      refine ⟨fun wq => ?_, ?_⟩
      · unfold plainAt
        go_simp
        first | exact rfl | exact ⟨rfl, rfl⟩
      go_simp
      refine wpG_qe rfl rfl ?_
      apply Exists.intro
      refine ⟨fun wq hq => ?_, ?_⟩
      · have z0 := HBK.out wq (HG.out.trans (GD.out.trans hq))
        unfold plainAt
        go_simp
        first | exact rfl | exact ⟨rfl, rfl⟩
      go_simp
      refine wpG_qe rfl rfl ?_
      apply Exists.intro
      refine ⟨fun wq hq => ?_, ?_⟩
      · obtain ⟨z0, z1, z2, z3⟩ := HKC.out wq (GD.out.trans hq)
        unfold plainAt
        go_simp
        first | exact rfl | exact ⟨rfl, rfl⟩
      go_simp
      refine wpG_qe rfl rfl ?_
      apply Exists.intro
      refine ⟨fun wq hq => ?_, ?_⟩
      · have z0 := HLK.out wq (HG.out.trans (GD.out.trans hq))
        unfold plainAt
        go_simp
        first | exact rfl | exact ⟨rfl, rfl⟩
      go_simp
      refine wpG_pe rfl rfl ?_
      apply Exists.intro
      refine ⟨fun wq => ?_, ?_⟩
      · unfold plainAt
        go_simp
        first | exact rfl | exact ⟨rfl, rfl⟩
      go_simp
      refine wpG_pe rfl rfl ?_
      apply Exists.intro
      refine ⟨fun wq => ?_, ?_⟩
      · unfold plainAt
        go_simp
        first | exact rfl | exact ⟨rfl, rfl⟩
      go_simp
      refine wpG_pe rfl rfl ?_
      apply Exists.intro
      refine ⟨fun wq => ?_, ?_⟩
      · unfold plainAt
        go_simp
        first | exact rfl | exact ⟨rfl, rfl⟩
      go_simp
      refine wpG_pe rfl rfl ?_
      apply Exists.intro
      refine ⟨fun wq => ?_, ?_⟩
      · unfold plainAt
        go_simp
        first | exact rfl | exact ⟨rfl, rfl⟩
      go_simp
      refine wpG_pe rfl rfl ?_
      apply Exists.intro
      refine ⟨fun wq => ?_, ?_⟩
      · unfold plainAt
        go_simp
        first | exact rfl | exact ⟨rfl, rfl⟩
      go_simp
      refine wpG_nil ?_
      intro w2 g2
      have G2 := Lib.hid (GD.out.trans g2); clear g2
      have HLW : Hid (∀ b, (vl.ownBlock = some b ∨ vs.ownBlock = some b ∨ b = g ∨ b = bm) → b < w.heap.size) := fun b h => by
        rcases h with h | h | h | h
        · exact (H.out.x.l.1.lt b h).2
        · exact (H.out.x.s.1.lt b h).2
        · rw [h]; exact H.out.x.blk.lt
        · rw [h]; exact H.out.m.lt
      have HZW : Hid (w.heap.size < W.heap.size) := HB.out.lt
      go_wp2_with fail
      refine (HPUT.out w2 (HG.out.trans G2.out)).mono ?_
      rintro e w3 ⟨rfl, vl', vs', tb3, ch3⟩
      have TB3 := Lib.hid tb3; have CH3 := Lib.hid ch3
      have hm2 := (H.out.gr (HG.out.trans G2.out))
      have M3 : Hid (mT w3 bm T) := hm2.m.keep (ch3.keep bm hm2.m.lt (hm2.m.ne_blk hm2.x.blk) (hm2.m.ne_own hm2.x.l) (hm2.m.ne_own hm2.x.s))
      have KB3 : Hid (Blk w3 w.heap.size 105 [.int .i64 (x.k : Int), .int .i64 (x.a : Int), .int .i64 (x.b : Int), .string x.s]) := by
        have hb2 := G2.out.blk HB.out
        exact (ch3.keep w.heap.size hb2.lt (fun e => by have := HLW.out g (.inr (.inr (.inl rfl))); omega) (fun e => by have := HLW.out _ (.inl e); omega) (fun e => by have := HLW.out _ (.inr (.inl e)); omega)).trans hb2
      have HMC3 : Hid (∀ wq, Gr w3 wq → wq.cell? ⟨g, 2, none⟩ = some (.map (some bm))) := fun wq hq => (hq.blk TB3.out.blk).cell 2
      have HKC3 : Hid (∀ wq, Gr w3 wq → wq.cell? ⟨w.heap.size, 0, none⟩ = some (.int .i64 (x.k : Int)) ∧ wq.cell? ⟨w.heap.size, 1, none⟩ = some (.int .i64 (x.a : Int)) ∧ wq.cell? ⟨w.heap.size, 2, none⟩ = some (.int .i64 (x.b : Int)) ∧ wq.cell? ⟨w.heap.size, 3, none⟩ = some (.string x.s)) := fun wq hq => ⟨(hq.blk KB3.out).cell 0, (hq.blk KB3.out).cell 1, (hq.blk KB3.out).cell 2, (hq.blk KB3.out).cell 3⟩
      have hlm : (T.map Nd.cell).length = T.length := List.length_map ..
      rw [hlm]
      clear tb3 ch3 hm2 hlm
      go_upto_region 6 with fail
      refine wp_region_grow (by kernel_rfl) [0, 1, 3, 7, 0, 0, 63] [.p 0, .p 1, .p 2, .p 5, .q 3, .q 4, .s 6] (by kernel_rfl) (trivial) ?_
      refine wpG_pe rfl rfl ?_
      apply Exists.intro
      refine ⟨fun wq => ?_, ?_⟩
      · unfold plainAt
        go_simp
        first | exact rfl | exact ⟨rfl, rfl⟩
      go_simp
      refine wpG_pe rfl rfl ?_
      apply Exists.intro
      refine ⟨fun wq => ?_, ?_⟩
      · unfold plainAt
        go_simp
        first | exact rfl | exact ⟨rfl, rfl⟩
      go_simp
      refine wpG_pe rfl rfl ?_
      apply Exists.intro
      refine ⟨fun wq => ?_, ?_⟩
      · unfold plainAt
        go_simp
        first | exact rfl | exact ⟨rfl, rfl⟩
      go_simp
      refine wpG_pe rfl rfl ?_
      apply Exists.intro
      refine ⟨fun wq => ?_, ?_⟩
      · unfold plainAt
        go_simp
        first | exact rfl | exact ⟨rfl, rfl⟩
      go_simp
      refine wpG_qe rfl rfl ?_
      apply Exists.intro
      refine ⟨fun wq hq => ?_, ?_⟩
      · have z0 := HMC3.out wq ((Gr.drew _).trans hq)
        unfold plainAt
        go_simp
        first | exact rfl | exact ⟨rfl, rfl⟩
      go_simp
      refine wpG_qe rfl rfl ?_
      apply Exists.intro
      refine ⟨fun wq hq => ?_, ?_⟩
      · obtain ⟨z0, z1, z2, z3⟩ := HKC3.out wq ((Gr.drew _).trans hq)
        unfold plainAt
        go_simp
        first | exact rfl | exact ⟨rfl, rfl⟩
      go_simp
      refine wpG_s rfl rfl ?_
      intro w5 g5 K hK
      have G5 := Lib.hid ((Gr.drew w3).trans g5); clear g5
      have hm5 : mT w5 bm T := M3.out.keep (G5.out.block bm M3.out.lt)
      obtain ⟨w6, hrun, hm6, hgr6⟩ := World.ownsMap.update (R := Rv) (val := .int .i64 ((T.length : Int) + 1)) (d := idV T.length) (ps := []) hm5 lawKey Tryd.underlying78 (by unfold maxLen; omega) (kl_ok x HXF.out) rfl
      unfold keyV at hrun
      have HM6 := Lib.hid hm6; have HG6 := Lib.hid hgr6; clear hm5 hm6 hgr6
      go_simp
      refine hK _ _ ?_
      clear hK hrun
      go_simp
      refine wpG_nil ?_
      intro w7 g7
      have FIN := Lib.hid (found_fin H.out HKN.out HC.out (HG.out.trans G2.out) TB3.out CH3.out M3.out G5.out HM6.out HG6.out g7)
      clear g7
      go_wp2_with fail
      go_ret
      exact ⟨vl', vs', ret_int (by simp), FIN.out.1, FIN.out.2⟩
end Go.Proofs.YthlnoaalhojphaaDoor
