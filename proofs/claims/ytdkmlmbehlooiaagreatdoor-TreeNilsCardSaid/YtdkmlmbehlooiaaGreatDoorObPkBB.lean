/- Own texts, one behind the other. No condition. -/
import Derived.Test.YtdkmlmbehlooiaaGreatDoorObPkBA
set_option linter.unusedVariables false
set_option linter.unusedSimpArgs false
namespace Go.Proofs.YtdkmlmbehlooiaaGreatDoor
section
open Go.RowKit Go.Shelf
attribute [local go_sem] Oper.semAt_some
theorem MSt.offL {S : Nat → Prop} {w0 w w' : World} {L : Pl} {m : Mc} (h : MSt w0 L m w) (T : Tch S w w') (hS : ∀ b, S b → w0.heap.size ≤ b) (hc : ∀ b t cs, Blk w b t cs → ¬ S b) (hm : ∀ b es ck, w.heap[b]? = some (.map es ck) → ¬ S b) : MSt w0 L m w' := by
 obtain ⟨es, ck, he⟩ := h.sm.map
 obtain ⟨es2, ck2, he2⟩ := h.sy.bmap
 obtain ⟨vl, vs, ht⟩ := h.sy.t
 obtain ⟨vP, vA, hd⟩ := h.dk
 obtain ⟨xs, ha⟩ := hd.all
 have ow : ∀ {e : TypeId} {s n : Nat} {v : Value} {ys : List Value}, Own w0 w e s v n ys → ∀ b, v.ownBlock = some b → ¬ S b := fun o b q => by
  obtain ⟨cs, z⟩ := o.blk_at q
  exact hc _ _ _ z
 refine ⟨⟨h.sy.blk.tch T (hc _ _ _ h.sy.blk), ⟨vl, vs, ⟨⟨ht.x.blk.tch T (hc _ _ _ ht.x.blk), ht.x.l.tch T hS (ow ht.x.l), ht.x.s.tch T hS (ow ht.x.s), ht.x.ge, ht.x.gm⟩, ht.m.keep (T.keep _ ht.m.lt (hm _ _ _ he2))⟩⟩, h.sy.i⟩, h.sm.keep (T.keep _ h.sm.lt (hm _ _ _ he)), h.nb, h.ge, vP, vA, ⟨hd.blk.tch T (hc _ _ _ hd.blk), hd.kept.tch T (hc _ _ _ hd.kept), hd.k512, hd.pend.tch T hS (ow hd.pend), hd.p512, ⟨xs, ha.tch T hS (ow ha)⟩, hd.gd, hd.gk⟩⟩
theorem Tch.putObj (w : World) (l : Nat) (o : Obj) : Tch (fun b => b = l) w (w.putObj l o) :=
 ⟨Below.grown (Below.refl 0 w) (grownBy_putObj' w l o) (Nat.zero_le _) (fun k e => Nat.zero_le _), fun b _ hn => World.putObj_heap_other hn⟩
theorem MSt.putL {w0 W : World} {L : Pl} {m : Mc} {l : Nat} {r : Loop} (h : MSt w0 L m W) (hl : W.heap[l]? = some (.loop r)) (hge : w0.heap.size ≤ l) (o : Obj) : MSt w0 L m (W.putObj l o) :=
 h.offL (Tch.putObj W l o) (fun b e => e ▸ hge) (fun b t cs hb e => by unfold Blk at hb; rw [e, hl] at hb; cases hb) (fun b es ck hb e => by rw [e, hl] at hb; cases hb)
theorem Blk.putL {W : World} {g l : Nat} {t : TypeId} {cs : List Value} {r : Loop} (h : Blk W g t cs) (hl : W.heap[l]? = some (.loop r)) (o : Obj) : Blk (W.putObj l o) g t cs :=
 (World.putObj_heap_other (fun e => by unfold Blk at h; rw [e, hl] at h; cases h)).trans h
theorem Own.putL {w0 W : World} {e : TypeId} {s n : Nat} {v : Value} {xs : List Value} {l : Nat} {r : Loop} (h : Own w0 W e s v n xs) (hl : W.heap[l]? = some (.loop r)) (hge : w0.heap.size ≤ l) (o : Obj) : Own w0 (W.putObj l o) e s v n xs :=
 h.tch (Tch.putObj W l o) (fun b e => e ▸ hge) (fun b q e => by
  obtain ⟨cs, z⟩ := h.blk_at q
  unfold Blk at z
  rw [e, hl] at z
  cases z)
theorem QB.putL {kb : Nat} {W : World} {A : Option Addr} {n c : Nat} {b : List UInt8} {l : Nat} {r : Loop} (h : QB kb W A n c b) (hl : W.heap[l]? = some (.loop r)) (o : Obj) : QB kb (W.putObj l o) A n c b := h.put hl rfl o
theorem PF.gr {w0 : World} {L : Pl} {m : Mc} {a d l : Int} {life pa pt : Nat} {A A' : World} (h : PF w0 L m a d l life pa pt A) (g : Gr A A') : PF w0 L m a d l life pa pt A' := ⟨h.ms.mono g, g.blk h.ar, g.blk h.th⟩
theorem tBB : ElemT Tryz.prog 81 36 (.slice none 0 0) 1 24 := ⟨Tryz.underlying81, by kernel_rfl, rfl, by decide, by decide⟩
structure RdI (w0 w : World) (L : Pl) (m : Mc) (a d l : Int) (life pa pt po pq : Nat) (k : Nat) (W : World) : Prop where
 pf : PF w0 L m a d l life pa pt W
 g : Gr w W
 f : Blk W pq 27 [.int .i64 0]
 o : ∃ (v : Value) (R : List BRow), Blk W po 81 [v] ∧ Own w W 36 1 v k (R.map BRow.v) ∧ R.map BRow.l = (List.range k).map (fun i => (pgR m a d l life i).1.body) ∧ ∀ r ∈ R, QB L.kb W r.a r.n r.c r.l
theorem RdI.gr {w0 w : World} {L : Pl} {m : Mc} {a d l : Int} {life pa pt po pq k : Nat} {W W' : World} (h : RdI w0 w L m a d l life pa pt po pq k W) (g : Gr W W') : RdI w0 w L m a d l life pa pt po pq k W' := by
 obtain ⟨v, R, h1, h2, h3, h4⟩ := h.o
 exact ⟨h.pf.gr g, h.g.trans g, g.blk h.f, v, R, g.blk h1, h2.mono g, h3, fun r hr => (h4 r hr).mono g⟩
theorem RdI.putL {w0 w : World} {L : Pl} {m : Mc} {a d l : Int} {life pa pt po pq k : Nat} {W : World} (h : RdI w0 w L m a d l life pa pt po pq k W) {j : Nat} {r : Loop} (hj : W.heap[j]? = some (.loop r)) (hge : w.heap.size ≤ j) (h0 : w0.heap.size ≤ w.heap.size) (o : Obj) : RdI w0 w L m a d l life pa pt po pq k (W.putObj j o) := by
 obtain ⟨v, R, h1, h2, h3, h4⟩ := h.o
 exact ⟨⟨h.pf.ms.putL hj (by omega) o, h.pf.ar.putL hj o, h.pf.th.putL hj o⟩, gr_put h.g j o hge, h.f.putL hj o, v, R, h1.putL hj o, h2.putL hj hge o, h3, fun r hr => (h4 r hr).putL hj o⟩
def rdTmps (L : Pl) (a d l : Int) (life h pa pg pt : Nat) (x13 x26 x27 : Value) : Array Value :=
 #[.pointer (some ⟨L.dp, 0, none⟩), .pointer (some ⟨L.p, 0, none⟩), .agg #[.int .i64 a, .int .i64 d, .int .i64 l], .int .u64 (life : Int), undef, undef, .pointer (some ⟨h, 0, none⟩), undef, .pointer (some ⟨h + 1, 0, none⟩), .pointer (some ⟨h + 1 + 1, 0, none⟩), .pointer (some ⟨h + 1 + 1 + 1, 0, none⟩), .int .i64 0, undef, x13, .pointer (some ⟨L.dp, 0, none⟩), .pointer (some ⟨L.p, 0, none⟩), .agg #[.int .i64 a, .int .i64 d, .int .i64 l], .int .u64 (life : Int), .agg #[.pointer (some ⟨L.dp, 0, none⟩), .pointer (some ⟨L.p, 0, none⟩), .int .i64 a, .int .i64 d, .int .i64 l, .int .u64 (life : Int)], .agg #[.pointer (some ⟨L.dp, 0, none⟩), .pointer (some ⟨L.p, 0, none⟩), .int .i64 a, .int .i64 d, .int .i64 l, .int .u64 (life : Int)], .int .i64 0, .int .i64 0, .bool false, undef, .agg #[.pointer (some ⟨L.dp, 0, none⟩), .pointer (some ⟨L.p, 0, none⟩), .int .i64 a, .int .i64 d, .int .i64 l, .int .u64 (life : Int)], .func (.func 197) #[] #[.pointer (some ⟨pa, 0, none⟩), .pointer (some ⟨pg, 0, none⟩), .pointer (some ⟨pt, 0, none⟩)], x26, x27, undef, undef, undef, undef, undef, undef, undef, undef, undef, undef, undef, undef]
def RdA (w : World) (L : Pl) (m : Mc) (a d l : Int) (life pa pg pt : Nat) (k : Nat) (args : Array Value) (a1 : Act) (W : World) : Prop :=
 ∃ (A1 : Option Addr) (c1 px : Nat), a1 = { tmps := rdTmps L a d l life w.heap.size pa pg pt (.pointer (some ⟨px, 0, none⟩)) (.int .i64 (k : Int)) (.agg #[.slice A1 (pgR m a d l life k).1.body.length c1, .bool (pgIs m a d l life k)]), defers := [] } ∧ w.heap.size ≤ px ∧ Blk W px 177 [.slice A1 (pgR m a d l life k).1.body.length c1, .bool (pgIs m a d l life k)] ∧ QB L.kb W A1 (pgR m a d l life k).1.body.length c1 (pgR m a d l life k).1.body
theorem results_rows {fn : Func} {p u : Tmp} (h : fn.results = #[.cell p 81, .cell u 27]) (tmps : Array Value) (w : World) (g g' : Nat) (A : Option Addr) (n c : Nat) (q : Int) (hp : tmps.getD p undef = .pointer (some ⟨g, 0, none⟩)) (hu : tmps.getD u undef = .pointer (some ⟨g', 0, none⟩)) (hc : w.cell? ⟨g, 0, none⟩ = some (.slice A n c)) (hd : w.cell? ⟨g', 0, none⟩ = some (.int .i64 q)) :
 (results fn tmps).run Tryz.prog w = .ok (.tuple #[.slice A n c, .int .i64 q]) w := by
 have hp' : tmps[p]?.getD undef = .pointer (some ⟨g, 0, none⟩) := by simpa using hp
 have hu' : tmps[u]?.getD undef = .pointer (some ⟨g', 0, none⟩) := by simpa using hu
 simp only [results, h]
 simp [Sem.run_bind, hp', hu', asAddr]
 go_simp
section
variable {w0 w w' : World} {L : Pl} {m : Mc} {n : Nat} {a d l : Int}
set_option maxRecDepth 100000 in
set_option maxHeartbeats 4000000 in
theorem snapRead_any (h : MSt w0 L m w) (f : Fit m a d l) (ho : m.Ok n) (hn : n ≤ 900) (hd : m.d.down = false) (hp : m.d.pend = []) (life : Nat) (hl : life < 18446744073709551616) (N : Nat) (hN : (N : Int) = pagesI a d l) (hall : ∀ k, k < N → pgIs m a d l life k = true) :
 Calls Tryz.prog 64 #[.pointer (some ⟨L.dp, 0, none⟩), .pointer (some ⟨L.p, 0, none⟩), .agg #[.int .i64 a, .int .i64 d, .int .i64 l], .int .u64 (life : Int)] w fun e w' => ∃ (A : Option Addr) (c : Nat) (R : List BRow), e = .returned (.tuple #[.slice A N c, .int .i64 0]) ∧ Own w w' 36 1 (.slice A N c) N (R.map BRow.v) ∧ R.map BRow.l = (List.range N).map (fun i => (pgR m a d l life i).1.body) ∧ ∀ r ∈ R, QB L.kb w' r.a r.n r.c r.l := by
 refine (callsIn_wide (n := 6)).1 ?_
 refine callsIn_of_wp_marks Tryz.func64 rfl trivial ?_ rfl
 simp only [Tryz.ntmps64, List.size_toArray, List.length_cons, List.length_nil, Nat.reduceAdd, Nat.reduceSub, Array.replicate_succ, Array.replicate_zero, List.push_toArray, List.append_toArray, List.nil_append, List.cons_append]
 refine wpIn_wide.2 ?_
 have H0 := Lib.hid h; have HF := Lib.hid f; have HO := Lib.hid ho
 have HRI := Lib.hid (fun wr (g : Gr w wr) => areaRight_any (h.mono g) f life)
 have HMK := Lib.hid (fun wr pf => snapPagesMk_any (L := L) (a := a) (d := d) (l := l) wr pf life)
 have HGV := Lib.hid (fun pa pf pt W => snapPages_any (w0 := w0) (L := L) (m := m) (n := n) f ho hn hd hp life hl pa pf pt N hN 6 (by omega) W)
 have HAL := Lib.hid hall
 have g0 : Gr w ((((w.alloc (.cells #[.int .i64 a, .int .i64 d, .int .i64 l] 23)).alloc (.cells #[.slice none 0 0] 81)).alloc (.cells #[.int .i64 0] 27)).alloc (.cells #[.pointer (some ⟨L.dp, 0, none⟩), .pointer (some ⟨L.p, 0, none⟩), .int .i64 a, .int .i64 d, .int .i64 l, .int .u64 (life : Int)] 171)) := (((Gr.alloc _ _).trans (Gr.alloc _ _)).trans (Gr.alloc _ _)).trans (Gr.alloc _ _)
 have bo : Blk ((((w.alloc (.cells #[.int .i64 a, .int .i64 d, .int .i64 l] 23)).alloc (.cells #[.slice none 0 0] 81)).alloc (.cells #[.int .i64 0] 27)).alloc (.cells #[.pointer (some ⟨L.dp, 0, none⟩), .pointer (some ⟨L.p, 0, none⟩), .int .i64 a, .int .i64 d, .int .i64 l, .int .u64 (life : Int)] 171)) (w.heap.size + 1) 81 [.slice none 0 0] := by
  have := ((Blk.new (w.alloc (.cells #[.int .i64 a, .int .i64 d, .int .i64 l] 23)) 81 #[.slice none 0 0]).alloc (.cells #[.int .i64 0] 27)).alloc (.cells #[.pointer (some ⟨L.dp, 0, none⟩), .pointer (some ⟨L.p, 0, none⟩), .int .i64 a, .int .i64 d, .int .i64 l, .int .u64 (life : Int)] 171)
  rwa [World.size_alloc] at this
 have bf : Blk ((((w.alloc (.cells #[.int .i64 a, .int .i64 d, .int .i64 l] 23)).alloc (.cells #[.slice none 0 0] 81)).alloc (.cells #[.int .i64 0] 27)).alloc (.cells #[.pointer (some ⟨L.dp, 0, none⟩), .pointer (some ⟨L.p, 0, none⟩), .int .i64 a, .int .i64 d, .int .i64 l, .int .u64 (life : Int)] 171)) (w.heap.size + 1 + 1) 27 [.int .i64 0] := by
  have := (Blk.new ((w.alloc (.cells #[.int .i64 a, .int .i64 d, .int .i64 l] 23)).alloc (.cells #[.slice none 0 0] 81)) 27 #[.int .i64 0]).alloc (.cells #[.pointer (some ⟨L.dp, 0, none⟩), .pointer (some ⟨L.p, 0, none⟩), .int .i64 a, .int .i64 d, .int .i64 l, .int .u64 (life : Int)] 171)
  rwa [World.size_alloc, World.size_alloc] at this
 have ba : Blk ((((w.alloc (.cells #[.int .i64 a, .int .i64 d, .int .i64 l] 23)).alloc (.cells #[.slice none 0 0] 81)).alloc (.cells #[.int .i64 0] 27)).alloc (.cells #[.pointer (some ⟨L.dp, 0, none⟩), .pointer (some ⟨L.p, 0, none⟩), .int .i64 a, .int .i64 d, .int .i64 l, .int .u64 (life : Int)] 171)) (w.heap.size + 1 + 1 + 1) 171 [.pointer (some ⟨L.dp, 0, none⟩), .pointer (some ⟨L.p, 0, none⟩), .int .i64 a, .int .i64 d, .int .i64 l, .int .u64 (life : Int)] := by
  have := Blk.new (((w.alloc (.cells #[.int .i64 a, .int .i64 d, .int .i64 l] 23)).alloc (.cells #[.slice none 0 0] 81)).alloc (.cells #[.int .i64 0] 27)) 171 #[.pointer (some ⟨L.dp, 0, none⟩), .pointer (some ⟨L.p, 0, none⟩), .int .i64 a, .int .i64 d, .int .i64 l, .int .u64 (life : Int)]
  rwa [World.size_alloc, World.size_alloc, World.size_alloc] at this
 obtain ⟨W, hW⟩ : ∃ W, W = ((((w.alloc (.cells #[.int .i64 a, .int .i64 d, .int .i64 l] 23)).alloc (.cells #[.slice none 0 0] 81)).alloc (.cells #[.int .i64 0] 27)).alloc (.cells #[.pointer (some ⟨L.dp, 0, none⟩), .pointer (some ⟨L.p, 0, none⟩), .int .i64 a, .int .i64 d, .int .i64 l, .int .u64 (life : Int)] 171)) := ⟨_, rfl⟩
 rw [← hW] at g0 bo bf ba
 have G0 := Lib.hid g0; have BO := Lib.hid bo; have BF := Lib.hid bf; have BA := Lib.hid ba; have HW := Lib.hid hW
 have HN := Lib.hid hN
 clear h f ho hd hp hall g0 bo bf ba hW hN
 go_upto_region 2 with fail
 rw [← HW.out]
 have k0 := BA.out.cell 0
 have k1 := BA.out.cell 1
 have k2 := BA.out.cell 2
 have k3 := BA.out.cell 3
 have k4 := BA.out.cell 4
 have k5 := BA.out.cell 5
 go_wp2_with fail
 refine (HRI.out W G0.out).mono ?_
 rintro e w1 ⟨rfl, g1⟩
 have G1 := Lib.hid (G0.out.trans g1)
 have BA1 := BA.out.mono g1
 have BO1 := Lib.hid (BO.out.mono g1)
 have BF1 := Lib.hid (BF.out.mono g1)
 clear k0 k1 k2 k3 k4 k5 g1
 have k0 := BA1.cell 0
 have k1 := BA1.cell 1
 have k2 := BA1.cell 2
 have k3 := BA1.cell 3
 have k4 := BA1.cell 4
 have k5 := BA1.cell 5
 clear BA1
 go_wp2_with fail
 refine (HMK.out w1 _).mono ?_
 rintro e w2 ⟨pa, pg, pt, rfl, g2, ha, ht, hpa, hpt⟩
 have G2 := Lib.hid (G1.out.trans g2)
 have BO2 := Lib.hid (BO1.out.mono g2)
 have BF2 := Lib.hid (BF1.out.mono g2)
 have PF2 : Hid (PF w0 L m a d l life pa pt w2) := ⟨H0.out.mono G2.out, ha, ht⟩
 clear g2 ha ht k0 k1 k2 k3 k4 k5
 go_wp2_with fail
 refine (wpIn_wide (n := 6)).1 ?_
 refine range_all (by omega) (gf := 197) (lb := #[.pointer (some ⟨pa, 0, none⟩), .pointer (some ⟨pg, 0, none⟩), .pointer (some ⟨pt, 0, none⟩)]) rfl (enters_of Tryz.func197 (by kernel_rfl) rfl) N (PF w0 L m a d l life pa pt) (PgOk L m a d l life) (HGV.out pa pg pt w2)
  (fun k args W' ho => by obtain ⟨A1, c1, rfl, _⟩ := ho; rfl)
  (RdI w0 w L m a d l life pa pt (w.heap.size + 1) (w.heap.size + 1 + 1)) (fun k A A' h g => h.gr g) (fun k A h => h.pf)
  (fun k W' j r o' h hj hl2 => h.putL hl2 (Nat.le_trans G2.out.size hj) H0.out.below.size o')
  ⟨PF2.out, G2.out, BF2.out, .slice none 0 0, [], BO2.out, Own.nil' G2.out _ _, rfl, fun r hr => (by cases hr)⟩
  (RdA w L m a d l life pa pg pt)
  (fun k args a1 W' j r o' h hj hl2 => by
   obtain ⟨A1, c1, px, h1, h2, h3, h4⟩ := h
   exact ⟨A1, c1, px, h1, h2, h3.putL hl2 o', h4.putL hl2 o'⟩) ?assign ?body ?done
 case assign =>
  rintro q k args W' K hk hi ⟨A1, c1, rfl, q1⟩ hK
  have HK := Lib.hid hK
  have HI := Lib.hid hi
  have Q1 := Lib.hid q1
  clear hK hi q1
  obtain ⟨bl, hbl⟩ : ∃ bl, bl = (pgR m a d l life k).1.body.length := ⟨_, rfl⟩
  obtain ⟨is, his⟩ : ∃ is, is = pgIs m a d l life k := ⟨_, rfl⟩
  rw [← hbl, ← his]
  have HB := Lib.hid hbl; have HIS := Lib.hid his
  clear hbl his
  gi_wp2
  refine HK.out _ _ (Gr.alloc W' (.cells #[.slice A1 bl c1, .bool is] 177)) ⟨A1, c1, W'.heap.size, ?_, Nat.le_trans HI.out.g.size (Nat.le_refl _), ?_, Q1.out.mono (Gr.alloc _ _)⟩
  · rw [← HB.out, ← HIS.out]; rfl
  · rw [← HB.out, ← HIS.out]; exact Blk.new W' _ _
 case body =>
  rintro q k args a1 W' hk hi ⟨A1, c1, px, rfl, hpx, hpg, q1⟩
  obtain ⟨v, R, ho, how, hmp, hqb⟩ := hi.o
  have HIS := HAL.out k hk
  rw [HIS] at hpg ⊢
  have HG := Lib.hid hi.g; have HPF := Lib.hid hi.pf; have HFB := Lib.hid hi.f; have HO2 := Lib.hid ho; have HOW := Lib.hid how; have HMP := Lib.hid hmp; have HQB := Lib.hid hqb; have HPG := Lib.hid hpg; have Q1 := Lib.hid q1
  have p0 := hpg.cell 0
  have p1 := hpg.cell 1
  have o0 := ho.cell 0
  have fo := Blk.free ho 0
  have hkN : k ≤ 264 := by have := (pgE a d l).2; have := HN.out; omega
  have hml : R.length = k := by have := congrArg List.length hmp; simpa using this
  have HML := Lib.hid hml
  clear hi ho how hmp hqb hpg q1 HIS hml
  obtain ⟨bd, hbd⟩ : ∃ bd, bd = (pgR m a d l life k).1.body := ⟨_, rfl⟩
  rw [← hbd] at p0 HPG Q1 ⊢
  have HBD := Lib.hid hbd
  clear hbd
  unfold rdTmps
  apply wpIn_block
  apply wpIn_seq_k
  intro K1 hK1
  apply wpIn_seq_k
  intro K2 hK2
  apply wpIn_region_lit
  refine wpListInR_of (fun ⟨a, w, h⟩ => h) _ _ _ rfl ?_
  go_wp2_with fail
  refine wpIn_cond_false rfl ?_
  apply wpIn_skip
  refine hK1 _ _ ?_
  clear hK1
  apply wpIn_region_lit
  refine wpListInR_of (fun ⟨a, w, h⟩ => h) _ _ _ rfl ?_
  go_wp2_with (at_builtin; refine wpList_pushG rfl (.tmp 31) (.tmp 34) 81 rfl tBB rfl HOW.out #[.slice A1 bd.length c1] rfl rfl (fun u hu => by rw [List.mem_singleton.1 hu]; rfl) (by omega) ?_; intro v5 w5 o5 k5; obtain ⟨A5, e5, rfl, _⟩ := o5.slice; have O5 := Lib.hid o5; have K5 := Lib.hid k5; have g5 : Gr W' (W'.alloc (.cells #[.slice A1 bd.length c1] 36)) := Gr.alloc _ _; have po5 := (k5.1 _ (g5.blk HO2.out).lt (own_blk (HOW.out.mono g5) (g5.blk HO2.out) (by decide))).trans (g5.blk HO2.out); have PO5 : Hid (Blk w5 (w.heap.size + 1) 81 [v]) := po5; have y0 := PO5.out.cell 0; have y1 := Blk.free PO5.out 0; clear o5 k5 po5 g5)
  have gA : Gr W' (W'.alloc (.cells #[.slice A1 bd.length c1] 36)) := Gr.alloc _ _
  obtain ⟨W1, hW1⟩ : ∃ W1, W1 = W'.alloc (.cells #[.slice A1 bd.length c1] 36) := ⟨_, rfl⟩
  rw [← hW1] at K5 gA
  obtain ⟨w6, hw6⟩ : ∃ w6, w6 = w5.setCell ⟨w.heap.size + 1, 0, none⟩ (.slice A5 (k + 1) e5) := ⟨_, rfl⟩
  have T5 : Tch (fun b => v.ownBlock = some b ∨ b = w.heap.size + 1) W1 w5 := ⟨below_two (HOW.out.mono gA).below O5.out.below K5.out.2.1, fun b hl hn => K5.out.1 b hl (fun q => hn (.inl q))⟩
  have T6 : Tch (fun b => v.ownBlock = some b ∨ b = w.heap.size + 1) W1 w6 := T5.trans (by rw [hw6]; exact Tch.set ⟨w.heap.size + 1, 0, none⟩ _ (.inr rfl))
  have hS : ∀ b, (v.ownBlock = some b ∨ b = w.heap.size + 1) → w.heap.size ≤ b := fun b q => by
   rcases q with q | q
   · exact HOW.out.ge q
   · omega
  have hty : ∀ b, (v.ownBlock = some b ∨ b = w.heap.size + 1) → ∃ t cs, Blk W1 b t cs ∧ (t = 36 ∨ t = 81) := fun b q => by
   rcases q with q | q
   · obtain ⟨cs, z⟩ := (HOW.out.mono gA).blk_at q
     exact ⟨_, cs, z, .inl rfl⟩
   · rw [q]; exact ⟨_, _, gA.blk HO2.out, .inr rfl⟩
  have ns : ∀ {b : Nat} {t : TypeId} {cs : List Value}, Blk W1 b t cs → t ≠ 36 → t ≠ 81 → ¬ (v.ownBlock = some b ∨ b = w.heap.size + 1) := fun hb h1 h2 q => by
   obtain ⟨t', cs', hb', hh⟩ := hty _ q
   have := bTy hb hb'
   subst this
   rcases hh with e | e
   · exact h1 e
   · exact h2 e
  have ntb : ∀ b, (v.ownBlock = some b ∨ b = w.heap.size + 1) → ∃ t cs, Blk W1 b t cs ∧ ¬ tyB t := fun b q => by
   obtain ⟨t', cs', hb', hh⟩ := hty _ q
   refine ⟨t', cs', hb', ?_⟩
   rcases hh with e | e <;> subst e <;> unfold tyB <;> decide
  have PF1 := HPF.out.gr gA
  have MS6 : MSt w0 L m w6 := PF1.ms.off T6 (fun b q => Nat.le_trans H0.out.below.size (hS b q)) (fun b q => by
   obtain ⟨t', cs', hb', hh⟩ := hty _ q
   refine ⟨t', cs', hb', ?_⟩
   rcases hh with e | e <;> subst e <;> unfold tyA tyM <;> decide)
  rw [← hw6]
  refine ⟨⟨Nat.le_trans gA.size T6.size, fun j o hj hc => ?_⟩, ⟨⟨MS6, PF1.ar.tch T6 (ns PF1.ar (by decide) (by decide)), PF1.th.tch T6 (ns PF1.th (by decide) (by decide))⟩, T6.below (HG.out.trans gA) (HG.out.trans gA).size hS, (gA.blk HFB.out).tch T6 (ns (gA.blk HFB.out) (by decide) (by decide)), .slice A5 (k + 1) e5, R ++ [⟨A1, bd.length, c1, bd⟩], ?_, ?_, ?_, ?_⟩⟩
  · have h1 := (gA.block j (Array.getElem?_eq_some_iff.1 hj).1).trans hj
    refine (T6.keep j (Array.getElem?_eq_some_iff.1 h1).1 (fun q => ?_)).trans h1
    obtain ⟨t', cs', hb', _⟩ := hty _ q
    unfold Blk at hb'
    rw [h1] at hb'
    injection hb' with hb'
    rw [hb'] at hc
    cases hc
  · rw [hw6]; exact PO5.out.set 0 _
  · have o6 := O5.out
    have := o6.tch (S := fun b => b = w.heap.size + 1) (by rw [hw6]; exact Tch.set ⟨w.heap.size + 1, 0, none⟩ _ rfl : Tch _ w5 w6) (fun b e => by rw [e]; omega) (fun b q e => by
     obtain ⟨cs, z⟩ := o6.blk_at q
     rw [e] at z
     exact absurd (bTy z PO5.out) (by decide))
    rw [List.map_append]
    exact this
  · rw [List.map_append, HMP.out, List.range_succ, List.map_append]
    show _ ++ [bd] = _ ++ [(pgR m a d l life k).1.body]
    rw [HBD.out]
  · intro r hr
    rcases List.mem_append.1 hr with q | q
    · exact ((HQB.out r q).mono gA).tchT T6 ntb
    · rw [List.mem_singleton.1 q]
      exact (Q1.out.mono gA).tchT T6 ntb
 case done =>
  rintro D W' hD hi hKd
  obtain ⟨v, R, ho, how, hmp, hqb⟩ := hi.o
  obtain ⟨A5, e5, rfl, _⟩ := how.slice
  have HG := Lib.hid hi.g; have HFB := Lib.hid hi.f; have HO2 := Lib.hid ho; have HOW := Lib.hid how; have HMP := Lib.hid hmp; have HQB := Lib.hid hqb; have HKD := Lib.hid hKd
  have o0 := ho.cell 0
  have fo := Blk.free ho 0
  have p0 := hi.f.cell 0
  have fp := Blk.free hi.f 0
  have D1 : w.heap.size + 1 + 1 < D := by
   have := Blk.lt (show Blk w2 (w.heap.size + 1 + 1) _ _ from BF2.out)
   omega
  clear hi ho how hmp hqb hKd
  simp only [Exit.then, Exit.inBlock]
  go_wp2_with fail
  obtain ⟨w8, hw8⟩ : ∃ w8, w8 = (W'.setCell ⟨w.heap.size + 1, 0, none⟩ (.slice A5 N e5)).setCell ⟨w.heap.size + 1 + 1, 0, none⟩ (.int .i64 0) := ⟨_, rfl⟩
  have T8 : Tch (fun b => b = w.heap.size + 1 ∨ b = w.heap.size + 1 + 1) W' w8 := by rw [hw8]; exact (Tch.set ⟨w.heap.size + 1, 0, none⟩ _ (.inl rfl)).trans (Tch.set ⟨w.heap.size + 1 + 1, 0, none⟩ _ (.inr rfl))
  have K8 : w8.heap[D]? = some (.deferred (some [])) := (T8.keep D (Array.getElem?_eq_some_iff.1 HKD.out).1 (by omega)).trans HKD.out
  have B48 : Blk w8 (w.heap.size + 1) 81 [.slice A5 N e5] := by rw [hw8]; exact (HO2.out.set 0 _).far (p := ⟨w.heap.size + 1 + 1, 0, none⟩) (by show w.heap.size + 1 ≠ w.heap.size + 1 + 1; omega) _
  have B58 : Blk w8 (w.heap.size + 1 + 1) 27 [.int .i64 0] := by rw [hw8]; exact (HFB.out.far (p := ⟨w.heap.size + 1, 0, none⟩) (by show w.heap.size + 1 + 1 ≠ w.heap.size + 1; omega) _).set 0 _
  rw [← hw8]
  refine ⟨by simp, .inl ⟨_, _, rfl, run_takeDeferred K8, ?_⟩⟩
  have n1 : w.heap.size + 1 ≠ D := by omega
  have n2 : w.heap.size + 1 + 1 ≠ D := by omega
  refine ⟨_, results_rows rfl _ _ (w.heap.size + 1) (w.heap.size + 1 + 1) A5 N e5 0 rfl rfl (bC0 (blk_put B48 n1 _)) (bC0 (blk_put B58 n2 _)), ?_⟩
  have O8 := HOW.out.tch T8 (fun b e => by rcases e with e | e <;> omega) (fun b q e => by
   obtain ⟨cs, z⟩ := HOW.out.blk_at q
   rcases e with e | e
   · rw [e] at z; exact absurd (bTy z HO2.out) (by decide)
   · rw [e] at z; exact absurd (bTy z HFB.out) (by decide))
  refine ⟨A5, e5, R, rfl, ?_, HMP.out, fun r hr => ?_⟩
  · refine O8.tch (Tch.putObj w8 D _) (fun b e => by rw [e]; omega) (fun b q e => ?_)
    obtain ⟨cs, z⟩ := O8.blk_at q
    unfold Blk at z
    rw [e, K8] at z
    cases z
  · refine QB.put ((HQB.out r hr).tchT T8 (fun b e => ?_)) K8 rfl _
    rcases e with e | e
    · rw [e]; exact ⟨_, _, HO2.out, by unfold tyB; decide⟩
    · rw [e]; exact ⟨_, _, HFB.out, by unfold tyB; decide⟩
end
end
section
open Go.RowKit
abbrev ringC (L : Pl) (a d l : Int) (life base : Nat) : List Value := [.pointer (some ⟨L.dp, 0, none⟩), .pointer (some ⟨L.p, 0, none⟩), .int .i64 a, .int .i64 d, .int .i64 l, .int .u64 (life : Int), .int .i64 (base : Int)]
abbrev logC (L : Pl) (a d l : Int) (life base seq : Nat) : List Value := [.pointer (some ⟨L.dp, 0, none⟩), .pointer (some ⟨L.p, 0, none⟩), .int .i64 a, .int .i64 d, .int .i64 l, .int .u64 (life : Int), .int .i64 (base : Int), .int .i64 (seq : Int)]
def logN (l : Int) (k : Nat) : Nat := 4 + k % l.toNat
theorem logN_lt {a d l : Int} (g : Geo a d l) (k : Nat) : ((logN l k : Nat) : Int) < sizeI a d l ∧ logN l k ≤ 1023 := by
 obtain ⟨h3, h4⟩ := g.l
 have hp := (pgE a d l).1
 have := Nat.mod_lt k (show 0 < l.toNat by omega)
 unfold logN sizeI
 omega
section
variable {w0 w w' : World} {L : Pl} {m : Mc} {n : Nat} {a d l : Int}
set_option maxRecDepth 100000 in
set_option maxHeartbeats 1000000 in
theorem walRight_any (h : MSt w0 L m w) (f : Fit m a d l) (life base : Nat) (hb : base ≤ 1073741824) : Calls Tryz.prog 133 #[.agg #[.pointer (some ⟨L.dp, 0, none⟩), .pointer (some ⟨L.p, 0, none⟩), .int .i64 a, .int .i64 d, .int .i64 l, .int .u64 (life : Int), .int .i64 (base : Int)]] w fun e w' => e = .returned (.int .i64 0) ∧ Gr w w' := by
 obtain ⟨W, hW⟩ : ∃ W, W = w.alloc (.cells #[.pointer (some ⟨L.dp, 0, none⟩), .pointer (some ⟨L.p, 0, none⟩), .int .i64 a, .int .i64 d, .int .i64 l, .int .u64 (life : Int), .int .i64 (base : Int)] 179) := ⟨_, rfl⟩
 have G0 : Hid (Gr w W) := by rw [hW]; exact Gr.alloc _ _
 have B0 : Hid (Blk W w.heap.size 179 (ringC L a d l life base)) := by rw [hW]; exact Blk.new w _ _
 have HW := Lib.hid hW; clear hW
 have HR := Lib.hid (fun wr => gRa a d l wr)
 rw [f.g.r] at HR
 have HS := Lib.hid (fun wr => gSize_any a d l wr f.g)
 have HD := Lib.hid (fun wr (g : Gr w wr) => (h.mono g).size)
 rw [f.s] at HD
 generalize sizeI a d l = q at *
 have t1 : (q != q) = false := by simp
 have t2 : decide ((base : Int) < 0) = false := decide_eq_false (by omega)
 have t3 : decide ((1073741824 : Int) < (base : Int)) = false := decide_eq_false (by omega)
 clear h f
 go_enter Tryz.func133, Tryz.ntmps133
 go_upto_region 3 with fail
 rw [← HW.out]
 refine wp_region_quiet (C := fun w' => Below (W).heap.size (W) w') (by kernel_rfl) (by kernel_rfl) (Below.refl _ _).drew ?_
 simp only
 repeat (first
  | go_big_quiet_skip
  | (go_big_quiet_want
     apply Exists.intro
     refine ⟨fun wq hq => ?_, ?_⟩
     · (have k0 := (B0.out.mono hq).cell 0; have k2 := (B0.out.mono hq).cell 2; have k3 := (B0.out.mono hq).cell 3; have k4 := (B0.out.mono hq).cell 4; have k6 := (B0.out.mono hq).cell 6
        go_simp
        first
         | done
         | exact rfl
         | (with_reducible exact ⟨rfl, rfl⟩)
         | (first | (go_at_call 56; exact (HR.out wq).mono fun e w2 ⟨he, hb⟩ => ⟨he, bBo hq hb⟩) | (go_at_call 58; exact (HS.out wq).mono fun e w2 ⟨he, hb⟩ => ⟨he, bBo hq hb⟩) | (go_at_call 57; exact (HD.out wq (G0.out.trans hq)).mono fun e w2 ⟨he, hb⟩ => ⟨he, hb ▸ hq⟩)))
     go_simp
     go_big_quiet_on))
 refine wpQuiet_nil ?_
 intro wq hq
 go_wp2_with fail
 go_ret
 exact ⟨rfl, G0.out.trans hq⟩
set_option maxRecDepth 100000 in
set_option maxHeartbeats 1000000 in
theorem walPlace_any (g : Geo a d l) (life base i : Nat) (hb : base + i ≤ 1099511627776) (w : World) : Calls Tryz.prog 200 #[.agg #[.pointer (some ⟨L.dp, 0, none⟩), .pointer (some ⟨L.p, 0, none⟩), .int .i64 a, .int .i64 d, .int .i64 l, .int .u64 (life : Int), .int .i64 (base : Int)], .int .i64 (i : Int)] w fun e w' => e = .returned (.int .i64 ((logN l (base + i) : Nat) : Int)) ∧ Gr w w' := by
 have G0 : Hid (Gr w (w.alloc (.cells #[.pointer (some ⟨L.dp, 0, none⟩), .pointer (some ⟨L.p, 0, none⟩), .int .i64 a, .int .i64 d, .int .i64 l, .int .u64 (life : Int), .int .i64 (base : Int)] 179))) := Gr.alloc _ _
 have HL := Lib.hid (fun wr => gLog_any a d l (base + i) wr g hb)
 obtain ⟨v, hv⟩ : ∃ v, v = logN l (base + i) := ⟨_, rfl⟩
 have hv' : 4 + (base + i) % l.toNat = v := by rw [hv]; rfl
 rw [← hv]
 rw [hv', show (((base + i : Nat) : Int)) = (base : Int) + (i : Int) by omega] at HL
 have wi : IntKind.i64.wrap ((base : Int) + (i : Int)) = (base : Int) + (i : Int) := IntWalk.i64_in _ (by omega)
 clear g hv hv'
 go_enter Tryz.func200, Tryz.ntmps200
 go_wp2_with fail
 refine (HL.out _).mono ?_
 rintro e w1 ⟨rfl, g1⟩
 have G1 := Lib.hid (G0.out.trans g1)
 clear g1
 go_wp2_with fail
 go_ret
 exact ⟨rfl, G1.out⟩
set_option maxRecDepth 100000 in
set_option maxHeartbeats 1000000 in
theorem walFits_any (g : Geo a d l) (k : Nat) (w : World) : Calls Tryz.prog 111 #[.agg #[.int .i64 a, .int .i64 d, .int .i64 l], .int .i64 (k : Int)] w fun e w' => e = .returned (.bool (decide ((k : Int) < l))) ∧ Gr w w' := by
 have HR := Lib.hid (gRa a d l (w.alloc (.cells #[.int .i64 a, .int .i64 d, .int .i64 l] 23)))
 rw [g.r] at HR
 have HC : Hid (Blk (w.alloc (.cells #[.int .i64 a, .int .i64 d, .int .i64 l] 23)) w.heap.size 23 [.int .i64 a, .int .i64 d, .int .i64 l]) := Blk.new w _ _
 have G0 : Hid (Gr w (w.alloc (.cells #[.int .i64 a, .int .i64 d, .int .i64 l] 23))) := Gr.alloc _ _
 have t : decide ((0 : Int) ≤ (k : Int)) = true := decide_eq_true (by omega)
 clear g
 go_enter Tryz.func111, Tryz.ntmps111
 go_wp2_with fail
 refine HR.out.mono ?_
 rintro e w1 ⟨rfl, g1⟩
 have k2 := (HC.out.mono g1).cell 2
 have G1 : Hid (Gr w w1) := G0.out.trans g1
 clear g1
 go_wp2_with fail
 go_ret
 exact ⟨rfl, G1.out⟩
set_option maxRecDepth 100000 in
set_option maxHeartbeats 1000000 in
theorem walNew_any (h : MSt w0 L m w) (f : Fit m a d l) (life base : Nat) (hb : base ≤ 1073741824) : Calls Tryz.prog 147 #[.pointer (some ⟨L.dp, 0, none⟩), .pointer (some ⟨L.p, 0, none⟩), .agg #[.int .i64 a, .int .i64 d, .int .i64 l], .int .u64 (life : Int), .int .i64 (base : Int)] w fun e w' => ∃ pl, e = .returned (.tuple #[.pointer (some ⟨pl, 0, none⟩), .int .i64 0]) ∧ Gr w w' ∧ w.heap.size ≤ pl ∧ Blk w' pl 193 (logC L a d l life base 0) := by
 have g0 : Gr w ((w.alloc (.cells #[.int .i64 a, .int .i64 d, .int .i64 l] 23)).alloc (.cells #[.pointer (some ⟨L.dp, 0, none⟩), .pointer (some ⟨L.p, 0, none⟩), .int .i64 a, .int .i64 d, .int .i64 l, .int .u64 (life : Int), .int .i64 (base : Int), .int .i64 0] 193)) := (Gr.alloc _ _).trans (Gr.alloc _ _)
 have ab : Blk ((w.alloc (.cells #[.int .i64 a, .int .i64 d, .int .i64 l] 23)).alloc (.cells #[.pointer (some ⟨L.dp, 0, none⟩), .pointer (some ⟨L.p, 0, none⟩), .int .i64 a, .int .i64 d, .int .i64 l, .int .u64 (life : Int), .int .i64 (base : Int), .int .i64 0] 193)) (w.heap.size + 1) 193 (logC L a d l life base 0) := heap_alloc2_new w _ _
 obtain ⟨W, hW⟩ : ∃ W, W = (w.alloc (.cells #[.int .i64 a, .int .i64 d, .int .i64 l] 23)).alloc (.cells #[.pointer (some ⟨L.dp, 0, none⟩), .pointer (some ⟨L.p, 0, none⟩), .int .i64 a, .int .i64 d, .int .i64 l, .int .u64 (life : Int), .int .i64 (base : Int), .int .i64 0] 193) := ⟨_, rfl⟩
 rw [← hW] at g0 ab
 have HRI := Lib.hid (walRight_any (h.mono g0) f life base hb)
 have G0 := Lib.hid g0; have AB := Lib.hid ab; have HW := Lib.hid hW
 clear hW g0 ab h f
 go_enter Tryz.func147, Tryz.ntmps147
 go_upto_region 2 with fail
 rw [← HW.out]
 have k0 := AB.out.cell 0
 have k1 := AB.out.cell 1
 have k2 := AB.out.cell 2
 have k3 := AB.out.cell 3
 have k4 := AB.out.cell 4
 have k5 := AB.out.cell 5
 have k6 := AB.out.cell 6
 go_wp2_with fail
 refine HRI.out.mono ?_
 rintro e w1 ⟨rfl, g1⟩
 have G1 := Lib.hid (G0.out.trans g1)
 have AB1 := Lib.hid (AB.out.mono g1)
 clear k0 k1 k2 k3 k4 k5 k6 g1
 go_wp2_with fail
 go_ret2
 exact ⟨_, rfl, G1.out, Nat.le_succ _, AB1.out⟩
set_option maxRecDepth 100000 in
set_option maxHeartbeats 1000000 in
theorem walRoom_any (pl life base seq : Nat) (w : World) (g : Geo a d l) (hs : (seq : Int) ≤ l) (hl : Blk w pl 193 (logC L a d l life base seq)) : Calls Tryz.prog 239 #[.pointer (some ⟨pl, 0, none⟩)] w fun e w' => e = .returned (.int .i64 (l - (seq : Int))) ∧ Gr w w' := by
 obtain ⟨h3, h4⟩ := g.l
 have HL := Lib.hid hl
 have ws : IntKind.i64.wrap (l - (seq : Int)) = l - (seq : Int) := IntWalk.i64_in _ (by omega)
 clear hl g
 go_enter Tryz.func239, Tryz.ntmps239
 go_upto_region 3 with fail
 refine wp_region_quiet (C := fun w' => Below (w).heap.size (w) w') (by kernel_rfl) (by kernel_rfl) (Below.refl _ _).drew ?_
 simp only
 repeat (first
  | go_big_quiet_skip
  | (go_big_quiet_want
     apply Exists.intro
     refine ⟨fun wq hq => ?_, ?_⟩
     · (have k4 := (HL.out.mono hq).cell 4; have k7 := (HL.out.mono hq).cell 7
        go_simp
        first
         | done
         | exact rfl
         | (with_reducible exact ⟨rfl, rfl⟩)
         | fail)
     go_simp
     go_big_quiet_on))
 refine wpQuiet_nil ?_
 intro wq hq
 go_wp2_with fail
 go_ret
 exact ⟨rfl, hq⟩
end
end
end Go.Proofs.YtdkmlmbehlooiaaGreatDoor
