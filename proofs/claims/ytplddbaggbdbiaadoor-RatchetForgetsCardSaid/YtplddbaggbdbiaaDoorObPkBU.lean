/- Own texts of this claim, one behind the other. No condition. -/
import Derived.Test.YtplddbaggbdbiaaDoorObPkBT

/- Chains of terms: what stands in memory between two gens that are asked for. No condition. -/
namespace Go.Proofs.YtplddbaggbdbiaaDoor
open Go.RowKit
set_option linter.unusedVariables false
set_option linter.unusedSimpArgs false
theorem setF_all {w : World} {g : Nat} {t : TypeId} {u0 u1 u2 v0 v1 v2 : Value} (h : Blk w g t [u0, u1, u2]) :
    Blk (((w.setCell ⟨g, 0, none⟩ v0).setCell ⟨g, 1, none⟩ v1).setCell ⟨g, 2, none⟩ v2) g t [v0, v1, v2] ∧ (((w.setCell ⟨g, 0, none⟩ v0).setCell ⟨g, 1, none⟩ v1).setCell ⟨g, 2, none⟩ v2).heap.size = w.heap.size ∧ (∀ b, b ≠ g → (((w.setCell ⟨g, 0, none⟩ v0).setCell ⟨g, 1, none⟩ v1).setCell ⟨g, 2, none⟩ v2).heap[b]? = w.heap[b]?) ∧ ∀ N, N ≤ g → Below N w (((w.setCell ⟨g, 0, none⟩ v0).setCell ⟨g, 1, none⟩ v1).setCell ⟨g, 2, none⟩ v2) :=
  ⟨((h.set 0 _).set 1 _).set 2 _, by simp [World.setCell], fun b hb => (Below.heap_setCell _ ⟨g, 2, none⟩ _ b hb).trans ((Below.heap_setCell _ ⟨g, 1, none⟩ _ b hb).trans (Below.heap_setCell _ ⟨g, 0, none⟩ _ b hb)), fun N hN => (((Below.refl _ _).setCell (p := ⟨g, 0, none⟩) hN _).setCell (p := ⟨g, 1, none⟩) hN _).setCell (p := ⟨g, 2, none⟩) hN _⟩
/-- Just the block nb, a chain's, has turned; or it is new. -/
structure Sc (w w' : World) (nb : Nat) : Prop where
  size : w.heap.size ≤ w'.heap.size
  ot : ∀ b, b < w.heap.size → b ≠ nb → w'.heap[b]? = w.heap[b]?
  ch : nb < w.heap.size → ∃ cs, Blk w nb 41 cs
theorem Sc.one {w w' : World} {nb : Nat} {cs : List Value} (hp : Blk w nb 41 cs) (hs : w.heap.size ≤ w'.heap.size) (h : ∀ b, b ≠ nb → w'.heap[b]? = w.heap[b]?) : Sc w w' nb := ⟨hs, fun b _ hb => h b hb, fun _ => ⟨cs, hp⟩⟩
theorem Sc.gr {w w' : World} {nb : Nat} (h : Gr w w') (hn : w.heap.size ≤ nb) : Sc w w' nb := ⟨h.size, fun b hb _ => h.block b hb, fun q => absurd q (by omega)⟩
section
variable {w0 w w' : World} {nb : Nat}
theorem Sc.blk (h : Sc w w' nb) {g : Nat} {t : TypeId} {cs : List Value} (ht : t ≠ 41) (hb : Blk w g t cs) : Blk w' g t cs := by
  refine (h.ot g hb.lt (fun e => ?_)).trans hb
  subst e
  obtain ⟨ds, hd⟩ := h.ch hb.lt
  unfold Blk at hb hd
  rw [hb] at hd
  injection hd with hd
  injection hd with _ hd
  exact ht hd
theorem Sc.blk' (h : Sc w w' nb) {g : Nat} {t : TypeId} {cs : List Value} (hg : g ≠ nb) (hb : Blk w g t cs) : Blk w' g t cs := (h.ot g hb.lt hg).trans hb
theorem Sc.oc (h : Sc w w' nb) : OC w w' := ⟨h.size, fun b hb h1 _ => h.ot b hb (fun e => by
  subst e
  obtain ⟨ds, hd⟩ := h.ch hb
  exact h1 _ _ hd)⟩
theorem RowO.sc {r : BRow} (h : RowO w0 w r) (s : Sc w w' nb) (hb : Below w0.heap.size w0 w') : RowO w0 w' r := own_of_blk (fun g cs k => s.blk (by decide) k) h hb
theorem OwnT.sc {v : Value} {M : List Wr} (h : OwnT w0 w v M) (s : Sc w w' nb) (hb : Below w0.heap.size w0 w') : OwnT w0 w' v M :=
  ⟨own_of_blk (fun g cs k => s.blk (by decide) k) h.1 hb, fun x hx => ⟨(h.2 x hx).1.sc s hb, (h.2 x hx).2⟩⟩
/-- What was told, in a row of the call's own. -/
def ToldO (w0 w : World) (v : Value) (R : List BRow) : Prop := Own w0 w 31 1 v R.length (R.map BRow.v) ∧ ∀ r ∈ R, RowO w0 w r
theorem ToldO.nil (hb : Below w0.heap.size w0 w) : ToldO w0 w (.slice none 0 0) [] := ⟨Own.nil' hb _ _, fun r hr => by cases hr⟩
theorem ToldO.mono {v : Value} {R : List BRow} (h : ToldO w0 w v R) (hg : Gr w w') : ToldO w0 w' v R := ⟨h.1.mono hg, fun r hr => (h.2 r hr).mono hg⟩
theorem ToldO.sc {v : Value} {R : List BRow} (h : ToldO w0 w v R) (s : Sc w w' nb) (hb : Below w0.heap.size w0 w') : ToldO w0 w' v R := ⟨own_of_blk (fun g cs k => s.blk (by decide) k) h.1 hb, fun r hr => (h.2 r hr).sc s hb⟩
theorem ToldO.fs {v : Value} {R : List BRow} (h : ToldO w0 w v R) (hf : FS w w') (hb : Below w0.heap.size w0 w') : ToldO w0 w' v R := ⟨hf.own h.1 (by decide) (by decide) (by decide) hb, fun r hr => (h.2 r hr).fs hf hb⟩
/-! ### a row of rows is put behind others -/
section
variable {v v' : Value} {n n' : Nat} {xs xs' : List Value}
theorem blk_keptR (h : Own w0 w 31 1 v n xs) (hk : Kept w w' v v') {g : Nat} {t : TypeId} {cs : List Value} (ht : t ≠ 31) (hb : Blk w g t cs) : Blk w' g t cs := (hk.1 g hb.lt (h.not_blk hb (fun e => ht e.symm))).trans hb
theorem RowO.keptR {r : BRow} (hr : RowO w0 w r) (h : Own w0 w 31 1 v n xs) (ho : Own w0 w' 31 1 v' n' xs') (hk : Kept w w' v v') : RowO w0 w' r :=
  own_of_blk (fun g cs hb => blk_keptR h hk (by decide) hb) hr ho.below
theorem OwnT.keptR {u : Value} {M : List Wr} (hr : OwnT w0 w u M) (h : Own w0 w 31 1 v n xs) (ho : Own w0 w' 31 1 v' n' xs') (hk : Kept w w' v v') : OwnT w0 w' u M :=
  ⟨own_of_blk (fun g cs hb => blk_keptR h hk (by decide) hb) hr.1 ho.below, fun x hx => ⟨(hr.2 x hx).1.keptR h ho hk, (hr.2 x hx).2⟩⟩
theorem SymS.keptR {p g bm bs : Nat} {T : List Nd} (hs : SymS w0 w p g bm bs T) (h : Own w0 w 31 1 v n xs) (ho : Own w0 w' 31 1 v' n' xs') (hk : Kept w w' v v') : SymS w0 w' p g bm bs T := by
  obtain ⟨vl, vs, ht⟩ := hs.t
  refine ⟨blk_keptR h hk (by decide) hs.blk, ⟨vl, vs, ht.keepB (fun b hb => ?_) ho.below⟩, hs.i⟩
  rcases hb with rfl | rfl | hb | hb
  · exact hk.1 _ ht.x.blk.lt (h.not_blk ht.x.blk (by decide))
  · obtain ⟨es, clock, hm, _⟩ := ht.m
    exact hk.1 _ (Array.getElem?_eq_some_iff.1 hm).1 (fun q => h.not_map hm q)
  · exact hk.1 _ (ht.x.l.1.lt b hb).2 (own_other ht.x.l h (by decide) hb)
  · exact hk.1 _ (ht.x.s.1.lt b hb).2 (own_other ht.x.s h (by decide) hb)
theorem ToldO.push {R : List BRow} {r : BRow} (hr : RowO w0 w r) (h : ToldO w0 w v R) (ho : Own w0 w' 31 1 v' (R.length + 1) (R.map BRow.v ++ [r.v])) (hk : Kept w w' v v') : ToldO w0 w' v' (R ++ [r]) := by
  refine ⟨by rw [List.length_append, List.map_append]; exact ho, fun x hx => ?_⟩
  rcases List.mem_append.1 hx with hx | hx
  · exact (h.2 x hx).keptR h.1 ho hk
  · rw [List.mem_singleton.1 hx]; exact hr.keptR h.1 ho hk
end
end
/-- Ahead of gen k of those that are asked for. -/
def FgMid (w0 W : World) (p g gc bm bs N L : Nat) (v : Value) : Prop := ∃ T pn cur A n c B d M cl kl R, Rd w0 W p g bm bs gc T pn cur (R.map BRow.l) A n c B d M cl kl ∧ ToldO w0 W v R ∧ R.length ≤ N ∧ T.length ≤ L
theorem FgMid.up {w0 W : World} {p g gc bm bs N L N' L' : Nat} {v : Value} (h : FgMid w0 W p g gc bm bs N L v) (hn : N ≤ N') (hl : L ≤ L') : FgMid w0 W p g gc bm bs N' L' v := by
  obtain ⟨T, pn, cur, A, n, c, B, d, M, cl, kl, R, h1, h2, h3, h4⟩ := h
  exact ⟨T, pn, cur, A, n, c, B, d, M, cl, kl, R, h1, h2, by omega, by omega⟩
/-- What At has told, one way or the other. -/
def LawP (w0 w w' : World) (p g bm bs : Nat) (T : List Nd) (told : List (List UInt8)) (A1 : Option Addr) (n1 c1 : Nat) (q : Int) (A2 : Option Addr) (n2 c2 : Nat) (A3 : Option Addr) (m3 c3 : Nat) (f : Int) : Prop :=
  ((f = 9 ∨ f = 10) ∧ Gr w w') ∨ (f = 0 ∧ ∃ key T' pn' cur' M cl kl, q = ((pn' : Nat) : Int) ∧ m3 = M.length ∧ RowO w0 w' ⟨A1, n1, c1, key⟩ ∧ RowO w0 w' ⟨A2, n2, c2, cur'⟩ ∧ OwnT w0 w' (.slice A3 M.length c3) M ∧ SymS w0 w' p g bm bs T' ∧ T'.length ≤ T.length + 36 ∧ ChS T' pn' cur' (M.map Wr.kk) (told ++ [key]) cl kl ∧ pn' ≤ 31 ∧ M.length ≤ 8 ∧ Rf w0 w w')
def RetL2 (w0 w : World) (p g bm bs : Nat) (T : List Nd) (told : List (List UInt8)) (e : Ending) (w' : World) : Prop :=
  ∃ A1 n1 c1 q A2 n2 c2 A3 m3 c3 f, e = .returned (.tuple #[.slice A1 n1 c1, .agg #[.int .i64 q, .slice A2 n2 c2, .slice A3 m3 c3], .int .i64 f]) ∧ LawP w0 w w' p g bm bs T told A1 n1 c1 q A2 n2 c2 A3 m3 c3 f
theorem RetLaw.two {w0 w : World} {p g bm bs : Nat} {T : List Nd} {told : List (List UInt8)} {e : Ending} {w' : World} (h : RetLaw w0 w p g bm bs T told e w') : RetL2 w0 w p g bm bs T told e w' := by
  rcases h with ⟨f, hf, rfl, hg⟩ | ⟨A1, n1, c1, key, T', pn', cur', A2, n2, c2, A3, c3, M, cl, kl, rfl, r1, r2, o3, s3, hT, ch, hp, hm, rf⟩
  · exact ⟨none, 0, 0, 0, none, 0, 0, none, 0, 0, f, rfl, .inl ⟨hf, hg⟩⟩
  · exact ⟨A1, n1, c1, _, A2, n2, c2, A3, M.length, c3, 0, rfl, .inr ⟨rfl, key, T', pn', cur', M, cl, kl, rfl, rfl, r1, r2, o3, s3, hT, ch, hp, hm, rf⟩⟩
/-- Behind the statement that asks for a gen: the slots of the key, of the chain, of the fault. -/
def FgCut (w0 W : World) (p g gc bm bs N L : Nat) (v v9 v10 v11 : Value) : Prop :=
  (∃ (f : Int) (nb : Nat), (f = 9 ∨ f = 10) ∧ v10 = .pointer (some ⟨nb, 0, none⟩) ∧ v11 = .int .i64 f ∧ FgMid w0 W p g gc bm bs N L v) ∨
  (∃ nb A1 n1 c1 key T' pn' cur' A2 n2 c2 A3 c3 M cl kl R pn0 A0 n0 c0 B0 m0 d0, v9 = .slice A1 n1 c1 ∧ v10 = .pointer (some ⟨nb, 0, none⟩) ∧ v11 = .int .i64 0 ∧ Blk W gc 41 [.int .i64 ((pn0 : Nat) : Int), .slice A0 n0 c0, .slice B0 m0 d0] ∧ Blk W nb 41 [.int .i64 ((pn' : Nat) : Int), .slice A2 n2 c2, .slice A3 M.length c3] ∧ nb ≠ gc ∧ RowO w0 W ⟨A1, n1, c1, key⟩ ∧ RowO w0 W ⟨A2, n2, c2, cur'⟩ ∧ OwnT w0 W (.slice A3 M.length c3) M ∧ SymS w0 W p g bm bs T' ∧ T'.length ≤ L + 36 ∧ ChS T' pn' cur' (M.map Wr.kk) (R.map BRow.l ++ [key]) cl kl ∧ pn' ≤ 31 ∧ M.length ≤ 8 ∧ ToldO w0 W v R ∧ R.length ≤ N)
theorem fgCut_fin {w0 wr w w10 W : World} {p g gc bm bs N L nb : Nat} {T : List Nd} {pn : Nat} {cur : List UInt8} {R : List BRow} {A : Option Addr} {n c : Nat} {B : Option Addr} {d : Nat} {M0 : List Wr} {cl kl : List Nat} {v : Value}
    (h : Rd w0 wr p g bm bs gc T pn cur (R.map BRow.l) A n c B d M0 cl kl) (td : ToldO w0 wr v R) (hR : R.length ≤ N) (hT : T.length ≤ L) (hg : Gr wr w) {A1 : Option Addr} {n1 c1 : Nat} {q : Int} {A2 : Option Addr} {n2 c2 : Nat} {A3 : Option Addr} {m3 c3 : Nat} {f : Int}
    (lp : LawP w0 w w10 p g bm bs T (R.map BRow.l) A1 n1 c1 q A2 n2 c2 A3 m3 c3 f) (sc : Sc w10 W nb) (hbel : Below w0.heap.size w10 W) (hne : nb ≠ gc) (hnb : Blk W nb 41 [.int .i64 q, .slice A2 n2 c2, .slice A3 m3 c3]) :
    FgCut w0 W p g gc bm bs N L v (.slice A1 n1 c1) (.pointer (some ⟨nb, 0, none⟩)) (.int .i64 f) := by
  have h1 := h.gr hg; have t1 := td.mono hg
  rcases lp with ⟨hf, hg2⟩ | ⟨rfl, key, T', pn', cur', M, cl', kl', rfl, rfl, r1, r2, o3, s3, hT3, ch3, hp3, hm3, rf⟩
  · have h2 := h1.gr hg2
    have hb : Below w0.heap.size w0 W := h2.sy.below.trans hbel
    exact .inl ⟨f, nb, hf, rfl, rfl, T, pn, cur, A, n, c, B, d, M0, cl, kl, R, ⟨h2.sy.oc sc.oc hb, sc.blk' (fun e => hne e.symm) h2.bk, h2.cu.sc sc hb, h2.sk.sc sc hb, h2.ch, h2.pl, h2.ml⟩, (t1.mono hg2).sc sc hb, hR, hT⟩
  · have hb : Below w0.heap.size w0 W := s3.below.trans hbel
    have hgc : Blk w10 gc 41 [.int .i64 (pn : Int), .slice A n c, .slice B M0.length d] := rf.fs.ch h1.bk
    exact .inr ⟨nb, A1, n1, c1, key, T', pn', cur', A2, n2, c2, A3, c3, M, cl', kl', R, pn, A, n, c, B, _, d, rfl, rfl, rfl, sc.blk' (fun e => hne e.symm) hgc, hnb, hne, r1.sc sc hb, r2.sc sc hb, o3.sc sc hb, s3.oc sc.oc hb, by omega, ch3, hp3, hm3, (t1.fs rf.fs s3.below).sc sc hb, hR⟩
/-! ### who knows: behind one more derived term -/
theorem KnF.kv {w0 w : World} {gk g bk N : Nat} {T : List Nd} {l : List Int} {vk vp vi : Value} (h : KnF w0 w gk g bk N T l vk vp vi) : ∀ b, KV gk vk vp b → w0.heap.size ≤ b ∧ b < w.heap.size := fun b q => by
  rcases q with rfl | q | q
  · exact ⟨h.ge, h.blk.lt⟩
  · rcases h.kp with ⟨rfl, rfl⟩ | ⟨q1, R, q2, _⟩
    · cases q
    · exact q1.1.lt b q
  · rcases h.kp with ⟨rfl, rfl⟩ | ⟨q1, R, q2, _⟩
    · cases q
    · exact q2.1.1.lt b q
section
variable {w w15 W w' w'' : World} {gk g bk N bm : Nat} {T T' : List Nd} {l : List Int} {vk vp vi vl vs vl' vs' : Value}
theorem fg_off (kn : KnF w15 W gk g bk N T l vk vp vi) (tb : TbF w w15 g T vl vs bm) (tc : TChM W w' g bm vl vs vl' vs') : ∀ b, (b = g ∨ b = bm ∨ vl'.ownBlock = some b ∨ vs'.ownBlock = some b) → ¬ KV gk vk vp b := fun b hb q => by
  have h1 := kn.kv b q
  rcases hb with rfl | rfl | hb | hb
  · have := tb.x.blk.lt; omega
  · have := tb.m.lt; omega
  · rcases tc.ol b hb with e | e
    · have := (tb.x.l.1.lt b e).2; omega
    · omega
  · rcases tc.os b hb with e | e
    · have := (tb.x.s.1.lt b e).2; omega
    · omega
theorem fg_raw (kn : KnF w15 W gk g bk N T l vk vp vi) (tb : TbF w w15 g T vl vs bm) (hle : w.heap.size ≤ w15.heap.size) (tc : TChM W w' g bm vl vs vl' vs') (tb' : TbF w w' g T' vl' vs' bm) (g2 : Gr w' w'') (ho : Onto T T') :
    ∃ k0 R d, RawK w w'' gk g bk N T' l vk vp vi k0 R d := by
  have hb : Below w.heap.size w w'' := tb'.x.l.below.trans (Below.mono g2 tb'.x.l.below.size)
  refine (kn.across hle (fun b h1 h2 => ?_) hb).raw ho
  rw [g2.block b (Nat.lt_of_lt_of_le h2 tc.size)]
  refine tc.keep b h2 (fun e => ?_) (fun e => ?_) (fun e => ?_) (fun e => ?_)
  · have := tb.x.blk.lt; omega
  · have := tb.m.lt; omega
  · have := (tb.x.l.1.lt b e).2; omega
  · have := (tb.x.s.1.lt b e).2; omega
theorem fg_tb (kn : KnF w15 W gk g bk N T l vk vp vi) (tb : TbF w w15 g T vl vs bm) (tc : TChM W w' g bm vl vs vl' vs') (tb' : TbF w w'' g T' vl' vs' bm) {W' : World} (t : Tch (KV gk vk vp) w'' W') (hb : Below w.heap.size w W') : TbF w W' g T' vl' vs' bm := by
  have hoff := fg_off kn tb tc
  refine tb'.keepB (fun b hb => t.keep b ?_ (hoff b hb)) hb
  rcases hb with rfl | rfl | hb | hb
  · exact tb'.x.blk.lt
  · exact tb'.m.lt
  · exact (tb'.x.l.1.lt b hb).2
  · exact (tb'.x.s.1.lt b hb).2
theorem fg_bel (kn : KnF w15 W gk g bk N T l vk vp vi) (hle : w.heap.size ≤ w15.heap.size) {W' : World} (h : Below w.heap.size w w'') (t : Tch (KV gk vk vp) w'' W') : Below w.heap.size w W' := t.below h h.size (fun b q => by have := (kn.kv b q).1; omega)
end
/-- Blocks below B stay. -/
theorem RowO.old {w0 w15 w w' : World} {r : BRow} (h15 : RowO w0 w15 r) (h : RowO w0 w r) (hk : ∀ b, b < w15.heap.size → w'.heap[b]? = w.heap[b]?) (hb : Below w0.heap.size w0 w') : RowO w0 w' r := own_keep h (Nat.le_refl _) (fun b e => hk b (h15.1.lt b e).2) hb
theorem OwnT.old {w0 w15 w w' : World} {v : Value} {M : List Wr} (h15 : OwnT w0 w15 v M) (h : OwnT w0 w v M) (hk : ∀ b, b < w15.heap.size → w'.heap[b]? = w.heap[b]?) (hb : Below w0.heap.size w0 w') : OwnT w0 w' v M :=
  ⟨own_keep h.1 (Nat.le_refl _) (fun b e => hk b (h15.1.1.lt b e).2) hb, fun x hx => ⟨(h15.2 x hx).1.old (h.2 x hx).1 hk hb, (h.2 x hx).2⟩⟩
theorem ToldO.old {w0 w15 w w' : World} {v : Value} {R : List BRow} (h15 : ToldO w0 w15 v R) (h : ToldO w0 w v R) (hk : ∀ b, b < w15.heap.size → w'.heap[b]? = w.heap[b]?) (hb : Below w0.heap.size w0 w') : ToldO w0 w' v R :=
  ⟨own_keep h.1 (Nat.le_refl _) (fun b e => hk b (h15.1.1.lt b e).2) hb, fun x hx => (h15.2 x hx).old (h.2 x hx) hk hb⟩
theorem fg_end {w w15 W w' w'' w3 : World} {p g bm bs gc : Nat} {T T' : List Nd} {pn : Nat} {cur : List UInt8} {R : List BRow} {A : Option Addr} {n c : Nat} {B : Option Addr} {d : Nat} {M : List Wr} {cl kl kl' : List Nat} {v vl' vs' : Value} {N L : Nat}
    (rd : Rd w w15 p g bm bs gc T pn cur (R.map BRow.l) A n c B d M cl kl) (td : ToldO w w15 v R) (gW : Gr w15 W) (fs : FS W w') (sy : SymS w w' p g bm bs T') (g2 : Gr w' w'') (tk : ∀ b, b < w15.heap.size → w3.heap[b]? = w''.heap[b]?) (tb3 : TbF w w3 g T' vl' vs' bm)
    (ch : ChS T' pn cur (M.map Wr.kk) (R.map BRow.l) cl kl') (hN : R.length ≤ N) (hL : T'.length ≤ L) : FgMid w w3 p g gc bm bs N L v := by
  have hb' := sy.below
  have hb'' : Below w.heap.size w w'' := hb'.trans (Below.mono g2 hb'.size)
  have hb3 : Below w.heap.size w w3 := tb3.x.l.below
  have rW := rd.gr gW
  have hp : p < w15.heap.size := rd.sy.blk.lt
  have hg : gc < w15.heap.size := rd.bk.lt
  exact ⟨T', pn, cur, A, n, c, B, d, M, cl, kl', R, ⟨⟨(tk p hp).trans (g2.blk sy.blk), ⟨vl', vs', tb3⟩, sy.i⟩, (tk gc hg).trans (g2.blk (fs.ch rW.bk)), rd.cu.old ((rW.cu.fs fs hb').mono g2) tk hb3, rd.sk.old ((rW.sk.fs fs hb').mono g2) tk hb3, ch, rd.pl, rd.ml⟩, td.old (((td.mono gW).fs fs hb').mono g2) tk hb3, hN, hL⟩
theorem FgMid.below {w0 W : World} {p g gc bm bs N L : Nat} {v : Value} (h : FgMid w0 W p g gc bm bs N L v) : Below w0.heap.size w0 W := by
  obtain ⟨T, pn, cur, A, n, c, B, d, M, cl, kl, R, h1, _⟩ := h
  exact h1.sy.below
theorem LawP.size {w0 w w' : World} {p g bm bs : Nat} {T : List Nd} {told : List (List UInt8)} {A1 : Option Addr} {n1 c1 : Nat} {q : Int} {A2 : Option Addr} {n2 c2 : Nat} {A3 : Option Addr} {m3 c3 : Nat} {f : Int} (h : LawP w0 w w' p g bm bs T told A1 n1 c1 q A2 n2 c2 A3 m3 c3 f) : w.heap.size ≤ w'.heap.size := by
  rcases h with ⟨_, h⟩ | ⟨_, _, _, _, _, _, _, _, _, _, _, _, _, _, _, _, _, _, rf⟩
  · exact h.size
  · exact rf.size
theorem LawP.blk {w0 w w' : World} {p g bm bs : Nat} {T : List Nd} {told : List (List UInt8)} {A1 : Option Addr} {n1 c1 : Nat} {q : Int} {A2 : Option Addr} {n2 c2 : Nat} {A3 : Option Addr} {m3 c3 : Nat} {f : Int} (h : LawP w0 w w' p g bm bs T told A1 n1 c1 q A2 n2 c2 A3 m3 c3 f) {b : Nat} {cs : List Value} (hb : Blk w b 41 cs) : Blk w' b 41 cs := by
  rcases h with ⟨_, h⟩ | ⟨_, _, _, _, _, _, _, _, _, _, _, _, _, _, _, _, _, _, rf⟩
  · exact h.blk hb
  · exact rf.fs.ch hb
theorem fg_told {w wc w14 W15 : World} {p g bm bs gc : Nat} {T : List Nd} {pn : Nat} {cur key : List UInt8} {R : List BRow} {A1 : Option Addr} {n1 c1 : Nat} {A2 : Option Addr} {n2 c2 : Nat} {A3 : Option Addr} {c3 : Nat} {M : List Wr} {cl kl : List Nat} {v v14 : Value} {o : Obj} {cs : List Value}
    (td : ToldO w wc v R) (r1 : RowO w wc ⟨A1, n1, c1, key⟩) (r2 : RowO w wc ⟨A2, n2, c2, cur⟩) (o3 : OwnT w wc (.slice A3 M.length c3) M) (s3 : SymS w wc p g bm bs T) (ch : ChS T pn cur (M.map Wr.kk) (R.map BRow.l ++ [key]) cl kl) (hp : pn ≤ 31) (hm : M.length ≤ 8)
    (own : Own w w14 31 1 v14 (R.length + 1) (R.map BRow.v ++ [.slice A1 n1 c1])) (kept : Kept (wc.alloc o) w14 v v14) (hgc : Blk w14 gc 41 cs) (hgw : w.heap.size ≤ gc)
    (hW : W15 = w14.setRow gc #[.int .i64 (pn : Int), .slice A2 n2 c2, .slice A3 M.length c3]) (hcs : cs.length = 3) :
    Rd w W15 p g bm bs gc T pn cur ((R ++ [(⟨A1, n1, c1, key⟩ : BRow)]).map BRow.l) A2 n2 c2 A3 c3 M cl kl ∧ ToldO w W15 v14 (R ++ [⟨A1, n1, c1, key⟩]) := by
  have hal : Gr wc (wc.alloc o) := Gr.alloc _ _
  have h1 := td.1.mono hal
  have hb15 : Below w.heap.size w W15 := by rw [hW]; exact below_row own.below hgw _
  have sc : Sc w14 W15 gc := Sc.one hgc (by rw [hW]; simp [World.setRow]) (fun b hb => by rw [hW]; exact setRow_other w14 gc b _ hb)
  have hnew : Blk W15 gc 41 [.int .i64 (pn : Int), .slice A2 n2 c2, .slice A3 M.length c3] := by rw [hW]; exact setRow_heap w14 gc _ _ _ _ hgc
  have hpush : ToldO w w14 v14 (R ++ [⟨A1, n1, c1, key⟩]) := ToldO.push (r1.mono hal) (td.mono hal) own kept
  have k2 : RowO w w14 ⟨A2, n2, c2, cur⟩ := (r2.mono hal).keptR h1 own kept
  have k3 : OwnT w w14 (.slice A3 M.length c3) M := (o3.mono hal).keptR h1 own kept
  have k4 : SymS w w14 p g bm bs T := (s3.gr hal).keptR h1 own kept
  refine ⟨⟨k4.oc sc.oc hb15, hnew, k2.sc sc hb15, k3.sc sc hb15, ?_, hp, hm⟩, hpush.sc sc hb15⟩
  rw [List.map_append]
  exact ch
theorem okIds_one {T : List Nd} {x : Int} (h : outside T.length x = false) : okIds T [x] = [x] := by simp [okIds, h]
theorem outside_up {n m : Nat} {x : Int} (h : outside n x = false) (hm : n ≤ m) : outside m x = false := by
  unfold outside at *
  simp only [Bool.or_eq_false_iff, decide_eq_false_iff_not] at *
  omega
theorem lrn_snoc (T : List Nd) (cur : List UInt8) (M : List Wr) (j : Nat) (x : Wr) (hx : M[j]? = some x) : lrn T cur ((M.take (j + 1)).map Wr.kk) = lrn T cur ((M.take j).map Wr.kk) ++ [(termB T x.r.l : Int)] := by
  have hj := (List.getElem?_eq_some_iff.1 hx).1
  rw [List.take_add_one, hx]
  simp [lrn, Wr.kk]
end Go.Proofs.YtplddbaggbdbiaaDoor
