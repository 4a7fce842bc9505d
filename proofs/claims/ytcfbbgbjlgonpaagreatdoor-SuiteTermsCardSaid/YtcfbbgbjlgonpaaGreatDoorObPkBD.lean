/- Own texts of this claim, one behind the other. No condition. -/
import Derived.Test.YtcfbbgbjlgonpaaGreatDoorObPkAS
import Derived.Test.YtcfbbgbjlgonpaaGreatDoorObPkAV
import Derived.Test.YtcfbbgbjlgonpaaGreatDoorObPkAW
import Derived.Test.YtcfbbgbjlgonpaaGreatDoorObPkAX
import Derived.Test.YtcfbbgbjlgonpaaGreatDoorObPkBA
import Derived.Test.YtcfbbgbjlgonpaaGreatDoorObPkBC

/- Suites of terms, the program's and the document's: what stands beside one another. No condition. -/
namespace Go.Proofs.YtcfbbgbjlgonpaaGreatDoor
open Go.RowKit
set_option linter.unusedVariables false
set_option linter.unusedSimpArgs false
/-- A type of a table's own cells. -/
def tyT (t : TypeId) : Prop := t = 68 ∨ t = 20 ∨ t = 3 ∨ t = 134
/-- All blocks of cells stay but tables' own, and one slice's. -/
def KD (v : Value) (w w' : World) : Prop := w.heap.size ≤ w'.heap.size ∧ ∀ b a t m, w.heap[b]? = some (.cells a t m) → ¬ tyT t → v.ownBlock ≠ some b → w'.heap[b]? = some (.cells a t m)
def KU (w w' : World) : Prop := ∀ (b : Nat) (a : Array Value) (m : Nat × Nat), w.heap[b]? = some (.cells a 5 m) → w'.heap[b]? = some (.cells a 5 m)
theorem at_lt {w : World} {b : Nat} {o : Obj} (h : w.heap[b]? = some o) : b < w.heap.size := (Array.getElem?_eq_some_iff.1 h).1
section
variable {w w' w'' : World} {v v' : Value}
theorem KD.gr (g : Gr w w') : KD v w w' := ⟨g.size, fun b a t m e _ _ => (g.block b (at_lt e)).trans e⟩
theorem KD.trans (h : KD v w w') (k : KD v' w' w'') (ho : ∀ x, v'.ownBlock = some x → v.ownBlock = some x ∨ w.heap.size ≤ x) : KD v w w'' :=
  ⟨Nat.le_trans h.1 k.1, fun b a t m e ht hn => k.2 b a t m (h.2 b a t m e ht hn) ht (fun q => by
    rcases ho b q with q | q
    · exact hn q
    · have := at_lt e; omega)⟩
theorem KD.kz {bm : Nat} {es : Array MapEntry} {ck : Nat} (h : KZ bm w w') (hm : w.heap[bm]? = some (.map es ck)) : KD v w w' := ⟨h.1, fun b a t m e ht hn => (h.2 b (at_lt e) (fun q => by subst q; rw [hm] at e; cases e) (fun t' cs' k => by
  have : t = t' := by
    unfold Blk at k
    rw [e] at k
    injection k with k
    injection k
  subst this
  exact ⟨fun q => ht (.inl q), fun q => ht (.inr (.inl q)), fun q => ht (.inr (.inr (.inl q)))⟩)).trans e⟩
theorem KD.t1 {w0 : World} {u u' : Value} {T : List Nd} (r : RTo w0 w u T) (k : Turn1 w w' u u') : KD v w w' := ⟨k.size, fun b a t m e ht hn => (k.keep b (at_lt e) (fun q => by
  obtain ⟨cs, kb⟩ := r.blk_at q
  unfold Blk at kb
  rw [e] at kb
  injection kb with kb
  injection kb with _ kb _
  exact ht (.inr (.inr (.inr kb))))).trans e⟩
theorem KD.t2 (k : Turn1 w w' v v') : KD v w w' := ⟨k.size, fun b a t m e ht hn => (k.keep b (at_lt e) hn).trans e⟩
theorem KD.mp {bs : Nat} {es : Array MapEntry} {ck : Nat} (T : Tch (fun b => b = bs) w w') (hm : w.heap[bs]? = some (.map es ck)) : KD v w w' := ⟨T.size, fun b a t m e ht hn => (T.keep b (at_lt e) (fun q => by subst q; rw [hm] at e; cases e)).trans e⟩
theorem KD.far {S : Nat → Prop} (h : KD v w w') (T : Tch S w' w'') (hS : ∀ b, S b → w.heap.size ≤ b) : KD v w w'' := ⟨Nat.le_trans h.1 T.size, fun b a t m e ht hn => (T.keep b (Nat.lt_of_lt_of_le (at_lt e) h.1) (fun q => by have := hS b q; have := at_lt e; omega)).trans (h.2 b a t m e ht hn)⟩
theorem KD.blk {b : Nat} {t : TypeId} {cs : List Value} (h : KD v w w') (hb : Blk w b t cs) (ht : ¬ tyT t) (hn : v.ownBlock ≠ some b) : Blk w' b t cs := h.2 b _ t _ hb ht hn
theorem KD.u8 (h : KD v w w') (hv : ∀ b a m, v.ownBlock = some b → w.heap[b]? ≠ some (.cells a 5 m)) : KU w w' := fun b a m e => h.2 b a _ m e (by unfold tyT; decide) (fun q => hv b a m q e)
end
theorem Bs.stay {w w' : World} {A : Option Addr} {n c : Nat} {l : List UInt8} (h : Bs w A n c l) (u : ∀ b o, 0 < n → A = some ⟨b, o, none⟩ → w'.heap[b]? = w.heap[b]?) : Bs w' A n c l :=
  ⟨h.1, h.2.1, h.2.2.1, fun h0 => by
    obtain ⟨b, o, e, hc⟩ := h.2.2.2 h0
    exact ⟨b, o, e, fun j x hx => (World.cell?_of_block (w := w) (a := ⟨b, o + j, none⟩) (u b o h0 e)).trans (hc j x hx)⟩⟩
theorem FB.ku {w0 w w' : World} {A : Option Addr} {n c : Nat} {l : List UInt8} (h : FB w0 w A n c l) (k : KU w w') : FB w0 w' A n c l :=
  ⟨h.b.stay fun b o h0 e => by obtain ⟨a, m, q⟩ := h.u b o h0 e; exact (k b a m q).trans q.symm, h.f, fun b o h0 e => by obtain ⟨a, m, q⟩ := h.u b o h0 e; exact ⟨a, m, k b a m q⟩⟩
/-- A row that came in, or one of new bytes. -/
def RowK (w0 w : World) (r : BRow) : Prop := r.ok w0 ∨ FB w0 w r.a r.n r.c r.l
theorem RowK.ok {w0 w : World} {r : BRow} (h : RowK w0 w r) (b : Below w0.heap.size w0 w) : r.ok w := h.elim (fun q => Sl.mono q b) (fun q => q.b)
theorem RowK.ku {w0 w w' : World} {r : BRow} (h : RowK w0 w r) (k : KU w w') : RowK w0 w' r := h.imp id (fun q => q.ku k)
theorem RowK.mono {w0 w w' : World} {r : BRow} (h : RowK w0 w r) (g : Gr w w') : RowK w0 w' r := h.imp id (fun q => q.mono g)
theorem below_two {n : Nat} {w0 w w' : World} (h : Below n w0 w) (h' : Below n w0 w') (hs : w.heap.size ≤ w'.heap.size) : Below 0 w w' :=
  ⟨h'.os.trans h.os.symm, h'.tape.trans h.tape.symm, h'.output.trans h.output.symm, hs, fun k hk => absurd hk (Nat.not_lt_zero _)⟩
theorem Own.stay {w0 w w' : World} {e : TypeId} {s n : Nat} {v : Value} {xs : List Value} (h : Own w0 w e s v n xs) (hb : Below w0.heap.size w0 w') (hs : w.heap.size ≤ w'.heap.size) (hk : ∀ b, v.ownBlock = some b → w'.heap[b]? = w.heap[b]?) : Own w0 w' e s v n xs := by
  refine Own.tch (S := fun b => ¬ (w'.heap[b]? = w.heap[b]?)) h ⟨below_two h.2 hb hs, fun b _ hn => Classical.not_not.1 hn⟩ (fun b hn => ?_) (fun b e hn => hn (hk b e))
  by_cases hlt : w0.heap.size ≤ b
  · exact hlt
  · exact absurd ((hb.block b (by omega)).trans (h.2.block b (by omega)).symm) hn
theorem Own.ge {w0 w : World} {e : TypeId} {s n : Nat} {v : Value} {xs : List Value} (h : Own w0 w e s v n xs) {b : Nat} (hb : v.ownBlock = some b) : w0.heap.size ≤ b := by
  rcases h.1.2 with ⟨h1, _⟩ | ⟨g', cap, cur, hv', hg, hh, _⟩
  · rw [h1] at hb; cases hb
  · rw [hv'] at hb
    have : g' = b := Option.some.inj hb
    omega
theorem Own.apart2 {w0 w0' w : World} {e e' : TypeId} {s s' n n' : Nat} {v u : Value} {xs xs' : List Value} (h : Own w0 w e s v n xs) (k : Own w0' w e' s' u n' xs') (he : e ≠ e') {b : Nat} (hv : v.ownBlock = some b) : u.ownBlock ≠ some b := fun hu => by
  obtain ⟨cs, x⟩ := h.blk_at hv
  obtain ⟨ds, y⟩ := k.blk_at hu
  exact he (blk_ty x y)
theorem SumsO.stay {w0 w w' : World} {v : Value} {L : List BRow} (h : SumsO w0 w v L) (hb : Below w0.heap.size w0 w') (hs : w.heap.size ≤ w'.heap.size) (hk : ∀ b, v.ownBlock = some b → w'.heap[b]? = w.heap[b]?) (ku : KU w w') : SumsO w0 w' v L :=
  ⟨h.1.stay hb hs hk, fun r hr => (h.2 r hr).ku ku⟩
/-- A suite of terms stays, where other blocks turn. -/
theorem SymS.off {S : Nat → Prop} {w0 w w' : World} {p g bm bs : Nat} {T : List Nd} {es : Array MapEntry} {ck : Nat} (h : SymS w0 w p g bm bs T) (k : Tch S w w') (hS : ∀ b, S b → w0.heap.size ≤ b) (hne : bs ≠ bm) (hm : w.heap[bs]? = some (.map es ck))
    (hn : ∀ b, S b → (∃ t cs, Blk w b t cs ∧ t ≠ 60 ∧ t ≠ 68 ∧ t ≠ 20 ∧ t ≠ 3) ∨ b = bs) : SymS w0 w' p g bm bs T := by
  obtain ⟨vl, vs, ht⟩ := h.t
  have key : ∀ b t cs, Blk w b t cs → (t = 60 ∨ t = 68 ∨ t = 20 ∨ t = 3) → ¬ S b := fun b t cs hb ht hs => by
    rcases hn b hs with ⟨t', cs', hb', h1, h2, h3, h4⟩ | rfl
    · have := blk_ty hb hb'
      subst this
      rcases ht with q | q | q | q
      · exact h1 q
      · exact h2 q
      · exact h3 q
      · exact h4 q
    · unfold Blk at hb
      rw [hb] at hm
      cases hm
  have kbm : ¬ S bm := fun hs => by
    rcases hn bm hs with ⟨t', cs', hb', _⟩ | e
    · exact ht.m.ne_blk hb' rfl
    · exact hne e.symm
  exact ⟨h.blk.tch k (key _ _ _ h.blk (.inl rfl)), ⟨vl, vs, ⟨⟨ht.x.blk.tch k (key _ _ _ ht.x.blk (.inr (.inl rfl))), ht.x.l.tch k hS (fun b hb => by obtain ⟨cs, q⟩ := ht.x.l.blk_at hb; exact key _ _ _ q (.inr (.inr (.inl rfl)))), ht.x.s.tch k hS (fun b hb => by obtain ⟨cs, q⟩ := ht.x.s.blk_at hb; exact key _ _ _ q (.inr (.inr (.inr rfl)))), ht.x.ge, ht.x.gm⟩, ht.m.keep (k.keep bm ht.m.lt kbm)⟩⟩, h.i⟩
theorem SymS.bmap {w0 w : World} {p g bm bs : Nat} {T : List Nd} (h : SymS w0 w p g bm bs T) : ∃ es ck, w.heap[bm]? = some (.map es ck) := by
  obtain ⟨vl, vs, ht⟩ := h.t
  obtain ⟨es, ck, hb, _⟩ := ht.m
  exact ⟨es, ck, hb⟩
/-- Both suites, in memory. -/
structure ST (w0 : World) (p g bm bs : Nat) (A : Option Addr) (c : Nat) (B : Option Addr) (e : Nat) (T : List Nd) (L : List BRow) (TS : List Nd) (SS : List (List UInt8)) (W : World) : Prop where
  sy : SymS w0 W p g bm bs TS
  sm : SumM W bs SS
  rt : RTo w0 W (.slice A T.length c) T
  so : SumsO w0 W (.slice B L.length e) L
  nb : bs ≠ bm
  ge : w0.heap.size ≤ bs
section
variable {w0 : World} {p g bm bs : Nat} {A A' : Option Addr} {c c' : Nat} {B B' : Option Addr} {e e' : Nat} {T T' : List Nd} {L L' : List BRow} {TS TS' : List Nd} {SS SS' : List (List UInt8)} {W W' : World}
theorem ST.mono (q : ST w0 p g bm bs A c B e T L TS SS W) (h : Gr W W') : ST w0 p g bm bs A c B e T L TS SS W' := ⟨q.sy.gr h, q.sm.gr h, q.rt.mono h, q.so.mono h, q.nb, q.ge⟩
theorem ST.below (q : ST w0 p g bm bs A c B e T L TS SS W) : Below w0.heap.size w0 W := q.sy.below
theorem ST.su8 (q : ST w0 p g bm bs A c B e T L TS SS W) : ∀ b a m, (Value.slice B L.length e).ownBlock = some b → W.heap[b]? ≠ some (.cells a 5 m) := fun b a m h => own_no_u8 q.so.1 (by decide) h a m
/-- The program's table has turned. -/
theorem ST.tab (q : ST w0 p g bm bs A c B e T L TS SS W) (s : SymS w0 W' p g bm bs TS') (k : KZ bm W W') : ST w0 p g bm bs A c B e T L TS' SS W' ∧ KD (.slice B L.length e) W W' := by
  obtain ⟨es, ck, hm⟩ := q.sy.bmap
  have kd : KD (.slice B L.length e) W W' := KD.kz k hm
  have blk : ∀ b t cs, Blk W b t cs → t ≠ 68 → t ≠ 20 → t ≠ 3 → W'.heap[b]? = W.heap[b]? := fun b t cs hb h1 h2 h3 => k.2 b hb.lt (fun x => by subst x; unfold Blk at hb; rw [hb] at hm; cases hm) (fun t' cs' k' => by
    have := blk_ty hb k'
    subst this
    exact ⟨h1, h2, h3⟩)
  refine ⟨⟨s, q.sm.kz q.nb k, q.rt.stay s.below k.1 (fun b hb => ?_), q.so.stay s.below k.1 (fun b hb => ?_) (kd.u8 q.su8), q.nb, q.ge⟩, kd⟩
  · obtain ⟨cs, x⟩ := q.rt.blk_at hb
    exact blk b _ cs x (by decide) (by decide) (by decide)
  · obtain ⟨cs, x⟩ := q.so.1.blk_at hb
    exact blk b _ cs x (by decide) (by decide) (by decide)
/-- The program's sums have turned. -/
theorem ST.sum (q : ST w0 p g bm bs A c B e T L TS SS W) (s : SumM W' bs SS') (k : Tch (fun b => b = bs) W W') : ST w0 p g bm bs A c B e T L TS SS' W' ∧ KD (.slice B L.length e) W W' := by
  obtain ⟨es, ck, hm⟩ := q.sm.map
  have kd : KD (.slice B L.length e) W W' := KD.mp k hm
  have hS : ∀ b, b = bs → w0.heap.size ≤ b := fun b h => h ▸ q.ge
  have n1 := q.rt.not_map hm
  have n2 := q.so.1.not_map hm
  have sy : SymS w0 W' p g bm bs TS := q.sy.off k hS q.nb hm (fun b h => .inr h)
  exact ⟨⟨sy, s, q.rt.tch k hS (fun b hb h => n1 (by rw [hb, h])), q.so.stay sy.below k.size (fun b hb => k.keep b (by obtain ⟨cs, x⟩ := q.so.1.blk_at hb; exact x.lt) (fun h => n2 (by rw [hb, h]))) (kd.u8 q.su8), q.nb, q.ge⟩, kd⟩
/-- The document's table has turned. -/
theorem ST.rtab (q : ST w0 p g bm bs A c B e T L TS SS W) (r : RTo w0 W' (.slice A' T'.length c') T') (k : Turn1 W W' (.slice A T.length c) (.slice A' T'.length c')) : ST w0 p g bm bs A' c' B e T' L TS SS W' ∧ KD (.slice B L.length e) W W' := by
  obtain ⟨es, ck, hm⟩ := q.sm.map
  have kd : KD (.slice B L.length e) W W' := KD.t1 q.rt k
  have tc := k.tch (below_two q.below r.2 k.size)
  have n1 := q.rt.not_map hm
  have hS : ∀ b, (Value.slice A T.length c).ownBlock = some b → w0.heap.size ≤ b := fun b h => q.rt.ge h
  have sy : SymS w0 W' p g bm bs TS := q.sy.off tc hS q.nb hm (fun b h => .inl (by obtain ⟨cs, x⟩ := q.rt.blk_at h; exact ⟨_, cs, x, by decide, by decide, by decide, by decide⟩))
  exact ⟨⟨sy, q.sm.keep (k.keep bs q.sm.lt n1), r, q.so.stay sy.below k.size (fun b hb => k.keep b (by obtain ⟨cs, x⟩ := q.so.1.blk_at hb; exact x.lt) (Own.apart2 q.so.1 q.rt (by decide) hb)) (kd.u8 q.su8), q.nb, q.ge⟩, kd⟩
/-- The document's sums have turned. -/
theorem ST.rsum (q : ST w0 p g bm bs A c B e T L TS SS W) (r : SumsO w0 W' (.slice B' L'.length e') L') (k : Turn1 W W' (.slice B L.length e) (.slice B' L'.length e')) : ST w0 p g bm bs A c B' e' T L' TS SS W' ∧ KD (.slice B L.length e) W W' := by
  obtain ⟨es, ck, hm⟩ := q.sm.map
  have kd : KD (.slice B L.length e) W W' := KD.t2 k
  have tc := k.tch (below_two q.below r.1.2 k.size)
  have n1 := q.so.1.not_map hm
  have hS : ∀ b, (Value.slice B L.length e).ownBlock = some b → w0.heap.size ≤ b := fun b h => q.so.1.ge h
  have sy : SymS w0 W' p g bm bs TS := q.sy.off tc hS q.nb hm (fun b h => .inl (by obtain ⟨cs, x⟩ := q.so.1.blk_at h; exact ⟨_, cs, x, by decide, by decide, by decide, by decide⟩))
  exact ⟨⟨sy, q.sm.keep (k.keep bs q.sm.lt n1), q.rt.stay sy.below k.size (fun b hb => k.keep b (by obtain ⟨cs, x⟩ := q.rt.blk_at hb; exact x.lt) (Own.apart2 q.rt q.so.1 (by decide) hb)), r, q.nb, q.ge⟩, kd⟩
/-- A block of another type has turned. -/
theorem ST.row (q : ST w0 p g bm bs A c B e T L TS SS W) {k : Nat} {cs : List Value} (x : Xk W k cs) (hk : w0.heap.size ≤ k) (ds : Array Value) : ST w0 p g bm bs A c B e T L TS SS (W.setRow k ds) := by
  obtain ⟨es, ck, hm⟩ := q.sm.map
  have tc : Tch (fun b => b = k) W (W.setRow k ds) := Tch.rowC k ds rfl
  have hS : ∀ b, b = k → w0.heap.size ≤ b := fun b h => h ▸ hk
  have nk : bs ≠ k := fun h => by subst h; exact q.sm.not_blk _ _ x
  have n1 := Own.not_blk q.rt x (by decide)
  have n2 := Own.not_blk q.so.1 x (by decide)
  exact ⟨q.sy.off tc hS q.nb hm (fun b h => .inl ⟨_, cs, h ▸ x, by decide, by decide, by decide, by decide⟩), q.sm.keep (tc.keep bs q.sm.lt nk), q.rt.tch tc hS (fun b hb h => n1 (by rw [hb, h])), q.so.tch tc hS (fun b hb h => n2 (by rw [hb, h])) (fun b a m h => by subst h; exact blk_no_u8 x (by decide) a m), q.nb, q.ge⟩
end
end Go.Proofs.YtcfbbgbjlgonpaaGreatDoor

/- An act on a suite of terms, and on the document's: what stands. No condition. -/
namespace Go.Proofs.YtcfbbgbjlgonpaaGreatDoor
open Go.RowKit
set_option linter.unusedVariables false
set_option linter.unusedSimpArgs false
/-- In an act: what stands. -/
structure DT (w0 w : World) (p g bm bs : Nat) (zs : List Value) (vS : Value) (k i j : Int) (x y : BRow) (s : List UInt8) (a b : BRow) (h : Nat) (A : Option Addr) (c : Nat) (B : Option Addr) (e : Nat) (T : List Nd) (L : List BRow) (TS : List Nd) (SS : List (List UInt8)) (R : List Value) (W : World) : Prop where
  st : ST w0 p g bm bs A c B e T L TS SS W
  ba : RowK w0 W a
  bb : RowK w0 W b
  xx : Xk W h zs
  ak : Blk W (h + 1) 54 [.int .i64 k, .int .i64 i, .int .i64 j, x.v, y.v, .string ⟨s.toArray⟩]
  r : Xk W (h + 2) R
  kd : KD vS w W
  ow : ∀ q, (Value.slice B L.length e).ownBlock = some q → vS.ownBlock = some q ∨ w.heap.size ≤ q
  sz : w.heap.size ≤ h
  ws : w0.heap.size ≤ w.heap.size
section
variable {w0 w : World} {p g bm bs : Nat} {zs : List Value} {vS : Value} {k i j : Int} {x y : BRow} {s : List UInt8} {a b : BRow} {h : Nat} {A A' : Option Addr} {c c' : Nat} {B B' : Option Addr} {e e' : Nat} {T T' : List Nd} {L L' : List BRow} {TS TS' : List Nd} {SS SS' : List (List UInt8)} {R : List Value} {W W' : World}
theorem DT.mono (q : DT w0 w p g bm bs zs vS k i j x y s a b h A c B e T L TS SS R W) (d : Gr W W') : DT w0 w p g bm bs zs vS k i j x y s a b h A c B e T L TS SS R W' :=
  ⟨q.st.mono d, q.ba.mono d, q.bb.mono d, d.blk q.xx, d.blk q.ak, d.blk q.r, q.kd.trans (KD.gr (v := vS) d) (fun x h => .inl h), q.ow, q.sz, q.ws⟩
theorem DT.step (q : DT w0 w p g bm bs zs vS k i j x y s a b h A c B e T L TS SS R W) (st : ST w0 p g bm bs A' c' B' e' T' L' TS' SS' W') (d : KD (.slice B L.length e) W W') (ho : ∀ x, (Value.slice B' L'.length e').ownBlock = some x → (Value.slice B L.length e).ownBlock = some x ∨ W.heap.size ≤ x) :
    DT w0 w p g bm bs zs vS k i j x y s a b h A' c' B' e' T' L' TS' SS' R W' :=
  have ku := d.u8 q.st.su8
  ⟨st, q.ba.ku ku, q.bb.ku ku, d.blk q.xx (by unfold tyT; decide) (Own.not_blk q.st.so.1 q.xx (by decide)), d.blk q.ak (by unfold tyT; decide) (Own.not_blk q.st.so.1 q.ak (by decide)), d.blk q.r (by unfold tyT; decide) (Own.not_blk q.st.so.1 q.r (by decide)), q.kd.trans d q.ow, fun x hx => (ho x hx).elim (fun h => q.ow x h) (fun h => .inr (Nat.le_trans q.kd.1 h)), q.sz, q.ws⟩
/-- The block of the document's next suite stays. -/
theorem ST.keepX (q : ST w0 p g bm bs A c B e T L TS SS W) (d : KD (.slice B L.length e) W W') {u : Nat} {cs : List Value} (hx : Xk W u cs) : Xk W' u cs := d.blk hx (by unfold tyT; decide) (Own.not_blk q.so.1 hx (by decide))
theorem ST.ku (q : ST w0 p g bm bs A c B e T L TS SS W) (d : KD (.slice B L.length e) W W') : KU W W' := d.u8 q.su8
theorem ST.k1 (q : ST w0 p g bm bs A c B e T L TS SS W) {r : BRow} (hr : RowK w0 W r) : ∀ w' v', Turn1 W w' (.slice A T.length c) v' → Below w0.heap.size w0 w' → r.ok w' := fun w' v' t hb => (hr.ku (q.ku (KD.t1 q.rt t))).ok hb
theorem ST.k2 (q : ST w0 p g bm bs A c B e T L TS SS W) {r : BRow} (hr : RowK w0 W r) : ∀ w' v', Turn1 W w' (.slice B L.length e) v' → Below w0.heap.size w0 w' → r.ok w' := fun w' v' t hb => (hr.ku (q.ku (KD.t2 t))).ok hb
theorem ST.k3 (q : ST w0 p g bm bs A c B e T L TS SS W) {r : BRow} (hr : RowK w0 W r) : ∀ w', KZ bm W w' → Below w0.heap.size w0 w' → r.ok w' := fun w' t hb => by
  obtain ⟨es, ck, hm⟩ := q.sy.bmap
  exact (hr.ku (q.ku (KD.kz t hm))).ok hb
/-- The act's end: its results are laid. -/
theorem DT.ended (q : DT w0 w p g bm bs zs vS k i j x y s a b h A c B e T L TS SS xz W) (rg rw : BRow) (hg : rg.ok W) (hr : FB w W rw.a rw.n rw.c rw.l) (ds : List Value) :
    Xk (W.setRow (h + 2) ds.toArray) (h + 2) ds ∧ rg.ok (W.setRow (h + 2) ds.toArray) ∧ FB w (W.setRow (h + 2) ds.toArray) rw.a rw.n rw.c rw.l ∧ ST w0 p g bm bs A c B e T L TS SS (W.setRow (h + 2) ds.toArray) ∧ KD vS w (W.setRow (h + 2) ds.toArray) := by
  have h1 := q.sz; have h2 := q.ws
  exact ⟨q.r.row _, Bs.far hg q.r xz_not _, hr.row q.r (by decide) _, q.st.row q.r (by omega) _, q.kd.far (Tch.rowC (S := fun q => q = h + 2) (h + 2) _ rfl) (fun u hu => by omega)⟩
end
/-- A table that is good, and has short labels. -/
structure TG2 (T : List Nd) (n : Nat) : Prop where
  g : TGood T n
  z : SzT T
theorem TGood.le {T : List Nd} {n m : Nat} (h : TGood T n) (q : n ≤ m) : TGood T m := ⟨h.i, h.z, Nat.le_trans h.l q⟩
theorem TG2.le {T : List Nd} {n m : Nat} (h : TG2 T n) (q : n ≤ m) : TG2 T m := ⟨h.g.le q, h.z⟩
/-- What an act leaves. -/
def RetDoT (w0 w : World) (p g bm bs : Nat) (vS : Value) (b : BRow) (T : List Nd) (L : List BRow) (n : Nat) (e : Ending) (w' : World) : Prop :=
  ∃ (rg rr : BRow) (f : Bool) (A' : Option Addr) (c' : Nat) (B' : Option Addr) (e' : Nat) (T' : List Nd) (L' : List BRow), e = .returned (.tuple #[rg.v, rr.v, .bool f, .bool f, tv A' T'.length c' B' L'.length e']) ∧ rg.l = rr.l ∧ rg.ok w' ∧ FB w w' rr.a rr.n rr.c rr.l ∧ rr.n ≤ b.n + 48 ∧
    ST w0 p g bm bs A' c' B' e' T' L' T' (L'.map (·.l)) w' ∧ KD vS w w' ∧ (∀ q, (Value.slice B' L'.length e').ownBlock = some q → vS.ownBlock = some q ∨ w.heap.size ≤ q) ∧ TG2 T' (n + 3) ∧ L'.length ≤ L.length + 1
theorem results_doT {fn : Func} {p1 p2 p3 p4 p5 : Tmp} (hf : fn.results = #[.tmp p1, .tmp p2, .tmp p3, .tmp p4, .cell p5 33]) (tmps : Array Value) (w : World) (g : Nat) (cs : List Value) (h5 : cs.length = 5)
    (hp : tmps.getD p5 undef = .pointer (some ⟨g, 0, none⟩)) (hg : Xk w g cs) :
    (results fn tmps).run Tryz.prog w = .ok (.tuple #[tmps.getD p1 undef, tmps.getD p2 undef, tmps.getD p3 undef, tmps.getD p4 undef, .agg cs.toArray]) w := by
  have h1 := run_loadVar_row w g 33 33 cs.toArray (0, 0) _ hg Tryz.underlying33 rfl (size5 cs h5)
  have hp' : tmps[p5]?.getD undef = .pointer (some ⟨g, 0, none⟩) := by simpa using hp
  simp only [results, hf]
  simp [Sem.run_bind, Result.andThen, hp', asAddr, h1]
def dwT (w : World) (A : Option Addr) (n c : Nat) (B : Option Addr) (m e : Nat) (k i j : Int) (x y : BRow) (s : List UInt8) : World :=
  ((w.alloc (.cells #[.bool false, .slice none 0 0, .int .i64 0, .slice A n c, .slice B m e] 33)).alloc (.cells #[.int .i64 k, .int .i64 i, .int .i64 j, .slice x.a x.n x.c, .slice y.a y.n y.c, .string ⟨s.toArray⟩] 54)).alloc (.cells #[.bool false, .slice none 0 0, .int .i64 0, .slice none 0 0, .slice none 0 0] 33)
theorem dwT_s {w0 w : World} {p g bm bs : Nat} {A : Option Addr} {c : Nat} {B : Option Addr} {e : Nat} {T : List Nd} {L : List BRow} {TS : List Nd} {SS : List (List UInt8)} (k i j : Int) (x y : BRow) (s : List UInt8) {a b : BRow} (st : ST w0 p g bm bs A c B e T L TS SS w) (ba : RowK w0 w a) (bb : RowK w0 w b) :
    DT w0 w p g bm bs (ts A T.length c B L.length e) (.slice B L.length e) k i j x y s a b w.heap.size A c B e T L TS SS xz (dwT w A T.length c B L.length e k i j x y s) := by
  obtain ⟨w1, h1⟩ : ∃ w1, w1 = w.alloc (.cells #[.bool false, .slice none 0 0, .int .i64 0, .slice A T.length c, .slice B L.length e] 33) := ⟨_, rfl⟩
  obtain ⟨w2, h2⟩ : ∃ w2, w2 = w1.alloc (.cells #[.int .i64 k, .int .i64 i, .int .i64 j, .slice x.a x.n x.c, .slice y.a y.n y.c, .string ⟨s.toArray⟩] 54) := ⟨_, rfl⟩
  have eq : dwT w A T.length c B L.length e k i j x y s = w2.alloc (.cells #[.bool false, .slice none 0 0, .int .i64 0, .slice none 0 0, .slice none 0 0] 33) := by rw [h2, h1]; rfl
  have s1 : w1.heap.size = w.heap.size + 1 := by rw [h1]; simp
  have s2 : w2.heap.size = w.heap.size + 2 := by rw [h2]; simp [s1]
  have g1 : Gr w w1 := by rw [h1]; exact Gr.alloc _ _
  have g2 : Gr w1 w2 := by rw [h2]; exact Gr.alloc _ _
  rw [eq]
  have G : Gr w (w2.alloc (.cells #[.bool false, .slice none 0 0, .int .i64 0, .slice none 0 0, .slice none 0 0] 33)) := (g1.trans g2).trans (Gr.alloc _ _)
  refine ⟨st.mono G, ba.mono G, bb.mono G, (g2.trans (Gr.alloc _ _)).blk (by rw [h1]; exact heap_alloc_new w _), (Gr.alloc _ _).blk ?_, ?_, KD.gr G, fun q h => .inl h, Nat.le_refl _, st.below.size⟩
  · have := Blk.new w1 54 #[.int .i64 k, .int .i64 i, .int .i64 j, .slice x.a x.n x.c, .slice y.a y.n y.c, .string ⟨s.toArray⟩]
    rw [s1, ← h2] at this
    exact this
  · have := Blk.new w2 33 #[.bool false, .slice none 0 0, .int .i64 0, .slice none 0 0, .slice none 0 0]
    rw [s2] at this
    exact this
end Go.Proofs.YtcfbbgbjlgonpaaGreatDoor
