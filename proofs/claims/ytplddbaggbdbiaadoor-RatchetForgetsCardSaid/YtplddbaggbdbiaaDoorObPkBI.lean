/- Own texts of this claim, one behind the other. No condition. -/
import Derived.Test.YtplddbaggbdbiaaDoorObPkAG
import Derived.Test.YtplddbaggbdbiaaDoorObPkAP
import Derived.Test.YtplddbaggbdbiaaDoorObPkBH
import Derived.Outline

/- A suite, whatever it is (ahead of any epoch). No condition. -/
namespace Go.Proofs.YtplddbaggbdbiaaDoor
open Go.RowKit
set_option linter.unusedVariables false
/-- Blocks of cells of other types than those that a suite, or a chain, turns. -/
def FR (w w' : World) : Prop := ∀ g t cs, t ≠ 110 → t ≠ 20 → t ≠ 3 → t ≠ 41 → t ≠ 54 → Blk w g t cs → Blk w' g t cs
/-- Only rows of chains, of skips, have turned. -/
def OC (w w' : World) : Prop := w.heap.size ≤ w'.heap.size ∧ ∀ b, b < w.heap.size → (∀ cs h, w.heap[b]? ≠ some (.cells cs 41 h)) → (∀ cs h, w.heap[b]? ≠ some (.cells cs 54 h)) → w'.heap[b]? = w.heap[b]?
theorem FR.fs {w w' : World} (h : FS w w') : FR w w' := fun g t cs h1 h2 h3 _ _ hb => h g t cs h1 h2 h3 hb
theorem FR.gr {w w' : World} (h : Gr w w') : FR w w' := FR.fs (FS.gr h)
theorem FR.trans {a b c : World} (h : FR a b) (k : FR b c) : FR a c := fun g t cs h1 h2 h3 h4 h5 hb => k g t cs h1 h2 h3 h4 h5 (h g t cs h1 h2 h3 h4 h5 hb)
theorem OC.gr {w w' : World} (h : Gr w w') : OC w w' := ⟨h.size, fun b hb _ _ => h.block b hb⟩
theorem OC.blk {w w' : World} (h : OC w w') {g : Nat} {t : TypeId} {cs : List Value} (h1 : t ≠ 41) (h3 : t ≠ 54) (hb : Blk w g t cs) : Blk w' g t cs := by
  have hh : w.heap[g]? = some (.cells cs.toArray t (0, 0)) := hb
  refine (h.2 g hb.lt (fun cs' q e => ?_) (fun cs' q e => ?_)).trans hb
  all_goals
    rw [hh] at e
    injection e with e
    injection e with _ e
    first | exact h1 e | exact h3 e
theorem OC.map {w w' : World} (h : OC w w') {g : Nat} {es : Array MapEntry} {k : Nat} (hb : w.heap[g]? = some (.map es k)) : w'.heap[g]? = w.heap[g]? :=
  h.2 g (Array.getElem?_eq_some_iff.1 hb).1 (fun cs' q e => by rw [hb] at e; cases e) (fun cs' q e => by rw [hb] at e; cases e)
theorem FR.oc {w w' : World} (h : OC w w') : FR w w' := fun g t cs _ _ _ h4 h6 hb => h.blk h4 h6 hb
theorem OC.trans {a b c : World} (h : OC a b) (k : OC b c) : OC a c := ⟨Nat.le_trans h.1 k.1, fun x hx h1 h3 => by
  have e := h.2 x hx h1 h3
  exact (k.2 x (Nat.lt_of_lt_of_le hx h.1) (fun cs q => by rw [e]; exact h1 cs q) (fun cs q => by rw [e]; exact h3 cs q)).trans e⟩
/-- A block of these types is turned. -/
theorem OC.one {w w' : World} {p : Nat} {t : TypeId} {cs : List Value} (ht : t = 41 ∨ t = 54) (hp : Blk w p t cs) (hs : w.heap.size ≤ w'.heap.size) (h : ∀ b, b < w.heap.size → b ≠ p → w'.heap[b]? = w.heap[b]?) : OC w w' := ⟨hs, fun b hb h1 h3 => h b hb (fun e => by
  subst e
  rcases ht with rfl | rfl
  · exact h1 _ _ hp
  · exact h3 _ _ hp)⟩
theorem OC.push {w w' : World} {B : Nat} {t : TypeId} {s n : Nat} {v v' : Value} {xs : List Value} (ht : t = 41 ∨ t = 54) (ho : w.ownsRow B t s v n xs) (h : Kept w w' v v') : OC w w' := ⟨h.2.1, fun b hb h1 h3 => h.1 b hb (fun e => by
  rcases ho.2 with ⟨hv, _⟩ | ⟨g, cap, cur, hv, _, hh, _⟩
  · rw [hv] at e; cases e
  · rw [hv] at e
    injection e with e
    subst e
    rcases ht with rfl | rfl
    · exact h1 _ _ hh
    · exact h3 _ _ hh)⟩
theorem own_of_blk {w0 w w' : World} {e : TypeId} {s n : Nat} {v : Value} {xs : List Value} (h : ∀ g cs, Blk w g e cs → Blk w' g e cs) (ho : Own w0 w e s v n xs) (hb : Below w0.heap.size w0 w') : Own w0 w' e s v n xs := by
  refine ⟨⟨ho.1.1, ?_⟩, hb⟩
  rcases ho.1.2 with q | ⟨g, cap, cur, hv, hg, hh, r⟩
  · exact .inl q
  · refine .inr ⟨g, cap, cur, hv, hg, ?_, r⟩
    have hk : Blk w g e cur.toList := by unfold Blk; rw [Array.toArray_toList]; exact hh
    have := h g cur.toList hk
    unfold Blk at this
    rw [Array.toArray_toList] at this
    exact this
theorem TbF.oc {w0 w w' : World} {g : Nat} {T : List Nd} {vl vs : Value} {bm : Nat} (h : TbF w0 w g T vl vs bm) (hc : OC w w') (hb : Below w0.heap.size w0 w') : TbF w0 w' g T vl vs bm := by
  refine ⟨⟨hc.blk (by decide) (by decide) h.x.blk, own_of_blk (fun g cs k => hc.blk (by decide) (by decide) k) h.x.l hb, own_of_blk (fun g cs k => hc.blk (by decide) (by decide) k) h.x.s hb, h.x.ge, h.x.gm⟩, h.m.keep ?_⟩
  obtain ⟨es, clock, hm, r⟩ := h.m
  exact hc.map hm
theorem SymS.oc {w0 w w' : World} {p g bm bs : Nat} {T : List Nd} (h : SymS w0 w p g bm bs T) (hc : OC w w') (hb : Below w0.heap.size w0 w') : SymS w0 w' p g bm bs T := by
  obtain ⟨vl, vs, ht⟩ := h.t
  exact ⟨hc.blk (by decide) (by decide) h.blk, ⟨vl, vs, ht.oc hc hb⟩, h.i⟩
/-- Bytes that stay, whatever a suite's calls do. -/
def Kp (w0 w : World) (v : Value) (l : List UInt8) : Prop := ∃ A c, v = .slice A l.length c ∧ ∀ w', FR w w' → Below w0.heap.size w0 w' → Bs w' A l.length c l
/-- What a call of a suite ends in, that answers bytes. -/
def RetK {σ : Type} (w0 : World) (St : World → σ → Nat → Prop) (w : World) (r : σ × List UInt8) (m : Nat) (e : Ending) (w' : World) : Prop := ∃ v, e = .returned v ∧ Own w0 w' 5 1 v 32 (r.2.map u8c) ∧ St w' r.1 m ∧ FS w w'
/-- A suite at block p: its state, which serves n calls more, and what it derives. -/
structure Sui (w0 : World) (p : Nat) where
  σ : Type
  St : World → σ → Nat → Prop
  oc : ∀ {w w' s n}, St w s n → OC w w' → Below w0.heap.size w0 w' → St w' s n
  below : ∀ {w s n}, St w s n → Below w0.heap.size w0 w
  less : ∀ {w s n m}, St w s n → m ≤ n → St w s m
  dv : σ → List UInt8 → List UInt8 → σ × List UInt8
  dvLen : ∀ s k l, (dv s k l).2.length = 32
  derive : ∀ (w : World) s m A n c k l, St w s (m + 1) → Bs w A n c k → n ≤ 100 → l.length ≤ 100 → Calls Tryd.prog 20 #[.pointer (some ⟨p, 0, none⟩), .slice A n c, .string ⟨l.toArray⟩] w (RetK w0 St w (dv s k l) m)
theorem Sui.gr {w0 w w' : World} {p : Nat} (S : Sui w0 p) {s : S.σ} {n : Nat} (h : S.St w s n) (hg : Gr w w') : S.St w' s n := S.oc h (OC.gr hg) (below_both (S.below h) hg)
section
variable {w0 w w' : World}
theorem Kp.fr {v : Value} {l : List UInt8} (h : Kp w0 w v l) (hf : FR w w') : Kp w0 w' v l := by
  obtain ⟨A, c, rfl, hh⟩ := h
  exact ⟨A, c, rfl, fun w'' hf' hb => hh w'' (hf.trans hf') hb⟩
theorem Kp.at {v : Value} {l : List UInt8} (h : Kp w0 w v l) (hb : Below w0.heap.size w0 w) : ∃ A c, v = .slice A l.length c ∧ Bs w A l.length c l ∧ ∀ w', FR w w' → Below w0.heap.size w0 w' → Bs w' A l.length c l := by
  obtain ⟨A, c, rfl, hh⟩ := h
  exact ⟨A, c, rfl, hh w (FR.gr (Gr.refl w)) hb, hh⟩
theorem FR.own {e : TypeId} {s n : Nat} {v : Value} {xs : List Value} (h : FR w w') (ho : Own w0 w e s v n xs) (h1 : e ≠ 110) (h2 : e ≠ 20) (h3 : e ≠ 3) (h4 : e ≠ 41) (h6 : e ≠ 54) (hb : Below w0.heap.size w0 w') : Own w0 w' e s v n xs := own_of_blk (fun g cs hk => h g e cs h1 h2 h3 h4 h6 hk) ho hb
theorem Kp.of {A A' : Option Addr} {c c' : Nat} {l : List UInt8} {n : Nat} (h : Own w0 w 5 1 (.slice A n c') n (l.map u8c)) (hl : n = l.length) (hc : n ≤ c) (hm : c ≤ maxLen) : Kp w0 w (.slice A n c) l := by
  subst hl
  exact ⟨A, c, rfl, fun w' hf hb => by
    have ho := hf.own h (by decide) (by decide) (by decide) (by decide) (by decide) hb
    obtain ⟨A', c', e, hs'⟩ := ho.slice
    injection e with e1 e2 e3
    subst e1 e3
    exact ⟨hs'.1, hc, hm, hs'.2.2.2⟩⟩
theorem Kp.own {v : Value} {l : List UInt8} {n : Nat} (h : Own w0 w 5 1 v n (l.map u8c)) (hl : n = l.length) : Kp w0 w v l := by
  obtain ⟨A, c, rfl, hs⟩ := h.slice
  exact Kp.of (A' := none) h hl hs.cap hs.2.2.1
end
/-- A suite of terms. -/
def symSui (w0 : World) (p g bm bs : Nat) : Sui w0 p where
  σ := List Nd
  St w T n := SymS w0 w p g bm bs T ∧ T.length + 3 * n ≤ 990
  oc h hc hb := ⟨h.1.oc hc hb, h.2⟩
  below h := h.1.below
  less h hm := ⟨h.1, by have := h.2; omega⟩
  dv T k l := ((derT T k ⟨l.toArray⟩).1, handleL (derT T k ⟨l.toArray⟩).2)
  dvLen _ _ _ := handleL_len _
  derive w T m A n c k l h hk hn hl := by
    have hkl : k.length = n := hk.len
    have hi := derT_in h.1.i (by have := h.2; omega) k (by simp only [maxLen]; omega) ⟨l.toArray⟩ (by show l.toArray.size ≤ _; simp [maxLen]; omega)
    refine (h.1.derive (by have := h.2; omega) A n c k hk ⟨l.toArray⟩ (by show l.toArray.size ≤ _; simp [maxLen]; omega)).mono ?_
    rintro e w' ⟨v, rfl, o, s, f⟩
    exact ⟨v, rfl, o, ⟨s, by have := h.2; show (derT T k ⟨l.toArray⟩).1.length + _ ≤ _; omega⟩, f⟩
end Go.Proofs.YtplddbaggbdbiaaDoor

/- Chains of keys whose bytes are rows of their own: copied, dropped, started. No condition. -/
namespace Go.Proofs.YtplddbaggbdbiaaDoor
open Go.RowKit
set_option linter.unusedVariables false
set_option linter.unusedSimpArgs false
/-- A row of bytes of its own. -/
def RowO (w0 w : World) (r : BRow) : Prop := Own w0 w 5 1 (.slice r.a r.n r.c) r.n (r.l.map u8c)
/-- Skipped keys in a row of the call's own, each one's bytes in a row of its own. -/
def OwnT (w0 w : World) (v : Value) (M : List Wr) : Prop := Own w0 w 54 2 v M.length (M.flatMap Wr.cells) ∧ ∀ x ∈ M, RowO w0 w x.r ∧ -9223372036854775808 ≤ x.p ∧ x.p ≤ 9223372036854775807
theorem RowO.bs {w0 w : World} {r : BRow} (h : RowO w0 w r) : Bs w r.a r.n r.c r.l := by
  obtain ⟨A, c, e, hs⟩ := Own.slice h
  injection e with e1 e2 e3
  rw [e1, e3]
  exact hs
theorem RowO.len {w0 w : World} {r : BRow} (h : RowO w0 w r) : r.l.length = r.n := h.bs.len
theorem RowO.kp {w0 w : World} {r : BRow} (h : RowO w0 w r) : Kp w0 w (.slice r.a r.n r.c) r.l := Kp.own h h.len.symm
theorem RowO.mono {w0 w w' : World} {r : BRow} (h : RowO w0 w r) (hg : Gr w w') : RowO w0 w' r := Own.mono h hg
theorem RowO.base {w0 w1 w : World} {r : BRow} (h : RowO w1 w r) (hb : Below w0.heap.size w0 w1) : RowO w0 w r := Own.base h hb
theorem RowO.fs {w0 w w' : World} {r : BRow} (h : RowO w0 w r) (hf : FS w w') (hb : Below w0.heap.size w0 w') : RowO w0 w' r := hf.own h (by decide) (by decide) (by decide) hb
theorem RowO.oc {w0 w w' : World} {r : BRow} (h : RowO w0 w r) (hf : OC w w') (hb : Below w0.heap.size w0 w') : RowO w0 w' r := own_of_blk (fun g cs k => hf.blk (by decide) (by decide) k) h hb
theorem OwnT.nil {w0 w : World} (hb : Below w0.heap.size w0 w) : OwnT w0 w (.slice none 0 0) [] := ⟨Own.nil' hb _ _, fun x hx => by cases hx⟩
theorem OwnT.mono {w0 w w' : World} {v : Value} {M : List Wr} (h : OwnT w0 w v M) (hg : Gr w w') : OwnT w0 w' v M := ⟨h.1.mono hg, fun x hx => ⟨(h.2 x hx).1.mono hg, (h.2 x hx).2⟩⟩
theorem OwnT.base {w0 w1 w : World} {v : Value} {M : List Wr} (h : OwnT w1 w v M) (hb : Below w0.heap.size w0 w1) : OwnT w0 w v M := ⟨h.1.base hb, fun x hx => ⟨(h.2 x hx).1.base hb, (h.2 x hx).2⟩⟩
theorem OwnT.fs {w0 w w' : World} {v : Value} {M : List Wr} (h : OwnT w0 w v M) (hf : FS w w') (hb : Below w0.heap.size w0 w') : OwnT w0 w' v M := ⟨hf.own h.1 (by decide) (by decide) (by decide) hb, fun x hx => ⟨(h.2 x hx).1.fs hf hb, (h.2 x hx).2⟩⟩
/-- Other blocks than p's stay. -/
theorem blk_off {w w' : World} {p : Nat} {t e : TypeId} {ds : List Value} (hp : Blk w p t ds) (h : ∀ b, b < w.heap.size → b ≠ p → w'.heap[b]? = w.heap[b]?) (hte : e ≠ t) : ∀ g cs, Blk w g e cs → Blk w' g e cs := fun g cs hk => by
  refine (h g hk.lt (fun q => ?_)).trans hk
  subst q
  unfold Blk at hk hp
  rw [hk] at hp
  injection hp with hp
  injection hp with _ hp
  exact hte hp
theorem OwnT.off {w0 w w' : World} {v : Value} {M : List Wr} (h : OwnT w0 w v M) {p : Nat} {ds : List Value} (hp : Blk w p 41 ds) (ho : ∀ b, b < w.heap.size → b ≠ p → w'.heap[b]? = w.heap[b]?) (hb : Below w0.heap.size w0 w') : OwnT w0 w' v M :=
  ⟨own_of_blk (blk_off hp ho (by decide)) h.1 hb, fun x hx => ⟨own_of_blk (blk_off hp ho (by decide)) (h.2 x hx).1 hb, (h.2 x hx).2⟩⟩
theorem OwnT.wrs {w0 w : World} {v : Value} {M : List Wr} (h : OwnT w0 w v M) : ∃ A c, v = .slice A M.length c ∧ Wrs w A M.length c M := by
  obtain ⟨A', c', rfl, hs⟩ := h.1.slice
  exact ⟨A', c', rfl, rfl, hs, fun x hx => ⟨(h.2 x hx).1.bs, (h.2 x hx).2⟩⟩
theorem OwnT.push {w0 w w' : World} {v v' : Value} {M : List Wr} {x : Wr} (h : OwnT w0 w v M) (hx : RowO w0 w x.r) (hp : -9223372036854775808 ≤ x.p ∧ x.p ≤ 9223372036854775807) (ho : Own w0 w' 54 2 v' (M.length + 1) (M.flatMap Wr.cells ++ x.cells)) (hk : Kept w w' v v') : OwnT w0 w' v' (M ++ [x]) := by
  have t := Tch.kept hk ho h.1.2
  have key : ∀ r, RowO w0 w r → RowO w0 w' r := fun r hr => Own.tch hr t (fun b hb => (h.1.1.lt b hb).1) (fun b hb e => own_other hr h.1 (by decide) hb e)
  refine ⟨?_, fun y hy => ?_⟩
  · rw [List.length_append, List.flatMap_append]
    have e : [x].flatMap Wr.cells = x.cells := by simp
    rw [e]
    exact ho
  · rcases List.mem_append.1 hy with hy | hy
    · exact ⟨key _ (h.2 y hy).1, (h.2 y hy).2⟩
    · rw [List.mem_singleton.1 hy]; exact ⟨key _ hx, hp⟩
def RetCo (w : World) (K : List (Int × List UInt8)) (e : Ending) (w' : World) : Prop := ∃ v M, e = .returned v ∧ OwnT w w' v M ∧ M.map Wr.kk = K
set_option maxRecDepth 100000 in
set_option maxHeartbeats 1000000 in
theorem copiedT_any (A : Option Addr) (n c : Nat) (L : List Wr) (w : World) (h : Wrs w A n c L) (hn : n ≤ 1048576) (hrow : ∀ x ∈ L, x.r.n ≤ 20000) :
    Calls Tryd.prog 69 #[.slice A n c] w (RetCo w (L.map Wr.kk)) := by
  have hmax := h.2.1.max
  have hcap := h.2.1.cap
  have HL := Lib.hid h.1
  have HH := Lib.hid h; clear h
  have HW := Lib.hid hrow; clear hrow
  go_enter Tryd.func69, Tryd.ntmps69
  go_wp2
  go_loopw [2, 7] (fun v i wr => ∃ (k : Nat) (M : List Wr), k ≤ n ∧ i = .int .i64 k ∧ M.length = k ∧ OwnT w wr v M ∧ M.map Wr.kk = (L.take k).map Wr.kk) (fun _ i _ => n - (Go.RowKit.intOf i).toNat)
  case atStart => exact ⟨0, [], Nat.zero_le _, rfl, rfl, OwnT.nil (Below.refl _ _), rfl⟩
  case round =>
    obtain ⟨k, M, hk, rfl, hmk, hot, hM⟩ := hrel
    have HM := Lib.hid hM; clear hM
    have HOT := Lib.hid hot; have HMK := Lib.hid hmk
    have hown : Own w wr 54 2 u2 k (M.flatMap Wr.cells) := by have := hot.1; rw [hmk] at this; exact this
    clear hot hmk
    by_cases hlt : k < n
    · have hbel := hown.below
      obtain ⟨b, o, ⟨xp, xr⟩, rfl, hx, c1, c2, hrow, hp1, hp2⟩ := (HH.out.mono hbel).row hlt
      simp only at c1 c2 hrow hp1 hp2
      have HX := Lib.hid hx; clear hx
      obtain ⟨wl, hwl⟩ : ∃ wl, wl = wr.alloc (.cells #[.int .i64 xp, .slice xr.a xr.n xr.c] 54) := ⟨_, rfl⟩
      have hbl : Below wr.heap.size wr wl := by rw [hwl]; exact (Below.refl _ _).alloc (Nat.le_refl _) _
      have d0 : wl.cell? ⟨wr.heap.size, 0, none⟩ = some (.int .i64 xp) := by rw [hwl, (Blk.new wr _ _).cell]; rfl
      have d1 : wl.cell? ⟨wr.heap.size, 1, none⟩ = some (.slice xr.a xr.n xr.c) := by rw [hwl, (Blk.new wr _ _).cell]; rfl
      have hzl : wr.heap.size < wl.heap.size := by rw [hwl]; simp
      have HCL := Lib.hid (clone_any xr.a xr.n xr.c xr.l wl.drew ((hrow.mono hbl).mono (Below.refl _ _).drew) (by have := HW.out ⟨xp, xr⟩ (List.mem_of_getElem? HX.out); simp only at this; omega))
      have HOL := Lib.hid (hown.mono hbl).drew
      have HWL := Lib.hid hwl; clear hwl
      have HBL := Lib.hid hbl; clear hbl
      clear hown hrow
      have HT : Hid ((M ++ [(⟨xp, ⟨none, 0, 0, xr.l⟩⟩ : Wr)]).map Wr.kk = (L.take (k + 1)).map Wr.kk) := by
        have hk : k < L.length := (List.getElem?_eq_some_iff.1 HX.out).1
        have := HX.out
        rw [List.getElem?_eq_getElem hk] at this
        injection this with this
        rw [List.take_succ_eq_append_getElem hk, List.map_append, List.map_append, HM.out, this]
        exact rfl
      go_wp2_with fail
      rw [← HWL.out]
      go_region_law (first
        | (refine step_pushG rfl (.tmp 11) (.tmp 18) 39 rfl tSk rfl (by exact (((HOL.out.mono OWN1.out.below)).alloc _)) _ _ (Wr.cells ⟨xp, ⟨A1, xr.l.length, k1, xr.l⟩⟩) rfl rfl (Wr.ones _) (by exact cells_new _ 0 #[.int .i64 xp, .slice A1 xr.l.length k1] _) (by omega) ?_; intro v2 w2 own2 kept2)
        | (go_simp; go_at_call 32; refine HCL.out.mono ?_; rintro e w1 ⟨v1, rfl, own1⟩; obtain ⟨A1, k1, rfl, sl1⟩ := own1.slice; have e0 : w1.cell? ⟨wr.heap.size, 0, none⟩ = some (.int .i64 xp) := (own1.below.cell (by exact hzl)).trans d0; have OWN1 := Lib.hid own1; clear own1 sl1))
      all_goals
        have hg1 : Gr wr w1 := (HBL.out.drew).trans (OWN1.out.below.mono HBL.out.size)
        have hga : Gr w1 (w1.alloc (.cells #[.int .i64 xp, .slice A1 xr.l.length k1] 54)) := Gr.alloc _ _
        have hro : RowO w w1 ⟨A1, xr.l.length, k1, xr.l⟩ := OWN1.out.base (below_both hbel HBL.out.drew)
        have HO2 : Hid (OwnT w w2 v2 (M ++ [⟨xp, ⟨A1, xr.l.length, k1, xr.l⟩⟩])) := OwnT.push (x := ⟨xp, ⟨A1, xr.l.length, k1, xr.l⟩⟩) (HOT.out.mono (hg1.trans hga)) (hro.mono hga) ⟨hp1, hp2⟩ (by rw [HMK.out]; exact own2) kept2
        clear own2 kept2 hg1 hga hro
        go_wp2
        go_roundw
        case rel =>
          refine ⟨k + 1, M ++ [⟨xp, ⟨A1, xr.l.length, k1, xr.l⟩⟩], by omega, by go_num, by rw [List.length_append, HMK.out]; rfl, HO2.out, ?_⟩
          rw [← HT.out]; simp [Wr.kk]
        case measure => simp [Go.RowKit.intOf]; omega
    · obtain rfl : n = k := by omega
      have HF : Hid (RetCo w (L.map Wr.kk) (.returned u2) wr) := by
        refine ⟨u2, M, rfl, HOT.out, ?_⟩
        rw [HM.out, List.take_of_length_le (by rw [HL.out]; omega)]
      clear hown
      go_wp2
      go_ret
      exact HF.out
end Go.Proofs.YtplddbaggbdbiaaDoor
