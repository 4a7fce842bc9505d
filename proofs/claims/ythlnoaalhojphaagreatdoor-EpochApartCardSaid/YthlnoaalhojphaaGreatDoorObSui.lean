/- A suite, whatever it is: of terms, or a real one. No condition. -/
import Derived.Test.YthlnoaalhojphaaGreatDoorObSymC
import Derived.Test.YthlnoaalhojphaaGreatDoorObChB
import Derived.Outline
namespace Go.Proofs.YthlnoaalhojphaaGreatDoor
open Go.RowKit
set_option linter.unusedVariables false
/-- Blocks of cells of other types than those that a suite, or an epoch, turns. -/
def FR (w w' : World) : Prop := ∀ g t cs, t ≠ 108 → t ≠ 20 → t ≠ 3 → t ≠ 50 → t ≠ 30 → t ≠ 102 → Blk w g t cs → Blk w' g t cs
/-- Only rows of chains, of skips, and births, have turned. -/
def OC (w w' : World) : Prop := w.heap.size ≤ w'.heap.size ∧ ∀ b, b < w.heap.size → (∀ cs h, w.heap[b]? ≠ some (.cells cs 50 h)) → (∀ cs h, w.heap[b]? ≠ some (.cells cs 30 h)) → (∀ cs h, w.heap[b]? ≠ some (.cells cs 102 h)) → w'.heap[b]? = w.heap[b]?
theorem FR.fs {w w' : World} (h : FS w w') : FR w w' := fun g t cs h1 h2 h3 _ _ _ hb => h g t cs h1 h2 h3 hb
theorem FR.gr {w w' : World} (h : Gr w w') : FR w w' := FR.fs (FS.gr h)
theorem FR.trans {a b c : World} (h : FR a b) (k : FR b c) : FR a c := fun g t cs h1 h2 h3 h4 h5 h6 hb => k g t cs h1 h2 h3 h4 h5 h6 (h g t cs h1 h2 h3 h4 h5 h6 hb)
theorem OC.gr {w w' : World} (h : Gr w w') : OC w w' := ⟨h.size, fun b hb _ _ _ => h.block b hb⟩
theorem OC.blk {w w' : World} (h : OC w w') {g : Nat} {t : TypeId} {cs : List Value} (h1 : t ≠ 50) (h2 : t ≠ 30) (h3 : t ≠ 102) (hb : Blk w g t cs) : Blk w' g t cs := by
  have hh : w.heap[g]? = some (.cells cs.toArray t (0, 0)) := hb
  refine (h.2 g hb.lt (fun cs' q e => ?_) (fun cs' q e => ?_) (fun cs' q e => ?_)).trans hb
  all_goals
    rw [hh] at e
    injection e with e
    injection e with _ e
    first | exact h1 e | exact h2 e | exact h3 e
theorem OC.map {w w' : World} (h : OC w w') {g : Nat} {es : Array MapEntry} {k : Nat} (hb : w.heap[g]? = some (.map es k)) : w'.heap[g]? = w.heap[g]? :=
  h.2 g (Array.getElem?_eq_some_iff.1 hb).1 (fun cs' q e => by rw [hb] at e; cases e) (fun cs' q e => by rw [hb] at e; cases e) (fun cs' q e => by rw [hb] at e; cases e)
theorem FR.oc {w w' : World} (h : OC w w') : FR w w' := fun g t cs _ _ _ h4 h5 h6 hb => h.blk h4 h5 h6 hb
theorem own_of_blk {w0 w w' : World} {e : TypeId} {s n : Nat} {v : Value} {xs : List Value} (h : ∀ g cs, Blk w g e cs → Blk w' g e cs) (ho : Own w0 w e s v n xs) (hb : Below w0.heap.size w0 w') : Own w0 w' e s v n xs := by
  refine ⟨⟨ho.1.1, ?_⟩, hb⟩
  rcases ho.1.2 with q | ⟨g, cap, cur, hv, hg, hh, r⟩
  · exact .inl q
  · refine .inr ⟨g, cap, cur, hv, hg, ?_, r⟩
    have hk : Blk w g e cur.toList := by unfold Blk; rw [Array.toArray_toList]; exact hh
    have := h g cur.toList hk
    unfold Blk at this
    rw [Array.toArray_toList] at this
    exact this
theorem TbF.oc {w0 w w' : World} {g : Nat} {T : List Nd} {vl vs : Value} {bm : Nat} (h : TbF w0 w g T vl vs bm) (hc : OC w w') (hb : Below w0.heap.size w0 w') : TbF w0 w' g T vl vs bm := by
  refine ⟨⟨hc.blk (by decide) (by decide) (by decide) h.x.blk, own_of_blk (fun g cs k => hc.blk (by decide) (by decide) (by decide) k) h.x.l hb, own_of_blk (fun g cs k => hc.blk (by decide) (by decide) (by decide) k) h.x.s hb, h.x.ge, h.x.gm⟩, h.m.keep ?_⟩
  obtain ⟨es, clock, hm, r⟩ := h.m
  exact hc.map hm
theorem SymS.oc {w0 w w' : World} {p g bm bs : Nat} {T : List Nd} (h : SymS w0 w p g bm bs T) (hc : OC w w') (hb : Below w0.heap.size w0 w') : SymS w0 w' p g bm bs T := by
  obtain ⟨vl, vs, ht⟩ := h.t
  exact ⟨hc.blk (by decide) (by decide) (by decide) h.blk, ⟨vl, vs, ht.oc hc hb⟩, h.i⟩
/-- Bytes that stay, whatever a suite's calls do. -/
def Kp (w0 w : World) (v : Value) (l : List UInt8) : Prop := ∃ A c, v = .slice A l.length c ∧ ∀ w', FR w w' → Below w0.heap.size w0 w' → Bs w' A l.length c l
/-- What a call of a suite ends in, that answers bytes. -/
def RetK {σ : Type} (w0 : World) (St : World → σ → Nat → Prop) (w : World) (r : σ × List UInt8) (m : Nat) (e : Ending) (w' : World) : Prop := ∃ v, e = .returned v ∧ Kp w0 w' v r.2 ∧ St w' r.1 m ∧ FS w w'
/-- A suite at block p: its state, which serves n calls more, and what it derives and mixes. -/
structure Sui (w0 : World) (p : Nat) where
  σ : Type
  St : World → σ → Nat → Prop
  oc : ∀ {w w' s n}, St w s n → OC w w' → Below w0.heap.size w0 w' → St w' s n
  below : ∀ {w s n}, St w s n → Below w0.heap.size w0 w
  less : ∀ {w s n m}, St w s n → m ≤ n → St w s m
  dv : σ → List UInt8 → List UInt8 → σ × List UInt8
  mx : σ → List UInt8 → List UInt8 → σ × List UInt8
  dvLen : ∀ s k l, (dv s k l).2.length = 32
  mxLen : ∀ s k l, (mx s k l).2.length = 32
  derive : ∀ (w : World) s m A n c k l, St w s (m + 1) → Bs w A n c k → n ≤ 100 → l.length ≤ 100 → Calls Tryz.prog 26 #[.pointer (some ⟨p, 0, none⟩), .slice A n c, .string ⟨l.toArray⟩] w (RetK w0 St w (dv s k l) m)
  mix : ∀ (w : World) s m va vb a b, St w s (m + 1) → Kp w0 w va a → Kp w0 w vb b → a.length ≤ 100 → b.length ≤ 100 → Calls Tryz.prog 27 #[.pointer (some ⟨p, 0, none⟩), va, vb] w (RetK w0 St w (mx s a b) m)
theorem Sui.gr {w0 w w' : World} {p : Nat} (S : Sui w0 p) {s : S.σ} {n : Nat} (h : S.St w s n) (hg : Gr w w') : S.St w' s n := S.oc h (OC.gr hg) (below_both (S.below h) hg)
section
variable {w0 w w' : World}
theorem Kp.fr {v : Value} {l : List UInt8} (h : Kp w0 w v l) (hf : FR w w') : Kp w0 w' v l := by
  obtain ⟨A, c, rfl, hh⟩ := h
  exact ⟨A, c, rfl, fun w'' hf' hb => hh w'' (hf.trans hf') hb⟩
theorem Kp.at {v : Value} {l : List UInt8} (h : Kp w0 w v l) (hb : Below w0.heap.size w0 w) : ∃ A c, v = .slice A l.length c ∧ Bs w A l.length c l ∧ ∀ w', FR w w' → Below w0.heap.size w0 w' → Bs w' A l.length c l := by
  obtain ⟨A, c, rfl, hh⟩ := h
  exact ⟨A, c, rfl, hh w (FR.gr (Gr.refl w)) hb, hh⟩
theorem FR.own {e : TypeId} {s n : Nat} {v : Value} {xs : List Value} (h : FR w w') (ho : Own w0 w e s v n xs) (h1 : e ≠ 108) (h2 : e ≠ 20) (h3 : e ≠ 3) (h4 : e ≠ 50) (h5 : e ≠ 30) (h6 : e ≠ 102) (hb : Below w0.heap.size w0 w') : Own w0 w' e s v n xs := own_of_blk (fun g cs hk => h g e cs h1 h2 h3 h4 h5 h6 hk) ho hb
theorem Kp.of {A A' : Option Addr} {c c' : Nat} {l : List UInt8} {n : Nat} (h : Own w0 w 5 1 (.slice A n c') n (l.map u8c)) (hl : n = l.length) (hc : n ≤ c) (hm : c ≤ maxLen) : Kp w0 w (.slice A n c) l := by
  subst hl
  exact ⟨A, c, rfl, fun w' hf hb => by
    have ho := hf.own h (by decide) (by decide) (by decide) (by decide) (by decide) (by decide) hb
    obtain ⟨A', c', e, hs'⟩ := ho.slice
    injection e with e1 e2 e3
    subst e1 e3
    exact ⟨hs'.1, hc, hm, hs'.2.2.2⟩⟩
theorem Kp.own {v : Value} {l : List UInt8} {n : Nat} (h : Own w0 w 5 1 v n (l.map u8c)) (hl : n = l.length) : Kp w0 w v l := by
  obtain ⟨A, c, rfl, hs⟩ := h.slice
  exact Kp.of (A' := none) h hl hs.cap hs.2.2.1
/-- Bytes that came in. -/
theorem Kp.arg {A : Option Addr} {n c : Nat} {l : List UInt8} (h : Bs w0 A n c l) : Kp w0 w (.slice A n c) l := by
  obtain rfl : l.length = n := h.len
  exact ⟨A, c, rfl, fun w' _ hb => h.mono hb⟩
end
/-- A suite of terms. -/
def symSui (w0 : World) (p g bm bs : Nat) : Sui w0 p where
  σ := List Nd
  St w T n := SymS w0 w p g bm bs T ∧ T.length + 3 * n ≤ 990
  oc h hc hb := ⟨h.1.oc hc hb, h.2⟩
  below h := h.1.below
  less h hm := ⟨h.1, by have := h.2; omega⟩
  dv T k l := ((derT T k ⟨l.toArray⟩).1, handleL (derT T k ⟨l.toArray⟩).2)
  mx T a b := ((mixT T a b).1, handleL (mixT T a b).2)
  dvLen _ _ _ := handleL_len _
  mxLen _ _ _ := handleL_len _
  derive w T m A n c k l h hk hn hl := by
    have hkl : k.length = n := hk.len
    have hi := derT_in h.1.i (by have := h.2; omega) k (by simp only [maxLen]; omega) ⟨l.toArray⟩ (by show l.toArray.size ≤ _; simp [maxLen]; omega)
    refine (h.1.derive (by have := h.2; omega) A n c k hk ⟨l.toArray⟩ (by show l.toArray.size ≤ _; simp [maxLen]; omega)).mono ?_
    rintro e w' ⟨v, rfl, o, s, f⟩
    exact ⟨v, rfl, Kp.own o (handleL_len _).symm, ⟨s, by have := h.2; show (derT T k ⟨l.toArray⟩).1.length + _ ≤ _; omega⟩, f⟩
  mix w T m va vb a b h ha hb hal hbl := by
    have hi := mixT_in h.1.i (by have := h.2; omega) a b (by simp only [maxLen]; omega) (by simp only [maxLen]; omega)
    obtain ⟨A, c, rfl, HA⟩ := ha
    obtain ⟨B, d, rfl, HB⟩ := hb
    refine (h.1.mix (by have := h.2; omega) A B a.length c b.length d a b (HA w (FR.gr (Gr.refl w)) h.1.below) (HB w (FR.gr (Gr.refl w)) h.1.below) (fun w' f => HB w' (FR.fs f))).mono ?_
    rintro e w' ⟨v, rfl, o, s, f⟩
    exact ⟨v, rfl, Kp.own o (handleL_len _).symm, ⟨s, by have := h.2; show (mixT T a b).1.length + _ ≤ _; omega⟩, f⟩
theorem extract_any (A B : Option Addr) (n c m d : Nat) (k t : List UInt8) (w : World) (h : Bs w A n c k) (hn : n ≤ 50000) (ht : Bs w B m d t) (hm : m ≤ 40000) (hK : ShaK w) :
    Calls Tryz.prog 73 #[.slice A n c, .slice B m d] w (RetBs w (macL k t)) := by
  have HM := Lib.hid (mac_any A B n c m d k t w h hn ht hm hK)
  clear h ht hK
  go_enter Tryz.func73, Tryz.ntmps73
  go_wp2_with fail
  refine HM.out.mono ?_
  rintro e w1 ⟨v, rfl, o⟩
  have O := Lib.hid o; clear o
  go_wp2_with fail
  go_ret
  exact ⟨v, rfl, O.out⟩
theorem kmix_any (A B : Option Addr) (n c m d : Nat) (k t : List UInt8) (w : World) (h : Bs w A n c k) (hn : n ≤ 50000) (ht : Bs w B m d t) (hm : m ≤ 40000) (hK : ShaK w) :
    Calls Tryz.prog 56 #[.slice A n c, .slice B m d] w (RetBs w (macL k t)) := by
  have HM := Lib.hid (extract_any A B n c m d k t w h hn ht hm hK)
  clear h ht hK
  go_enter Tryz.func56, Tryz.ntmps56
  go_wp2_with fail
  refine HM.out.mono ?_
  rintro e w1 ⟨v, rfl, o⟩
  have O := Lib.hid o; clear o
  go_wp2_with fail
  go_ret
  exact ⟨v, rfl, O.out⟩
theorem sMix_any (g : Nat) (A B : Option Addr) (n c m d : Nat) (k t : List UInt8) (w : World) (hr : RealS w g) (h : Bs w A n c k) (hn : n ≤ 50000) (ht : Bs w B m d t) (hm : m ≤ 40000) (hK : ShaK w) :
    Calls Tryz.prog 27 #[.pointer (some ⟨g, 0, none⟩), .slice A n c, .slice B m d] w (RetBs w (macL k t)) := by
  have HM := Lib.hid (kmix_any A B n c m d k t w h hn ht hm hK)
  have HR := Lib.hid hr
  clear h ht hK hr
  go_enter Tryz.func27, Tryz.ntmps27
  go_wp2_with fail
  refine (none_any g _ HR.out).mono ?_
  rintro e w1 ⟨rfl, h1⟩
  subst h1
  go_wp2_with fail
  refine (real_any g _ HR.out).mono ?_
  rintro e w1 ⟨rfl, h1⟩
  subst h1
  go_wp2_with fail
  refine HM.out.mono ?_
  rintro e w1 ⟨v, rfl, o⟩
  have O := Lib.hid o; clear o
  go_wp2_with fail
  go_ret
  exact ⟨v, rfl, O.out⟩
/-- A real suite's block. -/
def RealB (w : World) (g : Nat) : Prop := ∃ x y q, Blk w g 66 [x, y, .pointer (some q)]
theorem RealB.s {w : World} {g : Nat} (h : RealB w g) : RealS w g := by
  obtain ⟨x, y, q, h⟩ := h
  exact ⟨q, (h.cell 2).trans rfl⟩
theorem realB_any (w : World) (hz : 2 < w.heap.size) :
    Calls Tryz.prog 6 #[.slice none 0 0] w fun e w' => ∃ g, e = .returned (.pointer (some ⟨g, 0, none⟩)) ∧ RealB w' g ∧ Below w.heap.size w w' ∧ w.heap.size ≤ g := by
  go_enter Tryz.func6, Tryz.ntmps6
  go_wp2_with fail
  refine (new_any none 0 0 [] w (Sl.nil _ _) (by omega) hz).mono ?_
  rintro e w1 ⟨p, A1, c1, rfl, s1, b1, g1, n1, q1⟩
  have B1 := Lib.hid b1; clear s1 b1 g1 n1 q1
  go_wp2_with fail
  go_ret
  exact ⟨w1.heap.size, rfl, ⟨_, _, ⟨p, 0, none⟩, Blk.new w1 _ _⟩, B1.out.alloc B1.out.size _, B1.out.size⟩
/-- A real suite. -/
def realSui (w0 : World) (p : Nat) (hK : ShaK w0) : Sui w0 p where
  σ := Unit
  St w _ _ := RealB w p ∧ Below w0.heap.size w0 w
  oc h hc hb := ⟨by obtain ⟨x, y, q, k⟩ := h.1; exact ⟨x, y, q, hc.blk (by decide) (by decide) (by decide) k⟩, hb⟩
  below h := h.2
  less h _ := h
  dv _ k l := ((), deriveL k l)
  mx _ a b := ((), macL a b)
  dvLen _ _ _ := deriveL_len _ _
  mxLen _ _ _ := macL_len _ _
  derive w s m A n c k l h hk hn hl := by
    refine (sDeriveO_any p A n c k l w h.1.s hk (by omega) (by omega) (hK.mono h.2)).mono ?_
    rintro e w' ⟨A', c', k', rfl, hs, ho⟩
    have hg : Gr w w' := ho.below
    obtain ⟨x, y, q, hp⟩ := h.1
    exact ⟨_, rfl, Kp.of (A' := none) (ho.base h.2) rfl hs.cap hs.2.2.1, ⟨⟨x, y, q, hg.blk hp⟩, below_both h.2 hg⟩, FS.gr hg⟩
  mix w s m va vb a b h ha hb hal hbl := by
    obtain ⟨A, c, rfl, HA⟩ := ha
    obtain ⟨B, d, rfl, HB⟩ := hb
    refine (sMix_any p A B a.length c b.length d a b w h.1.s (HA w (FR.gr (Gr.refl w)) h.2) (by omega) (HB w (FR.gr (Gr.refl w)) h.2) (by omega) (hK.mono h.2)).mono ?_
    rintro e w' ⟨v, rfl, o⟩
    have hg : Gr w w' := o.below
    obtain ⟨x, y, q, hp⟩ := h.1
    exact ⟨_, rfl, Kp.own (o.base h.2) rfl, ⟨⟨x, y, q, hg.blk hp⟩, below_both h.2 hg⟩, FS.gr hg⟩
end Go.Proofs.YthlnoaalhojphaaGreatDoor
