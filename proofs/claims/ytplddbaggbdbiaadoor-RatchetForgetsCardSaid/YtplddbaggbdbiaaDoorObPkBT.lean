/- Own texts of this claim, one behind the other. No condition. -/
import Derived.Test.YtplddbaggbdbiaaDoorObPkBN
import Derived.Test.YtplddbaggbdbiaaDoorObPkBR
import Derived.Test.YtplddbaggbdbiaaDoorObPkBS

/- Chains of terms: At, whatever gen is asked for; what is known, and what is derived. No condition. -/
namespace Go.Proofs.YtplddbaggbdbiaaDoor
open Go.RowKit
set_option linter.unusedVariables false
set_option linter.unusedSimpArgs false
/-- What is known between two gens: the suite of terms, the chain at its place, what was told. -/
structure Rd (w0 w : World) (p g bm bs gc : Nat) (T : List Nd) (pn : Nat) (cur : List UInt8) (told : List (List UInt8)) (A : Option Addr) (n c : Nat) (B : Option Addr) (d : Nat) (M : List Wr) (cl kl : List Nat) : Prop where
  sy : SymS w0 w p g bm bs T
  bk : Blk w gc 41 [.int .i64 (pn : Int), .slice A n c, .slice B M.length d]
  cu : RowO w0 w ⟨A, n, c, cur⟩
  sk : OwnT w0 w (.slice B M.length d) M
  ch : ChS T pn cur (M.map Wr.kk) told cl kl
  pl : pn ≤ 31
  ml : M.length ≤ 8
section
variable {w0 w : World} {p g bm bs gc : Nat} {T : List Nd} {pn : Nat} {cur : List UInt8} {told : List (List UInt8)} {A : Option Addr} {n c : Nat} {B : Option Addr} {d : Nat} {M : List Wr} {cl kl : List Nat}
theorem Rd.gr {w' : World} (h : Rd w0 w p g bm bs gc T pn cur told A n c B d M cl kl) (hg : Gr w w') : Rd w0 w' p g bm bs gc T pn cur told A n c B d M cl kl :=
  ⟨h.sy.gr hg, hg.blk h.bk, h.cu.mono hg, h.sk.mono hg, h.ch, h.pl, h.ml⟩
theorem Rd.curLen (h : Rd w0 w p g bm bs gc T pn cur told A n c B d M cl kl) : n = 32 := by
  obtain ⟨a, _, e⟩ := h.ch.cu
  have := h.cu.len
  simp only at this
  rw [e, handleL_len] at this
  exact this.symm
theorem Rd.rowLen (h : Rd w0 w p g bm bs gc T pn cur told A n c B d M cl kl) : ∀ x ∈ M, x.r.n = 32 := fun x hx => by
  obtain ⟨j, a, _, _, _, e⟩ := h.ch.sk x.kk (List.mem_map_of_mem hx)
  have := (h.sk.2 x hx).1.len
  have e : x.r.l = handleL a := e
  rw [e, handleL_len] at this
  exact this.symm
/-- What At ends in. -/
def RetLaw (w0 w : World) (p g bm bs : Nat) (T : List Nd) (told : List (List UInt8)) (e : Ending) (w' : World) : Prop :=
  (∃ f : Int, (f = 9 ∨ f = 10) ∧ e = .returned (.tuple #[.slice none 0 0, .agg #[.int .i64 0, .slice none 0 0, .slice none 0 0], .int .i64 f]) ∧ Gr w w') ∨
  (∃ A1 n1 c1 key T' pn' cur' A2 n2 c2 A3 c3 M c' k', e = .returned (.tuple #[.slice A1 n1 c1, .agg #[.int .i64 ((pn' : Nat) : Int), .slice A2 n2 c2, .slice A3 M.length c3], .int .i64 0]) ∧ RowO w0 w' ⟨A1, n1, c1, key⟩ ∧ RowO w0 w' ⟨A2, n2, c2, cur'⟩ ∧ OwnT w0 w' (.slice A3 M.length c3) M ∧ SymS w0 w' p g bm bs T' ∧ T'.length ≤ T.length + 36 ∧ ChS T' pn' cur' (M.map Wr.kk) (told ++ [key]) c' k' ∧ pn' ≤ 31 ∧ M.length ≤ 8 ∧ Rf w0 w w')
theorem Rd.at (h : Rd w0 w p g bm bs gc T pn cur told A n c B d M cl kl) (hT : T.length ≤ 900) (gen win : Int) (hg0 : 0 ≤ gen) (hg : gen ≤ 30) (hw1 : 1 ≤ win) (hw2 : win ≤ 8) :
    Calls Tryd.prog 14 #[.pointer (some ⟨p, 0, none⟩), .agg #[.int .i64 (pn : Int), .slice A n c, .slice B M.length d], .int .i64 gen, .int .i64 win] w (RetLaw w0 w p g bm bs T told) := by
  have hn := h.curLen
  have hrl := h.rowLen
  have hml := h.ml
  have hpl := h.pl
  obtain ⟨Bx, dx, ex, hwr⟩ := h.sk.wrs
  cases ex
  by_cases hlt : gen < (pn : Int)
  · cases hf : M.findIdx? (fun x => x.p == gen) with
    | none =>
      have hidx : idxK gen M = -1 := by unfold idxK; rw [hf]
      refine (atUsed_any (.pointer (some ⟨p, 0, none⟩)) pn A B n c M.length d M gen win w hwr (by omega) hg0 (by omega) hw1 hw2 hlt (by omega)).mono ?_
      rintro e w' ⟨rfl, hb⟩
      exact .inl ⟨9, .inl rfl, rfl, hb⟩
    | some k =>
      have hidx : idxK gen M = (k : Int) := by unfold idxK; rw [hf]
      rw [List.findIdx?_eq_some_iff_getElem] at hf
      obtain ⟨hk, hpk, _⟩ := hf
      have hx : M[k]? = some M[k] := List.getElem?_eq_getElem hk
      refine (atKeptT_any (.pointer (some ⟨p, 0, none⟩)) pn A B n c M.length d cur M gen win k M[k] w h.cu.bs (by omega) hwr (by omega) (fun x hx => by have := hrl x hx; omega) (by omega) hg0 (by omega) hw1 hw2 hlt hx hidx).mono ?_
      rintro e w' ⟨A1, n1, c1, A2, n2, c2, A3, c3, M', rfl, r1, r2, o3, hk3⟩
      have hgr : Gr w w' := o3.1.below
      have hb := h.sy.below
      have hKx : (M.map Wr.kk)[k]? = some (M[k]).kk := by rw [List.getElem?_map, hx]; rfl
      have hml' : M'.length ≤ 8 := by
        have := congrArg List.length hk3
        rw [List.length_map, List.length_eraseIdx, List.length_map, if_pos hk] at this
        omega
      exact .inr ⟨A1, n1, c1, _, T, pn, cur, A2, n2, c2, A3, c3, M', cl, kl, rfl, r1.base hb, r2.base hb, o3.base hb, h.sy.gr hgr, by omega, by rw [hk3]; exact h.ch.keepK k _ hKx, hpl, hml', Rf.gr hgr⟩
  · by_cases hwin : win < gen - (pn : Int)
    · refine (atWindow_any (.pointer (some ⟨p, 0, none⟩)) pn A B n c M.length d M gen win w hwr (by omega) (by omega) hw1 hw2 (by omega) hwin).mono ?_
      rintro e w' ⟨rfl, hb⟩
      exact .inl ⟨10, .inr rfl, rfl, hb⟩
    · obtain ⟨k, hk⟩ : ∃ k : Nat, gen = (pn : Int) + k := ⟨(gen - pn).toNat, by omega⟩
      have hst : (symSui w0 p g bm bs).St w T (0 + 2 * (k + 1)) := ⟨h.sy, by show T.length + 3 * (0 + 2 * (k + 1)) ≤ 990; omega⟩
      refine (atStepT_any (symSui w0 p g bm bs) T 0 pn A B n c d cur M gen win k w hst h.cu (by omega) h.sk (by omega) (fun x hx => by have := hrl x hx; omega) (by omega) hk (by omega) hw1 hw2 (by omega)).mono ?_
      rintro e w' ⟨A1, n1, c1, A2, n2, c2, A3, c3, M', rfl, r1, r2, o3, hk3, hst', hfs, hsz⟩
      have hsy : SymS w0 w' p g bm bs (runT (symSui w0 p g bm bs) pn T cur (k + 1)).1 := hst'.1
      have e1 := runT_sym (w0 := w0) (pb := p) (g := g) (bm := bm) (bs := bs) pn T cur (k + 1)
      have e0 := runT_sym (w0 := w0) (pb := p) (g := g) (bm := bm) (bs := bs) pn T cur k
      rw [e1] at hsy r2
      rw [e0] at hk3 r1
      obtain ⟨c', k', hch, hlen⟩ := h.ch.step k (M.length + k - win.toNat) (by omega)
      rw [show keyD (symSui w0 p g bm bs) (runP pn T cur k).1 (runP pn T cur k).2.1 = handleL (derT (runP pn T cur k).1 (runP pn T cur k).2.1 keyB).2 from keyD_sym _ _] at r1
      have hml' : M'.length ≤ 8 := by
        have h2 := congrArg List.length hk3
        have h3 : (runP pn T cur k).2.2.length = k := by rw [← e0]; exact runT_len _ _ _ _ _
        rw [List.length_map, List.length_drop, List.length_append, List.length_map, h3] at h2
        omega
      refine .inr ⟨A1, n1, c1, _, _, pn + k + 1, _, A2, n2, c2, A3, c3, M', c', k', ?_, r1, r2, o3, hsy, by omega, by rw [hk3]; exact hch, by omega, hml', ⟨hsz, hfs, fun _ => hsy.below⟩⟩
      rw [show gen + 1 = ((pn + k + 1 : Nat) : Int) by omega]
/-- What was learned. -/
def lrn (T : List Nd) (cur : List UInt8) (K : List (Int × List UInt8)) : List Int := (termB T cur : Int) :: K.map (fun x => (termB T x.2 : Int))
theorem ChS.curTerm {K : List (Int × List UInt8)} (h : ChS T pn cur K told cl kl) (hn : T.length ≤ 1000) : ∃ a x, cl[pn]? = some a ∧ termB T cur = a ∧ At T a x ∧ cur = handleL a := by
  obtain ⟨a, e, rfl⟩ := h.cu
  obtain ⟨x, hx, h2, h0⟩ := h.ch.link e
  exact ⟨a, x, e, term_handle hx hn h2 h0, hx, rfl⟩
theorem ChS.skTerm {K : List (Int × List UInt8)} (h : ChS T pn cur K told cl kl) (hn : T.length ≤ 1000) {y : Int × List UInt8} (hy : y ∈ K) : ∃ (j a : Nat) (x : Nd), y.1 = (j : Int) ∧ j < pn ∧ kl[j]? = some a ∧ termB T y.2 = a ∧ At T a x := by
  obtain ⟨j, a, h1, h2, h3, h4⟩ := h.sk y hy
  obtain ⟨x, hx, h5, h6⟩ := h.ch.keyAt h3
  exact ⟨j, a, x, h1, h2, h3, by rw [h4]; exact term_handle hx hn h5 h6, hx⟩
theorem ChS.lrn_in {K : List (Int × List UInt8)} (h : ChS T pn cur K told cl kl) (hn : T.length ≤ 1000) : ∀ x ∈ lrn T cur K, outside T.length x = false := fun z hz => by
  rcases List.mem_cons.1 hz with rfl | hz
  · obtain ⟨a, x, _, e, hx, _⟩ := h.curTerm hn
    rw [e]; exact hx.out
  · obtain ⟨y, hy, rfl⟩ := List.mem_map.1 hz
    obtain ⟨j, a, x, _, _, _, e, hx⟩ := h.skTerm hn hy
    rw [e]; exact hx.out
/-- What was told is a term, and is not derived. -/
theorem ChS.lost {K : List (Int × List UInt8)} (h : ChS T pn cur K told cl kl) (hn : T.length ≤ 1000) {b : List UInt8} (hb : b ∈ told) : outside T.length (termB T b : Int) = false ∧ 0 < termB T b ∧ ¬ Der T (InL (lrn T cur K)) (termB T b) := by
  obtain ⟨j, a, h1, h2, rfl, h4⟩ := h.td b hb
  obtain ⟨x, hx, h5, h6⟩ := h.ch.keyAt h2
  rw [term_handle hx hn h5 h6]
  refine ⟨hx.out, hx.1, fun hd => ?_⟩
  refine (h.ch.forgets (g := pn) (sk := fun i => ∃ y ∈ K, y.1 = (i : Int)) (fun id hid => ?_) hd).2 j h1 (fun ⟨y, hy, e⟩ => h4 y hy e) h2
  rcases List.mem_cons.1 hid with hid | hid
  · obtain ⟨a', x', e', e2, _, _⟩ := h.curTerm hn
    have hid' : id = a' := by omega
    exact .inl (by rw [hid']; exact e')
  · obtain ⟨y, hy, e⟩ := List.mem_map.1 hid
    obtain ⟨j', a', x', q1, q2, q3, q4, _⟩ := h.skTerm hn hy
    have hid' : id = a' := by omega
    exact .inr ⟨j', ⟨y, hy, q1⟩, by rw [hid']; exact q3⟩
/-- The next key can be told. -/
theorem ChS.more {K : List (Int × List UInt8)} (h : ChS T pn cur K told cl kl) (hn : T.length ≤ 980) : 0 < termB T cur ∧ Onto T (derT T cur keyB).1 ∧ (derT T cur keyB).1.length ≤ T.length + 1 ∧ TIn (derT T cur keyB).1 ∧ (∃ k', ChS (derT T cur keyB).1 pn cur K told cl k') ∧
    outside (derT T cur keyB).1.length (termB (derT T cur keyB).1 (handleL (derT T cur keyB).2) : Int) = false ∧ Der (derT T cur keyB).1 (InL (lrn T cur K)) (termB (derT T cur keyB).1 (handleL (derT T cur keyB).2)) := by
  obtain ⟨a, x, e, ht, hx, rfl⟩ := h.curTerm (by omega)
  obtain ⟨hch, ho, hl, h0⟩ := h.ch.key (by omega) h.cl h.kl e
  have hkk := take_snoc_eq kl pn (derT T (handleL a) keyB).2 h.kl
  obtain ⟨y, hy, y2, y0⟩ := hch.keyAt hkk
  have htm : termB (derT T (handleL a) keyB).1 (handleL (derT T (handleL a) keyB).2) = (derT T (handleL a) keyB).2 := term_handle hy (by omega) y2 y0
  rw [htm]
  refine ⟨h0, ho, hl, hch.inn, ⟨_, hch, h.cl, by rw [List.length_append, List.length_take]; simp; have := h.kl; omega, ⟨a, e, rfl⟩, fun z hz => ?_, h.nd, fun b hb => ?_⟩, hy.out, ?_⟩
  · obtain ⟨j, b, q1, q2, q3, q4⟩ := h.sk z hz
    exact ⟨j, b, q1, q2, by rw [take_snoc_lt kl pn _ h.kl j q2]; exact q3, q4⟩
  · obtain ⟨j, b2, q1, q2, q3, q4⟩ := h.td b hb
    exact ⟨j, b2, q1, by rw [take_snoc_lt kl pn _ h.kl j q1]; exact q2, q3, q4⟩
  · exact hch.derives e hkk (show InL _ a from List.mem_cons.2 (.inl (by rw [ht])))
end
end Go.Proofs.YtplddbaggbdbiaaDoor
