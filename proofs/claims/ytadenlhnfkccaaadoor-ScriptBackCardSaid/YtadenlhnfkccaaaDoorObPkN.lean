/- Own texts of this claim, one behind the other. No condition. -/
import Derived.Test.YtadenlhnfkccaaaDoorObPkA
import Derived.Test.YtadenlhnfkccaaaDoorObPkC
import Derived.Test.YtadenlhnfkccaaaDoorObPkD
import Derived.Test.YtadenlhnfkccaaaDoorObPkF
import Derived.Test.YtadenlhnfkccaaaDoorObPkG
import Derived.Test.YtadenlhnfkccaaaDoorObPkJ
import Derived.Test.YtadenlhnfkccaaaDoorObPkK
import Derived.Test.YtadenlhnfkccaaaDoorObPkM
import Derived.Great.BuildSlice
import Derived.Deep.MidRow
import Derived.Outline
import Derived.ProofKit
import Derived.Deep.Slices
import Derived.Deep.Fields
import Derived.Lib.SmallJoins
import Derived.Stop.Joined
import Derived.Handed
import Derived.OpenShut
import Derived.Test.YtadenlhnfkccaaaDoorRows
import Derived.Lay
import Derived.LaidMore
import Derived.LaidOnce
import Derived.PinnedBridge
import Derived.Lib.LaidU8
import Derived.Lib.LaidTab
import Derived.Lib.ItoaNum
import Derived.Stop.LaidErr

/- A slice of one struct, built: the struct's cells stay a term. No condition. -/
namespace Go.Proofs.YtadenlhnfkccaaaDoor
open Go.RowKit
set_option linter.unusedVariables false
set_option linter.unusedSimpArgs false
theorem wpList_build1 {P : Program} {ops : Array Oper} {rest : List Oper} {o : Oper} {a : Act} {w : World} {Q : Exit → Act → World → Prop} (hg : o.guard = none) (t e : TypeId) (x : Operand) (ho : o.op = .buildSlice t 1 #[(0, x)])
    (cs : Array Value) (hx : a.eval x = .agg cs) (hu : P.underlying t = some (.slice e)) (hsz : (P.info? e).map (·.size) = some cs.size) (hz : ((P.info? e).bind (·.zero)).isSome = true) (hpos : 0 < cs.size) (hsmall : cs.size ≤ 2 ^ 24)
    (h : wpList P ops Q rest (a.put o.dst (.slice (some ⟨w.heap.size, 0, none⟩) 1 1)) (w.alloc (.cells cs e))) : wpList P ops Q (o :: rest) a w := by
  cases hie : P.info? e with
  | none => simp [hie] at hsz
  | some ie =>
    simp only [hie, Option.map_some, Option.some.injEq, Option.bind_some] at hsz hz
    obtain ⟨z, hzz⟩ := Option.isSome_iff_exists.1 hz
    refine wpList_buildSlice hg t e 1 #[(0, x)] ho cs ie z hu hie hzz (by rw [hsz]; omega) (by rw [hsz]; omega) ?_ h
    have hw := Great.fill_whole (s := ie.size) (by omega) [.agg cs] ((Array.range (1 * ie.size)).map (z.cells[· % z.cells.size]!)) (fun v hv => by
      simp only [List.mem_singleton] at hv
      subst hv
      exact hsz.symm) (by simp)
    simp only [hx] at hw ⊢
    simpa [Value.cells, hx] using hw
end Go.Proofs.YtadenlhnfkccaaaDoor

/- Scripts: rows of lines turned, and held against others. No condition. -/
namespace Go.Proofs.YtadenlhnfkccaaaDoor
open Go.RowKit
set_option linter.unusedVariables false
set_option linter.unusedSimpArgs false
theorem plain_load_mid {P : Program} {o : Oper} {a : Act} {w : World} (ty : TypeId) (x : Operand) (ho : o.op = .load ty x) (b of : Nat) (hx : a.eval x = .pointer (some ⟨b, of, none⟩)) (cs : List Value) (d : TypeDesc) (hc : w.rangeAt b of cs)
    (hu : P.underlying ty = some d) (hd : d.isRow = true) (hi : (P.info? ty).map (·.size) = some cs.length) : plainAt P o a w (.agg cs.toArray) := by
  unfold plainAt execOp
  simp only [ho, hx, Instr.loadAt, Instr.sureAddr, Sem.run_bind, Sem.run_pure, Result.andThen_ok, run_loadVar_mid w b of ty cs d hc hu hd hi]
  simp
theorem tLinesR : ElemT Tryd.prog 44 50 (.agg lnV0.arr) 17 216 := ⟨Tryd.underlying44, by kernel_rfl, rfl, by decide, by decide⟩
theorem LnV.sz (x : LnV) : x.arr.size = 17 := rfl
theorem lns_snoc {L : List LnV} {k : Nat} (h : k < L.length) : (L.take (k + 1)).flatMap LnV.cells = (L.take k).flatMap LnV.cells ++ (L[k]).cells := by
  rw [List.take_succ_eq_append_getElem h, List.flatMap_append]
  simp
set_option maxRecDepth 100000 in
set_option maxHeartbeats 4000000 in
theorem rowsLn_any (A : Option Addr) (n c : Nat) (L : List LnV) (w : World) (hL : Lns w A n c L) (hn : n ≤ 3000) :
    Calls Tryd.prog 23 #[.slice A n c] w fun e w' => ∃ A' c', e = .returned (.slice A' n c') ∧ Lns w' A' n c' L ∧ Gr w w' := by
  have HLN := Lib.hid hL
  have hmax := hL.2.1.max
  have hcap := hL.2.1.cap
  have hln := hL.1
  clear hL
  have HBK : Hid (∀ (x : LnV) wr, Calls Tryd.prog 55 #[.agg x.arr] wr fun e w' => e = .returned (.agg x.arr) ∧ Gr wr w') := fun x wr => backLn_any x wr
  go_enter Tryd.func23, Tryd.ntmps23
  go_wp2_with fail
  go_loopw [3, 4] (fun v i wr => ∃ k : Nat, k ≤ n ∧ i = .int .i64 k ∧ Own w wr 50 17 v k ((L.take k).flatMap LnV.cells)) (fun _ i _ => n - (intOf i).toNat)
  case atStart => exact ⟨0, Nat.zero_le _, rfl, Own.nil _ _ _⟩
  case round =>
    obtain ⟨k, hk, rfl, own⟩ := hrel
    have OW := Lib.hid own
    have GW : Hid (Gr w wr) := own.below
    obtain ⟨A1, c1, rfl, sl1⟩ := own.slice
    have SL1 := Lib.hid sl1
    clear own sl1
    by_cases hlt : k < n
    · obtain ⟨b, o, rfl, hc⟩ := (HLN.out.gr GW.out).at (by omega)
      have hkl : k < L.length := by omega
      have HRG := Lib.hid (hc k hkl)
      have HSN := Lib.hid (lns_snoc hkl)
      clear hc
      generalize L[k] = x at *
      go_wp2_with (refine wpList_load_mid rfl 53 (.tmp 14) rfl b (o + k * 17) rfl x.cells _ HRG.out Tryd.underlying53 rfl lnSize ?_)
      refine (HBK.out x _).mono ?_
      rintro e w2 ⟨rfl, g2⟩
      have OW2 := Lib.hid (OW.out.mono g2)
      clear g2
      go_wp2_with (first
        | (refine wpList_build1 rfl 44 50 (.tmp 16) rfl x.arr rfl Tryd.underlying44 refLnSize (by kernel_rfl) (by rw [LnV.sz]; omega) (by rw [LnV.sz]; omega) ?_)
        | (at_builtin; go_loud (refine wpList_pushG rfl (.tmp 11) (.tmp 17) 44 rfl tLinesR rfl OW2.out x.arr rfl rfl x.one (by omega) ?_); intro v5 w5 o5 k5; obtain ⟨A5, c5, rfl, _⟩ := o5.slice; have O5 : Hid (Own w w5 50 17 (.slice A5 (k + 1) c5) (k + 1) ((L.take (k + 1)).flatMap LnV.cells)) := (by show Own _ _ _ _ _ _ _; rw [HSN.out]; exact o5); clear o5 k5))
      refine ⟨⟨k + 1, by omega, by first | trivial | go_num, O5.out⟩, ?_⟩
      show n - ((k : Int) + 1).toNat < n - (k : Int).toNat
      omega
    · obtain rfl : k = n := by omega
      have SF : Hid (Sl wr A1 k c1 17 (L.flatMap LnV.cells)) := by
        have h := SL1.out
        rw [List.take_of_length_le (by omega)] at h
        exact h
      go_wp2_with fail
      go_ret
      exact ⟨_, _, rfl, ⟨HLN.out.1, SF.out, fun x hx => (HLN.out.2.2 x hx).gr GW.out⟩, GW.out⟩
theorem rowsT_go {L M : List LnD} (hl : L.length = M.length) : ∀ k, k ≤ L.length → ((L.take k).zip (M.take k)).all (fun p => sameT p.1 p.2) = true → k = L.length → rowsT L M = true := by
  intro k hk h e
  subst e
  rw [List.take_length, hl, List.take_length] at h
  unfold rowsT
  rw [hl, h]
  simp
theorem rowsT_step {L M : List LnD} {k : Nat} (h1 : k < L.length) (h2 : k < M.length) : ((L.take (k + 1)).zip (M.take (k + 1))).all (fun p => sameT p.1 p.2) = (((L.take k).zip (M.take k)).all (fun p => sameT p.1 p.2) && sameT L[k] M[k]) := by
  rw [List.take_succ_eq_append_getElem h1, List.take_succ_eq_append_getElem h2, List.zip_append (by simp; omega), List.all_append]
  simp
theorem rowsT_bad {L M : List LnD} (k : Nat) (h1 : k < L.length) (h2 : k < M.length) (h : sameT L[k] M[k] = false) : rowsT L M = false := by
  unfold rowsT
  have : (L.zip M).all (fun p => sameT p.1 p.2) = false := by
    rw [List.all_eq_false]
    have hz : k < (L.zip M).length := by rw [List.length_zip]; omega
    refine ⟨(L.zip M)[k], List.getElem_mem hz, ?_⟩
    rw [List.getElem_zip]
    rw [h]; decide
  rw [this, Bool.and_false]
theorem rowsT_len {L M : List LnD} (h : L.length ≠ M.length) : rowsT L M = false := by
  unfold rowsT
  rw [beq_false_of_ne h, Bool.false_and]
set_option maxRecDepth 100000 in
set_option maxHeartbeats 4000000 in
theorem refRows41_any (A B : Option Addr) (n c m d : Nat) (L M : List LnV) (w : World) (hL : Lns w A n c L) (hM : Lns w B m d M) :
    Calls Tryd.prog 22 #[.slice A n c, .slice B m d] w fun e w' => e = .returned (.bool (rowsT (L.map LnV.d) (M.map LnV.d))) ∧ Gr w w' := by
  have HL := Lib.hid hL
  have HM := Lib.hid hM
  have hmax := hL.2.1.max
  have hcap := hL.2.1.cap
  have hln := hL.1
  have hmax2 := hM.2.1.max
  have hcap2 := hM.2.1.cap
  have hmn := hM.1
  have HSM : Hid (∀ x ∈ L, ∀ y ∈ M, ∀ wr, Gr w wr → Calls Tryd.prog 54 #[.agg x.arr, .agg y.arr] wr fun e w' => e = .returned (.bool (sameT x.d y.d)) ∧ Gr wr w') := fun x hx y hy wr g => refSame41_any x y wr ((hL.2.2 x hx).gr g) ((hM.2.2 y hy).gr g)
  clear hL hM
  go_enter Tryd.func22, Tryd.ntmps22
  by_cases hnm : n = m
  · have t1 : ((n : Int) != (m : Int)) = false := by rw [hnm]; simp
    subst hnm
    go_wp2_with fail
    go_loopw [5] (fun i wr => ∃ k : Nat, k ≤ n ∧ i = .int .i64 k ∧ Gr w wr ∧ (((L.map LnV.d).take k).zip ((M.map LnV.d).take k)).all (fun p => sameT p.1 p.2) = true) (fun i _ => n - (intOf i).toNat)
    case atStart => exact ⟨0, Nat.zero_le _, rfl, Gr.refl _, rfl⟩
    case round =>
      obtain ⟨k, hk, rfl, g, ha⟩ := hrel
      have GW := Lib.hid g; have HA := Lib.hid ha
      clear g ha
      by_cases hlt : k < n
      · obtain ⟨b, o, rfl, hc⟩ := HL.out.at (by omega)
        obtain ⟨b2, o2, rfl, hc2⟩ := HM.out.at (by omega)
        have hkl : k < L.length := by omega
        have hkm : k < M.length := by omega
        have hkl' : k < (L.map LnV.d).length := by rw [List.length_map]; omega
        have hkm' : k < (M.map LnV.d).length := by rw [List.length_map]; omega
        have HR1 : Hid (∀ wq, Gr w wq → wq.rangeAt b (o + k * 17) (L[k]).cells) := fun wq g => by
          obtain ⟨b', o', e, h⟩ := (HL.out.gr g).at (by omega)
          injection e with e; injection e with e1 e2; subst e1 e2
          exact h k hkl
        have HR2 : Hid (∀ wq, Gr w wq → wq.rangeAt b2 (o2 + k * 17) (M[k]).cells) := fun wq g => by
          obtain ⟨b', o', e, h⟩ := (HM.out.gr g).at (by omega)
          injection e with e; injection e with e1 e2; subst e1 e2
          exact h k hkm
        have HSC := Lib.hid (HSM.out _ (List.getElem_mem hkl) _ (List.getElem_mem hkm))
        have HST := Lib.hid (rowsT_step hkl' hkm')
        have HBAD := Lib.hid (rowsT_bad k hkl' hkm')
        simp only [List.getElem_map] at HST HBAD
        clear hc hc2
        generalize L[k] = x at *
        generalize M[k] = y at *
        have hk2 : (k : Int) < (n : Int) := by omega
        have GD : Hid (Gr w wr.drew) := GW.out.trans (Gr.drew _)
        go_wp2_with fail
        refine wp_region_grow (by kernel_rfl) [0, 0, 3, 7, 0, 0, 48, 112, 255, 511] [.p 0, .p 1, .p 2, .p 4, .p 5, .p 6, .q 3, .q 7, .c 8, .p 9] (by kernel_rfl) (trivial) ?_
        refine wpG_pe rfl rfl ?_
        apply Exists.intro
        refine ⟨fun wq => ?_, ?_⟩
        · unfold plainAt
          go_simp
          first | exact rfl | exact ⟨rfl, rfl⟩
        go_simp
        refine wpG_pe rfl rfl ?_
        apply Exists.intro
        refine ⟨fun wq => ?_, ?_⟩
        · unfold plainAt
          go_simp
          first | exact rfl | exact ⟨rfl, rfl⟩
        go_simp
        refine wpG_pe rfl rfl ?_
        apply Exists.intro
        refine ⟨fun wq => ?_, ?_⟩
        · unfold plainAt
          go_simp
          first | exact rfl | exact ⟨rfl, rfl⟩
        go_simp
        refine wpG_pe rfl rfl ?_
        apply Exists.intro
        refine ⟨fun wq => ?_, ?_⟩
        · unfold plainAt
          go_simp
          first | exact rfl | exact ⟨rfl, rfl⟩
        go_simp
        refine wpG_pe rfl rfl ?_
        apply Exists.intro
        refine ⟨fun wq => ?_, ?_⟩
        · unfold plainAt
          go_simp
          first | exact rfl | exact ⟨rfl, rfl⟩
        go_simp
        refine wpG_pe rfl rfl ?_
        apply Exists.intro
        refine ⟨fun wq => ?_, ?_⟩
        · unfold plainAt
          go_simp
          first | exact rfl | exact ⟨rfl, rfl⟩
        go_simp
        refine wpG_q rfl rfl (.agg x.cells.toArray) (fun wq hq => plain_load_mid 50 (.tmp 19) rfl b (o + k * 17) rfl x.cells _ (HR1.out wq (GD.out.trans hq)) Tryd.underlying50 rfl refLnSize) ?_
        go_simp
        refine wpG_q rfl rfl (.agg y.cells.toArray) (fun wq hq => plain_load_mid 50 (.tmp 23) rfl b2 (o2 + k * 17) rfl y.cells _ (HR2.out wq (GD.out.trans hq)) Tryd.underlying50 rfl refLnSize) ?_
        go_simp
        cases hs : sameT x.d y.d with
        | true =>
          have HA2 : Hid ((((L.map LnV.d).take (k + 1)).zip ((M.map LnV.d).take (k + 1))).all (fun p => sameT p.1 p.2) = true) := by show _ = _; rw [HST.out, HA.out, hs]; rfl
          rw [hs] at HSC
          clear hs
          refine wpG_c rfl rfl ?_
          intro wc gc K hK
          go_simp
          go_at_call 54
          refine (HSC.out wc (GD.out.trans gc)).mono ?_
          rintro e wn ⟨rfl, gf⟩
          refine hK _ _ gf ?_; have GF := Lib.hid (GD.out.trans (gc.trans gf)); clear gc gf hK
          go_simp
          refine wpG_pe rfl rfl ?_
          apply Exists.intro
          refine ⟨fun wq => ?_, ?_⟩
          · unfold plainAt
            go_simp
            first | exact rfl | exact ⟨rfl, rfl⟩
          go_simp
          refine wpG_nil ?_
          intro wz gz
          have GZ := Lib.hid (GF.out.trans gz); clear gz
          go_wp2_with fail
          refine ⟨⟨k + 1, by omega, by first | trivial | go_num, GZ.out, HA2.out⟩, ?_⟩
          show n - ((k : Int) + 1).toNat < n - (k : Int).toNat
          omega
        | false =>
          have HF := Lib.hid (HBAD.out hs)
          rw [hs] at HSC
          clear hs
          refine wpG_c rfl rfl ?_
          intro wc gc K hK
          go_simp
          go_at_call 54
          refine (HSC.out wc (GD.out.trans gc)).mono ?_
          rintro e wn ⟨rfl, gf⟩
          refine hK _ _ gf ?_; have GF := Lib.hid (GD.out.trans (gc.trans gf)); clear gc gf hK
          go_simp
          refine wpG_pe rfl rfl ?_
          apply Exists.intro
          refine ⟨fun wq => ?_, ?_⟩
          · unfold plainAt
            go_simp
            first | exact rfl | exact ⟨rfl, rfl⟩
          go_simp
          refine wpG_nil ?_
          intro wz gz
          have GZ := Lib.hid (GF.out.trans gz); clear gz
          go_wp2_with fail
          go_ret
          exact ⟨by rw [HF.out]; rfl, GZ.out⟩
      · obtain rfl : k = n := by omega
        have HF : Hid (rowsT (L.map LnV.d) (M.map LnV.d) = true) := rowsT_go (by simp; omega) k (by simp; omega) HA.out (by simp; omega)
        go_wp2_with fail
        go_ret
        exact ⟨by rw [HF.out]; rfl, GW.out⟩
  · have t1 : ((n : Int) != (m : Int)) = true := bne_iff_ne.2 (by omega)
    have HF : Hid (rowsT (L.map LnV.d) (M.map LnV.d) = false) := rowsT_len (by simp; omega)
    go_wp2_with fail
    go_ret
    exact ⟨by rw [HF.out]; rfl, Gr.refl _⟩
end Go.Proofs.YtadenlhnfkccaaaDoor

/- What the rows' frames tell of an argument that came in, in the words of ObBase. No condition. -/
namespace Go.Proofs.YtadenlhnfkccaaaDoor
open Go.RowKit Go.ChangeShapes Go.WideShapes Go.Deep
set_option linter.unusedVariables false

section
variable {H : Type} {enc : TypeId × Value → H} {P : Program} {W : World}

/-- A slice that came in, element by element: each reads as some x, in its own cells 'f x'. -/
theorem open_elems {α : Type} [Inhabited α] {t e : TypeId} {C fuel : Nat} {y : DataW H × List MemPlace} {a : Option Addr} {len cap : Nat} (ht : P.underlying t = some (.slice e)) (hC : P.cellsOf e = C) (hpos : 0 < C)
    (h : DataW.trod enc P W 0 (fun _ => true) true fuel t [.slice a len cap] = some y)
    (f : α → List Value) (hf : ∀ x, (f x).length = C) (good : α → Prop)
    (hel : ∀ n cs z, cs.length = C → DataW.trod enc P W 0 (fun _ => true) true n e cs = some z → ∃ x, cs = f x ∧ good x) :
    ∃ L : List α, L.length = len ∧ Sl W a len cap C (L.flatMap f) ∧ ∀ x ∈ L, good x := by
  rcases open_slice ht h with ⟨hcs, _⟩ | ⟨ad, len', cap', m, n, D, Pl, hcs, _, hl, hm, hmm, _, hx⟩
  · simp at hcs
    obtain ⟨rfl, rfl, rfl⟩ := hcs
    exact ⟨[], rfl, Sl.nil _ _, by simp⟩
  · simp at hcs
    obtain ⟨rfl, rfl, rfl⟩ := hcs
    rw [hC] at hx
    obtain ⟨V, hV⟩ := choose_lt (α := α) (n := len) (p := fun i x => good x ∧ ∀ j, j < C → W.cell? (ad.add (i * C + j)) = (f x)[j]?) (fun i hi => by
      obtain ⟨cs', h1, h2⟩ := hx i (by simp at hmm; omega)
      obtain ⟨_, hlen, hat⟩ := World.cells?_some h1
      obtain ⟨x, rfl, hg⟩ := hel _ _ _ hlen h2
      exact ⟨x, hg, fun j hj => by rw [← Go.Deep.add_add]; exact hat j hj⟩)
    refine ⟨(List.range len).map V, by simp, ⟨by rw [flat_length hf]; simp, hl, hm, fun hn => ?_⟩, ?_⟩
    · have h0 := (hV 0 hn).2 0 hpos
      rw [Nat.zero_mul, Nat.zero_add, List.getElem?_eq_getElem (by rw [hf]; exact hpos)] at h0
      obtain ⟨b, o, sp⟩ := ad
      have hsp : sp = none := by simpa [Addr.add] using World.cell?_spot h0
      subst hsp
      refine ⟨b, o, rfl, fun j u hu => ?_⟩
      have hj : j < len * C := by
        have := (List.getElem?_eq_some_iff.1 hu).1
        rw [flat_length hf] at this
        simpa using this
      have hdiv : j / C < len := by rw [Nat.div_lt_iff_lt_mul hpos]; exact hj
      have hmod := Nat.mod_lt j hpos
      have e : j / C * C + j % C = j := Nat.div_add_mod' j C
      rw [← e, flat_at hf _ (j / C) (j % C) hmod (V (j / C)) (by simp [hdiv])] at hu
      rw [← add_flat, ← e, (hV (j / C) hdiv).2 (j % C) hmod]
      exact hu
    · intro x hx
      simp at hx
      obtain ⟨i, hi, rfl⟩ := hx
      exact (hV i hi).1

/-- The one-cell fields of a struct. -/
theorem trod_fields {t : TypeId} {fs : Array Field} {fuel : Nat} {cs : List Value} {x : DataW H × List MemPlace} (ht : P.underlying t = some (.struct fs)) (hone : oneCellFields P fs = true) (hC : P.cellsOf t = fs.size)
    (h : DataW.trod enc P W 0 (fun _ => true) true fuel t cs = some x) :
    cs.length = fs.size ∧ ∃ n, ∀ (j : Nat) (fd : Field), fs[j]? = some fd → ∃ v y, cs[j]? = some v ∧ DataW.trod enc P W 0 (fun _ => true) true n fd.type [v] = some y := by
  obtain ⟨xs, n, _, _, hlen, hxl, hf⟩ := DataW.trod_struct ht h
  refine ⟨hlen.trans hC, n, fun j fd hj => ?_⟩
  obtain ⟨ho, hk⟩ := hone_of hone j fd hj
  have hjl : j < fs.size := (Array.getElem?_eq_some_iff.1 hj).1
  have h1 := hf j fd hj
  rw [ho, hk] at h1
  have hjc : j < cs.length := by rw [hlen, hC]; exact hjl
  have hone' : (cs.drop j).take 1 = [cs[j]] := by rw [List.drop_eq_getElem_cons hjc]; rfl
  rw [hone', List.getElem?_eq_getElem (show j < xs.length by omega)] at h1
  exact ⟨_, _, List.getElem?_eq_getElem hjc, h1⟩

/-! ### bytes, numbers, rows of bytes -/
theorem open_bytes' {t e : TypeId} {a : Option Addr} {len cap fuel : Nat} {y : DataW H × List MemPlace} (ht : P.underlying t = some (.slice e)) (he : P.underlying e = some (.int .u8)) (hc : P.cellsOf e = 1)
    (h : DataW.trod enc P W 0 (fun _ => true) true fuel t [.slice a len cap] = some y) : ∃ l, Bs W a len cap l := by
  obtain ⟨L, _, hs, _⟩ := open_elems (α := UInt8) ht hc (by decide) h (fun x => [u8c x]) (fun _ => rfl) (fun _ => True) (fun n cs z hl hz => by
    obtain ⟨v, rfl, _, hw⟩ := DataW.trod_int he hz
    have := bounds_u8 hw
    exact ⟨UInt8.ofNat v.toNat, by rw [u8_of v (by omega) (by omega)], trivial⟩)
  refine ⟨L, ?_⟩
  have e : L.flatMap (fun x => [u8c x]) = L.map u8c := flat_one _ L
  rw [e] at hs
  exact hs
theorem open_bytes {t e : TypeId} {a : Option Addr} {len cap : Nat} {d : DataW H} {p : List MemPlace} (ht : P.underlying t = some (.slice e)) (he : P.underlying e = some (.int .u8)) (hc : P.cellsOf e = 1)
    (h : DataW.Trod enc P W 0 (fun _ => true) true t (.slice a len cap) d p) : ∃ l, Bs W a len cap l := by
  obtain ⟨fuel, hf⟩ := h
  exact open_bytes' ht he hc hf

/-- Numbers, each one that an int holds. -/
def Fits (l : List Int) : Prop := ∀ x ∈ l, -9223372036854775808 ≤ x ∧ x ≤ 9223372036854775807
theorem open_nums {t e : TypeId} {a : Option Addr} {len cap : Nat} {d : DataW H} {p : List MemPlace} (ht : P.underlying t = some (.slice e)) (he : P.underlying e = some (.int .i64)) (hc : P.cellsOf e = 1)
    (h : DataW.Trod enc P W 0 (fun _ => true) true t (.slice a len cap) d p) : ∃ l, Is W a len cap l ∧ Fits l := by
  obtain ⟨fuel, hf⟩ := h
  obtain ⟨L, _, hs, hg⟩ := open_elems (α := Int) ht hc (by decide) hf (fun x => [i64c x]) (fun _ => rfl) (fun x => -9223372036854775808 ≤ x ∧ x ≤ 9223372036854775807) (fun n cs z hl hz => by
    obtain ⟨v, rfl, _, hw⟩ := DataW.trod_int he hz
    have := bounds_i64 hw
    exact ⟨v, rfl, by omega⟩)
  have e : L.flatMap (fun x => [i64c x]) = L.map i64c := flat_one _ L
  rw [e] at hs
  exact ⟨L, hs, hg⟩

theorem open_rows {t e b : TypeId} {a : Option Addr} {len cap : Nat} {d : DataW H} {p : List MemPlace} (ht : P.underlying t = some (.slice e)) (he : P.underlying e = some (.slice b)) (hb : P.underlying b = some (.int .u8)) (hc : P.cellsOf e = 1) (hcb : P.cellsOf b = 1)
    (h : DataW.Trod enc P W 0 (fun _ => true) true t (.slice a len cap) d p) : ∃ L, Bss W a len cap L := by
  obtain ⟨fuel, hf⟩ := h
  obtain ⟨L, _, hs, hg⟩ := open_elems (α := BRow) ht hc (by decide) hf (fun x => [x.v]) (fun _ => rfl) (fun r => Bs W r.a r.n r.c r.l) (fun n cs z hl hz => by
    obtain ⟨a', l', c', rfl⟩ := Go.Joins.slice_form he hz
    obtain ⟨l, hl⟩ := open_bytes' he hb hcb hz
    exact ⟨⟨a', l', c', l⟩, rfl, hl⟩)
  have e : L.flatMap (fun x => [x.v]) = L.map BRow.v := flat_one _ L
  rw [e] at hs
  exact ⟨L, hs, hg⟩
end
end Go.Proofs.YtadenlhnfkccaaaDoor

/- What the rows' frames tell of an operation that came in, and of an answer. No condition. -/
namespace Go.Proofs.YtadenlhnfkccaaaDoor
open Go.RowKit Go.ChangeShapes Go.WideShapes Go.Deep
set_option linter.unusedVariables false
/-- What an operation's numbers keep to. -/
structure OpNum (o : OpD) : Prop where
  k : -9223372036854775808 ≤ o.k ∧ o.k ≤ 9223372036854775807
  e : -9223372036854775808 ≤ o.e ∧ o.e ≤ 9223372036854775807
  s : -9223372036854775808 ≤ o.s ∧ o.s ≤ 9223372036854775807
  n : -9223372036854775808 ≤ o.n ∧ o.n ≤ 9223372036854775807
  v : -9223372036854775808 ≤ o.v ∧ o.v ≤ 9223372036854775807
theorem OpNum.ok {o : OpD} (h : OpNum o) (hl : lightO o = true) : OpOk o := by
  unfold lightO at hl
  simp only [Bool.and_eq_true, decide_eq_true_eq] at hl
  exact ⟨h.k, h.e, h.s, h.n, h.v, by omega, by omega, by omega⟩
section
variable {H : Type} {enc : TypeId × Value → H} {P : Program} {W : World}
theorem open_op {r : Reach} {b0 : Nat} {t b : TypeId} {f0 f1 f2 f3 f4 f5 f6 f7 : Field} {v : Value} {d : DataW H} {p : List MemPlace} (ht : P.underlying t = some (.struct #[f0, f1, f2, f3, f4, f5, f6, f7])) (hone : oneCellFields P #[f0, f1, f2, f3, f4, f5, f6, f7] = true) (hC : P.cellsOf t = 8)
    (h0 : P.underlying f0.type = some (.int .i64)) (h1 : P.underlying f1.type = some .string) (h2 : P.underlying f2.type = some .string) (h3 : P.underlying f3.type = some (.int .i64)) (h4 : P.underlying f4.type = some (.int .i64)) (h5 : P.underlying f5.type = some (.int .i64)) (h6 : P.underlying f6.type = some (.int .i64))
    (h7 : P.underlying f7.type = some (.slice b)) (hb : P.underlying b = some (.int .u8)) (hcb : P.cellsOf b = 1)
    (hv : Value.okWide P W r b0 t v) (h : DataW.Trod enc P W 0 (fun _ => true) true t v d p) :
    ∃ (o : OpD) (A : Option Addr) (m c : Nat), v = opV o A m c ∧ OpNum o ∧ Bs W A m c o.x := by
  obtain ⟨cs, rfl, hsz⟩ := okWide_struct ht hv
  obtain ⟨fuel, hf⟩ := h
  obtain ⟨_, m, hfs⟩ := trod_fields (cs := cs.toList) ht hone hC hf
  obtain ⟨v0, y0, e0, t0⟩ := hfs 0 f0 rfl
  obtain ⟨v1, y1, e1, t1⟩ := hfs 1 f1 rfl
  obtain ⟨v2, y2, e2, t2⟩ := hfs 2 f2 rfl
  obtain ⟨v3, y3, e3, t3⟩ := hfs 3 f3 rfl
  obtain ⟨v4, y4, e4, t4⟩ := hfs 4 f4 rfl
  obtain ⟨v5, y5, e5, t5⟩ := hfs 5 f5 rfl
  obtain ⟨v6, y6, e6, t6⟩ := hfs 6 f6 rfl
  obtain ⟨v7, y7, e7, t7⟩ := hfs 7 f7 rfl
  obtain ⟨n0, q0, _, b0⟩ := DataW.trod_int h0 t0
  obtain ⟨s1, q1, _, b1⟩ := DataW.trod_string h1 t1
  obtain ⟨s2, q2, _, b2⟩ := DataW.trod_string h2 t2
  obtain ⟨n3, q3, _, b3⟩ := DataW.trod_int h3 t3
  obtain ⟨n4, q4, _, b4⟩ := DataW.trod_int h4 t4
  obtain ⟨n5, q5, _, b5⟩ := DataW.trod_int h5 t5
  obtain ⟨n6, q6, _, b6⟩ := DataW.trod_int h6 t6
  obtain ⟨A, m7, c7, q7⟩ := Go.Joins.slice_form h7 t7
  simp at q0 q1 q2 q3 q4 q5 q6 q7
  subst q0 q1 q2 q3 q4 q5 q6 q7
  obtain ⟨x, hx⟩ := open_bytes' h7 hb hcb t7
  refine ⟨⟨n0, s1.data.toList, s2.data.toList, n3, n4, n5, n6, x⟩, A, m7, c7, ?_, ⟨bounds_i64 b0, bounds_i64 b3, bounds_i64 b4, bounds_i64 b5, bounds_i64 b6⟩, hx⟩
  unfold opV opC
  congr 1
  apply Array.toList_inj.1
  have hl : cs.toList.length = 8 := by rw [Array.length_toList, hsz, hC]
  match hcs : cs.toList, hl with
  | [c0, c1, c2, c3, c4, c5, c6, c7], _ =>
    rw [hcs] at e0 e1 e2 e3 e4 e5 e6 e7
    simp at e0 e1 e2 e3 e4 e5 e6 e7
    subst e0 e1 e2 e3 e4 e5 e6 e7
    rfl
/-- An answer that came in. -/
theorem open_an {r : Reach} {b0 : Nat} {t b s : TypeId} {f0 f1 f2 f3 : Field} {v : Value} {d : DataW H} {p : List MemPlace} (ht : P.underlying t = some (.struct #[f0, f1, f2, f3])) (hone : oneCellFields P #[f0, f1, f2, f3] = true) (hC : P.cellsOf t = 4)
    (h0 : P.underlying f0.type = some (.int .i64)) (h1 : P.underlying f1.type = some (.slice b)) (hb : P.underlying b = some (.int .u8)) (hcb : P.cellsOf b = 1) (h2 : P.underlying f2.type = some (.slice s)) (hs : P.underlying s = some (.int .i64)) (hcs : P.cellsOf s = 1) (h3 : P.underlying f3.type = some .string)
    (hv : Value.okWide P W r b0 t v) (h : DataW.Trod enc P W 0 (fun _ => true) true t v d p) :
    ∃ (a : AnD) (A : Option Addr) (m c : Nat) (B : Option Addr) (p q : Nat), v = .agg (anC a A m c B p q) ∧ (-9223372036854775808 ≤ a.f ∧ a.f ≤ 9223372036854775807) ∧ Fits a.n ∧ Bs W A m c a.b ∧ Is W B p q a.n := by
  obtain ⟨v0, v1, v2, v3, y0, y1, y2, y3, fuel, rfl, _, _, t0, t1, t2, t3⟩ := Go.Joins.open_agg4 ht hone hC hv h
  obtain ⟨n0, q0, _, b0⟩ := DataW.trod_int h0 t0
  obtain ⟨A, m, c, q1⟩ := Go.Joins.slice_form h1 t1
  obtain ⟨B, p, q, q2⟩ := Go.Joins.slice_form h2 t2
  obtain ⟨s3, q3, _, _⟩ := DataW.trod_string h3 t3
  simp at q0 q1 q2 q3
  subst q0 q1 q2 q3
  obtain ⟨x, hx⟩ := open_bytes' h1 hb hcb t1
  obtain ⟨L, hL, hf⟩ := open_nums (enc := enc) (d := y2.1) (p := y2.2) h2 hs hcs ⟨fuel, t2⟩
  exact ⟨⟨n0, x, L, s3.data.toList⟩, A, m, c, B, p, q, rfl, bounds_i64 b0, hf, hx, hL⟩
end
end Go.Proofs.YtadenlhnfkccaaaDoor

/- What the rows' frames tell of lines that came in. No condition. -/
namespace Go.Proofs.YtadenlhnfkccaaaDoor
open Go.RowKit Go.ChangeShapes Go.WideShapes Go.Deep
set_option linter.unusedVariables false
/-- What a line's numbers keep to. -/
structure LnNum (d : LnD) : Prop where
  k : -9223372036854775808 ≤ d.k ∧ d.k ≤ 9223372036854775807
  o : OpNum d.o
  n : -9223372036854775808 ≤ d.n ∧ d.n ≤ 9223372036854775807
  p : Fits d.p
  t : -9223372036854775808 ≤ d.t ∧ d.t ≤ 9223372036854775807
  a : -9223372036854775808 ≤ d.a ∧ d.a ≤ 9223372036854775807
  e : -9223372036854775808 ≤ d.e ∧ d.e ≤ 9223372036854775807
theorem LnNum.ok {d : LnD} (h : LnNum d) (hl : lightT d = true) : LnOk d ∧ OpLt d.o ∧ d.p.length ≤ 80 ∧ d.b.length ≤ 600 := by
  unfold lightT lightC at hl
  simp only [Bool.and_eq_true, decide_eq_true_eq] at hl
  obtain ⟨⟨⟨h1, h2⟩, h3, h4⟩, h5⟩ := hl
  have h1' := h1
  unfold lightO at h1'
  simp only [Bool.and_eq_true, decide_eq_true_eq] at h1'
  exact ⟨⟨h.n, h.t, h.a, h.e, h.p, by omega, by omega, by omega, by omega⟩, ⟨h.o.ok h1, by omega, by omega⟩, h2, h5⟩
section
variable {H : Type} {enc : TypeId × Value → H} {P : Program} {W : World}
/-- Where the fields of a struct lie. -/
def offs (P : Program) (fs : Array Field) : List (Nat × Nat) := fs.toList.map fun f => (f.offset, P.cellsOf f.type)
theorem trod_sub {t : TypeId} {fs : Array Field} {fuel : Nat} {cs : List Value} {x : DataW H × List MemPlace} (ht : P.underlying t = some (.struct fs))
    (h : DataW.trod enc P W 0 (fun _ => true) true fuel t cs = some x) :
    cs.length = P.cellsOf t ∧ ∃ n, ∀ (j : Nat) (fd : Field) (o k : Nat), fs[j]? = some fd → (offs P fs)[j]? = some (o, k) → ∃ y, DataW.trod enc P W 0 (fun _ => true) true n fd.type ((cs.drop o).take k) = some y := by
  obtain ⟨xs, n, _, _, hlen, hxl, hf⟩ := DataW.trod_struct ht h
  refine ⟨hlen, n, fun j fd o k hj ho => ?_⟩
  have hjl : j < fs.size := (Array.getElem?_eq_some_iff.1 hj).1
  have h1 := hf j fd hj
  rw [List.getElem?_eq_getElem (show j < xs.length by omega)] at h1
  unfold offs at ho
  rw [List.getElem?_map] at ho
  have hj' : fs.toList[j]? = some fd := by rw [Array.getElem?_toList]; exact hj
  rw [hj'] at ho
  simp only [Option.map_some, Option.some.injEq, Prod.mk.injEq] at ho
  rw [← ho.1, ← ho.2]
  exact ⟨_, h1⟩
theorem opCells_of {t b : TypeId} {f0 f1 f2 f3 f4 f5 f6 f7 : Field} {fuel : Nat} {cs : List Value} {x : DataW H × List MemPlace} (ht : P.underlying t = some (.struct #[f0, f1, f2, f3, f4, f5, f6, f7])) (hone : oneCellFields P #[f0, f1, f2, f3, f4, f5, f6, f7] = true) (hC : P.cellsOf t = 8)
    (h0 : P.underlying f0.type = some (.int .i64)) (h1 : P.underlying f1.type = some .string) (h2 : P.underlying f2.type = some .string) (h3 : P.underlying f3.type = some (.int .i64)) (h4 : P.underlying f4.type = some (.int .i64)) (h5 : P.underlying f5.type = some (.int .i64)) (h6 : P.underlying f6.type = some (.int .i64))
    (h7 : P.underlying f7.type = some (.slice b)) (hb : P.underlying b = some (.int .u8)) (hcb : P.cellsOf b = 1) (hl : cs.length = 8)
    (hf : DataW.trod enc P W 0 (fun _ => true) true fuel t cs = some x) :
    ∃ (o : OpD) (A : Option Addr) (m c : Nat), cs = (opC o A m c).toList ∧ OpNum o ∧ Bs W A m c o.x := by
  obtain ⟨_, m, hfs⟩ := trod_fields (cs := cs) ht hone hC hf
  obtain ⟨v0, y0, e0, t0⟩ := hfs 0 f0 rfl
  obtain ⟨v1, y1, e1, t1⟩ := hfs 1 f1 rfl
  obtain ⟨v2, y2, e2, t2⟩ := hfs 2 f2 rfl
  obtain ⟨v3, y3, e3, t3⟩ := hfs 3 f3 rfl
  obtain ⟨v4, y4, e4, t4⟩ := hfs 4 f4 rfl
  obtain ⟨v5, y5, e5, t5⟩ := hfs 5 f5 rfl
  obtain ⟨v6, y6, e6, t6⟩ := hfs 6 f6 rfl
  obtain ⟨v7, y7, e7, t7⟩ := hfs 7 f7 rfl
  obtain ⟨n0, q0, _, b0⟩ := DataW.trod_int h0 t0
  obtain ⟨s1, q1, _, b1⟩ := DataW.trod_string h1 t1
  obtain ⟨s2, q2, _, b2⟩ := DataW.trod_string h2 t2
  obtain ⟨n3, q3, _, b3⟩ := DataW.trod_int h3 t3
  obtain ⟨n4, q4, _, b4⟩ := DataW.trod_int h4 t4
  obtain ⟨n5, q5, _, b5⟩ := DataW.trod_int h5 t5
  obtain ⟨n6, q6, _, b6⟩ := DataW.trod_int h6 t6
  obtain ⟨A, m7, c7, q7⟩ := Go.Joins.slice_form h7 t7
  simp at q0 q1 q2 q3 q4 q5 q6 q7
  subst q0 q1 q2 q3 q4 q5 q6 q7
  obtain ⟨x, hx⟩ := open_bytes' h7 hb hcb t7
  refine ⟨⟨n0, s1.data.toList, s2.data.toList, n3, n4, n5, n6, x⟩, A, m7, c7, ?_, ⟨bounds_i64 b0, bounds_i64 b3, bounds_i64 b4, bounds_i64 b5, bounds_i64 b6⟩, hx⟩
  unfold opC
  match cs, hl with
  | [c0, c1, c2, c3, c4, c5, c6, c7], _ =>
    simp at e0 e1 e2 e3 e4 e5 e6 e7
    subst e0 e1 e2 e3 e4 e5 e6 e7
    rfl
theorem cmCells_of {t : TypeId} {f0 f1 f2 : Field} {fuel : Nat} {cs : List Value} {x : DataW H × List MemPlace} (ht : P.underlying t = some (.struct #[f0, f1, f2])) (hone : oneCellFields P #[f0, f1, f2] = true) (hC : P.cellsOf t = 3)
    (h0 : P.underlying f0.type = some .string) (h1 : P.underlying f1.type = some (.int .i64)) (h2 : P.underlying f2.type = some .string) (hl : cs.length = 3)
    (hf : DataW.trod enc P W 0 (fun _ => true) true fuel t cs = some x) :
    ∃ (g i : List UInt8) (e : Int), cs = [strc g, .int .i64 e, strc i] ∧ -9223372036854775808 ≤ e ∧ e ≤ 9223372036854775807 := by
  obtain ⟨_, m, hfs⟩ := trod_fields (cs := cs) ht hone hC hf
  obtain ⟨v0, y0, e0, t0⟩ := hfs 0 f0 rfl
  obtain ⟨v1, y1, e1, t1⟩ := hfs 1 f1 rfl
  obtain ⟨v2, y2, e2, t2⟩ := hfs 2 f2 rfl
  obtain ⟨s0, q0, _, _⟩ := DataW.trod_string h0 t0
  obtain ⟨n1, q1, _, b1⟩ := DataW.trod_int h1 t1
  obtain ⟨s2, q2, _, _⟩ := DataW.trod_string h2 t2
  simp at q0 q1 q2
  subst q0 q1 q2
  refine ⟨s0.data.toList, s2.data.toList, n1, ?_, bounds_i64 b1⟩
  match cs, hl with
  | [c0, c1, c2], _ =>
    simp at e0 e1 e2
    subst e0 e1 e2
    rfl
instance : Inhabited LnV := ⟨lnV0⟩
end
section
variable {H : Type} {enc : TypeId × Value → H} {W : World}
theorem lnCells_of {fuel : Nat} {cs : List Value} {x : DataW H × List MemPlace} (hl : cs.length = 17)
    (hf : DataW.trod enc Tryd.prog W 0 (fun _ => true) true fuel 50 cs = some x) :
    ∃ y : LnV, cs = y.cells ∧ LnAt W y ∧ LnNum y.d := by
  obtain ⟨_, m, hfs⟩ := trod_sub Tryd.underlying50 hf
  obtain ⟨y0, t0⟩ := hfs 0 _ 0 1 rfl (by kernel_rfl)
  obtain ⟨y1, t1⟩ := hfs 1 _ 1 8 rfl (by kernel_rfl)
  obtain ⟨y2, t2⟩ := hfs 2 _ 9 1 rfl (by kernel_rfl)
  obtain ⟨y3, t3⟩ := hfs 3 _ 10 1 rfl (by kernel_rfl)
  obtain ⟨y4, t4⟩ := hfs 4 _ 11 1 rfl (by kernel_rfl)
  obtain ⟨y5, t5⟩ := hfs 5 _ 12 1 rfl (by kernel_rfl)
  obtain ⟨y6, t6⟩ := hfs 6 _ 13 3 rfl (by kernel_rfl)
  obtain ⟨y7, t7⟩ := hfs 7 _ 16 1 rfl (by kernel_rfl)
  obtain ⟨n0, q0, _, b0⟩ := DataW.trod_int Tryd.underlying3 t0
  obtain ⟨o, A1, m1, c1, q1, b1, x1⟩ := opCells_of Tryd.underlying24 (by kernel_rfl) (by kernel_rfl) Tryd.underlying3 Tryd.underlying9 Tryd.underlying9 Tryd.underlying3 Tryd.underlying3 Tryd.underlying3 Tryd.underlying3 Tryd.underlying22 Tryd.underlying5 (by kernel_rfl) (by rw [List.length_take, List.length_drop, hl]; decide) t1
  obtain ⟨n2, q2, _, b2⟩ := DataW.trod_int Tryd.underlying3 t2
  obtain ⟨A3, m3, c3, q3⟩ := Go.Joins.slice_form Tryd.underlying35 t3
  obtain ⟨n4, q4, _, b4⟩ := DataW.trod_int Tryd.underlying3 t4
  obtain ⟨n5, q5, _, b5⟩ := DataW.trod_int Tryd.underlying3 t5
  obtain ⟨g, i, e, q6, b6⟩ := cmCells_of Tryd.underlying48 (by kernel_rfl) (by kernel_rfl) Tryd.underlying9 Tryd.underlying3 Tryd.underlying9 (by rw [List.length_take, List.length_drop, hl]; decide) t6
  obtain ⟨A7, m7, c7, q7⟩ := Go.Joins.slice_form Tryd.underlying22 t7
  rw [q3] at t3
  rw [q7] at t7
  obtain ⟨L, hL, hF⟩ := open_nums (enc := enc) (d := y3.1) (p := y3.2) Tryd.underlying35 Tryd.underlying3 (by kernel_rfl) ⟨m, t3⟩
  obtain ⟨x, hx⟩ := open_bytes' Tryd.underlying22 Tryd.underlying5 (by kernel_rfl) t7
  have e1 := x1.len; have e3 := hL.len; have e7 := hx.len
  subst e1 e3 e7
  refine ⟨⟨⟨n0, o, n2, L, n4, n5, g, e, i, x⟩, A1, c1, A3, c3, A7, c7⟩, ?_, ⟨x1, hL, hx⟩, ⟨bounds_i64 b0, b1, bounds_i64 b2, hF, bounds_i64 b4, bounds_i64 b5, b6⟩⟩
  have hcs : cs = (cs.drop 0).take 1 ++ ((cs.drop 1).take 8 ++ ((cs.drop 9).take 1 ++ ((cs.drop 10).take 1 ++ ((cs.drop 11).take 1 ++ ((cs.drop 12).take 1 ++ ((cs.drop 13).take 3 ++ (cs.drop 16).take 1)))))) := by
    clear hf hfs t0 t1 t2 t3 t4 t5 t6 t7 q0 q1 q2 q3 q4 q5 q6 q7
    match cs, hl with
    | [a0, a1, a2, a3, a4, a5, a6, a7, a8, a9, a10, a11, a12, a13, a14, a15, a16], _ => rfl
  rw [hcs, q0, q1, q2, q3, q4, q5, q6, q7]
  rfl
set_option maxRecDepth 100000 in
/-- A line that came in. -/
theorem open_line {r : Reach} {b0 : Nat} {v : Value} {d : DataW H} {p : List MemPlace}
    (hv : Value.okWide Tryd.prog W r b0 50 v) (h : DataW.Trod enc Tryd.prog W 0 (fun _ => true) true 50 v d p) :
    ∃ y : LnV, v = .agg y.arr ∧ LnAt W y ∧ LnNum y.d := by
  obtain ⟨cs, rfl, hsz⟩ := okWide_struct Tryd.underlying50 hv
  obtain ⟨fuel, hf⟩ := h
  have hC : Tryd.prog.cellsOf 50 = 17 := by kernel_rfl
  obtain ⟨y, hy, hA, hN⟩ := lnCells_of (cs := cs.toList) (Array.length_toList.trans (hsz.trans hC)) hf
  refine ⟨y, ?_, hA, hN⟩
  congr 1
  apply Array.toList_inj.1
  exact hy
/-- Lines that came in. -/
theorem open_lines {a : Option Addr} {len cap : Nat} {d : DataW H} {p : List MemPlace} (h : DataW.Trod enc Tryd.prog W 0 (fun _ => true) true 44 (.slice a len cap) d p) :
    ∃ L : List LnV, Lns W a len cap L ∧ ∀ x ∈ L, LnNum x.d := by
  obtain ⟨fuel, hf⟩ := h
  obtain ⟨L, hl, hs, hg⟩ := open_elems (α := LnV) Tryd.underlying44 (show Tryd.prog.cellsOf 50 = 17 by kernel_rfl) (by decide) hf LnV.cells LnV.len (fun x => LnAt W x ∧ LnNum x.d) (fun n cs z hlen hz => lnCells_of hlen hz)
  exact ⟨L, ⟨hl, hs, fun x hx => (hg x hx).1⟩, fun x hx => (hg x hx).2⟩
end
end Go.Proofs.YtadenlhnfkccaaaDoor

/- Lines of scripts: Read's walk. No condition. -/
namespace Go.Proofs.YtadenlhnfkccaaaDoor
open Go.RowKit Go.Shelf
attribute [local go_sem] Oper.semAt_some
set_option linter.unusedVariables false
set_option linter.unusedSimpArgs false
theorem Blk.at {w : World} {g g' : Nat} {t : TypeId} {cs : List Value} (h : Blk w g t cs) (e : g = g') : Blk w g' t cs := e ▸ h
theorem gr_putD {w W : World} (h : Gr w W) (q : Nat) (o : Obj) (hq : w.heap.size ≤ q) : Gr w (W.putObj q o) := Below.grown h (grownBy_putObj' W q o) (Below.size h) (fun k e => by cases e; exact hq)
theorem blk_putD {w : World} {g q : Nat} {t : TypeId} {cs : List Value} (h : Blk w g t cs) (hne : g ≠ q) (o : Obj) : Blk (w.putObj q o) g t cs := (World.putObj_heap_other hne).trans h
def RetRs (w : World) (r : List LnD × Nat × Nat) (e : Ending) (w' : World) : Prop := ∃ A n c L, e = .returned (.tuple #[.slice A n c, .int .i64 (r.2.1 : Int), .int .i64 (r.2.2 : Int)]) ∧ Lns w' A n c L ∧ L.map LnV.d = r.1 ∧ Gr w w'
theorem results_read {fn : Func} {p q r : Tmp} (h : fn.results = #[.cell p 45, .cell q 3, .cell r 28]) (tmps : Array Value) (w : World) (g0 g1 g2 : Nat) (A : Option Addr) (n c : Nat) (a b : Int)
    (hp : tmps.getD p undef = .pointer (some ⟨g0, 0, none⟩)) (hq : tmps.getD q undef = .pointer (some ⟨g1, 0, none⟩)) (hr : tmps.getD r undef = .pointer (some ⟨g2, 0, none⟩))
    (h0 : w.cell? ⟨g0, 0, none⟩ = some (.slice A n c)) (h1 : w.cell? ⟨g1, 0, none⟩ = some (.int .i64 a)) (h2 : w.cell? ⟨g2, 0, none⟩ = some (.int .i64 b)) :
    (results fn tmps).run Tryd.prog w = .ok (.tuple #[.slice A n c, .int .i64 a, .int .i64 b]) w := by
  have hp' : tmps[p]?.getD undef = .pointer (some ⟨g0, 0, none⟩) := by simpa using hp
  have hq' : tmps[q]?.getD undef = .pointer (some ⟨g1, 0, none⟩) := by simpa using hq
  have hr' : tmps[r]?.getD undef = .pointer (some ⟨g2, 0, none⟩) := by simpa using hr
  simp only [results, h]
  simp [hp', hq', hr', asAddr]
  go_simp
theorem read_done {w W : World} {N D : Nat} {v u1 u2 : Value} {L : List LnV} (a b : Int) (b0 : Blk W w.heap.size 45 [v]) (b1 : Blk W (w.heap.size + 1) 3 [u1]) (b2 : Blk W (w.heap.size + 1 + 1) 28 [u2]) (out : OutL w N W v L) (g : Gr w W) (hN : w.heap.size + 4 ≤ N) (hD : N ≤ D) {ds : Option (List Deferred)} (hKd : W.heap[D]? = some (.deferred ds)) (o : Obj) (ho : o.isCells = false) :
    Blk ((((W.setCell ⟨w.heap.size, 0, none⟩ v).setCell ⟨w.heap.size + 1, 0, none⟩ (.int .i64 a)).setCell ⟨w.heap.size + 1 + 1, 0, none⟩ (.int .i64 b)).putObj D o) w.heap.size 45 [v] ∧
    Blk ((((W.setCell ⟨w.heap.size, 0, none⟩ v).setCell ⟨w.heap.size + 1, 0, none⟩ (.int .i64 a)).setCell ⟨w.heap.size + 1 + 1, 0, none⟩ (.int .i64 b)).putObj D o) (w.heap.size + 1) 3 [.int .i64 a] ∧
    Blk ((((W.setCell ⟨w.heap.size, 0, none⟩ v).setCell ⟨w.heap.size + 1, 0, none⟩ (.int .i64 a)).setCell ⟨w.heap.size + 1 + 1, 0, none⟩ (.int .i64 b)).putObj D o) (w.heap.size + 1 + 1) 28 [.int .i64 b] ∧
    OutL w N ((((W.setCell ⟨w.heap.size, 0, none⟩ v).setCell ⟨w.heap.size + 1, 0, none⟩ (.int .i64 a)).setCell ⟨w.heap.size + 1 + 1, 0, none⟩ (.int .i64 b)).putObj D o) v L ∧
    Gr w ((((W.setCell ⟨w.heap.size, 0, none⟩ v).setCell ⟨w.heap.size + 1, 0, none⟩ (.int .i64 a)).setCell ⟨w.heap.size + 1 + 1, 0, none⟩ (.int .i64 b)).putObj D o) := by
  refine ⟨?_, ?_, ?_, ?_, ?_⟩
  · exact blk_putD (((b0.set 0 v).far (p := ⟨_, 0, none⟩) (by show _ ≠ _ + 1; omega) _).far (p := ⟨_, 0, none⟩) (by show _ ≠ _ + 1 + 1; omega) _) (by omega) o
  · exact blk_putD (((b1.far (p := ⟨w.heap.size, 0, none⟩) (by show w.heap.size + 1 ≠ w.heap.size; omega) _).set 0 (.int .i64 a)).far (p := ⟨_, 0, none⟩) (by show _ + 1 ≠ _ + 1 + 1; omega) _) (by omega) o
  · exact blk_putD (((b2.far (p := ⟨w.heap.size, 0, none⟩) (by show w.heap.size + 1 + 1 ≠ w.heap.size; omega) _).far (p := ⟨_, 0, none⟩) (by show _ + 1 + 1 ≠ _ + 1; omega) _).set 0 (.int .i64 b)) (by omega) o
  · refine out.tch (S := fun q => q = w.heap.size ∨ q = w.heap.size + 1 ∨ q = w.heap.size + 1 + 1 ∨ q = D) ((((Tch.set _ _ (.inl rfl)).trans (Tch.set _ _ (.inr (.inl rfl)))).trans (Tch.set _ _ (.inr (.inr (.inl rfl))))).trans ((Tch.putObj _ D o).mono fun q _ h => .inr (.inr (.inr h)))) ?_ ?_
    · intro q hq hs
      have h1 := (World.ownsRow.lt out.own q hq).1
      rcases hs with rfl | rfl | rfl | rfl
      · omega
      · omega
      · omega
      · rcases out.own.2 with ⟨e, _⟩ | ⟨g', cap, cur, hv, _, hh, _⟩
        · rw [e] at hq; cases hq
        · have e1 : g' = q := by rw [hv] at hq; exact Option.some.inj hq
          rw [e1, hKd] at hh; cases hh
    · rintro q hq ⟨i, u, hc⟩ hs
      rcases hs with rfl | rfl | rfl | rfl
      · omega
      · omega
      · omega
      · rw [World.cell?, hKd] at hc; simp at hc
  · exact gr_putD (gr_set (gr_set (gr_set g (Nat.le_refl _) _) (by omega) _) (by omega) _) D o (by omega)
theorem lns_out {w W : World} {N : Nat} {A : Option Addr} {n c : Nat} {L : List LnV} (out : OutL w N W (.slice A n c) L) (hN : N ≤ W.heap.size) : n = L.length ∧ Lns W A n c L := by
  obtain ⟨A1, c1, e, sl⟩ := (own_cut out.own hN).slice
  injection e with e1 e2 e3
  subst e1 e2 e3
  exact ⟨rfl, rfl, sl, out.at_⟩
set_option maxRecDepth 100000 in
set_option maxHeartbeats 4000000 in
theorem scRead_any (l : List UInt8) (w : World) (hl : l.length ≤ 100000) (hT : Pow10 w) (hM : MLen w) : Calls Tryd.prog 21 #[strc l] w (RetRs w (readS l)) := by
  obtain ⟨s, hs⟩ : ∃ s : ByteArray, s = ⟨l.toArray⟩ := ⟨_, rfl⟩
  have hss : strc l = .string s := by rw [hs]; rfl
  rw [hss]
  have HS := Lib.hid hss; clear hs hss
  have HT := Lib.hid hT; have HMLEN := Lib.hid hM; clear hT hM
  have HLL := Lib.hid hl; clear hl
  refine (callsIn_wide (n := 6)).1 ?_
  refine callsIn_of_wp_marks Tryd.func21 rfl trivial ?_ rfl
  simp only [Tryd.ntmps21, List.size_toArray, List.length_cons, List.length_nil, Nat.reduceAdd, Nat.reduceSub, Array.replicate_succ, Array.replicate_zero, List.push_toArray, List.append_toArray, List.nil_append, List.cons_append]
  refine wpIn_wide.2 ?_
  have HSS : Hid (∀ wr, Calls Tryd.prog 53 #[.string s, .string ⟨#[10]⟩] wr fun e w' => e = .returned (.func (.func 100) #[] #[.pointer (some ⟨wr.heap.size + 1, 0, none⟩), .pointer (some ⟨wr.heap.size, 0, none⟩), .pointer (some ⟨wr.heap.size + 2, 0, none⟩)]) ∧ w' = ((wr.alloc (.cells #[.string s] 9)).alloc (.cells #[.string ⟨#[10]⟩] 9)).alloc (.cells #[.int .i64 0] 3)) := fun wr => callsIn_wide.1 (splitSeq_in 6 (by omega) s ⟨#[10]⟩ wr)
  go_wp2_with fail
  go_step3
  go_wp2_with fail
  go_step3
  go_wp2_with fail
  refine (HSS.out _).mono ?_
  rintro e w6 ⟨rfl, rfl⟩
  go_wp2_with fail
  obtain ⟨W0, hW0⟩ : ∃ W0, W0 = (((((((w.alloc (Obj.cells #[Value.slice none 0 0] 45)).alloc (Obj.cells #[Value.int IntKind.i64 0] 3)).alloc (Obj.cells #[Value.int IntKind.i64 0] 28)).alloc (Obj.cells #[Value.int IntKind.i64 0] 3)).alloc (Obj.cells #[Value.string s] 9)).alloc (Obj.cells #[Value.string { data := #[10] }] 9)).alloc (Obj.cells #[Value.int IntKind.i64 0] 3)) := ⟨_, rfl⟩
  have zW : W0.heap.size = w.heap.size + 7 := by rw [hW0]; simp
  have bO : Blk W0 w.heap.size 45 [.slice none 0 0] := by
    rw [hW0]
    exact (((((((Blk.new w 45 #[Value.slice none 0 0]).alloc _).alloc _).alloc _).alloc _).alloc _).alloc _).at (by simp)
  have b1 : Blk W0 (w.heap.size + 1) 3 [.int .i64 0] := by
    rw [hW0]
    exact ((((((Blk.new (w.alloc (Obj.cells #[Value.slice none 0 0] 45)) 3 #[Value.int .i64 0]).alloc _).alloc _).alloc _).alloc _).alloc _).at (by simp)
  have b2 : Blk W0 (w.heap.size + 1 + 1) 28 [.int .i64 0] := by
    rw [hW0]
    exact (((((Blk.new ((w.alloc (Obj.cells #[Value.slice none 0 0] 45)).alloc (Obj.cells #[Value.int IntKind.i64 0] 3)) 28 #[Value.int .i64 0]).alloc _).alloc _).alloc _).alloc _).at (by simp)
  have b3 : Blk W0 (w.heap.size + 1 + 1 + 1) 3 [.int .i64 0] := by
    rw [hW0]
    exact ((((Blk.new (((w.alloc (Obj.cells #[Value.slice none 0 0] 45)).alloc (Obj.cells #[Value.int IntKind.i64 0] 3)).alloc (Obj.cells #[Value.int IntKind.i64 0] 28)) 3 #[Value.int .i64 0]).alloc _).alloc _).alloc _).at (by simp)
  have bS : Blk W0 (w.heap.size + 1 + 1 + 1 + 1) 9 [strc l] := by
    rw [hW0, HS.out]
    exact (((Blk.new ((((w.alloc (Obj.cells #[Value.slice none 0 0] 45)).alloc (Obj.cells #[Value.int IntKind.i64 0] 3)).alloc (Obj.cells #[Value.int IntKind.i64 0] 28)).alloc (Obj.cells #[Value.int IntKind.i64 0] 3)) 9 #[Value.string s]).alloc _).alloc _).at (by simp)
  have bT : Blk W0 (w.heap.size + 1 + 1 + 1 + 1 + 1) 9 [strc [10]] := by
    rw [hW0]
    exact ((Blk.new (((((w.alloc (Obj.cells #[Value.slice none 0 0] 45)).alloc (Obj.cells #[Value.int IntKind.i64 0] 3)).alloc (Obj.cells #[Value.int IntKind.i64 0] 28)).alloc (Obj.cells #[Value.int IntKind.i64 0] 3)).alloc (Obj.cells #[Value.string s] 9)) 9 #[strc [10]]).alloc _).at (by simp)
  have bN : Blk W0 (w.heap.size + 1 + 1 + 1 + 1 + 2) 3 [.int .i64 0] := by
    rw [hW0]
    exact (Blk.new ((((((w.alloc (Obj.cells #[Value.slice none 0 0] 45)).alloc (Obj.cells #[Value.int IntKind.i64 0] 3)).alloc (Obj.cells #[Value.int IntKind.i64 0] 28)).alloc (Obj.cells #[Value.int IntKind.i64 0] 3)).alloc (Obj.cells #[Value.string s] 9)).alloc (Obj.cells #[Value.string { data := #[10] }] 9)) 3 #[Value.int .i64 0]).at (by simp)
  have g0 : Gr w W0 := by
    rw [hW0]
    exact ((((((Gr.alloc w _).trans (Gr.alloc _ _)).trans (Gr.alloc _ _)).trans (Gr.alloc _ _)).trans (Gr.alloc _ _)).trans (Gr.alloc _ _)).trans (Gr.alloc _ _)
  rw [← hW0]
  clear hW0
  refine (wpIn_wide (n := 6)).1 ?_
  refine range_box (by omega) (gf := 100) (lb := #[.pointer (some ⟨w.heap.size + 1 + 1 + 1 + 1 + 1, 0, none⟩), .pointer (some ⟨w.heap.size + 1 + 1 + 1 + 1, 0, none⟩), .pointer (some ⟨w.heap.size + 1 + 1 + 1 + 1 + 2, 0, none⟩)]) rfl (enters_of Tryd.func100 (by kernel_rfl) rfl)
    strc (K3 (w.heap.size + 1 + 1 + 1 + 1) (w.heap.size + 1 + 1 + 1 + 1 + 1) (w.heap.size + 1 + 1 + 1 + 1 + 2)) (fun _ _ _ h k => K3.trans h k)
    (fun W q o hq c hc => World.putObj_heap_other (by omega))
    (fun xs => xs = cutL 10 l) (fun pre => ∃ rest, pre ++ rest = cutL 10 l) (w.heap.size + 1 + 1 + 1 + 1) (fun pre x => ∃ rest, pre ++ x :: rest = cutL 10 l)
    (fun q J Jx W gW hJs hY h0 => (splitR_in 5 (by omega) q _ _ _ (by omega) (by omega) l HLL.out J Jx hJs hY W (gW.blk bS) (gW.blk bT) (gW.blk bN) h0).mono (fun e W' h => ⟨h.1, h.2.imp (fun k => ⟨_, rfl, k⟩) id⟩))
    (RdI w W0.heap.size) (RdX w)
    (fun pre A o h => h.tch (S := fun _ => False) (Tch.gr (Gr.alloc A o)) (fun _ _ h => h) (fun _ _ _ _ h => h) (fun _ _ _ h => h))
    (fun pre A q o o' h hq ho hc => h.tch (Tch.putObj A q o') (fun b hb e => by have e : b = q := e; omega) (fun g cs _ hg e => by have e : g = q := e; rw [e, ho] at hg; injection hg with hg; rw [hg] at hc; cases hc) (fun b hb hx e => by
      have e : b = q := e
      subst e
      obtain ⟨q', v, hv⟩ := hx
      rw [World.cell?, ho] at hv
      cases o <;> simp_all [Obj.isCells]))
    (fun pre A q o o' h hq _ _ => h.tch (Tch.putObj A q o') (fun b hb e => by have e : b = q := e; omega))
    (fun pre A v h => h.tch (Tch.set (S := fun b => b = w.heap.size + 1 + 1 + 1 + 1) ⟨w.heap.size + 1 + 1 + 1 + 1, 0, none⟩ v rfl) (fun b hb e => by have e : b = w.heap.size + 1 + 1 + 1 + 1 := e; omega) (fun g cs hN hg e => by have e : g = w.heap.size + 1 + 1 + 1 + 1 := e; omega) (fun b hb hx e => by have e : b = w.heap.size + 1 + 1 + 1 + 1 := e; omega))
    ⟨.slice none 0 0, [], bO, ⟨World.ownsRow_nil _ _ _ _, fun x hx => (by cases hx), fun x hx => (by cases hx), fun x hx => (by cases hx)⟩, rfl, b1, b2, b3, g0, Nat.le_refl _, rfl⟩
    (fun x => { tmps := #[.string s, undef, .pointer (some ⟨w.heap.size, 0, none⟩), .pointer (some ⟨w.heap.size + 1, 0, none⟩), .pointer (some ⟨w.heap.size + 1 + 1, 0, none⟩), .pointer (some ⟨w.heap.size + 1 + 1 + 1, 0, none⟩), strc x, undef, undef, .string s,
      .func (.func 100) #[] #[.pointer (some ⟨w.heap.size + 1 + 1 + 1 + 1 + 1, 0, none⟩), .pointer (some ⟨w.heap.size + 1 + 1 + 1 + 1, 0, none⟩), .pointer (some ⟨w.heap.size + 1 + 1 + 1 + 1 + 2, 0, none⟩)],
      strc x, undef, undef, undef, undef, undef, undef, undef, undef, undef, undef, undef, undef, undef, undef, undef, undef, undef], defers := [] }) ?assign ?body ?done ?stop
  case assign =>
    intro q x W K hK
    gi_wp2
    exact hK
  case body =>
    rintro q pre x W hi ⟨rest, hr⟩
    have hmem : x ∈ cutL 10 l := by rw [← hr]; simp
    have hxl : x.length ≤ 100000 := Nat.le_trans ((cut_size 10 l).2 x hmem) HLL.out
    have hpl : pre.length ≤ 100001 := by
      have h := (cut_size 10 l).1
      rw [← hr] at h
      simp at h
      have := HLL.out
      omega
    obtain ⟨v, L, b0, out, hm, b1, b2, b3, g, hN, hk⟩ := hi
    have c5 := blk_cell0 b3
    have f5 := b3.free 0
    have wl : IntKind.i64.wrap ((pre.length : Int) + 1) = (pre.length : Int) + 1 := by rw [IntKind.wrap_i64]; omega
    apply wpIn_block
    apply wpIn_seq_k
    intro K1 hK1
    apply wpIn_region_lit
    refine wpListIn_of (fun ⟨a, w, h⟩ => h) _ _ _ rfl ?_
    go_wp2_with fail
    obtain ⟨W1, hW1⟩ : ∃ W1, W1 = W.setCell ⟨w.heap.size + 1 + 1 + 1, 0, none⟩ (.int .i64 ((pre.length : Int) + 1)) := ⟨_, rfl⟩
    rw [← hW1]
    have T1 : Tch (fun b => b = (w.heap.size + 1 + 1 + 1)) W W1 := by rw [hW1]; exact Tch.set _ _ rfl
    have ko1 : KeepsOthers W W1 := by rw [hW1]; exact KeepsOthers.setCell _ _ _
    have k31 : K3 (w.heap.size + 1 + 1 + 1 + 1) (w.heap.size + 1 + 1 + 1 + 1 + 1) (w.heap.size + 1 + 1 + 1 + 1 + 2) W W1 := fun c hc => T1.keep c (by rcases hc with rfl | rfl | rfl <;> omega) (by rcases hc with rfl | rfl | rfl <;> omega)
    have b0 := b0.tch T1 (by omega)
    have b1 := b1.tch T1 (by omega)
    have b2 := b2.tch T1 (by omega)
    have b3 : Blk W1 (w.heap.size + 1 + 1 + 1) 3 [.int .i64 ((pre.length : Int) + 1)] := by rw [hW1]; exact b3.set 0 _
    have out := out.tch T1 (fun g hg e => by have := (World.ownsRow.lt out.own g hg).1; have e : g = (w.heap.size + 1 + 1 + 1) := e; omega) (fun b hb _ e => by have e : b = (w.heap.size + 1 + 1 + 1) := e; omega)
    have g := T1.below g g.size (fun b e => by have e : b = (w.heap.size + 1 + 1 + 1) := e; omega)
    have hN := Nat.le_trans hN T1.size
    have HPN := Lib.hid hW1
    clear hW1 c5 f5 T1 hmem wl
    obtain ⟨tx, htx⟩ : ∃ tx : ByteArray, strc x = .string tx := ⟨_, rfl⟩
    have hxt : tx.toList = x := by
      unfold strc at htx
      injection htx with htx
      rw [← htx, ByteArray.toList_eq]
    have HTX := Lib.hid htx
    have B0 := Lib.hid b0; have B1 := Lib.hid b1; have B2 := Lib.hid b2; have B3 := Lib.hid b3; have OUT := Lib.hid out; have KO1 := Lib.hid ko1; have K31 := Lib.hid k31; have GW := Lib.hid g; have HM := Lib.hid hm; have HOKP := Lib.hid hk
    rw [htx]
    clear htx b0 b1 b2 b3 out ko1 k31 g hm hk
    apply wpIn_seq_k
    intro K2 hK2
    apply wpIn_seq_k
    intro K3 hK3
    by_cases hx0 : x = []
    · have te : (tx.toList == ([] : List UInt8)) = true := by rw [hxt, hx0]; rfl
      have HOK2 : Hid ((pre ++ [x]).all pieceOk = true) := by show _ = _; rw [List.all_append, HOKP.out, hx0]; rfl
      have HF2 : Hid ((pre ++ [x]).foldl eatP [] = pre.foldl eatP []) := by show _ = _; rw [List.foldl_append, hx0]; rfl
      have hle : (pre ++ [x]).length = pre.length + 1 := by simp
      clear hxt hx0
      apply wpIn_region_lit
      refine wpListIn_of (fun ⟨a, w, h⟩ => h) _ _ _ rfl ?_
      go_wp2_with fail
      refine wpIn_cond_true rfl ?_
      apply wpIn_exit
      refine (show KeepsOthers W W1 ∧ K3 _ _ _ W W1 ∧ RdI w W0.heap.size (pre ++ [x]) W1 from ⟨KO1.out, K31.out, v, L, B0.out, OUT.out, HM.out.trans HF2.out.symm, B1.out, B2.out, ?_, GW.out, hN, HOK2.out⟩)
      rw [hle]
      exact B3.out
    · have te : (tx.toList == ([] : List UInt8)) = false := by rw [hxt]; exact beq_false_of_ne hx0
      have HPC : Hid (Calls Tryd.prog 48 #[.string tx] W1 (RetLn W1 (parseT x))) := by
        rw [← HTX.out]
        exact scParse_any x W1 hxl (HMLEN.out.mono GW.out) (HT.out.mono GW.out)
      have HOK2 : Hid ((pre ++ [x]).all pieceOk = ((parseT x).2 == 0)) := by show _ = _; rw [List.all_append, HOKP.out]; simp [pieceOk, hx0]
      have HOKX : Hid (pieceOk x = ((parseT x).2 == 0)) := by show _ = _; simp [pieceOk, hx0]
      have HF2 : Hid ((pre ++ [x]).foldl eatP [] = pre.foldl eatP [] ++ [(parseT x).1]) := by show _ = _; rw [List.foldl_append]; simp [eatP, hx0]
      clear hxt hx0
      apply wpIn_region_lit
      refine wpListIn_of (fun ⟨a, w, h⟩ => h) _ _ _ rfl ?_
      go_wp2_with fail
      refine wpIn_cond_false rfl ?_
      apply wpIn_skip
      refine hK2 _ _ ?_
      generalize parseT x = px at *
      obtain ⟨pd, pf⟩ := px
      simp only at HOK2 HF2 HOKX
      apply wpIn_seq_k
      intro K4 hK4
      apply wpIn_region_lit
      refine wpListIn_of (fun ⟨a, w, h⟩ => h) _ _ _ rfl ?_
      go_wp2_with fail
      refine HPC.out.mono ?_
      rintro e W2 ⟨y, rfl, hyd, hya, g2, hyn⟩
      subst hyd
      have BY : Hid (Blk ((W2.alloc (.cells #[.int .i64 0, .int .i64 0, .string ⟨#[]⟩, .string ⟨#[]⟩, .int .i64 0, .int .i64 0, .int .i64 0, .int .i64 0, .slice none 0 0, .int .i64 0, .slice none 0 0, .int .i64 0, .int .i64 0, .string ⟨#[]⟩, .int .i64 0, .string ⟨#[]⟩, .slice none 0 0] 53)).setRow W2.heap.size y.arr) W2.heap.size 53 y.arr.toList) := setRow_heap _ W2.heap.size _ _ _ _ (heap_alloc_new W2 _)
      have G23 : Gr W2 ((W2.alloc (.cells #[.int .i64 0, .int .i64 0, .string ⟨#[]⟩, .string ⟨#[]⟩, .int .i64 0, .int .i64 0, .int .i64 0, .int .i64 0, .slice none 0 0, .int .i64 0, .slice none 0 0, .int .i64 0, .int .i64 0, .string ⟨#[]⟩, .int .i64 0, .string ⟨#[]⟩, .slice none 0 0] 53)).setRow W2.heap.size y.arr) := below_row39 ((Below.refl _ _).alloc (Nat.le_refl _) _) (Nat.le_refl _) _
      have G13 := Lib.hid (g2.trans G23)
      have YA := Lib.hid (hya.gr G23)
      have YN := Lib.hid hyn
      clear g2 G23 hya hyn
      go_wp2_with (refine wpList_store_row rfl 53 (.tmp 7) (.tmp 19) rfl W2.heap.size y.arr rfl rfl 53 #[.int .i64 0, .int .i64 0, .string ⟨#[]⟩, .string ⟨#[]⟩, .int .i64 0, .int .i64 0, .int .i64 0, .int .i64 0, .slice none 0 0, .int .i64 0, .slice none 0 0, .int .i64 0, .int .i64 0, .string ⟨#[]⟩, .int .i64 0, .string ⟨#[]⟩, .slice none 0 0] (by exact heap_alloc_new W2 _) lnSize rfl (lnOne _) ?_)
      obtain ⟨W3, hW3⟩ : ∃ W3, W3 = ((W2.alloc (.cells #[.int .i64 0, .int .i64 0, .string ⟨#[]⟩, .string ⟨#[]⟩, .int .i64 0, .int .i64 0, .int .i64 0, .int .i64 0, .slice none 0 0, .int .i64 0, .slice none 0 0, .int .i64 0, .int .i64 0, .string ⟨#[]⟩, .int .i64 0, .string ⟨#[]⟩, .slice none 0 0] 53)).setRow W2.heap.size y.arr) := ⟨_, rfl⟩
      rw [← hW3] at BY G13 YA ⊢
      have hs3 : W2.heap.size < W3.heap.size := by have := BY.out.lt; omega
      clear hW3
      have c2 : W3.cell? ⟨w.heap.size, 0, none⟩ = some v := blk_cell0 (B0.out.mono G13.out)
      have f2 := (B0.out.mono G13.out).free 0
      have b3' := B3.out.mono G13.out
      have b1' := B1.out.mono G13.out
      have b2' := B2.out.mono G13.out
      apply wpIn_seq_k
      intro K5 hK5
      apply wpIn_seq_k
      intro K6 hK6
      by_cases hf : pf = 0
      · have tf : ((pf : Int) != 0) = false := by rw [hf]; rfl
        have HOK3 : Hid ((pre ++ [x]).all pieceOk = true) := by show _ = _; rw [HOK2.out, hf]; rfl
        clear hf
        apply wpIn_region_lit
        refine wpListIn_of (fun ⟨a, w, h⟩ => h) _ _ _ rfl ?_
        go_wp2_with fail
        refine wpIn_cond_false rfl ?_
        apply wpIn_skip
        refine hK5 _ _ ?_
        have hll : L.length ≤ 100001 := by
          have h1 := congrArg List.length HM.out
          have h2 := fold_len pre []
          rw [List.length_map] at h1
          simp at h2
          omega
        have hN3 : W0.heap.size ≤ W3.heap.size := Nat.le_trans hN G13.out.size
        have OUT3 : Hid (OutL w W0.heap.size W3 v L) := OUT.out.tch (S := fun _ => False) (Tch.gr G13.out) (fun _ _ h => h) (fun _ _ _ h => h)
        have OW3 : Hid (Own (cutR W3 W0.heap.size) W3 53 17 v L.length (L.flatMap LnV.cells)) := own_cut OUT3.out.own hN3
        clear b3' b1' b2'
        apply wpIn_region_lit
        refine wpListIn_of (fun ⟨a, w, h⟩ => h) _ _ _ rfl ?_
        go_wp2_with (first
          | (refine wpList_load_row rfl 53 (.tmp 7) rfl W2.heap.size rfl 53 y.arr (0, 0) _ BY.out Tryd.underlying53 rfl lnSize ?_)
          | (refine wpList_build1 rfl 45 53 (.tmp 25) rfl y.arr rfl Tryd.underlying45 lnSize (by kernel_rfl) (by show 0 < 17; omega) (by show 17 ≤ _; omega) ?_)
          | (at_builtin; go_loud (refine wpList_pushG rfl (.tmp 24) (.tmp 26) 45 rfl tLines rfl OW3.out y.arr rfl rfl y.one (by omega) ?_); intro v5 w5 o5 k5; obtain ⟨A5, c5, rfl, _⟩ := o5.slice; obtain ⟨p0, p1, p2, p3, p4, p5, p6⟩ := OutL.push B0.out OUT.out GW.out (by omega) hN G13.out YA.out YN.out o5 k5; have c2 := blk_cell0 p0; have f2 := p0.free 0; have P1 := Lib.hid p1; have P2 := Lib.hid p2; have P3 := Lib.hid p3; have P4 := Lib.hid p4; have P5 := Lib.hid p5; have P6 := Lib.hid p6; clear p0 p1 p2 p3 p4 p5 p6 o5 k5))
        refine (show KeepsOthers W _ ∧ K3 _ _ _ W _ ∧ RdI w W0.heap.size (pre ++ [x]) _ from ⟨KO1.out.trans P3.out, fun c hc => ?_, _, L ++ [y], P1.out, P5.out, ?_, ?_, ?_, ?_, P4.out, P6.out, HOK3.out⟩)
        · rw [P2.out c (by rcases hc with rfl | rfl | rfl <;> omega) (by rcases hc with rfl | rfl | rfl <;> omega)]
          exact K31.out c hc
        · rw [HF2.out, ← HM.out, List.map_append]; rfl
        · exact (P2.out _ (by omega) (by omega)).trans B1.out
        · exact (P2.out _ (by omega) (by omega)).trans B2.out
        · have hle : (pre ++ [x]).length = pre.length + 1 := by simp
          rw [hle]
          exact (P2.out _ (by omega) (by omega)).trans B3.out
      · have tf : ((pf : Int) != 0) = true := bne_iff_ne.2 (by omega)
        have HBX : Hid (pieceOk x = false) := by show _ = _; rw [HOKX.out]; exact beq_false_of_ne hf
        clear hf
        apply wpIn_region_lit
        refine wpListIn_of (fun ⟨a, w, h⟩ => h) _ _ _ rfl ?_
        go_wp2_with fail
        refine wpIn_cond_true rfl ?_
        have c5 := blk_cell0 b3'
        have f3 := b1'.free 0
        have f4 := b2'.free 0
        have c3 := blk_cell0 b1'
        have c4 := blk_cell0 b2'
        apply wpIn_seq_k
        intro K7 hK7
        have hmix : Tryd.prog.follows .mixedOrders = true := by kernel_rfl
        gi_region_with_o (fail)
        all_goals
          refine hK7 _ _ ?_
          apply wpIn_ret
          refine (show KeepsOthers W _ ∧ RdX w (pre ++ [x]) _ from ⟨((((KO1.out.trans (keeps_gr G13.out)).trans (KeepsOthers.setCell _ _ _)).trans (KeepsOthers.setCell _ _ _)).trans (KeepsOthers.setCell _ _ _)).trans (keeps_gr (Gr.drew _)), rdX_of (B0.out.mono G13.out) (B1.out.mono G13.out) (B2.out.mono G13.out) (Gr.trans GW.out G13.out) (by simp) HOKP.out HBX.out⟩)
  case done =>
    rintro D xs W hD rfl hi hKd
    obtain ⟨v, L, b0, out, hm, b1, b2, b3, g, hN, hk⟩ := hi
    have HF : Hid (readS l = ((cutL 10 l).foldl eatP [], 0, 0)) := readS_good hk
    obtain ⟨A1, c1, rfl, _⟩ := (own_cut out.own hN).slice
    have c0 := blk_cell0 b0
    have f0 := b0.free 0
    have b1i := b1.far (p := ⟨w.heap.size, 0, none⟩) (by show w.heap.size + 1 ≠ w.heap.size; omega) (.slice A1 L.length c1)
    have b2i := (b2.far (p := ⟨w.heap.size, 0, none⟩) (by show w.heap.size + 1 + 1 ≠ w.heap.size; omega) (.slice A1 L.length c1)).far (p := ⟨w.heap.size + 1, 0, none⟩) (by show w.heap.size + 1 + 1 ≠ w.heap.size + 1; omega) (.int .i64 0)
    have f1 := b1i.free 0
    have f2 := b2i.free 0
    have c1i := blk_cell0 b1i
    have c2i := blk_cell0 b2i
    clear b1i b2i
    have fin : (((W.setCell ⟨w.heap.size, 0, none⟩ (.slice A1 L.length c1)).setCell ⟨w.heap.size + 1, 0, none⟩ (.int .i64 0)).setCell ⟨w.heap.size + 1 + 1, 0, none⟩ (.int .i64 0)).heap[D]? = some (.deferred (some [])) := (((KeepsOthers.setCell W ⟨w.heap.size, 0, none⟩ _).trans (KeepsOthers.setCell _ ⟨w.heap.size + 1, 0, none⟩ _)).trans (KeepsOthers.setCell _ ⟨w.heap.size + 1 + 1, 0, none⟩ _)).same _ _ hKd rfl
    have FIN := Lib.hid fin
    have RD := Lib.hid (read_done 0 0 b0 b1 b2 out g (by omega) (by omega) hKd (.deferred none) rfl)
    have hDW : D < W.heap.size := (Array.getElem?_eq_some_iff.1 hKd).1
    have HNW := Lib.hid hN
    have HM := Lib.hid hm
    clear fin b0 b1 b2 b3 out g hk hKd hm
    simp only [Exit.then, Exit.inBlock, ↓reduceIte, Nat.reduceEqDiff]
    go_wp2_with fail
    refine ⟨by simp, .inl ⟨_, _, rfl, run_takeDeferred FIN.out, ?_⟩⟩
    obtain ⟨p0, p1, p2, p3, p4⟩ := RD.out
    have hN2 := Nat.le_trans HNW.out (Tch.size (S := fun _ => True) ((((Tch.set (w := W) ⟨w.heap.size, 0, none⟩ (.slice A1 L.length c1) trivial).trans (Tch.set ⟨w.heap.size + 1, 0, none⟩ (.int .i64 0) trivial)).trans (Tch.set ⟨w.heap.size + 1 + 1, 0, none⟩ (.int .i64 0) trivial)).trans ((Tch.putObj _ D (.deferred none)).mono fun _ _ _ => trivial)))
    rw [HF.out]
    exact ⟨_, results_read rfl _ _ w.heap.size (w.heap.size + 1) (w.heap.size + 1 + 1) A1 L.length c1 0 0 rfl rfl rfl (blk_cell0 p0) (blk_cell0 p1) (blk_cell0 p2), A1, L.length, c1, L, rfl, (lns_out p3 hN2).2, HM.out, p4⟩
  case stop =>
    rintro D pre W hD ⟨rest, hr⟩ hx hKd
    obtain ⟨b0, b1, b2, g, p0, x, hpx, ha, hb⟩ := hx
    have HF : Hid (readS l = ([], p0.length + 1, 3)) := readS_bad (by rw [← hpx]; exact hr) ha hb
    have hle : pre.length = p0.length + 1 := by rw [hpx]; simp
    have HLE : Hid ((pre.length : Int) = ((p0.length + 1 : Nat) : Int)) := by show _ = _; rw [hle]
    have B0 := Lib.hid (blk_putD b0 (q := D) (by omega) (.deferred none))
    have B1 := Lib.hid (blk_putD b1 (q := D) (by omega) (.deferred none))
    have B2 := Lib.hid (blk_putD b2 (q := D) (by omega) (.deferred none))
    have GF := Lib.hid (gr_putD g D (.deferred none) (by omega))
    clear b0 b1 b2 g
    gi_wp2
    refine ⟨by simp, .inl ⟨_, _, rfl, run_takeDeferred hKd, ?_⟩⟩
    rw [HF.out]
    exact ⟨_, results_read rfl _ _ w.heap.size (w.heap.size + 1) (w.heap.size + 1 + 1) none 0 0 _ 3 rfl rfl rfl (blk_cell0 B0.out) (blk_cell0 B1.out) (blk_cell0 B2.out), none, 0, 0, [], by rw [HLE.out]; rfl, ⟨rfl, Sl.nil _ _, fun x hx => by cases hx⟩, rfl, GF.out⟩
end Go.Proofs.YtadenlhnfkccaaaDoor

/- ScriptBack's walk. No condition. -/
namespace Go.Proofs.YtadenlhnfkccaaaDoor
open Go.RowKit
set_option linter.unusedVariables false
set_option linter.unusedSimpArgs false
theorem printO_small {o : OpD} (hg : o.g.length ≤ 1000) (hi : o.i.length ≤ 1000) : (printO o).1.length ≤ 4100 := by
  rw [printO_eq]
  split
  · have := lineTo_len o hg hi _ (Nat.le_refl (formS (formOf o)).length)
    have h4 := formS_len (formOf o)
    have h5 : (formS (formOf o)).length * 1001 ≤ 4 * 1001 := Nat.mul_le_mul_right _ h4
    show (lineTo _ _ _).length ≤ _
    omega
  · exact Nat.zero_le _
theorem textT_small {d : LnD} (ho : LnOk d) (hop : OpLt d.o) (hp : d.p.length ≤ 80) (hb : d.b.length ≤ 600) : (textT d).length ≤ 4100 := by
  have h110 : (wordS d 110).length ≤ 20 := printL_bd ho.n.2
  have h116 : (wordS d 116).length ≤ 20 := printL_bd ho.t.2
  have h97 : (wordS d 97).length ≤ 20 := printL_bd ho.a.2
  have h101 : (wordS d 101).length ≤ 20 := printL_bd ho.e.2
  have h103 : (wordS d 103).length ≤ 1000 := ho.gl
  have h105 : (wordS d 105).length ≤ 1000 := ho.il
  have h120 : (wordS d 120).length ≤ 1200 := by show (hexP d.b).length ≤ _; rw [hexP_len]; omega
  have h107 : (wordS d 107).length ≤ 1600 := by
    show (keepT d.p).length ≤ _
    unfold keepT
    split
    · simp
    · have := flat_len d.p (fun n hn => (ho.p n hn).2)
      omega
  unfold textT
  split
  · exact printO_small hop.2.1 hop.2.2
  · split
    · next hk =>
      obtain ⟨K, hK⟩ : ∃ K, K = d.k.toNat := ⟨_, rfl⟩
      rw [← hK]
      have hK9 : K < 9 := by omega
      clear hK hk
      rcases show K = 0 ∨ K = 1 ∨ K = 2 ∨ K = 3 ∨ K = 4 ∨ K = 5 ∨ K = 6 ∨ K = 7 ∨ K = 8 by omega with rfl | rfl | rfl | rfl | rfl | rfl | rfl | rfl | rfl <;> (simp [scrW, scrS, Lib.join_cons, Lib.joinTail]; try omega)
    · exact Nat.zero_le _
theorem printT_small {d : LnD} (ho : LnOk d) (hop : OpLt d.o) (hp : d.p.length ≤ 80) (hb : d.b.length ≤ 600) : (printT d).1.length ≤ 4100 := by
  unfold printT
  split
  · exact textT_small ho hop hp hb
  · exact Nat.zero_le _
theorem writeT_small {L : List LnD} (h : ∀ d ∈ L, (LnOk d ∧ OpLt d.o) ∧ d.p.length ≤ 80 ∧ d.b.length ≤ 600) : (writeT L).1.length ≤ L.length * 4101 := by
  unfold writeT
  split
  · show (writeS L).length ≤ _
    rename_i hh
    clear hh
    induction L with
    | nil => simp [writeS]
    | cons d L ih =>
      have hd := h d List.mem_cons_self
      have h1 := printT_small hd.1.1 hd.1.2 hd.2.1 hd.2.2
      have h2 := ih fun x hx => h x (List.mem_cons_of_mem _ hx)
      simp only [writeS, lineS, List.flatMap_cons, List.length_append, List.length_cons, List.length_nil] at h2 ⊢
      omega
  · exact Nat.zero_le _
set_option maxRecDepth 100000 in
set_option maxHeartbeats 8000000 in
theorem scBack_any (A : Option Addr) (n c : Nat) (L : List LnV) (s : List UInt8) (w : World) (hL : Lns w A n c L) (hN : ∀ x ∈ L, LnNum x.d) (hT : Pow10 w) (hM : MLen w) :
    Calls Tryd.prog 5 #[.slice A n c, strc s] w fun e w' => e = .returned (.bool true) ∧ Gr w w' := by
  have hmax := hL.2.1.max
  have hcap := hL.2.1.cap
  have hln := hL.1
  have HL := Lib.hid hL; have HN := Lib.hid hN; have HT := Lib.hid hT; have HM := Lib.hid hM
  have HAL : Hid (∀ wr, Gr w wr → Calls Tryd.prog 17 #[] wr fun e w' => e = .returned (.bool true) ∧ Gr wr w') := fun wr g => alive41_any wr (hT.mono g) (hM.mono g)
  obtain ⟨st, hst⟩ : ∃ st : ByteArray, st = ⟨s.toArray⟩ := ⟨_, rfl⟩
  have hsz : st.size = s.length := by rw [hst]; exact size_of' _
  have hss : strc s = .string st := by rw [hst]; rfl
  clear hL hN hT hM hst
  by_cases hbig : 20 < n
  · have t1 : decide ((20 : Int) < (n : Int)) = true := decide_eq_true (by omega)
    rw [hss]
    clear hss
    go_enter Tryd.func5, Tryd.ntmps5
    go_wp2_with fail
    refine (HAL.out _ (Gr.refl w)).mono ?_
    rintro e w9 ⟨rfl, g9⟩
    have G9 : Gr w w9 := Gr.trans (Gr.refl w) g9; clear g9
    go_wp2_with fail
    go_ret
    exact ⟨rfl, G9⟩
  have t1 : decide ((20 : Int) < (n : Int)) = false := decide_eq_false (by omega)
  by_cases hbig2 : 1400 < st.size
  · have t2 : decide ((1400 : Int) < (st.size : Int)) = true := decide_eq_true (by omega)
    rw [hss]
    clear hss
    go_enter Tryd.func5, Tryd.ntmps5
    go_wp2_with fail
    refine (HAL.out _ (Gr.refl w)).mono ?_
    rintro e w9 ⟨rfl, g9⟩
    have G9 : Gr w w9 := Gr.trans (Gr.refl w) g9; clear g9
    go_wp2_with fail
    go_ret
    exact ⟨rfl, G9⟩
  have t2 : decide ((1400 : Int) < (st.size : Int)) = false := decide_eq_false (by omega)
  have hsl : s.length ≤ 1400 := by omega
  have HRS : Hid (∀ wr, Gr w wr → Calls Tryd.prog 21 #[strc s] wr (RetRs wr (readS s))) := fun wr g => scRead_any s wr (by omega) (HT.out.mono g) (HM.out.mono g)
  have HRW : Hid ((readS s).2.2 = 0 → (writeT (readS s).1).2 = 0 ∧ readS (writeT (readS s).1).1 = ((readS s).1, 0, 0) ∧ (writeT (readS s).1).1.length ≤ 100000 ∧ (readS s).1.length ≤ 3000 ∧ ∀ d ∈ (readS s).1, LnOk d ∧ OpLt d.o) := fun h => by
    have h2 := read_write h
    have h3 := read_write_len h
    have h4 := readS_len s
    exact ⟨h2.1, h2.2, by omega, by omega, readS_ok (by omega)⟩
  have HRL : Hid ((readS s).1.length ≤ 3000) := by have := readS_len s; show _ ≤ _; omega
  have HRF : Hid ((readS s).2.2 = 0 ∨ (readS s).1 = []) := (readS_fault s).imp id (fun h => h.1)
  have HLT : Hid (∀ x wr, x ∈ L → Gr w wr → Calls Tryd.prog 18 #[.agg x.arr] wr fun e w' => e = .returned (.bool (lightT x.d)) ∧ Gr wr w') := fun x wr hx g => light41_any x wr ((HL.out.2.2 x hx).gr g)
  have HOF : Hid (∀ (x : LnV) wr, Calls Tryd.prog 19 #[.agg x.arr] wr fun e w' => e = .returned (.agg x.arr) ∧ Gr wr w') := fun x wr => ofLn_any x wr
  generalize readS s = rs at *
  rw [hss] at HRS ⊢
  clear hss hsz hsl
  go_enter Tryd.func5, Tryd.ntmps5
  go_wp2_with fail
  go_loopw [5, 6] (fun v i wr => ∃ k : Nat, k ≤ n ∧ i = .int .i64 k ∧ Own w wr 53 17 v k ((L.take k).flatMap LnV.cells) ∧ ∀ x ∈ L.take k, lightT x.d = true) (fun _ i _ => n - (intOf i).toNat)
  case atStart => exact ⟨0, Nat.zero_le _, rfl, Own.nil _ _ _, fun x hx => by simp at hx⟩
  case round =>
    obtain ⟨k, hk, rfl, own, hli⟩ := hrel
    have OW := Lib.hid own
    have HLI := Lib.hid hli
    have GW : Hid (Gr w wr) := own.below
    obtain ⟨A1, c1, rfl, sl1⟩ := own.slice
    have SL1 := Lib.hid sl1
    clear own sl1 hli
    by_cases hlt : k < n
    · obtain ⟨b, o, rfl, hc⟩ := (HL.out.gr GW.out).at (by omega)
      have hkl : k < L.length := by omega
      have HSN := Lib.hid (lns_snoc hkl)
      have HRG : Hid (∀ wq, Gr w wq → wq.rangeAt b (o + k * 17) (L[k]).cells) := fun wq g => by
        obtain ⟨b', o', e, h⟩ := (HL.out.gr g).at (by omega)
        injection e with e; injection e with e1 e2; subst e1 e2
        exact h k hkl
      have HLC := Lib.hid (fun wr g => HLT.out L[k] wr (List.getElem_mem hkl) g)
      have HTK : Hid (∀ x ∈ L.take (k + 1), x ∈ L.take k ∨ x = L[k]) := fun x hx => by
        rw [List.take_succ_eq_append_getElem hkl] at hx
        rcases List.mem_append.1 hx with hx | hx
        · exact .inl hx
        · exact .inr (by simpa using hx)
      clear hc
      generalize L[k] = x at *
      cases hlx : lightT x.d with
      | false =>
        rw [hlx] at HLC
        clear hlx
        go_wp2_with (refine wpList_load_mid rfl 50 (.tmp 37) rfl b (o + k * 17) rfl x.cells _ (HRG.out _ GW.out) Tryd.underlying50 rfl refLnSize ?_)
        refine (HLC.out _ GW.out).mono ?_
        rintro e w2 ⟨rfl, g2⟩
        have G2 := Lib.hid (GW.out.trans g2); clear g2
        go_wp2_with fail
        refine (HAL.out _ G2.out).mono ?_
        rintro e w9 ⟨rfl, g9⟩
        have G9 : Gr w w9 := Gr.trans G2.out g9; clear g9
        go_wp2_with fail
        go_ret
        exact ⟨rfl, G9⟩
      | true =>
        have HLI2 : Hid (∀ x ∈ L.take (k + 1), lightT x.d = true) := fun y hy => by
          rcases HTK.out y hy with h | h
          · exact HLI.out y h
          · rw [h]; exact hlx
        rw [hlx] at HLC
        clear hlx
        go_wp2_with (refine wpList_load_mid rfl 50 (.tmp 37) rfl b (o + k * 17) rfl x.cells _ (HRG.out _ GW.out) Tryd.underlying50 rfl refLnSize ?_)
        refine (HLC.out _ GW.out).mono ?_
        rintro e w2 ⟨rfl, g2⟩
        have G2 := Lib.hid (GW.out.trans g2)
        have OW2 := Lib.hid (OW.out.mono g2); clear g2
        go_wp2_with (refine wpList_load_mid rfl 50 (.tmp 45) rfl b (o + k * 17) rfl x.cells _ (HRG.out _ G2.out) Tryd.underlying50 rfl refLnSize ?_)
        refine (HOF.out x _).mono ?_
        rintro e w3 ⟨rfl, g3⟩
        have OW3 := Lib.hid (OW2.out.mono g3); clear g3
        go_wp2_with (first
          | (refine wpList_build1 rfl 45 53 (.tmp 47) rfl x.arr rfl Tryd.underlying45 lnSize (by kernel_rfl) (by rw [LnV.sz]; omega) (by rw [LnV.sz]; omega) ?_)
          | (at_builtin; go_loud (refine wpList_pushG rfl (.tmp 42) (.tmp 48) 45 rfl tLines rfl OW3.out x.arr rfl rfl x.one (by omega) ?_); intro v5 w5 o5 k5; obtain ⟨A5, c5, rfl, _⟩ := o5.slice; have O5 : Hid (Own w w5 53 17 (.slice A5 (k + 1) c5) (k + 1) ((L.take (k + 1)).flatMap LnV.cells)) := (by show Own _ _ _ _ _ _ _; rw [HSN.out]; exact o5); clear o5 k5))
        refine ⟨⟨k + 1, by omega, by first | trivial | go_num, O5.out, HLI2.out⟩, ?_⟩
        show n - ((k : Int) + 1).toNat < n - (k : Int).toNat
        omega
    · obtain rfl : k = n := by omega
      have hlk : ∀ x ∈ L, lightT x.d = true := by
        have h := HLI.out
        rw [List.take_of_length_le (by omega)] at h
        exact h
      have LW : Hid (Lns wr A1 k c1 L) := by
        have h := SL1.out
        rw [List.take_of_length_le (by omega)] at h
        exact ⟨HL.out.1, h, fun x hx => (HL.out.2.2 x hx).gr GW.out⟩
      have HWR := Lib.hid (scWrite_any A1 k c1 L wr LW.out (by omega) (fun x hx => ⟨((HN.out x hx).ok (hlk x hx)).1, ((HN.out x hx).ok (hlk x hx)).2.1⟩) (HT.out.mono GW.out) (HM.out.mono GW.out))
      have HWL : Hid ((writeT (L.map LnV.d)).1.length ≤ 100000) := by
        have h := writeT_small (L := L.map LnV.d) (fun d hd => by
          obtain ⟨x, hx, rfl⟩ := List.mem_map.1 hd
          have h := (HN.out x hx).ok (hlk x hx)
          exact ⟨⟨h.1, h.2.1⟩, h.2.2⟩)
        rw [List.length_map] at h
        have h2 : L.length * 4101 ≤ 20 * 4101 := Nat.mul_le_mul_right _ (by omega)
        show _ ≤ _
        omega
      have HWK : Hid ((writeT (L.map LnV.d)).2 = 0 → (readS (writeT (L.map LnV.d)).1).2.2 = 0 ∧ rowsT (readS (writeT (L.map LnV.d)).1).1 (L.map LnV.d) = true) := write_read
      have HR3 : Hid (∀ wr, Gr w wr → Calls Tryd.prog 21 #[strc (writeT (L.map LnV.d)).1] wr (RetRs wr (readS (writeT (L.map LnV.d)).1))) := fun wr g => scRead_any _ wr HWL.out (HT.out.mono g) (HM.out.mono g)
      clear hlk
      generalize writeT (L.map LnV.d) = wt at *
      obtain ⟨t, f⟩ := wt
      go_wp2_with fail
      refine HWR.out.mono ?_
      rintro e w2 ⟨rfl, g2⟩
      have G2 := Lib.hid (GW.out.trans g2); clear g2
      by_cases hf0 : f = 0
      · subst hf0
        obtain ⟨k1, k2⟩ := HWK.out rfl
        have k1 : (readS t).2.2 = 0 := k1
        have k2 : rowsT (readS t).1 (L.map LnV.d) = true := k2
        have HR4 := Lib.hid (HR3.out _ G2.out)
        clear HR3 HWK
        generalize readS t = rt at *
        obtain ⟨r1, r2, r3⟩ := rt
        have k1 : r3 = 0 := k1
        have k2 : rowsT r1 (L.map LnV.d) = true := k2
        subst k1
        have K2 := Lib.hid k2
        clear k2
        go_wp2_with fail
        refine HR4.out.mono ?_
        rintro e w3 ⟨A6, n6, c6, Z, rfl, hZ, hZm, g3⟩
        have G3 := Lib.hid (G2.out.trans g3)
        have HZ := Lib.hid hZ
        have HZM := Lib.hid hZm
        have hn6 : n6 ≤ 3000 := by
          have h1 := congrArg List.length HZM.out
          rw [List.length_map] at h1
          have h2 := K2.out
          unfold rowsT at h2
          rw [Bool.and_eq_true] at h2
          have h3 : r1.length = (L.map LnV.d).length := by simpa using h2.1
          rw [List.length_map] at h3
          have h4 := HZ.out.1
          have h5 : Z.length = r1.length := h1
          omega
        clear g3 hZ hZm
        go_wp2_with fail
        refine (rowsLn_any A6 n6 c6 Z w3 HZ.out hn6).mono ?_
        rintro e w4 ⟨A7, c7, rfl, hz7, g4⟩
        have G4 := Lib.hid (G3.out.trans g4)
        have HZ7 := Lib.hid hz7
        clear g4 hz7
        go_wp2_with fail
        refine (refRows41_any A7 A n6 c7 k c Z L w4 HZ7.out (HL.out.gr G4.out)).mono ?_
        rw [show rowsT (Z.map LnV.d) (L.map LnV.d) = true by rw [HZM.out]; exact K2.out]
        rintro e w5 ⟨rfl, g5⟩
        have G5 := Lib.hid (G4.out.trans g5)
        clear g5
        go_wp2_with fail
        refine (HRS.out _ G5.out).mono ?_
        rintro e wa ⟨Ax, nx, cx, X, rfl, hX, hXm, ga⟩
        have GA := Lib.hid (Gr.trans G5.out ga)
        clear ga
        have HNX : Hid (nx = X.length) := hX.1.symm
        have HXL := Lib.hid hX
        have HXM := Lib.hid hXm
        clear hX hXm
        by_cases hf : rs.2.2 = 0
        · have tf : (((rs.2.2 : Nat) : Int) != 0) = false := by rw [hf]; rfl
          obtain ⟨h1, h2, h3, h4, h5⟩ := HRW.out hf
          have hn3 : nx ≤ 3000 := by
            have := congrArg List.length HXM.out
            rw [List.length_map] at this
            have := HNX.out
            omega
          have HWX := Lib.hid (scWrite_any Ax nx cx X wa HXL.out hn3 (fun x hx => h5 x.d (by rw [← HXM.out]; exact List.mem_map_of_mem hx)) (HT.out.mono GA.out) (HM.out.mono GA.out))
          rw [HXM.out] at HWX
          have HR2 : Hid (∀ wr, Gr w wr → Calls Tryd.prog 21 #[strc (writeT rs.1).1] wr (RetRs wr (rs.1, 0, 0))) := fun wr g => by
            have := scRead_any (writeT rs.1).1 wr h3 (HT.out.mono g) (HM.out.mono g)
            rw [h2] at this
            exact this
          have hwf : (writeT rs.1).2 = 0 := h1
          clear h1 h2 h3 h4 h5
          generalize writeT rs.1 = wt2 at *
          obtain ⟨t2, f2⟩ := wt2
          have hwf : f2 = 0 := hwf
          subst hwf
          clear hf
          go_wp2_with fail
          refine HWX.out.mono ?_
          rintro e wb ⟨rfl, gb⟩
          have GB := Lib.hid (GA.out.trans gb)
          have HXB := Lib.hid (HXL.out.gr gb)
          clear gb
          go_wp2_with fail
          refine (HR2.out _ GB.out).mono ?_
          rintro e wc ⟨Ay, ny, cy, Y, rfl, hY, hYm, gc⟩
          have GC := Lib.hid (GB.out.trans gc)
          have HXC := Lib.hid (HXB.out.gr gc)
          have HYC := Lib.hid hY
          have HYM := Lib.hid hYm
          have hn4 : ny ≤ 3000 := by
            have := congrArg List.length HYM.out
            have h7 := congrArg List.length HXM.out
            rw [List.length_map] at this h7
            have h8 := HYC.out.1
            have h9 : Y.length = rs.1.length := this
            have := HNX.out
            omega
          clear gc hY hYm
          go_wp2_with fail
          refine (rowsLn_any Ax nx cx X wc HXC.out hn3).mono ?_
          rintro e wd ⟨A3, c3, rfl, hx3, gd⟩
          have GD := Lib.hid (GC.out.trans gd)
          have HX3 := Lib.hid hx3
          have HYD := Lib.hid (HYC.out.gr gd)
          clear hx3 gd
          go_wp2_with fail
          refine (rowsLn_any Ay ny cy Y wd HYD.out hn4).mono ?_
          rintro e we ⟨A4, c4, rfl, hy4, ge⟩
          have GE := Lib.hid (GD.out.trans ge)
          have HY4 := Lib.hid hy4
          have HX4 := Lib.hid (HX3.out.gr ge)
          clear hy4 ge
          go_wp2_with fail
          refine (refRows41_any A3 A4 nx c3 ny c4 X Y we HX4.out HY4.out).mono ?_
          rw [show rowsT (X.map LnV.d) (Y.map LnV.d) = true by rw [HXM.out, HYM.out]; exact rowsT_self _]
          rintro e wf ⟨rfl, gf⟩
          have GF := Lib.hid (GE.out.trans gf)
          clear gf
          go_wp2_with fail
          refine (HAL.out _ GF.out).mono ?_
          rintro e w9 ⟨rfl, g9⟩
          have G9 : Gr w w9 := Gr.trans GF.out g9; clear g9
          go_wp2_with fail
          go_ret
          exact ⟨rfl, G9⟩
        · have tf : (((rs.2.2 : Nat) : Int) != 0) = true := bne_iff_ne.2 (by omega)
          have hx0 : nx = 0 := by
            rcases HRF.out with h | h
            · exact absurd h hf
            · have := congrArg List.length HXM.out
              rw [List.length_map, h] at this
              have h2 : X.length = 0 := this
              have := HNX.out
              omega
          subst hx0
          clear hf
          go_wp2_with fail
          refine (HAL.out _ GA.out).mono ?_
          rintro e w9 ⟨rfl, g9⟩
          have G9 : Gr w w9 := Gr.trans GA.out g9; clear g9
          go_wp2_with fail
          go_ret
          exact ⟨rfl, G9⟩
      · have tf0 : ((f : Int) == 0) = false := beq_false_of_ne (by omega)
        clear hf0
        go_wp2_with fail
        refine (HRS.out _ G2.out).mono ?_
        rintro e wa ⟨Ax, nx, cx, X, rfl, hX, hXm, ga⟩
        have GA := Lib.hid (Gr.trans G2.out ga)
        clear ga
        have HNX : Hid (nx = X.length) := hX.1.symm
        have HXL := Lib.hid hX
        have HXM := Lib.hid hXm
        clear hX hXm
        by_cases hf : rs.2.2 = 0
        · have tf : (((rs.2.2 : Nat) : Int) != 0) = false := by rw [hf]; rfl
          obtain ⟨h1, h2, h3, h4, h5⟩ := HRW.out hf
          have hn3 : nx ≤ 3000 := by
            have := congrArg List.length HXM.out
            rw [List.length_map] at this
            have := HNX.out
            omega
          have HWX := Lib.hid (scWrite_any Ax nx cx X wa HXL.out hn3 (fun x hx => h5 x.d (by rw [← HXM.out]; exact List.mem_map_of_mem hx)) (HT.out.mono GA.out) (HM.out.mono GA.out))
          rw [HXM.out] at HWX
          have HR2 : Hid (∀ wr, Gr w wr → Calls Tryd.prog 21 #[strc (writeT rs.1).1] wr (RetRs wr (rs.1, 0, 0))) := fun wr g => by
            have := scRead_any (writeT rs.1).1 wr h3 (HT.out.mono g) (HM.out.mono g)
            rw [h2] at this
            exact this
          have hwf : (writeT rs.1).2 = 0 := h1
          clear h1 h2 h3 h4 h5
          generalize writeT rs.1 = wt2 at *
          obtain ⟨t2, f2⟩ := wt2
          have hwf : f2 = 0 := hwf
          subst hwf
          clear hf
          go_wp2_with fail
          refine HWX.out.mono ?_
          rintro e wb ⟨rfl, gb⟩
          have GB := Lib.hid (GA.out.trans gb)
          have HXB := Lib.hid (HXL.out.gr gb)
          clear gb
          go_wp2_with fail
          refine (HR2.out _ GB.out).mono ?_
          rintro e wc ⟨Ay, ny, cy, Y, rfl, hY, hYm, gc⟩
          have GC := Lib.hid (GB.out.trans gc)
          have HXC := Lib.hid (HXB.out.gr gc)
          have HYC := Lib.hid hY
          have HYM := Lib.hid hYm
          have hn4 : ny ≤ 3000 := by
            have := congrArg List.length HYM.out
            have h7 := congrArg List.length HXM.out
            rw [List.length_map] at this h7
            have h8 := HYC.out.1
            have h9 : Y.length = rs.1.length := this
            have := HNX.out
            omega
          clear gc hY hYm
          go_wp2_with fail
          refine (rowsLn_any Ax nx cx X wc HXC.out hn3).mono ?_
          rintro e wd ⟨A3, c3, rfl, hx3, gd⟩
          have GD := Lib.hid (GC.out.trans gd)
          have HX3 := Lib.hid hx3
          have HYD := Lib.hid (HYC.out.gr gd)
          clear hx3 gd
          go_wp2_with fail
          refine (rowsLn_any Ay ny cy Y wd HYD.out hn4).mono ?_
          rintro e we ⟨A4, c4, rfl, hy4, ge⟩
          have GE := Lib.hid (GD.out.trans ge)
          have HY4 := Lib.hid hy4
          have HX4 := Lib.hid (HX3.out.gr ge)
          clear hy4 ge
          go_wp2_with fail
          refine (refRows41_any A3 A4 nx c3 ny c4 X Y we HX4.out HY4.out).mono ?_
          rw [show rowsT (X.map LnV.d) (Y.map LnV.d) = true by rw [HXM.out, HYM.out]; exact rowsT_self _]
          rintro e wf ⟨rfl, gf⟩
          have GF := Lib.hid (GE.out.trans gf)
          clear gf
          go_wp2_with fail
          refine (HAL.out _ GF.out).mono ?_
          rintro e w9 ⟨rfl, g9⟩
          have G9 : Gr w w9 := Gr.trans GF.out g9; clear g9
          go_wp2_with fail
          go_ret
          exact ⟨rfl, G9⟩
        · have tf : (((rs.2.2 : Nat) : Int) != 0) = true := bne_iff_ne.2 (by omega)
          have hx0 : nx = 0 := by
            rcases HRF.out with h | h
            · exact absurd h hf
            · have := congrArg List.length HXM.out
              rw [List.length_map, h] at this
              have h2 : X.length = 0 := this
              have := HNX.out
              omega
          subst hx0
          clear hf
          go_wp2_with fail
          refine (HAL.out _ GA.out).mono ?_
          rintro e w9 ⟨rfl, g9⟩
          have G9 : Gr w w9 := Gr.trans GA.out g9; clear g9
          go_wp2_with fail
          go_ret
          exact ⟨rfl, G9⟩
theorem scBack_law (A : Option Addr) (n c : Nat) (L : List LnV) (s : ByteArray) (w : World) (hL : Lns w A n c L) (hN : ∀ x ∈ L, LnNum x.d) (hT : Pow10 w) (hM : MLen w) :
    Calls Tryd.prog 5 #[.slice A n c, .string s] w fun e w' => e = .returned (.bool true) ∧ Gr w w' := by
  have h := scBack_any A n c L s.data.toList w hL hN hT hM
  rw [show strc s.data.toList = .string s by unfold strc; simp] at h
  exact h
end Go.Proofs.YtadenlhnfkccaaaDoor

/- What a call's contract may lean on besides: the shape of the variables that are not listed; rows of texts that came in. No condition. -/
namespace Go.Proofs.YtadenlhnfkccaaaDoor
open Go.RowKit
set_option linter.unusedVariables false
section
variable {H : Type} {enc : TypeId × Value → H}
theorem handed_shaped {a : Assume} {C : Checked} {os : Os} {f : FuncId} {fn : Func} {s : ChangeSpec} {conds : List PathCond} {apart fresh handsOn again : Bool} {X : World → Array Value → Prop}
    (hX : ∀ (w w' : World) (args : Array Value), w.heap = w'.heap → X w args → X w' args)
    (own : ownKnob C.prog.godebug = none) (started : os.Started) (noInit : C.prog.inits.idxOf? f = none) (hfn : C.prog.funcs[f]? = some fn)
    (witness : ∃ (w : World) (tape : Tape) (i : Input), w.os = os ∧ (w.forCall tape i).Shaped C.prog ∧ i.vars = [] ∧ Input.okWide C.prog (w.forCall tape i) .any w.heap.size f i ∧
      ((s.pre enc C.prog fn conds apart (w.forCall tape i).memory i.args ∧ X (w.forCall tape i).memory i.args) ∧ sizedMet enc C.prog fn (OpenSpec.ofChange s) apart (w.forCall tape i).memory i.args) ∧ a.holds C.prog (lone (Frame.enter C.prog f i.args .normal) [] (w.forCall tape i)))
    (contract : ∀ (W : World) (base : Nat) (args : Array Value) (ds gs : List (DataW H)) (before : List MemPlace),
      (∀ (j : Nat) t v, fn.params[j]? = some t → args[j]? = some v → Value.okWide C.prog W .any base t v) →
      DataW.Whole enc C.prog fn.params.toList s.vars apart W args.toList ds gs before → X W args → W.ShapedOpen C.prog →
      Calls C.prog f args W fun e W' => ∃ v, e = .returned v ∧ s.post enc C.prog fn apart fresh handsOn again W args v W') :
    ReturnsInHanded a C os f .any (fun w args => (s.pre enc C.prog fn conds apart w args ∧ X w args) ∧ sizedMet enc C.prog fn (OpenSpec.ofChange s) apart w args) (s.post enc C.prog fn apart fresh handsOn again) := by
  refine returnsInHanded_of_calls own started noInit witness fun w tape i _ hshape _ hok hpre _ => ?_
  obtain ⟨_, _, _, fn', hfn', _, _, _, _, hval⟩ := hok
  obtain rfl : fn' = fn := Option.some.inj (hfn'.symm.trans hfn)
  obtain ⟨⟨⟨ds, gs, before, hw, _⟩, hx⟩, _⟩ := hpre
  refine (contract (w.forCall tape i) w.heap.size i.args ds gs before hval (DataW.Whole.of_heap (w' := w.forCall tape i) (by rfl) hw) (hX _ _ _ (by rfl) hx) hshape).mono fun e W' ⟨v, he, hp⟩ => ?_
  subst he
  exact ChangeSpec.post_blind hp
end
section
variable {H : Type} {enc : TypeId × Value → H} {P : Program} {W : World}
theorem open_words {t e : TypeId} {a : Option Addr} {len cap : Nat} {d : DataW H} {p : List MemPlace} (ht : P.underlying t = some (.slice e)) (he : P.underlying e = some .string) (hc : P.cellsOf e = 1)
    (h : DataW.Trod enc P W 0 (fun _ => true) true t (.slice a len cap) d p) : ∃ ps, Ws W a len cap ps ∧ ∀ p ∈ ps, p.length ≤ 9223372036854775807 := by
  obtain ⟨fuel, hf⟩ := h
  obtain ⟨L, _, hs, hg⟩ := open_elems (α := List UInt8) ht hc (by decide) hf (fun x => [strc x]) (fun _ => rfl) (fun x => x.length ≤ 9223372036854775807) (fun n cs z hl hz => by
    obtain ⟨v, rfl, _, hw⟩ := DataW.trod_string he hz
    refine ⟨v.data.toList, ?_, ?_⟩
    · show [Value.string v] = [strc v.data.toList]
      rfl
    · have : v.data.toList.length = v.size := Array.length_toList
      rw [this]
      exact hw)
  have e : L.flatMap (fun x => [strc x]) = L.map strc := flat_one _ L
  rw [e] at hs
  exact ⟨L, hs, hg⟩
end
end Go.Proofs.YtadenlhnfkccaaaDoor

/- The library's tables, as the statements on lines list them. No condition. -/
namespace Go.Proofs.YtadenlhnfkccaaaDoor
open Go.RowKit Go.Shelf Go.Lib
abbrev laidS : List (String × DataW Unit) := [("math/bits.deBruijn32tab", Rows.laid_math_bits_deBruijn32tab), ("math/bits.deBruijn64tab", Rows.laid_math_bits_deBruijn64tab), ("internal/strconv.uint64pow10", Rows.laid_internal_strconv_uint64pow10), ("unicode/utf8.acceptRanges", Rows.laid_unicode_utf8_acceptRanges), ("unicode/utf8.first", Rows.laid_unicode_utf8_first)]
theorem pow10_of {W : World} (h : laidMetH Tryd.prog laidS W) : Pow10 W := by
  rw [MakeChecks.laidMetH_plain _ _ _ (by kernel_rfl)] at h
  exact Lib.tabIs_of_head (g := 3) (t := 175) (e := 169) (n := 20) (by kernel_rfl) (by kernel_rfl) Tryd.underlying175 Tryd.underlying169 (by kernel_rfl) (by kernel_rfl) (laidMet.tail (laidMet.tail h))
theorem mlen_of {W : World} (h : W.ShapedOpen Tryd.prog) : MLen W := Tryd.laysM146.s1_3 W h
theorem laid_met (os : Os) (args : Array Value) : laidMetH Tryd.prog laidS ((World.laidAll Tryd.prog os laidS).forCall (fun _ _ => 0) ⟨#[], args, []⟩).memory := by
  rw [MakeChecks.laidMetH_plain _ _ _ (by kernel_rfl)]
  exact laidMet_laidAll _ (by kernel_rfl) (by kernel_rfl)
end Go.Proofs.YtadenlhnfkccaaaDoor
