/- Own texts of this claim, one behind the other. No condition. -/
import Derived.Test.YtfemhhjmfckicaaGreatDoorObPkA
import Derived.Test.YtfemhhjmfckicaaGreatDoorObPkN
import Derived.Test.YtfemhhjmfckicaaGreatDoorObPkS
import Derived.Test.YtfemhhjmfckicaaGreatDoorObPkZK
import Derived.ProofKit
import Derived.Deep.Slices
import Derived.Deep.Fields
import Derived.Lib.SmallJoins
import Derived.Stop.Joined
import Derived.Handed
import Derived.OpenShut
import Derived.Test.YtfemhhjmfckicaaGreatDoorRows
import Derived.Lay
import Derived.LaidMore
import Derived.LaidOnce
import Derived.PinnedBridge
import Derived.Lib.LaidU8

/- LeafLooks: the walk. No condition. -/
namespace Go.Proofs.YtfemhhjmfckicaaGreatDoor
open Go.RowKit
set_option linter.unusedVariables false
set_option linter.unusedSimpArgs false
set_option maxRecDepth 100000 in
set_option maxHeartbeats 4000000 in
theorem leafLooks_walk (A : Option Addr) (n c : Nat) (hs : List (List UInt8)) (s : ByteArray) (w : World) (h : Ws w A n c hs) (hz : ∀ p ∈ hs, p.length ≤ 9223372036854775807) (hsz : s.size ≤ 9223372036854775807) (hT : U8 w) (hM : MLen w) :
    Calls Tryz.prog 3 #[.slice A n c, .string s] w fun e w' => e = .returned (.bool true) ∧ Below w.heap.size w w' := by
  show Calls _ _ _ _ fun e w' => e = .returned (.bool true) ∧ Gr w w'
  have hmax := h.max
  have hcap := h.cap
  have HLT := Lib.hid (light31_any A none n c 0 0 hs [] w h hz (Chg.nil w))
  have HAL : Hid (∀ wr, Gr w wr → Calls Tryz.prog 6 #[] wr fun e w' => e = .returned (.bool true) ∧ Gr wr w') := fun wr g => alive31_any wr (hT.mono g)
  have HH := Lib.hid h; have HT := Lib.hid hT; have HM := Lib.hid hM
  have HL := Lib.hid h.len
  clear h hT hM hz
  by_cases h100 : 100 < s.size
  · have t1 : decide ((100 : Int) < (s.size : Int)) = true := decide_eq_true (by omega)
    go_enter Tryz.func3, Tryz.ntmps3
    go_wp2_with fail
    refine HLT.out.mono ?_
    rintro e w1 ⟨b, rfl, hb, g1⟩
    have G1 := Lib.hid g1; clear g1
    cases b with
    | false =>
      go_wp2_with fail
      refine (HAL.out _ G1.out).mono ?_
      rintro e w2 ⟨rfl, g2⟩
      have G2 := Lib.hid (Gr.trans G1.out g2); clear g2
      go_wp2_with fail
      go_ret
      exact ⟨rfl, G2.out⟩
    | true =>
      go_wp2_with fail
      refine (HAL.out _ G1.out).mono ?_
      rintro e w2 ⟨rfl, g2⟩
      have G2 := Lib.hid (Gr.trans G1.out g2); clear g2
      go_wp2_with fail
      go_ret
      exact ⟨rfl, G2.out⟩
  have t1 : decide ((100 : Int) < (s.size : Int)) = false := decide_eq_false (by omega)
  go_enter Tryz.func3, Tryz.ntmps3
  go_wp2_with fail
  refine HLT.out.mono ?_
  rintro e w1 ⟨b, rfl, hb, g1⟩
  have G1 := Lib.hid g1; clear g1
  cases b with
  | false =>
    go_wp2_with fail
    refine (HAL.out _ G1.out).mono ?_
    rintro e w2 ⟨rfl, g2⟩
    have G2 := Lib.hid (Gr.trans G1.out g2); clear g2
    go_wp2_with fail
    go_ret
    exact ⟨rfl, G2.out⟩
  | true =>
    have hlt := hb rfl
    have hn70 : n ≤ 70 := by rw [← HL.out]; exact hlt.h
    have HB : Hid (∀ x ∈ hs, x.length ≤ 100000) := fun x hx => by have := hlt.hh x hx; omega
    clear hb hlt
    go_wp2_with fail
    go_loopw [5, 6] (fun u i wr => ∃ k : Nat, k ≤ n ∧ i = .int .i64 k ∧ u = .int .i64 (usedH (hs.take k)) ∧ wr = w1) (fun _ i _ => n - (intOf i).toNat)
    case atStart => exact ⟨0, Nat.zero_le _, rfl, rfl, rfl⟩
    case round =>
      obtain ⟨k, hk, rfl, rfl, rfl⟩ := hrel
      by_cases hkn : k < n
      · have hkl : k < hs.length := by rw [HL.out]; exact hkn
        obtain ⟨b, o, rfl, hcc⟩ := Ws.addr (HH.out.mono G1.out) (by omega)
        have HS := Lib.hid (used_snoc hs k hkl)
        have hle : usedH (hs.take k) ≤ k := Nat.le_trans (used_le _) (by rw [List.length_take]; omega)
        have c1 := hcc k hkl
        clear hcc
        generalize hs[k] = x at *
        obtain ⟨xs, hxs⟩ : ∃ xs : ByteArray, xs = ⟨x.toArray⟩ := ⟨_, rfl⟩
        rw [← hxs] at c1
        have hxl : xs.toList = x := by rw [hxs, ByteArray.toList_eq]
        clear hxs
        by_cases h0 : x = []
        · have he : xs.toList.isEmpty = true := by rw [hxl, h0]; rfl
          have HT2 : Hid (usedH (hs.take (k + 1)) = usedH (hs.take k)) := by show _ = _; rw [HS.out, if_pos h0]; rfl
          clear hxl h0
          generalize usedH (hs.take k) = u at *
          go_wp2_with fail
          refine ⟨⟨k + 1, by omega, by first | trivial | go_num, by rw [HT2.out], by first | trivial | rfl⟩, ?_⟩
          show n - ((k : Int) + 1).toNat < n - (k : Int).toNat
          omega
        · have he : xs.toList.isEmpty = false := by
            rw [hxl]
            cases x with
            | nil => exact absurd rfl h0
            | cons a b => rfl
          have HT2 : Hid (usedH (hs.take (k + 1)) = usedH (hs.take k) + 1) := by show _ = _; rw [HS.out, if_neg h0]
          clear hxl h0
          generalize usedH (hs.take k) = u at *
          go_wp2_with fail
          refine ⟨⟨k + 1, by omega, by first | trivial | go_num, by rw [HT2.out]; first | trivial | go_num, by first | trivial | rfl⟩, ?_⟩
          show n - ((k : Int) + 1).toNat < n - (k : Int).toNat
          omega
      · obtain rfl : k = n := by omega
        have HF : Hid (usedH (hs.take k) = usedH hs) := by show _ = _; rw [List.take_of_length_le (by rw [HL.out]; omega)]
        rw [HF.out]
        obtain ⟨ls, hls⟩ : ∃ ls : List UInt8, ls = s.data.toList := ⟨_, rfl⟩
        have es : strc ls = .string s := by rw [hls]; rfl
        have HWW := Lib.hid (HH.out.mono G1.out)
        have F1 := Lib.hid (leafFind_any A k c hs ls wr HWW.out (by omega))
        have F2 := Lib.hid (refFind31_any A k c hs ls wr HWW.out)
        rw [es] at F1 F2
        have F3 := Lib.hid (free_any A k c hs wr HWW.out (by omega))
        have F4 := Lib.hid (refFree31_any A k c hs wr HWW.out)
        have F5 := Lib.hid (used_any A k c hs wr HWW.out)
        have F6 := Lib.hid (names_any A k c hs wr HWW.out (by omega) HB.out (HT.out.mono G1.out) (HM.out.mono G1.out))
        have F7 := Lib.hid (fun wq (g : Gr wr wq) => refNames31_any A k c hs wq (HWW.out.mono g) (by omega) HB.out)
        have HNR := Lib.hid (namesR_names hs.length hs rfl)
        clear hls es HF
        generalize findH hs ls = q1 at *
        generalize freeH hs = q2 at *
        generalize usedH hs = q3 at *
        generalize namesR hs = NR at *
        have e1 : (q1 == q1) = true := by simp
        have e2 : (q2 == q2) = true := by simp
        have e3 : ((q3 : Int) == (q3 : Int)) = true := by simp
        go_wp2_with fail
        refine F1.out.mono ?_
        rintro e w2 ⟨rfl, rfl⟩
        go_wp2_with fail
        refine F2.out.mono ?_
        rintro e w2 ⟨rfl, rfl⟩
        go_wp2_with fail
        refine F3.out.mono ?_
        rintro e w2 ⟨rfl, rfl⟩
        go_wp2_with fail
        refine F4.out.mono ?_
        rintro e w2 ⟨rfl, rfl⟩
        go_wp2_with fail
        refine F5.out.mono ?_
        rintro e w2 ⟨rfl, rfl⟩
        go_wp2_with fail
        refine F6.out.mono ?_
        rintro e w7 ⟨A7, n7, c7, N, rfl, hN, _, r7, g7⟩
        have W7 := Lib.hid r7.ws
        have G7 := Lib.hid g7
        have HN := Lib.hid hN
        clear r7 g7 hN
        go_wp2_with fail
        refine (F7.out _ G7.out).mono ?_
        rintro e w8 ⟨v8, rfl, o8⟩
        obtain ⟨A8, c8, rfl, s8⟩ := o8.slice
        obtain rfl : N = NR := names_same HN.out HNR.out
        have FW := Lib.hid (words_any A7 A8 n7 _ c7 c8 N N w8 (W7.out.mono o8.below) s8)
        have G8 := Lib.hid (Gr.trans G1.out (Gr.trans G7.out o8.below))
        have tm : (N == N) = true := by simp
        rw [tm] at FW
        clear o8 s8 tm
        go_wp2_with fail
        refine FW.out.mono ?_
        rintro e w9 ⟨rfl, q9, rfl⟩
        have G9 := Lib.hid (belowN G8.out q9)
        go_wp2_with fail
        refine (HAL.out _ G9.out).mono ?_
        rintro e w10 ⟨rfl, g10⟩
        have G10 := Lib.hid (Gr.trans G9.out g10); clear g10
        go_wp2_with fail
        go_ret
        exact ⟨rfl, G10.out⟩
end Go.Proofs.YtfemhhjmfckicaaGreatDoor

/- What the rows' frames tell of an argument that came in, in the words of ObBase. No condition. -/
namespace Go.Proofs.YtfemhhjmfckicaaGreatDoor
open Go.RowKit Go.ChangeShapes Go.WideShapes Go.Deep
set_option linter.unusedVariables false

section
variable {H : Type} {enc : TypeId × Value → H} {P : Program} {W : World}

/-- A slice that came in, element by element: each reads as some x, in its own cells 'f x'. -/
theorem open_elems {α : Type} [Inhabited α] {t e : TypeId} {C fuel : Nat} {y : DataW H × List MemPlace} {a : Option Addr} {len cap : Nat} (ht : P.underlying t = some (.slice e)) (hC : P.cellsOf e = C) (hpos : 0 < C)
    (h : DataW.trod enc P W 0 (fun _ => true) true fuel t [.slice a len cap] = some y)
    (f : α → List Value) (hf : ∀ x, (f x).length = C) (good : α → Prop)
    (hel : ∀ n cs z, cs.length = C → DataW.trod enc P W 0 (fun _ => true) true n e cs = some z → ∃ x, cs = f x ∧ good x) :
    ∃ L : List α, L.length = len ∧ Sl W a len cap C (L.flatMap f) ∧ ∀ x ∈ L, good x := by
  rcases open_slice ht h with ⟨hcs, _⟩ | ⟨ad, len', cap', m, n, D, Pl, hcs, _, hl, hm, hmm, _, hx⟩
  · simp at hcs
    obtain ⟨rfl, rfl, rfl⟩ := hcs
    exact ⟨[], rfl, Sl.nil _ _, by simp⟩
  · simp at hcs
    obtain ⟨rfl, rfl, rfl⟩ := hcs
    rw [hC] at hx
    obtain ⟨V, hV⟩ := choose_lt (α := α) (n := len) (p := fun i x => good x ∧ ∀ j, j < C → W.cell? (ad.add (i * C + j)) = (f x)[j]?) (fun i hi => by
      obtain ⟨cs', h1, h2⟩ := hx i (by simp at hmm; omega)
      obtain ⟨_, hlen, hat⟩ := World.cells?_some h1
      obtain ⟨x, rfl, hg⟩ := hel _ _ _ hlen h2
      exact ⟨x, hg, fun j hj => by rw [← Go.Deep.add_add]; exact hat j hj⟩)
    refine ⟨(List.range len).map V, by simp, ⟨by rw [flat_length hf]; simp, hl, hm, fun hn => ?_⟩, ?_⟩
    · have h0 := (hV 0 hn).2 0 hpos
      rw [Nat.zero_mul, Nat.zero_add, List.getElem?_eq_getElem (by rw [hf]; exact hpos)] at h0
      obtain ⟨b, o, sp⟩ := ad
      have hsp : sp = none := by simpa [Addr.add] using World.cell?_spot h0
      subst hsp
      refine ⟨b, o, rfl, fun j u hu => ?_⟩
      have hj : j < len * C := by
        have := (List.getElem?_eq_some_iff.1 hu).1
        rw [flat_length hf] at this
        simpa using this
      have hdiv : j / C < len := by rw [Nat.div_lt_iff_lt_mul hpos]; exact hj
      have hmod := Nat.mod_lt j hpos
      have e : j / C * C + j % C = j := Nat.div_add_mod' j C
      rw [← e, flat_at hf _ (j / C) (j % C) hmod (V (j / C)) (by simp [hdiv])] at hu
      rw [← add_flat, ← e, (hV (j / C) hdiv).2 (j % C) hmod]
      exact hu
    · intro x hx
      simp at hx
      obtain ⟨i, hi, rfl⟩ := hx
      exact (hV i hi).1

/-- The one-cell fields of a struct. -/
theorem trod_fields {t : TypeId} {fs : Array Field} {fuel : Nat} {cs : List Value} {x : DataW H × List MemPlace} (ht : P.underlying t = some (.struct fs)) (hone : oneCellFields P fs = true) (hC : P.cellsOf t = fs.size)
    (h : DataW.trod enc P W 0 (fun _ => true) true fuel t cs = some x) :
    cs.length = fs.size ∧ ∃ n, ∀ (j : Nat) (fd : Field), fs[j]? = some fd → ∃ v y, cs[j]? = some v ∧ DataW.trod enc P W 0 (fun _ => true) true n fd.type [v] = some y := by
  obtain ⟨xs, n, _, _, hlen, hxl, hf⟩ := DataW.trod_struct ht h
  refine ⟨hlen.trans hC, n, fun j fd hj => ?_⟩
  obtain ⟨ho, hk⟩ := hone_of hone j fd hj
  have hjl : j < fs.size := (Array.getElem?_eq_some_iff.1 hj).1
  have h1 := hf j fd hj
  rw [ho, hk] at h1
  have hjc : j < cs.length := by rw [hlen, hC]; exact hjl
  have hone' : (cs.drop j).take 1 = [cs[j]] := by rw [List.drop_eq_getElem_cons hjc]; rfl
  rw [hone', List.getElem?_eq_getElem (show j < xs.length by omega)] at h1
  exact ⟨_, _, List.getElem?_eq_getElem hjc, h1⟩

/-! ### bytes, numbers, rows of bytes -/
theorem open_bytes' {t e : TypeId} {a : Option Addr} {len cap fuel : Nat} {y : DataW H × List MemPlace} (ht : P.underlying t = some (.slice e)) (he : P.underlying e = some (.int .u8)) (hc : P.cellsOf e = 1)
    (h : DataW.trod enc P W 0 (fun _ => true) true fuel t [.slice a len cap] = some y) : ∃ l, Bs W a len cap l := by
  obtain ⟨L, _, hs, _⟩ := open_elems (α := UInt8) ht hc (by decide) h (fun x => [u8c x]) (fun _ => rfl) (fun _ => True) (fun n cs z hl hz => by
    obtain ⟨v, rfl, _, hw⟩ := DataW.trod_int he hz
    have := bounds_u8 hw
    exact ⟨UInt8.ofNat v.toNat, by rw [u8_of v (by omega) (by omega)], trivial⟩)
  refine ⟨L, ?_⟩
  have e : L.flatMap (fun x => [u8c x]) = L.map u8c := flat_one _ L
  rw [e] at hs
  exact hs
theorem open_bytes {t e : TypeId} {a : Option Addr} {len cap : Nat} {d : DataW H} {p : List MemPlace} (ht : P.underlying t = some (.slice e)) (he : P.underlying e = some (.int .u8)) (hc : P.cellsOf e = 1)
    (h : DataW.Trod enc P W 0 (fun _ => true) true t (.slice a len cap) d p) : ∃ l, Bs W a len cap l := by
  obtain ⟨fuel, hf⟩ := h
  exact open_bytes' ht he hc hf

/-- Numbers, each one that an int holds. -/
def Fits (l : List Int) : Prop := ∀ x ∈ l, -9223372036854775808 ≤ x ∧ x ≤ 9223372036854775807
theorem open_nums {t e : TypeId} {a : Option Addr} {len cap : Nat} {d : DataW H} {p : List MemPlace} (ht : P.underlying t = some (.slice e)) (he : P.underlying e = some (.int .i64)) (hc : P.cellsOf e = 1)
    (h : DataW.Trod enc P W 0 (fun _ => true) true t (.slice a len cap) d p) : ∃ l, Is W a len cap l ∧ Fits l := by
  obtain ⟨fuel, hf⟩ := h
  obtain ⟨L, _, hs, hg⟩ := open_elems (α := Int) ht hc (by decide) hf (fun x => [i64c x]) (fun _ => rfl) (fun x => -9223372036854775808 ≤ x ∧ x ≤ 9223372036854775807) (fun n cs z hl hz => by
    obtain ⟨v, rfl, _, hw⟩ := DataW.trod_int he hz
    have := bounds_i64 hw
    exact ⟨v, rfl, by omega⟩)
  have e : L.flatMap (fun x => [i64c x]) = L.map i64c := flat_one _ L
  rw [e] at hs
  exact ⟨L, hs, hg⟩

theorem open_rows {t e b : TypeId} {a : Option Addr} {len cap : Nat} {d : DataW H} {p : List MemPlace} (ht : P.underlying t = some (.slice e)) (he : P.underlying e = some (.slice b)) (hb : P.underlying b = some (.int .u8)) (hc : P.cellsOf e = 1) (hcb : P.cellsOf b = 1)
    (h : DataW.Trod enc P W 0 (fun _ => true) true t (.slice a len cap) d p) : ∃ L, Bss W a len cap L := by
  obtain ⟨fuel, hf⟩ := h
  obtain ⟨L, _, hs, hg⟩ := open_elems (α := BRow) ht hc (by decide) hf (fun x => [x.v]) (fun _ => rfl) (fun r => Bs W r.a r.n r.c r.l) (fun n cs z hl hz => by
    obtain ⟨a', l', c', rfl⟩ := Go.Joins.slice_form he hz
    obtain ⟨l, hl⟩ := open_bytes' he hb hcb hz
    exact ⟨⟨a', l', c', l⟩, rfl, hl⟩)
  have e : L.flatMap (fun x => [x.v]) = L.map BRow.v := flat_one _ L
  rw [e] at hs
  exact ⟨L, hs, hg⟩
end
end Go.Proofs.YtfemhhjmfckicaaGreatDoor

/- What a call's contract may lean on besides: the shape of the variables that are not listed; rows of texts that came in. No condition. -/
namespace Go.Proofs.YtfemhhjmfckicaaGreatDoor
open Go.RowKit
set_option linter.unusedVariables false
section
variable {H : Type} {enc : TypeId × Value → H}
theorem handed_shaped {a : Assume} {C : Checked} {os : Os} {f : FuncId} {fn : Func} {s : ChangeSpec} {conds : List PathCond} {apart fresh handsOn again : Bool} {X : World → Array Value → Prop}
    (hX : ∀ (w w' : World) (args : Array Value), w.heap = w'.heap → X w args → X w' args)
    (own : ownKnob C.prog.godebug = none) (started : os.Started) (noInit : C.prog.inits.idxOf? f = none) (hfn : C.prog.funcs[f]? = some fn)
    (witness : ∃ (w : World) (tape : Tape) (i : Input), w.os = os ∧ (w.forCall tape i).Shaped C.prog ∧ i.vars = [] ∧ Input.okWide C.prog (w.forCall tape i) .any w.heap.size f i ∧
      ((s.pre enc C.prog fn conds apart (w.forCall tape i).memory i.args ∧ X (w.forCall tape i).memory i.args) ∧ sizedMet enc C.prog fn (OpenSpec.ofChange s) apart (w.forCall tape i).memory i.args) ∧ a.holds C.prog (lone (Frame.enter C.prog f i.args .normal) [] (w.forCall tape i)))
    (contract : ∀ (W : World) (base : Nat) (args : Array Value) (ds gs : List (DataW H)) (before : List MemPlace),
      (∀ (j : Nat) t v, fn.params[j]? = some t → args[j]? = some v → Value.okWide C.prog W .any base t v) →
      DataW.Whole enc C.prog fn.params.toList s.vars apart W args.toList ds gs before → X W args → W.ShapedOpen C.prog →
      Calls C.prog f args W fun e W' => ∃ v, e = .returned v ∧ s.post enc C.prog fn apart fresh handsOn again W args v W') :
    ReturnsInHanded a C os f .any (fun w args => (s.pre enc C.prog fn conds apart w args ∧ X w args) ∧ sizedMet enc C.prog fn (OpenSpec.ofChange s) apart w args) (s.post enc C.prog fn apart fresh handsOn again) := by
  refine returnsInHanded_of_calls own started noInit witness fun w tape i _ hshape _ hok hpre _ => ?_
  obtain ⟨_, _, _, fn', hfn', _, _, _, _, hval⟩ := hok
  obtain rfl : fn' = fn := Option.some.inj (hfn'.symm.trans hfn)
  obtain ⟨⟨⟨ds, gs, before, hw, _⟩, hx⟩, _⟩ := hpre
  refine (contract (w.forCall tape i) w.heap.size i.args ds gs before hval (DataW.Whole.of_heap (w' := w.forCall tape i) (by rfl) hw) (hX _ _ _ (by rfl) hx) hshape).mono fun e W' ⟨v, he, hp⟩ => ?_
  subst he
  exact ChangeSpec.post_blind hp
end
section
variable {H : Type} {enc : TypeId × Value → H} {P : Program} {W : World}
theorem open_words {t e : TypeId} {a : Option Addr} {len cap : Nat} {d : DataW H} {p : List MemPlace} (ht : P.underlying t = some (.slice e)) (he : P.underlying e = some .string) (hc : P.cellsOf e = 1)
    (h : DataW.Trod enc P W 0 (fun _ => true) true t (.slice a len cap) d p) : ∃ ps, Ws W a len cap ps ∧ ∀ p ∈ ps, p.length ≤ 9223372036854775807 := by
  obtain ⟨fuel, hf⟩ := h
  obtain ⟨L, _, hs, hg⟩ := open_elems (α := List UInt8) ht hc (by decide) hf (fun x => [strc x]) (fun _ => rfl) (fun x => x.length ≤ 9223372036854775807) (fun n cs z hl hz => by
    obtain ⟨v, rfl, _, hw⟩ := DataW.trod_string he hz
    refine ⟨v.data.toList, ?_, ?_⟩
    · show [Value.string v] = [strc v.data.toList]
      rfl
    · have : v.data.toList.length = v.size := Array.length_toList
      rw [this]
      exact hw)
  have e : L.flatMap (fun x => [strc x]) = L.map strc := flat_one _ L
  rw [e] at hs
  exact ⟨L, hs, hg⟩
end
end Go.Proofs.YtfemhhjmfckicaaGreatDoor

/- The library's tables of UTF-8, as the names' statements list them. No condition. -/
namespace Go.Proofs.YtfemhhjmfckicaaGreatDoor
open Go.RowKit Go.Shelf Go.Lib
abbrev laidS : List (String × DataW Unit) := [("unicode/utf8.acceptRanges", Rows.laid_unicode_utf8_acceptRanges), ("unicode/utf8.first", Rows.laid_unicode_utf8_first)]
theorem accept_eq : (Rows.laid_unicode_utf8_acceptRanges : DataW Unit) = acceptData := by kernel_rfl
theorem u8x : U8Extra Tryz.prog Tryz.lays260_ren := ⟨by kernel_rfl, by kernel_rfl, by kernel_rfl, by kernel_rfl, by kernel_rfl, by kernel_rfl, by kernel_rfl⟩
theorem u8tabs_of {W : World} (h : laidMetH Tryz.prog laidS W) : U8 W := by
  rw [MakeChecks.laidMetH_plain _ _ _ (by kernel_rfl)] at h
  exact utf8Tabs_of_reads Tryz.lays260 u8x (Pinned.utf8First_eq ▸ laidMet.reads h (.tail _ (.head _))) (accept_eq ▸ laidMet.reads h (.head _))
theorem mlen_of {W : World} (h : W.ShapedOpen Tryz.prog) : MLen W := Tryz.laysM146.s1_3 W h
theorem laid_met (os : Os) (args : Array Value) : laidMetH Tryz.prog laidS ((World.laidAll Tryz.prog os laidS).forCall (fun _ _ => 0) ⟨#[], args, []⟩).memory := by
  rw [MakeChecks.laidMetH_plain _ _ _ (by kernel_rfl)]
  exact laidMet_laidAll _ (by kernel_rfl) (by kernel_rfl)
end Go.Proofs.YtfemhhjmfckicaaGreatDoor
