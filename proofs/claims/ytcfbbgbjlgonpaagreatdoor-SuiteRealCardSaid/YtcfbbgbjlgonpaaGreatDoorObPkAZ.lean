/- Own texts of this claim, one behind the other. No condition. -/
import Derived.Test.YtcfbbgbjlgonpaaGreatDoorObPkAA
import Derived.Test.YtcfbbgbjlgonpaaGreatDoorObPkAS
import Derived.Test.YtcfbbgbjlgonpaaGreatDoorObPkAY
import Derived.ProofKit
import Derived.Deep.Slices
import Derived.Deep.Fields
import Derived.Lib.SmallJoins

/- Boxes: Check, Seal. No condition. -/
namespace Go.Proofs.YtcfbbgbjlgonpaaGreatDoor
open Go.RowKit
set_option linter.unusedVariables false
set_option linter.unusedSimpArgs false
theorem macCheck_any (A B C : Option Addr) (n c m d q f : Nat) (k t i : List UInt8) (w : World) (h : Bs w A n c k) (hn : n ≤ 50000) (ht : Bs w B m d t) (hm : m ≤ 40000) (hi : Bs w C q f i) (hK : ShaK w) :
    Calls Tryz.prog 84 #[.slice A n c, .slice B m d, .slice C q f] w fun e w' => e = .returned (.bool (macL k t == i)) ∧ Gr w w' := by
  have HM := Lib.hid (mac_any A B n c m d k t w h hn ht hm hK)
  have HI := Lib.hid hi
  clear h ht hi hK
  go_enter Tryz.func84, Tryz.ntmps84
  go_wp2_with fail
  refine HM.out.mono ?_
  rintro e w1 ⟨v1, rfl, o1⟩
  obtain ⟨A1, c1, rfl, s1⟩ := o1.slice
  have HE := Lib.hid (bytesEqual_any A1 C _ q c1 f (macL k t) i w1 s1 (HI.out.mono o1.below))
  have G1 := Lib.hid o1.below
  clear o1 s1
  go_wp2_with fail
  refine HE.out.mono ?_
  rintro e w2 ⟨rfl, rfl⟩
  go_wp2_with fail
  go_ret
  exact ⟨rfl, G1.out⟩
/-- A nonce, and the text under its stream. -/
def hiddenL (key nonce text : List UInt8) : List UInt8 := nonce ++ overL (deriveL key sealS) nonce text
def boxL (key nonce text : List UInt8) : List UInt8 := hiddenL key nonce text ++ macL (deriveL key tagS) (hiddenL key nonce text)
theorem hiddenL_len (key nonce text : List UInt8) : (hiddenL key nonce text).length = nonce.length + text.length := by unfold hiddenL; rw [List.length_append, overL_len]
theorem boxL_len {key nonce text : List UInt8} (h : nonce.length = 16) : (boxL key nonce text).length = text.length + 48 := by unfold boxL; rw [List.length_append, hiddenL_len, macL_len, h]; omega
def RetBox (w : World) (l : List UInt8) (e : Ending) (w' : World) : Prop := ∃ v, e = .returned (.tuple #[v, .int .i64 0]) ∧ Own w w' 5 1 v l.length (l.map u8c)
set_option maxRecDepth 100000 in
set_option maxHeartbeats 2000000 in
theorem boxSeal_any (A B C : Option Addr) (c d m n : Nat) (key nonce text : List UInt8) (w : World) (hk : Bs w A 32 c key) (hn : Bs w B 16 d nonce) (ht : Bs w C n m text) (hs : n ≤ 30000) (hK : ShaK w) :
    Calls Tryz.prog 44 #[.slice A 32 c, .slice B 16 d, .slice C n m] w (RetBox w (boxL key nonce text)) := by
  have HKE := Lib.hid (boxKeys_any A 32 c key w hk (by decide) hK)
  have hnl : nonce.length = 16 := hn.len
  have htl : text.length = n := ht.len
  have HN := Lib.hid hn; have HT := Lib.hid ht; have HK := Lib.hid hK; have HTL := Lib.hid htl; have HNL := Lib.hid hnl; have HS := Lib.hid hs
  have HHL := Lib.hid (hiddenL_len key nonce text)
  have HBL := Lib.hid (boxL_len (key := key) (text := text) hnl)
  have t1 : decide ((60000 : Int) < n) = false := decide_eq_false (by omega)
  clear hk hn ht hK htl hnl
  go_enter Tryz.func44, Tryz.ntmps44
  go_wp2_with fail
  first | go_step3 | skip
  go_wp2_with fail
  refine HKE.out.mono ?_
  rintro e w1 ⟨A1, c1, A2, c2, rfl, s1, s2, g1⟩
  have S1 := Lib.hid s1; have S2 := Lib.hid s2; have G1 := Lib.hid g1
  have HOV := Lib.hid (ctrOver_any A1 B C c1 d m n (deriveL key sealS) nonce text w1 s1 (HN.out.mono g1) (HT.out.mono g1) (Nat.le_trans HS.out (by decide)))
  clear s1 s2 g1
  go_wp2_with fail
  refine HOV.out.mono ?_
  rintro e w3 ⟨v3, rfl, o3⟩
  obtain ⟨A3, c3, rfl, s3⟩ := o3.slice
  have S3 := Lib.hid s3; have G3 := Lib.hid (G1.out.trans o3.below); have S2' := Lib.hid (S2.out.mono o3.below)
  clear o3 s3 HOV
  have HBS := Lib.hid (Bss.two (r := ⟨B, 16, d, nonce⟩) (s := ⟨A3, text.length, c3, overL (deriveL key sealS) nonce text⟩) (HN.out.mono G3.out) S3.out 28)
  have HRR : Hid (rowsOf [⟨B, 16, d, nonce⟩, ⟨A3, text.length, c3, overL (deriveL key sealS) nonce text⟩] = hiddenL key nonce text) := by show _ = _; simp [rowsOf, hiddenL]
  have HA3 : Hid (Gr w (w3.alloc (.cells #[.slice B 16 d, .slice A3 text.length c3] 28))) := G3.out.trans (Gr.alloc _ _)
  have HCC := Lib.hid (concat_any _ 2 2 _ _ HBS.out (by rw [HRR.out, HHL.out, HNL.out, HTL.out]; omega))
  go_wp2_with (go_at_call 80; refine HCC.out.mono ?_; rintro e w4 ⟨v4, rfl, o4⟩; rw [HRR.out] at o4; have O4 : Hid (Own w w4 5 1 v4 (hiddenL key nonce text).length ((hiddenL key nonce text).map u8c)) := o4.base HA3.out ; have o4b := o4.below; obtain ⟨A4, c4, rfl, s4⟩ := o4.slice; have S4 : Hid (Bs w4 A4 (hiddenL key nonce text).length c4 (hiddenL key nonce text)) := s4; clear o4 s4; skip)
  have HMC := Lib.hid (mac_any A2 A4 32 c2 (hiddenL key nonce text).length c4 (deriveL key tagS) (hiddenL key nonce text) w4 (by have := S2'.out.mono (Gr.trans (Gr.alloc _ _) o4b); exact this) (by decide) S4.out (by rw [HHL.out, HNL.out, HTL.out]; omega) (HK.out.mono O4.out.below))
  have HML : Hid ((macL (deriveL key tagS) (hiddenL key nonce text)).length = 32) := macL_len _ _
  have HLE : Hid ((hiddenL key nonce text).length ≤ 30016) := by show _ ≤ _; rw [HHL.out, HNL.out, HTL.out]; omega
  go_wp2_with (first
    | (go_at_call 81; refine HMC.out.mono ?_; rintro e w5 ⟨v5, rfl, o5⟩; have O5 := Lib.hid (O4.out.mono o5.below); obtain ⟨A5, c5, rfl, s5⟩ := o5.slice; have S5 := Lib.hid s5; clear o5 s5)
    | (at_builtin; refine wpList_cat rfl (.tmp 45) (.tmp 48) 28 rfl tBytes rfl O5.out rfl S5.out (one_bytes _) (by rw [HML.out]; have := HLE.out; omega) ?_; intro v6 w6 o6; have O6 := Lib.hid o6; clear o6))
  go_ret2
  refine ⟨v6, rfl, ?_⟩
  have h := O6.out
  rw [← List.map_append, ← List.length_append] at h
  exact h
end Go.Proofs.YtcfbbgbjlgonpaaGreatDoor

/- What the rows' frames tell of an argument that came in, in the words of ObBase. No condition. -/
namespace Go.Proofs.YtcfbbgbjlgonpaaGreatDoor
open Go.RowKit Go.ChangeShapes Go.WideShapes Go.Deep
set_option linter.unusedVariables false

section
variable {H : Type} {enc : TypeId × Value → H} {P : Program} {W : World}

/-- A slice that came in, element by element: each reads as some x, in its own cells 'f x'. -/
theorem open_elems {α : Type} [Inhabited α] {t e : TypeId} {C fuel : Nat} {y : DataW H × List MemPlace} {a : Option Addr} {len cap : Nat} (ht : P.underlying t = some (.slice e)) (hC : P.cellsOf e = C) (hpos : 0 < C)
    (h : DataW.trod enc P W 0 (fun _ => true) true fuel t [.slice a len cap] = some y)
    (f : α → List Value) (hf : ∀ x, (f x).length = C) (good : α → Prop)
    (hel : ∀ n cs z, cs.length = C → DataW.trod enc P W 0 (fun _ => true) true n e cs = some z → ∃ x, cs = f x ∧ good x) :
    ∃ L : List α, L.length = len ∧ Sl W a len cap C (L.flatMap f) ∧ ∀ x ∈ L, good x := by
  rcases open_slice ht h with ⟨hcs, _⟩ | ⟨ad, len', cap', m, n, D, Pl, hcs, _, hl, hm, hmm, _, hx⟩
  · simp at hcs
    obtain ⟨rfl, rfl, rfl⟩ := hcs
    exact ⟨[], rfl, Sl.nil _ _, by simp⟩
  · simp at hcs
    obtain ⟨rfl, rfl, rfl⟩ := hcs
    rw [hC] at hx
    obtain ⟨V, hV⟩ := choose_lt (α := α) (n := len) (p := fun i x => good x ∧ ∀ j, j < C → W.cell? (ad.add (i * C + j)) = (f x)[j]?) (fun i hi => by
      obtain ⟨cs', h1, h2⟩ := hx i (by simp at hmm; omega)
      obtain ⟨_, hlen, hat⟩ := World.cells?_some h1
      obtain ⟨x, rfl, hg⟩ := hel _ _ _ hlen h2
      exact ⟨x, hg, fun j hj => by rw [← Go.Deep.add_add]; exact hat j hj⟩)
    refine ⟨(List.range len).map V, by simp, ⟨by rw [flat_length hf]; simp, hl, hm, fun hn => ?_⟩, ?_⟩
    · have h0 := (hV 0 hn).2 0 hpos
      rw [Nat.zero_mul, Nat.zero_add, List.getElem?_eq_getElem (by rw [hf]; exact hpos)] at h0
      obtain ⟨b, o, sp⟩ := ad
      have hsp : sp = none := by simpa [Addr.add] using World.cell?_spot h0
      subst hsp
      refine ⟨b, o, rfl, fun j u hu => ?_⟩
      have hj : j < len * C := by
        have := (List.getElem?_eq_some_iff.1 hu).1
        rw [flat_length hf] at this
        simpa using this
      have hdiv : j / C < len := by rw [Nat.div_lt_iff_lt_mul hpos]; exact hj
      have hmod := Nat.mod_lt j hpos
      have e : j / C * C + j % C = j := Nat.div_add_mod' j C
      rw [← e, flat_at hf _ (j / C) (j % C) hmod (V (j / C)) (by simp [hdiv])] at hu
      rw [← add_flat, ← e, (hV (j / C) hdiv).2 (j % C) hmod]
      exact hu
    · intro x hx
      simp at hx
      obtain ⟨i, hi, rfl⟩ := hx
      exact (hV i hi).1

/-- The one-cell fields of a struct. -/
theorem trod_fields {t : TypeId} {fs : Array Field} {fuel : Nat} {cs : List Value} {x : DataW H × List MemPlace} (ht : P.underlying t = some (.struct fs)) (hone : oneCellFields P fs = true) (hC : P.cellsOf t = fs.size)
    (h : DataW.trod enc P W 0 (fun _ => true) true fuel t cs = some x) :
    cs.length = fs.size ∧ ∃ n, ∀ (j : Nat) (fd : Field), fs[j]? = some fd → ∃ v y, cs[j]? = some v ∧ DataW.trod enc P W 0 (fun _ => true) true n fd.type [v] = some y := by
  obtain ⟨xs, n, _, _, hlen, hxl, hf⟩ := DataW.trod_struct ht h
  refine ⟨hlen.trans hC, n, fun j fd hj => ?_⟩
  obtain ⟨ho, hk⟩ := hone_of hone j fd hj
  have hjl : j < fs.size := (Array.getElem?_eq_some_iff.1 hj).1
  have h1 := hf j fd hj
  rw [ho, hk] at h1
  have hjc : j < cs.length := by rw [hlen, hC]; exact hjl
  have hone' : (cs.drop j).take 1 = [cs[j]] := by rw [List.drop_eq_getElem_cons hjc]; rfl
  rw [hone', List.getElem?_eq_getElem (show j < xs.length by omega)] at h1
  exact ⟨_, _, List.getElem?_eq_getElem hjc, h1⟩

/-! ### bytes, numbers, rows of bytes -/
theorem open_bytes' {t e : TypeId} {a : Option Addr} {len cap fuel : Nat} {y : DataW H × List MemPlace} (ht : P.underlying t = some (.slice e)) (he : P.underlying e = some (.int .u8)) (hc : P.cellsOf e = 1)
    (h : DataW.trod enc P W 0 (fun _ => true) true fuel t [.slice a len cap] = some y) : ∃ l, Bs W a len cap l := by
  obtain ⟨L, _, hs, _⟩ := open_elems (α := UInt8) ht hc (by decide) h (fun x => [u8c x]) (fun _ => rfl) (fun _ => True) (fun n cs z hl hz => by
    obtain ⟨v, rfl, _, hw⟩ := DataW.trod_int he hz
    have := bounds_u8 hw
    exact ⟨UInt8.ofNat v.toNat, by rw [u8_of v (by omega) (by omega)], trivial⟩)
  refine ⟨L, ?_⟩
  have e : L.flatMap (fun x => [u8c x]) = L.map u8c := flat_one _ L
  rw [e] at hs
  exact hs
theorem open_bytes {t e : TypeId} {a : Option Addr} {len cap : Nat} {d : DataW H} {p : List MemPlace} (ht : P.underlying t = some (.slice e)) (he : P.underlying e = some (.int .u8)) (hc : P.cellsOf e = 1)
    (h : DataW.Trod enc P W 0 (fun _ => true) true t (.slice a len cap) d p) : ∃ l, Bs W a len cap l := by
  obtain ⟨fuel, hf⟩ := h
  exact open_bytes' ht he hc hf

/-- Numbers, each one that an int holds. -/
def Fits (l : List Int) : Prop := ∀ x ∈ l, -9223372036854775808 ≤ x ∧ x ≤ 9223372036854775807
theorem open_nums {t e : TypeId} {a : Option Addr} {len cap : Nat} {d : DataW H} {p : List MemPlace} (ht : P.underlying t = some (.slice e)) (he : P.underlying e = some (.int .i64)) (hc : P.cellsOf e = 1)
    (h : DataW.Trod enc P W 0 (fun _ => true) true t (.slice a len cap) d p) : ∃ l, Is W a len cap l ∧ Fits l := by
  obtain ⟨fuel, hf⟩ := h
  obtain ⟨L, _, hs, hg⟩ := open_elems (α := Int) ht hc (by decide) hf (fun x => [i64c x]) (fun _ => rfl) (fun x => -9223372036854775808 ≤ x ∧ x ≤ 9223372036854775807) (fun n cs z hl hz => by
    obtain ⟨v, rfl, _, hw⟩ := DataW.trod_int he hz
    have := bounds_i64 hw
    exact ⟨v, rfl, by omega⟩)
  have e : L.flatMap (fun x => [i64c x]) = L.map i64c := flat_one _ L
  rw [e] at hs
  exact ⟨L, hs, hg⟩

theorem open_rows {t e b : TypeId} {a : Option Addr} {len cap : Nat} {d : DataW H} {p : List MemPlace} (ht : P.underlying t = some (.slice e)) (he : P.underlying e = some (.slice b)) (hb : P.underlying b = some (.int .u8)) (hc : P.cellsOf e = 1) (hcb : P.cellsOf b = 1)
    (h : DataW.Trod enc P W 0 (fun _ => true) true t (.slice a len cap) d p) : ∃ L, Bss W a len cap L := by
  obtain ⟨fuel, hf⟩ := h
  obtain ⟨L, _, hs, hg⟩ := open_elems (α := BRow) ht hc (by decide) hf (fun x => [x.v]) (fun _ => rfl) (fun r => Bs W r.a r.n r.c r.l) (fun n cs z hl hz => by
    obtain ⟨a', l', c', rfl⟩ := Go.Joins.slice_form he hz
    obtain ⟨l, hl⟩ := open_bytes' he hb hcb hz
    exact ⟨⟨a', l', c', l⟩, rfl, hl⟩)
  have e : L.flatMap (fun x => [x.v]) = L.map BRow.v := flat_one _ L
  rw [e] at hs
  exact ⟨L, hs, hg⟩
end
end Go.Proofs.YtcfbbgbjlgonpaaGreatDoor

/- Slices of structs: each element some cells. No condition. -/
namespace Go.Proofs.YtcfbbgbjlgonpaaGreatDoor
open Go.RowKit
set_option linter.unusedVariables false

/-- A string's value. -/
def strV (l : List UInt8) : Value := .string ⟨l.toArray⟩
/-- The slice's elements read as L, each in its cells 'f x'. -/
def Rs {α : Type} (f : α → List Value) (s : Nat) (w : World) (A : Option Addr) (n c : Nat) (L : List α) : Prop := L.length = n ∧ Sl w A n c s (L.flatMap f)
section
variable {α : Type} {f : α → List Value} {s : Nat} {w w' : World} {A : Option Addr} {n c : Nat} {L : List α}
theorem Rs.mono (h : Rs f s w A n c L) (hb : Below w.heap.size w w') : Rs f s w' A n c L := ⟨h.1, h.2.mono hb⟩
theorem Rs.cap (h : Rs f s w A n c L) : n ≤ c := h.2.cap
theorem Rs.max (h : Rs f s w A n c L) : c ≤ 9223372036854775807 := h.2.max
theorem Rs.row (h : Rs f s w A n c L) (hf : ∀ x, (f x).length = s) {k : Nat} (hk : k < n) :
    ∃ b o x, A = some ⟨b, o, none⟩ ∧ L[k]? = some x ∧ ∀ j u, (f x)[j]? = some u → w.cell? ⟨b, o + k * s + j, none⟩ = some u := by
  obtain ⟨hl, hs⟩ := h
  obtain ⟨b, o, e, hc⟩ := hs.addr (by omega)
  have hr : L[k]? = some (L[k]'(by omega)) := List.getElem?_eq_getElem (by omega)
  refine ⟨b, o, _, e, hr, fun j u hu => ?_⟩
  have hj : j < s := by have := (List.getElem?_eq_some_iff.1 hu).1; rw [hf] at this; exact this
  rw [Nat.add_assoc]
  exact hc _ _ ((flat_at hf L k j hj _ hr).trans hu)
theorem flat_take (L : List α) (k : Nat) (x : α) (h : L[k]? = some x) : (L.take (k + 1)).flatMap f = (L.take k).flatMap f ++ f x := by
  have hk : k < L.length := (List.getElem?_eq_some_iff.1 h).1
  rw [List.take_succ_eq_append_getElem hk]
  rw [List.getElem?_eq_getElem hk] at h
  injection h with h
  rw [h]; simp
theorem Own.rs {w0 : World} {e : TypeId} {v : Value} (h : Own w0 w e s v L.length (L.flatMap f)) : ∃ A c, v = .slice A L.length c ∧ Rs f s w A L.length c L := by
  obtain ⟨A, c, e, hs⟩ := h.slice
  exact ⟨A, c, e, rfl, hs⟩
end

/-- 'append(s, x)', x laid in a new block, whose number is told. -/
theorem wpList_pushAt {P : Program} {ops : Array Oper} {rest : List Oper} {o : Oper} {a : Act} {Q : Exit → Act → World → Prop} (hgd : o.guard = none) (s x : Operand) (t : TypeId)
    (ho : o.op = .call { callee := .builtin .append, args := #[s, x], argTypes := #[t, t] })
    {e : TypeId} {z : Value} {size bytes : Nat} (ht : ElemT P t e z size bytes) {w0 w : World} {v : Value} {n : Nat} {xs : List Value} (hs : a.eval s = v) (hown : Own w0 w e size v n xs)
    (g : Nat) (hg : g = w.heap.size) (cs : Array Value) (hx : a.eval x = .slice (some ⟨g, 0, none⟩) 1 1) (hl : cs.size = size) (h1 : ∀ u ∈ cs.toList, u.oneCell' = true)
    (hroom : (n + 1) * bytes ≤ 140737488355328)
    (h : ∀ v' w', Own w0 w' e size v' (n + 1) (xs ++ cs.toList) → wpList P ops Q rest (a.put o.dst v') w') : wpList P ops Q (o :: rest) a (w.alloc (.cells cs e)) := by
  subst hg
  exact wpList_push hgd s x t ho ht hs hown cs hx hl h1 hroom h

/-! ### commits, operations -/
structure Cm where
  g : List UInt8
  e : Int
  i : List UInt8
instance : Inhabited Cm := ⟨⟨[], 0, []⟩⟩
def Cm.cells (x : Cm) : List Value := [strV x.g, .int .i64 x.e, strV x.i]
theorem Cm.cells_len (x : Cm) : x.cells.length = 3 := rfl
def Cm.ok (x : Cm) : Prop := x.g.length ≤ 9223372036854775807 ∧ x.i.length ≤ 9223372036854775807 ∧ -9223372036854775808 ≤ x.e ∧ x.e ≤ 9223372036854775807
theorem Cm.one (x : Cm) : ∀ u ∈ x.cells, u.oneCell' = true := by intro u hu; simp [Cm.cells, strV] at hu; rcases hu with rfl | rfl | rfl <;> rfl
/-- A verdict: what is said of a commit. -/
structure Vd where
  c : Cm
  said : Int
def Vd.cells (x : Vd) : List Value := [.int .i64 4, strV x.c.g, strV x.c.i, .int .i64 x.c.e, .int .i64 0, .int .i64 0, .int .i64 x.said, .slice none 0 0]
theorem Vd.cells_len (x : Vd) : x.cells.length = 8 := rfl
theorem Vd.one (x : Vd) : ∀ u ∈ x.cells, u.oneCell' = true := by intro u hu; simp [Vd.cells, strV] at hu; rcases hu with rfl | rfl | rfl | rfl | rfl | rfl | rfl <;> rfl

def hit (g : List UInt8) (e : Int) (c : Cm) : Bool := c.g == g && c.e == e
def sayL (L : List Cm) (g : List UInt8) (e : Int) : List UInt8 × Bool := match L.find? (hit g e) with
  | some c => (c.i, true)
  | none => ([], false)
def saidOf (L : List Cm) (c : Cm) : Int := if (sayL L c.g c.e).2 then (if (sayL L c.g c.e).1 == c.i then 1 else 2) else 3
def judgeL (D L : List Cm) : List Vd := D.map fun c => ⟨c, saidOf L c⟩
theorem find_take {L : List Cm} {p : Cm → Bool} {k : Nat} {x : Cm} (h : L[k]? = some x) (hn : (L.take k).find? p = none) : (p x = true → L.find? p = some x) ∧ (p x = false → (L.take (k + 1)).find? p = none) := by
  have hk : k < L.length := (List.getElem?_eq_some_iff.1 h).1
  have he : L.take (k + 1) = L.take k ++ [x] := by
    rw [List.take_succ_eq_append_getElem hk]
    rw [List.getElem?_eq_getElem hk] at h
    injection h with h
    rw [h]
  refine ⟨fun hp => ?_, fun hp => ?_⟩
  · have : L = L.take (k + 1) ++ L.drop (k + 1) := (List.take_append_drop _ _).symm
    rw [this, he, List.find?_append, List.find?_append, hn]
    simp [hp]
  · rw [he, List.find?_append, hn]
    simp [hp]
theorem sayL_some {L : List Cm} {g : List UInt8} {e : Int} {x : Cm} (h : L.find? (hit g e) = some x) : sayL L g e = (x.i, true) := by unfold sayL; rw [h]
theorem sayL_none {L : List Cm} {g : List UInt8} {e : Int} (h : L.find? (hit g e) = none) : sayL L g e = ([], false) := by unfold sayL; rw [h]
def lightB (L : List Cm) : Bool := decide (L.length ≤ 30) && L.all fun c => decide (c.g.length ≤ 100) && decide (c.i.length ≤ 100)
theorem rowsAll_take {α : Type} (p : α → Bool) (L : List α) (k : Nat) (x : α) (h : L[k]? = some x) : ((L.take (k + 1)).all p) = ((L.take k).all p && p x) := by
  have hk : k < L.length := (List.getElem?_eq_some_iff.1 h).1
  rw [List.take_succ_eq_append_getElem hk]
  rw [List.getElem?_eq_getElem hk] at h
  injection h with h
  rw [h]; simp [List.all_append]
theorem all_bad {α : Type} (p : α → Bool) (L : List α) (k : Nat) (x : α) (h : L[k]? = some x) (hp : p x = false) : L.all p = false := by
  rw [List.all_eq_false]
  exact ⟨x, List.mem_of_getElem? h, by simp [hp]⟩
end Go.Proofs.YtcfbbgbjlgonpaaGreatDoor

/- What the rows' frames tell of commits that came in. No condition. -/
namespace Go.Proofs.YtcfbbgbjlgonpaaGreatDoor
open Go.RowKit Go.ChangeShapes Go.WideShapes Go.Deep
set_option linter.unusedVariables false
section
variable {H : Type} {enc : TypeId × Value → H} {P : Program} {W : World}
theorem str_of {s : ByteArray} : Value.string s = strV s.data.toList := rfl
theorem open_commits {t e : TypeId} {f0 f1 f2 : Field} {a : Option Addr} {len cap : Nat} {d : DataW H} {p : List MemPlace} (ht : P.underlying t = some (.slice e)) (he : P.underlying e = some (.struct #[f0, f1, f2])) (hone : oneCellFields P #[f0, f1, f2] = true) (hC : P.cellsOf e = 3)
    (h0 : P.underlying f0.type = some .string) (h1 : P.underlying f1.type = some (.int .i64)) (h2 : P.underlying f2.type = some .string)
    (h : DataW.Trod enc P W 0 (fun _ => true) true t (.slice a len cap) d p) : ∃ L : List Cm, Rs Cm.cells 3 W a len cap L ∧ ∀ x ∈ L, x.ok := by
  obtain ⟨fuel, hf⟩ := h
  obtain ⟨L, hl, hs, hg⟩ := open_elems (α := Cm) ht hC (by decide) hf Cm.cells Cm.cells_len Cm.ok (fun n cs z hlen hz => by
    obtain ⟨_, m, hfs⟩ := trod_fields he hone hC hz
    obtain ⟨v0, y0, e0, t0⟩ := hfs 0 f0 rfl
    obtain ⟨v1, y1, e1, t1⟩ := hfs 1 f1 rfl
    obtain ⟨v2, y2, e2, t2⟩ := hfs 2 f2 rfl
    obtain ⟨s0, q0, _, b0⟩ := DataW.trod_string h0 t0
    obtain ⟨n1, q1, _, b1⟩ := DataW.trod_int h1 t1
    obtain ⟨s2, q2, _, b2⟩ := DataW.trod_string h2 t2
    simp at q0 q1 q2
    subst q0 q1 q2
    refine ⟨⟨s0.data.toList, n1, s2.data.toList⟩, ?_, ?_⟩
    · match cs, hlen with
      | [c0, c1, c2], _ =>
        simp at e0 e1 e2
        subst e0 e1 e2
        rfl
    · have := bounds_i64 b1
      unfold maxLen at b0 b2
      exact ⟨b0, b2, this.1, this.2⟩)
  exact ⟨L, ⟨hl, hs⟩, hg⟩
end
end Go.Proofs.YtcfbbgbjlgonpaaGreatDoor
