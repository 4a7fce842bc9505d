/- Own texts of this claim, one behind the other. No condition. -/
import Derived.Test.YtcfbbgbjlgonpaaGreatDoorObPkAH
import Derived.Test.YtcfbbgbjlgonpaaGreatDoorObPkAM
import Derived.Test.YtcfbbgbjlgonpaaGreatDoorObPkAP
import Derived.Lib.ConvBytes

/- Acts on suites: what came in, few and short ones, what is picked. No condition. -/

namespace Go.Proofs.YtcfbbgbjlgonpaaGreatDoor
open Go.RowKit Go.ChangeShapes Go.WideShapes Go.Deep
set_option linter.unusedVariables false
set_option linter.unusedSimpArgs false
/-- An act on suites: its kind, two places, two rows of bytes, a label. -/
structure Sa where
  k : Int
  i : Int
  j : Int
  x : BRow
  y : BRow
  s : ByteArray
instance : Inhabited Sa := ⟨⟨0, 0, 0, default, default, ByteArray.empty⟩⟩
def Sa.cells (z : Sa) : List Value := [.int .i64 z.k, .int .i64 z.i, .int .i64 z.j, z.x.v, z.y.v, .string z.s]
theorem Sa.cells_len (z : Sa) : z.cells.length = 6 := rfl
def Sa.ok (w : World) (z : Sa) : Prop := In64 z.k ∧ In64 z.i ∧ In64 z.j ∧ Bs w z.x.a z.x.n z.x.c z.x.l ∧ Bs w z.y.a z.y.n z.y.c z.y.l ∧ z.s.size ≤ maxLen
def Sas (w : World) (A : Option Addr) (n c : Nat) (L : List Sa) : Prop := L.length = n ∧ Sl w A n c 6 (L.flatMap Sa.cells) ∧ ∀ z ∈ L, z.ok w
theorem Sas.mono {w w' : World} {A : Option Addr} {n c : Nat} {L : List Sa} (h : Sas w A n c L) (hb : Gr w w') : Sas w' A n c L := ⟨h.1, h.2.1.mono hb, fun z hz => by
  obtain ⟨a, b, c, d, e, f⟩ := h.2.2 z hz
  exact ⟨a, b, c, d.mono hb, e.mono hb, f⟩⟩
theorem Sas.max {w : World} {A : Option Addr} {n c : Nat} {L : List Sa} (h : Sas w A n c L) : n ≤ 9223372036854775807 := Nat.le_trans h.2.1.cap h.2.1.max
theorem Sas.row {w : World} {A : Option Addr} {n c : Nat} {L : List Sa} (h : Sas w A n c L) {k : Nat} (hk : k < L.length) :
    ∃ b o, A = some ⟨b, o, none⟩ ∧ w.cell? ⟨b, o + k * 6, none⟩ = some (.int .i64 L[k].k) ∧ w.cell? ⟨b, o + k * 6 + 1, none⟩ = some (.int .i64 L[k].i) ∧ w.cell? ⟨b, o + k * 6 + 2, none⟩ = some (.int .i64 L[k].j) ∧ w.cell? ⟨b, o + k * 6 + 3, none⟩ = some L[k].x.v ∧ w.cell? ⟨b, o + k * 6 + 4, none⟩ = some L[k].y.v ∧ w.cell? ⟨b, o + k * 6 + 5, none⟩ = some (.string L[k].s) ∧ w.rangeAt b (o + k * 6) L[k].cells ∧ L[k].ok w := by
  obtain ⟨hl, hs, hx⟩ := h
  obtain ⟨b, o, e, hc⟩ := hs.addr (by omega)
  have hr : L[k]? = some L[k] := List.getElem?_eq_getElem hk
  have hh : ∀ (j : Nat) (v : Value), (L[k].cells)[j]? = some v → w.cell? ⟨b, o + k * 6 + j, none⟩ = some v := fun j v hv => by
    have hj : j < 6 := by have := (List.getElem?_eq_some_iff.1 hv).1; rwa [Sa.cells_len] at this
    rw [Nat.add_assoc]
    exact hc _ _ ((flat_at (s := 6) Sa.cells_len L k j hj _ hr).trans hv)
  exact ⟨b, o, e, hh 0 _ rfl, hh 1 _ rfl, hh 2 _ rfl, hh 3 _ rfl, hh 4 _ rfl, hh 5 _ rfl, hh, hx _ (List.getElem_mem _)⟩
section
variable {H : Type} {enc : TypeId × Value → H} {P : Program} {W : World}
theorem open_sacts {t e b : TypeId} {f0 f1 f2 f3 f4 f5 : Field} {a : Option Addr} {len cap : Nat} {d : DataW H} {p : List MemPlace} (ht : P.underlying t = some (.slice e)) (he : P.underlying e = some (.struct #[f0, f1, f2, f3, f4, f5])) (hone : oneCellFields P #[f0, f1, f2, f3, f4, f5] = true) (hC : P.cellsOf e = 6)
    (h0 : P.underlying f0.type = some (.int .i64)) (h1 : P.underlying f1.type = some (.int .i64)) (h2 : P.underlying f2.type = some (.int .i64)) (h3 : P.underlying f3.type = some (.slice b)) (h4 : P.underlying f4.type = some (.slice b)) (h5 : P.underlying f5.type = some .string) (hb : P.underlying b = some (.int .u8)) (hcb : P.cellsOf b = 1)
    (h : DataW.Trod enc P W 0 (fun _ => true) true t (.slice a len cap) d p) : ∃ L : List Sa, Sas W a len cap L := by
  obtain ⟨fuel, hf⟩ := h
  obtain ⟨L, hl, hs, hg⟩ := open_elems (α := Sa) ht hC (by decide) hf Sa.cells Sa.cells_len (Sa.ok W) (fun n cs z hlen hz => by
    obtain ⟨_, m, hfs⟩ := trod_fields he hone hC hz
    obtain ⟨v0, y0, e0, t0⟩ := hfs 0 f0 rfl
    obtain ⟨v1, y1, e1, t1⟩ := hfs 1 f1 rfl
    obtain ⟨v2, y2, e2, t2⟩ := hfs 2 f2 rfl
    obtain ⟨v3, y3, e3, t3⟩ := hfs 3 f3 rfl
    obtain ⟨v4, y4, e4, t4⟩ := hfs 4 f4 rfl
    obtain ⟨v5, y5, e5, t5⟩ := hfs 5 f5 rfl
    obtain ⟨n0, q0, _, b0⟩ := DataW.trod_int h0 t0
    obtain ⟨n1, q1, _, b1⟩ := DataW.trod_int h1 t1
    obtain ⟨n2, q2, _, b2⟩ := DataW.trod_int h2 t2
    obtain ⟨a3, l3, c3, q3⟩ := Go.Joins.slice_form h3 t3
    obtain ⟨a4, l4, c4, q4⟩ := Go.Joins.slice_form h4 t4
    obtain ⟨s5, q5, _, b5⟩ := DataW.trod_string h5 t5
    simp at q0 q1 q2 q3 q4 q5
    subst q0 q1 q2 q3 q4 q5
    obtain ⟨l, hl⟩ := open_bytes' h3 hb hcb t3
    obtain ⟨l', hl'⟩ := open_bytes' h4 hb hcb t4
    refine ⟨⟨n0, n1, n2, ⟨a3, l3, c3, l⟩, ⟨a4, l4, c4, l'⟩, s5⟩, ?_, ?_⟩
    · match cs, hlen with
      | [c0, c1, c2, c3, c4, c5], _ =>
        simp at e0 e1 e2 e3 e4 e5
        subst e0 e1 e2 e3 e4 e5
        rfl
    · exact ⟨bounds_i64 b0, bounds_i64 b1, bounds_i64 b2, hl, hl', b5⟩)
  exact ⟨L, hl, hs, hg⟩
end
theorem takeS_all {α : Type} {l : List α} {k : Nat} {P : α → Prop} (hk : k < l.length) (h : ∀ p ∈ l.take k, P p) (hn : P l[k]) : ∀ p ∈ l.take (k + 1), P p := fun p hp => by
  rw [List.take_succ_eq_append_getElem hk, List.mem_append, List.mem_singleton] at hp
  rcases hp with hp | rfl
  · exact h p hp
  · exact hn
/-- Short ones. -/
def Sa.light (z : Sa) : Prop := z.x.n ≤ 200 ∧ z.y.n ≤ 200 ∧ z.s.size ≤ 40
def RetLt17 (w : World) (n : Nat) (L : List Sa) (e : Ending) (w' : World) : Prop := ∃ b, e = .returned (.bool b) ∧ (b = true → n ≤ 30 ∧ ∀ z ∈ L, z.light) ∧ w = w'
set_option maxRecDepth 100000 in
set_option maxHeartbeats 2000000 in
theorem light17_any (A : Option Addr) (n c : Nat) (L : List Sa) (w : World) (h : Sas w A n c L) :
    Calls Tryz.prog 6 #[.slice A n c] w (RetLt17 w n L) := by
  have hmax := h.max
  have HL := Lib.hid h.1
  have HC := Lib.hid h
  clear h
  by_cases h30 : 30 < n
  · have t1 : decide ((30 : Int) < (n : Int)) = true := decide_eq_true (by omega)
    go_enter Tryz.func6, Tryz.ntmps6
    go_wp2_with fail
    go_ret
    exact ⟨false, rfl, (fun q => by cases q), rfl⟩
  have t1 : decide ((30 : Int) < (n : Int)) = false := decide_eq_false (by omega)
  go_enter Tryz.func6, Tryz.ntmps6
  go_wp2_with fail
  go_loopw [3] (fun i wr => ∃ k : Nat, k ≤ n ∧ i = .int .i64 k ∧ wr = w ∧ ∀ z ∈ L.take k, z.light) (fun i _ => n - (Go.RowKit.intOf i).toNat)
  case atStart => exact ⟨0, Nat.zero_le _, rfl, rfl, by simp⟩
  case round =>
    obtain ⟨k, hk, rfl, rfl, hall⟩ := hrel
    have HA := Lib.hid hall; clear hall
    by_cases hlt : k < n
    · have hkl : k < L.length := by rw [HL.out]; exact hlt
      obtain ⟨b, o, rfl, c0, c1, c2, c3, c4, c5, cr, hok⟩ := HC.out.row hkl
      have HTK : Hid (L[k].light → ∀ z ∈ L.take (k + 1), z.light) := fun h => takeS_all (P := fun z : Sa => z.light) hkl HA.out h
      obtain ⟨_, _, _, hbx, hby, hbs⟩ := hok
      have hx1 := hbx.cap; have hx2 := hbx.max; have hy1 := hby.cap; have hy2 := hby.max
      clear c0 c1 c2 cr hbx hby
      generalize L[k] = z at *
      obtain ⟨zk, zi, zj, ⟨xa, xn, xc, xl⟩, ⟨ya, yn, yc, yl⟩, zs⟩ := z
      simp only [BRow.v] at c3 c4 c5 hx1 hx2 hy1 hy2 hbs
      by_cases hx : 200 < xn
      · have t2 : decide ((200 : Int) < (xn : Int)) = true := decide_eq_true (by omega)
        clear HTK
        go_wp2_with fail
        go_ret
        exact ⟨false, rfl, (fun q => by cases q), rfl⟩
      have t2 : decide ((200 : Int) < (xn : Int)) = false := decide_eq_false (by omega)
      by_cases hy : 200 < yn
      · have t3 : decide ((200 : Int) < (yn : Int)) = true := decide_eq_true (by omega)
        clear HTK
        go_wp2_with fail
        go_ret
        exact ⟨false, rfl, (fun q => by cases q), rfl⟩
      have t3 : decide ((200 : Int) < (yn : Int)) = false := decide_eq_false (by omega)
      by_cases hs : 40 < zs.size
      · have t4 : decide ((40 : Int) < (zs.size : Int)) = true := decide_eq_true (by omega)
        clear HTK
        go_wp2_with fail
        go_ret
        exact ⟨false, rfl, (fun q => by cases q), rfl⟩
      have t4 : decide ((40 : Int) < (zs.size : Int)) = false := decide_eq_false (by omega)
      have HK2 := Lib.hid (HTK.out ⟨by show xn ≤ 200; omega, by show yn ≤ 200; omega, by show zs.size ≤ 40; omega⟩)
      clear HTK
      go_wp2_with fail
      refine ⟨⟨k + 1, by omega, by first | trivial | go_num, by first | trivial | rfl, HK2.out⟩, ?_⟩
      show n - ((k : Int) + 1).toNat < n - (k : Int).toNat
      omega
    · obtain rfl : k = n := by omega
      have HS : Hid (∀ z ∈ L, z.light) := by have := HA.out; rwa [List.take_of_length_le (by rw [HL.out]; omega)] at this
      go_wp2_with fail
      go_ret
      exact ⟨true, rfl, fun _ => ⟨by omega, HS.out⟩, rfl⟩
/-- What is picked of the answers so far. -/
def pickR (L : List BRow) (i : Int) (b : BRow) : BRow := if 0 ≤ i ∧ i < L.length then L.getD i.toNat b else b
theorem pickR_mem (L : List BRow) (i : Int) (b : BRow) : pickR L i b = b ∨ pickR L i b ∈ L := by
  unfold pickR
  split
  · rename_i h
    right
    have hi : i.toNat < L.length := by omega
    rw [List.getD_eq_getElem?_getD, List.getElem?_eq_getElem hi]
    exact List.getElem_mem hi
  · exact .inl rfl
theorem pick_any (A : Option Addr) (n c : Nat) (L : List BRow) (i : Int) (b : BRow) (w : World) (h : Bss w A n c L) (hi : In64 i) :
    Calls Tryz.prog 27 #[.slice A n c, .int .i64 i, b.v] w fun e w' => e = .returned (pickR L i b).v ∧ w = w' := by
  have hl : L.length = n := by have := h.1.len; simpa using this
  have hcp := h.1.cap; have hmx := h.1.max
  obtain ⟨hi1, hi2⟩ := hi
  obtain ⟨ba, bn, bc, bl⟩ := b
  show Calls _ _ #[.slice A n c, .int .i64 i, .slice ba bn bc] _ _
  by_cases h0 : i < 0
  · have t1 : decide (i < 0) = true := decide_eq_true h0
    have HP : Hid (pickR L i ⟨ba, bn, bc, bl⟩ = ⟨ba, bn, bc, bl⟩) := if_neg (by omega)
    clear h
    go_enter Tryz.func27, Tryz.ntmps27
    go_wp2_with fail
    go_ret
    exact ⟨by rw [HP.out]; rfl, rfl⟩
  have t1 : decide (i < 0) = false := decide_eq_false h0
  by_cases h1 : (n : Int) ≤ i
  · have t2 : decide ((n : Int) ≤ i) = true := decide_eq_true h1
    have HP : Hid (pickR L i ⟨ba, bn, bc, bl⟩ = ⟨ba, bn, bc, bl⟩) := if_neg (by omega)
    clear h
    go_enter Tryz.func27, Tryz.ntmps27
    go_wp2_with fail
    go_ret
    exact ⟨by rw [HP.out]; rfl, rfl⟩
  have t2 : decide ((n : Int) ≤ i) = false := decide_eq_false h1
  obtain ⟨k, rfl⟩ : ∃ k : Nat, i = k := ⟨i.toNat, by omega⟩
  have hk : k < L.length := by omega
  obtain ⟨b0, o, rfl, hc⟩ := h.1.addr (by omega)
  have c1 := hc k L[k].v (by rw [List.getElem?_map, List.getElem?_eq_getElem hk]; rfl)
  have HP : Hid (pickR L (k : Int) ⟨ba, bn, bc, bl⟩ = L[k]) := by
    show (if _ then _ else _) = _
    rw [if_pos (by omega), Int.toNat_natCast, List.getD_eq_getElem?_getD, List.getElem?_eq_getElem hk]
    rfl
  clear h hc
  generalize L[k] = z at *
  obtain ⟨za, zn, zc, zl⟩ := z
  simp only [BRow.v] at c1
  go_enter Tryz.func27, Tryz.ntmps27
  go_wp2_with fail
  go_ret
  exact ⟨by rw [HP.out]; rfl, rfl⟩
end Go.Proofs.YtcfbbgbjlgonpaaGreatDoor

/- The suite of terms: held, Open. No condition. -/
namespace Go.Proofs.YtcfbbgbjlgonpaaGreatDoor
open Go.RowKit
set_option linter.unusedVariables false
set_option linter.unusedSimpArgs false
theorem conv2_fn {P : Program} (s : ByteArray) (t : TypeId) (hs : P.underlying 9 = some .string) (hd : P.underlying t = some (.slice 5)) (he : P.underlying 5 = some (.int .u8)) (hm : s.size ≤ maxLen) :
    ∃ (cf : World → Nat) (wf : World → World), ∀ w, (convert 9 t (.string s)).run P w = .ok (.slice (some ⟨w.heap.size, 0, none⟩) s.size (cf w)) (wf w) ∧ Bs (wf w) (some ⟨w.heap.size, 0, none⟩) s.size (cf w) s.data.toList ∧ Gr w (wf w) := by
  refine ⟨fun w => grownCap w s.size 0 5, fun w => Lib.bytesWorld w 5 s, fun w => ⟨Lib.run_convert_string_bytes w 9 t 5 s hs hd he, ⟨by simp, grownCap_ge _ _ _ _, grownCap_le_maxLen _ _ _ _ hm, fun _ => ⟨_, _, rfl, fun j u hu => ?_⟩⟩, ?_⟩⟩
  · rw [Nat.zero_add]
    have hj : j < s.size := by have := (List.getElem?_eq_some_iff.1 hu).1; simpa using this
    rw [Lib.bytesWorld_cell w 5 s j hj, ← hu]
    exact (u8c_at (l := s.data.toList) (by simpa using hj)).symm
  · have h1 := run_bytes_of_string (P := P) w 9 t 5 s hs hd he
    have h2 := Lib.run_convert_string_bytes (P := P) w 9 t 5 s hs hd he
    rw [h1] at h2
    injection h2 with _ h3
    show Below w.heap.size w (Lib.bytesWorld w 5 s)
    rw [← h3]
    exact ((Below.refl _ _).drew).alloc (Nat.le_refl _) _
/-- Bytes that a call tells. -/
def RetB (w : World) (l : List UInt8) (e : Ending) (w' : World) : Prop := ∃ A n c, e = .returned (.slice A n c) ∧ Bs w' A n c l ∧ Gr w w'
section
variable {w0 w : World} {p g bm bs : Nat} {T : List Nd}
set_option maxRecDepth 100000 in
set_option maxHeartbeats 2000000 in
theorem SymS.held (h : SymS w0 w p g bm bs T) (id : Nat) (hid : id ≤ 1000) (hsz : ∀ x ∈ T, x.s.size ≤ maxLen) :
    Calls Tryz.prog 52 #[.pointer (some ⟨p, 0, none⟩), .int .i64 (id : Int)] w (RetB w (heldT T id)) := by
  have HK := Lib.hid (kind_any g T (id : Int) w h.rd h.i.kinds ⟨by omega, by omega⟩)
  have HLB := Lib.hid (fun wr (k : Gr w wr) => label_any g T (id : Int) wr (h.rd.mono k) h.i.kinds ⟨by omega, by omega⟩)
  have HH := Lib.hid (fun wr => handle_any id wr (by omega))
  have HC0 := Lib.hid (fun wr (k : Gr w wr) => (h.gr k).c0)
  have c0 := h.c0
  have hs : (labelT T (id : Int)).size ≤ maxLen := by
    unfold labelT
    split
    · exact Nat.zero_le _
    · split
      · next x hx =>
        split
        · exact hsz x (List.mem_of_getElem? hx)
        · exact Nat.zero_le _
      · exact Nat.zero_le _
  unfold heldT
  clear h
  by_cases hk : kindOf T (id : Int) = 2
  · rw [if_pos hk]
    rw [hk] at HK
    generalize labelT T (id : Int) = s at *
    obtain ⟨cf, wf, hcv0⟩ := conv2_fn (P := Tryz.prog) s 28 Tryz.underlying9 Tryz.underlying28 Tryz.underlying5 hs
    have hcv := fun W => (hcv0 W).1
    have HCV := Lib.hid (fun W => (hcv0 W).2)
    clear hcv0 hk hs
    go_enter Tryz.func52, Tryz.ntmps52
    go_wp2_with fail
    refine HK.out.mono ?_
    rintro e w1 ⟨rfl, g1⟩
    have G1 := Lib.hid g1
    have d0 := HC0.out w1 g1
    clear g1 c0
    go_wp2_with fail
    refine (HLB.out _ G1.out).mono ?_
    rintro e w2 ⟨rfl, g2⟩
    have G2 := Lib.hid (Gr.trans G1.out g2); clear g2
    go_wp2_with fail
    go_ret
    exact ⟨_, _, _, rfl, (HCV.out w2).1, Gr.trans G2.out (HCV.out w2).2⟩
  · rw [if_neg hk]
    obtain ⟨q, hq⟩ : ∃ q, q = kindOf T (id : Int) := ⟨_, rfl⟩
    rw [← hq] at HK hk
    have t1 : ((q : Int) == 2) = false := by rw [beq_eq_false_iff_ne]; omega
    clear hq
    go_enter Tryz.func52, Tryz.ntmps52
    go_wp2_with fail
    refine HK.out.mono ?_
    rintro e w1 ⟨rfl, g1⟩
    have G1 := Lib.hid g1; clear g1
    go_wp2_with fail
    refine (HH.out _).mono ?_
    rintro e w2 ⟨v2, rfl, o2⟩
    have G2 := Lib.hid (Gr.trans G1.out o2.below)
    obtain ⟨A2, c2, rfl, s2⟩ := o2.slice
    have S2 := Lib.hid s2
    clear o2 s2
    go_wp2_with fail
    go_ret
    exact ⟨_, _, _, rfl, S2.out, G2.out⟩
end
end Go.Proofs.YtcfbbgbjlgonpaaGreatDoor

/- The suite of terms: Open of what was sealed. No condition. -/
namespace Go.Proofs.YtcfbbgbjlgonpaaGreatDoor
open Go.RowKit
set_option linter.unusedVariables false
set_option linter.unusedSimpArgs false
/-- Bytes that were sealed. -/
structure Seald (T : List Nd) (id pa pb : Nat) (key text b : List UInt8) : Prop where
  tm : termB T (b.take 32) = id
  kd : kindOf T (id : Int) = 5
  pr : partsOf T (id : Int) = [pa, pb]
  hb : b = padL (handleL id) b.length
  ha : heldT T pa = key
  ht : heldT T pb = text
  bl : b.length = text.length + 48
  le : id ≤ 1000 ∧ pa ≤ 1000 ∧ pb ≤ 1000
theorem seald_of {T : List Nd} (hn : T.length ≤ 900) (key text : List UInt8) : ∃ id pa pb, ∀ T', Onto (sealT T key text).1 T' → T'.length ≤ 1000 → Seald T' id pa pb key text (sealB T key text) := by
  obtain ⟨xa, ha, hha⟩ := of_held T key
  obtain ⟨xb, hb, hhb⟩ := of_held (ofT T key).1 text
  have oA : Onto (ofT T key).1 (sealT T key text).1 := (of_onto _ text).trans (pair_onto _ _ _ _)
  have oB : Onto (ofT (ofT T key).1 text).1 (sealT T key text).1 := pair_onto _ _ _ _
  have hA2 := ha.onto (of_onto _ text)
  have hany : [((ofT T key).2 : Int), ((ofT (ofT T key).1 text).2 : Int)].any (outside (ofT (ofT T key).1 text).1.length) = false := by
    simp only [List.any_cons, List.any_nil, Bool.or_false, hA2.out, hb.out, Bool.or_self]
  obtain ⟨y, hy, hs⟩ := put_at (T := (ofT (ofT T key).1 text).1) (x := ⟨5, (ofT T key).2, (ofT (ofT T key).1 text).2, ByteArray.empty, 0⟩) hany (show (5 : Nat) ≠ 1 by decide)
  have hE : sealT T key text = putT (ofT (ofT T key).1 text).1 ⟨5, (ofT T key).2, (ofT (ofT T key).1 text).2, ByteArray.empty, 0⟩ [((ofT T key).2 : Int), ((ofT (ofT T key).1 text).2 : Int)] := by
    unfold sealT pairT
    rw [hA2.out, hb.out]
    simp only [Bool.or_self, Bool.false_eq_true, if_false, Int.toNat_natCast]
  rw [← hE] at hy
  have hq := same_nd hs
  simp only at hq
  refine ⟨(sealT T key text).2, (ofT T key).2, (ofT (ofT T key).1 text).2, fun T' hO hlen => ?_⟩
  have hbl : (sealB T key text).length = text.length + 48 := padL_length _ _
  have htk : (sealB T key text).take 32 = handleL (sealT T key text).2 := by
    have := pad_take (handleL (sealT T key text).2) (text.length + 48) (by rw [handleL_len]; omega)
    rwa [handleL_len] at this
  have hy2 := hy.onto hO
  have hterm := term_handle hy2 hlen (by rw [hq.1]; decide) (by rw [hq.1]; decide)
  have hpar : y.parts = [(ofT T key).2, (ofT (ofT T key).1 text).2] := by
    unfold Nd.parts
    rw [hq.1, hq.2.1, hq.2.2.1]
    rfl
  exact ⟨by rw [htk, hterm], by rw [hy2.kind, hq.1], by rw [hy2.parts, hpar], by rw [hbl]; rfl, by rw [ha.held_onto (oA.trans hO), hha], by rw [hb.held_onto (oB.trans hO), hhb], hbl,
    by have := hy2.2.1; omega, by have := (ha.onto (oA.trans hO)).2.1; omega, by have := (hb.onto (oB.trans hO)).2.1; omega⟩
section
variable {w0 w : World} {p g bm bs : Nat} {T : List Nd}
set_option maxRecDepth 100000 in
set_option maxHeartbeats 4000000 in
theorem SymS.openS (h : SymS w0 w p g bm bs T) (hn : T.length ≤ 1000) (hsz : ∀ x ∈ T, x.s.size ≤ maxLen) {id pa pb : Nat} {key text b : List UInt8} (hS : Seald T id pa pb key text b) (htl : text.length ≤ 200)
    (A B : Option Addr) (n c m d : Nat) (other : List UInt8) (ho : Bs w A n c other) (hb : Bs w B m d b) :
    Calls Tryz.prog 19 #[.pointer (some ⟨p, 0, none⟩), .slice A n c, .slice B m d] w fun e w' =>
      ∃ C q r, e = .returned (.tuple #[.slice C q r, .bool (key == other)]) ∧ (key = other → Bs w' C q r text) ∧ (key ≠ other → q = 0) ∧ Gr w w' := by
  have hbm : b.length = m := by have := hb.len; simpa using this
  have hml : m = text.length + 48 := by rw [← hbm]; exact hS.bl
  have hcp := hb.cap; have hmx := hb.max; have hcp2 := ho.cap; have hmx2 := ho.max
  obtain ⟨b1, o1, rfl, hbc⟩ := hb.addr (by omega)
  have HN := Lib.hid h.isNone; have HR := Lib.hid h.isReal
  have hb32 : Bs w (some ⟨b1, o1, none⟩) 32 d (b.take 32) := by
    have := hb.upto (k := 32) (by omega)
    rwa [← List.map_take] at this
  have HTM := Lib.hid (h.term hn _ 32 d (b.take 32) hb32)
  rw [hS.tm] at HTM
  have HKD := Lib.hid (fun wr (k : Gr w wr) => kind_any g T (id : Int) wr (h.rd.mono k) h.i.kinds ⟨by omega, by have := hS.le; omega⟩)
  rw [hS.kd] at HKD
  have HPT := Lib.hid (fun wr (k : Gr w wr) => parts_any g T (id : Int) wr (h.rd.mono k) h.i.kinds ⟨by omega, by have := hS.le; omega⟩)
  rw [hS.pr] at HPT
  have HHD := Lib.hid (fun wr => handle_any id wr (by have := hS.le; omega))
  have HPA := Lib.hid (fun wr (k : Gr w wr) => (h.gr k).held pa (hS.le.2.1) hsz)
  have HPB := Lib.hid (fun wr (k : Gr w wr) => (h.gr k).held pb (hS.le.2.2) hsz)
  rw [hS.ha] at HPA
  rw [hS.ht] at HPB
  have HC0 := Lib.hid (fun wr (k : Gr w wr) => (h.gr k).c0)
  have HSZ := Lib.hid (fun k wr (q : k ≤ 1000000) => boxSize_any k wr q)
  have HBB := Lib.hid hb; have HOO := Lib.hid ho
  have HPD : Hid (padS (handleL id) (m : Int) = b) := by
    show _ = _
    unfold padS
    rw [if_pos ⟨by omega, by omega⟩, Int.toNat_natCast, ← hbm]
    exact hS.hb.symm
  have HBM := Lib.hid hbm; have HML := Lib.hid hml
  have hid := hS.le
  have t1 : decide ((m : Int) < 48) = false := decide_eq_false (by omega)
  have t2 : decide ((60048 : Int) < (m : Int)) = false := decide_eq_false (by omega)
  have HS0 : Hid (∀ wr, Calls Tryz.prog 49 #[.int .i64 0] wr fun e w' => e = .returned (.int .i64 48) ∧ w' = wr) := fun wr => by
    have k := boxSize_any 0 wr (by omega)
    rw [show ((0 + 48 : Nat) : Int) = 48 by omega, show ((0 : Nat) : Int) = 0 by omega] at k
    exact k
  have HS6 : Hid (∀ wr, Calls Tryz.prog 49 #[.int .i64 60000] wr fun e w' => e = .returned (.int .i64 60048) ∧ w' = wr) := fun wr => by
    have k := boxSize_any 60000 wr (by omega)
    rw [show ((60000 + 48 : Nat) : Int) = 60048 by omega, show ((60000 : Nat) : Int) = 60000 by omega] at k
    exact k
  have hd32 : 32 ≤ d := by omega
  have hm32 : 32 ≤ m := by omega
  clear h hb ho hbc hb32 hS hbm hml
  go_enter Tryz.func19, Tryz.ntmps19
  go_wp2_with fail
  refine HN.out.mono ?_
  rintro e w1 ⟨rfl, h1⟩
  subst h1
  go_wp2_with fail
  refine HR.out.mono ?_
  rintro e w1 ⟨rfl, h1⟩
  subst h1
  go_wp2_with fail
  refine (HS0.out _).mono ?_
  rintro e w1 ⟨rfl, rfl⟩
  go_wp2_with fail
  refine (HS6.out _).mono ?_
  rintro e w1 ⟨rfl, rfl⟩
  go_wp2_with fail
  refine HTM.out.mono ?_
  rintro e w2 ⟨rfl, g2⟩
  have G2 := Lib.hid g2
  have d2 := HC0.out w2 g2
  clear g2
  go_wp2_with fail
  refine (HKD.out _ G2.out).mono ?_
  rintro e w3 ⟨rfl, g3⟩
  have G3 := Lib.hid (Gr.trans G2.out g3); clear g3 d2
  go_wp2_with fail
  refine (HHD.out _).mono ?_
  rintro e w4 ⟨v4, rfl, o4⟩
  rw [handleL_len] at o4
  obtain ⟨A4, c4, rfl, s4⟩ := o4.slice
  have G4 := Lib.hid (Gr.trans G3.out o4.below)
  have HPX := Lib.hid (pad_any A4 32 c4 (handleL id) (m : Int) w4 s4)
  rw [HPD.out] at HPX
  clear o4 s4
  go_wp2_with fail
  refine HPX.out.mono ?_
  rintro e w5 ⟨v5, rfl, o5⟩
  rw [HBM.out] at o5
  obtain ⟨A5, c5, rfl, s5⟩ := o5.slice
  have G5 := Lib.hid (Gr.trans G4.out o5.below)
  have HSM := Lib.hid (same_any _ _ _ _ _ _ b b w5 (HBB.out.mono G5.out) s5)
  have tm : (b == b) = true := by simp
  rw [tm] at HSM
  have d5 := HC0.out w5 G5.out
  clear o5 s5 tm
  go_wp2_with fail
  refine HSM.out.mono ?_
  rintro e w6 ⟨rfl, h6⟩
  subst h6
  go_wp2_with fail
  refine (HPT.out _ G5.out).mono ?_
  rintro e w7 ⟨A7, c7, rfl, i7, g7, _, _⟩
  obtain ⟨b7, o7, rfl, hc7⟩ := Is.addr i7 (show 0 < 2 by decide)
  have e70 : w7.cell? ⟨b7, o7, none⟩ = some (.int .i64 (pa : Int)) := hc7 0 (show 0 < 2 by decide)
  have e71 : w7.cell? ⟨b7, o7 + 1, none⟩ = some (.int .i64 (pb : Int)) := hc7 1 (show 1 < 2 by decide)
  have hcp7 : 2 ≤ c7 := i7.cap
  have hmx7 := i7.max
  have G7 := Lib.hid (Gr.trans G5.out g7)
  clear i7 g7 hc7 d5
  simp only [List.length_map, List.length_cons, List.length_nil, Nat.zero_add, Nat.reduceAdd]
  go_wp2_with fail
  refine (HPB.out _ G7.out).mono ?_
  rintro e w8 ⟨A8, n8, c8, rfl, s8, g8⟩
  have hl8 : text.length = n8 := by have := s8.len; simpa using this
  have hcp8 := s8.cap; have hmx8 := s8.max
  have S8 := Lib.hid s8
  have G8 := Lib.hid (Gr.trans G7.out g8)
  have f70 := (Below.cell g8 (World.block_lt_of_cell? w7 _ e70)).trans e70
  clear s8 g8 e70 e71
  go_wp2_with fail
  refine (HPA.out _ G8.out).mono ?_
  rintro e w9 ⟨A9, n9, c9, rfl, s9, g9⟩
  have G9 := Lib.hid (Gr.trans G8.out g9)
  have HSM2 := Lib.hid (same_any _ _ _ _ _ _ key other w9 s9 (HOO.out.mono G9.out))
  have S89 := Lib.hid (S8.out.mono g9)
  have HN8 := Lib.hid hl8
  clear s9 g9 f70
  have h8s : n8 ≤ 1000000 := by omega
  have HSZ8 := Lib.hid (fun wr => boxSize_any n8 wr h8s)
  have t9 : (((n8 + 48 : Nat) : Int) != (m : Int)) = false := by
    have := HML.out
    rw [bne_eq_false_iff_eq]
    omega
  clear hl8 h8s
  by_cases hko : key = other
  · have tk : (key == other) = true := by rw [beq_iff_eq]; exact hko
    rw [tk] at HSM2
    have HKO := Lib.hid hko
    have HTK := Lib.hid tk
    clear tk hko
    go_wp2_with fail
    refine HSM2.out.mono ?_
    rintro e w10 ⟨rfl, h10⟩
    subst h10
    go_wp2_with fail
    refine (HSZ8.out _).mono ?_
    rintro e w11 ⟨rfl, rfl⟩
    go_wp2_with fail
    go_ret2
    exact ⟨_, _, _, by rw [HTK.out]; rfl, fun _ => S89.out, fun q => absurd HKO.out q, G9.out⟩
  · have tk : (key == other) = false := by rw [beq_eq_false_iff_ne]; exact hko
    rw [tk] at HSM2
    have HKO := Lib.hid hko
    have HTK := Lib.hid tk
    clear tk hko
    go_wp2_with fail
    refine HSM2.out.mono ?_
    rintro e w10 ⟨rfl, h10⟩
    subst h10
    go_wp2_with fail
    go_ret2
    exact ⟨_, _, _, by rw [HTK.out]; rfl, fun q => absurd q HKO.out, fun _ => rfl, G9.out⟩
end
end Go.Proofs.YtcfbbgbjlgonpaaGreatDoor

/- The suite of terms: Sum, Check. No condition. -/
namespace Go.Proofs.YtcfbbgbjlgonpaaGreatDoor
open Go.RowKit Go.Maps
set_option linter.unusedVariables false
set_option linter.unusedSimpArgs false
theorem wp_mapUpd {P : Program} {o : Oper} {a : Act} {w w1 : World} {K : Act → World → Prop} {Q : Exit → Act → World → Prop} {t : TypeId} {m k x : Operand} (hop : o.op = Op.mapUpdate t m k x) (hrun : (Instr.mapUpdate t (a.eval m) (a.eval k) (a.eval x)).run P w = .ok () w1)
    (h : K (a.put o.dst undef) w1) : o.wp P a w K Q := by
  unfold Oper.wp
  simp [execOp, hop, hrun, Result.andThen]
  exact h
abbrev markO : Obj := .cells #[.int .u8 255, .int .u8 253] 5 (2, 3)
theorem mark_sl (w : World) : Sl (w.alloc markO) (some ⟨w.heap.size, 0, none⟩) 2 2 1 (([255, 253] : List UInt8).map u8c) := by
  refine ⟨rfl, Nat.le_refl _, by decide, fun _ => ⟨_, _, rfl, fun j u hu => ?_⟩⟩
  change [Value.int .u8 255, .int .u8 253][j]? = some u at hu
  have hj : (w.alloc markO).heap[w.heap.size]? = some markO := heap_alloc_new w _
  simp only [World.cell?, hj, Nat.zero_add]
  rw [if_neg (by decide)]
  simpa using hu
section
variable {w0 w : World} {p g bs : Nat}
theorem sui_none (hb : Blk w p 60 [.pointer (some ⟨g, 0, none⟩), .map (some bs), .pointer none]) : Calls Tryz.prog 32 #[.pointer (some ⟨p, 0, none⟩)] w fun e w' => e = .returned (.bool false) ∧ w = w' := by
  have c0 : w.cell? ⟨p, 0, none⟩ = some (.pointer (some ⟨g, 0, none⟩)) := (hb.cell 0).trans rfl
  have c2 : w.cell? ⟨p, 2, none⟩ = some (.pointer none) := (hb.cell 2).trans rfl
  clear hb
  go_enter Tryz.func32, Tryz.ntmps32
  go_wp2_with fail
  go_ret
  exact ⟨rfl, rfl⟩
theorem sui_real (hb : Blk w p 60 [.pointer (some ⟨g, 0, none⟩), .map (some bs), .pointer none]) : Calls Tryz.prog 43 #[.pointer (some ⟨p, 0, none⟩)] w fun e w' => e = .returned (.bool false) ∧ w = w' := by
  have c2 : w.cell? ⟨p, 2, none⟩ = some (.pointer none) := (hb.cell 2).trans rfl
  clear hb
  go_enter Tryz.func43, Tryz.ntmps43
  go_wp2_with fail
  go_ret
  exact ⟨rfl, rfl⟩
theorem keyedS : Keyed Tryz.prog 9 := string_keyed Tryz.underlying9
theorem keyS {s : ByteArray} (h : s.size ≤ maxLen) : keyOf Tryz.prog 9 (.string s) = some (.string s.data.toList) := Go.WideMaps.keyOf_string_mk Tryz.underlying9 h
theorem ownsMap_drew {w : World} {P : Program} {k b n : Nat} {D : DataW Value} (h : w.ownsMap P k Rv b n D) : w.drew.ownsMap P k Rv b n D := h
end
end Go.Proofs.YtcfbbgbjlgonpaaGreatDoor
