/- Own texts of this claim, one behind the other. No condition. -/
import Derived.Test.YtcfbbgbjlgonpaaGreatDoorObPkBM

/- The suite of terms: Open of what was sealed. No condition. -/
namespace Go.Proofs.YtcfbbgbjlgonpaaGreatDoor
open Go.RowKit
set_option linter.unusedVariables false
set_option linter.unusedSimpArgs false
/-- Bytes that were sealed. -/
structure Seald (T : List Nd) (id pa pb : Nat) (key text b : List UInt8) : Prop where
  tm : termB T (b.take 32) = id
  kd : kindOf T (id : Int) = 5
  pr : partsOf T (id : Int) = [pa, pb]
  hb : b = padL (handleL id) b.length
  ha : heldT T pa = key
  ht : heldT T pb = text
  bl : b.length = text.length + 48
  le : id ≤ 1000 ∧ pa ≤ 1000 ∧ pb ≤ 1000
theorem seald_of {T : List Nd} (hn : T.length ≤ 900) (key text : List UInt8) : ∃ id pa pb, ∀ T', Onto (sealT T key text).1 T' → T'.length ≤ 1000 → Seald T' id pa pb key text (sealB T key text) := by
  obtain ⟨xa, ha, hha⟩ := of_held T key
  obtain ⟨xb, hb, hhb⟩ := of_held (ofT T key).1 text
  have oA : Onto (ofT T key).1 (sealT T key text).1 := (of_onto _ text).trans (pair_onto _ _ _ _)
  have oB : Onto (ofT (ofT T key).1 text).1 (sealT T key text).1 := pair_onto _ _ _ _
  have hA2 := ha.onto (of_onto _ text)
  have hany : [((ofT T key).2 : Int), ((ofT (ofT T key).1 text).2 : Int)].any (outside (ofT (ofT T key).1 text).1.length) = false := by
    simp only [List.any_cons, List.any_nil, Bool.or_false, hA2.out, hb.out, Bool.or_self]
  obtain ⟨y, hy, hs⟩ := put_at (T := (ofT (ofT T key).1 text).1) (x := ⟨5, (ofT T key).2, (ofT (ofT T key).1 text).2, ByteArray.empty, 0⟩) hany (show (5 : Nat) ≠ 1 by decide)
  have hE : sealT T key text = putT (ofT (ofT T key).1 text).1 ⟨5, (ofT T key).2, (ofT (ofT T key).1 text).2, ByteArray.empty, 0⟩ [((ofT T key).2 : Int), ((ofT (ofT T key).1 text).2 : Int)] := by
    unfold sealT pairT
    rw [hA2.out, hb.out]
    simp only [Bool.or_self, Bool.false_eq_true, if_false, Int.toNat_natCast]
  rw [← hE] at hy
  have hq := same_nd hs
  simp only at hq
  refine ⟨(sealT T key text).2, (ofT T key).2, (ofT (ofT T key).1 text).2, fun T' hO hlen => ?_⟩
  have hbl : (sealB T key text).length = text.length + 48 := padL_length _ _
  have htk : (sealB T key text).take 32 = handleL (sealT T key text).2 := by
    have := pad_take (handleL (sealT T key text).2) (text.length + 48) (by rw [handleL_len]; omega)
    rwa [handleL_len] at this
  have hy2 := hy.onto hO
  have hterm := term_handle hy2 hlen (by rw [hq.1]; decide) (by rw [hq.1]; decide)
  have hpar : y.parts = [(ofT T key).2, (ofT (ofT T key).1 text).2] := by
    unfold Nd.parts
    rw [hq.1, hq.2.1, hq.2.2.1]
    rfl
  exact ⟨by rw [htk, hterm], by rw [hy2.kind, hq.1], by rw [hy2.parts, hpar], by rw [hbl]; rfl, by rw [ha.held_onto (oA.trans hO), hha], by rw [hb.held_onto (oB.trans hO), hhb], hbl,
    by have := hy2.2.1; omega, by have := (ha.onto (oA.trans hO)).2.1; omega, by have := (hb.onto (oB.trans hO)).2.1; omega⟩
section
variable {w0 w : World} {p g bm bs : Nat} {T : List Nd}
set_option maxRecDepth 100000 in
set_option maxHeartbeats 4000000 in
theorem SymS.openS (h : SymS w0 w p g bm bs T) (hn : T.length ≤ 1000) (hsz : ∀ x ∈ T, x.s.size ≤ maxLen) {id pa pb : Nat} {key text b : List UInt8} (hS : Seald T id pa pb key text b) (htl : text.length ≤ 200)
    (A B : Option Addr) (n c m d : Nat) (other : List UInt8) (ho : Bs w A n c other) (hb : Bs w B m d b) :
    Calls Tryz.prog 19 #[.pointer (some ⟨p, 0, none⟩), .slice A n c, .slice B m d] w fun e w' =>
      ∃ C q r, e = .returned (.tuple #[.slice C q r, .bool (key == other)]) ∧ (key = other → Bs w' C q r text) ∧ (key ≠ other → q = 0) ∧ Gr w w' := by
  have hbm : b.length = m := by have := hb.len; simpa using this
  have hml : m = text.length + 48 := by rw [← hbm]; exact hS.bl
  have hcp := hb.cap; have hmx := hb.max; have hcp2 := ho.cap; have hmx2 := ho.max
  obtain ⟨b1, o1, rfl, hbc⟩ := hb.addr (by omega)
  have HN := Lib.hid h.isNone; have HR := Lib.hid h.isReal
  have hb32 : Bs w (some ⟨b1, o1, none⟩) 32 d (b.take 32) := by
    have := hb.upto (k := 32) (by omega)
    rwa [← List.map_take] at this
  have HTM := Lib.hid (h.term hn _ 32 d (b.take 32) hb32)
  rw [hS.tm] at HTM
  have HKD := Lib.hid (fun wr (k : Gr w wr) => kind_any g T (id : Int) wr (h.rd.mono k) h.i.kinds ⟨by omega, by have := hS.le; omega⟩)
  rw [hS.kd] at HKD
  have HPT := Lib.hid (fun wr (k : Gr w wr) => parts_any g T (id : Int) wr (h.rd.mono k) h.i.kinds ⟨by omega, by have := hS.le; omega⟩)
  rw [hS.pr] at HPT
  have HHD := Lib.hid (fun wr => handle_any id wr (by have := hS.le; omega))
  have HPA := Lib.hid (fun wr (k : Gr w wr) => (h.gr k).held pa (hS.le.2.1) hsz)
  have HPB := Lib.hid (fun wr (k : Gr w wr) => (h.gr k).held pb (hS.le.2.2) hsz)
  rw [hS.ha] at HPA
  rw [hS.ht] at HPB
  have HC0 := Lib.hid (fun wr (k : Gr w wr) => (h.gr k).c0)
  have HSZ := Lib.hid (fun k wr (q : k ≤ 1000000) => boxSize_any k wr q)
  have HBB := Lib.hid hb; have HOO := Lib.hid ho
  have HPD : Hid (padS (handleL id) (m : Int) = b) := by
    show _ = _
    unfold padS
    rw [if_pos ⟨by omega, by omega⟩, Int.toNat_natCast, ← hbm]
    exact hS.hb.symm
  have HBM := Lib.hid hbm; have HML := Lib.hid hml
  have hid := hS.le
  have t1 : decide ((m : Int) < 48) = false := decide_eq_false (by omega)
  have t2 : decide ((60048 : Int) < (m : Int)) = false := decide_eq_false (by omega)
  have HS0 : Hid (∀ wr, Calls Tryz.prog 49 #[.int .i64 0] wr fun e w' => e = .returned (.int .i64 48) ∧ w' = wr) := fun wr => by
    have k := boxSize_any 0 wr (by omega)
    rw [show ((0 + 48 : Nat) : Int) = 48 by omega, show ((0 : Nat) : Int) = 0 by omega] at k
    exact k
  have HS6 : Hid (∀ wr, Calls Tryz.prog 49 #[.int .i64 60000] wr fun e w' => e = .returned (.int .i64 60048) ∧ w' = wr) := fun wr => by
    have k := boxSize_any 60000 wr (by omega)
    rw [show ((60000 + 48 : Nat) : Int) = 60048 by omega, show ((60000 : Nat) : Int) = 60000 by omega] at k
    exact k
  have hd32 : 32 ≤ d := by omega
  have hm32 : 32 ≤ m := by omega
  clear h hb ho hbc hb32 hS hbm hml
  go_enter Tryz.func19, Tryz.ntmps19
  go_wp2_with fail
  refine HN.out.mono ?_
  rintro e w1 ⟨rfl, h1⟩
  subst h1
  go_wp2_with fail
  refine HR.out.mono ?_
  rintro e w1 ⟨rfl, h1⟩
  subst h1
  go_wp2_with fail
  refine (HS0.out _).mono ?_
  rintro e w1 ⟨rfl, rfl⟩
  go_wp2_with fail
  refine (HS6.out _).mono ?_
  rintro e w1 ⟨rfl, rfl⟩
  go_wp2_with fail
  refine HTM.out.mono ?_
  rintro e w2 ⟨rfl, g2⟩
  have G2 := Lib.hid g2
  have d2 := HC0.out w2 g2
  clear g2
  go_wp2_with fail
  refine (HKD.out _ G2.out).mono ?_
  rintro e w3 ⟨rfl, g3⟩
  have G3 := Lib.hid (Gr.trans G2.out g3); clear g3 d2
  go_wp2_with fail
  refine (HHD.out _).mono ?_
  rintro e w4 ⟨v4, rfl, o4⟩
  rw [handleL_len] at o4
  obtain ⟨A4, c4, rfl, s4⟩ := o4.slice
  have G4 := Lib.hid (Gr.trans G3.out o4.below)
  have HPX := Lib.hid (pad_any A4 32 c4 (handleL id) (m : Int) w4 s4)
  rw [HPD.out] at HPX
  clear o4 s4
  go_wp2_with fail
  refine HPX.out.mono ?_
  rintro e w5 ⟨v5, rfl, o5⟩
  rw [HBM.out] at o5
  obtain ⟨A5, c5, rfl, s5⟩ := o5.slice
  have G5 := Lib.hid (Gr.trans G4.out o5.below)
  have HSM := Lib.hid (same_any _ _ _ _ _ _ b b w5 (HBB.out.mono G5.out) s5)
  have tm : (b == b) = true := by simp
  rw [tm] at HSM
  have d5 := HC0.out w5 G5.out
  clear o5 s5 tm
  go_wp2_with fail
  refine HSM.out.mono ?_
  rintro e w6 ⟨rfl, h6⟩
  subst h6
  go_wp2_with fail
  refine (HPT.out _ G5.out).mono ?_
  rintro e w7 ⟨A7, c7, rfl, i7, g7, _, _⟩
  obtain ⟨b7, o7, rfl, hc7⟩ := Is.addr i7 (show 0 < 2 by decide)
  have e70 : w7.cell? ⟨b7, o7, none⟩ = some (.int .i64 (pa : Int)) := hc7 0 (show 0 < 2 by decide)
  have e71 : w7.cell? ⟨b7, o7 + 1, none⟩ = some (.int .i64 (pb : Int)) := hc7 1 (show 1 < 2 by decide)
  have hcp7 : 2 ≤ c7 := i7.cap
  have hmx7 := i7.max
  have G7 := Lib.hid (Gr.trans G5.out g7)
  clear i7 g7 hc7 d5
  simp only [List.length_map, List.length_cons, List.length_nil, Nat.zero_add, Nat.reduceAdd]
  go_wp2_with fail
  refine (HPB.out _ G7.out).mono ?_
  rintro e w8 ⟨A8, n8, c8, rfl, s8, g8⟩
  have hl8 : text.length = n8 := by have := s8.len; simpa using this
  have hcp8 := s8.cap; have hmx8 := s8.max
  have S8 := Lib.hid s8
  have G8 := Lib.hid (Gr.trans G7.out g8)
  have f70 := (Below.cell g8 (World.block_lt_of_cell? w7 _ e70)).trans e70
  clear s8 g8 e70 e71
  go_wp2_with fail
  refine (HPA.out _ G8.out).mono ?_
  rintro e w9 ⟨A9, n9, c9, rfl, s9, g9⟩
  have G9 := Lib.hid (Gr.trans G8.out g9)
  have HSM2 := Lib.hid (same_any _ _ _ _ _ _ key other w9 s9 (HOO.out.mono G9.out))
  have S89 := Lib.hid (S8.out.mono g9)
  have HN8 := Lib.hid hl8
  clear s9 g9 f70
  have h8s : n8 ≤ 1000000 := by omega
  have HSZ8 := Lib.hid (fun wr => boxSize_any n8 wr h8s)
  have t9 : (((n8 + 48 : Nat) : Int) != (m : Int)) = false := by
    have := HML.out
    rw [bne_eq_false_iff_eq]
    omega
  clear hl8 h8s
  by_cases hko : key = other
  · have tk : (key == other) = true := by rw [beq_iff_eq]; exact hko
    rw [tk] at HSM2
    have HKO := Lib.hid hko
    have HTK := Lib.hid tk
    clear tk hko
    go_wp2_with fail
    refine HSM2.out.mono ?_
    rintro e w10 ⟨rfl, h10⟩
    subst h10
    go_wp2_with fail
    refine (HSZ8.out _).mono ?_
    rintro e w11 ⟨rfl, rfl⟩
    go_wp2_with fail
    go_ret2
    exact ⟨_, _, _, by rw [HTK.out]; rfl, fun _ => S89.out, fun q => absurd HKO.out q, G9.out⟩
  · have tk : (key == other) = false := by rw [beq_eq_false_iff_ne]; exact hko
    rw [tk] at HSM2
    have HKO := Lib.hid hko
    have HTK := Lib.hid tk
    clear tk hko
    go_wp2_with fail
    refine HSM2.out.mono ?_
    rintro e w10 ⟨rfl, h10⟩
    subst h10
    go_wp2_with fail
    go_ret2
    exact ⟨_, _, _, by rw [HTK.out]; rfl, fun q => absurd q HKO.out, fun _ => rfl, G9.out⟩
end
end Go.Proofs.YtcfbbgbjlgonpaaGreatDoor
