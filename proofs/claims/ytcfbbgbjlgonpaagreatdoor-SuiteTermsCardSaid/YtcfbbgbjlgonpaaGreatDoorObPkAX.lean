/- Own texts of this claim, one behind the other. No condition. -/
import Derived.Test.YtcfbbgbjlgonpaaGreatDoorObPkAO
import Derived.Test.YtcfbbgbjlgonpaaGreatDoorObPkAS
import Derived.Test.YtcfbbgbjlgonpaaGreatDoorObPkAU

/- What is opened, in plain Lean. No condition. -/
namespace Go.Proofs.YtcfbbgbjlgonpaaGreatDoor
open Go.RowKit
set_option linter.unusedVariables false
set_option linter.unusedSimpArgs false
theorem open_short {T : List Nd} {key b : List UInt8} (h : b.length < 48 ∨ 60048 < b.length) : openT T key b = none := if_pos h
theorem open_kind {T : List Nd} {key b : List UInt8} (h : kindOf T (termB T (b.take 32)) ≠ 5) : openT T key b = none := by
  unfold openT
  split
  · rfl
  · rw [if_pos (.inl h)]
theorem open_pad {T : List Nd} {key b : List UInt8} (h : b ≠ padL (handleL (termB T (b.take 32))) b.length) : openT T key b = none := by
  unfold openT
  split
  · rfl
  · rw [if_pos (.inr h)]
theorem open_full {T : List Nd} {key b : List UInt8} {pa pb : Nat} (h1 : ¬ (b.length < 48 ∨ 60048 < b.length)) (h2 : kindOf T (termB T (b.take 32)) = 5) (h3 : b = padL (handleL (termB T (b.take 32))) b.length) (hp : partsOf T (termB T (b.take 32)) = [pa, pb]) :
    openT T key b = if heldT T pa = key ∧ (heldT T pb).length + 48 = b.length then some (heldT T pb) else none := by
  unfold openT
  rw [if_neg h1, if_neg (by rintro (q | q); exact q h2; exact q h3), hp]
theorem parts5 {T : List Nd} (hT : Parted T) {id : Nat} (h : kindOf T id = 5) : ∃ pa pb, partsOf T id = [pa, pb] ∧ pa ≤ T.length ∧ pb ≤ T.length := by
  unfold kindOf at h
  unfold partsOf
  split at h
  · omega
  · next ho =>
    rw [if_neg ho]
    split at h
    · next x hx =>
      have hq := hT _ x hx
      have hlt := (List.getElem?_eq_some_iff.1 hx).1
      have hp : x.parts = [x.a, x.b] := by unfold Nd.parts; rw [if_neg (by omega), if_neg (by omega)]
      refine ⟨x.a, x.b, hp, ?_, ?_⟩
      · have := (hq.2 x.a (by rw [hp]; simp)).2; omega
      · have := (hq.2 x.b (by rw [hp]; simp)).2; omega
    · omega
end Go.Proofs.YtcfbbgbjlgonpaaGreatDoor

/- The suite of terms: Open, whatever the bytes. No condition. -/
namespace Go.Proofs.YtcfbbgbjlgonpaaGreatDoor
open Go.RowKit
set_option linter.unusedVariables false
set_option linter.unusedSimpArgs false
/-- Labels are short. -/
def SzT (T : List Nd) : Prop := ∀ x ∈ T, x.s.size ≤ 20000
theorem SzT.nil : SzT [] := fun x hx => by cases hx
theorem SzT.snoc {T : List Nd} (h : SzT T) {x : Nd} (hx : x.s.size ≤ 20000) : SzT (T ++ [x]) := fun y hy => by
  rw [List.mem_append, List.mem_singleton] at hy
  rcases hy with hy | rfl
  · exact h y hy
  · exact hx
theorem SzT.put {T : List Nd} (h : SzT T) {x : Nd} (hx : x.s.size ≤ 20000) (ids : List Int) : SzT (putT T x ids).1 := by
  unfold putT
  split
  · exact h
  · split
    · exact h
    · exact h.snoc hx
theorem SzT.of {T : List Nd} (h : SzT T) {b : List UInt8} (hb : b.length ≤ 20000) : SzT (ofT T b).1 := by
  unfold ofT
  split
  · exact h
  · exact h.put (x := ⟨2, 0, 0, ⟨b.toArray⟩, 0⟩) (show b.toArray.size ≤ 20000 by rw [List.size_toArray]; exact hb) []
theorem SzT.pair {T : List Nd} (h : SzT T) (k : Nat) (a b : Int) : SzT (pairT T k a b).1 := by
  unfold pairT
  split
  · exact h
  · exact h.put (Nat.zero_le _) _
theorem SzT.der {T : List Nd} (h : SzT T) {b : List UInt8} (hb : b.length ≤ 20000) {s : ByteArray} (hs : s.size ≤ 20000) : SzT (derT T b s).1 := by
  unfold derT kdfT
  split
  · exact h.of hb
  · exact (h.of hb).put hs _
theorem SzT.mix {T : List Nd} (h : SzT T) {a b : List UInt8} (ha : a.length ≤ 20000) (hb : b.length ≤ 20000) : SzT (mixT T a b).1 := ((h.of ha).of hb).pair _ _ _
theorem SzT.seal {T : List Nd} (h : SzT T) {a b : List UInt8} (ha : a.length ≤ 20000) (hb : b.length ≤ 20000) : SzT (sealT T a b).1 := ((h.of ha).of hb).pair _ _ _
theorem SzT.atom {T : List Nd} (h : SzT T) : SzT (atomT T).1 := h.snoc (Nat.zero_le _)
theorem SzT.held {T : List Nd} (h : SzT T) (id : Nat) : (heldT T id).length ≤ 20000 := by
  unfold heldT
  split
  · unfold labelT
    split
    · exact Nat.zero_le _
    · split
      · next x hx =>
        split
        · have := h x (List.mem_of_getElem? hx)
          simpa using this
        · exact Nat.zero_le _
      · exact Nat.zero_le _
  · rw [handleL_len]; omega
def RetOp3 (w : World) (r : Option (List UInt8)) (e : Ending) (w' : World) : Prop := ∃ A2 n2 c2, e = .returned (.tuple #[.slice A2 n2 c2, .bool r.isSome]) ∧ Bs w' A2 n2 c2 (r.getD []) ∧ Gr w w'
section
variable {w0 w : World} {p g bm bs : Nat} {T : List Nd}
set_option maxRecDepth 100000 in
set_option maxHeartbeats 4000000 in
theorem SymS.open3 (h : SymS w0 w p g bm bs T) (hn : T.length ≤ 1000) (hsz : SzT T) (A B : Option Addr) (n c m d : Nat) (key b : List UInt8) (ho : Bs w A n c key) (hb : Bs w B m d b) (hm : m ≤ 60000) :
    Calls Tryz.prog 19 #[.pointer (some ⟨p, 0, none⟩), .slice A n c, .slice B m d] w (RetOp3 w (openT T key b)) := by
  have hbm : b.length = m := by have := hb.len; simpa using this
  have hcp := hb.cap; have hmx := hb.max; have hcp2 := ho.cap; have hmx2 := ho.max
  have HN := Lib.hid h.isNone; have HR := Lib.hid h.isReal
  have HS0 : Hid (∀ wr, Calls Tryz.prog 49 #[.int .i64 0] wr fun e w' => e = .returned (.int .i64 48) ∧ w' = wr) := fun wr => by
    have k := boxSize_any 0 wr (by omega)
    rw [show ((0 + 48 : Nat) : Int) = 48 by omega, show ((0 : Nat) : Int) = 0 by omega] at k
    exact k
  have HS6 : Hid (∀ wr, Calls Tryz.prog 49 #[.int .i64 60000] wr fun e w' => e = .returned (.int .i64 60048) ∧ w' = wr) := fun wr => by
    have k := boxSize_any 60000 wr (by omega)
    rw [show ((60000 + 48 : Nat) : Int) = 60048 by omega, show ((60000 : Nat) : Int) = 60000 by omega] at k
    exact k
  by_cases h48 : m < 48
  · have t1 : decide ((m : Int) < 48) = true := decide_eq_true (by omega)
    rw [open_short (.inl (by omega))]
    clear h ho hb
    go_enter Tryz.func19, Tryz.ntmps19
    go_wp2_with fail
    refine HN.out.mono ?_
    rintro e w1 ⟨rfl, h1⟩
    subst h1
    go_wp2_with fail
    refine HR.out.mono ?_
    rintro e w1 ⟨rfl, h1⟩
    subst h1
    go_wp2_with fail
    refine (HS0.out _).mono ?_
    rintro e w1 ⟨rfl, rfl⟩
    go_wp2_with fail
    go_ret2
    exact ⟨none, 0, 0, rfl, Sl.nil _ _, Gr.refl _⟩
  have t1 : decide ((m : Int) < 48) = false := decide_eq_false (by omega)
  have t2 : decide ((60048 : Int) < (m : Int)) = false := decide_eq_false (by omega)
  obtain ⟨b1, o1, rfl, hbc⟩ := hb.addr (by omega)
  have hb32 : Bs w (some ⟨b1, o1, none⟩) 32 d (b.take 32) := by
    have := hb.upto (k := 32) (by omega)
    rwa [← List.map_take] at this
  have HTM := Lib.hid (h.term hn _ 32 d (b.take 32) hb32)
  have hidl : termB T (b.take 32) ≤ 1000 := Nat.le_trans (termB_le T _) hn
  have HKD := Lib.hid (fun wr (k : Gr w wr) => kind_any g T (termB T (b.take 32) : Int) wr (h.rd.mono k) h.i.kinds ⟨by omega, by omega⟩)
  have HPT := Lib.hid (fun wr (k : Gr w wr) => parts_any g T (termB T (b.take 32) : Int) wr (h.rd.mono k) h.i.kinds ⟨by omega, by omega⟩)
  have HHD := Lib.hid (fun wr => handle_any (termB T (b.take 32)) wr (by omega))
  have HHE := Lib.hid (fun id' (hid' : id' ≤ 1000) wr (k : Gr w wr) => (h.gr k).held id' hid' (tin_sz h.i))
  have HC0 := Lib.hid (fun wr (k : Gr w wr) => (h.gr k).c0)
  have HBB := Lib.hid hb; have HOO := Lib.hid ho
  have HPD : Hid (padS (handleL (termB T (b.take 32))) (m : Int) = padL (handleL (termB T (b.take 32))) m) := by
    show _ = _
    unfold padS
    rw [if_pos ⟨by omega, by omega⟩, Int.toNat_natCast]
  have HPL : Hid ((padL (handleL (termB T (b.take 32))) m).length = m) := padL_length _ _
  have hsh : ¬ (b.length < 48 ∨ 60048 < b.length) := by omega
  have hd32 : 32 ≤ d := by omega
  have hm32 : 32 ≤ m := by omega
  by_cases h5 : kindOf T (termB T (b.take 32)) = 5
  · obtain ⟨pa, pb, hp, hpa, hpb⟩ := parts5 h.i.parts h5
    rw [h5] at HKD
    cases hv : b == padL (handleL (termB T (b.take 32))) m with
    | false =>
      rw [open_pad (by rw [hbm]; exact beq_eq_false_iff_ne.1 hv)]
      have HV := Lib.hid hv
      clear h ho hb hb32 hbc hbm hsh h5 hv hp HHE HPT
      generalize termB T (b.take 32) = id at *
      go_enter Tryz.func19, Tryz.ntmps19
      go_wp2_with fail
      refine HN.out.mono ?_
      rintro e w1 ⟨rfl, h1⟩
      subst h1
      go_wp2_with fail
      refine HR.out.mono ?_
      rintro e w1 ⟨rfl, h1⟩
      subst h1
      go_wp2_with fail
      refine (HS0.out _).mono ?_
      rintro e w1 ⟨rfl, rfl⟩
      go_wp2_with fail
      refine (HS6.out _).mono ?_
      rintro e w1 ⟨rfl, rfl⟩
      go_wp2_with fail
      refine HTM.out.mono ?_
      rintro e w2 ⟨rfl, g2⟩
      have G2 := Lib.hid g2
      have d2 := HC0.out w2 g2
      clear g2
      go_wp2_with fail
      refine (HKD.out _ G2.out).mono ?_
      rintro e w3 ⟨rfl, g3⟩
      have G3 := Lib.hid (Gr.trans G2.out g3); clear g3 d2
      go_wp2_with fail
      refine (HHD.out _).mono ?_
      rintro e w4 ⟨v4, rfl, o4⟩
      rw [handleL_len] at o4
      obtain ⟨A4, c4, rfl, s4⟩ := o4.slice
      have G4 := Lib.hid (Gr.trans G3.out o4.below)
      have HPX := Lib.hid (pad_any A4 32 c4 (handleL id) (m : Int) w4 s4)
      rw [HPD.out] at HPX
      clear o4 s4
      go_wp2_with fail
      refine HPX.out.mono ?_
      rintro e w5 ⟨v5, rfl, o5⟩
      rw [HPL.out] at o5
      obtain ⟨A5, c5, rfl, s5⟩ := o5.slice
      have G5 := Lib.hid (Gr.trans G4.out o5.below)
      have HSM := Lib.hid (same_any _ _ _ _ _ _ b (padL (handleL id) m) w5 (HBB.out.mono G5.out) s5)
      rw [HV.out] at HSM
      have d5 := HC0.out w5 G5.out
      clear o5 s5
      go_wp2_with fail
      refine HSM.out.mono ?_
      rintro e w6 ⟨rfl, h6⟩
      subst h6
      go_wp2_with fail
      go_ret2
      exact ⟨none, 0, 0, rfl, Sl.nil _ _, G5.out⟩
    | true =>
      rw [open_full hsh h5 (by rw [hbm]; exact beq_iff_eq.1 hv) hp, hbm]
      rw [hp] at HPT
      have HV := Lib.hid hv
      have HPA := Lib.hid (HHE.out pa (by omega))
      have HPB := Lib.hid (HHE.out pb (by omega))
      have HKL := Lib.hid (hsz.held pb)
      clear h ho hb hb32 hbc hbm hsh h5 hv hp HHE
      generalize termB T (b.take 32) = id at *
      generalize heldT T pa = ka at *
      generalize heldT T pb = kb at *
      obtain ⟨r, hr⟩ : ∃ r, r = if ka = key ∧ kb.length + 48 = m then some kb else none := ⟨_, rfl⟩
      rw [← hr]
      have HRR := Lib.hid hr
      clear hr
      go_enter Tryz.func19, Tryz.ntmps19
      go_wp2_with fail
      refine HN.out.mono ?_
      rintro e w1 ⟨rfl, h1⟩
      subst h1
      go_wp2_with fail
      refine HR.out.mono ?_
      rintro e w1 ⟨rfl, h1⟩
      subst h1
      go_wp2_with fail
      refine (HS0.out _).mono ?_
      rintro e w1 ⟨rfl, rfl⟩
      go_wp2_with fail
      refine (HS6.out _).mono ?_
      rintro e w1 ⟨rfl, rfl⟩
      go_wp2_with fail
      refine HTM.out.mono ?_
      rintro e w2 ⟨rfl, g2⟩
      have G2 := Lib.hid g2
      have d2 := HC0.out w2 g2
      clear g2
      go_wp2_with fail
      refine (HKD.out _ G2.out).mono ?_
      rintro e w3 ⟨rfl, g3⟩
      have G3 := Lib.hid (Gr.trans G2.out g3); clear g3 d2
      go_wp2_with fail
      refine (HHD.out _).mono ?_
      rintro e w4 ⟨v4, rfl, o4⟩
      rw [handleL_len] at o4
      obtain ⟨A4, c4, rfl, s4⟩ := o4.slice
      have G4 := Lib.hid (Gr.trans G3.out o4.below)
      have HPX := Lib.hid (pad_any A4 32 c4 (handleL id) (m : Int) w4 s4)
      rw [HPD.out] at HPX
      clear o4 s4
      go_wp2_with fail
      refine HPX.out.mono ?_
      rintro e w5 ⟨v5, rfl, o5⟩
      rw [HPL.out] at o5
      obtain ⟨A5, c5, rfl, s5⟩ := o5.slice
      have G5 := Lib.hid (Gr.trans G4.out o5.below)
      have HSM := Lib.hid (same_any _ _ _ _ _ _ b (padL (handleL id) m) w5 (HBB.out.mono G5.out) s5)
      rw [HV.out] at HSM
      have d5 := HC0.out w5 G5.out
      clear o5 s5
      go_wp2_with fail
      refine HSM.out.mono ?_
      rintro e w6 ⟨rfl, h6⟩
      subst h6
      go_wp2_with fail
      refine (HPT.out _ G5.out).mono ?_
      rintro e w7 ⟨A7, c7, rfl, i7, g7, _, _⟩
      obtain ⟨b7, o7, rfl, hc7⟩ := Is.addr i7 (show 0 < 2 by decide)
      have e70 : w7.cell? ⟨b7, o7, none⟩ = some (.int .i64 (pa : Int)) := hc7 0 (show 0 < 2 by decide)
      have e71 : w7.cell? ⟨b7, o7 + 1, none⟩ = some (.int .i64 (pb : Int)) := hc7 1 (show 1 < 2 by decide)
      have hcp7 : 2 ≤ c7 := i7.cap
      have hmx7 := i7.max
      have G7 := Lib.hid (Gr.trans G5.out g7)
      clear i7 g7 hc7 d5
      simp only [List.length_map, List.length_cons, List.length_nil, Nat.zero_add, Nat.reduceAdd]
      go_wp2_with fail
      refine (HPB.out _ G7.out).mono ?_
      rintro e w8 ⟨A8, n8, c8, rfl, s8, g8⟩
      have hl8 : kb.length = n8 := by have := s8.len; simpa using this
      have hcp8 := s8.cap; have hmx8 := s8.max
      have S8 := Lib.hid s8
      have G8 := Lib.hid (Gr.trans G7.out g8)
      have f70 := (Below.cell g8 (World.block_lt_of_cell? w7 _ e70)).trans e70
      clear s8 g8 e70 e71
      go_wp2_with fail
      refine (HPA.out _ G8.out).mono ?_
      rintro e w9 ⟨A9, n9, c9, rfl, s9, g9⟩
      have G9 := Lib.hid (Gr.trans G8.out g9)
      have HSM2 := Lib.hid (same_any _ _ _ _ _ _ ka key w9 s9 (HOO.out.mono G9.out))
      have S89 := Lib.hid (S8.out.mono g9)
      have HN8 := Lib.hid hl8
      clear s9 g9 f70
      have h8s : n8 ≤ 1000000 := by have := HKL.out; omega
      have HSZ8 := Lib.hid (fun wr => boxSize_any n8 wr h8s)
      clear hl8 h8s
      by_cases hko : ka = key
      · have tk : (ka == key) = true := by rw [beq_iff_eq]; exact hko
        rw [tk] at HSM2
        have HKO := Lib.hid hko
        clear tk hko
        by_cases hlk : n8 + 48 = m
        · have t9 : (((n8 + 48 : Nat) : Int) != (m : Int)) = false := by rw [bne_eq_false_iff_eq]; omega
          have HF : Hid (ka = key ∧ kb.length + 48 = m) := ⟨HKO.out, by rw [HN8.out]; exact hlk⟩
          obtain rfl : r = some kb := by rw [HRR.out, if_pos HF.out]
          clear HRR hlk
          go_wp2_with fail
          refine HSM2.out.mono ?_
          rintro e w10 ⟨rfl, h10⟩
          subst h10
          go_wp2_with fail
          refine (HSZ8.out _).mono ?_
          rintro e w11 ⟨rfl, rfl⟩
          go_wp2_with fail
          go_ret2
          exact ⟨_, _, _, rfl, S89.out, G9.out⟩
        · have t9 : (((n8 + 48 : Nat) : Int) != (m : Int)) = true := by rw [bne_iff_ne]; omega
          have HF : Hid (¬ (ka = key ∧ kb.length + 48 = m)) := fun q => hlk (by rw [← HN8.out]; exact q.2)
          obtain rfl : r = none := by rw [HRR.out, if_neg HF.out]
          clear HRR hlk
          go_wp2_with fail
          refine HSM2.out.mono ?_
          rintro e w10 ⟨rfl, h10⟩
          subst h10
          go_wp2_with fail
          refine (HSZ8.out _).mono ?_
          rintro e w11 ⟨rfl, rfl⟩
          go_wp2_with fail
          go_ret2
          exact ⟨none, 0, 0, rfl, Sl.nil _ _, G9.out⟩
      · have tk : (ka == key) = false := by rw [beq_eq_false_iff_ne]; exact hko
        rw [tk] at HSM2
        have HF : Hid (¬ (ka = key ∧ kb.length + 48 = m)) := fun q => hko q.1
        obtain rfl : r = none := by rw [HRR.out, if_neg HF.out]
        clear tk hko HRR
        go_wp2_with fail
        refine HSM2.out.mono ?_
        rintro e w10 ⟨rfl, h10⟩
        subst h10
        go_wp2_with fail
        go_ret2
        exact ⟨none, 0, 0, rfl, Sl.nil _ _, G9.out⟩
  · rw [open_kind h5]
    obtain ⟨q, hq⟩ : ∃ q, q = kindOf T (termB T (b.take 32)) := ⟨_, rfl⟩
    rw [← hq] at HKD h5
    have t5 : ((q : Int) != 5) = true := by rw [bne_iff_ne]; omega
    clear h ho hb hb32 hbc hbm hsh h5 hq HHE HPT HPD HPL
    generalize termB T (b.take 32) = id at *
    go_enter Tryz.func19, Tryz.ntmps19
    go_wp2_with fail
    refine HN.out.mono ?_
    rintro e w1 ⟨rfl, h1⟩
    subst h1
    go_wp2_with fail
    refine HR.out.mono ?_
    rintro e w1 ⟨rfl, h1⟩
    subst h1
    go_wp2_with fail
    refine (HS0.out _).mono ?_
    rintro e w1 ⟨rfl, rfl⟩
    go_wp2_with fail
    refine (HS6.out _).mono ?_
    rintro e w1 ⟨rfl, rfl⟩
    go_wp2_with fail
    refine HTM.out.mono ?_
    rintro e w2 ⟨rfl, g2⟩
    have G2 := Lib.hid g2
    have d2 := HC0.out w2 g2
    clear g2
    go_wp2_with fail
    refine (HKD.out _ G2.out).mono ?_
    rintro e w3 ⟨rfl, g3⟩
    have G3 := Lib.hid (Gr.trans G2.out g3); clear g3 d2
    go_wp2_with fail
    go_ret2
    exact ⟨none, 0, 0, rfl, Sl.nil _ _, G3.out⟩
end
end Go.Proofs.YtcfbbgbjlgonpaaGreatDoor
