/- Own texts of this claim, one behind the other. No condition. -/
import Derived.Test.YtcfbbgbjlgonpaaGreatDoorObPkAH
import Derived.Test.YtcfbbgbjlgonpaaGreatDoorObPkAK
import Derived.Outline

/- ObSymC, ObSymD, ObSymE: one text. No condition. -/
/- The suite of terms: the term of bytes. No condition. -/
namespace Go.Proofs.YtcfbbgbjlgonpaaGreatDoor
open Go.RowKit
set_option linter.unusedVariables false
theorem bytesEqual_any (A B : Option Addr) (n m c d : Nat) (a b : List UInt8) (w : World) (ha : Bs w A n c a) (hb : Bs w B m d b) :
    Calls Tryz.prog 76 #[.slice A n c, .slice B m d] w fun e w' => e = .returned (.bool (a == b)) ∧ w = w' := by
  have h1 := run_bytes_string Tryz.underlying28 Tryz.underlying5 Tryz.underlying9 ha
  have h2 := run_bytes_string Tryz.underlying28 Tryz.underlying5 Tryz.underlying9 hb
  clear ha hb
  go_enter Tryz.func76, Tryz.ntmps76
  go_wp2
  go_ret
  exact ⟨ret_bool rfl, rfl⟩
theorem hasPrefix_any (A B : Option Addr) (n m c d : Nat) (a b : List UInt8) (w : World) (ha : Bs w A n c a) (hb : Bs w B m d b) (hm : m ≤ n) :
    Calls Tryz.prog 36 #[.slice A n c, .slice B m d] w fun e w' => e = .returned (.bool (a.take m == b)) ∧ w = w' := by
  have hu : Bs w A m c (a.take m) := by
    have := ha.upto hm
    rwa [← List.map_take] at this
  have HE := Lib.hid (bytesEqual_any A B m m c d (a.take m) b w hu hb)
  have h1 := ha.cap; have h2 := ha.max; have h3 := hb.cap; have h4 := hb.max
  have t1 : decide ((m : Int) ≤ (n : Int)) = true := decide_eq_true (by omega)
  clear ha hb hu
  go_enter Tryz.func36, Tryz.ntmps36
  go_wp2_with fail
  refine HE.out.mono ?_
  rintro e w1 ⟨rfl, rfl⟩
  go_wp2_with fail
  go_ret
  exact ⟨rfl, rfl⟩
/-- The term of bytes; 0: of none. -/
def termB (T : List Nd) (b : List UInt8) : Nat :=
  if b.length = 32 ∧ b.take 8 = magicL then
    (if 1 ≤ getL ((b.drop 8).take 8) ∧ getL ((b.drop 8).take 8) ≤ T.length ∧ bearsT T (getL ((b.drop 8).take 8) : Int) = true ∧ b = handleL (getL ((b.drop 8).take 8)) then getL ((b.drop 8).take 8) else 0)
  else 0
section
variable {w0 w : World} {p g bm bs : Nat} {T : List Nd}
set_option maxRecDepth 100000 in
set_option maxHeartbeats 2000000 in
theorem SymS.term (h : SymS w0 w p g bm bs T) (hn : T.length ≤ 1000) (A : Option Addr) (n c : Nat) (b : List UInt8) (hb : Bs w A n c b) :
    Calls Tryz.prog 14 #[.pointer (some ⟨p, 0, none⟩), .slice A n c] w fun e w' => e = .returned (.int .i64 (termB T b : Int)) ∧ Gr w w' := by
  have HN := Lib.hid h.isNone
  have hl : b.length = n := by have := hb.len; simpa using this
  have hcp := hb.cap; have hmx := hb.max
  unfold termB
  rw [hl]
  by_cases h32 : n = 32
  · subst h32
    have HPX := Lib.hid (hasPrefix_any A (some ⟨w.heap.size, 0, none⟩) 32 8 c 8 b magicL (w.alloc magicO) (hb.mono (Gr.alloc _ _)) (magic_sl w) (by omega))
    have HG := Lib.hid (Gr.alloc w magicO)
    have hcv := fun (W : World) (C : Array Value) (n c : Nat) => Lib.run_convert_bytes_const (P := Tryz.prog) W 28 5 C n c Tryz.underlying28 Tryz.underlying5
    by_cases hm : b.take 8 = magicL
    · rw [hm] at HPX
      rw [if_pos ⟨rfl, hm⟩]
      have tm : (magicL == magicL) = true := by decide
      rw [tm] at HPX
      obtain ⟨bb, oo, rfl, hcc⟩ := hb.addr (by omega)
      have hsub : Bs w (some ⟨bb, oo + 8, none⟩) 8 (c - 8) ((b.drop 8).take 8) := by
        have h1 := hb.from (A' := some ⟨bb, oo + 8, none⟩) (k := 8) (by omega) (fun _ b' o' e => by injection e with e; injection e with e1 e2; subst e1 e2; rfl)
        have h2 := h1.upto (k := 8) (by omega)
        rwa [← List.map_drop, ← List.map_take] at h2
      have HGT := Lib.hid (get_any (some ⟨bb, oo + 8, none⟩) 8 (c - 8) ((b.drop 8).take 8) (w.alloc magicO) (hsub.mono (Gr.alloc _ _)))
      have hlen8 : ((b.drop 8).take 8).length = 8 := by simp; omega
      have e1 : getS ((b.drop 8).take 8) = getL ((b.drop 8).take 8) := if_pos ⟨by omega, by omega⟩
      rw [e1] at HGT
      have hgl : getL ((b.drop 8).take 8) < 18446744073709551616 := by have := getL_lt ((b.drop 8).take 8); rw [hlen8] at this; omega
      have hw := h.gr HG.out
      have c0 : (w.alloc magicO).cell? ⟨p, 0, none⟩ = some (.pointer (some ⟨g, 0, none⟩)) := (hw.blk.cell 0).trans rfl
      have HLN := Lib.hid (len_any g T _ hw.rd)
      have HBE := Lib.hid (fun id hid => hw.bears id hid)
      have HHD := Lib.hid (fun id wq hq => handle_any id wq hq)
      have HBB := Lib.hid (hb.mono HG.out)
      clear e1 hlen8 hsub hcc hw hb h hm tm
      generalize getL ((b.drop 8).take 8) = q at *
      have hwu : IntKind.u64.wrap (T.length : Int) = T.length := IntWalk.u64_in _ (by omega)
      by_cases h1 : q < 1
      · have t1 : decide ((q : Int) < 1) = true := decide_eq_true (by omega)
        rw [if_neg (by omega)]
        go_enter Tryz.func14, Tryz.ntmps14
        go_wp2_with fail
        refine HN.out.mono ?_
        rintro e w1 ⟨rfl, h1⟩
        obtain rfl : w = w1 := h1
        go_wp2_with fail
        refine HPX.out.mono ?_
        rintro e w2 ⟨rfl, h2⟩
        subst h2
        go_wp2_with fail
        refine HGT.out.mono ?_
        rintro e w3 ⟨rfl, h3⟩
        subst h3
        go_wp2_with fail
        go_ret
        exact ⟨rfl, HG.out⟩
      have t1 : decide ((q : Int) < 1) = false := decide_eq_false (by omega)
      by_cases h2 : T.length < q
      · have t2 : decide ((T.length : Int) < (q : Int)) = true := decide_eq_true (by omega)
        rw [if_neg (by omega)]
        go_enter Tryz.func14, Tryz.ntmps14
        go_wp2_with fail
        refine HN.out.mono ?_
        rintro e w1 ⟨rfl, h1⟩
        obtain rfl : w = w1 := h1
        go_wp2_with fail
        refine HPX.out.mono ?_
        rintro e w2 ⟨rfl, h2⟩
        subst h2
        go_wp2_with fail
        refine HGT.out.mono ?_
        rintro e w3 ⟨rfl, h3⟩
        subst h3
        go_wp2_with fail
        refine HLN.out.mono ?_
        rintro e w4 ⟨rfl, h4⟩
        subst h4
        go_wp2_with fail
        go_ret
        exact ⟨rfl, HG.out⟩
      have t2 : decide ((T.length : Int) < (q : Int)) = false := decide_eq_false (by omega)
      have hwq : IntKind.i64.wrap (q : Int) = q := IntWalk.i64_in _ (by omega)
      replace HBE := Lib.hid (HBE.out (q : Int) ⟨by omega, by omega⟩)
      cases h3 : bearsT T (q : Int) with
      | false =>
        rw [h3] at HBE
        rw [if_neg (fun qq => by cases qq.2.2.1)]
        clear h3
        go_enter Tryz.func14, Tryz.ntmps14
        go_wp2_with fail
        refine HN.out.mono ?_
        rintro e w1 ⟨rfl, h1⟩
        obtain rfl : w = w1 := h1
        go_wp2_with fail
        refine HPX.out.mono ?_
        rintro e w2 ⟨rfl, h2⟩
        subst h2
        go_wp2_with fail
        refine HGT.out.mono ?_
        rintro e w3 ⟨rfl, h3⟩
        subst h3
        go_wp2_with fail
        refine HLN.out.mono ?_
        rintro e w4 ⟨rfl, h4⟩
        subst h4
        go_wp2_with fail
        refine HBE.out.mono ?_
        rintro e w5 ⟨rfl, g5⟩
        have G5 : Hid (Gr w w5) := HG.out.trans g5
        clear g5
        go_wp2_with fail
        go_ret
        exact ⟨rfl, G5.out⟩
      | true =>
        rw [h3] at HBE
        clear h3
        by_cases hh : b = handleL q
        · have tt : (b == handleL q) = true := by rw [beq_iff_eq]; exact hh
          rw [if_pos ⟨by omega, by omega, rfl, hh⟩]
          have TT := Lib.hid tt
          clear tt hh
          go_enter Tryz.func14, Tryz.ntmps14
          go_wp2_with fail
          refine HN.out.mono ?_
          rintro e w1 ⟨rfl, h1⟩
          obtain rfl : w = w1 := h1
          go_wp2_with fail
          refine HPX.out.mono ?_
          rintro e w2 ⟨rfl, h2⟩
          subst h2
          go_wp2_with fail
          refine HGT.out.mono ?_
          rintro e w3 ⟨rfl, h3⟩
          subst h3
          go_wp2_with fail
          refine HLN.out.mono ?_
          rintro e w4 ⟨rfl, h4⟩
          subst h4
          go_wp2_with fail
          refine HBE.out.mono ?_
          rintro e w5 ⟨rfl, g5⟩
          have G5 : Hid (Gr w w5) := HG.out.trans g5
          have B5 := Lib.hid (HBB.out.mono g5)
          clear g5
          go_wp2_with fail
          refine (HHD.out q _ (by omega)).mono ?_
          rintro e w6 ⟨v6, rfl, o6⟩
          obtain ⟨A6, c6, rfl, s6⟩ := o6.slice
          have G6 : Hid (Gr w w6) := G5.out.trans o6.below
          have HSM := Lib.hid (same_any _ _ _ _ _ _ b (handleL q) w6 (B5.out.mono o6.below) s6)
          rw [TT.out] at HSM
          clear o6 s6
          go_wp2_with fail
          refine HSM.out.mono ?_
          rintro e w7 ⟨rfl, h7⟩
          subst h7
          go_wp2_with fail
          go_ret
          exact ⟨rfl, G6.out⟩
        · have tt : (b == handleL q) = false := by rw [beq_eq_false_iff_ne]; exact hh
          rw [if_neg (fun qq => hh qq.2.2.2)]
          have TT := Lib.hid tt
          clear tt hh
          go_enter Tryz.func14, Tryz.ntmps14
          go_wp2_with fail
          refine HN.out.mono ?_
          rintro e w1 ⟨rfl, h1⟩
          obtain rfl : w = w1 := h1
          go_wp2_with fail
          refine HPX.out.mono ?_
          rintro e w2 ⟨rfl, h2⟩
          subst h2
          go_wp2_with fail
          refine HGT.out.mono ?_
          rintro e w3 ⟨rfl, h3⟩
          subst h3
          go_wp2_with fail
          refine HLN.out.mono ?_
          rintro e w4 ⟨rfl, h4⟩
          subst h4
          go_wp2_with fail
          refine HBE.out.mono ?_
          rintro e w5 ⟨rfl, g5⟩
          have G5 : Hid (Gr w w5) := HG.out.trans g5
          have B5 := Lib.hid (HBB.out.mono g5)
          clear g5
          go_wp2_with fail
          refine (HHD.out q _ (by omega)).mono ?_
          rintro e w6 ⟨v6, rfl, o6⟩
          obtain ⟨A6, c6, rfl, s6⟩ := o6.slice
          have G6 : Hid (Gr w w6) := G5.out.trans o6.below
          have HSM := Lib.hid (same_any _ _ _ _ _ _ b (handleL q) w6 (B5.out.mono o6.below) s6)
          rw [TT.out] at HSM
          clear o6 s6
          go_wp2_with fail
          refine HSM.out.mono ?_
          rintro e w7 ⟨rfl, h7⟩
          subst h7
          go_wp2_with fail
          go_ret
          exact ⟨rfl, G6.out⟩
    · have tm : (b.take 8 == magicL) = false := by rw [beq_eq_false_iff_ne]; exact hm
      rw [tm] at HPX
      rw [if_neg (fun q => hm q.2)]
      clear h hb tm
      go_enter Tryz.func14, Tryz.ntmps14
      go_wp2_with fail
      refine HN.out.mono ?_
      rintro e w1 ⟨rfl, h1⟩
      obtain rfl : w = w1 := h1
      go_wp2_with fail
      refine HPX.out.mono ?_
      rintro e w2 ⟨rfl, h2⟩
      subst h2
      go_wp2_with fail
      go_ret
      exact ⟨rfl, HG.out⟩
  · have t1 : ((n : Int) != 32) = true := by rw [bne_iff_ne]; omega
    rw [if_neg (fun q => h32 q.1)]
    clear h hb
    go_enter Tryz.func14, Tryz.ntmps14
    go_wp2_with fail
    refine HN.out.mono ?_
    rintro e w1 ⟨rfl, h1⟩
    obtain rfl : w = w1 := h1
    go_wp2_with fail
    go_ret
    exact ⟨rfl, Gr.refl _⟩
end
end Go.Proofs.YtcfbbgbjlgonpaaGreatDoor
/- The suite of terms: Derive, Mix, Draw. No condition. -/
namespace Go.Proofs.YtcfbbgbjlgonpaaGreatDoor
open Go.RowKit
set_option linter.unusedVariables false
/-- The term of bytes, which comes to be. -/
def ofT (T : List Nd) (b : List UInt8) : List Nd × Nat := if 0 < termB T b then (T, termB T b) else putT T ⟨2, 0, 0, ⟨b.toArray⟩, 0⟩ []
theorem doT_text (T : List Nd) (s : ByteArray) : doT T 2 0 0 s = putT T ⟨2, 0, 0, s, 0⟩ [] := by unfold doT; rw [if_neg (by decide), if_pos rfl]
theorem doT_kdf (T : List Nd) (a : Int) (s : ByteArray) : doT T 3 a 0 s = kdfT T a s := by unfold doT; rw [if_neg (by decide), if_neg (by decide), if_pos rfl]
theorem doT_mix (T : List Nd) (a b : Int) : doT T 4 a b ByteArray.empty = pairT T 4 a b := by unfold doT; rw [if_neg (by decide), if_neg (by decide), if_neg (by decide), if_pos rfl]
theorem doT_atom (T : List Nd) : doT T 1 0 0 ByteArray.empty = atomT T := by unfold doT; rw [if_pos rfl]
theorem ofT_in {T : List Nd} (h : TIn T) (hn : T.length ≤ 1000) (b : List UInt8) (hb : b.length ≤ maxLen) : TIn (ofT T b).1 ∧ T.length ≤ (ofT T b).1.length ∧ (ofT T b).1.length ≤ T.length + 1 := by
  unfold ofT
  split
  · exact ⟨h, Nat.le_refl _, Nat.le_succ _⟩
  · rw [← doT_text]; exact doT_in h hn 2 0 0 _ hb
theorem putT_id {T : List Nd} {x : Nd} {ids : List Int} : (putT T x ids).2 ≤ T.length + 1 := by
  unfold putT
  split
  · exact Nat.zero_le _
  · cases hf : findT T x with
    | none => exact Nat.le_refl _
    | some j =>
      have : j < T.length := by
        unfold findT at hf
        rw [List.findIdx?_eq_some_iff_getElem] at hf
        exact hf.1
      show j + 1 ≤ _
      omega
theorem termB_le (T : List Nd) (b : List UInt8) : termB T b ≤ T.length := by
  unfold termB
  split
  · split
    · next h => exact h.2.1
    · exact Nat.zero_le _
  · exact Nat.zero_le _
theorem kdfT_id (T : List Nd) (a : Int) (s : ByteArray) : (kdfT T a s).2 ≤ T.length + 1 := by
  unfold kdfT
  split
  · exact Nat.zero_le _
  · exact putT_id
theorem pairT_id (T : List Nd) (k : Nat) (a b : Int) : (pairT T k a b).2 ≤ T.length + 1 := by
  unfold pairT
  split
  · exact Nat.zero_le _
  · exact putT_id
/-- What a call on the suite that answers an id ends in. -/
def RetId (w0 w : World) (p g bm bs : Nat) (r : List Nd × Nat) (e : Ending) (w' : World) : Prop := e = .returned (.int .i64 (r.2 : Int)) ∧ SymS w0 w' p g bm bs r.1 ∧ FS w w'
/-- .. that answers a handle. -/
def RetHd (w0 w : World) (p g bm bs : Nat) (r : List Nd × Nat) (e : Ending) (w' : World) : Prop := ∃ v, e = .returned v ∧ Own w0 w' 5 1 v 32 ((handleL r.2).map u8c) ∧ SymS w0 w' p g bm bs r.1 ∧ FS w w'
section
variable {w0 w : World} {p g bm bs : Nat} {T : List Nd}
set_option maxRecDepth 100000 in
set_option maxHeartbeats 2000000 in
theorem SymS.of (h : SymS w0 w p g bm bs T) (hn : T.length ≤ 1000) (A : Option Addr) (n c : Nat) (b : List UInt8) (hb : Bs w A n c b) :
    Calls Tryz.prog 46 #[.pointer (some ⟨p, 0, none⟩), .slice A n c] w (RetId w0 w p g bm bs (ofT T b)) := by
  have HT := Lib.hid (h.term hn A n c b hb)
  have hl : b.length = n := by have := hb.len; simpa using this
  have hcp := hb.cap; have hmx := hb.max
  have hbl : b.length ≤ maxLen := by simp only [maxLen]; omega
  have HIN := Lib.hid (ofT_in h.i hn b hbl)
  have HS := Lib.hid h; have HB := Lib.hid hb
  unfold ofT
  by_cases h0 : 0 < termB T b
  · rw [if_pos h0]
    have t0 : decide (0 < (termB T b : Int)) = true := decide_eq_true (by omega)
    clear h hb HIN
    generalize termB T b = q at *
    go_enter Tryz.func46, Tryz.ntmps46
    go_wp2_with fail
    refine HT.out.mono ?_
    rintro e w1 ⟨rfl, g1⟩
    have G1 := Lib.hid g1; clear g1
    go_wp2_with fail
    go_ret
    exact ⟨rfl, HS.out.gr G1.out, FS.gr G1.out⟩
  · have hin := HIN.out
    unfold ofT at hin
    rw [if_neg h0] at hin ⊢
    replace HIN := Lib.hid hin
    have e0 : termB T b = 0 := by omega
    rw [e0] at HT
    clear h hb hin h0 e0
    go_enter Tryz.func46, Tryz.ntmps46
    go_wp2_with fail
    refine HT.out.mono ?_
    rintro e w1 ⟨rfl, g1⟩
    have S1 := Lib.hid (HS.out.gr g1)
    have F1 := Lib.hid (FS.gr g1)
    have c0 : w1.cell? ⟨p, 0, none⟩ = some (.pointer (some ⟨g, 0, none⟩)) := (S1.out.blk.cell 0).trans rfl
    have hcv := run_bytes_string Tryz.underlying28 Tryz.underlying5 Tryz.underlying9 (HB.out.mono (g1.trans (Gr.drew _)))
    clear g1
    go_upto_region 4 with fail
    refine wp_region_pre (by kernel_rfl) (fun w' => w' = w1.drew) (fun i => i == 4 || i == 6) (fun i => Nat.ble 7 i) [0, 1, 2, 3, 5, 4, 6] 2 (by kernel_rfl) (by kernel_rfl) (by kernel_rfl) rfl ?_
    refine wpPre_e rfl rfl ?_
    apply Exists.intro
    refine ⟨fun wq hq => ?_, ?_⟩
    · clear hq
      unfold plainAt
      go_simp
      first | exact rfl | exact ⟨rfl, rfl⟩
    go_simp
    refine wpPre_e rfl rfl ?_
    apply Exists.intro
    refine ⟨fun wq hq => ?_, ?_⟩
    · clear hq
      unfold plainAt
      go_simp
      first | exact rfl | exact ⟨rfl, rfl⟩
    go_simp
    refine wpPre_e rfl rfl ?_
    apply Exists.intro
    refine ⟨fun wq hq => ?_, ?_⟩
    · clear hq
      unfold plainAt
      go_simp
      first | exact rfl | exact ⟨rfl, rfl⟩
    go_simp
    refine wpPre_e rfl rfl ?_
    apply Exists.intro
    refine ⟨fun wq hq => ?_, ?_⟩
    · clear hq
      unfold plainAt
      go_simp
      first | exact rfl | exact ⟨rfl, rfl⟩
    go_simp
    refine wpPre_e rfl rfl ?_
    apply Exists.intro
    refine ⟨fun wq hq => ?_, ?_⟩
    · clear hq
      unfold plainAt
      go_simp
      first | exact rfl | exact ⟨rfl, rfl⟩
    go_simp
    refine wpPre_e rfl rfl ?_
    apply Exists.intro
    refine ⟨fun wq hq => ?_, ?_⟩
    · replace hq := hq rfl
      subst hq
      unfold plainAt
      go_simp
      first | exact rfl | exact ⟨rfl, rfl⟩
    go_simp
    refine wpPre_e rfl rfl ?_
    apply Exists.intro
    refine ⟨fun wq hq => ?_, ?_⟩
    · replace hq := hq rfl
      subst hq
      unfold plainAt
      go_simp
      first | exact rfl | exact ⟨rfl, rfl⟩
    go_simp
    refine wpPre_nil ?_
    clear c0 hcv
    obtain ⟨vl, vs, ht⟩ := (S1.out.gr (Gr.drew _)).t
    have HTX := Lib.hid (text_any w0 g T vl vs bm ⟨b.toArray⟩ w1.drew ht (HS.out.i.ok hn) hbl)
    have HTB := Lib.hid ht
    clear ht
    refine wpRest_one (i := 7) (by kernel_rfl) rfl rfl ?_
    intro K hK
    go_simp
    go_at_call 82
    refine HTX.out.mono ?_
    rintro e w2 ⟨vl', vs', rfl, t2, c2⟩
    have SF := Lib.hid ((S1.out.gr (Gr.drew _)).turn HTB.out t2 c2 HIN.out.1)
    refine hK _ _ (fun q => by cases q) ?_
    clear hK t2 c2
    go_simp
    refine wpRest_one (i := 8) (by kernel_rfl) rfl rfl ?_
    intro K hK
    go_simp
    refine hK _ _ (fun h => by cases h) ?_
    clear hK
    go_simp
    refine wpRest_nil (by kernel_rfl) ?_
    go_wp2_with fail
    go_ret
    exact ⟨rfl, SF.out.1, F1.out.trans ((FS.gr (Gr.drew _)).trans SF.out.2)⟩
end
end Go.Proofs.YtcfbbgbjlgonpaaGreatDoor
/- The suite of terms: Derive, Mix, Draw, a new one. No condition. -/
namespace Go.Proofs.YtcfbbgbjlgonpaaGreatDoor
open Go.RowKit
set_option linter.unusedVariables false
/-- What is derived of bytes. -/
def derT (T : List Nd) (b : List UInt8) (s : ByteArray) : List Nd × Nat := kdfT (ofT T b).1 ((ofT T b).2 : Int) s
def mixT (T : List Nd) (a b : List UInt8) : List Nd × Nat := pairT (ofT (ofT T a).1 b).1 4 ((ofT T a).2 : Int) ((ofT (ofT T a).1 b).2 : Int)
theorem derT_in {T : List Nd} (h : TIn T) (hn : T.length ≤ 998) (b : List UInt8) (hb : b.length ≤ maxLen) (s : ByteArray) (hs : s.size ≤ maxLen) : TIn (derT T b s).1 ∧ T.length ≤ (derT T b s).1.length ∧ (derT T b s).1.length ≤ T.length + 2 := by
  have h1 := ofT_in h (by omega) b hb
  have h2 := doT_in h1.1 (by omega) 3 ((ofT T b).2 : Int) 0 s hs
  rw [doT_kdf] at h2
  exact ⟨h2.1, by unfold derT; omega, by unfold derT; omega⟩
theorem mixT_in {T : List Nd} (h : TIn T) (hn : T.length ≤ 997) (a b : List UInt8) (ha : a.length ≤ maxLen) (hb : b.length ≤ maxLen) : TIn (mixT T a b).1 ∧ T.length ≤ (mixT T a b).1.length ∧ (mixT T a b).1.length ≤ T.length + 3 := by
  have h1 := ofT_in h (by omega) a ha
  have h2 := ofT_in h1.1 (by omega) b hb
  have h3 := doT_in h2.1 (by omega) 4 ((ofT T a).2 : Int) ((ofT (ofT T a).1 b).2 : Int) ByteArray.empty (by decide)
  rw [doT_mix] at h3
  exact ⟨h3.1, by unfold mixT; omega, by unfold mixT; omega⟩
section
variable {w0 w : World} {p g bm bs : Nat} {T : List Nd}
theorem SymS.c0 (h : SymS w0 w p g bm bs T) : w.cell? ⟨p, 0, none⟩ = some (.pointer (some ⟨g, 0, none⟩)) := (h.blk.cell 0).trans rfl
set_option maxRecDepth 100000 in
set_option maxHeartbeats 2000000 in
theorem SymS.mix (h : SymS w0 w p g bm bs T) (hn : T.length ≤ 990) (A B : Option Addr) (n c m d : Nat) (a b : List UInt8) (ha : Bs w A n c a) (hb : Bs w B m d b) (HBK : ∀ w', FS w w' → Below w0.heap.size w0 w' → Bs w' B m d b) :
    Calls Tryz.prog 24 #[.pointer (some ⟨p, 0, none⟩), .slice A n c, .slice B m d] w (RetHd w0 w p g bm bs (mixT T a b)) := by
  have hl : a.length = n := by have := ha.len; simpa using this
  have hl2 : b.length = m := by have := hb.len; simpa using this
  have hcp := ha.cap; have hmx := ha.max; have hcp2 := hb.cap; have hmx2 := hb.max
  have hal : a.length ≤ maxLen := by simp only [maxLen]; omega
  have hbl : b.length ≤ maxLen := by simp only [maxLen]; omega
  have HN := Lib.hid h.isNone; have HR := Lib.hid h.isReal
  have HOF := Lib.hid (h.of (by omega) A n c a ha)
  have HIN := Lib.hid (ofT_in h.i (by omega) a hal)
  have HIN1 := Lib.hid (ofT_in HIN.out.1 (by have := HIN.out.2.2; omega) b hbl)
  have HIN2 := Lib.hid (mixT_in h.i (by omega) a b hal hbl)
  have HK := Lib.hid HBK
  have hid := pairT_id (ofT (ofT T a).1 b).1 4 ((ofT T a).2 : Int) ((ofT (ofT T a).1 b).2 : Int)
  have hid2 : (mixT T a b).2 < 9223372036854775808 := by have := HIN.out.2.2; have := HIN1.out.2.2; unfold mixT; omega
  clear h ha hb hid HBK
  go_enter Tryz.func24, Tryz.ntmps24
  go_wp2_with fail
  refine HN.out.mono ?_
  rintro e w1 ⟨rfl, h1⟩
  subst h1
  go_wp2_with fail
  refine HR.out.mono ?_
  rintro e w1 ⟨rfl, h1⟩
  subst h1
  go_wp2_with fail
  refine HOF.out.mono ?_
  rintro e w2 ⟨rfl, s2, f2⟩
  have S2 := Lib.hid s2; have F2 := Lib.hid f2
  have c0 := s2.c0
  have HOF2 := Lib.hid ((s2.gr (Gr.drew w2)).of (by have := HIN.out.2.2; omega) B m d b ((HK.out w2 f2 s2.below).mono (Gr.drew w2)))
  clear s2 f2
  go_upto_region 6 with fail
  refine wp_region_pre (by kernel_rfl) (fun w' => w'.cell? ⟨p, 0, none⟩ = some (.pointer (some ⟨g, 0, none⟩))) (fun i => i == 4) (fun _ => false) [0, 1, 2, 3, 5, 6, 7, 4] 4 (by kernel_rfl) (by kernel_rfl) (by kernel_rfl) c0 ?_
  refine wpPre_e rfl rfl ?_
  apply Exists.intro
  refine ⟨fun wq hq => ?_, ?_⟩
  · clear hq
    unfold plainAt
    go_simp
    first | exact rfl | exact ⟨rfl, rfl⟩
  go_simp
  refine wpPre_e rfl rfl ?_
  apply Exists.intro
  refine ⟨fun wq hq => ?_, ?_⟩
  · clear hq
    unfold plainAt
    go_simp
    first | exact rfl | exact ⟨rfl, rfl⟩
  go_simp
  refine wpPre_e rfl rfl ?_
  apply Exists.intro
  refine ⟨fun wq hq => ?_, ?_⟩
  · clear hq
    unfold plainAt
    go_simp
    first | exact rfl | exact ⟨rfl, rfl⟩
  go_simp
  refine wpPre_e rfl rfl ?_
  apply Exists.intro
  refine ⟨fun wq hq => ?_, ?_⟩
  · clear hq
    unfold plainAt
    go_simp
    first | exact rfl | exact ⟨rfl, rfl⟩
  go_simp
  refine wpPre_e rfl rfl ?_
  apply Exists.intro
  refine ⟨fun wq hq => ?_, ?_⟩
  · clear hq
    unfold plainAt
    go_simp
    first | exact rfl | exact ⟨rfl, rfl⟩
  go_simp
  refine wpPre_e rfl rfl ?_
  apply Exists.intro
  refine ⟨fun wq hq => ?_, ?_⟩
  · clear hq
    unfold plainAt
    go_simp
    first | exact rfl | exact ⟨rfl, rfl⟩
  go_simp
  refine wpPre_e rfl rfl ?_
  apply Exists.intro
  refine ⟨fun wq hq => ?_, ?_⟩
  · clear hq
    unfold plainAt
    go_simp
    first | exact rfl | exact ⟨rfl, rfl⟩
  go_simp
  refine wpPre_e rfl rfl ?_
  apply Exists.intro
  refine ⟨fun wq hq => ?_, ?_⟩
  · replace hq := hq rfl
    have z0 := hq
    unfold plainAt
    go_simp
    first | exact rfl | exact ⟨rfl, rfl⟩
  go_simp
  refine wpPre_nil ?_
  clear c0
  refine wpRest_one (i := 8) (by kernel_rfl) rfl rfl ?_
  intro K hK
  go_simp
  go_at_call 46
  refine HOF2.out.mono ?_
  rintro e w3 ⟨rfl, s3, f3⟩
  have S3 := Lib.hid s3
  have F3 := Lib.hid (F2.out.trans ((FS.gr (Gr.drew _)).trans f3))
  refine hK _ _ (fun _ => s3.c0) ?_
  clear hK s3 f3
  go_simp
  refine wpRest_one (i := 9) (by kernel_rfl) rfl rfl ?_
  intro K hK
  go_simp
  go_at_call 60
  obtain ⟨vl, vs, ht⟩ := S3.out.t
  have hok : TOk (ofT (ofT T a).1 b).1 := HIN1.out.1.ok (by have := HIN.out.2.2; have := HIN1.out.2.2; omega)
  refine (mix_any w0 g (ofT (ofT T a).1 b).1 vl vs bm ((ofT T a).2 : Int) ((ofT (ofT T a).1 b).2 : Int) w3 ht hok).mono ?_
  rintro e w4 ⟨vl', vs', rfl, t4, c4⟩
  have SF := Lib.hid (S3.out.turn ht t4 c4 HIN2.out.1)
  refine hK _ _ (fun _ => SF.out.1.c0) ?_
  clear hK t4 c4 ht
  go_simp
  refine wpRest_one (i := 10) (by kernel_rfl) rfl rfl ?_
  intro K hK
  go_simp
  go_at_call 34
  refine (handle_any (mixT T a b).2 w4 hid2).mono ?_
  rintro e w5 ⟨v5, rfl, o5⟩
  rw [handleL_len] at o5
  have O5 := Lib.hid (o5.base SF.out.1.below)
  have S5 := Lib.hid (SF.out.1.gr o5.below)
  have F5 := Lib.hid (F3.out.trans (SF.out.2.trans (FS.gr o5.below)))
  refine hK _ _ (fun _ => S5.out.c0) ?_
  clear hK o5
  go_simp
  refine wpRest_one (i := 11) (by kernel_rfl) rfl rfl ?_
  intro K hK
  go_simp
  refine hK _ _ (fun _ => S5.out.c0) ?_
  clear hK
  go_simp
  refine wpRest_nil (by kernel_rfl) ?_
  go_wp2_with fail
  go_ret
  exact ⟨v5, rfl, O5.out, S5.out, F5.out⟩
theorem atomT_in {T : List Nd} (h : TIn T) (hn : T.length ≤ 1000) : TIn (atomT T).1 := by
  have := doT_in h hn 1 0 0 ByteArray.empty (by decide)
  rw [doT_atom] at this
  exact this.1
set_option maxRecDepth 100000 in
set_option maxHeartbeats 1000000 in
theorem SymS.draw (h : SymS w0 w p g bm bs T) (hn : T.length ≤ 990) :
    Calls Tryz.prog 22 #[.pointer (some ⟨p, 0, none⟩)] w (RetHd w0 w p g bm bs (atomT T)) := by
  have HN := Lib.hid h.isNone; have HR := Lib.hid h.isReal
  have c0 := h.c0
  obtain ⟨vl, vs, ht⟩ := h.t
  have HA := Lib.hid (atom_any w0 g T vl vs bm w ht (by omega))
  have HT := Lib.hid ht; have HS := Lib.hid h
  have hl : (atomT T).2 = T.length + 1 := rfl
  clear h ht
  go_enter Tryz.func22, Tryz.ntmps22
  go_wp2_with fail
  refine HN.out.mono ?_
  rintro e w1 ⟨rfl, h1⟩
  subst h1
  go_wp2_with fail
  refine HR.out.mono ?_
  rintro e w1 ⟨rfl, h1⟩
  subst h1
  go_wp2_with fail
  refine HA.out.mono ?_
  rintro e w2 ⟨vl', vs', rfl, t2, c2⟩
  have SF := Lib.hid (HS.out.turn HT.out t2 c2 (atomT_in HS.out.i (by omega)))
  clear t2 c2
  go_wp2_with fail
  refine (handle_any (atomT T).2 w2 (by omega)).mono ?_
  rintro e w3 ⟨v3, rfl, o3⟩
  rw [handleL_len] at o3
  have O3 := Lib.hid (o3.base SF.out.1.below)
  have S3 := Lib.hid (SF.out.1.gr o3.below)
  have F3 := Lib.hid (SF.out.2.trans (FS.gr o3.below))
  clear o3
  go_wp2_with fail
  go_ret
  exact ⟨v3, rfl, O3.out, S3.out, F3.out⟩
end
end Go.Proofs.YtcfbbgbjlgonpaaGreatDoor
