/- ObOqC, ObOqD: one text. No condition. -/
import Derived.Test.YtadenlhnfkccaaaDoorObOqL
import Derived.Test.YtadenlhnfkccaaaDoorObInts
import Derived.Outline
/- Operations as lines: Tell. No condition. -/
namespace Go.Proofs.YtadenlhnfkccaaaDoor
open Go.RowKit
set_option linter.unusedVariables false
set_option linter.unusedSimpArgs false
theorem str_nil {p : List UInt8} : (⟨p.toArray⟩ : ByteArray) = ⟨#[]⟩ ↔ p = [] := by
  constructor
  · intro h
    have := congrArg (fun x : ByteArray => x.data.toList) h
    simpa using this
  · rintro rfl; rfl
theorem contains_any39 (ps : List (List UInt8)) (A : Option Addr) (n c : Nat) (w : World) (s : Ws w A n c ps) (hl : ps.length = n) (h0 : 0 < n) (hmax : n ≤ 9223372036854775807) :
    Calls Tryd.prog 39 #[.slice A n c, .string ⟨#[]⟩] w fun e w' => e = .returned (.bool (decide ([] ∈ ps))) ∧ w' = w := by
  obtain ⟨bk, ok, rfl, hc⟩ := Ws.addr (ps := ps) s h0
  have h := Tryd.slices_Contains_string bk ok n c (ps.map fun p => (⟨p.toArray⟩ : ByteArray)) ⟨#[]⟩ w (by rw [List.length_map]; omega) hmax (fun j hj => by
    rw [List.length_map] at hj
    have := hc j hj
    rw [this]
    simp [List.getD_eq_getElem?_getD, List.getElem?_eq_getElem hj, strc])
  have e : Lib.containsS ((ps.map fun p => (⟨p.toArray⟩ : ByteArray)).take n) ⟨#[]⟩ = decide ([] ∈ ps) := by
    rw [List.take_of_length_le (by rw [List.length_map]; omega)]
    apply Bool.eq_iff_iff.2
    rw [Lib.containsS_iff, decide_eq_true_eq, List.mem_map]
    constructor
    · rintro ⟨p, hp, e⟩
      rw [str_nil] at e
      exact e ▸ hp
    · intro h; exact ⟨[], h, rfl⟩
  rw [e] at h
  exact h
theorem join_any39 (ps : List (List UInt8)) (A : Option Addr) (n c : Nat) (w : World) (s : Ws w A n c ps) (hl : ps.length = n) (h0 : 0 < n) (hN : n ≤ 140737488355328) (hlen : (Lib.join ps [32]).length ≤ 140737488355328) :
    Calls Tryd.prog 26 #[.slice A n c, .string ⟨#[32]⟩] w fun e w' => e = .returned (strc (Lib.join ps [32])) ∧ Gr w w' := by
  have hcap := s.cap
  obtain ⟨bk, ok, rfl, hcl⟩ := Ws.addr (ps := ps) s h0
  have hxs2 : (ps.map fun p => (⟨p.toArray⟩ : ByteArray)).map (·.data.toList) = ps := by rw [List.map_map]; exact List.map_id'' (fun p => rfl) _
  have h := Tryd.strings_Join bk ok c (ps.map fun p => (⟨p.toArray⟩ : ByteArray)) ⟨#[32]⟩ w (fun j x hx => by
    rw [List.getElem?_map] at hx
    obtain ⟨p, hp, rfl⟩ := Option.map_eq_some_iff.1 hx
    obtain ⟨hj, rfl⟩ := List.getElem?_eq_some_iff.1 hp
    exact hcl j hj) (World.block_lt_of_cell? w _ (hcl 0 (by omega))) (by rw [List.length_map, hl]; exact hN) (by rw [List.length_map, hl]; exact hcap) (by rw [hxs2]; exact hlen)
  rw [hxs2, List.length_map, hl] at h
  exact h
theorem wordL_len (k : Nat) : (wordL k).length ≤ 7 := by
  rcases Nat.lt_or_ge k 15 with h | h
  · rcases show k = 0 ∨ k = 1 ∨ k = 2 ∨ k = 3 ∨ k = 4 ∨ k = 5 ∨ k = 6 ∨ k = 7 ∨ k = 8 ∨ k = 9 ∨ k = 10 ∨ k = 11 ∨ k = 12 ∨ k = 13 ∨ k = 14 by omega with rfl | rfl | rfl | rfl | rfl | rfl | rfl | rfl | rfl | rfl | rfl | rfl | rfl | rfl | rfl <;> decide +kernel
  · rw [wordL_out h]; decide
theorem wordT_len (f : Int) : (wordT f).length ≤ 7 := by
  unfold wordT
  split
  · decide
  · exact wordL_len _
theorem joinL_len (c : UInt8) (B : Nat) : ∀ ps : List (List UInt8), (∀ p ∈ ps, p.length ≤ B) → (Lib.join ps [c]).length ≤ ps.length * (B + 1)
  | [], _ => by simp [Lib.join]
  | p :: r, h => by
    rw [Lib.join_cons]
    have h1 := h p List.mem_cons_self
    have h2 : ∀ r : List (List UInt8), (∀ p ∈ r, p.length ≤ B) → (Lib.joinTail [c] r).length ≤ r.length * (B + 1) := by
      intro r
      induction r with
      | nil => intro _; simp [Lib.joinTail]
      | cons q r ih =>
        intro hq
        have i1 := ih fun x hx => hq x (List.mem_cons_of_mem _ hx)
        have i2 := hq q List.mem_cons_self
        simp only [Lib.joinTail, List.map_cons, List.flatten_cons, List.length_append, List.length_cons, List.length_nil, Nat.add_mul] at i1 ⊢
        omega
    have h3 := h2 r fun x hx => h x (List.mem_cons_of_mem _ hx)
    simp only [List.length_append, List.length_cons, Nat.add_mul] at h3 ⊢
    omega
theorem tellA_len (a : AnD) (hb : a.b.length ≤ 10000) (hn : a.n.length ≤ 10000) (ht : a.t.length ≤ 10000) : (Lib.join (tellA a) [32]).length ≤ 300000000 ∧ (tellA a).length ≤ 10003 := by
  have h1 := joinL_len 32 20001 (tellA a) (by
    intro p hp
    unfold tellA tellW at hp
    rcases List.mem_append.1 hp with hp | hp
    · rcases List.mem_append.1 hp with hp | hp
      · rcases List.mem_cons.1 hp with rfl | hp
        · have := wordT_len a.f; omega
        · obtain ⟨n, _, rfl⟩ := List.mem_map.1 hp
          have := countT_len n; omega
      · split at hp
        · simp at hp
        · simp only [List.mem_singleton] at hp
          subst hp
          simp only [List.length_cons, hexP_len]; omega
    · split at hp
      · simp at hp
      · simp only [List.mem_singleton] at hp
        subst hp
        simp only [List.length_cons]; omega)
  have h2 : (tellA a).length ≤ 10003 := by
    unfold tellA tellW
    simp only [List.length_append, List.length_cons, List.length_map]
    split <;> split <;> simp <;> omega
  exact ⟨by have := Nat.mul_le_mul_right 20002 h2; omega, h2⟩
set_option maxRecDepth 100000 in
set_option maxHeartbeats 4000000 in
theorem tell_any (a : AnD) (A B : Option Addr) (m c p q : Nat) (w : World) (hA : Bs w A m c a.b) (hB : Is w B p q a.n) (hb : a.b.length ≤ 10000) (hn : a.n.length ≤ 10000) (ht : a.t.length ≤ 10000) (hr : ∀ x ∈ a.n, -9223372036854775808 ≤ x ∧ x ≤ 9223372036854775807) (hT : Pow10 w) :
    Calls Tryd.prog 14 #[.agg (anC a A m c B p q)] w fun e w' => e = .returned (strc (tellL a)) ∧ Gr w w' := by
  have HW : Hid (∀ wr, Calls Tryd.prog 37 #[.int .i64 a.f] wr fun e w' => e = .returned (strc (wordT a.f)) ∧ Gr wr w') := fun wr => word_any a.f wr
  have HX : Hid (∀ wq, Gr (w.alloc (.cells (anC a A m c B p q) 37)) wq → ∀ (i : Nat) (v : Value), (anC a A m c B p q).toList[i]? = some v → wq.cell? ⟨w.heap.size, i, none⟩ = some v) := fun wq g i v h => (((Blk.new w 37 (anC a A m c B p q)).mono g).cell i).trans h
  have G0 : Hid (Gr w (w.alloc (.cells (anC a A m c B p q) 37))) := Gr.alloc w _
  have k0 := HX.out _ (Gr.refl _) 0 _ rfl
  obtain ⟨x, hx⟩ : ∃ x : ByteArray, strc (wordT a.f) = .string x := ⟨_, rfl⟩
  rw [hx] at HW
  go_enter Tryd.func14, Tryd.ntmps14
  go_wp2_with fail
  refine (HW.out _).mono ?_
  rintro e w1 ⟨rfl, g1⟩
  have G1 := Lib.hid g1; clear g1 k0
  have gB : Gr w1 (w1.alloc (.cells #[.string x] 9)) := Gr.alloc _ _
  have k0 := HX.out _ (G1.out.trans gB) 0 _ rfl
  have k2 := HX.out _ (G1.out.trans gB) 2 _ rfl
  by_cases hf : a.f = 0
  · have t1 : (a.f != 0) = false := by rw [bne_eq_false_iff_eq]; exact hf
    have k1 := HX.out _ (G1.out.trans gB) 1 _ rfl
    have k3 := HX.out _ (G1.out.trans gB) 3 _ rfl
    have hpl := hB.len
    have hp1000 : p ≤ 10000 := by omega
    have hpm := hB.max
    have hpc := hB.cap
    have GW1 : Hid (Gr w w1) := G0.out.trans G1.out
    have O0 : Hid (Own w1 (w1.alloc (.cells #[.string x] 9)) 9 1 (.slice (some ⟨w1.heap.size, 0, none⟩) 1 1) 1 [.string x]) := (Blk.new w1 9 #[.string x]).own (w0 := w1) (size := 1) (n := 1) (Nat.le_refl _) (Gr.alloc w1 _) rfl (by decide)
    have HBB := Lib.hid hB
    have HAA := Lib.hid hA; have HBL := Lib.hid hb; have HNL := Lib.hid hn; have HTL := Lib.hid ht
    have HRR := Lib.hid hr; have HPT := Lib.hid hT
    clear hB hr hT hA hb hn ht
    go_wp2_with fail
    clear k0 k1 k2 k3 gB
    go_loopw [3, 19] (fun v i wr => ∃ k : Nat, k ≤ p ∧ i = .int .i64 k ∧ Own w1 wr 9 1 v (k + 1) ((wordT a.f :: (a.n.take k).map countT).map strc)) (fun _ i _ => p - (intOf i).toNat)
    case atStart => exact ⟨0, by omega, rfl, by simpa [hx] using O0.out⟩
    case round =>
      obtain ⟨k, hk, rfl, ow⟩ := hrel
      have OW := Lib.hid ow; clear ow
      have GW : Hid (Gr w wr) := Below.trans GW1.out (OW.out.below.mono GW1.out.size)
      by_cases hlt : k < p
      · obtain ⟨bn, on, rfl, hc⟩ := Is.addr (HBB.out.mono GW.out) (by omega)
        have ck := hc k hlt
        have hkl : k < a.n.length := by omega
        have hia : iAt a.n k = a.n[k] := by simp [iAt, List.getElem?_eq_getElem hkl]
        rw [hia] at ck
        have hrk := HRR.out _ (List.getElem_mem hkl)
        have HCN := Lib.hid (count_any a.n[k] wr hrk.1 hrk.2 (HPT.out.mono GW.out))
        have hst : Hid ((wordT a.f :: (a.n.take (k + 1)).map countT).map strc = (wordT a.f :: (a.n.take k).map countT).map strc ++ [strc (countT a.n[k])]) := by
          show _ = _
          rw [List.take_succ_eq_append_getElem hkl, List.map_append, ← List.cons_append, List.map_append]
          rfl
        clear hc hia hrk
        generalize a.n[k] = nk at *
        obtain ⟨cx, hcx⟩ : ∃ cx : ByteArray, strc (countT nk) = .string cx := ⟨_, rfl⟩
        rw [hcx] at HCN hst
        clear hcx
        go_wp2_with fail
        refine HCN.out.mono ?_
        rintro e w4 ⟨rfl, g4⟩
        have O4 := Lib.hid (OW.out.mono g4); clear g4
        go_wp2_with (at_builtin; refine wpList_push rfl (.tmp 23) (.tmp 26) 65 rfl tWords rfl O4.out #[.string cx] rfl rfl (by intro u hu; simp at hu; subst hu; rfl) (by omega) ?_; intro v1 wn o1)
        have OE : Hid (Own w1 wn 9 1 v1 (k + 1 + 1) ((wordT a.f :: (a.n.take (k + 1)).map countT).map strc)) := by
          show Own _ _ _ _ _ _ _
          rw [hst.out]
          exact o1
        clear o1
        go_wp2_with fail
        refine ⟨⟨k + 1, by omega, by first | trivial | go_num, OE.out⟩, ?_⟩
        show p - ((k : Int) + 1).toNat < p - (k : Int).toNat
        omega
      · obtain rfl : k = p := by omega
        have OWF : Hid (Own w1 wr 9 1 u3 (k + 1) ((tellW a).map strc)) := by
          show Own _ _ _ _ _ _ _
          have := OW.out
          rw [List.take_of_length_le (by omega)] at this
          exact this
        obtain ⟨A5, c5, rfl, s5⟩ := OWF.out.slice
        have hcap5 := s5.cap
        have hlw : (tellW a).length = k + 1 := by unfold tellW; simp; omega
        have HCT := Lib.hid (contains_any39 (tellW a) A5 (k + 1) c5 wr s5 hlw (by omega) (by have := HNL.out; omega))
        clear s5 hcap5
        have GX : Hid (Gr (w.alloc (.cells (anC a A m c B k q) 37)) wr) := Below.trans G1.out (OWF.out.below.mono G1.out.size)
        have c1 := HX.out _ GX.out 1 _ rfl
        have c3 := HX.out _ GX.out 3 _ rfl
        by_cases hmt : [] ∈ tellW a
        · have HF : Hid (tellL a = []) := by show _ = _; unfold tellL; rw [if_neg (by simp [hf]), if_pos (.inl hmt)]
          rw [decide_eq_true hmt] at HCT
          go_wp2_with fail
          refine HCT.out.mono ?_
          rintro e w4 ⟨rfl, rfl⟩
          go_wp2_with fail
          go_ret
          exact ⟨by rw [HF.out]; rfl, GW.out⟩
        · rw [decide_eq_false hmt] at HCT
          obtain ⟨tx, htx⟩ : ∃ tx : ByteArray, tx = ⟨a.t.toArray⟩ := ⟨_, rfl⟩
          have htz : tx.size = a.t.length := by rw [htx]; exact size_of' _
          have hst : strc a.t = .string tx := by rw [htx]; rfl
          have hte : tx = ⟨#[]⟩ ↔ a.t = [] := by rw [htx]; exact str_nil
          obtain ⟨hx, hhx⟩ : ∃ hx : ByteArray, hx = ⟨(hexP a.b).toArray⟩ := ⟨_, rfl⟩
          have hhz : hx.size = 2 * a.b.length := by rw [hhx, size_of', hexP_len]
          have HHX : Hid (∀ wr, Gr w wr → Calls Tryd.prog 41 #[.slice A m c] wr fun e w' => e = .returned (.string hx) ∧ Gr wr w') := fun wr g => by
            rw [hhx]; exact hexPrint_any A m c a.b wr (HAA.out.mono g) (by have := HAA.out.len; have := HBL.out; omega)
          have HPP := Lib.hid (fun wr => opPart_any a.t wr (by have := HTL.out; omega))
          have l1 : ¬ 9223372036854775807 < 1 + hx.size := by have := HBL.out; omega
          have l2 : ¬ 9223372036854775807 < 1 + tx.size := by have := HTL.out; omega
          have HS1 : Hid (.string (⟨#[35]⟩ ++ hx) = strc (35 :: hexP a.b)) := by
            show _ = _
            rw [hhx]
            unfold strc
            congr 1
          have HS2 : Hid (.string (⟨#[61]⟩ ++ tx) = strc (61 :: a.t)) := by
            show _ = _
            rw [htx]
            unfold strc
            congr 1
          have HML := Lib.hid HAA.out.len
          have htl : tx.toList = a.t := by rw [htx, ByteArray.toList_eq]
          clear hhx htx hhz htz c1
          rw [hst] at HPP c3
          have HST := Lib.hid hst
          have HLW := Lib.hid hlw
          clear hst hlw
          by_cases ht0 : a.t = []
          · have te : (tx.toList == ([] : List UInt8)) = true := by rw [htl, ht0]; rfl
            have HF : Hid (tellL a = Lib.join (tellA a) [32]) := by show _ = _; unfold tellL; rw [if_neg (by simp [hf]), if_neg (by simp [hmt, ht0])]
            clear htl
            go_wp2_with fail
            refine HCT.out.mono ?_
            rintro e w4 ⟨rfl, rfl⟩
            by_cases hb0 : a.b = []
            · have HTA : Hid (tellA a = tellW a) := by show _ = _; unfold tellA; rw [if_pos hb0, if_pos ht0]; simp
              have tm : ¬ 0 < m := by have := HML.out; rw [hb0] at this; simp at this; omega
              have HLA : Hid ((tellA a).length = k + 1) := by show _ = _; rw [HTA.out]; exact HLW.out
              have OJ : Hid (Own w1 w4 9 1 (.slice A5 (k + 1) c5) (k + 1) ((tellA a).map strc)) := by
                have := OWF.out
                show Own _ _ _ _ _ _ _
                rw [HTA.out]; exact this
              have GZ := GX
              have c1 := HX.out _ GZ.out 1 _ rfl
              clear HTA
              have HLN := Lib.hid (tellA_len a HBL.out HNL.out HTL.out)
              obtain ⟨A6, c6, e6, s6⟩ := OJ.out.slice
              first
                | subst e6
                | (injection e6 with i1 _ i2; subst i1 i2)
              have HJ := Lib.hid (join_any39 (tellA a) _ (k + 1) _ _ s6 HLA.out (by omega) (by have := HNL.out; omega) (by have := HLN.out.1; omega))
              clear s6 HLN
              go_wp2_with fail
              refine HJ.out.mono ?_
              rintro e w8 ⟨rfl, g8⟩
              have G8 := Lib.hid (G0.out.trans (GZ.out.trans g8)); clear g8
              go_wp2_with fail
              go_ret
              exact ⟨by rw [HF.out]; rfl, G8.out⟩
            · have HTA : Hid (tellA a = tellW a ++ [35 :: hexP a.b]) := by show _ = _; unfold tellA; rw [if_neg hb0, if_pos ht0]; simp
              have tm : 0 < m := by have := HML.out; have := List.length_pos_iff.2 hb0; omega
              have HLA : Hid ((tellA a).length = k + 1 + 1) := by show _ = _; rw [HTA.out, List.length_append, HLW.out]; rfl
              have c1 := HX.out _ GX.out 1 _ rfl
              go_wp2_with fail
              refine (HHX.out _ (G0.out.trans (GX).out)).mono ?_
              rintro e w5 ⟨rfl, g5⟩
              have O5 := Lib.hid ((OWF).out.mono g5)
              clear g5 c3
              go_wp2_with (at_builtin; go_loud (refine wpList_push rfl (.tmp 46) (.tmp 51) 65 rfl tWords rfl O5.out #[Value.string ((⟨#[35]⟩ : ByteArray) ++ hx)] rfl rfl (by intro u hu; simp at hu; subst hu; rfl) (by omega) ?_); intro v6 w6 o6; have G6 : Hid (Gr (w.alloc (.cells (anC a A m c B k q) 37)) w6) := Below.trans G1.out (o6.below.mono G1.out.size); have c3 := HX.out _ G6.out 3 _ rfl; rw [HST.out] at c3)
              have O6 : Hid (Own w1 w6 9 1 v6 (k + 1 + 1) ((tellW a ++ [35 :: hexP a.b]).map strc)) := by
                show Own _ _ _ _ _ _ _
                rw [List.map_append, List.map_cons, List.map_nil, ← HS1.out]
                exact o6
              clear o6 O5
              have GZ := G6
              have OJ : Hid (Own w1 w6 9 1 v6 (k + 1 + 1) ((tellA a).map strc)) := by
                have := O6.out
                show Own _ _ _ _ _ _ _
                rw [HTA.out]; exact this
              clear HTA O6
              have HLN := Lib.hid (tellA_len a HBL.out HNL.out HTL.out)
              obtain ⟨A6, c6, e6, s6⟩ := OJ.out.slice
              first
                | subst e6
                | (injection e6 with i1 _ i2; subst i1 i2)
              have HJ := Lib.hid (join_any39 (tellA a) _ (k + 1 + 1) _ _ s6 HLA.out (by omega) (by have := HNL.out; omega) (by have := HLN.out.1; omega))
              clear s6 HLN
              go_wp2_with fail
              refine HJ.out.mono ?_
              rintro e w8 ⟨rfl, g8⟩
              have G8 := Lib.hid (G0.out.trans (GZ.out.trans g8)); clear g8
              go_wp2_with fail
              go_ret
              exact ⟨by rw [HF.out]; rfl, G8.out⟩
          · have te : (tx.toList == ([] : List UInt8)) = false := by rw [htl]; exact beq_false_of_ne ht0
            clear htl
            have HPT2 := HPP
            obtain ⟨px, hpx⟩ : ∃ px : ByteArray, strc (partT a.t) = .string px := ⟨_, rfl⟩
            have hpl : px.toList = partT a.t := by
              unfold strc at hpx
              injection hpx with hpx
              rw [← hpx, ByteArray.toList_eq]
            rw [hpx] at HPP
            clear hpx HPT2
            go_wp2_with fail
            refine HCT.out.mono ?_
            rintro e w4 ⟨rfl, rfl⟩
            go_wp2_with fail
            refine (HPP.out _).mono ?_
            rintro e w2 ⟨rfl, g2⟩
            have O2 := Lib.hid (OWF.out.mono g2)
            have G2 := Lib.hid (GX.out.trans g2)
            have GW2 := Lib.hid (GW.out.trans g2)
            clear g2 c3
            have c1 := HX.out _ G2.out 1 _ rfl
            have c3 := HX.out _ G2.out 3 _ rfl
            rw [HST.out] at c3
            by_cases hpt : partT a.t = []
            · have tp : (px.toList == ([] : List UInt8)) = true := by rw [hpl, hpt]; rfl
              have HF : Hid (tellL a = []) := by show _ = _; unfold tellL; rw [if_neg (by simp [hf]), if_pos (.inr ⟨ht0, hpt⟩)]
              clear hpl
              go_wp2_with fail
              go_ret
              exact ⟨by rw [HF.out]; rfl, GW2.out⟩
            · have tp : (px.toList == ([] : List UInt8)) = false := by rw [hpl]; exact beq_false_of_ne hpt
              have HF : Hid (tellL a = Lib.join (tellA a) [32]) := by show _ = _; unfold tellL; rw [if_neg (by simp [hf]), if_neg (by simp [hmt, hpt])]
              clear hpl
              by_cases hb0 : a.b = []
              · have HTA : Hid (tellA a = tellW a ++ [61 :: a.t]) := by show _ = _; unfold tellA; rw [if_pos hb0, if_neg ht0]; simp
                have tm : ¬ 0 < m := by have := HML.out; rw [hb0] at this; simp at this; omega
                have HLA : Hid ((tellA a).length = k + 1 + 1) := by show _ = _; rw [HTA.out, List.length_append, HLW.out]; rfl
                go_wp2_with (at_builtin; go_loud (refine wpList_push rfl (.tmp 56) (.tmp 60) 65 rfl tWords rfl (O2).out #[Value.string ((⟨#[61]⟩ : ByteArray) ++ tx)] rfl rfl (by intro u hu; simp at hu; subst hu; rfl) (by omega) ?_); intro v7 w7 o7)
                have GZ : Hid (Gr (w.alloc (.cells (anC a A m c B k q) 37)) w7) := Below.trans G1.out (o7.below.mono G1.out.size)
                have OJ : Hid (Own w1 w7 9 1 v7 (k + 1 + 1) ((tellA a).map strc)) := by
                  show Own _ _ _ _ _ _ _
                  rw [HTA.out, List.map_append, List.map_cons, List.map_nil, ← HS2.out]
                  exact o7
                clear o7
                have HLN := Lib.hid (tellA_len a HBL.out HNL.out HTL.out)
                obtain ⟨A6, c6, e6, s6⟩ := OJ.out.slice
                first
                  | subst e6
                  | (injection e6 with i1 _ i2; subst i1 i2)
                have HJ := Lib.hid (join_any39 (tellA a) _ (k + 1 + 1) _ _ s6 HLA.out (by omega) (by have := HNL.out; omega) (by have := HLN.out.1; omega))
                clear s6 HLN
                go_wp2_with fail
                refine HJ.out.mono ?_
                rintro e w8 ⟨rfl, g8⟩
                have G8 := Lib.hid (G0.out.trans (GZ.out.trans g8)); clear g8
                go_wp2_with fail
                go_ret
                exact ⟨by rw [HF.out]; rfl, G8.out⟩
              · have HTA : Hid (tellA a = (tellW a ++ [35 :: hexP a.b]) ++ [61 :: a.t]) := by show _ = _; unfold tellA; rw [if_neg hb0, if_neg ht0]
                have tm : 0 < m := by have := HML.out; have := List.length_pos_iff.2 hb0; omega
                have HLA : Hid ((tellA a).length = k + 1 + 1 + 1) := by show _ = _; rw [HTA.out, List.length_append, List.length_append, HLW.out]; rfl
                go_wp2_with fail
                refine (HHX.out _ (G0.out.trans (G2).out)).mono ?_
                rintro e w5 ⟨rfl, g5⟩
                have O5 := Lib.hid ((O2).out.mono g5)
                clear g5 c3
                go_wp2_with (at_builtin; first | (refine wpList_push rfl (.tmp 46) (.tmp 51) 65 rfl tWords rfl O5.out #[Value.string ((⟨#[35]⟩ : ByteArray) ++ hx)] rfl rfl (by intro u hu; simp at hu; subst hu; rfl) (by omega) ?_; intro v6 w6 o6; have G6 : Hid (Gr (w.alloc (.cells (anC a A m c B k q) 37)) w6) := Below.trans G1.out (o6.below.mono G1.out.size); have c3 := HX.out _ G6.out 3 _ rfl; rw [HST.out] at c3; have O6 : Hid (Own w1 w6 9 1 v6 (k + 1 + 1) ((tellW a ++ [35 :: hexP a.b]).map strc)) := (by show Own _ _ _ _ _ _ _; rw [List.map_append, List.map_cons, List.map_nil, ← HS1.out]; exact o6); clear o6 O5) | (go_loud (refine wpList_push rfl (.tmp 56) (.tmp 60) 65 rfl tWords rfl O6.out #[Value.string ((⟨#[61]⟩ : ByteArray) ++ tx)] rfl rfl (by intro u hu; simp at hu; subst hu; rfl) (by omega) ?_); intro v7 w7 o7))
                have GZ : Hid (Gr (w.alloc (.cells (anC a A m c B k q) 37)) w7) := Below.trans G1.out (o7.below.mono G1.out.size)
                have OJ : Hid (Own w1 w7 9 1 v7 (k + 1 + 1 + 1) ((tellA a).map strc)) := by
                  show Own _ _ _ _ _ _ _
                  rw [HTA.out, List.map_append, List.map_cons, List.map_nil, ← HS2.out]
                  exact o7
                clear o7
                have HLN := Lib.hid (tellA_len a HBL.out HNL.out HTL.out)
                obtain ⟨A6, c6, e6, s6⟩ := OJ.out.slice
                first
                  | subst e6
                  | (injection e6 with i1 _ i2; subst i1 i2)
                have HJ := Lib.hid (join_any39 (tellA a) _ (k + 1 + 1 + 1) _ _ s6 HLA.out (by omega) (by have := HNL.out; omega) (by have := HLN.out.1; omega))
                clear s6 HLN
                go_wp2_with fail
                refine HJ.out.mono ?_
                rintro e w8 ⟨rfl, g8⟩
                have G8 := Lib.hid (G0.out.trans (GZ.out.trans g8)); clear g8
                go_wp2_with fail
                go_ret
                exact ⟨by rw [HF.out]; rfl, G8.out⟩
  · have t1 : (a.f != 0) = true := bne_iff_ne.2 hf
    have HF : Hid (tellL a = wordT a.f) := if_pos hf
    have cx : (w1.alloc (.cells #[.string x] 9)).cell? ⟨w1.heap.size, 0, none⟩ = some (.string x) := by rw [(Blk.new w1 9 #[.string x]).cell]; rfl
    have HXX := Lib.hid hx
    clear hx
    go_wp2_with fail
    go_ret
    exact ⟨by rw [HF.out, HXX.out]; rfl, (G0.out.trans G1.out).trans gB⟩
end Go.Proofs.YtadenlhnfkccaaaDoor
/- Operations as lines: the chapter's example; is an answer small? No condition. -/
namespace Go.Proofs.YtadenlhnfkccaaaDoor
open Go.RowKit
set_option linter.unusedVariables false
set_option linter.unusedSimpArgs false
def look0 : OpD := ⟨9, [97], [], 0, 0, 0, 0, []⟩
theorem parse_look : parseO [108, 111, 111, 107, 32, 97] = (look0, 0) := by kernel_rfl
def an321 : AnD := ⟨0, [], [3, 2, 1], []⟩
theorem tell_321 : tellL an321 = [111, 107, 32, 51, 32, 50, 32, 49] := by decide +kernel
set_option maxRecDepth 100000 in
set_option maxHeartbeats 2000000 in
theorem alive39_any (w : World) (hT : Pow10 w) (hM : MLen w) : Calls Tryd.prog 7 #[] w fun e w' => e = .returned (.bool true) ∧ Gr w w' := by
  have HP : Hid (Calls Tryd.prog 10 #[.string ⟨#[108, 111, 111, 107, 32, 97]⟩] w (RetOp w (parseO [108, 111, 111, 107, 32, 97]))) := opParse_any [108, 111, 111, 107, 32, 97] w (by decide) hM hT
  have HT : Hid (∀ wr B p q, Gr w wr → Is wr B p q [3, 2, 1] → Calls Tryd.prog 14 #[.agg #[.int .i64 0, .slice none 0 0, .slice B p q, .string ⟨#[]⟩]] wr fun e w' => e = .returned (.string ⟨#[111, 107, 32, 51, 32, 50, 32, 49]⟩) ∧ Gr wr w') := fun wr B p q g h => by
    have := tell_any an321 none B 0 0 p q wr (Sl.nil _ _) h (by decide) (by decide) (by decide) (by decide) (hT.mono g)
    rw [tell_321] at this
    exact this
  rw [parse_look] at HP
  clear hT hM
  go_enter Tryd.func7, Tryd.ntmps7
  go_wp2_with fail
  refine HP.out.mono ?_
  rintro e w5 ⟨A2, m2, c2, rfl, sx, g5⟩
  have HYB := setRow_heap (w5.alloc (.cells #[.int .i64 0, .string ⟨#[]⟩, .string ⟨#[]⟩, .int .i64 0, .int .i64 0, .int .i64 0, .int .i64 0, .slice none 0 0] 24)) w5.heap.size _ (opC look0 A2 m2 c2) _ _ (heap_alloc_new w5 _)
  have GS0 : Gr w5 ((w5.alloc (.cells #[.int .i64 0, .string ⟨#[]⟩, .string ⟨#[]⟩, .int .i64 0, .int .i64 0, .int .i64 0, .int .i64 0, .slice none 0 0] 24)).setRow w5.heap.size (opC look0 A2 m2 c2)) := below_row39 ((Below.refl _ _).alloc (Nat.le_refl _) _) (Nat.le_refl _) _
  have GX := Lib.hid (g5.trans GS0)
  have HY8 : Hid (∀ (i : Nat) (v : Value), (opC look0 A2 m2 c2).toList[i]? = some v → ((w5.alloc (.cells #[.int .i64 0, .string ⟨#[]⟩, .string ⟨#[]⟩, .int .i64 0, .int .i64 0, .int .i64 0, .int .i64 0, .slice none 0 0] 24)).setRow w5.heap.size (opC look0 A2 m2 c2)).cell? ⟨w5.heap.size, i, none⟩ = some v) := fun i v h => ((show Blk ((w5.alloc (.cells #[.int .i64 0, .string ⟨#[]⟩, .string ⟨#[]⟩, .int .i64 0, .int .i64 0, .int .i64 0, .int .i64 0, .slice none 0 0] 24)).setRow w5.heap.size (opC look0 A2 m2 c2)) w5.heap.size 24 (opC look0 A2 m2 c2).toList from HYB).cell i).trans h
  have e0 := HY8.out 0 (.int .i64 9) rfl
  have e1 := HY8.out 1 (.string ⟨#[97]⟩) rfl
  clear HYB GS0 g5 sx
  go_wp2_with (refine wpList_store_row rfl 24 (.tmp 1) (.tmp 5) rfl w5.heap.size (opC look0 A2 m2 c2) rfl rfl 24 #[.int .i64 0, .string ⟨#[]⟩, .string ⟨#[]⟩, .int .i64 0, .int .i64 0, .int .i64 0, .int .i64 0, .slice none 0 0] (by exact heap_alloc_new w5 _) opSize rfl (opOne _ _ _ _) ?_)
  obtain ⟨W, hW⟩ : ∃ W, W = ((w5.alloc (.cells #[.int .i64 0, .string ⟨#[]⟩, .string ⟨#[]⟩, .int .i64 0, .int .i64 0, .int .i64 0, .int .i64 0, .slice none 0 0] 24)).setRow w5.heap.size (opC look0 A2 m2 c2)) := ⟨_, rfl⟩
  have hsz : W.heap.size = w5.heap.size + 1 := by rw [hW]; simp [World.setRow]
  rw [← hW] at GX ⊢
  have hb := Blk.new W 3 #[.int .i64 3, .int .i64 2, .int .i64 1]
  rw [hsz] at hb
  have G3 := Lib.hid (GX.out.trans (Gr.alloc W (.cells #[.int .i64 3, .int .i64 2, .int .i64 1] 3)))
  refine (HT.out _ _ _ _ G3.out ⟨rfl, Nat.le_refl _, by decide, fun _ => ⟨_, 0, rfl, fun j u hu => by rw [Nat.zero_add]; exact (hb.cell j).trans hu⟩⟩).mono ?_
  rintro e w6 ⟨rfl, g6⟩
  have G6 := Lib.hid (G3.out.trans g6)
  clear g6 hb hW e0 e1 HY8
  go_wp2_with fail
  go_ret
  exact ⟨rfl, G6.out⟩
set_option maxRecDepth 100000 in
theorem light39_any (a : AnD) (A B : Option Addr) (m c p q : Nat) (w : World) (hA : Bs w A m c a.b) (hB : Is w B p q a.n) :
    Calls Tryd.prog 13 #[.agg (anC a A m c B p q)] w fun e w' => e = .returned (.bool (decide (a.b.length ≤ 100) && decide (a.n.length ≤ 20) && decide (a.t.length ≤ 100))) ∧ Gr w w' := by
  have hm := hA.len
  have hp := hB.len
  have HX : Hid (∀ wq, Gr (w.alloc (.cells (anC a A m c B p q) 37)) wq → ∀ (i : Nat) (v : Value), (anC a A m c B p q).toList[i]? = some v → wq.cell? ⟨w.heap.size, i, none⟩ = some v) := fun wq g i v h => (((Blk.new w 37 (anC a A m c B p q)).mono g).cell i).trans h
  have G0 : Hid (Gr w (w.alloc (.cells (anC a A m c B p q) 37))) := Gr.alloc w _
  have c1 := HX.out _ (Gr.refl _) 1 _ rfl
  have c2 := HX.out _ (Gr.refl _) 2 _ rfl
  have c3 := HX.out _ (Gr.refl _) 3 _ rfl
  obtain ⟨t, ht⟩ : ∃ t : ByteArray, t = ⟨a.t.toArray⟩ := ⟨_, rfl⟩
  have htz : t.size = a.t.length := by rw [ht]; exact size_of' _
  have hst : strc a.t = .string t := by rw [ht]; rfl
  rw [hm, hp, ← htz]
  rw [hst] at c3
  clear hA hB HX hm hp htz hst ht
  go_enter Tryd.func13, Tryd.ntmps13
  have dI : ∀ n k : Nat, decide ((n : Int) ≤ (k : Int)) = decide (n ≤ k) := fun n k => by
    by_cases h : n ≤ k
    · rw [decide_eq_true h, decide_eq_true (by omega)]
    · rw [decide_eq_false h, decide_eq_false (by omega)]
  by_cases h1 : m ≤ 100
  · by_cases h2 : p ≤ 20
    · go_wp2_with fail
      go_ret
      refine ⟨?_, G0.out⟩
      rw [decide_eq_true h1, decide_eq_true h2]
      exact congrArg (fun b => Ending.returned (.bool b)) (dI t.size 100)
    · go_wp2_with fail
      go_ret
      exact ⟨rfl, G0.out⟩
  · go_wp2_with fail
    go_ret
    exact ⟨rfl, G0.out⟩
end Go.Proofs.YtadenlhnfkccaaaDoor
