/- Names: Join and Split, as the program says; rows of words. No condition. -/
import Derived.Test.YtciokbponfilfaaDoorObNameJ
import Derived.Test.YtciokbponfilfaaDoorObNameU
import Derived.Outline
namespace Go.Proofs.YtciokbponfilfaaDoor
open Go.RowKit
set_option linter.unusedVariables false
theorem notPart_any (l : List UInt8) (w : World) (hl : l.length < 9223372036854775807) : Calls Tryd.prog 25 #[strc l] w fun e w' => e = .returned (.bool (!partL l)) ∧ Gr w w' := by
  have HP : Hid (Calls Tryd.prog 26 #[strc l] w fun e w' => e = .returned (.bool (partL l)) ∧ Gr w w') := part_any l w hl
  go_enter Tryd.func25, Tryd.ntmps25
  go_wp2_with fail
  refine HP.out.mono ?_
  rintro e w2 ⟨rfl, g2⟩
  have G2 := Lib.hid g2; clear g2
  go_wp2_with fail
  go_ret
  exact ⟨rfl, G2.out⟩
theorem any_snoc {α : Type} (q : α → Bool) (l : List α) (k : Nat) (h : k < l.length) : (l.take (k + 1)).any q = ((l.take k).any q || q l[k]) := by
  rw [List.take_succ_eq_append_getElem h, List.any_append]; simp
set_option maxHeartbeats 1000000 in
theorem indexW (CL : Nat) (A : Option Addr) (n c : Nat) (ps : List (List UInt8)) (q : List UInt8 → Bool) (w : World) (h : Ws w A n c ps) (hen : ∀ args w, (callFunc CL args).run Tryd.prog w = .ok (.enter CL args) w) (hq : ∀ p ∈ ps, ∀ w', Gr w w' → Calls Tryd.prog CL #[strc p] w' fun e w'' => e = .returned (.bool (q p)) ∧ Gr w' w'') :
    Calls Tryd.prog 40 #[.slice A n c, .func (.func CL) #[] #[]] w fun e w' => ∃ r, e = .returned (.int .i64 r) ∧ decide (0 ≤ r) = ps.any q ∧ Gr w w' := by
  have hmax := h.max
  have hcap := h.cap
  have HL := Lib.hid h.len
  have HH := Lib.hid h; have HQ := Lib.hid hq; clear h hq
  go_enter Tryd.func40, Tryd.ntmps40
  go_wp2
  go_loopw [8] (fun i wr => ∃ k : Nat, k ≤ n ∧ i = .int .i64 k ∧ Gr w wr ∧ (ps.take k).any q = false) (fun i _ => n - (Go.RowKit.intOf i).toNat)
  case atStart => exact ⟨0, Nat.zero_le _, rfl, Gr.refl _, rfl⟩
  case round =>
    obtain ⟨k, hk, rfl, hbel, hall⟩ := hrel
    have HA := Lib.hid hall; have HB := Lib.hid hbel; clear hall
    by_cases hlt : k < n
    · obtain ⟨b, o, rfl, hcc⟩ := Ws.addr (ps := ps) (HH.out.mono hbel) (by omega)
      have hkl : k < ps.length := by rw [HL.out]; exact hlt
      have c1 : wr.cell? ⟨b, o + k, none⟩ = some (strc ps[k]) := hcc k hkl
      have HC := Lib.hid (HQ.out ps[k] (List.getElem_mem hkl) wr hbel)
      have HS := Lib.hid (any_snoc q ps k hkl)
      have HT : Hid (q ps[k] = true → ps.any q = true) := fun hh => List.any_eq_true.2 ⟨_, List.getElem_mem hkl, hh⟩
      clear hcc hbel
      generalize ps[k] = x at *
      cases he : q x
      · have HT2 : Hid ((ps.take (k + 1)).any q = false) := by show _ = _; rw [HS.out, HA.out, he]; rfl
        rw [he] at HC
        clear he
        go_wp2_with fail
        refine HC.out.mono ?_
        rintro e w1 ⟨rfl, b1⟩
        have B1 := Lib.hid b1; clear b1
        go_wp2_with fail
        refine ⟨⟨k + 1, by omega, by first | trivial | go_num, HB.out.trans B1.out, HT2.out⟩, ?_⟩
        show n - ((k : Int) + 1).toNat < n - (k : Int).toNat
        omega
      · have HF : Hid (ps.any q = true) := HT.out he
        rw [he] at HC
        clear he
        go_wp2_with fail
        refine HC.out.mono ?_
        rintro e w1 ⟨rfl, b1⟩
        have B1 := Lib.hid b1; clear b1
        go_wp2_with fail
        go_ret
        exact ⟨k, rfl, by rw [HF.out, decide_eq_true_iff]; omega, HB.out.trans B1.out⟩
    · obtain rfl : n = k := by omega
      have HF : Hid (ps.any q = false) := by have := HA.out; rwa [List.take_of_length_le (by rw [HL.out]; omega)] at this
      clear hbel
      go_wp2_with fail
      go_ret
      exact ⟨-1, rfl, by rw [HF.out]; rfl, HB.out⟩
theorem containsW (CL : Nat) (A : Option Addr) (n c : Nat) (ps : List (List UInt8)) (q : List UInt8 → Bool) (w : World) (h : Ws w A n c ps) (hen : ∀ args w, (callFunc CL args).run Tryd.prog w = .ok (.enter CL args) w) (hq : ∀ p ∈ ps, ∀ w', Gr w w' → Calls Tryd.prog CL #[strc p] w' fun e w'' => e = .returned (.bool (q p)) ∧ Gr w' w'') :
    Calls Tryd.prog 24 #[.slice A n c, .func (.func CL) #[] #[]] w fun e w' => e = .returned (.bool (ps.any q)) ∧ Gr w w' := by
  have HI := Lib.hid (indexW CL A n c ps q w h hen hq)
  clear h hq hen
  go_enter Tryd.func24, Tryd.ntmps24
  go_wp2_with fail
  refine HI.out.mono ?_
  rintro e w1 ⟨r, rfl, hr, g1⟩
  have HR := Lib.hid hr; have G1 := Lib.hid g1; clear hr g1
  go_wp2_with fail
  go_ret
  exact ⟨ret_bool HR.out, G1.out⟩
theorem any_not (ps : List (List UInt8)) : ps.any (fun p => !partL p) = !ps.all partL := by
  induction ps with
  | nil => rfl
  | cons p ps ih => rw [List.any_cons, List.all_cons, ih, Bool.not_and]
set_option maxRecDepth 100000 in
set_option maxHeartbeats 1000000 in
theorem join_any (A : Option Addr) (n c : Nat) (ps : List (List UInt8)) (w : World) (h : Ws w A n c ps) (hB : ∀ p ∈ ps, p.length ≤ 10000) (hT : U8 w) : Calls Tryd.prog 7 #[.slice A n c] w (RetJ w (joinR ps)) := by
  have hmax := h.max
  have hcap := h.cap
  have HL := Lib.hid h.len
  have HH := Lib.hid h; have HBB := Lib.hid hB; have HT := Lib.hid hT
  have hll := h.len
  have HCO := Lib.hid (containsW 25 A n c ps (fun p => !partL p) w h (enters_of Tryd.func25 (by kernel_rfl) rfl) (fun p hp w' g => notPart_any p w' (by have := hB p hp; omega)))
  clear h hB hT
  obtain ⟨r, hr⟩ : ∃ r, r = joinR ps := ⟨_, rfl⟩
  rw [← hr]
  by_cases h1 : n < 1
  · have HF : Hid (r = ([], 3)) := by show _ = _; rw [hr]; unfold joinR; rw [if_pos (.inl (by omega))]
    have t1 : ((n : Int) == 0) = true := beq_iff_eq.2 (by omega)
    clear hr hll
    go_enter Tryd.func7, Tryd.ntmps7
    go_wp2_with fail
    go_ret2
    rw [HF.out]
    exact ⟨rfl, Gr.refl w⟩
  have t1 : ((n : Int) == 0) = false := beq_eq_false_iff_ne.2 (by omega)
  by_cases h4 : 4 < n
  · have HF : Hid (r = ([], 3)) := by show _ = _; rw [hr]; unfold joinR; rw [if_pos (.inr (by omega))]
    have t4 : decide ((4 : Int) < (n : Int)) = true := decide_eq_true (by omega)
    clear hr hll
    go_enter Tryd.func7, Tryd.ntmps7
    go_wp2_with fail
    go_ret2
    rw [HF.out]
    exact ⟨rfl, Gr.refl w⟩
  have t4 : decide ((4 : Int) < (n : Int)) = false := decide_eq_false (by omega)
  have HR : Hid (r = if ps.all partL = false then ([], 3) else if rightL (joinL ps) = false then ([], 6) else (joinL ps, 0)) := by
    show _ = _
    rw [hr]
    unfold joinR
    rw [if_neg (by omega)]
  clear hr hll
  have ha := any_not ps
  cases hal : ps.all partL with
  | false =>
    rw [hal] at ha
    rw [ha] at HCO
    have HF : Hid (r = ([], 3)) := by show _ = _; rw [HR.out, if_pos hal]
    clear ha hal
    go_enter Tryd.func7, Tryd.ntmps7
    go_wp2_with fail
    refine HCO.out.mono ?_
    rintro e w2 ⟨rfl, g2⟩
    have G2 := Lib.hid g2; clear g2
    go_wp2_with fail
    go_ret2
    rw [HF.out]
    exact ⟨rfl, G2.out⟩
  | true =>
    rw [hal] at ha
    rw [ha] at HCO
    obtain ⟨b, o, rfl, hcl⟩ := Ws.addr HH.out (by omega)
    have hjl := joinL_len 10000 ps HBB.out
    rw [HL.out] at hjl
    have hjl2 : (joinL ps).length ≤ 40004 := by omega
    have HRT := Lib.hid (fun wr (g : Gr w wr) => right_any (joinL ps) wr (by omega) (HT.out.mono g))
    have hxs : (ps.map fun p => (⟨p.toArray⟩ : ByteArray)).map (·.data.toList) = ps := by rw [List.map_map]; exact List.map_id'' (fun p => rfl) ps
    have HJ : Hid (∀ wr, Gr w wr → Calls Tryd.prog 27 #[.slice (some ⟨b, o, none⟩) n c, .string ⟨#[46]⟩] wr fun e w' => e = .returned (.string ⟨(joinL ps).toArray⟩) ∧ Gr wr w') := fun wr g => by
      have hcl2 := hcl 0 (by rw [HL.out]; omega)
      have hlt := World.block_lt_of_cell? w _ hcl2
      have := Tryd.strings_Join b o c (ps.map fun p => (⟨p.toArray⟩ : ByteArray)) ⟨#[46]⟩ wr (fun j x hx => by
        rw [List.getElem?_map] at hx
        obtain ⟨p, hp, rfl⟩ := Option.map_eq_some_iff.1 hx
        obtain ⟨hj, rfl⟩ := List.getElem?_eq_some_iff.1 hp
        exact (g.cell (p := ⟨b, o + j, none⟩) (World.block_lt_of_cell? w _ (hcl j hj))).trans (hcl j hj)) (Nat.lt_of_lt_of_le hlt g.size) (by rw [List.length_map, HL.out]; omega) (by rw [List.length_map, HL.out]; omega) (by rw [hxs]; show (joinL ps).length ≤ _; omega)
      rw [hxs, List.length_map, HL.out] at this
      exact this
    clear ha hcl hxs hjl
    obtain ⟨t, ht⟩ : ∃ t : ByteArray, t = ⟨(joinL ps).toArray⟩ := ⟨_, rfl⟩
    simp only [← ht] at HRT HJ
    have HTT := Lib.hid ht
    clear ht
    cases hb : rightL (joinL ps) with
    | false =>
      rw [hb] at HRT
      have HF : Hid (r = ([], 6)) := by show _ = _; rw [HR.out, if_neg (by rw [hal]; decide), if_pos hb]
      clear hb hal
      go_enter Tryd.func7, Tryd.ntmps7
      go_wp2_with fail
      refine HCO.out.mono ?_
      rintro e w2 ⟨rfl, g2⟩
      have G2 := Lib.hid g2; clear g2
      go_wp2_with fail
      refine (HJ.out _ G2.out).mono ?_
      rintro e w3 ⟨rfl, g3⟩
      have G3 := Lib.hid (Gr.trans G2.out g3); clear g3
      go_wp2_with fail
      refine (HRT.out _ G3.out).mono ?_
      rintro e w4 ⟨rfl, g4⟩
      have G4 := Lib.hid (Gr.trans G3.out g4); clear g4
      go_wp2_with fail
      go_ret2
      rw [HF.out]
      exact ⟨rfl, G4.out⟩
    | true =>
      rw [hb] at HRT
      have HF : Hid (r = (joinL ps, 0)) := by show _ = _; rw [HR.out, if_neg (by rw [hal]; decide), if_neg (by rw [hb]; decide)]
      clear hb hal
      go_enter Tryd.func7, Tryd.ntmps7
      go_wp2_with fail
      refine HCO.out.mono ?_
      rintro e w2 ⟨rfl, g2⟩
      have G2 := Lib.hid g2; clear g2
      go_wp2_with fail
      refine (HJ.out _ G2.out).mono ?_
      rintro e w3 ⟨rfl, g3⟩
      have G3 := Lib.hid (Gr.trans G2.out g3); clear g3
      go_wp2_with fail
      refine (HRT.out _ G3.out).mono ?_
      rintro e w4 ⟨rfl, g4⟩
      have G4 := Lib.hid (Gr.trans G3.out g4); clear g4
      go_wp2_with fail
      go_ret2
      rw [HF.out]
      exact ⟨by rw [HTT.out]; rfl, G4.out⟩
/-- The library's bound on short searches stands. -/
def MLen (w : World) : Prop := ∃ m, w.cell? ⟨2, 0, none⟩ = some (.int .i64 m)
theorem MLen.mono {w w' : World} (h : MLen w) (g : Gr w w') : MLen w' := by
  obtain ⟨m, hm⟩ := h
  exact ⟨m, (g.cell (World.block_lt_of_cell? w _ hm)).trans hm⟩
/-- What Split tells: none, or a row just laid. -/
theorem split_any (l : List UInt8) (w : World) (hl : l.length ≤ 100000) (hT : U8 w) (hM : MLen w) : Calls Tryd.prog 10 #[.string ⟨l.toArray⟩] w (RetWs w (splitL l)) := by
  have HR := Lib.hid (right_any l w hl hT)
  have HM := Lib.hid hM
  have HP : Hid (∀ wr, MLen wr → Calls Tryd.prog 28 #[.string ⟨l.toArray⟩, .string ⟨#[46]⟩] wr (RetWs wr (piecesL l))) := fun wr ⟨m, hm⟩ => by
    have h := Tryd.strings_Split ⟨l.toArray⟩ ⟨#[46]⟩ m wr (by rw [size_of']; omega) hm (by decide)
    have hsp := split_pieces _ ⟨l.toArray⟩ rfl
    rw [hsp] at h
    have hln : (piecesL l).length = Lib.countB ⟨l.toArray⟩ ⟨#[46]⟩ + 1 := by
      have := congrArg List.length hsp
      rw [List.length_map, List.length_map, Lib.splitB_all _ (by decide) 0 _ _ rfl] at this
      exact this.symm
    refine h.mono ?_
    rintro e w' ⟨rfl, rfl⟩
    refine ⟨_, rfl, ?_⟩
    rw [← hln]
    exact (Blk.new wr 9 ((piecesL l).map strc).toArray).own (Nat.le_refl _) (Gr.alloc wr _) (by simp) (by have := (pieces_size l).1; simp only [maxLen]; omega)
  obtain ⟨s, hs⟩ : ∃ s : ByteArray, s = ⟨l.toArray⟩ := ⟨_, rfl⟩
  rw [← hs] at HR ⊢
  simp only [← hs] at HP
  clear hs hT hM
  cases hb : rightL l with
  | false =>
    rw [hb] at HR
    have HS : Hid (splitL l = []) := by show _ = _; unfold splitL; rw [if_neg (by rw [hb]; decide)]
    go_enter Tryd.func10, Tryd.ntmps10
    go_wp2_with fail
    refine HR.out.mono ?_
    rintro e w1 ⟨rfl, g1⟩
    have G1 := Lib.hid g1; clear g1
    go_wp2_with fail
    go_ret
    exact ⟨_, rfl, by rw [HS.out]; exact Own.nil' G1.out _ _⟩
  | true =>
    rw [hb] at HR
    have HS : Hid (splitL l = piecesL l) := by show _ = _; unfold splitL; rw [if_pos hb]
    go_enter Tryd.func10, Tryd.ntmps10
    go_wp2_with fail
    refine HR.out.mono ?_
    rintro e w1 ⟨rfl, g1⟩
    have G1 := Lib.hid g1; clear g1
    go_wp2_with fail
    refine (HP.out _ (HM.out.mono G1.out)).mono ?_
    rintro e w2 ⟨v, rfl, own⟩
    have OW := Lib.hid own; clear own
    go_wp2_with fail
    go_ret
    exact ⟨_, rfl, by rw [HS.out]; exact OW.out.onto G1.out⟩
end Go.Proofs.YtciokbponfilfaaDoor
