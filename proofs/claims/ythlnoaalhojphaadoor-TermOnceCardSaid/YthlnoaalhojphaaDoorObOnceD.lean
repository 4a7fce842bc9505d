/- The law TermOnce, walked. No condition. -/
import Derived.Test.YthlnoaalhojphaaDoorObSizesD
import Derived.Test.YthlnoaalhojphaaDoorObNilT
import Derived.Outline
namespace Go.Proofs.YthlnoaalhojphaaDoor
open Go.RowKit
set_option linter.unusedVariables false
/-- What the walk of one id ends in. -/
structure OnceAt (w wr : World) (g bm n : Nat) (T : List Nd) (k : Nat) : Prop where
  t : ∃ vl vs, TbF w wr g T vl vs bm
  k1 : 1 ≤ k
  k2 : k ≤ n + 1
/-- The act with its parts laid, one by one. -/
theorem act_set {w5 wy : World} {a b c d : Value} (hg : Gr w5 wy) (hb : Blk wy w5.heap.size 32 [a, b, c, d]) (i : Nat) (u : Value) : Gr w5 (wy.setCell ⟨w5.heap.size, i, none⟩ u) ∧ Blk (wy.setCell ⟨w5.heap.size, i, none⟩ u) w5.heap.size 32 ([a, b, c, d].set i u) :=
  ⟨((Tch.gr (S := fun x => x = w5.heap.size) hg).trans (Tch.set _ _ rfl)).to_gr (fun b hb e => by omega), hb.set i u⟩
set_option maxRecDepth 100000 in
set_option maxHeartbeats 2000000 in
theorem termOnce_walk (A : Option Addr) (n c : Nat) (L : List Ac) (w : World) (h : Rs Ac.cells 4 w A n c L) (hok : ∀ x ∈ L, x.ok) :
    Calls Tryd.prog 4 #[.slice A n c] w fun e w' => e = .returned (.bool true) ∧ Below w.heap.size w w' := by
  have HLI := Lib.hid (light15_any A n c L w h hok)
  have HAL := Lib.hid alive15_any
  have hmax := h.max
  have hcap := h.cap
  cases hlt : lightA L with
  | false =>
    rw [hlt] at HLI
    clear h hok hlt
    go_enter Tryd.func4, Tryd.ntmps4
    go_wp2_with fail
    refine HLI.out.mono ?_
    rintro e w1 ⟨rfl, rfl⟩
    go_wp2_with fail
    refine (HAL.out _).mono ?_
    rintro e w2 ⟨rfl, b2⟩
    go_wp2_with fail
    go_ret
    exact ⟨rfl, b2⟩
  | true =>
    rw [hlt] at HLI
    have hsm := light_parts hlt
    have hln : L.length = n := h.1
    have HG : Hid (∀ k, k ≤ 1000 → TGood (madeT (L.take k)) k) := madeT_good L hok
    have HS : Hid (∀ k x, L[k]? = some x → madeT (L.take (k + 1)) = stepT (madeT (L.take k)) x) := madeT_snoc L
    have TG := Lib.hid (madeT_all L hok (by omega))
    have TK := Lib.hid (madeT_tc L hsm.2)
    have HL := Lib.hid hln
    have HH := Lib.hid h; have HOK := Lib.hid hok
    have hT60 : (madeT L).length ≤ 60 := by have := TG.out.l; omega
    have hn60 : n ≤ 60 := by omega
    clear h hok hlt hsm hln
    go_enter Tryd.func4, Tryd.ntmps4
    go_wp2_with fail
    refine HLI.out.mono ?_
    rintro e w0 ⟨rfl, rfl⟩
    go_wp2_with fail
    refine (termNew_any w).mono ?_
    rintro e w1 ⟨g, bm, rfl, hf0, hg0⟩
    have HF0 := Lib.hid hf0
    clear hf0 hg0
    go_wp2_with fail
    go_loopw [4] (fun i wr => ∃ (k : Nat) (vl vs : Value), k ≤ n ∧ i = .int .i64 k ∧ TbF w wr g (madeT (L.take k)) vl vs bm) (fun i _ => n - (Go.RowKit.intOf i).toNat)
    case atStart => exact ⟨0, _, _, Nat.zero_le _, rfl, HF0.out⟩
    case round =>
      obtain ⟨k, vl, vs, hk, rfl, htw⟩ := hrel
      have HT := Lib.hid htw; clear htw HF0
      by_cases hlt : k < n
      · obtain ⟨b, o, y, rfl, hy, c0, c1, c2, c3⟩ := Ac.row (HH.out.mono HT.out.below) hlt
        have HY := Lib.hid hy; clear hy
        have HD := Lib.hid (do_any w g (madeT (L.take k)) vl vs bm y.k y.a y.b y.s wr HT.out ((HG.out k (by omega)).i.ok (Nat.le_trans (HG.out k (by omega)).l (by omega))) (HOK.out y (List.mem_of_getElem? HY.out)).2.2.2)
        have t0 : decide ((k : Int) < (n : Int)) = true := decide_eq_true (by omega)
        go_wp2_with fail
        refine HD.out.mono ?_
        rintro e w2 ⟨vl', vs', rfl, hf, hc⟩
        have HF := Lib.hid hf
        clear hf hc c0 c1 c2 c3 HD
        go_wp2_with fail
        refine ⟨⟨k + 1, vl', vs', hlt, by simp, ?_⟩, by simp [Go.RowKit.intOf]; omega⟩
        rw [HS.out k y HY.out]
        exact HF.out
      · obtain rfl : k = n := by omega
        have t0 : decide ((k : Int) < (k : Int)) = false := by simp
        have hT := HT.out
        rw [show L.take k = L from List.take_of_length_le (by rw [HL.out]; exact Nat.le_refl _)] at hT
        have TF := Lib.hid hT; clear hT HT
        generalize madeT L = T at *
        have HLN := Lib.hid (len_any g T wr TF.out.rd)
        obtain ⟨t, hTl⟩ : ∃ t, t = T.length := ⟨_, rfl⟩
        have HTL := Lib.hid hTl
        rw [← hTl] at hT60 HLN
        clear HLI HG HS hTl
        go_wp2_with fail
        refine HLN.out.mono ?_
        rintro e w2 ⟨rfl, h2⟩
        obtain rfl : wr = w2 := h2
        obtain ⟨wx, hwx⟩ : ∃ wx : World, wx = wr := ⟨_, rfl⟩
        subst hwx
        go_wp2_with fail
        clear t0 HLN
        go_loopw [6] (fun i wr => ∃ k : Nat, i = .int .i64 k ∧ OnceAt w wr g bm t T k) (fun i _ => t + 1 - (Go.RowKit.intOf i).toNat)
        case atStart => exact ⟨1, rfl, ⟨⟨_, _, TF.out⟩, Nat.le_refl _, by omega⟩⟩
        case round =>
          obtain ⟨k, rfl, ⟨vl1, vs1, hf⟩, hk1, hkt⟩ := hrel
          have HF := Lib.hid hf
          clear hf TF
          by_cases hlk : k ≤ t
          · have t0 : decide ((k : Int) ≤ (t : Int)) = true := decide_eq_true (by omega)
            obtain ⟨x, hx, hke, hpe, hse, hle, hpp, hp2⟩ := at_id TG.out.i.parts hk1 (by rw [← HTL.out]; exact hlk)
            have hxk := TG.out.i.kinds x (List.mem_of_getElem? hx)
            have HPP := Lib.hid hpp
            have hTk : T.length ≤ 1000 := by rw [← HTL.out]; omega
            have HRD : Hid (∀ wq, Gr wr wq → TRd wq g T) := fun wq hq => HF.out.rd.mono hq
            have HPA := Lib.hid (parts_any g T (k : Int) wr HF.out.rd TG.out.i.kinds ⟨by omega, by omega⟩)
            have HKA := Lib.hid (fun wq (hq : Gr wr wq) => kind_any g T (k : Int) wq (HRD.out wq hq) TG.out.i.kinds ⟨by omega, by omega⟩)
            have HLA := Lib.hid (fun wq (hq : Gr wr wq) => label_any g T (k : Int) wq (HRD.out wq hq) TG.out.i.kinds ⟨by omega, by omega⟩)
            rw [hpe] at HPA
            rw [hke] at HKA
            rw [hle] at HLA
            have hls : (if x.k = 2 ∨ x.k = 3 then x.s else ⟨#[]⟩ : ByteArray).size ≤ maxLen := by
              split
              · exact (TG.out.i.fit x (List.mem_of_getElem? hx)).2.2.2
              · decide
            have HDO := Lib.hid (fun wq (hq : Gr wr wq) => do_any w g T vl1 vs1 bm (x.k : Int) ((x.parts.getD 0 0 : Nat) : Int) ((x.parts.getD 1 0 : Nat) : Int) (if x.k = 2 ∨ x.k = 3 then x.s else ⟨#[]⟩) wq (HF.out.gr hq) (TG.out.i.ok hTk) hls)
            have HAG : Hid (x.k ≠ 1 → doT T (x.k : Int) ((x.parts.getD 0 0 : Nat) : Int) ((x.parts.getD 1 0 : Nat) : Int) (if x.k = 2 ∨ x.k = 3 then x.s else ⟨#[]⟩) = (T, k)) := fun h1 => by
              have := doT_again TG.out.i TK.out hx h1
              rwa [show k - 1 + 1 = k by omega] at this
            have hone : x.k = 1 → x.parts = [] := fun q => by simp [Nd.parts, q]
            clear hx hke hle hpp hse hpe hls
            generalize (if x.k = 2 ∨ x.k = 3 then x.s else ⟨#[]⟩ : ByteArray) = lb at *
            generalize x.parts = ps at *
            generalize x.k = kd at *
            go_wp2_with fail
            refine HPA.out.mono ?_
            rintro e w3 ⟨A3, c3, rfl, i3, g3, _⟩
            have I3 := Lib.hid i3; have G3 := Lib.hid g3
            have hc3 := i3.cap; have hm3 := i3.max
            clear i3 g3 t0
            rw [List.length_map] at hc3 ⊢
            go_wp2_with fail
            refine (HKA.out _ G3.out).mono ?_
            rintro e w4 ⟨rfl, g4⟩
            have G4 := Lib.hid (G3.out.trans g4); have I4 := Lib.hid (I3.out.mono g4); clear g4
            go_wp2_with fail
            refine (HLA.out _ G4.out).mono ?_
            rintro e w5 ⟨rfl, g5⟩
            have G5 := Lib.hid (G4.out.trans g5); have I5 := Lib.hid (I4.out.mono g5); clear g5 I3 I4
            go_wp2_with fail
            go_loopw [9] (fun q wq => ∃ j : Nat, j ≤ ps.length ∧ q = .int .i64 j ∧ Gr w5 wq ∧ Blk wq w5.heap.size 32 [.int .i64 (kd : Int), .int .i64 0, .int .i64 0, .string lb]) (fun q _ => ps.length - (Go.RowKit.intOf q).toNat)
            case atStart => exact ⟨0, Nat.zero_le _, rfl, Gr.alloc _ _, Blk.new _ _ _⟩
            case round =>
              obtain ⟨j, hj, rfl, hgq, hbk⟩ := hrel
              obtain ⟨wy, hwy⟩ : ∃ wy : World, wy = wr := ⟨_, rfl⟩
              subst hwy
              have GQ := Lib.hid hgq; have BK := Lib.hid hbk; clear hgq hbk
              by_cases hlj : j < ps.length
              · have t1 : decide ((j : Int) < (ps.length : Int)) = true := decide_eq_true (by omega)
                obtain ⟨b3, o3, rfl, hc3'⟩ := Is.addr (I5.out.mono GQ.out) (by rw [List.length_map]; omega)
                have hpr := HPP.out ps[j] (List.getElem_mem hlj)
                have hgd : ps.getD j 0 = ps[j] := by rw [List.getD_eq_getElem?_getD, List.getElem?_eq_getElem hlj]; rfl
                have u0 := hc3' j (by rw [List.length_map]; exact hlj)
                rw [ints_parts ps j hlj] at u0
                rw [← hgd] at hpr
                clear hc3' hgd
                generalize ps.getD j 0 = p at *
                have t2 : decide ((k : Int) ≤ (p : Int)) = false := decide_eq_false (by omega)
                have t3 : decide ((p : Int) < 1) = false := decide_eq_false (by omega)
                go_wp2_with fail
                exact ⟨⟨j + 1, by omega, by simp, GQ.out, BK.out⟩, by simp [Go.RowKit.intOf]; omega⟩
              · obtain rfl : j = ps.length := by omega
                have t1 : decide ((ps.length : Int) < (ps.length : Int)) = false := by simp
                have d0 : wy.cell? ⟨w5.heap.size, 0, none⟩ = some (.int .i64 (kd : Int)) := (BK.out.cell 0).trans rfl
                by_cases hkd : kd = 1
                · have T9 := Lib.hid (HF.out.gr (G5.out.trans GQ.out))
                  subst hkd
                  go_wp2_with fail
                  exact ⟨⟨k + 1, by simp, ⟨⟨_, _, T9.out⟩, by omega, by omega⟩⟩, by simp [Go.RowKit.intOf]; omega⟩
                · replace HAG := Lib.hid (HAG.out hkd)
                  have t5 : ((kd : Int) == 1) = false := by rw [beq_eq_false_iff_ne]; omega
                  have hlt9 := BK.out.lt
                  have GG := Lib.hid (fun wq (hq : Gr w5 wq) => G5.out.trans hq)
                  match ps, hp2, HPP, HDO, HAG, I5, hj, hlj, t1, hc3 with
                  | [], _, _, HDO, HAG, I5, _, _, t1, hc3 =>
                    have d1 : wy.cell? ⟨w5.heap.size, 1, none⟩ = some (.int .i64 0) := (BK.out.cell 1).trans rfl
                    have d2 : wy.cell? ⟨w5.heap.size, 2, none⟩ = some (.int .i64 0) := (BK.out.cell 2).trans rfl
                    have d3 : wy.cell? ⟨w5.heap.size, 3, none⟩ = some (.string lb) := (BK.out.cell 3).trans rfl
                    go_wp2_with fail
                    refine (HDO.out _ (GG.out _ GQ.out)).mono ?_
                    rintro e w9 ⟨vl9, vs9, rfl, t9, _⟩
                    rw [HAG.out] at t9 ⊢
                    have T9 := Lib.hid t9; clear t9
                    go_wp2_with fail
                    exact ⟨⟨k + 1, by simp, ⟨⟨_, _, T9.out⟩, by omega, by omega⟩⟩, by simp [Go.RowKit.intOf]; omega⟩
                  | [a], _, _, HDO, HAG, I5, _, _, t1, hc3 =>
                    obtain ⟨b3, o3, rfl, hc3'⟩ := Is.addr (I5.out.mono GQ.out) (by simp)
                    have u0 : wy.cell? ⟨b3, o3, none⟩ = some (.int .i64 (a : Int)) := hc3' 0 (by simp)
                    have y1 := BK.out.free 1
                    obtain ⟨ga, ba⟩ := act_set GQ.out BK.out 1 (.int .i64 (a : Int))
                    have GA := Lib.hid ga
                    have d1 := (ba.cell 1).trans (show _ = some (Value.int .i64 (a : Int)) from rfl)
                    have d2 := (ba.cell 2).trans (show _ = some (Value.int .i64 0) from rfl)
                    have d3 := (ba.cell 3).trans (show _ = some (Value.string lb) from rfl)
                    have e0 := (ba.cell 0).trans (show _ = some (Value.int .i64 (kd : Int)) from rfl)
                    have d1' : wy.cell? ⟨w5.heap.size, 1, none⟩ = some (.int .i64 0) := (BK.out.cell 1).trans rfl
                    clear ga ba hc3'
                    go_wp2_with fail
                    refine (HDO.out _ (GG.out _ GA.out)).mono ?_
                    rintro e w9 ⟨vl9, vs9, rfl, t9, _⟩
                    rw [HAG.out] at t9 ⊢
                    have T9 := Lib.hid t9; clear t9
                    go_wp2_with fail
                    exact ⟨⟨k + 1, by simp, ⟨⟨_, _, T9.out⟩, by omega, by omega⟩⟩, by simp [Go.RowKit.intOf]; omega⟩
                  | [a, b'], _, _, HDO, HAG, I5, _, _, t1, hc3 =>
                    obtain ⟨b3, o3, rfl, hc3'⟩ := Is.addr (I5.out.mono GQ.out) (by simp)
                    have u0 : wy.cell? ⟨b3, o3, none⟩ = some (.int .i64 (a : Int)) := hc3' 0 (by simp)
                    have y1 := BK.out.free 1
                    obtain ⟨ga, ba⟩ := act_set GQ.out BK.out 1 (.int .i64 (a : Int))
                    obtain ⟨b4, o4, e4, hc4'⟩ := Is.addr (I5.out.mono ga) (by simp)
                    obtain ⟨rfl, rfl⟩ : b3 = b4 ∧ o3 = o4 := by injection e4 with e4; injection e4 with e1 e2; exact ⟨e1, e2⟩
                    have u1 : (wy.setCell ⟨w5.heap.size, 1, none⟩ (.int .i64 (a : Int))).cell? ⟨b3, o3 + 1, none⟩ = some (.int .i64 (b' : Int)) := hc4' 1 (by simp)
                    have y2 := ba.free 2
                    have z2 := (ba.cell 2).trans (show _ = some (Value.int .i64 0) from rfl)
                    have hlt8 := ba.lt
                    obtain ⟨gb, bb⟩ := act_set ga ba 2 (.int .i64 (b' : Int))
                    have GB := Lib.hid gb
                    have d1 := (bb.cell 1).trans (show _ = some (Value.int .i64 (a : Int)) from rfl)
                    have d2 := (bb.cell 2).trans (show _ = some (Value.int .i64 (b' : Int)) from rfl)
                    have d3 := (bb.cell 3).trans (show _ = some (Value.string lb) from rfl)
                    have e0 := (bb.cell 0).trans (show _ = some (Value.int .i64 (kd : Int)) from rfl)
                    have d1' : wy.cell? ⟨w5.heap.size, 1, none⟩ = some (.int .i64 0) := (BK.out.cell 1).trans rfl
                    clear ga ba gb bb hc3' hc4' e4
                    go_wp2_with fail
                    refine (HDO.out _ (GG.out _ GB.out)).mono ?_
                    rintro e w9 ⟨vl9, vs9, rfl, t9, _⟩
                    rw [HAG.out] at t9 ⊢
                    have T9 := Lib.hid t9; clear t9
                    go_wp2_with fail
                    exact ⟨⟨k + 1, by simp, ⟨⟨_, _, T9.out⟩, by omega, by omega⟩⟩, by simp [Go.RowKit.intOf]; omega⟩
          · obtain rfl : k = t + 1 := by omega
            have t0 : decide (((t + 1 : Nat) : Int) ≤ (t : Int)) = false := decide_eq_false (by omega)
            have t1 : decide ((t : Int) + 1 ≤ (t : Int)) = false := decide_eq_false (by omega)
            have HLN := Lib.hid (len_any g T wr HF.out.rd)
            rw [← HTL.out] at HLN
            have HB := Lib.hid HF.out.below
            go_wp2_with fail
            refine HLN.out.mono ?_
            rintro e w2 ⟨rfl, h2⟩
            obtain rfl : wr = w2 := h2
            clear t0 t1
            go_wp2_with fail
            refine (atomNil_any _).mono ?_
            rintro e w3 ⟨rfl, g3⟩
            have G3 := Lib.hid g3; clear g3
            go_wp2_with fail
            refine (textNil_any _ _).mono ?_
            rintro e w4 ⟨rfl, g4⟩
            have G4 := Lib.hid (G3.out.trans g4); clear g4
            go_wp2_with fail
            refine (kdfNil_any _ _ _).mono ?_
            rintro e w5 ⟨rfl, g5⟩
            have G5 := Lib.hid (G4.out.trans g5); clear g5
            go_wp2_with fail
            refine (mixNil_any _ _ _).mono ?_
            rintro e w6 ⟨rfl, g6⟩
            have G6 := Lib.hid (G5.out.trans g6); clear g6
            go_wp2_with fail
            refine (encNil_any _ _ _).mono ?_
            rintro e w7 ⟨rfl, g7⟩
            have G7 := Lib.hid (G6.out.trans g7); clear g7
            go_wp2_with fail
            refine (lenNil_any _).mono ?_
            rintro e w8 ⟨rfl, g8⟩
            have G8 := Lib.hid (G7.out.trans g8); clear g8
            go_wp2_with fail
            refine (kindNil_any _ _).mono ?_
            rintro e w9 ⟨rfl, g9⟩
            have G9 := Lib.hid (G8.out.trans g9); clear g9
            go_wp2_with fail
            refine (sizeNil_any _ _).mono ?_
            rintro e w10 ⟨rfl, g10⟩
            have G10 := Lib.hid (G9.out.trans g10); clear g10
            go_wp2_with fail
            refine (partsNil_any _ _).mono ?_
            rintro e w11 ⟨rfl, g11⟩
            have G11 := Lib.hid (G10.out.trans g11); clear g11
            go_wp2_with fail
            refine (labelNil_any _ _).mono ?_
            rintro e w12 ⟨rfl, g12⟩
            have G12 := Lib.hid (G11.out.trans g12); clear g12
            go_wp2_with fail
            refine (printNil_any _ _).mono ?_
            rintro e w13 ⟨rfl, g13⟩
            have G13 := Lib.hid (G12.out.trans g13); clear g13
            go_wp2_with fail
            refine (HAL.out _).mono ?_
            rintro e w14 ⟨rfl, b14⟩
            have B14 := Lib.hid (below_both HB.out (G13.out.trans b14)); clear b14
            go_wp2_with fail
            go_ret
            exact ⟨rfl, B14.out⟩
end Go.Proofs.YthlnoaalhojphaaDoor
