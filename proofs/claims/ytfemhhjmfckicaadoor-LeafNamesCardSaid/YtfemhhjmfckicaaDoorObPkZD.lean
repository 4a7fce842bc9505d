/- Own texts of this claim, one behind the other. No condition. -/
import Derived.Test.YtfemhhjmfckicaaDoorObPkU
import Derived.Test.YtfemhhjmfckicaaDoorObPkZC

/- The laws on leaf: names, and a row turned round. No condition. -/
namespace Go.Proofs.YtfemhhjmfckicaaDoor
open Go.RowKit
set_option linter.unusedVariables false
set_option linter.unusedSimpArgs false
theorem Rw.ws {w0 w : World} {A : Option Addr} {n c : Nat} {ls : List (List UInt8)} (h : Rw w0 w A n c ls) : Ws w A n c ls := by
  obtain ⟨hl, ⟨hc, hm⟩, h⟩ := h
  refine ⟨by rw [List.length_map, hl, Nat.mul_one], hc, hm, fun hn => ?_⟩
  rcases h with ⟨rfl, rfl, rfl⟩ | ⟨g, rfl, hg, hw, hH⟩
  · omega
  · refine ⟨g, 0, rfl, fun j u hu => ?_⟩
    have hj : j < ls.length := by have := (List.getElem?_eq_some_iff.1 hu).1; rwa [List.length_map] at this
    have h1 := (hH j (by simpa using hj)).1
    rw [h1]
    rw [List.getElem?_map, List.getElem?_eq_getElem hj] at hu
    rw [getElem!_pos ls.toArray j (by simpa using hj)]
    exact hu
theorem find_own {N : List (List UInt8)} (h : InOrder N) {i : Nat} (hi : i < N.length) (h0 : N[i] ≠ []) : findH N N[i] = (i : Int) := by
  unfold findH
  rw [if_neg h0]
  have : N.findIdx? (· == N[i]) = some i := by
    rw [List.findIdx?_eq_some_iff_getElem]
    refine ⟨hi, by simp, fun j hj => ?_⟩
    have h1 := List.pairwise_iff_getElem.1 h j i (by omega) hi hj
    simpa using ltH_ne h1
  rw [this]
/-- What the names' loop asks of each name. -/
theorem name_ok {hs N : List (List UInt8)} (h : NamesOf hs N) {i : Nat} (hi : i < N.length) : N[i] ≠ [] ∧ 0 ≤ findH hs N[i] ∧ findH N N[i] = (i : Int) := by
  have h1 := (h.2 N[i]).1 (List.getElem_mem hi)
  exact ⟨h1.2, find_some h1.1 h1.2, find_own h.1 hi h1.2⟩
theorem head_ok {hs N : List (List UInt8)} (h : NamesOf hs N) {x : List UInt8} (hx : x ∈ hs) (h0 : x ≠ []) : 0 ≤ findH N x := find_some ((h.2 x).2 ⟨hx, h0⟩) h0
/-- A row that is being turned round. -/
structure Tu (w0 w : World) (A : Option Addr) (n c g : Nat) (rest : List Value) (N ms : List (List UInt8)) : Prop where
  gr : Gr w0 w
  ws : Ws w A n c ms
  pm : ms.Perm N
  bl : 0 < n → A = some ⟨g, 0, none⟩ ∧ w0.heap.size ≤ g ∧ Blk w g 9 (ms.map strc ++ rest)
theorem Tu.start {w0 w : World} {v : Value} {n : Nat} {N : List (List UInt8)} (h : Own w0 w 9 1 v n (N.map strc)) : ∃ A c g rest, v = .slice A n c ∧ Tu w0 w A n c g rest N N := by
  obtain ⟨A, c, rfl, sl⟩ := h.slice
  by_cases h0 : 0 < n
  · obtain ⟨g, cap, rest, hv, hg, hb, h1, h2, h3⟩ := h.opened h0
    injection hv with e1 e2 e3
    exact ⟨A, c, g, rest, rfl, ⟨h.below, sl, List.Perm.refl _, fun _ => ⟨e1, hg, hb⟩⟩⟩
  · exact ⟨A, c, 0, [], rfl, ⟨h.below, sl, List.Perm.refl _, fun q => absurd q h0⟩⟩
/-- Two stores. -/
theorem Tu.swap {w0 w : World} {A : Option Addr} {n c g i j : Nat} {rest : List Value} {N ms : List (List UInt8)} (h : Tu w0 w A n c g rest N ms) (hi : i < ms.length) (hj : j < ms.length) :
    Tu w0 ((w.setCell ⟨g, i, none⟩ (strc ms[j])).setCell ⟨g, j, none⟩ (strc ms[i])) A n c g rest N ((ms.set i ms[j]).set j ms[i]) := by
  have hl := h.ws.len
  obtain ⟨hA, hg, hb⟩ := h.bl (by omega)
  have b1 := hb.set i (strc ms[j])
  rw [set_left _ _ _ _ (by rw [List.length_map]; exact hi), ← List.map_set] at b1
  have b2 := b1.set j (strc ms[i])
  rw [set_left _ _ _ _ (by rw [List.length_map, List.length_set]; exact hj), ← List.map_set] at b2
  have t : Tch (fun b => b = g) w ((w.setCell ⟨g, i, none⟩ (strc ms[j])).setCell ⟨g, j, none⟩ (strc ms[i])) := (Tch.set (S := fun b => b = g) ⟨g, i, none⟩ _ rfl).trans (Tch.set (S := fun b => b = g) ⟨g, j, none⟩ _ rfl)
  refine ⟨t.below h.gr h.gr.size (fun b e => e ▸ hg), ⟨by rw [List.length_map, List.length_set, List.length_set, hl, Nat.mul_one], h.ws.cap, h.ws.max, fun hn => ⟨g, 0, hA, fun k u hu => ?_⟩⟩, (List.set_set_perm hi hj).trans h.pm, fun _ => ⟨hA, hg, b2⟩⟩
  rw [Nat.zero_add, b2.cell]
  exact at_left hu
theorem Tu.free {w0 w : World} {A : Option Addr} {n c g : Nat} {rest : List Value} {N ms : List (List UInt8)} (h : Tu w0 w A n c g rest N ms) (hn : 0 < n) (i : Nat) : w.frozen? ⟨g, i, none⟩ = false := (h.bl hn).2.2.free i
theorem Tu.cell {w0 w : World} {A : Option Addr} {n c g : Nat} {rest : List Value} {N ms : List (List UInt8)} (h : Tu w0 w A n c g rest N ms) {i : Nat} (hi : i < ms.length) : w.cell? ⟨g, i, none⟩ = some (strc ms[i]) := by
  obtain ⟨_, _, hb⟩ := h.bl (by have := h.ws.len; omega)
  rw [hb.cell]
  refine at_left ?_
  rw [List.getElem?_map, List.getElem?_eq_getElem hi]
  rfl
theorem Tu.names {w0 w : World} {A : Option Addr} {n c g : Nat} {rest : List Value} {hs N ms M : List (List UInt8)} (h : Tu w0 w A n c g rest N ms) (hN : NamesOf hs N) (hM : NamesOf ms M) : M = N :=
  names_same hM (names_perm hN fun x => h.pm.mem_iff)
end Go.Proofs.YtfemhhjmfckicaaDoor

/- LeafNames: the walk. No condition. -/
namespace Go.Proofs.YtfemhhjmfckicaaDoor
open Go.RowKit
set_option linter.unusedVariables false
set_option linter.unusedSimpArgs false
set_option maxRecDepth 100000 in
set_option maxHeartbeats 4000000 in
theorem leafNames_walk (A : Option Addr) (n c : Nat) (hs : List (List UInt8)) (w : World) (h : Ws w A n c hs) (hz : ∀ p ∈ hs, p.length ≤ 9223372036854775807) (hT : U8 w) (hM : MLen w) :
    Calls Tryd.prog 4 #[.slice A n c] w fun e w' => e = .returned (.bool true) ∧ Below w.heap.size w w' := by
  show Calls _ _ _ _ fun e w' => e = .returned (.bool true) ∧ Gr w w'
  have hmax := h.max
  have hcap := h.cap
  have HLT := Lib.hid (light31_any A none n c 0 0 hs [] w h hz (Chg.nil w))
  have HAL : Hid (∀ wr, Gr w wr → Calls Tryd.prog 7 #[] wr fun e w' => e = .returned (.bool true) ∧ Gr wr w') := fun wr g => alive31_any wr (hT.mono g)
  have HH := Lib.hid h; have HT := Lib.hid hT; have HM := Lib.hid hM
  have HL := Lib.hid h.len
  clear h hT hM hz
  go_enter Tryd.func4, Tryd.ntmps4
  go_wp2_with fail
  refine HLT.out.mono ?_
  rintro e w1 ⟨b, rfl, hb, g1⟩
  have G1 := Lib.hid g1; clear g1
  cases b with
  | false =>
    go_wp2_with fail
    refine (HAL.out _ G1.out).mono ?_
    rintro e w2 ⟨rfl, g2⟩
    have G2 := Lib.hid (Gr.trans G1.out g2); clear g2
    go_wp2_with fail
    go_ret
    exact ⟨rfl, G2.out⟩
  | true =>
    have hlt := hb rfl
    have hn70 := hlt.h
    have hl := HL.out
    have HHH := Lib.hid hlt.hh
    have HNM := Lib.hid (names_any A n c hs w1 (HH.out.mono G1.out) (by omega) (fun x hx => by have := hlt.hh x hx; omega) (HT.out.mono G1.out) (HM.out.mono G1.out))
    clear hb hlt
    go_wp2_with fail
    refine HNM.out.mono ?_
    rintro e w2 ⟨A2, n2, c2, N, rfl, hN, hu, r2, g2⟩
    have HN := Lib.hid hN
    have HU := Lib.hid hu
    have W2 := Lib.hid r2.ws
    have hl2 := W2.out.len
    have hc2 := W2.out.cap
    have hm2 := W2.out.max
    have G2 := Lib.hid (Gr.trans G1.out g2)
    have hul : N.length ≤ 70 := Nat.le_trans hu (Nat.le_trans (used_le hs) (by omega))
    have HNL : Hid (∀ x ∈ N, x.length ≤ 100) := fun x hx => HHH.out x ((hN.2 x).1 hx).1
    clear hN hu r2 g2
    go_wp2_with fail
    go_loopw [4] (fun i wr => ∃ k : Nat, k ≤ n2 ∧ i = .int .i64 k ∧ wr = w2) (fun i _ => n2 - (intOf i).toNat)
    case atStart => exact ⟨0, Nat.zero_le _, rfl, rfl⟩
    case round =>
      obtain ⟨k, hk, rfl, rfl⟩ := hrel
      by_cases hkn : k < n2
      · have hkl : k < N.length := by omega
        obtain ⟨b, o, rfl, hcc⟩ := Ws.addr W2.out (by omega)
        obtain ⟨q0, q1, q2⟩ := name_ok HN.out hkl
        have F1 := Lib.hid (leafFind_any A n c hs N[k] wr (HH.out.mono G2.out) (by omega))
        have F2 := Lib.hid (leafFind_any _ n2 c2 N N[k] wr W2.out (by omega))
        rw [q2] at F2
        have c1 := hcc k hkl
        obtain ⟨xs, hxs⟩ : ∃ xs : ByteArray, xs = ⟨N[k].toArray⟩ := ⟨_, rfl⟩
        rw [← hxs] at c1
        have e1 : strc N[k] = .string xs := by rw [hxs]; rfl
        rw [e1] at F1 F2
        have hxe : xs.toList.isEmpty = false := by
          rw [hxs, ByteArray.toList_eq]
          cases hx : N[k] with
          | nil => exact absurd hx q0
          | cons a b => rfl
        obtain ⟨q, hq⟩ : ∃ q, q = findH hs N[k] := ⟨_, rfl⟩
        rw [← hq] at F1 q1
        have t1 : decide (q < 0) = false := decide_eq_false (by omega)
        have t2 : ((k : Int) != (k : Int)) = false := by simp
        clear hcc hxs e1 hq q0 q1 q2
        go_wp2_with fail
        refine F1.out.mono ?_
        rintro e w3 ⟨rfl, rfl⟩
        go_wp2_with fail
        refine F2.out.mono ?_
        rintro e w3 ⟨rfl, rfl⟩
        go_wp2_with fail
        refine ⟨⟨k + 1, by omega, by first | trivial | go_num, by first | trivial | rfl⟩, ?_⟩
        show n2 - ((k : Int) + 1).toNat < n2 - (k : Int).toNat
        omega
      · obtain rfl : k = n2 := by omega
        go_wp2_with fail
        go_loopw [5] (fun i wq => ∃ k : Nat, k ≤ n ∧ i = .int .i64 k ∧ wq = wr) (fun i _ => n - (intOf i).toNat)
        case atStart => exact ⟨0, Nat.zero_le _, rfl, rfl⟩
        case round =>
          obtain ⟨j, hj, rfl, rfl⟩ := hrel
          by_cases hjn : j < n
          · have hjl : j < hs.length := by omega
            obtain ⟨b, o, rfl, hcc⟩ := Ws.addr HH.out (by omega)
            have F2 := Lib.hid (leafFind_any _ k c2 N hs[j] wr W2.out (by omega))
            have HOK := Lib.hid (fun h0 => head_ok HN.out (List.getElem_mem hjl) h0)
            have c1 := (Below.cell G2.out (World.block_lt_of_cell? w _ (hcc j hjl))).trans (hcc j hjl)
            clear hcc
            generalize hs[j] = x at *
            obtain ⟨xs, hxs⟩ : ∃ xs : ByteArray, xs = ⟨x.toArray⟩ := ⟨_, rfl⟩
            rw [← hxs] at c1
            have e1 : strc x = .string xs := by rw [hxs]; rfl
            rw [e1] at F2
            have hxl : xs.toList = x := by rw [hxs, ByteArray.toList_eq]
            clear hxs e1
            by_cases h0 : x = []
            · have he : xs.toList.isEmpty = true := by rw [hxl, h0]; rfl
              clear hxl h0 HOK F2
              go_wp2_with fail
              refine ⟨⟨j + 1, by omega, by first | trivial | go_num, by first | trivial | rfl⟩, ?_⟩
              show n - ((j : Int) + 1).toNat < n - (j : Int).toNat
              omega
            · have he : xs.toList.isEmpty = false := by
                rw [hxl]
                cases x with
                | nil => exact absurd rfl h0
                | cons a b => rfl
              have hq0 := HOK.out h0
              obtain ⟨q, hq⟩ : ∃ q, q = findH N x := ⟨_, rfl⟩
              rw [← hq] at F2 hq0
              have t1 : decide (q < 0) = false := decide_eq_false (by omega)
              clear hxl h0 HOK hq hq0
              go_wp2_with fail
              refine F2.out.mono ?_
              rintro e w3 ⟨rfl, rfl⟩
              go_wp2_with fail
              refine ⟨⟨j + 1, by omega, by first | trivial | go_num, by first | trivial | rfl⟩, ?_⟩
              show n - ((j : Int) + 1).toNat < n - (j : Int).toNat
              omega
          · obtain rfl : j = n := by omega
            have OE := Lib.hid ((Blk.new wr 9 #[]).own (w0 := wr) (size := 1) (n := 0) (Nat.le_refl _) (Gr.alloc wr _) rfl (by decide))
            have W3 : Hid (Sl (wr.alloc (.cells #[] 9)) A2 k c2 1 (N.map strc)) := W2.out.mono (Gr.alloc wr _)
            go_wp2_with (at_builtin; refine wpList_cat rfl (.tmp 65) (.tmp 66) 22 rfl tWords rfl OE.out rfl W3.out (by intro u hu; obtain ⟨x, _, rfl⟩ := List.mem_map.1 hu; rfl) (by omega) ?_; intro v4 w4 o4; have O4 := Lib.hid o4; clear o4)
            have o4' : Own wr w4 9 1 v4 k (N.map strc) := by have := O4.out; simpa using this
            obtain ⟨A5, c5, g5, rest, rfl, tu⟩ := Tu.start o4'
            have TU := Lib.hid tu
            have hc5 := tu.ws.cap; have hm5 := tu.ws.max
            clear o4' tu O4 OE W3
            go_wp2_with fail
            go_loopw [7] (fun i wq => ∃ (m : Nat) (ms : List (List UInt8)), m ≤ k ∧ i = .int .i64 m ∧ Tu wr wq A5 k c5 g5 rest N ms) (fun i _ => k - (intOf i).toNat)
            case atStart => exact ⟨0, N, Nat.zero_le _, rfl, TU.out⟩
            case round =>
              obtain ⟨m, ms, hm, rfl, tu⟩ := hrel
              have TU := Lib.hid tu
              have hml : ms.length = k := tu.ws.len
              obtain ⟨kk, hkk⟩ : ∃ kk, kk = k / 2 := ⟨_, rfl⟩
              have tq : (k : Int).tdiv 2 = (kk : Int) := by rw [hkk]; rfl
              have hkb : kk ≤ 70 := by omega
              by_cases hmk : m < kk
              · have t1 : decide ((m : Int) < (kk : Int)) = true := decide_eq_true (by omega)
                obtain ⟨p, hp⟩ : ∃ p, p = k - 1 - m := ⟨_, rfl⟩
                have hpk : p < k := by omega
                have hmp : m < p := by omega
                have e1 : (k : Int) - 1 - (m : Int) = (p : Int) := by omega
                obtain ⟨rfl, hg5, hb5⟩ := tu.bl (by omega)
                have HSW := Lib.hid (tu.swap (i := m) (j := p) (by omega) (by omega))
                have c1 := tu.cell (i := m) (by omega)
                have c2 := tu.cell (i := p) (by omega)
                have y1 := tu.free (by omega) m
                have b1 := hb5.set m (strc (ms[p]'(by omega)))
                have z1 := b1.free p
                have z2 : (wr.setCell ⟨g5, m, none⟩ (strc (ms[p]'(by omega)))).cell? ⟨g5, p, none⟩ = some (strc (ms[p]'(by omega))) := by
                  rw [b1.cell, set_left _ _ _ _ (by rw [List.length_map]; omega), ← List.map_set]
                  refine at_left ?_
                  rw [List.getElem?_map, List.getElem?_set, if_neg (by omega), List.getElem?_eq_getElem (by omega)]
                  rfl
                clear tu hb5 b1
                generalize ms[m]'(by omega) = xm at *
                generalize ms[p]'(by omega) = xp at *
                clear hkk hp hg5
                obtain ⟨sm, hsm⟩ : ∃ sm : ByteArray, strc xm = .string sm := ⟨_, rfl⟩
                obtain ⟨sp, hsp⟩ : ∃ sp : ByteArray, strc xp = .string sp := ⟨_, rfl⟩
                rw [hsm] at c1 HSW
                rw [hsp] at c2 z1 z2 HSW
                clear hsm hsp
                go_wp2_with fail
                refine ⟨⟨m + 1, _, by omega, by first | trivial | go_num, HSW.out⟩, ?_⟩
                show k - ((m : Int) + 1).toNat < k - (m : Int).toNat
                omega
              · have t1 : decide ((m : Int) < (kk : Int)) = false := decide_eq_false (by omega)
                have FU := Lib.hid (used_any A j c hs wr (HH.out.mono (Gr.trans G2.out TU.out.gr)))
                have HNL2 : Hid (∀ x ∈ ms, x.length ≤ 100) := fun x hx => HNL.out x (TU.out.pm.mem_iff.1 hx)
                have GW := Lib.hid (Gr.trans G2.out TU.out.gr)
                have FN := Lib.hid (names_any A5 k c5 ms wr TU.out.ws (by omega) (fun x hx => by have := HNL2.out x hx; omega) (HT.out.mono GW.out) (HM.out.mono GW.out))
                have W5 := Lib.hid (W2.out.mono TU.out.gr)
                obtain ⟨uu, huu⟩ : ∃ uu, uu = usedH hs := ⟨_, rfl⟩
                have hle : k ≤ uu := by have := HU.out; omega
                have t2 : decide ((k : Int) ≤ (uu : Int)) = true := decide_eq_true (by omega)
                rw [← huu] at FU
                clear tu huu hkk
                go_wp2_with fail
                refine FU.out.mono ?_
                rintro e w6 ⟨rfl, rfl⟩
                go_wp2_with fail
                refine FN.out.mono ?_
                rintro e w7 ⟨A7, n7, c7, M, rfl, hM, _, r7, g7⟩
                obtain rfl : M = N := TU.out.names HN.out hM
                have FW := Lib.hid (words_any A7 A2 n7 k c7 c2 M M w7 r7.ws (W5.out.mono g7))
                have G7 := Lib.hid (Gr.trans GW.out g7)
                have tm : (M == M) = true := by simp
                rw [tm] at FW
                clear hM r7 g7 tm
                go_wp2_with fail
                refine FW.out.mono ?_
                rintro e w8 ⟨rfl, q8, rfl⟩
                have G8 := Lib.hid (belowN G7.out q8)
                go_wp2_with fail
                refine (HAL.out _ G8.out).mono ?_
                rintro e w9 ⟨rfl, g9⟩
                have G9 := Lib.hid (Gr.trans G8.out g9); clear g9
                go_wp2_with fail
                go_ret
                exact ⟨rfl, G9.out⟩
end Go.Proofs.YtfemhhjmfckicaaDoor
