/- Who knows terms: Why walked. No condition. -/
import Derived.Test.YthlnoaalhojphaaObKnowV
import Derived.Outline
namespace Go.Proofs.Ythlnoaalhojphaa
open Go.RowKit
set_option linter.unusedVariables false
def RetWhy (w0 w : World) (g : Nat) (s : KSt) (N : Nat) (T : List Nd) (l : List Int) (id : Int) (e : Ending) (w' : World) : Prop := ∃ A c ws, e = .returned (.slice A ws.length c) ∧ Is w' A ws.length c ws ∧ Kn1 w0 w' g T s N l ∧ (derB T l id → WhyOk T l id.toNat ws) ∧ (¬ derB T l id → ws = [])
theorem takeI_snoc {l : List Int} {j : Nat} (hj : j < l.length) : l.take (j + 1) = l.take j ++ [iAt l j] := by rw [List.take_succ_eq_append_getElem hj, iAt_get hj]
set_option maxRecDepth 100000 in
set_option maxHeartbeats 2000000 in
theorem why_any (w0 : World) (g : Nat) (s : KSt) (N : Nat) (T : List Nd) (l : List Int) (id : Int) (w : World) (h : Kn1 w0 w g T s N l) (ht : KnT w0 g T l) (hid : In64 id) (hN : N ≤ 1000) (hlN : (sortU l).length ≤ 1000) :
    Calls Try.prog 17 #[.pointer (some ⟨s.gk, 0, none⟩), .int .i64 id] w (RetWhy w0 w g s N T l id) := by
  obtain ⟨gk, bk⟩ := s
  obtain ⟨vk, vp, vi, hk⟩ := h
  have HT := Lib.hid ht
  have HD := Lib.hid (derives_any w0 gk g bk N T l vk vp vi id w hk ht hid)
  have HIN : Hid (∀ x ∈ l, In64 x) := fun x hx => by
    have := ht.l x hx
    have hn := ht.n
    unfold outside at this
    simp at this
    exact ⟨by omega, by omega⟩
  have hn := ht.n
  have HGK := Lib.hid hk
  clear hk ht
  show Calls Try.prog 17 #[.pointer (some ⟨gk, 0, none⟩), .int .i64 id] w _
  go_enter Try.func17, Try.ntmps17
  go_wp2_with fail
  refine HD.out.mono ?_
  rintro e w1 ⟨r, vk1, vp1, vi1, rfl, hr, k1, t1⟩
  have K1 := Lib.hid k1; have T1 := Lib.hid t1; have HR := Lib.hid hr
  clear k1 t1 hr
  cases r with
  | false =>
    go_wp2_with fail
    go_ret
    refine ⟨none, 0, [], rfl, Sl.nil _ _, ⟨_, _, _, K1.out⟩, fun q => ?_, fun _ => rfl⟩
    have := HR.out.2 q
    cases this
  | true =>
    have HRT := Lib.hid (HR.out.1 rfl)
    obtain ⟨hdo, hder⟩ := HRT.out
    obtain ⟨k, rfl⟩ : ∃ k : Nat, id = (k : Int) := ⟨id.toNat, by unfold outside at hdo; simp at hdo; omega⟩
    have hkl : k ≤ T.length := by unfold outside at hdo; simp at hdo; omega
    have HDER : Hid (Der T (InL l) k) := hder
    have c1 : w1.cell? ⟨gk, 1, none⟩ = some (.map (some bk)) := (K1.out.blk.cell 1).trans rfl
    clear hdo hder
    go_wp2_with fail
    refine (mK.clone K1.out.m).mono ?_
    rintro e w2 ⟨rfl, m2, g2⟩
    obtain ⟨bl, hbl⟩ : ∃ bl, bl = w1.heap.size := ⟨_, rfl⟩
    rw [← hbl] at m2 ⊢
    have M2 := Lib.hid m2; have G2 := Lib.hid g2
    have HBL1 : Hid (bk ≠ bl) := by have := K1.out.m.lt; show _ ≠ _; omega
    have HBL2 : Hid (w.heap.size ≤ bl) := by have := T1.out.size; show _ ≤ _; omega
    have HBL3 : Hid (w0.heap.size ≤ bl) := by have := K1.out.bel.size; show _ ≤ _; omega
    have c2 : w2.cell? ⟨gk, 1, none⟩ = some (.map (some bk)) := ((g2.blk K1.out.blk).cell 1).trans rfl
    clear m2 g2 c1 hbl
    go_wp2_with fail
    refine (keysK_any (some bk) w2).mono ?_
    rintro e w3 ⟨rfl, rfl⟩
    clear c2
    go_wp2_with fail
    refine (sortedK_any bk N l w2 ((K1.out.gr G2.out).m) (by omega)).mono ?_
    rintro e w4 ⟨A, c, rfl, hs, g4⟩
    obtain ⟨ks, hks⟩ : ∃ ks, ks = sortU l := ⟨_, rfl⟩
    rw [← hks] at hs hlN ⊢
    have HKS := Lib.hid hks
    have I4 := Lib.hid hs; have K4 := Lib.hid (K1.out.gr (G2.out.trans g4)); have M4 := Lib.hid (M2.out.keep (g4.block bl M2.out.lt)); have T4 := Lib.hid (T1.out.trans (Tch.gr (G2.out.trans g4)))
    have hcap := hs.cap; have hmax := hs.max
    clear hs g4 hks
    go_wp2_with fail
    go_loopw [24] (fun i wr => ∃ (j nn : Nat) (X : List Int) (vk vp vi : Value), j ≤ ks.length ∧ i = .int .i64 j ∧ nn ≤ N + j ∧ KnF w0 wr gk g bk N T l vk vp vi ∧ mK wr bl nn X ∧ WhyI T l (ks.take j) X k ∧ Is wr A ks.length c ks ∧ Tch (KS gk bk) w wr) (fun i _ => ks.length - (Go.RowKit.intOf i).toNat)
    case atStart => exact ⟨0, N, l, _, _, _, Nat.zero_le _, rfl, by omega, K4.out, M4.out, by rw [List.take_zero]; exact WhyI.start HDER.out, I4.out, T4.out⟩
    case round =>
      obtain ⟨j, nn, X, vk5, vp5, vi5, hj, rfl, hnn, hk5, hm5, hw5, hi5, ht5⟩ := hrel
      have K5 := Lib.hid hk5; have M5 := Lib.hid hm5; have W5 := Lib.hid hw5; have I5 := Lib.hid hi5; have T5 := Lib.hid ht5
      clear hk5 hm5 hw5 hi5 ht5 K4 M4 I4 T4
      by_cases hlt : j < ks.length
      · have t0 : decide ((j : Int) < (ks.length : Int)) = true := decide_eq_true (by omega)
        obtain ⟨b, o, rfl, hcc⟩ := Is.addr I5.out (by omega)
        have c0 := hcc j hlt
        have HTK := Lib.hid (takeI_snoc hlt)
        have hzl : iAt ks j ∈ l := by rw [← sortU_mem]; rw [← HKS.out]; exact iAt_mem hlt
        have hzp : iAt ks j ∉ ks.take j := fun q => by
          have hp : ks.Pairwise (· < ·) := by rw [HKS.out]; exact sortU_up l
          rw [iAt_get hlt] at q
          obtain ⟨i, hi, e⟩ := List.mem_iff_getElem.1 q
          rw [List.length_take] at hi
          have := List.pairwise_iff_getElem.1 hp i j (by omega) hlt (by omega)
          rw [List.getElem_take] at e
          omega
        have HZX : Hid (iAt ks j ∈ X) := W5.out.rest _ hzl hzp
        have HZI := Lib.hid (HIN.out _ hzl)
        clear hcc hzl hzp
        generalize iAt ks j = z at *
        obtain ⟨es5, cl5, hob5⟩ := M5.out.obj
        have HOB := Lib.hid hob5; clear hob5
        have HBO : Hid (b ≠ bl) := fun e => Sl.not_map I5.out (by decide) HOB.out (by omega) rfl e
        go_wp2_with (at_delete; refine wpList_unmark rfl (.tmp 28) (.tmp 29) rfl _ bl nn X z rfl rfl HZI.out M5.out ?_; intro w6 m6 t6)
        have K6 := Lib.hid (K5.out.mapOff M5.out t6 HBL1.out HBL3.out)
        have M6 := Lib.hid m6
        have I6 := Lib.hid (I5.out.tch (by decide) t6 (fun _ b' o' e q => by injection e with e; injection e with e1 _; subst e1; exact HBO.out q))
        have T6 := Lib.hid (T5.out.trans' t6 (fun x hx e => by have := HBL2.out; omega))
        clear m6 t6
        have HCL := Lib.hid (closed_any w0 gk g bk N T l vk5 vp5 vi5 bl nn (But X z) w6 K6.out HT.out.t HT.out.p HT.out.k HT.out.n M6.out (fun x hx => HT.out.l x (W5.out.sub x (but_mem.1 hx).1)))
        go_wp2_with fail
        refine HCL.out.mono ?_
        rintro e w7 ⟨go, d, vk7, vp7, hgo, rfl, hb7, htl7, hk7, _, ht7⟩
        have hng : bl ≠ gk := by
          rintro rfl
          obtain ⟨es, clock, hm⟩ := M6.out.obj
          have := K6.out.blk
          unfold Blk at this
          rw [hm] at this
          cases this
        have K7 := Lib.hid hk7
        have M7 := Lib.hid (M6.out.keep (ht7.keep bl M6.out.lt hng))
        have I7 := Lib.hid (I6.out.tch (by decide) (ht7.mono (S' := KS gk bk) (fun _ _ q => .inl q)) (fun h0 => K6.out.row_off I6.out h0))
        have T7 := Lib.hid (T6.out.trans (ht7.mono (fun _ _ q => .inl q)))
        have ck : w7.cell? ⟨go, k, none⟩ = some (.bool (dAt d k)) := (hb7.cell k).trans (boolc_at (by rw [htl7.1]; omega))
        have HTL := Lib.hid (htl7.2 k)
        obtain ⟨t, htt⟩ : ∃ t, t = T.length := ⟨_, rfl⟩
        rw [← htt] at hkl ⊢
        clear hb7 htl7 hk7 ht7 hng HCL htt hgo
        have hki : (k : Int) < (t : Int) + 1 := by omega
        cases hdk : dAt d k with
        | true =>
          rw [hdk] at ck
          have WO := Lib.hid (W5.out.out (HTL.out.1 hdk))
          clear hdk
          go_wp2_with fail
          refine ⟨⟨j + 1, nn, _, _, _, _, by omega, by simp, by omega, K7.out, M7.out, ?_, I7.out, T7.out⟩, by simp [Go.RowKit.intOf]; omega⟩
          rw [HTK.out]; exact WO.out
        | false =>
          rw [hdk] at ck
          have WB := Lib.hid (W5.out.back HZX.out (fun q => by have := HTL.out.2 q; rw [hdk] at this; cases this))
          clear hdk
          go_wp2_with (at_mapUpdate; refine wpList_mark rfl (.tmp 37) (.tmp 38) (.tmp 39) rfl _ bl nn _ z rfl rfl rfl HZI.out M7.out (by omega) ?_; intro w8 m8 t8)
          obtain ⟨es7, cl7, hob7⟩ := M7.out.obj
          have K8 := K7.out.mapOff M7.out t8 HBL1.out HBL3.out
          have I8 := I7.out.tch (by decide) t8 (fun _ b' o' e q => by injection e with e; injection e with e1 _; subst e1; exact HBO.out q)
          have T8 := T7.out.trans' t8 (fun x hx e => by have := HBL2.out; omega)
          refine ⟨⟨j + 1, nn + 1, _, _, _, _, by omega, by simp, by omega, K8, m8, ?_, I8, T8⟩, by simp [Go.RowKit.intOf]; omega⟩
          rw [HTK.out]; exact WB.out
      · obtain rfl : j = ks.length := by omega
        have t0 : decide ((ks.length : Int) < (ks.length : Int)) = false := by simp
        have WF : Hid (WhyOk T l k (sortU X)) := W5.out.fin (fun z hz => by
          rw [List.take_length, HKS.out, sortU_mem]; exact hz)
        have hnn2 : nn ≤ 2000 := by omega
        go_wp2_with fail
        refine (keysK_any (some bl) wr).mono ?_
        rintro e w3 ⟨rfl, rfl⟩
        go_wp2_with fail
        refine (sortedK_any bl nn X wr M5.out (by omega)).mono ?_
        rintro e w9 ⟨A9, c9, rfl, hs9, g9⟩
        have I9 := Lib.hid hs9; have K9 := Lib.hid (K5.out.gr g9)
        clear hs9 g9
        go_wp2_with fail
        go_ret
        exact ⟨A9, c9, sortU X, rfl, I9.out, ⟨_, _, _, K9.out⟩, fun _ => WF.out, fun q => absurd HRT.out q⟩
end Go.Proofs.Ythlnoaalhojphaa
