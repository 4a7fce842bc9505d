/- Who knows terms: all, Derives. No condition. -/
import Derived.Test.YthlnoaalhojphaaObKnowH
import Derived.Deep.QuietTactic
import Derived.BigQuiet
import Derived.Outline
namespace Go.Proofs.Ythlnoaalhojphaa
open Go.RowKit
set_option linter.unusedVariables false
/-- What is asked of a state, and of its table. -/
structure KnT (w0 : World) (g : Nat) (T : List Nd) (l : List Int) : Prop where
  t : TRd w0 g T
  p : Parted T
  k : Kinds T
  n : T.length ≤ 1000
  l : ∀ x ∈ l, outside T.length x = false
/-- A list of all that is derived, in memory. -/
def RetAll (w0 w : World) (gk g bk N : Nat) (T : List Nd) (l : List Int) (e : Ending) (w' : World) : Prop := ∃ A c d vk vp vi, e = .returned (.slice A (T.length + 1) c) ∧ Bls w' A (T.length + 1) c d ∧ Tells T (InL l) d ∧ KnF w0 w' gk g bk N T l vk vp vi ∧ Tch (KS gk bk) w w'
set_option maxRecDepth 100000 in
set_option maxHeartbeats 2000000 in
theorem all_any (w0 : World) (gk g bk N : Nat) (T : List Nd) (l : List Int) (vk vp vi : Value) (w : World) (h : KnF w0 w gk g bk N T l vk vp vi) (ht : KnT w0 g T l) :
    Calls Try.prog 29 #[.pointer (some ⟨gk, 0, none⟩)] w (RetAll w0 w gk g bk N T l) := by
  have H := Lib.hid h; have HT := Lib.hid ht
  have c0 : w.cell? ⟨gk, 0, none⟩ = some (.pointer (some ⟨g, 0, none⟩)) := (h.blk.cell 0).trans rfl
  have hwn : IntKind.i64.wrap ((T.length : Int) + 1) = (T.length : Int) + 1 := IntWalk.i64_in _ (by have := ht.n; omega)
  have HLEN : Hid (∀ q, Calls Try.prog 46 #[.pointer (some ⟨g, 0, none⟩)] (w.drewN q) fun e w' => e = .returned (.int .i64 (T.length : Int)) ∧ w' = w.drewN q) := fun q => (len_any g T (w.drewN q) (HT.out.t.mono (H.out.gr (belowN (Below.refl _ _) q)).bel)).mono fun e w' ⟨h1, h2⟩ => ⟨h1, h2.symm⟩
  rcases h.is with rfl | ⟨d, hd1, hd2⟩
  · have HCL := Lib.hid (fun w1 (hg : Gr w w1) => closed_any w0 gk g bk N T l vk vp (.slice none 0 0) bk N l w1 (H.out.gr hg) HT.out.t HT.out.p HT.out.k HT.out.n (H.out.gr hg).m HT.out.l)
    have c4 : w.cell? ⟨gk, 4, none⟩ = some (.slice none 0 0) := (h.blk.cell 4).trans rfl
    have t0 : ((0 : Int) != (T.length : Int) + 1) = true := by rw [bne_iff_ne]; omega
    clear h ht
    go_enter Try.func29, Try.ntmps29
    go_wp2_with fail
    go_quiet ((go_at_call 46; exact Calls.quiet_of_same (HLEN.out _)))
    have d1 : (w.drewN nq).cell? ⟨gk, 1, none⟩ = some (.map (some bk)) := (H.out.blk.cell 1).trans rfl
    go_wp2_with fail
    refine (HCL.out _ (belowN (Below.refl _ _) _)).mono ?_
    rintro e w5 ⟨go, d, vk', vp', hgo, rfl, hb, htl, hk5, hf5, ht5⟩
    have K5 := Lib.hid hk5; have B5 := Lib.hid hb; have TL := Lib.hid htl; have T5 := Lib.hid ht5; have HGO := Lib.hid hgo
    have c45 : w5.cell? ⟨gk, 4, none⟩ = some (.slice none 0 0) := (hk5.blk.cell 4).trans rfl
    have y45 := hk5.blk.free 4
    have hlg := hk5.blk.lt
    obtain ⟨m, hm⟩ : ∃ m, m = T.length + 1 := ⟨_, rfl⟩
    rw [← hm]
    have HM := Lib.hid hm
    clear hk5 hf5 hb htl ht5 hm c0 c4 t0 hwn hgo d1
    go_wp2_with fail
    obtain ⟨w9, hw9⟩ : ∃ w9, w9 = w5.setCell ⟨gk, 4, none⟩ (.slice (some ⟨go, 0, none⟩) m m) := ⟨_, rfl⟩
    have FIN : Hid (RetAll w0 w gk g bk N T l (.returned (.slice (some ⟨go, 0, none⟩) m m)) w9) := by
      have t9 : Tch (KS gk bk) w5 w9 := by rw [hw9]; exact Tch.set _ _ (.inl rfl)
      have hB : ∀ b, KS gk bk b → w0.heap.size ≤ b := fun b q => by rcases q with rfl | rfl; exact K5.out.ge; exact K5.out.gm
      have hng : bk ≠ gk := by
        rintro rfl
        obtain ⟨es, clock, hm⟩ := K5.out.m.obj
        have := K5.out.blk
        unfold Blk at this
        rw [hm] at this
        cases this
      have hgg : go ≠ gk := by have := H.out.blk.lt; have h2 := HGO.out; simp at h2; omega
      have b9 : Blk w9 go 4 (d.map boolc) := by rw [hw9]; exact B5.out.far hgg _
      have bel9 := t9.below K5.out.bel K5.out.bel.size hB
      have hdl : d.length = m := by rw [TL.out.1, HM.out]
      refine ⟨_, m, d, vk', vp', .slice (some ⟨go, 0, none⟩) m m, by rw [← HM.out], ?_, TL.out, ⟨K5.out.ge, K5.out.gm, bel9, ?_, K5.out.m.keep ?_, K5.out.kept t9, .inr ⟨d, ?_, TL.out⟩⟩, ?_⟩
      · rw [← HM.out]
        refine ⟨by simp [hdl], Nat.le_refl _, by unfold maxLen; have := HM.out; have := HT.out.n; omega, fun _ => ⟨_, _, rfl, fun j u hu => ?_⟩⟩
        rw [Nat.zero_add, b9.cell]; exact hu
      · rw [hw9]; exact K5.out.blk.set 4 _
      · rw [hw9]; exact Below.heap_setCell _ _ _ _ hng
      · rw [hdl]
        exact b9.own (by have := H.out.bel.size; have h2 := HGO.out; simp at h2; omega) bel9 (by simp [hdl]) (by unfold maxLen; have := HM.out; have := HT.out.n; omega)
      · exact ((Tch.gr (belowN (Below.refl _ _) nq)).trans (T5.out.mono (fun b _ q => .inl q))).trans t9
    have HW9 := Lib.hid hw9; clear hw9
    go_ret
    rw [← HW9.out]
    exact FIN.out
  · obtain ⟨A, c, rfl, hs⟩ := hd1.slice
    have hdl : d.length = T.length + 1 := hd2.1
    rw [hdl] at hs
    have c4 : w.cell? ⟨gk, 4, none⟩ = some (.slice A (T.length + 1) c) := by rw [h.blk.cell 4, ← hdl]; rfl
    obtain ⟨m, hm⟩ : ∃ m, m = T.length := ⟨_, rfl⟩
    rw [← hm] at c4 hwn HLEN
    have t0 : (((m : Int) + 1) != (m : Int) + 1) = false := by simp
    have HM := Lib.hid hm; have HS := Lib.hid hs; have HD2 := Lib.hid hd2
    have hcap := hs.cap; have hmx := hs.max
    clear h ht hd1 hd2 hdl hs hm
    go_enter Try.func29, Try.ntmps29
    go_wp2_with fail
    go_quiet ((go_at_call 46; exact Calls.quiet_of_same (HLEN.out _)))
    go_wp2_with fail
    go_ret
    have hg : Gr w (w.drewN nq) := belowN (Below.refl _ _) nq
    exact ⟨A, c, d, vk, vp, _, by rw [HM.out]; rfl, HS.out.mono hg, HD2.out, H.out.gr hg, Tch.gr hg⟩
/-- Is an id derived? -/
def derB (T : List Nd) (l : List Int) (id : Int) : Prop := outside T.length id = false ∧ Der T (InL l) id.toNat
def RetDer (w0 w : World) (gk g bk N : Nat) (T : List Nd) (l : List Int) (id : Int) (e : Ending) (w' : World) : Prop := ∃ r vk vp vi, e = .returned (.bool r) ∧ (r = true ↔ derB T l id) ∧ KnF w0 w' gk g bk N T l vk vp vi ∧ Tch (KS gk bk) w w'
set_option maxHeartbeats 1000000 in
theorem derives_any (w0 : World) (gk g bk N : Nat) (T : List Nd) (l : List Int) (vk vp vi : Value) (id : Int) (w : World) (h : KnF w0 w gk g bk N T l vk vp vi) (ht : KnT w0 g T l) (hid : In64 id) :
    Calls Try.prog 13 #[.pointer (some ⟨gk, 0, none⟩), .int .i64 id] w (RetDer w0 w gk g bk N T l id) := by
  have H := Lib.hid h; have HT := Lib.hid ht
  have c0 : w.cell? ⟨gk, 0, none⟩ = some (.pointer (some ⟨g, 0, none⟩)) := (h.blk.cell 0).trans rfl
  have HKC := Lib.hid (kind_any g T id w (ht.t.mono h.bel) ht.k hid)
  have HP := Lib.hid (kindOf_pos ht.k id)
  obtain ⟨q, hq⟩ : ∃ q, q = kindOf T id := ⟨_, rfl⟩
  rw [← hq] at HKC HP
  have HA := Lib.hid (fun w1 (hg : Gr w w1) => all_any w0 gk g bk N T l vk vp vi w1 (h.gr hg) ht)
  clear h ht hq
  by_cases h0 : q = 0
  · subst h0
    have HO : Hid (outside T.length id = true) := by
      cases ho : outside T.length id with
      | true => rfl
      | false => exact absurd (HP.out.2 ho) (by decide)
    go_enter Try.func13, Try.ntmps13
    go_wp2_with fail
    refine HKC.out.mono ?_
    rintro e w1 ⟨rfl, g1⟩
    have G1 := Lib.hid g1; clear g1
    go_wp2_with fail
    go_ret
    exact ⟨false, vk, vp, vi, rfl, ⟨(fun q => by cases q), (fun q => by have := q.1; rw [HO.out] at this; cases this)⟩, H.out.gr G1.out, Tch.gr G1.out⟩
  · have t0 : ((q : Int) == 0) = false := by rw [beq_eq_false_iff_ne]; omega
    have HO := Lib.hid (HP.out.1 (by omega))
    have hin : 1 ≤ id ∧ id ≤ T.length := by have := HO.out; unfold outside at this; simp at this; omega
    obtain ⟨k, rfl⟩ : ∃ k : Nat, id = (k : Int) := ⟨id.toNat, by omega⟩
    have hn := HT.out.n
    go_enter Try.func13, Try.ntmps13
    go_wp2_with fail
    refine HKC.out.mono ?_
    rintro e w1 ⟨rfl, g1⟩
    have G1 := Lib.hid g1; clear g1 c0
    go_wp2_with fail
    refine (HA.out w1 G1.out).mono ?_
    rintro e w2 ⟨A, c, d, vk', vp', vi', rfl, hs, htl, hk2, ht2⟩
    have hcap := hs.cap; have hmx := hs.max
    obtain ⟨b, o, rfl, hcc⟩ := hs.addr (by omega)
    have c2 := hcc k _ (boolc_at (by rw [htl.1]; omega))
    have TL := Lib.hid htl; have K2 := Lib.hid hk2; have T2 := Lib.hid ht2
    obtain ⟨m, hm⟩ : ∃ m, m = T.length := ⟨_, rfl⟩
    rw [← hm] at hin hn hcap ⊢
    clear hs hcc htl hk2 ht2 hm h0
    go_wp2_with fail
    go_ret
    refine ⟨dAt d k, vk', vp', vi', rfl, ?_, K2.out, (Tch.gr G1.out).trans T2.out⟩
    rw [TL.out.2 k]
    exact ⟨fun q => ⟨HO.out, q⟩, fun q => q.2⟩
end Go.Proofs.Ythlnoaalhojphaa
