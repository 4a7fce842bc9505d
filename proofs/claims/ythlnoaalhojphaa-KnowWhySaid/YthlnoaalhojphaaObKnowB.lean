/- Who knows terms: New, Learn. No condition. -/
import Derived.Test.YthlnoaalhojphaaObKnowA
import Derived.Outline
namespace Go.Proofs.Ythlnoaalhojphaa
open Go.RowKit
set_option linter.unusedVariables false
theorem mK.new (w : World) : mK (w.alloc (.map #[] 0)) w.heap.size 0 [] := ⟨_, World.ownsMap_made w Try.prog 3 Rv, fun x => by simp [Go.Maps.has]⟩
theorem knowNew_any (w0 : World) (g : Nat) (T : List Nd) (w : World) (hb : Below w0.heap.size w0 w) :
    Calls Try.prog 9 #[.pointer (some ⟨g, 0, none⟩)] w fun e w' => ∃ gk bk, e = .returned (.pointer (some ⟨gk, 0, none⟩)) ∧ KnF w0 w' gk g bk 0 T [] (.slice none 0 0) (.slice none 0 0) (.slice none 0 0) ∧ Gr w w' ∧ w.heap.size ≤ gk ∧ w.heap.size ≤ bk := by
  have hmm := @run_makeMap Try.prog
  have HB := Lib.hid hb; clear hb
  go_enter Try.func9, Try.ntmps9
  go_wp2_with fail
  go_ret
  have hs := HB.out.size
  refine ⟨w.heap.size + 1, w.heap.size, rfl, ⟨by omega, hs, (HB.out.alloc hs _).alloc (by simp; omega) _, ?_, (mK.new w).keep ?_, .inl ⟨rfl, rfl⟩, .inl rfl⟩, (Gr.alloc _ _).trans (Gr.alloc _ _), by omega, Nat.le_refl _⟩
  · have h := Blk.new (w.alloc (.map #[] 0)) 56 #[.pointer (some ⟨g, 0, none⟩), .map (some w.heap.size), .slice none 0 0, .slice none 0 0, .slice none 0 0]
    rw [show (w.alloc (.map #[] 0)).heap.size = w.heap.size + 1 by simp] at h
    exact h
  · exact Below.heap_alloc _ _ _ (by simp)
/-- What a call on a state turns. -/
def KS (gk bk : Nat) : Nat → Prop := fun b => b = gk ∨ b = bk
theorem know_ints {g bk : Nat} {vk vp vi : Value} (hs : (∃ A n c, vk = .slice A n c) ∧ (∃ A n c, vp = .slice A n c) ∧ ∃ A n c, vi = .slice A n c) : ∀ u ∈ [Value.pointer (some ⟨g, 0, none⟩), .map (some bk), vk, vp, vi], ∀ x, u ≠ .int .i64 x := by
  obtain ⟨⟨A, n, c, rfl⟩, ⟨A', n', c', rfl⟩, A'', n'', c'', rfl⟩ := hs
  intro u hu x
  simp at hu
  rcases hu with rfl | rfl | rfl | rfl | rfl <;> simp
theorem KnowAll.slices {w0 w : World} {T : List Nd} {vk vp : Value} (h : KnowAll w0 w T vk vp) : (∃ A n c, vk = .slice A n c) ∧ ∃ A n c, vp = .slice A n c := by
  rcases h with ⟨rfl, rfl⟩ | ⟨q1, R, q2, q3⟩
  · exact ⟨⟨_, _, _, rfl⟩, _, _, _, rfl⟩
  · obtain ⟨A, c, e, _⟩ := q1.slice
    obtain ⟨A', c', e', _⟩ := q2.1.slice
    exact ⟨⟨_, _, _, e⟩, _, _, _, e'⟩
theorem IsAll.slices {w0 w : World} {T : List Nd} {l : List Int} {vi : Value} (h : IsAll w0 w T l vi) : ∃ A n c, vi = .slice A n c := by
  rcases h with rfl | ⟨d, q1, q2⟩
  · exact ⟨_, _, _, rfl⟩
  · obtain ⟨A, c, e, _⟩ := q1.slice
    exact ⟨_, _, _, e⟩
theorem KnF.ints {w0 w : World} {gk g bk n : Nat} {T : List Nd} {l : List Int} {vk vp vi : Value} (h : KnF w0 w gk g bk n T l vk vp vi) : ∀ u ∈ [Value.pointer (some ⟨g, 0, none⟩), .map (some bk), vk, vp, vi], ∀ x, u ≠ .int .i64 x := know_ints ⟨h.kp.slices.1, h.kp.slices.2, h.is.slices⟩
/-- A row of ints lies elsewhere. -/
theorem KnF.row_off {w0 w : World} {gk g bk n : Nat} {T : List Nd} {l : List Int} {vk vp vi : Value} (h : KnF w0 w gk g bk n T l vk vp vi) {A : Option Addr} {m c : Nat} {xs : List Int} (hr : Is w A m c xs) (h0 : 0 < m) : ∀ b o, A = some ⟨b, o, none⟩ → ¬ KS gk bk b := fun b o e q => by
  rcases q with q | q
  · exact hr.off h0 e h.blk h.ints q
  · obtain ⟨es, clock, hm⟩ := h.m.obj
    exact Sl.not_map hr (by decide) hm h0 e q
theorem KnF.own_off {w0 w : World} {gk g bk n : Nat} {T : List Nd} {l : List Int} {vk vp vi : Value} (h : KnF w0 w gk g bk n T l vk vp vi) {w1 : World} {e : TypeId} {s m : Nat} {v : Value} {xs : List Value} (ho : Own w1 w e s v m xs) (he : e ≠ 56) : ∀ b, v.ownBlock = some b → ¬ KS gk bk b := fun b hb q => by
  rcases q with q | q
  · subst q; exact ho.not_blk h.blk he hb
  · subst q
    obtain ⟨es, clock, hm⟩ := h.m.obj
    exact ho.not_map hm hb
/-- The kinds and parts stay. -/
theorem KnF.kept {w0 w w' : World} {gk g bk n : Nat} {T : List Nd} {l : List Int} {vk vp vi : Value} (h : KnF w0 w gk g bk n T l vk vp vi) (k : Tch (KS gk bk) w w') : KnowAll w0 w' T vk vp := by
  have hB : ∀ b, KS gk bk b → w0.heap.size ≤ b := fun b q => by rcases q with rfl | rfl; exact h.ge; exact h.gm
  rcases h.kp with q | ⟨q1, R, q2, q3⟩
  · exact .inl q
  · exact .inr ⟨q1.tch k hB (h.own_off q1 (by decide)), R, q2.tch k hB (h.own_off q2.1 (by decide)) (fun r hr h0 => h.row_off (q2.2 r hr).1 h0), q3⟩
def okIds (T : List Nd) (ids : List Int) : List Int := ids.filter fun id => !outside T.length id
theorem kindOf_pos {T : List Nd} (hk : Kinds T) (id : Int) : 0 < kindOf T id ↔ outside T.length id = false := by
  unfold kindOf
  cases ho : outside T.length id with
  | true => simp
  | false =>
    have hin : 1 ≤ id ∧ id ≤ T.length := by unfold outside at ho; simp at ho; omega
    have hl : id.toNat - 1 < T.length := by omega
    simp only [Bool.false_eq_true, if_false, List.getElem?_eq_getElem hl]
    have := hk T[id.toNat - 1] (List.getElem_mem hl)
    simp; omega
theorem okIds_snoc (T : List Nd) (ids : List Int) (k : Nat) (hk : k < ids.length) : okIds T (ids.take (k + 1)) = okIds T (ids.take k) ++ if outside T.length (iAt ids k) then [] else [iAt ids k] := by
  unfold okIds
  rw [List.take_succ_eq_append_getElem hk, List.filter_append, iAt_get hk]
  cases ho : outside T.length ids[k] <;> simp [ho]
theorem kindOf_le {T : List Nd} (hk : Kinds T) (id : Int) : kindOf T id ≤ 5 := by
  unfold kindOf
  split
  · omega
  · split
    · next x hx => exact (hk x (List.mem_of_getElem? hx)).2
    · omega
set_option maxHeartbeats 1000000 in
theorem learn_any (w0 : World) (gk g bk N : Nat) (T : List Nd) (l : List Int) (vk vp vi : Value) (A : Option Addr) (n c : Nat) (ids : List Int) (w : World) (h : KnF w0 w gk g bk N T l vk vp vi) (ht : TRd w0 g T) (hk : Kinds T) (hi : Is w A n c ids) (hf : ∀ x ∈ ids, In64 x) (hN : N + n ≤ 1000000) :
    Calls Try.prog 10 #[.pointer (some ⟨gk, 0, none⟩), .slice A n c] w fun e w' => e = .returned (.tuple #[]) ∧ KnF w0 w' gk g bk (N + n) T (l ++ okIds T ids) vk vp (.slice none 0 0) ∧ Tch (KS gk bk) w w' := by
  have hmax := hi.max; have hcap := hi.cap
  have HL := Lib.hid hi.len
  have HI := Lib.hid hi; have H := Lib.hid h; have HT := Lib.hid ht; have HK := Lib.hid hk; have HF := Lib.hid hf
  have HB : Hid (∀ b, KS gk bk b → w0.heap.size ≤ b) := fun b q => by rcases q with rfl | rfl; exact h.ge; exact h.gm
  clear hi h ht hk hf
  go_enter Try.func10, Try.ntmps10
  go_wp2_with fail
  go_loopw [10] (fun i wr => ∃ k : Nat, k ≤ n ∧ i = .int .i64 k ∧ Tch (fun b => b = bk) w wr ∧ mK wr bk (N + k) (l ++ okIds T (ids.take k))) (fun i _ => n - (Go.RowKit.intOf i).toNat)
  case atStart => exact ⟨0, Nat.zero_le _, rfl, Tch.refl _, by simpa [okIds] using H.out.m⟩
  case round =>
    obtain ⟨k, hkn, rfl, htc, hm⟩ := hrel
    have TC := Lib.hid htc; have HM := Lib.hid hm; clear htc hm
    have hng : gk ≠ bk := by
      rintro rfl
      obtain ⟨es, clock, hm⟩ := H.out.m.obj
      have := H.out.blk
      unfold Blk at this
      rw [hm] at this
      cases this
    have BK := Lib.hid (H.out.blk.tch TC.out hng)
    have NG := Lib.hid hng
    by_cases hlt : k < n
    · have hrow := HI.out.tch (by decide) (TC.out.mono (S' := KS gk bk) (fun b _ q => .inr q)) (fun h0 => H.out.row_off HI.out h0)
      obtain ⟨b, o, rfl, hcc⟩ := Is.addr hrow (by omega)
      have c2 := hcc k hlt
      have hkl : k < ids.length := by rw [HL.out]; exact hlt
      have hin := HF.out (iAt ids k) (iAt_mem hkl)
      have HS := Lib.hid (okIds_snoc T ids k hkl)
      clear hcc hrow
      have hbel : Below w0.heap.size w0 wr := TC.out.below H.out.bel H.out.bel.size (fun b q => by have := H.out.gm; omega)
      have HKC := Lib.hid (kind_any g T (iAt ids k) wr (HT.out.mono hbel) HK.out hin)
      have HIN := Lib.hid hin
      have HP := Lib.hid (kindOf_pos HK.out (iAt ids k))
      have hk5 := kindOf_le HK.out (iAt ids k)
      have d0 := (BK.out.cell 0).trans rfl
      have d1 := (BK.out.cell 1).trans rfl
      have e1 : ∀ wq, Gr wr wq → wq.cell? ⟨gk, 1, none⟩ = some (.map (some bk)) := fun wq hq => ((hq.blk BK.out).cell 1).trans rfl
      have E1 := Lib.hid e1
      clear hin hbel e1 hng d1
      generalize iAt ids k = z at *
      generalize kindOf T z = q at *
      by_cases hq : 0 < q
      · have t0 : decide (0 < (q : Int)) = true := decide_eq_true (by omega)
        go_wp2_with fail
        refine HKC.out.mono ?_
        rintro e w2 ⟨rfl, g2⟩
        have c1 := E1.out w2 g2
        have M2 := Lib.hid (HM.out.keep (g2.block bk HM.out.lt))
        have G2 := Lib.hid g2
        clear g2 d0 c2
        go_wp2_with (at_mapUpdate; refine wpList_mark rfl (.tmp 24) (.tmp 25) (.tmp 26) rfl _ bk (N + k) _ z rfl rfl rfl HIN.out M2.out (by omega) ?_; intro w3 m3 t3)
        refine ⟨⟨k + 1, by omega, by simp, (TC.out.trans (Tch.gr G2.out)).trans t3, ?_⟩, by simp [Go.RowKit.intOf]; omega⟩
        rw [HS.out, HP.out.1 hq]
        have := m3
        rw [List.append_assoc] at this
        exact this
      · obtain rfl : q = 0 := by omega
        go_wp2_with fail
        refine HKC.out.mono ?_
        rintro e w2 ⟨rfl, g2⟩
        have M2 := Lib.hid (HM.out.keep (g2.block bk HM.out.lt))
        have G2 := Lib.hid g2
        have HO : Hid (outside T.length z = true) := by
          cases ho : outside T.length z with
          | true => rfl
          | false => exact absurd (HP.out.2 ho) hq
        clear g2 d0 c2
        go_wp2_with fail
        refine ⟨⟨k + 1, by omega, by simp, TC.out.trans (Tch.gr G2.out), ?_⟩, by simp [Go.RowKit.intOf]; omega⟩
        rw [HS.out, HO.out]
        simpa using M2.out.up (by omega)
    · obtain rfl : k = n := by omega
      have hB := BK.out
      have c4 : wr.cell? ⟨gk, 4, none⟩ = some vi := (hB.cell 4).trans rfl
      have f4 := hB.free 4
      have hlg := hB.lt
      clear hB hng
      go_wp2_with fail
      go_end0
      have t9 : Tch (KS gk bk) w (wr.setCell ⟨gk, 4, none⟩ (.slice none 0 0)) := (TC.out.mono (S' := KS gk bk) (fun b _ q => .inr q)).trans (Tch.set _ _ (.inl rfl))
      have he : ids.take k = ids := List.take_of_length_le (by rw [HL.out]; exact Nat.le_refl _)
      have hm := HM.out
      rw [he] at hm
      refine ⟨rfl, ⟨H.out.ge, H.out.gm, t9.below H.out.bel H.out.bel.size HB.out, BK.out.set 4 _, hm.keep ?_, H.out.kept t9, .inl rfl⟩, t9⟩
      exact Below.heap_setCell _ _ _ _ (fun e => NG.out e.symm)
end Go.Proofs.Ythlnoaalhojphaa
