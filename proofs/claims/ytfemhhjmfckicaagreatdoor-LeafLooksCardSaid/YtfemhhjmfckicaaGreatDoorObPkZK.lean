/- Own texts of this claim, one behind the other. No condition. -/
import Derived.Test.YtfemhhjmfckicaaGreatDoorObPkZJ

/- The reference's Names. No condition. -/
namespace Go.Proofs.YtfemhhjmfckicaaGreatDoor
open Go.RowKit
set_option linter.unusedVariables false
set_option linter.unusedSimpArgs false
def namesR (hs : List (List UInt8)) : List (List UInt8) := hs.foldl stepH []
theorem namesR_take {hs : List (List UInt8)} {k : Nat} (hk : k < hs.length) : namesR (hs.take (k + 1)) = stepH (namesR (hs.take k)) hs[k] := by
  rw [List.take_succ_eq_append_getElem hk]
  unfold namesR
  rw [List.foldl_append]
  rfl
theorem namesR_names : ∀ (n : Nat) (hs : List (List UInt8)), hs.length = n → NamesOf hs (namesR hs)
  | 0, hs, h => by rw [List.length_eq_zero_iff.1 h]; exact names_nil
  | n + 1, hs, h => by
    have e : hs = hs.take n ++ [hs[n]] := by rw [← List.take_succ_eq_append_getElem, List.take_of_length_le (by omega)]
    have h1 := namesR_names n (hs.take n) (by rw [List.length_take]; omega)
    have h2 := step_names h1 hs[n]
    have h3 : namesR hs = stepH (namesR (hs.take n)) hs[n] := by
      have := namesR_take (hs := hs) (k := n) (by omega)
      rwa [List.take_of_length_le (by omega)] at this
    rw [h3]
    rw [← e] at h2
    exact h2
theorem step_in {out : List (List UInt8)} {x : List UInt8} (h : x ∈ out) : stepH out x = out := by unfold stepH; rw [if_pos (.inr h)]
theorem step_nil (out : List (List UInt8)) : stepH out [] = out := by unfold stepH; rw [if_pos (.inl rfl)]
theorem step_put {out : List (List UInt8)} {x : List UInt8} (h0 : x ≠ []) (h : x ∉ out) : stepH out x = out.take (atH x out) ++ x :: out.drop (atH x out) := by
  unfold stepH
  rw [if_neg (fun q => q.elim h0 h)]
  exact put_at x out
theorem find_in {out : List (List UInt8)} {x : List UInt8} (h0 : x ≠ []) : (0 ≤ findH out x ∧ x ∈ out) ∨ (findH out x = -1 ∧ x ∉ out) := by
  by_cases h : x ∈ out
  · exact .inl ⟨find_some h h0, h⟩
  · exact .inr ⟨find_none (fun q => h q.1), h⟩
set_option maxRecDepth 100000 in
set_option maxHeartbeats 4000000 in
theorem refNames31_any (A : Option Addr) (n c : Nat) (hs : List (List UInt8)) (w : World) (h : Ws w A n c hs) (hn : n ≤ 1000) (hb : ∀ x ∈ hs, x.length ≤ 100000) :
    Calls Tryz.prog 14 #[.slice A n c] w (RetWs w (namesR hs)) := by
  have hmax := h.max
  have hcap := h.cap
  have HL := Lib.hid h.len
  have HH := Lib.hid h; have HB := Lib.hid hb
  clear h hb
  go_enter Tryz.func14, Tryz.ntmps14
  go_wp2_with fail
  go_loopw [3, 4] (fun v i wr => ∃ (k : Nat) (out : List (List UInt8)), k ≤ n ∧ i = .int .i64 k ∧ Own w wr 9 1 v out.length (out.map strc) ∧ out = namesR (hs.take k) ∧ out.length ≤ k ∧ ∀ x ∈ out, x.length ≤ 100000) (fun _ i _ => n - (intOf i).toNat)
  case atStart => exact ⟨0, [], Nat.zero_le _, rfl, Own.nil _ _ _, rfl, Nat.le_refl _, (fun x hx => by cases hx)⟩
  case round =>
    obtain ⟨k, out, hk, rfl, hown, hout, hol, hob⟩ := hrel
    have HO := Lib.hid hown; have HOB := Lib.hid hob; have HOT := Lib.hid hout
    clear hob hout
    by_cases hkn : k < n
    · have hkl : k < hs.length := by rw [HL.out]; exact hkn
      obtain ⟨b, o, rfl, hcc⟩ := Ws.addr (HH.out.mono hown.below) (by omega)
      have c1 := hcc k hkl
      have hxb := HB.out _ (List.getElem_mem hkl)
      have HST : Hid (namesR (hs.take (k + 1)) = stepH out hs[k]) := by show _ = _; rw [namesR_take hkl, ← HOT.out]
      clear hcc
      generalize hs[k] = x at *
      obtain ⟨xs, hxs⟩ : ∃ xs : ByteArray, xs = ⟨x.toArray⟩ := ⟨_, rfl⟩
      rw [← hxs] at c1
      have hxl : xs.toList = x := by rw [hxs, ByteArray.toList_eq]
      have e1 : strc x = .string xs := by rw [hxs]; rfl
      obtain ⟨A2, c2, rfl, sl⟩ := hown.slice
      have hc2 := sl.cap; have hm2 := sl.max
      have HWS : Hid (Ws wr A2 out.length c2 out) := sl
      have HFI := Lib.hid (refFind31_any A2 out.length c2 out x wr sl)
      rw [e1] at HFI
      clear hxs sl hown
      by_cases h0 : x = []
      · have he : xs.toList.isEmpty = true := by rw [hxl, h0]; rfl
        have HS2 : Hid (out = namesR (hs.take (k + 1))) := by show _ = _; rw [HST.out, h0, step_nil]
        clear hxl h0 HFI HST
        go_wp2_with fail
        refine ⟨⟨k + 1, out, by omega, by first | trivial | go_num, HO.out, HS2.out, by omega, HOB.out⟩, ?_⟩
        show n - ((k : Int) + 1).toNat < n - (k : Int).toNat
        omega
      have he : xs.toList.isEmpty = false := by
        rw [hxl]
        cases x with
        | nil => exact absurd rfl h0
        | cons a b => rfl
      obtain ⟨q, hq⟩ : ∃ q, q = findH out x := ⟨_, rfl⟩
      rw [← hq] at HFI
      rcases find_in (out := out) h0 with ⟨h1, h2⟩ | ⟨h1, h2⟩
      · rw [← hq] at h1
        have HS2 : Hid (out = namesR (hs.take (k + 1))) := by show _ = _; rw [HST.out, step_in h2]
        have t1 : decide (0 ≤ q) = true := decide_eq_true (by omega)
        clear hxl h0 HST hq h1 h2
        go_wp2_with fail
        refine HFI.out.mono ?_
        rintro e w3 ⟨rfl, rfl⟩
        go_wp2_with fail
        refine ⟨⟨k + 1, out, by omega, by first | trivial | go_num, HO.out, HS2.out, by omega, HOB.out⟩, ?_⟩
        show n - ((k : Int) + 1).toNat < n - (k : Int).toNat
        omega
      · rw [← hq] at h1
        subst h1
        have HS2 := Lib.hid (HST.out.trans (step_put h0 h2))
        have HXL := Lib.hid hxl
        have HX0 := Lib.hid e1
        clear hxl h0 HST hq h2 e1
        go_wp2_with fail
        refine HFI.out.mono ?_
        rintro e wo ⟨rfl, rfl⟩
        go_wp2_with fail
        go_loopw [5] (fun i wr => ∃ a : Nat, a ≤ out.length ∧ i = .int .i64 a ∧ Gr wo wr ∧ ∀ j (hj : j < out.length), j < a → headC out[j] x = -1) (fun i _ => out.length - (intOf i).toNat)
        case atStart => exact ⟨0, Nat.zero_le _, rfl, Gr.refl _, fun j hj q => absurd q (by omega)⟩
        case round =>
          obtain ⟨a, ha, rfl, g, hall⟩ := hrel
          have HA := Lib.hid hall; have G := Lib.hid g; clear hall
          by_cases hao : a < out.length
          · obtain ⟨b2, o2, rfl, hc2c⟩ := Ws.addr (HWS.out.mono g) (by omega)
            have d1 := hc2c a hao
            have d2 := (Below.cell g (World.block_lt_of_cell? wo _ c1)).trans c1
            have HAH := Lib.hid (fun wq => refAhead_any out[a] x wq (HOB.out _ (List.getElem_mem hao)) hxb)
            rw [HX0.out] at HAH
            have HNX : Hid (aheadB out[a] x = true → ∀ j (hj : j < out.length), j < a + 1 → headC out[j] x = -1) := fun q j hj hja => by
              by_cases e : j = a
              · subst e; exact of_decide_eq_true q
              · exact HA.out j hj (by omega)
            have HEN : Hid (aheadB out[a] x = false → atH x out = a) := fun q => (atH_step hao (fun j hj => HA.out j (by omega) hj)).2 (of_decide_eq_false q)
            clear hc2c
            generalize out[a] = y at *
            obtain ⟨ys, hys⟩ : ∃ ys : ByteArray, strc y = .string ys := ⟨_, rfl⟩
            have d1 : wr.cell? ⟨b2, o2 + a, none⟩ = some (.string ys) := by rw [← hys]; exact d1
            rw [hys] at HAH
            clear hys g
            cases hb : aheadB y x with
            | true =>
              have HN2 := Lib.hid (HNX.out hb)
              rw [hb] at HAH
              clear hb HNX HEN
              go_wp2_with fail
              refine wp_region_grow (by kernel_rfl) [0, 0, 2, 7, 15, 31, 31, 127, 255, 31, 31, 1567, 3615, 8191, 16383] [.p 0, .p 1, .p 2, .p 3, .p 4, .p 5, .p 6, .p 7, .p 9, .p 10, .p 11, .q 8, .q 12, .c 13, .p 14] (by kernel_rfl) (by simp only [mkAll]) ?_
              refine wpG_pe rfl rfl ?_
              apply Exists.intro
              refine ⟨fun wq => ?_, ?_⟩
              · unfold plainAt
                go_simp
                first | exact rfl | exact ⟨rfl, rfl⟩
              go_simp
              refine wpG_pe rfl rfl ?_
              apply Exists.intro
              refine ⟨fun wq => ?_, ?_⟩
              · unfold plainAt
                go_simp
                first | exact rfl | exact ⟨rfl, rfl⟩
              go_simp
              refine wpG_pe rfl rfl ?_
              apply Exists.intro
              refine ⟨fun wq => ?_, ?_⟩
              · unfold plainAt
                go_simp
                first | exact rfl | exact ⟨rfl, rfl⟩
              go_simp
              refine wpG_pe rfl rfl ?_
              apply Exists.intro
              refine ⟨fun wq => ?_, ?_⟩
              · unfold plainAt
                go_simp
                first | exact rfl | exact ⟨rfl, rfl⟩
              go_simp
              refine wpG_pe rfl rfl ?_
              apply Exists.intro
              refine ⟨fun wq => ?_, ?_⟩
              · unfold plainAt
                go_simp
                first | exact rfl | exact ⟨rfl, rfl⟩
              go_simp
              refine wpG_pe rfl rfl ?_
              apply Exists.intro
              refine ⟨fun wq => ?_, ?_⟩
              · unfold plainAt
                go_simp
                first | exact rfl | exact ⟨rfl, rfl⟩
              go_simp
              refine wpG_pe rfl rfl ?_
              apply Exists.intro
              refine ⟨fun wq => ?_, ?_⟩
              · unfold plainAt
                go_simp
                first | exact rfl | exact ⟨rfl, rfl⟩
              go_simp
              refine wpG_pe rfl rfl ?_
              apply Exists.intro
              refine ⟨fun wq => ?_, ?_⟩
              · unfold plainAt
                go_simp
                first | exact rfl | exact ⟨rfl, rfl⟩
              go_simp
              refine wpG_pe rfl rfl ?_
              apply Exists.intro
              refine ⟨fun wq => ?_, ?_⟩
              · unfold plainAt
                go_simp
                first | exact rfl | exact ⟨rfl, rfl⟩
              go_simp
              refine wpG_pe rfl rfl ?_
              apply Exists.intro
              refine ⟨fun wq => ?_, ?_⟩
              · unfold plainAt
                go_simp
                first | exact rfl | exact ⟨rfl, rfl⟩
              go_simp
              refine wpG_pe rfl rfl ?_
              apply Exists.intro
              refine ⟨fun wq => ?_, ?_⟩
              · unfold plainAt
                go_simp
                first | exact rfl | exact ⟨rfl, rfl⟩
              go_simp
              refine wpG_qe rfl rfl ?_
              apply Exists.intro
              refine ⟨fun wq hq => ?_, ?_⟩
              · have c9 := (Below.cell hq (World.block_lt_of_cell? wr _ d1)).trans d1
                unfold plainAt
                go_simp
                first | exact rfl | exact ⟨rfl, rfl⟩
              go_simp
              refine wpG_qe rfl rfl ?_
              apply Exists.intro
              refine ⟨fun wq hq => ?_, ?_⟩
              · have c9 := (Below.cell hq (World.block_lt_of_cell? wr _ d2)).trans d2
                unfold plainAt
                go_simp
                first | exact rfl | exact ⟨rfl, rfl⟩
              go_simp
              refine wpG_c rfl rfl ?_
              intro w5 g5 K hK
              go_simp
              go_at_call 31
              refine (HAH.out w5).mono ?_
              rintro e wn ⟨rfl, g6⟩
              refine hK _ _ g6 ?_; have G6 := Lib.hid (Gr.trans (Gr.trans (Gr.drew wr) g5) g6); clear g5 g6 hK
              go_simp
              refine wpG_pe rfl rfl ?_
              apply Exists.intro
              refine ⟨fun wq => ?_, ?_⟩
              · unfold plainAt
                go_simp
                first | exact rfl | exact ⟨rfl, rfl⟩
              go_simp
              refine wpG_nil ?_
              intro w7 g7
              have G7 := Lib.hid (Gr.trans G.out (Gr.trans G6.out g7))
              clear g7 G6
              go_wp2_with fail
              refine ⟨⟨a + 1, by omega, by first | trivial | go_num, G7.out, HN2.out⟩, ?_⟩
              show out.length - ((a : Int) + 1).toNat < out.length - (a : Int).toNat
              omega
            | false =>
              have HE2 := Lib.hid (HEN.out hb)
              rw [hb] at HAH
              clear hb HNX HEN
              go_wp2_with fail
              refine wp_region_grow (by kernel_rfl) [0, 0, 2, 7, 15, 31, 31, 127, 255, 31, 31, 1567, 3615, 8191, 16383] [.p 0, .p 1, .p 2, .p 3, .p 4, .p 5, .p 6, .p 7, .p 9, .p 10, .p 11, .q 8, .q 12, .c 13, .p 14] (by kernel_rfl) (by simp only [mkAll]) ?_
              refine wpG_pe rfl rfl ?_
              apply Exists.intro
              refine ⟨fun wq => ?_, ?_⟩
              · unfold plainAt
                go_simp
                first | exact rfl | exact ⟨rfl, rfl⟩
              go_simp
              refine wpG_pe rfl rfl ?_
              apply Exists.intro
              refine ⟨fun wq => ?_, ?_⟩
              · unfold plainAt
                go_simp
                first | exact rfl | exact ⟨rfl, rfl⟩
              go_simp
              refine wpG_pe rfl rfl ?_
              apply Exists.intro
              refine ⟨fun wq => ?_, ?_⟩
              · unfold plainAt
                go_simp
                first | exact rfl | exact ⟨rfl, rfl⟩
              go_simp
              refine wpG_pe rfl rfl ?_
              apply Exists.intro
              refine ⟨fun wq => ?_, ?_⟩
              · unfold plainAt
                go_simp
                first | exact rfl | exact ⟨rfl, rfl⟩
              go_simp
              refine wpG_pe rfl rfl ?_
              apply Exists.intro
              refine ⟨fun wq => ?_, ?_⟩
              · unfold plainAt
                go_simp
                first | exact rfl | exact ⟨rfl, rfl⟩
              go_simp
              refine wpG_pe rfl rfl ?_
              apply Exists.intro
              refine ⟨fun wq => ?_, ?_⟩
              · unfold plainAt
                go_simp
                first | exact rfl | exact ⟨rfl, rfl⟩
              go_simp
              refine wpG_pe rfl rfl ?_
              apply Exists.intro
              refine ⟨fun wq => ?_, ?_⟩
              · unfold plainAt
                go_simp
                first | exact rfl | exact ⟨rfl, rfl⟩
              go_simp
              refine wpG_pe rfl rfl ?_
              apply Exists.intro
              refine ⟨fun wq => ?_, ?_⟩
              · unfold plainAt
                go_simp
                first | exact rfl | exact ⟨rfl, rfl⟩
              go_simp
              refine wpG_pe rfl rfl ?_
              apply Exists.intro
              refine ⟨fun wq => ?_, ?_⟩
              · unfold plainAt
                go_simp
                first | exact rfl | exact ⟨rfl, rfl⟩
              go_simp
              refine wpG_pe rfl rfl ?_
              apply Exists.intro
              refine ⟨fun wq => ?_, ?_⟩
              · unfold plainAt
                go_simp
                first | exact rfl | exact ⟨rfl, rfl⟩
              go_simp
              refine wpG_pe rfl rfl ?_
              apply Exists.intro
              refine ⟨fun wq => ?_, ?_⟩
              · unfold plainAt
                go_simp
                first | exact rfl | exact ⟨rfl, rfl⟩
              go_simp
              refine wpG_qe rfl rfl ?_
              apply Exists.intro
              refine ⟨fun wq hq => ?_, ?_⟩
              · have c9 := (Below.cell hq (World.block_lt_of_cell? wr _ d1)).trans d1
                unfold plainAt
                go_simp
                first | exact rfl | exact ⟨rfl, rfl⟩
              go_simp
              refine wpG_qe rfl rfl ?_
              apply Exists.intro
              refine ⟨fun wq hq => ?_, ?_⟩
              · have c9 := (Below.cell hq (World.block_lt_of_cell? wr _ d2)).trans d2
                unfold plainAt
                go_simp
                first | exact rfl | exact ⟨rfl, rfl⟩
              go_simp
              refine wpG_c rfl rfl ?_
              intro w5 g5 K hK
              go_simp
              go_at_call 31
              refine (HAH.out w5).mono ?_
              rintro e wn ⟨rfl, g6⟩
              refine hK _ _ g6 ?_; have G6 := Lib.hid (Gr.trans (Gr.trans (Gr.drew wr) g5) g6); clear g5 g6 hK
              go_simp
              refine wpG_pe rfl rfl ?_
              apply Exists.intro
              refine ⟨fun wq => ?_, ?_⟩
              · unfold plainAt
                go_simp
                first | exact rfl | exact ⟨rfl, rfl⟩
              go_simp
              refine wpG_nil ?_
              intro w7 g7
              have G7 := Lib.hid (Gr.trans G.out (Gr.trans G6.out g7))
              clear g7 G6
              have e1x := (Below.cell G7.out (World.block_lt_of_cell? wo _ c1)).trans c1
              have OE := Lib.hid ((Blk.new w7 9 #[]).own (w0 := w7) (size := 1) (n := 0) (Nat.le_refl _) (Gr.alloc w7 _) rfl (by decide))
              have HT1 : Hid (Sl (w7.alloc (.cells #[] 9)) (some ⟨b2, o2, none⟩) a c2 1 ((out.take a).map strc)) := by
                have q := Sl.upto ((HWS.out.mono G7.out).mono (Gr.alloc w7 (.cells #[] 9))) (k := a) (by omega)
                rwa [← List.map_take] at q
              have HT2 : Hid (∀ wq, Gr wo wq → Sl wq (some ⟨b2, o2 + a, none⟩) (out.length - a) (c2 - a) 1 ((out.drop a).map strc)) := fun wq gq => by
                have q := Sl.from (A' := some ⟨b2, o2 + a, none⟩) (HWS.out.mono gq) (k := a) (by omega) (fun _ b' o' e => by injection e with e; injection e with e1 e2; subst e1 e2; rfl)
                rwa [← List.map_drop] at q
              go_wp2_with (at_builtin; first
                | (refine wpList_cat rfl (.tmp 44) (.tmp 47) 22 rfl tWords rfl OE.out rfl HT1.out (by intro u hu; obtain ⟨y, _, rfl⟩ := List.mem_map.1 hu; rfl) (by omega) ?_; intro v8 w8 o8; have O8 := Lib.hid o8; have G8 : Hid (Gr w7 w8) := o8.below; have e8x := (Below.cell G8.out (World.block_lt_of_cell? w7 _ e1x)).trans e1x; clear o8)
                | (refine wpList_push rfl (.tmp 49) (.tmp 54) 22 rfl tWords rfl O8.out #[.string xs] rfl rfl (by intro u hu; simp at hu; subst hu; rfl) (by omega) ?_; intro v9 w9 o9; have O9 := Lib.hid o9; have G9 : Hid (Gr wo w9) := Gr.trans G7.out o9.below; have HT3 := Lib.hid (HT2.out w9 G9.out); clear o9)
                | (refine wpList_cat rfl (.tmp 56) (.tmp 59) 22 rfl tWords rfl O9.out rfl HT3.out (by intro u hu; obtain ⟨y, _, rfl⟩ := List.mem_map.1 hu; rfl) (by omega) ?_; intro v10 w10 o10; have O10 := Lib.hid o10; clear o10))
              refine ⟨⟨k + 1, out.take a ++ x :: out.drop a, by omega, by first | trivial | go_num, ?_, ?_, ?_, ?_⟩, ?_⟩
              · have e2 : (out.take a ++ x :: out.drop a).length = 0 + a + 1 + (out.length - a) := by
                  rw [List.length_append, List.length_cons, List.length_take, List.length_drop, Nat.min_eq_left ha]
                  omega
                have e3 : (out.take a ++ x :: out.drop a).map strc = [] ++ (out.take a).map strc ++ [.string xs] ++ (out.drop a).map strc := by
                  rw [List.map_append, List.map_cons, HX0.out]
                  simp
                rw [e2, e3]
                exact O10.out.onto (Gr.trans HO.out.below G7.out)
              · rw [HS2.out, HE2.out]
              · rw [List.length_append, List.length_cons, List.length_take, List.length_drop, Nat.min_eq_left ha]
                omega
              · intro y hy
                rcases List.mem_append.1 hy with hy | hy
                · exact HOB.out y (List.mem_of_mem_take hy)
                · rcases List.mem_cons.1 hy with rfl | hy
                  · exact hxb
                  · exact HOB.out y (List.mem_of_mem_drop hy)
              · show n - ((k : Int) + 1).toNat < n - (k : Int).toNat
                omega
          · have hae : a = out.length := by omega
            have HE2 : Hid (atH x out = a) := by show _ = _; rw [atH_all (fun j hj => HA.out j hj (by omega)), hae]
            have t1 : decide ((a : Int) < (out.length : Int)) = false := decide_eq_false (by omega)
            have hA2 : (A2 = none ∧ c2 = 0 ∧ out = []) ∨ ∃ g2, A2 = some ⟨g2, 0, none⟩ := by
              rcases HO.out.1.2 with ⟨hv, _⟩ | ⟨g2, cap, cur, hv, _⟩
              · injection hv with e1 e2 e3
                exact .inl ⟨e1, e3, List.eq_nil_of_length_eq_zero e2⟩
              · injection hv with e1 e2 e3
                exact .inr ⟨g2, e1⟩
            rcases hA2 with ⟨rfl, rfl, rfl⟩ | ⟨g2, rfl⟩
            · obtain rfl : a = 0 := hae
              simp only [List.length_nil] at *
              go_wp2_with fail
              go_quiet (fail)
              have G7 := Lib.hid (belowN g nq)
              obtain ⟨w7, hw7⟩ : ∃ w7, w7 = wr.drewN nq := ⟨_, rfl⟩
              rw [← hw7] at G7 ⊢
              clear hw7 g
              have e1x := (Below.cell G7.out (World.block_lt_of_cell? wo _ c1)).trans c1
              have OE := Lib.hid ((Blk.new w7 9 #[]).own (w0 := w7) (size := 1) (n := 0) (Nat.le_refl _) (Gr.alloc w7 _) rfl (by decide))
              have HT1 : Hid (Sl (w7.alloc (.cells #[] 9)) none 0 0 1 ((([] : List (List UInt8)).take 0).map strc)) := by
                have q := Sl.upto ((HWS.out.mono G7.out).mono (Gr.alloc w7 (.cells #[] 9))) (k := 0) (by omega)
                rwa [← List.map_take] at q
              have HT2 : Hid (∀ wq A', Gr wo wq → Sl wq A' (0 - 0) (0 - 0) 1 ((([] : List (List UInt8)).drop 0).map strc)) := fun wq A' gq => by
                have q := Sl.from (A' := A') (HWS.out.mono gq) (k := 0) (by omega) (fun q => absurd q (by omega))
                rwa [← List.map_drop] at q
              go_wp2_with (at_builtin; first
                | (refine wpList_cat rfl (.tmp 44) (.tmp 47) 22 rfl tWords rfl OE.out rfl HT1.out (by intro u hu; obtain ⟨y, _, rfl⟩ := List.mem_map.1 hu; rfl) (by omega) ?_; intro v8 w8 o8; have O8 := Lib.hid o8; have G8 : Hid (Gr w7 w8) := o8.below; have e8x := (Below.cell G8.out (World.block_lt_of_cell? w7 _ e1x)).trans e1x; clear o8)
                | (refine wpList_push rfl (.tmp 49) (.tmp 54) 22 rfl tWords rfl O8.out #[.string xs] rfl rfl (by intro u hu; simp at hu; subst hu; rfl) (by omega) ?_; intro v9 w9 o9; have O9 := Lib.hid o9; have G9 : Hid (Gr wo w9) := Gr.trans G7.out o9.below; have HT3 := Lib.hid (fun A' => HT2.out w9 A' G9.out); clear o9)
                | (refine wpList_cat rfl (.tmp 56) (.tmp 59) 22 rfl tWords rfl O9.out rfl (HT3.out _) (by intro u hu; obtain ⟨y, _, rfl⟩ := List.mem_map.1 hu; rfl) (by omega) ?_; intro v10 w10 o10; have O10 := Lib.hid o10; clear o10))
              refine ⟨⟨k + 1, ([] : List (List UInt8)).take 0 ++ x :: ([] : List (List UInt8)).drop 0, by omega, by first | trivial | go_num, ?_, ?_, ?_, ?_⟩, ?_⟩
              · have e2 : (([] : List (List UInt8)).take 0 ++ x :: ([] : List (List UInt8)).drop 0).length = 0 + 0 + 1 + (0 - 0) := rfl
                have e3 : (([] : List (List UInt8)).take 0 ++ x :: ([] : List (List UInt8)).drop 0).map strc = [] ++ (([] : List (List UInt8)).take 0).map strc ++ [.string xs] ++ (([] : List (List UInt8)).drop 0).map strc := by
                  rw [List.map_append, List.map_cons, HX0.out]
                  simp
                rw [e2, e3]
                exact O10.out.onto (Gr.trans HO.out.below G7.out)
              · rw [HS2.out, HE2.out]
              · show 1 ≤ k + 1
                omega
              · intro y hy
                rcases List.mem_append.1 hy with hy | hy
                · exact HOB.out y (List.mem_of_mem_take hy)
                · rcases List.mem_cons.1 hy with rfl | hy
                  · exact hxb
                  · exact HOB.out y (List.mem_of_mem_drop hy)
              · show n - ((k : Int) + 1).toNat < n - (k : Int).toNat
                omega
            · have HAE := Lib.hid hae
              clear hae
              go_wp2_with fail
              go_quiet (fail)
              have G7 := Lib.hid (belowN g nq)
              obtain ⟨w7, hw7⟩ : ∃ w7, w7 = wr.drewN nq := ⟨_, rfl⟩
              rw [← hw7] at G7 ⊢
              clear hw7 g
              have e1x := (Below.cell G7.out (World.block_lt_of_cell? wo _ c1)).trans c1
              have OE := Lib.hid ((Blk.new w7 9 #[]).own (w0 := w7) (size := 1) (n := 0) (Nat.le_refl _) (Gr.alloc w7 _) rfl (by decide))
              have HT1 : Hid (Sl (w7.alloc (.cells #[] 9)) (some ⟨g2, 0, none⟩) a c2 1 ((out.take a).map strc)) := by
                have q := Sl.upto ((HWS.out.mono G7.out).mono (Gr.alloc w7 (.cells #[] 9))) (k := a) (by omega)
                rwa [← List.map_take] at q
              have HT2 : Hid (∀ wq A', Gr wo wq → Sl wq A' (out.length - a) (c2 - a) 1 ((out.drop a).map strc)) := fun wq A' gq => by
                have q := Sl.from (A' := A') (HWS.out.mono gq) (k := a) (by omega) (fun q => absurd q (by have := HAE.out; omega))
                rwa [← List.map_drop] at q
              go_wp2_with (at_builtin; first
                | (refine wpList_cat rfl (.tmp 44) (.tmp 47) 22 rfl tWords rfl OE.out rfl HT1.out (by intro u hu; obtain ⟨y, _, rfl⟩ := List.mem_map.1 hu; rfl) (by omega) ?_; intro v8 w8 o8; have O8 := Lib.hid o8; have G8 : Hid (Gr w7 w8) := o8.below; have e8x := (Below.cell G8.out (World.block_lt_of_cell? w7 _ e1x)).trans e1x; clear o8)
                | (refine wpList_push rfl (.tmp 49) (.tmp 54) 22 rfl tWords rfl O8.out #[.string xs] rfl rfl (by intro u hu; simp at hu; subst hu; rfl) (by omega) ?_; intro v9 w9 o9; have O9 := Lib.hid o9; have G9 : Hid (Gr wo w9) := Gr.trans G7.out o9.below; have HT3 := Lib.hid (fun A' => HT2.out w9 A' G9.out); clear o9)
                | (refine wpList_cat rfl (.tmp 56) (.tmp 59) 22 rfl tWords rfl O9.out rfl (HT3.out _) (by intro u hu; obtain ⟨y, _, rfl⟩ := List.mem_map.1 hu; rfl) (by omega) ?_; intro v10 w10 o10; have O10 := Lib.hid o10; clear o10))
              refine ⟨⟨k + 1, out.take a ++ x :: out.drop a, by omega, by first | trivial | go_num, ?_, ?_, ?_, ?_⟩, ?_⟩
              · have e2 : (out.take a ++ x :: out.drop a).length = 0 + a + 1 + (out.length - a) := by
                  rw [List.length_append, List.length_cons, List.length_take, List.length_drop, Nat.min_eq_left ha]
                  omega
                have e3 : (out.take a ++ x :: out.drop a).map strc = [] ++ (out.take a).map strc ++ [.string xs] ++ (out.drop a).map strc := by
                  rw [List.map_append, List.map_cons, HX0.out]
                  simp
                rw [e2, e3]
                exact O10.out.onto (Gr.trans HO.out.below G7.out)
              · rw [HS2.out, HE2.out]
              · rw [List.length_append, List.length_cons, List.length_take, List.length_drop, Nat.min_eq_left ha]
                omega
              · intro y hy
                rcases List.mem_append.1 hy with hy | hy
                · exact HOB.out y (List.mem_of_mem_take hy)
                · rcases List.mem_cons.1 hy with rfl | hy
                  · exact hxb
                  · exact HOB.out y (List.mem_of_mem_drop hy)
              · show n - ((k : Int) + 1).toNat < n - (k : Int).toNat
                omega
    · obtain rfl : k = n := by omega
      have HE : Hid (out = namesR hs) := by show _ = _; rw [HOT.out, List.take_of_length_le (by rw [HL.out]; omega)]
      clear hown
      go_wp2_with fail
      go_ret
      rw [← HE.out]
      exact ⟨_, rfl, HO.out⟩
end Go.Proofs.YtfemhhjmfckicaaGreatDoor
