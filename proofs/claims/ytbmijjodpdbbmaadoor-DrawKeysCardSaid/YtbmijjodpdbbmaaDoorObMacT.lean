import Derived.Test.YtbmijjodpdbbmaaDoorObMacK
namespace Go.Proofs.YtbmijjodpdbbmaaDoor
open Go.RowKit
set_option linter.unusedVariables false

theorem tag_any (A B : Option Addr) (n c m d : Nat) (k : List UInt8) (L : List BRow) (w : World) (h : Bs w A n c k) (hn : n ≤ 50000) (hL : Bss w B m d L) (hm : (rowsOf L).length ≤ 40000) (hK : ShaK w) :
    Calls Tryd.prog 135 #[.slice A n c, .slice B m d] w (RetBs w (macL k (rowsOf L))) := by
  have HH := Lib.hid h; clear h
  have HK := Lib.hid hK; clear hK
  have HB := Lib.hid hL; clear hL
  obtain ⟨T, hT⟩ : ∃ T, T = rowsOf L := ⟨_, rfl⟩
  rw [← hT] at hm ⊢
  have HT := Lib.hid hT; clear hT
  obtain ⟨K64, hK64⟩ : ∃ K64, K64 = keyL k := ⟨_, rfl⟩
  have hKl : K64.length = 64 := by rw [hK64, keyL_len]
  obtain ⟨X1, hX1⟩ : ∃ X1, X1 = xorL K64 (List.replicate 64 54) := ⟨_, rfl⟩
  obtain ⟨X2, hX2⟩ : ∃ X2, X2 = xorL K64 (List.replicate 64 92) := ⟨_, rfl⟩
  have hX1l : X1.length = 64 := by rw [hX1, xorL_length, hKl, List.length_replicate]; rfl
  have hX2l : X2.length = 64 := by rw [hX2, xorL_length, hKl, List.length_replicate]; rfl
  obtain ⟨S1, hS1⟩ : ∃ S1, S1 = sumL (X1 ++ T) := ⟨_, rfl⟩
  have hS1l : S1.length = 32 := by rw [hS1, sumL_len]
  have hM : macL k T = sumL (X2 ++ S1) := by unfold macL keyX; rw [← hK64, ← hX1, ← hX2, ← hS1]
  rw [hM]
  have HK64 := Lib.hid hK64; have HX1 := Lib.hid hX1; have HX2 := Lib.hid hX2; have HS1 := Lib.hid hS1; have HKl := Lib.hid hKl; have HX1l := Lib.hid hX1l; have HX2l := Lib.hid hX2l; have HS1l := Lib.hid hS1l
  clear hK64 hX1 hX2 hS1 hKl hX1l hX2l hS1l hM
  go_enter Tryd.func135, Tryd.ntmps135
  go_wp2_with (first
    | (go_at_call 149; refine (key_any A n c k _ HH.out hn HK.out).mono ?_; rintro e w1 ⟨v1, rfl, own1⟩; rw [← HK64.out] at own1; obtain ⟨A1, k1, rfl, sl1⟩ := own1.slice; rw [HKl.out] at sl1; rw [HKl.out]; have O1 := Lib.hid own1.below; have SK := Lib.hid sl1; clear own1 sl1)
    | fail)
  obtain ⟨W1, hW1⟩ : ∃ W1, W1 = w1.alloc (.cells #[.slice A1 64 k1] 22) := ⟨_, rfl⟩
  have D1 : Hid (Below w1.heap.size w1 W1) := by rw [hW1]; exact (Below.refl _ _).alloc (Nat.le_refl _) _
  have E1 : Hid (Below w.heap.size w W1) := O1.out.trans (D1.out.mono O1.out.size)
  have SK1 : Hid (Bs W1 A1 64 k1 K64) := SK.out.mono D1.out
  have cb : W1.cell? ⟨w1.heap.size, 0, none⟩ = some (.slice A1 64 k1) := by rw [hW1, (Blk.new w1 _ _).cell]; rfl
  have CB := Lib.hid cb; clear cb
  rw [← hW1]
  generalize w1.heap.size = p1 at *
  clear hW1 D1 O1 SK
  refine (tagf_any p1 54 54 rfl A1 k1 K64 W1 CB.out SK1.out).mono ?_
  rintro e w2 ⟨v2, rfl, own2⟩
  rw [← HX1.out, HX1l.out] at own2
  have O2 := Lib.hid own2; clear own2
  have E2 : Hid (Below w.heap.size w w2) := below_both E1.out O2.out.below
  go_wp2_with (first
    | (go_at_call 113; refine (concat_any B m d L _ (HB.out.mono E2.out) (by rw [← HT.out]; omega)).mono ?_; rintro e w3 ⟨v3, rfl, own3⟩; rw [← HT.out] at own3; obtain ⟨A3, k3, rfl, sl3⟩ := own3.slice; have O3 := Lib.hid own3.below; have S3 := Lib.hid sl3; clear own3 sl3)
    | (at_builtin; refine wpList_cat rfl (.tmp 12) (.tmp 14) 22 rfl tBytes rfl (O2.out.mono O3.out) rfl S3.out (one_bytes _) (by omega) ?_; intro v4 w4 own4; obtain ⟨A4, k4, rfl, sl4⟩ := own4.slice; rw [← List.map_append] at sl4; have E4 : Hid (Below w.heap.size w w4) := below_both E1.out own4.below; have F4 := Lib.hid own4.below; have S4 := Lib.hid sl4; clear own4 sl4)
    | (go_at_call 153; refine (sum_any A4 _ k4 (X1 ++ T) _ S4.out (by omega) (HK.out.mono E4.out)).mono ?_; rintro e w5 ⟨v5, rfl, own5⟩; rw [← HS1.out, HS1l.out] at own5; obtain ⟨A5, k5, rfl, sl5⟩ := own5.slice; have E5 : Hid (Below w.heap.size w w5) := below_both E4.out own5.below; have F5 : Hid (Below W1.heap.size W1 w5) := below_both F4.out own5.below; have S5 := Lib.hid sl5; clear own5 sl5)
    | fail)
  have C5 : Hid (w5.cell? ⟨p1, 0, none⟩ = some (.slice A1 64 k1)) := (F5.out.cell (World.block_lt_of_cell? W1 _ CB.out)).trans CB.out
  refine (tagf_any p1 92 92 rfl A1 k1 K64 w5 C5.out (SK1.out.mono F5.out)).mono ?_
  rintro e w6 ⟨v6, rfl, own6⟩
  rw [← HX2.out, HX2l.out] at own6
  have O6 := Lib.hid own6; clear own6
  go_wp2_with (first
    | (at_builtin; refine wpList_cat rfl (.tmp 18) (.tmp 19) 22 rfl tBytes rfl O6.out rfl (S5.out.mono O6.out.below) (one_bytes _) (by omega) ?_; intro v7 w7 own7; obtain ⟨A7, k7, rfl, sl7⟩ := own7.slice; rw [← List.map_append] at sl7; have E7 : Hid (Below w.heap.size w w7) := below_both E5.out own7.below; have S7 := Lib.hid sl7; clear own7 sl7)
    | (go_at_call 153; refine (sum_any A7 _ k7 (X2 ++ S1) _ S7.out (by omega) (HK.out.mono E7.out)).mono ?_; rintro e w8 ⟨v8, rfl, own8⟩; have O8 := Lib.hid (own8.base E7.out); clear own8)
    | fail)
  go_ret
  exact ⟨_, rfl, O8.out⟩

/-- A row of rows that the call has just made: one row. -/
theorem Bss.one {w : World} {r : BRow} (h : Bs w r.a r.n r.c r.l) (t : TypeId) : Bss (w.alloc (.cells #[.slice r.a r.n r.c] t)) (some ⟨w.heap.size, 0, none⟩) 1 1 [r] := by
  refine ⟨⟨by simp, Nat.le_refl _, by simp [maxLen], fun _ => ⟨_, _, rfl, ?_⟩⟩, ?_⟩
  · intro j u hu
    have h0 : j = 0 := by have := (List.getElem?_eq_some_iff.1 hu).1; simpa using this
    subst h0
    rw [(Blk.new w _ _).cell]
    exact hu
  · intro q hq
    obtain rfl : q = r := by simpa using hq
    exact h.mono ((Below.refl _ _).alloc (Nat.le_refl _) _)
theorem Bss.two {w : World} {r s : BRow} (h : Bs w r.a r.n r.c r.l) (k : Bs w s.a s.n s.c s.l) (t : TypeId) : Bss (w.alloc (.cells #[.slice r.a r.n r.c, .slice s.a s.n s.c] t)) (some ⟨w.heap.size, 0, none⟩) 2 2 [r, s] := by
  refine ⟨⟨by simp, Nat.le_refl _, by simp [maxLen], fun _ => ⟨_, _, rfl, ?_⟩⟩, ?_⟩
  · intro j u hu
    rw [Nat.zero_add, (Blk.new w _ _).cell]
    exact hu
  · intro q hq
    rcases (by simpa using hq : q = r ∨ q = s) with rfl | rfl
    · exact h.mono ((Below.refl _ _).alloc (Nat.le_refl _) _)
    · exact k.mono ((Below.refl _ _).alloc (Nat.le_refl _) _)
theorem mac_any (A B : Option Addr) (n c m d : Nat) (k t : List UInt8) (w : World) (h : Bs w A n c k) (hn : n ≤ 50000) (ht : Bs w B m d t) (hm : m ≤ 40000) (hK : ShaK w) :
    Calls Tryd.prog 112 #[.slice A n c, .slice B m d] w (RetBs w (macL k t)) := by
  have hl : t.length = m := by have := Sl.len ht; simpa using this
  have HT : Hid (Bss (w.alloc (.cells #[.slice B m d] 22)) (some ⟨w.heap.size, 0, none⟩) 1 1 [⟨B, m, d, t⟩]) := Bss.one (r := ⟨B, m, d, t⟩) ht _
  have HB : Hid (Below w.heap.size w (w.alloc (.cells #[.slice B m d] 22))) := (Below.refl _ _).alloc (Nat.le_refl _) _
  have HH := Lib.hid h; clear h
  have HK := Lib.hid hK; clear hK ht
  have HR : Hid (rowsOf [⟨B, m, d, t⟩] = t) := by show _ = _; simp [rowsOf]
  go_enter Tryd.func112, Tryd.ntmps112
  go_wp2_with (go_at_call 135; refine (tag_any A _ n c _ _ k _ _ (HH.out.mono HB.out) (by omega) HT.out (by rw [HR.out]; omega) (HK.out.mono HB.out)).mono ?_; rintro e w2 ⟨v2, rfl, own2⟩; rw [HR.out] at own2; have O2 := Lib.hid (own2.base HB.out); clear own2)
  go_ret
  exact ⟨_, rfl, O2.out⟩
end Go.Proofs.YtbmijjodpdbbmaaDoor
