/- Own texts of this claim, one behind the other. No condition. -/
import Derived.Test.YtcfbbgbjlgonpaaGreatDoorObPkAB
import Derived.Test.YtcfbbgbjlgonpaaGreatDoorObPkBM
import Derived.Test.YtcfbbgbjlgonpaaGreatDoorObPkBO

/- SuiteApart: the chapter's example. No condition. -/
namespace Go.Proofs.YtcfbbgbjlgonpaaGreatDoor
open Go.RowKit
set_option linter.unusedVariables false
set_option linter.unusedSimpArgs false
theorem tin_sz {T : List Nd} (h : TIn T) : ∀ x ∈ T, x.s.size ≤ maxLen := fun x hx => (h.fit x hx).2.2.2
theorem FS.ownB {w0 w w' : World} {v : Value} {n : Nat} {l : List UInt8} (h : FS w w') (ho : Own w0 w 5 1 v n (l.map u8c)) (hb : Below w0.heap.size w0 w') : Own w0 w' 5 1 v n (l.map u8c) := h.own ho (by decide) (by decide) (by decide) hb
set_option maxRecDepth 100000 in
set_option maxHeartbeats 2000000 in
theorem alive17_any (w : World) : Calls Tryz.prog 7 #[] w fun e w' => e = .returned (.bool true) ∧ Gr w w' := by
  go_enter Tryz.func7, Tryz.ntmps7
  go_wp2_with fail
  refine (symbolic2_any w).mono ?_
  rintro e w1 ⟨p, g, bm, bs, rfl, s1, _⟩
  have S1 := Lib.hid s1; clear s1
  go_wp2_with fail
  refine (S1.out.draw2 (by decide)).mono ?_
  rintro e w2 ⟨⟨v2, rfl, o2, s2, f2⟩, _⟩
  obtain ⟨A2, c2, rfl, sl2⟩ := o2.slice
  have hc2 := sl2.cap; have hm2 := sl2.max
  have O2 := Lib.hid o2; have S2 := Lib.hid s2
  clear o2 s2 f2 sl2
  obtain ⟨T1, hT1⟩ : ∃ T1, T1 = (atomT []).1 := ⟨_, rfl⟩
  obtain ⟨i1, hi1⟩ : ∃ i1, i1 = (atomT []).2 := ⟨_, rfl⟩
  have hl1 : T1.length = 1 := by rw [hT1]; rfl
  rw [← hT1] at S2
  rw [← hi1] at O2
  have HL1 := Lib.hid hl1
  clear hT1 hi1 hl1
  obtain ⟨w3, hw3⟩ : ∃ w3, w3 = w2.alloc (.cells #[.int .u8 7] 5) := ⟨_, rfl⟩
  have g3 : Gr w2 w3 := by rw [hw3]; exact Gr.alloc _ _
  have b3 : Blk w3 w2.heap.size 5 (([7] : List UInt8).map u8c) := by rw [hw3]; exact Blk.new w2 5 #[.int .u8 7]
  have hbk : ∀ w', Blk w' w2.heap.size 5 (([7] : List UInt8).map u8c) → Bs w' (some ⟨w2.heap.size, 0, none⟩) 1 1 [7] := fun w' hb => ⟨rfl, Nat.le_refl _, by decide, fun _ => ⟨_, 0, rfl, fun j u hu => by rw [Nat.zero_add, hb.cell]; exact hu⟩⟩
  have o3 := O2.out.mono g3
  obtain ⟨A2', c2', e2, sl3⟩ := o3.slice
  injection e2 with ea eb ec
  subst ea ec
  have HSE := Lib.hid ((S2.out.gr g3).seal (by rw [HL1.out]; decide) A2 (some ⟨w2.heap.size, 0, none⟩) 32 c2 1 1 (handleL i1) [7] sl3 (hbk w3 b3) rfl (by decide) (fun w' hf _ => hbk w' (hf _ _ _ (by decide) (by decide) (by decide) b3)))
  have HO3 := Lib.hid o3
  have HW3 := Lib.hid hw3
  clear hw3 g3 b3 hbk o3 sl3 eb
  go_wp2_with fail
  rw [← HW3.out]
  refine HSE.out.mono ?_
  rintro e w4 ⟨⟨v4, rfl, o4⟩, s4, f4, _⟩
  obtain ⟨A4, c4, rfl, sl4⟩ := o4.slice
  have hc4 := sl4.cap; have hm4 := sl4.max
  have S4 := Lib.hid s4
  have o3' := f4.ownB HO3.out s4.below
  obtain ⟨A2', c2', e2, sl5⟩ := o3'.slice
  injection e2 with ea eb ec
  subst ea ec
  obtain ⟨id, pa, pb, hsd⟩ := seald_of (T := T1) (by rw [HL1.out]; decide) (handleL i1) [7]
  have hln := seal_len T1 (handleL i1) [7]
  rw [HL1.out] at hln
  have hsd1 := hsd _ (Onto.refl _) (by omega)
  have HOP := Lib.hid (s4.openS (by omega) (tin_sz s4.i) hsd1 (by decide) A2 A4 32 c2 (1 + 48) c4 (handleL i1) sl5 sl4)
  clear s4 o3' o4 f4 sl4 sl5 hsd hsd1 hln eb
  go_wp2_with fail
  refine HOP.out.mono ?_
  rintro e w5 ⟨C, q, r, rfl, hx, _, g5⟩
  have hx := hx trivial
  have hq : q = 1 := by have := hx.len; simpa using this.symm
  subst hq
  obtain ⟨b5, o5, rfl, hc5⟩ := hx.addr (by decide)
  have e5 : w5.cell? ⟨b5, o5, none⟩ = some (.int .u8 7) := hc5 0 (by decide)
  have hcx := hx.cap; have hmx := hx.max
  have tk : (handleL i1 == handleL i1) = true := by simp
  rw [tk]
  have G5 : Hid (Gr w w5) := Gr.trans S4.out.below g5
  clear hx hc5 g5 tk
  go_wp2_with fail
  go_ret
  exact ⟨rfl, G5.out⟩
end Go.Proofs.YtcfbbgbjlgonpaaGreatDoor

/- No suite: what a nil one tells. No condition. -/
namespace Go.Proofs.YtcfbbgbjlgonpaaGreatDoor
open Go.RowKit
set_option linter.unusedVariables false
set_option linter.unusedSimpArgs false
theorem noneNil_any (w : World) : Calls Tryz.prog 32 #[.pointer none] w fun e w' => e = .returned (.bool true) ∧ w = w' := by
  go_enter Tryz.func32, Tryz.ntmps32
  go_wp2_with fail
  go_ret
  exact ⟨rfl, rfl⟩
theorem nilTerms_any (w : World) : Calls Tryz.prog 10 #[.pointer none] w fun e w' => e = .returned (.pointer none) ∧ w = w' := by
  have HN := Lib.hid (noneNil_any w)
  go_enter Tryz.func10, Tryz.ntmps10
  go_wp2_with fail
  first | go_step3 | skip
  go_wp2_with fail
  refine HN.out.mono ?_
  rintro e w1 ⟨rfl, h1⟩
  rw [← h1]
  clear h1 w1
  go_wp2_with fail
  try rw [Exit.noGoto_ret]
  go_ret
  exact ⟨rfl, rfl⟩
theorem nilDraw_any (w : World) : Calls Tryz.prog 22 #[.pointer none] w fun e w' => e = .returned (.slice none 0 0) ∧ w = w' := by
  have HN := Lib.hid (noneNil_any w)
  go_enter Tryz.func22, Tryz.ntmps22
  go_wp2_with fail
  first | go_step3 | skip
  go_wp2_with fail
  refine HN.out.mono ?_
  rintro e w1 ⟨rfl, h1⟩
  rw [← h1]
  clear h1 w1
  go_wp2_with fail
  try rw [Exit.noGoto_ret]
  go_ret
  exact ⟨rfl, rfl⟩
theorem nilSeal_any (A B : Option Addr) (n c m d : Nat) (w : World) : Calls Tryz.prog 18 #[.pointer none, .slice A n c, .slice B m d] w fun e w' => e = .returned (.slice none 0 0) ∧ w = w' := by
  have HN := Lib.hid (noneNil_any w)
  go_enter Tryz.func18, Tryz.ntmps18
  go_wp2_with fail
  first | go_step3 | skip
  go_wp2_with fail
  refine HN.out.mono ?_
  rintro e w1 ⟨rfl, h1⟩
  rw [← h1]
  clear h1 w1
  go_wp2_with fail
  try rw [Exit.noGoto_ret]
  go_ret
  exact ⟨rfl, rfl⟩
theorem nilOpen_any (A B : Option Addr) (n c m d : Nat) (w : World) : Calls Tryz.prog 19 #[.pointer none, .slice A n c, .slice B m d] w fun e w' => e = .returned (.tuple #[.slice none 0 0, .bool false]) ∧ w = w' := by
  have HN := Lib.hid (noneNil_any w)
  go_enter Tryz.func19, Tryz.ntmps19
  go_wp2_with fail
  first | go_step3 | skip
  go_wp2_with fail
  refine HN.out.mono ?_
  rintro e w1 ⟨rfl, h1⟩
  rw [← h1]
  clear h1 w1
  go_wp2_with fail
  try rw [Exit.noGoto_ret]
  go_ret2
  exact ⟨rfl, rfl⟩
theorem nilDerive_any (A : Option Addr) (n c : Nat) (s : ByteArray) (w : World) : Calls Tryz.prog 23 #[.pointer none, .slice A n c, .string s] w fun e w' => e = .returned (.slice none 0 0) ∧ w = w' := by
  have HN := Lib.hid (noneNil_any w)
  go_enter Tryz.func23, Tryz.ntmps23
  go_wp2_with fail
  first | go_step3 | skip
  go_wp2_with fail
  refine HN.out.mono ?_
  rintro e w1 ⟨rfl, h1⟩
  rw [← h1]
  clear h1 w1
  go_wp2_with fail
  try rw [Exit.noGoto_ret]
  go_ret
  exact ⟨rfl, rfl⟩
theorem nilMix_any (A B : Option Addr) (n c m d : Nat) (w : World) : Calls Tryz.prog 24 #[.pointer none, .slice A n c, .slice B m d] w fun e w' => e = .returned (.slice none 0 0) ∧ w = w' := by
  have HN := Lib.hid (noneNil_any w)
  go_enter Tryz.func24, Tryz.ntmps24
  go_wp2_with fail
  first | go_step3 | skip
  go_wp2_with fail
  refine HN.out.mono ?_
  rintro e w1 ⟨rfl, h1⟩
  rw [← h1]
  clear h1 w1
  go_wp2_with fail
  try rw [Exit.noGoto_ret]
  go_ret
  exact ⟨rfl, rfl⟩
theorem nilSum_any (A : Option Addr) (n c : Nat) (w : World) : Calls Tryz.prog 21 #[.pointer none, .slice A n c] w fun e w' => e = .returned (.slice none 0 0) ∧ w = w' := by
  have HN := Lib.hid (noneNil_any w)
  go_enter Tryz.func21, Tryz.ntmps21
  go_wp2_with fail
  first | go_step3 | skip
  go_wp2_with fail
  refine HN.out.mono ?_
  rintro e w1 ⟨rfl, h1⟩
  rw [← h1]
  clear h1 w1
  go_wp2_with fail
  try rw [Exit.noGoto_ret]
  go_ret
  exact ⟨rfl, rfl⟩
theorem nilCheck_any (A B : Option Addr) (n c m d : Nat) (w : World) : Calls Tryz.prog 20 #[.pointer none, .slice A n c, .slice B m d] w fun e w' => e = .returned (.bool false) ∧ w = w' := by
  have HN := Lib.hid (noneNil_any w)
  go_enter Tryz.func20, Tryz.ntmps20
  go_wp2_with fail
  first | go_step3 | skip
  go_wp2_with fail
  refine HN.out.mono ?_
  rintro e w1 ⟨rfl, h1⟩
  rw [← h1]
  clear h1 w1
  go_wp2_with fail
  try rw [Exit.noGoto_ret]
  go_ret
  exact ⟨rfl, rfl⟩
theorem nilHandle_any (i : Int) (w : World) : Calls Tryz.prog 12 #[.pointer none, .int .i64 i] w fun e w' => e = .returned (.slice none 0 0) ∧ w = w' := by
  have HN := Lib.hid (noneNil_any w)
  go_enter Tryz.func12, Tryz.ntmps12
  go_wp2_with fail
  first | go_step3 | skip
  go_wp2_with fail
  refine HN.out.mono ?_
  rintro e w1 ⟨rfl, h1⟩
  rw [← h1]
  clear h1 w1
  go_wp2_with fail
  try rw [Exit.noGoto_ret]
  go_ret
  exact ⟨rfl, rfl⟩
theorem nilFind_any (A : Option Addr) (n c : Nat) (w : World) : Calls Tryz.prog 25 #[.pointer none, .slice A n c] w fun e w' => e = .returned (.slice none 0 0) ∧ w = w' := by
  have HN := Lib.hid (noneNil_any w)
  go_enter Tryz.func25, Tryz.ntmps25
  go_wp2_with fail
  first | go_step3 | skip
  go_wp2_with fail
  refine HN.out.mono ?_
  rintro e w1 ⟨rfl, h1⟩
  rw [← h1]
  clear h1 w1
  go_wp2_with fail
  try rw [Exit.noGoto_ret]
  go_ret
  exact ⟨rfl, rfl⟩
theorem nilTerm_any (A : Option Addr) (n c : Nat) (w : World) : Calls Tryz.prog 14 #[.pointer none, .slice A n c] w fun e w' => e = .returned (.int .i64 0) ∧ w = w' := by
  have HN := Lib.hid (noneNil_any w)
  go_enter Tryz.func14, Tryz.ntmps14
  go_wp2_with fail
  first | go_step3 | skip
  go_wp2_with fail
  refine HN.out.mono ?_
  rintro e w1 ⟨rfl, h1⟩
  rw [← h1]
  clear h1 w1
  go_wp2_with fail
  try rw [Exit.noGoto_ret]
  go_ret
  exact ⟨rfl, rfl⟩
end Go.Proofs.YtcfbbgbjlgonpaaGreatDoor

/- A suite of terms beside a real one. No condition. -/
namespace Go.Proofs.YtcfbbgbjlgonpaaGreatDoor
open Go.RowKit
set_option linter.unusedVariables false
set_option linter.unusedSimpArgs false
theorem Blk.ne_ty {w : World} {g q : Nat} {t u : TypeId} {cs ds : List Value} (h : Blk w g t cs) (hs : Blk w q u ds) (ht : t ≠ u) : g ≠ q := by
  rintro rfl
  have e := h.symm.trans hs
  injection e with e
  injection e with _ e2
  exact ht e2
theorem SymS.base {w0 w1 w : World} {p g bm bs : Nat} {T : List Nd} (h : SymS w1 w p g bm bs T) (hb : Gr w0 w1) : SymS w0 w p g bm bs T := by
  obtain ⟨vl, vs, ht⟩ := h.t
  exact ⟨h.blk, ⟨vl, vs, ⟨⟨ht.x.blk, ht.x.l.base hb, ht.x.s.base hb, Nat.le_trans hb.size ht.x.ge, Nat.le_trans hb.size ht.x.gm⟩, ht.m⟩⟩, h.i⟩
/-- What a draw of a real suite's source leaves. -/
theorem SymS.src {w0 w : World} {p g bm bs q : Nat} {T : List Nd} {cs : List Value} (h : SymS w0 w p g bm bs T) (hs : Blk w q 108 cs) (hq : w0.heap.size ≤ q) (v : Value) : SymS w0 (w.setCell ⟨q, 1, none⟩ v) p g bm bs T := by
  obtain ⟨vl, vs, ht⟩ := h.t
  have k : Tch (fun b => b = q) w (w.setCell ⟨q, 1, none⟩ v) := Tch.set ⟨q, 1, none⟩ v rfl
  refine ⟨h.blk.far (p := ⟨q, 1, none⟩) (h.blk.ne_ty hs (by decide)) v, ⟨vl, vs, ⟨⟨ht.x.blk.far (p := ⟨q, 1, none⟩) (ht.x.blk.ne_ty hs (by decide)) v, ?_, ?_, ht.x.ge, ht.x.gm⟩, ht.m.keep (Below.heap_setCell w ⟨q, 1, none⟩ v bm (ht.m.ne_blk hs))⟩⟩, h.i⟩
  · exact ht.x.l.tch k (fun b hb => by rw [hb]; exact hq) (fun b hb e => ht.x.l.not_blk hs (by decide) (by rw [hb, e]))
  · exact ht.x.s.tch k (fun b hb => by rw [hb]; exact hq) (fun b hb e => ht.x.s.not_blk hs (by decide) (by rw [hb, e]))
end Go.Proofs.YtcfbbgbjlgonpaaGreatDoor

/- SuiteBack: what stands. No condition. -/
namespace Go.Proofs.YtcfbbgbjlgonpaaGreatDoor
open Go.RowKit
set_option linter.unusedVariables false
set_option linter.unusedSimpArgs false
structure BkS (w W : World) (B : Option Addr) (d : Nat) (C : Option Addr) (q e0 : Nat) (key text : List UInt8) (g0 p0 : Nat) (A0 : Option Addr) (n0 c0 : Nat) (seed : List UInt8) (k hL p g bm bs : Nat) : Prop where
  key : Bs W B 32 d key
  txt : Bs W C q e0 text
  re : RealW W g0 p0 A0 n0 c0 seed k
  sy : SymS w W p g bm bs []
  mp : W.heap[bs]? = some (.map #[] 0)
  li : Blk W hL 25 [.pointer (some ⟨g0, 0, none⟩), .pointer (some ⟨p, 0, none⟩)]
  sk : ShaK W
  ps : w.heap.size ≤ p0
theorem Gr.map {w w' : World} (h : Gr w w') {b : Nat} {o : Obj} (e : w.heap[b]? = some o) : w'.heap[b]? = some o := (h.block b (Array.getElem?_eq_some_iff.1 e).1).trans e
section
variable {w W : World} {B : Option Addr} {d : Nat} {C : Option Addr} {q e0 : Nat} {key text : List UInt8} {g0 p0 : Nat} {A0 : Option Addr} {n0 c0 : Nat} {seed : List UInt8} {k hL p g bm bs : Nat}
theorem BkS.mono {W' : World} (h : BkS w W B d C q e0 key text g0 p0 A0 n0 c0 seed k hL p g bm bs) (x : Gr W W') : BkS w W' B d C q e0 key text g0 p0 A0 n0 c0 seed k hL p g bm bs :=
  ⟨h.key.mono x, h.txt.mono x, h.re.mono x, h.sy.gr x, x.map h.mp, x.blk h.li, h.sk.mono x, h.ps⟩
theorem BkS.drew (h : BkS w W B d C q e0 key text g0 p0 A0 n0 c0 seed k hL p g bm bs) : BkS w (W.setCell ⟨p0, 1, none⟩ (.int .i64 ((k : Int) + 1))) B d C q e0 key text g0 p0 A0 n0 c0 seed (k + 1) hL p g bm bs := by
  have hs := h.re.src
  have hne : bs ≠ p0 := fun e => by
    have h1 := h.mp
    rw [e, hs.1] at h1
    cases h1
  exact ⟨h.key.setSrc hs _, h.txt.setSrc hs _, h.re.drew, h.sy.src hs.1 h.ps _, (Below.heap_setCell W ⟨p0, 1, none⟩ _ bs hne).trans h.mp, h.li.far (p := ⟨p0, 1, none⟩) (h.li.ne_ty hs.1 (by decide)) _, h.sk.at (Below.heap_setCell W ⟨p0, 1, none⟩ _ 1 (fun e => h.re.np e.symm)), h.ps⟩
end
end Go.Proofs.YtcfbbgbjlgonpaaGreatDoor
