/- Own texts of this claim, one behind the other. No condition. -/
import Derived.Test.YtcfbbgbjlgonpaaGreatDoorObPkAB
import Derived.Test.YtcfbbgbjlgonpaaGreatDoorObPkAP
import Derived.Test.YtcfbbgbjlgonpaaGreatDoorObPkAQ
import Derived.Test.YtcfbbgbjlgonpaaGreatDoorObPkAR

/- SuiteApart: the chapter's example. No condition. -/
namespace Go.Proofs.YtcfbbgbjlgonpaaGreatDoor
open Go.RowKit
set_option linter.unusedVariables false
set_option linter.unusedSimpArgs false
theorem tin_sz {T : List Nd} (h : TIn T) : ∀ x ∈ T, x.s.size ≤ maxLen := fun x hx => (h.fit x hx).2.2.2
theorem FS.ownB {w0 w w' : World} {v : Value} {n : Nat} {l : List UInt8} (h : FS w w') (ho : Own w0 w 5 1 v n (l.map u8c)) (hb : Below w0.heap.size w0 w') : Own w0 w' 5 1 v n (l.map u8c) := h.own ho (by decide) (by decide) (by decide) hb
set_option maxRecDepth 100000 in
set_option maxHeartbeats 2000000 in
theorem alive17_any (w : World) : Calls Tryz.prog 7 #[] w fun e w' => e = .returned (.bool true) ∧ Gr w w' := by
  go_enter Tryz.func7, Tryz.ntmps7
  go_wp2_with fail
  refine (symbolic2_any w).mono ?_
  rintro e w1 ⟨p, g, bm, bs, rfl, s1, _⟩
  have S1 := Lib.hid s1; clear s1
  go_wp2_with fail
  refine (S1.out.draw2 (by decide)).mono ?_
  rintro e w2 ⟨⟨v2, rfl, o2, s2, f2⟩, _⟩
  obtain ⟨A2, c2, rfl, sl2⟩ := o2.slice
  have hc2 := sl2.cap; have hm2 := sl2.max
  have O2 := Lib.hid o2; have S2 := Lib.hid s2
  clear o2 s2 f2 sl2
  obtain ⟨T1, hT1⟩ : ∃ T1, T1 = (atomT []).1 := ⟨_, rfl⟩
  obtain ⟨i1, hi1⟩ : ∃ i1, i1 = (atomT []).2 := ⟨_, rfl⟩
  have hl1 : T1.length = 1 := by rw [hT1]; rfl
  rw [← hT1] at S2
  rw [← hi1] at O2
  have HL1 := Lib.hid hl1
  clear hT1 hi1 hl1
  obtain ⟨w3, hw3⟩ : ∃ w3, w3 = w2.alloc (.cells #[.int .u8 7] 5) := ⟨_, rfl⟩
  have g3 : Gr w2 w3 := by rw [hw3]; exact Gr.alloc _ _
  have b3 : Blk w3 w2.heap.size 5 (([7] : List UInt8).map u8c) := by rw [hw3]; exact Blk.new w2 5 #[.int .u8 7]
  have hbk : ∀ w', Blk w' w2.heap.size 5 (([7] : List UInt8).map u8c) → Bs w' (some ⟨w2.heap.size, 0, none⟩) 1 1 [7] := fun w' hb => ⟨rfl, Nat.le_refl _, by decide, fun _ => ⟨_, 0, rfl, fun j u hu => by rw [Nat.zero_add, hb.cell]; exact hu⟩⟩
  have o3 := O2.out.mono g3
  obtain ⟨A2', c2', e2, sl3⟩ := o3.slice
  injection e2 with ea eb ec
  subst ea ec
  have HSE := Lib.hid ((S2.out.gr g3).seal (by rw [HL1.out]; decide) A2 (some ⟨w2.heap.size, 0, none⟩) 32 c2 1 1 (handleL i1) [7] sl3 (hbk w3 b3) rfl (by decide) (fun w' hf _ => hbk w' (hf _ _ _ (by decide) (by decide) (by decide) b3)))
  have HO3 := Lib.hid o3
  have HW3 := Lib.hid hw3
  clear hw3 g3 b3 hbk o3 sl3 eb
  go_wp2_with fail
  rw [← HW3.out]
  refine HSE.out.mono ?_
  rintro e w4 ⟨⟨v4, rfl, o4⟩, s4, f4, _⟩
  obtain ⟨A4, c4, rfl, sl4⟩ := o4.slice
  have hc4 := sl4.cap; have hm4 := sl4.max
  have S4 := Lib.hid s4
  have o3' := f4.ownB HO3.out s4.below
  obtain ⟨A2', c2', e2, sl5⟩ := o3'.slice
  injection e2 with ea eb ec
  subst ea ec
  obtain ⟨id, pa, pb, hsd⟩ := seald_of (T := T1) (by rw [HL1.out]; decide) (handleL i1) [7]
  have hln := seal_len T1 (handleL i1) [7]
  rw [HL1.out] at hln
  have hsd1 := hsd _ (Onto.refl _) (by omega)
  have HOP := Lib.hid (s4.openS (by omega) (tin_sz s4.i) hsd1 (by decide) A2 A4 32 c2 (1 + 48) c4 (handleL i1) sl5 sl4)
  clear s4 o3' o4 f4 sl4 sl5 hsd hsd1 hln eb
  go_wp2_with fail
  refine HOP.out.mono ?_
  rintro e w5 ⟨C, q, r, rfl, hx, _, g5⟩
  have hx := hx trivial
  have hq : q = 1 := by have := hx.len; simpa using this.symm
  subst hq
  obtain ⟨b5, o5, rfl, hc5⟩ := hx.addr (by decide)
  have e5 : w5.cell? ⟨b5, o5, none⟩ = some (.int .u8 7) := hc5 0 (by decide)
  have hcx := hx.cap; have hmx := hx.max
  have tk : (handleL i1 == handleL i1) = true := by simp
  rw [tk]
  have G5 : Hid (Gr w w5) := Gr.trans S4.out.below g5
  clear hx hc5 g5 tk
  go_wp2_with fail
  go_ret
  exact ⟨rfl, G5.out⟩
end Go.Proofs.YtcfbbgbjlgonpaaGreatDoor



/- A suite of terms beside a real one. No condition. -/
namespace Go.Proofs.YtcfbbgbjlgonpaaGreatDoor
open Go.RowKit
set_option linter.unusedVariables false
set_option linter.unusedSimpArgs false
theorem Blk.ne_ty {w : World} {g q : Nat} {t u : TypeId} {cs ds : List Value} (h : Blk w g t cs) (hs : Blk w q u ds) (ht : t ≠ u) : g ≠ q := by
  rintro rfl
  have e := h.symm.trans hs
  injection e with e
  injection e with _ e2
  exact ht e2
theorem SymS.base {w0 w1 w : World} {p g bm bs : Nat} {T : List Nd} (h : SymS w1 w p g bm bs T) (hb : Gr w0 w1) : SymS w0 w p g bm bs T := by
  obtain ⟨vl, vs, ht⟩ := h.t
  exact ⟨h.blk, ⟨vl, vs, ⟨⟨ht.x.blk, ht.x.l.base hb, ht.x.s.base hb, Nat.le_trans hb.size ht.x.ge, Nat.le_trans hb.size ht.x.gm⟩, ht.m⟩⟩, h.i⟩
/-- What a draw of a real suite's source leaves. -/
theorem SymS.src {w0 w : World} {p g bm bs q : Nat} {T : List Nd} {cs : List Value} (h : SymS w0 w p g bm bs T) (hs : Blk w q 108 cs) (hq : w0.heap.size ≤ q) (v : Value) : SymS w0 (w.setCell ⟨q, 1, none⟩ v) p g bm bs T := by
  obtain ⟨vl, vs, ht⟩ := h.t
  have k : Tch (fun b => b = q) w (w.setCell ⟨q, 1, none⟩ v) := Tch.set ⟨q, 1, none⟩ v rfl
  refine ⟨h.blk.far (p := ⟨q, 1, none⟩) (h.blk.ne_ty hs (by decide)) v, ⟨vl, vs, ⟨⟨ht.x.blk.far (p := ⟨q, 1, none⟩) (ht.x.blk.ne_ty hs (by decide)) v, ?_, ?_, ht.x.ge, ht.x.gm⟩, ht.m.keep (Below.heap_setCell w ⟨q, 1, none⟩ v bm (ht.m.ne_blk hs))⟩⟩, h.i⟩
  · exact ht.x.l.tch k (fun b hb => by rw [hb]; exact hq) (fun b hb e => ht.x.l.not_blk hs (by decide) (by rw [hb, e]))
  · exact ht.x.s.tch k (fun b hb => by rw [hb]; exact hq) (fun b hb e => ht.x.s.not_blk hs (by decide) (by rw [hb, e]))
end Go.Proofs.YtcfbbgbjlgonpaaGreatDoor

/- An act on a real suite, and on the document's: what stands. No condition. -/
namespace Go.Proofs.YtcfbbgbjlgonpaaGreatDoor
open Go.RowKit
set_option linter.unusedVariables false
set_option linter.unusedSimpArgs false
def BRow.ok (w : World) (r : BRow) : Prop := Bs w r.a r.n r.c r.l
/-- No byte. -/
def NoU8 (cs : List Value) : Prop := ∀ u ∈ cs, ∀ x : UInt8, u ≠ u8c x
theorem Bs.far {w : World} {A : Option Addr} {n c k : Nat} {t : TypeId} {l : List UInt8} {cs : List Value} (hb : Bs w A n c l) (hk : Blk w k t cs) (hn : NoU8 cs) (ds : Array Value) : Bs (w.setRow k ds) A n c l :=
  Sl.tch hb (by decide) (Tch.rowC (S := fun q => q = k) k ds rfl) (fun h0 b o e => Sl.not_blk hb (by decide) hk (fun u hu y hy => by
    rw [List.getElem?_map] at hy
    obtain ⟨z, _, rfl⟩ := Option.map_eq_some_iff.1 hy
    exact hn u hu z) h0 e)
section
variable {w : World} {g p : Nat} {A0 : Option Addr} {n0 c0 : Nat} {seed : List UInt8} {SA : Option Addr} {sn sc d : Nat} {k i j : Int} {x y : BRow} {s : List UInt8} {a b : BRow} {h dp : Nat} {R : List Value} {W : World}
end
def xact (k i j : Int) (x y : BRow) (s : List UInt8) : Value := .agg #[.int .i64 k, .int .i64 i, .int .i64 j, x.v, y.v, .string ⟨s.toArray⟩]
end Go.Proofs.YtcfbbgbjlgonpaaGreatDoor

/- The reference of layer 17, of terms: rows of bytes that a call has made; a term's bytes. No condition. -/
namespace Go.Proofs.YtcfbbgbjlgonpaaGreatDoor
open Go.RowKit
set_option linter.unusedVariables false
set_option linter.unusedSimpArgs false
/-- Bytes in a block of bytes, that has come since w. -/
structure FB (w w' : World) (A : Option Addr) (n c : Nat) (l : List UInt8) : Prop where
  b : Bs w' A n c l
  f : FreshR w A n
  u : ∀ b o, 0 < n → A = some ⟨b, o, none⟩ → ∃ a m, w'.heap[b]? = some (.cells a 5 m)
theorem blk_ty {w : World} {b : Nat} {t t' : TypeId} {cs cs' : List Value} (h : Blk w b t cs) (k : Blk w b t' cs') : t = t' := by
  unfold Blk at h k
  rw [h] at k
  injection k with k
  injection k
theorem FB.mono {w w' w'' : World} {A : Option Addr} {n c : Nat} {l : List UInt8} (h : FB w w' A n c l) (g : Gr w' w'') : FB w w'' A n c l :=
  ⟨Sl.mono h.b g, h.f, fun b o h0 e => by obtain ⟨a, m, k⟩ := h.u b o h0 e; exact ⟨a, m, (g.block b (Array.getElem?_eq_some_iff.1 k).1).trans k⟩⟩
theorem FB.old {w0 w w' : World} {A : Option Addr} {n c : Nat} {l : List UInt8} (h : FB w w' A n c l) (hw : w0.heap.size ≤ w.heap.size) : FB w0 w' A n c l := ⟨h.b, h.f.old hw, h.u⟩
theorem FB.keep {S : Nat → Prop} {w w' w'' : World} {A : Option Addr} {n c : Nat} {l : List UInt8} (h : FB w w' A n c l) (T : Tch S w' w'') (hS : ∀ b a m, S b → w'.heap[b]? ≠ some (.cells a 5 m)) : FB w w'' A n c l :=
  ⟨Sl.tch h.b (by decide) T (fun h0 b o e q => by obtain ⟨a, m, k⟩ := h.u b o h0 e; exact hS b a m q k), h.f, fun b o h0 e => by obtain ⟨a, m, k⟩ := h.u b o h0 e; exact ⟨a, m, (T.keep b (Array.getElem?_eq_some_iff.1 k).1 (fun q => hS b a m q k)).trans k⟩⟩
theorem FB.row {w w' : World} {A : Option Addr} {n c k : Nat} {l : List UInt8} {t : TypeId} {cs : List Value} (h : FB w w' A n c l) (y : Blk w' k t cs) (ht : t ≠ 5) (ds : Array Value) : FB w (w'.setRow k ds) A n c l :=
  h.keep (Tch.rowC (S := fun q => q = k) k ds rfl) (fun b a m q z => by
    subst q
    unfold Blk at y
    rw [y] at z
    injection z with z
    injection z with _ z _
    exact ht z)
theorem FB.nil (w w' : World) : FB w w' none 0 0 [] := ⟨Sl.nil _ _, FreshR.nil w, fun b o h => absurd h (by omega)⟩
theorem Own.fb {w w' : World} {A : Option Addr} {n c : Nat} {l : List UInt8} (h : Own w w' 5 1 (.slice A n c) n (l.map u8c)) : FB w w' A n c l := by
  refine ⟨?_, Own.fresh h, fun b o h0 e => ?_⟩
  · obtain ⟨A', c', hv, s⟩ := h.slice
    injection hv with h1 _ h3
    subst h1 h3
    exact s
  · obtain ⟨g, cap, rest, hv, _, hk, _⟩ := h.opened h0
    injection hv with h1 _ _
    rw [h1] at e
    injection e with e
    injection e with e1 _
    subst e1
    exact ⟨_, _, hk⟩
def RetFB (w : World) (l : List UInt8) (e : Ending) (w' : World) : Prop := ∃ A2 n2 c2, e = .returned (.slice A2 n2 c2) ∧ FB w w' A2 n2 c2 l ∧ Gr w w'
/-- The reference's label is the node's own. -/
def labelK (T : List Nd) (id : Int) : ByteArray := if outside T.length id then ⟨#[]⟩ else match T[id.toNat - 1]? with
  | some x => x.s
  | none => ⟨#[]⟩
theorem labelK_text {T : List Nd} {id : Int} (h : kindOf T id = 2) : labelT T id = labelK T id := by
  unfold kindOf at h
  unfold labelT labelK
  split
  · rfl
  · next ho =>
    rw [if_neg ho] at h
    split
    · next x hx => rw [hx] at h; rw [if_pos (.inl h)]; simp only [hx]
    · next hx => simp only [hx]
set_option maxHeartbeats 1000000 in
theorem refLabelK_any (A : Option Addr) (n c : Nat) (T : List Nd) (id : Int) (w : World) (h : RTb w A n c T) :
    Calls Tryz.prog 136 #[.slice A n c, .int .i64 id] w fun e w' => e = .returned (.string (labelK T id)) ∧ w' = w := by
  have hl : T.length = n := h.1
  have hm := Nat.le_trans h.cap h.max
  have HR := Lib.hid (refThere_any A n c id w)
  unfold labelK
  rw [hl]
  cases ho : outside n id with
  | true =>
    rw [ho] at HR
    clear h hl hm
    go_enter Tryz.func136, Tryz.ntmps136
    go_wp2_with fail
    refine HR.out.mono ?_
    rintro e w1 ⟨rfl, rfl⟩
    go_wp2_with fail
    go_ret
    exact ⟨rfl, rfl⟩
  | false =>
    rw [ho] at HR
    have hin : 1 ≤ id ∧ id ≤ n := by unfold outside at ho; simp at ho; omega
    obtain ⟨k, rfl⟩ : ∃ k : Nat, id = (k : Int) + 1 := ⟨(id - 1).toNat, by omega⟩
    have hk : k < n := by omega
    obtain ⟨b, o, x, rfl, hx, _, _, _, c3, _⟩ := h.row hk
    have ek : ((k : Int) + 1).toNat - 1 = k := by omega
    rw [ek, hx]
    have hw : IntKind.i64.wrap ((k : Int) + 1 - 1) = k := by rw [IntWalk.i64_in _ (by omega)]; omega
    have hw2 : wrap64 (k : Int) = k := IntWalk.wrap64_in _ ⟨by omega, by omega⟩
    clear h hl hin ek ho
    go_enter Tryz.func136, Tryz.ntmps136
    go_wp2_with fail
    refine HR.out.mono ?_
    rintro e w1 ⟨rfl, rfl⟩
    go_wp2_with fail
    go_ret
    exact ⟨rfl, rfl⟩
theorem conv3_fn {P : Program} (s : ByteArray) (t : TypeId) (hs : P.underlying 9 = some .string) (hd : P.underlying t = some (.slice 5)) (he : P.underlying 5 = some (.int .u8)) (hm : s.size ≤ maxLen) :
    ∃ (cf : World → Nat) (wf : World → World), ∀ w, (convert 9 t (.string s)).run P w = .ok (.slice (some ⟨w.heap.size, 0, none⟩) s.size (cf w)) (wf w) ∧ FB w (wf w) (some ⟨w.heap.size, 0, none⟩) s.size (cf w) s.data.toList ∧ Gr w (wf w) := by
  refine ⟨fun w => grownCap w s.size 0 5, fun w => Lib.bytesWorld w 5 s, fun w => ⟨Lib.run_convert_string_bytes w 9 t 5 s hs hd he, ⟨⟨by simp, grownCap_ge _ _ _ _, grownCap_le_maxLen _ _ _ _ hm, fun _ => ⟨_, _, rfl, fun j u hu => ?_⟩⟩, fun b o _ e => ?_, fun b o _ e => ?_⟩, ?_⟩⟩
  · rw [Nat.zero_add]
    have hj : j < s.size := by have := (List.getElem?_eq_some_iff.1 hu).1; simpa using this
    rw [Lib.bytesWorld_cell w 5 s j hj, ← hu]
    exact (u8c_at (l := s.data.toList) (by simpa using hj)).symm
  · injection e with e; injection e with e _; omega
  · injection e with e; injection e with e _; subst e; exact ⟨_, _, Lib.bytesWorld_at_new w 5 s⟩
  · have h1 := run_bytes_of_string (P := P) w 9 t 5 s hs hd he
    have h2 := Lib.run_convert_string_bytes (P := P) w 9 t 5 s hs hd he
    rw [h1] at h2
    injection h2 with _ h3
    show Below w.heap.size w (Lib.bytesWorld w 5 s)
    rw [← h3]
    exact ((Below.refl _ _).drew).alloc (Nat.le_refl _) _
set_option maxRecDepth 100000 in
set_option maxHeartbeats 1000000 in
theorem tBytes_any (A B : Option Addr) (n c m e0 : Nat) (T : List Nd) (id : Nat) (w : World) (hT : RTb w A n c T) (hn : n ≤ 1000) (hid : id ≤ 1000) (hsz : ∀ x ∈ T, x.s.size ≤ maxLen) :
    Calls Tryz.prog 105 #[tv A n c B m e0, .int .i64 (id : Int)] w (RetFB w (heldT T id)) := by
  unfold tv
  show Calls _ _ #[.agg #[.bool false, .slice none 0 0, .int .i64 0, .slice A n c, .slice B m e0], _] _ _
  have hcT := hT.cap; have hmT := hT.max
  have hs : (labelT T (id : Int)).size ≤ maxLen := by
    unfold labelT
    split
    · exact Nat.zero_le _
    · split
      · next x hx =>
        split
        · exact hsz x (List.mem_of_getElem? hx)
        · exact Nat.zero_le _
      · exact Nat.zero_le _
  have HKD := Lib.hid (fun W (hW : Gr w W) => refKind_any A n c T (id : Int) W (hT.mono hW))
  have HLB := Lib.hid (fun W (hW : Gr w W) => refLabelK_any A n c T (id : Int) W (hT.mono hW))
  have HHD := Lib.hid (fun W => refHandle_any id W (by omega))
  unfold heldT
  clear hT hsz
  by_cases hk : kindOf T (id : Int) = 2
  · rw [if_pos hk]
    rw [← labelK_text hk] at HLB
    rw [hk] at HKD
    generalize labelT T (id : Int) = s at *
    obtain ⟨cf, wf, hcv0⟩ := conv3_fn (P := Tryz.prog) s 28 Tryz.underlying9 Tryz.underlying28 Tryz.underlying5 hs
    have hcv := fun W => (hcv0 W).1
    have HCV := Lib.hid (fun W => (hcv0 W).2)
    clear hcv0 hk hs
    obtain ⟨W, hW⟩ : ∃ W, W = tw1 w A n c B m e0 := ⟨_, rfl⟩
    have HX := Lib.hid (tw1_a w A n c B m e0); have HG := Lib.hid (tw1_g w A n c B m e0)
    rw [← hW] at HX HG
    unfold tw1 at hW
    have HW := Lib.hid hW
    clear hW
    go_enter Tryz.func105, Tryz.ntmps105
    go_upto_region 1 with fail
    rw [← HW.out]
    obtain ⟨h, hh⟩ : ∃ h, h = w.heap.size := ⟨_, rfl⟩
    rw [← hh] at HX ⊢
    have HH := Lib.hid hh; clear hh
    have c0 : W.cell? ⟨h, 0, none⟩ = some (.bool false) := HX.out.cell 0
    have c3 : W.cell? ⟨h, 3, none⟩ = some (.slice A n c) := HX.out.cell 3
    have c4 : W.cell? ⟨h, 4, none⟩ = some (.slice B m e0) := HX.out.cell 4
    go_wp2_with fail
    refine (HKD.out W HG.out).mono ?_
    rintro e w1 ⟨rfl, rfl⟩
    go_wp2_with fail
    refine (HLB.out w1 HG.out).mono ?_
    rintro e w2 ⟨rfl, h2⟩
    rw [h2]
    clear h2 w2
    go_wp2_with fail
    go_ret
    exact ⟨_, _, _, rfl, (HCV.out w1).1.old HG.out.size, Gr.trans HG.out (HCV.out w1).2⟩
  · rw [if_neg hk]
    obtain ⟨q, hq⟩ : ∃ q, q = kindOf T (id : Int) := ⟨_, rfl⟩
    rw [← hq] at HKD hk
    have t1 : ((q : Int) == 2) = false := by rw [beq_eq_false_iff_ne]; omega
    clear hq
    obtain ⟨W, hW⟩ : ∃ W, W = tw1 w A n c B m e0 := ⟨_, rfl⟩
    have HX := Lib.hid (tw1_a w A n c B m e0); have HG := Lib.hid (tw1_g w A n c B m e0)
    rw [← hW] at HX HG
    unfold tw1 at hW
    have HW := Lib.hid hW
    clear hW
    go_enter Tryz.func105, Tryz.ntmps105
    go_upto_region 1 with fail
    rw [← HW.out]
    obtain ⟨h, hh⟩ : ∃ h, h = w.heap.size := ⟨_, rfl⟩
    rw [← hh] at HX ⊢
    have HH := Lib.hid hh; clear hh
    have c0 : W.cell? ⟨h, 0, none⟩ = some (.bool false) := HX.out.cell 0
    have c3 : W.cell? ⟨h, 3, none⟩ = some (.slice A n c) := HX.out.cell 3
    have c4 : W.cell? ⟨h, 4, none⟩ = some (.slice B m e0) := HX.out.cell 4
    go_wp2_with fail
    refine (HKD.out W HG.out).mono ?_
    rintro e w1 ⟨rfl, rfl⟩
    go_wp2_with fail
    refine (HHD.out w1).mono ?_
    rintro e w2 ⟨v2, rfl, o2⟩
    have G2 := Lib.hid (Gr.trans HG.out o2.below)
    obtain ⟨A2, c2, rfl, s2⟩ := o2.slice
    have F2 := Lib.hid ((Own.fb o2).old HG.out.size)
    clear o2 s2
    go_wp2_with fail
    go_ret
    exact ⟨_, _, _, rfl, F2.out, G2.out⟩
end Go.Proofs.YtcfbbgbjlgonpaaGreatDoor

/- The reference of layer 17, of terms: Draw; what stands in a call. No condition. -/
namespace Go.Proofs.YtcfbbgbjlgonpaaGreatDoor
open Go.RowKit
set_option linter.unusedVariables false
set_option linter.unusedSimpArgs false
/-- In a call: the suite's block h, the result's block k, the table v2. -/
structure TM (w0 w : World) (h k : Nat) (v v2 : Value) (T' : List Nd) (cs xb : List Value) (W : World) : Prop where
  x : Xk W h cs
  y : Xk W k xb
  r : RTo w0 W v2 T'
  t : Turn1 w W v v2
  hw : w.heap.size ≤ h
  kw : w.heap.size ≤ k
  ne : h ≠ k
  lo : w0.heap.size ≤ w.heap.size
section
variable {w0 w : World} {h k : Nat} {v v2 v3 : Value} {T' T2 : List Nd} {cs xb : List Value} {W W' : World}
theorem TM.mono (q : TM w0 w h k v v2 T' cs xb W) (g : Gr W W') : TM w0 w h k v v2 T' cs xb W' :=
  ⟨g.blk q.x, g.blk q.y, q.r.mono g, q.t.trans (Turn1.gr g _), q.hw, q.kw, q.ne, q.lo⟩
theorem TM.put (q : TM w0 w h k v v2 T' cs xb W) (r : RTo w0 W' v3 T2) (t : Turn1 W W' v2 v3) : TM w0 w h k v v3 T2 cs xb W' :=
  ⟨q.x.turn1 q.r t, q.y.turn1 q.r t, r, q.t.trans t, q.hw, q.kw, q.ne, q.lo⟩
theorem Turn1.tched {S : Nat → Prop} (t : Turn1 w W v v2) (T : Tch S W W') (hS : ∀ u, S u → w.heap.size ≤ u) : Turn1 w W' v v2 :=
  ⟨Nat.le_trans t.size T.size, fun u hu hn => (T.keep u (Nat.lt_of_lt_of_le hu t.size) (fun e => by have := hS u e; omega)).trans (t.keep u hu hn), t.own⟩
theorem TM.set (q : TM w0 w h k v v2 T' cs xb W) (i : Nat) (val : Value) : TM w0 w h k v v2 T' (cs.set i val) xb (W.setCell ⟨h, i, none⟩ val) := by
  have T : Tch (fun u => u = h) W (W.setCell ⟨h, i, none⟩ val) := Tch.set ⟨h, i, none⟩ _ rfl
  have h1 := q.hw; have h2 := q.lo
  exact ⟨Blk.set q.x i _, Blk.tch q.y T (fun e => q.ne e.symm), Own.tch q.r T (fun u e => by omega) (fun u hu e => Own.not_blk q.r q.x (by decide) (by rw [hu, e])), q.t.tched T (fun u e => by omega), q.hw, q.kw, q.ne, q.lo⟩
theorem TM.ret (q : TM w0 w h k v v2 T' cs xb W) (ds : List Value) : TM w0 w h k v v2 T' cs ds (W.setRow k ds.toArray) := by
  have T : Tch (fun u => u = k) W (W.setRow k ds.toArray) := Tch.rowC k _ rfl
  have h1 := q.kw; have h2 := q.lo
  exact ⟨Blk.tch q.x T q.ne, q.y.row ds, Own.tch q.r T (fun u e => by omega) (fun u hu e => Own.not_blk q.r q.y (by decide) (by rw [hu, e])), q.t.tched T (fun u e => by omega), q.hw, q.kw, q.ne, q.lo⟩
end
def RetTX (w0 w : World) (v : Value) (B : Option Addr) (m e0 : Nat) (T' : List Nd) (l : List UInt8) (e : Ending) (w' : World) : Prop :=
  ∃ A' c' A2 n2 c2, e = .returned (.tuple #[tv A' T'.length c' B m e0, .slice A2 n2 c2]) ∧ RTo w0 w' (.slice A' T'.length c') T' ∧ Turn1 w w' v (.slice A' T'.length c') ∧ FB w w' A2 n2 c2 l
set_option maxRecDepth 100000 in
set_option maxHeartbeats 1000000 in
theorem tDraw_any (w0 : World) (A B : Option Addr) (c m e0 : Nat) (T : List Nd) (w : World) (hr : RTo w0 w (.slice A T.length c) T) (hn : T.length ≤ 1000) :
    Calls Tryz.prog 64 #[tv A T.length c B m e0] w (RetTX w0 w (.slice A T.length c) B m e0 (atomT T).1 (handleL (T.length + 1))) := by
  obtain ⟨W, hW⟩ : ∃ W, W = tw2 w A T.length c B m e0 := ⟨_, rfl⟩
  have XM0 := tw2_m w A T.length c B m e0
  rw [← hW] at XM0
  have TM0 : Hid (TM w0 w w.heap.size (w.heap.size + 1) (.slice A T.length c) (.slice A T.length c) T (ts A T.length c B m e0) xz W) := ⟨XM0.a, XM0.b, hr.mono XM0.gr, Turn1.gr XM0.gr _, Nat.le_refl _, Nat.le_succ _, by omega, hr.below.size⟩
  unfold tw2 at hW
  have HW := Lib.hid hW
  unfold tv
  show Calls _ _ #[.agg #[.bool false, .slice none 0 0, .int .i64 0, .slice A T.length c, .slice B m e0]] _ _
  have HN := Lib.hid hn
  obtain ⟨T2, hT2⟩ : ∃ T2, T2 = (atomT T).1 := ⟨_, rfl⟩
  have HAT := Lib.hid (fun W (hW : RTo w0 W (.slice A T.length c) T) => refAtom_any w0 T (.slice A T.length c) W hW hn)
  rw [← hT2] at HAT ⊢
  clear hr hW XM0 hn hT2
  go_enter Tryz.func64, Tryz.ntmps64
  go_upto_region 1 with fail
  rw [← HW.out]
  obtain ⟨h, hh⟩ : ∃ h, h = w.heap.size := ⟨_, rfl⟩
  rw [← hh] at TM0 ⊢
  clear hh HW
  have c0 : W.cell? ⟨h, 0, none⟩ = some (.bool false) := TM0.out.x.cell 0
  have c3 : W.cell? ⟨h, 3, none⟩ = some (.slice A T.length c) := TM0.out.x.cell 3
  have HAP := Lib.hid (HAT.out W TM0.out.r)
  go_upto_region 6 with (go_at_call 98; refine HAP.out.mono ?_; rintro e w2 ⟨v2, rfl, r2, t2⟩; obtain ⟨A2, c2, rfl⟩ := atoms_at r2; have TM1 := Lib.hid (TM0.out.put r2 t2); clear r2 t2)
  clear c0 c3 HAP HAT
  have c3 : w2.cell? ⟨h, 3, none⟩ = some (.slice A T.length c) := TM1.out.x.cell 3
  have ff := Blk.free TM1.out.x 3
  go_upto_region 7 with fail
  have TM2 : Hid (TM w0 w h (h + 1) (.slice A T.length c) (.slice A2 T2.length c2) T2 (ts A2 T2.length c2 B m e0) xz (w2.setCell ⟨h, 3, none⟩ (.slice A2 T2.length c2))) := TM1.out.set 3 (.slice A2 T2.length c2)
  obtain ⟨w3, hw3⟩ : ∃ w3, w3 = w2.setCell ⟨h, 3, none⟩ (.slice A2 T2.length c2) := ⟨_, rfl⟩
  rw [← hw3] at TM2 ⊢
  clear hw3 c3 ff TM1 TM0
  have HHD := Lib.hid (fun W => refHandle_any (T.length + 1) W (by have := HN.out; omega))
  rw [show ((T.length + 1 : Nat) : Int) = (T.length : Int) + 1 by omega] at HHD
  refine wp_region_grow (by kernel_rfl) [0, 0, 2, 7, 15] [.p 1, .q 0, .c 2, .s 3, .p 4] (by kernel_rfl) (trivial) ?_
  refine wpG_pe rfl rfl ?_
  apply Exists.intro
  refine ⟨fun wq => ?_, ?_⟩
  · unfold plainAt
    go_simp
    first | exact rfl | exact ⟨rfl, rfl⟩
  go_simp
  refine wpG_qe rfl rfl ⟨.agg (ts A2 T2.length c2 B m e0).toArray, fun wq hq => plainRow 33 (.tmp 1) rfl h 0 rfl _ _ (Xk.whole (Gr.blk ((Gr.drew _).trans hq) TM2.out.x)) Tryz.underlying33 rfl (size5c _ rfl), ?_⟩
  go_simp
  refine wpG_c rfl rfl ?_
  intro w5 g5 K hK
  go_simp
  go_at_call 16
  refine (HHD.out w5).mono ?_
  rintro e wn ⟨v6, rfl, o6⟩
  obtain ⟨A6, c6, rfl, s6⟩ := o6.slice; have TM3 := Lib.hid (TM2.out.mono (((Gr.drew _).trans g5).trans o6.below)); have S6 := Lib.hid ((Own.fb o6).old (TM2.out.mono ((Gr.drew _).trans g5)).t.size); refine hK _ _ o6.below ?_; clear hK g5 o6 s6
  go_simp
  refine wpG_s rfl rfl ?_
  intro w7 g7 K hK
  have TM4 := Lib.hid (TM3.out.mono g7)
  have S7 := Lib.hid (S6.out.mono g7)
  refine wp_store_row 33 (.tmp 2) (.tmp 28) rfl (h + 1) (ts A2 T2.length c2 B m e0).toArray rfl rfl 33 xz.toArray TM4.out.y (size5 _ rfl) rfl (oneT _ _ _ _ _ _) ?_
  refine hK _ _ ?_
  clear hK
  have TM5 := Lib.hid (TM4.out.ret (ts A2 T2.length c2 B m e0))
  have S8 := Lib.hid (S7.out.row TM4.out.y (by decide) (ts A2 T2.length c2 B m e0).toArray)
  obtain ⟨W8, hW8⟩ : ∃ W8, W8 = w7.setRow (h + 1) (ts A2 T2.length c2 B m e0).toArray := ⟨_, rfl⟩
  rw [← hW8] at TM5 S8 ⊢
  clear hW8 TM4 TM3 S7 S6 g7
  go_simp
  refine wpG_pe rfl rfl ?_
  apply Exists.intro
  refine ⟨fun wq => ?_, ?_⟩
  · unfold plainAt
    go_simp
    first | exact rfl | exact ⟨rfl, rfl⟩
  go_simp
  refine wpG_nil ?_
  intro w9 g9
  have TM6 := Lib.hid (TM5.out.mono g9)
  have S9 := Lib.hid (S8.out.mono g9)
  clear g9
  go_wp2_with fail
  exact bodyPost_ret (v := .tuple #[.agg (ts A2 T2.length c2 B m e0).toArray, .slice A6 (handleL (T.length + 1)).length c6]) (results_5 Tryz.results64 _ _ (h + 1) (ts A2 T2.length c2 B m e0) rfl rfl TM6.out.y) rfl ⟨A2, c2, A6, _, c6, rfl, TM6.out.r, TM6.out.t, S9.out⟩
end Go.Proofs.YtcfbbgbjlgonpaaGreatDoor
