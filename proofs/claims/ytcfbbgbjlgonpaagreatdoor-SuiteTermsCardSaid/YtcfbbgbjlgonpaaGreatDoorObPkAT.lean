/- Own texts of this claim, one behind the other. No condition. -/
import Derived.Test.YtcfbbgbjlgonpaaGreatDoorObPkAS

/- The reference of layer 17, of terms: Derive, Mix, Seal. No condition. -/
namespace Go.Proofs.YtcfbbgbjlgonpaaGreatDoor
open Go.RowKit
set_option linter.unusedVariables false
set_option linter.unusedSimpArgs false
theorem putR_kdf (T : List Nd) (a : Int) (s : ByteArray) : putR T 3 a 0 s = kdfT T a s := by
  unfold putR kdfT
  by_cases h : outside T.length a = true
  · rw [if_pos (.inl ⟨by decide, h⟩), if_pos h]
  · rw [if_neg (by intro q; rcases q with q | q; exact h q.2; exact absurd q.1 (by decide)), if_neg h, putT_eq (by simpa using h)]
    rfl
theorem putR_pair (T : List Nd) (k : Nat) (hk : 4 ≤ k) (a b : Int) : putR T k a b ByteArray.empty = pairT T k a b := by
  unfold putR pairT
  by_cases h : (outside T.length a || outside T.length b) = true
  · rw [if_pos h, if_pos]
    rw [Bool.or_eq_true] at h
    rcases h with h | h
    · exact .inl ⟨by omega, h⟩
    · exact .inr ⟨by omega, h⟩
  · rw [if_neg h, if_neg, putT_eq (by simpa using h)]
    rw [Bool.or_eq_true, not_or] at h
    rintro (q | q)
    · exact h.1 q.2
    · exact h.2 q.2
theorem putT_nz {T : List Nd} (h : NZ T) {x : Nd} (hx : x.n = 0) (ids : List Int) : NZ (putT T x ids).1 := by
  unfold putT
  split
  · exact h
  · split
    · exact h
    · exact nz_snoc h (fun _ => hx)
theorem TGood.of {T : List Nd} {n : Nat} (h : TGood T n) (hn : n ≤ 1000) (b : List UInt8) (hb : b.length ≤ maxLen) : TGood (ofT T b).1 (n + 1) := by
  have hl := h.l
  obtain ⟨h1, _, h3⟩ := ofT_in h.i (by omega) b hb
  refine ⟨h1, ?_, by omega⟩
  unfold ofT
  split
  · exact h.z
  · exact putT_nz h.z rfl _
theorem TGood.der {T : List Nd} {n : Nat} (h : TGood T n) (hn : n ≤ 990) (b : List UInt8) (hb : b.length ≤ maxLen) (s : ByteArray) (hs : s.size ≤ maxLen) : TGood (derT T b s).1 (n + 2) := by
  have hl := h.l
  obtain ⟨h1, _, h3⟩ := derT_in h.i (by omega) b hb s hs
  refine ⟨h1, ?_, by omega⟩
  unfold derT kdfT
  have hz := (h.of (by omega) b hb).z
  split
  · exact hz
  · exact putT_nz hz rfl _
theorem pairT_nz {T : List Nd} (h : NZ T) (k : Nat) (a b : Int) : NZ (pairT T k a b).1 := by
  unfold pairT
  split
  · exact h
  · exact putT_nz h rfl _
theorem TGood.mix {T : List Nd} {n : Nat} (h : TGood T n) (hn : n ≤ 990) (a b : List UInt8) (ha : a.length ≤ maxLen) (hb : b.length ≤ maxLen) : TGood (mixT T a b).1 (n + 3) := by
  have hl := h.l
  obtain ⟨h1, _, h3⟩ := mixT_in h.i (by omega) a b ha hb
  exact ⟨h1, pairT_nz ((h.of (by omega) a ha).of (by omega) b hb).z _ _ _, by omega⟩
theorem TGood.seal {T : List Nd} {n : Nat} (h : TGood T n) (hn : n ≤ 900) (a b : List UInt8) (ha : a.length ≤ maxLen) (hb : b.length ≤ maxLen) : TGood (sealT T a b).1 (n + 3) := by
  have hl := h.l
  have h1 := sealT_in h.i (by omega) a b ha hb
  have h2 := seal_len T a b
  exact ⟨h1, pairT_nz ((h.of (by omega) a ha).of (by omega) b hb).z _ _ _, by omega⟩
theorem TGood.atom {T : List Nd} {n : Nat} (h : TGood T n) (hn : n ≤ 1000) : TGood (atomT T).1 (n + 1) := by
  have hl := h.l
  refine ⟨atomT_in h.i (by omega), ?_, by show (T ++ [_]).length ≤ _; rw [List.length_append]; show T.length + 1 ≤ _; omega⟩
  exact nz_snoc h.z (fun q => absurd rfl q)
section
variable {w0 w : World} {h k : Nat} {v v2 v3 : Value} {T' T2 : List Nd} {cs xb : List Value} {W W' : World}
theorem TM.next (q : TM w0 w h k v v2 T' cs xb W) (r : RTo w0 W' v3 T2) (t : Turn1 W W' v2 v3) (ds : List Value) :
    TM w0 w W'.heap.size k v v3 T2 ds xb ((W'.alloc (.cells #[.bool false, .slice none 0 0, .int .i64 0, .slice none 0 0, .slice none 0 0] 33)).setRow W'.heap.size ds.toArray) := by
  have q1 := (q.put r t).mono (Gr.alloc W' (.cells #[.bool false, .slice none 0 0, .int .i64 0, .slice none 0 0, .slice none 0 0] 33))
  have hs : W.heap.size ≤ W'.heap.size := t.size
  have h0 : w.heap.size ≤ W'.heap.size := Nat.le_trans q.t.size hs
  have hk : k < W'.heap.size := Nat.lt_of_lt_of_le q.y.lt hs
  have q2 : TM w0 w W'.heap.size k v v3 T2 xz xb (W'.alloc (.cells #[.bool false, .slice none 0 0, .int .i64 0, .slice none 0 0, .slice none 0 0] 33)) :=
    ⟨heap_alloc_new W' _, q1.y, q1.r, q1.t, h0, q.kw, by omega, q.lo⟩
  have T : Tch (fun u => u = W'.heap.size) (W'.alloc (.cells #[.bool false, .slice none 0 0, .int .i64 0, .slice none 0 0, .slice none 0 0] 33)) ((W'.alloc (.cells #[.bool false, .slice none 0 0, .int .i64 0, .slice none 0 0, .slice none 0 0] 33)).setRow W'.heap.size ds.toArray) := Tch.rowC _ _ rfl
  have hlo := q.lo
  exact ⟨q2.x.row ds, Blk.tch q2.y T (by omega), Own.tch q2.r T (fun u e => by omega) (fun u hu e => Own.not_blk q2.r q2.x (by decide) (by rw [hu, e])), q2.t.tched T (fun u e => by omega), q2.hw, q2.kw, q2.ne, q2.lo⟩
end
set_option maxRecDepth 100000 in
set_option maxHeartbeats 1000000 in
theorem tDerive_any (w0 : World) (A B D : Option Addr) (c m e0 q0 f : Nat) (T : List Nd) (b : List UInt8) (s : ByteArray) (w : World) (hr : RTo w0 w (.slice A T.length c) T) (hg : TGood T 900) (hb : Bs w D q0 f b) (hs : s.size ≤ maxLen) :
    Calls Tryz.prog 67 #[tv A T.length c B m e0, .slice D q0 f, .string s] w (RetTX w0 w (.slice A T.length c) B m e0 (derT T b s).1 (handleL (derT T b s).2)) := by
  have hl : b.length = q0 := hb.len
  have hcp := hb.cap; have hmx := hb.max
  have hbl : b.length ≤ maxLen := by simp only [maxLen]; omega
  have G1 := Lib.hid (hg.of (by omega) b hbl)
  have HIL := Lib.hid (kdfT_id (ofT T b).1 ((ofT T b).2 : Int) s)
  have HGG := Lib.hid hg
  have HB := Lib.hid hb
  have HPU := Lib.hid (fun W' A' c' (q : RTo w0 W' (.slice A' (ofT T b).1.length c') (ofT T b).1) => refTermPut_any w0 (ofT T b).1 (.slice A' (ofT T b).1.length c') 3 ((ofT T b).2 : Int) 0 s W' q (by have := G1.out.l; omega) G1.out.z (.inr (.inl ⟨rfl, rfl⟩)))
  rw [putR_kdf] at HPU
  have HOF := Lib.hid (fun W' (g : Gr w W') (q : RTo w0 W' (.slice A T.length c) T) => refOf_any w0 A B D c m e0 q0 f T b W' q HGG.out.i.kinds HGG.out.z (by have := HGG.out.l; omega) (HB.out.mono g))
  unfold derT
  have HLE : Hid ((ofT T b).1.length ≤ 901) := G1.out.l
  clear G1 hg hb hbl hl
  generalize ofT T b = r at *
  generalize kdfT r.1 (r.2 : Int) s = u at *
  have HHD := Lib.hid (fun W => refHandle_any u.2 W (by have := HIL.out; have := HLE.out; omega))
  unfold tv at HOF ⊢
  show Calls _ _ #[.agg #[.bool false, .slice none 0 0, .int .i64 0, .slice A T.length c, .slice B m e0], _, _] _ _
  obtain ⟨W, hW⟩ : ∃ W, W = tw2 w A T.length c B m e0 := ⟨_, rfl⟩
  have XM0 := tw2_m w A T.length c B m e0
  rw [← hW] at XM0
  have TM0 : Hid (TM w0 w w.heap.size (w.heap.size + 1) (.slice A T.length c) (.slice A T.length c) T (ts A T.length c B m e0) xz W) := ⟨XM0.a, XM0.b, hr.mono XM0.gr, Turn1.gr XM0.gr _, Nat.le_refl _, Nat.le_succ _, by omega, hr.below.size⟩
  have GW := Lib.hid XM0.gr
  unfold tw2 at hW
  have HW := Lib.hid hW
  clear hr hW XM0
  go_enter Tryz.func67, Tryz.ntmps67
  go_upto_region 1 with fail
  rw [← HW.out]
  obtain ⟨h, hh⟩ : ∃ h, h = w.heap.size := ⟨_, rfl⟩
  rw [← hh] at TM0 ⊢
  clear hh HW
  have c0 : W.cell? ⟨h, 0, none⟩ = some (.bool false) := TM0.out.x.cell 0
  go_upto_region 4 with (first
    | (refine wpList_load_row rfl 33 (.tmp 3) rfl h rfl 33 (ts A T.length c B m e0).toArray (0, 0) _ (TM0).out.x Tryz.underlying33 rfl (size5 _ rfl) ?_)
    | (go_at_call 101; refine (HOF.out W GW.out TM0.out.r).mono ?_; rintro e w2 ⟨A2, c2, rfl, r2, t2⟩; have TM1 := Lib.hid ((TM0).out.next r2 t2 (ts A2 (r.1).length c2 B m e0)); have Gw2 : Hid (w.heap.size ≤ (w2).heap.size) := Nat.le_trans (TM0).out.t.size t2.size; clear r2 t2)
    | (refine wpList_store_row rfl 33 (.tmp 8) (.tmp 22) rfl (w2).heap.size (ts A2 (r.1).length c2 B m e0).toArray rfl rfl 33 xz.toArray (heap_alloc_new w2 _) (size5 _ rfl) rfl (oneT _ _ _ _ _ _) ?_))
  obtain ⟨W3, hW3⟩ : ∃ W3, W3 = ((w2).alloc (.cells #[.bool false, .slice none 0 0, .int .i64 0, .slice none 0 0, .slice none 0 0] 33)).setRow (w2).heap.size (ts A2 (r.1).length c2 B m e0).toArray := ⟨_, rfl⟩
  rw [← hW3] at TM1 ⊢
  obtain ⟨h2, hHO⟩ : ∃ b8, b8 = (w2).heap.size := ⟨_, rfl⟩
  rw [← hHO] at TM1 ⊢
  clear hW3 hHO
  have c3 : World.cell? _ ⟨h2, 3, none⟩ = some (.slice A2 (r.1).length c2) := (TM1).out.x.cell 3
  have HPV := Lib.hid (HPU.out W3 A2 c2 TM1.out.r)
  go_upto_region 5 with (go_at_call 102; refine HPV.out.mono ?_; rintro e w4 ⟨v4, rfl, r4, t4⟩; obtain ⟨A4, c4, rfl⟩ := atoms_at r4; have TP1 := Lib.hid ((TM1).out.put r4 t4); clear r4 t4)
  clear c3 HPV
  have c3 : w4.cell? ⟨h2, 3, none⟩ = some (.slice A2 (r.1).length c2) := TP1.out.x.cell 3
  have ff := Blk.free TP1.out.x 3
  go_upto_region 6 with fail
  have TP2 : Hid (TM w0 w h2 (h + 1) (.slice A T.length c) (.slice A4 (u).1.length c4) (u).1 (ts A4 (u).1.length c4 B m e0) xz (w4.setCell ⟨h2, 3, none⟩ (.slice A4 (u).1.length c4))) := TP1.out.set 3 (.slice A4 (u).1.length c4)
  obtain ⟨W4, hw3⟩ : ∃ w3, w3 = w4.setCell ⟨h2, 3, none⟩ (.slice A4 (u).1.length c4) := ⟨_, rfl⟩
  rw [← hw3] at TP2 ⊢
  clear hw3 c3 ff TP1
  refine wp_region_grow (by kernel_rfl) [0, 0, 2, 7, 15] [.p 1, .q 0, .c 2, .s 3, .p 4] (by kernel_rfl) (trivial) ?_
  refine wpG_pe rfl rfl ?_
  apply Exists.intro
  refine ⟨fun wq => ?_, ?_⟩
  · unfold plainAt
    go_simp
    first | exact rfl | exact ⟨rfl, rfl⟩
  go_simp
  refine wpG_qe rfl rfl ⟨.agg (ts A4 (u).1.length c4 B m e0).toArray, fun wq hq => plainRow 33 (.tmp 8) rfl h2 0 rfl _ _ (Xk.whole (Gr.blk ((Gr.drew _).trans hq) TP2.out.x)) Tryz.underlying33 rfl (size5c _ rfl), ?_⟩
  go_simp
  refine wpG_c rfl rfl ?_
  intro w5 g5 K hK
  go_simp
  go_at_call 16
  refine ((HHD.out) w5).mono ?_
  rintro e wn ⟨v6, rfl, o6⟩
  obtain ⟨A6, c6, rfl, s6⟩ := o6.slice; have TM3 := Lib.hid (TP2.out.mono (((Gr.drew _).trans g5).trans o6.below)); have S6 := Lib.hid ((Own.fb o6).old (TP2.out.mono ((Gr.drew _).trans g5)).t.size); refine hK _ _ o6.below ?_; clear hK g5 o6 s6
  go_simp
  refine wpG_s rfl rfl ?_
  intro w7 g7 K hK
  have TM4 := Lib.hid (TM3.out.mono g7)
  have S7 := Lib.hid (S6.out.mono g7)
  refine wp_store_row 33 (.tmp 6) (.tmp 35) rfl (h + 1) (ts A4 (u).1.length c4 B m e0).toArray rfl rfl 33 xz.toArray TM4.out.y (size5 _ rfl) rfl (oneT _ _ _ _ _ _) ?_
  refine hK _ _ ?_
  clear hK
  have TM5 := Lib.hid (TM4.out.ret (ts A4 (u).1.length c4 B m e0))
  have S8 := Lib.hid (S7.out.row TM4.out.y (by decide) (ts A4 (u).1.length c4 B m e0).toArray)
  obtain ⟨W8, hW8⟩ : ∃ W8, W8 = w7.setRow (h + 1) (ts A4 (u).1.length c4 B m e0).toArray := ⟨_, rfl⟩
  rw [← hW8] at TM5 S8 ⊢
  clear hW8 TM4 TM3 S7 S6 g7
  go_simp
  refine wpG_pe rfl rfl ?_
  apply Exists.intro
  refine ⟨fun wq => ?_, ?_⟩
  · unfold plainAt
    go_simp
    first | exact rfl | exact ⟨rfl, rfl⟩
  go_simp
  refine wpG_nil ?_
  intro w9 g9
  have TM6 := Lib.hid (TM5.out.mono g9)
  have S9 := Lib.hid (S8.out.mono g9)
  clear g9
  go_wp2_with fail
  exact bodyPost_ret (v := .tuple #[.agg (ts A4 (u).1.length c4 B m e0).toArray, .slice A6 (handleL (u).2).length c6]) (results_5 Tryz.results67 _ _ (h + 1) (ts A4 (u).1.length c4 B m e0) rfl rfl TM6.out.y) rfl ⟨A4, c4, A6, _, c6, rfl, TM6.out.r, TM6.out.t, S9.out⟩
set_option maxRecDepth 100000 in
set_option maxHeartbeats 1000000 in
theorem tMix_any (w0 : World) (A B D E : Option Addr) (c m e0 q0 f q1 f1 : Nat) (T : List Nd) (b b2 : List UInt8) (w : World) (hr : RTo w0 w (.slice A T.length c) T) (hg : TGood T 900) (hb : Bs w D q0 f b) (hb2 : Bs w E q1 f1 b2) (HBK : ∀ w' v', Turn1 w w' (.slice A T.length c) v' → Below w0.heap.size w0 w' → Bs w' E q1 f1 b2) :
    Calls Tryz.prog 68 #[tv A T.length c B m e0, .slice D q0 f, .slice E q1 f1] w (RetTX w0 w (.slice A T.length c) B m e0 (mixT T b b2).1 (handleL (mixT T b b2).2)) := by
  have hl : b.length = q0 := hb.len
  have hcp := hb.cap; have hmx := hb.max
  have hbl : b.length ≤ maxLen := by simp only [maxLen]; omega
  have hl2 : b2.length = q1 := hb2.len
  have hcp2 := hb2.cap; have hmx2 := hb2.max
  have hbl2 : b2.length ≤ maxLen := by simp only [maxLen]; omega
  have G1 := Lib.hid (hg.of (by omega) b hbl)
  have G2 := Lib.hid (G1.out.of (by omega) b2 hbl2)
  have HIL := Lib.hid (pairT_id (ofT (ofT T b).1 b2).1 4 ((ofT T b).2 : Int) ((ofT (ofT T b).1 b2).2 : Int))
  have HGG := Lib.hid hg
  have HB := Lib.hid hb; have HK := Lib.hid HBK
  have HPU := Lib.hid (fun W' A' c' (q : RTo w0 W' (.slice A' (ofT (ofT T b).1 b2).1.length c') (ofT (ofT T b).1 b2).1) => refTermPut_any w0 (ofT (ofT T b).1 b2).1 (.slice A' (ofT (ofT T b).1 b2).1.length c') 4 ((ofT T b).2 : Int) ((ofT (ofT T b).1 b2).2 : Int) ByteArray.empty W' q (by have := G2.out.l; omega) G2.out.z (.inr (.inr (.inl rfl))))
  rw [putR_pair _ 4 (by decide)] at HPU
  have HOF := Lib.hid (fun W' (g : Gr w W') (q : RTo w0 W' (.slice A T.length c) T) => refOf_any w0 A B D c m e0 q0 f T b W' q HGG.out.i.kinds HGG.out.z (by have := HGG.out.l; omega) (HB.out.mono g))
  have HOF2 := Lib.hid (fun W' A' c' (t : Turn1 w W' (.slice A T.length c) (.slice A' (ofT T b).1.length c')) (q : RTo w0 W' (.slice A' (ofT T b).1.length c') (ofT T b).1) => refOf_any w0 A' B E c' m e0 q1 f1 (ofT T b).1 b2 W' q G1.out.i.kinds G1.out.z (by have := G1.out.l; omega) (HK.out W' _ t q.below))
  unfold mixT
  have HLE : Hid ((ofT (ofT T b).1 b2).1.length ≤ 902) := G2.out.l
  clear G1 G2 hg hb hbl hl hb2 hbl2 hl2 HBK
  generalize ofT T b = r at *
  generalize ofT r.1 b2 = r' at *
  generalize pairT r'.1 4 (r.2 : Int) (r'.2 : Int) = u at *
  have HHD := Lib.hid (fun W => refHandle_any u.2 W (by have := HIL.out; have := HLE.out; omega))
  unfold tv at HOF HOF2 ⊢
  show Calls _ _ #[.agg #[.bool false, .slice none 0 0, .int .i64 0, .slice A T.length c, .slice B m e0], _, _] _ _
  obtain ⟨W, hW⟩ : ∃ W, W = tw2 w A T.length c B m e0 := ⟨_, rfl⟩
  have XM0 := tw2_m w A T.length c B m e0
  rw [← hW] at XM0
  have TM0 : Hid (TM w0 w w.heap.size (w.heap.size + 1) (.slice A T.length c) (.slice A T.length c) T (ts A T.length c B m e0) xz W) := ⟨XM0.a, XM0.b, hr.mono XM0.gr, Turn1.gr XM0.gr _, Nat.le_refl _, Nat.le_succ _, by omega, hr.below.size⟩
  have GW := Lib.hid XM0.gr
  unfold tw2 at hW
  have HW := Lib.hid hW
  clear hr hW XM0
  go_enter Tryz.func68, Tryz.ntmps68
  go_upto_region 1 with fail
  rw [← HW.out]
  obtain ⟨h, hh⟩ : ∃ h, h = w.heap.size := ⟨_, rfl⟩
  rw [← hh] at TM0 ⊢
  clear hh HW
  have c0 : W.cell? ⟨h, 0, none⟩ = some (.bool false) := TM0.out.x.cell 0
  go_upto_region 4 with (first
    | (refine wpList_load_row rfl 33 (.tmp 3) rfl h rfl 33 (ts A T.length c B m e0).toArray (0, 0) _ (TM0).out.x Tryz.underlying33 rfl (size5 _ rfl) ?_)
    | (go_at_call 101; refine (HOF.out W GW.out TM0.out.r).mono ?_; rintro e w2 ⟨A2, c2, rfl, r2, t2⟩; have TM1 := Lib.hid ((TM0).out.next r2 t2 (ts A2 (r.1).length c2 B m e0)); have Gw2 : Hid (w.heap.size ≤ (w2).heap.size) := Nat.le_trans (TM0).out.t.size t2.size; clear r2 t2)
    | (refine wpList_store_row rfl 33 (.tmp 8) (.tmp 24) rfl (w2).heap.size (ts A2 (r.1).length c2 B m e0).toArray rfl rfl 33 xz.toArray (heap_alloc_new w2 _) (size5 _ rfl) rfl (oneT _ _ _ _ _ _) ?_))
  obtain ⟨W3, hW3⟩ : ∃ W3, W3 = ((w2).alloc (.cells #[.bool false, .slice none 0 0, .int .i64 0, .slice none 0 0, .slice none 0 0] 33)).setRow (w2).heap.size (ts A2 (r.1).length c2 B m e0).toArray := ⟨_, rfl⟩
  rw [← hW3] at TM1 ⊢
  obtain ⟨h2, hHO⟩ : ∃ b8, b8 = (w2).heap.size := ⟨_, rfl⟩
  rw [← hHO] at TM1 ⊢
  clear hW3 hHO
  go_upto_region 5 with (first
    | (refine wpList_load_row rfl 33 (.tmp 8) rfl h2 rfl 33 (ts A2 r.1.length c2 B m e0).toArray (0, 0) _ (TM1).out.x Tryz.underlying33 rfl (size5 _ rfl) ?_)
    | (go_at_call 101; refine (HOF2.out W3 A2 c2 TM1.out.t TM1.out.r).mono ?_; rintro e w3 ⟨A3, d3, rfl, r2, t2⟩; have TM2 := Lib.hid ((TM1).out.next r2 t2 (ts A3 (r'.1).length d3 B m e0)); have Gw3 : Hid (w.heap.size ≤ (w3).heap.size) := Nat.le_trans (TM1).out.t.size t2.size; clear r2 t2)
    | (refine wpList_store_row rfl 33 (.tmp 10) (.tmp 30) rfl (w3).heap.size (ts A3 (r'.1).length d3 B m e0).toArray rfl rfl 33 xz.toArray (heap_alloc_new w3 _) (size5 _ rfl) rfl (oneT _ _ _ _ _ _) ?_))
  obtain ⟨W4, hW3⟩ : ∃ W3, W3 = ((w3).alloc (.cells #[.bool false, .slice none 0 0, .int .i64 0, .slice none 0 0, .slice none 0 0] 33)).setRow (w3).heap.size (ts A3 (r'.1).length d3 B m e0).toArray := ⟨_, rfl⟩
  rw [← hW3] at TM2 ⊢
  obtain ⟨h3, hHO⟩ : ∃ b8, b8 = (w3).heap.size := ⟨_, rfl⟩
  rw [← hHO] at TM2 ⊢
  clear hW3 hHO
  have c3 : World.cell? _ ⟨h3, 3, none⟩ = some (.slice A3 (r'.1).length d3) := (TM2).out.x.cell 3
  have HPV := Lib.hid (HPU.out W4 A3 d3 TM2.out.r)
  go_upto_region 6 with (go_at_call 102; refine HPV.out.mono ?_; rintro e w4 ⟨v4, rfl, r4, t4⟩; obtain ⟨A4, c4, rfl⟩ := atoms_at r4; have TP1 := Lib.hid ((TM2).out.put r4 t4); clear r4 t4)
  clear c3 HPV
  have c3 : w4.cell? ⟨h3, 3, none⟩ = some (.slice A3 (r'.1).length d3) := TP1.out.x.cell 3
  have ff := Blk.free TP1.out.x 3
  go_upto_region 7 with fail
  have TP2 : Hid (TM w0 w h3 (h + 1) (.slice A T.length c) (.slice A4 (u).1.length c4) (u).1 (ts A4 (u).1.length c4 B m e0) xz (w4.setCell ⟨h3, 3, none⟩ (.slice A4 (u).1.length c4))) := TP1.out.set 3 (.slice A4 (u).1.length c4)
  obtain ⟨W5, hw3⟩ : ∃ w3, w3 = w4.setCell ⟨h3, 3, none⟩ (.slice A4 (u).1.length c4) := ⟨_, rfl⟩
  rw [← hw3] at TP2 ⊢
  clear hw3 c3 ff TP1
  refine wp_region_grow (by kernel_rfl) [0, 0, 2, 7, 15] [.p 1, .q 0, .c 2, .s 3, .p 4] (by kernel_rfl) (trivial) ?_
  refine wpG_pe rfl rfl ?_
  apply Exists.intro
  refine ⟨fun wq => ?_, ?_⟩
  · unfold plainAt
    go_simp
    first | exact rfl | exact ⟨rfl, rfl⟩
  go_simp
  refine wpG_qe rfl rfl ⟨.agg (ts A4 (u).1.length c4 B m e0).toArray, fun wq hq => plainRow 33 (.tmp 10) rfl h3 0 rfl _ _ (Xk.whole (Gr.blk ((Gr.drew _).trans hq) TP2.out.x)) Tryz.underlying33 rfl (size5c _ rfl), ?_⟩
  go_simp
  refine wpG_c rfl rfl ?_
  intro w5 g5 K hK
  go_simp
  go_at_call 16
  refine ((HHD.out) w5).mono ?_
  rintro e wn ⟨v6, rfl, o6⟩
  obtain ⟨A6, c6, rfl, s6⟩ := o6.slice; have TM3 := Lib.hid (TP2.out.mono (((Gr.drew _).trans g5).trans o6.below)); have S6 := Lib.hid ((Own.fb o6).old (TP2.out.mono ((Gr.drew _).trans g5)).t.size); refine hK _ _ o6.below ?_; clear hK g5 o6 s6
  go_simp
  refine wpG_s rfl rfl ?_
  intro w7 g7 K hK
  have TM4 := Lib.hid (TM3.out.mono g7)
  have S7 := Lib.hid (S6.out.mono g7)
  refine wp_store_row 33 (.tmp 6) (.tmp 43) rfl (h + 1) (ts A4 (u).1.length c4 B m e0).toArray rfl rfl 33 xz.toArray TM4.out.y (size5 _ rfl) rfl (oneT _ _ _ _ _ _) ?_
  refine hK _ _ ?_
  clear hK
  have TM5 := Lib.hid (TM4.out.ret (ts A4 (u).1.length c4 B m e0))
  have S8 := Lib.hid (S7.out.row TM4.out.y (by decide) (ts A4 (u).1.length c4 B m e0).toArray)
  obtain ⟨W8, hW8⟩ : ∃ W8, W8 = w7.setRow (h + 1) (ts A4 (u).1.length c4 B m e0).toArray := ⟨_, rfl⟩
  rw [← hW8] at TM5 S8 ⊢
  clear hW8 TM4 TM3 S7 S6 g7
  go_simp
  refine wpG_pe rfl rfl ?_
  apply Exists.intro
  refine ⟨fun wq => ?_, ?_⟩
  · unfold plainAt
    go_simp
    first | exact rfl | exact ⟨rfl, rfl⟩
  go_simp
  refine wpG_nil ?_
  intro w9 g9
  have TM6 := Lib.hid (TM5.out.mono g9)
  have S9 := Lib.hid (S8.out.mono g9)
  clear g9
  go_wp2_with fail
  exact bodyPost_ret (v := .tuple #[.agg (ts A4 (u).1.length c4 B m e0).toArray, .slice A6 (handleL (u).2).length c6]) (results_5 Tryz.results68 _ _ (h + 1) (ts A4 (u).1.length c4 B m e0) rfl rfl TM6.out.y) rfl ⟨A4, c4, A6, _, c6, rfl, TM6.out.r, TM6.out.t, S9.out⟩
set_option maxRecDepth 100000 in
set_option maxHeartbeats 1000000 in
theorem tSeal_any (w0 : World) (A B D E : Option Addr) (c m e0 f q1 f1 : Nat) (T : List Nd) (b b2 : List UInt8) (w : World) (hr : RTo w0 w (.slice A T.length c) T) (hg : TGood T 890) (hb : Bs w D 32 f b) (hb2 : Bs w E q1 f1 b2) (hq1 : q1 ≤ 20000) (HBK : ∀ w' v', Turn1 w w' (.slice A T.length c) v' → Below w0.heap.size w0 w' → Bs w' E q1 f1 b2) :
    Calls Tryz.prog 65 #[tv A T.length c B m e0, .slice D 32 f, .slice E q1 f1] w (RetTX w0 w (.slice A T.length c) B m e0 (sealT T b b2).1 (sealB T b b2)) := by
  have hl : b.length = 32 := hb.len
  have hcp := hb.cap; have hmx := hb.max
  have hbl : b.length ≤ maxLen := by simp only [maxLen]; omega
  have hl2 : b2.length = q1 := hb2.len
  have hcp2 := hb2.cap; have hmx2 := hb2.max
  have hbl2 : b2.length ≤ maxLen := by simp only [maxLen]; omega
  have G1 := Lib.hid (hg.of (by omega) b hbl)
  have G2 := Lib.hid (G1.out.of (by omega) b2 hbl2)
  have HIL := Lib.hid (pairT_id (ofT (ofT T b).1 b2).1 5 ((ofT T b).2 : Int) ((ofT (ofT T b).1 b2).2 : Int))
  have HGG := Lib.hid hg
  have HB := Lib.hid hb; have HK := Lib.hid HBK
  have HPU := Lib.hid (fun W' A' c' (q : RTo w0 W' (.slice A' (ofT (ofT T b).1 b2).1.length c') (ofT (ofT T b).1 b2).1) => refTermPut_any w0 (ofT (ofT T b).1 b2).1 (.slice A' (ofT (ofT T b).1 b2).1.length c') 5 ((ofT T b).2 : Int) ((ofT (ofT T b).1 b2).2 : Int) ByteArray.empty W' q (by have := G2.out.l; omega) G2.out.z (.inr (.inr (.inr rfl))))
  rw [putR_pair _ 5 (by decide)] at HPU
  have HOF := Lib.hid (fun W' (g : Gr w W') (q : RTo w0 W' (.slice A T.length c) T) => refOf_any w0 A B D c m e0 32 f T b W' q HGG.out.i.kinds HGG.out.z (by have := HGG.out.l; omega) (HB.out.mono g))
  have HOF2 := Lib.hid (fun W' A' c' (t : Turn1 w W' (.slice A T.length c) (.slice A' (ofT T b).1.length c')) (q : RTo w0 W' (.slice A' (ofT T b).1.length c') (ofT T b).1) => refOf_any w0 A' B E c' m e0 q1 f1 (ofT T b).1 b2 W' q G1.out.i.kinds G1.out.z (by have := G1.out.l; omega) (HK.out W' _ t q.below))
  unfold sealB sealT
  rw [hl2]
  have HLE : Hid ((ofT (ofT T b).1 b2).1.length ≤ 892) := G2.out.l
  clear G1 G2 hg hb hbl hl hb2 hbl2 hl2 HBK
  generalize ofT T b = r at *
  generalize ofT r.1 b2 = r' at *
  generalize pairT r'.1 5 (r.2 : Int) (r'.2 : Int) = u at *
  have HHD := Lib.hid (fun W => refHandle_any u.2 W (by have := HIL.out; have := HLE.out; omega))
  have t60 : decide ((60000 : Int) < (q1 : Int)) = false := decide_eq_false (by omega)
  have hw48 : IntKind.i64.wrap ((q1 : Int) + 48) = (q1 : Int) + 48 := IntWalk.i64_in _ (by omega)
  have HPA := Lib.hid (fun A' c' W' (s : Bs W' A' 32 c' (handleL u.2)) => refPad_yes A' 32 c' (handleL u.2) (q1 + 48) W' s (by omega) (by omega))
  rw [show ((q1 + 48 : Nat) : Int) = (q1 : Int) + 48 by omega] at HPA
  have HPL : Hid ((padL (handleL u.2) (q1 + 48)).length = q1 + 48) := padL_length _ _
  unfold tv at HOF HOF2 ⊢
  show Calls _ _ #[.agg #[.bool false, .slice none 0 0, .int .i64 0, .slice A T.length c, .slice B m e0], _, _] _ _
  obtain ⟨W, hW⟩ : ∃ W, W = tw2 w A T.length c B m e0 := ⟨_, rfl⟩
  have XM0 := tw2_m w A T.length c B m e0
  rw [← hW] at XM0
  have TM0 : Hid (TM w0 w w.heap.size (w.heap.size + 1) (.slice A T.length c) (.slice A T.length c) T (ts A T.length c B m e0) xz W) := ⟨XM0.a, XM0.b, hr.mono XM0.gr, Turn1.gr XM0.gr _, Nat.le_refl _, Nat.le_succ _, by omega, hr.below.size⟩
  have GW := Lib.hid XM0.gr
  unfold tw2 at hW
  have HW := Lib.hid hW
  clear hr hW XM0
  go_enter Tryz.func65, Tryz.ntmps65
  go_upto_region 1 with fail
  rw [← HW.out]
  obtain ⟨h, hh⟩ : ∃ h, h = w.heap.size := ⟨_, rfl⟩
  rw [← hh] at TM0 ⊢
  clear hh HW
  have c0 : W.cell? ⟨h, 0, none⟩ = some (.bool false) := TM0.out.x.cell 0
  go_upto_region 9 with (first
    | (refine wpList_load_row rfl 33 (.tmp 3) rfl h rfl 33 (ts A T.length c B m e0).toArray (0, 0) _ (TM0).out.x Tryz.underlying33 rfl (size5 _ rfl) ?_)
    | (go_at_call 101; refine (HOF.out W GW.out TM0.out.r).mono ?_; rintro e w2 ⟨A2, c2, rfl, r2, t2⟩; have TM1 := Lib.hid ((TM0).out.next r2 t2 (ts A2 (r.1).length c2 B m e0)); have Gw2 : Hid (w.heap.size ≤ (w2).heap.size) := Nat.le_trans (TM0).out.t.size t2.size; clear r2 t2)
    | (refine wpList_store_row rfl 33 (.tmp 12) (.tmp 52) rfl (w2).heap.size (ts A2 (r.1).length c2 B m e0).toArray rfl rfl 33 xz.toArray (heap_alloc_new w2 _) (size5 _ rfl) rfl (oneT _ _ _ _ _ _) ?_))
  obtain ⟨W3, hW3⟩ : ∃ W3, W3 = ((w2).alloc (.cells #[.bool false, .slice none 0 0, .int .i64 0, .slice none 0 0, .slice none 0 0] 33)).setRow (w2).heap.size (ts A2 (r.1).length c2 B m e0).toArray := ⟨_, rfl⟩
  rw [← hW3] at TM1 ⊢
  obtain ⟨h2, hHO⟩ : ∃ b8, b8 = (w2).heap.size := ⟨_, rfl⟩
  rw [← hHO] at TM1 ⊢
  clear hW3 hHO
  go_upto_region 10 with (first
    | (refine wpList_load_row rfl 33 (.tmp 12) rfl h2 rfl 33 (ts A2 r.1.length c2 B m e0).toArray (0, 0) _ (TM1).out.x Tryz.underlying33 rfl (size5 _ rfl) ?_)
    | (go_at_call 101; refine (HOF2.out W3 A2 c2 TM1.out.t TM1.out.r).mono ?_; rintro e w3 ⟨A3, d3, rfl, r2, t2⟩; have TM2 := Lib.hid ((TM1).out.next r2 t2 (ts A3 (r'.1).length d3 B m e0)); have Gw3 : Hid (w.heap.size ≤ (w3).heap.size) := Nat.le_trans (TM1).out.t.size t2.size; clear r2 t2)
    | (refine wpList_store_row rfl 33 (.tmp 14) (.tmp 58) rfl (w3).heap.size (ts A3 (r'.1).length d3 B m e0).toArray rfl rfl 33 xz.toArray (heap_alloc_new w3 _) (size5 _ rfl) rfl (oneT _ _ _ _ _ _) ?_))
  obtain ⟨W4, hW3⟩ : ∃ W3, W3 = ((w3).alloc (.cells #[.bool false, .slice none 0 0, .int .i64 0, .slice none 0 0, .slice none 0 0] 33)).setRow (w3).heap.size (ts A3 (r'.1).length d3 B m e0).toArray := ⟨_, rfl⟩
  rw [← hW3] at TM2 ⊢
  obtain ⟨h3, hHO⟩ : ∃ b8, b8 = (w3).heap.size := ⟨_, rfl⟩
  rw [← hHO] at TM2 ⊢
  clear hW3 hHO
  have c3 : World.cell? _ ⟨h3, 3, none⟩ = some (.slice A3 (r'.1).length d3) := (TM2).out.x.cell 3
  have HPV := Lib.hid (HPU.out W4 A3 d3 TM2.out.r)
  go_upto_region 11 with (go_at_call 102; refine HPV.out.mono ?_; rintro e w4 ⟨v4, rfl, r4, t4⟩; obtain ⟨A4, c4, rfl⟩ := atoms_at r4; have TP1 := Lib.hid ((TM2).out.put r4 t4); clear r4 t4)
  clear c3 HPV
  have c3 : w4.cell? ⟨h3, 3, none⟩ = some (.slice A3 (r'.1).length d3) := TP1.out.x.cell 3
  have ff := Blk.free TP1.out.x 3
  go_upto_region 12 with fail
  have TP2 : Hid (TM w0 w h3 (h + 1) (.slice A T.length c) (.slice A4 (u).1.length c4) (u).1 (ts A4 (u).1.length c4 B m e0) xz (w4.setCell ⟨h3, 3, none⟩ (.slice A4 (u).1.length c4))) := TP1.out.set 3 (.slice A4 (u).1.length c4)
  obtain ⟨W5, hw3⟩ : ∃ w3, w3 = w4.setCell ⟨h3, 3, none⟩ (.slice A4 (u).1.length c4) := ⟨_, rfl⟩
  rw [← hw3] at TP2 ⊢
  clear hw3 c3 ff TP1
  refine wp_region_grow (by kernel_rfl) [0, 0, 2, 0, 8, 24, 62, 127, 255] [.p 1, .p 3, .p 4, .p 5, .q 0, .c 2, .c 6, .s 7, .p 8] (by kernel_rfl) (trivial) ?_
  refine wpG_pe rfl rfl ?_
  apply Exists.intro
  refine ⟨fun wq => ?_, ?_⟩
  · unfold plainAt
    go_simp
    first | exact rfl | exact ⟨rfl, rfl⟩
  go_simp
  refine wpG_pe rfl rfl ?_
  apply Exists.intro
  refine ⟨fun wq => ?_, ?_⟩
  · unfold plainAt
    go_simp
    first | exact rfl | exact ⟨rfl, rfl⟩
  go_simp
  refine wpG_pe rfl rfl ?_
  apply Exists.intro
  refine ⟨fun wq => ?_, ?_⟩
  · unfold plainAt
    go_simp
    first | exact rfl | exact ⟨rfl, rfl⟩
  go_simp
  refine wpG_pe rfl rfl ?_
  apply Exists.intro
  refine ⟨fun wq => ?_, ?_⟩
  · unfold plainAt
    go_simp
    first | exact rfl | exact ⟨rfl, rfl⟩
  go_simp
  refine wpG_qe rfl rfl ⟨.agg (ts A4 u.1.length c4 B m e0).toArray, fun wq hq => plainRow 33 (.tmp 14) rfl h3 0 rfl _ _ (Xk.whole (Gr.blk ((Gr.drew _).trans hq) TP2.out.x)) Tryz.underlying33 rfl (size5c _ rfl), ?_⟩
  go_simp
  refine wpG_c rfl rfl ?_
  intro w5 g5 K hK
  go_simp
  go_at_call 16
  refine (HHD.out w5).mono ?_
  rintro e wn ⟨v6, rfl, o6⟩
  rw [handleL_len] at o6; obtain ⟨A6, c6, rfl, s6⟩ := o6.slice; have TM3 := Lib.hid (TP2.out.mono (((Gr.drew _).trans g5).trans o6.below)); have S6 : Hid (Bs wn A6 32 c6 (handleL u.2)) := s6; refine hK _ _ o6.below ?_; clear hK g5 o6 s6
  go_simp
  refine wpG_c rfl rfl ?_
  intro w7 g7 K hK
  go_simp
  go_at_call 39
  refine (HPA.out A6 c6 w7 (Sl.mono S6.out g7)).mono ?_
  rintro e wn ⟨v8, rfl, o8⟩
  obtain ⟨A8, c8, rfl, s8⟩ := o8.slice; have TM4 := Lib.hid (TM3.out.mono (g7.trans o8.below)); have S8 := Lib.hid ((Own.fb o8).old (TM3.out.mono g7).t.size); refine hK _ _ o8.below ?_; clear hK g7 o8 s8
  go_simp
  refine wpG_s rfl rfl ?_
  intro w9 g9 K hK
  have TM5 := Lib.hid (TM4.out.mono g9)
  have S9 := Lib.hid (S8.out.mono g9)
  refine wp_store_row 33 (.tmp 6) (.tmp 71) rfl (h + 1) (ts A4 u.1.length c4 B m e0).toArray rfl rfl 33 xz.toArray TM5.out.y (size5 _ rfl) rfl (oneT _ _ _ _ _ _) ?_
  refine hK _ _ ?_
  clear hK
  have TM6 := Lib.hid (TM5.out.ret (ts A4 u.1.length c4 B m e0))
  have S10 := Lib.hid (S9.out.row TM5.out.y (by decide) (ts A4 u.1.length c4 B m e0).toArray)
  obtain ⟨W10, hW10⟩ : ∃ W10, W10 = w9.setRow (h + 1) (ts A4 u.1.length c4 B m e0).toArray := ⟨_, rfl⟩
  rw [← hW10] at TM6 S10 ⊢
  clear hW10 TM5 TM4 TM3 S9 S8 S6 g9
  go_simp
  refine wpG_pe rfl rfl ?_
  apply Exists.intro
  refine ⟨fun wq => ?_, ?_⟩
  · unfold plainAt
    go_simp
    first | exact rfl | exact ⟨rfl, rfl⟩
  go_simp
  refine wpG_nil ?_
  intro w11 g11
  have TM7 := Lib.hid (TM6.out.mono g11)
  have S11 := Lib.hid (S10.out.mono g11)
  clear g11
  go_wp2_with fail
  exact bodyPost_ret (v := .tuple #[.agg (ts A4 u.1.length c4 B m e0).toArray, .slice A8 (padL (handleL u.2) (q1 + 48)).length c8]) (results_5 Tryz.results65 _ _ (h + 1) (ts A4 u.1.length c4 B m e0) rfl rfl TM7.out.y) rfl ⟨A4, c4, A8, _, c8, rfl, TM7.out.r, TM7.out.t, S11.out⟩
end Go.Proofs.YtcfbbgbjlgonpaaGreatDoor
