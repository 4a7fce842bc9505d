/- Own texts of this claim, one behind the other. No condition. -/
import Derived.Test.YtcfbbgbjlgonpaaGreatDoorObPkAH
import Derived.Test.YtcfbbgbjlgonpaaGreatDoorObPkAU
import Derived.Test.YtcfbbgbjlgonpaaGreatDoorObPkAZ

/- The reference of layer 17, of terms: Sum, Check. No condition. -/
namespace Go.Proofs.YtcfbbgbjlgonpaaGreatDoor
open Go.RowKit
set_option linter.unusedVariables false
set_option linter.unusedSimpArgs false
/-- The sums: rows of bytes of the document's own. -/
def SumsO (w0 w : World) (v : Value) (L : List BRow) : Prop := Own w0 w 28 1 v L.length (L.map BRow.v) ∧ ∀ r ∈ L, FB w0 w r.a r.n r.c r.l
theorem SumsO.mono {w0 w w' : World} {v : Value} {L : List BRow} (h : SumsO w0 w v L) (g : Gr w w') : SumsO w0 w' v L := ⟨h.1.mono g, fun r hr => (h.2 r hr).mono g⟩
theorem SumsO.at {w0 w : World} {v : Value} {L : List BRow} (h : SumsO w0 w v L) : ∃ B e, v = .slice B L.length e ∧ Bss w B L.length e L := by
  obtain ⟨B, e, rfl, s⟩ := h.1.slice
  exact ⟨B, e, rfl, s, fun r hr => (h.2 r hr).b⟩
theorem SumsO.bss {w0 w : World} {B : Option Addr} {m e : Nat} {L : List BRow} (h : SumsO w0 w (.slice B m e) L) : Bss w B m e L ∧ m = L.length := by
  obtain ⟨B', e', hv, s⟩ := h.at
  injection hv with h1 h2 h3
  subst h1 h2 h3
  exact ⟨s, rfl⟩
theorem SumsO.tch {S : Nat → Prop} {w0 w w' : World} {v : Value} {L : List BRow} (h : SumsO w0 w v L) (T : Tch S w w') (hB : ∀ b, S b → w0.heap.size ≤ b) (hn : ∀ b, v.ownBlock = some b → ¬ S b) (hu : ∀ b a m, S b → w.heap[b]? ≠ some (.cells a 5 m)) : SumsO w0 w' v L :=
  ⟨Own.tch h.1 T hB hn, fun r hr => (h.2 r hr).keep T hu⟩
theorem own_no_u8 {w0 w : World} {e : TypeId} {s n : Nat} {v : Value} {xs : List Value} (h : Own w0 w e s v n xs) (he : e ≠ 5) {b : Nat} (hb : v.ownBlock = some b) (a : Array Value) (m : Nat × Nat) : w.heap[b]? ≠ some (.cells a 5 m) := fun q => by
  obtain ⟨cs, k⟩ := h.blk_at hb
  unfold Blk at k
  rw [k] at q
  injection q with q
  injection q with _ q _
  exact he q
theorem blk_no_u8 {w : World} {b : Nat} {t : TypeId} {cs : List Value} (k : Blk w b t cs) (ht : t ≠ 5) (a : Array Value) (m : Nat × Nat) : w.heap[b]? ≠ some (.cells a 5 m) := fun q => by
  unfold Blk at k
  rw [k] at q
  injection q with q
  injection q with _ q _
  exact ht q
theorem SumsO.push {w0 w w' : World} {v v' : Value} {L : List BRow} (h : SumsO w0 w v L) {r : BRow} (own : Own w0 w' 28 1 v' (L.length + 1) (L.map BRow.v ++ [r.v])) (k : Kept w w' v v') (fr : FB w0 w r.a r.n r.c r.l) : SumsO w0 w' v' (L ++ [r]) := by
  have T := Tch.kept k own h.1.below
  have hu : ∀ b a m, v.ownBlock = some b → w.heap[b]? ≠ some (.cells a 5 m) := fun b a m e => own_no_u8 h.1 (by decide) e a m
  refine ⟨?_, fun x hx => ?_⟩
  · rw [List.length_append, List.map_append]
    exact own
  · rw [List.mem_append, List.mem_singleton] at hx
    rcases hx with hx | rfl
    · exact (h.2 x hx).keep T hu
    · exact fr.keep T hu
/-- In a call: the suite's block h, the result's block k, the sums v2. -/
structure SM (w0 w : World) (h k : Nat) (v v2 : Value) (L : List BRow) (cs xb : List Value) (W : World) : Prop where
  x : Xk W h cs
  y : Xk W k xb
  r : SumsO w0 W v2 L
  t : Turn1 w W v v2
  hw : w.heap.size ≤ h
  kw : w.heap.size ≤ k
  ne : h ≠ k
  lo : w0.heap.size ≤ w.heap.size
section
variable {w0 w : World} {h k : Nat} {v v2 v3 : Value} {L L2 : List BRow} {cs xb : List Value} {W W' : World}
theorem SM.mono (q : SM w0 w h k v v2 L cs xb W) (g : Gr W W') : SM w0 w h k v v2 L cs xb W' :=
  ⟨g.blk q.x, g.blk q.y, q.r.mono g, q.t.trans (Turn1.gr g _), q.hw, q.kw, q.ne, q.lo⟩
theorem SM.put (q : SM w0 w h k v v2 L cs xb W) (r : SumsO w0 W' v3 L2) (t : Turn1 W W' v2 v3) : SM w0 w h k v v3 L2 cs xb W' :=
  ⟨(t.keep h (Blk.lt q.x) (Own.not_blk q.r.1 q.x (by decide))).trans q.x, (t.keep k (Blk.lt q.y) (Own.not_blk q.r.1 q.y (by decide))).trans q.y, r, q.t.trans t, q.hw, q.kw, q.ne, q.lo⟩
theorem SM.set (q : SM w0 w h k v v2 L cs xb W) (i : Nat) (val : Value) : SM w0 w h k v v2 L (cs.set i val) xb (W.setCell ⟨h, i, none⟩ val) := by
  have T : Tch (fun u => u = h) W (W.setCell ⟨h, i, none⟩ val) := Tch.set ⟨h, i, none⟩ _ rfl
  have h1 := q.hw; have h2 := q.lo
  exact ⟨Blk.set q.x i _, Blk.tch q.y T (fun e => q.ne e.symm), q.r.tch T (fun u e => by omega) (fun u hu e => Own.not_blk q.r.1 q.x (by decide) (by rw [hu, e])) (fun u a m e => by subst e; exact blk_no_u8 q.x (by decide) a m), q.t.tched T (fun u e => by omega), q.hw, q.kw, q.ne, q.lo⟩
theorem SM.ret (q : SM w0 w h k v v2 L cs xb W) (ds : List Value) : SM w0 w h k v v2 L cs ds (W.setRow k ds.toArray) := by
  have T : Tch (fun u => u = k) W (W.setRow k ds.toArray) := Tch.rowC k _ rfl
  have h1 := q.kw; have h2 := q.lo
  exact ⟨Blk.tch q.x T q.ne, q.y.row ds, q.r.tch T (fun u e => by omega) (fun u hu e => Own.not_blk q.r.1 q.y (by decide) (by rw [hu, e])) (fun u a m e => by subst e; exact blk_no_u8 q.y (by decide) a m), q.t.tched T (fun u e => by omega), q.hw, q.kw, q.ne, q.lo⟩
end
theorem mk_sl (w : World) : Bs (w.alloc (.cells #[.int .u8 255, .int .u8 253] 5)) (some ⟨w.heap.size, 0, none⟩) 2 2 [255, 253] := by
  refine ⟨rfl, Nat.le_refl _, by decide, fun _ => ⟨_, _, rfl, fun j u hu => ?_⟩⟩
  rw [Nat.zero_add, (Blk.new w _ _).cell]
  exact hu
def RetSumT (w0 w : World) (A : Option Addr) (n c : Nat) (v : Value) (L : List BRow) (b : List UInt8) (S : List (List UInt8)) (l : List UInt8) (e : Ending) (w' : World) : Prop :=
  ∃ B' L' e' A2 n2 c2, e = .returned (.tuple #[tv A n c B' L'.length e', .slice A2 n2 c2]) ∧ SumsO w0 w' (.slice B' L'.length e') L' ∧ L'.map (·.l) = S ∧ Turn1 w w' v (.slice B' L'.length e') ∧ FB w w' A2 n2 c2 l ∧ (∀ i, numL (L.map (·.l)) b = some i → v = .slice B' L'.length e' ∧ L' = L)
set_option maxRecDepth 100000 in
set_option maxHeartbeats 2000000 in
theorem tSum_any (w0 : World) (A B D : Option Addr) (n c e0 q0 f : Nat) (L : List BRow) (b : List UInt8) (w : World) (hs : SumsO w0 w (.slice B L.length e0) L) (hm : L.length ≤ 900) (hb : Bs w D q0 f b) (hq : q0 ≤ 20000) (HBK : ∀ w' v', Turn1 w w' (.slice B L.length e0) v' → Below w0.heap.size w0 w' → Bs w' D q0 f b) :
    Calls Tryz.prog 69 #[tv A n c B L.length e0, .slice D q0 f] w (RetSumT w0 w A n c (.slice B L.length e0) L b (sumS (L.map (·.l)) b) (markL (sumI (L.map (·.l)) b))) := by
  have hl : b.length = q0 := hb.len
  have hcp := hb.cap; have hmx := hb.max
  have hcB := hs.bss.1.1.cap; have hmB := hs.bss.1.1.max
  obtain ⟨W, hW⟩ : ∃ W, W = tw2 w A n c B L.length e0 := ⟨_, rfl⟩
  have XM0 := tw2_m w A n c B L.length e0
  rw [← hW] at XM0
  have SM0 : Hid (SM w0 w w.heap.size (w.heap.size + 1) (.slice B L.length e0) (.slice B L.length e0) L (ts A n c B L.length e0) xz W) := ⟨XM0.a, XM0.b, hs.mono XM0.gr, Turn1.gr XM0.gr _, Nat.le_refl _, Nat.le_succ _, by omega, hs.1.below.size⟩
  have GW := Lib.hid XM0.gr
  have HB := Lib.hid hb
  unfold tw2 at hW
  have HW := Lib.hid hW
  have HK := Lib.hid HBK
  clear hs hW XM0 hb HBK
  obtain ⟨ip, hip⟩ : ∃ ip, ip = sumI (L.map (·.l)) b := ⟨_, rfl⟩
  have hipl : ip ≤ 900 := by
    rw [hip]
    unfold sumI
    split
    · next i hi => have := numL_lt hi; rw [List.length_map] at this; omega
    · rw [List.length_map]; exact hm
  have HPT := Lib.hid (fun W => refPut_yes ip 6 W (by omega) (by decide) (by decide))
  have hwr : IntKind.u64.wrap (ip : Int) = ip := IntWalk.u64_in _ (by omega)
  have HNB0 := Lib.hid (fun W (q : Bss W B L.length e0 L) (q2 : Bs W D q0 f b) => number_any A B D n c L.length e0 q0 f L b W q q2 (by omega))
  have HIP := Lib.hid hip
  rw [← hip]
  unfold sumI at hip
  unfold sumS
  unfold tv
  show Calls _ _ #[.agg #[.bool false, .slice none 0 0, .int .i64 0, .slice A n c, .slice B L.length e0], _] _ _
  cases hnl : numL (L.map (·.l)) b with
  | some i =>
    rw [hnl] at hip HNB0
    simp only at hip
    obtain rfl : ip = i := hip
    have t1 : decide ((ip : Int) < 0) = false := decide_eq_false (by omega)
    simp only [numI] at HNB0
    have HSL : Hid (L.map (·.l) = L.map (·.l)) := rfl
    have HEQ : Hid (∀ i, numL (L.map (·.l)) b = some i → (Value.slice B L.length e0) = .slice B L.length e0 ∧ L = L) := fun _ _ => ⟨rfl, rfl⟩
    clear hnl
    go_enter Tryz.func69, Tryz.ntmps69
    go_upto_region 1 with fail
    rw [← HW.out]
    obtain ⟨h, hh⟩ : ∃ h, h = w.heap.size := ⟨_, rfl⟩
    rw [← hh] at SM0 ⊢
    have HH := Lib.hid hh
    clear hh HW
    have c0 : W.cell? ⟨h, 0, none⟩ = some (.bool false) := SM0.out.x.cell 0
    have HNB := Lib.hid (fun W (q : SM w0 w h (h + 1) (.slice B L.length e0) (.slice B L.length e0) L (ts A n c B L.length e0) xz W) => HNB0.out W q.r.bss.1 (HK.out W _ q.t q.r.1.below))
    go_upto_region 5 with (first
      | (refine wpList_load_row rfl 33 (.tmp 2) rfl h rfl 33 (ts A n c B L.length e0).toArray (0, 0) _ SM0.out.x Tryz.underlying33 rfl (size5 _ rfl) ?_)
      | (go_at_call 109; refine (HNB.out W SM0.out).mono ?_; rintro e w1 ⟨rfl, g1⟩; have SM0' := Lib.hid (SM0.out.mono g1); clear g1))
    refine wp_region_pre (by kernel_rfl) (fun w' => Xk w' h (ts A n c B (L).length e0)) (fun i => i == 0 || i == 2) (fun _ => false) [3, 0, 2] 7 (by kernel_rfl) (by kernel_rfl) (by kernel_rfl) ((Gr.drew _).blk (SM0').out.x) ?_
    refine wpPre_e rfl rfl ?_
    apply Exists.intro
    refine ⟨fun wq hq => ?_, ?_⟩
    · clear hq
      unfold plainAt
      go_simp
      first | exact rfl | exact ⟨rfl, rfl⟩
    go_simp
    refine wpPre_e rfl rfl ⟨.agg (ts A n c B (L).length e0).toArray, fun wq hq => plainRow 33 (.tmp 2) rfl h 0 rfl _ _ (Xk.whole (hq rfl)) Tryz.underlying33 rfl (size5c _ rfl), ?_⟩
    go_simp
    refine wpPre_e rfl rfl ⟨.agg (ts A n c B (L).length e0).toArray, fun wq hq => plainRow 33 (.tmp 2) rfl h 0 rfl _ _ (Xk.whole (hq rfl)) Tryz.underlying33 rfl (size5c _ rfl), ?_⟩
    go_simp
    refine wpPre_nil ?_
    have SMc := Lib.hid ((SM0').out.mono (Gr.drew _))
    obtain ⟨x0, hx0⟩ : ∃ x0, x0 = World.drew w1 := ⟨_, rfl⟩
    rw [← hx0] at SMc ⊢
    clear hx0
    refine wpRest_two (i := 1) (j := 4) (by kernel_rfl) rfl rfl rfl rfl ?_ ?_
    · skip
      intro K hK
      go_simp
      replace SMc := Lib.hid (SMc.out.mono (Gr.alloc x0 (.cells #[.int .u8 255, .int .u8 253] 5)))
      try replace MKc := Lib.hid (Sl.mono MKc.out (Gr.alloc x0 (.cells #[.int .u8 255, .int .u8 253] 5)))
      try replace S3c := Lib.hid (Sl.mono S3c.out (Gr.alloc x0 (.cells #[.int .u8 255, .int .u8 253] 5)))
      have MKc := Lib.hid (mk_sl x0)
      refine hK _ _ (fun _ => SMc.out.x) ?_
      obtain ⟨mk, hmk⟩ : ∃ mk, mk = (x0).heap.size := ⟨_, rfl⟩
      obtain ⟨x1, hY⟩ : ∃ Y, Y = (x0).alloc (.cells #[.int .u8 255, .int .u8 253] 5) := ⟨_, rfl⟩
      rw [← hY] at SMc MKc ⊢
      rw [← hmk] at MKc ⊢
      try rw [← hY] at S3c
      clear hK hmk hY
      go_simp
      refine wpRest_one (i := 4) (by kernel_rfl) rfl rfl ?_
      intro K hK
      go_simp
      go_at_call 109
      refine (HNB.out x1 SMc.out).mono ?_
      rintro e x2 ⟨rfl, g⟩
      replace SMc := Lib.hid (SMc.out.mono (g))
      try replace MKc := Lib.hid (Sl.mono MKc.out (g))
      try replace S3c := Lib.hid (Sl.mono S3c.out (g))
      refine hK _ _ (fun _ => SMc.out.x) ?_
      clear hK g
      go_simp
      refine wpRest_one (i := 5) (by kernel_rfl) rfl rfl ?_
      intro K hK
      go_simp
      refine hK _ _ (fun _ => SMc.out.x) ?_
      clear hK
      go_simp
      refine wpRest_one (i := 6) (by kernel_rfl) rfl rfl ?_
      intro K hK
      go_simp
      go_at_call 41
      refine (HPT.out x2).mono ?_
      rintro e x3 ⟨v3, rfl, o3⟩
      rw [be_length] at o3
      obtain ⟨A3, c3, rfl, s3⟩ := o3.slice
      replace SMc := Lib.hid (SMc.out.mono (o3.below))
      try replace MKc := Lib.hid (Sl.mono MKc.out (o3.below))
      try replace S3c := Lib.hid (Sl.mono S3c.out (o3.below))
      have S3c : Hid (Bs x3 A3 6 c3 (be ip 6)) := s3
      refine hK _ _ (fun _ => SMc.out.x) ?_
      clear hK o3 s3
      go_simp
      refine wpRest_one (i := 7) (by kernel_rfl) rfl rfl ?_
      intro K hK
      go_simp
      go_at_call 40
      refine (join_any _ A3 2 6 2 c3 [255, 253] (be ip 6) x3 MKc.out S3c.out (by decide)).mono ?_
      rintro e x5 ⟨v4, rfl, o4⟩
      have L4 : Hid (([255, 253] ++ be ip 6).length = (markL ip).length) := rfl
      obtain ⟨A4, c4, rfl, s4⟩ := o4.slice
      have SM4 := Lib.hid (SMc.out.mono o4.below)
      have S4 : Hid (FB w x5 A4 (markL ip).length c4 (markL ip)) := (Own.fb o4).old SMc.out.t.size
      refine hK _ _ (fun _ => SM4.out.x) ?_
      clear hK o4 s4 SMc MKc S3c
      go_simp
      refine wpRest_one (i := 8) (by kernel_rfl) rfl rfl ?_
      intro K hK
      refine wp_store_row 33 (.tmp 4) (.tmp 23) rfl (h + 1) (ts A n c B (L).length e0).toArray rfl rfl 33 xz.toArray SM4.out.y (size5 _ rfl) rfl (oneT _ _ _ _ _ _) ?_
      have SM6 := Lib.hid (SM4.out.ret (ts A n c B (L).length e0))
      have S6 := Lib.hid (S4.out.row SM4.out.y (by decide) (ts A n c B (L).length e0).toArray)
      refine hK _ _ (fun _ => SM6.out.x) ?_
      obtain ⟨W8, hW8⟩ : ∃ W8, W8 = x5.setRow (h + 1) (ts A n c B (L).length e0).toArray := ⟨_, rfl⟩
      rw [← hW8] at SM6 S6 ⊢
      clear hW8 SM4 S4 hK
      go_simp
      refine wpRest_one (i := 9) (by kernel_rfl) rfl rfl ?_
      intro K hK
      go_simp
      refine hK _ _ (fun _ => SM6.out.x) ?_
      clear hK
      go_simp
      refine wpRest_nil (by kernel_rfl) ?_
      go_wp2_with fail
      exact bodyPost_ret (v := .tuple #[.agg (ts A n c B (L).length e0).toArray, .slice A4 (markL ip).length c4]) (results_5 Tryz.results69 _ _ (h + 1) (ts A n c B (L).length e0) rfl rfl SM6.out.y) rfl ⟨B, L, e0, A4, _, c4, rfl, SM6.out.r, (by first | exact HSL.out | rfl), SM6.out.t, S6.out, (by first | exact HEQ.out | exact fun _ _ => ⟨rfl, rfl⟩)⟩
    · skip
      intro K hK
      go_simp
      go_at_call 109
      refine (HNB.out x0 SMc.out).mono ?_
      rintro e x1 ⟨rfl, g⟩
      replace SMc := Lib.hid (SMc.out.mono (g))
      try replace MKc := Lib.hid (Sl.mono MKc.out (g))
      try replace S3c := Lib.hid (Sl.mono S3c.out (g))
      refine hK _ _ (fun _ => SMc.out.x) ?_
      clear hK g
      go_simp
      refine wpRest_two (i := 1) (j := 5) (by kernel_rfl) rfl rfl rfl rfl ?_ ?_
      · skip
        intro K hK
        go_simp
        replace SMc := Lib.hid (SMc.out.mono (Gr.alloc x1 (.cells #[.int .u8 255, .int .u8 253] 5)))
        try replace MKc := Lib.hid (Sl.mono MKc.out (Gr.alloc x1 (.cells #[.int .u8 255, .int .u8 253] 5)))
        try replace S3c := Lib.hid (Sl.mono S3c.out (Gr.alloc x1 (.cells #[.int .u8 255, .int .u8 253] 5)))
        have MKc := Lib.hid (mk_sl x1)
        refine hK _ _ (fun _ => SMc.out.x) ?_
        obtain ⟨mk, hmk⟩ : ∃ mk, mk = (x1).heap.size := ⟨_, rfl⟩
        obtain ⟨x2, hY⟩ : ∃ Y, Y = (x1).alloc (.cells #[.int .u8 255, .int .u8 253] 5) := ⟨_, rfl⟩
        rw [← hY] at SMc MKc ⊢
        rw [← hmk] at MKc ⊢
        try rw [← hY] at S3c
        clear hK hmk hY
        go_simp
        refine wpRest_one (i := 5) (by kernel_rfl) rfl rfl ?_
        intro K hK
        go_simp
        refine hK _ _ (fun _ => SMc.out.x) ?_
        clear hK
        go_simp
        refine wpRest_one (i := 6) (by kernel_rfl) rfl rfl ?_
        intro K hK
        go_simp
        go_at_call 41
        refine (HPT.out x2).mono ?_
        rintro e x3 ⟨v3, rfl, o3⟩
        rw [be_length] at o3
        obtain ⟨A3, c3, rfl, s3⟩ := o3.slice
        replace SMc := Lib.hid (SMc.out.mono (o3.below))
        try replace MKc := Lib.hid (Sl.mono MKc.out (o3.below))
        try replace S3c := Lib.hid (Sl.mono S3c.out (o3.below))
        have S3c : Hid (Bs x3 A3 6 c3 (be ip 6)) := s3
        refine hK _ _ (fun _ => SMc.out.x) ?_
        clear hK o3 s3
        go_simp
        refine wpRest_one (i := 7) (by kernel_rfl) rfl rfl ?_
        intro K hK
        go_simp
        go_at_call 40
        refine (join_any _ A3 2 6 2 c3 [255, 253] (be ip 6) x3 MKc.out S3c.out (by decide)).mono ?_
        rintro e x5 ⟨v4, rfl, o4⟩
        have L4 : Hid (([255, 253] ++ be ip 6).length = (markL ip).length) := rfl
        obtain ⟨A4, c4, rfl, s4⟩ := o4.slice
        have SM4 := Lib.hid (SMc.out.mono o4.below)
        have S4 : Hid (FB w x5 A4 (markL ip).length c4 (markL ip)) := (Own.fb o4).old SMc.out.t.size
        refine hK _ _ (fun _ => SM4.out.x) ?_
        clear hK o4 s4 SMc MKc S3c
        go_simp
        refine wpRest_one (i := 8) (by kernel_rfl) rfl rfl ?_
        intro K hK
        refine wp_store_row 33 (.tmp 4) (.tmp 23) rfl (h + 1) (ts A n c B (L).length e0).toArray rfl rfl 33 xz.toArray SM4.out.y (size5 _ rfl) rfl (oneT _ _ _ _ _ _) ?_
        have SM6 := Lib.hid (SM4.out.ret (ts A n c B (L).length e0))
        have S6 := Lib.hid (S4.out.row SM4.out.y (by decide) (ts A n c B (L).length e0).toArray)
        refine hK _ _ (fun _ => SM6.out.x) ?_
        obtain ⟨W8, hW8⟩ : ∃ W8, W8 = x5.setRow (h + 1) (ts A n c B (L).length e0).toArray := ⟨_, rfl⟩
        rw [← hW8] at SM6 S6 ⊢
        clear hW8 SM4 S4 hK
        go_simp
        refine wpRest_one (i := 9) (by kernel_rfl) rfl rfl ?_
        intro K hK
        go_simp
        refine hK _ _ (fun _ => SM6.out.x) ?_
        clear hK
        go_simp
        refine wpRest_nil (by kernel_rfl) ?_
        go_wp2_with fail
        exact bodyPost_ret (v := .tuple #[.agg (ts A n c B (L).length e0).toArray, .slice A4 (markL ip).length c4]) (results_5 Tryz.results69 _ _ (h + 1) (ts A n c B (L).length e0) rfl rfl SM6.out.y) rfl ⟨B, L, e0, A4, _, c4, rfl, SM6.out.r, (by first | exact HSL.out | rfl), SM6.out.t, S6.out, (by first | exact HEQ.out | exact fun _ _ => ⟨rfl, rfl⟩)⟩
      · skip
        intro K hK
        go_simp
        refine hK _ _ (fun _ => SMc.out.x) ?_
        clear hK
        go_simp
        refine wpRest_two (i := 1) (j := 6) (by kernel_rfl) rfl rfl rfl rfl ?_ ?_
        · skip
          intro K hK
          go_simp
          replace SMc := Lib.hid (SMc.out.mono (Gr.alloc x1 (.cells #[.int .u8 255, .int .u8 253] 5)))
          try replace MKc := Lib.hid (Sl.mono MKc.out (Gr.alloc x1 (.cells #[.int .u8 255, .int .u8 253] 5)))
          try replace S3c := Lib.hid (Sl.mono S3c.out (Gr.alloc x1 (.cells #[.int .u8 255, .int .u8 253] 5)))
          have MKc := Lib.hid (mk_sl x1)
          refine hK _ _ (fun _ => SMc.out.x) ?_
          obtain ⟨mk, hmk⟩ : ∃ mk, mk = (x1).heap.size := ⟨_, rfl⟩
          obtain ⟨x2, hY⟩ : ∃ Y, Y = (x1).alloc (.cells #[.int .u8 255, .int .u8 253] 5) := ⟨_, rfl⟩
          rw [← hY] at SMc MKc ⊢
          rw [← hmk] at MKc ⊢
          try rw [← hY] at S3c
          clear hK hmk hY
          go_simp
          refine wpRest_one (i := 6) (by kernel_rfl) rfl rfl ?_
          intro K hK
          go_simp
          go_at_call 41
          refine (HPT.out x2).mono ?_
          rintro e x3 ⟨v3, rfl, o3⟩
          rw [be_length] at o3
          obtain ⟨A3, c3, rfl, s3⟩ := o3.slice
          replace SMc := Lib.hid (SMc.out.mono (o3.below))
          try replace MKc := Lib.hid (Sl.mono MKc.out (o3.below))
          try replace S3c := Lib.hid (Sl.mono S3c.out (o3.below))
          have S3c : Hid (Bs x3 A3 6 c3 (be ip 6)) := s3
          refine hK _ _ (fun _ => SMc.out.x) ?_
          clear hK o3 s3
          go_simp
          refine wpRest_one (i := 7) (by kernel_rfl) rfl rfl ?_
          intro K hK
          go_simp
          go_at_call 40
          refine (join_any _ A3 2 6 2 c3 [255, 253] (be ip 6) x3 MKc.out S3c.out (by decide)).mono ?_
          rintro e x5 ⟨v4, rfl, o4⟩
          have L4 : Hid (([255, 253] ++ be ip 6).length = (markL ip).length) := rfl
          obtain ⟨A4, c4, rfl, s4⟩ := o4.slice
          have SM4 := Lib.hid (SMc.out.mono o4.below)
          have S4 : Hid (FB w x5 A4 (markL ip).length c4 (markL ip)) := (Own.fb o4).old SMc.out.t.size
          refine hK _ _ (fun _ => SM4.out.x) ?_
          clear hK o4 s4 SMc MKc S3c
          go_simp
          refine wpRest_one (i := 8) (by kernel_rfl) rfl rfl ?_
          intro K hK
          refine wp_store_row 33 (.tmp 4) (.tmp 23) rfl (h + 1) (ts A n c B (L).length e0).toArray rfl rfl 33 xz.toArray SM4.out.y (size5 _ rfl) rfl (oneT _ _ _ _ _ _) ?_
          have SM6 := Lib.hid (SM4.out.ret (ts A n c B (L).length e0))
          have S6 := Lib.hid (S4.out.row SM4.out.y (by decide) (ts A n c B (L).length e0).toArray)
          refine hK _ _ (fun _ => SM6.out.x) ?_
          obtain ⟨W8, hW8⟩ : ∃ W8, W8 = x5.setRow (h + 1) (ts A n c B (L).length e0).toArray := ⟨_, rfl⟩
          rw [← hW8] at SM6 S6 ⊢
          clear hW8 SM4 S4 hK
          go_simp
          refine wpRest_one (i := 9) (by kernel_rfl) rfl rfl ?_
          intro K hK
          go_simp
          refine hK _ _ (fun _ => SM6.out.x) ?_
          clear hK
          go_simp
          refine wpRest_nil (by kernel_rfl) ?_
          go_wp2_with fail
          exact bodyPost_ret (v := .tuple #[.agg (ts A n c B (L).length e0).toArray, .slice A4 (markL ip).length c4]) (results_5 Tryz.results69 _ _ (h + 1) (ts A n c B (L).length e0) rfl rfl SM6.out.y) rfl ⟨B, L, e0, A4, _, c4, rfl, SM6.out.r, (by first | exact HSL.out | rfl), SM6.out.t, S6.out, (by first | exact HEQ.out | exact fun _ _ => ⟨rfl, rfl⟩)⟩
        · skip
          intro K hK
          go_simp
          go_at_call 41
          refine (HPT.out x1).mono ?_
          rintro e x2 ⟨v3, rfl, o3⟩
          rw [be_length] at o3
          obtain ⟨A3, c3, rfl, s3⟩ := o3.slice
          replace SMc := Lib.hid (SMc.out.mono (o3.below))
          try replace MKc := Lib.hid (Sl.mono MKc.out (o3.below))
          try replace S3c := Lib.hid (Sl.mono S3c.out (o3.below))
          have S3c : Hid (Bs x2 A3 6 c3 (be ip 6)) := s3
          refine hK _ _ (fun _ => SMc.out.x) ?_
          clear hK o3 s3
          go_simp
          refine wpRest_one (i := 1) (by kernel_rfl) rfl rfl ?_
          intro K hK
          go_simp
          replace SMc := Lib.hid (SMc.out.mono (Gr.alloc x2 (.cells #[.int .u8 255, .int .u8 253] 5)))
          try replace MKc := Lib.hid (Sl.mono MKc.out (Gr.alloc x2 (.cells #[.int .u8 255, .int .u8 253] 5)))
          try replace S3c := Lib.hid (Sl.mono S3c.out (Gr.alloc x2 (.cells #[.int .u8 255, .int .u8 253] 5)))
          have MKc := Lib.hid (mk_sl x2)
          refine hK _ _ (fun _ => SMc.out.x) ?_
          obtain ⟨mk, hmk⟩ : ∃ mk, mk = (x2).heap.size := ⟨_, rfl⟩
          obtain ⟨x3, hY⟩ : ∃ Y, Y = (x2).alloc (.cells #[.int .u8 255, .int .u8 253] 5) := ⟨_, rfl⟩
          rw [← hY] at SMc MKc ⊢
          rw [← hmk] at MKc ⊢
          try rw [← hY] at S3c
          clear hK hmk hY
          go_simp
          refine wpRest_one (i := 7) (by kernel_rfl) rfl rfl ?_
          intro K hK
          go_simp
          go_at_call 40
          refine (join_any _ A3 2 6 2 c3 [255, 253] (be ip 6) x3 MKc.out S3c.out (by decide)).mono ?_
          rintro e x5 ⟨v4, rfl, o4⟩
          have L4 : Hid (([255, 253] ++ be ip 6).length = (markL ip).length) := rfl
          obtain ⟨A4, c4, rfl, s4⟩ := o4.slice
          have SM4 := Lib.hid (SMc.out.mono o4.below)
          have S4 : Hid (FB w x5 A4 (markL ip).length c4 (markL ip)) := (Own.fb o4).old SMc.out.t.size
          refine hK _ _ (fun _ => SM4.out.x) ?_
          clear hK o4 s4 SMc MKc S3c
          go_simp
          refine wpRest_one (i := 8) (by kernel_rfl) rfl rfl ?_
          intro K hK
          refine wp_store_row 33 (.tmp 4) (.tmp 23) rfl (h + 1) (ts A n c B (L).length e0).toArray rfl rfl 33 xz.toArray SM4.out.y (size5 _ rfl) rfl (oneT _ _ _ _ _ _) ?_
          have SM6 := Lib.hid (SM4.out.ret (ts A n c B (L).length e0))
          have S6 := Lib.hid (S4.out.row SM4.out.y (by decide) (ts A n c B (L).length e0).toArray)
          refine hK _ _ (fun _ => SM6.out.x) ?_
          obtain ⟨W8, hW8⟩ : ∃ W8, W8 = x5.setRow (h + 1) (ts A n c B (L).length e0).toArray := ⟨_, rfl⟩
          rw [← hW8] at SM6 S6 ⊢
          clear hW8 SM4 S4 hK
          go_simp
          refine wpRest_one (i := 9) (by kernel_rfl) rfl rfl ?_
          intro K hK
          go_simp
          refine hK _ _ (fun _ => SM6.out.x) ?_
          clear hK
          go_simp
          refine wpRest_nil (by kernel_rfl) ?_
          go_wp2_with fail
          exact bodyPost_ret (v := .tuple #[.agg (ts A n c B (L).length e0).toArray, .slice A4 (markL ip).length c4]) (results_5 Tryz.results69 _ _ (h + 1) (ts A n c B (L).length e0) rfl rfl SM6.out.y) rfl ⟨B, L, e0, A4, _, c4, rfl, SM6.out.r, (by first | exact HSL.out | rfl), SM6.out.t, S6.out, (by first | exact HEQ.out | exact fun _ _ => ⟨rfl, rfl⟩)⟩
  | none =>
    rw [hnl] at hip HNB0
    simp only at hip
    have hip2 : ip = L.length := by rw [hip, List.length_map]
    have HPU := Lib.hid (numL_push hnl)
    have HNN : Hid (∀ i, numL (L.map (·.l)) b ≠ some i) := fun i q => by rw [hnl] at q; cases q
    have t1 : decide ((-1 : Int) < 0) = true := by decide
    simp only [numI] at HNB0
    have HI2 := Lib.hid hip2
    clear hnl hip hip2
    go_enter Tryz.func69, Tryz.ntmps69
    go_upto_region 1 with fail
    rw [← HW.out]
    obtain ⟨h, hh⟩ : ∃ h, h = w.heap.size := ⟨_, rfl⟩
    rw [← hh] at SM0 ⊢
    have HH := Lib.hid hh
    clear hh HW
    have c0 : W.cell? ⟨h, 0, none⟩ = some (.bool false) := SM0.out.x.cell 0
    go_upto_region 4 with (first
      | (refine wpList_load_row rfl 33 (.tmp 2) rfl h rfl 33 (ts A n c B L.length e0).toArray (0, 0) _ SM0.out.x Tryz.underlying33 rfl (size5 _ rfl) ?_)
      | (go_at_call 109; refine (HNB0.out W SM0.out.r.bss.1 (HK.out W _ SM0.out.t SM0.out.r.1.below)).mono ?_; rintro e w1 ⟨rfl, g1⟩; have SM1 := Lib.hid (SM0.out.mono g1); clear g1))
    refine wp_region_pre (by kernel_rfl) (fun w' => w'.cell? ⟨h, 4, none⟩ = some (.slice B L.length e0)) (fun i => i == 1) (fun i => i == 8) [0, 3, 1] 6 (by kernel_rfl) (by kernel_rfl) (by kernel_rfl) (SM1.out.x.cell 4) ?_
    refine wpPre_e rfl rfl ?_
    apply Exists.intro
    refine ⟨fun wq hq => ?_, ?_⟩
    · clear hq
      unfold plainAt
      go_simp
      first | exact rfl | exact ⟨rfl, rfl⟩
    go_simp
    refine wpPre_e rfl rfl ?_
    apply Exists.intro
    refine ⟨fun wq hq => ?_, ?_⟩
    · clear hq
      unfold plainAt
      go_simp
      first | exact rfl | exact ⟨rfl, rfl⟩
    go_simp
    refine wpPre_e rfl rfl ?_
    apply Exists.intro
    refine ⟨fun wq hq => ?_, ?_⟩
    · replace hq := hq rfl
      have z1 := hq
      unfold plainAt
      go_simp
      first | exact rfl | exact ⟨rfl, rfl⟩
    go_simp
    refine wpPre_nil ?_
    obtain ⟨w2, hw2⟩ : ∃ w2, w2 = w1.drew := ⟨_, rfl⟩
    have SM2 : Hid (SM w0 w h (h + 1) (.slice B L.length e0) (.slice B L.length e0) L (ts A n c B L.length e0) xz w2) := by rw [hw2]; exact SM1.out.mono (Gr.drew _)
    rw [← hw2]
    clear hw2 c0 SM1 SM0
    refine wpRest_one (i := 2) (by kernel_rfl) rfl rfl ?_
    intro K hK
    go_simp
    have GE : Hid (Gr w2 (w2.alloc (.cells #[] 5))) := Gr.alloc _ _
    have OE : Hid (Own w2 (w2.alloc (.cells #[] 5)) 5 1 (.slice (some ⟨w2.heap.size, 0, none⟩) 0 0) 0 []) := Blk.closed (rest := []) (heap_alloc_new w2 _) GE.out (Nat.le_refl _) (Nat.le_refl _) (by decide) rfl rfl
    have SM3 := Lib.hid (SM2.out.mono GE.out)
    refine hK _ _ (fun _ => SM3.out.x.cell 4) ?_
    obtain ⟨g17, hg17⟩ : ∃ g17, g17 = w2.heap.size := ⟨_, rfl⟩
    obtain ⟨w3, hw3⟩ : ∃ w3, w3 = w2.alloc (.cells #[] 5) := ⟨_, rfl⟩
    rw [← hw3] at SM3 OE GE ⊢
    rw [← hg17] at OE ⊢
    clear hK hw3 hg17
    go_simp
    refine wpRest_one (i := 4) (by kernel_rfl) rfl rfl ?_
    intro K hK
    refine wp_cat (.tmp 17) (.tmp 18) 28 rfl tBytes rfl OE.out rfl (HK.out w3 _ SM3.out.t SM3.out.r.1.below) (by intro u hu; obtain ⟨x, _, rfl⟩ := List.mem_map.1 hu; rfl) (by omega) ?_
    intro v4 w4 own4
    simp only [Nat.zero_add, List.nil_append] at own4
    obtain ⟨A4, c4, rfl, s4⟩ := own4.slice
    have SM4 := Lib.hid (SM2.out.mono own4.below)
    have F4 : Hid (FB w w4 A4 q0 c4 b) := (Own.fb own4).old SM2.out.t.size
    refine hK _ _ (fun _ => SM4.out.x.cell 4) ?_
    clear hK own4 s4 OE GE SM3 SM2
    go_simp
    refine wpRest_one (i := 5) (by kernel_rfl) rfl rfl ?_
    intro K hK
    go_simp
    have SM5 := Lib.hid (SM4.out.mono (Gr.alloc w4 (.cells #[.slice A4 q0 c4] 28)))
    have F5 := Lib.hid (F4.out.mono (Gr.alloc w4 (.cells #[.slice A4 q0 c4] 28)))
    have c20 : Hid ((w4.alloc (.cells #[.slice A4 q0 c4] 28)).cell? ⟨w4.heap.size, 0, none⟩ = some (.slice A4 q0 c4)) := (Blk.new w4 _ _).cell 0
    refine hK _ _ (fun _ => SM5.out.x.cell 4) ?_
    obtain ⟨g20, hg20⟩ : ∃ g20, g20 = w4.heap.size := ⟨_, rfl⟩
    obtain ⟨w5, hw5⟩ : ∃ w5, w5 = w4.alloc (.cells #[.slice A4 q0 c4] 28) := ⟨_, rfl⟩
    rw [← hw5] at SM5 F5 c20 ⊢
    rw [← hg20] at c20 ⊢
    clear hK hw5 hg20 SM4 F4
    go_simp
    refine wpRest_one (i := 6) (by kernel_rfl) rfl rfl ?_
    intro K hK
    refine wp_pushG (.tmp 16) (.tmp 20) 31 rfl tRows rfl SM5.out.r.1 g20 1 [.slice A4 q0 c4] rfl rfl (by intro u hu; simp at hu; subst hu; rfl) (one_cells c20.out) (by omega) ?_
    intro v6 w6 own6 kept6
    have PU := SumsO.push SM5.out.r (r := ⟨A4, q0, c4, b⟩) own6 kept6 (F5.out.old SM5.out.lo)
    obtain ⟨L', hL'⟩ : ∃ L', L' = L ++ [⟨A4, q0, c4, b⟩] := ⟨_, rfl⟩
    rw [← hL'] at PU
    obtain ⟨B6, e6, rfl, _⟩ := PU.at
    have SM6 := Lib.hid (SM5.out.put PU (Turn1.of kept6))
    have HSL : Hid (L'.map (·.l) = L.map (·.l) ++ [b]) := by show _ = _; rw [hL', List.map_append]; rfl
    have HL9 : Hid (L'.length ≤ 901) := by show _ ≤ _; rw [hL', List.length_append]; show L.length + 1 ≤ _; omega
    refine hK _ _ (fun _ => SM6.out.x.cell 4) ?_
    clear hK own6 kept6 PU hL' SM5 F5 c20
    go_simp
    refine wpRest_one (i := 7) (by kernel_rfl) rfl rfl ?_
    intro K hK
    go_simp
    refine hK _ _ (fun _ => SM6.out.x.cell 4) ?_
    clear hK
    go_simp
    have c4' : w6.cell? ⟨h, 4, none⟩ = some (.slice B L.length e0) := SM6.out.x.cell 4
    have ff := Blk.free SM6.out.x 4
    refine wpRest_one (i := 8) (by kernel_rfl) rfl rfl ?_
    intro K hK
    go_simp
    refine hK _ _ (fun q => by cases q) ?_
    have SM7 : Hid (SM w0 w h (h + 1) (.slice B L.length e0) (.slice B6 L'.length e6) L' (ts A n c B6 L'.length e6) xz (w6.setCell ⟨h, 4, none⟩ (.slice B6 L'.length e6))) := SM6.out.set 4 (.slice B6 L'.length e6)
    obtain ⟨w7, hw7⟩ : ∃ w7, w7 = w6.setCell ⟨h, 4, none⟩ (.slice B6 L'.length e6) := ⟨_, rfl⟩
    rw [← hw7] at SM7 ⊢
    clear hK hw7 c4' ff SM6
    go_simp
    refine wpRest_nil (by kernel_rfl) ?_
    have hnum : numL (L'.map (·.l)) b = some ip := by rw [HSL.out, HPU.out, HI2.out, List.length_map]
    have HNB := Lib.hid (fun W (q : SM w0 w h (h + 1) (.slice B L.length e0) (.slice B6 L'.length e6) L' (ts A n c B6 L'.length e6) xz W) => number_any A B6 D n c L'.length e6 q0 f L' b W q.r.bss.1 (HK.out W _ q.t q.r.1.below) (by have := HL9.out; omega))
    rw [hnum] at HNB
    simp only [numI] at HNB
    have HEQ : Hid (∀ i, numL (L.map (·.l)) b = some i → (Value.slice B L.length e0) = .slice B6 L'.length e6 ∧ L' = L) := fun i q => absurd q (HNN.out i)
    clear hnum HNB0
    go_upto_region 5 with fail
    refine wp_region_pre (by kernel_rfl) (fun w' => Xk w' h (ts A n c B6 (L').length e6)) (fun i => i == 0 || i == 2) (fun _ => false) [3, 0, 2] 7 (by kernel_rfl) (by kernel_rfl) (by kernel_rfl) ((Gr.drew _).blk (SM7).out.x) ?_
    refine wpPre_e rfl rfl ?_
    apply Exists.intro
    refine ⟨fun wq hq => ?_, ?_⟩
    · clear hq
      unfold plainAt
      go_simp
      first | exact rfl | exact ⟨rfl, rfl⟩
    go_simp
    refine wpPre_e rfl rfl ⟨.agg (ts A n c B6 (L').length e6).toArray, fun wq hq => plainRow 33 (.tmp 2) rfl h 0 rfl _ _ (Xk.whole (hq rfl)) Tryz.underlying33 rfl (size5c _ rfl), ?_⟩
    go_simp
    refine wpPre_e rfl rfl ⟨.agg (ts A n c B6 (L').length e6).toArray, fun wq hq => plainRow 33 (.tmp 2) rfl h 0 rfl _ _ (Xk.whole (hq rfl)) Tryz.underlying33 rfl (size5c _ rfl), ?_⟩
    go_simp
    refine wpPre_nil ?_
    have SMc := Lib.hid ((SM7).out.mono (Gr.drew _))
    obtain ⟨x0, hx0⟩ : ∃ x0, x0 = World.drew w7 := ⟨_, rfl⟩
    rw [← hx0] at SMc ⊢
    clear hx0
    refine wpRest_two (i := 1) (j := 4) (by kernel_rfl) rfl rfl rfl rfl ?_ ?_
    · skip
      intro K hK
      go_simp
      replace SMc := Lib.hid (SMc.out.mono (Gr.alloc x0 (.cells #[.int .u8 255, .int .u8 253] 5)))
      try replace MKc := Lib.hid (Sl.mono MKc.out (Gr.alloc x0 (.cells #[.int .u8 255, .int .u8 253] 5)))
      try replace S3c := Lib.hid (Sl.mono S3c.out (Gr.alloc x0 (.cells #[.int .u8 255, .int .u8 253] 5)))
      have MKc := Lib.hid (mk_sl x0)
      refine hK _ _ (fun _ => SMc.out.x) ?_
      obtain ⟨mk, hmk⟩ : ∃ mk, mk = (x0).heap.size := ⟨_, rfl⟩
      obtain ⟨x1, hY⟩ : ∃ Y, Y = (x0).alloc (.cells #[.int .u8 255, .int .u8 253] 5) := ⟨_, rfl⟩
      rw [← hY] at SMc MKc ⊢
      rw [← hmk] at MKc ⊢
      try rw [← hY] at S3c
      clear hK hmk hY
      go_simp
      refine wpRest_one (i := 4) (by kernel_rfl) rfl rfl ?_
      intro K hK
      go_simp
      go_at_call 109
      refine (HNB.out x1 SMc.out).mono ?_
      rintro e x2 ⟨rfl, g⟩
      replace SMc := Lib.hid (SMc.out.mono (g))
      try replace MKc := Lib.hid (Sl.mono MKc.out (g))
      try replace S3c := Lib.hid (Sl.mono S3c.out (g))
      refine hK _ _ (fun _ => SMc.out.x) ?_
      clear hK g
      go_simp
      refine wpRest_one (i := 5) (by kernel_rfl) rfl rfl ?_
      intro K hK
      go_simp
      refine hK _ _ (fun _ => SMc.out.x) ?_
      clear hK
      go_simp
      refine wpRest_one (i := 6) (by kernel_rfl) rfl rfl ?_
      intro K hK
      go_simp
      go_at_call 41
      refine (HPT.out x2).mono ?_
      rintro e x3 ⟨v3, rfl, o3⟩
      rw [be_length] at o3
      obtain ⟨A3, c3, rfl, s3⟩ := o3.slice
      replace SMc := Lib.hid (SMc.out.mono (o3.below))
      try replace MKc := Lib.hid (Sl.mono MKc.out (o3.below))
      try replace S3c := Lib.hid (Sl.mono S3c.out (o3.below))
      have S3c : Hid (Bs x3 A3 6 c3 (be ip 6)) := s3
      refine hK _ _ (fun _ => SMc.out.x) ?_
      clear hK o3 s3
      go_simp
      refine wpRest_one (i := 7) (by kernel_rfl) rfl rfl ?_
      intro K hK
      go_simp
      go_at_call 40
      refine (join_any _ A3 2 6 2 c3 [255, 253] (be ip 6) x3 MKc.out S3c.out (by decide)).mono ?_
      rintro e x5 ⟨v4, rfl, o4⟩
      have L4 : Hid (([255, 253] ++ be ip 6).length = (markL ip).length) := rfl
      obtain ⟨A4, c4, rfl, s4⟩ := o4.slice
      have SM4 := Lib.hid (SMc.out.mono o4.below)
      have S4 : Hid (FB w x5 A4 (markL ip).length c4 (markL ip)) := (Own.fb o4).old SMc.out.t.size
      refine hK _ _ (fun _ => SM4.out.x) ?_
      clear hK o4 s4 SMc MKc S3c
      go_simp
      refine wpRest_one (i := 8) (by kernel_rfl) rfl rfl ?_
      intro K hK
      refine wp_store_row 33 (.tmp 4) (.tmp 23) rfl (h + 1) (ts A n c B6 (L').length e6).toArray rfl rfl 33 xz.toArray SM4.out.y (size5 _ rfl) rfl (oneT _ _ _ _ _ _) ?_
      have SM6 := Lib.hid (SM4.out.ret (ts A n c B6 (L').length e6))
      have S6 := Lib.hid (S4.out.row SM4.out.y (by decide) (ts A n c B6 (L').length e6).toArray)
      refine hK _ _ (fun _ => SM6.out.x) ?_
      obtain ⟨W8, hW8⟩ : ∃ W8, W8 = x5.setRow (h + 1) (ts A n c B6 (L').length e6).toArray := ⟨_, rfl⟩
      rw [← hW8] at SM6 S6 ⊢
      clear hW8 SM4 S4 hK
      go_simp
      refine wpRest_one (i := 9) (by kernel_rfl) rfl rfl ?_
      intro K hK
      go_simp
      refine hK _ _ (fun _ => SM6.out.x) ?_
      clear hK
      go_simp
      refine wpRest_nil (by kernel_rfl) ?_
      go_wp2_with fail
      exact bodyPost_ret (v := .tuple #[.agg (ts A n c B6 (L').length e6).toArray, .slice A4 (markL ip).length c4]) (results_5 Tryz.results69 _ _ (h + 1) (ts A n c B6 (L').length e6) rfl rfl SM6.out.y) rfl ⟨B6, L', e6, A4, _, c4, rfl, SM6.out.r, (by first | exact HSL.out | rfl), SM6.out.t, S6.out, (by first | exact HEQ.out | exact fun _ _ => ⟨rfl, rfl⟩)⟩
    · skip
      intro K hK
      go_simp
      go_at_call 109
      refine (HNB.out x0 SMc.out).mono ?_
      rintro e x1 ⟨rfl, g⟩
      replace SMc := Lib.hid (SMc.out.mono (g))
      try replace MKc := Lib.hid (Sl.mono MKc.out (g))
      try replace S3c := Lib.hid (Sl.mono S3c.out (g))
      refine hK _ _ (fun _ => SMc.out.x) ?_
      clear hK g
      go_simp
      refine wpRest_two (i := 1) (j := 5) (by kernel_rfl) rfl rfl rfl rfl ?_ ?_
      · skip
        intro K hK
        go_simp
        replace SMc := Lib.hid (SMc.out.mono (Gr.alloc x1 (.cells #[.int .u8 255, .int .u8 253] 5)))
        try replace MKc := Lib.hid (Sl.mono MKc.out (Gr.alloc x1 (.cells #[.int .u8 255, .int .u8 253] 5)))
        try replace S3c := Lib.hid (Sl.mono S3c.out (Gr.alloc x1 (.cells #[.int .u8 255, .int .u8 253] 5)))
        have MKc := Lib.hid (mk_sl x1)
        refine hK _ _ (fun _ => SMc.out.x) ?_
        obtain ⟨mk, hmk⟩ : ∃ mk, mk = (x1).heap.size := ⟨_, rfl⟩
        obtain ⟨x2, hY⟩ : ∃ Y, Y = (x1).alloc (.cells #[.int .u8 255, .int .u8 253] 5) := ⟨_, rfl⟩
        rw [← hY] at SMc MKc ⊢
        rw [← hmk] at MKc ⊢
        try rw [← hY] at S3c
        clear hK hmk hY
        go_simp
        refine wpRest_one (i := 5) (by kernel_rfl) rfl rfl ?_
        intro K hK
        go_simp
        refine hK _ _ (fun _ => SMc.out.x) ?_
        clear hK
        go_simp
        refine wpRest_one (i := 6) (by kernel_rfl) rfl rfl ?_
        intro K hK
        go_simp
        go_at_call 41
        refine (HPT.out x2).mono ?_
        rintro e x3 ⟨v3, rfl, o3⟩
        rw [be_length] at o3
        obtain ⟨A3, c3, rfl, s3⟩ := o3.slice
        replace SMc := Lib.hid (SMc.out.mono (o3.below))
        try replace MKc := Lib.hid (Sl.mono MKc.out (o3.below))
        try replace S3c := Lib.hid (Sl.mono S3c.out (o3.below))
        have S3c : Hid (Bs x3 A3 6 c3 (be ip 6)) := s3
        refine hK _ _ (fun _ => SMc.out.x) ?_
        clear hK o3 s3
        go_simp
        refine wpRest_one (i := 7) (by kernel_rfl) rfl rfl ?_
        intro K hK
        go_simp
        go_at_call 40
        refine (join_any _ A3 2 6 2 c3 [255, 253] (be ip 6) x3 MKc.out S3c.out (by decide)).mono ?_
        rintro e x5 ⟨v4, rfl, o4⟩
        have L4 : Hid (([255, 253] ++ be ip 6).length = (markL ip).length) := rfl
        obtain ⟨A4, c4, rfl, s4⟩ := o4.slice
        have SM4 := Lib.hid (SMc.out.mono o4.below)
        have S4 : Hid (FB w x5 A4 (markL ip).length c4 (markL ip)) := (Own.fb o4).old SMc.out.t.size
        refine hK _ _ (fun _ => SM4.out.x) ?_
        clear hK o4 s4 SMc MKc S3c
        go_simp
        refine wpRest_one (i := 8) (by kernel_rfl) rfl rfl ?_
        intro K hK
        refine wp_store_row 33 (.tmp 4) (.tmp 23) rfl (h + 1) (ts A n c B6 (L').length e6).toArray rfl rfl 33 xz.toArray SM4.out.y (size5 _ rfl) rfl (oneT _ _ _ _ _ _) ?_
        have SM6 := Lib.hid (SM4.out.ret (ts A n c B6 (L').length e6))
        have S6 := Lib.hid (S4.out.row SM4.out.y (by decide) (ts A n c B6 (L').length e6).toArray)
        refine hK _ _ (fun _ => SM6.out.x) ?_
        obtain ⟨W8, hW8⟩ : ∃ W8, W8 = x5.setRow (h + 1) (ts A n c B6 (L').length e6).toArray := ⟨_, rfl⟩
        rw [← hW8] at SM6 S6 ⊢
        clear hW8 SM4 S4 hK
        go_simp
        refine wpRest_one (i := 9) (by kernel_rfl) rfl rfl ?_
        intro K hK
        go_simp
        refine hK _ _ (fun _ => SM6.out.x) ?_
        clear hK
        go_simp
        refine wpRest_nil (by kernel_rfl) ?_
        go_wp2_with fail
        exact bodyPost_ret (v := .tuple #[.agg (ts A n c B6 (L').length e6).toArray, .slice A4 (markL ip).length c4]) (results_5 Tryz.results69 _ _ (h + 1) (ts A n c B6 (L').length e6) rfl rfl SM6.out.y) rfl ⟨B6, L', e6, A4, _, c4, rfl, SM6.out.r, (by first | exact HSL.out | rfl), SM6.out.t, S6.out, (by first | exact HEQ.out | exact fun _ _ => ⟨rfl, rfl⟩)⟩
      · skip
        intro K hK
        go_simp
        refine hK _ _ (fun _ => SMc.out.x) ?_
        clear hK
        go_simp
        refine wpRest_two (i := 1) (j := 6) (by kernel_rfl) rfl rfl rfl rfl ?_ ?_
        · skip
          intro K hK
          go_simp
          replace SMc := Lib.hid (SMc.out.mono (Gr.alloc x1 (.cells #[.int .u8 255, .int .u8 253] 5)))
          try replace MKc := Lib.hid (Sl.mono MKc.out (Gr.alloc x1 (.cells #[.int .u8 255, .int .u8 253] 5)))
          try replace S3c := Lib.hid (Sl.mono S3c.out (Gr.alloc x1 (.cells #[.int .u8 255, .int .u8 253] 5)))
          have MKc := Lib.hid (mk_sl x1)
          refine hK _ _ (fun _ => SMc.out.x) ?_
          obtain ⟨mk, hmk⟩ : ∃ mk, mk = (x1).heap.size := ⟨_, rfl⟩
          obtain ⟨x2, hY⟩ : ∃ Y, Y = (x1).alloc (.cells #[.int .u8 255, .int .u8 253] 5) := ⟨_, rfl⟩
          rw [← hY] at SMc MKc ⊢
          rw [← hmk] at MKc ⊢
          try rw [← hY] at S3c
          clear hK hmk hY
          go_simp
          refine wpRest_one (i := 6) (by kernel_rfl) rfl rfl ?_
          intro K hK
          go_simp
          go_at_call 41
          refine (HPT.out x2).mono ?_
          rintro e x3 ⟨v3, rfl, o3⟩
          rw [be_length] at o3
          obtain ⟨A3, c3, rfl, s3⟩ := o3.slice
          replace SMc := Lib.hid (SMc.out.mono (o3.below))
          try replace MKc := Lib.hid (Sl.mono MKc.out (o3.below))
          try replace S3c := Lib.hid (Sl.mono S3c.out (o3.below))
          have S3c : Hid (Bs x3 A3 6 c3 (be ip 6)) := s3
          refine hK _ _ (fun _ => SMc.out.x) ?_
          clear hK o3 s3
          go_simp
          refine wpRest_one (i := 7) (by kernel_rfl) rfl rfl ?_
          intro K hK
          go_simp
          go_at_call 40
          refine (join_any _ A3 2 6 2 c3 [255, 253] (be ip 6) x3 MKc.out S3c.out (by decide)).mono ?_
          rintro e x5 ⟨v4, rfl, o4⟩
          have L4 : Hid (([255, 253] ++ be ip 6).length = (markL ip).length) := rfl
          obtain ⟨A4, c4, rfl, s4⟩ := o4.slice
          have SM4 := Lib.hid (SMc.out.mono o4.below)
          have S4 : Hid (FB w x5 A4 (markL ip).length c4 (markL ip)) := (Own.fb o4).old SMc.out.t.size
          refine hK _ _ (fun _ => SM4.out.x) ?_
          clear hK o4 s4 SMc MKc S3c
          go_simp
          refine wpRest_one (i := 8) (by kernel_rfl) rfl rfl ?_
          intro K hK
          refine wp_store_row 33 (.tmp 4) (.tmp 23) rfl (h + 1) (ts A n c B6 (L').length e6).toArray rfl rfl 33 xz.toArray SM4.out.y (size5 _ rfl) rfl (oneT _ _ _ _ _ _) ?_
          have SM6 := Lib.hid (SM4.out.ret (ts A n c B6 (L').length e6))
          have S6 := Lib.hid (S4.out.row SM4.out.y (by decide) (ts A n c B6 (L').length e6).toArray)
          refine hK _ _ (fun _ => SM6.out.x) ?_
          obtain ⟨W8, hW8⟩ : ∃ W8, W8 = x5.setRow (h + 1) (ts A n c B6 (L').length e6).toArray := ⟨_, rfl⟩
          rw [← hW8] at SM6 S6 ⊢
          clear hW8 SM4 S4 hK
          go_simp
          refine wpRest_one (i := 9) (by kernel_rfl) rfl rfl ?_
          intro K hK
          go_simp
          refine hK _ _ (fun _ => SM6.out.x) ?_
          clear hK
          go_simp
          refine wpRest_nil (by kernel_rfl) ?_
          go_wp2_with fail
          exact bodyPost_ret (v := .tuple #[.agg (ts A n c B6 (L').length e6).toArray, .slice A4 (markL ip).length c4]) (results_5 Tryz.results69 _ _ (h + 1) (ts A n c B6 (L').length e6) rfl rfl SM6.out.y) rfl ⟨B6, L', e6, A4, _, c4, rfl, SM6.out.r, (by first | exact HSL.out | rfl), SM6.out.t, S6.out, (by first | exact HEQ.out | exact fun _ _ => ⟨rfl, rfl⟩)⟩
        · skip
          intro K hK
          go_simp
          go_at_call 41
          refine (HPT.out x1).mono ?_
          rintro e x2 ⟨v3, rfl, o3⟩
          rw [be_length] at o3
          obtain ⟨A3, c3, rfl, s3⟩ := o3.slice
          replace SMc := Lib.hid (SMc.out.mono (o3.below))
          try replace MKc := Lib.hid (Sl.mono MKc.out (o3.below))
          try replace S3c := Lib.hid (Sl.mono S3c.out (o3.below))
          have S3c : Hid (Bs x2 A3 6 c3 (be ip 6)) := s3
          refine hK _ _ (fun _ => SMc.out.x) ?_
          clear hK o3 s3
          go_simp
          refine wpRest_one (i := 1) (by kernel_rfl) rfl rfl ?_
          intro K hK
          go_simp
          replace SMc := Lib.hid (SMc.out.mono (Gr.alloc x2 (.cells #[.int .u8 255, .int .u8 253] 5)))
          try replace MKc := Lib.hid (Sl.mono MKc.out (Gr.alloc x2 (.cells #[.int .u8 255, .int .u8 253] 5)))
          try replace S3c := Lib.hid (Sl.mono S3c.out (Gr.alloc x2 (.cells #[.int .u8 255, .int .u8 253] 5)))
          have MKc := Lib.hid (mk_sl x2)
          refine hK _ _ (fun _ => SMc.out.x) ?_
          obtain ⟨mk, hmk⟩ : ∃ mk, mk = (x2).heap.size := ⟨_, rfl⟩
          obtain ⟨x3, hY⟩ : ∃ Y, Y = (x2).alloc (.cells #[.int .u8 255, .int .u8 253] 5) := ⟨_, rfl⟩
          rw [← hY] at SMc MKc ⊢
          rw [← hmk] at MKc ⊢
          try rw [← hY] at S3c
          clear hK hmk hY
          go_simp
          refine wpRest_one (i := 7) (by kernel_rfl) rfl rfl ?_
          intro K hK
          go_simp
          go_at_call 40
          refine (join_any _ A3 2 6 2 c3 [255, 253] (be ip 6) x3 MKc.out S3c.out (by decide)).mono ?_
          rintro e x5 ⟨v4, rfl, o4⟩
          have L4 : Hid (([255, 253] ++ be ip 6).length = (markL ip).length) := rfl
          obtain ⟨A4, c4, rfl, s4⟩ := o4.slice
          have SM4 := Lib.hid (SMc.out.mono o4.below)
          have S4 : Hid (FB w x5 A4 (markL ip).length c4 (markL ip)) := (Own.fb o4).old SMc.out.t.size
          refine hK _ _ (fun _ => SM4.out.x) ?_
          clear hK o4 s4 SMc MKc S3c
          go_simp
          refine wpRest_one (i := 8) (by kernel_rfl) rfl rfl ?_
          intro K hK
          refine wp_store_row 33 (.tmp 4) (.tmp 23) rfl (h + 1) (ts A n c B6 (L').length e6).toArray rfl rfl 33 xz.toArray SM4.out.y (size5 _ rfl) rfl (oneT _ _ _ _ _ _) ?_
          have SM6 := Lib.hid (SM4.out.ret (ts A n c B6 (L').length e6))
          have S6 := Lib.hid (S4.out.row SM4.out.y (by decide) (ts A n c B6 (L').length e6).toArray)
          refine hK _ _ (fun _ => SM6.out.x) ?_
          obtain ⟨W8, hW8⟩ : ∃ W8, W8 = x5.setRow (h + 1) (ts A n c B6 (L').length e6).toArray := ⟨_, rfl⟩
          rw [← hW8] at SM6 S6 ⊢
          clear hW8 SM4 S4 hK
          go_simp
          refine wpRest_one (i := 9) (by kernel_rfl) rfl rfl ?_
          intro K hK
          go_simp
          refine hK _ _ (fun _ => SM6.out.x) ?_
          clear hK
          go_simp
          refine wpRest_nil (by kernel_rfl) ?_
          go_wp2_with fail
          exact bodyPost_ret (v := .tuple #[.agg (ts A n c B6 (L').length e6).toArray, .slice A4 (markL ip).length c4]) (results_5 Tryz.results69 _ _ (h + 1) (ts A n c B6 (L').length e6) rfl rfl SM6.out.y) rfl ⟨B6, L', e6, A4, _, c4, rfl, SM6.out.r, (by first | exact HSL.out | rfl), SM6.out.t, S6.out, (by first | exact HEQ.out | exact fun _ _ => ⟨rfl, rfl⟩)⟩
set_option maxRecDepth 100000 in
set_option maxHeartbeats 2000000 in
theorem tCheck_any (w0 : World) (A B D E : Option Addr) (n c e0 q0 f q1 f1 : Nat) (L : List BRow) (b s : List UInt8) (w : World) (hs : SumsO w0 w (.slice B L.length e0) L) (hm : L.length ≤ 900) (hb : Bs w D q0 f b) (hq : q0 ≤ 20000) (hc : Bs w E q1 f1 s)
    (HBK : ∀ w' v', Turn1 w w' (.slice B L.length e0) v' → Below w0.heap.size w0 w' → Bs w' D q0 f b) (HCK : ∀ w' v', Turn1 w w' (.slice B L.length e0) v' → Below w0.heap.size w0 w' → Bs w' E q1 f1 s) :
    Calls Tryz.prog 70 #[tv A n c B L.length e0, .slice D q0 f, .slice E q1 f1] w fun e w' => e = .returned (.bool (checkS (L.map (·.l)) b s)) ∧ SumsO w0 w' (.slice B L.length e0) L ∧ Turn1 w w' (.slice B L.length e0) (.slice B L.length e0) := by
  have hl : b.length = q0 := hb.len
  have hcp := hb.cap; have hmx := hb.max
  have hcB := hs.bss.1.1.cap; have hmB := hs.bss.1.1.max
  obtain ⟨W, hW⟩ : ∃ W, W = tw1 w A n c B L.length e0 := ⟨_, rfl⟩
  have HX := Lib.hid (tw1_a w A n c B L.length e0); have HG := Lib.hid (tw1_g w A n c B L.length e0)
  rw [← hW] at HX HG
  unfold tw1 at hW
  have HW := Lib.hid hW
  have HS0 := Lib.hid (hs.mono HG.out)
  have HLO := Lib.hid hs.1.below.size
  have HK := Lib.hid HBK; have HC := Lib.hid HCK
  have HNB := Lib.hid (number_any A B D n c L.length e0 q0 f L b W HS0.out.bss.1 (hb.mono HG.out) (by omega))
  have HSU := Lib.hid (fun W' (q : SumsO w0 W' (.slice B L.length e0) L) (t : Turn1 w W' (.slice B L.length e0) (.slice B L.length e0)) => tSum_any w0 A B D n c e0 q0 f L b W' q hm (HK.out W' _ t q.1.below) hq (fun w' v' t' q' => HK.out w' v' (t.trans t') q'))
  clear hs hW hb hc HBK HCK
  unfold checkS
  unfold tv at HSU HNB ⊢
  unfold RetSumT sumS sumI at HSU
  show Calls _ _ #[.agg #[.bool false, .slice none 0 0, .int .i64 0, .slice A n c, .slice B L.length e0], _, _] _ _
  cases hnl : numL (L.map (·.l)) b with
  | none =>
    rw [hnl] at HNB
    have t1 : decide ((-1 : Int) < 0) = true := by decide
    simp only [numI] at HNB
    clear HSU hnl
    go_enter Tryz.func70, Tryz.ntmps70
    go_upto_region 1 with fail
    rw [← HW.out]
    obtain ⟨h, hh⟩ : ∃ h, h = w.heap.size := ⟨_, rfl⟩
    rw [← hh] at HX ⊢
    clear hh HW
    have c0 : W.cell? ⟨h, 0, none⟩ = some (.bool false) := HX.out.cell 0
    go_wp2_with (first
      | (refine wpList_load_row rfl 33 (.tmp 3) rfl h rfl 33 (ts A n c B L.length e0).toArray (0, 0) _ HX.out Tryz.underlying33 rfl (size5 _ rfl) ?_)
      | (go_at_call 109; refine HNB.out.mono ?_; rintro e w1 ⟨rfl, g1⟩; have G1 := Lib.hid g1; clear g1))
    go_ret
    exact ⟨rfl, HS0.out.mono G1.out, Turn1.gr (HG.out.trans G1.out) _⟩
  | some ip =>
    rw [hnl] at HNB HSU
    have t1 : decide ((ip : Int) < 0) = false := decide_eq_false (by omega)
    simp only [numI] at HNB
    clear hnl
    show Calls _ _ _ _ fun e w' => e = .returned (.bool (markL ip == s)) ∧ SumsO w0 w' (.slice B L.length e0) L ∧ Turn1 w w' (.slice B L.length e0) (.slice B L.length e0)
    go_enter Tryz.func70, Tryz.ntmps70
    go_upto_region 1 with fail
    rw [← HW.out]
    obtain ⟨h, hh⟩ : ∃ h, h = w.heap.size := ⟨_, rfl⟩
    rw [← hh] at HX ⊢
    have HH := Lib.hid hh
    clear hh HW
    have c0 : W.cell? ⟨h, 0, none⟩ = some (.bool false) := HX.out.cell 0
    go_upto_region 5 with (first
      | (refine wpList_load_row rfl 33 (.tmp 3) rfl h rfl 33 (ts A n c B L.length e0).toArray (0, 0) _ HX.out Tryz.underlying33 rfl (size5 _ rfl) ?_)
      | (go_at_call 109; refine HNB.out.mono ?_; rintro e w1 ⟨rfl, g1⟩; have G1 := Lib.hid g1; clear g1))
    have HX1 : Hid (Xk w1 h (ts A n c B L.length e0)) := G1.out.blk HX.out
    have HSV := Lib.hid (HSU.out w1 (HS0.out.mono G1.out) (Turn1.gr (HG.out.trans G1.out) _))
    go_upto_region 6 with (first
      | (refine wpList_load_row rfl 33 (.tmp 3) rfl h rfl 33 (ts A n c B L.length e0).toArray (0, 0) _ HX1.out Tryz.underlying33 rfl (size5 _ rfl) ?_)
      | (go_at_call 69; refine HSV.out.mono ?_; rintro e w2 ⟨B', L', e', A2, n2, c2, rfl, s2, _, t2, f2, q2⟩; obtain ⟨hq1, rfl⟩ := q2 ip rfl; injection hq1 with q3 q4 q5; subst q3 q5; have S2 := Lib.hid s2; have T2 := Lib.hid t2; have F2 := Lib.hid f2; clear s2 t2 f2 q2 q4)
      | (refine wpList_store_row rfl 33 (.tmp 7) (.tmp 23) rfl w2.heap.size (ts A n c B L'.length e0).toArray rfl rfl 33 xz.toArray (heap_alloc_new w2 _) (size5 _ rfl) rfl (oneT _ _ _ _ _ _) ?_))
    have TA : Hid (Turn1 w w2 (.slice B L'.length e0) (.slice B L'.length e0)) := (Turn1.gr (HG.out.trans G1.out) _).trans T2.out
    have GA : Gr w2 (w2.alloc (.cells #[.bool false, .slice none 0 0, .int .i64 0, .slice none 0 0, .slice none 0 0] 33)) := Gr.alloc _ _
    have g3 : Gr w2 ((w2.alloc (.cells #[.bool false, .slice none 0 0, .int .i64 0, .slice none 0 0, .slice none 0 0] 33)).setRow w2.heap.size (ts A n c B L'.length e0).toArray) := byRow_below GA (Nat.le_refl _) _
    obtain ⟨w3, hw3⟩ : ∃ w3, w3 = (w2.alloc (.cells #[.bool false, .slice none 0 0, .int .i64 0, .slice none 0 0, .slice none 0 0] 33)).setRow w2.heap.size (ts A n c B L'.length e0).toArray := ⟨_, rfl⟩
    rw [← hw3] at g3 ⊢
    have T3 : Hid (Turn1 w w3 (.slice B L'.length e0) (.slice B L'.length e0)) := TA.out.trans (Turn1.gr g3 _)
    have S3 := Lib.hid (S2.out.mono g3)
    have F3 := Lib.hid (F2.out.mono g3)
    clear g3 GA hw3
    have HSM := Lib.hid (refSame_any A2 E n2 q1 c2 f1 (markL ip) s w3 F3.out.b (HC.out w3 _ T3.out S3.out.1.below))
    have hcpE := (HC.out w3 _ T3.out S3.out.1.below).cap
    obtain ⟨vv, hvv⟩ : ∃ vv, vv = (markL ip == s) := ⟨_, rfl⟩
    rw [← hvv] at HSM
    have HVV := Lib.hid hvv
    clear hvv
    go_wp2_with fail
    refine HSM.out.mono ?_
    rintro e w4 ⟨rfl, k4, rfl⟩
    go_wp2_with fail
    go_ret
    exact ⟨by rw [← HVV.out]; rfl, S3.out.mono (belowN (Gr.refl _) k4), T3.out.trans (Turn1.gr (belowN (Gr.refl _) k4) _)⟩
end Go.Proofs.YtcfbbgbjlgonpaaGreatDoor
