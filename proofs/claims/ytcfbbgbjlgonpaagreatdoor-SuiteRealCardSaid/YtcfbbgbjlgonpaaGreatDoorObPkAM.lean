/- Own texts of this claim, one behind the other. No condition. -/
import Derived.Test.YtcfbbgbjlgonpaaGreatDoorObPkAC
import Derived.Test.YtcfbbgbjlgonpaaGreatDoorObPkAE
import Derived.Test.YtcfbbgbjlgonpaaGreatDoorObPkAK
import Derived.Test.YtcfbbgbjlgonpaaGreatDoorObPkAL
import Derived.WalkMore
import Derived.ScopeJumps
import Derived.Great.BuildSlice

/- What a call turns: a set of blocks, and new memory. No condition. -/
namespace Go.Proofs.YtcfbbgbjlgonpaaGreatDoor
open Go.RowKit
set_option linter.unusedVariables false
/-- From w to w' only the blocks of S have turned, and new ones have come. -/
structure Tch (S : Nat → Prop) (w w' : World) : Prop where
  bel : Below 0 w w'
  keep : ∀ b, b < w.heap.size → ¬ S b → w'.heap[b]? = w.heap[b]?
theorem Tch.size {S : Nat → Prop} {w w' : World} (h : Tch S w w') : w.heap.size ≤ w'.heap.size := h.bel.size
theorem Tch.gr {S : Nat → Prop} {w w' : World} (h : Gr w w') : Tch S w w' := ⟨Below.mono h (Nat.zero_le _), fun b hb _ => h.block b hb⟩
theorem Tch.refl {S : Nat → Prop} (w : World) : Tch S w w := Tch.gr (Gr.refl w)
theorem Tch.trans {S : Nat → Prop} {a b c : World} (h : Tch S a b) (k : Tch S b c) : Tch S a c :=
  ⟨h.bel.trans k.bel, fun x hx hs => (k.keep x (Nat.lt_of_lt_of_le hx h.size) hs).trans (h.keep x hx hs)⟩
/-- A set that is new memory from a's point of view counts for nothing. -/
theorem Tch.trans' {S S' : Nat → Prop} {a b c : World} (h : Tch S a b) (k : Tch S' b c) (hs : ∀ x, x < a.heap.size → S' x → S x) : Tch S a c :=
  ⟨h.bel.trans k.bel, fun x hx hn => (k.keep x (Nat.lt_of_lt_of_le hx h.size) (fun q => hn (hs x hx q))).trans (h.keep x hx hn)⟩
theorem Tch.mono {S S' : Nat → Prop} {w w' : World} (h : Tch S w w') (hs : ∀ b, b < w.heap.size → S b → S' b) : Tch S' w w' := ⟨h.bel, fun b hb hn => h.keep b hb (fun q => hn (hs b hb q))⟩
theorem Tch.below {S : Nat → Prop} {B : Nat} {a w w' : World} (hb : Below B a w) (h : Tch S w w') (hB : B ≤ w.heap.size) (hS : ∀ b, S b → B ≤ b) : Below B a w' :=
  hb.trans ⟨h.bel.os, h.bel.tape, h.bel.output, h.size, fun k hk => h.keep k (by omega) (fun q => by have := hS k q; omega)⟩
theorem Tch.to_gr {S : Nat → Prop} {w w' : World} (h : Tch S w w') (hS : ∀ b, b < w.heap.size → ¬ S b) : Gr w w' := ⟨h.bel.os, h.bel.tape, h.bel.output, h.size, fun k hk => h.keep k hk (hS k hk)⟩
theorem Tch.set {S : Nat → Prop} {w : World} (p : Addr) (u : Value) (hS : S p.block) : Tch S w (w.setCell p u) :=
  ⟨(Below.refl 0 w).setCell (Nat.zero_le _) u, fun b _ hn => Below.heap_setCell w p u b (fun e => hn (e ▸ hS))⟩
theorem Tch.grown {S : Nat → Prop} {w w' : World} {row : Option Nat} (hg : w.grownBy w' row) (hr : ∀ k, row = some k → S k) : Tch S w w' :=
  ⟨(Below.refl 0 w).grown hg (Nat.zero_le _) (fun _ _ => Nat.zero_le _), fun b hb hn => hg.block b hb (fun e => hn (hr b e.symm))⟩
section
variable {S : Nat → Prop} {w w' : World}
theorem Blk.tch {g : Nat} {t : TypeId} {cs : List Value} (h : Blk w g t cs) (k : Tch S w w') (hn : ¬ S g) : Blk w' g t cs := (k.keep g h.lt hn).trans h
theorem Sl.lt {A : Option Addr} {n c s : Nat} {xs : List Value} (h : Sl w A n c s xs) (hs : 0 < s) (hn : 0 < n) {b o : Nat} (e : A = some ⟨b, o, none⟩) : b < w.heap.size := by
  obtain ⟨h1, _, _, h4⟩ := h
  obtain ⟨b', o', e', hc⟩ := h4 hn
  rw [e] at e'
  injection e' with e'
  injection e' with e1 e2
  subst e1
  have hl : 0 < xs.length := by rw [h1]; exact Nat.mul_pos hn hs
  have hcell := hc 0 _ (List.getElem?_eq_getElem hl)
  exact World.block_lt_of_cell? w _ hcell
theorem Sl.tch {A : Option Addr} {n c s : Nat} {xs : List Value} (h : Sl w A n c s xs) (hs : 0 < s) (k : Tch S w w') (hn : 0 < n → ∀ b o, A = some ⟨b, o, none⟩ → ¬ S b) : Sl w' A n c s xs := by
  refine ⟨h.1, h.2.1, h.2.2.1, fun h0 => ?_⟩
  obtain ⟨b, o, e, hc⟩ := h.2.2.2 h0
  refine ⟨b, o, e, fun j u hu => ?_⟩
  rw [World.cell?_of_block (w := w) (a := ⟨b, o + j, none⟩) (k.keep b (Sl.lt h hs h0 e) (hn h0 b o e))]
  exact hc j u hu
theorem Own.tch {w0 : World} {e : TypeId} {s n : Nat} {v : Value} {xs : List Value} (h : Own w0 w e s v n xs) (k : Tch S w w') (hB : ∀ b, S b → w0.heap.size ≤ b) (hn : ∀ b, v.ownBlock = some b → ¬ S b) : Own w0 w' e s v n xs := by
  have hb : Below w0.heap.size w0 w' := k.below h.2 h.2.size hB
  obtain ⟨⟨hl, ho⟩, _⟩ := h
  refine ⟨⟨hl, ?_⟩, hb⟩
  rcases ho with h | ⟨g, cap, cur, hv, hg, hh, r⟩
  · exact .inl h
  · exact .inr ⟨g, cap, cur, hv, hg, by rw [k.keep g (Array.getElem?_eq_some_iff.1 hh).1 (hn g (by rw [hv]; rfl))]; exact hh, r⟩
/-- Where the first cell is of another kind, the block is another one. -/
theorem Sl.not_blk {A : Option Addr} {n c s : Nat} {xs cs : List Value} {g : Nat} {t : TypeId} (h : Sl w A n c s xs) (hs : 0 < s) (hb : Blk w g t cs) (hk : ∀ u ∈ cs, ∀ x, xs[0]? = some x → u ≠ x) (hn : 0 < n) {b o : Nat} (e : A = some ⟨b, o, none⟩) : b ≠ g := by
  rintro rfl
  obtain ⟨h1, _, _, h4⟩ := h
  obtain ⟨b', o', e', hc⟩ := h4 hn
  rw [e] at e'
  injection e' with e'
  injection e' with e1 e2
  subst e1 e2
  have hl : 0 < xs.length := by rw [h1]; exact Nat.mul_pos hn hs
  have hcell := hc 0 _ (List.getElem?_eq_getElem hl)
  rw [Nat.add_zero, hb.cell] at hcell
  exact hk _ (List.mem_of_getElem? hcell) _ (List.getElem?_eq_getElem hl) rfl
theorem Sl.not_map {A : Option Addr} {n c s : Nat} {xs : List Value} {g : Nat} {es : Array MapEntry} {clock : Nat} (h : Sl w A n c s xs) (hs : 0 < s) (hm : w.heap[g]? = some (.map es clock)) (hn : 0 < n) {b o : Nat} (e : A = some ⟨b, o, none⟩) : b ≠ g := by
  rintro rfl
  obtain ⟨h1, _, _, h4⟩ := h
  obtain ⟨b', o', e', hc⟩ := h4 hn
  rw [e] at e'
  injection e' with e'
  injection e' with e1 e2
  subst e1 e2
  have hl : 0 < xs.length := by rw [h1]; exact Nat.mul_pos hn hs
  have hcell := hc 0 _ (List.getElem?_eq_getElem hl)
  simp [World.cell?, hm] at hcell
theorem Own.not_map {w0 : World} {e : TypeId} {s n : Nat} {v : Value} {xs : List Value} {g : Nat} {es : Array MapEntry} {clock : Nat} (h : Own w0 w e s v n xs) (hm : w.heap[g]? = some (.map es clock)) : v.ownBlock ≠ some g := by
  intro hv
  rcases h.1.2 with ⟨h1, _⟩ | ⟨g', cap, cur, hv', _, hh, _⟩
  · rw [h1] at hv; cases hv
  · have e1 : g' = g := by rw [hv'] at hv; exact Option.some.inj hv
    rw [e1, hm] at hh
    cases hh
theorem Own.not_blk {w0 : World} {e t : TypeId} {s n g : Nat} {v : Value} {xs cs : List Value} (h : Own w0 w e s v n xs) (hb : Blk w g t cs) (he : e ≠ t) : v.ownBlock ≠ some g := by
  intro hv
  rcases h.1.2 with ⟨h1, _⟩ | ⟨g', cap, cur, hv', _, hh, _⟩
  · rw [h1] at hv; cases hv
  · have e1 : g' = g := by rw [hv'] at hv; exact Option.some.inj hv
    rw [e1, hb] at hh
    injection hh with hh
    injection hh with _ h3
    exact he h3.symm
end
/-- append turns the slice's own block alone. -/
theorem Tch.kept {w0 w w' : World} {e : TypeId} {s n : Nat} {v v' : Value} {xs : List Value} (hk : Kept w w' v v') (h : Own w0 w' e s v' n xs) (hB : Below w0.heap.size w0 w) : Tch (fun b => v.ownBlock = some b) w w' :=
  ⟨⟨h.2.os.trans hB.os.symm, h.2.tape.trans hB.tape.symm, h.2.output.trans hB.output.symm, hk.2.1, fun k hk => by omega⟩, fun b hb hn => hk.1 b hb hn⟩
/-- A row of the call's own, cell by cell, with the room behind it. -/
theorem Own.opened {w0 w : World} {e : TypeId} {s n : Nat} {v : Value} {xs : List Value} (h : Own w0 w e s v n xs) (h0 : 0 < n) : ∃ g cap rest, v = .slice (some ⟨g, 0, none⟩) n cap ∧ w0.heap.size ≤ g ∧ Blk w g e (xs ++ rest) ∧ n ≤ cap ∧ cap ≤ 9223372036854775807 ∧ (xs ++ rest).length = cap * s := by
  rcases h.1.2 with ⟨_, h1⟩ | ⟨g, cap, cur, hv, hg, hh, hn, hm, hc, hx⟩
  · omega
  · have e1 : xs ++ cur.toList.drop (n * s) = cur.toList := by rw [← hx, List.take_append_drop]
    refine ⟨g, cap, cur.toList.drop (n * s), hv, hg, ?_, hn, hm, ?_⟩
    · unfold Blk
      rw [e1]
      simpa using hh
    · rw [e1]; simpa using hc
/-- .. and back. -/
theorem Blk.closed {w0 w : World} {e : TypeId} {s n g cap : Nat} {xs rest : List Value} (h : Blk w g e (xs ++ rest)) (hb : Below w0.heap.size w0 w) (hg : w0.heap.size ≤ g) (hn : n ≤ cap) (hm : cap ≤ 9223372036854775807) (hc : (xs ++ rest).length = cap * s) (hx : xs.length = n * s) : Own w0 w e s (.slice (some ⟨g, 0, none⟩) n cap) n xs :=
  ⟨⟨hx, .inr ⟨g, cap, (xs ++ rest).toArray, rfl, hg, h, hn, hm, by simpa using hc, by rw [← hx]; simp⟩⟩, hb⟩
theorem set_left (xs rest : List Value) (k : Nat) (u : Value) (hk : k < xs.length) : (xs ++ rest).set k u = xs.set k u ++ rest := by rw [List.set_append, if_pos hk]
theorem at_left {xs rest : List Value} {k : Nat} {u : Value} (h : xs[k]? = some u) : (xs ++ rest)[k]? = some u := by
  rw [List.getElem?_append_left (List.getElem?_eq_some_iff.1 h).1]; exact h
end Go.Proofs.YtcfbbgbjlgonpaaGreatDoor

/- Real suites: a nonce. No condition. -/
namespace Go.Proofs.YtcfbbgbjlgonpaaGreatDoor
open Go.RowKit
set_option linter.unusedVariables false
set_option linter.unusedSimpArgs false
def nonceL (seed : List UInt8) (d : Nat) : List UInt8 := (drawL seed d).take 16
theorem nonceL_len (seed : List UInt8) (d : Nat) : (nonceL seed d).length = 16 := by unfold nonceL; rw [List.length_take, drawL_len]; rfl
def RetNonce (w : World) (p : Nat) (seed : List UInt8) (d : Nat) (e : Ending) (w' : World) : Prop :=
  ∃ A, e = .returned (.slice A 16 16) ∧ Bs w' A 16 16 (nonceL seed d) ∧ Gr (w.setCell ⟨p, 1, none⟩ (.int .i64 ((d : Int) + 1))) w'
set_option maxRecDepth 100000 in
set_option maxHeartbeats 1000000 in
theorem bytes16_any (p : Nat) (A : Option Addr) (n c : Nat) (seed : List UInt8) (d : Nat) (w : World) (h : Src w p A n c seed d) (hn : n ≤ 50000) (hd : d < 100) (hK : ShaK w) (hp : p ≠ 1) :
    Calls Tryz.prog 45 #[.pointer (some ⟨p, 0, none⟩), .int .i64 16] w (RetNonce w p seed d) := by
  have HDR := Lib.hid (draw_any p A n c seed d w h hn hd hK hp)
  have HDL := Lib.hid (drawL_len seed d)
  clear h hK
  go_enter Tryz.func45, Tryz.ntmps45
  go_wp2_with fail
  go_step3
  go_wp2_with fail
  go_step3
  go_wp2_with fail
  refine wp_loop_rounds 1 ?_
  rw [rounds_succ]
  go_wp2_with fail
  refine HDR.out.mono ?_
  rintro e w3 ⟨A3, c3, rfl, s3, g3⟩
  rw [HDL.out] at s3
  rw [HDL.out]
  have S3 := Lib.hid s3; have G3 := Lib.hid g3
  have O3 : Hid (Own w3 w3 5 1 (.slice none 0 0) 0 []) := Own.nil _ _ _
  clear s3 g3
  go_wp2_with (at_builtin; refine wpList_cat rfl (.tmp 18) (.tmp 20) 28 rfl tBytes rfl O3.out rfl S3.out (one_bytes _) (by omega) ?_; intro v4 w4 own4; obtain ⟨A4, k4, rfl, sl4⟩ := own4.slice; have q4 := sl4.cap; have m4 := sl4.max; have O4 := Lib.hid own4; have S4 := Lib.hid sl4; clear own4 sl4)
  try rw [Exit.noGoto_ret]
  go_ret
  refine ⟨A4, rfl, ?_, Gr.trans G3.out O4.out.below⟩
  have := S4.out.upto (k := 16) (by omega)
  rw [List.nil_append, ← List.map_take] at this
  exact ⟨this.1, Nat.le_refl _, by decide, this.2.2.2⟩
end Go.Proofs.YtcfbbgbjlgonpaaGreatDoor

/- The field of 256 numbers: Twice, Mul, Power of 2, Box, Column. No condition. -/
namespace Go.Proofs.YtcfbbgbjlgonpaaGreatDoor
open Go.RowKit
set_option linter.unusedVariables false
set_option linter.unusedSimpArgs false
/-- A byte's number. -/
def ub (x : UInt8) : Int := (x.toNat : Int)
theorem u8c_ub (x : UInt8) : u8c x = .int .u8 (ub x) := rfl
theorem byte_all {P : UInt8 → Prop} [DecidablePred P] (h : ((List.range 256).all fun n => decide (P (UInt8.ofNat n))) = true) (a : UInt8) : P a := by
  have := List.all_eq_true.1 h a.toNat (List.mem_range.2 a.toNat_lt)
  have h2 := of_decide_eq_true this
  rwa [UInt8.ofNat_toNat] at h2
theorem ub_lt (x : UInt8) : ub x < 256 := by unfold ub; have := x.toNat_lt; omega
theorem ub_nn (x : UInt8) : 0 ≤ ub x := by unfold ub; omega
theorem ub_xor (x y : UInt8) : bits .xor .u8 (ub x) (ub y) = ub (x ^^^ y) := by
  unfold ub
  rw [u8_xor _ _ x.toNat_lt y.toNat_lt, UInt8.toNat_xor]
def twB (a : UInt8) : UInt8 := if 128 ≤ a.toNat then (a <<< 1) ^^^ 27 else a <<< 1
theorem tw_hi (a : UInt8) : (bits .and .u8 (ub a) 128 != 0) = decide (128 ≤ a.toNat) := byte_all (P := fun a => (bits .and .u8 (ub a) 128 != 0) = decide (128 ≤ a.toNat)) (by decide +kernel) a
theorem tw_one (a : UInt8) : bits .xor .u8 (ub a * (2 : Int) % (256 : Int)) 27 = ub ((a <<< 1) ^^^ 27) := byte_all (P := fun a => bits .xor .u8 (ub a * (2 : Int) % (256 : Int)) 27 = ub ((a <<< 1) ^^^ 27)) (by decide +kernel) a
theorem tw_two (a : UInt8) : ub a * (2 : Int) % (256 : Int) = ub (a <<< 1) := byte_all (P := fun a => ub a * (2 : Int) % (256 : Int) = ub (a <<< 1)) (by decide +kernel) a
theorem ml_odd (a : UInt8) : (bits .and .u8 (ub a) 1 == 0) = decide (a.toNat % 2 = 0) := byte_all (P := fun a => (bits .and .u8 (ub a) 1 == 0) = decide (a.toNat % 2 = 0)) (by decide +kernel) a
theorem ml_zero (a : UInt8) : (ub a == 0) = decide (a.toNat = 0) := byte_all (P := fun a => (ub a == 0) = decide (a.toNat = 0)) (by decide +kernel) a
theorem ml_half (a : UInt8) : ub a / (2 : Int) = ub (a >>> 1) := byte_all (P := fun a => ub a / (2 : Int) = ub (a >>> 1)) (by decide +kernel) a
theorem ml_nat (a : UInt8) : (a >>> 1).toNat = a.toNat / 2 := byte_all (P := fun a => (a >>> 1).toNat = a.toNat / 2) (by decide +kernel) a
theorem ret_u8 {x y : Int} (h : x = y) : Ending.returned (.int .u8 x) = .returned (.int .u8 y) := by rw [h]
theorem twice_any (a : UInt8) (w : World) : Calls Tryz.prog 213 #[.int .u8 (ub a)] w fun e w' => e = .returned (.int .u8 (ub (twB a))) ∧ w = w' := by
  have h1 := tw_hi a; have H2 := Lib.hid (tw_one a); have H3 := Lib.hid (tw_two a)
  unfold twB
  by_cases h : 128 ≤ a.toNat
  · rw [if_pos h]
    rw [decide_eq_true h] at h1
    go_enter Tryz.func213, Tryz.ntmps213
    go_wp2_with fail
    go_ret
    exact ⟨ret_u8 H2.out, rfl⟩
  · rw [if_neg h]
    rw [decide_eq_false h] at h1
    go_enter Tryz.func213, Tryz.ntmps213
    go_wp2_with fail
    go_ret
    exact ⟨ret_u8 H3.out, rfl⟩
/-! ### Mul -/
def mulG : Nat → UInt8 → UInt8 → UInt8 → UInt8
  | 0, _, _, s => s
  | f + 1, a, b, s => if a.toNat = 0 then s else mulG f (a >>> 1) (twB b) (if a.toNat % 2 = 0 then s else s ^^^ b)
theorem mulG_zero (f : Nat) (a b s : UInt8) (h : a.toNat = 0) : mulG f a b s = s := by
  cases f with
  | zero => rfl
  | succ f => show (if a.toNat = 0 then s else _) = s; rw [if_pos h]
def mulB (a b : UInt8) : UInt8 := mulG 8 a b 0
set_option maxRecDepth 100000 in
theorem gfMul_any (a b : UInt8) (w : World) : Calls Tryz.prog 211 #[.int .u8 (ub a), .int .u8 (ub b)] w fun e w' => e = .returned (.int .u8 (ub (mulB a b))) ∧ w = w' := by
  obtain ⟨T, hT⟩ : ∃ T, T = mulB a b := ⟨_, rfl⟩
  rw [← hT]
  have HT : Hid (mulG 8 a b 0 = T) := hT.symm
  have HL : Hid (a.toNat < 2 ^ 8) := a.toNat_lt
  clear hT
  go_enter Tryz.func211, Tryz.ntmps211
  go_wp2_with fail
  go_step3
  go_wp2_with fail
  go_step3
  go_wp2_with fail
  go_loopw [0, 1, 4] (fun v0 v1 v4 wr => w = wr ∧ ∃ (f : Nat) (x y s : UInt8), v0 = .int .u8 (ub x) ∧ v1 = .int .u8 (ub y) ∧ v4 = .int .u8 (ub s) ∧ x.toNat < 2 ^ f ∧ mulG f x y s = T) (fun v0 _ _ _ => (Go.RowKit.intOf v0).toNat)
  case atStart => exact ⟨rfl, 8, a, b, 0, rfl, rfl, rfl, HL.out, HT.out⟩
  case round =>
    obtain ⟨rfl, f, x, y, s, rfl, rfl, rfl, hx, hs⟩ := hrel
    have HX := Lib.hid hx; have HS := Lib.hid hs
    have h1 := ml_zero x; have h2 := ml_odd x; have hnn := ub_nn x; have hlt := ub_lt x
    have H3 := Lib.hid (ml_half x); have H4 := Lib.hid (ub_xor s y)
    clear hx hs
    by_cases hz : x.toNat = 0
    · rw [decide_eq_true hz] at h1
      have hsT : s = T := by rw [← HS.out, mulG_zero _ _ _ _ hz]
      subst hsT
      clear h2 H3 H4 HX HS HT
      go_wp2_with fail
      try rw [Exit.noGoto_ret]
      go_ret
      exact ⟨rfl, rfl⟩
    · rw [decide_eq_false hz] at h1
      obtain ⟨f, rfl⟩ : ∃ g, f = g + 1 := by
        cases f with
        | zero => exact absurd HX.out (by simp; omega)
        | succ g => exact ⟨g, rfl⟩
      have hstep : mulG f (x >>> 1) (twB y) (if x.toNat % 2 = 0 then s else s ^^^ y) = T := by rw [← HS.out]; show _ = (if x.toNat = 0 then _ else _); rw [if_neg hz]
      have hlt : (x >>> 1).toNat < 2 ^ f := by rw [ml_nat]; have := HX.out; rw [Nat.pow_succ] at this; omega
      have hdn : (x >>> 1).toNat < x.toNat := by rw [ml_nat]; omega
      have HSt := Lib.hid hstep; have HLt := Lib.hid hlt; have HD := Lib.hid hdn
      clear hstep hlt hdn HX HS HT
      by_cases ho : x.toNat % 2 = 0
      · rw [decide_eq_true ho] at h2
        rw [if_pos ho] at HSt
        go_wp2_with (go_at_call 213; refine (twice_any y _).mono ?_; rintro e w' ⟨rfl, rfl⟩)
        have e3 := H3.out
        rw [e3]
        go_roundw
        case rel => exact ⟨trivial, f, _, _, _, rfl, rfl, rfl, HLt.out, HSt.out⟩
        case measure => simp [Go.RowKit.intOf, ub]; exact HD.out
      · rw [decide_eq_false ho] at h2
        rw [if_neg ho] at HSt
        go_wp2_with (go_at_call 213; refine (twice_any y _).mono ?_; rintro e w' ⟨rfl, rfl⟩)
        have e3 := H3.out
        rw [e3, H4.out]
        go_roundw
        case rel => exact ⟨trivial, f, _, _, _, rfl, rfl, rfl, HLt.out, HSt.out⟩
        case measure => simp [Go.RowKit.intOf, ub]; exact HD.out
/-! ### Box -/
def boxT : List Int := [99, 124, 119, 123, 242, 107, 111, 197, 48, 1, 103, 43, 254, 215, 171, 118, 202, 130, 201, 125, 250, 89, 71, 240, 173, 212, 162, 175, 156, 164, 114, 192, 183, 253, 147, 38, 54, 63, 247, 204, 52, 165, 229, 241, 113, 216, 49, 21, 4, 199, 35, 195, 24, 150, 5, 154, 7, 18, 128, 226, 235, 39, 178, 117, 9, 131, 44, 26, 27, 110, 90, 160, 82, 59, 214, 179, 41, 227, 47, 132, 83, 209, 0, 237, 32, 252, 177, 91, 106, 203, 190, 57, 74, 76, 88, 207, 208, 239, 170, 251, 67, 77, 51, 133, 69, 249, 2, 127, 80, 60, 159, 168, 81, 163, 64, 143, 146, 157, 56, 245, 188, 182, 218, 33, 16, 255, 243, 210, 205, 12, 19, 236, 95, 151, 68, 23, 196, 167, 126, 61, 100, 93, 25, 115, 96, 129, 79, 220, 34, 42, 144, 136, 70, 238, 184, 20, 222, 94, 11, 219, 224, 50, 58, 10, 73, 6, 36, 92, 194, 211, 172, 98, 145, 149, 228, 121, 231, 200, 55, 109, 141, 213, 78, 169, 108, 86, 244, 234, 101, 122, 174, 8, 186, 120, 37, 46, 28, 166, 180, 198, 232, 221, 116, 31, 75, 189, 139, 138, 112, 62, 181, 102, 72, 3, 246, 14, 97, 53, 87, 185, 134, 193, 29, 158, 225, 248, 152, 17, 105, 217, 142, 148, 155, 30, 135, 233, 206, 85, 40, 223, 140, 161, 137, 13, 191, 230, 66, 104, 65, 153, 45, 15, 176, 84, 187, 22]
def boxB (a : UInt8) : UInt8 := UInt8.ofNat (boxT.getD a.toNat 0).toNat
theorem box_at (a : UInt8) : boxT.getD a.toNat 0 = ub (boxB a) := byte_all (P := fun a => boxT.getD a.toNat 0 = ub (boxB a)) (by decide +kernel) a
theorem run_indexBox (a : UInt8) (w : World) : (Instr.index 205 (.agg (boxT.map (Value.int .u8)).toArray) (.int .u8 (ub a))).run Tryz.prog w = .ok (.int .u8 (ub (boxB a))) w := by
  have hs : (sizeOf 5).run Tryz.prog w = .ok 1 w := by kernel_rfl
  have hlen : boxT.length = 256 := by decide +kernel
  have hlt : a.toNat < boxT.length := by rw [hlen]; exact a.toNat_lt
  have ha : (boxT.map (Value.int .u8)).toArray[a.toNat]? = some (.int .u8 (ub (boxB a))) := by
    rw [← box_at]
    simp only [List.getElem?_toArray, List.getElem?_map]
    rw [List.getElem?_eq_getElem hlt, List.getD_eq_getElem?_getD, List.getElem?_eq_getElem hlt]
    rfl
  have hp : (part 5 (boxT.map (Value.int .u8)).toArray a.toNat).run Tryz.prog w = .ok (.int .u8 (ub (boxB a))) w := by
    have hag : (isAgg 5).run Tryz.prog w = .ok false w := by kernel_rfl
    simp only [part, Sem.run_bind, hag, Result.andThen_ok]
    rw [ha]
    rfl
  have h0 := ub_nn a; have h1 := ub_lt a
  have hN : (ub a).toNat = a.toNat := rfl
  simp only [Instr.index, asIntOf, Sem.run_bind, Sem.run_pure, Result.andThen_ok, run_underlying Tryz.underlying205]
  rw [if_pos ⟨h0, h1⟩]
  simp only [Sem.run_bind, hs, Result.andThen_ok, hN, Nat.mul_one]
  exact hp
set_option maxRecDepth 100000 in
set_option maxHeartbeats 1000000 in
theorem gfBox_any (a : UInt8) (w : World) : Calls Tryz.prog 185 #[.int .u8 (ub a)] w fun e w' => e = .returned (.int .u8 (ub (boxB a))) ∧ w = w' := by
  have hx := run_indexBox a w
  go_enter Tryz.func185, Tryz.ntmps185
  go_wp2_with (refine wpList_buildFlatArrTo rfl 205 5 256 _ rfl .u8 boxT (some 3) rfl Tryz.underlying205 (by kernel_rfl) (by kernel_rfl) (by kernel_rfl) ?_)
  go_ret
  exact ⟨rfl, rfl⟩
end Go.Proofs.YtcfbbgbjlgonpaaGreatDoor

/- The field of 256 numbers: Power of 2; Column. No condition. -/
namespace Go.Proofs.YtcfbbgbjlgonpaaGreatDoor
open Go.RowKit
set_option linter.unusedVariables false
set_option linter.unusedSimpArgs false
def powG : Nat → UInt8 → Nat → UInt8 → UInt8
  | 0, _, _, s => s
  | f + 1, a, m, s => if m = 0 then s else powG f (mulB a a) (m / 2) (if m % 2 = 1 then mulB s a else s)
theorem powG_zero (f : Nat) (a s : UInt8) : powG f a 0 s = s := by
  cases f with
  | zero => rfl
  | succ f => rfl
def powB (a : UInt8) (n : Nat) : UInt8 := powG 8 a n 1
theorem pw_odd : ((List.range 256).all fun m => decide ((bits .and .i64 (m : Int) 1 == 1) = decide (m % 2 = 1))) = true := by decide +kernel
theorem pw_odd_at (m : Nat) (h : m ≤ 255) : (bits .and .i64 (m : Int) 1 == 1) = decide (m % 2 = 1) := of_decide_eq_true (List.all_eq_true.1 pw_odd m (List.mem_range.2 (by omega)))
/-- At the label: the number that is left, and the product. -/
def PowJ (w : World) (T : UInt8) (a' : Act) (w' : World) : Prop := w' = w ∧ ∃ (f m : Nat) (x s : UInt8) (u2 u3 u4 u6 u7 u8 u9 u10 u11 u12 u13 u14 u15 u16 u17 u18 u19 u20 u21 u22 u23 u24 u25 : Value), a' = { tmps := #[.int .u8 (ub x), .int .i64 (m : Int), u2, u3, u4, .int .u8 (ub s), u6, u7, u8, u9, u10, u11, u12, u13, u14, u15, u16, u17, u18, u19, u20, u21, u22, u23, u24, u25], defers := [] } ∧ m < 2 ^ f ∧ m ≤ 255 ∧ powG f x m s = T
theorem pow_step {f m : Nat} {x s T : UInt8} (hm : m < 2 ^ f) (h : powG f x m s = T) (h0 : m ≠ 0) : ∃ g, f = g + 1 ∧ m / 2 < 2 ^ g ∧ powG g (mulB x x) (m / 2) (if m % 2 = 1 then mulB s x else s) = T := by
  cases f with
  | zero => simp at hm; omega
  | succ g =>
    refine ⟨g, rfl, by rw [Nat.pow_succ] at hm; omega, ?_⟩
    rw [← h]
    show _ = (if m = 0 then _ else _)
    rw [if_neg h0]
theorem pow_half (m : Nat) : ((m : Int) / 2) = ((m / 2 : Nat) : Int) := by omega
set_option maxRecDepth 100000 in
set_option maxHeartbeats 2000000 in
theorem gfPower_any (x : UInt8) (m : Nat) (hn : m ≤ 255) (w : World) : Calls Tryz.prog 199 #[.int .u8 (ub x), .int .i64 (m : Int)] w fun e w' => e = .returned (.int .u8 (ub (powB x m))) ∧ w = w' := by
  obtain ⟨T, hT⟩ : ∃ T, T = powB x m := ⟨_, rfl⟩
  rw [← hT]
  have HP : Hid (powG 8 x m 1 = T) := hT.symm
  have HM : Hid (m < 2 ^ 8) := by show m < 256; omega
  have HH := Lib.hid hn
  clear hT hn
  have t1 : decide ((255 : Int) < (m : Int)) = false := decide_eq_false (by have := HH.out; omega)
  go_enter Tryz.func199, Tryz.ntmps199
  go_wp2_with fail
  refine wp_scope_jumps 0 (PowJ w T) (fun a' _ => (Go.RowKit.intOf (a'.tmps.getD 1 undef)).toNat) rfl ?_ ?_
  · obtain ⟨s, hs1⟩ : ∃ s : UInt8, s = 1 := ⟨_, rfl⟩
    have h1 : (1 : Int) = ub s := by rw [hs1]; rfl
    rw [← hs1] at HP
    go_wp2_with fail
    go_step3
    rw [show Value.int IntKind.u8 1 = .int .u8 (ub s) by rw [← h1]]
    clear h1 hs1 t1
    by_cases hz : m = 0
    · subst hz
      have t2 : decide (((0 : Nat) : Int) < 1) = true := by decide
      have hs : s = T := by rw [← HP.out, powG_zero]
      subst hs
      clear HP HM HH
      go_wp2_with (go_at_call 211; refine (gfMul_any _ _ _).mono ?_; rintro e w' ⟨rfl, rfl⟩)
      simp only [Exit.jump]
      go_ret
      exact ⟨rfl, rfl⟩
    · obtain ⟨g, hfg, hg, hp⟩ := pow_step HM.out HP.out hz
      have t2 : decide ((m : Int) < 1) = false := decide_eq_false (by omega)
      have t3 := pw_odd_at m HH.out
      have p0 : (0 : Int) ≤ m := by omega
      have HG := Lib.hid hg; have HPP := Lib.hid hp; have HZ := Lib.hid hz
      clear hg hp HP HM hfg
      by_cases ho : m % 2 = 1
      · rw [decide_eq_true ho] at t3
        rw [if_pos ho] at HPP
        have HO := Lib.hid ho; clear ho
        go_wp2_with (go_at_call 211; refine (gfMul_any _ _ _).mono ?_; rintro e w' ⟨rfl, rfl⟩)
        go_step3
        refine ⟨rfl, ?_⟩
        first
          | exact ⟨⟨rfl, g, m / 2, _, _, _, _, _, _, _, _, _, _, _, _, _, _, _, _, _, _, _, _, _, _, _, _, _, by rw [pow_half], HG.out, by have := HH.out; omega, HPP.out⟩, by have := HZ.out; simp [Go.RowKit.intOf]; omega⟩
          | exact ⟨rfl, g, m / 2, _, _, _, _, _, _, _, _, _, _, _, _, _, _, _, _, _, _, _, _, _, _, _, _, _, by rw [pow_half], HG.out, by have := HH.out; omega, HPP.out⟩
      · rw [decide_eq_false ho] at t3
        rw [if_neg ho] at HPP
        have HO := Lib.hid ho; clear ho
        go_wp2_with (go_at_call 211; refine (gfMul_any _ _ _).mono ?_; rintro e w' ⟨rfl, rfl⟩)
        go_step3
        refine ⟨rfl, ?_⟩
        first
          | exact ⟨⟨rfl, g, m / 2, _, _, _, _, _, _, _, _, _, _, _, _, _, _, _, _, _, _, _, _, _, _, _, _, _, by rw [pow_half], HG.out, by have := HH.out; omega, HPP.out⟩, by have := HZ.out; simp [Go.RowKit.intOf]; omega⟩
          | exact ⟨rfl, g, m / 2, _, _, _, _, _, _, _, _, _, _, _, _, _, _, _, _, _, _, _, _, _, _, _, _, _, by rw [pow_half], HG.out, by have := HH.out; omega, HPP.out⟩
  · rintro a' w' ⟨rfl, f, m, x, s, u2, u3, u4, u6, u7, u8, u9, u10, u11, u12, u13, u14, u15, u16, u17, u18, u19, u20, u21, u22, u23, u24, u25, rfl, hm, hh, hp⟩
    have HP := Lib.hid hp; have HM := Lib.hid hm; have HH := Lib.hid hh
    clear hp hm hh t1
    by_cases hz : m = 0
    · subst hz
      have t2 : decide (((0 : Nat) : Int) < 1) = true := by decide
      have hs : s = T := by rw [← HP.out, powG_zero]
      subst hs
      clear HP HM HH
      go_wp2_with (go_at_call 211; refine (gfMul_any _ _ _).mono ?_; rintro e w' ⟨rfl, rfl⟩)
      simp only [Exit.jump]
      go_ret
      exact ⟨rfl, rfl⟩
    · obtain ⟨g, hfg, hg, hp⟩ := pow_step HM.out HP.out hz
      have t2 : decide ((m : Int) < 1) = false := decide_eq_false (by omega)
      have t3 := pw_odd_at m HH.out
      have p0 : (0 : Int) ≤ m := by omega
      have HG := Lib.hid hg; have HPP := Lib.hid hp; have HZ := Lib.hid hz
      clear hg hp HP HM hfg
      by_cases ho : m % 2 = 1
      · rw [decide_eq_true ho] at t3
        rw [if_pos ho] at HPP
        have HO := Lib.hid ho; clear ho
        go_wp2_with (go_at_call 211; refine (gfMul_any _ _ _).mono ?_; rintro e w' ⟨rfl, rfl⟩)
        go_step3
        refine ⟨rfl, ?_⟩
        first
          | exact ⟨⟨rfl, g, m / 2, _, _, _, _, _, _, _, _, _, _, _, _, _, _, _, _, _, _, _, _, _, _, _, _, _, by rw [pow_half], HG.out, by have := HH.out; omega, HPP.out⟩, by have := HZ.out; simp [Go.RowKit.intOf]; omega⟩
          | exact ⟨rfl, g, m / 2, _, _, _, _, _, _, _, _, _, _, _, _, _, _, _, _, _, _, _, _, _, _, _, _, _, by rw [pow_half], HG.out, by have := HH.out; omega, HPP.out⟩
      · rw [decide_eq_false ho] at t3
        rw [if_neg ho] at HPP
        have HO := Lib.hid ho; clear ho
        go_wp2_with (go_at_call 211; refine (gfMul_any _ _ _).mono ?_; rintro e w' ⟨rfl, rfl⟩)
        go_step3
        refine ⟨rfl, ?_⟩
        first
          | exact ⟨⟨rfl, g, m / 2, _, _, _, _, _, _, _, _, _, _, _, _, _, _, _, _, _, _, _, _, _, _, _, _, _, by rw [pow_half], HG.out, by have := HH.out; omega, HPP.out⟩, by have := HZ.out; simp [Go.RowKit.intOf]; omega⟩
          | exact ⟨rfl, g, m / 2, _, _, _, _, _, _, _, _, _, _, _, _, _, _, _, _, _, _, _, _, _, _, _, _, _, by rw [pow_half], HG.out, by have := HH.out; omega, HPP.out⟩
end Go.Proofs.YtcfbbgbjlgonpaaGreatDoor
