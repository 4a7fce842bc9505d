/- Own texts of this claim, one behind the other. No condition. -/
import Derived.Test.YtcfbbgbjlgonpaaGreatDoorObPkAE
import Derived.Test.YtcfbbgbjlgonpaaGreatDoorObPkAL
import Derived.Test.YtcfbbgbjlgonpaaGreatDoorObPkAM

/- What a call turns: a set of blocks, and new memory. No condition. -/
namespace Go.Proofs.YtcfbbgbjlgonpaaGreatDoor
open Go.RowKit
set_option linter.unusedVariables false
/-- From w to w' only the blocks of S have turned, and new ones have come. -/
structure Tch (S : Nat → Prop) (w w' : World) : Prop where
  bel : Below 0 w w'
  keep : ∀ b, b < w.heap.size → ¬ S b → w'.heap[b]? = w.heap[b]?
theorem Tch.size {S : Nat → Prop} {w w' : World} (h : Tch S w w') : w.heap.size ≤ w'.heap.size := h.bel.size
theorem Tch.gr {S : Nat → Prop} {w w' : World} (h : Gr w w') : Tch S w w' := ⟨Below.mono h (Nat.zero_le _), fun b hb _ => h.block b hb⟩
theorem Tch.refl {S : Nat → Prop} (w : World) : Tch S w w := Tch.gr (Gr.refl w)
theorem Tch.trans {S : Nat → Prop} {a b c : World} (h : Tch S a b) (k : Tch S b c) : Tch S a c :=
  ⟨h.bel.trans k.bel, fun x hx hs => (k.keep x (Nat.lt_of_lt_of_le hx h.size) hs).trans (h.keep x hx hs)⟩
/-- A set that is new memory from a's point of view counts for nothing. -/
theorem Tch.trans' {S S' : Nat → Prop} {a b c : World} (h : Tch S a b) (k : Tch S' b c) (hs : ∀ x, x < a.heap.size → S' x → S x) : Tch S a c :=
  ⟨h.bel.trans k.bel, fun x hx hn => (k.keep x (Nat.lt_of_lt_of_le hx h.size) (fun q => hn (hs x hx q))).trans (h.keep x hx hn)⟩
theorem Tch.mono {S S' : Nat → Prop} {w w' : World} (h : Tch S w w') (hs : ∀ b, b < w.heap.size → S b → S' b) : Tch S' w w' := ⟨h.bel, fun b hb hn => h.keep b hb (fun q => hn (hs b hb q))⟩
theorem Tch.below {S : Nat → Prop} {B : Nat} {a w w' : World} (hb : Below B a w) (h : Tch S w w') (hB : B ≤ w.heap.size) (hS : ∀ b, S b → B ≤ b) : Below B a w' :=
  hb.trans ⟨h.bel.os, h.bel.tape, h.bel.output, h.size, fun k hk => h.keep k (by omega) (fun q => by have := hS k q; omega)⟩
theorem Tch.to_gr {S : Nat → Prop} {w w' : World} (h : Tch S w w') (hS : ∀ b, b < w.heap.size → ¬ S b) : Gr w w' := ⟨h.bel.os, h.bel.tape, h.bel.output, h.size, fun k hk => h.keep k hk (hS k hk)⟩
theorem Tch.set {S : Nat → Prop} {w : World} (p : Addr) (u : Value) (hS : S p.block) : Tch S w (w.setCell p u) :=
  ⟨(Below.refl 0 w).setCell (Nat.zero_le _) u, fun b _ hn => Below.heap_setCell w p u b (fun e => hn (e ▸ hS))⟩
theorem Tch.grown {S : Nat → Prop} {w w' : World} {row : Option Nat} (hg : w.grownBy w' row) (hr : ∀ k, row = some k → S k) : Tch S w w' :=
  ⟨(Below.refl 0 w).grown hg (Nat.zero_le _) (fun _ _ => Nat.zero_le _), fun b hb hn => hg.block b hb (fun e => hn (hr b e.symm))⟩
section
variable {S : Nat → Prop} {w w' : World}
theorem Blk.tch {g : Nat} {t : TypeId} {cs : List Value} (h : Blk w g t cs) (k : Tch S w w') (hn : ¬ S g) : Blk w' g t cs := (k.keep g h.lt hn).trans h
theorem Sl.lt {A : Option Addr} {n c s : Nat} {xs : List Value} (h : Sl w A n c s xs) (hs : 0 < s) (hn : 0 < n) {b o : Nat} (e : A = some ⟨b, o, none⟩) : b < w.heap.size := by
  obtain ⟨h1, _, _, h4⟩ := h
  obtain ⟨b', o', e', hc⟩ := h4 hn
  rw [e] at e'
  injection e' with e'
  injection e' with e1 e2
  subst e1
  have hl : 0 < xs.length := by rw [h1]; exact Nat.mul_pos hn hs
  have hcell := hc 0 _ (List.getElem?_eq_getElem hl)
  exact World.block_lt_of_cell? w _ hcell
theorem Sl.tch {A : Option Addr} {n c s : Nat} {xs : List Value} (h : Sl w A n c s xs) (hs : 0 < s) (k : Tch S w w') (hn : 0 < n → ∀ b o, A = some ⟨b, o, none⟩ → ¬ S b) : Sl w' A n c s xs := by
  refine ⟨h.1, h.2.1, h.2.2.1, fun h0 => ?_⟩
  obtain ⟨b, o, e, hc⟩ := h.2.2.2 h0
  refine ⟨b, o, e, fun j u hu => ?_⟩
  rw [World.cell?_of_block (w := w) (a := ⟨b, o + j, none⟩) (k.keep b (Sl.lt h hs h0 e) (hn h0 b o e))]
  exact hc j u hu
theorem Own.tch {w0 : World} {e : TypeId} {s n : Nat} {v : Value} {xs : List Value} (h : Own w0 w e s v n xs) (k : Tch S w w') (hB : ∀ b, S b → w0.heap.size ≤ b) (hn : ∀ b, v.ownBlock = some b → ¬ S b) : Own w0 w' e s v n xs := by
  have hb : Below w0.heap.size w0 w' := k.below h.2 h.2.size hB
  obtain ⟨⟨hl, ho⟩, _⟩ := h
  refine ⟨⟨hl, ?_⟩, hb⟩
  rcases ho with h | ⟨g, cap, cur, hv, hg, hh, r⟩
  · exact .inl h
  · exact .inr ⟨g, cap, cur, hv, hg, by rw [k.keep g (Array.getElem?_eq_some_iff.1 hh).1 (hn g (by rw [hv]; rfl))]; exact hh, r⟩
/-- Where the first cell is of another kind, the block is another one. -/
theorem Sl.not_blk {A : Option Addr} {n c s : Nat} {xs cs : List Value} {g : Nat} {t : TypeId} (h : Sl w A n c s xs) (hs : 0 < s) (hb : Blk w g t cs) (hk : ∀ u ∈ cs, ∀ x, xs[0]? = some x → u ≠ x) (hn : 0 < n) {b o : Nat} (e : A = some ⟨b, o, none⟩) : b ≠ g := by
  rintro rfl
  obtain ⟨h1, _, _, h4⟩ := h
  obtain ⟨b', o', e', hc⟩ := h4 hn
  rw [e] at e'
  injection e' with e'
  injection e' with e1 e2
  subst e1 e2
  have hl : 0 < xs.length := by rw [h1]; exact Nat.mul_pos hn hs
  have hcell := hc 0 _ (List.getElem?_eq_getElem hl)
  rw [Nat.add_zero, hb.cell] at hcell
  exact hk _ (List.mem_of_getElem? hcell) _ (List.getElem?_eq_getElem hl) rfl
theorem Sl.not_map {A : Option Addr} {n c s : Nat} {xs : List Value} {g : Nat} {es : Array MapEntry} {clock : Nat} (h : Sl w A n c s xs) (hs : 0 < s) (hm : w.heap[g]? = some (.map es clock)) (hn : 0 < n) {b o : Nat} (e : A = some ⟨b, o, none⟩) : b ≠ g := by
  rintro rfl
  obtain ⟨h1, _, _, h4⟩ := h
  obtain ⟨b', o', e', hc⟩ := h4 hn
  rw [e] at e'
  injection e' with e'
  injection e' with e1 e2
  subst e1 e2
  have hl : 0 < xs.length := by rw [h1]; exact Nat.mul_pos hn hs
  have hcell := hc 0 _ (List.getElem?_eq_getElem hl)
  simp [World.cell?, hm] at hcell
theorem Own.not_map {w0 : World} {e : TypeId} {s n : Nat} {v : Value} {xs : List Value} {g : Nat} {es : Array MapEntry} {clock : Nat} (h : Own w0 w e s v n xs) (hm : w.heap[g]? = some (.map es clock)) : v.ownBlock ≠ some g := by
  intro hv
  rcases h.1.2 with ⟨h1, _⟩ | ⟨g', cap, cur, hv', _, hh, _⟩
  · rw [h1] at hv; cases hv
  · have e1 : g' = g := by rw [hv'] at hv; exact Option.some.inj hv
    rw [e1, hm] at hh
    cases hh
theorem Own.not_blk {w0 : World} {e t : TypeId} {s n g : Nat} {v : Value} {xs cs : List Value} (h : Own w0 w e s v n xs) (hb : Blk w g t cs) (he : e ≠ t) : v.ownBlock ≠ some g := by
  intro hv
  rcases h.1.2 with ⟨h1, _⟩ | ⟨g', cap, cur, hv', _, hh, _⟩
  · rw [h1] at hv; cases hv
  · have e1 : g' = g := by rw [hv'] at hv; exact Option.some.inj hv
    rw [e1, hb] at hh
    injection hh with hh
    injection hh with _ h3
    exact he h3.symm
end
/-- append turns the slice's own block alone. -/
theorem Tch.kept {w0 w w' : World} {e : TypeId} {s n : Nat} {v v' : Value} {xs : List Value} (hk : Kept w w' v v') (h : Own w0 w' e s v' n xs) (hB : Below w0.heap.size w0 w) : Tch (fun b => v.ownBlock = some b) w w' :=
  ⟨⟨h.2.os.trans hB.os.symm, h.2.tape.trans hB.tape.symm, h.2.output.trans hB.output.symm, hk.2.1, fun k hk => by omega⟩, fun b hb hn => hk.1 b hb hn⟩
/-- A row of the call's own, cell by cell, with the room behind it. -/
theorem Own.opened {w0 w : World} {e : TypeId} {s n : Nat} {v : Value} {xs : List Value} (h : Own w0 w e s v n xs) (h0 : 0 < n) : ∃ g cap rest, v = .slice (some ⟨g, 0, none⟩) n cap ∧ w0.heap.size ≤ g ∧ Blk w g e (xs ++ rest) ∧ n ≤ cap ∧ cap ≤ 9223372036854775807 ∧ (xs ++ rest).length = cap * s := by
  rcases h.1.2 with ⟨_, h1⟩ | ⟨g, cap, cur, hv, hg, hh, hn, hm, hc, hx⟩
  · omega
  · have e1 : xs ++ cur.toList.drop (n * s) = cur.toList := by rw [← hx, List.take_append_drop]
    refine ⟨g, cap, cur.toList.drop (n * s), hv, hg, ?_, hn, hm, ?_⟩
    · unfold Blk
      rw [e1]
      simpa using hh
    · rw [e1]; simpa using hc
/-- .. and back. -/
theorem Blk.closed {w0 w : World} {e : TypeId} {s n g cap : Nat} {xs rest : List Value} (h : Blk w g e (xs ++ rest)) (hb : Below w0.heap.size w0 w) (hg : w0.heap.size ≤ g) (hn : n ≤ cap) (hm : cap ≤ 9223372036854775807) (hc : (xs ++ rest).length = cap * s) (hx : xs.length = n * s) : Own w0 w e s (.slice (some ⟨g, 0, none⟩) n cap) n xs :=
  ⟨⟨hx, .inr ⟨g, cap, (xs ++ rest).toArray, rfl, hg, h, hn, hm, by simpa using hc, by rw [← hx]; simp⟩⟩, hb⟩
theorem set_left (xs rest : List Value) (k : Nat) (u : Value) (hk : k < xs.length) : (xs ++ rest).set k u = xs.set k u ++ rest := by rw [List.set_append, if_pos hk]
theorem at_left {xs rest : List Value} {k : Nat} {u : Value} (h : xs[k]? = some u) : (xs ++ rest)[k]? = some u := by
  rw [List.getElem?_append_left (List.getElem?_eq_some_iff.1 h).1]; exact h
end Go.Proofs.YtcfbbgbjlgonpaaGreatDoor

/- Real suites: a nonce. No condition. -/
namespace Go.Proofs.YtcfbbgbjlgonpaaGreatDoor
open Go.RowKit
set_option linter.unusedVariables false
set_option linter.unusedSimpArgs false
def nonceL (seed : List UInt8) (d : Nat) : List UInt8 := (drawL seed d).take 16
theorem nonceL_len (seed : List UInt8) (d : Nat) : (nonceL seed d).length = 16 := by unfold nonceL; rw [List.length_take, drawL_len]; rfl
def RetNonce (w : World) (p : Nat) (seed : List UInt8) (d : Nat) (e : Ending) (w' : World) : Prop :=
  ∃ A, e = .returned (.slice A 16 16) ∧ Bs w' A 16 16 (nonceL seed d) ∧ Gr (w.setCell ⟨p, 1, none⟩ (.int .i64 ((d : Int) + 1))) w'
set_option maxRecDepth 100000 in
set_option maxHeartbeats 1000000 in
theorem bytes16_any (p : Nat) (A : Option Addr) (n c : Nat) (seed : List UInt8) (d : Nat) (w : World) (h : Src w p A n c seed d) (hn : n ≤ 50000) (hd : d < 100) (hK : ShaK w) (hp : p ≠ 1) :
    Calls Tryz.prog 45 #[.pointer (some ⟨p, 0, none⟩), .int .i64 16] w (RetNonce w p seed d) := by
  have HDR := Lib.hid (draw_any p A n c seed d w h hn hd hK hp)
  have HDL := Lib.hid (drawL_len seed d)
  clear h hK
  go_enter Tryz.func45, Tryz.ntmps45
  go_wp2_with fail
  go_step3
  go_wp2_with fail
  go_step3
  go_wp2_with fail
  refine wp_loop_rounds 1 ?_
  rw [rounds_succ]
  go_wp2_with fail
  refine HDR.out.mono ?_
  rintro e w3 ⟨A3, c3, rfl, s3, g3⟩
  rw [HDL.out] at s3
  rw [HDL.out]
  have S3 := Lib.hid s3; have G3 := Lib.hid g3
  have O3 : Hid (Own w3 w3 5 1 (.slice none 0 0) 0 []) := Own.nil _ _ _
  clear s3 g3
  go_wp2_with (at_builtin; refine wpList_cat rfl (.tmp 18) (.tmp 20) 28 rfl tBytes rfl O3.out rfl S3.out (one_bytes _) (by omega) ?_; intro v4 w4 own4; obtain ⟨A4, k4, rfl, sl4⟩ := own4.slice; have q4 := sl4.cap; have m4 := sl4.max; have O4 := Lib.hid own4; have S4 := Lib.hid sl4; clear own4 sl4)
  try rw [Exit.noGoto_ret]
  go_ret
  refine ⟨A4, rfl, ?_, Gr.trans G3.out O4.out.below⟩
  have := S4.out.upto (k := 16) (by omega)
  rw [List.nil_append, ← List.map_take] at this
  exact ⟨this.1, Nat.le_refl _, by decide, this.2.2.2⟩
end Go.Proofs.YtcfbbgbjlgonpaaGreatDoor
