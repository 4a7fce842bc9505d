import Derived.Test.YtbmijjodpdbbmaaDoorObDrawA
import Derived.Test.YtbmijjodpdbbmaaDoorObDigP
import Derived.Test.YtbmijjodpdbbmaaDoorObSmall
namespace Go.Proofs.YtbmijjodpdbbmaaDoor
open Go.RowKit Go.Lib
set_option linter.unusedVariables false

theorem Below.setBoth {B : Nat} {a b : World} (h : Below B a b) {p : Nat} (i : Nat) (x : Value) : Below B (a.setCell ⟨p, i, none⟩ x) (b.setCell ⟨p, i, none⟩ x) := by
  obtain ⟨h1, h2, h3, h4, h5⟩ := h
  refine ⟨h1, h2, h3, by simpa [World.setCell] using h4, fun k hk => ?_⟩
  have := h5 k hk
  by_cases e : k = p
  · subst e
    simp [World.setCell, Array.getElem?_modify, this]
  · rw [Below.heap_setCell b _ _ k e, Below.heap_setCell a _ _ k e]; exact this
theorem Below.setTwice {B : Nat} {a : World} (p i : Nat) (x y : Value) : Below B (a.setCell ⟨p, i, none⟩ y) ((a.setCell ⟨p, i, none⟩ x).setCell ⟨p, i, none⟩ y) := by
  refine ⟨rfl, rfl, rfl, by simp [World.setCell], fun k hk => ?_⟩
  by_cases e : k = p
  · subst e
    simp only [World.setCell, Array.getElem?_modify]
    cases a.heap[k]? with
    | none => simp
    | some o => cases o <;> simp
  · rw [Below.heap_setCell _ _ _ k e, Below.heap_setCell _ _ _ k e, Below.heap_setCell _ _ _ k e]
theorem setCell_size (a : World) (p : Addr) (x : Value) : (a.setCell p x).heap.size = a.heap.size := by simp [World.setCell]
/-- A row of the call's own, when a source below it is drawn from. -/
theorem Own.drawn {w wr w3 : World} {p : Nat} {x y : Value} {e : TypeId} {size n : Nat} {v : Value} {xs : List Value} (h : Own (w.setCell ⟨p, 1, none⟩ x) wr e size v n xs) (hp : p < w.heap.size) (hb : Below wr.heap.size (wr.setCell ⟨p, 1, none⟩ y) w3) : Own (w.setCell ⟨p, 1, none⟩ y) w3 e size v n xs := by
  have h1 : Own (w.setCell ⟨p, 1, none⟩ y) (wr.setCell ⟨p, 1, none⟩ y) e size v n xs := by
    refine ⟨?_, ?_⟩
    · rw [setCell_size]
      have := h.1
      rw [setCell_size] at this
      exact ownsRow_setCell_below this hp y
    · have h2 := Below.setBoth (p := p) h.2 1 y
      rw [setCell_size] at h2 ⊢
      exact (Below.setTwice p 1 x y).trans h2
  exact h1.mono (by rw [setCell_size]; exact hb)

/-- The tables that a draw reads. -/
def Tabs (w : World) : Prop := ShaK w ∧ Pow10 w
theorem Tabs.mono {w w' : World} (h : Tabs w) (hb : Below w.heap.size w w') : Tabs w' := ⟨h.1.mono hb, h.2.mono hb⟩
/-- p is no table. -/
def NoTab (p : Nat) : Prop := p ≠ 4 ∧ p ≠ 3
theorem Tabs.only {p : Nat} {w w' : World} (h : Tabs w) (ho : Only p w w') (hp : NoTab p) : Tabs w' :=
  ⟨h.1.only ho hp.1, h.2.of_block (ho.block (fun e => hp.2 e.symm) h.2.lt)⟩
theorem NoTab.of_ge {w : World} {p : Nat} (h : Tabs w) (hp : w.heap.size ≤ p) : NoTab p := ⟨by have := h.1.lt; omega, by have := h.2.lt; omega⟩

theorem drawS_len (i : Nat) (hi : i < 1000000) : (drawS i).length ≤ 1000006 := by unfold drawS; rw [List.length_append]; have := dec_len i; simp; omega
theorem print_dec (i : Nat) : printL (i : Int) = Lib.decDigits i := by unfold printL; rw [if_neg (by omega)]; simp
theorem at_any (A : Option Addr) (n c : Nat) (seed : List UInt8) (i : Nat) (w : World) (h : Bs w A n c seed) (hn : n ≤ 50000) (hi : i ≤ 4000) (hK : Tabs w) :
    Calls Tryd.prog 41 #[.slice A n c, .int .i64 i] w (RetRd w (drawL seed i)) := by
  have HH := Lib.hid h; have HK := Lib.hid hK; clear h hK
  have HS := Lib.hid (drawS_str i)
  have HPD := Lib.hid (print_dec i)
  have hdl := dec_len i
  have hl : (drawS i).length ≤ 4006 := by unfold drawS; rw [List.length_append]; have := dec_len i; simp; omega
  go_enter Tryd.func41, Tryd.ntmps41
  go_wp2_with (first
    | (go_at_call 66; refine (print_any (i : Int) _ (by omega) (by omega) HK.out.2).mono ?_; rintro e w1 ⟨rfl, b1⟩; rw [HPD.out]; have B1 := Lib.hid b1; clear b1)
    | (go_at_call 65; rw [HS.out]; refine (derive_any A n c seed (drawS i) _ (HH.out.mono B1.out) hn (by omega) (HK.out.1.mono B1.out)).mono ?_; rintro e w2 ⟨A2, c2, rfl, s2, b2⟩; have S2 := Lib.hid s2; have B2 := Lib.hid (below_both B1.out b2); clear s2 b2))
  go_ret
  exact ⟨A2, c2, rfl, S2.out, B2.out⟩
set_option maxRecDepth 100000 in
theorem drawG_any (p : Nat) (A : Option Addr) (n c : Nat) (seed : List UInt8) (d : Nat) (w : World) (h : Src w p A n c seed d) (hn : n ≤ 50000) (hd : d ≤ 4000) (hK : Tabs w) (hp : NoTab p) :
    Calls Tryd.prog 38 #[.pointer (some ⟨p, 0, none⟩)] w (RetRd (w.setCell ⟨p, 1, none⟩ (.int .i64 ((d : Int) + 1))) (drawL seed d)) := by
  have c0 : w.cell? ⟨p, 0, none⟩ = some (.slice A n c) := by rw [h.1.cell]; rfl
  have c1 : w.cell? ⟨p, 1, none⟩ = some (.int .i64 d) := by rw [h.1.cell]; rfl
  have f1 := h.1.free 1
  obtain ⟨W, hW⟩ : ∃ W, W = w.setCell ⟨p, 1, none⟩ (.int .i64 ((d : Int) + 1)) := ⟨_, rfl⟩
  have hS : Src W p A n c seed (d + 1) := by rw [hW]; exact h.draw
  have hKW : Tabs W := by rw [hW]; exact hK.only ⟨_, Below.refl _ _⟩ hp
  have d0 : W.cell? ⟨p, 0, none⟩ = some (.slice A n c) := by rw [hS.1.cell]; rfl
  have d1 : W.cell? ⟨p, 1, none⟩ = some (.int .i64 ((d : Int) + 1)) := by rw [hS.1.cell]; rfl
  have HS := Lib.hid hS; have HK := Lib.hid hKW; clear hS hKW h hK
  rw [← hW]
  have HW := Lib.hid hW; clear hW
  go_enter Tryd.func38, Tryd.ntmps38
  go_wp2_with fail
  rw [← HW.out]
  clear c0 c1 f1
  go_still_tail 9, (by kernel_rfl)
  change wpList _ _ _ _ _ W.drew
  go_wp2_with (go_at_call 41; refine (at_any A n c seed d _ (by exact HS.out.2.1.mono (Below.refl _ _).drew) hn hd (by exact HK.out.mono (Below.refl _ _).drew)).mono ?_; rintro e w2 ⟨A2, c2, rfl, s2, b2⟩; have B2 : Hid (Below W.heap.size W w2) := ((Below.refl W.heap.size W).drew).trans b2; have S2 := Lib.hid s2; clear s2 b2)
  go_ret
  exact ⟨A2, c2, rfl, S2.out, B2.out⟩
/-- k draws from the d-th on. -/
def drawsL (seed : List UInt8) (d : Nat) : Nat → List UInt8
  | 0 => []
  | k + 1 => drawsL seed d k ++ drawL seed (d + k)
theorem drawsL_len (seed : List UInt8) (d k : Nat) : (drawsL seed d k).length = 32 * k := by
  induction k with
  | zero => rfl
  | succ k ih => simp [drawsL, ih, drawL_len]; omega
/-- How many draws N bytes take. -/
def drawsOf (N : Nat) : Nat := (N + 31) / 32
def RetBytes (w : World) (p : Nat) (seed : List UInt8) (d N : Nat) (e : Ending) (w' : World) : Prop :=
  ∃ A c, e = .returned (.slice A N c) ∧ Bs w' A N c ((drawsL seed d (drawsOf N)).take N) ∧ Below w.heap.size (w.setCell ⟨p, 1, none⟩ (.int .i64 ((d + drawsOf N : Nat) : Int))) w'
theorem Src.set {w : World} {p : Nat} {A : Option Addr} {n c : Nat} {seed : List UInt8} {d : Nat} (h : Src w p A n c seed d) (m : Nat) : Src (w.setCell ⟨p, 1, none⟩ (.int .i64 (m : Int))) p A n c seed m :=
  ⟨h.1.set 1 _, h.2.1.keepB (fun b o e => Below.heap_setCell w _ _ b (h.2.2 b o e)), h.2.2⟩
theorem Src.same {w : World} {p : Nat} {A : Option Addr} {n c : Nat} {seed : List UInt8} {d : Nat} (h : Src w p A n c seed d) (B : Nat) : Below B (w.setCell ⟨p, 1, none⟩ (.int .i64 (d : Int))) w := by
  refine ⟨rfl, rfl, rfl, by simp [World.setCell], fun k hk => ?_⟩
  by_cases e : k = p
  · subst e
    have h1 : w.heap[k]? = some (.cells #[.slice A n c, .int .i64 (d : Int)] 99 (0, 0)) := h.1
    simp [World.setCell, Array.getElem?_modify, h1]
  · rw [Below.heap_setCell _ _ _ k e]
theorem Only.src' {p q : Nat} {w w' : World} (h : Only p w w') {A A' : Option Addr} {n c d n' c' d' : Nat} {l l' : List UInt8} (hs : Src w q A n c l d) (hp : Src w p A' n' c' l' d') (hq : q ≠ p) : Src w' q A n c l d := h.src hs hq (fun h0 => bs_far hs.2.1 h0 hp.1)
theorem Only.bs' {p : Nat} {w w' : World} (h : Only p w w') {A A' : Option Addr} {n c n' c' d' : Nat} {l l' : List UInt8} (hs : Bs w A n c l) (hp : Src w p A' n' c' l' d') : Bs w' A n c l := h.bs hs (fun h0 => bs_far hs h0 hp.1)
set_option maxRecDepth 100000 in
set_option maxHeartbeats 1000000 in
theorem bytes_any (p : Nat) (A : Option Addr) (n c : Nat) (seed : List UInt8) (d : Nat) (w : World) (h : Src w p A n c seed d) (hn : n ≤ 50000) (N : Nat) (h1 : 1 ≤ N) (h2 : N ≤ 4096) (hd : d ≤ 3000) (hK : Tabs w) (hp : NoTab p) :
    Calls Tryd.prog 36 #[.pointer (some ⟨p, 0, none⟩), .int .i64 (N : Int)] w (RetBytes w p seed d N) := by
  have hpl := h.1.lt
  have O0 : Hid (Own (w.setCell ⟨p, 1, none⟩ (.int .i64 ((d + 0 : Nat) : Int))) w 5 1 (.slice none 0 0) (32 * 0) ((drawsL seed d 0).map u8c)) := Own.nil' (by rw [setCell_size]; exact h.same _) _ _
  have HS := Lib.hid h; have HK := Lib.hid hK; clear h hK
  go_enter Tryd.func36, Tryd.ntmps36
  go_wp2_with fail
  go_step3
  go_wp2_with fail
  go_step3
  go_wp2_with fail
  go_loopw [4] (fun v wr => ∃ (k : Nat) (A' : Option Addr) (c' : Nat), v = .slice A' (32 * k) c' ∧ 32 * k < N ∧ Own (w.setCell ⟨p, 1, none⟩ (.int .i64 ((d + k : Nat) : Int))) wr 5 1 (.slice A' (32 * k) c') (32 * k) ((drawsL seed d k).map u8c) ∧ Src wr p A n c seed (d + k)) (fun v _ => 4096 - slN v)
  case atStart => exact ⟨0, none, 0, rfl, by omega, O0.out, HS.out⟩
  case round =>
    obtain ⟨k, A1, c1, rfl, hk, o1, s1⟩ := hrel
    have O1 := Lib.hid o1; have S1 := Lib.hid s1
    have K1 : Hid (Tabs wr) := HK.out.only ⟨_, by have := o1.below; rw [setCell_size] at this; exact this⟩ hp
    clear o1 s1
    go_wp2_with fail
    refine (drawG_any p A n c seed (d + k) _ S1.out hn (by omega) K1.out hp).mono ?_
    rintro e w3 ⟨A3, c3, rfl, s3, b3⟩
    rw [drawL_len] at s3 ⊢
    have S3 := Lib.hid s3
    have R3 : Hid (Src w3 p A n c seed (d + k + 1)) := S1.out.draw.mono b3
    have O3 : Hid (Own (w.setCell ⟨p, 1, none⟩ (.int .i64 ((d + (k + 1) : Nat) : Int))) w3 5 1 (.slice A1 (32 * k) c1) (32 * k) ((drawsL seed d k).map u8c)) := O1.out.drawn hpl (by
      rw [setCell_size] at b3
      exact b3)
    clear s3 b3
    have E4 : Hid ((drawsL seed d k).map u8c ++ (drawL seed (d + k)).map u8c = (drawsL seed d (k + 1)).map u8c) := by show _ = _; rw [← List.map_append]; rfl
    by_cases hlt : 32 * k + 32 < N
    · go_wp2_with (at_builtin; refine wpList_cat rfl (.tmp 18) (.tmp 20) 22 rfl tBytes rfl O3.out rfl S3.out (one_bytes _) (by omega) ?_; intro v4 w4 own4; obtain ⟨A4, k4, rfl, sl4⟩ := own4.slice; have q4 := sl4.cap; have m4 := sl4.max; have O4 := Lib.hid own4; have S4 := Lib.hid sl4; have BS4 : Hid (Src w4 p A n c seed (d + (k + 1))) := ((HS.out.set (d + (k + 1))).mono own4.below); clear own4 sl4)
      first | go_roundw | skip
      case rel => exact ⟨k + 1, A4, k4, rfl, by omega, by rw [← E4.out]; exact O4.out, BS4.out⟩
      case measure => simp [slN]; omega
    · go_wp2_with (at_builtin; refine wpList_cat rfl (.tmp 18) (.tmp 20) 22 rfl tBytes rfl O3.out rfl S3.out (one_bytes _) (by omega) ?_; intro v4 w4 own4; obtain ⟨A4, k4, rfl, sl4⟩ := own4.slice; have q4 := sl4.cap; have m4 := sl4.max; have O4 := Lib.hid own4; have S4 := Lib.hid sl4; have BS4 : Hid (Src w4 p A n c seed (d + (k + 1))) := ((HS.out.set (d + (k + 1))).mono own4.below); clear own4 sl4)
      rw [Exit.noGoto_ret]
      go_ret
      have hN : drawsOf N = k + 1 := by unfold drawsOf; omega
      refine ⟨A4, N, rfl, ?_, ?_⟩
      · have := (S4.out.upto (k := N) (by omega))
        rw [E4.out, ← List.map_take, ← hN] at this
        exact ⟨this.1, Nat.le_refl _, by simp only [maxLen]; omega, this.2.2.2⟩
      · rw [hN]
        have := O4.out.below
        rw [setCell_size] at this
        exact this
end Go.Proofs.YtbmijjodpdbbmaaDoor
