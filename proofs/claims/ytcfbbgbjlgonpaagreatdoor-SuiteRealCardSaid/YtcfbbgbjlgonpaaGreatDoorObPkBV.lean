/- Own texts of this claim, one behind the other. No condition. -/
import Derived.Test.YtcfbbgbjlgonpaaGreatDoorObPkBS
import Derived.Test.YtcfbbgbjlgonpaaGreatDoorObPkBT
import Derived.Test.YtcfbbgbjlgonpaaGreatDoorObPkBU

/- Acts one behind the other on a real suite, and on the document's: what stands. No condition. -/
namespace Go.Proofs.YtcfbbgbjlgonpaaGreatDoor
open Go.RowKit
set_option linter.unusedVariables false
set_option linter.unusedSimpArgs false
section
variable {g p : Nat} {A0 : Option Addr} {n0 c0 : Nat} {seed : List UInt8} {SA : Option Addr} {sn sc d : Nat}
theorem do_any (k i j : Int) (x y : BRow) (s : List UInt8) (a b : BRow) (w : World) (re : RealW w g p A0 n0 c0 seed d) (sd : Bs w SA sn sc seed) (ba : a.ok w) (bb : b.ok w) (sk : ShaK w) (hsn : sn ≤ 1000) (hn0 : n0 ≤ 1000) (hd : d < 50) (hqa : a.n ≤ 20000) (hqb : b.n ≤ 20000) (hsl : s.length ≤ 5000) :
    Calls Tryz.prog 28 #[.pointer (some ⟨g, 0, none⟩), xv SA sn sc d, xact k i j x y s, a.v, b.v] w (RetDo w g p A0 n0 c0 seed SA sn sc d b) := by
  by_cases h : 0 ≤ k ∧ k ≤ 5
  · rcases (by omega : k = 0 ∨ k = 1 ∨ k = 2 ∨ k = 3 ∨ k = 4 ∨ k = 5) with rfl | rfl | rfl | rfl | rfl | rfl
    · exact do_draw i j x y s a b w re sd ba bb sk hsn hn0 hd hqa hqb
    · by_cases h32 : a.n = 32
      · exact do_seal i j x y s a b w re sd ba bb sk hsn hn0 hd hqa hqb h32
      · exact do_seal_not i j x y s a b w re sd ba bb sk hsn hn0 hd hqa hqb h32
    · by_cases h32 : a.n = 32 ∧ 48 ≤ b.n
      · exact do_open i j x y s a b w re sd ba bb sk hsn hn0 hd hqa hqb h32.1 h32.2
      · exact do_open_not i j x y s a b w re sd ba bb sk hsn hn0 hd hqa hqb (by omega)
    · exact do_derive i j x y s a b w re sd ba bb sk hsn hn0 hd hqa hqb hsl
    · exact do_mix i j x y s a b w re sd ba bb sk hsn hn0 hd hqa hqb
    · exact do_sum i j x y s a b w re sd ba bb sk hsn hn0 hd hqa hqb
  · exact do_check k i j x y s a b w re sd ba bb sk hsn hn0 hd hqa hqb h
end
theorem noU8_row {cs : List Value} (hn : NoU8 cs) (l : List UInt8) : ∀ u ∈ cs, ∀ y, (l.map u8c)[0]? = some y → u ≠ y := fun u hu y hy => by
  rw [List.getElem?_map] at hy
  obtain ⟨z, _, rfl⟩ := Option.map_eq_some_iff.1 hy
  exact hn u hu z
theorem BRow.tch {w w' : World} {S : Nat → Prop} {r : BRow} (h : r.ok w) (T : Tch S w w') (hn : ∀ b, S b → ∃ t cs, Blk w b t cs ∧ NoU8 cs) : r.ok w' :=
  Sl.tch h (by decide) T (fun h0 b o e hs => by
    obtain ⟨t, cs, hk, hno⟩ := hn b hs
    exact Sl.not_blk h (by decide) hk (noU8_row hno _) h0 e rfl)
theorem Gath.tch {w0 w w' : World} {S : Nat → Prop} {v : Value} {R : List BRow} (h : Gath w0 w 28 v R) (T : Tch S w w') (hB : ∀ b, S b → w0.heap.size ≤ b) (hn : ∀ b, S b → ∃ t cs, Blk w b t cs ∧ NoU8 cs ∧ t ≠ 28) : Gath w0 w' 28 v R :=
  ⟨Own.tch h.1 T hB (fun b hb hs => by
    obtain ⟨t, cs, hk, _, ht⟩ := hn b hs
    exact Own.not_blk h.1 hk ht.symm hb), fun r hr => ⟨BRow.tch (r := r) (h.2 r hr).1 T (fun b hs => by obtain ⟨t, cs, hk, hno, _⟩ := hn b hs; exact ⟨t, cs, hk, hno⟩), (h.2 r hr).2⟩⟩
theorem Apart.fresh {w0 w : World} {e : TypeId} {size n : Nat} {v : Value} {xs : List Value} {r : BRow} (h : Own w0 w e size v n xs) (hf : FreshR w r.a r.n) : Apart v r := fun b o hn ea hv => by
  have h1 := hf b o hn ea
  rcases h.1.2 with h2 | ⟨g, cap, cur, hv2, hg, hk, _⟩
  · rw [h2.1] at hv
    cases hv
  · rw [hv2] at hv
    have e2 : g = b := by
      have : Value.ownBlock (.slice (some ⟨g, 0, none⟩) n cap) = some g := rfl
      rw [this] at hv
      injection hv
    have := (Array.getElem?_eq_some_iff.1 hk).1
    omega
theorem src_no (A : Option Addr) (n c : Nat) (d : Nat) : NoU8 [.slice A n c, .int .i64 (d : Int)] := fun u hu x e => by
  subst e
  simp [u8c] at hu
structure PS (w0 : World) (h g p : Nat) (A0 : Option Addr) (n0 c0 : Nat) (seed : List UInt8) (SA : Option Addr) (sn sc k d : Nat) (v : Value) (R : List BRow) (W : World) : Prop where
  gr : Gr w0 W
  re : RealW W g p A0 n0 c0 seed d
  x : Xk W h (xs SA sn sc d)
  ga : Gath w0 W 28 v R
  hr : ∀ r ∈ R, r.n ≤ 200 + 48 * k
  hd : d ≤ k
  hl : R.length = k
  h0 : w0.heap.size ≤ h
  p0 : w0.heap.size ≤ p
  hg : g ≠ h
  asd : Apart v ⟨A0, n0, c0, seed⟩
  ag : v.ownBlock ≠ some g
section
variable {w0 : World} {h g p : Nat} {A0 : Option Addr} {n0 c0 : Nat} {seed : List UInt8} {SA : Option Addr} {sn sc k d : Nat} {v : Value} {R : List BRow} {W : World}
theorem PS.mono (q : PS w0 h g p A0 n0 c0 seed SA sn sc k d v R W) {W' : World} (e : Gr W W') : PS w0 h g p A0 n0 c0 seed SA sn sc k d v R W' :=
  ⟨q.gr.trans e, q.re.mono e, e.blk q.x, q.ga.mono e, q.hr, q.hd, q.hl, q.h0, q.p0, q.hg, q.asd, q.ag⟩
theorem PS.hp (q : PS w0 h g p A0 n0 c0 seed SA sn sc k d v R W) : h ≠ p := Blk.ne_ty q.x q.re.src.1 (by decide)
end
/-- Behind an act: xa: the document's suite as it lies at h. -/
structure PT (w0 : World) (h g p : Nat) (A0 : Option Addr) (n0 c0 : Nat) (seed : List UInt8) (SA : Option Addr) (sn sc d' : Nat) (v : Value) (R : List BRow) (rw_ : BRow) (xa : List Value) (W : World) : Prop where
  gr : Gr w0 W
  re : RealW W g p A0 n0 c0 seed d'
  x : Xk W h xa
  ga : Gath w0 W 28 v R
  rk : rw_.ok W
  ap : Apart v rw_
  h0 : w0.heap.size ≤ h
  hg : g ≠ h
  asd : Apart v ⟨A0, n0, c0, seed⟩
  ag : v.ownBlock ≠ some g
section
variable {w0 : World} {h g p : Nat} {A0 : Option Addr} {n0 c0 : Nat} {seed : List UInt8} {SA : Option Addr} {sn sc k d d' : Nat} {v : Value} {R : List BRow} {W : World} {rw_ : BRow} {xa : List Value}
theorem PT.mono (q : PT w0 h g p A0 n0 c0 seed SA sn sc d' v R rw_ xa W) {W' : World} (e : Gr W W') : PT w0 h g p A0 n0 c0 seed SA sn sc d' v R rw_ xa W' :=
  ⟨q.gr.trans e, q.re.mono e, e.blk q.x, q.ga.mono e, Sl.mono q.rk e, q.ap, q.h0, q.hg, q.asd, q.ag⟩
theorem PT.hp (q : PT w0 h g p A0 n0 c0 seed SA sn sc d' v R rw_ xa W) : h ≠ p := Blk.ne_ty q.x q.re.src.1 (by decide)
theorem PS.acted (q : PS w0 h g p A0 n0 c0 seed SA sn sc k d v R W) {W6 : World} (T : Tch (fun u => u = p) W W6) (re : RealW W6 g p A0 n0 c0 seed d') {b : Nat} (hb : Xk W6 b xz) (hbn : W.heap.size ≤ b) (hw : rw_.ok W6) (hf : FreshR W rw_.a rw_.n) :
    PT w0 h g p A0 n0 c0 seed SA sn sc d' v R rw_ (xs SA sn sc d) (W6.setRow b (xs SA sn sc d').toArray) ∧ Xk (W6.setRow b (xs SA sn sc d').toArray) b (xs SA sn sc d') := by
  have hlt := Blk.lt q.x
  have hbh : b ≠ h := by omega
  have hgl : g < W.heap.size := World.block_lt_of_cell? W _ q.re.s
  have hpl := q.re.src.1.lt
  have x6 : Xk W6 h (xs SA sn sc d) := Blk.tch q.x T q.hp
  have g6 : Gr w0 W6 := T.below q.gr q.gr.size (fun u e => e ▸ q.p0)
  have ga6 : Gath w0 W6 28 v R := q.ga.tch T (fun u e => e ▸ q.p0) (fun u e => by subst e; exact ⟨_, _, q.re.src.1, src_no _ _ _ _, by decide⟩)
  have hb0 : w0.heap.size ≤ b := Nat.le_trans q.gr.size hbn
  have T6 : Tch (fun u => u = b) W6 (W6.setRow b (xs SA sn sc d').toArray) := Tch.rowC b _ rfl
  refine ⟨⟨T6.below g6 g6.size (fun u e => e ▸ hb0), re.far hb xz_not (by omega) (by omega) _, Blk.tch x6 T6 (fun e => hbh e.symm), ga6.tch T6 (fun u e => e ▸ hb0) (fun u e => by subst e; exact ⟨_, _, hb, xz_not, by decide⟩), BRow.tch (r := rw_) hw T6 (fun u e => by subst e; exact ⟨_, _, hb, xz_not⟩), Apart.fresh q.ga.1 hf, q.h0, q.hg, q.asd, q.ag⟩, hb.row _⟩
theorem PT.stored (q : PT w0 h g p A0 n0 c0 seed SA sn sc d' v R rw_ xa W) (hx : NoU8 xa) : PT w0 h g p A0 n0 c0 seed SA sn sc d' v R rw_ (xs SA sn sc d') (W.setRow h (xs SA sn sc d').toArray) := by
  have T7 : Tch (fun u => u = h) W (W.setRow h (xs SA sn sc d').toArray) := Tch.rowC h _ rfl
  exact ⟨T7.below q.gr q.gr.size (fun u e => e ▸ q.h0), q.re.far q.x hx q.hg (fun e => q.hp e.symm) _, q.x.row _, q.ga.tch T7 (fun u e => e ▸ q.h0) (fun u e => by subst e; exact ⟨_, _, q.x, hx, by decide⟩), BRow.tch (r := rw_) q.rk T7 (fun u e => by subst e; exact ⟨_, _, q.x, hx⟩), q.ap, q.h0, q.hg, q.asd, q.ag⟩
theorem RealW.kept {W' : World} {v' : Value} (q : RealW W g p A0 n0 c0 seed d') (hk : Kept W W' v v') (ha : Apart v ⟨A0, n0, c0, seed⟩) (hp : v.ownBlock ≠ some p) (hg : v.ownBlock ≠ some g) : RealW W' g p A0 n0 c0 seed d' ∧ Apart v' ⟨A0, n0, c0, seed⟩ := by
  obtain ⟨h1, h2⟩ := Bs.kept (r := ⟨A0, n0, c0, seed⟩) q.src.2.1 hk ha
  have eg := hk.1 g (World.block_lt_of_cell? W _ q.s) hg
  exact ⟨⟨(World.cell?_of_block eg).trans q.s, ⟨(hk.1 p q.src.1.lt hp).trans q.src.1, h1, q.src.2.2⟩, q.ne, q.np, (World.cell?_of_block eg).trans q.t0⟩, h2⟩
theorem PT.pushed (q : PT w0 h g p A0 n0 c0 seed SA sn sc d' v R rw_ (xs SA sn sc d') W) {cs : Array Value} {v' : Value} {W' : World} (ho : Own w0 W' 28 1 v' (R.length + 1) (R.map BRow.v ++ [rw_.v])) (hk : Kept (W.alloc (.cells cs 28)) W' v v') (hr : ∀ r ∈ R, r.n ≤ 200 + 48 * k) (hrn : rw_.n ≤ 200 + 48 * (k + 1)) (hd : d' ≤ k + 1) (hl : R.length = k) (hp0 : w0.heap.size ≤ p) :
    PS w0 h g p A0 n0 c0 seed SA sn sc (k + 1) d' v' (R ++ [rw_]) W' := by
  have G := Gr.alloc W (.cells cs 28)
  have np : v.ownBlock ≠ some p := Own.not_blk q.ga.1 q.re.src.1 (by decide)
  have nh : v.ownBlock ≠ some h := Own.not_blk q.ga.1 q.x (by decide)
  obtain ⟨r1, r2⟩ := RealW.kept (q.re.mono G) hk q.asd np q.ag
  have hgl : g < W.heap.size := World.block_lt_of_cell? W _ q.re.s
  refine ⟨ho.below, r1, (hk.1 h (Blk.lt (G.blk q.x)) nh).trans (G.blk q.x), q.ga.push q.rk q.ap ho hk, fun r hm => ?_, hd, by rw [List.length_append, hl]; rfl, q.h0, hp0, q.hg, r2, fun e => ?_⟩
  · rcases List.mem_append.1 hm with hm | hm
    · have := hr r hm; omega
    · obtain rfl : r = rw_ := by simpa using hm
      exact hrn
  · rcases hk.2.2 with h1 | h1
    · exact q.ag (h1.symm.trans e)
    · rw [h1] at e
      injection e with e
      have := G.size
      omega
end
end Go.Proofs.YtcfbbgbjlgonpaaGreatDoor
