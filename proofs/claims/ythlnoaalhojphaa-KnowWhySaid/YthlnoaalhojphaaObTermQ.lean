/- made: both tables of the same acts. No condition. -/
import Derived.Test.YthlnoaalhojphaaObTermP
namespace Go.Proofs.Ythlnoaalhojphaa
open Go.RowKit
set_option linter.unusedVariables false
/-- Both tables. -/
structure Two (w0 w : World) (g bm : Nat) (T : List Nd) (vl vs vx : Value) : Prop where
  f : TbF w0 w g T vl vs bm
  r : RTo w0 w vx T
def RetMade (w0 : World) (T : List Nd) (e : Ending) (w' : World) : Prop := ∃ g bm vl vs vx, e = .returned (.tuple #[.pointer (some ⟨g, 0, none⟩), vx]) ∧ Two w0 w' g bm T vl vs vx
set_option maxHeartbeats 1000000 in
theorem made_any (A : Option Addr) (n c : Nat) (L : List Ac) (w : World) (h : Rs Ac.cells 4 w A n c L) (hok : ∀ x ∈ L, x.ok) (hn : n ≤ 1000) :
    Calls Try.prog 8 #[.slice A n c] w (RetMade w (madeT L)) := by
  have HG : Hid (∀ k, k ≤ 1000 → TGood (madeT (L.take k)) k) := madeT_good L hok
  have HS : Hid (∀ k x, L[k]? = some x → madeT (L.take (k + 1)) = stepT (madeT (L.take k)) x) := madeT_snoc L
  have HL := Lib.hid h.1
  have HH := Lib.hid h; have HOK := Lib.hid hok
  have hmax := h.max
  have hcap := h.cap
  clear h hok
  go_enter Try.func8, Try.ntmps8
  go_wp2_with fail
  refine (termNew_any w).mono ?_
  rintro e w1 ⟨g, bm, rfl, hf0, hg0⟩
  have HF0 := Lib.hid hf0
  clear hf0 hg0
  go_wp2_with fail
  go_loopw [5, 6] (fun x i wr => ∃ (k : Nat) (vl vs : Value), k ≤ n ∧ i = .int .i64 k ∧ Two w wr g bm (madeT (L.take k)) vl vs x) (fun _ i _ => n - (Go.RowKit.intOf i).toNat)
  case atStart => exact ⟨0, _, _, Nat.zero_le _, rfl, HF0.out, Own.nil' HF0.out.below _ _⟩
  case round =>
    obtain ⟨k, vl, vs, hk, rfl, htw⟩ := hrel
    have HT := Lib.hid htw; clear htw HF0
    by_cases hlt : k < n
    · obtain ⟨b, o, y, rfl, hy, c0, c1, c2, c3⟩ := Ac.row (HH.out.mono HT.out.f.below) hlt
      have HY := Lib.hid hy; clear hy
      have HD := Lib.hid (do_any w g (madeT (L.take k)) vl vs bm y.k y.a y.b y.s wr HT.out.f ((HG.out k (by omega)).i.ok (Nat.le_trans (HG.out k (by omega)).l (by omega))) (HOK.out y (List.mem_of_getElem? HY.out)).2.2.2)
      have t0 : decide ((k : Int) < (n : Int)) = true := decide_eq_true (by omega)
      go_wp2_with fail
      refine HD.out.mono ?_
      rintro e w2 ⟨vl', vs', rfl, hf, hc⟩
      have hr := HT.out.r.chg HT.out.f hc hf.below
      have HF := Lib.hid hf
      obtain ⟨b', o', y', e', hy', d0, d1, d2, d3⟩ := Ac.row (HH.out.mono hf.below) hlt
      obtain ⟨rfl, rfl⟩ : b = b' ∧ o = o' := by injection e' with e'; injection e' with e1 e2; exact ⟨e1, e2⟩
      obtain rfl : y = y' := Option.some.inj (HY.out.symm.trans hy')
      have HO := Lib.hid (refOf_any w (madeT (L.take k)) u5 y.k y.a y.b y.s w2 hr (Nat.le_trans (HG.out k (by omega)).l (by omega)) (HG.out k (by omega)).z)
      have HR := Lib.hid hr
      clear hf hc hr e' hy' c0 c1 c2 c3 HD
      go_wp2_with fail
      refine HO.out.mono ?_
      rintro e w3 ⟨vx', rfl, hr3, ht3⟩
      have HR3 := Lib.hid hr3; have HT3 := Lib.hid ht3
      clear hr3 ht3 d0 d1 d2 d3
      go_wp2_with fail
      refine ⟨⟨k + 1, vl', vs', hlt, by simp, ?_⟩, by simp [Go.RowKit.intOf]; omega⟩
      rw [HS.out k y HY.out]
      exact ⟨HF.out.turn HR.out HT3.out HR3.out.below, HR3.out⟩
    · obtain rfl : k = n := by omega
      have t0 : decide ((k : Int) < (k : Int)) = false := by simp
      have HE : Hid (L.take k = L) := List.take_of_length_le (by rw [HL.out]; exact Nat.le_refl _)
      go_wp2_with fail
      go_ret2
      refine ⟨g, bm, vl, vs, u5, rfl, ?_⟩
      have := HT.out
      rwa [HE.out] at this
end Go.Proofs.Ythlnoaalhojphaa
