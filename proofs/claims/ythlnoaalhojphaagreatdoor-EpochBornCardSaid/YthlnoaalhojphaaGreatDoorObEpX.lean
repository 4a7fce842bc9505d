/- Epochs of real suites: what is born, or nothing. No condition. -/
import Derived.Test.YthlnoaalhojphaaGreatDoorObEpO
import Derived.Outline
namespace Go.Proofs.YthlnoaalhojphaaGreatDoor
open Go.RowKit
set_option linter.unusedVariables false
def noB : Brt := ⟨[], [], []⟩
/-- A birth, whatever it is, and why there is none. -/
def RetBi (w : World) (f : Int) (b : Brt) (e : Ending) (w' : World) : Prop := ∃ (A1 : Option Addr) (n1 c1 : Nat) (A2 : Option Addr) (n2 c2 : Nat) (A3 : Option Addr) (c3 : Nat) (M : List BRow), e = .returned (.tuple #[.agg #[.slice A1 n1 c1, .slice A2 n2 c2, .slice A3 b.ch.length c3], .int .i64 f]) ∧ Bs w' A1 n1 c1 b.ex ∧ Bs w' A2 n2 c2 b.ini ∧ Chr w' A3 b.ch.length c3 M ∧ M.map BRow.l = b.ch ∧ Gr w w'
/-- A birth of the reference. -/
def RetRi (w : World) (b : Brt) (e : Ending) (w' : World) : Prop := ∃ (A1 : Option Addr) (n1 c1 : Nat) (A2 : Option Addr) (n2 c2 : Nat) (A3 : Option Addr) (c3 : Nat) (R : List CRow), e = .returned (.agg #[.slice A1 n1 c1, .slice A2 n2 c2, .slice A3 b.ch.length c3]) ∧ Bs w' A1 n1 c1 b.ex ∧ Bs w' A2 n2 c2 b.ini ∧ Rch w' A3 b.ch.length c3 R ∧ R.map (fun r => r.x.l) = b.ch ∧ Gr w w'
theorem RetRb.ri {w w' : World} {b : Brt} {e : Ending} (h : RetRb w b e w') : RetRi w b e w' := by
  obtain ⟨A1, c1, A2, c2, A3, c3, R, rfl, h1, h2, h3, h4, h5⟩ := h
  have hl : R.length = b.ch.length := by rw [← h4, List.length_map]
  rw [hl] at h3 ⊢
  exact ⟨A1, 32, c1, A2, 32, c2, A3, c3, R, rfl, h1, h2, h3, h4, h5⟩
theorem RetNoB.bi {w w' : World} {f : Int} {e : Ending} (h : RetNoB f w e w') : RetBi w f noB e w' := by
  obtain ⟨rfl, g⟩ := h
  exact ⟨none, 0, 0, none, 0, 0, none, 0, [], rfl, Sl.nil _ _, Sl.nil _ _, ⟨Sl.nil _ _, rfl, fun x hx => by cases hx⟩, rfl, g⟩
theorem chR (w0 : World) (p : Nat) (hK : ShaK w0) (k : List UInt8) : ∀ n, (chS (realSui w0 p hK) k () n).2 = (List.range n).map fun j => deriveL k (senderS j)
  | 0 => rfl
  | n + 1 => by
    show (chS (realSui w0 p hK) k () n).2 ++ [deriveL k (senderS n)] = _
    rw [chR w0 p hK k n, List.range_succ, List.map_append]
    rfl
theorem bornS_R (w0 : World) (p : Nat) (hK : ShaK w0) (k : List UInt8) (n : Nat) : (bornS (realSui w0 p hK) () k n).2 = bornR k n := by
  unfold bornS bornR
  have := chR w0 p hK k n
  show Brt.mk _ _ (chS (realSui w0 p hK) k () n).2 = _
  rw [this]
  rfl
theorem RetB.bi {w w' : World} {p m : Nat} (hK : ShaK w) {r : (realSui w p hK).σ × Brt} {b : Brt} {e : Ending} (h : RetB (realSui w p hK) w r m e w') (hb : r.2 = b) : RetBi w 0 b e w' := by
  obtain ⟨ve, vi, vc, M, rfl, ke, ki, ch, ml, st, fs⟩ := h
  subst hb
  have hg : Gr w w' := st.2
  obtain ⟨A1, c1, rfl, s1, _⟩ := ke.at hg
  obtain ⟨A2, c2, rfl, s2, _⟩ := ki.at hg
  obtain ⟨A3, c3, rfl, s3⟩ := ch.chr hg hg.size
  have hl : M.length = r.2.ch.length := by rw [← ml, List.length_map]
  rw [hl] at s3 ⊢
  exact ⟨A1, _, c1, A2, _, c2, A3, c3, M, rfl, s1, s2, s3, ml, hg⟩
theorem why_zero {snd : Int} {L : List BRow} (h : whyL snd L = 0) : (1 ≤ snd ∧ snd ≤ 4) ∧ ∀ x ∈ L, x.n = 32 := by
  unfold whyL at h
  by_cases h1 : snd < 1 ∨ 4 < snd
  · rw [if_pos h1] at h; cases h
  · rw [if_neg h1] at h
    refine ⟨by omega, fun x hx => ?_⟩
    by_cases h2 : L.any oddK = true
    · rw [if_pos h2] at h; cases h
    · have := List.any_eq_false.1 (by simpa using h2) x hx
      unfold oddK at this
      simp at this
      omega
section
variable {w : World} {gs : Nat} (hR : RealB w gs) (hK : ShaK w)
include hR hK
theorem firstBi_any (A : Option Addr) (n c : Nat) (l : List UInt8) (snd : Int) (hb : Bs w A n c l) (f : Int) (hf : whyL snd [⟨A, n, c, l⟩] = f) :
    Calls Tryz.prog 7 #[.pointer (some ⟨gs, 0, none⟩), .slice A n c, .int .i64 snd] w (RetBi w f (if f = 0 then bornR (deriveL l joinS) snd.toNat else noB)) := by
  by_cases h0 : f = 0
  · subst h0
    rw [if_pos rfl]
    obtain ⟨⟨h1, h4⟩, h32⟩ := why_zero hf
    obtain rfl : n = 32 := h32 _ List.mem_cons_self
    obtain ⟨k, rfl⟩ : ∃ k : Nat, snd = k := ⟨snd.toNat, by omega⟩
    refine (epFirst_any (w0 := w) (realSui w gs hK) () 0 k (.slice A 32 c) l (by omega) (by omega) ⟨hR, Below.refl _ _⟩ (Kp.arg hb) hb.len).mono fun e w' h => ?_
    exact RetB.bi hK h (bornS_R w gs hK _ k)
  · rw [if_neg h0]
    exact (firstNo_any 0 snd gs A n c l w f hf h0).mono fun e w' h => RetNoB.bi h
theorem nextBi_any (A B : Option Addr) (n c m d : Nat) (l k : List UInt8) (snd : Int) (hb : Bs w A n c l) (hb2 : Bs w B m d k) (f : Int) (hf : whyL snd [⟨A, n, c, l⟩, ⟨B, m, d, k⟩] = f) :
    Calls Tryz.prog 8 #[.pointer (some ⟨gs, 0, none⟩), .slice A n c, .slice B m d, .int .i64 snd] w (RetBi w f (if f = 0 then bornR (deriveL (macL l k) joinS) snd.toNat else noB)) := by
  by_cases h0 : f = 0
  · subst h0
    rw [if_pos rfl]
    obtain ⟨⟨h1, h4⟩, h32⟩ := why_zero hf
    obtain rfl : n = 32 := h32 ⟨A, n, c, l⟩ List.mem_cons_self
    obtain rfl : m = 32 := h32 ⟨B, m, d, k⟩ (List.mem_cons_of_mem _ List.mem_cons_self)
    obtain ⟨q, rfl⟩ : ∃ q : Nat, snd = q := ⟨snd.toNat, by omega⟩
    refine (epNext_any (w0 := w) (realSui w gs hK) () 0 q (.slice A 32 c) (.slice B 32 d) l k (by omega) (by omega) ⟨hR, Below.refl _ _⟩ (Kp.arg hb) (Kp.arg hb2) hb.len hb2.len).mono fun e w' h => ?_
    exact RetB.bi hK h (bornS_R w gs hK _ q)
  · rw [if_neg h0]
    exact (nextNo_any snd gs A B n c m d l k w f hf h0).mono fun e w' h => RetNoB.bi h
theorem bornBi_any (A : Option Addr) (n c : Nat) (l : List UInt8) (snd : Int) (hb : Bs w A n c l) (f : Int) (hf : whyL snd [⟨A, n, c, l⟩] = f) :
    Calls Tryz.prog 9 #[.pointer (some ⟨gs, 0, none⟩), .slice A n c, .int .i64 snd] w (RetBi w f (if f = 0 then bornR l snd.toNat else noB)) := by
  by_cases h0 : f = 0
  · subst h0
    rw [if_pos rfl]
    obtain ⟨⟨h1, h4⟩, h32⟩ := why_zero hf
    obtain rfl : n = 32 := h32 _ List.mem_cons_self
    obtain ⟨k, rfl⟩ : ∃ k : Nat, snd = k := ⟨snd.toNat, by omega⟩
    refine (born_any (w0 := w) (realSui w gs hK) () 0 k (.slice A 32 c) l (by omega) (by omega) ⟨hR, Below.refl _ _⟩ (Kp.arg hb) hb.len).mono fun e w' h => ?_
    exact RetB.bi hK h (bornS_R w gs hK l k)
  · rw [if_neg h0]
    exact (bornNo_any snd gs A n c l w f hf h0).mono fun e w' h => RetNoB.bi h
end
/-- Back, of a birth whatever it is. -/
theorem backBi_any (A1 A2 A3 : Option Addr) (n1 c1 n2 c2 c3 : Nat) (b : Brt) (M : List BRow) (w : World) (h1 : Bs w A1 n1 c1 b.ex) (h2 : Bs w A2 n2 c2 b.ini) (h3 : Chr w A3 b.ch.length c3 M) (hm : M.map BRow.l = b.ch) (hl : b.ch.length ≤ 100) :
    Calls Tryz.prog 12 #[.agg #[.slice A1 n1 c1, .slice A2 n2 c2, .slice A3 b.ch.length c3]] w (RetRi w b) := by
  refine (back34_any A1 A2 A3 n1 c1 n2 c2 b.ch.length c3 M w h3 hl).mono fun e w' h => ?_
  obtain ⟨A, c, R, rfl, hr, hx, hg⟩ := h.rch (fun x hx => (h3.2.2 x hx).2)
  have hll : M.length = b.ch.length := by rw [← hm, List.length_map]
  rw [hll] at hr ⊢
  refine ⟨A1, n1, c1, A2, n2, c2, A, c, R, rfl, h1.mono hg, h2.mono hg, hr, ?_, hg⟩
  have : R.map (fun r => r.x.l) = (R.map CRow.x).map BRow.l := by rw [List.map_map]; rfl
  rw [this, hx]
  exact hm
theorem bornR_len (k : List UInt8) (n : Nat) : (bornR k n).ch.length = n := by unfold bornR; simp
end Go.Proofs.YthlnoaalhojphaaGreatDoor
