/- Own texts of this claim, one behind the other. No condition. -/
import Derived.Test.YtcfbbgbjlgonpaaGreatDoorObPkAB
import Derived.Test.YtcfbbgbjlgonpaaGreatDoorObPkAT
import Derived.Test.YtcfbbgbjlgonpaaGreatDoorObPkAU

/- Suites of terms: Seal that is refused; Handle, Terms. No condition. -/
namespace Go.Proofs.YtcfbbgbjlgonpaaGreatDoor
open Go.RowKit
set_option linter.unusedVariables false
set_option linter.unusedSimpArgs false
set_option maxRecDepth 100000 in
set_option maxHeartbeats 1000000 in
theorem tSeal_not (A B D E : Option Addr) (n c m e0 q0 f q1 f1 : Nat) (w : World) (hq : q0 ≠ 32) (h1 : q0 ≤ f) (h2 : f ≤ 9223372036854775807) :
    Calls Tryz.prog 65 #[tv A n c B m e0, .slice D q0 f, .slice E q1 f1] w fun e w' => e = .returned (.tuple #[tv A n c B m e0, .slice none 0 0]) ∧ Gr w w' := by
  obtain ⟨W, hW⟩ : ∃ W, W = tw2 w A n c B m e0 := ⟨_, rfl⟩
  have M0 := Lib.hid (tw2_m w A n c B m e0)
  rw [← hW] at M0
  unfold tw2 at hW
  have HW := Lib.hid hW
  have t1 : ((q0 : Int) != 32) = true := by rw [bne_iff_ne]; omega
  unfold tv
  show Calls _ _ #[.agg #[.bool false, .slice none 0 0, .int .i64 0, .slice A n c, .slice B m e0], _, _] _ _
  clear hW
  go_enter Tryz.func65, Tryz.ntmps65
  go_upto_region 1 with fail
  rw [← HW.out]
  obtain ⟨h, hh⟩ : ∃ h, h = w.heap.size := ⟨_, rfl⟩
  rw [← hh] at M0 ⊢
  have HH := Lib.hid hh
  clear hh HW
  go_wp2_with (first
    | (refine wpList_load_row rfl 33 (.tmp 3) rfl h rfl 33 (ts A n c B m e0).toArray (0, 0) _ M0.out.a Tryz.underlying33 rfl (size5 _ rfl) ?_)
    | (refine wpList_store_row rfl 33 (.tmp 6) (.tmp 26) rfl (h + 1) (ts A n c B m e0).toArray rfl rfl 33 xz.toArray M0.out.b (size5 _ rfl) rfl (oneT _ _ _ _ _ _) ?_))
  have M3 := M0.out.ret (Nat.le_of_eq HH.out.symm) (ts A n c B m e0)
  exact bodyPost_ret (v := .tuple #[.agg (ts A n c B m e0).toArray, .slice none 0 0]) (results_5 Tryz.results65 _ _ (h + 1) (ts A n c B m e0) rfl rfl M3.b) rfl ⟨rfl, M3.gr⟩
section
variable {w0 w : World} {p g bm bs : Nat} {T : List Nd}
theorem SymS.seal_not (hs : SymS w0 w p g bm bs T) (A B : Option Addr) (n c m d : Nat) (h : n ≠ 32) (h1 : n ≤ c) (h2 : c ≤ 9223372036854775807) :
    Calls Tryz.prog 18 #[.pointer (some ⟨p, 0, none⟩), .slice A n c, .slice B m d] w fun e w' => e = .returned (.slice none 0 0) ∧ w = w' := by
  have HN := Lib.hid hs.isNone
  have t1 : ((n : Int) != 32) = true := by rw [bne_iff_ne]; omega
  clear hs
  go_enter Tryz.func18, Tryz.ntmps18
  go_wp2_with fail
  refine HN.out.mono ?_
  rintro e w1 ⟨rfl, h1⟩
  subst h1
  go_wp2_with fail
  go_ret
  exact ⟨rfl, rfl⟩
theorem SymS.handle_in (hs : SymS w0 w p g bm bs T) (id : Nat) (hid : id ≤ 100000) (hb : bearsT T (id : Int) = true) :
    Calls Tryz.prog 12 #[.pointer (some ⟨p, 0, none⟩), .int .i64 (id : Int)] w (RetBs w (handleL id)) := by
  have HN := Lib.hid hs.isNone
  have HB := Lib.hid (hs.bears (id : Int) ⟨by omega, by omega⟩)
  rw [hb] at HB
  have HH := Lib.hid (fun wr => handle_any id wr (by omega))
  clear hs hb
  go_enter Tryz.func12, Tryz.ntmps12
  go_wp2_with fail
  refine HN.out.mono ?_
  rintro e w1 ⟨rfl, h1⟩
  subst h1
  go_wp2_with fail
  refine HB.out.mono ?_
  rintro e w1 ⟨rfl, g1⟩
  have G1 := Lib.hid g1; clear g1
  go_wp2_with fail
  refine (HH.out _).mono ?_
  rintro e w2 ⟨v2, rfl, o2⟩
  have O2 := Lib.hid (o2.base G1.out)
  clear o2
  go_wp2_with fail
  go_ret
  exact ⟨v2, rfl, O2.out⟩
theorem SymS.handle_not (hs : SymS w0 w p g bm bs T) (id : Int) (hid : -100000 ≤ id ∧ id ≤ 100000) (hb : bearsT T id = false) :
    Calls Tryz.prog 12 #[.pointer (some ⟨p, 0, none⟩), .int .i64 id] w fun e w' => e = .returned (.slice none 0 0) ∧ Gr w w' := by
  have HN := Lib.hid hs.isNone
  have HB := Lib.hid (hs.bears id ⟨by omega, by omega⟩)
  rw [hb] at HB
  clear hs hb
  go_enter Tryz.func12, Tryz.ntmps12
  go_wp2_with fail
  refine HN.out.mono ?_
  rintro e w1 ⟨rfl, h1⟩
  subst h1
  go_wp2_with fail
  refine HB.out.mono ?_
  rintro e w1 ⟨rfl, g1⟩
  have G1 := Lib.hid g1; clear g1
  go_wp2_with fail
  go_ret
  exact ⟨rfl, G1.out⟩
theorem SymS.terms (hs : SymS w0 w p g bm bs T) : Calls Tryz.prog 10 #[.pointer (some ⟨p, 0, none⟩)] w fun e w' => e = .returned (.pointer (some ⟨g, 0, none⟩)) ∧ w = w' := by
  have HN := Lib.hid hs.isNone
  have c0 := hs.c0
  clear hs
  go_enter Tryz.func10, Tryz.ntmps10
  go_wp2_with fail
  refine HN.out.mono ?_
  rintro e w1 ⟨rfl, h1⟩
  subst h1
  go_wp2_with fail
  go_ret
  exact ⟨rfl, rfl⟩
end
end Go.Proofs.YtcfbbgbjlgonpaaGreatDoor

/- What was summed, in plain Lean. No condition. -/
namespace Go.Proofs.YtcfbbgbjlgonpaaGreatDoor
open Go.RowKit
set_option linter.unusedVariables false
set_option linter.unusedSimpArgs false
/-- The place among what was summed. -/
def numL (S : List (List UInt8)) (b : List UInt8) : Option Nat := S.findIdx? (fun l => l == b)
def numI : Option Nat → Int
  | some i => (i : Int)
  | none => -1
theorem numL_some {S : List (List UInt8)} {b l : List UInt8} {k : Nat} (h : S[k]? = some l) (e : (l == b) = true) (hp : ∀ (j : Nat) (l' : List UInt8), j < k → S[j]? = some l' → (l' == b) = false) : numL S b = some k := by
  unfold numL
  rw [List.findIdx?_eq_some_iff_getElem]
  have hk := (List.getElem?_eq_some_iff.1 h).1
  refine ⟨hk, ?_, fun j hj => ?_⟩
  · have := (List.getElem?_eq_some_iff.1 h).2
    rw [this]; exact e
  · have hj' : j < S.length := by omega
    rw [hp j S[j] hj (List.getElem?_eq_getElem hj')]
    decide
theorem numL_none {S : List (List UInt8)} {b : List UInt8} (hp : ∀ (j : Nat) (l' : List UInt8), S[j]? = some l' → (l' == b) = false) : numL S b = none := by
  unfold numL
  rw [List.findIdx?_eq_none_iff]
  intro l hl
  obtain ⟨j, hj⟩ := List.mem_iff_getElem?.1 hl
  exact hp j l hj
theorem numL_lt {S : List (List UInt8)} {b : List UInt8} {k : Nat} (h : numL S b = some k) : k < S.length := by
  unfold numL at h
  rw [List.findIdx?_eq_some_iff_getElem] at h
  exact h.1
/-- A number's mark. -/
def markL (i : Nat) : List UInt8 := [255, 253] ++ be i 6
theorem markL_len (i : Nat) : (markL i).length = 8 := by unfold markL; rw [List.length_append, be_length]; rfl
/-- The sums behind a Sum. -/
def sumS (S : List (List UInt8)) (b : List UInt8) : List (List UInt8) := match numL S b with
  | some _ => S
  | none => S ++ [b]
def sumI (S : List (List UInt8)) (b : List UInt8) : Nat := match numL S b with
  | some i => i
  | none => S.length
theorem numL_push {S : List (List UInt8)} {b : List UInt8} (h : numL S b = none) : numL (S ++ [b]) b = some S.length := by
  refine numL_some (l := b) (by rw [List.getElem?_append_right (Nat.le_refl _)]; simp) (by simp) (fun j l' hj he => ?_)
  rw [List.getElem?_append_left hj] at he
  unfold numL at h
  rw [List.findIdx?_eq_none_iff] at h
  exact h l' (List.mem_of_getElem? he)
def checkS (S : List (List UInt8)) (b s : List UInt8) : Bool := match numL S b with
  | some i => markL i == s
  | none => false
end Go.Proofs.YtcfbbgbjlgonpaaGreatDoor
