/- The text of a term, written: the closure that calls itself. No condition. -/
import Derived.Test.YthlnoaalhojphaaDoorObPrintL
import Derived.Outline
namespace Go.Proofs.YthlnoaalhojphaaDoor
open Go.RowKit
set_option linter.unusedVariables false
/-- What stands while a text is written: the table's variable, the builder, the closure's variable. -/
structure PW (w0 w : World) (pt b pw g : Nat) (l : List UInt8) : Prop where
  ct : Blk w pt 25 [.pointer (some ⟨g, 0, none⟩)]
  sb : SB w0 w b l
  cw : Blk w pw 109 [.func (.func 52) #[] #[.pointer (some ⟨pt, 0, none⟩), .pointer (some ⟨b, 0, none⟩), .pointer (some ⟨pw, 0, none⟩)]]
theorem PW.gr {w0 w w' : World} {pt b pw g : Nat} {l : List UInt8} (h : PW w0 w pt b pw g l) (hg : Gr w w') : PW w0 w' pt b pw g l := ⟨hg.blk h.ct, h.sb.gr hg, hg.blk h.cw⟩
theorem PW.write {w0 w : World} {pt b pw g : Nat} {l : List UInt8} (h : PW w0 w pt b pw g l) (s : ByteArray) (hs : l.length + s.size ≤ 1000000000) :
    Calls Tryd.prog 53 #[.pointer (some ⟨b, 0, none⟩), .string s] w fun e w' => e = .returned (.tuple #[.int .i64 s.size, .nilIface]) ∧ PW w0 w' pt b pw g (l ++ s.data.toList) ∧ FB w w' := by
  refine (sbWrite_any w0 b l s w h.sb hs).mono ?_
  rintro e w' ⟨rfl, hb, hf⟩
  exact ⟨rfl, ⟨hf _ _ _ (by decide) (by decide) h.ct, hb, hf _ _ _ (by decide) (by decide) h.cw⟩, hf⟩
theorem ba_app (a b : ByteArray) : (a ++ b).data.toList = a.data.toList ++ b.data.toList := by simp
theorem ba_size (a b : ByteArray) : (a ++ b).size = a.size + b.size := by simp
set_option maxRecDepth 100000 in
set_option maxHeartbeats 2000000 in
theorem printAtom_any (w0 : World) (pt b pw g : Nat) (T : List Nd) (l : List UInt8) (i : Nat) (x : Nd) (w : World) (h : PW w0 w pt b pw g l) (ht : TRd w0 g T) (hx : T[i]? = some x) (hk : x.k = 1 ∨ x.k = 2) (hB : Brief T) (hl : l.length ≤ 100000000) (hn : T.length ≤ 1000) :
    Calls Tryd.prog 52 #[.int .i64 ((i : Int) + 1), .pointer (some ⟨pt, 0, none⟩), .pointer (some ⟨b, 0, none⟩), .pointer (some ⟨pw, 0, none⟩)] w fun e w' => e = .returned (.tuple #[]) ∧ PW w0 w' pt b pw g (l ++ if x.k = 1 then 97 :: Lib.decDigits x.n else 39 :: (x.s.data.toList ++ [39])) ∧ FB w w' := by
  have hm := List.mem_of_getElem? hx
  have hxn := hB.n x hm
  have hxs := hB.s x hm
  have hit : i < T.length := (List.getElem?_eq_some_iff.1 hx).1
  obtain ⟨A, c, hc, hs⟩ := ht.mono (w' := w) h.sb.below
  obtain ⟨b', o, rfl, hcc⟩ := Sl.addr hs (by omega)
  have hcell : w.cell? ⟨b', o + i, none⟩ = some x.cell := hcc i _ (by rw [List.getElem?_map, hx]; rfl)
  have ct : w.cell? ⟨pt, 0, none⟩ = some (.pointer (some ⟨g, 0, none⟩)) := (h.ct.cell 0).trans rfl
  have hmx := hs.max
  have hcp := hs.cap
  have H := Lib.hid h
  have hdl := decT_len x.n hxn
  clear hs hcc hm hx hB ht h
  unfold Nd.cell at hcell
  obtain ⟨xk, xa, xb, xs, xn⟩ := x
  simp only at hk hcell hxn hxs hdl ⊢
  have ahatom := fun xT v w => assert_hit (P := Tryd.prog) Tryd.underlying95 xT v w
  have amatom := fun xT D hD v w => assert_miss (P := Tryd.prog) Tryd.underlying95 zAtom xT D hD v w
  have ahtext := fun xT v w => assert_hit (P := Tryd.prog) Tryd.underlying98 xT v w
  have amtext := fun xT D hD v w => assert_miss (P := Tryd.prog) Tryd.underlying98 zText xT D hD v w
  have ahkdf := fun xT v w => assert_hit (P := Tryd.prog) Tryd.underlying89 xT v w
  have amkdf := fun xT D hD v w => assert_miss (P := Tryd.prog) Tryd.underlying89 zKdf xT D hD v w
  have ahmix := fun xT v w => assert_hit (P := Tryd.prog) Tryd.underlying91 xT v w
  have ammix := fun xT D hD v w => assert_miss (P := Tryd.prog) Tryd.underlying91 zMix xT D hD v w
  have ahenc := fun xT v w => assert_hit (P := Tryd.prog) Tryd.underlying93 xT v w
  have amenc := fun xT D hD v w => assert_miss (P := Tryd.prog) Tryd.underlying93 zEnc xT D hD v w
  rcases hk with rfl | rfl
  · simp only [reduceIte, Nat.reduceEqDiff] at hcell ⊢
    go_enter Tryd.func52, Tryd.ntmps52
    go_wp2_with fail
    refine (numPrint_any xn _ hxn).mono ?_
    rintro e w1 ⟨rfl, rfl⟩
    go_wp2_with fail
    refine ((H.out.gr (Gr.alloc _ _)).write _ (by rw [ba_size]; show _ + (1 + (Lib.decDigits xn).toArray.size) ≤ _; simp; omega)).mono ?_
    rintro e w2 ⟨rfl, p2, fb⟩
    have FBB := Lib.hid ((FB.gr (Gr.alloc _ _)).trans fb); clear fb
    rw [ba_app] at p2
    have P2 := Lib.hid p2; clear p2
    go_wp2_with fail
    exact bodyPost_ret (results_none rfl _ _ _) rfl ⟨rfl, by simpa using P2.out, FBB.out⟩
  · simp only [reduceIte, Nat.reduceEqDiff] at hcell ⊢
    go_enter Tryd.func52, Tryd.ntmps52
    go_wp2_with fail
    refine ((H.out.gr (Gr.alloc _ _)).write _ (by rw [ba_size, ba_size]; show _ + (1 + xs.size + 1) ≤ _; omega)).mono ?_
    rintro e w2 ⟨rfl, p2, fb⟩
    have FBB := Lib.hid ((FB.gr (Gr.alloc _ _)).trans fb); clear fb
    rw [ba_app, ba_app] at p2
    have P2 := Lib.hid p2; clear p2
    go_wp2_with fail
    exact bodyPost_ret (results_none rfl _ _ _) rfl ⟨rfl, by simpa using P2.out, FBB.out⟩
end Go.Proofs.YthlnoaalhojphaaDoor
