/- The program's table of terms: any act. No condition. -/
import Derived.Test.YthlnoaalhojphaaDoorObTermG
namespace Go.Proofs.YthlnoaalhojphaaDoor
open Go.RowKit Go.Maps
set_option linter.unusedVariables false

def doT (T : List Nd) (k a b : Int) (s : ByteArray) : List Nd × Nat :=
  if k = 1 then atomT T else if k = 2 then putT T ⟨2, 0, 0, s, 0⟩ [] else if k = 3 then kdfT T a s else if k = 4 then pairT T 4 a b else pairT T 5 a b
theorem do_any (w0 : World) (g : Nat) (T : List Nd) (vl vs : Value) (bm : Nat) (k a b : Int) (s : ByteArray) (w : World) (h : TbF w0 w g T vl vs bm) (hT : TOk T) (hs : s.size ≤ maxLen) :
    Calls Tryd.prog 12 #[.pointer (some ⟨g, 0, none⟩), .agg #[.int .i64 k, .int .i64 a, .int .i64 b, .string s]] w (RetT w0 w g bm vl vs (doT T k a b s)) := by
  have hg := Gr.alloc w (.cells #[.int .i64 k, .int .i64 a, .int .i64 b, .string s] 32)
  have HG := Lib.hid hg
  have H1 := Lib.hid (atom_any w0 g T vl vs bm _ (h.gr hg) hT.n)
  have H2 := Lib.hid (text_any w0 g T vl vs bm s _ (h.gr hg) hT hs)
  have H3 := Lib.hid (kdf_any w0 g T vl vs bm a s _ (h.gr hg) hT hs)
  have H4 := Lib.hid (mix_any w0 g T vl vs bm a b _ (h.gr hg) hT)
  have H5 := Lib.hid (enc_any w0 g T vl vs bm a b _ (h.gr hg) hT)
  clear h hT hs hg
  by_cases e1 : k = 1
  · subst e1
    go_enter Tryd.func12, Tryd.ntmps12
    go_wp2_with fail
    refine H1.out.mono ?_
    rintro e w1 ⟨vl', vs', rfl, t', c'⟩
    have t := Lib.hid t'; have c := Lib.hid c'; clear t' c'
    go_wp2_with fail
    go_ret
    exact ⟨vl', vs', rfl, t.out, (TChM.gr HG.out).trans c.out⟩
  by_cases e2 : k = 2
  · subst e2
    go_enter Tryd.func12, Tryd.ntmps12
    go_wp2_with fail
    refine H2.out.mono ?_
    rintro e w1 ⟨vl', vs', rfl, t', c'⟩
    have t := Lib.hid t'; have c := Lib.hid c'; clear t' c'
    go_wp2_with fail
    go_ret
    exact ⟨vl', vs', rfl, t.out, (TChM.gr HG.out).trans c.out⟩
  by_cases e3 : k = 3
  · subst e3
    go_enter Tryd.func12, Tryd.ntmps12
    go_wp2_with fail
    refine H3.out.mono ?_
    rintro e w1 ⟨vl', vs', rfl, t', c'⟩
    have t := Lib.hid t'; have c := Lib.hid c'; clear t' c'
    go_wp2_with fail
    go_ret
    exact ⟨vl', vs', rfl, t.out, (TChM.gr HG.out).trans c.out⟩
  by_cases e4 : k = 4
  · subst e4
    go_enter Tryd.func12, Tryd.ntmps12
    go_wp2_with fail
    refine H4.out.mono ?_
    rintro e w1 ⟨vl', vs', rfl, t', c'⟩
    have t := Lib.hid t'; have c := Lib.hid c'; clear t' c'
    go_wp2_with fail
    go_ret
    exact ⟨vl', vs', rfl, t.out, (TChM.gr HG.out).trans c.out⟩
  have hd : doT T k a b s = pairT T 5 a b := by unfold doT; rw [if_neg e1, if_neg e2, if_neg e3, if_neg e4]
  rw [hd]
  go_enter Tryd.func12, Tryd.ntmps12
  go_wp2_with fail
  refine H5.out.mono ?_
  rintro e w1 ⟨vl', vs', rfl, t', c'⟩
  have t := Lib.hid t'; have c := Lib.hid c'; clear t' c'
  go_wp2_with fail
  go_ret
  exact ⟨vl', vs', rfl, t.out, (TChM.gr HG.out).trans c.out⟩
end Go.Proofs.YthlnoaalhojphaaDoor
