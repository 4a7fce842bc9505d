/- The reference's table of terms: any act. No condition. -/
import Derived.Test.YthlnoaalhojphaaDoorObTermN
namespace Go.Proofs.YthlnoaalhojphaaDoor
open Go.RowKit
set_option linter.unusedVariables false
def RetR (w0 w : World) (v : Value) (r : List Nd × Nat) (e : Ending) (w' : World) : Prop := ∃ v', e = .returned (.tuple #[v', .int .i64 (r.2 : Int)]) ∧ RTo w0 w' v' r.1 ∧ Turn1 w w' v v'
theorem in_of {n : Nat} {a : Int} (h : outside n a = false) : ∃ m : Nat, a = (m : Int) := by
  unfold outside at h
  simp at h
  exact ⟨a.toNat, by omega⟩
theorem atoms_at {T : List Nd} {v : Value} {w0 w : World} (h : RTo w0 w v T) : ∃ A c, v = .slice A T.length c := by
  obtain ⟨A, c, e, _⟩ := Own.rs h
  exact ⟨A, c, e⟩
/-- Put, any node but an atom. -/
def putR (T : List Nd) (k : Nat) (a b : Int) (s : ByteArray) : List Nd × Nat := if (3 ≤ k ∧ outside T.length a = true) ∨ (4 ≤ k ∧ outside T.length b = true) then (T, 0) else putD T ⟨k, a.toNat, b.toNat, s, 0⟩
theorem refPut_any (w0 : World) (T : List Nd) (v : Value) (k : Nat) (a b : Int) (s : ByteArray) (w : World) (h : RTo w0 w v T) (hn : T.length ≤ 1000) (hz : NZ T) (hk : (k = 2 ∧ a = 0 ∧ b = 0) ∨ (k = 3 ∧ b = 0) ∨ k = 4 ∨ k = 5) :
    Calls Tryd.prog 42 #[v, .agg #[.int .i64 (k : Int), .int .i64 a, .int .i64 b, .string s, .int .i64 0]] w (RetR w0 w v (putR T k a b s)) := by
  unfold putR
  split
  · next ho =>
    obtain ⟨A, c, rfl⟩ := atoms_at h
    refine (refPut_out A T.length c k a b s w (ho.imp (fun q => ⟨by omega, q.2⟩) (fun q => ⟨by omega, q.2⟩))).mono ?_
    rintro e w1 ⟨rfl, g⟩
    exact ⟨_, rfl, h.mono g, Turn1.gr g _⟩
  · next ho =>
    have na : 3 ≤ k → outside T.length a = false := fun h3 => by
      cases hq : outside T.length a with
      | false => rfl
      | true => exact (ho (.inl ⟨h3, hq⟩)).elim
    have nb : 4 ≤ k → outside T.length b = false := fun h3 => by
      cases hq : outside T.length b with
      | false => rfl
      | true => exact (ho (.inr ⟨h3, hq⟩)).elim
    have ea : ((a.toNat : Nat) : Int) = a := by
      rcases hk with ⟨_, q, _⟩ | ⟨q, _⟩ | q | q
      · rw [q]; rfl
      all_goals
        obtain ⟨m, e⟩ := in_of (na (by omega))
        rw [e]; rfl
    have eb : ((b.toNat : Nat) : Int) = b := by
      rcases hk with ⟨_, _, q⟩ | ⟨_, q⟩ | q | q
      · rw [q]; rfl
      · rw [q]; rfl
      all_goals
        obtain ⟨m, e⟩ := in_of (nb (by omega))
        rw [e]; rfl
    have H := refPut_in w0 T v ⟨k, a.toNat, b.toNat, s, 0⟩ w h hn hz rfl (by
      show k = 2 ∨ _
      rcases hk with ⟨q, _⟩ | ⟨q, _⟩ | q
      · exact .inl q
      · exact .inr (.inl ⟨q, by show outside T.length ((a.toNat : Nat) : Int) = false; rw [ea]; exact na (by omega)⟩)
      · exact .inr (.inr ⟨q, by show outside T.length ((a.toNat : Nat) : Int) = false; rw [ea]; exact na (by omega), by show outside T.length ((b.toNat : Nat) : Int) = false; rw [eb]; exact nb (by omega)⟩))
    unfold nodeV at H
    simp only [ea, eb] at H
    exact H
theorem putT_eq {T : List Nd} {x : Nd} {ids : List Int} (h : ids.any (outside T.length) = false) : putT T x ids = putD T x := by
  unfold putT putD
  rw [if_neg (by rw [h]; decide)]
  cases findT T x <;> rfl
theorem doT_put (T : List Nd) (k : Int) (a b : Int) (s : ByteArray) (h1 : k ≠ 1) : doT T k a b s = if k = 2 then putR T 2 0 0 s else if k = 3 then putR T 3 a 0 s else if k = 4 then putR T 4 a b ByteArray.empty else putR T 5 a b ByteArray.empty := by
  have e2 : putT T ⟨2, 0, 0, s, 0⟩ [] = putR T 2 0 0 s := by rw [putT_eq rfl]; unfold putR; rw [if_neg (by omega)]; rfl
  have e3 : kdfT T a s = putR T 3 a 0 s := by
    unfold kdfT putR
    by_cases ho : outside T.length a = true
    · rw [if_pos ho, if_pos (.inl ⟨by omega, ho⟩)]
    · rw [if_neg ho, if_neg (fun q => q.elim (fun q => ho q.2) (fun q => by omega)), putT_eq (by simpa using ho)]
      rfl
  have e4 : ∀ j, 4 ≤ j → pairT T j a b = putR T j a b ByteArray.empty := fun j hj => by
    unfold pairT putR
    by_cases ho : outside T.length a = true
    · rw [if_pos (by rw [ho]; rfl), if_pos (.inl ⟨by omega, ho⟩)]
    · by_cases hb : outside T.length b = true
      · rw [if_pos (by rw [hb]; simp), if_pos (.inr ⟨by omega, hb⟩)]
      · rw [if_neg (by simp at ho hb; rw [ho, hb]; simp), if_neg (fun q => q.elim (fun q => ho q.2) (fun q => hb q.2)), putT_eq (by simp at ho hb; simp [ho, hb])]
  unfold doT
  rw [if_neg h1, e2, e3, e4 4 (by omega), e4 5 (by omega)]
set_option maxHeartbeats 400000 in
theorem refOf_any (w0 : World) (T : List Nd) (v : Value) (k a b : Int) (s : ByteArray) (w : World) (h : RTo w0 w v T) (hn : T.length ≤ 1000) (hz : NZ T) :
    Calls Tryd.prog 11 #[v, .agg #[.int .i64 k, .int .i64 a, .int .i64 b, .string s]] w (RetR w0 w v (doT T k a b s)) := by
  have hg := Gr.alloc w (.cells #[.int .i64 k, .int .i64 a, .int .i64 b, .string s] 32)
  have H1 := Lib.hid (refAtom_any w0 T v _ (h.mono hg) hn)
  have H2 := Lib.hid (refPut_any w0 T v 2 0 0 s _ (h.mono hg) hn hz (.inl ⟨rfl, rfl, rfl⟩))
  have H3 := Lib.hid (refPut_any w0 T v 3 a 0 s _ (h.mono hg) hn hz (.inr (.inl ⟨rfl, rfl⟩)))
  have H4 := Lib.hid (refPut_any w0 T v 4 a b ⟨#[]⟩ _ (h.mono hg) hn hz (.inr (.inr (.inl rfl))))
  have H5 := Lib.hid (refPut_any w0 T v 5 a b ⟨#[]⟩ _ (h.mono hg) hn hz (.inr (.inr (.inr rfl))))
  have HG := Lib.hid hg
  clear h hn hz hg
  by_cases e1 : k = 1
  · subst e1
    go_enter Tryd.func11, Tryd.ntmps11
    go_wp2_with fail
    refine H1.out.mono ?_
    rintro e w1 ⟨v', rfl, t', q'⟩
    have t := Lib.hid t'; have q := Lib.hid ((Turn1.gr HG.out v).trans q'); clear t' q'
    go_wp2_with fail
    go_ret2
    exact ⟨v', rfl, t.out, q.out⟩
  have hd := doT_put T k a b s e1
  by_cases e2 : k = 2
  · subst e2
    rw [if_pos rfl] at hd
    rw [hd]; clear hd
    go_enter Tryd.func11, Tryd.ntmps11
    go_wp2_with fail
    refine H2.out.mono ?_
    rintro e w1 ⟨v', rfl, t', q'⟩
    have t := Lib.hid t'; have q := Lib.hid ((Turn1.gr HG.out v).trans q'); clear t' q'
    go_wp2_with fail
    go_ret2
    exact ⟨v', rfl, t.out, q.out⟩
  rw [if_neg e2] at hd
  by_cases e3 : k = 3
  · subst e3
    rw [if_pos rfl] at hd
    rw [hd]; clear hd
    go_enter Tryd.func11, Tryd.ntmps11
    go_wp2_with fail
    refine H3.out.mono ?_
    rintro e w1 ⟨v', rfl, t', q'⟩
    have t := Lib.hid t'; have q := Lib.hid ((Turn1.gr HG.out v).trans q'); clear t' q'
    go_wp2_with fail
    go_ret2
    exact ⟨v', rfl, t.out, q.out⟩
  rw [if_neg e3] at hd
  by_cases e4 : k = 4
  · subst e4
    rw [if_pos rfl] at hd
    rw [hd]; clear hd
    go_enter Tryd.func11, Tryd.ntmps11
    go_wp2_with fail
    refine H4.out.mono ?_
    rintro e w1 ⟨v', rfl, t', q'⟩
    have t := Lib.hid t'; have q := Lib.hid ((Turn1.gr HG.out v).trans q'); clear t' q'
    go_wp2_with fail
    go_ret2
    exact ⟨v', rfl, t.out, q.out⟩
  rw [if_neg e4] at hd
  rw [hd]; clear hd
  go_enter Tryd.func11, Tryd.ntmps11
  go_wp2_with fail
  refine H5.out.mono ?_
  rintro e w1 ⟨v', rfl, t', q'⟩
  have t := Lib.hid t'; have q := Lib.hid ((Turn1.gr HG.out v).trans q'); clear t' q'
  go_wp2_with fail
  go_ret2
  exact ⟨v', rfl, t.out, q.out⟩
theorem nz_snoc {T : List Nd} {x : Nd} (h : NZ T) (hx : x.k ≠ 1 → x.n = 0) : NZ (T ++ [x]) := fun y hy hk => by
  rcases List.mem_append.1 hy with q | q
  · exact h y q hk
  · rw [List.mem_singleton] at q; rw [q] at hk ⊢; exact hx hk
theorem putR_nz {T : List Nd} (h : NZ T) (k : Nat) (a b : Int) (s : ByteArray) : NZ (putR T k a b s).1 := by
  unfold putR putD
  split
  · exact h
  · split
    · exact h
    · exact nz_snoc h (fun _ => rfl)
theorem doT_nz {T : List Nd} (h : NZ T) (k a b : Int) (s : ByteArray) : NZ (doT T k a b s).1 := by
  by_cases e1 : k = 1
  · subst e1
    unfold doT
    rw [if_pos rfl]
    exact nz_snoc h (fun q => (q rfl).elim)
  · rw [doT_put T k a b s e1]
    repeat' (first | exact putR_nz h _ _ _ _ | split)
end Go.Proofs.YthlnoaalhojphaaDoor
