/- Own texts of this claim, one behind the other. No condition. -/
import Derived.Test.YtfemhhjmfckicaaGreatDoorObPkK
import Derived.Test.YtfemhhjmfckicaaGreatDoorObPkL
import Derived.Outline

/- Names: the reference's pieces between points. No condition. -/
namespace Go.Proofs.YtfemhhjmfckicaaGreatDoor
open Go.RowKit
set_option linter.unusedVariables false
theorem tWords : ElemT Tryz.prog 22 9 (.string ⟨#[]⟩) 1 16 := ⟨Tryz.underlying22, by kernel_rfl, rfl, by decide, by decide⟩
/-- A text's value. -/
def strc (p : List UInt8) : Value := .string ⟨p.toArray⟩
theorem strc_one (p : List UInt8) : ∀ u ∈ [strc p], u.oneCell' = true := by intro u hu; simp at hu; subst hu; rfl
theorem pieces_snd : ∀ l : List UInt8, ∃ init z, piecesL l = init ++ [z] := fun l => by
  obtain ⟨init, z, h⟩ := List.eq_nil_or_concat (piecesL l) |>.resolve_left (pieces_ne l)
  exact ⟨init, z, by simpa using h⟩
theorem pieces_size : ∀ l : List UInt8, (piecesL l).length ≤ l.length + 1 ∧ ∀ p ∈ piecesL l, p.length ≤ l.length
  | [] => ⟨by simp [piecesL], by simp [piecesL]⟩
  | b :: t => by
    obtain ⟨h1, h2⟩ := pieces_size t
    unfold piecesL
    by_cases hb : b = 46
    · rw [if_pos hb]
      refine ⟨by simp; exact h1, fun p hp => ?_⟩
      rcases List.mem_cons.1 hp with rfl | hp
      · simp
      · have := h2 p hp; simp; omega
    · rw [if_neg hb]
      cases hq : piecesL t with
      | nil => exact absurd hq (pieces_ne t)
      | cons q ps =>
        rw [hq] at h1 h2
        refine ⟨by show ((b :: q) :: ps).length ≤ _; simp at h1 ⊢; omega, fun p hp => ?_⟩
        have hp : p ∈ (b :: q) :: ps := hp
        rcases List.mem_cons.1 hp with rfl | hp
        · have := h2 q List.mem_cons_self; simp; omega
        · have := h2 p (List.mem_cons_of_mem _ hp); simp; omega
theorem push_point (init : List (List UInt8)) (z : List UInt8) : pushP (init ++ [z]) 46 = (init ++ [z]) ++ [[]] := by unfold pushP; rw [if_pos rfl]
theorem push_other (init : List (List UInt8)) (z : List UInt8) (b : UInt8) (h : b ≠ 46) : pushP (init ++ [z]) b = init ++ [z ++ [b]] := by
  unfold pushP
  rw [if_neg h, List.dropLast_concat, List.getLastD_concat]
theorem set_last (init : List (List UInt8)) (z q : List UInt8) (n : Nat) (hn : n = init.length) : ((init ++ [z]).map strc).set n (strc q) = (init ++ [q]).map strc := by
  subst hn
  rw [List.map_append, List.map_append, List.set_append]
  simp
theorem extract_one (l : List UInt8) (s : ByteArray) (hs : s = ⟨l.toArray⟩) (k : Nat) (h : k < l.length) : s.extract k (k + 1) = ⟨[l[k]].toArray⟩ := by
  subst hs
  apply ByteArray.ext
  simp [ByteArray.extract, ByteArray.copySlice]
  rw [List.drop_eq_getElem_cons h]
  rfl
theorem ba_snoc (p : List UInt8) (b : UInt8) : (⟨p.toArray⟩ : ByteArray) ++ ⟨[b].toArray⟩ = ⟨(p ++ [b]).toArray⟩ := by
  apply ByteArray.ext
  simp
/-- An own row of texts. -/
def RetWs (w : World) (ps : List (List UInt8)) (e : Ending) (w' : World) : Prop := ∃ v, e = .returned v ∧ Own w w' 9 1 v ps.length (ps.map strc)
set_option maxHeartbeats 2000000 in
set_option maxRecDepth 100000 in
theorem refPieces_any (l : List UInt8) (w : World) (hl : l.length ≤ 100000) : Calls Tryz.prog 101 #[.string ⟨l.toArray⟩] w (RetWs w (piecesL l)) := by
  obtain ⟨s, hs⟩ : ∃ s : ByteArray, s = ⟨l.toArray⟩ := ⟨_, rfl⟩
  have hsz : s.size = l.length := by rw [hs]; exact size_of' l
  have HAT := Lib.hid (at_of l s hs)
  have HEX := Lib.hid (extract_one l s hs)
  rw [← hs]
  have HS := Lib.hid hs; clear hs
  have HSZ := Lib.hid hsz
  have hsl : s.size ≤ 100000 := by omega
  clear hsz
  go_enter Tryz.func101, Tryz.ntmps101
  go_wp2_with fail
  go_loopw [3, 4] (fun v i wr => ∃ (k n : Nat) (init : List (List UInt8)) (z : List UInt8), k ≤ s.size ∧ i = .int .i64 k ∧ n = init.length ∧ n ≤ k ∧ z.length ≤ k ∧ Own w wr 9 1 v (n + 1) ((init ++ [z]).map strc) ∧ piecesL (l.take k) = init ++ [z]) (fun _ i _ => s.size - (intOf i).toNat)
  case atStart => exact ⟨0, 0, [], [], Nat.zero_le _, rfl, rfl, Nat.le_refl _, Nat.le_refl _, (Blk.new w 9 #[strc []]).own (Nat.le_refl _) (Gr.alloc w _) rfl (by decide), by simp [piecesL]⟩
  case round v0 i0 =>
    obtain ⟨k, n, init, z, hk, rfl, hn, hnk, hz, own, hp⟩ := hrel
    have HP := Lib.hid hp; clear hp
    have HN := Lib.hid hn; clear hn
    by_cases hlt : k < s.size
    · have hkl : k < l.length := by have := HSZ.out; omega
      have hat := HAT.out k hlt
      have hb0 : bAt l k = (l[k].toNat : Int) := by unfold bAt; rw [List.getD_eq_getElem?_getD, List.getElem?_eq_getElem hkl]; rfl
      rw [hb0] at hat
      clear hb0
      have hex := HEX.out k hkl
      have HST : Hid (piecesL (l.take (k + 1)) = pushP (init ++ [z]) l[k]) := by
        show _ = _
        rw [List.take_succ_eq_append_getElem hkl, pieces_snoc, HP.out]
      generalize l[k] = b at *
      by_cases hb : b = 46
      · subst hb
        have hat : ((s[k]'hlt).toNat : Int) = 46 := hat
        clear hex
        have HS2 : Hid (piecesL (l.take (k + 1)) = (init ++ [z]) ++ [[]]) := by show _ = _; rw [HST.out, push_point]
        have OW := Lib.hid own
        obtain ⟨A, c, rfl, sl⟩ := own.slice
        clear own sl
        go_wp2_with (at_builtin; go_loud (refine wpList_push rfl (.tmp 16) (.tmp 17) 22 rfl tWords rfl OW.out #[strc []] rfl rfl (strc_one []) (by omega) ?_); intro v5 w5 o5)
        have O5 : Hid (Own w w5 9 1 v5 (n + 1 + 1) (((init ++ [z]) ++ [[]]).map strc)) := by
          have e : ((init ++ [z]) ++ [([] : List UInt8)]).map strc = (init ++ [z]).map strc ++ [strc []] := by simp
          rw [e]
          exact o5
        clear o5
        go_roundw
        case rel => exact ⟨k + 1, n + 1, init ++ [z], [], by omega, by first | trivial | go_num, by simp [HN.out], by omega, Nat.zero_le _, O5.out, HS2.out⟩
        case measure =>
          show s.size - ((k : Int) + 1).toNat < s.size - (k : Int).toNat
          omega
      · have hne : ((b.toNat : Int) == 46) = false := beq_eq_false_iff_ne.2 (fun e => hb (UInt8.toNat_inj.1 (by show b.toNat = 46; omega)))
        have HS2 : Hid (piecesL (l.take (k + 1)) = init ++ [z ++ [b]]) := by show _ = _; rw [HST.out, push_other _ _ _ hb]
        obtain ⟨g, cap, rest, rfl, hg, bk, hncap, hcap, hlen⟩ := own.opened (by omega)
        have BK := Lib.hid bk
        have OWN := Lib.hid own.below
        have HLN := Lib.hid hlen
        clear own bk hlen
        have hx : ((init ++ [z]).map strc ++ rest)[n]? = some (.string ⟨z.toArray⟩) := at_left (by rw [List.map_append, List.getElem?_append_right (by simp [HN.out])]; simp [HN.out, strc])
        have HX := Lib.hid hx; clear hx
        obtain ⟨zs, hzs⟩ : ∃ zs : ByteArray, zs = ⟨z.toArray⟩ := ⟨_, rfl⟩
        have hzz : zs.size = z.length := by rw [hzs]; exact size_of' z
        rw [← hzs] at HX
        have HZ : Hid (zs ++ s.extract k (k + 1) = ⟨(z ++ [b]).toArray⟩) := by show _ = _; rw [hzs, hex, ba_snoc]
        have hesz : (s.extract k (k + 1)).size = 1 := by rw [hex]; rfl
        clear hzs hex
        have wn : IntKind.i64.wrap (n : Int) = n := by rw [IntKind.wrap_i64]; omega
        have wk : IntKind.i64.wrap ((k : Int) + 1) = (k : Int) + 1 := by rw [IntKind.wrap_i64]; omega
        have n1 : (n : Int) < (n : Int) + 1 := by omega
        have k1 : (k : Int) ≤ (k : Int) + 1 := by omega
        have k2 : (k : Int) + 1 ≤ (s.size : Int) := by omega
        have k3 : ((k : Int) + 1).toNat = k + 1 := by omega
        go_upto_region 7 with fail
        refine wp_region_grow (by kernel_rfl) [0, 0, 2, 6, 0, 0, 32, 96, 240, 496, 0, 0, 0, 4096, 15360, 32752, 65535, 131071] [.p 0, .p 1, .p 2, .p 3, .p 4, .p 5, .p 6, .p 7, .p 8, .p 10, .p 11, .p 12, .p 13, .p 14, .q 9, .p 15, .p 16, .s 17] (by kernel_rfl) (trivial) ?_
        refine wpG_pe rfl rfl ?_
        apply Exists.intro
        refine ⟨fun wq => ?_, ?_⟩
        · unfold plainAt
          go_simp
          first | exact rfl | exact ⟨rfl, rfl⟩
        go_simp
        refine wpG_pe rfl rfl ?_
        apply Exists.intro
        refine ⟨fun wq => ?_, ?_⟩
        · unfold plainAt
          go_simp
          first | exact rfl | exact ⟨rfl, rfl⟩
        go_simp
        refine wpG_pe rfl rfl ?_
        apply Exists.intro
        refine ⟨fun wq => ?_, ?_⟩
        · unfold plainAt
          go_simp
          first | exact rfl | exact ⟨rfl, rfl⟩
        go_simp
        refine wpG_pe rfl rfl ?_
        apply Exists.intro
        refine ⟨fun wq => ?_, ?_⟩
        · unfold plainAt
          go_simp
          first | exact rfl | exact ⟨rfl, rfl⟩
        go_simp
        refine wpG_pe rfl rfl ?_
        apply Exists.intro
        refine ⟨fun wq => ?_, ?_⟩
        · unfold plainAt
          go_simp
          first | exact rfl | exact ⟨rfl, rfl⟩
        go_simp
        refine wpG_pe rfl rfl ?_
        apply Exists.intro
        refine ⟨fun wq => ?_, ?_⟩
        · unfold plainAt
          go_simp
          first | exact rfl | exact ⟨rfl, rfl⟩
        go_simp
        refine wpG_pe rfl rfl ?_
        apply Exists.intro
        refine ⟨fun wq => ?_, ?_⟩
        · unfold plainAt
          go_simp
          first | exact rfl | exact ⟨rfl, rfl⟩
        go_simp
        refine wpG_pe rfl rfl ?_
        apply Exists.intro
        refine ⟨fun wq => ?_, ?_⟩
        · unfold plainAt
          go_simp
          first | exact rfl | exact ⟨rfl, rfl⟩
        go_simp
        refine wpG_pe rfl rfl ?_
        apply Exists.intro
        refine ⟨fun wq => ?_, ?_⟩
        · unfold plainAt
          go_simp
          first | exact rfl | exact ⟨rfl, rfl⟩
        go_simp
        refine wpG_pe rfl rfl ?_
        apply Exists.intro
        refine ⟨fun wq => ?_, ?_⟩
        · unfold plainAt
          go_simp
          first | exact rfl | exact ⟨rfl, rfl⟩
        go_simp
        refine wpG_pe rfl rfl ?_
        apply Exists.intro
        refine ⟨fun wq => ?_, ?_⟩
        · unfold plainAt
          go_simp
          first | exact rfl | exact ⟨rfl, rfl⟩
        go_simp
        refine wpG_pe rfl rfl ?_
        apply Exists.intro
        refine ⟨fun wq => ?_, ?_⟩
        · unfold plainAt
          go_simp
          first | exact rfl | exact ⟨rfl, rfl⟩
        go_simp
        refine wpG_pe rfl rfl ?_
        apply Exists.intro
        refine ⟨fun wq => ?_, ?_⟩
        · unfold plainAt
          go_simp
          first | exact rfl | exact ⟨rfl, rfl⟩
        go_simp
        refine wpG_pe rfl rfl ?_
        apply Exists.intro
        refine ⟨fun wq => ?_, ?_⟩
        · unfold plainAt
          go_simp
          first | exact rfl | exact ⟨rfl, rfl⟩
        go_simp
        refine wpG_qe rfl rfl ?_
        apply Exists.intro
        refine ⟨fun wq hq => ?_, ?_⟩
        · have x0 := ((((Gr.drew _).trans hq).blk BK.out).cell n).trans HX.out
          unfold plainAt
          go_simp
          first | exact rfl | exact ⟨rfl, rfl⟩
        go_simp
        have zl : ¬ 9223372036854775807 < z.length + 1 := by omega
        refine wpG_pe rfl rfl ?_
        apply Exists.intro
        refine ⟨fun wq => ?_, ?_⟩
        · unfold plainAt
          go_simp
          first | exact rfl | exact ⟨rfl, rfl⟩
        go_simp
        refine wpG_pe rfl rfl ?_
        apply Exists.intro
        refine ⟨fun wq => ?_, ?_⟩
        · unfold plainAt
          go_simp
          first | exact rfl | exact ⟨rfl, rfl⟩
        go_simp
        refine wpG_s rfl rfl ?_
        intro w5 g5 K hK
        have B5 := Lib.hid (((Gr.drew _).trans g5).blk BK.out)
        have G5 := Lib.hid (OWN.out.trans (Below.mono ((Gr.drew _).trans g5) OWN.out.size))
        have x0 : w5.cell? ⟨g, n, none⟩ = some (.string zs) := (B5.out.cell n).trans HX.out
        have y0 := B5.out.free n
        have hl5 := B5.out.lt
        clear g5
        go_simp
        refine hK _ _ ?_
        clear hK x0 y0
        go_simp
        refine wpG_nil ?_
        intro w6 g6
        have b6 := g6.blk (B5.out.set n (.string (zs ++ s.extract k (k + 1))))
        have hst : ((init ++ [z]).map strc ++ rest).set n (.string (zs ++ s.extract k (k + 1))) = (init ++ [z ++ [b]]).map strc ++ rest := by
          rw [HZ.out]
          show _ = _
          rw [set_left _ _ _ _ (by simp [HN.out])]
          exact congrArg (· ++ rest) (set_last init z (z ++ [b]) n HN.out)
        rw [hst] at b6
        have G6 := (G5.out.setCell (p := ⟨g, n, none⟩) hg (.string (zs ++ s.extract k (k + 1)))).trans (Below.mono g6 (by have := G5.out.size; simp [World.setCell]; omega))
        have O6 := Lib.hid (Blk.closed (n := n + 1) (s := 1) b6 G6 hg hncap hcap (by have := HLN.out; simp at this ⊢; exact this) (by simp [HN.out]))
        clear b6 hst G6 g6
        go_wp2_with fail
        go_roundw
        case rel => exact ⟨k + 1, n, init, z ++ [b], by omega, by first | trivial | go_num, HN.out, by omega, by simp; omega, O6.out, HS2.out⟩
        case measure =>
          show s.size - ((k : Int) + 1).toNat < s.size - (k : Int).toNat
          omega
    · have hpe : k = l.length := by have := HSZ.out; omega
      have HE : Hid (piecesL l = init ++ [z]) := by
        have h := HP.out
        rwa [hpe, List.take_length] at h
      have OW := Lib.hid own; clear own
      go_wp2_with fail
      go_ret
      refine ⟨_, rfl, ?_⟩
      rw [HE.out, List.length_append, ← HN.out]
      exact OW.out
end Go.Proofs.YtfemhhjmfckicaaGreatDoor
