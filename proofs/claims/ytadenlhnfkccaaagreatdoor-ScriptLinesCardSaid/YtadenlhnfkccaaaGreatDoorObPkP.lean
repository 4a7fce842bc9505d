/- Own texts of this claim, one behind the other. No condition. -/
import Derived.Test.YtadenlhnfkccaaaGreatDoorObPkC
import Derived.Test.YtadenlhnfkccaaaGreatDoorObPkF
import Derived.Test.YtadenlhnfkccaaaGreatDoorObPkI
import Derived.Test.YtadenlhnfkccaaaGreatDoorObPkL
import Derived.Test.YtadenlhnfkccaaaGreatDoorObPkN
import Derived.Test.YtadenlhnfkccaaaGreatDoorObPkO
import Derived.Outline

/- Texts cut at blanks, as the reference of scripts says. No condition. -/
namespace Go.Proofs.YtadenlhnfkccaaaGreatDoor
open Go.RowKit
set_option linter.unusedVariables false
set_option linter.unusedSimpArgs false
set_option maxHeartbeats 2000000 in
set_option maxRecDepth 100000 in
theorem split41_any (l : List UInt8) (w : World) (hl : l.length ≤ 100000) : Calls Tryz.prog 33 #[.string ⟨l.toArray⟩] w (RetWs w (cutL 32 l)) := by
  obtain ⟨s, hs⟩ : ∃ s : ByteArray, s = ⟨l.toArray⟩ := ⟨_, rfl⟩
  have hsz : s.size = l.length := by rw [hs]; exact size_of' l
  have HAT := Lib.hid (at_of l s hs)
  have HEX := Lib.hid (extract_one l s hs)
  rw [← hs]
  have HS := Lib.hid hs; clear hs
  have HSZ := Lib.hid hsz
  have hsl : s.size ≤ 100000 := by omega
  clear hsz
  go_enter Tryz.func33, Tryz.ntmps33
  go_wp2_with fail
  go_loopw [3, 4] (fun v i wr => ∃ (k n : Nat) (init : List (List UInt8)) (z : List UInt8), k ≤ s.size ∧ i = .int .i64 k ∧ n = init.length ∧ n ≤ k ∧ z.length ≤ k ∧ Own w wr 9 1 v (n + 1) ((init ++ [z]).map strc) ∧ cutL 32 (l.take k) = init ++ [z]) (fun _ i _ => s.size - (intOf i).toNat)
  case atStart => exact ⟨0, 0, [], [], Nat.zero_le _, rfl, rfl, Nat.le_refl _, Nat.le_refl _, (Blk.new w 9 #[strc []]).own (Nat.le_refl _) (Gr.alloc w _) rfl (by decide), by simp [cutL]⟩
  case round v0 i0 =>
    obtain ⟨k, n, init, z, hk, rfl, hn, hnk, hz, own, hp⟩ := hrel
    have HP := Lib.hid hp; clear hp
    have HN := Lib.hid hn; clear hn
    by_cases hlt : k < s.size
    · have hkl : k < l.length := by have := HSZ.out; omega
      have hat := HAT.out k hlt
      have hb0 : bAt l k = (l[k].toNat : Int) := by unfold bAt; rw [List.getD_eq_getElem?_getD, List.getElem?_eq_getElem hkl]; rfl
      rw [hb0] at hat
      clear hb0
      have hex := HEX.out k hkl
      have HST : Hid (cutL 32 (l.take (k + 1)) = pushC 32 (init ++ [z]) l[k]) := by
        show _ = _
        rw [List.take_succ_eq_append_getElem hkl, cut_snoc 32, HP.out]
      generalize l[k] = b at *
      by_cases hb : b = 32
      · subst hb
        have hat : ((s[k]'hlt).toNat : Int) = 32 := hat
        clear hex
        have HS2 : Hid (cutL 32 (l.take (k + 1)) = (init ++ [z]) ++ [[]]) := by show _ = _; rw [HST.out, push_here 32]
        have OW := Lib.hid own
        obtain ⟨A, c, rfl, sl⟩ := own.slice
        clear own sl
        go_wp2_with (at_builtin; go_loud (refine wpList_push rfl (.tmp 16) (.tmp 17) 68 rfl tWords rfl OW.out #[strc []] rfl rfl (strc_one []) (by omega) ?_); intro v5 w5 o5)
        have O5 : Hid (Own w w5 9 1 v5 (n + 1 + 1) (((init ++ [z]) ++ [[]]).map strc)) := by
          have e : ((init ++ [z]) ++ [([] : List UInt8)]).map strc = (init ++ [z]).map strc ++ [strc []] := by simp
          rw [e]
          exact o5
        clear o5
        go_roundw
        case rel => exact ⟨k + 1, n + 1, init ++ [z], [], by omega, by first | trivial | go_num, by simp [HN.out], by omega, Nat.zero_le _, O5.out, HS2.out⟩
        case measure =>
          show s.size - ((k : Int) + 1).toNat < s.size - (k : Int).toNat
          omega
      · have hne : ((b.toNat : Int) == 32) = false := beq_eq_false_iff_ne.2 (fun e => hb (UInt8.toNat_inj.1 (by show b.toNat = 32; omega)))
        have HS2 : Hid (cutL 32 (l.take (k + 1)) = init ++ [z ++ [b]]) := by show _ = _; rw [HST.out, push_else 32 _ _ _ hb]
        obtain ⟨g, cap, rest, rfl, hg, bk, hncap, hcap, hlen⟩ := own.opened (by omega)
        have BK := Lib.hid bk
        have OWN := Lib.hid own.below
        have HLN := Lib.hid hlen
        clear own bk hlen
        have hx : ((init ++ [z]).map strc ++ rest)[n]? = some (.string ⟨z.toArray⟩) := at_left (by rw [List.map_append, List.getElem?_append_right (by simp [HN.out])]; simp [HN.out, strc])
        have HX := Lib.hid hx; clear hx
        obtain ⟨zs, hzs⟩ : ∃ zs : ByteArray, zs = ⟨z.toArray⟩ := ⟨_, rfl⟩
        have hzz : zs.size = z.length := by rw [hzs]; exact size_of' z
        rw [← hzs] at HX
        have HZ : Hid (zs ++ s.extract k (k + 1) = ⟨(z ++ [b]).toArray⟩) := by show _ = _; rw [hzs, hex, ba_snoc]
        have hesz : (s.extract k (k + 1)).size = 1 := by rw [hex]; rfl
        clear hzs hex
        have wn : IntKind.i64.wrap (n : Int) = n := by rw [IntKind.wrap_i64]; omega
        have wk : IntKind.i64.wrap ((k : Int) + 1) = (k : Int) + 1 := by rw [IntKind.wrap_i64]; omega
        have n1 : (n : Int) < (n : Int) + 1 := by omega
        have k1 : (k : Int) ≤ (k : Int) + 1 := by omega
        have k2 : (k : Int) + 1 ≤ (s.size : Int) := by omega
        have k3 : ((k : Int) + 1).toNat = k + 1 := by omega
        go_upto_region 7 with fail
        refine wp_region_grow (by kernel_rfl) [0, 0, 2, 6, 0, 0, 32, 96, 240, 496, 0, 0, 0, 4096, 15360, 32752, 65535, 131071] [.p 0, .p 1, .p 2, .p 3, .p 4, .p 5, .p 6, .p 7, .p 8, .p 10, .p 11, .p 12, .p 13, .p 14, .q 9, .p 15, .p 16, .s 17] (by kernel_rfl) (trivial) ?_
        refine wpG_pe rfl rfl ?_
        apply Exists.intro
        refine ⟨fun wq => ?_, ?_⟩
        · unfold plainAt
          go_simp
          first | exact rfl | exact ⟨rfl, rfl⟩
        go_simp
        refine wpG_pe rfl rfl ?_
        apply Exists.intro
        refine ⟨fun wq => ?_, ?_⟩
        · unfold plainAt
          go_simp
          first | exact rfl | exact ⟨rfl, rfl⟩
        go_simp
        refine wpG_pe rfl rfl ?_
        apply Exists.intro
        refine ⟨fun wq => ?_, ?_⟩
        · unfold plainAt
          go_simp
          first | exact rfl | exact ⟨rfl, rfl⟩
        go_simp
        refine wpG_pe rfl rfl ?_
        apply Exists.intro
        refine ⟨fun wq => ?_, ?_⟩
        · unfold plainAt
          go_simp
          first | exact rfl | exact ⟨rfl, rfl⟩
        go_simp
        refine wpG_pe rfl rfl ?_
        apply Exists.intro
        refine ⟨fun wq => ?_, ?_⟩
        · unfold plainAt
          go_simp
          first | exact rfl | exact ⟨rfl, rfl⟩
        go_simp
        refine wpG_pe rfl rfl ?_
        apply Exists.intro
        refine ⟨fun wq => ?_, ?_⟩
        · unfold plainAt
          go_simp
          first | exact rfl | exact ⟨rfl, rfl⟩
        go_simp
        refine wpG_pe rfl rfl ?_
        apply Exists.intro
        refine ⟨fun wq => ?_, ?_⟩
        · unfold plainAt
          go_simp
          first | exact rfl | exact ⟨rfl, rfl⟩
        go_simp
        refine wpG_pe rfl rfl ?_
        apply Exists.intro
        refine ⟨fun wq => ?_, ?_⟩
        · unfold plainAt
          go_simp
          first | exact rfl | exact ⟨rfl, rfl⟩
        go_simp
        refine wpG_pe rfl rfl ?_
        apply Exists.intro
        refine ⟨fun wq => ?_, ?_⟩
        · unfold plainAt
          go_simp
          first | exact rfl | exact ⟨rfl, rfl⟩
        go_simp
        refine wpG_pe rfl rfl ?_
        apply Exists.intro
        refine ⟨fun wq => ?_, ?_⟩
        · unfold plainAt
          go_simp
          first | exact rfl | exact ⟨rfl, rfl⟩
        go_simp
        refine wpG_pe rfl rfl ?_
        apply Exists.intro
        refine ⟨fun wq => ?_, ?_⟩
        · unfold plainAt
          go_simp
          first | exact rfl | exact ⟨rfl, rfl⟩
        go_simp
        refine wpG_pe rfl rfl ?_
        apply Exists.intro
        refine ⟨fun wq => ?_, ?_⟩
        · unfold plainAt
          go_simp
          first | exact rfl | exact ⟨rfl, rfl⟩
        go_simp
        refine wpG_pe rfl rfl ?_
        apply Exists.intro
        refine ⟨fun wq => ?_, ?_⟩
        · unfold plainAt
          go_simp
          first | exact rfl | exact ⟨rfl, rfl⟩
        go_simp
        refine wpG_pe rfl rfl ?_
        apply Exists.intro
        refine ⟨fun wq => ?_, ?_⟩
        · unfold plainAt
          go_simp
          first | exact rfl | exact ⟨rfl, rfl⟩
        go_simp
        refine wpG_qe rfl rfl ?_
        apply Exists.intro
        refine ⟨fun wq hq => ?_, ?_⟩
        · have x0 := ((((Gr.drew _).trans hq).blk BK.out).cell n).trans HX.out
          unfold plainAt
          go_simp
          first | exact rfl | exact ⟨rfl, rfl⟩
        go_simp
        have zl : ¬ 9223372036854775807 < z.length + 1 := by omega
        refine wpG_pe rfl rfl ?_
        apply Exists.intro
        refine ⟨fun wq => ?_, ?_⟩
        · unfold plainAt
          go_simp
          first | exact rfl | exact ⟨rfl, rfl⟩
        go_simp
        refine wpG_pe rfl rfl ?_
        apply Exists.intro
        refine ⟨fun wq => ?_, ?_⟩
        · unfold plainAt
          go_simp
          first | exact rfl | exact ⟨rfl, rfl⟩
        go_simp
        refine wpG_s rfl rfl ?_
        intro w5 g5 K hK
        have B5 := Lib.hid (((Gr.drew _).trans g5).blk BK.out)
        have G5 := Lib.hid (OWN.out.trans (Below.mono ((Gr.drew _).trans g5) OWN.out.size))
        have x0 : w5.cell? ⟨g, n, none⟩ = some (.string zs) := (B5.out.cell n).trans HX.out
        have y0 := B5.out.free n
        have hl5 := B5.out.lt
        clear g5
        go_simp
        refine hK _ _ ?_
        clear hK x0 y0
        go_simp
        refine wpG_nil ?_
        intro w6 g6
        have b6 := g6.blk (B5.out.set n (.string (zs ++ s.extract k (k + 1))))
        have hst : ((init ++ [z]).map strc ++ rest).set n (.string (zs ++ s.extract k (k + 1))) = (init ++ [z ++ [b]]).map strc ++ rest := by
          rw [HZ.out]
          show _ = _
          rw [set_left _ _ _ _ (by simp [HN.out])]
          exact congrArg (· ++ rest) (set_last init z (z ++ [b]) n HN.out)
        rw [hst] at b6
        have G6 := (G5.out.setCell (p := ⟨g, n, none⟩) hg (.string (zs ++ s.extract k (k + 1)))).trans (Below.mono g6 (by have := G5.out.size; simp [World.setCell]; omega))
        have O6 := Lib.hid (Blk.closed (n := n + 1) (s := 1) b6 G6 hg hncap hcap (by have := HLN.out; simp at this ⊢; exact this) (by simp [HN.out]))
        clear b6 hst G6 g6
        go_wp2_with fail
        go_roundw
        case rel => exact ⟨k + 1, n, init, z ++ [b], by omega, by first | trivial | go_num, HN.out, by omega, by simp; omega, O6.out, HS2.out⟩
        case measure =>
          show s.size - ((k : Int) + 1).toNat < s.size - (k : Int).toNat
          omega
    · have hpe : k = l.length := by have := HSZ.out; omega
      have HE : Hid (cutL 32 l = init ++ [z]) := by
        have h := HP.out
        rwa [hpe, List.take_length] at h
      have OW := Lib.hid own; clear own
      go_wp2_with fail
      go_ret
      refine ⟨_, rfl, ?_⟩
      rw [HE.out, List.length_append, ← HN.out]
      exact OW.out
end Go.Proofs.YtadenlhnfkccaaaGreatDoor

/- Lines of scripts: the reference's Parse. No condition. -/
namespace Go.Proofs.YtadenlhnfkccaaaGreatDoor
open Go.RowKit
set_option linter.unusedVariables false
set_option linter.unusedSimpArgs false
/-! ### in plain Lean -/
theorem scrK_self : ∀ k : Nat, 2 ≤ k → k ≤ 8 → scrK (scrW k) = k := by
  intro k h2 h8
  rcases show k = 2 ∨ k = 3 ∨ k = 4 ∨ k = 5 ∨ k = 6 ∨ k = 7 ∨ k = 8 by omega with rfl | rfl | rfl | rfl | rfl | rfl | rfl <;> decide +kernel
theorem parseT_of {l : List UInt8} {k : Nat} (ho : (parseO l).2 ≠ 0) (hk : (cutL 32 l).headD [] = scrW k) (h2 : 2 ≤ k) (h8 : k ≤ 8) : parseT l = match tryT k (cutL 32 l) with
    | some d => (d, 0)
    | none => (ln0, 3) := by
  unfold parseT
  rw [if_neg ho]
  unfold lnOf
  simp only []
  rw [hk, scrK_self k h2 h8, if_pos (by omega)]
  cases tryT k (cutL 32 l) <;> rfl
theorem parseT_out {l : List UInt8} (ho : (parseO l).2 ≠ 0) (hk : ∀ k : Nat, 2 ≤ k → k ≤ 8 → (cutL 32 l).headD [] ≠ scrW k) : parseT l = (ln0, 3) := by
  unfold parseT
  rw [if_neg ho]
  unfold lnOf
  simp only []
  rw [scr_miss (fun j hj => by
    unfold isScr
    rcases show j = 0 ∨ j = 1 ∨ 2 ≤ j by omega with rfl | rfl | h2
    · simp [scrW]
    · simp [scrW]
    · rw [beq_false_of_ne (fun e => hk j h2 (by omega) e.symm)]; rfl), if_neg (by omega)]
theorem parseT_bare {l : List UInt8} {k : Nat} (ho : (parseO l).2 ≠ 0) (hk : (cutL 32 l).headD [] = scrW k) (hk3 : k = 4 ∨ k = 6 ∨ k = 8) : parseT l = if (cutL 32 l).length = 1 then ({ ln0 with k := (k : Int) }, 0) else (ln0, 3) := by
  rw [parseT_of ho hk (by omega) (by omega)]
  have e : scrS k = [] := by rcases hk3 with rfl | rfl | rfl <;> rfl
  unfold tryT
  rw [e]
  by_cases h : (cutL 32 l).length = 1
  · rw [if_pos (by simpa using h), if_pos h]; rfl
  · rw [if_neg (by simpa using h), if_neg h]
theorem foldT_cons (d : LnD) (s : UInt8) (ss : List UInt8) (w : List UInt8) (ws : List (List UInt8)) : foldT d (s :: ss) (w :: ws) = if okT s.toNat w = true then foldT (readT d s.toNat w) ss ws else none := by rw [foldT]
theorem foldT_nil (d : LnD) (ws : List (List UInt8)) : foldT d [] ws = some d := by rw [foldT]
theorem okT_num {s : Nat} (w : List UInt8) (hs : s = 110 ∨ s = 116 ∨ s = 97 ∨ s = 101) : okT s w = (parseF w 1073741824 == 0) := by
  unfold okT
  rw [if_neg (by omega), if_neg (by omega), if_neg (by omega)]
theorem okT_k (w : List UInt8) : okT 107 w = keepB w := by unfold okT; rw [if_pos rfl]
theorem okT_gi {s : Nat} (w : List UInt8) (hs : s = 103 ∨ s = 105) : okT s w = partL w := by unfold okT; rw [if_neg (by omega), if_pos hs]
theorem okT_x (w : List UInt8) : okT 120 w = hexB w := by unfold okT; rw [if_neg (by omega), if_neg (by omega), if_pos rfl]
theorem readT_n (d : LnD) (w : List UInt8) : readT d 110 w = { d with n := parseN w 1073741824 } := by unfold readT; rw [if_pos rfl]
theorem readT_t (d : LnD) (w : List UInt8) : readT d 116 w = { d with t := parseN w 1073741824 } := by unfold readT; rw [if_neg (by omega), if_pos rfl]
theorem readT_a (d : LnD) (w : List UInt8) : readT d 97 w = { d with a := parseN w 1073741824 } := by unfold readT; rw [if_neg (by omega), if_neg (by omega), if_pos rfl]
theorem readT_e (d : LnD) (w : List UInt8) : readT d 101 w = { d with e := parseN w 1073741824 } := by unfold readT; rw [if_neg (by omega), if_neg (by omega), if_neg (by omega), if_pos rfl]
theorem readT_k (d : LnD) (w : List UInt8) : readT d 107 w = { d with p := keepL w } := by unfold readT; rw [if_neg (by omega), if_neg (by omega), if_neg (by omega), if_neg (by omega), if_pos rfl]
theorem readT_g (d : LnD) (w : List UInt8) : readT d 103 w = { d with g := w } := by unfold readT; rw [if_neg (by omega), if_neg (by omega), if_neg (by omega), if_neg (by omega), if_neg (by omega), if_pos rfl]
theorem readT_i (d : LnD) (w : List UInt8) : readT d 105 w = { d with i := w } := by unfold readT; rw [if_neg (by omega), if_neg (by omega), if_neg (by omega), if_neg (by omega), if_neg (by omega), if_neg (by omega), if_pos rfl]
theorem readT_x (d : LnD) (w : List UInt8) : readT d 120 w = { d with b := (hexR w).1 } := by unfold readT; rw [if_neg (by omega), if_neg (by omega), if_neg (by omega), if_neg (by omega), if_neg (by omega), if_neg (by omega), if_neg (by omega), if_pos rfl]
theorem nums_one (b : List UInt8) : numsB [b] = (parseF b 1073741824 == 0) := by unfold numsB; rw [List.all_cons, List.all_nil, Bool.and_true]
theorem nums_two (b c : List UInt8) : numsB [b, c] = ((parseF b 1073741824 == 0) && (parseF c 1073741824 == 0)) := by unfold numsB; rw [List.all_cons, List.all_cons, List.all_nil, Bool.and_true]
theorem try_2 (a b : List UInt8) : tryT 2 [a, b] = if numsB [b] = true then some { ln0 with k := 2, n := parseN b 1073741824 } else none := by
  unfold tryT
  rw [if_pos (by simp [scrS]), show scrS 2 = [110] from rfl, List.tail_cons, foldT_cons, foldT_nil, show (110 : UInt8).toNat = 110 from rfl, okT_num b (by omega), readT_n, nums_one]
  rfl
theorem try_3 (a b c d : List UInt8) : tryT 3 [a, b, c, d] = if (keepB b && numsB [c, d]) = true then some { ln0 with k := 3, p := keepL b, t := parseN c 1073741824, a := parseN d 1073741824 } else none := by
  unfold tryT
  rw [if_pos (by simp [scrS]), show scrS 3 = [107, 116, 97] from rfl, List.tail_cons, foldT_cons, foldT_cons, foldT_cons, foldT_nil, show (107 : UInt8).toNat = 107 from rfl, show (116 : UInt8).toNat = 116 from rfl, show (97 : UInt8).toNat = 97 from rfl, okT_k, okT_num c (by omega), okT_num d (by omega), readT_k, readT_t, readT_a, nums_two]
  cases keepB b <;> cases (parseF c 1073741824 == 0) <;> cases (parseF d 1073741824 == 0) <;> simp
theorem try_5 (a b c d : List UInt8) : tryT 5 [a, b, c, d] = if (numsB [c] && partL b && partL d) = true then some { ln0 with k := 5, g := b, e := parseN c 1073741824, i := d } else none := by
  unfold tryT
  rw [if_pos (by simp [scrS]), show scrS 5 = [103, 101, 105] from rfl, List.tail_cons, foldT_cons, foldT_cons, foldT_cons, foldT_nil, show (103 : UInt8).toNat = 103 from rfl, show (101 : UInt8).toNat = 101 from rfl, show (105 : UInt8).toNat = 105 from rfl, okT_gi b (by omega), okT_num c (by omega), okT_gi d (by omega), readT_g, readT_e, readT_i, nums_one]
  cases partL b <;> cases (parseF c 1073741824 == 0) <;> cases partL d <;> simp
theorem try_7 (a b c d : List UInt8) : tryT 7 [a, b, c, d] = if (numsB [b, c] && hexB d) = true then some { ln0 with k := 7, n := parseN b 1073741824, a := parseN c 1073741824, b := (hexR d).1 } else none := by
  unfold tryT
  rw [if_pos (by simp [scrS]), show scrS 7 = [110, 97, 120] from rfl, List.tail_cons, foldT_cons, foldT_cons, foldT_cons, foldT_nil, show (110 : UInt8).toNat = 110 from rfl, show (97 : UInt8).toNat = 97 from rfl, show (120 : UInt8).toNat = 120 from rfl, okT_num b (by omega), okT_num c (by omega), okT_x, readT_n, readT_a, readT_x, nums_two]
  cases (parseF b 1073741824 == 0) <;> cases (parseF c 1073741824 == 0) <;> cases hexB d <;> simp
theorem ifs {b : Bool} {d : LnD} : (match (if b = true then some d else none : Option LnD) with | some d => (d, 0) | none => (ln0, 3)) = if b = true then (d, 0) else (ln0, 3) := by cases b <;> rfl
theorem parseT_2 {l : List UInt8} {a b : List UInt8} (ho : (parseO l).2 ≠ 0) (hc : cutL 32 l = [a, b]) (hk : a = scrW 2) : parseT l = if numsB [b] = true then ({ ln0 with k := 2, n := parseN b 1073741824 }, 0) else (ln0, 3) := by
  rw [parseT_of (k := 2) ho (by rw [hc]; exact hk) (by omega) (by omega), hc, try_2]
  exact ifs
theorem parseT_n {l : List UInt8} {k : Nat} (ho : (parseO l).2 ≠ 0) (hk : (cutL 32 l).headD [] = scrW k) (hk3 : 2 ≤ k ∧ k ≤ 8) (h4 : (cutL 32 l).length ≠ 1 + (scrS k).length) : parseT l = (ln0, 3) := by
  rw [parseT_of ho hk (by omega) (by omega)]
  unfold tryT
  rw [if_neg h4]
theorem parseT_3 {l : List UInt8} {a b c d : List UInt8} (ho : (parseO l).2 ≠ 0) (hc : cutL 32 l = [a, b, c, d]) (hk : a = scrW 3) : parseT l = if (keepB b && numsB [c, d]) = true then ({ ln0 with k := 3, p := keepL b, t := parseN c 1073741824, a := parseN d 1073741824 }, 0) else (ln0, 3) := by
  rw [parseT_of (k := 3) ho (by rw [hc]; exact hk) (by omega) (by omega), hc, try_3]
  exact ifs
theorem parseT_5 {l : List UInt8} {a b c d : List UInt8} (ho : (parseO l).2 ≠ 0) (hc : cutL 32 l = [a, b, c, d]) (hk : a = scrW 5) : parseT l = if (numsB [c] && partL b && partL d) = true then ({ ln0 with k := 5, g := b, e := parseN c 1073741824, i := d }, 0) else (ln0, 3) := by
  rw [parseT_of (k := 5) ho (by rw [hc]; exact hk) (by omega) (by omega), hc, try_5]
  exact ifs
theorem parseT_7 {l : List UInt8} {a b c d : List UInt8} (ho : (parseO l).2 ≠ 0) (hc : cutL 32 l = [a, b, c, d]) (hk : a = scrW 7) : parseT l = if (numsB [b, c] && hexB d) = true then ({ ln0 with k := 7, n := parseN b 1073741824, a := parseN c 1073741824, b := (hexR d).1 }, 0) else (ln0, 3) := by
  rw [parseT_of (k := 7) ho (by rw [hc]; exact hk) (by omega) (by omega), hc, try_7]
  exact ifs
/-! ### the walk -/
def RetLnR (w : World) (r : LnD × Nat) (e : Ending) (w' : World) : Prop := ∃ x, e = .returned (.tuple #[.agg (LnV.arr x), .int .i64 (r.2 : Int)]) ∧ x.d = r.1 ∧ LnAt w' x ∧ Gr w w' ∧ LnNew w x
theorem results_lnR {fn : Func} {p u : Tmp} (h : fn.results = #[.cell p 29, .tmp u]) (tmps : Array Value) (w : World) (g : Nat) (t : TypeId) (cs : Array Value)
    (hp : tmps.getD p undef = .pointer (some ⟨g, 0, none⟩)) (hg : w.heap[g]? = some (.cells cs t (0, 0))) (hc : cs.size = 17) :
    (results fn tmps).run Tryz.prog w = .ok (.tuple #[.agg cs, tmps.getD u undef]) w := by
  rw [results_cell_tmp h, hp]
  simp only [asAddr, Sem.run_pure, Result.andThen, run_loadVar_row w g t 29 cs (0, 0) _ hg Tryz.underlying29 rfl (by rw [refLnSize, hc])]
def z17 : Array Value := #[.int .i64 0, .int .i64 0, .string ⟨#[]⟩, .string ⟨#[]⟩, .int .i64 0, .int .i64 0, .int .i64 0, .int .i64 0, .slice none 0 0, .int .i64 0, .slice none 0 0, .int .i64 0, .int .i64 0, .string ⟨#[]⟩, .int .i64 0, .string ⟨#[]⟩, .slice none 0 0]
/-- Behind the try as an operation and the split: the result's cells, the empty line, the words. -/
structure PrSt (w W : World) (T A : Nat) (n c : Nat) (o : Nat) (ws : List (List UInt8)) : Prop where
  g : Gr w W
  r : Blk W w.heap.size 29 z17.toList
  e : Blk W T 29 z17.toList
  hT : w.heap.size < T
  ws : Ws W (some ⟨A, o, none⟩) n c ws
theorem PrSt.gr {w W W' : World} {T A n c o : Nat} {ws : List (List UInt8)} (h : PrSt w W T A n c o ws) (g : Gr W W') : PrSt w W' T A n c o ws := ⟨h.g.trans g, h.r.mono g, h.e.mono g, h.hT, Sl.gr h.ws g⟩
theorem PrSt.at {w W : World} {T A n c o : Nat} {ws : List (List UInt8)} (h : PrSt w W T A n c o ws) (j : Nat) (hj : j < ws.length) : W.cell? ⟨A, o + j, none⟩ = some (strc ws[j]) := by
  have hl := h.ws.len
  obtain ⟨b, o', e, hc⟩ := h.ws.addr (by omega)
  injection e with e
  injection e with e1 e2
  subst e1 e2
  exact hc j hj
/-- The line is stored, and told. -/
theorem PrSt.done {w W : World} {T A n c o : Nat} {ws : List (List UInt8)} (h : PrSt w W T A n c o ws) (cs : Array Value) : (W.setRow w.heap.size cs).heap[w.heap.size]? = some (.cells cs 29 (0, 0)) ∧ Gr w (W.setRow w.heap.size cs) :=
  ⟨setRow_heap W w.heap.size _ _ _ _ h.r, below_row39 h.g (Nat.le_refl _) _⟩
theorem wordsOf (w : World) (l : List UInt8) {e : Ending} {w' : World} (h : RetWs w (cutL 32 l) e w') : ∃ A n c o, e = .returned (.slice (some ⟨A, o, none⟩) n c) ∧ Ws w' (some ⟨A, o, none⟩) n c (cutL 32 l) ∧ Gr w w' := by
  obtain ⟨v, he, own⟩ := h
  obtain ⟨A1, c1, e1, sl⟩ := own.slice
  have hpos : 0 < (cutL 32 l).length := List.length_pos_iff.2 (cut_ne 32 l)
  obtain ⟨b, o, e2, _⟩ := Sl.addr sl hpos
  subst e1 e2
  exact ⟨b, _, c1, o, he, sl, own.below⟩
end Go.Proofs.YtadenlhnfkccaaaGreatDoor

/- Lines of scripts: the reference's Parse, its walk. No condition. -/
namespace Go.Proofs.YtadenlhnfkccaaaGreatDoor
open Go.RowKit
set_option linter.unusedVariables false
set_option linter.unusedSimpArgs false
theorem z17_one : z17.all (·.oneCell') = true := by kernel_rfl
theorem head_atS {ps : List (List UInt8)} (h : 0 < ps.length) : ps[0] = ps.headD [] := by
  cases ps with
  | nil => simp at h
  | cons a t => rfl
theorem Ws.part {w : World} {b o n c : Nat} {ps : List (List UInt8)} (h : Ws w (some ⟨b, o, none⟩) n c ps) {lo m : Nat} (hk : lo + m ≤ n) : Ws w (some ⟨b, o + lo, none⟩) m (c - lo) ((ps.drop lo).take m) := by
  obtain ⟨h1, h2, h3, h4⟩ := h
  have hl : ps.length = n := by simpa using h1
  refine ⟨by simp; omega, by omega, by omega, fun hm => ?_⟩
  obtain ⟨b', o', e, hc⟩ := h4 (by omega)
  injection e with e
  injection e with e1 e2
  subst e1 e2
  refine ⟨_, _, rfl, fun j u hu => ?_⟩
  have hj : j < m := by have := (List.getElem?_eq_some_iff.1 hu).1; simp at this; omega
  rw [Nat.add_assoc]
  refine hc (lo + j) u ?_
  rw [List.getElem?_map, List.getElem?_take, if_pos hj, List.getElem?_drop] at hu
  rw [List.getElem?_map]
  exact hu
set_option maxRecDepth 100000 in
set_option maxHeartbeats 2000000 in
theorem refParse41_op (l : List UInt8) (w : World) (hl : l.length ≤ 100000) (ho : (parseO l).2 = 0) : Calls Tryz.prog 11 #[strc l] w (RetLnR w (parseT l)) := by
  have HPO : Hid (∀ wr, Calls Tryz.prog 32 #[strc l] wr (RetOpN wr (parseO l))) := fun wr => refOpParse_new l wr hl
  have HSP : Hid (∀ wr, Calls Tryz.prog 33 #[strc l] wr (RetWs wr (cutL 32 l))) := fun wr => split41_any l wr hl
  obtain ⟨s, hs⟩ : ∃ s : ByteArray, strc l = .string s := ⟨_, rfl⟩
  rw [hs] at HSP HPO ⊢
  clear hs
  obtain ⟨r, hr⟩ : ∃ r, r = parseT l := ⟨_, rfl⟩
  rw [← hr]
  have HR := Lib.hid hr; clear hr
  go_enter Tryz.func11, Tryz.ntmps11
  go_wp2_with fail
  refine (HPO.out _).mono ?_
  rintro e w0 ⟨Ao, mo, co, rfl, so, g0, hfr⟩
  have HFRO : Hid (∀ b q, Ao = some ⟨b, q, none⟩ → w.heap.size ≤ b) := fun b q e => by have := hfr b q e; rw [World.size_alloc] at this; omega
  clear hfr
  have BR0 : Hid (Blk w0 w.heap.size 29 z17.toList) := (Blk.new w 29 z17).mono g0
  have G0 : Hid (Gr w w0) := (Gr.alloc w _).trans g0
  obtain rfl : (parseO l).1.x.length = mo := by have := Sl.len so; simpa using this
  obtain ⟨po, hpo⟩ : ∃ po, po = parseO l := ⟨_, rfl⟩
  rw [← hpo] at so ⊢
  have HPP := Lib.hid hpo
  clear hpo HPO
  obtain ⟨o1, f1⟩ := po
  simp only at so ⊢
  have HYB := setRow_heap (w0.alloc (.cells #[.int .i64 0, .string ⟨#[]⟩, .string ⟨#[]⟩, .int .i64 0, .int .i64 0, .int .i64 0, .int .i64 0, .slice none 0 0] 24)) w0.heap.size _ (opC o1 Ao o1.x.length co) _ _ (heap_alloc_new w0 _)
  have GS0 : Gr w0 ((w0.alloc (.cells #[.int .i64 0, .string ⟨#[]⟩, .string ⟨#[]⟩, .int .i64 0, .int .i64 0, .int .i64 0, .int .i64 0, .slice none 0 0] 24)).setRow w0.heap.size (opC o1 Ao o1.x.length co)) := below_row39 ((Below.refl _ _).alloc (Nat.le_refl _) _) (Nat.le_refl _) _
  have GA := Lib.hid (G0.out.trans GS0)
  have SO := Lib.hid (Sl.gr so GS0)
  have BRA : Hid (Blk ((w0.alloc (.cells #[.int .i64 0, .string ⟨#[]⟩, .string ⟨#[]⟩, .int .i64 0, .int .i64 0, .int .i64 0, .int .i64 0, .slice none 0 0] 24)).setRow w0.heap.size (opC o1 Ao o1.x.length co)) w.heap.size 29 z17.toList) := BR0.out.mono GS0
  have BY : Hid (Blk ((w0.alloc (.cells #[.int .i64 0, .string ⟨#[]⟩, .string ⟨#[]⟩, .int .i64 0, .int .i64 0, .int .i64 0, .int .i64 0, .slice none 0 0] 24)).setRow w0.heap.size (opC o1 Ao o1.x.length co)) w0.heap.size 24 (opC o1 Ao o1.x.length co).toList) := HYB
  clear HYB GS0 so g0
  have hf : f1 = 0 := by have h := HPP.out; rw [← h] at ho; exact ho
  have t18 : ((f1 : Int) == 0) = true := by rw [hf]; rfl
  have e0 := (BY.out.cell 0).trans (show _ = some (.int .i64 o1.k) from rfl)
  have e1 := (BY.out.cell 1).trans (show _ = some (strc o1.g) from rfl)
  have e2 := (BY.out.cell 2).trans (show _ = some (strc o1.i) from rfl)
  have e3 := (BY.out.cell 3).trans (show _ = some (.int .i64 o1.e) from rfl)
  have e4 := (BY.out.cell 4).trans (show _ = some (.int .i64 o1.s) from rfl)
  have e5 := (BY.out.cell 5).trans (show _ = some (.int .i64 o1.n) from rfl)
  have e6 := (BY.out.cell 6).trans (show _ = some (.int .i64 o1.v) from rfl)
  have e7 := (BY.out.cell 7).trans (show _ = some (.slice Ao o1.x.length co) from rfl)
  have HF : Hid (r = ({ ln0 with k := 1, o := o1 }, 0)) := by
    show _ = _
    rw [HR.out]
    unfold parseT
    rw [← HPP.out]
    exact if_pos hf
  have nA : ∀ b o, Ao = some ⟨b, o, none⟩ → 0 < o1.x.length → b ≠ w.heap.size := fun b o e h0 => Sl.not_blk SO.out (by decide) BRA.out (fun u hu x hx => by
    obtain ⟨z, hz, rfl⟩ := List.mem_map.1 (List.mem_of_getElem? hx)
    simp only [z17, List.mem_cons, List.not_mem_nil, or_false] at hu
    rcases hu with h | h | h | h | h | h | h | h | h | h | h | h | h | h | h | h | h <;> subst h <;> simp [u8c, strc]) h0 e
  have NA := Lib.hid nA
  clear hf nA ho
  go_wp2_with (first
    | (refine wpList_store_row rfl 24 (.tmp 4) (.tmp 25) rfl w0.heap.size (opC o1 Ao o1.x.length co) rfl rfl 24 #[.int .i64 0, .string ⟨#[]⟩, .string ⟨#[]⟩, .int .i64 0, .int .i64 0, .int .i64 0, .int .i64 0, .slice none 0 0] (by exact heap_alloc_new w0 _) opSize rfl (opOne _ _ _ _) ?_)
    | (refine wpList_store_row rfl 29 (.tmp 2) (.tmp 30) rfl w.heap.size (LnV.arr ⟨{ ln0 with k := 1, o := o1 }, Ao, co, none, 0, none, 0⟩) rfl rfl 29 z17 BRA.out refLnSize rfl (lnOne _) ?_))
  have HN := setRow_heap _ w.heap.size _ (LnV.arr ⟨{ ln0 with k := 1, o := o1 }, Ao, co, none, 0, none, 0⟩) _ _ BRA.out
  rw [HF.out]
  exact bodyPost_ret (results_lnR Tryz.results11 _ _ w.heap.size _ _ rfl HN rfl) rfl ⟨⟨{ ln0 with k := 1, o := o1 }, Ao, co, none, 0, none, 0⟩, rfl, rfl, ⟨sl_row (cs0 := []) (t := 0) SO.out (by decide) _ (fun h0 b o e => NA.out b o e h0), Sl.nil _ _, Sl.nil _ _⟩, below_row39 GA.out (Nat.le_refl _) _, ⟨(fun b q e _ => HFRO.out b q e), (fun b q e => by cases e), (fun b q e => by cases e)⟩⟩
set_option maxRecDepth 100000 in
set_option maxHeartbeats 2000000 in
theorem refParse41_out (l : List UInt8) (w : World) (hl : l.length ≤ 100000) (ho : (parseO l).2 ≠ 0) (hk : ∀ k : Nat, 2 ≤ k → k ≤ 8 → (cutL 32 l).headD [] ≠ scrW k) : Calls Tryz.prog 11 #[strc l] w (RetLnR w (parseT l)) := by
  have HPO : Hid (∀ wr, Calls Tryz.prog 32 #[strc l] wr (RetOpN wr (parseO l))) := fun wr => refOpParse_new l wr hl
  have HSP : Hid (∀ wr, Calls Tryz.prog 33 #[strc l] wr (RetWs wr (cutL 32 l))) := fun wr => split41_any l wr hl
  obtain ⟨s, hs⟩ : ∃ s : ByteArray, strc l = .string s := ⟨_, rfl⟩
  rw [hs] at HSP HPO ⊢
  clear hs
  obtain ⟨r, hr⟩ : ∃ r, r = parseT l := ⟨_, rfl⟩
  rw [← hr]
  have HR := Lib.hid hr; clear hr
  go_enter Tryz.func11, Tryz.ntmps11
  go_wp2_with fail
  refine (HPO.out _).mono ?_
  rintro e w0 ⟨Ao, mo, co, rfl, so, g0, hfr⟩
  have HFRO : Hid (∀ b q, Ao = some ⟨b, q, none⟩ → w.heap.size ≤ b) := fun b q e => by have := hfr b q e; rw [World.size_alloc] at this; omega
  clear hfr
  have BR0 : Hid (Blk w0 w.heap.size 29 z17.toList) := (Blk.new w 29 z17).mono g0
  have G0 : Hid (Gr w w0) := (Gr.alloc w _).trans g0
  obtain rfl : (parseO l).1.x.length = mo := by have := Sl.len so; simpa using this
  obtain ⟨po, hpo⟩ : ∃ po, po = parseO l := ⟨_, rfl⟩
  rw [← hpo] at so ⊢
  have HPP := Lib.hid hpo
  clear hpo HPO
  obtain ⟨o1, f1⟩ := po
  simp only at so ⊢
  have HYB := setRow_heap (w0.alloc (.cells #[.int .i64 0, .string ⟨#[]⟩, .string ⟨#[]⟩, .int .i64 0, .int .i64 0, .int .i64 0, .int .i64 0, .slice none 0 0] 24)) w0.heap.size _ (opC o1 Ao o1.x.length co) _ _ (heap_alloc_new w0 _)
  have GS0 : Gr w0 ((w0.alloc (.cells #[.int .i64 0, .string ⟨#[]⟩, .string ⟨#[]⟩, .int .i64 0, .int .i64 0, .int .i64 0, .int .i64 0, .slice none 0 0] 24)).setRow w0.heap.size (opC o1 Ao o1.x.length co)) := below_row39 ((Below.refl _ _).alloc (Nat.le_refl _) _) (Nat.le_refl _) _
  have GA := Lib.hid (G0.out.trans GS0)
  have SO := Lib.hid (Sl.gr so GS0)
  have BRA : Hid (Blk ((w0.alloc (.cells #[.int .i64 0, .string ⟨#[]⟩, .string ⟨#[]⟩, .int .i64 0, .int .i64 0, .int .i64 0, .int .i64 0, .slice none 0 0] 24)).setRow w0.heap.size (opC o1 Ao o1.x.length co)) w.heap.size 29 z17.toList) := BR0.out.mono GS0
  have BY : Hid (Blk ((w0.alloc (.cells #[.int .i64 0, .string ⟨#[]⟩, .string ⟨#[]⟩, .int .i64 0, .int .i64 0, .int .i64 0, .int .i64 0, .slice none 0 0] 24)).setRow w0.heap.size (opC o1 Ao o1.x.length co)) w0.heap.size 24 (opC o1 Ao o1.x.length co).toList) := HYB
  clear HYB GS0 so g0
  have HNO : Hid ((parseO l).2 ≠ 0) := ho
  have t18 : ((f1 : Int) == 0) = false := beq_eq_false_iff_ne.2 (by have h := HPP.out; rw [← h] at ho; have ho : f1 ≠ 0 := ho; omega)
  clear BY SO BR0 HPP ho
  go_wp2_with (refine wpList_store_row rfl 24 (.tmp 4) (.tmp 25) rfl w0.heap.size (opC o1 Ao o1.x.length co) rfl rfl 24 #[.int .i64 0, .string ⟨#[]⟩, .string ⟨#[]⟩, .int .i64 0, .int .i64 0, .int .i64 0, .int .i64 0, .slice none 0 0] (by exact heap_alloc_new w0 _) opSize rfl (opOne _ _ _ _) ?_)
  refine (HSP.out _).mono ?_
  rintro e w2 hret
  obtain ⟨A, n, c, o, rfl, hws, g2⟩ := wordsOf _ l hret
  have GS2 : Gr w2 ((w2.alloc (.cells z17 29)).setRow w2.heap.size z17) := below_row39 ((Below.refl _ _).alloc (Nat.le_refl _) _) (Nat.le_refl _) _
  have HEB := setRow_heap (w2.alloc (.cells z17 29)) w2.heap.size _ z17 _ _ (heap_alloc_new w2 _)
  have PS : PrSt w ((w2.alloc (.cells z17 29)).setRow w2.heap.size z17) w2.heap.size A n c o (cutL 32 l) := ⟨GA.out.trans (g2.trans GS2), (BRA.out.mono g2).mono GS2, HEB, Nat.lt_of_lt_of_le BRA.out.lt g2.size, Sl.gr hws GS2⟩
  have PSH := Lib.hid PS
  clear hret HSP GS2 HEB hws g2 GA BRA G0 PS
  obtain ⟨W, hW⟩ : ∃ W, W = (w2.alloc (.cells z17 29)).setRow w2.heap.size z17 := ⟨_, rfl⟩
  obtain ⟨T, hT⟩ : ∃ T, T = w2.heap.size := ⟨_, rfl⟩
  rw [← hW, ← hT] at PSH
  have HW := Lib.hid hW; have HT := Lib.hid hT
  clear hW hT
  go_upto_region 6 with (refine wpList_store_row rfl 29 (.tmp 7) (.tmp 33) rfl w2.heap.size z17 rfl rfl 29 z17 (by exact heap_alloc_new w2 _) refLnSize rfl z17_one ?_)
  show Code.wp _ _ _ _ ((w2.alloc (.cells z17 29)).setRow w2.heap.size z17)
  rw [← HW.out, ← HT.out]
  clear HW HT
  have hlen := PSH.out.ws.len
  have hpos : 0 < (cutL 32 l).length := List.length_pos_iff.2 (cut_ne 32 l)
  have c0 := PSH.out.at 0 hpos
  have hw0 := head_atS hpos
  rw [hw0] at c0
  obtain ⟨sx, hsx⟩ : ∃ sx : ByteArray, sx = ⟨((cutL 32 l).headD []).toArray⟩ := ⟨_, rfl⟩
  have hsl : sx.toList = (cutL 32 l).headD [] := by rw [hsx, ByteArray.toList_eq]
  rw [show strc ((cutL 32 l).headD []) = .string sx by rw [hsx]; rfl] at c0
  rw [Nat.add_zero] at c0
  have HSL := Lib.hid hsl
  have hn0 : (0 : Int) < (n : Int) := by omega
  have hncap := Sl.cap PSH.out.ws
  have hnmax := Sl.max PSH.out.ws
  have HLEN := Lib.hid hlen
  clear hsx hw0 hpos hsl hlen
  have HF := Lib.hid (HR.out.trans (parseT_out HNO.out hk))
  have tk2 : (sx.toList == ([97, 114, 109] : List UInt8)) = false := by rw [HSL.out]; exact beq_false_of_ne (hk 2 (by decide) (by decide))
  have tk3 : (sx.toList == ([99, 114, 97, 115, 104] : List UInt8)) = false := by rw [HSL.out]; exact beq_false_of_ne (hk 3 (by decide) (by decide))
  have tk4 : (sx.toList == ([111, 112, 101, 110] : List UInt8)) = false := by rw [HSL.out]; exact beq_false_of_ne (hk 4 (by decide) (by decide))
  have tk5 : (sx.toList == ([108, 111, 103] : List UInt8)) = false := by rw [HSL.out]; exact beq_false_of_ne (hk 5 (by decide) (by decide))
  have tk6 : (sx.toList == ([115, 101, 116, 116, 108, 101] : List UInt8)) = false := by rw [HSL.out]; exact beq_false_of_ne (hk 6 (by decide) (by decide))
  have tk7 : (sx.toList == ([115, 112, 111, 105, 108] : List UInt8)) = false := by rw [HSL.out]; exact beq_false_of_ne (hk 7 (by decide) (by decide))
  have tk8 : (sx.toList == ([108, 105, 115, 116] : List UInt8)) = false := by rw [HSL.out]; exact beq_false_of_ne (hk 8 (by decide) (by decide))
  clear hk
  go_wp2_with (first
    | (refine wpList_load_row rfl 29 (.tmp 7) rfl T rfl 29 z17 (0, 0) _ (PSH).out.e Tryz.underlying29 rfl refLnSize ?_)
    | (refine wpList_store_row rfl 29 (.tmp 2) (.tmp 182) rfl w.heap.size z17 rfl rfl 29 z17 (PSH).out.r refLnSize rfl z17_one ?_))
  obtain ⟨hn, gn⟩ := (PSH).out.done z17
  rw [HF.out]
  exact bodyPost_ret (results_lnR Tryz.results11 _ _ w.heap.size _ _ rfl hn rfl) rfl ⟨lnV0, rfl, rfl, lnAt0 _, gn, lnNew0 _⟩
set_option maxRecDepth 100000 in
set_option maxHeartbeats 2000000 in
theorem refParse41_4 (l : List UInt8) (w : World) (hl : l.length ≤ 100000) (ho : (parseO l).2 ≠ 0) (hk : (cutL 32 l).headD [] = scrW 4) : Calls Tryz.prog 11 #[strc l] w (RetLnR w (parseT l)) := by
  have HPO : Hid (∀ wr, Calls Tryz.prog 32 #[strc l] wr (RetOpN wr (parseO l))) := fun wr => refOpParse_new l wr hl
  have HSP : Hid (∀ wr, Calls Tryz.prog 33 #[strc l] wr (RetWs wr (cutL 32 l))) := fun wr => split41_any l wr hl
  obtain ⟨s, hs⟩ : ∃ s : ByteArray, strc l = .string s := ⟨_, rfl⟩
  rw [hs] at HSP HPO ⊢
  clear hs
  obtain ⟨r, hr⟩ : ∃ r, r = parseT l := ⟨_, rfl⟩
  rw [← hr]
  have HR := Lib.hid hr; clear hr
  go_enter Tryz.func11, Tryz.ntmps11
  go_wp2_with fail
  refine (HPO.out _).mono ?_
  rintro e w0 ⟨Ao, mo, co, rfl, so, g0, hfr⟩
  have HFRO : Hid (∀ b q, Ao = some ⟨b, q, none⟩ → w.heap.size ≤ b) := fun b q e => by have := hfr b q e; rw [World.size_alloc] at this; omega
  clear hfr
  have BR0 : Hid (Blk w0 w.heap.size 29 z17.toList) := (Blk.new w 29 z17).mono g0
  have G0 : Hid (Gr w w0) := (Gr.alloc w _).trans g0
  obtain rfl : (parseO l).1.x.length = mo := by have := Sl.len so; simpa using this
  obtain ⟨po, hpo⟩ : ∃ po, po = parseO l := ⟨_, rfl⟩
  rw [← hpo] at so ⊢
  have HPP := Lib.hid hpo
  clear hpo HPO
  obtain ⟨o1, f1⟩ := po
  simp only at so ⊢
  have HYB := setRow_heap (w0.alloc (.cells #[.int .i64 0, .string ⟨#[]⟩, .string ⟨#[]⟩, .int .i64 0, .int .i64 0, .int .i64 0, .int .i64 0, .slice none 0 0] 24)) w0.heap.size _ (opC o1 Ao o1.x.length co) _ _ (heap_alloc_new w0 _)
  have GS0 : Gr w0 ((w0.alloc (.cells #[.int .i64 0, .string ⟨#[]⟩, .string ⟨#[]⟩, .int .i64 0, .int .i64 0, .int .i64 0, .int .i64 0, .slice none 0 0] 24)).setRow w0.heap.size (opC o1 Ao o1.x.length co)) := below_row39 ((Below.refl _ _).alloc (Nat.le_refl _) _) (Nat.le_refl _) _
  have GA := Lib.hid (G0.out.trans GS0)
  have SO := Lib.hid (Sl.gr so GS0)
  have BRA : Hid (Blk ((w0.alloc (.cells #[.int .i64 0, .string ⟨#[]⟩, .string ⟨#[]⟩, .int .i64 0, .int .i64 0, .int .i64 0, .int .i64 0, .slice none 0 0] 24)).setRow w0.heap.size (opC o1 Ao o1.x.length co)) w.heap.size 29 z17.toList) := BR0.out.mono GS0
  have BY : Hid (Blk ((w0.alloc (.cells #[.int .i64 0, .string ⟨#[]⟩, .string ⟨#[]⟩, .int .i64 0, .int .i64 0, .int .i64 0, .int .i64 0, .slice none 0 0] 24)).setRow w0.heap.size (opC o1 Ao o1.x.length co)) w0.heap.size 24 (opC o1 Ao o1.x.length co).toList) := HYB
  clear HYB GS0 so g0
  have HNO : Hid ((parseO l).2 ≠ 0) := ho
  have t18 : ((f1 : Int) == 0) = false := beq_eq_false_iff_ne.2 (by have h := HPP.out; rw [← h] at ho; have ho : f1 ≠ 0 := ho; omega)
  clear BY SO BR0 HPP ho
  go_wp2_with (refine wpList_store_row rfl 24 (.tmp 4) (.tmp 25) rfl w0.heap.size (opC o1 Ao o1.x.length co) rfl rfl 24 #[.int .i64 0, .string ⟨#[]⟩, .string ⟨#[]⟩, .int .i64 0, .int .i64 0, .int .i64 0, .int .i64 0, .slice none 0 0] (by exact heap_alloc_new w0 _) opSize rfl (opOne _ _ _ _) ?_)
  refine (HSP.out _).mono ?_
  rintro e w2 hret
  obtain ⟨A, n, c, o, rfl, hws, g2⟩ := wordsOf _ l hret
  have GS2 : Gr w2 ((w2.alloc (.cells z17 29)).setRow w2.heap.size z17) := below_row39 ((Below.refl _ _).alloc (Nat.le_refl _) _) (Nat.le_refl _) _
  have HEB := setRow_heap (w2.alloc (.cells z17 29)) w2.heap.size _ z17 _ _ (heap_alloc_new w2 _)
  have PS : PrSt w ((w2.alloc (.cells z17 29)).setRow w2.heap.size z17) w2.heap.size A n c o (cutL 32 l) := ⟨GA.out.trans (g2.trans GS2), (BRA.out.mono g2).mono GS2, HEB, Nat.lt_of_lt_of_le BRA.out.lt g2.size, Sl.gr hws GS2⟩
  have PSH := Lib.hid PS
  clear hret HSP GS2 HEB hws g2 GA BRA G0 PS
  obtain ⟨W, hW⟩ : ∃ W, W = (w2.alloc (.cells z17 29)).setRow w2.heap.size z17 := ⟨_, rfl⟩
  obtain ⟨T, hT⟩ : ∃ T, T = w2.heap.size := ⟨_, rfl⟩
  rw [← hW, ← hT] at PSH
  have HW := Lib.hid hW; have HT := Lib.hid hT
  clear hW hT
  go_upto_region 6 with (refine wpList_store_row rfl 29 (.tmp 7) (.tmp 33) rfl w2.heap.size z17 rfl rfl 29 z17 (by exact heap_alloc_new w2 _) refLnSize rfl z17_one ?_)
  show Code.wp _ _ _ _ ((w2.alloc (.cells z17 29)).setRow w2.heap.size z17)
  rw [← HW.out, ← HT.out]
  clear HW HT
  have hlen := PSH.out.ws.len
  have hpos : 0 < (cutL 32 l).length := List.length_pos_iff.2 (cut_ne 32 l)
  have c0 := PSH.out.at 0 hpos
  have hw0 := head_atS hpos
  rw [hw0] at c0
  obtain ⟨sx, hsx⟩ : ∃ sx : ByteArray, sx = ⟨((cutL 32 l).headD []).toArray⟩ := ⟨_, rfl⟩
  have hsl : sx.toList = (cutL 32 l).headD [] := by rw [hsx, ByteArray.toList_eq]
  rw [show strc ((cutL 32 l).headD []) = .string sx by rw [hsx]; rfl] at c0
  rw [Nat.add_zero] at c0
  have HSL := Lib.hid hsl
  have hn0 : (0 : Int) < (n : Int) := by omega
  have hncap := Sl.cap PSH.out.ws
  have hnmax := Sl.max PSH.out.ws
  have HLEN := Lib.hid hlen
  clear hsx hw0 hpos hsl hlen
  have HP := Lib.hid (HR.out.trans (parseT_bare HNO.out hk (by omega)))
  have hsk : sx.toList = scrW 4 := HSL.out.trans hk
  have tk2 : (sx.toList == ([97, 114, 109] : List UInt8)) = false := by rw [hsk]; rfl
  have tk3 : (sx.toList == ([99, 114, 97, 115, 104] : List UInt8)) = false := by rw [hsk]; rfl
  have tk4 : (sx.toList == ([111, 112, 101, 110] : List UInt8)) = true := by rw [hsk]; rfl
  have tk5 : (sx.toList == ([108, 111, 103] : List UInt8)) = false := by rw [hsk]; rfl
  have tk6 : (sx.toList == ([115, 101, 116, 116, 108, 101] : List UInt8)) = false := by rw [hsk]; rfl
  have tk7 : (sx.toList == ([115, 112, 111, 105, 108] : List UInt8)) = false := by rw [hsk]; rfl
  have tk8 : (sx.toList == ([108, 105, 115, 116] : List UInt8)) = false := by rw [hsk]; rfl
  clear hk hsk
  by_cases h1 : n = 1
  · have t1 : ((n : Int) == 1) = true := by rw [h1]; rfl
    have HF : Hid (r = ({ ln0 with k := 4 }, 0)) := by have h := HP.out; rw [if_pos (HLEN.out.trans h1)] at h; exact h
    clear h1
    go_wp2_with (refine wpList_store_row rfl 29 (.tmp 2) (.tmp 53) rfl w.heap.size (LnV.arr ⟨{ ln0 with k := 4 }, none, 0, none, 0, none, 0⟩) rfl rfl 29 z17 (PSH).out.r refLnSize rfl (lnOne _) ?_)
    obtain ⟨hn, gn⟩ := (PSH).out.done (LnV.arr ⟨{ ln0 with k := 4 }, none, 0, none, 0, none, 0⟩)
    rw [HF.out]
    exact bodyPost_ret (results_lnR Tryz.results11 _ _ w.heap.size _ _ rfl hn rfl) rfl ⟨⟨{ ln0 with k := 4 }, none, 0, none, 0, none, 0⟩, rfl, rfl, ⟨Sl.nil _ _, Sl.nil _ _, Sl.nil _ _⟩, gn, ⟨(fun b q e => by cases e), (fun b q e => by cases e), (fun b q e => by cases e)⟩⟩
  · have t1 : ((n : Int) == 1) = false := beq_eq_false_iff_ne.2 (by omega)
    have HF : Hid (r = (ln0, 3)) := by have h := HP.out; rw [if_neg (by rw [HLEN.out]; exact h1)] at h; exact h
    clear h1
    go_wp2_with (first
      | (refine wpList_load_row rfl 29 (.tmp 7) rfl T rfl 29 z17 (0, 0) _ (PSH).out.e Tryz.underlying29 rfl refLnSize ?_)
      | (refine wpList_store_row rfl 29 (.tmp 2) (.tmp 182) rfl w.heap.size z17 rfl rfl 29 z17 (PSH).out.r refLnSize rfl z17_one ?_))
    obtain ⟨hn, gn⟩ := (PSH).out.done z17
    rw [HF.out]
    exact bodyPost_ret (results_lnR Tryz.results11 _ _ w.heap.size _ _ rfl hn rfl) rfl ⟨lnV0, rfl, rfl, lnAt0 _, gn, lnNew0 _⟩
set_option maxRecDepth 100000 in
set_option maxHeartbeats 2000000 in
theorem refParse41_6 (l : List UInt8) (w : World) (hl : l.length ≤ 100000) (ho : (parseO l).2 ≠ 0) (hk : (cutL 32 l).headD [] = scrW 6) : Calls Tryz.prog 11 #[strc l] w (RetLnR w (parseT l)) := by
  have HPO : Hid (∀ wr, Calls Tryz.prog 32 #[strc l] wr (RetOpN wr (parseO l))) := fun wr => refOpParse_new l wr hl
  have HSP : Hid (∀ wr, Calls Tryz.prog 33 #[strc l] wr (RetWs wr (cutL 32 l))) := fun wr => split41_any l wr hl
  obtain ⟨s, hs⟩ : ∃ s : ByteArray, strc l = .string s := ⟨_, rfl⟩
  rw [hs] at HSP HPO ⊢
  clear hs
  obtain ⟨r, hr⟩ : ∃ r, r = parseT l := ⟨_, rfl⟩
  rw [← hr]
  have HR := Lib.hid hr; clear hr
  go_enter Tryz.func11, Tryz.ntmps11
  go_wp2_with fail
  refine (HPO.out _).mono ?_
  rintro e w0 ⟨Ao, mo, co, rfl, so, g0, hfr⟩
  have HFRO : Hid (∀ b q, Ao = some ⟨b, q, none⟩ → w.heap.size ≤ b) := fun b q e => by have := hfr b q e; rw [World.size_alloc] at this; omega
  clear hfr
  have BR0 : Hid (Blk w0 w.heap.size 29 z17.toList) := (Blk.new w 29 z17).mono g0
  have G0 : Hid (Gr w w0) := (Gr.alloc w _).trans g0
  obtain rfl : (parseO l).1.x.length = mo := by have := Sl.len so; simpa using this
  obtain ⟨po, hpo⟩ : ∃ po, po = parseO l := ⟨_, rfl⟩
  rw [← hpo] at so ⊢
  have HPP := Lib.hid hpo
  clear hpo HPO
  obtain ⟨o1, f1⟩ := po
  simp only at so ⊢
  have HYB := setRow_heap (w0.alloc (.cells #[.int .i64 0, .string ⟨#[]⟩, .string ⟨#[]⟩, .int .i64 0, .int .i64 0, .int .i64 0, .int .i64 0, .slice none 0 0] 24)) w0.heap.size _ (opC o1 Ao o1.x.length co) _ _ (heap_alloc_new w0 _)
  have GS0 : Gr w0 ((w0.alloc (.cells #[.int .i64 0, .string ⟨#[]⟩, .string ⟨#[]⟩, .int .i64 0, .int .i64 0, .int .i64 0, .int .i64 0, .slice none 0 0] 24)).setRow w0.heap.size (opC o1 Ao o1.x.length co)) := below_row39 ((Below.refl _ _).alloc (Nat.le_refl _) _) (Nat.le_refl _) _
  have GA := Lib.hid (G0.out.trans GS0)
  have SO := Lib.hid (Sl.gr so GS0)
  have BRA : Hid (Blk ((w0.alloc (.cells #[.int .i64 0, .string ⟨#[]⟩, .string ⟨#[]⟩, .int .i64 0, .int .i64 0, .int .i64 0, .int .i64 0, .slice none 0 0] 24)).setRow w0.heap.size (opC o1 Ao o1.x.length co)) w.heap.size 29 z17.toList) := BR0.out.mono GS0
  have BY : Hid (Blk ((w0.alloc (.cells #[.int .i64 0, .string ⟨#[]⟩, .string ⟨#[]⟩, .int .i64 0, .int .i64 0, .int .i64 0, .int .i64 0, .slice none 0 0] 24)).setRow w0.heap.size (opC o1 Ao o1.x.length co)) w0.heap.size 24 (opC o1 Ao o1.x.length co).toList) := HYB
  clear HYB GS0 so g0
  have HNO : Hid ((parseO l).2 ≠ 0) := ho
  have t18 : ((f1 : Int) == 0) = false := beq_eq_false_iff_ne.2 (by have h := HPP.out; rw [← h] at ho; have ho : f1 ≠ 0 := ho; omega)
  clear BY SO BR0 HPP ho
  go_wp2_with (refine wpList_store_row rfl 24 (.tmp 4) (.tmp 25) rfl w0.heap.size (opC o1 Ao o1.x.length co) rfl rfl 24 #[.int .i64 0, .string ⟨#[]⟩, .string ⟨#[]⟩, .int .i64 0, .int .i64 0, .int .i64 0, .int .i64 0, .slice none 0 0] (by exact heap_alloc_new w0 _) opSize rfl (opOne _ _ _ _) ?_)
  refine (HSP.out _).mono ?_
  rintro e w2 hret
  obtain ⟨A, n, c, o, rfl, hws, g2⟩ := wordsOf _ l hret
  have GS2 : Gr w2 ((w2.alloc (.cells z17 29)).setRow w2.heap.size z17) := below_row39 ((Below.refl _ _).alloc (Nat.le_refl _) _) (Nat.le_refl _) _
  have HEB := setRow_heap (w2.alloc (.cells z17 29)) w2.heap.size _ z17 _ _ (heap_alloc_new w2 _)
  have PS : PrSt w ((w2.alloc (.cells z17 29)).setRow w2.heap.size z17) w2.heap.size A n c o (cutL 32 l) := ⟨GA.out.trans (g2.trans GS2), (BRA.out.mono g2).mono GS2, HEB, Nat.lt_of_lt_of_le BRA.out.lt g2.size, Sl.gr hws GS2⟩
  have PSH := Lib.hid PS
  clear hret HSP GS2 HEB hws g2 GA BRA G0 PS
  obtain ⟨W, hW⟩ : ∃ W, W = (w2.alloc (.cells z17 29)).setRow w2.heap.size z17 := ⟨_, rfl⟩
  obtain ⟨T, hT⟩ : ∃ T, T = w2.heap.size := ⟨_, rfl⟩
  rw [← hW, ← hT] at PSH
  have HW := Lib.hid hW; have HT := Lib.hid hT
  clear hW hT
  go_upto_region 6 with (refine wpList_store_row rfl 29 (.tmp 7) (.tmp 33) rfl w2.heap.size z17 rfl rfl 29 z17 (by exact heap_alloc_new w2 _) refLnSize rfl z17_one ?_)
  show Code.wp _ _ _ _ ((w2.alloc (.cells z17 29)).setRow w2.heap.size z17)
  rw [← HW.out, ← HT.out]
  clear HW HT
  have hlen := PSH.out.ws.len
  have hpos : 0 < (cutL 32 l).length := List.length_pos_iff.2 (cut_ne 32 l)
  have c0 := PSH.out.at 0 hpos
  have hw0 := head_atS hpos
  rw [hw0] at c0
  obtain ⟨sx, hsx⟩ : ∃ sx : ByteArray, sx = ⟨((cutL 32 l).headD []).toArray⟩ := ⟨_, rfl⟩
  have hsl : sx.toList = (cutL 32 l).headD [] := by rw [hsx, ByteArray.toList_eq]
  rw [show strc ((cutL 32 l).headD []) = .string sx by rw [hsx]; rfl] at c0
  rw [Nat.add_zero] at c0
  have HSL := Lib.hid hsl
  have hn0 : (0 : Int) < (n : Int) := by omega
  have hncap := Sl.cap PSH.out.ws
  have hnmax := Sl.max PSH.out.ws
  have HLEN := Lib.hid hlen
  clear hsx hw0 hpos hsl hlen
  have HP := Lib.hid (HR.out.trans (parseT_bare HNO.out hk (by omega)))
  have hsk : sx.toList = scrW 6 := HSL.out.trans hk
  have tk2 : (sx.toList == ([97, 114, 109] : List UInt8)) = false := by rw [hsk]; rfl
  have tk3 : (sx.toList == ([99, 114, 97, 115, 104] : List UInt8)) = false := by rw [hsk]; rfl
  have tk4 : (sx.toList == ([111, 112, 101, 110] : List UInt8)) = false := by rw [hsk]; rfl
  have tk5 : (sx.toList == ([108, 111, 103] : List UInt8)) = false := by rw [hsk]; rfl
  have tk6 : (sx.toList == ([115, 101, 116, 116, 108, 101] : List UInt8)) = true := by rw [hsk]; rfl
  have tk7 : (sx.toList == ([115, 112, 111, 105, 108] : List UInt8)) = false := by rw [hsk]; rfl
  have tk8 : (sx.toList == ([108, 105, 115, 116] : List UInt8)) = false := by rw [hsk]; rfl
  clear hk hsk
  by_cases h1 : n = 1
  · have t1 : ((n : Int) == 1) = true := by rw [h1]; rfl
    have HF : Hid (r = ({ ln0 with k := 6 }, 0)) := by have h := HP.out; rw [if_pos (HLEN.out.trans h1)] at h; exact h
    clear h1
    go_wp2_with (refine wpList_store_row rfl 29 (.tmp 2) (.tmp 53) rfl w.heap.size (LnV.arr ⟨{ ln0 with k := 6 }, none, 0, none, 0, none, 0⟩) rfl rfl 29 z17 (PSH).out.r refLnSize rfl (lnOne _) ?_)
    obtain ⟨hn, gn⟩ := (PSH).out.done (LnV.arr ⟨{ ln0 with k := 6 }, none, 0, none, 0, none, 0⟩)
    rw [HF.out]
    exact bodyPost_ret (results_lnR Tryz.results11 _ _ w.heap.size _ _ rfl hn rfl) rfl ⟨⟨{ ln0 with k := 6 }, none, 0, none, 0, none, 0⟩, rfl, rfl, ⟨Sl.nil _ _, Sl.nil _ _, Sl.nil _ _⟩, gn, ⟨(fun b q e => by cases e), (fun b q e => by cases e), (fun b q e => by cases e)⟩⟩
  · have t1 : ((n : Int) == 1) = false := beq_eq_false_iff_ne.2 (by omega)
    have HF : Hid (r = (ln0, 3)) := by have h := HP.out; rw [if_neg (by rw [HLEN.out]; exact h1)] at h; exact h
    clear h1
    go_wp2_with (first
      | (refine wpList_load_row rfl 29 (.tmp 7) rfl T rfl 29 z17 (0, 0) _ (PSH).out.e Tryz.underlying29 rfl refLnSize ?_)
      | (refine wpList_store_row rfl 29 (.tmp 2) (.tmp 182) rfl w.heap.size z17 rfl rfl 29 z17 (PSH).out.r refLnSize rfl z17_one ?_))
    obtain ⟨hn, gn⟩ := (PSH).out.done z17
    rw [HF.out]
    exact bodyPost_ret (results_lnR Tryz.results11 _ _ w.heap.size _ _ rfl hn rfl) rfl ⟨lnV0, rfl, rfl, lnAt0 _, gn, lnNew0 _⟩
set_option maxRecDepth 100000 in
set_option maxHeartbeats 2000000 in
theorem refParse41_8 (l : List UInt8) (w : World) (hl : l.length ≤ 100000) (ho : (parseO l).2 ≠ 0) (hk : (cutL 32 l).headD [] = scrW 8) : Calls Tryz.prog 11 #[strc l] w (RetLnR w (parseT l)) := by
  have HPO : Hid (∀ wr, Calls Tryz.prog 32 #[strc l] wr (RetOpN wr (parseO l))) := fun wr => refOpParse_new l wr hl
  have HSP : Hid (∀ wr, Calls Tryz.prog 33 #[strc l] wr (RetWs wr (cutL 32 l))) := fun wr => split41_any l wr hl
  obtain ⟨s, hs⟩ : ∃ s : ByteArray, strc l = .string s := ⟨_, rfl⟩
  rw [hs] at HSP HPO ⊢
  clear hs
  obtain ⟨r, hr⟩ : ∃ r, r = parseT l := ⟨_, rfl⟩
  rw [← hr]
  have HR := Lib.hid hr; clear hr
  go_enter Tryz.func11, Tryz.ntmps11
  go_wp2_with fail
  refine (HPO.out _).mono ?_
  rintro e w0 ⟨Ao, mo, co, rfl, so, g0, hfr⟩
  have HFRO : Hid (∀ b q, Ao = some ⟨b, q, none⟩ → w.heap.size ≤ b) := fun b q e => by have := hfr b q e; rw [World.size_alloc] at this; omega
  clear hfr
  have BR0 : Hid (Blk w0 w.heap.size 29 z17.toList) := (Blk.new w 29 z17).mono g0
  have G0 : Hid (Gr w w0) := (Gr.alloc w _).trans g0
  obtain rfl : (parseO l).1.x.length = mo := by have := Sl.len so; simpa using this
  obtain ⟨po, hpo⟩ : ∃ po, po = parseO l := ⟨_, rfl⟩
  rw [← hpo] at so ⊢
  have HPP := Lib.hid hpo
  clear hpo HPO
  obtain ⟨o1, f1⟩ := po
  simp only at so ⊢
  have HYB := setRow_heap (w0.alloc (.cells #[.int .i64 0, .string ⟨#[]⟩, .string ⟨#[]⟩, .int .i64 0, .int .i64 0, .int .i64 0, .int .i64 0, .slice none 0 0] 24)) w0.heap.size _ (opC o1 Ao o1.x.length co) _ _ (heap_alloc_new w0 _)
  have GS0 : Gr w0 ((w0.alloc (.cells #[.int .i64 0, .string ⟨#[]⟩, .string ⟨#[]⟩, .int .i64 0, .int .i64 0, .int .i64 0, .int .i64 0, .slice none 0 0] 24)).setRow w0.heap.size (opC o1 Ao o1.x.length co)) := below_row39 ((Below.refl _ _).alloc (Nat.le_refl _) _) (Nat.le_refl _) _
  have GA := Lib.hid (G0.out.trans GS0)
  have SO := Lib.hid (Sl.gr so GS0)
  have BRA : Hid (Blk ((w0.alloc (.cells #[.int .i64 0, .string ⟨#[]⟩, .string ⟨#[]⟩, .int .i64 0, .int .i64 0, .int .i64 0, .int .i64 0, .slice none 0 0] 24)).setRow w0.heap.size (opC o1 Ao o1.x.length co)) w.heap.size 29 z17.toList) := BR0.out.mono GS0
  have BY : Hid (Blk ((w0.alloc (.cells #[.int .i64 0, .string ⟨#[]⟩, .string ⟨#[]⟩, .int .i64 0, .int .i64 0, .int .i64 0, .int .i64 0, .slice none 0 0] 24)).setRow w0.heap.size (opC o1 Ao o1.x.length co)) w0.heap.size 24 (opC o1 Ao o1.x.length co).toList) := HYB
  clear HYB GS0 so g0
  have HNO : Hid ((parseO l).2 ≠ 0) := ho
  have t18 : ((f1 : Int) == 0) = false := beq_eq_false_iff_ne.2 (by have h := HPP.out; rw [← h] at ho; have ho : f1 ≠ 0 := ho; omega)
  clear BY SO BR0 HPP ho
  go_wp2_with (refine wpList_store_row rfl 24 (.tmp 4) (.tmp 25) rfl w0.heap.size (opC o1 Ao o1.x.length co) rfl rfl 24 #[.int .i64 0, .string ⟨#[]⟩, .string ⟨#[]⟩, .int .i64 0, .int .i64 0, .int .i64 0, .int .i64 0, .slice none 0 0] (by exact heap_alloc_new w0 _) opSize rfl (opOne _ _ _ _) ?_)
  refine (HSP.out _).mono ?_
  rintro e w2 hret
  obtain ⟨A, n, c, o, rfl, hws, g2⟩ := wordsOf _ l hret
  have GS2 : Gr w2 ((w2.alloc (.cells z17 29)).setRow w2.heap.size z17) := below_row39 ((Below.refl _ _).alloc (Nat.le_refl _) _) (Nat.le_refl _) _
  have HEB := setRow_heap (w2.alloc (.cells z17 29)) w2.heap.size _ z17 _ _ (heap_alloc_new w2 _)
  have PS : PrSt w ((w2.alloc (.cells z17 29)).setRow w2.heap.size z17) w2.heap.size A n c o (cutL 32 l) := ⟨GA.out.trans (g2.trans GS2), (BRA.out.mono g2).mono GS2, HEB, Nat.lt_of_lt_of_le BRA.out.lt g2.size, Sl.gr hws GS2⟩
  have PSH := Lib.hid PS
  clear hret HSP GS2 HEB hws g2 GA BRA G0 PS
  obtain ⟨W, hW⟩ : ∃ W, W = (w2.alloc (.cells z17 29)).setRow w2.heap.size z17 := ⟨_, rfl⟩
  obtain ⟨T, hT⟩ : ∃ T, T = w2.heap.size := ⟨_, rfl⟩
  rw [← hW, ← hT] at PSH
  have HW := Lib.hid hW; have HT := Lib.hid hT
  clear hW hT
  go_upto_region 6 with (refine wpList_store_row rfl 29 (.tmp 7) (.tmp 33) rfl w2.heap.size z17 rfl rfl 29 z17 (by exact heap_alloc_new w2 _) refLnSize rfl z17_one ?_)
  show Code.wp _ _ _ _ ((w2.alloc (.cells z17 29)).setRow w2.heap.size z17)
  rw [← HW.out, ← HT.out]
  clear HW HT
  have hlen := PSH.out.ws.len
  have hpos : 0 < (cutL 32 l).length := List.length_pos_iff.2 (cut_ne 32 l)
  have c0 := PSH.out.at 0 hpos
  have hw0 := head_atS hpos
  rw [hw0] at c0
  obtain ⟨sx, hsx⟩ : ∃ sx : ByteArray, sx = ⟨((cutL 32 l).headD []).toArray⟩ := ⟨_, rfl⟩
  have hsl : sx.toList = (cutL 32 l).headD [] := by rw [hsx, ByteArray.toList_eq]
  rw [show strc ((cutL 32 l).headD []) = .string sx by rw [hsx]; rfl] at c0
  rw [Nat.add_zero] at c0
  have HSL := Lib.hid hsl
  have hn0 : (0 : Int) < (n : Int) := by omega
  have hncap := Sl.cap PSH.out.ws
  have hnmax := Sl.max PSH.out.ws
  have HLEN := Lib.hid hlen
  clear hsx hw0 hpos hsl hlen
  have HP := Lib.hid (HR.out.trans (parseT_bare HNO.out hk (by omega)))
  have hsk : sx.toList = scrW 8 := HSL.out.trans hk
  have tk2 : (sx.toList == ([97, 114, 109] : List UInt8)) = false := by rw [hsk]; rfl
  have tk3 : (sx.toList == ([99, 114, 97, 115, 104] : List UInt8)) = false := by rw [hsk]; rfl
  have tk4 : (sx.toList == ([111, 112, 101, 110] : List UInt8)) = false := by rw [hsk]; rfl
  have tk5 : (sx.toList == ([108, 111, 103] : List UInt8)) = false := by rw [hsk]; rfl
  have tk6 : (sx.toList == ([115, 101, 116, 116, 108, 101] : List UInt8)) = false := by rw [hsk]; rfl
  have tk7 : (sx.toList == ([115, 112, 111, 105, 108] : List UInt8)) = false := by rw [hsk]; rfl
  have tk8 : (sx.toList == ([108, 105, 115, 116] : List UInt8)) = true := by rw [hsk]; rfl
  clear hk hsk
  by_cases h1 : n = 1
  · have t1 : ((n : Int) == 1) = true := by rw [h1]; rfl
    have HF : Hid (r = ({ ln0 with k := 8 }, 0)) := by have h := HP.out; rw [if_pos (HLEN.out.trans h1)] at h; exact h
    clear h1
    go_wp2_with (refine wpList_store_row rfl 29 (.tmp 2) (.tmp 53) rfl w.heap.size (LnV.arr ⟨{ ln0 with k := 8 }, none, 0, none, 0, none, 0⟩) rfl rfl 29 z17 (PSH).out.r refLnSize rfl (lnOne _) ?_)
    obtain ⟨hn, gn⟩ := (PSH).out.done (LnV.arr ⟨{ ln0 with k := 8 }, none, 0, none, 0, none, 0⟩)
    rw [HF.out]
    exact bodyPost_ret (results_lnR Tryz.results11 _ _ w.heap.size _ _ rfl hn rfl) rfl ⟨⟨{ ln0 with k := 8 }, none, 0, none, 0, none, 0⟩, rfl, rfl, ⟨Sl.nil _ _, Sl.nil _ _, Sl.nil _ _⟩, gn, ⟨(fun b q e => by cases e), (fun b q e => by cases e), (fun b q e => by cases e)⟩⟩
  · have t1 : ((n : Int) == 1) = false := beq_eq_false_iff_ne.2 (by omega)
    have HF : Hid (r = (ln0, 3)) := by have h := HP.out; rw [if_neg (by rw [HLEN.out]; exact h1)] at h; exact h
    clear h1
    go_wp2_with (first
      | (refine wpList_load_row rfl 29 (.tmp 7) rfl T rfl 29 z17 (0, 0) _ (PSH).out.e Tryz.underlying29 rfl refLnSize ?_)
      | (refine wpList_store_row rfl 29 (.tmp 2) (.tmp 182) rfl w.heap.size z17 rfl rfl 29 z17 (PSH).out.r refLnSize rfl z17_one ?_))
    obtain ⟨hn, gn⟩ := (PSH).out.done z17
    rw [HF.out]
    exact bodyPost_ret (results_lnR Tryz.results11 _ _ w.heap.size _ _ rfl hn rfl) rfl ⟨lnV0, rfl, rfl, lnAt0 _, gn, lnNew0 _⟩
end Go.Proofs.YtadenlhnfkccaaaGreatDoor

/- Lines of scripts: the reference's Parse, the lines with numbers. No condition. -/
namespace Go.Proofs.YtadenlhnfkccaaaGreatDoor
open Go.RowKit
set_option linter.unusedVariables false
set_option linter.unusedSimpArgs false
theorem cut_bound {l : List UInt8} {n : Nat} (hl : l.length ≤ 100000) (hn : (cutL 32 l).length = n) : n ≤ 100001 := by have := (cut_size 32 l).1; omega
theorem cut_words {l : List UInt8} (hl : l.length ≤ 100000) {ws : List (List UInt8)} (h : ∀ x ∈ ws, x ∈ cutL 32 l) : ∀ x ∈ ws, x.length ≤ 100000 := fun x hx => Nat.le_trans ((cut_size 32 l).2 x (h x hx)) hl
set_option maxRecDepth 100000 in
set_option maxHeartbeats 2000000 in
theorem refParse41_2 (l : List UInt8) (w : World) (hl : l.length ≤ 100000) (ho : (parseO l).2 ≠ 0) (hk : (cutL 32 l).headD [] = scrW 2) : Calls Tryz.prog 11 #[strc l] w (RetLnR w (parseT l)) := by
  have HPO : Hid (∀ wr, Calls Tryz.prog 32 #[strc l] wr (RetOpN wr (parseO l))) := fun wr => refOpParse_new l wr hl
  have HSP : Hid (∀ wr, Calls Tryz.prog 33 #[strc l] wr (RetWs wr (cutL 32 l))) := fun wr => split41_any l wr hl
  obtain ⟨s, hs⟩ : ∃ s : ByteArray, strc l = .string s := ⟨_, rfl⟩
  rw [hs] at HSP HPO ⊢
  clear hs
  obtain ⟨r, hr⟩ : ∃ r, r = parseT l := ⟨_, rfl⟩
  rw [← hr]
  have HR := Lib.hid hr; clear hr
  go_enter Tryz.func11, Tryz.ntmps11
  go_wp2_with fail
  refine (HPO.out _).mono ?_
  rintro e w0 ⟨Ao, mo, co, rfl, so, g0, hfr⟩
  have HFRO : Hid (∀ b q, Ao = some ⟨b, q, none⟩ → w.heap.size ≤ b) := fun b q e => by have := hfr b q e; rw [World.size_alloc] at this; omega
  clear hfr
  have BR0 : Hid (Blk w0 w.heap.size 29 z17.toList) := (Blk.new w 29 z17).mono g0
  have G0 : Hid (Gr w w0) := (Gr.alloc w _).trans g0
  obtain rfl : (parseO l).1.x.length = mo := by have := Sl.len so; simpa using this
  obtain ⟨po, hpo⟩ : ∃ po, po = parseO l := ⟨_, rfl⟩
  rw [← hpo] at so ⊢
  have HPP := Lib.hid hpo
  clear hpo HPO
  obtain ⟨o1, f1⟩ := po
  simp only at so ⊢
  have HYB := setRow_heap (w0.alloc (.cells #[.int .i64 0, .string ⟨#[]⟩, .string ⟨#[]⟩, .int .i64 0, .int .i64 0, .int .i64 0, .int .i64 0, .slice none 0 0] 24)) w0.heap.size _ (opC o1 Ao o1.x.length co) _ _ (heap_alloc_new w0 _)
  have GS0 : Gr w0 ((w0.alloc (.cells #[.int .i64 0, .string ⟨#[]⟩, .string ⟨#[]⟩, .int .i64 0, .int .i64 0, .int .i64 0, .int .i64 0, .slice none 0 0] 24)).setRow w0.heap.size (opC o1 Ao o1.x.length co)) := below_row39 ((Below.refl _ _).alloc (Nat.le_refl _) _) (Nat.le_refl _) _
  have GA := Lib.hid (G0.out.trans GS0)
  have SO := Lib.hid (Sl.gr so GS0)
  have BRA : Hid (Blk ((w0.alloc (.cells #[.int .i64 0, .string ⟨#[]⟩, .string ⟨#[]⟩, .int .i64 0, .int .i64 0, .int .i64 0, .int .i64 0, .slice none 0 0] 24)).setRow w0.heap.size (opC o1 Ao o1.x.length co)) w.heap.size 29 z17.toList) := BR0.out.mono GS0
  have BY : Hid (Blk ((w0.alloc (.cells #[.int .i64 0, .string ⟨#[]⟩, .string ⟨#[]⟩, .int .i64 0, .int .i64 0, .int .i64 0, .int .i64 0, .slice none 0 0] 24)).setRow w0.heap.size (opC o1 Ao o1.x.length co)) w0.heap.size 24 (opC o1 Ao o1.x.length co).toList) := HYB
  clear HYB GS0 so g0
  have HNO : Hid ((parseO l).2 ≠ 0) := ho
  have t18 : ((f1 : Int) == 0) = false := beq_eq_false_iff_ne.2 (by have h := HPP.out; rw [← h] at ho; have ho : f1 ≠ 0 := ho; omega)
  clear BY SO BR0 HPP ho
  go_wp2_with (refine wpList_store_row rfl 24 (.tmp 4) (.tmp 25) rfl w0.heap.size (opC o1 Ao o1.x.length co) rfl rfl 24 #[.int .i64 0, .string ⟨#[]⟩, .string ⟨#[]⟩, .int .i64 0, .int .i64 0, .int .i64 0, .int .i64 0, .slice none 0 0] (by exact heap_alloc_new w0 _) opSize rfl (opOne _ _ _ _) ?_)
  refine (HSP.out _).mono ?_
  rintro e w2 hret
  obtain ⟨A, n, c, o, rfl, hws, g2⟩ := wordsOf _ l hret
  have GS2 : Gr w2 ((w2.alloc (.cells z17 29)).setRow w2.heap.size z17) := below_row39 ((Below.refl _ _).alloc (Nat.le_refl _) _) (Nat.le_refl _) _
  have HEB := setRow_heap (w2.alloc (.cells z17 29)) w2.heap.size _ z17 _ _ (heap_alloc_new w2 _)
  have PS : PrSt w ((w2.alloc (.cells z17 29)).setRow w2.heap.size z17) w2.heap.size A n c o (cutL 32 l) := ⟨GA.out.trans (g2.trans GS2), (BRA.out.mono g2).mono GS2, HEB, Nat.lt_of_lt_of_le BRA.out.lt g2.size, Sl.gr hws GS2⟩
  have PSH := Lib.hid PS
  clear hret HSP GS2 HEB hws g2 GA BRA G0 PS
  obtain ⟨W, hW⟩ : ∃ W, W = (w2.alloc (.cells z17 29)).setRow w2.heap.size z17 := ⟨_, rfl⟩
  obtain ⟨T, hT⟩ : ∃ T, T = w2.heap.size := ⟨_, rfl⟩
  rw [← hW, ← hT] at PSH
  have HW := Lib.hid hW; have HT := Lib.hid hT
  clear hW hT
  go_upto_region 6 with (refine wpList_store_row rfl 29 (.tmp 7) (.tmp 33) rfl w2.heap.size z17 rfl rfl 29 z17 (by exact heap_alloc_new w2 _) refLnSize rfl z17_one ?_)
  show Code.wp _ _ _ _ ((w2.alloc (.cells z17 29)).setRow w2.heap.size z17)
  rw [← HW.out, ← HT.out]
  clear HW HT
  have hlen := PSH.out.ws.len
  have hpos : 0 < (cutL 32 l).length := List.length_pos_iff.2 (cut_ne 32 l)
  have c0 := PSH.out.at 0 hpos
  have hw0 := head_atS hpos
  rw [hw0] at c0
  obtain ⟨sx, hsx⟩ : ∃ sx : ByteArray, sx = ⟨((cutL 32 l).headD []).toArray⟩ := ⟨_, rfl⟩
  have hsl : sx.toList = (cutL 32 l).headD [] := by rw [hsx, ByteArray.toList_eq]
  rw [show strc ((cutL 32 l).headD []) = .string sx by rw [hsx]; rfl] at c0
  rw [Nat.add_zero] at c0
  have HSL := Lib.hid hsl
  have hn0 : (0 : Int) < (n : Int) := by omega
  have hncap := Sl.cap PSH.out.ws
  have hnmax := Sl.max PSH.out.ws
  have HLEN := Lib.hid hlen
  clear hsx hw0 hpos hsl hlen
  have hsk : sx.toList = scrW 2 := HSL.out.trans hk
  have tk2 : (sx.toList == ([97, 114, 109] : List UInt8)) = true := by rw [hsk]; rfl
  have tk3 : (sx.toList == ([99, 114, 97, 115, 104] : List UInt8)) = false := by rw [hsk]; rfl
  have tk4 : (sx.toList == ([111, 112, 101, 110] : List UInt8)) = false := by rw [hsk]; rfl
  have tk5 : (sx.toList == ([108, 111, 103] : List UInt8)) = false := by rw [hsk]; rfl
  have tk6 : (sx.toList == ([115, 101, 116, 116, 108, 101] : List UInt8)) = false := by rw [hsk]; rfl
  have tk7 : (sx.toList == ([115, 112, 111, 105, 108] : List UInt8)) = false := by rw [hsk]; rfl
  have tk8 : (sx.toList == ([108, 105, 115, 116] : List UInt8)) = false := by rw [hsk]; rfl
  have hn1 : (1 : Int) ≤ (n : Int) := by omega
  have hcn := cut_bound hl HLEN.out
  have HK := Lib.hid hk
  have HCN := Lib.hid hcn
  clear hk hsk hcn
  by_cases hc1 : c = 1
  · obtain rfl : n = 1 := by omega
    subst hc1
    have HN0 : Hid (∀ wr, Calls Tryz.prog 34 #[.slice (some ⟨A, o, none⟩) 0 0] wr (RetNums wr [])) := fun wr => numbers41_any _ _ _ [] wr ⟨rfl, Nat.le_refl _, by omega, fun h => absurd h (by omega)⟩ (by omega) (fun x hx => by cases hx)
    have HF : Hid (r = (ln0, 3)) := HR.out.trans (parseT_n HNO.out HK.out (by omega) (by rw [HLEN.out]; decide))
    go_wp2_with fail
    refine (HN0.out _).mono ?_
    rintro e wx ⟨B, m, q, p, rfl, hp, hpn, g⟩
    obtain rfl : m = 0 := by
      have h := Is.len hp
      rw [hpn rfl] at h
      exact h.symm
    have PSX := Lib.hid (PSH.out.gr g)
    clear g hp hpn
    go_wp2_with (first
      | (refine wpList_load_row rfl 29 (.tmp 7) rfl T rfl 29 z17 (0, 0) _ (PSX).out.e Tryz.underlying29 rfl refLnSize ?_)
      | (refine wpList_store_row rfl 29 (.tmp 2) (.tmp 182) rfl w.heap.size z17 rfl rfl 29 z17 (PSX).out.r refLnSize rfl z17_one ?_))
    obtain ⟨hn, gn⟩ := (PSX).out.done z17
    rw [HF.out]
    exact bodyPost_ret (results_lnR Tryz.results11 _ _ w.heap.size _ _ rfl hn rfl) rfl ⟨lnV0, rfl, rfl, lnAt0 _, gn, lnNew0 _⟩
  · have hcf : ¬ c - 1 = 0 := by omega
    have HNM : Hid (∀ wr, Gr W wr → Calls Tryz.prog 34 #[.slice (some ⟨A, o + 1, none⟩) (n - 1) (c - 1)] wr (RetNums wr (((cutL 32 l).drop 1).take (n - 1)))) := fun wr g => numbers41_any _ _ _ _ wr (Sl.gr (Ws.part PSH.out.ws (by omega)) g) (by have := HCN.out; omega) (cut_words hl (fun x hx => List.mem_of_mem_drop (List.mem_of_mem_take hx)))
    go_wp2_with fail
    refine (HNM.out _ (Gr.refl _)).mono ?_
    rintro e wx ⟨B, m, q, p, rfl, hp, hpn, g⟩
    have PSX := Lib.hid (PSH.out.gr g)
    clear g
    by_cases h2 : n = 2
    · subst h2
      obtain ⟨a, b, hab⟩ : ∃ a b, cutL 32 l = [a, b] := by
        have h := HLEN.out
        match hc : cutL 32 l, h with
        | [a, b], _ => exact ⟨a, b, rfl⟩
      have hka : a = scrW 2 := by have h := HK.out; rw [hab] at h; exact h
      have HPT := Lib.hid (HR.out.trans (parseT_2 HNO.out hab hka))
      have e2 : ((cutL 32 l).drop 1).take (2 - 1) = [b] := by rw [hab]; rfl
      rw [e2] at hpn ⊢
      clear hka e2 HNM
      cases hb : numsB [b] with
      | false =>
        have HF : Hid (r = (ln0, 3)) := by have h := HPT.out; rw [hb] at h; exact h
        clear hpn hp hb hab
        go_wp2_with (first
          | (refine wpList_load_row rfl 29 (.tmp 7) rfl T rfl 29 z17 (0, 0) _ (PSX).out.e Tryz.underlying29 rfl refLnSize ?_)
          | (refine wpList_store_row rfl 29 (.tmp 2) (.tmp 182) rfl w.heap.size z17 rfl rfl 29 z17 (PSX).out.r refLnSize rfl z17_one ?_))
        obtain ⟨hn, gn⟩ := (PSX).out.done z17
        rw [HF.out]
        exact bodyPost_ret (results_lnR Tryz.results11 _ _ w.heap.size _ _ rfl hn rfl) rfl ⟨lnV0, rfl, rfl, lnAt0 _, gn, lnNew0 _⟩
      | true =>
        have HF : Hid (r = ({ ln0 with k := 2, n := parseN b 1073741824 }, 0)) := by have h := HPT.out; rw [hb] at h; exact h
        have hpe : p = [parseN b 1073741824] := hpn hb
        obtain rfl : m = 1 := by
          have h := Is.len hp
          rw [hpe] at h
          exact h.symm
        obtain ⟨b', o', rfl, hc⟩ := Is.addr hp (by omega)
        have cx := hc 0 (by omega)
        rw [hpe] at cx
        have cx : wx.cell? ⟨b', o', none⟩ = some (.int .i64 (parseN b 1073741824)) := by simpa [iAt] using cx
        clear hpn hp hb hab hc hpe HPT
        obtain ⟨pn, hpn⟩ : ∃ pn, pn = parseN b 1073741824 := ⟨_, rfl⟩
        rw [← hpn] at HF cx
        clear hpn
        go_wp2_with (refine wpList_store_row rfl 29 (.tmp 2) (.tmp 71) rfl w.heap.size (LnV.arr ⟨{ ln0 with k := 2, n := pn }, none, 0, none, 0, none, 0⟩) rfl rfl 29 z17 (PSX).out.r refLnSize rfl (lnOne _) ?_)
        obtain ⟨hn, gn⟩ := (PSX).out.done (LnV.arr ⟨{ ln0 with k := 2, n := pn }, none, 0, none, 0, none, 0⟩)
        rw [HF.out]
        exact bodyPost_ret (results_lnR Tryz.results11 _ _ w.heap.size _ _ rfl hn rfl) rfl ⟨⟨{ ln0 with k := 2, n := pn }, none, 0, none, 0, none, 0⟩, rfl, rfl, ⟨Sl.nil _ _, Sl.nil _ _, Sl.nil _ _⟩, gn, ⟨(fun b q e => by cases e), (fun b q e => by cases e), (fun b q e => by cases e)⟩⟩
    · have HF : Hid (r = (ln0, 3)) := HR.out.trans (parseT_n HNO.out HK.out (by omega) (by rw [HLEN.out]; show n ≠ 1 + 1; omega))
      cases hb : numsB (((cutL 32 l).drop 1).take (n - 1)) with
      | false =>
        clear hpn hp hb
        go_wp2_with (first
          | (refine wpList_load_row rfl 29 (.tmp 7) rfl T rfl 29 z17 (0, 0) _ (PSX).out.e Tryz.underlying29 rfl refLnSize ?_)
          | (refine wpList_store_row rfl 29 (.tmp 2) (.tmp 182) rfl w.heap.size z17 rfl rfl 29 z17 (PSX).out.r refLnSize rfl z17_one ?_))
        obtain ⟨hn, gn⟩ := (PSX).out.done z17
        rw [HF.out]
        exact bodyPost_ret (results_lnR Tryz.results11 _ _ w.heap.size _ _ rfl hn rfl) rfl ⟨lnV0, rfl, rfl, lnAt0 _, gn, lnNew0 _⟩
      | true =>
        obtain rfl : m = n - 1 := by
          have h := Is.len hp
          rw [hpn hb] at h
          have h3 := HLEN.out
          unfold numsL at h
          rw [List.length_map, List.length_take, List.length_drop, h3] at h
          omega
        have t1 : (((n - 1 : Nat) : Int) == 1) = false := beq_eq_false_iff_ne.2 (by omega)
        clear hpn hp hb
        go_wp2_with (first
          | (refine wpList_load_row rfl 29 (.tmp 7) rfl T rfl 29 z17 (0, 0) _ (PSX).out.e Tryz.underlying29 rfl refLnSize ?_)
          | (refine wpList_store_row rfl 29 (.tmp 2) (.tmp 182) rfl w.heap.size z17 rfl rfl 29 z17 (PSX).out.r refLnSize rfl z17_one ?_))
        obtain ⟨hn, gn⟩ := (PSX).out.done z17
        rw [HF.out]
        exact bodyPost_ret (results_lnR Tryz.results11 _ _ w.heap.size _ _ rfl hn rfl) rfl ⟨lnV0, rfl, rfl, lnAt0 _, gn, lnNew0 _⟩
end Go.Proofs.YtadenlhnfkccaaaGreatDoor
