/- Own texts of this claim, one behind the other. No condition. -/
import Derived.Test.YtadenlhnfkccaaaDoorObPkC
import Derived.Test.YtadenlhnfkccaaaDoorObPkF
import Derived.Test.YtadenlhnfkccaaaDoorObPkH
import Derived.Outline

/- Texts cut at blanks, as the reference says. No condition. -/
namespace Go.Proofs.YtadenlhnfkccaaaDoor
open Go.RowKit
set_option linter.unusedVariables false
set_option linter.unusedSimpArgs false
set_option maxHeartbeats 2000000 in
set_option maxRecDepth 100000 in
theorem split39_any (l : List UInt8) (w : World) (hl : l.length ≤ 100000) : Calls Tryd.prog 34 #[.string ⟨l.toArray⟩] w (RetWs w (cutL 32 l)) := by
  obtain ⟨s, hs⟩ : ∃ s : ByteArray, s = ⟨l.toArray⟩ := ⟨_, rfl⟩
  have hsz : s.size = l.length := by rw [hs]; exact size_of' l
  have HAT := Lib.hid (at_of l s hs)
  have HEX := Lib.hid (extract_one l s hs)
  rw [← hs]
  have HS := Lib.hid hs; clear hs
  have HSZ := Lib.hid hsz
  have hsl : s.size ≤ 100000 := by omega
  clear hsz
  go_enter Tryd.func34, Tryd.ntmps34
  go_wp2_with fail
  go_loopw [3, 4] (fun v i wr => ∃ (k n : Nat) (init : List (List UInt8)) (z : List UInt8), k ≤ s.size ∧ i = .int .i64 k ∧ n = init.length ∧ n ≤ k ∧ z.length ≤ k ∧ Own w wr 9 1 v (n + 1) ((init ++ [z]).map strc) ∧ cutL 32 (l.take k) = init ++ [z]) (fun _ i _ => s.size - (intOf i).toNat)
  case atStart => exact ⟨0, 0, [], [], Nat.zero_le _, rfl, rfl, Nat.le_refl _, Nat.le_refl _, (Blk.new w 9 #[strc []]).own (Nat.le_refl _) (Gr.alloc w _) rfl (by decide), by simp [cutL]⟩
  case round v0 i0 =>
    obtain ⟨k, n, init, z, hk, rfl, hn, hnk, hz, own, hp⟩ := hrel
    have HP := Lib.hid hp; clear hp
    have HN := Lib.hid hn; clear hn
    by_cases hlt : k < s.size
    · have hkl : k < l.length := by have := HSZ.out; omega
      have hat := HAT.out k hlt
      have hb0 : bAt l k = (l[k].toNat : Int) := by unfold bAt; rw [List.getD_eq_getElem?_getD, List.getElem?_eq_getElem hkl]; rfl
      rw [hb0] at hat
      clear hb0
      have hex := HEX.out k hkl
      have HST : Hid (cutL 32 (l.take (k + 1)) = pushC 32 (init ++ [z]) l[k]) := by
        show _ = _
        rw [List.take_succ_eq_append_getElem hkl, cut_snoc 32, HP.out]
      generalize l[k] = b at *
      by_cases hb : b = 32
      · subst hb
        have hat : ((s[k]'hlt).toNat : Int) = 32 := hat
        clear hex
        have HS2 : Hid (cutL 32 (l.take (k + 1)) = (init ++ [z]) ++ [[]]) := by show _ = _; rw [HST.out, push_here 32]
        have OW := Lib.hid own
        obtain ⟨A, c, rfl, sl⟩ := own.slice
        clear own sl
        go_wp2_with (at_builtin; go_loud (refine wpList_push rfl (.tmp 16) (.tmp 17) 65 rfl tWords rfl OW.out #[strc []] rfl rfl (strc_one []) (by omega) ?_); intro v5 w5 o5)
        have O5 : Hid (Own w w5 9 1 v5 (n + 1 + 1) (((init ++ [z]) ++ [[]]).map strc)) := by
          have e : ((init ++ [z]) ++ [([] : List UInt8)]).map strc = (init ++ [z]).map strc ++ [strc []] := by simp
          rw [e]
          exact o5
        clear o5
        go_roundw
        case rel => exact ⟨k + 1, n + 1, init ++ [z], [], by omega, by first | trivial | go_num, by simp [HN.out], by omega, Nat.zero_le _, O5.out, HS2.out⟩
        case measure =>
          show s.size - ((k : Int) + 1).toNat < s.size - (k : Int).toNat
          omega
      · have hne : ((b.toNat : Int) == 32) = false := beq_eq_false_iff_ne.2 (fun e => hb (UInt8.toNat_inj.1 (by show b.toNat = 32; omega)))
        have HS2 : Hid (cutL 32 (l.take (k + 1)) = init ++ [z ++ [b]]) := by show _ = _; rw [HST.out, push_else 32 _ _ _ hb]
        obtain ⟨g, cap, rest, rfl, hg, bk, hncap, hcap, hlen⟩ := own.opened (by omega)
        have BK := Lib.hid bk
        have OWN := Lib.hid own.below
        have HLN := Lib.hid hlen
        clear own bk hlen
        have hx : ((init ++ [z]).map strc ++ rest)[n]? = some (.string ⟨z.toArray⟩) := at_left (by rw [List.map_append, List.getElem?_append_right (by simp [HN.out])]; simp [HN.out, strc])
        have HX := Lib.hid hx; clear hx
        obtain ⟨zs, hzs⟩ : ∃ zs : ByteArray, zs = ⟨z.toArray⟩ := ⟨_, rfl⟩
        have hzz : zs.size = z.length := by rw [hzs]; exact size_of' z
        rw [← hzs] at HX
        have HZ : Hid (zs ++ s.extract k (k + 1) = ⟨(z ++ [b]).toArray⟩) := by show _ = _; rw [hzs, hex, ba_snoc]
        have hesz : (s.extract k (k + 1)).size = 1 := by rw [hex]; rfl
        clear hzs hex
        have wn : IntKind.i64.wrap (n : Int) = n := by rw [IntKind.wrap_i64]; omega
        have wk : IntKind.i64.wrap ((k : Int) + 1) = (k : Int) + 1 := by rw [IntKind.wrap_i64]; omega
        have n1 : (n : Int) < (n : Int) + 1 := by omega
        have k1 : (k : Int) ≤ (k : Int) + 1 := by omega
        have k2 : (k : Int) + 1 ≤ (s.size : Int) := by omega
        have k3 : ((k : Int) + 1).toNat = k + 1 := by omega
        go_upto_region 7 with fail
        refine wp_region_grow (by kernel_rfl) [0, 0, 2, 6, 0, 0, 32, 96, 240, 496, 0, 0, 0, 4096, 15360, 32752, 65535, 131071] [.p 0, .p 1, .p 2, .p 3, .p 4, .p 5, .p 6, .p 7, .p 8, .p 10, .p 11, .p 12, .p 13, .p 14, .q 9, .p 15, .p 16, .s 17] (by kernel_rfl) (trivial) ?_
        refine wpG_pe rfl rfl ?_
        apply Exists.intro
        refine ⟨fun wq => ?_, ?_⟩
        · unfold plainAt
          go_simp
          first | exact rfl | exact ⟨rfl, rfl⟩
        go_simp
        refine wpG_pe rfl rfl ?_
        apply Exists.intro
        refine ⟨fun wq => ?_, ?_⟩
        · unfold plainAt
          go_simp
          first | exact rfl | exact ⟨rfl, rfl⟩
        go_simp
        refine wpG_pe rfl rfl ?_
        apply Exists.intro
        refine ⟨fun wq => ?_, ?_⟩
        · unfold plainAt
          go_simp
          first | exact rfl | exact ⟨rfl, rfl⟩
        go_simp
        refine wpG_pe rfl rfl ?_
        apply Exists.intro
        refine ⟨fun wq => ?_, ?_⟩
        · unfold plainAt
          go_simp
          first | exact rfl | exact ⟨rfl, rfl⟩
        go_simp
        refine wpG_pe rfl rfl ?_
        apply Exists.intro
        refine ⟨fun wq => ?_, ?_⟩
        · unfold plainAt
          go_simp
          first | exact rfl | exact ⟨rfl, rfl⟩
        go_simp
        refine wpG_pe rfl rfl ?_
        apply Exists.intro
        refine ⟨fun wq => ?_, ?_⟩
        · unfold plainAt
          go_simp
          first | exact rfl | exact ⟨rfl, rfl⟩
        go_simp
        refine wpG_pe rfl rfl ?_
        apply Exists.intro
        refine ⟨fun wq => ?_, ?_⟩
        · unfold plainAt
          go_simp
          first | exact rfl | exact ⟨rfl, rfl⟩
        go_simp
        refine wpG_pe rfl rfl ?_
        apply Exists.intro
        refine ⟨fun wq => ?_, ?_⟩
        · unfold plainAt
          go_simp
          first | exact rfl | exact ⟨rfl, rfl⟩
        go_simp
        refine wpG_pe rfl rfl ?_
        apply Exists.intro
        refine ⟨fun wq => ?_, ?_⟩
        · unfold plainAt
          go_simp
          first | exact rfl | exact ⟨rfl, rfl⟩
        go_simp
        refine wpG_pe rfl rfl ?_
        apply Exists.intro
        refine ⟨fun wq => ?_, ?_⟩
        · unfold plainAt
          go_simp
          first | exact rfl | exact ⟨rfl, rfl⟩
        go_simp
        refine wpG_pe rfl rfl ?_
        apply Exists.intro
        refine ⟨fun wq => ?_, ?_⟩
        · unfold plainAt
          go_simp
          first | exact rfl | exact ⟨rfl, rfl⟩
        go_simp
        refine wpG_pe rfl rfl ?_
        apply Exists.intro
        refine ⟨fun wq => ?_, ?_⟩
        · unfold plainAt
          go_simp
          first | exact rfl | exact ⟨rfl, rfl⟩
        go_simp
        refine wpG_pe rfl rfl ?_
        apply Exists.intro
        refine ⟨fun wq => ?_, ?_⟩
        · unfold plainAt
          go_simp
          first | exact rfl | exact ⟨rfl, rfl⟩
        go_simp
        refine wpG_pe rfl rfl ?_
        apply Exists.intro
        refine ⟨fun wq => ?_, ?_⟩
        · unfold plainAt
          go_simp
          first | exact rfl | exact ⟨rfl, rfl⟩
        go_simp
        refine wpG_qe rfl rfl ?_
        apply Exists.intro
        refine ⟨fun wq hq => ?_, ?_⟩
        · have x0 := ((((Gr.drew _).trans hq).blk BK.out).cell n).trans HX.out
          unfold plainAt
          go_simp
          first | exact rfl | exact ⟨rfl, rfl⟩
        go_simp
        have zl : ¬ 9223372036854775807 < z.length + 1 := by omega
        refine wpG_pe rfl rfl ?_
        apply Exists.intro
        refine ⟨fun wq => ?_, ?_⟩
        · unfold plainAt
          go_simp
          first | exact rfl | exact ⟨rfl, rfl⟩
        go_simp
        refine wpG_pe rfl rfl ?_
        apply Exists.intro
        refine ⟨fun wq => ?_, ?_⟩
        · unfold plainAt
          go_simp
          first | exact rfl | exact ⟨rfl, rfl⟩
        go_simp
        refine wpG_s rfl rfl ?_
        intro w5 g5 K hK
        have B5 := Lib.hid (((Gr.drew _).trans g5).blk BK.out)
        have G5 := Lib.hid (OWN.out.trans (Below.mono ((Gr.drew _).trans g5) OWN.out.size))
        have x0 : w5.cell? ⟨g, n, none⟩ = some (.string zs) := (B5.out.cell n).trans HX.out
        have y0 := B5.out.free n
        have hl5 := B5.out.lt
        clear g5
        go_simp
        refine hK _ _ ?_
        clear hK x0 y0
        go_simp
        refine wpG_nil ?_
        intro w6 g6
        have b6 := g6.blk (B5.out.set n (.string (zs ++ s.extract k (k + 1))))
        have hst : ((init ++ [z]).map strc ++ rest).set n (.string (zs ++ s.extract k (k + 1))) = (init ++ [z ++ [b]]).map strc ++ rest := by
          rw [HZ.out]
          show _ = _
          rw [set_left _ _ _ _ (by simp [HN.out])]
          exact congrArg (· ++ rest) (set_last init z (z ++ [b]) n HN.out)
        rw [hst] at b6
        have G6 := (G5.out.setCell (p := ⟨g, n, none⟩) hg (.string (zs ++ s.extract k (k + 1)))).trans (Below.mono g6 (by have := G5.out.size; simp [World.setCell]; omega))
        have O6 := Lib.hid (Blk.closed (n := n + 1) (s := 1) b6 G6 hg hncap hcap (by have := HLN.out; simp at this ⊢; exact this) (by simp [HN.out]))
        clear b6 hst G6 g6
        go_wp2_with fail
        go_roundw
        case rel => exact ⟨k + 1, n, init, z ++ [b], by omega, by first | trivial | go_num, HN.out, by omega, by simp; omega, O6.out, HS2.out⟩
        case measure =>
          show s.size - ((k : Int) + 1).toNat < s.size - (k : Int).toNat
          omega
    · have hpe : k = l.length := by have := HSZ.out; omega
      have HE : Hid (cutL 32 l = init ++ [z]) := by
        have h := HP.out
        rwa [hpe, List.take_length] at h
      have OW := Lib.hid own; clear own
      go_wp2_with fail
      go_ret
      refine ⟨_, rfl, ?_⟩
      rw [HE.out, List.length_append, ← HN.out]
      exact OW.out
end Go.Proofs.YtadenlhnfkccaaaDoor

/- Operations as lines: the reference's Parse. No condition. -/
namespace Go.Proofs.YtadenlhnfkccaaaDoor
open Go.RowKit
set_option linter.unusedVariables false
set_option linter.unusedSimpArgs false
theorem form_one : ∀ j k : Fin 10, formW j.1 = formW k.1 → formW j.1 ≠ [] → j = k := by decide +kernel
theorem form_uniq {z : List UInt8} {j k : Nat} (hj : j < 10) (hk : k < 10) (h1 : isForm z j = true) (h2 : isForm z k = true) : j = k := by
  unfold isForm at h1 h2
  rw [Bool.and_eq_true, beq_iff_eq, Bool.not_eq_true', beq_eq_false_iff_ne] at h1 h2
  have := form_one ⟨j, hj⟩ ⟨k, hk⟩ (h1.1.trans h2.1.symm) h1.2
  exact congrArg Fin.val this
theorem kind_is {z : List UInt8} {k : Nat} (hk : k < 10) (h : isForm z k = true) : kindL z = k := kind_hit hk h fun j hj => by
  rw [Bool.eq_false_iff]
  intro h2
  have := form_uniq (by omega) hk h2 h
  omega
theorem kind_form {z : List UInt8} (h : kindL z < 10) : isForm z (kindL z) = true := by
  unfold kindL at h ⊢
  cases hf : (List.range 10).find? (fun k => formW k == z && !(formW k == [])) with
  | none => rw [hf] at h; simp at h
  | some k => exact List.find?_some hf
theorem signs_last : ∀ k s, s ∈ (formS k).dropLast → s ≠ 118 := by
  intro k s h
  match k, h with
  | 0, h => simp [formS] at h
  | 1, h | 2, h | 3, h | 4, h | 5, h | 7, h => simp [formS] at h; rintro rfl; revert h; decide
  | 6, h | 8, h | 9, h => simp [formS] at h
  | k + 10, h => simp [formS] at h
/-- Is a kind's form that of words, and are they read by it? -/
def hitQ (k : Nat) (ws : List (List UInt8)) : Option OpD := if isForm (ws.headD []) k = true ∧ ws.length = (formS k).length + 1 then (if (foldQ { op0 with k := (k : Int) } true (formS k) ws.tail).2 = true then some (foldQ { op0 with k := (k : Int) } true (formS k) ws.tail).1 else none) else none
theorem hitQ_try {k : Nat} {ws : List (List UInt8)} (h : isForm (ws.headD []) k = true) : hitQ k ws = tryL k ws := by
  unfold hitQ tryL
  by_cases hl : ws.length = (formS k).length + 1
  · have hl2 : ws.length = 1 + (formS k).length := by omega
    rw [if_pos ⟨h, hl⟩, if_pos hl2]
    have hq := foldQ_eq (formS k) ws.tail { op0 with k := (k : Int) } rfl (signs_last k) (by rw [List.length_tail]; omega)
    generalize foldQ { op0 with k := (k : Int) } true (formS k) ws.tail = q at *
    cases hp : foldP { op0 with k := (k : Int) } (formS k) ws.tail with
    | some o =>
      rw [hp] at hq
      have hq : q = (o, true) := hq
      rw [hq]; rfl
    | none =>
      rw [hp] at hq
      have hq : q.2 = false := hq
      rw [if_neg (by rw [hq]; decide)]
  · rw [if_neg (fun e => hl e.2), if_neg (by omega)]
theorem formW_ne (k : Nat) (h1 : 1 ≤ k) (h9 : k ≤ 9) : formW k ≠ [] := by
  rcases show k = 1 ∨ k = 2 ∨ k = 3 ∨ k = 4 ∨ k = 5 ∨ k = 6 ∨ k = 7 ∨ k = 8 ∨ k = 9 by omega with rfl | rfl | rfl | rfl | rfl | rfl | rfl | rfl | rfl <;> simp [formW]
theorem bs_rowG {w : World} {A B : Option Addr} {m c m' c' g : Nat} {x : List UInt8} {o : OpD} (hx : Bs w A m c x) (hb : Blk w g 24 (opC o B m' c').toList) (cs : Array Value) : Bs (w.setRow g cs) A m c x := by
  obtain ⟨h1, h2, h3, h4⟩ := hx
  refine ⟨h1, h2, h3, fun hn => ?_⟩
  obtain ⟨b, q, e, hc⟩ := h4 hn
  have hne : b ≠ g := Sl.not_blk (⟨h1, h2, h3, h4⟩ : Bs w A m c x) (by decide) hb (fun u hu v hv => by
    obtain ⟨z, hz, rfl⟩ := List.mem_map.1 (List.mem_of_getElem? hv)
    simp only [opC, List.mem_cons, List.not_mem_nil, or_false] at hu
    rcases hu with h | h | h | h | h | h | h | h <;> subst h <;> simp [u8c, strc]) hn e
  refine ⟨b, q, e, fun j u hu => ?_⟩
  rw [World.cell?_of_block (w := w) (a := ⟨b, q + j, none⟩) (setRow_other w g b cs hne)]
  exact hc j u hu
theorem parse_hit {l : List UInt8} {k : Nat} {o : OpD} (hk : k < 10) (h : hitQ k (cutL 32 l) = some o) : parseO l = (o, 0) := by
  have hf : isForm ((cutL 32 l).headD []) k = true := by
    unfold hitQ at h
    split at h
    · next e => exact e.1
    · cases h
  rw [hitQ_try hf] at h
  unfold parseO opOf
  simp only [kind_is hk hf]
  rw [if_pos hk, h]
theorem parse_miss {l : List UInt8} (h : ∀ k, 1 ≤ k → k < 10 → hitQ k (cutL 32 l) = none) : parseO l = (op0, 3) := by
  unfold parseO opOf
  by_cases hk : kindL ((cutL 32 l).headD []) < 10
  · have hf := kind_form hk
    have h0 : 1 ≤ kindL ((cutL 32 l).headD []) := by
      rcases Nat.eq_zero_or_pos (kindL ((cutL 32 l).headD [])) with e | e
      · rw [e] at hf; revert hf; simp [isForm, formW]
      · exact e
    have := h _ h0 hk
    rw [hitQ_try hf] at this
    simp only [if_pos hk, this]
  · simp only [if_neg hk]
set_option maxRecDepth 100000 in
set_option maxHeartbeats 4000000 in
theorem refOpParse_any (l : List UInt8) (w : World) (hl : l.length ≤ 100000) : Calls Tryd.prog 11 #[strc l] w (RetOp w (parseO l)) := by
  have HSP : Hid (∀ wr, Calls Tryd.prog 34 #[strc l] wr (RetWs wr (cutL 32 l))) := fun wr => split39_any l wr hl
  have HKD : Hid (∀ (k : Nat) wr, k < 10 → Calls Tryd.prog 28 #[.int .i64 (k : Int)] wr fun e w' => e = .returned (.tuple #[strc (formW k), strc (formS k)]) ∧ Gr wr w') := fun k wr h => kinds_any k wr h
  obtain ⟨s, hs⟩ : ∃ s : ByteArray, strc l = .string s := ⟨_, rfl⟩
  rw [hs] at HSP ⊢
  clear hs
  obtain ⟨r, hr⟩ : ∃ r, r = parseO l := ⟨_, rfl⟩
  rw [← hr]
  have HHIT : Hid (∀ k o, k < 10 → hitQ k (cutL 32 l) = some o → r = (o, 0)) := fun k o hk h => by rw [hr]; exact parse_hit hk h
  have HMISS : Hid ((∀ k, 1 ≤ k → k < 10 → hitQ k (cutL 32 l) = none) → r = (op0, 3)) := fun h => by rw [hr]; exact parse_miss h
  have hwz : ∀ p ∈ cutL 32 l, p.length ≤ 100000 := fun p hp => Nat.le_trans ((cut_size 32 l).2 p hp) hl
  have hne := List.length_pos_iff.2 (cut_ne 32 l)
  have hsm := (cut_size 32 l).1
  clear hr
  generalize cutL 32 l = ws at *
  have HWZ := Lib.hid hwz; clear hwz
  go_enter Tryd.func11, Tryd.ntmps11
  go_wp2_with fail
  refine (HSP.out _).mono ?_
  rintro e w1 ⟨v1, rfl, ow⟩
  have BR : Hid (Blk w1 w.heap.size 24 (opC op0 none 0 0).toList) := (Blk.new w 24 z8).mono ow.below
  have GW : Hid (Gr w w1) := (Gr.alloc w _).trans ow.below
  obtain ⟨A, c, rfl, sl⟩ := ow.slice
  obtain ⟨b, o, rfl, hcw⟩ := Ws.addr sl hne
  have SL := Lib.hid sl
  have hcap := sl.cap
  have hmax := sl.max
  clear ow sl hcw
  go_wp2_with fail
  go_loopw [5] (fun i wr => ∃ k : Nat, 1 ≤ k ∧ k ≤ 10 ∧ i = .int .i64 k ∧ Gr w1 wr ∧ ∀ j, 1 ≤ j → j < k → hitQ j ws = none) (fun i _ => 10 - (intOf i).toNat)
  case atStart => exact ⟨1, by omega, by omega, rfl, Gr.refl _, fun j h1 h2 => by omega⟩
  case round =>
    obtain ⟨k, hk1, hk10, rfl, g, hmiss⟩ := hrel
    have G := Lib.hid g; have HM := Lib.hid hmiss; clear g hmiss
    by_cases hlt : k ≤ 9
    · have t1 : decide ((k : Int) ≤ 9) = true := decide_eq_true (by omega)
      have HKK := Lib.hid (HKD.out k wr (by omega))
      have hfl := formS_len k
      have hfw : formW k ≠ [] := formW_ne k hk1 hlt
      have HSG := Lib.hid (signs_all k)
      obtain ⟨x, hx⟩ : ∃ x : ByteArray, x = ⟨(formW k).toArray⟩ := ⟨_, rfl⟩
      obtain ⟨y, hy⟩ : ∃ y : ByteArray, y = ⟨(formS k).toArray⟩ := ⟨_, rfl⟩
      have hxl : x.toList = formW k := by rw [hx, ByteArray.toList_eq]
      have hys : y.size = (formS k).length := by rw [hy]; exact size_of' _
      have HAT := Lib.hid (at_of (formS k) y hy)
      have hxs : strc (formW k) = .string x := by rw [hx]; rfl
      have hyS : strc (formS k) = .string y := by rw [hy]; rfl
      rw [hxs, hyS] at HKK
      obtain ⟨z, hz⟩ : ∃ z : ByteArray, z = ⟨(ws[0]'hne).toArray⟩ := ⟨_, rfl⟩
      have hzl : z.toList = ws.headD [] := by rw [hz, ByteArray.toList_eq, head_at hne]
      have HCZ : Hid (∀ wq, Gr wr wq → wq.cell? ⟨b, o, none⟩ = some (.string z)) := fun wq g => by
        obtain ⟨b', o', e, hc⟩ := Ws.addr (Sl.gr SL.out (G.out.trans g)) hne
        injection e with e
        injection e with e1 e2
        subst e1 e2
        rw [hz]
        exact hc 0 hne
      have HNX : Hid (hitQ k ws = none → ∀ j, 1 ≤ j → j < k + 1 → hitQ j ws = none) := fun h j h1 h2 => by
        rcases Nat.lt_succ_iff_lt_or_eq.1 h2 with h3 | rfl
        · exact HM.out j h1 h3
        · exact h
      have hisf : isForm (ws.headD []) k = (z.toList == x.toList) := by
        unfold isForm
        rw [hzl, hxl, beq_eq_false_iff_ne.2 hfw]
        simp only [Bool.not_false, Bool.and_true]
        rw [Bool.eq_iff_iff, beq_iff_eq, beq_iff_eq]
        exact eq_comm
      have HHK := Lib.hid (fun o h => HHIT.out k o (by omega) h)
      clear hx hy hxl hxs hyS hz hzl HKD
      cases hzx : (z.toList == x.toList) with
      | false =>
        rw [hzx] at hisf
        have HN2 := Lib.hid (HNX.out (by unfold hitQ; rw [if_neg (by rw [hisf]; rintro ⟨h, _⟩; cases h)]))
        go_wp2_with fail
        refine HKK.out.mono ?_
        rintro e w2 ⟨rfl, g2⟩
        have cz := HCZ.out w2 g2
        have G2 := Lib.hid (G.out.trans g2); clear g2
        go_wp2_with fail
        go_roundw
        case rel => exact ⟨k + 1, by omega, by omega, by first | trivial | go_num, G2.out, HN2.out⟩
        case measure =>
          show 10 - ((k : Int) + 1).toNat < 10 - (k : Int).toNat
          omega
      | true =>
        rw [hzx] at hisf
        by_cases hlen : ws.length = y.size + 1
        · have hl2 : ws.length = (formS k).length + 1 := by omega
          have tl : ((ws.length : Int) != (y.size : Int) + 1) = false := by rw [bne_eq_false_iff_eq]; omega
          have HHQ : Hid (hitQ k ws = if (foldQ { op0 with k := (k : Int) } true (formS k) ws.tail).2 = true then some (foldQ { op0 with k := (k : Int) } true (formS k) ws.tail).1 else none) := by
            show _ = _
            unfold hitQ
            rw [if_pos ⟨hisf, hl2⟩]
          go_wp2_with fail
          refine HKK.out.mono ?_
          rintro e w2 ⟨rfl, g2⟩
          have cz := HCZ.out w2 g2
          have G2 := Lib.hid (G.out.trans g2); clear g2
          go_wp2_with fail
          obtain ⟨O, hO⟩ : ∃ O, O = w2.heap.size := ⟨_, rfl⟩
          obtain ⟨wO, hwO⟩ : ∃ wO, wO = w2.alloc (.cells #[.int .i64 (k : Int), .string ⟨#[]⟩, .string ⟨#[]⟩, .int .i64 0, .int .i64 0, .int .i64 0, .int .i64 0, .slice none 0 0] 24) := ⟨_, rfl⟩
          have gO : Gr w2 wO := by rw [hwO]; exact Gr.alloc _ _
          have hOB : Blk wO O 24 (opC { op0 with k := (k : Int) } none 0 0).toList := by rw [hwO, hO]; exact Blk.new w2 _ _
          have HOB := Lib.hid hOB
          have GO := Lib.hid (G2.out.trans gO)
          have SO := Lib.hid (Sl.gr SL.out GO.out)
          have BRO := Lib.hid (BR.out.mono GO.out)
          have hblt : b < O := by
            have := Sl.lt (Sl.gr SL.out G2.out) (by decide) (by omega) rfl
            omega
          have hr0 : w.heap.size < O := by
            have := (BR.out.mono G2.out).lt
            omega
          have gWO := Lib.hid (GW.out.trans GO.out)
          have hO1 : w1.heap.size ≤ O := by have := G2.out.size; omega
          show Code.wp _ _ _ _ (w2.alloc (.cells #[.int .i64 (k : Int), .string ⟨#[]⟩, .string ⟨#[]⟩, .int .i64 0, .int .i64 0, .int .i64 0, .int .i64 0, .slice none 0 0] 24))
          rw [← hwO, ← hO]
          clear hwO hO gO cz hOB tl hzx hisf HCZ
          go_loopw [9, 10] (fun wh i wq => ∃ (j : Nat) (o' : OpD) (bb : Bool), j ≤ y.size ∧ i = .int .i64 j ∧ wh = .bool bb ∧ foldQ { op0 with k := (k : Int) } true (formS k) ws.tail = foldQ o' bb ((formS k).drop j) (ws.tail.drop j) ∧ OpOk o' ∧ (∃ A m c, Blk wq O 24 (opC o' A m c).toList ∧ Bs wq A m c o'.x) ∧ Tch (fun q => q = O) wO wq) (fun _ i _ => y.size - (intOf i).toNat)
          case atStart => exact ⟨0, { op0 with k := (k : Int) }, true, by omega, rfl, rfl, rfl, ⟨⟨by show _ ≤ (k : Int); omega, by show (k : Int) ≤ _; omega⟩, (by decide : -9223372036854775808 ≤ (0 : Int) ∧ (0 : Int) ≤ 9223372036854775807), (by decide : -9223372036854775808 ≤ (0 : Int) ∧ (0 : Int) ≤ 9223372036854775807), (by decide : -9223372036854775808 ≤ (0 : Int) ∧ (0 : Int) ≤ 9223372036854775807), (by decide : -9223372036854775808 ≤ (0 : Int) ∧ (0 : Int) ≤ 9223372036854775807), Nat.zero_le _, Nat.zero_le _, Nat.zero_le _⟩, ⟨none, 0, 0, HOB.out, Sl.nil _ _⟩, Tch.refl _⟩
          case round =>
            obtain ⟨j, o', bb, hj, rfl, rfl, hfold, hok, hop, ht⟩ := hrel
            have HFD := Lib.hid hfold; have HOK := Lib.hid hok; have HT := Lib.hid ht
            obtain ⟨A', m', c', hb', hx'⟩ := hop
            have HB := Lib.hid hb'; have HX := Lib.hid hx'
            clear hfold hok ht hb' hx'
            by_cases hjl : j < y.size
            · have hka : j < (formS k).length := by omega
              have hws : j < ws.tail.length := by rw [List.length_tail]; omega
              have hasc : ((y[j]'hjl).toNat : Int) = ((formS k)[j].toNat : Int) := by
                rw [HAT.out j hjl]; unfold bAt
                simp [List.getD_eq_getElem?_getD, List.getElem?_eq_getElem hka]
              have hsg := HSG.out _ (List.getElem_mem hka)
              have hwk : ws.tail[j] = ws[j + 1]'(by omega) := by rw [List.getElem_tail]
              have SI := Lib.hid (Sl.tch SO.out (by decide) HT.out (fun _ bb oo e h => by injection e with e; injection e with e1 e2; have h : bb = O := h; omega))
              have HCW : Hid (∀ wq, Gr wr wq → wq.cell? ⟨b, o + (j + 1), none⟩ = some (.string ⟨ws.tail[j].toArray⟩)) := fun wq g => by
                obtain ⟨b', q', eb, hcw⟩ := Ws.addr (Sl.gr SI.out g) (by omega)
                injection eb with eb
                injection eb with eb1 eb2
                subst eb1 eb2
                have cw := hcw (j + 1) (by omega)
                rw [← hwk] at cw
                exact cw
              have hwl : ws.tail[j].length ≤ 100000 := HWZ.out _ (List.mem_of_mem_tail (List.getElem_mem hws))
              have HWC : Hid (∀ wq, Gr wr wq → Calls Tryd.prog 35 #[opV o' A' m' c', .int .u8 ((formS k)[j].toNat : Int), strc ws.tail[j]] wq (RetW wq (readD o'.v o' (formS k)[j].toNat ws.tail[j]) (readB (readD o'.v o' (formS k)[j].toNat ws.tail[j]) (formS k)[j].toNat ws.tail[j]))) := fun wq g => with_any o' A' m' c' _ _ wq HOK.out (HX.out.mono g) hwl hsg
              have HOK2 := Lib.hid (readD_ok (d := o'.v) HOK.out HOK.out.v hwl hsg)
              have HFD2 : Hid (foldQ { op0 with k := (k : Int) } true (formS k) ws.tail = foldQ (readD o'.v o' (formS k)[j].toNat ws.tail[j]) (bb && readB (readD o'.v o' (formS k)[j].toNat ws.tail[j]) (formS k)[j].toNat ws.tail[j]) ((formS k).drop (j + 1)) (ws.tail.drop (j + 1))) := by
                show _ = _
                rw [HFD.out, List.drop_eq_getElem_cons hka, List.drop_eq_getElem_cons hws]
                rfl
              have i1 : (j : Int) + 1 < (ws.length : Int) := by omega
              have i0 : (0 : Int) ≤ (j : Int) + 1 := by omega
              have i2 : ((j : Int) + 1).toNat = j + 1 := by omega
              have q1 : IntKind.i64.wrap ((j : Int) + 1) = (j : Int) + 1 := by rw [IntKind.wrap_i64]; omega
              clear hsg hwk hwl
              generalize ws.tail[j] = wd at *
              generalize (formS k)[j].toNat = sg at *
              obtain ⟨wx, hwx⟩ : ∃ wx : ByteArray, strc wd = .string wx := ⟨_, rfl⟩
              rw [show Value.string ⟨wd.toArray⟩ = Value.string wx from hwx] at HCW
              rw [hwx] at HWC
              clear hwx
              generalize readD o'.v o' sg wd = o2 at *
              generalize readB o2 sg wd = b2 at *
              have HC8 := Lib.hid fun wq (g : Gr wr.drew wq) (i : Nat) (v : Value) (h : (opC o' A' m' c').toList[i]? = some v) => ((HB.out.mono ((Gr.drew wr).trans g)).cell i).trans h
              go_wp2_with fail
              refine wp_region_grow (by kernel_rfl) [0, 0, 0, 6, 0, 0, 32, 112, 240, 511, 1023, 2047, 2047, 0, 12287, 32767] [.p 1, .p 2, .p 4, .p 5, .p 6, .p 7, .q 0, .q 3, .q 8, .c 9, .p 10, .p 11, .p 12, .m 13 24 #[.int .i64 0, .string ⟨#[]⟩, .string ⟨#[]⟩, .int .i64 0, .int .i64 0, .int .i64 0, .int .i64 0, .slice none 0 0], .s 14, .p 15] (by kernel_rfl) (⟨fun o ho ρ w => by cases ho; kernel_rfl, trivial⟩) ?_
              refine wpG_pe rfl rfl ?_
              apply Exists.intro
              refine ⟨fun wq => ?_, ?_⟩
              · unfold plainAt
                go_simp
                first | exact rfl | exact ⟨rfl, rfl⟩
              go_simp
              refine wpG_pe rfl rfl ?_
              apply Exists.intro
              refine ⟨fun wq => ?_, ?_⟩
              · unfold plainAt
                go_simp
                first | exact rfl | exact ⟨rfl, rfl⟩
              go_simp
              refine wpG_pe rfl rfl ?_
              apply Exists.intro
              refine ⟨fun wq => ?_, ?_⟩
              · unfold plainAt
                go_simp
                first | exact rfl | exact ⟨rfl, rfl⟩
              go_simp
              refine wpG_pe rfl rfl ?_
              apply Exists.intro
              refine ⟨fun wq => ?_, ?_⟩
              · unfold plainAt
                go_simp
                first | exact rfl | exact ⟨rfl, rfl⟩
              go_simp
              refine wpG_pe rfl rfl ?_
              apply Exists.intro
              refine ⟨fun wq => ?_, ?_⟩
              · unfold plainAt
                go_simp
                first | exact rfl | exact ⟨rfl, rfl⟩
              go_simp
              refine wpG_pe rfl rfl ?_
              apply Exists.intro
              refine ⟨fun wq => ?_, ?_⟩
              · unfold plainAt
                go_simp
                first | exact rfl | exact ⟨rfl, rfl⟩
              go_simp
              refine wpG_qe rfl rfl ?_
              apply Exists.intro
              refine ⟨fun wq hq => ?_, ?_⟩
              · have d0 := HC8.out wq hq 0 _ rfl; have d1 := HC8.out wq hq 1 _ rfl; have d2 := HC8.out wq hq 2 _ rfl; have d3 := HC8.out wq hq 3 _ rfl; have d4 := HC8.out wq hq 4 _ rfl; have d5 := HC8.out wq hq 5 _ rfl; have d6 := HC8.out wq hq 6 _ rfl; have d7 := HC8.out wq hq 7 _ rfl
                unfold plainAt
                go_simp
                first | exact rfl | exact ⟨rfl, rfl⟩
              go_simp
              refine wpG_qe rfl rfl ?_
              apply Exists.intro
              refine ⟨fun wq hq => ?_, ?_⟩
              · skip
                unfold plainAt
                go_simp
                first | exact rfl | exact ⟨rfl, rfl⟩
              go_simp
              refine wpG_qe rfl rfl ?_
              apply Exists.intro
              refine ⟨fun wq hq => ?_, ?_⟩
              · have cw := HCW.out wq ((Gr.drew wr).trans hq)
                unfold plainAt
                go_simp
                first | exact rfl | exact ⟨rfl, rfl⟩
              go_simp
              refine wpG_c rfl rfl ?_
              intro wc gc K hK
              go_simp
              go_at_call 35
              refine (HWC.out wc ((Gr.drew wr).trans gc)).mono ?_
              rintro e wn ⟨A2, m2, c2, rfl, sx, gf⟩
              refine hK _ _ gf ?_; have GF := Lib.hid (((Gr.drew wr).trans gc).trans gf); have SX := Lib.hid sx; clear gc gf hK sx
              go_simp
              refine wpG_pe rfl rfl ?_
              apply Exists.intro
              refine ⟨fun wq => ?_, ?_⟩
              · unfold plainAt
                go_simp
                first | exact rfl | exact ⟨rfl, rfl⟩
              go_simp
              refine wpG_pe rfl rfl ?_
              apply Exists.intro
              refine ⟨fun wq => ?_, ?_⟩
              · unfold plainAt
                go_simp
                first | exact rfl | exact ⟨rfl, rfl⟩
              go_simp
              refine wpG_pe rfl rfl ?_
              apply Exists.intro
              refine ⟨fun wq => ?_, ?_⟩
              · unfold plainAt
                go_simp
                first | exact rfl | exact ⟨rfl, rfl⟩
              go_simp
              refine wpG_m rfl rfl ?_
              intro w11 bn g11 hbn hblk hI
              go_simp
              refine wpG_s rfl rfl ?_
              intro w12 g12 K hK
              refine wp_store_row 24 (.tmp 11) (.tmp 56) rfl bn (opC o2 A2 m2 c2) rfl rfl 24 #[.int .i64 0, .string ⟨#[]⟩, .string ⟨#[]⟩, .int .i64 0, .int .i64 0, .int .i64 0, .int .i64 0, .slice none 0 0] (g12.blk hblk) opSize rfl (opOne _ _ _ _) ?_
              refine hK _ _ ?_
              clear hK
              obtain ⟨wt, hwt⟩ : ∃ wt, wt = w12.setRow bn (opC o2 A2 m2 c2) := ⟨_, rfl⟩
              have HNT : Hid (wt.heap[bn]? = some (.cells (opC o2 A2 m2 c2) 24 (0, 0))) := by rw [hwt]; exact setRow_heap w12 bn _ _ _ _ (g12.blk hblk)
              have g1x : Gr wr w12 := (GF.out.trans g11).trans g12
              have GWT : Hid (Gr wr wt) := by rw [hwt]; exact below_row39 g1x hbn _
              have SXT : Hid (Bs wt A2 m2 c2 o2.x) := by rw [hwt]; exact bs_row (SX.out.mono (g11.trans g12)) (g12.blk hblk) _
              go_simp
              rw [← hwt]
              clear hwt g1x hblk hI g11 g12
              refine wpG_pe rfl rfl ?_
              apply Exists.intro
              refine ⟨fun wq => ?_, ?_⟩
              · unfold plainAt
                go_simp
                first | exact rfl | exact ⟨rfl, rfl⟩
              go_simp
              refine wpG_nil ?_
              intro we ge
              have HNE : Hid (we.heap[bn]? = some (.cells (opC o2 A2 m2 c2) 24 (0, 0))) := (ge.block _ (Array.getElem?_eq_some_iff.1 HNT.out).1).trans HNT.out
              have SXE := Lib.hid (SXT.out.mono ge)
              have GWE := Lib.hid (GWT.out.trans ge)
              have BOE := Lib.hid (HB.out.mono GWE.out)
              clear ge
              cases bb with
              | true =>
                go_wp2_with (first
                  | (refine wpList_load_row rfl 24 (.tmp 11) rfl bn rfl 24 (opC o2 A2 m2 c2) (0, 0) _ HNE.out Tryd.underlying24 rfl opSize ?_)
                  | (refine wpList_store_row rfl 24 (.tmp 8) (.tmp 58) rfl O (opC o2 A2 m2 c2) rfl rfl 24 (opC o' A' m' c') BOE.out opSize rfl (opOne _ _ _ _) ?_))
                go_roundw
                case rel => exact ⟨j + 1, o2, true && b2, by omega, by first | trivial | go_num, rfl, HFD2.out, HOK2.out, ⟨A2, m2, c2, setRow_heap we O _ _ _ _ BOE.out, bs_rowG SXE.out BOE.out _⟩, (HT.out.trans (Tch.gr GWE.out)).trans (Tch.row we O _ rfl)⟩
                case measure =>
                  show y.size - ((j : Int) + 1).toNat < y.size - (j : Int).toNat
                  omega
              | false =>
                go_wp2_with (first
                  | (refine wpList_load_row rfl 24 (.tmp 11) rfl bn rfl 24 (opC o2 A2 m2 c2) (0, 0) _ HNE.out Tryd.underlying24 rfl opSize ?_)
                  | (refine wpList_store_row rfl 24 (.tmp 8) (.tmp 58) rfl O (opC o2 A2 m2 c2) rfl rfl 24 (opC o' A' m' c') BOE.out opSize rfl (opOne _ _ _ _) ?_))
                go_roundw
                case rel => exact ⟨j + 1, o2, false && b2, by omega, by first | trivial | go_num, rfl, HFD2.out, HOK2.out, ⟨A2, m2, c2, setRow_heap we O _ _ _ _ BOE.out, bs_rowG SXE.out BOE.out _⟩, (HT.out.trans (Tch.gr GWE.out)).trans (Tch.row we O _ rfl)⟩
                case measure =>
                  show y.size - ((j : Int) + 1).toNat < y.size - (j : Int).toNat
                  omega
            · obtain rfl : j = y.size := by omega
              have HE : Hid (foldQ { op0 with k := (k : Int) } true (formS k) ws.tail = (o', bb)) := by
                show _ = _
                rw [HFD.out, List.drop_of_length_le (by omega : (formS k).length ≤ y.size)]
                rfl
              cases bb with
              | true =>
                have HF : Hid (r = (o', 0)) := HHK.out o' (by rw [HHQ.out, HE.out]; rfl)
                have BR7 : Hid (Blk wr w.heap.size 24 (opC op0 none 0 0).toList) := BRO.out.tch HT.out (fun e => by have e : w.heap.size = O := e; omega)
                have GW7 : Hid (Gr w wr) := Tch.below gWO.out HT.out gWO.out.size (fun q e => by have e : q = O := e; omega)
                go_wp2_with (first
                  | (refine wpList_load_row rfl 24 (.tmp 8) rfl O rfl 24 (opC o' A' m' c') (0, 0) _ HB.out Tryd.underlying24 rfl opSize ?_)
                  | (refine wpList_store_row rfl 24 (.tmp 2) (.tmp 64) rfl w.heap.size (opC o' A' m' c') rfl rfl 24 (opC op0 none 0 0) BR7.out opSize rfl (opOne _ _ _ _) ?_))
                have HN := setRow_heap wr w.heap.size _ (opC o' A' m' c') _ _ BR7.out
                have G8 : Gr w (wr.setRow w.heap.size (opC o' A' m' c')) := below_row39 GW7.out (Nat.le_refl _) _
                rw [HF.out]
                exact bodyPost_ret (results_op Tryd.results11 _ _ w.heap.size _ _ rfl HN rfl) rfl ⟨A', m', c', rfl, bs_row HX.out BR7.out _, G8⟩
              | false =>
                have HN2 := Lib.hid (HNX.out (by rw [HHQ.out, HE.out]; rfl))
                have G7 : Hid (Gr w1 wr) := Tch.below GO.out HT.out GO.out.size (fun q e => by have e : q = O := e; omega)
                go_wp2_with fail
                go_roundw
                case rel => exact ⟨k + 1, by omega, by omega, by first | trivial | go_num, G7.out, HN2.out⟩
                case measure =>
                  show 10 - ((k : Int) + 1).toNat < 10 - (k : Int).toNat
                  omega
        · have tl : ((ws.length : Int) != (y.size : Int) + 1) = true := by rw [bne_iff_ne]; omega
          have HN2 := Lib.hid (HNX.out (by unfold hitQ; rw [if_neg (by rintro ⟨_, h⟩; omega)]))
          go_wp2_with fail
          refine HKK.out.mono ?_
          rintro e w2 ⟨rfl, g2⟩
          have cz := HCZ.out w2 g2
          have G2 := Lib.hid (G.out.trans g2); clear g2
          go_wp2_with fail
          go_roundw
          case rel => exact ⟨k + 1, by omega, by omega, by first | trivial | go_num, G2.out, HN2.out⟩
          case measure =>
            show 10 - ((k : Int) + 1).toNat < 10 - (k : Int).toNat
            omega
    · obtain rfl : k = 10 := by omega
      have t1 : decide (((10 : Nat) : Int) ≤ 9) = false := by decide
      have HF : Hid (r = (op0, 3)) := HMISS.out (fun j h1 h2 => HM.out j h1 h2)
      have BRw := BR.out.mono G.out
      go_wp2_with (refine wpList_store_row rfl 24 (.tmp 2) (.tmp 65) rfl w.heap.size (opC op0 none 0 0) rfl rfl 24 (opC op0 none 0 0) BRw opSize rfl (opOne _ _ _ _) ?_)
      have HN := setRow_heap wr w.heap.size _ (opC op0 none 0 0) _ _ BRw
      have G6 : Gr w (wr.setRow w.heap.size (opC op0 none 0 0)) := below_row39 (GW.out.trans G.out) (Nat.le_refl _) _
      rw [HF.out]
      exact bodyPost_ret (results_op Tryd.results11 _ _ w.heap.size _ _ rfl HN rfl) rfl ⟨none, 0, 0, rfl, Sl.nil _ _, G6⟩
end Go.Proofs.YtadenlhnfkccaaaDoor

/- Operations as lines: which are the same. No condition. -/
namespace Go.Proofs.YtadenlhnfkccaaaDoor
open Go.RowKit
set_option linter.unusedVariables false
set_option linter.unusedSimpArgs false
theorem and_f (b : Bool) : (false && b) = false := rfl
set_option maxRecDepth 100000 in
set_option maxHeartbeats 2000000 in
theorem same39_raw (k1 e1 s1 n1 v1 k2 e2 s2 n2 v2 : Int) (g1 i1 g2 i2 : ByteArray) (A1 A2 : Option Addr) (m1 c1 m2 c2 : Nat) (x y : List UInt8) (w : World) (ha : Bs w A1 m1 c1 x) (hb : Bs w A2 m2 c2 y) :
    Calls Tryd.prog 27 #[.agg #[.int .i64 k1, .string g1, .string i1, .int .i64 e1, .int .i64 s1, .int .i64 n1, .int .i64 v1, .slice A1 m1 c1], .agg #[.int .i64 k2, .string g2, .string i2, .int .i64 e2, .int .i64 s2, .int .i64 n2, .int .i64 v2, .slice A2 m2 c2]] w fun e w' => e = .returned (.bool ((k1 == k2) && (g1.toList == g2.toList) && (i1.toList == i2.toList) && (e1 == e2) && (s1 == s2) && (n1 == n2) && (v1 == v2) && x == y)) ∧ Gr w w' := by
  have HSM : Hid (∀ wr, Gr w wr → Calls Tryd.prog 58 #[.slice A1 m1 c1, .slice A2 m2 c2] wr fun e w' => e = .returned (.bool (x == y)) ∧ Gr wr w') := fun wr g => (same_any A1 A2 m1 m2 c1 c2 x y wr (ha.mono g) (hb.mono g)).mono fun e w' h => ⟨h.1, by rw [h.2]; exact Gr.refl _⟩
  have G0 : Hid (Gr w ((w.alloc (.cells #[.int .i64 k1, .string g1, .string i1, .int .i64 e1, .int .i64 s1, .int .i64 n1, .int .i64 v1, .slice A1 m1 c1] 24)).alloc (.cells #[.int .i64 k2, .string g2, .string i2, .int .i64 e2, .int .i64 s2, .int .i64 n2, .int .i64 v2, .slice A2 m2 c2] 24))) := (Gr.alloc w _).trans (Gr.alloc _ _)
  clear ha hb
  cases t0 : (k1 == k2) with
  | false =>
    go_enter Tryd.func27, Tryd.ntmps27
    go_wp2_with fail
    go_ret
    exact ⟨by simp, G0.out⟩
  | true =>
  cases t1 : (g1.toList == g2.toList) with
  | false =>
    go_enter Tryd.func27, Tryd.ntmps27
    go_wp2_with fail
    go_ret
    exact ⟨by simp, G0.out⟩
  | true =>
  cases t2 : (i1.toList == i2.toList) with
  | false =>
    go_enter Tryd.func27, Tryd.ntmps27
    go_wp2_with fail
    go_ret
    exact ⟨by simp, G0.out⟩
  | true =>
  cases t3 : (e1 == e2) with
  | false =>
    go_enter Tryd.func27, Tryd.ntmps27
    go_wp2_with fail
    go_ret
    exact ⟨by simp, G0.out⟩
  | true =>
  cases t4 : (s1 == s2) with
  | false =>
    go_enter Tryd.func27, Tryd.ntmps27
    go_wp2_with fail
    go_ret
    exact ⟨by simp, G0.out⟩
  | true =>
  cases t5 : (n1 == n2) with
  | false =>
    go_enter Tryd.func27, Tryd.ntmps27
    go_wp2_with fail
    go_ret
    exact ⟨by simp, G0.out⟩
  | true =>
  cases t6 : (v1 == v2) with
  | false =>
    go_enter Tryd.func27, Tryd.ntmps27
    go_wp2_with fail
    go_ret
    exact ⟨by simp, G0.out⟩
  | true =>
  go_enter Tryd.func27, Tryd.ntmps27
  go_wp2_with fail
  refine (HSM.out _ G0.out).mono ?_
  rintro e w2 ⟨rfl, g2⟩
  have G2 := Lib.hid g2; clear g2
  go_wp2_with fail
  go_ret
  exact ⟨by simp, G0.out.trans G2.out⟩
theorem same39_any (o1 o2 : OpD) (A1 A2 : Option Addr) (m1 c1 m2 c2 : Nat) (w : World) (ha : Bs w A1 m1 c1 o1.x) (hb : Bs w A2 m2 c2 o2.x) :
    Calls Tryd.prog 27 #[opV o1 A1 m1 c1, opV o2 A2 m2 c2] w fun e w' => e = .returned (.bool (sameO o1 o2)) ∧ Gr w w' := by
  have h := same39_raw o1.k o1.e o1.s o1.n o1.v o2.k o2.e o2.s o2.n o2.v ⟨o1.g.toArray⟩ ⟨o1.i.toArray⟩ ⟨o2.g.toArray⟩ ⟨o2.i.toArray⟩ A1 A2 m1 c1 m2 c2 o1.x o2.x w ha hb
  simp only [ByteArray.toList_eq] at h
  exact h
set_option maxRecDepth 100000 in
set_option maxHeartbeats 2000000 in
theorem refSame39_raw (k1 e1 s1 n1 v1 k2 e2 s2 n2 v2 : Int) (g1 i1 g2 i2 : ByteArray) (A1 A2 : Option Addr) (m1 c1 m2 c2 : Nat) (x y : List UInt8) (w : World) (ha : Bs w A1 m1 c1 x) (hb : Bs w A2 m2 c2 y) :
    Calls Tryd.prog 12 #[.agg #[.int .i64 k1, .string g1, .string i1, .int .i64 e1, .int .i64 s1, .int .i64 n1, .int .i64 v1, .slice A1 m1 c1], .agg #[.int .i64 k2, .string g2, .string i2, .int .i64 e2, .int .i64 s2, .int .i64 n2, .int .i64 v2, .slice A2 m2 c2]] w fun e w' => e = .returned (.bool ((k1 == k2) && (g1.toList == g2.toList) && (i1.toList == i2.toList) && (e1 == e2) && (s1 == s2) && (n1 == n2) && (v1 == v2) && x == y)) ∧ Gr w w' := by
  have HSM : Hid (∀ wr, Gr w wr → Calls Tryd.prog 36 #[.slice A1 m1 c1, .slice A2 m2 c2] wr fun e w' => e = .returned (.bool (x == y)) ∧ Gr wr w') := fun wr g => (refSame_any A1 A2 m1 m2 c1 c2 x y wr (ha.mono g) (hb.mono g)).mono fun e w' h => ⟨h.1, by obtain ⟨q, h2⟩ := h.2; rw [h2]; exact belowN (Gr.refl _) q⟩
  have G0 : Hid (Gr w ((w.alloc (.cells #[.int .i64 k1, .string g1, .string i1, .int .i64 e1, .int .i64 s1, .int .i64 n1, .int .i64 v1, .slice A1 m1 c1] 24)).alloc (.cells #[.int .i64 k2, .string g2, .string i2, .int .i64 e2, .int .i64 s2, .int .i64 n2, .int .i64 v2, .slice A2 m2 c2] 24))) := (Gr.alloc w _).trans (Gr.alloc _ _)
  clear ha hb
  cases t0 : (k1 == k2) with
  | false =>
    go_enter Tryd.func12, Tryd.ntmps12
    go_wp2_with fail
    go_ret
    exact ⟨by simp, G0.out⟩
  | true =>
  cases t1 : (g1.toList == g2.toList) with
  | false =>
    go_enter Tryd.func12, Tryd.ntmps12
    go_wp2_with fail
    go_ret
    exact ⟨by simp, G0.out⟩
  | true =>
  cases t2 : (i1.toList == i2.toList) with
  | false =>
    go_enter Tryd.func12, Tryd.ntmps12
    go_wp2_with fail
    go_ret
    exact ⟨by simp, G0.out⟩
  | true =>
  cases t3 : (e1 == e2) with
  | false =>
    go_enter Tryd.func12, Tryd.ntmps12
    go_wp2_with fail
    go_ret
    exact ⟨by simp, G0.out⟩
  | true =>
  cases t4 : (s1 == s2) with
  | false =>
    go_enter Tryd.func12, Tryd.ntmps12
    go_wp2_with fail
    go_ret
    exact ⟨by simp, G0.out⟩
  | true =>
  cases t5 : (n1 == n2) with
  | false =>
    go_enter Tryd.func12, Tryd.ntmps12
    go_wp2_with fail
    go_ret
    exact ⟨by simp, G0.out⟩
  | true =>
  cases t6 : (v1 == v2) with
  | false =>
    go_enter Tryd.func12, Tryd.ntmps12
    go_wp2_with fail
    go_ret
    exact ⟨by simp, G0.out⟩
  | true =>
  go_enter Tryd.func12, Tryd.ntmps12
  go_wp2_with fail
  refine (HSM.out _ G0.out).mono ?_
  rintro e w2 ⟨rfl, g2⟩
  have G2 := Lib.hid g2; clear g2
  go_wp2_with fail
  go_ret
  exact ⟨by simp, G0.out.trans G2.out⟩
theorem refSame39_any (o1 o2 : OpD) (A1 A2 : Option Addr) (m1 c1 m2 c2 : Nat) (w : World) (ha : Bs w A1 m1 c1 o1.x) (hb : Bs w A2 m2 c2 o2.x) :
    Calls Tryd.prog 12 #[opV o1 A1 m1 c1, opV o2 A2 m2 c2] w fun e w' => e = .returned (.bool (sameO o1 o2)) ∧ Gr w w' := by
  have h := refSame39_raw o1.k o1.e o1.s o1.n o1.v o2.k o2.e o2.s o2.n o2.v ⟨o1.g.toArray⟩ ⟨o1.i.toArray⟩ ⟨o2.g.toArray⟩ ⟨o2.i.toArray⟩ A1 A2 m1 c1 m2 c2 o1.x o2.x w ha hb
  simp only [ByteArray.toList_eq] at h
  exact h
end Go.Proofs.YtadenlhnfkccaaaDoor

/- Operations as lines: the reference's Print. No condition. -/
namespace Go.Proofs.YtadenlhnfkccaaaDoor
open Go.RowKit
set_option linter.unusedVariables false
set_option linter.unusedSimpArgs false
theorem kinds_out (n : Int) (w : World) (h : n < 1 ∨ 9 < n) : Calls Tryd.prog 28 #[.int .i64 n] w fun e w' => e = .returned (.tuple #[strc [], strc []]) ∧ Gr w w' := by
  by_cases h1 : n < 1
  · have t1 : decide (n < 1) = true := decide_eq_true h1
    go_enter Tryd.func28, Tryd.ntmps28
    go_wp2_with fail
    go_ret2
    exact ⟨rfl, (Gr.alloc w _).trans (Gr.alloc _ _)⟩
  · have t1 : decide (n < 1) = false := decide_eq_false h1
    have t2 : decide (9 < n) = true := decide_eq_true (by omega)
    go_enter Tryd.func28, Tryd.ntmps28
    go_wp2_with fail
    go_ret2
    exact ⟨rfl, (Gr.alloc w _).trans (Gr.alloc _ _)⟩
theorem printL_len {n : Int} (h : n ≤ 1073741824) : (printL n).length ≤ 10 := by
  by_cases h0 : n < 0
  · unfold printL; rw [if_pos h0]; simp
  · obtain ⟨u, rfl⟩ := Int.eq_ofNat_of_zero_le (show 0 ≤ n by omega)
    have e : printL (u : Int) = Lib.decDigits u := by unfold printL; rw [if_neg (by omega)]; rfl
    rw [e]
    obtain ⟨_, i2, i3, _, i5, _⟩ := dec_back u
    rcases Nat.lt_or_ge 10 (Lib.decDigits u).length with h | h
    · by_cases hu : 1 ≤ u
      · have h2 := i5 hu
        have h3 : 10 ^ 10 ≤ 10 ^ ((Lib.decDigits u).length - 1) := Nat.pow_le_pow_right (by decide) (by omega)
        have h4 : (10 : Nat) ^ 10 = 10000000000 := by decide
        omega
      · rw [dec_small u (by omega)] at h; simp at h
    · exact h
theorem countT_len (n : Int) : (countT n).length ≤ 10 := by
  unfold countT
  split
  · simp
  · exact printL_len (by omega)
theorem partT_len (l : List UInt8) : (partT l).length ≤ l.length := by unfold partT; split <;> simp
theorem sayT_len (n : Int) : (sayT n).length ≤ 10 := by
  unfold sayT
  split
  · decide
  · split
    · decide
    · split
      · decide
      · simp
theorem field_len (o : OpD) (s : Nat) (hg : o.g.length ≤ 1000) (hi : o.i.length ≤ 1000) : (fieldL o s).length ≤ 1000 := by
  have := partT_len o.g
  have := partT_len o.i
  have := countT_len o.e
  have := countT_len o.s
  have := countT_len o.n
  have := sayT_len o.v
  unfold fieldL
  split
  · omega
  · split
    · omega
    · split
      · omega
      · split
        · omega
        · split
          · omega
          · split
            · omega
            · split
              · split
                · rw [hexP_len]; omega
                · simp
              · simp
/-- The line, as far as its first signs. -/
def lineTo (k : Nat) (o : OpD) (j : Nat) : List UInt8 := formW k ++ Lib.joinTail [32] (((formS k).take j).map fun s => fieldL o s.toNat)
theorem joinT_snoc (r : List (List UInt8)) (x : List UInt8) : Lib.joinTail [32] (r ++ [x]) = Lib.joinTail [32] r ++ ([32] ++ x) := by simp [Lib.joinTail]
theorem lineTo_snoc {k j : Nat} (o : OpD) (hj : j < (formS k).length) : lineTo k o (j + 1) = lineTo k o j ++ [32] ++ fieldL o (formS k)[j].toNat := by
  unfold lineTo
  rw [List.take_succ_eq_append_getElem hj, List.map_append, List.map_singleton, joinT_snoc]
  simp only [List.append_assoc]
theorem lineTo_len {k : Nat} (o : OpD) (hg : o.g.length ≤ 1000) (hi : o.i.length ≤ 1000) : ∀ j, j ≤ (formS k).length → (lineTo k o j).length ≤ 7 + j * 1001
  | 0, _ => by
    have : (formW k).length ≤ 7 := by
      match k with
      | 0 | 1 | 2 | 3 | 4 | 5 | 6 | 7 | 8 | 9 => simp [formW]
      | k + 10 => simp [formW]
    simp [lineTo, Lib.joinTail]; omega
  | j + 1, h => by
    have ih := lineTo_len (k := k) o hg hi j (by omega)
    have hf := field_len o (formS k)[j].toNat hg hi
    rw [lineTo_snoc o (by omega), List.length_append, List.length_append, List.length_singleton]
    omega
theorem lineTo_all {o : OpD} {k : Nat} (hk : o.k = (k : Int)) (h1 : 1 ≤ k) (h9 : k < 10) : lineTo k o (formS k).length = lineL o := by
  have e : o.k.toNat = k := by omega
  unfold lineTo lineL
  rw [if_pos (by omega), e, List.take_length, Lib.join_cons]
theorem parse_nil : (parseO []).2 = 3 := by decide +kernel
/-- The form of an operation, or none. -/
def formOf (o : OpD) : Nat := if 1 ≤ o.k ∧ o.k < 10 then o.k.toNat else 0
theorem formOf_lt (o : OpD) : formOf o < 10 := by unfold formOf; split <;> omega
theorem kinds_of (o : OpD) (w : World) : Calls Tryd.prog 28 #[.int .i64 o.k] w fun e w' => e = .returned (.tuple #[strc (formW (formOf o)), strc (formS (formOf o))]) ∧ Gr w w' := by
  unfold formOf
  by_cases h : 1 ≤ o.k ∧ o.k < 10
  · rw [if_pos h]
    have := kinds_any o.k.toNat w (by omega)
    rw [show ((o.k.toNat : Nat) : Int) = o.k by omega] at this
    exact this
  · rw [if_neg h]
    exact kinds_out o.k w (by omega)
def lineT (o : OpD) : List UInt8 := lineTo (formOf o) o (formS (formOf o)).length
theorem printO_eq (o : OpD) : printO o = if (parseO (lineT o)).2 = 0 ∧ sameO o (parseO (lineT o)).1 = true then (lineT o, 0) else ([], 2) := by
  unfold printO
  by_cases h : 1 ≤ o.k ∧ o.k < 10
  · have e : lineT o = lineL o := by
      unfold lineT formOf
      rw [if_pos h]
      exact lineTo_all (by omega) (by omega) (by omega)
    rw [e]
    by_cases h2 : (parseO (lineL o)).2 = 0 ∧ sameO o (parseO (lineL o)).1 = true
    · rw [if_pos ⟨h, h2⟩, if_pos h2]
    · rw [if_neg (fun h3 => h2 h3.2), if_neg h2]
  · have e : lineT o = [] := by
      unfold lineT formOf
      rw [if_neg h]
      rfl
    rw [e, if_neg (fun h3 => h h3.1), if_neg (fun h3 => by rw [parse_nil] at h3; exact absurd h3.1 (by decide))]
set_option maxRecDepth 100000 in
set_option maxHeartbeats 4000000 in
theorem refOpPrint_any (o : OpD) (A : Option Addr) (m c : Nat) (w : World) (ho : OpOk o) (hg : o.g.length ≤ 1000) (hi : o.i.length ≤ 1000) (hx : Bs w A m c o.x) :
    Calls Tryd.prog 9 #[opV o A m c] w fun e w' => e = .returned (.tuple #[strc (printO o).1, .int .i64 ((printO o).2 : Int)]) ∧ Gr w w' := by
  have HKO : Hid (∀ wr, Calls Tryd.prog 28 #[.int .i64 o.k] wr fun e w' => e = .returned (.tuple #[strc (formW (formOf o)), strc (formS (formOf o))]) ∧ Gr wr w') := fun wr => kinds_of o wr
  have HFL : Hid (∀ (s : UInt8) wr, s ∈ formS (formOf o) → Gr w wr → Calls Tryd.prog 29 #[opV o A m c, .int .u8 (s.toNat : Int)] wr fun e w' => e = .returned (strc (fieldL o s.toNat)) ∧ Gr wr w') := fun s wr hs g => refField_any o A m c s.toNat wr ho (hx.mono g) (signs_all _ s hs)
  have HLN : Hid (∀ j, j ≤ (formS (formOf o)).length → (lineTo (formOf o) o j).length ≤ 7 + j * 1001) := fun j h => lineTo_len o hg hi j h
  have HFN : Hid (∀ s, (fieldL o s).length ≤ 1000) := fun s => field_len o s hg hi
  have HSN : Hid (∀ j (hj : j < (formS (formOf o)).length), lineTo (formOf o) o (j + 1) = lineTo (formOf o) o j ++ [32] ++ fieldL o (formS (formOf o))[j].toNat) := fun j hj => lineTo_snoc o hj
  have HPP : Hid (∀ wr, Calls Tryd.prog 11 #[strc (lineT o)] wr (RetOp wr (parseO (lineT o)))) := fun wr => refOpParse_any _ wr (by
    have := lineTo_len o hg hi _ (Nat.le_refl (formS (formOf o)).length)
    have h4 := formS_len (formOf o)
    have h5 : (formS (formOf o)).length * 1001 ≤ 4 * 1001 := Nat.mul_le_mul_right _ h4
    show (lineTo _ _ _).length ≤ _
    omega)
  have HSM : Hid (∀ o2 A2 m2 c2 wr, Gr w wr → Bs wr A2 m2 c2 o2.x → Calls Tryd.prog 12 #[opV o A m c, opV o2 A2 m2 c2] wr fun e w' => e = .returned (.bool (sameO o o2)) ∧ Gr wr w') := fun o2 A2 m2 c2 wr g hb => refSame39_any o o2 A A2 m c m2 c2 wr (hx.mono g) hb
  obtain ⟨r, hr⟩ : ∃ r, r = printO o := ⟨_, rfl⟩
  rw [← hr]
  have HR : Hid (r = if (parseO (lineT o)).2 = 0 ∧ sameO o (parseO (lineT o)).1 = true then (lineT o, 0) else ([], 2)) := hr.trans (printO_eq o)
  have HLT : Hid (lineT o = lineTo (formOf o) o (formS (formOf o)).length) := rfl
  have hf4 := formS_len (formOf o)
  have hl0 : lineTo (formOf o) o 0 = formW (formOf o) := by simp [lineTo, Lib.joinTail]
  clear hr hx ho
  obtain ⟨x, hxx⟩ : ∃ x : ByteArray, x = ⟨(formW (formOf o)).toArray⟩ := ⟨_, rfl⟩
  obtain ⟨y, hy⟩ : ∃ y : ByteArray, y = ⟨(formS (formOf o)).toArray⟩ := ⟨_, rfl⟩
  have hys : y.size = (formS (formOf o)).length := by rw [hy]; exact size_of' _
  have HAT := Lib.hid (at_of (formS (formOf o)) y hy)
  have hxs : strc (formW (formOf o)) = .string x := by rw [hxx]; rfl
  have hyS : strc (formS (formOf o)) = .string y := by rw [hy]; rfl
  have hx0 : x = ⟨(lineTo (formOf o) o 0).toArray⟩ := by rw [hl0]; exact hxx
  rw [hxs, hyS] at HKO
  clear hxx hy hxs hyS hl0
  generalize formS (formOf o) = ss at *
  generalize lineTo (formOf o) o = lt at *
  have HC8 : Hid (∀ wq, Gr (w.alloc (.cells (opC o A m c) 24)) wq → ∀ (i : Nat) (v : Value), (opC o A m c).toList[i]? = some v → wq.cell? ⟨w.heap.size, i, none⟩ = some v) := fun wq g i v h => (((Blk.new w 24 (opC o A m c)).mono g).cell i).trans h
  have G0 : Hid (Gr w (w.alloc (.cells (opC o A m c) 24))) := Gr.alloc w _
  have HX0 := Lib.hid hx0; clear hx0
  obtain ⟨wX, hwX⟩ : ∃ wX, wX = w.alloc (.cells (opC o A m c) 24) := ⟨_, rfl⟩
  rw [← hwX] at HC8 G0
  have HWX := Lib.hid hwX; clear hwX
  unfold opV at *
  have k0 : (w.alloc (.cells (opC o A m c) 24)).cell? ⟨w.heap.size, 0, none⟩ = some (.int .i64 o.k) := by rw [(Blk.new w 24 (opC o A m c)).cell]; rfl
  go_enter Tryd.func9, Tryd.ntmps9
  go_wp2_with fail
  rw [← HWX.out]
  refine (HKO.out _).mono ?_
  rintro e w1 ⟨rfl, g1⟩
  have G1 := Lib.hid g1; clear g1 k0
  go_wp2_with fail
  go_loopw [4, 6] (fun v i wr => ∃ (j : Nat) (t : ByteArray), j ≤ y.size ∧ i = .int .i64 j ∧ v = .string t ∧ t = ⟨(lt j).toArray⟩ ∧ Gr wX wr) (fun _ i _ => y.size - (intOf i).toNat)
  case atStart => exact ⟨0, x, by omega, rfl, rfl, HX0.out, G1.out⟩
  case round =>
    obtain ⟨j, t, hj, rfl, rfl, ht, g⟩ := hrel
    have HT := Lib.hid ht; have G := Lib.hid g; clear ht g
    have htz : t.size = (lt j).length := by rw [HT.out]; exact size_of' _
    have htl := HLN.out j (by omega)
    by_cases hlt : j < y.size
    · have hja : j < ss.length := by omega
      have hasc : ((y[j]'hlt).toNat : Int) = (ss[j].toNat : Int) := by
        rw [HAT.out j hlt]; unfold bAt
        simp [List.getD_eq_getElem?_getD, List.getElem?_eq_getElem hja]
      have HFC := Lib.hid (fun wr g => HFL.out ss[j] wr (List.getElem_mem hja) g)
      have HSJ := Lib.hid (HSN.out j hja)
      have hfl := HFN.out ss[j].toNat
      generalize ss[j].toNat = sg at *
      obtain ⟨fx, hfx⟩ : ∃ fx : ByteArray, fx = ⟨(fieldL o sg).toArray⟩ := ⟨_, rfl⟩
      have hfz : fx.size = (fieldL o sg).length := by rw [hfx]; exact size_of' _
      rw [show strc (fieldL o sg) = .string fx by rw [hfx]; rfl] at HFC
      have HX2 : Hid (t ++ ⟨#[32]⟩ ++ fx = ⟨(lt (j + 1)).toArray⟩) := by
        show _ = _
        rw [HSJ.out, HT.out, hfx]
        apply ByteArray.ext
        simp
      have l1 : ¬ 9223372036854775807 < t.size + 1 := by
        have : j * 1001 ≤ 4 * 1001 := Nat.mul_le_mul_right _ (by omega)
        omega
      have l2 : ¬ 9223372036854775807 < t.size + 1 + fx.size := by
        have : j * 1001 ≤ 4 * 1001 := Nat.mul_le_mul_right _ (by omega)
        omega
      have hjs : (j : Int) < (ss.length : Int) := by omega
      have hjs2 : (j : Int) < (y.size : Int) := by omega
      clear hfx hfz htz htl hfl HT
      go_wp2_with fail
      refine wp_region_quiet (C := fun w' => Below (wr).heap.size (wr) w') (by kernel_rfl) (by kernel_rfl) (Below.refl _ _).drew ?_
      simp only
      repeat (first
        | go_big_quiet_skip
        | (go_big_quiet_want
           apply Exists.intro
           refine ⟨fun wq hq => ?_, ?_⟩
           · (have d0 := HC8.out wq ((Gr.trans G.out hq)) 0 _ rfl; have d1 := HC8.out wq ((Gr.trans G.out hq)) 1 _ rfl; have d2 := HC8.out wq ((Gr.trans G.out hq)) 2 _ rfl; have d3 := HC8.out wq ((Gr.trans G.out hq)) 3 _ rfl; have d4 := HC8.out wq ((Gr.trans G.out hq)) 4 _ rfl; have d5 := HC8.out wq ((Gr.trans G.out hq)) 5 _ rfl; have d6 := HC8.out wq ((Gr.trans G.out hq)) 6 _ rfl; have d7 := HC8.out wq ((Gr.trans G.out hq)) 7 _ rfl
              go_simp
              first
                | done
                | exact rfl
                | (with_reducible exact ⟨rfl, rfl⟩)
                | (go_at_call 29; exact (HFC.out wq (G0.out.trans (G.out.trans hq))).mono fun e w2 ⟨he, hb⟩ => ⟨he, below_both hq hb⟩))
           go_simp
           go_big_quiet_on))
      refine wpQuiet_nil ?_
      intro wq hq
      have GQ : Hid (Gr wX wq) := G.out.trans hq
      clear hq l1 l2
      go_wp2_with fail
      refine ⟨⟨j + 1, _, by omega, by first | trivial | go_num, rfl, HX2.out, GQ.out⟩, ?_⟩
      show y.size - ((j : Int) + 1).toNat < y.size - (j : Int).toNat
      omega
    · have hje : j = ss.length := by omega
      subst hje
      have hlt2 : strc (lineT o) = .string t := by rw [HLT.out, HT.out]; rfl
      rw [hlt2] at HPP
      generalize lineT o = tx at *
      have HTX := Lib.hid hlt2
      clear hlt2
      generalize parseO tx = p at *
      go_wp2_with fail
      refine (HPP.out _).mono ?_
      rintro e w2 ⟨A2, m2, c2, rfl, sx, g2⟩
      have G2 := Lib.hid (G.out.trans g2); have SX := Lib.hid sx
      clear g2 sx
      unfold opV at *
      obtain ⟨p1, p2⟩ := p
      have HYB := setRow_heap (w2.alloc (.cells #[.int .i64 0, .string ⟨#[]⟩, .string ⟨#[]⟩, .int .i64 0, .int .i64 0, .int .i64 0, .int .i64 0, .slice none 0 0] 24)) w2.heap.size _ (opC p1 A2 m2 c2) _ _ (heap_alloc_new w2 _)
      have GS0 : Gr w2 ((w2.alloc (.cells #[.int .i64 0, .string ⟨#[]⟩, .string ⟨#[]⟩, .int .i64 0, .int .i64 0, .int .i64 0, .int .i64 0, .slice none 0 0] 24)).setRow w2.heap.size (opC p1 A2 m2 c2)) := below_row39 ((Below.refl _ _).alloc (Nat.le_refl _) _) (Nat.le_refl _) _
      have SX2 := Lib.hid (Sl.gr SX.out GS0)
      have GS := Lib.hid (G2.out.trans GS0)
      have HY8 : Hid (∀ (i : Nat) (v : Value), (opC p1 A2 m2 c2).toList[i]? = some v → ((w2.alloc (.cells #[.int .i64 0, .string ⟨#[]⟩, .string ⟨#[]⟩, .int .i64 0, .int .i64 0, .int .i64 0, .int .i64 0, .slice none 0 0] 24)).setRow w2.heap.size (opC p1 A2 m2 c2)).cell? ⟨w2.heap.size, i, none⟩ = some v) := fun i v h => ((show Blk ((w2.alloc (.cells #[.int .i64 0, .string ⟨#[]⟩, .string ⟨#[]⟩, .int .i64 0, .int .i64 0, .int .i64 0, .int .i64 0, .slice none 0 0] 24)).setRow w2.heap.size (opC p1 A2 m2 c2)) w2.heap.size 24 (opC p1 A2 m2 c2).toList from HYB).cell i).trans h
      clear GS0 HYB
      have GWS : Hid (Gr w ((w2.alloc (.cells #[.int .i64 0, .string ⟨#[]⟩, .string ⟨#[]⟩, .int .i64 0, .int .i64 0, .int .i64 0, .int .i64 0, .slice none 0 0] 24)).setRow w2.heap.size (opC p1 A2 m2 c2))) := G0.out.trans GS.out
      by_cases hp2 : p2 = 0
      · subst hp2
        have HSC := Lib.hid (HSM.out p1 A2 m2 c2 _ GWS.out SX2.out)
        cases hso : sameO o p1 with
        | true =>
          have HF : Hid (r = (tx, 0)) := by show _ = _; rw [HR.out, if_pos ⟨rfl, hso⟩]
          rw [hso] at HSC
          clear hso HR
          have d0 := HC8.out _ GS.out 0 _ rfl
          have d1 := HC8.out _ GS.out 1 _ rfl
          have d2 := HC8.out _ GS.out 2 _ rfl
          have d3 := HC8.out _ GS.out 3 _ rfl
          have d4 := HC8.out _ GS.out 4 _ rfl
          have d5 := HC8.out _ GS.out 5 _ rfl
          have d6 := HC8.out _ GS.out 6 _ rfl
          have d7 := HC8.out _ GS.out 7 _ rfl
          have e0 := HY8.out 0 _ rfl
          have e1 := HY8.out 1 _ rfl
          have e2 := HY8.out 2 _ rfl
          have e3 := HY8.out 3 _ rfl
          have e4 := HY8.out 4 _ rfl
          have e5 := HY8.out 5 _ rfl
          have e6 := HY8.out 6 _ rfl
          have e7 := HY8.out 7 _ rfl
          go_wp2_with (refine wpList_store_row rfl 24 (.tmp 7) (.tmp 32) rfl w2.heap.size (opC p1 A2 m2 c2) rfl rfl 24 #[.int .i64 0, .string ⟨#[]⟩, .string ⟨#[]⟩, .int .i64 0, .int .i64 0, .int .i64 0, .int .i64 0, .slice none 0 0] (by exact heap_alloc_new w2 _) opSize rfl (opOne _ _ _ _) ?_)
          refine HSC.out.mono ?_
          rintro e w5 ⟨rfl, g5⟩
          have G5 := Lib.hid (GWS.out.trans g5); clear g5
          go_wp2_with fail
          go_ret2
          rw [HF.out]
          exact ⟨by rw [HTX.out]; rfl, G5.out⟩
        | false =>
          have HF : Hid (r = ([], 2)) := by show _ = _; rw [HR.out, if_neg (fun h => by rw [hso] at h; cases h.2)]
          rw [hso] at HSC
          clear hso HR
          have d0 := HC8.out _ GS.out 0 _ rfl
          have d1 := HC8.out _ GS.out 1 _ rfl
          have d2 := HC8.out _ GS.out 2 _ rfl
          have d3 := HC8.out _ GS.out 3 _ rfl
          have d4 := HC8.out _ GS.out 4 _ rfl
          have d5 := HC8.out _ GS.out 5 _ rfl
          have d6 := HC8.out _ GS.out 6 _ rfl
          have d7 := HC8.out _ GS.out 7 _ rfl
          have e0 := HY8.out 0 _ rfl
          have e1 := HY8.out 1 _ rfl
          have e2 := HY8.out 2 _ rfl
          have e3 := HY8.out 3 _ rfl
          have e4 := HY8.out 4 _ rfl
          have e5 := HY8.out 5 _ rfl
          have e6 := HY8.out 6 _ rfl
          have e7 := HY8.out 7 _ rfl
          go_wp2_with (refine wpList_store_row rfl 24 (.tmp 7) (.tmp 32) rfl w2.heap.size (opC p1 A2 m2 c2) rfl rfl 24 #[.int .i64 0, .string ⟨#[]⟩, .string ⟨#[]⟩, .int .i64 0, .int .i64 0, .int .i64 0, .int .i64 0, .slice none 0 0] (by exact heap_alloc_new w2 _) opSize rfl (opOne _ _ _ _) ?_)
          refine HSC.out.mono ?_
          rintro e w5 ⟨rfl, g5⟩
          have G5 := Lib.hid (GWS.out.trans g5); clear g5
          go_wp2_with fail
          go_ret2
          rw [HF.out]
          exact ⟨rfl, G5.out⟩
      · have t2 : ((p2 : Int) != 0) = true := by rw [bne_iff_ne]; omega
        have HF : Hid (r = ([], 2)) := by show _ = _; rw [HR.out, if_neg (fun h => hp2 h.1)]
        go_wp2_with (refine wpList_store_row rfl 24 (.tmp 7) (.tmp 32) rfl w2.heap.size (opC p1 A2 m2 c2) rfl rfl 24 #[.int .i64 0, .string ⟨#[]⟩, .string ⟨#[]⟩, .int .i64 0, .int .i64 0, .int .i64 0, .int .i64 0, .slice none 0 0] (by exact heap_alloc_new w2 _) opSize rfl (opOne _ _ _ _) ?_)
        go_ret2
        rw [HF.out]
        exact ⟨rfl, GWS.out⟩
end Go.Proofs.YtadenlhnfkccaaaDoor
