/- Operations as lines: the reference's Parse. No condition. -/
import Derived.Test.YtadenlhnfkccaaaDoorObOpWX
import Derived.Test.YtadenlhnfkccaaaDoorObCutW
import Derived.Outline
namespace Go.Proofs.YtadenlhnfkccaaaDoor
open Go.RowKit
set_option linter.unusedVariables false
set_option linter.unusedSimpArgs false
theorem form_one : ∀ j k : Fin 10, formW j.1 = formW k.1 → formW j.1 ≠ [] → j = k := by decide +kernel
theorem form_uniq {z : List UInt8} {j k : Nat} (hj : j < 10) (hk : k < 10) (h1 : isForm z j = true) (h2 : isForm z k = true) : j = k := by
  unfold isForm at h1 h2
  rw [Bool.and_eq_true, beq_iff_eq, Bool.not_eq_true', beq_eq_false_iff_ne] at h1 h2
  have := form_one ⟨j, hj⟩ ⟨k, hk⟩ (h1.1.trans h2.1.symm) h1.2
  exact congrArg Fin.val this
theorem kind_is {z : List UInt8} {k : Nat} (hk : k < 10) (h : isForm z k = true) : kindL z = k := kind_hit hk h fun j hj => by
  rw [Bool.eq_false_iff]
  intro h2
  have := form_uniq (by omega) hk h2 h
  omega
theorem kind_form {z : List UInt8} (h : kindL z < 10) : isForm z (kindL z) = true := by
  unfold kindL at h ⊢
  cases hf : (List.range 10).find? (fun k => formW k == z && !(formW k == [])) with
  | none => rw [hf] at h; simp at h
  | some k => exact List.find?_some hf
theorem signs_last : ∀ k s, s ∈ (formS k).dropLast → s ≠ 118 := by
  intro k s h
  match k, h with
  | 0, h => simp [formS] at h
  | 1, h | 2, h | 3, h | 4, h | 5, h | 7, h => simp [formS] at h; rintro rfl; revert h; decide
  | 6, h | 8, h | 9, h => simp [formS] at h
  | k + 10, h => simp [formS] at h
/-- Is a kind's form that of words, and are they read by it? -/
def hitQ (k : Nat) (ws : List (List UInt8)) : Option OpD := if isForm (ws.headD []) k = true ∧ ws.length = (formS k).length + 1 then (if (foldQ { op0 with k := (k : Int) } true (formS k) ws.tail).2 = true then some (foldQ { op0 with k := (k : Int) } true (formS k) ws.tail).1 else none) else none
theorem hitQ_try {k : Nat} {ws : List (List UInt8)} (h : isForm (ws.headD []) k = true) : hitQ k ws = tryL k ws := by
  unfold hitQ tryL
  by_cases hl : ws.length = (formS k).length + 1
  · have hl2 : ws.length = 1 + (formS k).length := by omega
    rw [if_pos ⟨h, hl⟩, if_pos hl2]
    have hq := foldQ_eq (formS k) ws.tail { op0 with k := (k : Int) } rfl (signs_last k) (by rw [List.length_tail]; omega)
    generalize foldQ { op0 with k := (k : Int) } true (formS k) ws.tail = q at *
    cases hp : foldP { op0 with k := (k : Int) } (formS k) ws.tail with
    | some o =>
      rw [hp] at hq
      have hq : q = (o, true) := hq
      rw [hq]; rfl
    | none =>
      rw [hp] at hq
      have hq : q.2 = false := hq
      rw [if_neg (by rw [hq]; decide)]
  · rw [if_neg (fun e => hl e.2), if_neg (by omega)]
theorem formW_ne (k : Nat) (h1 : 1 ≤ k) (h9 : k ≤ 9) : formW k ≠ [] := by
  rcases show k = 1 ∨ k = 2 ∨ k = 3 ∨ k = 4 ∨ k = 5 ∨ k = 6 ∨ k = 7 ∨ k = 8 ∨ k = 9 by omega with rfl | rfl | rfl | rfl | rfl | rfl | rfl | rfl | rfl <;> simp [formW]
theorem bs_rowG {w : World} {A B : Option Addr} {m c m' c' g : Nat} {x : List UInt8} {o : OpD} (hx : Bs w A m c x) (hb : Blk w g 24 (opC o B m' c').toList) (cs : Array Value) : Bs (w.setRow g cs) A m c x := by
  obtain ⟨h1, h2, h3, h4⟩ := hx
  refine ⟨h1, h2, h3, fun hn => ?_⟩
  obtain ⟨b, q, e, hc⟩ := h4 hn
  have hne : b ≠ g := Sl.not_blk (⟨h1, h2, h3, h4⟩ : Bs w A m c x) (by decide) hb (fun u hu v hv => by
    obtain ⟨z, hz, rfl⟩ := List.mem_map.1 (List.mem_of_getElem? hv)
    simp only [opC, List.mem_cons, List.not_mem_nil, or_false] at hu
    rcases hu with h | h | h | h | h | h | h | h <;> subst h <;> simp [u8c, strc]) hn e
  refine ⟨b, q, e, fun j u hu => ?_⟩
  rw [World.cell?_of_block (w := w) (a := ⟨b, q + j, none⟩) (setRow_other w g b cs hne)]
  exact hc j u hu
theorem parse_hit {l : List UInt8} {k : Nat} {o : OpD} (hk : k < 10) (h : hitQ k (cutL 32 l) = some o) : parseO l = (o, 0) := by
  have hf : isForm ((cutL 32 l).headD []) k = true := by
    unfold hitQ at h
    split at h
    · next e => exact e.1
    · cases h
  rw [hitQ_try hf] at h
  unfold parseO opOf
  simp only [kind_is hk hf]
  rw [if_pos hk, h]
theorem parse_miss {l : List UInt8} (h : ∀ k, 1 ≤ k → k < 10 → hitQ k (cutL 32 l) = none) : parseO l = (op0, 3) := by
  unfold parseO opOf
  by_cases hk : kindL ((cutL 32 l).headD []) < 10
  · have hf := kind_form hk
    have h0 : 1 ≤ kindL ((cutL 32 l).headD []) := by
      rcases Nat.eq_zero_or_pos (kindL ((cutL 32 l).headD [])) with e | e
      · rw [e] at hf; revert hf; simp [isForm, formW]
      · exact e
    have := h _ h0 hk
    rw [hitQ_try hf] at this
    simp only [if_pos hk, this]
  · simp only [if_neg hk]
set_option maxRecDepth 100000 in
set_option maxHeartbeats 4000000 in
theorem refOpParse_any (l : List UInt8) (w : World) (hl : l.length ≤ 100000) : Calls Tryd.prog 11 #[strc l] w (RetOp w (parseO l)) := by
  have HSP : Hid (∀ wr, Calls Tryd.prog 34 #[strc l] wr (RetWs wr (cutL 32 l))) := fun wr => split39_any l wr hl
  have HKD : Hid (∀ (k : Nat) wr, k < 10 → Calls Tryd.prog 28 #[.int .i64 (k : Int)] wr fun e w' => e = .returned (.tuple #[strc (formW k), strc (formS k)]) ∧ Gr wr w') := fun k wr h => kinds_any k wr h
  obtain ⟨s, hs⟩ : ∃ s : ByteArray, strc l = .string s := ⟨_, rfl⟩
  rw [hs] at HSP ⊢
  clear hs
  obtain ⟨r, hr⟩ : ∃ r, r = parseO l := ⟨_, rfl⟩
  rw [← hr]
  have HHIT : Hid (∀ k o, k < 10 → hitQ k (cutL 32 l) = some o → r = (o, 0)) := fun k o hk h => by rw [hr]; exact parse_hit hk h
  have HMISS : Hid ((∀ k, 1 ≤ k → k < 10 → hitQ k (cutL 32 l) = none) → r = (op0, 3)) := fun h => by rw [hr]; exact parse_miss h
  have hwz : ∀ p ∈ cutL 32 l, p.length ≤ 100000 := fun p hp => Nat.le_trans ((cut_size 32 l).2 p hp) hl
  have hne := List.length_pos_iff.2 (cut_ne 32 l)
  have hsm := (cut_size 32 l).1
  clear hr
  generalize cutL 32 l = ws at *
  have HWZ := Lib.hid hwz; clear hwz
  go_enter Tryd.func11, Tryd.ntmps11
  go_wp2_with fail
  refine (HSP.out _).mono ?_
  rintro e w1 ⟨v1, rfl, ow⟩
  have BR : Hid (Blk w1 w.heap.size 24 (opC op0 none 0 0).toList) := (Blk.new w 24 z8).mono ow.below
  have GW : Hid (Gr w w1) := (Gr.alloc w _).trans ow.below
  obtain ⟨A, c, rfl, sl⟩ := ow.slice
  obtain ⟨b, o, rfl, hcw⟩ := Ws.addr sl hne
  have SL := Lib.hid sl
  have hcap := sl.cap
  have hmax := sl.max
  clear ow sl hcw
  go_wp2_with fail
  go_loopw [5] (fun i wr => ∃ k : Nat, 1 ≤ k ∧ k ≤ 10 ∧ i = .int .i64 k ∧ Gr w1 wr ∧ ∀ j, 1 ≤ j → j < k → hitQ j ws = none) (fun i _ => 10 - (intOf i).toNat)
  case atStart => exact ⟨1, by omega, by omega, rfl, Gr.refl _, fun j h1 h2 => by omega⟩
  case round =>
    obtain ⟨k, hk1, hk10, rfl, g, hmiss⟩ := hrel
    have G := Lib.hid g; have HM := Lib.hid hmiss; clear g hmiss
    by_cases hlt : k ≤ 9
    · have t1 : decide ((k : Int) ≤ 9) = true := decide_eq_true (by omega)
      have HKK := Lib.hid (HKD.out k wr (by omega))
      have hfl := formS_len k
      have hfw : formW k ≠ [] := formW_ne k hk1 hlt
      have HSG := Lib.hid (signs_all k)
      obtain ⟨x, hx⟩ : ∃ x : ByteArray, x = ⟨(formW k).toArray⟩ := ⟨_, rfl⟩
      obtain ⟨y, hy⟩ : ∃ y : ByteArray, y = ⟨(formS k).toArray⟩ := ⟨_, rfl⟩
      have hxl : x.toList = formW k := by rw [hx, ByteArray.toList_eq]
      have hys : y.size = (formS k).length := by rw [hy]; exact size_of' _
      have HAT := Lib.hid (at_of (formS k) y hy)
      have hxs : strc (formW k) = .string x := by rw [hx]; rfl
      have hyS : strc (formS k) = .string y := by rw [hy]; rfl
      rw [hxs, hyS] at HKK
      obtain ⟨z, hz⟩ : ∃ z : ByteArray, z = ⟨(ws[0]'hne).toArray⟩ := ⟨_, rfl⟩
      have hzl : z.toList = ws.headD [] := by rw [hz, ByteArray.toList_eq, head_at hne]
      have HCZ : Hid (∀ wq, Gr wr wq → wq.cell? ⟨b, o, none⟩ = some (.string z)) := fun wq g => by
        obtain ⟨b', o', e, hc⟩ := Ws.addr (Sl.gr SL.out (G.out.trans g)) hne
        injection e with e
        injection e with e1 e2
        subst e1 e2
        rw [hz]
        exact hc 0 hne
      have HNX : Hid (hitQ k ws = none → ∀ j, 1 ≤ j → j < k + 1 → hitQ j ws = none) := fun h j h1 h2 => by
        rcases Nat.lt_succ_iff_lt_or_eq.1 h2 with h3 | rfl
        · exact HM.out j h1 h3
        · exact h
      have hisf : isForm (ws.headD []) k = (z.toList == x.toList) := by
        unfold isForm
        rw [hzl, hxl, beq_eq_false_iff_ne.2 hfw]
        simp only [Bool.not_false, Bool.and_true]
        rw [Bool.eq_iff_iff, beq_iff_eq, beq_iff_eq]
        exact eq_comm
      have HHK := Lib.hid (fun o h => HHIT.out k o (by omega) h)
      clear hx hy hxl hxs hyS hz hzl HKD
      cases hzx : (z.toList == x.toList) with
      | false =>
        rw [hzx] at hisf
        have HN2 := Lib.hid (HNX.out (by unfold hitQ; rw [if_neg (by rw [hisf]; rintro ⟨h, _⟩; cases h)]))
        go_wp2_with fail
        refine HKK.out.mono ?_
        rintro e w2 ⟨rfl, g2⟩
        have cz := HCZ.out w2 g2
        have G2 := Lib.hid (G.out.trans g2); clear g2
        go_wp2_with fail
        go_roundw
        case rel => exact ⟨k + 1, by omega, by omega, by first | trivial | go_num, G2.out, HN2.out⟩
        case measure =>
          show 10 - ((k : Int) + 1).toNat < 10 - (k : Int).toNat
          omega
      | true =>
        rw [hzx] at hisf
        by_cases hlen : ws.length = y.size + 1
        · have hl2 : ws.length = (formS k).length + 1 := by omega
          have tl : ((ws.length : Int) != (y.size : Int) + 1) = false := by rw [bne_eq_false_iff_eq]; omega
          have HHQ : Hid (hitQ k ws = if (foldQ { op0 with k := (k : Int) } true (formS k) ws.tail).2 = true then some (foldQ { op0 with k := (k : Int) } true (formS k) ws.tail).1 else none) := by
            show _ = _
            unfold hitQ
            rw [if_pos ⟨hisf, hl2⟩]
          go_wp2_with fail
          refine HKK.out.mono ?_
          rintro e w2 ⟨rfl, g2⟩
          have cz := HCZ.out w2 g2
          have G2 := Lib.hid (G.out.trans g2); clear g2
          go_wp2_with fail
          obtain ⟨O, hO⟩ : ∃ O, O = w2.heap.size := ⟨_, rfl⟩
          obtain ⟨wO, hwO⟩ : ∃ wO, wO = w2.alloc (.cells #[.int .i64 (k : Int), .string ⟨#[]⟩, .string ⟨#[]⟩, .int .i64 0, .int .i64 0, .int .i64 0, .int .i64 0, .slice none 0 0] 24) := ⟨_, rfl⟩
          have gO : Gr w2 wO := by rw [hwO]; exact Gr.alloc _ _
          have hOB : Blk wO O 24 (opC { op0 with k := (k : Int) } none 0 0).toList := by rw [hwO, hO]; exact Blk.new w2 _ _
          have HOB := Lib.hid hOB
          have GO := Lib.hid (G2.out.trans gO)
          have SO := Lib.hid (Sl.gr SL.out GO.out)
          have BRO := Lib.hid (BR.out.mono GO.out)
          have hblt : b < O := by
            have := Sl.lt (Sl.gr SL.out G2.out) (by decide) (by omega) rfl
            omega
          have hr0 : w.heap.size < O := by
            have := (BR.out.mono G2.out).lt
            omega
          have gWO := Lib.hid (GW.out.trans GO.out)
          have hO1 : w1.heap.size ≤ O := by have := G2.out.size; omega
          show Code.wp _ _ _ _ (w2.alloc (.cells #[.int .i64 (k : Int), .string ⟨#[]⟩, .string ⟨#[]⟩, .int .i64 0, .int .i64 0, .int .i64 0, .int .i64 0, .slice none 0 0] 24))
          rw [← hwO, ← hO]
          clear hwO hO gO cz hOB tl hzx hisf HCZ
          go_loopw [9, 10] (fun wh i wq => ∃ (j : Nat) (o' : OpD) (bb : Bool), j ≤ y.size ∧ i = .int .i64 j ∧ wh = .bool bb ∧ foldQ { op0 with k := (k : Int) } true (formS k) ws.tail = foldQ o' bb ((formS k).drop j) (ws.tail.drop j) ∧ OpOk o' ∧ (∃ A m c, Blk wq O 24 (opC o' A m c).toList ∧ Bs wq A m c o'.x) ∧ Tch (fun q => q = O) wO wq) (fun _ i _ => y.size - (intOf i).toNat)
          case atStart => exact ⟨0, { op0 with k := (k : Int) }, true, by omega, rfl, rfl, rfl, ⟨⟨by show _ ≤ (k : Int); omega, by show (k : Int) ≤ _; omega⟩, (by decide : -9223372036854775808 ≤ (0 : Int) ∧ (0 : Int) ≤ 9223372036854775807), (by decide : -9223372036854775808 ≤ (0 : Int) ∧ (0 : Int) ≤ 9223372036854775807), (by decide : -9223372036854775808 ≤ (0 : Int) ∧ (0 : Int) ≤ 9223372036854775807), (by decide : -9223372036854775808 ≤ (0 : Int) ∧ (0 : Int) ≤ 9223372036854775807), Nat.zero_le _, Nat.zero_le _, Nat.zero_le _⟩, ⟨none, 0, 0, HOB.out, Sl.nil _ _⟩, Tch.refl _⟩
          case round =>
            obtain ⟨j, o', bb, hj, rfl, rfl, hfold, hok, hop, ht⟩ := hrel
            have HFD := Lib.hid hfold; have HOK := Lib.hid hok; have HT := Lib.hid ht
            obtain ⟨A', m', c', hb', hx'⟩ := hop
            have HB := Lib.hid hb'; have HX := Lib.hid hx'
            clear hfold hok ht hb' hx'
            by_cases hjl : j < y.size
            · have hka : j < (formS k).length := by omega
              have hws : j < ws.tail.length := by rw [List.length_tail]; omega
              have hasc : ((y[j]'hjl).toNat : Int) = ((formS k)[j].toNat : Int) := by
                rw [HAT.out j hjl]; unfold bAt
                simp [List.getD_eq_getElem?_getD, List.getElem?_eq_getElem hka]
              have hsg := HSG.out _ (List.getElem_mem hka)
              have hwk : ws.tail[j] = ws[j + 1]'(by omega) := by rw [List.getElem_tail]
              have SI := Lib.hid (Sl.tch SO.out (by decide) HT.out (fun _ bb oo e h => by injection e with e; injection e with e1 e2; have h : bb = O := h; omega))
              have HCW : Hid (∀ wq, Gr wr wq → wq.cell? ⟨b, o + (j + 1), none⟩ = some (.string ⟨ws.tail[j].toArray⟩)) := fun wq g => by
                obtain ⟨b', q', eb, hcw⟩ := Ws.addr (Sl.gr SI.out g) (by omega)
                injection eb with eb
                injection eb with eb1 eb2
                subst eb1 eb2
                have cw := hcw (j + 1) (by omega)
                rw [← hwk] at cw
                exact cw
              have hwl : ws.tail[j].length ≤ 100000 := HWZ.out _ (List.mem_of_mem_tail (List.getElem_mem hws))
              have HWC : Hid (∀ wq, Gr wr wq → Calls Tryd.prog 35 #[opV o' A' m' c', .int .u8 ((formS k)[j].toNat : Int), strc ws.tail[j]] wq (RetW wq (readD o'.v o' (formS k)[j].toNat ws.tail[j]) (readB (readD o'.v o' (formS k)[j].toNat ws.tail[j]) (formS k)[j].toNat ws.tail[j]))) := fun wq g => with_any o' A' m' c' _ _ wq HOK.out (HX.out.mono g) hwl hsg
              have HOK2 := Lib.hid (readD_ok (d := o'.v) HOK.out HOK.out.v hwl hsg)
              have HFD2 : Hid (foldQ { op0 with k := (k : Int) } true (formS k) ws.tail = foldQ (readD o'.v o' (formS k)[j].toNat ws.tail[j]) (bb && readB (readD o'.v o' (formS k)[j].toNat ws.tail[j]) (formS k)[j].toNat ws.tail[j]) ((formS k).drop (j + 1)) (ws.tail.drop (j + 1))) := by
                show _ = _
                rw [HFD.out, List.drop_eq_getElem_cons hka, List.drop_eq_getElem_cons hws]
                rfl
              have i1 : (j : Int) + 1 < (ws.length : Int) := by omega
              have i0 : (0 : Int) ≤ (j : Int) + 1 := by omega
              have i2 : ((j : Int) + 1).toNat = j + 1 := by omega
              have q1 : IntKind.i64.wrap ((j : Int) + 1) = (j : Int) + 1 := by rw [IntKind.wrap_i64]; omega
              clear hsg hwk hwl
              generalize ws.tail[j] = wd at *
              generalize (formS k)[j].toNat = sg at *
              obtain ⟨wx, hwx⟩ : ∃ wx : ByteArray, strc wd = .string wx := ⟨_, rfl⟩
              rw [show Value.string ⟨wd.toArray⟩ = Value.string wx from hwx] at HCW
              rw [hwx] at HWC
              clear hwx
              generalize readD o'.v o' sg wd = o2 at *
              generalize readB o2 sg wd = b2 at *
              have HC8 := Lib.hid fun wq (g : Gr wr.drew wq) (i : Nat) (v : Value) (h : (opC o' A' m' c').toList[i]? = some v) => ((HB.out.mono ((Gr.drew wr).trans g)).cell i).trans h
              go_wp2_with fail
              refine wp_region_grow (by kernel_rfl) [0, 0, 0, 6, 0, 0, 32, 112, 240, 511, 1023, 2047, 2047, 0, 12287, 32767] [.p 1, .p 2, .p 4, .p 5, .p 6, .p 7, .q 0, .q 3, .q 8, .c 9, .p 10, .p 11, .p 12, .m 13 24 #[.int .i64 0, .string ⟨#[]⟩, .string ⟨#[]⟩, .int .i64 0, .int .i64 0, .int .i64 0, .int .i64 0, .slice none 0 0], .s 14, .p 15] (by kernel_rfl) (⟨fun o ho ρ w => by cases ho; kernel_rfl, trivial⟩) ?_
              refine wpG_pe rfl rfl ?_
              apply Exists.intro
              refine ⟨fun wq => ?_, ?_⟩
              · unfold plainAt
                go_simp
                first | exact rfl | exact ⟨rfl, rfl⟩
              go_simp
              refine wpG_pe rfl rfl ?_
              apply Exists.intro
              refine ⟨fun wq => ?_, ?_⟩
              · unfold plainAt
                go_simp
                first | exact rfl | exact ⟨rfl, rfl⟩
              go_simp
              refine wpG_pe rfl rfl ?_
              apply Exists.intro
              refine ⟨fun wq => ?_, ?_⟩
              · unfold plainAt
                go_simp
                first | exact rfl | exact ⟨rfl, rfl⟩
              go_simp
              refine wpG_pe rfl rfl ?_
              apply Exists.intro
              refine ⟨fun wq => ?_, ?_⟩
              · unfold plainAt
                go_simp
                first | exact rfl | exact ⟨rfl, rfl⟩
              go_simp
              refine wpG_pe rfl rfl ?_
              apply Exists.intro
              refine ⟨fun wq => ?_, ?_⟩
              · unfold plainAt
                go_simp
                first | exact rfl | exact ⟨rfl, rfl⟩
              go_simp
              refine wpG_pe rfl rfl ?_
              apply Exists.intro
              refine ⟨fun wq => ?_, ?_⟩
              · unfold plainAt
                go_simp
                first | exact rfl | exact ⟨rfl, rfl⟩
              go_simp
              refine wpG_qe rfl rfl ?_
              apply Exists.intro
              refine ⟨fun wq hq => ?_, ?_⟩
              · have d0 := HC8.out wq hq 0 _ rfl; have d1 := HC8.out wq hq 1 _ rfl; have d2 := HC8.out wq hq 2 _ rfl; have d3 := HC8.out wq hq 3 _ rfl; have d4 := HC8.out wq hq 4 _ rfl; have d5 := HC8.out wq hq 5 _ rfl; have d6 := HC8.out wq hq 6 _ rfl; have d7 := HC8.out wq hq 7 _ rfl
                unfold plainAt
                go_simp
                first | exact rfl | exact ⟨rfl, rfl⟩
              go_simp
              refine wpG_qe rfl rfl ?_
              apply Exists.intro
              refine ⟨fun wq hq => ?_, ?_⟩
              · skip
                unfold plainAt
                go_simp
                first | exact rfl | exact ⟨rfl, rfl⟩
              go_simp
              refine wpG_qe rfl rfl ?_
              apply Exists.intro
              refine ⟨fun wq hq => ?_, ?_⟩
              · have cw := HCW.out wq ((Gr.drew wr).trans hq)
                unfold plainAt
                go_simp
                first | exact rfl | exact ⟨rfl, rfl⟩
              go_simp
              refine wpG_c rfl rfl ?_
              intro wc gc K hK
              go_simp
              go_at_call 35
              refine (HWC.out wc ((Gr.drew wr).trans gc)).mono ?_
              rintro e wn ⟨A2, m2, c2, rfl, sx, gf⟩
              refine hK _ _ gf ?_; have GF := Lib.hid (((Gr.drew wr).trans gc).trans gf); have SX := Lib.hid sx; clear gc gf hK sx
              go_simp
              refine wpG_pe rfl rfl ?_
              apply Exists.intro
              refine ⟨fun wq => ?_, ?_⟩
              · unfold plainAt
                go_simp
                first | exact rfl | exact ⟨rfl, rfl⟩
              go_simp
              refine wpG_pe rfl rfl ?_
              apply Exists.intro
              refine ⟨fun wq => ?_, ?_⟩
              · unfold plainAt
                go_simp
                first | exact rfl | exact ⟨rfl, rfl⟩
              go_simp
              refine wpG_pe rfl rfl ?_
              apply Exists.intro
              refine ⟨fun wq => ?_, ?_⟩
              · unfold plainAt
                go_simp
                first | exact rfl | exact ⟨rfl, rfl⟩
              go_simp
              refine wpG_m rfl rfl ?_
              intro w11 bn g11 hbn hblk hI
              go_simp
              refine wpG_s rfl rfl ?_
              intro w12 g12 K hK
              refine wp_store_row 24 (.tmp 11) (.tmp 56) rfl bn (opC o2 A2 m2 c2) rfl rfl 24 #[.int .i64 0, .string ⟨#[]⟩, .string ⟨#[]⟩, .int .i64 0, .int .i64 0, .int .i64 0, .int .i64 0, .slice none 0 0] (g12.blk hblk) opSize rfl (opOne _ _ _ _) ?_
              refine hK _ _ ?_
              clear hK
              obtain ⟨wt, hwt⟩ : ∃ wt, wt = w12.setRow bn (opC o2 A2 m2 c2) := ⟨_, rfl⟩
              have HNT : Hid (wt.heap[bn]? = some (.cells (opC o2 A2 m2 c2) 24 (0, 0))) := by rw [hwt]; exact setRow_heap w12 bn _ _ _ _ (g12.blk hblk)
              have g1x : Gr wr w12 := (GF.out.trans g11).trans g12
              have GWT : Hid (Gr wr wt) := by rw [hwt]; exact below_row39 g1x hbn _
              have SXT : Hid (Bs wt A2 m2 c2 o2.x) := by rw [hwt]; exact bs_row (SX.out.mono (g11.trans g12)) (g12.blk hblk) _
              go_simp
              rw [← hwt]
              clear hwt g1x hblk hI g11 g12
              refine wpG_pe rfl rfl ?_
              apply Exists.intro
              refine ⟨fun wq => ?_, ?_⟩
              · unfold plainAt
                go_simp
                first | exact rfl | exact ⟨rfl, rfl⟩
              go_simp
              refine wpG_nil ?_
              intro we ge
              have HNE : Hid (we.heap[bn]? = some (.cells (opC o2 A2 m2 c2) 24 (0, 0))) := (ge.block _ (Array.getElem?_eq_some_iff.1 HNT.out).1).trans HNT.out
              have SXE := Lib.hid (SXT.out.mono ge)
              have GWE := Lib.hid (GWT.out.trans ge)
              have BOE := Lib.hid (HB.out.mono GWE.out)
              clear ge
              cases bb with
              | true =>
                go_wp2_with (first
                  | (refine wpList_load_row rfl 24 (.tmp 11) rfl bn rfl 24 (opC o2 A2 m2 c2) (0, 0) _ HNE.out Tryd.underlying24 rfl opSize ?_)
                  | (refine wpList_store_row rfl 24 (.tmp 8) (.tmp 58) rfl O (opC o2 A2 m2 c2) rfl rfl 24 (opC o' A' m' c') BOE.out opSize rfl (opOne _ _ _ _) ?_))
                go_roundw
                case rel => exact ⟨j + 1, o2, true && b2, by omega, by first | trivial | go_num, rfl, HFD2.out, HOK2.out, ⟨A2, m2, c2, setRow_heap we O _ _ _ _ BOE.out, bs_rowG SXE.out BOE.out _⟩, (HT.out.trans (Tch.gr GWE.out)).trans (Tch.row we O _ rfl)⟩
                case measure =>
                  show y.size - ((j : Int) + 1).toNat < y.size - (j : Int).toNat
                  omega
              | false =>
                go_wp2_with (first
                  | (refine wpList_load_row rfl 24 (.tmp 11) rfl bn rfl 24 (opC o2 A2 m2 c2) (0, 0) _ HNE.out Tryd.underlying24 rfl opSize ?_)
                  | (refine wpList_store_row rfl 24 (.tmp 8) (.tmp 58) rfl O (opC o2 A2 m2 c2) rfl rfl 24 (opC o' A' m' c') BOE.out opSize rfl (opOne _ _ _ _) ?_))
                go_roundw
                case rel => exact ⟨j + 1, o2, false && b2, by omega, by first | trivial | go_num, rfl, HFD2.out, HOK2.out, ⟨A2, m2, c2, setRow_heap we O _ _ _ _ BOE.out, bs_rowG SXE.out BOE.out _⟩, (HT.out.trans (Tch.gr GWE.out)).trans (Tch.row we O _ rfl)⟩
                case measure =>
                  show y.size - ((j : Int) + 1).toNat < y.size - (j : Int).toNat
                  omega
            · obtain rfl : j = y.size := by omega
              have HE : Hid (foldQ { op0 with k := (k : Int) } true (formS k) ws.tail = (o', bb)) := by
                show _ = _
                rw [HFD.out, List.drop_of_length_le (by omega : (formS k).length ≤ y.size)]
                rfl
              cases bb with
              | true =>
                have HF : Hid (r = (o', 0)) := HHK.out o' (by rw [HHQ.out, HE.out]; rfl)
                have BR7 : Hid (Blk wr w.heap.size 24 (opC op0 none 0 0).toList) := BRO.out.tch HT.out (fun e => by have e : w.heap.size = O := e; omega)
                have GW7 : Hid (Gr w wr) := Tch.below gWO.out HT.out gWO.out.size (fun q e => by have e : q = O := e; omega)
                go_wp2_with (first
                  | (refine wpList_load_row rfl 24 (.tmp 8) rfl O rfl 24 (opC o' A' m' c') (0, 0) _ HB.out Tryd.underlying24 rfl opSize ?_)
                  | (refine wpList_store_row rfl 24 (.tmp 2) (.tmp 64) rfl w.heap.size (opC o' A' m' c') rfl rfl 24 (opC op0 none 0 0) BR7.out opSize rfl (opOne _ _ _ _) ?_))
                have HN := setRow_heap wr w.heap.size _ (opC o' A' m' c') _ _ BR7.out
                have G8 : Gr w (wr.setRow w.heap.size (opC o' A' m' c')) := below_row39 GW7.out (Nat.le_refl _) _
                rw [HF.out]
                exact bodyPost_ret (results_op Tryd.results11 _ _ w.heap.size _ _ rfl HN rfl) rfl ⟨A', m', c', rfl, bs_row HX.out BR7.out _, G8⟩
              | false =>
                have HN2 := Lib.hid (HNX.out (by rw [HHQ.out, HE.out]; rfl))
                have G7 : Hid (Gr w1 wr) := Tch.below GO.out HT.out GO.out.size (fun q e => by have e : q = O := e; omega)
                go_wp2_with fail
                go_roundw
                case rel => exact ⟨k + 1, by omega, by omega, by first | trivial | go_num, G7.out, HN2.out⟩
                case measure =>
                  show 10 - ((k : Int) + 1).toNat < 10 - (k : Int).toNat
                  omega
        · have tl : ((ws.length : Int) != (y.size : Int) + 1) = true := by rw [bne_iff_ne]; omega
          have HN2 := Lib.hid (HNX.out (by unfold hitQ; rw [if_neg (by rintro ⟨_, h⟩; omega)]))
          go_wp2_with fail
          refine HKK.out.mono ?_
          rintro e w2 ⟨rfl, g2⟩
          have cz := HCZ.out w2 g2
          have G2 := Lib.hid (G.out.trans g2); clear g2
          go_wp2_with fail
          go_roundw
          case rel => exact ⟨k + 1, by omega, by omega, by first | trivial | go_num, G2.out, HN2.out⟩
          case measure =>
            show 10 - ((k : Int) + 1).toNat < 10 - (k : Int).toNat
            omega
    · obtain rfl : k = 10 := by omega
      have t1 : decide (((10 : Nat) : Int) ≤ 9) = false := by decide
      have HF : Hid (r = (op0, 3)) := HMISS.out (fun j h1 h2 => HM.out j h1 h2)
      have BRw := BR.out.mono G.out
      go_wp2_with (refine wpList_store_row rfl 24 (.tmp 2) (.tmp 65) rfl w.heap.size (opC op0 none 0 0) rfl rfl 24 (opC op0 none 0 0) BRw opSize rfl (opOne _ _ _ _) ?_)
      have HN := setRow_heap wr w.heap.size _ (opC op0 none 0 0) _ _ BRw
      have G6 : Gr w (wr.setRow w.heap.size (opC op0 none 0 0)) := below_row39 (GW.out.trans G.out) (Nat.le_refl _) _
      rw [HF.out]
      exact bodyPost_ret (results_op Tryd.results11 _ _ w.heap.size _ _ rfl HN rfl) rfl ⟨none, 0, 0, rfl, Sl.nil _ _, G6⟩
end Go.Proofs.YtadenlhnfkccaaaDoor
