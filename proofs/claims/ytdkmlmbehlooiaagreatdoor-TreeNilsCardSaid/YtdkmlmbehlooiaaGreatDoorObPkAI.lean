/- Own texts, one behind the other. No condition. -/
import Derived.Test.YtdkmlmbehlooiaaGreatDoorObPkAH
set_option linter.unusedVariables false
set_option linter.unusedSimpArgs false
namespace Go.Proofs.YtdkmlmbehlooiaaGreatDoor
section
open Go.RowKit Go.Maps
def SumM (w : World) (bs : Nat) (S : List (List UInt8)) : Prop := ∃ D : DataW Value, Tidy D ∧ Maps.size D = S.length ∧ (∀ b : List UInt8, has D (.string b) = (numL S b).isSome) ∧ (∀ b : List UInt8, D.atKey (.string b) (.held (.int .i64 0)) = .held (.int .i64 (((numL S b).getD 0 : Nat) : Int))) ∧ w.ownsMap Tryz.prog 9 Rv bs S.length D
theorem SumM.nil {w : World} {bs : Nat} (h : w.heap[bs]? = some (.map #[] 0)) : SumM w bs [] :=
 ⟨.map [], tidy_empty, rfl, fun b => rfl, fun b => rfl, #[], 0, h, ⟨by simp, MapKept.stamped_empty 0, by simp⟩, Nat.le_refl _, rfl⟩
theorem SumM.keep {w w' : World} {bs : Nat} {S : List (List UInt8)} (h : SumM w bs S) (e : w'.heap[bs]? = w.heap[bs]?) : SumM w' bs S := by
 obtain ⟨D, h1, h2, h3, h4, es, clock, hb, hr⟩ := h
 exact ⟨D, h1, h2, h3, h4, es, clock, e.trans hb, hr⟩
theorem SumM.map {w : World} {bs : Nat} {S : List (List UInt8)} (h : SumM w bs S) : ∃ es clock, w.heap[bs]? = some (.map es clock) := by
 obtain ⟨D, h1, h2, h3, h4, es, clock, hb, hr⟩ := h
 exact ⟨es, clock, hb⟩
theorem SumM.lt {w : World} {bs : Nat} {S : List (List UInt8)} (h : SumM w bs S) : bs < w.heap.size := by
 obtain ⟨es, clock, hb⟩ := h.map
 exact (Array.getElem?_eq_some_iff.1 hb).1
theorem SumM.not_blk {w : World} {bs : Nat} {S : List (List UInt8)} (h : SumM w bs S) (t : TypeId) (cs : List Value) : ¬ Blk w bs t cs := fun k => by
 obtain ⟨es, clock, hb⟩ := h.map
 unfold Blk at k
 rw [k] at hb
 cases hb
theorem SumM.gr {w w' : World} {bs : Nat} {S : List (List UInt8)} (h : SumM w bs S) (g : Gr w w') : SumM w' bs S := h.keep (g.block bs h.lt)
theorem SumM.kz {w w' : World} {bs bm : Nat} {S : List (List UInt8)} (h : SumM w bs S) (hn : bs ≠ bm) (k : KZ bm w w') : SumM w' bs S := h.keep (k.2 bs h.lt hn (fun t cs q => absurd q (h.not_blk t cs)))
theorem numL_app {S : List (List UInt8)} {b : List UInt8} (h : numL S b = none) (c : List UInt8) : numL (S ++ [b]) c = if c = b then some S.length else numL S c := by
 by_cases e : c = b
 · subst e; rw [if_pos rfl, numL_push h]
 · rw [if_neg e]
   unfold numL
   rw [List.findIdx?_append]
   have e1 : ([b] : List (List UInt8)).findIdx? (fun l => l == c) = none := by
    rw [List.findIdx?_eq_none_iff]
    intro x hx
    rw [List.mem_singleton] at hx
    subst hx
    rw [beq_eq_false_iff_ne]
    exact fun q => e q.symm
   rw [e1]
   cases S.findIdx? (fun l => l == c) <;> rfl
theorem SumM.put {w : World} {S : List (List UInt8)} {D : DataW Value} {b : List UInt8} {bs : Nat} (h1 : Tidy D) (h2 : Maps.size D = S.length) (h3 : ∀ c : List UInt8, has D (.string c) = (numL S c).isSome) (h4 : ∀ c : List UInt8, D.atKey (.string c) (.held (.int .i64 0)) = .held (.int .i64 (((numL S c).getD 0 : Nat) : Int))) (hb : numL S b = none)
 (ho : w.ownsMap Tryz.prog 9 Rv bs (S.length + 1) (D.put (.string b) (.held (.int .i64 (S.length : Int))))) : SumM w bs (S ++ [b]) := by
 have hk : WideAt.IsKeyLit (Lit.string b) := trivial
 refine ⟨D.put (.string b) (.held (.int .i64 (S.length : Int))), h1.put hk _, ?_, fun c => ?_, fun c => ?_, ?_⟩
 · rw [size_put h1, h3 b, hb, List.length_append, h2]
   rfl
 · rw [numL_app hb]
   by_cases e : c = b
   · subst e
     rw [if_pos rfl, has_put_same h1.isMap hk]
     rfl
   · rw [if_neg e, has_put_other (by intro q; injection q with q; exact e q), h3 c]
 · rw [numL_app hb]
   by_cases e : c = b
   · subst e
     rw [if_pos rfl]
     exact atKey_put_same h1.isMap hk _ _
   · rw [if_neg e, ← h4 c]
     exact atKey_put_other (by intro q; injection q with q; exact e q) _ _
 · rw [List.length_append]
   exact ho
set_option maxRecDepth 100000 in
set_option maxHeartbeats 1000000 in
theorem mark_any (n : Nat) (w : World) (hn : n ≤ 1000) : Calls Tryz.prog 213 #[.int .i64 (n : Int)] w (RetBs w (markL n)) := by
 have e1 : putS (n : Int) 6 = be n 6 := by unfold putS; rw [if_pos (by decide)]; rfl
 have hb6 : (be n 6).length = 6 := be_length 6 n
 have HP := Lib.hid (put_any (n : Int) 6 (w.alloc markO) (by omega) (by omega))
 rw [e1] at HP
 have HM := Lib.hid (mark_sl w)
 have HG := Lib.hid (Gr.alloc w markO)
 have hcv := fun (W : World) (C : Array Value) (n c : Nat) => Lib.run_convert_bytes_const (P := Tryz.prog) W 36 5 C n c Tryz.underlying36 Tryz.underlying5
 have hwr : IntKind.u64.wrap (n : Int) = n := IntWalk.u64_in _ (by omega)
 clear e1
 go_enter Tryz.func213, Tryz.ntmps213
 go_wp2_with fail
 refine HP.out.mono ?_
 rintro e w1 ⟨v1, rfl, o1⟩
 rw [hb6] at o1
 have G1 : Hid (Gr (w.alloc markO) w1) := o1.below
 have M1 := Lib.hid (HM.out.mono o1.below)
 obtain ⟨A1, c1, rfl, s1⟩ := o1.slice
 have S1 : Hid (Sl w1 A1 6 c1 1 ((be n 6).map u8c)) := s1
 clear o1 s1
 go_wp2_with (at_builtin; refine wpList_catFull rfl (.tmp 4) (.tmp 7) 36 rfl tBytes rfl M1.out (by omega) rfl S1.out (by omega) (by omega) (by omega) ?_; intro v2 w2 own2; rw [← List.map_append] at own2; have O2 := Lib.hid own2; clear own2)
 go_ret
 exact ⟨_, rfl, by rw [markL_len]; exact O2.out.base (Gr.trans HG.out G1.out)⟩
section
variable {w0 w : World} {p g bs : Nat}
set_option maxRecDepth 100000 in
set_option maxHeartbeats 2000000 in
theorem sum_many {S : List (List UInt8)} (hb : Blk w p 61 [.pointer (some ⟨g, 0, none⟩), .map (some bs), .pointer none]) (hm : SumM w bs S) (hS : S.length ≤ 900) (A : Option Addr) (n c : Nat) (text : List UInt8) (ht : Bs w A n c text) :
 Calls Tryz.prog 154 #[.pointer (some ⟨p, 0, none⟩), .slice A n c] w fun e w' =>
  ∃ A' c', e = .returned (.slice A' 8 c') ∧ Bs w' A' 8 c' (markL (sumI S text)) ∧ SumM w' bs (sumS S text) ∧ Tch (fun b => b = bs) w w' := by
 have hl : text.length = n := by have := ht.len; simpa using this
 have hcp := ht.cap; have hmx := ht.max
 have HN := Lib.hid (sui_none hb); have HR := Lib.hid (sui_real hb)
 have c1 : w.cell? ⟨p, 1, none⟩ = some (.map (some bs)) := (hb.cell 1).trans rfl
 have hkey := keyS (s := ⟨text.toArray⟩) (by show text.length ≤ _; simp only [maxLen]; omega)
 have hpbs : p ≠ bs := fun e => by subst e; exact hm.not_blk _ _ hb
 have HMM := Lib.hid hm
 have HTX := Lib.hid ht; have HBL := Lib.hid hb
 have hc5 := run_bytes_string Tryz.underlying36 Tryz.underlying5 Tryz.underlying9 (ht.mono (Gr.drew w))
 clear hb ht
 cases hnl : numL S text with
 | some i =>
  have hi : i < S.length := numL_lt hnl
  have HSI : Hid (sumI S text = i) := by show _ = _; unfold sumI; rw [hnl]
  have HSS : Hid (sumS S text = S) := by show _ = _; unfold sumS; rw [hnl]
  obtain ⟨D, hti, hsz, hhas0, hat, hown⟩ := hm
  obtain ⟨v5, ps5, hlook, hRv⟩ := (ownsMap_drew hown).look_ok keyedS Tryz.underlying56 (z := .int .i64 0) (by kernel_rfl) (zd := .held (.int .i64 0)) (zp := []) rfl hkey
  have hv5 : v5 = .int .i64 (((numL S text).getD 0 : Nat) : Int) := by
   unfold Rv at hRv
   injection hRv with hRv
   injection hRv with h1 h2
   have h3 : D.atKey (.string (⟨text.toArray⟩ : ByteArray).data.toList) (.held (.int .i64 0)) = .held (.int .i64 (((numL S text).getD 0 : Nat) : Int)) := hat text
   rw [h3] at h1
   injection h1
  subst hv5
  have hhas : has D (.string (⟨text.toArray⟩ : ByteArray).data.toList) = (numL S text).isSome := hhas0 text
  rw [hhas] at hlook
  rw [hnl] at hlook
  simp only [Option.isSome_some, Option.getD_some] at hlook
  have HMK := Lib.hid (fun W => mark_any i W (by omega))
  clear hnl hsz hhas0 hat hown hti hhas hRv
  go_enter Tryz.func154, Tryz.ntmps154
  go_wp2_with fail
  refine HN.out.mono ?_
  rintro e w1 ⟨rfl, h1⟩
  subst h1
  go_wp2_with fail
  refine HR.out.mono ?_
  rintro e w1 ⟨rfl, h1⟩
  subst h1
  go_upto_region 5 with fail
  refine wrP (by kernel_rfl) (fun w' => w' = w.drew) (fun i => i == 4 || i == 6 || i == 7) (fun _ => false) [0, 1, 2, 3, 5, 4, 6, 7, 8, 9, 10, 11, 12] 0 (by kernel_rfl) (by kernel_rfl) (by kernel_rfl) rfl ?_
  iterate 5
   refine wpPre_e rfl rfl ?_
   apply Exists.intro
   refine ⟨fun wq hq => ?_, ?_⟩
   · clear hq
     unfold pLa
     go_simp
     first | exact rfl | exact ⟨rfl, rfl⟩
   go_simp
  iterate 3
   refine wpPre_e rfl rfl ?_
   apply Exists.intro
   refine ⟨fun wq hq => ?_, ?_⟩
   · replace hq := hq rfl
     subst hq
     unfold pLa
     go_simp
     first | exact rfl | exact ⟨rfl, rfl⟩
   go_simp
  iterate 5
   refine wpPre_e rfl rfl ?_
   apply Exists.intro
   refine ⟨fun wq hq => ?_, ?_⟩
   · clear hq
     unfold pLa
     go_simp
     first | exact rfl | exact ⟨rfl, rfl⟩
   go_simp
  refine wpPre_nil ?_
  refine wpRest_nil (by kernel_rfl) ?_
  clear hlook hc5
  go_wp2_with fail
  refine (HMK.out _).mono ?_
  rintro e w9 ⟨v9, rfl, o9⟩
  rw [markL_len] at o9
  obtain ⟨A9, c9, rfl, s9⟩ := o9.slice
  have HF : Hid (Bs w9 A9 8 c9 (markL i) ∧ SumM w9 bs S ∧ Tch (fun b => b = bs) w w9) := ⟨s9, HMM.out.gr ((Gr.drew w).trans o9.below), Tch.gr ((Gr.drew w).trans o9.below)⟩
  clear o9 s9
  go_wp2_with fail
  go_ret
  exact ⟨_, _, rfl, by rw [HSI.out]; exact HF.out.1, by rw [HSS.out]; exact HF.out.2.1, HF.out.2.2⟩
 | none =>
  have HSI : Hid (sumI S text = S.length) := by show _ = _; unfold sumI; rw [hnl]
  have HSS : Hid (sumS S text = S ++ [text]) := by show _ = _; unfold sumS; rw [hnl]
  obtain ⟨D, hti, hsz, hhas0, hat, hown⟩ := hm
  obtain ⟨v5, ps5, hlook, hRv⟩ := (ownsMap_drew hown).look_ok keyedS Tryz.underlying56 (z := .int .i64 0) (by kernel_rfl) (zd := .held (.int .i64 0)) (zp := []) rfl hkey
  have hv5 : v5 = .int .i64 (((numL S text).getD 0 : Nat) : Int) := by
   unfold Rv at hRv
   injection hRv with hRv
   injection hRv with h1 h2
   have h3 : D.atKey (.string (⟨text.toArray⟩ : ByteArray).data.toList) (.held (.int .i64 0)) = .held (.int .i64 (((numL S text).getD 0 : Nat) : Int)) := hat text
   rw [h3] at h1
   injection h1
  subst hv5
  have hhas : has D (.string (⟨text.toArray⟩ : ByteArray).data.toList) = (numL S text).isSome := hhas0 text
  rw [hhas] at hlook
  rw [hnl] at hlook
  simp only [Option.isSome_none, Option.getD_none] at hlook
  have HMK := Lib.hid (fun W => mark_any S.length W (by omega))
  have HOW := Lib.hid hown
  have HPU := Lib.hid (fun w' => SumM.put (w := w') (bs := bs) hti hsz hhas0 hat hnl)
  have HSZ := Lib.hid hsz
  clear hnl hsz hhas0 hat hown hti hhas hRv
  go_enter Tryz.func154, Tryz.ntmps154
  go_wp2_with fail
  refine HN.out.mono ?_
  rintro e w1 ⟨rfl, h1⟩
  subst h1
  go_wp2_with fail
  refine HR.out.mono ?_
  rintro e w1 ⟨rfl, h1⟩
  subst h1
  go_upto_region 5 with fail
  refine wrP (by kernel_rfl) (fun w' => w' = w.drew) (fun i => i == 4 || i == 6 || i == 7) (fun _ => false) [0, 1, 2, 3, 5, 4, 6, 7, 8, 9, 10, 11, 12] 0 (by kernel_rfl) (by kernel_rfl) (by kernel_rfl) rfl ?_
  iterate 5
   refine wpPre_e rfl rfl ?_
   apply Exists.intro
   refine ⟨fun wq hq => ?_, ?_⟩
   · clear hq
     unfold pLa
     go_simp
     first | exact rfl | exact ⟨rfl, rfl⟩
   go_simp
  iterate 3
   refine wpPre_e rfl rfl ?_
   apply Exists.intro
   refine ⟨fun wq hq => ?_, ?_⟩
   · replace hq := hq rfl
     subst hq
     unfold pLa
     go_simp
     first | exact rfl | exact ⟨rfl, rfl⟩
   go_simp
  iterate 5
   refine wpPre_e rfl rfl ?_
   apply Exists.intro
   refine ⟨fun wq hq => ?_, ?_⟩
   · clear hq
     unfold pLa
     go_simp
     first | exact rfl | exact ⟨rfl, rfl⟩
   go_simp
  refine wpPre_nil ?_
  refine wpRest_nil (by kernel_rfl) ?_
  have hlen := (ownsMap_drew HOW.out).len (t := 56) (e := 3) Tryz.underlying56 3
  rw [HSZ.out] at hlen
  have d1 : w.drew.cell? ⟨p, 1, none⟩ = some (.map (some bs)) := c1
  have d2 : w.drew.drew.cell? ⟨p, 1, none⟩ = some (.map (some bs)) := c1
  have hc8 := run_bytes_string Tryz.underlying36 Tryz.underlying5 Tryz.underlying9 (HTX.out.mono ((Gr.drew w).trans (Gr.drew _)))
  obtain ⟨w8, hrun8, own8, gr8⟩ := (ownsMap_drew (ownsMap_drew HOW.out)).update keyedS Tryz.underlying56 (by unfold maxLen; omega) hkey (val := .int .i64 (S.length : Int)) (d := .held (.int .i64 (S.length : Int))) (ps := []) rfl
  have T8 : Tch (fun b => b = bs) w w8 := (Tch.gr ((Gr.drew w).trans (Gr.drew _))).trans (Tch.grown gr8 (fun b e => by injection e with e; exact e.symm))
  have HT8 := Lib.hid T8
  have HO8 := Lib.hid (HPU.out w8 own8)
  clear hlook hc5 own8 gr8 T8
  go_upto_region 8 with fail
  refine wrP (by kernel_rfl) (fun w' => w' = w.drew.drew) (fun i => i == 4 || i == 6) (fun i => i == 8) [0, 1, 2, 3, 5, 7, 4, 6] 1 (by kernel_rfl) (by kernel_rfl) (by kernel_rfl) rfl ?_
  iterate 6
   refine wpPre_e rfl rfl ?_
   apply Exists.intro
   refine ⟨fun wq hq => ?_, ?_⟩
   · clear hq
     unfold pLa
     go_simp
     first | exact rfl | exact ⟨rfl, rfl⟩
   go_simp
  iterate 2
   refine wpPre_e rfl rfl ?_
   apply Exists.intro
   refine ⟨fun wq hq => ?_, ?_⟩
   · replace hq := hq rfl
     subst hq
     unfold pLa
     go_simp
     first | exact rfl | exact ⟨rfl, rfl⟩
   go_simp
  refine wpPre_nil ?_
  refine wR1 (i := 8) (by kernel_rfl) rfl rfl ?_
  intro K hK
  refine wp_mapUpd (w1 := w8) rfl (by exact hrun8) ?_
  refine hK _ _ (fun h => absurd h (by decide)) ?_
  clear hK
  go_simp
  refine wpRest_nil (by kernel_rfl) ?_
  go_wp2_with fail
  refine (HMK.out w8).mono ?_
  rintro e w9 ⟨v9, rfl, o9⟩
  rw [markL_len] at o9
  obtain ⟨A9, c9, rfl, s9⟩ := o9.slice
  have HF : Hid (Bs w9 A9 8 c9 (markL S.length) ∧ SumM w9 bs (S ++ [text]) ∧ Tch (fun b => b = bs) w w9) := ⟨s9, HO8.out.gr o9.below, HT8.out.trans (Tch.gr o9.below)⟩
  clear o9 s9
  go_wp2_with fail
  go_ret
  exact ⟨_, _, rfl, by rw [HSI.out]; exact HF.out.1, by rw [HSS.out]; exact HF.out.2.1, HF.out.2.2⟩
set_option maxRecDepth 100000 in
set_option maxHeartbeats 2000000 in
theorem check_many {S : List (List UInt8)} (hb : Blk w p 61 [.pointer (some ⟨g, 0, none⟩), .map (some bs), .pointer none]) (hm : SumM w bs S) (hS : S.length ≤ 900) (A B : Option Addr) (n c m d : Nat) (text s : List UInt8) (ht : Bs w A n c text) (hs : Bs w B m d s) :
 Calls Tryz.prog 206 #[.pointer (some ⟨p, 0, none⟩), .slice A n c, .slice B m d] w fun e w' => e = .returned (.bool (checkS S text s)) ∧ Gr w w' := by
 have hl : text.length = n := by have := ht.len; simpa using this
 have hcp := ht.cap; have hmx := ht.max
 have HN := Lib.hid (sui_none hb); have HR := Lib.hid (sui_real hb)
 have c1 : w.cell? ⟨p, 1, none⟩ = some (.map (some bs)) := (hb.cell 1).trans rfl
 have hkey := keyS (s := ⟨text.toArray⟩) (by show text.length ≤ _; simp only [maxLen]; omega)
 have HSX := Lib.hid hs
 have hc5 := run_bytes_string Tryz.underlying36 Tryz.underlying5 Tryz.underlying9 (ht.mono (Gr.drew w))
 clear hb ht hs
 obtain ⟨r, hr⟩ : ∃ r, r = checkS S text s := ⟨_, rfl⟩
 rw [← hr]
 unfold checkS at hr
 cases hnl : numL S text with
 | some i =>
  have hi : i < S.length := numL_lt hnl
  rw [hnl] at hr
  simp only at hr
  have HRR := Lib.hid hr
  obtain ⟨D, hti, hsz, hhas0, hat, hown⟩ := hm
  obtain ⟨v5, ps5, hlook, hRv⟩ := (ownsMap_drew hown).look_ok keyedS Tryz.underlying56 (z := .int .i64 0) (by kernel_rfl) (zd := .held (.int .i64 0)) (zp := []) rfl hkey
  have hv5 : v5 = .int .i64 (((numL S text).getD 0 : Nat) : Int) := by
   unfold Rv at hRv
   injection hRv with hRv
   injection hRv with h1 h2
   have h3 : D.atKey (.string (⟨text.toArray⟩ : ByteArray).data.toList) (.held (.int .i64 0)) = .held (.int .i64 (((numL S text).getD 0 : Nat) : Int)) := hat text
   rw [h3] at h1
   injection h1
  subst hv5
  have hhas : has D (.string (⟨text.toArray⟩ : ByteArray).data.toList) = (numL S text).isSome := hhas0 text
  rw [hhas] at hlook
  rw [hnl] at hlook
  simp only [Option.isSome_some, Option.getD_some] at hlook
  have HMK := Lib.hid (fun W => mark_any i W (by omega))
  clear hnl hsz hhas0 hat hown hti hhas hRv hr
  go_enter Tryz.func206, Tryz.ntmps206
  go_wp2_with fail
  refine HN.out.mono ?_
  rintro e w1 ⟨rfl, h1⟩
  subst h1
  go_wp2_with fail
  refine HR.out.mono ?_
  rintro e w1 ⟨rfl, h1⟩
  subst h1
  go_upto_region 5 with fail
  refine wrP (by kernel_rfl) (fun w' => w' = w.drew) (fun i => i == 4 || i == 6 || i == 7) (fun _ => false) [0, 1, 2, 3, 5, 4, 6, 7, 8, 9, 10, 11, 12] 0 (by kernel_rfl) (by kernel_rfl) (by kernel_rfl) rfl ?_
  iterate 5
   refine wpPre_e rfl rfl ?_
   apply Exists.intro
   refine ⟨fun wq hq => ?_, ?_⟩
   · clear hq
     unfold pLa
     go_simp
     first | exact rfl | exact ⟨rfl, rfl⟩
   go_simp
  iterate 3
   refine wpPre_e rfl rfl ?_
   apply Exists.intro
   refine ⟨fun wq hq => ?_, ?_⟩
   · replace hq := hq rfl
     subst hq
     unfold pLa
     go_simp
     first | exact rfl | exact ⟨rfl, rfl⟩
   go_simp
  iterate 5
   refine wpPre_e rfl rfl ?_
   apply Exists.intro
   refine ⟨fun wq hq => ?_, ?_⟩
   · clear hq
     unfold pLa
     go_simp
     first | exact rfl | exact ⟨rfl, rfl⟩
   go_simp
  refine wpPre_nil ?_
  refine wpRest_nil (by kernel_rfl) ?_
  clear hlook hc5
  go_wp2_with fail
  refine (HMK.out _).mono ?_
  rintro e w9 ⟨v9, rfl, o9⟩
  rw [markL_len] at o9
  obtain ⟨A9, c9, rfl, s9⟩ := o9.slice
  have G9 : Hid (Gr w w9) := Gr.trans (Gr.drew w) o9.below
  have HSM := Lib.hid (same_any A9 B 8 m c9 d (markL i) s w9 s9 (HSX.out.mono G9.out))
  rw [← HRR.out] at HSM
  clear o9 s9
  go_wp2_with fail
  refine HSM.out.mono ?_
  rintro e w10 ⟨rfl, h10⟩
  subst h10
  go_wp2_with fail
  go_ret
  exact ⟨rfl, G9.out⟩
 | none =>
  rw [hnl] at hr
  simp only at hr
  have HRR := Lib.hid hr
  obtain ⟨D, hti, hsz, hhas0, hat, hown⟩ := hm
  obtain ⟨v5, ps5, hlook, hRv⟩ := (ownsMap_drew hown).look_ok keyedS Tryz.underlying56 (z := .int .i64 0) (by kernel_rfl) (zd := .held (.int .i64 0)) (zp := []) rfl hkey
  have hv5 : v5 = .int .i64 (((numL S text).getD 0 : Nat) : Int) := by
   unfold Rv at hRv
   injection hRv with hRv
   injection hRv with h1 h2
   have h3 : D.atKey (.string (⟨text.toArray⟩ : ByteArray).data.toList) (.held (.int .i64 0)) = .held (.int .i64 (((numL S text).getD 0 : Nat) : Int)) := hat text
   rw [h3] at h1
   injection h1
  subst hv5
  have hhas : has D (.string (⟨text.toArray⟩ : ByteArray).data.toList) = (numL S text).isSome := hhas0 text
  rw [hhas] at hlook
  rw [hnl] at hlook
  simp only [Option.isSome_none, Option.getD_none] at hlook
  clear hnl hsz hhas0 hat hown hti hhas hRv
  subst hr
  go_enter Tryz.func206, Tryz.ntmps206
  go_wp2_with fail
  refine HN.out.mono ?_
  rintro e w1 ⟨rfl, h1⟩
  subst h1
  go_wp2_with fail
  refine HR.out.mono ?_
  rintro e w1 ⟨rfl, h1⟩
  subst h1
  go_upto_region 5 with fail
  refine wrP (by kernel_rfl) (fun w' => w' = w.drew) (fun i => i == 4 || i == 6 || i == 7) (fun _ => false) [0, 1, 2, 3, 5, 4, 6, 7, 8, 9, 10, 11, 12] 0 (by kernel_rfl) (by kernel_rfl) (by kernel_rfl) rfl ?_
  iterate 5
   refine wpPre_e rfl rfl ?_
   apply Exists.intro
   refine ⟨fun wq hq => ?_, ?_⟩
   · clear hq
     unfold pLa
     go_simp
     first | exact rfl | exact ⟨rfl, rfl⟩
   go_simp
  iterate 3
   refine wpPre_e rfl rfl ?_
   apply Exists.intro
   refine ⟨fun wq hq => ?_, ?_⟩
   · replace hq := hq rfl
     subst hq
     unfold pLa
     go_simp
     first | exact rfl | exact ⟨rfl, rfl⟩
   go_simp
  iterate 5
   refine wpPre_e rfl rfl ?_
   apply Exists.intro
   refine ⟨fun wq hq => ?_, ?_⟩
   · clear hq
     unfold pLa
     go_simp
     first | exact rfl | exact ⟨rfl, rfl⟩
   go_simp
  refine wpPre_nil ?_
  refine wpRest_nil (by kernel_rfl) ?_
  clear hlook hc5
  go_wp2_with fail
  go_ret
  exact ⟨rfl, Gr.drew _⟩
end
end
end Go.Proofs.YtdkmlmbehlooiaaGreatDoor
