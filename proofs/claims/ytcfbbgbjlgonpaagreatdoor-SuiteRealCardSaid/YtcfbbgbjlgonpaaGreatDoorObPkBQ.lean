/- Own texts of this claim, one behind the other. No condition. -/
import Derived.Test.YtcfbbgbjlgonpaaGreatDoorObPkAU
import Derived.Test.YtcfbbgbjlgonpaaGreatDoorObPkBP

/- The suite of terms: Sum, Check. No condition. -/
namespace Go.Proofs.YtcfbbgbjlgonpaaGreatDoor
open Go.RowKit Go.Maps
set_option linter.unusedVariables false
set_option linter.unusedSimpArgs false
theorem wp_mapUpd {P : Program} {o : Oper} {a : Act} {w w1 : World} {K : Act → World → Prop} {Q : Exit → Act → World → Prop} {t : TypeId} {m k x : Operand} (hop : o.op = Op.mapUpdate t m k x) (hrun : (Instr.mapUpdate t (a.eval m) (a.eval k) (a.eval x)).run P w = .ok () w1)
    (h : K (a.put o.dst undef) w1) : o.wp P a w K Q := by
  unfold Oper.wp
  simp [execOp, hop, hrun, Result.andThen]
  exact h
def markZ : List UInt8 := [255, 253, 0, 0, 0, 0, 0, 0]
abbrev markO : Obj := .cells #[.int .u8 255, .int .u8 253] 5 (2, 3)
theorem mark_sl (w : World) : Sl (w.alloc markO) (some ⟨w.heap.size, 0, none⟩) 2 2 1 (([255, 253] : List UInt8).map u8c) := by
  refine ⟨rfl, Nat.le_refl _, by decide, fun _ => ⟨_, _, rfl, fun j u hu => ?_⟩⟩
  change [Value.int .u8 255, .int .u8 253][j]? = some u at hu
  have hj : (w.alloc markO).heap[w.heap.size]? = some markO := heap_alloc_new w _
  simp only [World.cell?, hj, Nat.zero_add]
  rw [if_neg (by decide)]
  simpa using hu
set_option maxRecDepth 100000 in
set_option maxHeartbeats 1000000 in
theorem mark0_any (w : World) : Calls Tryz.prog 54 #[.int .i64 0] w (RetBs w markZ) := by
  have e1 : putS (0 : Int) 6 = [0, 0, 0, 0, 0, 0] := by decide
  have HP := Lib.hid (put_any (0 : Int) 6 (w.alloc markO) (by omega) (by omega))
  rw [e1] at HP
  have HM := Lib.hid (mark_sl w)
  have HG := Lib.hid (Gr.alloc w markO)
  have hcv := fun (W : World) (C : Array Value) (n c : Nat) => Lib.run_convert_bytes_const (P := Tryz.prog) W 28 5 C n c Tryz.underlying28 Tryz.underlying5
  have hwr : IntKind.u64.wrap (0 : Int) = 0 := IntWalk.u64_in _ (by omega)
  clear e1
  go_enter Tryz.func54, Tryz.ntmps54
  go_wp2_with fail
  refine HP.out.mono ?_
  rintro e w1 ⟨v1, rfl, o1⟩
  have G1 : Hid (Gr (w.alloc markO) w1) := o1.below
  have M1 := Lib.hid (HM.out.mono o1.below)
  obtain ⟨A1, c1, rfl, s1⟩ := o1.slice
  have S1 : Hid (Sl w1 A1 6 c1 1 (([0, 0, 0, 0, 0, 0] : List UInt8).map u8c)) := s1
  clear o1 s1
  simp only [List.length_cons, List.length_nil, Nat.zero_add, Nat.reduceAdd]
  go_wp2_with (at_builtin; refine wpList_catFull rfl (.tmp 4) (.tmp 7) 28 rfl tBytes rfl M1.out (by omega) rfl S1.out (by omega) (by omega) (by omega) ?_; intro v2 w2 own2; rw [← List.map_append] at own2; have O2 := Lib.hid own2; clear own2)
  go_ret
  exact ⟨_, rfl, O2.out.base (Gr.trans HG.out G1.out)⟩
section
variable {w0 w : World} {p g bs : Nat}
theorem sui_none (hb : Blk w p 60 [.pointer (some ⟨g, 0, none⟩), .map (some bs), .pointer none]) : Calls Tryz.prog 32 #[.pointer (some ⟨p, 0, none⟩)] w fun e w' => e = .returned (.bool false) ∧ w = w' := by
  have c0 : w.cell? ⟨p, 0, none⟩ = some (.pointer (some ⟨g, 0, none⟩)) := (hb.cell 0).trans rfl
  have c2 : w.cell? ⟨p, 2, none⟩ = some (.pointer none) := (hb.cell 2).trans rfl
  clear hb
  go_enter Tryz.func32, Tryz.ntmps32
  go_wp2_with fail
  go_ret
  exact ⟨rfl, rfl⟩
theorem sui_real (hb : Blk w p 60 [.pointer (some ⟨g, 0, none⟩), .map (some bs), .pointer none]) : Calls Tryz.prog 43 #[.pointer (some ⟨p, 0, none⟩)] w fun e w' => e = .returned (.bool false) ∧ w = w' := by
  have c2 : w.cell? ⟨p, 2, none⟩ = some (.pointer none) := (hb.cell 2).trans rfl
  clear hb
  go_enter Tryz.func43, Tryz.ntmps43
  go_wp2_with fail
  go_ret
  exact ⟨rfl, rfl⟩
theorem keyedS : Keyed Tryz.prog 9 := string_keyed Tryz.underlying9
theorem keyS {s : ByteArray} (h : s.size ≤ maxLen) : keyOf Tryz.prog 9 (.string s) = some (.string s.data.toList) := Go.WideMaps.keyOf_string_mk Tryz.underlying9 h
/-- The sums so far: of the text alone. -/
def oneSum (text : List UInt8) : DataW Value := (DataW.map []).put (.string text) (.held (.int .i64 0))
theorem oneSum_has (text other : List UInt8) : has (oneSum text) (.string other) = (other == text) := by
  unfold oneSum
  by_cases h : other = text
  · subst h
    rw [has_put_same isMap_empty (show WideAt.IsKeyLit (Lit.string other) from trivial)]
    simp
  · rw [has_put_other (by intro e; injection e with e; exact h e)]
    have : (other == text) = false := by rw [beq_eq_false_iff_ne]; exact h
    rw [this]
    rfl
theorem ownsMap_drew {w : World} {P : Program} {k b n : Nat} {D : DataW Value} (h : w.ownsMap P k Rv b n D) : w.drew.ownsMap P k Rv b n D := h
set_option maxRecDepth 100000 in
set_option maxHeartbeats 2000000 in
theorem sum_first (hb : Blk w p 60 [.pointer (some ⟨g, 0, none⟩), .map (some bs), .pointer none]) (hm : w.heap[bs]? = some (.map #[] 0)) (A : Option Addr) (n c : Nat) (text : List UInt8) (ht : Bs w A n c text) :
    Calls Tryz.prog 21 #[.pointer (some ⟨p, 0, none⟩), .slice A n c] w fun e w' =>
      ∃ A' c', e = .returned (.slice A' 8 c') ∧ Bs w' A' 8 c' markZ ∧ Blk w' p 60 [.pointer (some ⟨g, 0, none⟩), .map (some bs), .pointer none] ∧ w'.ownsMap Tryz.prog 9 Rv bs 1 (oneSum text) ∧ Tch (fun b => b = bs) w w' := by
  have hl : text.length = n := by have := ht.len; simpa using this
  have hcp := ht.cap; have hmx := ht.max
  have HN := Lib.hid (sui_none hb); have HR := Lib.hid (sui_real hb)
  have c1 : w.cell? ⟨p, 1, none⟩ = some (.map (some bs)) := (hb.cell 1).trans rfl
  have hown : w.ownsMap Tryz.prog 9 Rv bs 0 (.map []) := ⟨#[], 0, hm, ⟨by simp, MapKept.stamped_empty 0, by simp⟩, Nat.le_refl _, rfl⟩
  have hkey := keyS (s := ⟨text.toArray⟩) (by show text.length ≤ _; simp only [maxLen]; omega)
  have hpbs : p ≠ bs := fun e => by
    have h1 := hb
    unfold Blk at h1
    rw [e, hm] at h1
    cases h1
  have HOW := Lib.hid hown; have HTX := Lib.hid ht; have HBL := Lib.hid hb
  clear hb hm ht
  go_enter Tryz.func21, Tryz.ntmps21
  go_wp2_with fail
  refine HN.out.mono ?_
  rintro e w1 ⟨rfl, h1⟩
  subst h1
  go_wp2_with fail
  refine HR.out.mono ?_
  rintro e w1 ⟨rfl, h1⟩
  subst h1
  go_upto_region 5 with fail
  have hcvt := fun W (k : Gr w W) => run_bytes_string Tryz.underlying28 Tryz.underlying5 Tryz.underlying9 (HTX.out.mono k)
  have hc5 := hcvt w.drew (Gr.drew _)
  obtain ⟨v5, ps5, hlook, hRv⟩ := (ownsMap_drew HOW.out).look_ok keyedS Tryz.underlying55 (z := .int .i64 0) (by kernel_rfl) (zd := .held (.int .i64 0)) (zp := []) rfl hkey
  have hv5 : v5 = .int .i64 0 := by
    unfold Rv at hRv
    injection hRv with hRv
    injection hRv with h1 h2
    injection h1
  subst hv5
  have hhas : has (DataW.map ([] : List (Lit × DataW Value))) (.string (⟨text.toArray⟩ : ByteArray).data.toList) = false := rfl
  rw [hhas] at hlook
  clear hhas hRv
  refine wp_region_pre (by kernel_rfl) (fun w' => w' = w.drew) (fun i => i == 4 || i == 6 || i == 7) (fun _ => false) [0, 1, 2, 3, 5, 4, 6, 7, 8, 9, 10, 11, 12] 0 (by kernel_rfl) (by kernel_rfl) (by kernel_rfl) rfl ?_
  refine wpPre_e rfl rfl ?_
  apply Exists.intro
  refine ⟨fun wq hq => ?_, ?_⟩
  · clear hq
    unfold plainAt
    go_simp
    first | exact rfl | exact ⟨rfl, rfl⟩
  go_simp
  refine wpPre_e rfl rfl ?_
  apply Exists.intro
  refine ⟨fun wq hq => ?_, ?_⟩
  · clear hq
    unfold plainAt
    go_simp
    first | exact rfl | exact ⟨rfl, rfl⟩
  go_simp
  refine wpPre_e rfl rfl ?_
  apply Exists.intro
  refine ⟨fun wq hq => ?_, ?_⟩
  · clear hq
    unfold plainAt
    go_simp
    first | exact rfl | exact ⟨rfl, rfl⟩
  go_simp
  refine wpPre_e rfl rfl ?_
  apply Exists.intro
  refine ⟨fun wq hq => ?_, ?_⟩
  · clear hq
    unfold plainAt
    go_simp
    first | exact rfl | exact ⟨rfl, rfl⟩
  go_simp
  refine wpPre_e rfl rfl ?_
  apply Exists.intro
  refine ⟨fun wq hq => ?_, ?_⟩
  · clear hq
    unfold plainAt
    go_simp
    first | exact rfl | exact ⟨rfl, rfl⟩
  go_simp
  refine wpPre_e rfl rfl ?_
  apply Exists.intro
  refine ⟨fun wq hq => ?_, ?_⟩
  · replace hq := hq rfl
    subst hq
    unfold plainAt
    go_simp
    first | exact rfl | exact ⟨rfl, rfl⟩
  go_simp
  refine wpPre_e rfl rfl ?_
  apply Exists.intro
  refine ⟨fun wq hq => ?_, ?_⟩
  · replace hq := hq rfl
    subst hq
    unfold plainAt
    go_simp
    first | exact rfl | exact ⟨rfl, rfl⟩
  go_simp
  refine wpPre_e rfl rfl ?_
  apply Exists.intro
  refine ⟨fun wq hq => ?_, ?_⟩
  · replace hq := hq rfl
    subst hq
    unfold plainAt
    go_simp
    first | exact rfl | exact ⟨rfl, rfl⟩
  go_simp
  refine wpPre_e rfl rfl ?_
  apply Exists.intro
  refine ⟨fun wq hq => ?_, ?_⟩
  · clear hq
    unfold plainAt
    go_simp
    first | exact rfl | exact ⟨rfl, rfl⟩
  go_simp
  refine wpPre_e rfl rfl ?_
  apply Exists.intro
  refine ⟨fun wq hq => ?_, ?_⟩
  · clear hq
    unfold plainAt
    go_simp
    first | exact rfl | exact ⟨rfl, rfl⟩
  go_simp
  refine wpPre_e rfl rfl ?_
  apply Exists.intro
  refine ⟨fun wq hq => ?_, ?_⟩
  · clear hq
    unfold plainAt
    go_simp
    first | exact rfl | exact ⟨rfl, rfl⟩
  go_simp
  refine wpPre_e rfl rfl ?_
  apply Exists.intro
  refine ⟨fun wq hq => ?_, ?_⟩
  · clear hq
    unfold plainAt
    go_simp
    first | exact rfl | exact ⟨rfl, rfl⟩
  go_simp
  refine wpPre_e rfl rfl ?_
  apply Exists.intro
  refine ⟨fun wq hq => ?_, ?_⟩
  · clear hq
    unfold plainAt
    go_simp
    first | exact rfl | exact ⟨rfl, rfl⟩
  go_simp
  refine wpPre_nil ?_
  refine wpRest_nil (by kernel_rfl) ?_
  have hlen := (ownsMap_drew HOW.out).len (t := 55) (e := 3) Tryz.underlying55 3
  have hsz : Maps.size (DataW.map ([] : List (Lit × DataW Value))) = 0 := rfl
  rw [hsz] at hlen
  have d1 : w.drew.cell? ⟨p, 1, none⟩ = some (.map (some bs)) := c1
  have d2 : w.drew.drew.cell? ⟨p, 1, none⟩ = some (.map (some bs)) := c1
  have hc8 := hcvt w.drew.drew ((Gr.drew _).trans (Gr.drew _))
  obtain ⟨w8, hrun8, own8, gr8⟩ := (ownsMap_drew (ownsMap_drew HOW.out)).update keyedS Tryz.underlying55 (by unfold maxLen; omega) hkey (val := .int .i64 0) (d := .held (.int .i64 0)) (ps := []) rfl
  have T8 : Tch (fun b => b = bs) w w8 := (Tch.gr ((Gr.drew w).trans (Gr.drew _))).trans (Tch.grown gr8 (fun b e => by injection e with e; exact e.symm))
  have HT8 := Lib.hid T8; have HO8 := Lib.hid own8
  have HB8 := Lib.hid (HBL.out.tch T8 hpbs)
  clear hlook hc5 hcvt hsz hown own8 gr8 T8
  go_upto_region 8 with fail
  refine wp_region_pre (by kernel_rfl) (fun w' => w' = w.drew.drew) (fun i => i == 4 || i == 6) (fun i => i == 8) [0, 1, 2, 3, 5, 7, 4, 6] 1 (by kernel_rfl) (by kernel_rfl) (by kernel_rfl) rfl ?_
  refine wpPre_e rfl rfl ?_
  apply Exists.intro
  refine ⟨fun wq hq => ?_, ?_⟩
  · clear hq
    unfold plainAt
    go_simp
    first | exact rfl | exact ⟨rfl, rfl⟩
  go_simp
  refine wpPre_e rfl rfl ?_
  apply Exists.intro
  refine ⟨fun wq hq => ?_, ?_⟩
  · clear hq
    unfold plainAt
    go_simp
    first | exact rfl | exact ⟨rfl, rfl⟩
  go_simp
  refine wpPre_e rfl rfl ?_
  apply Exists.intro
  refine ⟨fun wq hq => ?_, ?_⟩
  · clear hq
    unfold plainAt
    go_simp
    first | exact rfl | exact ⟨rfl, rfl⟩
  go_simp
  refine wpPre_e rfl rfl ?_
  apply Exists.intro
  refine ⟨fun wq hq => ?_, ?_⟩
  · clear hq
    unfold plainAt
    go_simp
    first | exact rfl | exact ⟨rfl, rfl⟩
  go_simp
  refine wpPre_e rfl rfl ?_
  apply Exists.intro
  refine ⟨fun wq hq => ?_, ?_⟩
  · clear hq
    unfold plainAt
    go_simp
    first | exact rfl | exact ⟨rfl, rfl⟩
  go_simp
  refine wpPre_e rfl rfl ?_
  apply Exists.intro
  refine ⟨fun wq hq => ?_, ?_⟩
  · clear hq
    unfold plainAt
    go_simp
    first | exact rfl | exact ⟨rfl, rfl⟩
  go_simp
  refine wpPre_e rfl rfl ?_
  apply Exists.intro
  refine ⟨fun wq hq => ?_, ?_⟩
  · replace hq := hq rfl
    subst hq
    unfold plainAt
    go_simp
    first | exact rfl | exact ⟨rfl, rfl⟩
  go_simp
  refine wpPre_e rfl rfl ?_
  apply Exists.intro
  refine ⟨fun wq hq => ?_, ?_⟩
  · replace hq := hq rfl
    subst hq
    unfold plainAt
    go_simp
    first | exact rfl | exact ⟨rfl, rfl⟩
  go_simp
  refine wpPre_nil ?_
  refine wpRest_one (i := 8) (by kernel_rfl) rfl rfl ?_
  intro K hK
  refine wp_mapUpd (w1 := w8) rfl (by exact hrun8) ?_
  refine hK _ _ (fun h => absurd h (by decide)) ?_
  clear hK
  go_simp
  refine wpRest_nil (by kernel_rfl) ?_
  go_wp2_with fail
  refine (mark0_any w8).mono ?_
  rintro e w9 ⟨v9, rfl, o9⟩
  obtain ⟨A9, c9, rfl, s9⟩ := o9.slice
  have HF : Hid (Bs w9 A9 8 c9 markZ ∧ Blk w9 p 60 [.pointer (some ⟨g, 0, none⟩), .map (some bs), .pointer none] ∧ w9.ownsMap Tryz.prog 9 Rv bs 1 (oneSum text) ∧ Tch (fun b => b = bs) w w9) := by
    refine ⟨s9, HB8.out.mono o9.below, ?_, HT8.out.trans (Tch.gr o9.below)⟩
    obtain ⟨es, clock, h1, h2⟩ := HO8.out
    exact ⟨es, clock, (o9.below.block bs (Array.getElem?_eq_some_iff.1 h1).1).trans h1, h2⟩
  clear o9 s9
  go_wp2_with fail
  go_ret
  exact ⟨_, _, rfl, HF.out⟩
set_option maxRecDepth 100000 in
set_option maxHeartbeats 2000000 in
theorem check_one (hb : Blk w p 60 [.pointer (some ⟨g, 0, none⟩), .map (some bs), .pointer none]) {text : List UInt8} (hm : w.ownsMap Tryz.prog 9 Rv bs 1 (oneSum text)) (A B : Option Addr) (n c d : Nat) (other : List UInt8) (ht : Bs w A n c other) (hs : Bs w B 8 d markZ) :
    Calls Tryz.prog 20 #[.pointer (some ⟨p, 0, none⟩), .slice A n c, .slice B 8 d] w fun e w' => e = .returned (.bool (other == text)) ∧ Gr w w' := by
  have hl : other.length = n := by have := ht.len; simpa using this
  have hcp := ht.cap; have hmx := ht.max
  have HN := Lib.hid (sui_none hb); have HR := Lib.hid (sui_real hb)
  have c1 : w.cell? ⟨p, 1, none⟩ = some (.map (some bs)) := (hb.cell 1).trans rfl
  have hkey := keyS (s := ⟨other.toArray⟩) (by show other.length ≤ _; simp only [maxLen]; omega)
  have hc5 := run_bytes_string Tryz.underlying28 Tryz.underlying5 Tryz.underlying9 (ht.mono (Gr.drew w))
  obtain ⟨v5, ps5, hlook, hRv⟩ := (ownsMap_drew hm).look_ok keyedS Tryz.underlying55 (z := .int .i64 0) (by kernel_rfl) (zd := .held (.int .i64 0)) (zp := []) rfl hkey
  have hv5 : v5 = .int .i64 0 := by
    unfold Rv at hRv
    injection hRv with hRv
    injection hRv with h1 h2
    have h3 : (oneSum text).atKey (.string (⟨other.toArray⟩ : ByteArray).data.toList) (.held (.int .i64 0)) = .held (.int .i64 0) := by
      unfold oneSum
      by_cases h : other = text
      · subst h
        exact atKey_put_same isMap_empty (show WideAt.IsKeyLit (Lit.string other) from trivial) _ _
      · exact atKey_put_other (by intro e; injection e with e; exact h e) _ _
    rw [h3] at h1
    injection h1
  subst hv5
  have hhas : has (oneSum text) (.string (⟨other.toArray⟩ : ByteArray).data.toList) = (other == text) := oneSum_has text other
  rw [hhas] at hlook
  have HTX := Lib.hid ht; have HSX := Lib.hid hs
  clear hhas hRv hm ht hs hb
  cases hq : (other == text) with
  | false =>
    rw [hq] at hlook
    clear hq
    go_enter Tryz.func20, Tryz.ntmps20
    go_wp2_with fail
    refine HN.out.mono ?_
    rintro e w1 ⟨rfl, h1⟩
    subst h1
    go_wp2_with fail
    refine HR.out.mono ?_
    rintro e w1 ⟨rfl, h1⟩
    subst h1
    go_upto_region 5 with fail
    refine wp_region_pre (by kernel_rfl) (fun w' => w' = w.drew) (fun i => i == 4 || i == 6 || i == 7) (fun _ => false) [0, 1, 2, 3, 5, 4, 6, 7, 8, 9, 10, 11, 12] 0 (by kernel_rfl) (by kernel_rfl) (by kernel_rfl) rfl ?_
    refine wpPre_e rfl rfl ?_
    apply Exists.intro
    refine ⟨fun wq hq => ?_, ?_⟩
    · clear hq
      unfold plainAt
      go_simp
      first | exact rfl | exact ⟨rfl, rfl⟩
    go_simp
    refine wpPre_e rfl rfl ?_
    apply Exists.intro
    refine ⟨fun wq hq => ?_, ?_⟩
    · clear hq
      unfold plainAt
      go_simp
      first | exact rfl | exact ⟨rfl, rfl⟩
    go_simp
    refine wpPre_e rfl rfl ?_
    apply Exists.intro
    refine ⟨fun wq hq => ?_, ?_⟩
    · clear hq
      unfold plainAt
      go_simp
      first | exact rfl | exact ⟨rfl, rfl⟩
    go_simp
    refine wpPre_e rfl rfl ?_
    apply Exists.intro
    refine ⟨fun wq hq => ?_, ?_⟩
    · clear hq
      unfold plainAt
      go_simp
      first | exact rfl | exact ⟨rfl, rfl⟩
    go_simp
    refine wpPre_e rfl rfl ?_
    apply Exists.intro
    refine ⟨fun wq hq => ?_, ?_⟩
    · clear hq
      unfold plainAt
      go_simp
      first | exact rfl | exact ⟨rfl, rfl⟩
    go_simp
    refine wpPre_e rfl rfl ?_
    apply Exists.intro
    refine ⟨fun wq hq => ?_, ?_⟩
    · replace hq := hq rfl
      subst hq
      unfold plainAt
      go_simp
      first | exact rfl | exact ⟨rfl, rfl⟩
    go_simp
    refine wpPre_e rfl rfl ?_
    apply Exists.intro
    refine ⟨fun wq hq => ?_, ?_⟩
    · replace hq := hq rfl
      subst hq
      unfold plainAt
      go_simp
      first | exact rfl | exact ⟨rfl, rfl⟩
    go_simp
    refine wpPre_e rfl rfl ?_
    apply Exists.intro
    refine ⟨fun wq hq => ?_, ?_⟩
    · replace hq := hq rfl
      subst hq
      unfold plainAt
      go_simp
      first | exact rfl | exact ⟨rfl, rfl⟩
    go_simp
    refine wpPre_e rfl rfl ?_
    apply Exists.intro
    refine ⟨fun wq hq => ?_, ?_⟩
    · clear hq
      unfold plainAt
      go_simp
      first | exact rfl | exact ⟨rfl, rfl⟩
    go_simp
    refine wpPre_e rfl rfl ?_
    apply Exists.intro
    refine ⟨fun wq hq => ?_, ?_⟩
    · clear hq
      unfold plainAt
      go_simp
      first | exact rfl | exact ⟨rfl, rfl⟩
    go_simp
    refine wpPre_e rfl rfl ?_
    apply Exists.intro
    refine ⟨fun wq hq => ?_, ?_⟩
    · clear hq
      unfold plainAt
      go_simp
      first | exact rfl | exact ⟨rfl, rfl⟩
    go_simp
    refine wpPre_e rfl rfl ?_
    apply Exists.intro
    refine ⟨fun wq hq => ?_, ?_⟩
    · clear hq
      unfold plainAt
      go_simp
      first | exact rfl | exact ⟨rfl, rfl⟩
    go_simp
    refine wpPre_e rfl rfl ?_
    apply Exists.intro
    refine ⟨fun wq hq => ?_, ?_⟩
    · clear hq
      unfold plainAt
      go_simp
      first | exact rfl | exact ⟨rfl, rfl⟩
    go_simp
    refine wpPre_nil ?_
    refine wpRest_nil (by kernel_rfl) ?_
    clear hlook hc5
    go_wp2_with fail
    go_ret
    exact ⟨rfl, Gr.drew _⟩
  | true =>
    rw [hq] at hlook
    clear hq
    go_enter Tryz.func20, Tryz.ntmps20
    go_wp2_with fail
    refine HN.out.mono ?_
    rintro e w1 ⟨rfl, h1⟩
    subst h1
    go_wp2_with fail
    refine HR.out.mono ?_
    rintro e w1 ⟨rfl, h1⟩
    subst h1
    go_upto_region 5 with fail
    refine wp_region_pre (by kernel_rfl) (fun w' => w' = w.drew) (fun i => i == 4 || i == 6 || i == 7) (fun _ => false) [0, 1, 2, 3, 5, 4, 6, 7, 8, 9, 10, 11, 12] 0 (by kernel_rfl) (by kernel_rfl) (by kernel_rfl) rfl ?_
    refine wpPre_e rfl rfl ?_
    apply Exists.intro
    refine ⟨fun wq hq => ?_, ?_⟩
    · clear hq
      unfold plainAt
      go_simp
      first | exact rfl | exact ⟨rfl, rfl⟩
    go_simp
    refine wpPre_e rfl rfl ?_
    apply Exists.intro
    refine ⟨fun wq hq => ?_, ?_⟩
    · clear hq
      unfold plainAt
      go_simp
      first | exact rfl | exact ⟨rfl, rfl⟩
    go_simp
    refine wpPre_e rfl rfl ?_
    apply Exists.intro
    refine ⟨fun wq hq => ?_, ?_⟩
    · clear hq
      unfold plainAt
      go_simp
      first | exact rfl | exact ⟨rfl, rfl⟩
    go_simp
    refine wpPre_e rfl rfl ?_
    apply Exists.intro
    refine ⟨fun wq hq => ?_, ?_⟩
    · clear hq
      unfold plainAt
      go_simp
      first | exact rfl | exact ⟨rfl, rfl⟩
    go_simp
    refine wpPre_e rfl rfl ?_
    apply Exists.intro
    refine ⟨fun wq hq => ?_, ?_⟩
    · clear hq
      unfold plainAt
      go_simp
      first | exact rfl | exact ⟨rfl, rfl⟩
    go_simp
    refine wpPre_e rfl rfl ?_
    apply Exists.intro
    refine ⟨fun wq hq => ?_, ?_⟩
    · replace hq := hq rfl
      subst hq
      unfold plainAt
      go_simp
      first | exact rfl | exact ⟨rfl, rfl⟩
    go_simp
    refine wpPre_e rfl rfl ?_
    apply Exists.intro
    refine ⟨fun wq hq => ?_, ?_⟩
    · replace hq := hq rfl
      subst hq
      unfold plainAt
      go_simp
      first | exact rfl | exact ⟨rfl, rfl⟩
    go_simp
    refine wpPre_e rfl rfl ?_
    apply Exists.intro
    refine ⟨fun wq hq => ?_, ?_⟩
    · replace hq := hq rfl
      subst hq
      unfold plainAt
      go_simp
      first | exact rfl | exact ⟨rfl, rfl⟩
    go_simp
    refine wpPre_e rfl rfl ?_
    apply Exists.intro
    refine ⟨fun wq hq => ?_, ?_⟩
    · clear hq
      unfold plainAt
      go_simp
      first | exact rfl | exact ⟨rfl, rfl⟩
    go_simp
    refine wpPre_e rfl rfl ?_
    apply Exists.intro
    refine ⟨fun wq hq => ?_, ?_⟩
    · clear hq
      unfold plainAt
      go_simp
      first | exact rfl | exact ⟨rfl, rfl⟩
    go_simp
    refine wpPre_e rfl rfl ?_
    apply Exists.intro
    refine ⟨fun wq hq => ?_, ?_⟩
    · clear hq
      unfold plainAt
      go_simp
      first | exact rfl | exact ⟨rfl, rfl⟩
    go_simp
    refine wpPre_e rfl rfl ?_
    apply Exists.intro
    refine ⟨fun wq hq => ?_, ?_⟩
    · clear hq
      unfold plainAt
      go_simp
      first | exact rfl | exact ⟨rfl, rfl⟩
    go_simp
    refine wpPre_e rfl rfl ?_
    apply Exists.intro
    refine ⟨fun wq hq => ?_, ?_⟩
    · clear hq
      unfold plainAt
      go_simp
      first | exact rfl | exact ⟨rfl, rfl⟩
    go_simp
    refine wpPre_nil ?_
    refine wpRest_nil (by kernel_rfl) ?_
    clear hlook hc5
    go_wp2_with fail
    refine (mark0_any _).mono ?_
    rintro e w9 ⟨v9, rfl, o9⟩
    obtain ⟨A9, c9, rfl, s9⟩ := o9.slice
    have G9 : Hid (Gr w w9) := Gr.trans (Gr.drew w) o9.below
    have HSM := Lib.hid (same_any A9 B 8 8 c9 d markZ markZ w9 s9 (HSX.out.mono G9.out))
    have tm : (markZ == markZ) = true := by decide
    rw [tm] at HSM
    clear o9 s9 tm
    go_wp2_with fail
    refine HSM.out.mono ?_
    rintro e w10 ⟨rfl, h10⟩
    subst h10
    go_wp2_with fail
    go_ret
    exact ⟨rfl, G9.out⟩
end
end Go.Proofs.YtcfbbgbjlgonpaaGreatDoor

/- SuiteApart: the chapter's example. No condition. -/
namespace Go.Proofs.YtcfbbgbjlgonpaaGreatDoor
open Go.RowKit
set_option linter.unusedVariables false
set_option linter.unusedSimpArgs false
theorem tin_sz {T : List Nd} (h : TIn T) : ∀ x ∈ T, x.s.size ≤ maxLen := fun x hx => (h.fit x hx).2.2.2
theorem FS.ownB {w0 w w' : World} {v : Value} {n : Nat} {l : List UInt8} (h : FS w w') (ho : Own w0 w 5 1 v n (l.map u8c)) (hb : Below w0.heap.size w0 w') : Own w0 w' 5 1 v n (l.map u8c) := h.own ho (by decide) (by decide) (by decide) hb
set_option maxRecDepth 100000 in
set_option maxHeartbeats 2000000 in
theorem alive17_any (w : World) : Calls Tryz.prog 7 #[] w fun e w' => e = .returned (.bool true) ∧ Gr w w' := by
  go_enter Tryz.func7, Tryz.ntmps7
  go_wp2_with fail
  refine (symbolic2_any w).mono ?_
  rintro e w1 ⟨p, g, bm, bs, rfl, s1, _⟩
  have S1 := Lib.hid s1; clear s1
  go_wp2_with fail
  refine (S1.out.draw2 (by decide)).mono ?_
  rintro e w2 ⟨⟨v2, rfl, o2, s2, f2⟩, _⟩
  obtain ⟨A2, c2, rfl, sl2⟩ := o2.slice
  have hc2 := sl2.cap; have hm2 := sl2.max
  have O2 := Lib.hid o2; have S2 := Lib.hid s2
  clear o2 s2 f2 sl2
  obtain ⟨T1, hT1⟩ : ∃ T1, T1 = (atomT []).1 := ⟨_, rfl⟩
  obtain ⟨i1, hi1⟩ : ∃ i1, i1 = (atomT []).2 := ⟨_, rfl⟩
  have hl1 : T1.length = 1 := by rw [hT1]; rfl
  rw [← hT1] at S2
  rw [← hi1] at O2
  have HL1 := Lib.hid hl1
  clear hT1 hi1 hl1
  obtain ⟨w3, hw3⟩ : ∃ w3, w3 = w2.alloc (.cells #[.int .u8 7] 5) := ⟨_, rfl⟩
  have g3 : Gr w2 w3 := by rw [hw3]; exact Gr.alloc _ _
  have b3 : Blk w3 w2.heap.size 5 (([7] : List UInt8).map u8c) := by rw [hw3]; exact Blk.new w2 5 #[.int .u8 7]
  have hbk : ∀ w', Blk w' w2.heap.size 5 (([7] : List UInt8).map u8c) → Bs w' (some ⟨w2.heap.size, 0, none⟩) 1 1 [7] := fun w' hb => ⟨rfl, Nat.le_refl _, by decide, fun _ => ⟨_, 0, rfl, fun j u hu => by rw [Nat.zero_add, hb.cell]; exact hu⟩⟩
  have o3 := O2.out.mono g3
  obtain ⟨A2', c2', e2, sl3⟩ := o3.slice
  injection e2 with ea eb ec
  subst ea ec
  have HSE := Lib.hid ((S2.out.gr g3).seal (by rw [HL1.out]; decide) A2 (some ⟨w2.heap.size, 0, none⟩) 32 c2 1 1 (handleL i1) [7] sl3 (hbk w3 b3) rfl (by decide) (fun w' hf _ => hbk w' (hf _ _ _ (by decide) (by decide) (by decide) b3)))
  have HO3 := Lib.hid o3
  have HW3 := Lib.hid hw3
  clear hw3 g3 b3 hbk o3 sl3 eb
  go_wp2_with fail
  rw [← HW3.out]
  refine HSE.out.mono ?_
  rintro e w4 ⟨⟨v4, rfl, o4⟩, s4, f4, _⟩
  obtain ⟨A4, c4, rfl, sl4⟩ := o4.slice
  have hc4 := sl4.cap; have hm4 := sl4.max
  have S4 := Lib.hid s4
  have o3' := f4.ownB HO3.out s4.below
  obtain ⟨A2', c2', e2, sl5⟩ := o3'.slice
  injection e2 with ea eb ec
  subst ea ec
  obtain ⟨id, pa, pb, hsd⟩ := seald_of (T := T1) (by rw [HL1.out]; decide) (handleL i1) [7]
  have hln := seal_len T1 (handleL i1) [7]
  rw [HL1.out] at hln
  have hsd1 := hsd _ (Onto.refl _) (by omega)
  have HOP := Lib.hid (s4.openS (by omega) (tin_sz s4.i) hsd1 (by decide) A2 A4 32 c2 (1 + 48) c4 (handleL i1) sl5 sl4)
  clear s4 o3' o4 f4 sl4 sl5 hsd hsd1 hln eb
  go_wp2_with fail
  refine HOP.out.mono ?_
  rintro e w5 ⟨C, q, r, rfl, hx, _, g5⟩
  have hx := hx trivial
  have hq : q = 1 := by have := hx.len; simpa using this.symm
  subst hq
  obtain ⟨b5, o5, rfl, hc5⟩ := hx.addr (by decide)
  have e5 : w5.cell? ⟨b5, o5, none⟩ = some (.int .u8 7) := hc5 0 (by decide)
  have hcx := hx.cap; have hmx := hx.max
  have tk : (handleL i1 == handleL i1) = true := by simp
  rw [tk]
  have G5 : Hid (Gr w w5) := Gr.trans S4.out.below g5
  clear hx hc5 g5 tk
  go_wp2_with fail
  go_ret
  exact ⟨rfl, G5.out⟩
end Go.Proofs.YtcfbbgbjlgonpaaGreatDoor
