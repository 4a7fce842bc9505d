/- Own texts of this claim, one behind the other. No condition. -/
import Derived.Test.YtadenlhnfkccaaaGreatDoorObPkC
import Derived.Test.YtadenlhnfkccaaaGreatDoorObPkE
import Derived.Test.YtadenlhnfkccaaaGreatDoorObPkK
import Derived.Test.YtadenlhnfkccaaaGreatDoorObPkL
import Derived.Outline
import Derived.Test.YtadenlhnfkccaaaGreatDoorProg
import Derived.Lib.Builder
import Derived.Lib.UnsafeStr
import Derived.Lib.AppendStr
import Derived.Laws.Externs
import Derived.Deep.MidRow
import Derived.RangeFuncNested
import Derived.RangeFuncBound
import Derived.RangeFuncCalls
import Derived.RangeFuncLeaves
import Derived.Shelf.Abstract
import Derived.Shelf.RegionOpen
import Derived.WalkKit
import Derived.OwnWalkIn
import Derived.TacticsInMore
import Derived.LoopNIn
import Derived.LoopIn

/- Lines of scripts: Print. No condition. -/
namespace Go.Proofs.YtadenlhnfkccaaaGreatDoor
open Go.RowKit
set_option linter.unusedVariables false
set_option linter.unusedSimpArgs false
theorem wpList_load_rowG {P : Program} {ops : Array Oper} {rest : List Oper} {o : Oper} {a : Act} {w : World} {Q : Exit → Act → World → Prop} (hgd : Region.wanted o (yielded ops a.tmps) = true) (ty : TypeId) (x : Operand) (ho : o.op = .load ty x)
    (g : Nat) (hx : a.eval x = .pointer (some ⟨g, 0, none⟩)) (t : TypeId) (cs : Array Value) (fr : Nat × Nat) (d : TypeDesc) (hg : w.heap[g]? = some (.cells cs t fr))
    (hu : P.underlying ty = some d) (hd : (match d with | .struct _ | .array _ _ => true | _ => false) = true) (hi : (P.info? ty).map (·.size) = some cs.size)
    (h : wpList P ops Q rest (a.put o.dst (.agg cs)) w) : wpList P ops Q (o :: rest) a w :=
  wpList_step fun K hK => by
    simp only [hgd, if_true]
    exact wp_load_row ty x ho g hx t cs fr d hg hu hd hi (hK _ _ h)
theorem textT_len {d : LnD} (ho : LnOk d) (hop : OpLt d.o) : (textT d).length ≤ 20000 := by
  unfold textT
  split
  · have := printO_lenS hop.2.1 hop.2.2; omega
  · split
    · exact textW_len ho d.k.toNat
    · exact Nat.zero_le _
set_option maxRecDepth 100000 in
set_option maxHeartbeats 4000000 in
theorem scPrint_any (x : LnV) (w : World) (ho : LnOk x.d) (hop : OpLt x.d.o) (hx : LnAt w x) (hT : Pow10 w) (hM : MLen w) :
    Calls Tryz.prog 7 #[.agg x.arr] w fun e w' => e = .returned (.tuple #[strc (printT x.d).1, .int .i64 ((printT x.d).2 : Int)]) ∧ Gr w w' := by
  have HB : Hid (∀ wq, Gr (w.alloc (.cells x.arr 37)) wq → Blk wq w.heap.size 37 x.arr.toList) := fun wq g => (Blk.new w 37 x.arr).mono g
  have G0 : Hid (Gr w (w.alloc (.cells x.arr 37))) := Gr.alloc w _
  have HTX := Lib.hid (text_any x _ ho hop (hx.gr G0.out) (hT.mono G0.out) (hM.mono G0.out))
  have HPA : Hid (∀ wr, Gr w wr → Calls Tryz.prog 10 #[strc (textT x.d)] wr (RetLn wr (parseT (textT x.d)))) := fun wr g => scParse_any _ wr (by have := textT_len ho hop; omega) (hM.mono g) (hT.mono g)
  have HSM : Hid (∀ y wr, Gr w wr → LnAt wr y → Calls Tryz.prog 14 #[.agg x.arr, .agg y.arr] wr fun e w' => e = .returned (.bool (sameT x.d y.d)) ∧ Gr wr w') := fun y wr g h => scSame_any x y wr (hx.gr g) h
  have HR : Hid (printT x.d = if (parseT (textT x.d)).2 = 0 ∧ sameT x.d (parseT (textT x.d)).1 = true then (textT x.d, 0) else ([], 2)) := rfl
  obtain ⟨r, hr⟩ : ∃ r, r = printT x.d := ⟨_, rfl⟩
  rw [← hr] at HR ⊢
  obtain ⟨tx, htx⟩ : ∃ tx : ByteArray, strc (textT x.d) = .string tx := ⟨_, rfl⟩
  rw [htx] at HTX HPA
  have HV := Lib.hid htx
  generalize parseT (textT x.d) = p at *
  clear hx hT hM hop ho hr htx
  obtain ⟨pd, pf⟩ := p
  simp only at HR
  go_enter Tryz.func7, Tryz.ntmps7
  have B0 := HB.out _ (Gr.refl _)
  have BB0 := Lib.hid B0
  clear B0
  go_wp2_with (refine wpList_load_row rfl 37 (.tmp 1) rfl w.heap.size rfl 37 x.arr (0, 0) _ BB0.out Tryz.underlying37 rfl lnSize ?_)
  refine HTX.out.mono ?_
  rintro e w1 ⟨rfl, g1⟩
  have G1 := Lib.hid g1
  clear g1
  go_wp2_with fail
  refine (HPA.out _ (G0.out.trans G1.out)).mono ?_
  rintro e w2 ⟨y, rfl, hyd, hya, g2, _⟩
  subst hyd
  have HYB := setRow_heap (w2.alloc (.cells #[.int .i64 0, .int .i64 0, .string ⟨#[]⟩, .string ⟨#[]⟩, .int .i64 0, .int .i64 0, .int .i64 0, .int .i64 0, .slice none 0 0, .int .i64 0, .slice none 0 0, .int .i64 0, .int .i64 0, .string ⟨#[]⟩, .int .i64 0, .string ⟨#[]⟩, .slice none 0 0] 37)) w2.heap.size _ y.arr _ _ (heap_alloc_new w2 _)
  have GS0 : Gr w2 ((w2.alloc (.cells #[.int .i64 0, .int .i64 0, .string ⟨#[]⟩, .string ⟨#[]⟩, .int .i64 0, .int .i64 0, .int .i64 0, .int .i64 0, .slice none 0 0, .int .i64 0, .slice none 0 0, .int .i64 0, .int .i64 0, .string ⟨#[]⟩, .int .i64 0, .string ⟨#[]⟩, .slice none 0 0] 37)).setRow w2.heap.size y.arr) := below_row39 ((Below.refl _ _).alloc (Nat.le_refl _) _) (Nat.le_refl _) _
  have GX := Lib.hid (G1.out.trans (g2.trans GS0))
  have AY := Lib.hid (hya.gr GS0)
  have BY : Hid (Blk ((w2.alloc (.cells #[.int .i64 0, .int .i64 0, .string ⟨#[]⟩, .string ⟨#[]⟩, .int .i64 0, .int .i64 0, .int .i64 0, .int .i64 0, .slice none 0 0, .int .i64 0, .slice none 0 0, .int .i64 0, .int .i64 0, .string ⟨#[]⟩, .int .i64 0, .string ⟨#[]⟩, .slice none 0 0] 37)).setRow w2.heap.size y.arr) w2.heap.size 37 y.arr.toList) := HYB
  have BX := Lib.hid (HB.out _ GX.out)
  have HSC := Lib.hid (HSM.out y _ (G0.out.trans GX.out) AY.out)
  clear HYB GS0 g2 hya
  by_cases hf : pf = 0
  · have tf : ((pf : Int) != 0) = false := by rw [hf]; rfl
    cases hs : sameT x.d y.d with
    | true =>
      have HF : Hid (r = (textT x.d, 0)) := by show _ = _; rw [HR.out, if_pos ⟨hf, hs⟩]
      rw [hs] at HSC
      clear hf hs
      go_wp2_with (first
        | (refine wpList_store_row rfl 37 (.tmp 5) (.tmp 12) rfl w2.heap.size y.arr rfl rfl 37 #[.int .i64 0, .int .i64 0, .string ⟨#[]⟩, .string ⟨#[]⟩, .int .i64 0, .int .i64 0, .int .i64 0, .int .i64 0, .slice none 0 0, .int .i64 0, .slice none 0 0, .int .i64 0, .int .i64 0, .string ⟨#[]⟩, .int .i64 0, .string ⟨#[]⟩, .slice none 0 0] (by exact heap_alloc_new w2 _) lnSize rfl (lnOne _) ?_)
        | (refine wpList_load_rowG rfl 37 (.tmp 1) rfl w.heap.size rfl 37 x.arr (0, 0) _ BX.out Tryz.underlying37 rfl lnSize ?_)
        | (refine wpList_load_rowG rfl 37 (.tmp 5) rfl w2.heap.size rfl 37 y.arr (0, 0) _ BY.out Tryz.underlying37 rfl lnSize ?_))
      refine HSC.out.mono ?_
      rintro e w3 ⟨rfl, g3⟩
      have G3 := Lib.hid (G0.out.trans (GX.out.trans g3))
      clear g3
      go_wp2_with fail
      go_ret2
      exact ⟨by rw [HF.out]; simp only; rw [HV.out]; rfl, G3.out⟩
    | false =>
      have HF : Hid (r = ([], 2)) := by show _ = _; rw [HR.out, if_neg (by simp [hs])]
      rw [hs] at HSC
      clear hf hs
      go_wp2_with (first
        | (refine wpList_store_row rfl 37 (.tmp 5) (.tmp 12) rfl w2.heap.size y.arr rfl rfl 37 #[.int .i64 0, .int .i64 0, .string ⟨#[]⟩, .string ⟨#[]⟩, .int .i64 0, .int .i64 0, .int .i64 0, .int .i64 0, .slice none 0 0, .int .i64 0, .slice none 0 0, .int .i64 0, .int .i64 0, .string ⟨#[]⟩, .int .i64 0, .string ⟨#[]⟩, .slice none 0 0] (by exact heap_alloc_new w2 _) lnSize rfl (lnOne _) ?_)
        | (refine wpList_load_rowG rfl 37 (.tmp 1) rfl w.heap.size rfl 37 x.arr (0, 0) _ BX.out Tryz.underlying37 rfl lnSize ?_)
        | (refine wpList_load_rowG rfl 37 (.tmp 5) rfl w2.heap.size rfl 37 y.arr (0, 0) _ BY.out Tryz.underlying37 rfl lnSize ?_))
      refine HSC.out.mono ?_
      rintro e w3 ⟨rfl, g3⟩
      have G3 := Lib.hid (G0.out.trans (GX.out.trans g3))
      clear g3
      go_wp2_with fail
      go_ret2
      exact ⟨by rw [HF.out]; rfl, G3.out⟩
  · have tf : ((pf : Int) != 0) = true := bne_iff_ne.2 (by omega)
    have HF : Hid (r = ([], 2)) := by show _ = _; rw [HR.out, if_neg (by simp [hf])]
    have G3 := Lib.hid (G0.out.trans GX.out)
    clear hf
    go_wp2_with (refine wpList_store_row rfl 37 (.tmp 5) (.tmp 12) rfl w2.heap.size y.arr rfl rfl 37 #[.int .i64 0, .int .i64 0, .string ⟨#[]⟩, .string ⟨#[]⟩, .int .i64 0, .int .i64 0, .int .i64 0, .int .i64 0, .slice none 0 0, .int .i64 0, .slice none 0 0, .int .i64 0, .int .i64 0, .string ⟨#[]⟩, .int .i64 0, .string ⟨#[]⟩, .slice none 0 0] (by exact heap_alloc_new w2 _) lnSize rfl (lnOne _) ?_)
    go_ret2
    exact ⟨by rw [HF.out]; rfl, G3.out⟩
end Go.Proofs.YtadenlhnfkccaaaGreatDoor

/- strings.Builder at this dump: the check ahead of a write, a write. No condition. -/
namespace Go.Proofs.YtadenlhnfkccaaaGreatDoor
open Go.RowKit
set_option linter.unusedVariables false
theorem sbInfo : ∃ j, Tryz.prog.info? 92 = some j ∧ j.size = 2 := by
  have h : (Tryz.prog.info? 92).map (fun i => i.size) = some 2 := by kernel_rfl
  exact Option.map_eq_some_iff.1 h
/-- A builder that has been written to: nothing turns. -/
theorem sbUsed_any (b : Nat) (w : World) (h0 : w.cell? ⟨b, 0, none⟩ = some (.pointer (some ⟨b, 0, none⟩))) :
    Calls Tryz.prog 69 #[.pointer (some ⟨b, 0, none⟩)] w fun e w' => e = .returned (.tuple #[]) ∧ w = w' := by
  obtain ⟨j, hj, _⟩ := sbInfo
  have hq := Lib.run_neq_ptr_same (P := Tryz.prog) w ⟨b, 0, none⟩ Tryz.underlying90 hj
  clear hj
  go_enter Tryz.func69, Tryz.ntmps69
  go_wp2
  go_end0
  exact ⟨rfl, rfl⟩
theorem sb_shape {w : World} {b : Nat} {u v : Value} (h : Blk w b 92 [u, v]) : w.shape? b = some (92, 2) := by
  unfold Blk at h
  simp [World.shape?, h]
set_option maxRecDepth 100000 in
/-- A new one keeps its own address. -/
theorem sbFresh_any (b : Nat) (v : Value) (w : World) (h : Blk w b 92 [.pointer none, v]) :
    Calls Tryz.prog 69 #[.pointer (some ⟨b, 0, none⟩)] w fun e w' => e = .returned (.tuple #[]) ∧ w' = w.setCell ⟨b, 0, none⟩ (.pointer (some ⟨b, 0, none⟩)) := by
  obtain ⟨j, hj, hjs⟩ := sbInfo
  have hsh := sb_shape h
  have c0 : w.cell? ⟨b, 0, none⟩ = some (.pointer none) := (h.cell 0).trans rfl
  have y0 := h.free 0
  have hlt := h.lt
  have hU := Lib.run_to_unsafe (P := Tryz.prog) (w := w) ⟨b, 0, none⟩ Tryz.underlying90 Tryz.underlying143 hj (by rw [hjs]; decide) hsh (by show 0 < 2; decide)
  have hV := Lib.run_from_unsafe (P := Tryz.prog) (w := w) ⟨b, 0, none⟩ Tryz.underlying143 Tryz.underlying90 hj hsh (by kernel_rfl)
  have he : (Extern.AbiNoEscape.same #[.pointer (some ⟨b, 0, none⟩)]).run Tryz.prog w = .ok (.pointer (some ⟨b, 0, none⟩)) w := rfl
  have hN := run_callFunc_extern Tryz.func89 (by kernel_rfl) (by kernel_rfl) (by kernel_rfl) (e := Extern.AbiNoEscape.same) (by kernel_rfl) (args := #[.pointer (some ⟨b, 0, none⟩)]) (w := w)
  rw [he] at hN
  simp only [Result.andThen] at hN
  clear hj hjs hsh he h
  go_enter Tryz.func69, Tryz.ntmps69
  go_wp2
  go_end0
  exact ⟨rfl, rfl⟩
/-- A builder of the call's own (w0: what was there ahead), which holds these bytes. -/
def SB (w0 w : World) (b : Nat) (l : List UInt8) : Prop := ∃ p v, (p = .pointer none ∨ p = .pointer (some ⟨b, 0, none⟩)) ∧ Blk w b 92 [p, v] ∧ Own w0 w 5 1 v l.length (l.map u8c) ∧ w0.heap.size ≤ b
theorem SB.below {w0 w : World} {b : Nat} {l : List UInt8} (h : SB w0 w b l) : Below w0.heap.size w0 w := by obtain ⟨p, v, _, _, h, _⟩ := h; exact h.2
theorem SB.gr {w0 w w' : World} {b : Nat} {l : List UInt8} (h : SB w0 w b l) (hg : Gr w w') : SB w0 w' b l := by
  obtain ⟨p, v, hp, hb, ho, hl⟩ := h
  exact ⟨p, v, hp, hg.blk hb, ho.mono hg, hl⟩
/-- Blocks of cells that are neither bytes nor a builder stay. -/
def FB (w w' : World) : Prop := ∀ g t cs, t ≠ 5 → t ≠ 92 → Blk w g t cs → Blk w' g t cs
theorem FB.gr {w w' : World} (h : Gr w w') : FB w w' := fun g t cs _ _ hb => h.blk hb
theorem FB.trans {a b c : World} (h : FB a b) (k : FB b c) : FB a c := fun g t cs h1 h2 hb => k g t cs h1 h2 (h g t cs h1 h2 hb)
theorem FB.set {w : World} {b i : Nat} {cs : List Value} (h : Blk w b 92 cs) (v : Value) : FB w (w.setCell ⟨b, i, none⟩ v) := fun g t ds _ h2 hb => hb.far (fun e => by
  have e' : g = b := e
  subst e'
  unfold Blk at h hb
  rw [h] at hb
  injection hb with hb
  injection hb with _ hb
  exact h2 hb.symm) v
theorem FB.grown {w0 w w' : World} {v : Value} {n : Nat} {xs : List Value} (ho : Own w0 w 5 1 v n xs) (hg : w.grownBy w' v.ownBlock) : FB w w' := fun g t cs h1 _ hb => (hg.block g hb.lt (fun e => ho.not_blk hb (fun q => h1 q.symm) e.symm)).trans hb
theorem strCells_u8 (s : ByteArray) : Lib.strCells s = s.data.toList.map u8c := rfl
theorem tBytes' : ElemT Tryz.prog 22 5 (.int .u8 0) 1 1 := ⟨Tryz.underlying22, by kernel_rfl, rfl, by decide, by decide⟩
theorem sbCheck_any (w0 : World) (b : Nat) (l : List UInt8) (w : World) (h : SB w0 w b l) :
    Calls Tryz.prog 69 #[.pointer (some ⟨b, 0, none⟩)] w fun e w' => e = .returned (.tuple #[]) ∧ FB w w' ∧ ∃ v, Blk w' b 92 [.pointer (some ⟨b, 0, none⟩), v] ∧ Own w0 w' 5 1 v l.length (l.map u8c) ∧ w0.heap.size ≤ b := by
  obtain ⟨p, v, rfl | rfl, hb, ho, hl⟩ := h
  · refine (sbFresh_any b v w hb).mono ?_
    rintro e w' ⟨rfl, rfl⟩
    have t : Tch (fun x => x = b) w (w.setCell ⟨b, 0, none⟩ (.pointer (some ⟨b, 0, none⟩))) := Tch.set _ _ rfl
    exact ⟨rfl, FB.set hb _, v, hb.set 0 _, ho.tch t (fun x e => by omega) (fun x hx e => by subst e; exact ho.not_blk hb (by decide) hx), hl⟩
  · refine (sbUsed_any b w ((hb.cell 0).trans rfl)).mono ?_
    rintro e w' ⟨rfl, rfl⟩
    exact ⟨rfl, FB.gr (Gr.refl _), v, hb, ho, hl⟩
set_option maxRecDepth 100000 in
set_option maxHeartbeats 1000000 in
theorem sbWrite_any (w0 : World) (b : Nat) (l : List UInt8) (s : ByteArray) (w : World) (h : SB w0 w b l) (hs : l.length + s.size ≤ 1000000000) :
    Calls Tryz.prog 43 #[.pointer (some ⟨b, 0, none⟩), .string s] w fun e w' => e = .returned (.tuple #[.int .i64 s.size, .nilIface]) ∧ SB w0 w' b (l ++ s.data.toList) ∧ FB w w' := by
  obtain ⟨i0, hi, hz, hsz, hby⟩ := info_parts tBytes'.info
  have HC := Lib.hid (sbCheck_any w0 b l w h)
  clear h
  go_enter Tryz.func43, Tryz.ntmps43
  go_wp2_with fail
  refine HC.out.mono ?_
  rintro e w1 ⟨rfl, fb, v, hb, ho, hl⟩
  have F1 := Lib.hid fb; clear fb
  have c1 : w1.cell? ⟨b, 1, none⟩ = some v := (hb.cell 1).trans rfl
  have OW := Lib.hid ho; have BK := Lib.hid hb
  clear hb ho
  go_wp2_with (at_builtin; refine Lib.wpList_append_own_string _ rfl _ _ 22 9 rfl w0.heap.size 5 i0 Tryz.underlying22 Tryz.underlying9 hi hz hsz hby _ _ _ rfl OW.out.1 s rfl ?c3 ?c4 ?c5 ?_)
  case c3 => unfold maxLen; omega
  case c4 => omega
  case c5 => exact OW.out.2.size
  intro v' w2 own' grow' _
  have hbel : Below w0.heap.size w0 w2 := OW.out.2.grown grow' OW.out.2.size (fun k hk => (OW.out.1.lt k hk).1)
  have b2 : Blk w2 b 92 [.pointer (some ⟨b, 0, none⟩), v] := (grow'.block b BK.out.lt (fun e => OW.out.not_blk BK.out (by decide) e.symm)).trans BK.out
  have d1 : w2.cell? ⟨b, 1, none⟩ = some v := (b2.cell 1).trans rfl
  have y1 := b2.free 1
  have hlt := b2.lt
  have O2 : Hid (Own w0 w2 5 1 v' (l ++ s.data.toList).length ((l ++ s.data.toList).map u8c)) := by
    show Own _ _ _ _ _ _ _
    rw [List.map_append, List.length_append]
    exact ⟨by simpa [strCells_u8] using own', hbel⟩
  have B2 := Lib.hid b2
  have F2 := Lib.hid (F1.out.trans (FB.grown OW.out grow'))
  obtain ⟨A3, c3, rfl, _⟩ := O2.out.slice
  clear own' grow' hbel b2 c1
  go_wp2_with fail
  go_ret2
  have t : Tch (fun x => x = b) w2 (w2.setCell ⟨b, 1, none⟩ (.slice A3 (l ++ s.data.toList).length c3)) := Tch.set _ _ rfl
  have el : l.length + s.size = (l ++ s.data.toList).length := by rw [List.length_append]; rfl
  rw [el]
  exact ⟨rfl, ⟨_, _, .inr rfl, B2.out.set 1 _, O2.out.tch t (fun x e => by omega) (fun x hx e => by subst e; exact O2.out.not_blk B2.out (by decide) hx), hl⟩, F2.out.trans (FB.set B2.out _)⟩
end Go.Proofs.YtadenlhnfkccaaaGreatDoor

/- Lines of scripts: rows of lines; Write. No condition. -/
namespace Go.Proofs.YtadenlhnfkccaaaGreatDoor
open Go.RowKit
set_option linter.unusedVariables false
set_option linter.unusedSimpArgs false
theorem SB.libY {w0 w : World} {b : Nat} {l : List UInt8} (h : SB w0 w b l) : Lib.IsBuilder 92 5 w0.heap.size b (Lib.byteCells l) w := by
  obtain ⟨p, v, hp, hb, ho, hl⟩ := h
  have e : (Lib.byteCells l).length = l.length := Lib.byteCells_length l
  have hat : Lib.BuilderAt 92 5 w0.heap.size b p (Lib.byteCells l) w := ⟨hl, v, hb, by rw [e]; exact ho.1, ho.not_blk hb (by decide)⟩
  rcases hp with rfl | rfl
  · exact .inl hat
  · exact .inr hat
theorem sbStringY (w0 : World) (b : Nat) (l : List UInt8) (w : World) (h : SB w0 w b l) :
    Calls Tryz.prog 44 #[.pointer (some ⟨b, 0, none⟩)] w fun e w' => e = .returned (.string ⟨l.toArray⟩) ∧ Below w0.heap.size w0 w' := by
  refine (Tryz.Builder_String_any w0.heap.size b l w h.libY h.below.size).mono ?_
  rintro e w' ⟨rfl, hb⟩
  exact ⟨rfl, h.below.trans hb⟩
/-- A row of lines. -/
def Lns (w : World) (A : Option Addr) (n c : Nat) (L : List LnV) : Prop := L.length = n ∧ Sl w A n c 17 (L.flatMap LnV.cells) ∧ ∀ x ∈ L, LnAt w x
theorem Lns.gr {w w' : World} {A : Option Addr} {n c : Nat} {L : List LnV} (h : Lns w A n c L) (g : Gr w w') : Lns w' A n c L := ⟨h.1, h.2.1.mono g, fun x hx => (h.2.2 x hx).gr g⟩
theorem flat17 : ∀ (L : List LnV) (i : Nat) (h : i < L.length) (j : Nat), j < 17 → (L.flatMap LnV.cells)[i * 17 + j]? = (L[i]).cells[j]?
  | [], i, h, j, hj => by simp at h
  | x :: L, 0, h, j, hj => by
    rw [List.flatMap_cons, List.getElem?_append_left (by rw [LnV.len]; omega)]
    simp
  | x :: L, i + 1, h, j, hj => by
    rw [List.flatMap_cons, List.getElem?_append_right (by rw [LnV.len]; omega), LnV.len, show (i + 1) * 17 + j - 17 = i * 17 + j by omega]
    exact flat17 L i (by simpa using h) j hj
theorem Lns.at {w : World} {A : Option Addr} {n c : Nat} {L : List LnV} (h : Lns w A n c L) (h0 : 0 < n) : ∃ b o, A = some ⟨b, o, none⟩ ∧ ∀ i (hi : i < L.length), w.rangeAt b (o + i * 17) (L[i]).cells := by
  obtain ⟨b, o, rfl, hc⟩ := Sl.addr h.2.1 h0
  refine ⟨b, o, rfl, fun i hi j v hv => ?_⟩
  have hj : j < 17 := by have := (List.getElem?_eq_some_iff.1 hv).1; rwa [LnV.len] at this
  rw [Nat.add_assoc]
  exact hc (i * 17 + j) v ((flat17 L i hi j hj).trans hv)
theorem ld_ln (w : World) (b o : Nat) (x : LnV) (h : w.rangeAt b o x.cells) : (Instr.loadAt 37 (.pointer (some ⟨b, o, none⟩))).run Tryz.prog w = .ok (.agg x.arr) w :=
  run_loadAt_mid w b o 37 x.cells _ h Tryz.underlying37 rfl lnSize
def lineS (d : LnD) : List UInt8 := (printT d).1 ++ [10]
def writeS (L : List LnD) : List UInt8 := L.flatMap lineS
def writeT (L : List LnD) : List UInt8 × Nat := if L.all (fun d => (printT d).2 == 0) then (writeS L, 0) else ([], 2)
theorem printT_f (d : LnD) : (printT d).2 = 0 ∨ ((printT d).1 = [] ∧ (printT d).2 = 2) := by
  unfold printT
  split
  · exact .inl rfl
  · exact .inr ⟨rfl, rfl⟩
theorem printT_len {d : LnD} (ho : LnOk d) (hop : OpLt d.o) : (printT d).1.length ≤ 20000 := by
  unfold printT
  split
  · exact textT_len ho hop
  · exact Nat.zero_le _
theorem writeS_len {L : List LnD} (h : ∀ d ∈ L, LnOk d ∧ OpLt d.o) : (writeS L).length ≤ L.length * 20001 := by
  induction L with
  | nil => simp [writeS]
  | cons d L ih =>
    have h1 := printT_len (h d List.mem_cons_self).1 (h d List.mem_cons_self).2
    have h2 := ih fun x hx => h x (List.mem_cons_of_mem _ hx)
    simp only [writeS, lineS, List.flatMap_cons, List.length_append, List.length_cons, List.length_nil] at h2 ⊢
    omega
theorem writeS_snoc {L : List LnD} {k : Nat} (h : k < L.length) : writeS (L.take (k + 1)) = writeS (L.take k) ++ ((printT L[k]).1 ++ [10]) := by
  unfold writeS
  rw [List.take_succ_eq_append_getElem h, List.flatMap_append]
  simp [lineS]
set_option maxRecDepth 100000 in
set_option maxHeartbeats 4000000 in
theorem scWrite_any (A : Option Addr) (n c : Nat) (L : List LnV) (w : World) (hL : Lns w A n c L) (hn : n ≤ 3000) (hok : ∀ x ∈ L, LnOk x.d ∧ OpLt x.d.o) (hT : Pow10 w) (hM : MLen w) :
    Calls Tryz.prog 15 #[.slice A n c] w fun e w' => e = .returned (.tuple #[strc (writeT (L.map LnV.d)).1, .int .i64 ((writeT (L.map LnV.d)).2 : Int)]) ∧ Gr w w' := by
  obtain ⟨r, hr⟩ : ∃ r, r = writeT (L.map LnV.d) := ⟨_, rfl⟩
  rw [← hr]
  have HR := Lib.hid hr
  have HPR : Hid (∀ x ∈ L, ∀ wr, Gr w wr → Calls Tryz.prog 7 #[.agg x.arr] wr fun e w' => e = .returned (.tuple #[strc (printT x.d).1, .int .i64 ((printT x.d).2 : Int)]) ∧ Gr wr w') := fun x hx wr g => scPrint_any x wr (hok x hx).1 (hok x hx).2 ((hL.gr g).2.2 x hx) (hT.mono g) (hM.mono g)
  have HLL : Hid (∀ k, (writeS ((L.map LnV.d).take k)).length ≤ n * 20001) := fun k => by
    refine Nat.le_trans (writeS_len (fun d hd => ?_)) (Nat.mul_le_mul_right _ ?_)
    · obtain ⟨x, hx, rfl⟩ := List.mem_map.1 (List.mem_of_mem_take hd)
      exact hok x hx
    · rw [List.length_take, List.length_map, hL.1]; omega
  have HPL : Hid (∀ x ∈ L, (printT x.d).1.length ≤ 20000) := fun x hx => printT_len (hok x hx).1 (hok x hx).2
  have HLN := Lib.hid hL
  have hmax := hL.2.1.max
  have hcap := hL.2.1.cap
  have hln := hL.1
  clear hL hok hT hM hr
  go_enter Tryz.func15, Tryz.ntmps15
  go_wp2_with fail
  have SB0 : Hid (SB w (w.alloc (.cells #[.pointer none, .slice none 0 0] 92)) w.heap.size []) := ⟨_, _, .inl rfl, Blk.new w 92 #[.pointer none, .slice none 0 0], Own.nil' (Gr.alloc w _) _ _, Nat.le_refl _⟩
  go_loopw [11] (fun i wr => ∃ k : Nat, k ≤ n ∧ i = .int .i64 k ∧ SB w wr w.heap.size (writeS ((L.map LnV.d).take k)) ∧ ((L.map LnV.d).take k).all (fun d => (printT d).2 == 0) = true) (fun i _ => n - (intOf i).toNat)
  case atStart => exact ⟨0, Nat.zero_le _, rfl, by simpa [writeS] using SB0.out, rfl⟩
  case round =>
    obtain ⟨k, hk, rfl, sb, ha⟩ := hrel
    have SBK := Lib.hid sb; have HA := Lib.hid ha
    have GW : Hid (Gr w wr) := sb.below
    clear sb ha
    by_cases hlt : k < n
    · obtain ⟨b, o, rfl, hc⟩ := (HLN.out.gr GW.out).at (by omega)
      have hkl : k < L.length := by omega
      have hkd : k < (L.map LnV.d).length := by rw [List.length_map]; omega
      have hde : (L.map LnV.d)[k] = (L[k]).d := by simp
      have HRG := Lib.hid (hc k hkl)
      have HSN := Lib.hid (writeS_snoc hkd)
      have HAL : Hid (((L.map LnV.d).take (k + 1)).all (fun d => (printT d).2 == 0) = (((L.map LnV.d).take k).all (fun d => (printT d).2 == 0) && ((printT (L[k]).d).2 == 0))) := by
        show _ = _
        rw [List.take_succ_eq_append_getElem hkd, List.all_append, hde]; simp
      have HBAD : Hid (((printT (L[k]).d).2 == 0) = false → r = ([], 2)) := fun h => by
        rw [HR.out]
        unfold writeT
        rw [if_neg]
        intro hall
        have := List.all_eq_true.1 hall _ (List.getElem_mem hkd)
        rw [hde, h] at this
        cases this
      have HPC := HPR.out (L[k]) (List.getElem_mem hkl)
      have hpl := HPL.out (L[k]) (List.getElem_mem hkl)
      have hll := HLL.out k
      have hfc := printT_f (L[k]).d
      rw [hde] at HSN
      clear hc hde
      generalize L[k] = x at *
      have HPC := Lib.hid HPC
      have BX : Hid (Blk ((wr.alloc (.cells #[.int .i64 0, .int .i64 0, .string ⟨#[]⟩, .string ⟨#[]⟩, .int .i64 0, .int .i64 0, .int .i64 0, .int .i64 0, .slice none 0 0, .int .i64 0, .slice none 0 0, .int .i64 0, .int .i64 0, .string ⟨#[]⟩, .int .i64 0, .string ⟨#[]⟩, .slice none 0 0] 37)).setRow wr.heap.size x.arr) wr.heap.size 37 x.arr.toList) := setRow_heap _ wr.heap.size _ _ _ _ (heap_alloc_new wr _)
      have GR : Hid (Gr wr ((wr.alloc (.cells #[.int .i64 0, .int .i64 0, .string ⟨#[]⟩, .string ⟨#[]⟩, .int .i64 0, .int .i64 0, .int .i64 0, .int .i64 0, .slice none 0 0, .int .i64 0, .slice none 0 0, .int .i64 0, .int .i64 0, .string ⟨#[]⟩, .int .i64 0, .string ⟨#[]⟩, .slice none 0 0] 37)).setRow wr.heap.size x.arr)) := below_row39 ((Below.refl _ _).alloc (Nat.le_refl _) _) (Nat.le_refl _) _
      have HPD := Lib.hid (HPC.out _ (GW.out.trans GR.out))
      obtain ⟨pl, hpe⟩ : ∃ pl, pl = printT x.d := ⟨_, rfl⟩
      rw [← hpe] at HPD HSN HAL HBAD hpl hfc
      obtain ⟨pt, pf⟩ := pl
      simp only at HPD HSN HAL HBAD hpl hfc
      obtain ⟨s, hs⟩ : ∃ s : ByteArray, s = ⟨pt.toArray⟩ := ⟨_, rfl⟩
      have hsz : s.size = pt.length := by rw [hs]; exact size_of' _
      rw [show strc pt = .string s by rw [hs]; rfl] at HPD
      have HSD : Hid ((s ++ ⟨#[10]⟩).data.toList = pt ++ [10]) := by show _ = _; rw [hs]; simp
      have hz2 : (s ++ ⟨#[10]⟩).size = s.size + 1 := by rw [ByteArray.size_append]; rfl
      have HZ2 := Lib.hid hz2
      have hll2 := hll
      clear hpe hs hz2 HPC hll
      have hnn : n * 20001 ≤ 3000 * 20001 := Nat.mul_le_mul_right _ hn
      have l1 : ¬ 9223372036854775807 < s.size + 1 := by omega
      by_cases hf : pf = 0
      · have tf : ((pf : Int) != 0) = false := by rw [hf]; rfl
        have HA2 : Hid (((L.map LnV.d).take (k + 1)).all (fun d => (printT d).2 == 0) = true) := by show _ = _; rw [HAL.out, HA.out, hf]; rfl
        clear hf
        go_wp2_with (first
          | (refine wpList_load_mid rfl 37 (.tmp 13) rfl b (o + k * 17) rfl x.cells _ HRG.out Tryz.underlying37 rfl lnSize ?_)
          | (refine wpList_store_row rfl 37 (.tmp 6) (.tmp 14) rfl wr.heap.size x.arr rfl rfl 37 #[.int .i64 0, .int .i64 0, .string ⟨#[]⟩, .string ⟨#[]⟩, .int .i64 0, .int .i64 0, .int .i64 0, .int .i64 0, .slice none 0 0, .int .i64 0, .slice none 0 0, .int .i64 0, .int .i64 0, .string ⟨#[]⟩, .int .i64 0, .string ⟨#[]⟩, .slice none 0 0] (by exact heap_alloc_new wr _) lnSize rfl (lnOne _) ?_)
          | (refine wpList_load_row rfl 37 (.tmp 6) rfl wr.heap.size rfl 37 x.arr (0, 0) _ BX.out Tryz.underlying37 rfl lnSize ?_))
        refine HPD.out.mono ?_
        rintro e w2 ⟨rfl, g2⟩
        have SB2 := Lib.hid ((SBK.out.gr GR.out).gr g2)
        have HW := Lib.hid (sbWrite_any w w.heap.size _ (s ++ ⟨#[10]⟩) w2 SB2.out (by have := HZ2.out; omega))
        clear g2
        go_wp2_with fail
        refine HW.out.mono ?_
        rintro e w3 ⟨rfl, sb3, _⟩
        have SB3 : Hid (SB w w3 w.heap.size (writeS ((L.map LnV.d).take (k + 1)))) := by
          show SB _ _ _ _
          rw [HSN.out, ← HSD.out]
          exact sb3
        clear sb3
        go_wp2_with fail
        refine ⟨⟨k + 1, by omega, by first | trivial | go_num, SB3.out, HA2.out⟩, ?_⟩
        show n - ((k : Int) + 1).toNat < n - (k : Int).toNat
        omega
      · have tf : ((pf : Int) != 0) = true := bne_iff_ne.2 (by omega)
        have HF := Lib.hid (HBAD.out (beq_false_of_ne hf))
        have hf2 : pf = 2 := by
          rcases hfc with h | h
          · exact absurd h hf
          · exact h.2
        have HF2 := Lib.hid hf2
        clear hf hfc hf2
        go_wp2_with (first
          | (refine wpList_load_mid rfl 37 (.tmp 13) rfl b (o + k * 17) rfl x.cells _ HRG.out Tryz.underlying37 rfl lnSize ?_)
          | (refine wpList_store_row rfl 37 (.tmp 6) (.tmp 14) rfl wr.heap.size x.arr rfl rfl 37 #[.int .i64 0, .int .i64 0, .string ⟨#[]⟩, .string ⟨#[]⟩, .int .i64 0, .int .i64 0, .int .i64 0, .int .i64 0, .slice none 0 0, .int .i64 0, .slice none 0 0, .int .i64 0, .int .i64 0, .string ⟨#[]⟩, .int .i64 0, .string ⟨#[]⟩, .slice none 0 0] (by exact heap_alloc_new wr _) lnSize rfl (lnOne _) ?_)
          | (refine wpList_load_row rfl 37 (.tmp 6) rfl wr.heap.size rfl 37 x.arr (0, 0) _ BX.out Tryz.underlying37 rfl lnSize ?_))
        refine HPD.out.mono ?_
        rintro e w2 ⟨rfl, g2⟩
        have G2 := Lib.hid ((GW.out.trans GR.out).trans g2)
        clear g2
        go_wp2_with fail
        go_ret2
        exact ⟨by rw [HF.out, HF2.out]; rfl, G2.out⟩
    · obtain rfl : k = n := by omega
      have htk : (L.map LnV.d).take k = L.map LnV.d := List.take_of_length_le (by rw [List.length_map]; omega)
      rw [htk] at SBK HA
      have HF : Hid (r = (writeS (L.map LnV.d), 0)) := by show _ = _; rw [HR.out]; unfold writeT; rw [if_pos HA.out]
      have HS := Lib.hid (sbStringY w w.heap.size _ wr SBK.out)
      clear htk
      go_wp2_with fail
      refine HS.out.mono ?_
      rintro e w2 ⟨rfl, g2⟩
      have G2 : Hid (Gr w w2) := g2
      clear g2
      go_wp2_with fail
      go_ret2
      exact ⟨by rw [HF.out]; rfl, G2.out⟩
end Go.Proofs.YtadenlhnfkccaaaGreatDoor

/- A range over the pieces of a text between signs. No condition. -/
namespace Go.Proofs.YtadenlhnfkccaaaGreatDoor
open Go.RowKit Go.Shelf
attribute [local go_sem] Oper.semAt_some
set_option linter.unusedVariables false
/-- How long the text is that stands in a box. -/
def textLen (w : World) (b : Nat) : Nat := match w.cell? ⟨b, 0, none⟩ with
  | some (.string t) => t.size
  | _ => 0
theorem textLen_of {w : World} {b : Nat} {t : ByteArray} (h : w.cell? ⟨b, 0, none⟩ = some (.string t)) : textLen w b = t.size := by unfold textLen; rw [h]
/-- Three boxes are as they were. -/
def K3 (Bs Bp Bn : Nat) (A A' : World) : Prop := ∀ b, b = Bs ∨ b = Bp ∨ b = Bn → A'.heap[b]? = A.heap[b]?
theorem K3.refl (Bs Bp Bn : Nat) (A : World) : K3 Bs Bp Bn A A := fun _ _ => rfl
theorem K3.trans {Bs Bp Bn : Nat} {A B C : World} (h : K3 Bs Bp Bn A B) (k : K3 Bs Bp Bn B C) : K3 Bs Bp Bn A C := fun b hb => (k b hb).trans (h b hb)
theorem take_text (l : List UInt8) (s : ByteArray) (hs : s = ⟨l.toArray⟩) (k : Nat) : s.extract 0 k = ⟨(l.take k).toArray⟩ := by
  subst hs
  apply ByteArray.ext
  simp [ByteArray.extract, ByteArray.copySlice]
theorem blk_cell0 {w : World} {b : Nat} {t : TypeId} {v : Value} (h : Blk w b t [v]) : w.cell? ⟨b, 0, none⟩ = some v := (h.cell 0).trans rfl
set_option maxRecDepth 100000 in
set_option maxHeartbeats 2000000 in
theorem splitR_in (n : Nat) (hn : 1 ≤ n) (q Bs Bp Bn : Nat) (hsp : Bs ≠ Bp) (hsn : Bs ≠ Bn) (l : List UInt8) (hl : l.length ≤ 100000) (J Jx : List (List UInt8) → World → Prop)
    (hJs : ∀ s A v, J s A → Bs < A.heap.size → J s (A.setCell ⟨Bs, 0, none⟩ v))
    (hY : ∀ pre x W, J pre W → (∃ rest, pre ++ x :: rest = cutL 10 l) → YieldAt Fence.wide (n - 1) Tryz.prog q #[strc x] W fun e W' =>
      (e = .returned (.bool true) ∧ J (pre ++ [x]) W' ∧ K3 Bs Bp Bn W W') ∨ (e = .returned (.bool false) ∧ Jx (pre ++ [x]) W'))
    (W : World) (hBs : Blk W Bs 9 [strc l]) (hBp : Blk W Bp 9 [strc [10]]) (hBn : Blk W Bn 3 [.int .i64 0]) (h0 : J [] W) :
    CallsIn Fence.wide n Tryz.prog 90 #[.func (.yield q) #[] #[], .pointer (some ⟨Bp, 0, none⟩), .pointer (some ⟨Bs, 0, none⟩), .pointer (some ⟨Bn, 0, none⟩)] W fun e W' => (∃ v, e = .returned v) ∧
      (J (cutL 10 l) W' ∨ ∃ pre, (∃ rest, pre ++ rest = cutL 10 l) ∧ Jx pre W') := by
  refine callsIn_of_wp Tryz.func90 rfl trivial ?_ rfl
  simp only [Tryz.ntmps90, List.size_toArray, List.length_cons, List.length_nil, Nat.reduceAdd, Nat.reduceSub, Array.replicate_succ, Array.replicate_zero, List.push_toArray, List.append_toArray, List.nil_append, List.cons_append]
  have cp : W.cell? ⟨Bp, 0, none⟩ = some (.string ⟨#[10]⟩) := blk_cell0 hBp
  have HJS := Lib.hid hJs; have HYY := Lib.hid hY
  have HL : Hid (l.length ≤ 100000) := hl
  clear hJs hY hl
  gi_wp2
  clear cp
  gi_loopw [7] (fun i wr => ∃ (pre : List (List UInt8)) (m : List UInt8), pre ++ cutL 10 m = cutL 10 l ∧ m.length ≤ 100000 ∧ Blk wr Bs 9 [strc m] ∧ Blk wr Bp 9 [strc [10]] ∧ Blk wr Bn 3 [.int .i64 0] ∧ J pre wr) (fun _ wr => textLen wr Bs)
  case atStart => exact ⟨[], l, rfl, HL.out, hBs, hBp, hBn, h0⟩
  case round =>
    obtain ⟨pre, m, hpm, hm, bs, bp, bn, hJ⟩ := hrel
    have BS := Lib.hid bs; have BP := Lib.hid bp; have BN := Lib.hid bn; have HJ := Lib.hid hJ; have HPM := Lib.hid hpm
    clear bs bp bn hJ hpm
    obtain ⟨t, ht⟩ : ∃ t : ByteArray, t = ⟨m.toArray⟩ := ⟨_, rfl⟩
    have htz : t.size = m.length := by rw [ht]; exact size_of' m
    have htd : t.data.toList = m := by rw [ht]
    have cs : wr.cell? ⟨Bs, 0, none⟩ = some (.string t) := by rw [ht]; exact blk_cell0 BS.out
    have cp : wr.cell? ⟨Bp, 0, none⟩ = some (.string ⟨#[10]⟩) := blk_cell0 BP.out
    have cn : wr.cell? ⟨Bn, 0, none⟩ = some (.int .i64 0) := blk_cell0 BN.out
    have hix := Tryz.strings_Index_one t 10 wr
    rw [htd] at hix
    have HT := Lib.hid ht; have HTZ := Lib.hid htz
    have hts : t.size ≤ 100000 := by omega
    clear ht htz htd
    rcases cut_index 10 m _ rfl with ⟨hi, hp1⟩ | ⟨k, hi, hk, hp1⟩
    · rw [hi] at hix
      have HIX := Lib.hid hix
      clear hix hi
      have hfin : pre ++ [m] = cutL 10 l := by rw [← hp1]; exact HPM.out
      obtain ⟨fn, tmps, assign, body, hy, hR⟩ := HYY.out pre m wr HJ.out ⟨[], hfin⟩
      rw [hfin] at hR
      have hy : (Instr.yield q #[.string t]).run Tryz.prog wr = .ok (.round q fn tmps assign body) wr := by rw [HT.out]; exact hy
      have HRR := Lib.hid hR
      clear hfin hR hp1
      gi_wp2_with (refine ⟨trivial, ?_⟩; gi_at_call 81; refine (callsIn_wide.2 HIX.out).mono ?_; rintro e w6 ⟨rfl, rfl⟩)
      refine HRR.out.mono ?_
      rintro e W3 (⟨rfl, hJ3, hk3⟩ | ⟨rfl, hJx3⟩)
      · gi_wp2
        go_end0
        exact ⟨⟨_, rfl⟩, .inl hJ3⟩
      · gi_wp2
        go_end0
        exact ⟨⟨_, rfl⟩, .inr ⟨_, ⟨[], List.append_nil _⟩, hJx3⟩⟩
    · rw [hi] at hix
      have HIX := Lib.hid hix
      clear hix hi
      have hfin : pre ++ m.take k :: cutL 10 (m.drop (k + 1)) = cutL 10 l := by rw [← hp1]; exact HPM.out
      obtain ⟨fn, tmps, assign, body, hy, hR⟩ := HYY.out pre (m.take k) wr HJ.out ⟨_, hfin⟩
      have hy : (Instr.yield q #[.string (t.extract 0 k)]).run Tryz.prog wr = .ok (.round q fn tmps assign body) wr := by rw [take_text m t HT.out k]; exact hy
      have HRR := Lib.hid hR
      have HFI := Lib.hid hfin
      have HDR := Lib.hid (drop_text m t HT.out (k + 1))
      have hkz : k < t.size := by have := HTZ.out; omega
      clear hfin hR hp1
      gi_wp2_with (refine ⟨trivial, ?_⟩; gi_at_call 81; refine (callsIn_wide.2 HIX.out).mono ?_; rintro e w6 ⟨rfl, rfl⟩)
      refine HRR.out.mono ?_
      rintro e W3 (⟨rfl, hJ3, hk3⟩ | ⟨rfl, hJx3⟩)
      · have bs3 : Blk W3 Bs 9 [strc m] := (hk3 Bs (.inl rfl)).trans BS.out
        have bp3 : Blk W3 Bp 9 [strc [10]] := (hk3 Bp (.inr (.inl rfl))).trans BP.out
        have bn3 : Blk W3 Bn 3 [.int .i64 0] := (hk3 Bn (.inr (.inr rfl))).trans BN.out
        have cs3 : W3.cell? ⟨Bs, 0, none⟩ = some (.string t) := by rw [HT.out]; exact blk_cell0 bs3
        have cp3 : W3.cell? ⟨Bp, 0, none⟩ = some (.string ⟨#[10]⟩) := blk_cell0 bp3
        have fs3 := bs3.free 0
        have ls3 := bs3.lt
        have HJ3 := Lib.hid hJ3
        have BS3 := Lib.hid bs3; have BP3 := Lib.hid bp3; have BN3 := Lib.hid bn3
        clear hk3 bs3 bp3 bn3 hJ3 cs cp cn hy
        gi_wp2
        have bs4 := BS3.out.set 0 (.string (t.extract (k + 1) t.size))
        rw [HDR.out] at bs4 ⊢
        have bs4 : Blk (W3.setCell ⟨Bs, 0, none⟩ (.string ⟨(m.drop (k + 1)).toArray⟩)) Bs 9 [strc (m.drop (k + 1))] := bs4
        refine ⟨⟨pre ++ [m.take k], m.drop (k + 1), ?_, ?_, bs4, BP3.out.far (p := ⟨Bs, 0, none⟩) (Ne.symm hsp) _, BN3.out.far (p := ⟨Bs, 0, none⟩) (Ne.symm hsn) _, HJS.out _ _ _ HJ3.out ls3⟩, ?_⟩
        · rw [List.append_assoc]; exact HFI.out
        · rw [List.length_drop]; omega
        · rw [textLen_of (blk_cell0 BS.out), textLen_of (blk_cell0 bs4), size_of', size_of', List.length_drop]
          omega
      · gi_wp2
        refine bodyPost_ret (results_none rfl _ _ _) rfl ?_
        exact ⟨⟨_, rfl⟩, .inr ⟨_, ⟨cutL 10 (m.drop (k + 1)), by rw [List.append_assoc]; exact HFI.out⟩, hJx3⟩⟩
/-- How a round may be left: off its end, or by a return. -/
def boxPost {α : Type} (Kp : World → World → Prop) (I Ix : List α → World → Prop) (xs : List α) (W : World) : Exit → Act → World → Prop
  | .normal, _, W' => KeepsOthers W W' ∧ Kp W W' ∧ I xs W'
  | .ret, _, W' => KeepsOthers W W' ∧ Ix xs W'
  | _, _, _ => False
/-- The loop's record and the block for deferred calls lie where they were laid. -/
structure Laid (L : Nat) (r : Loop) (W : World) : Prop where
  loop : W.heap[L + 1]? = some (.loop r)
  defer : W.heap[L]? = some (.deferred (some []))
theorem Laid.put {L : Nat} {r r' : Loop} {W : World} (h : Laid L r W) : Laid L r' (W.putObj (L + 1) (.loop r')) :=
  ⟨World.putObj_heap_same (Array.getElem?_eq_some_iff.1 h.loop).1, (World.putObj_heap_other (by omega)).trans h.defer⟩
theorem Laid.keep {L : Nat} {r : Loop} {W W' : World} (h : Laid L r W) (k : KeepsOthers W W') : Laid L r W' := ⟨k.same _ _ h.loop rfl, k.same _ _ h.defer rfl⟩
theorem Laid.set {L B : Nat} {r : Loop} {W : World} (h : Laid L r W) (v : Value) : Laid L r (W.setCell ⟨B, 0, none⟩ v) := h.keep (KeepsOthers.setCell _ _ _)
set_option maxHeartbeats 400000 in
theorem range_box {P : Program} {α : Type} {g : Operand} {p : Tmp} {assign body : Code} {Q : Exit → Act → World → Prop} {a : Act} {w : World} {n : Nat} (h1 : 1 ≤ n)
    {gf : Nat} {lb : Array Value} (hg : a.eval g = .func (.func gf) #[] lb) (eg : ∀ args w, (callFunc gf args).run P w = .ok (.enter gf args) w)
    (enc : α → Value) (Kp : World → World → Prop) (hKt : ∀ A B C, Kp A B → Kp B C → Kp A C) (hKp : ∀ W l o, w.heap.size ≤ l → Kp W (W.putObj l o))
    (S Sp : List α → Prop) (B : Nat) (ok : List α → α → Prop)
    (hseq : ∀ (q : Nat) (J Jx : List α → World → Prop) (W : World), Gr w W → (∀ s A v, J s A → B < A.heap.size → J s (A.setCell ⟨B, 0, none⟩ v)) →
      (∀ pre x A, J pre A → ok pre x → YieldAt Fence.wide (n - 1 - 1) P q #[enc x] A fun e A' => (e = .returned (.bool true) ∧ J (pre ++ [x]) A' ∧ Kp A A') ∨ (e = .returned (.bool false) ∧ Jx (pre ++ [x]) A')) → J [] W →
      CallsIn Fence.wide (n - 1) P gf (#[.func (.yield q) #[] #[]] ++ lb) W fun e W' => (∃ v, e = .returned v) ∧ ((∃ xs, S xs ∧ J xs W') ∨ ∃ pre, Sp pre ∧ Jx pre W'))
    (I Ix : List α → World → Prop) (hIa : ∀ s W o, I s W → I s (W.alloc o))
    (hIp : ∀ s W l o o', I s W → w.heap.size ≤ l → W.heap[l]? = some o → o.isCells = false → I s (W.putObj l o'))
    (hXp : ∀ s W l o o', Ix s W → w.heap.size ≤ l → W.heap[l]? = some o → o.isCells = false → Ix s (W.putObj l o'))
    (hIs : ∀ s W v, I s W → I s (W.setCell ⟨B, 0, none⟩ v)) (h0 : I [] w) (a₁ : α → Act)
    (hassign : ∀ (q : Nat) (x : α) (W : World) (K : Act → World → Prop), K (a₁ x) W →
      assign.wpIn (Fence.wide.inRound q) (n - 1 - 1) P (Exit.then K (fun _ _ _ => False)) { tmps := (#[p].zip #[enc x]).foldl (fun t (p, v) => t.setIfInBounds p v) a.tmps, defers := [] } W)
    (hbody : ∀ (q : Nat) (pre : List α) (x : α) (W : World), I pre W → ok pre x → body.wpIn (Fence.wide.inRound q) (n - 1 - 1) P (boxPost Kp I Ix (pre ++ [x]) W) (a₁ x) W)
    (hdone : ∀ (D : Nat) (xs : List α) (W : World), w.heap.size ≤ D → S xs → I xs W → W.heap[D]? = some (.deferred (some [])) → Q .normal { a with defers := { target := .collected D, args := #[] } :: a.defers } W)
    (hstop : ∀ (D : Nat) (pre : List α) (W : World), w.heap.size ≤ D → Sp pre → Ix pre W → W.heap[D]? = some (.deferred (some [])) → Code.ret.wpIn Fence.wide n P Q { a with defers := { target := .collected D, args := #[] } :: a.defers } W) :
    (Code.rangeFunc g #[p] assign body).wpIn Fence.wide n P Q a w := by
  refine wpIn_rangeFunc fun fn hfn => ?_
  rw [show Fence.wide.round = none from rfl]
  obtain ⟨L, hL⟩ : ∃ L, L = w.heap.size := ⟨_, rfl⟩
  obtain ⟨rc, hrc⟩ : ∃ rc : LoopState → Option Code → Loop, rc = fun st pe => { state := st, pending := pe, fn, tmps := a.tmps, params := #[p], assign, body, defers := L } := ⟨_, rfl⟩
  obtain ⟨W1, hW1⟩ : ∃ W1, W1 = (w.alloc (.deferred (some []))).alloc (.loop (rc .ready none)) := ⟨_, rfl⟩
  have lay : Laid L (rc .ready none) W1 := by
    refine ⟨?_, ?_⟩
    · rw [hW1, hL]
      have := World.alloc_heap_new (w.alloc (.deferred (some []))) (.loop (rc .ready none))
      rwa [World.size_alloc] at this
    · rw [hW1, hL]
      exact (Below.heap_alloc _ _ _ (by simp)).trans (World.alloc_heap_new w _)
  have gW1 : Gr w W1 := by rw [hW1]; exact (Gr.alloc w _).trans (Gr.alloc _ _)
  have rdy : (rc .ready none).state = .ready := by rw [hrc]
  have call := hseq (L + 1) (fun pre W => I pre W ∧ Laid L (rc .ready none) W) (fun pre W => Ix pre W ∧ Laid L (rc .done (some .ret)) W) W1 gW1
    (fun s A v h _ => ⟨hIs s A v h.1, h.2.set v⟩)
    (by
      rintro pre x A ⟨hi, hl⟩ hok
      have hy := run_yield (P := P) (args := #[enc x]) hl.loop (by rw [hrc]; rfl)
      rw [hrc] at hy
      refine ⟨fn, _, assign, body, hy, roundIn_of_wpIn hfn (hassign _ x A _ ⟨_, run_beginRound hl.loop rdy, ?_⟩)⟩
      obtain ⟨A2, hA2⟩ : ∃ A2, A2 = A.putObj (L + 1) (.loop { rc .ready none with state := .busy }) := ⟨_, rfl⟩
      have hl2 : Laid L { rc .ready none with state := .busy } A2 := by rw [hA2]; exact hl.put
      have hk2 : Kp A A2 := by rw [hA2]; exact hKp _ _ _ (by omega)
      have hi2 : I pre A2 := by rw [hA2]; exact hIp _ _ _ _ _ hi (by omega) hl.loop rfl
      rw [← hA2]
      refine wpIn_mono (hbody _ pre x A2 hi2 hok) ?_
      rintro e a3 A3 hp
      cases e with
      | normal =>
        obtain ⟨hk3, hkp3, hi3⟩ := hp
        have hl3 := hl2.keep hk3
        have hr := run_endRound (P := P) none hl3.loop
        refine ⟨_, _, hr, .inl ⟨rfl, ⟨hIp _ _ _ _ _ hi3 (by omega) hl3.loop rfl, ?_⟩, hKt _ _ _ (hKt _ _ _ hk2 hkp3) (hKp _ _ _ (by omega))⟩⟩
        have := hl3.put (r' := rc .ready none)
        rw [hrc] at this ⊢
        exact this
      | ret =>
        obtain ⟨hk3, hi3⟩ := hp
        have hl3 := hl2.keep hk3
        have hr := run_endRound (P := P) (some .ret) hl3.loop
        refine ⟨_, _, hr, .inr ⟨rfl, hXp _ _ _ _ _ hi3 (by omega) hl3.loop rfl, ?_⟩⟩
        have := hl3.put (r' := rc .done (some .ret))
        rw [hrc] at this ⊢
        exact this
      | exit id => exact hp.elim
      | goto t => exact hp.elim
      | panic ch => exact hp.elim
      | outgrown => exact hp.elim)
    ⟨by rw [hW1]; exact hIa _ _ _ (hIa _ _ _ h0), lay⟩
  refine ⟨L + 1, [{ target := .collected L, args := #[] }], W1, { target := .fn (.func gf) lb, args := #[.func (.yield (L + 1)) #[] #[]] }, W1, gf,
    #[.func (.yield (L + 1)) #[] #[]] ++ lb, W1, ?_, ?_, ?_, ?_, ?_, ?_⟩
  · rw [hW1, hrc, hL]; exact run_enterLoop_outer _ _ _ _ _
  · simp only [resolve, hg]
    simp [go_sem]
  · exact fun _ _ => trivial
  · simp [invoke, go_sem, eg]
  · exact fun _ => h1
  · refine call.mono ?_
    rintro e W2 ⟨⟨v, rfl⟩, (⟨xs, hS, hi, hl⟩ | ⟨pre, hSp, hx, hl⟩)⟩
    · refine ⟨none, W2.putObj (L + 1) (.loop { rc .ready none with state := .exhausted }), ?_, hdone L xs _ (by omega) hS (hIp _ _ _ _ _ hi (by omega) hl.loop rfl) ((World.putObj_heap_other (by omega)).trans hl.defer)⟩
      have := run_endLoop (P := P) hl.loop (by rw [hrc]; simp)
      rw [hrc] at this ⊢
      exact this
    · refine ⟨some .ret, W2.putObj (L + 1) (.loop { rc .done (some .ret) with state := .exhausted }), ?_, hstop L pre _ (by omega) hSp (hXp _ _ _ _ _ hx (by omega) hl.loop rfl) ((World.putObj_heap_other (by omega)).trans hl.defer)⟩
      have := run_endLoop (P := P) hl.loop (by rw [hrc]; simp)
      rw [hrc] at this ⊢
      exact this
theorem splitseq_in (n : Nat) (hn : 1 ≤ n) (s t : ByteArray) (w : World) :
    CallsIn Fence.wide n Tryz.prog 70 #[.string s, .string t, .int .i64 0] w fun e w' => e = .returned (.func (.func 90) #[] #[.pointer (some ⟨w.heap.size + 1, 0, none⟩), .pointer (some ⟨w.heap.size, 0, none⟩), .pointer (some ⟨w.heap.size + 2, 0, none⟩)]) ∧ w' = ((w.alloc (.cells #[.string s] 9)).alloc (.cells #[.string t] 9)).alloc (.cells #[.int .i64 0] 3) := by
  refine callsIn_of_wp Tryz.func70 rfl trivial ?_ rfl
  simp only [Tryz.ntmps70, List.size_toArray, List.length_cons, List.length_nil, Nat.reduceAdd, Nat.reduceSub, Array.replicate_succ, Array.replicate_zero, List.push_toArray, List.append_toArray, List.nil_append, List.cons_append]
  gi_wp2
  go_ret
  exact ⟨rfl, rfl⟩
theorem splitSeq_in (n : Nat) (hn : 2 ≤ n) (s t : ByteArray) (w : World) :
    CallsIn Fence.wide n Tryz.prog 45 #[.string s, .string t] w fun e w' => e = .returned (.func (.func 90) #[] #[.pointer (some ⟨w.heap.size + 1, 0, none⟩), .pointer (some ⟨w.heap.size, 0, none⟩), .pointer (some ⟨w.heap.size + 2, 0, none⟩)]) ∧ w' = ((w.alloc (.cells #[.string s] 9)).alloc (.cells #[.string t] 9)).alloc (.cells #[.int .i64 0] 3) := by
  have H := Lib.hid (fun w => splitseq_in (n - 1) (by omega) s t w)
  have hn1 : 1 ≤ n := by omega
  refine callsIn_of_wp Tryz.func45 rfl trivial ?_ rfl
  simp only [Tryz.ntmps45, List.size_toArray, List.length_cons, List.length_nil, Nat.reduceAdd, Nat.reduceSub, Array.replicate_succ, Array.replicate_zero, List.push_toArray, List.append_toArray, List.nil_append, List.cons_append]
  gi_wp2_with (refine ⟨trivial, ?_⟩; gi_at_call 70; refine (H.out _).mono ?_; rintro e w6 ⟨rfl, rfl⟩)
  go_ret
  exact ⟨rfl, rfl⟩
theorem gr_put {w W : World} (h : Gr w W) (q : Nat) (o : Obj) (hq : w.heap.size ≤ q) : Gr w (W.putObj q o) := Below.grown h (grownBy_putObj' W q o) (Below.size h) (fun k e => by cases e; exact hq)
theorem blk_put {w : World} {g q : Nat} {t : TypeId} {cs : List Value} (h : Blk w g t cs) (hne : g ≠ q) (o : Obj) : Blk (w.putObj q o) g t cs := (World.putObj_heap_other hne).trans h
theorem keeps_gr {W W' : World} (h : Gr W W') : KeepsOthers W W' := ⟨h.size, fun k o hk _ => (Below.block h k (Array.getElem?_eq_some_iff.1 hk).1).trans hk⟩
theorem gr_set {w W : World} (h : Gr w W) {b i : Nat} (hb : w.heap.size ≤ b) (v : Value) : Gr w (W.setCell ⟨b, i, none⟩ v) := Below.setCell h (p := ⟨b, i, none⟩) hb v

/-! ### the plain walk inside a round -/
theorem uponIn_of {q n : Nat} {P : Program} {o : Oper} {a : Act} {next next' : Act → World → Prop} {Q : Exit → Act → World → Prop} (hn : ∀ a w, next a w → next' a w) : ∀ {r : Result Next}, o.upon P a next Q r → o.uponIn (Fence.wide.inRound q) n P a next' Q r
  | .ok (.value v) w', h => hn _ _ h
  | .ok .skip w', h => hn _ _ h
  | .ok (.defer d) w', h => hn _ _ h
  | .ok (.enter f args) w', h => ⟨fun hd => (by cases hd), CallsIn.inRound q (callsIn_wide.2 (Calls.mono h fun e w hw => by
      cases e with
      | returned v => exact hn _ _ hw
      | panicked ch => exact hw
      | outgrown => exact hw))⟩
  | .ok (.row row args) w', h => ⟨fun hd => (by cases hd), fun c cs _ => by
      obtain ⟨v, w2, hr, hs⟩ := h c cs
      exact ⟨v, w2, hn _ _ hr, by rw [fenced_inRound]; exact stepsIn_wide.2 hs⟩⟩
  | .halt (.panic v) w', h => h
def noDefer (l : List Oper) : Bool := l.all fun o => match o.op with | .defer _ => false | _ => true
theorem wpListIn_of {q n : Nat} {P : Program} {ops : Array Oper} {Q : Exit → Act → World → Prop} (hq : ¬ LetsOut Q) : ∀ (l : List Oper) (a : Act) (w : World), noDefer l = true → wpList P ops Q l a w → wpListIn (Fence.wide.inRound q) n P ops Q l a w
  | [], a, w, _, h => h
  | o :: l, a, w, hd, h => by
    have hd' : noDefer l = true := by
      unfold noDefer at hd ⊢
      rw [List.all_cons, Bool.and_eq_true] at hd
      exact hd.2
    have ho : ∀ c, o.op ≠ .defer c := by
      intro c hc
      unfold noDefer at hd
      rw [List.all_cons, Bool.and_eq_true, hc] at hd
      exact absurd hd.1 (by simp)
    have ih := wpListIn_of (q := q) (n := n) (P := P) (ops := ops) hq l
    unfold wpList at h
    unfold wpListIn
    split
    · rename_i hw
      rw [if_pos hw] at h
      rcases h with h | ⟨_, h⟩
      · refine ⟨fun f _ => trivial, ?_⟩
        rw [Oper.semAt_plain _ _ _ ho]
        exact uponIn_of (fun a w h => ih a w hd' h) h
      · exact absurd h hq
    · rename_i hw
      rw [if_neg hw] at h
      exact ⟨fun f _ => trivial, ih _ _ hd' h⟩
end Go.Proofs.YtadenlhnfkccaaaGreatDoor

/- Lines of scripts: Read. No condition. -/
namespace Go.Proofs.YtadenlhnfkccaaaGreatDoor
open Go.RowKit Go.Shelf
attribute [local go_sem] Oper.semAt_some
set_option linter.unusedVariables false
set_option linter.unusedSimpArgs false
/-! ### in plain Lean -/
def eatP (ds : List LnD) (x : List UInt8) : List LnD := if x = [] then ds else ds ++ [(parseT x).1]
def pieceOk (x : List UInt8) : Bool := x == [] || (parseT x).2 == 0
def readS (l : List UInt8) : List LnD × Nat × Nat := if (cutL 10 l).all pieceOk then ((cutL 10 l).foldl eatP [], 0, 0) else ([], (cutL 10 l).findIdx (fun x => !pieceOk x) + 1, 3)
theorem findIdx_at {α : Type} (p : α → Bool) : ∀ (a : List α) (x : α) (b : List α), a.all (fun y => !p y) = true → p x = true → (a ++ x :: b).findIdx p = a.length
  | [], x, b, _, hx => by rw [List.nil_append, List.findIdx_cons, hx]; rfl
  | y :: a, x, b, h, hx => by
    rw [List.all_cons, Bool.and_eq_true] at h
    have hy : p y = false := by simpa using h.1
    rw [List.cons_append, List.findIdx_cons, hy, findIdx_at p a x b h.2 hx]
    rfl
theorem readS_bad {l : List UInt8} {p0 : List (List UInt8)} {x : List UInt8} {rest : List (List UInt8)} (h : (p0 ++ [x]) ++ rest = cutL 10 l) (ha : p0.all pieceOk = true) (hx : pieceOk x = false) : readS l = ([], p0.length + 1, 3) := by
  rw [List.append_assoc] at h
  unfold readS
  rw [if_neg, ← h]
  · have := findIdx_at (fun y => !pieceOk y) p0 x rest (by simpa using ha) (by simp [hx])
    rw [List.singleton_append, this]
  · rw [← h]
    simp [hx]
theorem readS_good {l : List UInt8} (ha : (cutL 10 l).all pieceOk = true) : readS l = ((cutL 10 l).foldl eatP [], 0, 0) := if_pos ha
/-! ### the frame -/
/-- A row of the line lies in the block. -/
def RowIn (x : LnV) (b : Nat) : Prop := (∃ q, x.A = some ⟨b, q, none⟩ ∧ 0 < x.d.o.x.length) ∨ (∃ q, x.B = some ⟨b, q, none⟩ ∧ 0 < x.d.p.length) ∨ (∃ q, x.C = some ⟨b, q, none⟩ ∧ 0 < x.d.b.length)
theorem LnAt.tch {S : Nat → Prop} {w w' : World} {x : LnV} (h : LnAt w x) (T : Tch S w w') (hn : ∀ b, RowIn x b → ¬ S b) : LnAt w' x :=
  ⟨Sl.tch h.o (by decide) T (fun h0 b q e => hn b (.inl ⟨q, e, h0⟩)), Sl.tch h.p (by decide) T (fun h0 b q e => hn b (.inr (.inl ⟨q, e, h0⟩))), Sl.tch h.b (by decide) T (fun h0 b q e => hn b (.inr (.inr ⟨q, e, h0⟩)))⟩
theorem sl_cell {w : World} {A : Option Addr} {n c : Nat} {xs : List Value} (h : Sl w A n c 1 xs) (h0 : 0 < n) {b q : Nat} (e : A = some ⟨b, q, none⟩) : ∃ q v, w.cell? ⟨b, q, none⟩ = some v := by
  obtain ⟨h1, _, _, h4⟩ := h
  obtain ⟨b', o', e', hc⟩ := h4 h0
  rw [e] at e'
  injection e' with e'
  injection e' with e1 e2
  subst e1
  exact ⟨_, _, hc 0 _ (List.getElem?_eq_getElem (by omega))⟩
theorem LnAt.cell {w : World} {x : LnV} (h : LnAt w x) {b : Nat} (hb : RowIn x b) : ∃ q v, w.cell? ⟨b, q, none⟩ = some v := by
  rcases hb with ⟨q, e, h0⟩ | ⟨q, e, h0⟩ | ⟨q, e, h0⟩
  · exact sl_cell h.o h0 e
  · exact sl_cell h.p h0 e
  · exact sl_cell h.b h0 e
theorem LnNew.row {w : World} {x : LnV} (h : LnNew w x) {b : Nat} (hb : RowIn x b) : w.heap.size ≤ b := by
  rcases hb with ⟨q, e, h0⟩ | ⟨q, e, h0⟩ | ⟨q, e, h0⟩
  · exact h.o b q e h0
  · exact h.p b q e h0
  · exact h.b b q e h0
/-- What has been read. -/
structure OutL (w : World) (N : Nat) (W : World) (v : Value) (L : List LnV) : Prop where
  own : W.ownsRow N 37 17 v L.length (L.flatMap LnV.cells)
  at_ : ∀ x ∈ L, LnAt W x
  apart : ∀ x ∈ L, ∀ b, RowIn x b → v.ownBlock ≠ some b
  fresh : ∀ x ∈ L, ∀ b, RowIn x b → N ≤ b
theorem OutL.tch {S : Nat → Prop} {w W W' : World} {N : Nat} {v : Value} {L : List LnV} (h : OutL w N W v L) (T : Tch S W W') (ho : ∀ g, v.ownBlock = some g → ¬ S g) (hr : ∀ b, N ≤ b → (∃ q v, W.cell? ⟨b, q, none⟩ = some v) → ¬ S b) : OutL w N W' v L := by
  refine ⟨⟨h.own.1, ?_⟩, fun x hx => (h.at_ x hx).tch T (fun b hb => hr b (h.fresh x hx b hb) ((h.at_ x hx).cell hb)), h.apart, h.fresh⟩
  rcases h.own.2 with q | ⟨g, cap, cur, hv, hg, hh, r⟩
  · exact .inl q
  · exact .inr ⟨g, cap, cur, hv, hg, (T.keep g (Array.getElem?_eq_some_iff.1 hh).1 (ho g (by rw [hv]; rfl))).trans hh, r⟩
def RdI (w : World) (N : Nat) (pre : List (List UInt8)) (W : World) : Prop := ∃ v L, Blk W w.heap.size 49 [v] ∧ OutL w N W v L ∧ L.map LnV.d = pre.foldl eatP [] ∧ Blk W (w.heap.size + 1) 3 [.int .i64 0] ∧ Blk W (w.heap.size + 1 + 1) 32 [.int .i64 0] ∧ Blk W (w.heap.size + 1 + 1 + 1) 3 [.int .i64 (pre.length : Int)] ∧ Gr w W ∧ N ≤ W.heap.size ∧ pre.all pieceOk = true
def RdX (w : World) (pre : List (List UInt8)) (W : World) : Prop := Blk W w.heap.size 49 [.slice none 0 0] ∧ Blk W (w.heap.size + 1) 3 [.int .i64 (pre.length : Int)] ∧ Blk W (w.heap.size + 1 + 1) 32 [.int .i64 3] ∧ Gr w W ∧ ∃ p0 x, pre = p0 ++ [x] ∧ p0.all pieceOk = true ∧ pieceOk x = false
theorem RdI.tch {S : Nat → Prop} {w W W' : World} {N : Nat} {pre : List (List UInt8)} (h : RdI w N pre W) (T : Tch S W W') (hb : ∀ b, b < w.heap.size + 4 → ¬ S b) (ho : ∀ g cs, N ≤ g → W.heap[g]? = some (.cells cs 37 (0, 0)) → ¬ S g) (hr : ∀ b, N ≤ b → (∃ q v, W.cell? ⟨b, q, none⟩ = some v) → ¬ S b) : RdI w N pre W' := by
  obtain ⟨v, L, b0, out, hm, b1, b2, b3, g, hN, hk⟩ := h
  refine ⟨v, L, b0.tch T (hb _ (by omega)), out.tch T (fun g hg => ?_) hr, hm, b1.tch T (hb _ (by omega)), b2.tch T (hb _ (by omega)), b3.tch T (hb _ (by omega)), T.below g g.size (fun b hS => ?_), Nat.le_trans hN T.size, hk⟩
  · rcases out.own.2 with ⟨q, _⟩ | ⟨g', cap, cur, hv, hNg, hh, _⟩
    · rw [q] at hg; cases hg
    · have e1 : g' = g := by rw [hv] at hg; exact Option.some.inj hg
      subst e1
      exact ho g' cur hNg hh
  · rcases Nat.lt_or_ge b w.heap.size with hlt | hge
    · exact absurd hS (hb b (by omega))
    · exact hge
theorem RdX.tch {S : Nat → Prop} {w W W' : World} {pre : List (List UInt8)} (h : RdX w pre W) (T : Tch S W W') (hb : ∀ b, b < w.heap.size + 4 → ¬ S b) : RdX w pre W' := by
  obtain ⟨b0, b1, b2, g, r⟩ := h
  refine ⟨b0.tch T (hb _ (by omega)), b1.tch T (hb _ (by omega)), b2.tch T (hb _ (by omega)), T.below g g.size (fun b hS => ?_), r⟩
  rcases Nat.lt_or_ge b w.heap.size with hlt | hge
  · exact absurd hS (hb b (by omega))
  · exact hge
theorem Tch.putObj (W : World) (l : Nat) (o : Obj) : Tch (fun q => q = l) W (W.putObj l o) :=
  ⟨Below.grown (Below.refl 0 W) (grownBy_putObj' W l o) (Nat.zero_le _) (fun k e => Nat.zero_le _), fun b _ hn => World.putObj_heap_other hn⟩
theorem rdX_of {w W : World} {pre : List (List UInt8)} {x : List UInt8} {v u1 u2 : Value} {n : Int} (b0 : Blk W w.heap.size 49 [v]) (b1 : Blk W (w.heap.size + 1) 3 [u1]) (b2 : Blk W (w.heap.size + 1 + 1) 32 [u2]) (g : Gr w W) (hn : n = ((pre ++ [x]).length : Int)) (ha : pre.all pieceOk = true) (hx : pieceOk x = false) :
    RdX w (pre ++ [x]) (((W.setCell ⟨w.heap.size, 0, none⟩ (.slice none 0 0)).setCell ⟨w.heap.size + 1, 0, none⟩ (.int .i64 n)).setCell ⟨w.heap.size + 1 + 1, 0, none⟩ (.int .i64 3)).drew := by
  subst hn
  refine ⟨?_, ?_, ?_, ?_, pre, x, rfl, ha, hx⟩
  · exact ((b0.set 0 (.slice none 0 0)).far (p := ⟨_, 0, none⟩) (by show _ ≠ _ + 1; omega) _).far (p := ⟨_, 0, none⟩) (by show _ ≠ _ + 1 + 1; omega) _
  · exact ((b1.far (p := ⟨w.heap.size, 0, none⟩) (by show w.heap.size + 1 ≠ w.heap.size; omega) _).set 0 (.int .i64 ((pre ++ [x]).length : Int))).far (p := ⟨_, 0, none⟩) (by show _ + 1 ≠ _ + 1 + 1; omega) _
  · exact ((b2.far (p := ⟨w.heap.size, 0, none⟩) (by show w.heap.size + 1 + 1 ≠ w.heap.size; omega) _).far (p := ⟨_, 0, none⟩) (by show _ + 1 + 1 ≠ _ + 1; omega) _).set 0 (.int .i64 3)
  · exact (gr_set (gr_set (gr_set g (Nat.le_refl _) _) (by omega) _) (by omega) _).trans (Gr.drew _)
theorem tLines : ElemT Tryz.prog 49 37 (.agg lnV0.arr) 17 216 := ⟨Tryz.underlying49, by kernel_rfl, rfl, by decide, by decide⟩
theorem fold_len : ∀ (xs : List (List UInt8)) (ds : List LnD), (xs.foldl eatP ds).length ≤ ds.length + xs.length
  | [], ds => by simp
  | x :: xs, ds => by
    have h := fold_len xs (eatP ds x)
    have h2 : (eatP ds x).length ≤ ds.length + 1 := by unfold eatP; split <;> simp
    simp only [List.foldl_cons, List.length_cons]
    omega
theorem keeps_tch {S : Nat → Prop} {W W' : World} (T : Tch S W W') (h : ∀ k o, W.heap[k]? = some o → o.isCells = false → ¬ S k) : KeepsOthers W W' :=
  ⟨T.size, fun k o hk hc => (T.keep k (Array.getElem?_eq_some_iff.1 hk).1 (h k o hk hc)).trans hk⟩
theorem OutL.push {w W1 W3 w5 : World} {N : Nat} {v v' : Value} {L : List LnV} {y : LnV} (b0 : Blk W1 w.heap.size 49 [v]) (out : OutL w N W1 v L) (g : Gr w W1) (hw : w.heap.size < N) (hN : N ≤ W1.heap.size) (g13 : Gr W1 W3) (ya : LnAt W3 y) (yn : LnNew W1 y)
    (o : Own (cutR W3 N) w5 37 17 v' (L.length + 1) (L.flatMap LnV.cells ++ y.cells)) (kp : Kept (W3.alloc (.cells y.arr 37)) w5 v v') :
    Blk w5 w.heap.size 49 [v] ∧ Blk (w5.setCell ⟨w.heap.size, 0, none⟩ v') w.heap.size 49 [v'] ∧ (∀ b, b < N → b ≠ w.heap.size → (w5.setCell ⟨w.heap.size, 0, none⟩ v').heap[b]? = W1.heap[b]?) ∧ KeepsOthers W1 (w5.setCell ⟨w.heap.size, 0, none⟩ v') ∧ Gr w (w5.setCell ⟨w.heap.size, 0, none⟩ v') ∧ OutL w N (w5.setCell ⟨w.heap.size, 0, none⟩ v') v' (L ++ [y]) ∧ N ≤ (w5.setCell ⟨w.heap.size, 0, none⟩ v').heap.size := by
  have hN3 : N ≤ W3.heap.size := Nat.le_trans hN g13.size
  have hcz : (cutR W3 N).heap.size = N := cutR_size hN3
  have out3 : OutL w N W3 v L := out.tch (S := fun _ => False) (Tch.gr g13) (fun _ _ h => h) (fun _ _ _ h => h)
  have own3 : Own (cutR W3 N) W3 37 17 v L.length (L.flatMap LnV.cells) := own_cut out3.own hN3
  have oa := own3.alloc (.cells y.arr 37)
  have T := Tch.kept kp o oa.2
  have hvlt : ∀ b, v.ownBlock = some b → N ≤ b ∧ b < W1.heap.size := fun b hb => World.ownsRow.lt out.own b hb
  have b03 := (b0.mono g13).alloc (.cells y.arr 37)
  have b05 := b03.tch T (fun e => by have := hvlt _ e; omega)
  have TS : Tch (fun b => b = w.heap.size) w5 (w5.setCell ⟨w.heap.size, 0, none⟩ v') := Tch.set _ _ rfl
  have hsz : (W3.alloc (.cells y.arr 37)).heap.size = W3.heap.size + 1 := World.size_alloc _ _
  have h15 : ∀ b, b < N → b ≠ w.heap.size → (w5.setCell ⟨w.heap.size, 0, none⟩ v').heap[b]? = W1.heap[b]? := fun b hb hne => by
    have h2 := T.size
    rw [hsz] at h2
    rw [TS.keep b (by omega) hne, T.keep b (by rw [hsz]; omega) (fun e => by have := hvlt _ e; omega), Below.heap_alloc _ _ _ (by omega)]
    exact Below.block g13 b (by omega)
  have ko : KeepsOthers W1 (w5.setCell ⟨w.heap.size, 0, none⟩ v') := by
    refine (((keeps_gr g13).trans (keeps_gr (Gr.alloc W3 _))).trans (keeps_tch T (fun k ob hk hc e => ?_))).trans (KeepsOthers.setCell _ _ _)
    rcases oa.1.2 with ⟨q, _⟩ | ⟨g', cap, cur, hv, _, hh, _⟩
    · rw [q] at e; cases e
    · have e1 : g' = k := by rw [hv] at e; exact Option.some.inj e
      rw [e1, hk] at hh
      injection hh with hh
      rw [hh] at hc
      cases hc
  have hrow : ∀ x ∈ L, ∀ b, RowIn x b → b < W3.heap.size := fun x hx b hb => by
    obtain ⟨q, u, hu⟩ := (out3.at_ x hx).cell hb
    exact World.block_lt_of_cell? W3 _ hu
  have hrowy : ∀ b, RowIn y b → b < W3.heap.size := fun b hb => by
    obtain ⟨q, u, hu⟩ := ya.cell hb
    exact World.block_lt_of_cell? W3 _ hu
  have hyN : ∀ b, RowIn y b → W1.heap.size ≤ b := fun b hb => yn.row hb
  have hown' : ∀ b, v'.ownBlock = some b → v.ownBlock = some b ∨ W3.heap.size + 1 ≤ b := fun b hb => by
    rcases kp.2.2 with h | h
    · left; rw [← h]; exact hb
    · right
      rw [h, hsz] at hb
      have := Option.some.inj hb
      omega
  have o1 := o.1
  rw [hcz] at o1
  refine ⟨b05, b05.set 0 v', h15, ko, gr_set ?_ (Nat.le_refl _) _, ⟨?_, ?_, ?_, ?_⟩, Nat.le_trans hN ko.size⟩
  · exact T.below ((g.trans g13).trans (Gr.alloc W3 _)) (((g.trans g13).trans (Gr.alloc W3 _)).size) (fun b hb => by have := hvlt b hb; omega)
  · have := ownsRow_setCell_below o1 (a := ⟨w.heap.size, 0, none⟩) hw v'
    rw [List.length_append, List.flatMap_append]
    simpa using this
  · intro x hx
    rcases List.mem_append.1 hx with hx | hx
    · exact (((out3.at_ x hx).gr (Gr.alloc W3 _)).tch T (fun b hb => out.apart x hx b hb)).tch TS (fun b hb e => by have := out.fresh x hx b hb; have e : b = w.heap.size := e; omega)
    · simp only [List.mem_singleton] at hx
      subst hx
      exact ((ya.gr (Gr.alloc W3 _)).tch T (fun b hb e => by have := hvlt b e; have := hyN b hb; omega)).tch TS (fun b hb e => by have := hyN b hb; have e : b = w.heap.size := e; omega)
  · intro x hx b hb e
    rcases List.mem_append.1 hx with hx | hx
    · rcases hown' b e with h | h
      · exact out.apart x hx b hb h
      · have := hrow x hx b hb; omega
    · simp only [List.mem_singleton] at hx
      subst hx
      rcases hown' b e with h | h
      · have := hvlt b h; have := hyN b hb; omega
      · have := hrowy b hb; omega
  · intro x hx b hb
    rcases List.mem_append.1 hx with hx | hx
    · exact out.fresh x hx b hb
    · simp only [List.mem_singleton] at hx
      subst hx
      have := hyN b hb; omega
end Go.Proofs.YtadenlhnfkccaaaGreatDoor

/- Scripts, in plain Lean: what is written is read, and what is read is written. No condition. -/
namespace Go.Proofs.YtadenlhnfkccaaaGreatDoor
open Go.RowKit
set_option linter.unusedVariables false
set_option linter.unusedSimpArgs false
/-! ### bounds -/
theorem runes_len : ∀ (l : List UInt8) (n : Nat), runesN l = some n → l.length ≤ 2 * n
  | [], n, h => by simp
  | [x], n, h => by
    rw [runesN] at h
    split at h
    · injection h with h; subst h; simp
    · cases h
  | x :: y :: l, n, h => by
    rw [runesN] at h
    split at h
    · cases hr : runesN (y :: l) with
      | none => rw [hr] at h; cases h
      | some m =>
        rw [hr] at h
        have := runes_len (y :: l) m hr
        injection h with h; subst h
        simp at this ⊢; omega
    · split at h
      · cases hr : runesN l with
        | none => rw [hr] at h; cases h
        | some m =>
          rw [hr] at h
          have := runes_len l m hr
          injection h with h; subst h
          simp at this ⊢; omega
      · cases h
theorem partL_len {l : List UInt8} (h : partL l = true) : l.length ≤ 16 := by
  unfold partL at h
  cases hr : runesN l with
  | none => rw [hr] at h; cases h
  | some n =>
    rw [hr] at h
    simp only [Bool.and_eq_true, decide_eq_true_eq] at h
    have := runes_len l n hr
    omega
theorem partT_ne {l : List UInt8} (h : partT l ≠ []) : partL l = true := by
  unfold partT at h
  split at h
  · assumption
  · exact absurd rfl h
theorem forms_sign (k : Nat) : ∀ s ∈ formS k, Sign s.toNat := by
  unfold Sign
  match k with
  | 0 | 1 | 2 | 3 | 4 | 5 | 6 | 7 | 8 | 9 => decide
  | k + 10 => intro s h; simp [formS] at h
theorem foldP_lt : ∀ (ss : List UInt8) (ws : List (List UInt8)) (o o' : OpD), foldP o ss ws = some o' → (∀ x ∈ ss, Sign x.toNat) → (∀ w ∈ ws, w.length ≤ 100000) → OpLt o → OpLt o'
  | [], ws, o, o', h, _, _, ho => by
    have h : some o = some o' := h
    cases h
    exact ho
  | _ :: _, [], o, o', h, _, _, ho => by cases h
  | s :: ss, w :: ws, o, o', h, hg, hw, ho => by
    have h : (if readB (readD 0 o s.toNat w) s.toNat w = true then foldP (readD 0 o s.toNat w) ss ws else none) = some o' := h
    split at h
    · next hb =>
      refine foldP_lt ss ws _ _ h (fun x hx => hg x (List.mem_cons_of_mem _ hx)) (fun x hx => hw x (List.mem_cons_of_mem _ hx)) ?_
      have hs := hg s List.mem_cons_self
      have hwl := hw w List.mem_cons_self
      refine ⟨readD_ok ho.1 (by decide) hwl hs, ?_⟩
      generalize s.toNat = t at *
      unfold readB at hb
      rcases hs with rfl | rfl | rfl | rfl | rfl | rfl | rfl
      · have hb : (!(w == []) && partT w == w) = true := hb
        simp only [Bool.and_eq_true, beq_iff_eq, Bool.not_eq_true', beq_eq_false_iff_ne] at hb
        have := partL_len (partT_ne (by rw [hb.2]; exact hb.1))
        exact ⟨by show w.length ≤ 1000; omega, ho.2.2⟩
      · have hb : (!(w == []) && partT w == w) = true := hb
        simp only [Bool.and_eq_true, beq_iff_eq, Bool.not_eq_true', beq_eq_false_iff_ne] at hb
        have := partL_len (partT_ne (by rw [hb.2]; exact hb.1))
        exact ⟨ho.2.1, by show w.length ≤ 1000; omega⟩
      · exact ho.2
      · exact ho.2
      · exact ho.2
      · exact ho.2
      · exact ho.2
    · cases h
theorem z64 : (-9223372036854775808 : Int) ≤ 0 ∧ (0 : Int) ≤ 9223372036854775807 := by decide
theorem zlen {α : Type} (n : Nat) : ([] : List α).length ≤ n := Nat.zero_le _
theorem op0_lt (k : Nat) (h : k < 10) : OpLt { op0 with k := (k : Int) } :=
  ⟨⟨⟨by show (-9223372036854775808 : Int) ≤ (k : Int); omega, by show (k : Int) ≤ _; omega⟩, z64, z64, z64, z64, zlen _, zlen _, zlen _⟩, zlen _, zlen _⟩
theorem cut_len {c : UInt8} {l : List UInt8} : ∀ w ∈ cutL c l, w.length ≤ l.length := (cut_size c l).2
theorem parseO_lt {l : List UInt8} (hl : l.length ≤ 100000) : OpLt (parseO l).1 := by
  unfold parseO
  cases ho : opOf l with
  | none => exact op0_lt 0 (by decide)
  | some o =>
    show OpLt o
    unfold opOf at ho
    simp only [] at ho
    split at ho
    · next hk =>
      unfold tryL at ho
      split at ho
      · exact foldP_lt _ _ _ _ ho (forms_sign _) (fun w hw => Nat.le_trans (cut_len w (List.mem_of_mem_tail hw)) hl) (op0_lt _ hk)
      · cases ho
    · cases ho
theorem ln0_ok : LnOk ln0 := ⟨z64, z64, z64, z64, (fun n h => by cases h), zlen _, zlen _, zlen _, zlen _⟩
theorem foldT_ok : ∀ (ss : List UInt8) (ws : List (List UInt8)) (d d' : LnD), foldT d ss ws = some d' → (∀ x ∈ ss, SgT x.toNat) → LnOk d → LnOk d' ∧ d'.o = d.o
  | [], ws, d, d', h, _, ho => by
    have h : some d = some d' := h
    cases h
    exact ⟨ho, rfl⟩
  | _ :: _, [], d, d', h, _, ho => by cases h
  | s :: ss, w :: ws, d, d', h, hg, ho => by
    have h : (if okT s.toNat w = true then foldT (readT d s.toNat w) ss ws else none) = some d' := h
    split at h
    · next hb =>
      have hs := hg s List.mem_cons_self
      have hp := parseN_le w 1073741824 (by decide)
      suffices hd : LnOk (readT d s.toNat w) by
        obtain ⟨i1, i2⟩ := foldT_ok ss ws _ _ h (fun x hx => hg x (List.mem_cons_of_mem _ hx)) hd
        exact ⟨i1, i2.trans readT_ko.2⟩
      obtain ⟨a1, a2, a3, a4, a5, a6, a7, a8, a9⟩ := ho
      generalize s.toNat = t at *
      unfold okT at hb
      rcases hs with rfl | rfl | rfl | rfl | rfl | rfl | rfl | rfl
      · exact ⟨⟨by show _ ≤ parseN w 1073741824; omega, by show parseN w 1073741824 ≤ _; omega⟩, a2, a3, a4, a5, a6, a7, a8, a9⟩
      · exact ⟨a1, ⟨by show _ ≤ parseN w 1073741824; omega, by show parseN w 1073741824 ≤ _; omega⟩, a3, a4, a5, a6, a7, a8, a9⟩
      · exact ⟨a1, a2, ⟨by show _ ≤ parseN w 1073741824; omega, by show parseN w 1073741824 ≤ _; omega⟩, a4, a5, a6, a7, a8, a9⟩
      · exact ⟨a1, a2, a3, ⟨by show _ ≤ parseN w 1073741824; omega, by show parseN w 1073741824 ≤ _; omega⟩, a5, a6, a7, a8, a9⟩
      · have hb : keepB w = true := hb
        refine ⟨a1, a2, a3, a4, ?_, ?_, a7, a8, a9⟩
        · intro n hn
          have hn : n ∈ keepL w := hn
          unfold keepL at hn
          split at hn
          · cases hn
          · obtain ⟨c, _, rfl⟩ := List.mem_map.1 hn
            have := c.toNat_lt
            omega
        · show (keepL w).length ≤ 100
          unfold keepL
          unfold keepB at hb
          split
          · exact Nat.zero_le _
          · next hne =>
            simp only [Bool.or_eq_true, Bool.and_eq_true, beq_iff_eq, decide_eq_true_eq] at hb
            rw [List.length_map]
            rcases hb with hb | hb
            · exact absurd hb hne
            · omega
      · have hb : partL w = true := hb
        have := partL_len hb
        exact ⟨a1, a2, a3, a4, a5, a6, by show w.length ≤ 1000; omega, a8, a9⟩
      · have hb : partL w = true := hb
        have := partL_len hb
        exact ⟨a1, a2, a3, a4, a5, a6, a7, by show w.length ≤ 1000; omega, a9⟩
      · have hb : hexB w = true := hb
        unfold hexB at hb
        simp only [Bool.and_eq_true, decide_eq_true_eq] at hb
        exact ⟨a1, a2, a3, a4, a5, a6, a7, a8, by show (hexR w).1.length ≤ 1000; omega⟩
    · cases h
theorem ln0_k (k : Nat) : LnOk { ln0 with k := (k : Int) } := ⟨z64, z64, z64, z64, (fun n h => by cases h), zlen _, zlen _, zlen _, zlen _⟩
theorem parseT_ok {l : List UInt8} (hl : l.length ≤ 100000) : LnOk (parseT l).1 ∧ OpLt (parseT l).1.o := by
  unfold parseT
  split
  · exact ⟨⟨z64, z64, z64, z64, (fun n h => by cases h), zlen _, zlen _, zlen _, zlen _⟩, parseO_lt hl⟩
  · cases hd : lnOf l with
    | none => exact ⟨ln0_ok, op0_lt 0 (by decide)⟩
    | some d =>
      show LnOk d ∧ OpLt d.o
      unfold lnOf at hd
      simp only [] at hd
      split at hd
      · unfold tryT at hd
        split at hd
        · obtain ⟨h1, h2⟩ := foldT_ok _ _ _ _ hd (scrS_nodup _).2 (ln0_k _)
          exact ⟨h1, by rw [h2]; exact op0_lt 0 (by decide)⟩
        · cases hd
      · cases hd
/-! ### scripts -/
/-- The lines of a text that are not empty. -/
def fullL (ps : List (List UInt8)) : List (List UInt8) := ps.filter fun p => !(p == [])
theorem fold_full : ∀ (ps : List (List UInt8)) (ds : List LnD), ps.foldl eatP ds = ds ++ (fullL ps).map fun p => (parseT p).1
  | [], ds => by simp [fullL]
  | p :: ps, ds => by
    rw [List.foldl_cons, fold_full ps]
    unfold eatP fullL
    by_cases hp : p = []
    · subst hp; simp
    · rw [if_neg hp, List.filter_cons_of_pos (by simp [hp])]
      simp
theorem cut_feed : ∀ (ps : List (List UInt8)), (∀ p ∈ ps, ∀ b ∈ p, b ≠ 10) → cutL 10 (ps.flatMap fun p => p ++ [10]) = ps ++ [[]]
  | [], _ => rfl
  | p :: ps, h => by
    rw [List.flatMap_cons, List.append_assoc, List.singleton_append, cut_app 10 p _ (h p List.mem_cons_self), cut_feed ps (fun q hq => h q (List.mem_cons_of_mem _ hq))]
    rfl
/-- What the lines of a text are read as, if each is read. -/
theorem readS_feed (ps : List (List UInt8)) (h : ∀ p ∈ ps, (parseT p).2 = 0) : readS (ps.flatMap fun p => p ++ [10]) = (ps.map fun p => (parseT p).1, 0, 0) := by
  have hc := cut_feed ps (fun p hp => (text_back (h p hp)).2)
  have ha : (cutL 10 (ps.flatMap fun p => p ++ [10])).all pieceOk = true := by
    rw [hc, List.all_eq_true]
    intro p hp
    rcases List.mem_append.1 hp with hp | hp
    · unfold pieceOk; rw [h p hp]; simp
    · simp only [List.mem_singleton] at hp
      subst hp; rfl
  rw [readS_good ha, hc, fold_full]
  have hf : fullL (ps ++ [[]]) = ps := by
    unfold fullL
    rw [List.filter_append]
    have : ps.filter (fun p => !(p == [])) = ps := List.filter_eq_self.2 fun p hp => by
      have := h p hp
      cases p with
      | nil => rw [parseT_nil] at this; cases this
      | cons b t => rfl
    rw [this]
    simp
  rw [hf]
  rfl
def rowsT (L M : List LnD) : Bool := L.length == M.length && (L.zip M).all fun p => sameT p.1 p.2
theorem rowsT_self (L : List LnD) : rowsT L L = true := by
  unfold rowsT
  simp only [beq_self_eq_true, Bool.true_and, List.all_eq_true]
  intro p hp
  rw [List.zip_eq_zipWith, List.zipWith_self] at hp
  obtain ⟨x, _, rfl⟩ := List.mem_map.1 hp
  exact sameT_self x
theorem sameT_symm {a b : LnD} (h : sameT a b = true) : sameT b a = true := by
  unfold sameT at *
  simp only [Bool.and_eq_true, beq_iff_eq] at h ⊢
  obtain ⟨⟨⟨⟨⟨⟨⟨h1, h2⟩, h3⟩, h4⟩, h5⟩, h6⟩, ⟨h7, h8⟩, h9⟩, h10⟩ := h
  exact ⟨⟨⟨⟨⟨⟨⟨h1.symm, sameO_symm h2⟩, h3.symm⟩, h4.symm⟩, h5.symm⟩, h6.symm⟩, ⟨h7.symm, h8.symm⟩, h9.symm⟩, h10.symm⟩
theorem rowsT_map (L : List LnD) (f : LnD → LnD) (h : ∀ d ∈ L, sameT (f d) d = true) : rowsT (L.map f) L = true := by
  unfold rowsT
  rw [List.length_map]
  simp only [beq_self_eq_true, Bool.true_and]
  induction L with
  | nil => rfl
  | cons d L ih =>
    rw [List.map_cons, List.zip_cons_cons, List.all_cons, h d List.mem_cons_self, ih (fun x hx => h x (List.mem_cons_of_mem _ hx))]
    rfl
theorem writeS_map (L : List LnD) : writeS L = (L.map fun d => (printT d).1).flatMap fun p => p ++ [10] := by
  unfold writeS
  induction L with
  | nil => rfl
  | cons d L ih => rw [List.flatMap_cons, ih, List.map_cons, List.flatMap_cons]; rfl
theorem writeT_ok {L : List LnD} (h : (writeT L).2 = 0) : (∀ d ∈ L, (printT d).2 = 0) ∧ writeT L = (writeS L, 0) := by
  unfold writeT at *
  by_cases ha : L.all (fun d => (printT d).2 == 0) = true
  · rw [if_pos ha]
    refine ⟨fun d hd => ?_, rfl⟩
    simpa using List.all_eq_true.1 ha d hd
  · rw [if_neg ha] at h; simp at h
/-- What is written is read as the same. -/
theorem write_read {L : List LnD} (h : (writeT L).2 = 0) : (readS (writeT L).1).2.2 = 0 ∧ rowsT (readS (writeT L).1).1 L = true := by
  obtain ⟨hp, hw⟩ := writeT_ok h
  rw [hw]
  show (readS (writeS L)).2.2 = 0 ∧ rowsT (readS (writeS L)).1 L = true
  rw [writeS_map, readS_feed _ (fun p hx => by
    obtain ⟨d, hd, rfl⟩ := List.mem_map.1 hx
    exact (printT_back (hp d hd)).1)]
  refine ⟨rfl, ?_⟩
  show rowsT ((L.map fun d => (printT d).1).map fun p => (parseT p).1) L = true
  rw [List.map_map]
  exact rowsT_map L _ fun d hd => sameT_symm (printT_back (hp d hd)).2
theorem readS_fault (l : List UInt8) : (readS l).2.2 = 0 ∨ ((readS l).1 = [] ∧ (readS l).2.2 = 3) := by
  unfold readS
  split
  · exact .inl rfl
  · exact .inr ⟨rfl, rfl⟩
theorem readS_is {l : List UInt8} (h : (readS l).2.2 = 0) : (∀ p ∈ fullL (cutL 10 l), (parseT p).2 = 0) ∧ readS l = ((fullL (cutL 10 l)).map fun p => (parseT p).1, 0, 0) := by
  unfold readS at *
  by_cases ha : (cutL 10 l).all pieceOk = true
  · rw [if_pos ha, fold_full, List.nil_append]
    refine ⟨fun p hp => ?_, rfl⟩
    unfold fullL at hp
    obtain ⟨h1, h2⟩ := List.mem_filter.1 hp
    have := List.all_eq_true.1 ha p h1
    unfold pieceOk at this
    simp at this h2
    rcases this with h3 | h3
    · exact absurd h3 h2
    · exact h3
  · rw [if_neg ha] at h; simp at h
theorem printed_full {l : List UInt8} (h : (readS l).2.2 = 0) : ((readS l).1.map fun d => (printT d).1) = fullL (cutL 10 l) := by
  obtain ⟨hp, hr⟩ := readS_is h
  rw [hr]
  show ((fullL (cutL 10 l)).map fun p => (parseT p).1).map (fun d => (printT d).1) = _
  rw [List.map_map]
  conv => rhs; rw [← List.map_id (fullL (cutL 10 l))]
  refine List.map_congr_left fun p hpm => ?_
  show (printT (parseT p).1).1 = p
  rw [printT_parse (hp p hpm)]
/-- What is read is written such that it is read as it was. -/
theorem read_write {l : List UInt8} (h : (readS l).2.2 = 0) : (writeT (readS l).1).2 = 0 ∧ readS (writeT (readS l).1).1 = ((readS l).1, 0, 0) := by
  obtain ⟨hp, hr⟩ := readS_is h
  have ha : ∀ d ∈ (readS l).1, (printT d).2 = 0 := by
    rw [hr]
    intro d hd
    obtain ⟨p, hpm, rfl⟩ := List.mem_map.1 hd
    rw [printT_parse (hp p hpm)]
  have hw : writeT (readS l).1 = (writeS (readS l).1, 0) := if_pos (List.all_eq_true.2 fun d hd => by simpa using ha d hd)
  rw [hw]
  refine ⟨rfl, ?_⟩
  show readS (writeS (readS l).1) = _
  have e := printed_full h
  rw [writeS_map, e, readS_feed _ hp, hr]
theorem fullL_len (l : List UInt8) : ((fullL (cutL 10 l)).flatMap fun p => p ++ [10]).length ≤ l.length + 1 := by
  have key : ∀ (ps : List (List UInt8)), ((fullL ps).flatMap fun p => p ++ [10]).length ≤ (ps.map fun p => p.length + 1).sum := by
    intro ps
    induction ps with
    | nil => simp [fullL]
    | cons p ps ih =>
      unfold fullL at ih ⊢
      by_cases hp : p = []
      · subst hp; simp at ih ⊢; omega
      · rw [List.filter_cons_of_pos (by simp [hp]), List.flatMap_cons, List.length_append, List.map_cons, List.sum_cons]
        simp at ih ⊢; omega
  have cutsum : ∀ l : List UInt8, ((cutL 10 l).map fun p => p.length + 1).sum = l.length + 1 := by
    intro l
    induction l with
    | nil => rfl
    | cons b t ih =>
      unfold cutL
      split
      · simp at ih ⊢; omega
      · cases hc : cutL 10 t with
        | nil => exact absurd hc (cut_ne 10 t)
        | cons p ps => rw [hc] at ih; simp [consC] at ih ⊢; omega
  exact Nat.le_trans (key _) (Nat.le_of_eq (cutsum l))
theorem read_write_len {l : List UInt8} (h : (readS l).2.2 = 0) : (writeT (readS l).1).1.length ≤ l.length + 1 := by
  obtain ⟨hp, hr⟩ := readS_is h
  have e := printed_full h
  have hw := (writeT_ok (read_write h).1).2
  rw [hw]
  show (writeS (readS l).1).length ≤ _
  rw [writeS_map, e]
  exact fullL_len l
theorem readS_ok {l : List UInt8} (hl : l.length ≤ 100000) : ∀ d ∈ (readS l).1, LnOk d ∧ OpLt d.o := by
  rcases readS_fault l with h | h
  · obtain ⟨hp, hr⟩ := readS_is h
    rw [hr]
    intro d hd
    obtain ⟨p, hpm, rfl⟩ := List.mem_map.1 hd
    unfold fullL at hpm
    exact parseT_ok (Nat.le_trans (cut_len p (List.mem_filter.1 hpm).1) hl)
  · rw [h.1]; intro d hd; cases hd
theorem readS_len (l : List UInt8) : (readS l).1.length ≤ l.length + 1 := by
  rcases readS_fault l with h | h
  · obtain ⟨hp, hr⟩ := readS_is h
    rw [hr]
    show ((fullL (cutL 10 l)).map _).length ≤ _
    rw [List.length_map]
    exact Nat.le_trans (List.length_filter_le _ _) (cut_size 10 l).1
  · rw [h.1]; exact Nat.zero_le _
end Go.Proofs.YtadenlhnfkccaaaGreatDoor
