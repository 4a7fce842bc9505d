/- strings.Builder at this dump: the check ahead of a write, a write. No condition. -/
import Derived.Test.YthlnoaalhojphaaDoorObTch
import Derived.Test.YthlnoaalhojphaaDoorProg
import Derived.Lib.Builder
import Derived.Lib.UnsafeStr
import Derived.Lib.AppendStr
import Derived.Laws.Externs
import Derived.Outline
namespace Go.Proofs.YthlnoaalhojphaaDoor
open Go.RowKit
set_option linter.unusedVariables false
theorem sbInfo : ∃ j, Tryd.prog.info? 108 = some j ∧ j.size = 2 := by
  have h : (Tryd.prog.info? 108).map (fun i => i.size) = some 2 := by kernel_rfl
  exact Option.map_eq_some_iff.1 h
/-- A builder that has been written to: nothing turns. -/
theorem sbUsed_any (b : Nat) (w : World) (h0 : w.cell? ⟨b, 0, none⟩ = some (.pointer (some ⟨b, 0, none⟩))) :
    Calls Tryd.prog 86 #[.pointer (some ⟨b, 0, none⟩)] w fun e w' => e = .returned (.tuple #[]) ∧ w = w' := by
  obtain ⟨j, hj, _⟩ := sbInfo
  have hq := Lib.run_neq_ptr_same (P := Tryd.prog) w ⟨b, 0, none⟩ Tryd.underlying106 hj
  clear hj
  go_enter Tryd.func86, Tryd.ntmps86
  go_wp2
  go_end0
  exact ⟨rfl, rfl⟩
theorem sb_shape {w : World} {b : Nat} {u v : Value} (h : Blk w b 108 [u, v]) : w.shape? b = some (108, 2) := by
  unfold Blk at h
  simp [World.shape?, h]
set_option maxRecDepth 100000 in
/-- A new one keeps its own address. -/
theorem sbFresh_any (b : Nat) (v : Value) (w : World) (h : Blk w b 108 [.pointer none, v]) :
    Calls Tryd.prog 86 #[.pointer (some ⟨b, 0, none⟩)] w fun e w' => e = .returned (.tuple #[]) ∧ w' = w.setCell ⟨b, 0, none⟩ (.pointer (some ⟨b, 0, none⟩)) := by
  obtain ⟨j, hj, hjs⟩ := sbInfo
  have hsh := sb_shape h
  have c0 : w.cell? ⟨b, 0, none⟩ = some (.pointer none) := (h.cell 0).trans rfl
  have y0 := h.free 0
  have hlt := h.lt
  have hU := Lib.run_to_unsafe (P := Tryd.prog) (w := w) ⟨b, 0, none⟩ Tryd.underlying106 Tryd.underlying171 hj (by rw [hjs]; decide) hsh (by show 0 < 2; decide)
  have hV := Lib.run_from_unsafe (P := Tryd.prog) (w := w) ⟨b, 0, none⟩ Tryd.underlying171 Tryd.underlying106 hj hsh (by kernel_rfl)
  have he : (Extern.AbiNoEscape.same #[.pointer (some ⟨b, 0, none⟩)]).run Tryd.prog w = .ok (.pointer (some ⟨b, 0, none⟩)) w := rfl
  have hN := run_callFunc_extern Tryd.func104 (by kernel_rfl) (by kernel_rfl) (by kernel_rfl) (e := Extern.AbiNoEscape.same) (by kernel_rfl) (args := #[.pointer (some ⟨b, 0, none⟩)]) (w := w)
  rw [he] at hN
  simp only [Result.andThen] at hN
  clear hj hjs hsh he h
  go_enter Tryd.func86, Tryd.ntmps86
  go_wp2
  go_end0
  exact ⟨rfl, rfl⟩
/-- A builder of the call's own (w0: what was there ahead), which holds these bytes. -/
def SB (w0 w : World) (b : Nat) (l : List UInt8) : Prop := ∃ p v, (p = .pointer none ∨ p = .pointer (some ⟨b, 0, none⟩)) ∧ Blk w b 108 [p, v] ∧ Own w0 w 5 1 v l.length (l.map u8c) ∧ w0.heap.size ≤ b
theorem SB.below {w0 w : World} {b : Nat} {l : List UInt8} (h : SB w0 w b l) : Below w0.heap.size w0 w := by obtain ⟨p, v, _, _, h, _⟩ := h; exact h.2
theorem SB.gr {w0 w w' : World} {b : Nat} {l : List UInt8} (h : SB w0 w b l) (hg : Gr w w') : SB w0 w' b l := by
  obtain ⟨p, v, hp, hb, ho, hl⟩ := h
  exact ⟨p, v, hp, hg.blk hb, ho.mono hg, hl⟩
/-- Blocks of cells that are neither bytes nor a builder stay. -/
def FB (w w' : World) : Prop := ∀ g t cs, t ≠ 5 → t ≠ 108 → Blk w g t cs → Blk w' g t cs
theorem FB.gr {w w' : World} (h : Gr w w') : FB w w' := fun g t cs _ _ hb => h.blk hb
theorem FB.trans {a b c : World} (h : FB a b) (k : FB b c) : FB a c := fun g t cs h1 h2 hb => k g t cs h1 h2 (h g t cs h1 h2 hb)
theorem FB.set {w : World} {b i : Nat} {cs : List Value} (h : Blk w b 108 cs) (v : Value) : FB w (w.setCell ⟨b, i, none⟩ v) := fun g t ds _ h2 hb => hb.far (fun e => by
  have e' : g = b := e
  subst e'
  unfold Blk at h hb
  rw [h] at hb
  injection hb with hb
  injection hb with _ hb
  exact h2 hb.symm) v
theorem FB.grown {w0 w w' : World} {v : Value} {n : Nat} {xs : List Value} (ho : Own w0 w 5 1 v n xs) (hg : w.grownBy w' v.ownBlock) : FB w w' := fun g t cs h1 _ hb => (hg.block g hb.lt (fun e => ho.not_blk hb (fun q => h1 q.symm) e.symm)).trans hb
theorem strCells_u8 (s : ByteArray) : Lib.strCells s = s.data.toList.map u8c := rfl
theorem tBytes' : ElemT Tryd.prog 45 5 (.int .u8 0) 1 1 := ⟨Tryd.underlying45, by kernel_rfl, rfl, by decide, by decide⟩
theorem sbCheck_any (w0 : World) (b : Nat) (l : List UInt8) (w : World) (h : SB w0 w b l) :
    Calls Tryd.prog 86 #[.pointer (some ⟨b, 0, none⟩)] w fun e w' => e = .returned (.tuple #[]) ∧ FB w w' ∧ ∃ v, Blk w' b 108 [.pointer (some ⟨b, 0, none⟩), v] ∧ Own w0 w' 5 1 v l.length (l.map u8c) ∧ w0.heap.size ≤ b := by
  obtain ⟨p, v, rfl | rfl, hb, ho, hl⟩ := h
  · refine (sbFresh_any b v w hb).mono ?_
    rintro e w' ⟨rfl, rfl⟩
    have t : Tch (fun x => x = b) w (w.setCell ⟨b, 0, none⟩ (.pointer (some ⟨b, 0, none⟩))) := Tch.set _ _ rfl
    exact ⟨rfl, FB.set hb _, v, hb.set 0 _, ho.tch t (fun x e => by omega) (fun x hx e => by subst e; exact ho.not_blk hb (by decide) hx), hl⟩
  · refine (sbUsed_any b w ((hb.cell 0).trans rfl)).mono ?_
    rintro e w' ⟨rfl, rfl⟩
    exact ⟨rfl, FB.gr (Gr.refl _), v, hb, ho, hl⟩
set_option maxRecDepth 100000 in
set_option maxHeartbeats 1000000 in
theorem sbWrite_any (w0 : World) (b : Nat) (l : List UInt8) (s : ByteArray) (w : World) (h : SB w0 w b l) (hs : l.length + s.size ≤ 1000000000) :
    Calls Tryd.prog 53 #[.pointer (some ⟨b, 0, none⟩), .string s] w fun e w' => e = .returned (.tuple #[.int .i64 s.size, .nilIface]) ∧ SB w0 w' b (l ++ s.data.toList) ∧ FB w w' := by
  obtain ⟨i0, hi, hz, hsz, hby⟩ := info_parts tBytes'.info
  have HC := Lib.hid (sbCheck_any w0 b l w h)
  clear h
  go_enter Tryd.func53, Tryd.ntmps53
  go_wp2_with fail
  refine HC.out.mono ?_
  rintro e w1 ⟨rfl, fb, v, hb, ho, hl⟩
  have F1 := Lib.hid fb; clear fb
  have c1 : w1.cell? ⟨b, 1, none⟩ = some v := (hb.cell 1).trans rfl
  have OW := Lib.hid ho; have BK := Lib.hid hb
  clear hb ho
  go_wp2_with (at_builtin; refine Lib.wpList_append_own_string _ rfl _ _ 45 9 rfl w0.heap.size 5 i0 Tryd.underlying45 Tryd.underlying9 hi hz hsz hby _ _ _ rfl OW.out.1 s rfl ?c3 ?c4 ?c5 ?_)
  case c3 => unfold maxLen; omega
  case c4 => omega
  case c5 => exact OW.out.2.size
  intro v' w2 own' grow' _
  have hbel : Below w0.heap.size w0 w2 := OW.out.2.grown grow' OW.out.2.size (fun k hk => (OW.out.1.lt k hk).1)
  have b2 : Blk w2 b 108 [.pointer (some ⟨b, 0, none⟩), v] := (grow'.block b BK.out.lt (fun e => OW.out.not_blk BK.out (by decide) e.symm)).trans BK.out
  have d1 : w2.cell? ⟨b, 1, none⟩ = some v := (b2.cell 1).trans rfl
  have y1 := b2.free 1
  have hlt := b2.lt
  have O2 : Hid (Own w0 w2 5 1 v' (l ++ s.data.toList).length ((l ++ s.data.toList).map u8c)) := by
    show Own _ _ _ _ _ _ _
    rw [List.map_append, List.length_append]
    exact ⟨by simpa [strCells_u8] using own', hbel⟩
  have B2 := Lib.hid b2
  have F2 := Lib.hid (F1.out.trans (FB.grown OW.out grow'))
  obtain ⟨A3, c3, rfl, _⟩ := O2.out.slice
  clear own' grow' hbel b2 c1
  go_wp2_with fail
  go_ret2
  have t : Tch (fun x => x = b) w2 (w2.setCell ⟨b, 1, none⟩ (.slice A3 (l ++ s.data.toList).length c3)) := Tch.set _ _ rfl
  have el : l.length + s.size = (l ++ s.data.toList).length := by rw [List.length_append]; rfl
  rw [el]
  exact ⟨rfl, ⟨_, _, .inr rfl, B2.out.set 1 _, O2.out.tch t (fun x e => by omega) (fun x hx e => by subst e; exact O2.out.not_blk B2.out (by decide) hx), hl⟩, F2.out.trans (FB.set B2.out _)⟩
end Go.Proofs.YthlnoaalhojphaaDoor
