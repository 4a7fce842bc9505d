/- Own texts of this claim, one behind the other. No condition. -/
import Derived.Test.YtadenlhnfkccaaaGreatDoorObPkC
import Derived.Test.YtadenlhnfkccaaaGreatDoorObPkD
import Derived.Test.YtadenlhnfkccaaaGreatDoorObPkF
import Derived.Outline
import Derived.Lib.OthersKept
import Derived.Laws.RangeAny
import Derived.WalkSmall

/- Operations as lines: a word read by its sign. No condition. -/
namespace Go.Proofs.YtadenlhnfkccaaaGreatDoor
open Go.RowKit
set_option linter.unusedVariables false
set_option linter.unusedSimpArgs false
theorem idx_say (l : List UInt8) : max (Lib.idxOfS sayZs ⟨l.toArray⟩) 0 = sayN 0 l := by
  have inj : ∀ a b : List UInt8, (⟨a.toArray⟩ : ByteArray) = ⟨b.toArray⟩ → a = b := fun a b h => by
    injection h with h
    injection h
  have e0 : (⟨#[]⟩ : ByteArray) = ⟨l.toArray⟩ ↔ ([] : List UInt8) = l := ⟨fun h => inj [] l h, fun h => by rw [← h]⟩
  have e1 : (⟨#[97, 99, 99, 101, 112, 116, 101, 100]⟩ : ByteArray) = ⟨l.toArray⟩ ↔ wAcc = l := ⟨fun h => inj wAcc l h, fun h => by rw [← h]; rfl⟩
  have e2 : (⟨#[111, 116, 104, 101, 114]⟩ : ByteArray) = ⟨l.toArray⟩ ↔ wOth = l := ⟨fun h => inj wOth l h, fun h => by rw [← h]; rfl⟩
  have e3 : (⟨#[110, 111, 116, 104, 105, 110, 103]⟩ : ByteArray) = ⟨l.toArray⟩ ↔ wNot = l := ⟨fun h => inj wNot l h, fun h => by rw [← h]; rfl⟩
  unfold Lib.idxOfS sayZs sayN
  simp only [Lib.idxFromS]
  by_cases h0 : ([] : List UInt8) = l
  · rw [if_pos (e0.2 h0)]
    subst h0
    rw [if_neg (by decide), if_neg (by decide), if_neg (by decide)]; rfl
  · rw [if_neg (fun h => h0 (e0.1 h))]
    by_cases h1 : wAcc = l
    · rw [if_pos (e1.2 h1), if_pos h1.symm]; rfl
    · rw [if_neg (fun h => h1 (e1.1 h)), if_neg (show ¬ l = wAcc from fun h => h1 h.symm)]
      by_cases h2 : wOth = l
      · rw [if_pos (e2.2 h2), if_pos h2.symm]; rfl
      · rw [if_neg (fun h => h2 (e2.1 h)), if_neg (show ¬ l = wOth from fun h => h2 h.symm)]
        by_cases h3 : wNot = l
        · rw [if_pos (e3.2 h3), if_pos h3.symm]; rfl
        · rw [if_neg (fun h => h3 (e3.1 h)), if_neg (show ¬ l = wNot from fun h => h3 h.symm)]; rfl
theorem parseN_le (l : List UInt8) (m : Int) (h : 0 ≤ m) : 0 ≤ parseN l m ∧ parseN l m ≤ m := by
  unfold parseN
  split
  · exact ⟨by omega, h⟩
  · split
    · exact ⟨by omega, h⟩
    · omega
theorem hexR_len (l : List UInt8) : (hexR l).1.length ≤ l.length := by
  unfold hexR
  split
  · simp
  · split
    · simp
    · rw [hexG_len]; omega
theorem sayN_le (d : Int) (l : List UInt8) (h : -9223372036854775808 ≤ d ∧ d ≤ 9223372036854775807) : -9223372036854775808 ≤ sayN d l ∧ sayN d l ≤ 9223372036854775807 := by
  unfold sayN
  split
  · omega
  · split
    · omega
    · split <;> omega
def Sign (s : Nat) : Prop := s = 103 ∨ s = 105 ∨ s = 101 ∨ s = 115 ∨ s = 110 ∨ s = 118 ∨ s = 120
theorem readD_ok {d : Int} {o : OpD} {s : Nat} {l : List UInt8} (ho : OpOk o) (hd : -9223372036854775808 ≤ d ∧ d ≤ 9223372036854775807) (hl : l.length ≤ 100000) (hs : Sign s) : OpOk (readD d o s l) := by
  have hp := parseN_le l 1073741824 (by decide)
  have hh := hexR_len l
  obtain ⟨a1, a2, a3, a4, a5, a6, a7, a8⟩ := ho
  rcases hs with rfl | rfl | rfl | rfl | rfl | rfl | rfl
  · exact ⟨a1, a2, a3, a4, a5, hl, a7, a8⟩
  · exact ⟨a1, a2, a3, a4, a5, a6, hl, a8⟩
  · exact ⟨a1, ⟨by show _ ≤ parseN l 1073741824; omega, by show parseN l 1073741824 ≤ _; omega⟩, a3, a4, a5, a6, a7, a8⟩
  · exact ⟨a1, a2, ⟨by show _ ≤ parseN l 1073741824; omega, by show parseN l 1073741824 ≤ _; omega⟩, a4, a5, a6, a7, a8⟩
  · exact ⟨a1, a2, a3, ⟨by show _ ≤ parseN l 1073741824; omega, by show parseN l 1073741824 ≤ _; omega⟩, a5, a6, a7, a8⟩
  · exact ⟨a1, a2, a3, a4, sayN_le d l hd, a6, a7, a8⟩
  · exact ⟨a1, a2, a3, a4, a5, a6, a7, by show (hexR l).1.length ≤ _; omega⟩
/-- The reader's operation, in its block. -/
def RdIs (w : World) (R B : Nat) (o : OpD) : Prop := ∃ A m c, Blk w R 114 (opC o A m c).toList ∧ Bs w A m c o.x ∧ ∀ b q, A = some ⟨b, q, none⟩ → R < b
theorem Pow10.tch {w w' : World} {R : Nat} (h : Pow10 w) (hR : R ≠ 3) (t : Tch (fun q => q = R) w w') : Pow10 w' := h.of_block (t.keep _ h.lt (fun e => hR e.symm))
def RetRd (w : World) (R : Nat) (o : OpD) (b : Bool) (e : Ending) (w' : World) : Prop := e = .returned (.bool b) ∧ RdIs w' R 0 o ∧ Tch (fun q => q = R) w w'
theorem read_any (o : OpD) (R s : Nat) (l : List UInt8) (w : World) (ho : OpOk o) (hr : RdIs w R 0 o) (hP : R ≠ 3) (hl : l.length ≤ 100000) (hT : Pow10 w) (hs : Sign s) :
    Calls Tryz.prog 55 #[.pointer (some ⟨R, 0, none⟩), .int .i32 (s : Int), strc l] w (RetRd w R (readD 0 o s l) (readB (readD 0 o s l) s l)) := by
  obtain ⟨A, m, c, hB, hx, hA⟩ := hr
  have hok := readD_ok (d := 0) ho (by decide) hl hs
  have HPA : Hid (Calls Tryz.prog 57 #[.string ⟨l.toArray⟩, .int .i64 1073741824] w fun e w' => e = .returned (.tuple #[.int .i64 (parseN l 1073741824), .int .i64 (parseF l 1073741824)]) ∧ Gr w w') := parse_any ⟨l.toArray⟩ l 1073741824 w rfl (by rw [size_of']; omega)
  have hst : (⟨l.toArray⟩ : ByteArray).toList = l := by rw [ByteArray.toList_eq]
  have hsl : ∀ {wr}, Tch (fun q => q = R) w wr → Bs wr A m c o.x := fun t => Sl.tch hx (by decide) t (fun _ b q e hq => by have := hA b q e; have hq : b = R := hq; omega)
  have hFb : ∀ f : List UInt8, ((!((⟨l.toArray⟩ : ByteArray).toList == []) && (⟨f.toArray⟩ : ByteArray).toList == (⟨l.toArray⟩ : ByteArray).toList)) = (!(l == []) && f == l) := fun f => by rw [hst, ByteArray.toList_eq]
  rcases hs with rfl | rfl | rfl | rfl | rfl | rfl | rfl
  · refine (readG_raw _ _ _ _ _ _ _ _ R ⟨l.toArray⟩ ⟨(fieldL (readD 0 o 103 l) 103).toArray⟩ _ _ _ w hB HPA (Lib.hid fun wr t => field_any (readD 0 o 103 l) A m c 103 wr hok (hsl t) (hT.tch hP t) (by decide)) rfl).mono ?_
    rintro e w' ⟨rfl, b, t⟩
    exact ⟨by rw [hFb]; rfl, ⟨A, m, c, b, hsl t, hA⟩, t⟩
  · refine (readI_raw _ _ _ _ _ _ _ _ R ⟨l.toArray⟩ ⟨(fieldL (readD 0 o 105 l) 105).toArray⟩ _ _ _ w hB HPA (Lib.hid fun wr t => field_any (readD 0 o 105 l) A m c 105 wr hok (hsl t) (hT.tch hP t) (by decide)) rfl).mono ?_
    rintro e w' ⟨rfl, b, t⟩
    exact ⟨by rw [hFb]; rfl, ⟨A, m, c, b, hsl t, hA⟩, t⟩
  · refine (readE_raw _ _ _ _ _ _ _ _ R ⟨l.toArray⟩ _ _ w hB HPA).mono ?_
    rintro e w' ⟨rfl, b, t⟩
    exact ⟨rfl, ⟨A, m, c, b, hsl t, hA⟩, t⟩
  · refine (readS_raw _ _ _ _ _ _ _ _ R ⟨l.toArray⟩ _ _ w hB HPA).mono ?_
    rintro e w' ⟨rfl, b, t⟩
    exact ⟨rfl, ⟨A, m, c, b, hsl t, hA⟩, t⟩
  · refine (readN_raw _ _ _ _ _ _ _ _ R ⟨l.toArray⟩ _ _ w hB HPA).mono ?_
    rintro e w' ⟨rfl, b, t⟩
    exact ⟨rfl, ⟨A, m, c, b, hsl t, hA⟩, t⟩
  · refine (readV_raw _ _ _ _ _ _ _ _ R ⟨l.toArray⟩ ⟨(fieldL (readD 0 o 118 l) 118).toArray⟩ _ _ (sayN 0 l) _ w hB HPA (Lib.hid fun wr t => field_any (readD 0 o 118 l) A m c 118 wr hok (hsl t) (hT.tch hP t) (by decide)) (idx_say l).symm rfl).mono ?_
    rintro e w' ⟨rfl, b, t⟩
    exact ⟨by rw [hFb]; rfl, ⟨A, m, c, b, hsl t, hA⟩, t⟩
  · refine (readX_raw _ _ _ _ _ _ _ _ R ⟨l.toArray⟩ ⟨(fieldL (readD 0 o 120 l) 120).toArray⟩ _ _ _ (hexR l) w hB HPA (Lib.hid fun wr => hexParse_any l wr hl) (Lib.hid fun A m c wr hb => field_x _ _ _ _ _ _ _ A m c wr (hexR l).1 hb hok.x) rfl).mono ?_
    rintro e w' ⟨rfl, A', m', c', b, sl, hf, t⟩
    exact ⟨by rw [hFb]; rfl, ⟨A', m', c', b, sl, fun b q e => by have := hf b q e; have := hB.lt; omega⟩, t⟩
end Go.Proofs.YtadenlhnfkccaaaGreatDoor

/- Names: the reference's Right, Split, Join, and rows of words. No condition. -/
namespace Go.Proofs.YtadenlhnfkccaaaGreatDoor
open Go.RowKit
set_option linter.unusedVariables false
/-- A slice that reads as texts. -/
abbrev Ws (w : World) (A : Option Addr) (n c : Nat) (ps : List (List UInt8)) : Prop := Sl w A n c 1 (ps.map strc)
theorem Ws.len {w : World} {A : Option Addr} {n c : Nat} {ps : List (List UInt8)} (h : Ws w A n c ps) : ps.length = n := by have := Sl.len h; simpa using this
theorem Ws.addr {w : World} {A : Option Addr} {n c : Nat} {ps : List (List UInt8)} (h : Ws w A n c ps) (hn : 0 < n) : ∃ b o, A = some ⟨b, o, none⟩ ∧ ∀ j (hj : j < ps.length), w.cell? ⟨b, o + j, none⟩ = some (.string ⟨ps[j].toArray⟩) := by
  obtain ⟨b, o, e, hc⟩ := Sl.addr h hn
  exact ⟨b, o, e, fun j hj => hc j _ (by rw [List.getElem?_map, List.getElem?_eq_getElem hj]; rfl)⟩
theorem Own.onto {w0 w1 w : World} {e : TypeId} {size n : Nat} {v : Value} {xs : List Value} (h : Own w1 w e size v n xs) (hb : Below w0.heap.size w0 w1) : Own w0 w e size v n xs := by
  refine ⟨⟨h.1.1, ?_⟩, hb.trans (h.2.mono hb.size)⟩
  rcases h.1.2 with h' | ⟨g, cap, cur, hv, hg, r⟩
  · exact .inl h'
  · exact .inr ⟨g, cap, cur, hv, Nat.le_trans hb.size hg, r⟩
/-! ### parts of slices -/
theorem Sl.gr {w w' : World} {A : Option Addr} {n c s : Nat} {xs : List Value} (h : Sl w A n c s xs) (g : Gr w w') : Sl w' A n c s xs := h.mono g
/-- What Split tells. -/
def splitL (l : List UInt8) : List (List UInt8) := if rightL l = true then piecesL l else []
end Go.Proofs.YtadenlhnfkccaaaGreatDoor

/- Operations as lines: which form a word is of. No condition. -/
namespace Go.Proofs.YtadenlhnfkccaaaGreatDoor
open Go.RowKit
set_option linter.unusedVariables false
set_option linter.unusedSimpArgs false
theorem isForm_any (x y z : ByteArray) (V b o n c : Nat) (w : World) (hv : w.cell? ⟨V, 0, none⟩ = some (.slice (some ⟨b, o, none⟩) n c)) (hz : w.cell? ⟨b, o, none⟩ = some (.string z)) (hn : 0 < n) :
    Calls Tryz.prog 54 #[.agg #[.string x, .string y], .pointer (some ⟨V, 0, none⟩)] w fun e w' => e = .returned (.bool (x.toList == z.toList && !(x.toList == []))) ∧ Gr w w' := by
  have g0 : Gr w (w.alloc (.cells #[.string x, .string y] 106)) := Gr.alloc w _
  obtain ⟨wl, hwl⟩ : ∃ wl, wl = w.alloc (.cells #[.string x, .string y] 106) := ⟨_, rfl⟩
  have c0 : wl.cell? ⟨w.heap.size, 0, none⟩ = some (.string x) := by rw [hwl, (Blk.new w _ _).cell]; rfl
  rw [← hwl] at g0
  have c1 := (g0.cell (p := ⟨V, 0, none⟩) (World.block_lt_of_cell? w _ hv)).trans hv
  have c2 := (g0.cell (p := ⟨b, o, none⟩) (World.block_lt_of_cell? w _ hz)).trans hz
  have hn0 : (0 : Int) < (n : Int) := by omega
  have G0 := Lib.hid g0
  have HWL := Lib.hid hwl
  clear g0 hwl hv hz
  go_enter Tryz.func54, Tryz.ntmps54
  cases t1 : (x.toList == z.toList) with
  | true =>
    go_wp2_with fail
    rw [← HWL.out]
    go_quiet (fail)
    go_wp2
    go_ret
    exact ⟨by simp, G0.out.trans (belowN (Gr.refl _) _)⟩
  | false =>
    go_wp2_with fail
    rw [← HWL.out]
    go_quiet (fail)
    go_wp2
    go_ret
    exact ⟨by simp, G0.out.trans (belowN (Gr.refl _) _)⟩
def isForm (w : List UInt8) (k : Nat) : Bool := formW k == w && !(formW k == [])
theorem kind_hit {w : List UInt8} {k : Nat} (hk : k < 10) (h : isForm w k = true) (hj : ∀ j, j < k → isForm w j = false) : kindL w = k := by
  unfold kindL
  have : (List.range 10).find? (isForm w) = some k := by
    rw [List.find?_range_eq_some]
    exact ⟨h, by simpa using hk, fun j hjk => by rw [hj j hjk]; rfl⟩
  show ((List.range 10).find? (isForm w)).getD 10 = k
  rw [this]
  rfl
theorem kind_miss {w : List UInt8} (hj : ∀ j, j < 10 → isForm w j = false) : kindL w = 10 := by
  show ((List.range 10).find? (isForm w)).getD 10 = 10
  have : (List.range 10).find? (isForm w) = none := by
    rw [List.find?_eq_none]
    intro x hx
    rw [hj x (by simpa using hx)]
    decide
  rw [this]
  rfl
set_option maxRecDepth 100000 in
theorem formIx_any (F V b o n c : Nat) (z : List UInt8) (w : World) (hF : Blk w F 107 formCells.toList) (hv : w.cell? ⟨V, 0, none⟩ = some (.slice (some ⟨b, o, none⟩) n c)) (hz : w.cell? ⟨b, o, none⟩ = some (strc z)) (hn : 0 < n) :
    Calls Tryz.prog 53 #[.slice (some ⟨F, 0, none⟩) 10 10, .func (.func 54) #[] #[.pointer (some ⟨V, 0, none⟩)]] w fun e w' => e = .returned (.int .i64 (if kindL z < 10 then (kindL z : Int) else -1)) ∧ Gr w w' := by
  have HC : Hid (∀ (x y : ByteArray) wr, Gr w wr → Calls Tryz.prog 54 #[.agg #[.string x, .string y], .pointer (some ⟨V, 0, none⟩)] wr fun e w' => e = .returned (.bool (x.toList == z && !(x.toList == []))) ∧ Gr wr w') := fun x y wr g => by
    have h := isForm_any x y ⟨z.toArray⟩ V b o n c wr ((g.cell (p := ⟨V, 0, none⟩) (World.block_lt_of_cell? w _ hv)).trans hv) ((g.cell (p := ⟨b, o, none⟩) (World.block_lt_of_cell? w _ hz)).trans hz) hn
    rw [show (⟨z.toArray⟩ : ByteArray).toList = z by rw [ByteArray.toList_eq]] at h
    exact h
  have HF := Lib.hid hF
  clear hF hv hz
  obtain ⟨r, hr⟩ : ∃ r : Int, r = if kindL z < 10 then (kindL z : Int) else -1 := ⟨_, rfl⟩
  rw [← hr]
  have HR := Lib.hid hr; clear hr
  go_enter Tryz.func53, Tryz.ntmps53
  go_wp2
  go_loopw [8] (fun i wr => ∃ k : Nat, k ≤ 10 ∧ i = .int .i64 k ∧ Gr w wr ∧ ∀ j, j < k → isForm z j = false) (fun i _ => 10 - (intOf i).toNat)
  case atStart => exact ⟨0, by omega, rfl, Gr.refl _, fun j h => by omega⟩
  case round =>
    obtain ⟨k, hk, rfl, g, hj⟩ := hrel
    have HJ := Lib.hid hj; have G := Lib.hid g; clear hj g
    by_cases hlt : k < 10
    · have t1 : decide ((k : Int) < 10) = true := decide_eq_true (by omega)
      have hi : (k : Int) < 10 := by omega
      obtain ⟨x, hx⟩ : ∃ x : ByteArray, x = ⟨(formW k).toArray⟩ := ⟨_, rfl⟩
      obtain ⟨y, hy⟩ : ∃ y : ByteArray, y = ⟨(formS k).toArray⟩ := ⟨_, rfl⟩
      have hxl : x.toList = formW k := by rw [hx, ByteArray.toList_eq]
      have c0 : wr.cell? ⟨F, k * 2, none⟩ = some (.string x) := by
        rw [(HF.out.mono G.out).cell, Nat.mul_comm, formCells_w k hlt, hx]; rfl
      have c1 : wr.cell? ⟨F, k * 2 + 1, none⟩ = some (.string y) := by
        rw [(HF.out.mono G.out).cell, Nat.mul_comm, formCells_s k hlt, hy]; rfl
      have HCC := Lib.hid (HC.out x y wr G.out)
      rw [hxl] at HCC
      clear hx hy hxl
      cases hb : isForm z k with
      | true =>
        have hb2 : (formW k == z && !(formW k == [])) = true := hb
        rw [hb2] at HCC
        have HX : Hid (r = (k : Int)) := by
          show _ = _
          have := kind_hit hlt hb HJ.out
          rw [HR.out, this, if_pos hlt]
        clear hb hb2
        go_wp2_with fail
        refine HCC.out.mono ?_
        rintro e w2 ⟨rfl, g2⟩
        have G2 := Lib.hid g2; clear g2
        go_wp2_with fail
        go_ret
        exact ⟨by rw [HX.out]; rfl, G.out.trans G2.out⟩
      | false =>
        have hb2 : (formW k == z && !(formW k == [])) = false := hb
        rw [hb2] at HCC
        have HN : Hid (∀ j, j < k + 1 → isForm z j = false) := fun j h => by
          rcases Nat.lt_succ_iff_lt_or_eq.1 h with h | rfl
          · exact HJ.out j h
          · exact hb
        clear hb hb2
        go_wp2_with fail
        refine HCC.out.mono ?_
        rintro e w2 ⟨rfl, g2⟩
        have G2 := Lib.hid g2; clear g2
        go_wp2_with fail
        refine ⟨⟨k + 1, by omega, by first | trivial | go_num, G.out.trans G2.out, HN.out⟩, ?_⟩
        show 10 - ((k : Int) + 1).toNat < 10 - (k : Int).toNat
        omega
    · obtain rfl : k = 10 := by omega
      have HX : Hid (r = -1) := by
        show _ = _
        rw [HR.out, kind_miss HJ.out]; rfl
      go_wp2
      go_ret
      exact ⟨by rw [HX.out]; rfl, G.out⟩
end Go.Proofs.YtadenlhnfkccaaaGreatDoor

/- Operations as lines: Parse. No condition. -/
namespace Go.Proofs.YtadenlhnfkccaaaGreatDoor
open Go.RowKit
set_option linter.unusedVariables false
set_option linter.unusedSimpArgs false
/-- The library's bound on short searches stands. -/
def MLen (w : World) : Prop := ∃ m, w.cell? ⟨0, 0, none⟩ = some (.int .i64 m)
theorem MLen.mono {w w' : World} (h : MLen w) (g : Gr w w') : MLen w' := by
  obtain ⟨m, hm⟩ := h
  exact ⟨m, (g.cell (World.block_lt_of_cell? w _ hm)).trans hm⟩
def RetCut (w : World) (ps : List (List UInt8)) (e : Ending) (w' : World) : Prop := ∃ b o c : Nat, e = .returned (.slice (some ⟨b, o, none⟩) ps.length c) ∧ Ws w' (some ⟨b, o, none⟩) ps.length c ps ∧ Gr w w'
theorem split_any (l : List UInt8) (w : World) (hl : l.length ≤ 100000) (hM : MLen w) : Calls Tryz.prog 27 #[.string ⟨l.toArray⟩, .string ⟨#[32]⟩] w (RetCut w (cutL 32 l)) := by
  obtain ⟨m, hm⟩ := hM
  have h := Tryz.strings_Split ⟨l.toArray⟩ ⟨#[32]⟩ m w (by rw [size_of']; omega) hm (by decide)
  have hsp := split_cut 32 _ ⟨l.toArray⟩ rfl
  rw [hsp] at h
  have hln : (cutL 32 l).length = Lib.countB ⟨l.toArray⟩ ⟨#[32]⟩ + 1 := by
    have := congrArg List.length hsp
    rw [List.length_map, List.length_map, Lib.splitB_all _ (by decide) 0 _ _ rfl] at this
    exact this.symm
  refine h.mono ?_
  rintro e w' ⟨rfl, rfl⟩
  rw [← hln]
  have ow := (Blk.new w 9 ((cutL 32 l).map strc).toArray).own (w0 := w) (size := 1) (n := (cutL 32 l).length) (Nat.le_refl _) (Gr.alloc w _) (by simp) (by have := (cut_size 32 l).1; simp only [maxLen]; omega)
  obtain ⟨A, c, e, sl⟩ := ow.slice
  injection e with e1 e2 e3
  subst e1 e3
  exact ⟨_, _, _, rfl, sl, Gr.alloc w _⟩
theorem head_at : ∀ {ps : List (List UInt8)} (h : 0 < ps.length), ps.headD [] = ps[0]
  | x :: xs, _ => rfl
/-- An operation and a fault, told. -/
def RetOp (w : World) (r : OpD × Nat) (e : Ending) (w' : World) : Prop := ∃ A m c, e = .returned (.tuple #[opV r.1 A m c, .int .i64 (r.2 : Int)]) ∧ Bs w' A m c r.1.x ∧ Gr w w'
/-- .. and the bytes are new. -/
def RetOpN (w : World) (r : OpD × Nat) (e : Ending) (w' : World) : Prop := ∃ A m c, e = .returned (.tuple #[opV r.1 A m c, .int .i64 (r.2 : Int)]) ∧ Bs w' A m c r.1.x ∧ Gr w w' ∧ ∀ b q, A = some ⟨b, q, none⟩ → w.heap.size ≤ b
theorem opOne (o : OpD) (A : Option Addr) (m c : Nat) : (opC o A m c).all (·.oneCell') = true := by
  rw [Array.all_eq_true']
  intro v hv
  have : v ∈ (opC o A m c).toList := Array.mem_toList_iff.2 hv
  simp only [opC, List.mem_cons, List.not_mem_nil, or_false] at this
  rcases this with h | h | h | h | h | h | h | h <;> subst h <;> rfl
theorem opSize : (Tryz.prog.info? 24).map (·.size) = some 8 := by kernel_rfl
theorem results_op {fn : Func} {p u : Tmp} (h : fn.results = #[.cell p 24, .tmp u]) (tmps : Array Value) (w : World) (g : Nat) (t : TypeId) (cs : Array Value)
    (hp : tmps.getD p undef = .pointer (some ⟨g, 0, none⟩)) (hg : w.heap[g]? = some (.cells cs t (0, 0))) (hc : cs.size = 8) :
    (results fn tmps).run Tryz.prog w = .ok (.tuple #[.agg cs, tmps.getD u undef]) w := by
  rw [results_cell_tmp h, hp]
  simp only [asAddr, Sem.run_pure, Result.andThen, run_loadVar_row w g t 24 cs (0, 0) _ hg Tryz.underlying24 rfl (by rw [opSize, hc])]
theorem Tch.iterAt (w : World) (I : Nat) (s : ByteArray) (p : Nat) : Tch (fun q => q = I) w (w.iterAt I s p) :=
  ⟨Lib.below_iterAt (Below.refl 0 w) (Nat.zero_le _) s p, fun b _ hn => Lib.iterAt_other w I b s p hn⟩
theorem iter_not_cell {w : World} {I : Nat} {s : ByteArray} {p i : Nat} {v : Value} (h : w.heap[I]? = some (.stringIter s p)) (hc : w.cell? ⟨I, i, none⟩ = some v) : False := by
  simp [World.cell?, h] at hc
theorem RdIs.tch {w w' : World} {R I : Nat} {o : OpD} {s : ByteArray} {p : Nat} (h : RdIs w R 0 o) (hI : w.heap[I]? = some (.stringIter s p)) (t : Tch (fun q => q = I) w w') : RdIs w' R 0 o := by
  obtain ⟨A, m, c, hb, hx, hA⟩ := h
  have hRI : R ≠ I := by
    rintro rfl
    have := hb.cell 0
    exact iter_not_cell hI (this.trans rfl)
  refine ⟨A, m, c, hb.tch t hRI, ?_, hA⟩
  refine Sl.tch hx (by decide) t (fun hn b q e => ?_)
  rintro rfl
  obtain ⟨b', q', e', hc⟩ := Sl.addr hx hn
  rw [e] at e'
  injection e' with e'
  injection e' with e1 e2
  subst e1
  have hl : 0 < (o.x.map u8c).length := by rw [Sl.len hx]; exact hn
  exact iter_not_cell hI (hc 0 _ (List.getElem?_eq_getElem hl))
theorem bs_row {w : World} {A : Option Addr} {m c g : Nat} {x : List UInt8} (hx : Bs w A m c x) (hb : Blk w g 24 (opC op0 none 0 0).toList) (cs : Array Value) : Bs (w.setRow g cs) A m c x := by
  obtain ⟨h1, h2, h3, h4⟩ := hx
  refine ⟨h1, h2, h3, fun hn => ?_⟩
  obtain ⟨b, o, e, hc⟩ := h4 hn
  have hne : b ≠ g := Sl.not_blk (⟨h1, h2, h3, h4⟩ : Bs w A m c x) (by decide) hb (fun u hu v hv => by
    obtain ⟨z, hz, rfl⟩ := List.mem_map.1 (List.mem_of_getElem? hv)
    simp only [opC, List.mem_cons, List.not_mem_nil, or_false] at hu
    rcases hu with h | h | h | h | h | h | h | h <;> subst h <;> simp [u8c, strc]) hn e
  refine ⟨b, o, e, fun j u hu => ?_⟩
  rw [World.cell?_of_block (w := w) (a := ⟨b, o + j, none⟩) (setRow_other w g b cs hne)]
  exact hc j u hu
theorem signs_all : ∀ k s, s ∈ formS k → Sign s.toNat := by
  intro k s h
  unfold Sign
  match k, h with
  | 1, h => simp [formS] at h; rcases h with rfl | rfl | rfl <;> decide
  | 2, h => simp [formS] at h; rcases h with rfl | rfl | rfl | rfl <;> decide
  | 3, h => simp [formS] at h; rcases h with rfl | rfl | rfl <;> decide
  | 4, h => simp [formS] at h; rcases h with rfl | rfl | rfl | rfl <;> decide
  | 5, h => simp [formS] at h; rcases h with rfl | rfl <;> decide
  | 6, h => simp [formS] at h; subst h; decide
  | 7, h => simp [formS] at h; rcases h with rfl | rfl <;> decide
  | 8, h => simp [formS] at h; subst h; decide
  | 9, h => simp [formS] at h; subst h; decide
  | 0, h => simp [formS] at h
  | k + 10, h => simp [formS] at h
theorem formS_len (k : Nat) : (formS k).length ≤ 4 := by
  match k with
  | 0 | 1 | 2 | 3 | 4 | 5 | 6 | 7 | 8 | 9 => simp [formS]
  | k + 10 => simp [formS]
set_option maxRecDepth 100000 in
set_option maxHeartbeats 2000000 in
theorem opParse_new (l : List UInt8) (w : World) (hl : l.length ≤ 100000) (hM : MLen w) (hT : Pow10 w) : Calls Tryz.prog 26 #[strc l] w (RetOpN w (parseO l)) := by
  have HSP : Hid (∀ wr, Gr w wr → Calls Tryz.prog 27 #[strc l, .string ⟨#[32]⟩] wr (RetCut wr (cutL 32 l))) := fun wr g => split_any l wr hl (hM.mono g)
  have HFO : Hid (∀ wr : World, Calls Tryz.prog 52 #[] wr fun e w' => e = .returned (.agg formCells) ∧ Gr wr w') := fun wr => forms_any wr
  have HO := Lib.hid formOne
  obtain ⟨s, hs⟩ : ∃ s : ByteArray, strc l = .string s := ⟨_, rfl⟩
  rw [hs] at HSP ⊢
  clear hs hM
  obtain ⟨r, hr⟩ : ∃ r, r = parseO l := ⟨_, rfl⟩
  rw [← hr]
  have HR := Lib.hid hr; clear hr
  go_enter Tryz.func26, Tryz.ntmps26
  go_wp2_with fail
  refine (HSP.out _ (Gr.alloc _ _)).mono ?_
  rintro e w1 ⟨b, o, c, rfl, s1, g1⟩
  have S1 := Lib.hid s1; have G1 := Lib.hid g1; clear s1 g1
  go_wp2_with fail
  refine (HFO.out _).mono ?_
  rintro e w2 ⟨rfl, g2⟩
  have G2 := Lib.hid g2; clear g2
  go_wp2_with (refine wpList_store_row rfl 107 (.tmp 5) (.tmp 13) rfl w2.heap.size formCells rfl rfl 107 (reps 20 (.string ⟨#[]⟩)).toArray (by exact heap_alloc_new w2 _) formSize rfl HO.out ?_)
  have G23 : Gr w2 ((w2.alloc (.cells (reps 20 (.string ⟨#[]⟩)).toArray 107)).setRow w2.heap.size formCells) := below_row39 ((Below.refl _ _).alloc (Nat.le_refl _) _) (Nat.le_refl _) _
  have BF : Blk ((w2.alloc (.cells (reps 20 (.string ⟨#[]⟩)).toArray 107)).setRow w2.heap.size formCells) w2.heap.size 107 formCells.toList := setRow_heap _ w2.heap.size _ _ _ _ (heap_alloc_new w2 _)
  show Calls _ _ _ ((w2.alloc (.cells (reps 20 (.string ⟨#[]⟩)).toArray 107)).setRow w2.heap.size formCells) _
  generalize (w2.alloc (.cells (reps 20 (.string ⟨#[]⟩)).toArray 107)).setRow w2.heap.size formCells = w3 at *
  have gA : Gr w1 w3 := ((Gr.alloc w1 (.cells #[.slice (some ⟨b, o, none⟩) (cutL 32 l).length c] 68)).trans G2.out).trans G23
  have hv : w3.cell? ⟨w1.heap.size, 0, none⟩ = some (.slice (some ⟨b, o, none⟩) (cutL 32 l).length c) := by
    rw [((Blk.new w1 68 #[.slice (some ⟨b, o, none⟩) (cutL 32 l).length c]).mono (G2.out.trans G23)).cell]; rfl
  have GW : Hid (Gr w w3) := (((Gr.alloc w (.cells #[.int .i64 0, .string ⟨#[]⟩, .string ⟨#[]⟩, .int .i64 0, .int .i64 0, .int .i64 0, .int .i64 0, .slice none 0 0] 24)).trans G1.out).trans gA)
  have BR : Hid (Blk w3 w.heap.size 24 (opC op0 none 0 0).toList) := ((Blk.new w 24 #[.int .i64 0, .string ⟨#[]⟩, .string ⟨#[]⟩, .int .i64 0, .int .i64 0, .int .i64 0, .int .i64 0, .slice none 0 0]).mono G1.out).mono gA
  have S3 := Lib.hid (Sl.gr S1.out gA)
  have hne := List.length_pos_iff.2 (cut_ne 32 l)
  have hz : w3.cell? ⟨b, o, none⟩ = some (strc ((cutL 32 l).headD [])) := by
    obtain ⟨b', o', e, hc⟩ := Ws.addr S3.out hne
    injection e with e
    injection e with e1 e2
    subst e1 e2
    have := hc 0 hne
    rw [head_at hne]
    exact this
  have HIX := Lib.hid (formIx_any w2.heap.size w1.heap.size b o (cutL 32 l).length c ((cutL 32 l).headD []) w3 BF hv hz hne)
  have HBF := Lib.hid BF
  have HV := Lib.hid hv
  have hsm := (cut_size 32 l).1
  have HPO : Hid (r = match (if kindL ((cutL 32 l).headD []) < 10 then tryL (kindL ((cutL 32 l).headD [])) (cutL 32 l) else none) with
    | some o => (o, 0)
    | none => (op0, 3)) := HR.out
  clear HR
  have hwz : ∀ p ∈ cutL 32 l, p.length ≤ 100000 := fun p hp => Nat.le_trans ((cut_size 32 l).2 p hp) hl
  clear hz hv BF G23
  have HWZ := Lib.hid hwz; clear hwz
  generalize cutL 32 l = ws at *
  generalize hkz : kindL (ws.headD []) = K at *
  clear hkz G1 S1 G2 gA HSP HFO HO
  by_cases hK : K < 10
  · rw [if_pos hK] at HIX HPO
    have hfl := formS_len K
    have HSG := Lib.hid (signs_all K)
    obtain ⟨y, hy⟩ : ∃ y : ByteArray, y = ⟨(formS K).toArray⟩ := ⟨_, rfl⟩
    have hys : y.size = (formS K).length := by rw [hy]; exact size_of' _
    have HAT := Lib.hid (at_of (formS K) y hy)
    refine HIX.out.mono ?_
    rintro e w4 ⟨rfl, g4⟩
    have BR4 := Lib.hid (BR.out.mono g4)
    have GW4 := Lib.hid (GW.out.trans g4)
    have BF4 := Lib.hid (HBF.out.mono g4)
    have S4 := Lib.hid (Sl.gr S3.out g4)
    have hv4 : w4.cell? ⟨w1.heap.size, 0, none⟩ = some (.slice (some ⟨b, o, none⟩) ws.length c) := (g4.cell (p := ⟨w1.heap.size, 0, none⟩) (World.block_lt_of_cell? w3 _ HV.out)).trans HV.out
    have c1 : w4.cell? ⟨w2.heap.size, K * 2 + 1, none⟩ = some (.string y) := by
      rw [BF4.out.cell, Nat.mul_comm, formCells_s K hK, hy]; rfl
    have tk : decide ((K : Int) < 0) = false := decide_eq_false (by omega)
    have hi : (K : Int) < 10 := by omega
    have hw : IntKind.i64.wrap (1 + (y.size : Int)) = 1 + y.size := by rw [IntKind.wrap_i64]; omega
    clear g4 hy HIX BR HBF S3 HV GW
    by_cases hlen : ws.length = 1 + y.size
    · have tl : ((ws.length : Int) != 1 + (y.size : Int)) = false := by rw [bne_eq_false_iff_eq]; omega
      have HF : Hid (r = match foldP { op0 with k := (K : Int) } (formS K) ws.tail with
        | some o => (o, 0)
        | none => (op0, 3)) := by
        show _ = _
        rw [HPO.out]
        unfold tryL
        rw [if_pos (by omega)]
      clear HPO
      go_wp2_with fail
      go_quiet (fail)
      have g5 : Gr w4 (w4.drewN nq) := belowN (Gr.refl _) _
      have BR5 : Hid (Blk (w4.drewN nq) w.heap.size 24 (opC op0 none 0 0).toList) := BR4.out.mono g5
      have GW5 : Hid (Gr w (w4.drewN nq)) := GW4.out.trans g5
      have S5 := Lib.hid (Sl.gr S4.out g5)
      have c5 : (w4.drewN nq).cell? ⟨w2.heap.size, K * 2 + 1, none⟩ = some (.string y) := (g5.cell (p := ⟨w2.heap.size, K * 2 + 1, none⟩) (World.block_lt_of_cell? w4 _ c1)).trans c1
      have hv5 := (g5.cell (p := ⟨w1.heap.size, 0, none⟩) (World.block_lt_of_cell? w4 _ hv4)).trans hv4
      clear hv4 c1 BR4 GW4 S4 BF4 g5
      generalize w4.drewN nq = w5 at *
      have gC : Gr w5 (w5.alloc (.cells #[.int .i64 (K : Int), .string ⟨#[]⟩, .string ⟨#[]⟩, .int .i64 0, .int .i64 0, .int .i64 0, .int .i64 0, .slice none 0 0] 114)) := Gr.alloc w5 _
      have c6 : (w5.alloc (.cells #[.int .i64 (K : Int), .string ⟨#[]⟩, .string ⟨#[]⟩, .int .i64 0, .int .i64 0, .int .i64 0, .int .i64 0, .slice none 0 0] 114)).cell? ⟨w2.heap.size, K * 2 + 1, none⟩ = some (.string y) := (gC.cell (p := ⟨w2.heap.size, K * 2 + 1, none⟩) (World.block_lt_of_cell? w5 _ c5)).trans c5
      clear tl hw tk
      go_wp2_with fail
      obtain ⟨R, hRe⟩ : ∃ R, R = w5.heap.size := ⟨_, rfl⟩
      obtain ⟨wI, hwI⟩ : ∃ wI, wI = (w5.alloc (.cells #[.int .i64 (K : Int), .string ⟨#[]⟩, .string ⟨#[]⟩, .int .i64 0, .int .i64 0, .int .i64 0, .int .i64 0, .slice none 0 0] 114)).iter y 0 := ⟨_, rfl⟩
      have gD : Gr w5 wI := by rw [hwI]; exact gC.trans (Gr.alloc _ _)
      have hRB : Blk wI R 114 (opC { op0 with k := (K : Int) } none 0 0).toList := by rw [hwI, hRe]; exact (Blk.new w5 114 #[.int .i64 (K : Int), .string ⟨#[]⟩, .string ⟨#[]⟩, .int .i64 0, .int .i64 0, .int .i64 0, .int .i64 0, .slice none 0 0]).mono (Gr.alloc _ _)
      have hIH : wI.heap[R + 1]? = some (.stringIter y 0) := by
        rw [hwI, hRe]
        have := heap_alloc_new (w5.alloc (.cells #[.int .i64 (K : Int), .string ⟨#[]⟩, .string ⟨#[]⟩, .int .i64 0, .int .i64 0, .int .i64 0, .int .i64 0, .slice none 0 0] 114)) (.stringIter y 0)
        rw [show (w5.alloc (.cells #[.int .i64 (K : Int), .string ⟨#[]⟩, .string ⟨#[]⟩, .int .i64 0, .int .i64 0, .int .i64 0, .int .i64 0, .slice none 0 0] 114)).heap.size = w5.heap.size + 1 by simp] at this
        exact this
      have hPR : R ≠ 3 := by have := (hT.mono GW5.out).lt; omega
      have hPI : R + 1 ≠ 3 := by have := (hT.mono GW5.out).lt; omega
      have TI := Lib.hid (hT.mono (GW5.out.trans gD))
      have SI := Lib.hid (Sl.gr S5.out gD)
      have hvI : wI.cell? ⟨w1.heap.size, 0, none⟩ = some _ := (gD.cell (p := ⟨w1.heap.size, 0, none⟩) (World.block_lt_of_cell? w5 _ hv5)).trans hv5
      have hVlt : w1.heap.size < w5.heap.size := World.block_lt_of_cell? w5 _ hv5
      have hblt : ∀ bb oo, (some ⟨b, o, none⟩ : Option Addr) = some ⟨bb, oo, none⟩ → bb < w5.heap.size := fun bb oo e => Sl.lt S5.out (by decide) (by omega) e
      have BRI := Lib.hid (BR5.out.mono gD)
      have hr0 : w.heap.size < w5.heap.size := BR5.out.lt
      have GWI := Lib.hid (GW5.out.trans gD)
      show Code.wp _ _ _ _ ((w5.alloc (.cells #[.int .i64 (K : Int), .string ⟨#[]⟩, .string ⟨#[]⟩, .int .i64 0, .int .i64 0, .int .i64 0, .int .i64 0, .slice none 0 0] 114)).iter y 0)
      rw [← hwI, ← hRe]
      rw [← hRe] at hVlt hblt hr0
      clear hwI gC gD c5 c6 hv5 S5 BR5 GW5 hT hRe
      have HRB := Lib.hid hRB; have HIH := Lib.hid hIH; have HVI := Lib.hid hvI; have HBLT := Lib.hid hblt
      clear hRB hIH hvI hblt
      go_loopw [9] (fun v wr => ∃ (k : Nat) (o' : OpD), k ≤ y.size ∧ foldP { op0 with k := (K : Int) } (formS K) ws.tail = foldP o' ((formS K).drop k) (ws.tail.drop k) ∧ OpOk o' ∧ RdIs wr R 0 o' ∧ wr.heap[R + 1]? = some (.stringIter y k) ∧ Tch (fun q => q = R ∨ q = R + 1) wI wr) (fun _ wr => y.size - wr.iterPos (R + 1))
      case atStart => exact ⟨0, { op0 with k := (K : Int) }, by omega, rfl, ⟨⟨by show _ ≤ (K : Int); omega, by show (K : Int) ≤ _; omega⟩, (by decide : -9223372036854775808 ≤ (0 : Int) ∧ (0 : Int) ≤ 9223372036854775807), (by decide : -9223372036854775808 ≤ (0 : Int) ∧ (0 : Int) ≤ 9223372036854775807), (by decide : -9223372036854775808 ≤ (0 : Int) ∧ (0 : Int) ≤ 9223372036854775807), (by decide : -9223372036854775808 ≤ (0 : Int) ∧ (0 : Int) ≤ 9223372036854775807), Nat.zero_le _, Nat.zero_le _, Nat.zero_le _⟩, ⟨none, 0, 0, HRB.out, Sl.nil _ _, fun b q e => by cases e⟩, HIH.out, Tch.refl _⟩
      case round =>
        obtain ⟨k, o', hk, hfold, hok, hrd, hit, ht⟩ := hrel
        have HFD := Lib.hid hfold; have HOKK := Lib.hid hok; have HRD := Lib.hid hrd; have HT := Lib.hid ht
        clear hfold hok hrd ht
        by_cases hlt : k < y.size
        · have hka : k < (formS K).length := by omega
          have hasc : ((y[k]'hlt).toNat : Int) = bAt (formS K) k := HAT.out k hlt
          have hsg := HSG.out _ (List.getElem_mem hka)
          have hgk : (formS K).getD k 0 = (formS K)[k] := by simp [List.getD_eq_getElem?_getD, List.getElem?_eq_getElem hka]
          have hya : (y[k]'hlt).toNat = (formS K)[k].toNat := by unfold bAt at hasc; rw [hgk] at hasc; omega
          have hnx : ∀ ty, (Instr.next (.pointer (some ⟨R + 1, 0, none⟩)) true ty).run Tryz.prog wr = .ok (.tuple #[.bool true, .int .i64 k, .int .i32 ((formS K)[k].toNat : Int)]) (wr.iterAt (R + 1) y (k + 1)) := fun ty => by
            rw [Lib.run_next_ascii_at wr (R + 1) y k ty hit hlt (by rw [hya]; rcases hsg with h | h | h | h | h | h | h <;> omega), hya]
          have hws : k < ws.tail.length := by rw [List.length_tail]; omega
          have hwk : ws.tail[k] = ws[k + 1]'(by omega) := by rw [List.getElem_tail]
          obtain ⟨b', q', eb, hcw⟩ := Ws.addr (Sl.tch SI.out (by decide) HT.out (fun _ bb oo e => by have := HBLT.out bb oo e; omega)) (by omega)
          injection eb with eb
          injection eb with eb1 eb2
          subst eb1 eb2
          have cw := hcw (k + 1) (by omega)
          rw [← hwk] at cw
          clear hcw
          have cv := (World.cell?_of_block (w := wI) (a := ⟨w1.heap.size, 0, none⟩) (HT.out.keep w1.heap.size (World.block_lt_of_cell? wI _ HVI.out) (by omega))).trans HVI.out
          have TIT : Hid (Tch (fun q => q = R + 1) wr (wr.iterAt (R + 1) y (k + 1))) := Tch.iterAt wr (R + 1) y (k + 1)
          have hit2 := Lib.iterAt_heap wr (R + 1) y k (k + 1) hit
          have hRD2 := HRD.out.tch hit TIT.out
          have hbR : ∀ bb oo, (some ⟨b, o, none⟩ : Option Addr) = some ⟨bb, oo, none⟩ → bb < R := HBLT.out
          have hbl := hbR b o rfl
          have cw2 : (wr.iterAt (R + 1) y (k + 1)).cell? ⟨b, o + (k + 1), none⟩ = some (.string ⟨ws.tail[k].toArray⟩) := (World.cell?_of_block (w := wr) (a := ⟨b, o + (k + 1), none⟩) (TIT.out.keep b (World.block_lt_of_cell? wr _ cw) (by omega))).trans cw
          have cv2 : (wr.iterAt (R + 1) y (k + 1)).cell? ⟨w1.heap.size, 0, none⟩ = some _ := (World.cell?_of_block (w := wr) (a := ⟨w1.heap.size, 0, none⟩) (TIT.out.keep w1.heap.size (World.block_lt_of_cell? wr _ cv) (by omega))).trans cv
          have HT2 : Hid (Tch (fun q => q = R ∨ q = R + 1) wI (wr.iterAt (R + 1) y (k + 1))) := HT.out.trans (TIT.out.mono (fun _ _ e => .inr e))
          have hPow : Pow10 (wr.iterAt (R + 1) y (k + 1)) := TI.out.of_block (HT2.out.keep _ TI.out.lt (by rintro (e | e); exact hPR e.symm; exact hPI e.symm))
          have hwl : ws.tail[k].length ≤ 100000 := HWZ.out _ (List.mem_of_mem_tail (List.getElem_mem hws))
          have HRDC := Lib.hid (read_any o' R (formS K)[k].toNat ws.tail[k] (wr.iterAt (R + 1) y (k + 1)) HOKK.out hRD2 hPR hwl hPow hsg)
          have HOK2 := Lib.hid (readD_ok (d := 0) HOKK.out (by decide) hwl hsg)
          have HFD2 : Hid (foldP { op0 with k := (K : Int) } (formS K) ws.tail = if readB (readD 0 o' (formS K)[k].toNat ws.tail[k]) (formS K)[k].toNat ws.tail[k] = true then foldP (readD 0 o' (formS K)[k].toNat ws.tail[k]) ((formS K).drop (k + 1)) (ws.tail.drop (k + 1)) else none) := by
            show _ = _
            rw [HFD.out, List.drop_eq_getElem_cons hka, List.drop_eq_getElem_cons hws]
            rfl
          have hit3 := Lib.hid hit2
          have hik : (k : Int) + 1 < ((1 + (formS K).length : Nat) : Int) := by omega
          have hitk := Lib.hid hit
          clear hit hit2 hRD2 hPow cw cv hasc hgk hya hsg hwk
          generalize ws.tail[k] = wd at *
          generalize (formS K)[k].toNat = sg at *
          obtain ⟨wx, hwx⟩ : ∃ wx : ByteArray, strc wd = .string wx := ⟨_, rfl⟩
          rw [show Value.string ⟨wd.toArray⟩ = Value.string wx from hwx] at cw2
          rw [hwx] at HRDC
          clear hwx
          go_wp2_with fail
          refine HRDC.out.mono ?_
          rintro e w7 ⟨rfl, rd, t7⟩
          have TC := Lib.hid (HT2.out.trans (t7.mono (fun _ _ e => .inl e)))
          have hit7 : w7.heap[R + 1]? = some (.stringIter y (k + 1)) := (t7.keep (R + 1) (Array.getElem?_eq_some_iff.1 hit3.out).1 (fun e => by have e : R + 1 = R := e; omega)).trans hit3.out
          have RD7 := Lib.hid rd
          clear rd t7
          cases hb : readB (readD 0 o' sg wd) sg wd with
          | true =>
            rw [hb] at HFD2
            have HFD3 : Hid (foldP { op0 with k := (K : Int) } (formS K) ws.tail = foldP (readD 0 o' sg wd) ((formS K).drop (k + 1)) (ws.tail.drop (k + 1))) := HFD2.out
            clear hb
            go_wp2_with fail
            go_roundw
            case rel => exact ⟨k + 1, _, by omega, HFD3.out, HOK2.out, RD7.out, hit7, TC.out⟩
            case measure =>
              rw [iterPos_of hit7, iterPos_of hitk.out]
              omega
          | false =>
            rw [hb] at HFD2
            have HF : Hid (r = (op0, 3)) := by show _ = _; rw [HF.out, HFD2.out]; rfl
            have BR7 : Hid (Blk w7 w.heap.size 24 (opC op0 none 0 0).toList) := BRI.out.tch TC.out (fun e => by rcases e with e | e <;> omega)
            have GW7 : Hid (Gr w w7) := Tch.below GWI.out TC.out GWI.out.size (fun q e => by rcases e with e | e <;> omega)
            clear hb
            go_wp2_with (refine wpList_store_row rfl 24 (.tmp 2) (.tmp 55) rfl w.heap.size (opC op0 none 0 0) rfl rfl 24 (opC op0 none 0 0) BR7.out opSize rfl (opOne _ _ _ _) ?_)
            have HN := setRow_heap w7 w.heap.size _ (opC op0 none 0 0) _ _ BR7.out
            have G6 : Gr w (w7.setRow w.heap.size (opC op0 none 0 0)) := below_row39 GW7.out (Nat.le_refl _) _
            rw [HF.out]
            exact bodyPost_ret (results_op Tryz.results26 _ _ w.heap.size _ _ rfl HN rfl) rfl ⟨none, 0, 0, rfl, Sl.nil _ _, G6, fun b q e => by cases e⟩
        · have hke : k = y.size := by omega
          have HF : Hid (r = (o', 0)) := by
            show _ = _
            rw [HF.out, HFD.out, List.drop_of_length_le (show (formS K).length ≤ k by omega)]
            rfl
          have hnx : ∀ ty, (Instr.next (.pointer (some ⟨R + 1, 0, none⟩)) true ty).run Tryz.prog wr = .ok (.tuple #[.bool false]) wr := fun ty => Lib.run_next_end_at wr (R + 1) y k ty hit hlt
          obtain ⟨A', m', c', hb, hx, hA⟩ := HRD.out
          have HB := Lib.hid hb; have HXX := Lib.hid hx; have HAF := Lib.hid hA
          have BR7 : Hid (Blk wr w.heap.size 24 (opC op0 none 0 0).toList) := BRI.out.tch HT.out (fun e => by rcases e with e | e <;> omega)
          have GW7 : Hid (Gr w wr) := Tch.below GWI.out HT.out GWI.out.size (fun q e => by rcases e with e | e <;> omega)
          clear hb hx hA hit HRD
          go_wp2_with (first
            | (refine wpList_load_row rfl 24 (.tmp 58) rfl R rfl 114 (opC o' A' m' c') (0, 0) _ HB.out Tryz.underlying24 rfl opSize ?_)
            | (refine wpList_store_row rfl 24 (.tmp 2) (.tmp 59) rfl w.heap.size (opC o' A' m' c') rfl rfl 24 (opC op0 none 0 0) BR7.out opSize rfl (opOne _ _ _ _) ?_))
          have HN := setRow_heap wr w.heap.size _ (opC o' A' m' c') _ _ BR7.out
          have G8 : Gr w (wr.setRow w.heap.size (opC o' A' m' c')) := below_row39 GW7.out (Nat.le_refl _) _
          rw [HF.out]
          exact bodyPost_ret (results_op Tryz.results26 _ _ w.heap.size _ _ rfl HN rfl) rfl ⟨A', m', c', rfl, bs_row HXX.out BR7.out _, G8, fun b q e => by have := HAF.out b q e; omega⟩
    · have tl : ((ws.length : Int) != 1 + (y.size : Int)) = true := by rw [bne_iff_ne]; omega
      have HF : Hid (r = (op0, 3)) := by
        show _ = _
        rw [HPO.out]
        unfold tryL
        rw [if_neg (by omega)]
      clear HPO
      go_wp2_with fail
      go_quiet (fail)
      have BR5 : Hid (Blk (w4.drewN nq) w.heap.size 24 (opC op0 none 0 0).toList) := BR4.out.mono (belowN (Gr.refl _) _)
      have GW5 : Hid (Gr w (w4.drewN nq)) := GW4.out.trans (belowN (Gr.refl _) _)
      clear hv4 c1
      generalize w4.drewN nq = w5 at *
      go_wp2_with (refine wpList_store_row rfl 24 (.tmp 2) (.tmp 30) rfl w.heap.size (opC op0 none 0 0) rfl rfl 24 (opC op0 none 0 0) BR5.out opSize rfl (opOne _ _ _ _) ?_)
      have HN := setRow_heap w5 w.heap.size _ (opC op0 none 0 0) _ _ BR5.out
      have G6 : Gr w (w5.setRow w.heap.size (opC op0 none 0 0)) := below_row39 GW5.out (Nat.le_refl _) _
      rw [HF.out]
      exact bodyPost_ret (results_op Tryz.results26 _ _ w.heap.size _ _ rfl HN rfl) rfl ⟨none, 0, 0, rfl, Sl.nil _ _, G6, fun b q e => by cases e⟩
  · rw [if_neg hK] at HIX HPO
    have HF : Hid (r = (op0, 3)) := HPO.out
    clear HPO
    refine HIX.out.mono ?_
    rintro e w4 ⟨rfl, g4⟩
    have BR4 := Lib.hid (BR.out.mono g4)
    have GW4 := Lib.hid (GW.out.trans g4)
    clear g4
    go_wp2_with fail
    go_quiet (fail)
    have BR5 : Hid (Blk (w4.drewN nq) w.heap.size 24 (opC op0 none 0 0).toList) := BR4.out.mono (belowN (Gr.refl _) _)
    have GW5 : Hid (Gr w (w4.drewN nq)) := GW4.out.trans (belowN (Gr.refl _) _)
    generalize w4.drewN nq = w5 at *
    go_wp2_with (refine wpList_store_row rfl 24 (.tmp 2) (.tmp 30) rfl w.heap.size (opC op0 none 0 0) rfl rfl 24 (opC op0 none 0 0) BR5.out opSize rfl (opOne _ _ _ _) ?_)
    have HN := setRow_heap w5 w.heap.size _ (opC op0 none 0 0) _ _ BR5.out
    have G6 : Gr w (w5.setRow w.heap.size (opC op0 none 0 0)) := below_row39 GW5.out (Nat.le_refl _) _
    rw [HF.out]
    exact bodyPost_ret (results_op Tryz.results26 _ _ w.heap.size _ _ rfl HN rfl) rfl ⟨none, 0, 0, rfl, Sl.nil _ _, G6, fun b q e => by cases e⟩
theorem opParse_any (l : List UInt8) (w : World) (hl : l.length ≤ 100000) (hM : MLen w) (hT : Pow10 w) : Calls Tryz.prog 26 #[strc l] w (RetOp w (parseO l)) :=
  (opParse_new l w hl hM hT).mono fun e w' ⟨A, m, c, h1, h2, h3, _⟩ => ⟨A, m, c, h1, h2, h3⟩
end Go.Proofs.YtadenlhnfkccaaaGreatDoor

/- Operations as lines: the reference's fields. No condition. -/
namespace Go.Proofs.YtadenlhnfkccaaaGreatDoor
open Go.RowKit
set_option linter.unusedVariables false
set_option linter.unusedSimpArgs false
theorem refField_g (k : Int) (gt it : List UInt8) (ee sn n v : Int) (A : Option Addr) (m c : Nat) (w : World) (hl : gt.length ≤ 100000) :
    Calls Tryz.prog 76 #[.agg #[.int .i64 k, strc gt, strc it, .int .i64 ee, .int .i64 sn, .int .i64 n, .int .i64 v, .slice A m c], .int .u8 103] w fun e w' => e = .returned (strc (partT gt)) ∧ Gr w w' := by
  have G0 : Hid (Gr w (w.alloc (.cells #[.int .i64 k, strc gt, strc it, .int .i64 ee, .int .i64 sn, .int .i64 n, .int .i64 v, .slice A m c] 24))) := Gr.alloc w _
  have HC : Hid (Calls Tryz.prog 36 #[strc gt] (w.alloc (.cells #[.int .i64 k, strc gt, strc it, .int .i64 ee, .int .i64 sn, .int .i64 n, .int .i64 v, .slice A m c] 24)) fun e w' => e = .returned (.bool (partL gt)) ∧ Gr (w.alloc (.cells #[.int .i64 k, strc gt, strc it, .int .i64 ee, .int .i64 sn, .int .i64 n, .int .i64 v, .slice A m c] 24)) w') := refPart_any gt _ hl
  have HW0 : Hid (∀ w2, Gr (w.alloc (.cells #[.int .i64 k, strc gt, strc it, .int .i64 ee, .int .i64 sn, .int .i64 n, .int .i64 v, .slice A m c] 24)) w2 → w2.cell? ⟨w.heap.size, 1, none⟩ = some (strc gt)) := fun w2 g => by
    have hb := Blk.new w 24 #[.int .i64 k, strc gt, strc it, .int .i64 ee, .int .i64 sn, .int .i64 n, .int .i64 v, .slice A m c]
    rw [g.cell (p := ⟨w.heap.size, 1, none⟩) hb.lt, hb.cell]
    rfl
  cases hp : partL gt with
  | true =>
    have HF : Hid (partT gt = gt) := if_pos hp
    rw [HF.out]
    rw [hp] at HC
    clear hp
    go_enter Tryz.func76, Tryz.ntmps76
    go_wp2_with fail
    refine HC.out.mono ?_
    rintro e w2 ⟨rfl, g2⟩
    have c1 := HW0.out w2 g2
    have G2 := Lib.hid g2; clear g2
    go_wp2_with fail
    go_ret
    exact ⟨rfl, (G0.out).trans G2.out⟩
  | false =>
    have HF : Hid (partT gt = []) := if_neg (by rw [hp]; decide)
    rw [HF.out]
    rw [hp] at HC
    clear hp
    go_enter Tryz.func76, Tryz.ntmps76
    go_wp2_with fail
    refine HC.out.mono ?_
    rintro e w2 ⟨rfl, g2⟩
    have G2 := Lib.hid g2; clear g2
    go_wp2_with fail
    go_ret
    exact ⟨rfl, (G0.out).trans G2.out⟩
theorem refField_i (k : Int) (gt it : List UInt8) (ee sn n v : Int) (A : Option Addr) (m c : Nat) (w : World) (hl : it.length ≤ 100000) :
    Calls Tryz.prog 76 #[.agg #[.int .i64 k, strc gt, strc it, .int .i64 ee, .int .i64 sn, .int .i64 n, .int .i64 v, .slice A m c], .int .u8 105] w fun e w' => e = .returned (strc (partT it)) ∧ Gr w w' := by
  have G0 : Hid (Gr w (w.alloc (.cells #[.int .i64 k, strc gt, strc it, .int .i64 ee, .int .i64 sn, .int .i64 n, .int .i64 v, .slice A m c] 24))) := Gr.alloc w _
  have HC : Hid (Calls Tryz.prog 36 #[strc it] (w.alloc (.cells #[.int .i64 k, strc gt, strc it, .int .i64 ee, .int .i64 sn, .int .i64 n, .int .i64 v, .slice A m c] 24)) fun e w' => e = .returned (.bool (partL it)) ∧ Gr (w.alloc (.cells #[.int .i64 k, strc gt, strc it, .int .i64 ee, .int .i64 sn, .int .i64 n, .int .i64 v, .slice A m c] 24)) w') := refPart_any it _ hl
  have HW0 : Hid (∀ w2, Gr (w.alloc (.cells #[.int .i64 k, strc gt, strc it, .int .i64 ee, .int .i64 sn, .int .i64 n, .int .i64 v, .slice A m c] 24)) w2 → w2.cell? ⟨w.heap.size, 2, none⟩ = some (strc it)) := fun w2 g => by
    have hb := Blk.new w 24 #[.int .i64 k, strc gt, strc it, .int .i64 ee, .int .i64 sn, .int .i64 n, .int .i64 v, .slice A m c]
    rw [g.cell (p := ⟨w.heap.size, 2, none⟩) hb.lt, hb.cell]
    rfl
  cases hp : partL it with
  | true =>
    have HF : Hid (partT it = it) := if_pos hp
    rw [HF.out]
    rw [hp] at HC
    clear hp
    go_enter Tryz.func76, Tryz.ntmps76
    go_wp2_with fail
    refine HC.out.mono ?_
    rintro e w2 ⟨rfl, g2⟩
    have c1 := HW0.out w2 g2
    have G2 := Lib.hid g2; clear g2
    go_wp2_with fail
    go_ret
    exact ⟨rfl, (G0.out).trans G2.out⟩
  | false =>
    have HF : Hid (partT it = []) := if_neg (by rw [hp]; decide)
    rw [HF.out]
    rw [hp] at HC
    clear hp
    go_enter Tryz.func76, Tryz.ntmps76
    go_wp2_with fail
    refine HC.out.mono ?_
    rintro e w2 ⟨rfl, g2⟩
    have G2 := Lib.hid g2; clear g2
    go_wp2_with fail
    go_ret
    exact ⟨rfl, (G0.out).trans G2.out⟩
theorem refField_e (k : Int) (gt it : List UInt8) (ee sn n v : Int) (A : Option Addr) (m c : Nat) (w : World) (h0 : -9223372036854775808 ≤ ee) (h1 : ee ≤ 9223372036854775807) :
    Calls Tryz.prog 76 #[.agg #[.int .i64 k, strc gt, strc it, .int .i64 ee, .int .i64 sn, .int .i64 n, .int .i64 v, .slice A m c], .int .u8 101] w fun e w' => e = .returned (strc (countT ee)) ∧ Gr w w' := by
  have G0 : Hid (Gr w (w.alloc (.cells #[.int .i64 k, strc gt, strc it, .int .i64 ee, .int .i64 sn, .int .i64 n, .int .i64 v, .slice A m c] 24))) := Gr.alloc w _
  have HC : Hid (Calls Tryz.prog 97 #[.int .i64 ee] (w.alloc (.cells #[.int .i64 k, strc gt, strc it, .int .i64 ee, .int .i64 sn, .int .i64 n, .int .i64 v, .slice A m c] 24)) fun e w' => e = .returned (strc (countT ee)) ∧ Gr (w.alloc (.cells #[.int .i64 k, strc gt, strc it, .int .i64 ee, .int .i64 sn, .int .i64 n, .int .i64 v, .slice A m c] 24)) w') := refCount39_any ee _ h0 h1
  go_enter Tryz.func76, Tryz.ntmps76
  go_wp2_with fail
  refine HC.out.mono ?_
  rintro e w2 ⟨rfl, g2⟩
  have G2 := Lib.hid g2; clear g2
  go_wp2_with fail
  go_ret
  exact ⟨rfl, (G0.out).trans G2.out⟩
theorem refField_s (k : Int) (gt it : List UInt8) (ee sn n v : Int) (A : Option Addr) (m c : Nat) (w : World) (h0 : -9223372036854775808 ≤ sn) (h1 : sn ≤ 9223372036854775807) :
    Calls Tryz.prog 76 #[.agg #[.int .i64 k, strc gt, strc it, .int .i64 ee, .int .i64 sn, .int .i64 n, .int .i64 v, .slice A m c], .int .u8 115] w fun e w' => e = .returned (strc (countT sn)) ∧ Gr w w' := by
  have G0 : Hid (Gr w (w.alloc (.cells #[.int .i64 k, strc gt, strc it, .int .i64 ee, .int .i64 sn, .int .i64 n, .int .i64 v, .slice A m c] 24))) := Gr.alloc w _
  have HC : Hid (Calls Tryz.prog 97 #[.int .i64 sn] (w.alloc (.cells #[.int .i64 k, strc gt, strc it, .int .i64 ee, .int .i64 sn, .int .i64 n, .int .i64 v, .slice A m c] 24)) fun e w' => e = .returned (strc (countT sn)) ∧ Gr (w.alloc (.cells #[.int .i64 k, strc gt, strc it, .int .i64 ee, .int .i64 sn, .int .i64 n, .int .i64 v, .slice A m c] 24)) w') := refCount39_any sn _ h0 h1
  go_enter Tryz.func76, Tryz.ntmps76
  go_wp2_with fail
  refine HC.out.mono ?_
  rintro e w2 ⟨rfl, g2⟩
  have G2 := Lib.hid g2; clear g2
  go_wp2_with fail
  go_ret
  exact ⟨rfl, (G0.out).trans G2.out⟩
theorem refField_n (k : Int) (gt it : List UInt8) (ee sn n v : Int) (A : Option Addr) (m c : Nat) (w : World) (h0 : -9223372036854775808 ≤ n) (h1 : n ≤ 9223372036854775807) :
    Calls Tryz.prog 76 #[.agg #[.int .i64 k, strc gt, strc it, .int .i64 ee, .int .i64 sn, .int .i64 n, .int .i64 v, .slice A m c], .int .u8 110] w fun e w' => e = .returned (strc (countT n)) ∧ Gr w w' := by
  have G0 : Hid (Gr w (w.alloc (.cells #[.int .i64 k, strc gt, strc it, .int .i64 ee, .int .i64 sn, .int .i64 n, .int .i64 v, .slice A m c] 24))) := Gr.alloc w _
  have HC : Hid (Calls Tryz.prog 97 #[.int .i64 n] (w.alloc (.cells #[.int .i64 k, strc gt, strc it, .int .i64 ee, .int .i64 sn, .int .i64 n, .int .i64 v, .slice A m c] 24)) fun e w' => e = .returned (strc (countT n)) ∧ Gr (w.alloc (.cells #[.int .i64 k, strc gt, strc it, .int .i64 ee, .int .i64 sn, .int .i64 n, .int .i64 v, .slice A m c] 24)) w') := refCount39_any n _ h0 h1
  go_enter Tryz.func76, Tryz.ntmps76
  go_wp2_with fail
  refine HC.out.mono ?_
  rintro e w2 ⟨rfl, g2⟩
  have G2 := Lib.hid g2; clear g2
  go_wp2_with fail
  go_ret
  exact ⟨rfl, (G0.out).trans G2.out⟩
theorem refField_v (k : Int) (gt it : List UInt8) (ee sn n v : Int) (A : Option Addr) (m c : Nat) (w : World)  :
    Calls Tryz.prog 76 #[.agg #[.int .i64 k, strc gt, strc it, .int .i64 ee, .int .i64 sn, .int .i64 n, .int .i64 v, .slice A m c], .int .u8 118] w fun e w' => e = .returned (strc (sayT v)) ∧ Gr w w' := by
  have G0 : Hid (Gr w (w.alloc (.cells #[.int .i64 k, strc gt, strc it, .int .i64 ee, .int .i64 sn, .int .i64 n, .int .i64 v, .slice A m c] 24))) := Gr.alloc w _
  have HC : Hid (Calls Tryz.prog 85 #[.int .i64 v] (w.alloc (.cells #[.int .i64 k, strc gt, strc it, .int .i64 ee, .int .i64 sn, .int .i64 n, .int .i64 v, .slice A m c] 24)) fun e w' => e = .returned (strc (sayT v)) ∧ Gr (w.alloc (.cells #[.int .i64 k, strc gt, strc it, .int .i64 ee, .int .i64 sn, .int .i64 n, .int .i64 v, .slice A m c] 24)) w') := refSaid_any v _
  go_enter Tryz.func76, Tryz.ntmps76
  go_wp2_with fail
  refine HC.out.mono ?_
  rintro e w2 ⟨rfl, g2⟩
  have G2 := Lib.hid g2; clear g2
  go_wp2_with fail
  go_ret
  exact ⟨rfl, (G0.out).trans G2.out⟩
set_option maxRecDepth 100000 in
theorem refField_x (k : Int) (gt it : List UInt8) (ee sn n v : Int) (A : Option Addr) (m c : Nat) (w : World) (x : List UInt8) (hx : Bs w A m c x) (hl : x.length ≤ 100000) :
    Calls Tryz.prog 76 #[.agg #[.int .i64 k, strc gt, strc it, .int .i64 ee, .int .i64 sn, .int .i64 n, .int .i64 v, .slice A m c], .int .u8 120] w fun e w' => e = .returned (strc (if x.length = 32 then hexP x else [])) ∧ Gr w w' := by
  have G0 : Hid (Gr w (w.alloc (.cells #[.int .i64 k, strc gt, strc it, .int .i64 ee, .int .i64 sn, .int .i64 n, .int .i64 v, .slice A m c] 24))) := Gr.alloc w _
  have hml := hx.len
  have HHX := Lib.hid (refHexPrint_any A m c x _ (hx.mono G0.out) (by omega))
  clear hx
  by_cases h32 : m = 32
  · have t1 : ((m : Int) == 32) = true := beq_iff_eq.2 (by omega)
    have HF : Hid ((if x.length = 32 then hexP x else []) = hexP x) := if_pos (by omega)
    rw [HF.out]
    clear hml h32
    go_enter Tryz.func76, Tryz.ntmps76
    go_wp2_with fail
    refine HHX.out.mono ?_
    rintro e w2 ⟨rfl, g2⟩
    have G2 := Lib.hid g2; clear g2
    go_wp2_with fail
    go_ret
    exact ⟨rfl, (G0.out).trans G2.out⟩
  · have t1 : ((m : Int) == 32) = false := beq_eq_false_iff_ne.2 (by omega)
    have HF : Hid ((if x.length = 32 then hexP x else []) = []) := if_neg (by omega)
    rw [HF.out]
    clear hml h32
    go_enter Tryz.func76, Tryz.ntmps76
    go_wp2_with fail
    go_ret
    exact ⟨rfl, G0.out⟩
theorem refField_any (o : OpD) (A : Option Addr) (m c s : Nat) (w : World) (ho : OpOk o) (hx : Bs w A m c o.x) (hs : s = 103 ∨ s = 105 ∨ s = 101 ∨ s = 115 ∨ s = 110 ∨ s = 118 ∨ s = 120) :
    Calls Tryz.prog 76 #[opV o A m c, .int .u8 (s : Int)] w fun e w' => e = .returned (strc (fieldL o s)) ∧ Gr w w' := by
  rcases hs with rfl | rfl | rfl | rfl | rfl | rfl | rfl
  · exact refField_g _ _ _ _ _ _ _ _ _ _ _ ho.g
  · exact refField_i _ _ _ _ _ _ _ _ _ _ _ ho.i
  · exact refField_e _ _ _ _ _ _ _ _ _ _ _ ho.e.1 ho.e.2
  · exact refField_s _ _ _ _ _ _ _ _ _ _ _ ho.s.1 ho.s.2
  · exact refField_n _ _ _ _ _ _ _ _ _ _ _ ho.n.1 ho.n.2
  · exact refField_v _ _ _ _ _ _ _ _ _ _ _
  · exact refField_x _ _ _ _ _ _ _ _ _ _ _ _ hx ho.x
end Go.Proofs.YtadenlhnfkccaaaGreatDoor
