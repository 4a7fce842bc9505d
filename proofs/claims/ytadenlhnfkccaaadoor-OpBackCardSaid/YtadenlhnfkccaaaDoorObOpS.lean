/- Operations as lines: a word read by its sign. No condition. -/
import Derived.Test.YtadenlhnfkccaaaDoorObOpR
import Derived.Test.YtadenlhnfkccaaaDoorObPow
import Derived.Outline
namespace Go.Proofs.YtadenlhnfkccaaaDoor
open Go.RowKit
set_option linter.unusedVariables false
set_option linter.unusedSimpArgs false
theorem idx_say (l : List UInt8) : max (Lib.idxOfS sayZs ⟨l.toArray⟩) 0 = sayN 0 l := by
  have inj : ∀ a b : List UInt8, (⟨a.toArray⟩ : ByteArray) = ⟨b.toArray⟩ → a = b := fun a b h => by
    injection h with h
    injection h
  have e0 : (⟨#[]⟩ : ByteArray) = ⟨l.toArray⟩ ↔ ([] : List UInt8) = l := ⟨fun h => inj [] l h, fun h => by rw [← h]⟩
  have e1 : (⟨#[97, 99, 99, 101, 112, 116, 101, 100]⟩ : ByteArray) = ⟨l.toArray⟩ ↔ wAcc = l := ⟨fun h => inj wAcc l h, fun h => by rw [← h]; rfl⟩
  have e2 : (⟨#[111, 116, 104, 101, 114]⟩ : ByteArray) = ⟨l.toArray⟩ ↔ wOth = l := ⟨fun h => inj wOth l h, fun h => by rw [← h]; rfl⟩
  have e3 : (⟨#[110, 111, 116, 104, 105, 110, 103]⟩ : ByteArray) = ⟨l.toArray⟩ ↔ wNot = l := ⟨fun h => inj wNot l h, fun h => by rw [← h]; rfl⟩
  unfold Lib.idxOfS sayZs sayN
  simp only [Lib.idxFromS]
  by_cases h0 : ([] : List UInt8) = l
  · rw [if_pos (e0.2 h0)]
    subst h0
    rw [if_neg (by decide), if_neg (by decide), if_neg (by decide)]; rfl
  · rw [if_neg (fun h => h0 (e0.1 h))]
    by_cases h1 : wAcc = l
    · rw [if_pos (e1.2 h1), if_pos h1.symm]; rfl
    · rw [if_neg (fun h => h1 (e1.1 h)), if_neg (show ¬ l = wAcc from fun h => h1 h.symm)]
      by_cases h2 : wOth = l
      · rw [if_pos (e2.2 h2), if_pos h2.symm]; rfl
      · rw [if_neg (fun h => h2 (e2.1 h)), if_neg (show ¬ l = wOth from fun h => h2 h.symm)]
        by_cases h3 : wNot = l
        · rw [if_pos (e3.2 h3), if_pos h3.symm]; rfl
        · rw [if_neg (fun h => h3 (e3.1 h)), if_neg (show ¬ l = wNot from fun h => h3 h.symm)]; rfl
theorem parseN_le (l : List UInt8) (m : Int) (h : 0 ≤ m) : 0 ≤ parseN l m ∧ parseN l m ≤ m := by
  unfold parseN
  split
  · exact ⟨by omega, h⟩
  · split
    · exact ⟨by omega, h⟩
    · omega
theorem hexR_len (l : List UInt8) : (hexR l).1.length ≤ l.length := by
  unfold hexR
  split
  · simp
  · split
    · simp
    · rw [hexG_len]; omega
theorem sayN_le (d : Int) (l : List UInt8) (h : -9223372036854775808 ≤ d ∧ d ≤ 9223372036854775807) : -9223372036854775808 ≤ sayN d l ∧ sayN d l ≤ 9223372036854775807 := by
  unfold sayN
  split
  · omega
  · split
    · omega
    · split <;> omega
def Sign (s : Nat) : Prop := s = 103 ∨ s = 105 ∨ s = 101 ∨ s = 115 ∨ s = 110 ∨ s = 118 ∨ s = 120
theorem readD_ok {d : Int} {o : OpD} {s : Nat} {l : List UInt8} (ho : OpOk o) (hd : -9223372036854775808 ≤ d ∧ d ≤ 9223372036854775807) (hl : l.length ≤ 100000) (hs : Sign s) : OpOk (readD d o s l) := by
  have hp := parseN_le l 1073741824 (by decide)
  have hh := hexR_len l
  obtain ⟨a1, a2, a3, a4, a5, a6, a7, a8⟩ := ho
  rcases hs with rfl | rfl | rfl | rfl | rfl | rfl | rfl
  · exact ⟨a1, a2, a3, a4, a5, hl, a7, a8⟩
  · exact ⟨a1, a2, a3, a4, a5, a6, hl, a8⟩
  · exact ⟨a1, ⟨by show _ ≤ parseN l 1073741824; omega, by show parseN l 1073741824 ≤ _; omega⟩, a3, a4, a5, a6, a7, a8⟩
  · exact ⟨a1, a2, ⟨by show _ ≤ parseN l 1073741824; omega, by show parseN l 1073741824 ≤ _; omega⟩, a4, a5, a6, a7, a8⟩
  · exact ⟨a1, a2, a3, ⟨by show _ ≤ parseN l 1073741824; omega, by show parseN l 1073741824 ≤ _; omega⟩, a5, a6, a7, a8⟩
  · exact ⟨a1, a2, a3, a4, sayN_le d l hd, a6, a7, a8⟩
  · exact ⟨a1, a2, a3, a4, a5, a6, a7, by show (hexR l).1.length ≤ _; omega⟩
/-- The reader's operation, in its block. -/
def RdIs (w : World) (R B : Nat) (o : OpD) : Prop := ∃ A m c, Blk w R 77 (opC o A m c).toList ∧ Bs w A m c o.x ∧ ∀ b q, A = some ⟨b, q, none⟩ → b ≠ R
theorem Pow10.tch {w w' : World} {R : Nat} (h : Pow10 w) (hR : R ≠ 3) (t : Tch (fun q => q = R) w w') : Pow10 w' := h.of_block (t.keep _ h.lt (fun e => hR e.symm))
def RetRd (w : World) (R : Nat) (o : OpD) (b : Bool) (e : Ending) (w' : World) : Prop := e = .returned (.bool b) ∧ RdIs w' R 0 o ∧ Tch (fun q => q = R) w w'
theorem read_any (o : OpD) (R s : Nat) (l : List UInt8) (w : World) (ho : OpOk o) (hr : RdIs w R 0 o) (hP : R ≠ 3) (hl : l.length ≤ 100000) (hT : Pow10 w) (hs : Sign s) :
    Calls Tryd.prog 33 #[.pointer (some ⟨R, 0, none⟩), .int .i32 (s : Int), strc l] w (RetRd w R (readD 0 o s l) (readB (readD 0 o s l) s l)) := by
  obtain ⟨A, m, c, hB, hx, hA⟩ := hr
  have hok := readD_ok (d := 0) ho (by decide) hl hs
  have HPA : Hid (Calls Tryd.prog 43 #[.string ⟨l.toArray⟩, .int .i64 1073741824] w fun e w' => e = .returned (.tuple #[.int .i64 (parseN l 1073741824), .int .i64 (parseF l 1073741824)]) ∧ Gr w w') := parse_any ⟨l.toArray⟩ l 1073741824 w rfl (by rw [size_of']; omega)
  have hst : (⟨l.toArray⟩ : ByteArray).toList = l := by rw [ByteArray.toList_eq]
  have hsl : ∀ {wr}, Tch (fun q => q = R) w wr → Bs wr A m c o.x := fun t => Sl.tch hx (by decide) t (fun _ b q e => hA b q e)
  have hFb : ∀ f : List UInt8, ((!((⟨l.toArray⟩ : ByteArray).toList == []) && (⟨f.toArray⟩ : ByteArray).toList == (⟨l.toArray⟩ : ByteArray).toList)) = (!(l == []) && f == l) := fun f => by rw [hst, ByteArray.toList_eq]
  rcases hs with rfl | rfl | rfl | rfl | rfl | rfl | rfl
  · refine (readG_raw _ _ _ _ _ _ _ _ R ⟨l.toArray⟩ ⟨(fieldL (readD 0 o 103 l) 103).toArray⟩ _ _ _ w hB HPA (Lib.hid fun wr t => field_any (readD 0 o 103 l) A m c 103 wr hok (hsl t) (hT.tch hP t) (by decide)) rfl).mono ?_
    rintro e w' ⟨rfl, b, t⟩
    exact ⟨by rw [hFb]; rfl, ⟨A, m, c, b, hsl t, hA⟩, t⟩
  · refine (readI_raw _ _ _ _ _ _ _ _ R ⟨l.toArray⟩ ⟨(fieldL (readD 0 o 105 l) 105).toArray⟩ _ _ _ w hB HPA (Lib.hid fun wr t => field_any (readD 0 o 105 l) A m c 105 wr hok (hsl t) (hT.tch hP t) (by decide)) rfl).mono ?_
    rintro e w' ⟨rfl, b, t⟩
    exact ⟨by rw [hFb]; rfl, ⟨A, m, c, b, hsl t, hA⟩, t⟩
  · refine (readE_raw _ _ _ _ _ _ _ _ R ⟨l.toArray⟩ _ _ w hB HPA).mono ?_
    rintro e w' ⟨rfl, b, t⟩
    exact ⟨rfl, ⟨A, m, c, b, hsl t, hA⟩, t⟩
  · refine (readS_raw _ _ _ _ _ _ _ _ R ⟨l.toArray⟩ _ _ w hB HPA).mono ?_
    rintro e w' ⟨rfl, b, t⟩
    exact ⟨rfl, ⟨A, m, c, b, hsl t, hA⟩, t⟩
  · refine (readN_raw _ _ _ _ _ _ _ _ R ⟨l.toArray⟩ _ _ w hB HPA).mono ?_
    rintro e w' ⟨rfl, b, t⟩
    exact ⟨rfl, ⟨A, m, c, b, hsl t, hA⟩, t⟩
  · refine (readV_raw _ _ _ _ _ _ _ _ R ⟨l.toArray⟩ ⟨(fieldL (readD 0 o 118 l) 118).toArray⟩ _ _ (sayN 0 l) _ w hB HPA (Lib.hid fun wr t => field_any (readD 0 o 118 l) A m c 118 wr hok (hsl t) (hT.tch hP t) (by decide)) (idx_say l).symm rfl).mono ?_
    rintro e w' ⟨rfl, b, t⟩
    exact ⟨by rw [hFb]; rfl, ⟨A, m, c, b, hsl t, hA⟩, t⟩
  · refine (readX_raw _ _ _ _ _ _ _ _ R ⟨l.toArray⟩ ⟨(fieldL (readD 0 o 120 l) 120).toArray⟩ _ _ _ (hexR l) w hB HPA (Lib.hid fun wr => hexParse_any l wr hl) (Lib.hid fun A m c wr hb => field_x _ _ _ _ _ _ _ A m c wr (hexR l).1 hb hok.x) rfl).mono ?_
    rintro e w' ⟨rfl, A', m', c', b, sl, hf, t⟩
    exact ⟨by rw [hFb]; rfl, ⟨A', m', c', b, sl, fun b q e => by have := hf b q e; have := hB.lt; omega⟩, t⟩
end Go.Proofs.YtadenlhnfkccaaaDoor
