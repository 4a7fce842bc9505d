/- The text of a term: Print. No condition. -/
import Derived.Test.YthlnoaalhojphaaDoorObPrintX
import Derived.Outline
import Derived.Laws.EntriesVeiled
namespace Go.Proofs.YthlnoaalhojphaaDoor
open Go.RowKit
set_option linter.unusedVariables false
def textT (T : List Nd) (id : Int) : List UInt8 := if sizeT T id = 0 ∨ 1000 < sizeT T id then [] else printT T id.toNat
set_option maxRecDepth 100000 in
set_option maxHeartbeats 2000000 in
theorem print_no (g : Nat) (T : List Nd) (id : Int) (w : World) (ht : TRd w g T) (hs : SRd w g T) (hid : -9223372036854775808 ≤ id ∧ id ≤ 9223372036854775807) (h : sizeT T id = 0 ∨ 1000 < sizeT T id) :
    Calls Tryd.prog 24 #[.pointer (some ⟨g, 0, none⟩), .int .i64 id] w fun e w' => e = .returned (.string ⟨#[]⟩) ∧ Gr w w' := by
  have hg := Gr.alloc w (.cells #[.pointer (some ⟨g, 0, none⟩)] 25)
  have HS := Lib.hid (termSize_any g T id _ (ht.mono hg) (hs.mono hg) hid)
  have HG := Lib.hid hg
  clear ht hs hg
  generalize sizeT T id = q at *
  rcases h with rfl | h
  · go_enter Tryd.func24, Tryd.ntmps24
    go_wp2_with fail
    refine HS.out.mono ?_
    rintro e w1 ⟨rfl, g1⟩
    have G1 := Lib.hid (HG.out.trans g1); clear g1
    go_wp2_with fail
    go_ret
    exact ⟨rfl, G1.out⟩
  · have t1 : ((q : Int) == 0) = false := by rw [beq_eq_false_iff_ne]; omega
    have t2 : decide (1000 < (q : Int)) = true := decide_eq_true (by omega)
    go_enter Tryd.func24, Tryd.ntmps24
    go_wp2_with fail
    refine HS.out.mono ?_
    rintro e w1 ⟨rfl, g1⟩
    have G1 := Lib.hid (HG.out.trans g1); clear g1
    go_wp2_with fail
    go_ret
    exact ⟨rfl, G1.out⟩
set_option maxRecDepth 100000 in
set_option maxHeartbeats 2000000 in
theorem print_yes (g : Nat) (T : List Nd) (id : Nat) (w : World) (ht : TRd w g T) (hs : SRd w g T) (hT : Parted T) (hK : Kinds T) (hB : Brief T) (hn : T.length ≤ 1000) (h1 : 1 ≤ id) (h2 : id ≤ T.length) (h : sizeT T (id : Int) ≤ 1000) (h0 : sizeT T (id : Int) ≠ 0) :
    Calls Tryd.prog 24 #[.pointer (some ⟨g, 0, none⟩), .int .i64 (id : Int)] w fun e w' => e = .returned (.string ⟨(printT T id).toArray⟩) ∧ Gr w w' := by
  have hg := Gr.alloc w (.cells #[.pointer (some ⟨g, 0, none⟩)] 25)
  have HS := Lib.hid (termSize_any g T (id : Int) _ (ht.mono hg) (hs.mono hg) ⟨by omega, by omega⟩)
  have HG := Lib.hid hg
  have hB1 := Lib.hid (Blk.new w 25 #[.pointer (some ⟨g, 0, none⟩)])
  have e1 : sizeT T (id : Int) = (sizesL T).getD (id - 1) 0 := by
    unfold sizeT
    rw [if_neg (by unfold outside; simp; omega)]
    rfl
  have HLEN : Hid ((printT T id).length ≤ 100000000) := by
    have := printT_len hT hB id h1 h2 (by rw [← e1]; exact h)
    show _ ≤ _
    omega
  have HPR : Hid (∀ b pw, Prints w w.heap.size b pw g T id) := fun b pw => print1_any w w.heap.size b pw g T ht hT hK hB hn id h1 h2
  clear ht hs hg e1 hT hK hB
  generalize sizeT T (id : Int) = q at *
  have t1 : ((q : Int) == 0) = false := by rw [beq_eq_false_iff_ne]; omega
  have t2 : decide (1000 < (q : Int)) = false := decide_eq_false (by omega)
  go_enter Tryd.func24, Tryd.ntmps24
  go_wp2_with fail
  refine HS.out.mono ?_
  rintro e w1 ⟨rfl, g1⟩
  have G1 := Lib.hid (HG.out.trans g1)
  have B1 := Lib.hid (g1.blk hB1.out); clear g1
  obtain ⟨wb, hwb⟩ : ∃ wb, wb = w1.alloc (.cells #[.pointer none, .slice none 0 0] 108) := ⟨_, rfl⟩
  have hsz : wb.heap.size = w1.heap.size + 1 := by rw [hwb]; simp
  have hbb : Blk wb w1.heap.size 108 [.pointer none, .slice none 0 0] := by rw [hwb]; exact Blk.new w1 108 #[.pointer none, .slice none 0 0]
  obtain ⟨cl, hcl⟩ : ∃ cl : Value, cl = .func (.func 52) #[] #[.pointer (some ⟨w.heap.size, 0, none⟩), .pointer (some ⟨w1.heap.size, 0, none⟩), .pointer (some ⟨w1.heap.size + 1, 0, none⟩)] := ⟨_, rfl⟩
  have hbf := Blk.new wb 109 #[cl]
  rw [hsz] at hbf
  have hg0 : Gr w1 wb := by rw [hwb]; exact Gr.alloc _ _
  have hg1 : Gr wb (wb.alloc (.cells #[cl] 109)) := Gr.alloc _ _
  have hgr := hg0.trans hg1
  have cw : (wb.alloc (.cells #[cl] 109)).cell? ⟨w1.heap.size + 1, 0, none⟩ = some cl := (hbf.cell 0).trans rfl
  have hpw : PW w (wb.alloc (.cells #[cl] 109)) w.heap.size w1.heap.size (w1.heap.size + 1) g [] := by
    refine ⟨hgr.blk B1.out, ⟨.pointer none, .slice none 0 0, .inl rfl, hg1.blk hbb, Own.nil' (G1.out.trans hgr) _ _, G1.out.size⟩, ?_⟩
    rw [← hcl]; exact hbf
  have PWW := Lib.hid hpw
  subst hcl
  subst hwb
  have HWS := Lib.hid hgr
  clear hpw hbf hbb hg0 hg1 hsz hgr
  go_wp2_with fail
  refine (HPR.out _ _ [] _ PWW.out (by simpa using HLEN.out)).mono ?_
  rintro e w5 ⟨rfl, p5, _⟩
  rw [List.nil_append] at p5
  have P5 := Lib.hid p5; clear p5
  go_wp2_with fail
  refine (sbString_any w _ _ _ P5.out.sb).mono ?_
  rintro e w6 ⟨rfl, b6⟩
  have B6 := Lib.hid b6; clear b6
  go_wp2_with fail
  go_ret
  exact ⟨rfl, B6.out⟩
end Go.Proofs.YthlnoaalhojphaaDoor
