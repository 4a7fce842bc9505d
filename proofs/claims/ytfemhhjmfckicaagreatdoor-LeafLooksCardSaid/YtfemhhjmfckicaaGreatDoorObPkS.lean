/- Own texts of this claim, one behind the other. No condition. -/
import Derived.Test.YtfemhhjmfckicaaGreatDoorObPkA
import Derived.Test.YtfemhhjmfckicaaGreatDoorObPkN
import Derived.Test.YtfemhhjmfckicaaGreatDoorObPkR
import Derived.Outline
import Derived.Test.YtfemhhjmfckicaaGreatDoorProg
import Derived.Deep.QuietTactic
import Derived.BigQuiet

/- Names: Join and Split, as the program says; rows of words. No condition. -/
namespace Go.Proofs.YtfemhhjmfckicaaGreatDoor
open Go.RowKit
set_option linter.unusedVariables false
theorem any_snoc {α : Type} (q : α → Bool) (l : List α) (k : Nat) (h : k < l.length) : (l.take (k + 1)).any q = ((l.take k).any q || q l[k]) := by
  rw [List.take_succ_eq_append_getElem h, List.any_append]; simp
set_option maxHeartbeats 1000000 in
theorem indexW (CL : Nat) (A : Option Addr) (n c : Nat) (ps : List (List UInt8)) (q : List UInt8 → Bool) (w : World) (h : Ws w A n c ps) (hen : ∀ args w, (callFunc CL args).run Tryz.prog w = .ok (.enter CL args) w) (hq : ∀ p ∈ ps, ∀ w', Gr w w' → Calls Tryz.prog CL #[strc p] w' fun e w'' => e = .returned (.bool (q p)) ∧ Gr w' w'') :
    Calls Tryz.prog 55 #[.slice A n c, .func (.func CL) #[] #[]] w fun e w' => ∃ r, e = .returned (.int .i64 r) ∧ decide (0 ≤ r) = ps.any q ∧ Gr w w' := by
  have hmax := h.max
  have hcap := h.cap
  have HL := Lib.hid h.len
  have HH := Lib.hid h; have HQ := Lib.hid hq; clear h hq
  go_enter Tryz.func55, Tryz.ntmps55
  go_wp2
  go_loopw [8] (fun i wr => ∃ k : Nat, k ≤ n ∧ i = .int .i64 k ∧ Gr w wr ∧ (ps.take k).any q = false) (fun i _ => n - (Go.RowKit.intOf i).toNat)
  case atStart => exact ⟨0, Nat.zero_le _, rfl, Gr.refl _, rfl⟩
  case round =>
    obtain ⟨k, hk, rfl, hbel, hall⟩ := hrel
    have HA := Lib.hid hall; have HB := Lib.hid hbel; clear hall
    by_cases hlt : k < n
    · obtain ⟨b, o, rfl, hcc⟩ := Ws.addr (ps := ps) (HH.out.mono hbel) (by omega)
      have hkl : k < ps.length := by rw [HL.out]; exact hlt
      have c1 : wr.cell? ⟨b, o + k, none⟩ = some (strc ps[k]) := hcc k hkl
      have HC := Lib.hid (HQ.out ps[k] (List.getElem_mem hkl) wr hbel)
      have HS := Lib.hid (any_snoc q ps k hkl)
      have HT : Hid (q ps[k] = true → ps.any q = true) := fun hh => List.any_eq_true.2 ⟨_, List.getElem_mem hkl, hh⟩
      clear hcc hbel
      generalize ps[k] = x at *
      cases he : q x
      · have HT2 : Hid ((ps.take (k + 1)).any q = false) := by show _ = _; rw [HS.out, HA.out, he]; rfl
        rw [he] at HC
        clear he
        go_wp2_with fail
        refine HC.out.mono ?_
        rintro e w1 ⟨rfl, b1⟩
        have B1 := Lib.hid b1; clear b1
        go_wp2_with fail
        refine ⟨⟨k + 1, by omega, by first | trivial | go_num, HB.out.trans B1.out, HT2.out⟩, ?_⟩
        show n - ((k : Int) + 1).toNat < n - (k : Int).toNat
        omega
      · have HF : Hid (ps.any q = true) := HT.out he
        rw [he] at HC
        clear he
        go_wp2_with fail
        refine HC.out.mono ?_
        rintro e w1 ⟨rfl, b1⟩
        have B1 := Lib.hid b1; clear b1
        go_wp2_with fail
        go_ret
        exact ⟨k, rfl, by rw [HF.out, decide_eq_true_iff]; omega, HB.out.trans B1.out⟩
    · obtain rfl : n = k := by omega
      have HF : Hid (ps.any q = false) := by have := HA.out; rwa [List.take_of_length_le (by rw [HL.out]; omega)] at this
      clear hbel
      go_wp2_with fail
      go_ret
      exact ⟨-1, rfl, by rw [HF.out]; rfl, HB.out⟩
theorem any_not (ps : List (List UInt8)) : ps.any (fun p => !partL p) = !ps.all partL := by
  induction ps with
  | nil => rfl
  | cons p ps ih => rw [List.any_cons, List.all_cons, ih, Bool.not_and]
/-- The library's bound on short searches stands. -/
def MLen (w : World) : Prop := ∃ m, w.cell? ⟨2, 0, none⟩ = some (.int .i64 m)
theorem MLen.mono {w w' : World} (h : MLen w) (g : Gr w w') : MLen w' := by
  obtain ⟨m, hm⟩ := h
  exact ⟨m, (g.cell (World.block_lt_of_cell? w _ hm)).trans hm⟩
/-- What Split tells: none, or a row just laid. -/
theorem split_any (l : List UInt8) (w : World) (hl : l.length ≤ 100000) (hT : U8 w) (hM : MLen w) : Calls Tryz.prog 124 #[.string ⟨l.toArray⟩] w (RetWs w (splitL l)) := by
  have HR := Lib.hid (right_any l w hl hT)
  have HM := Lib.hid hM
  have HP : Hid (∀ wr, MLen wr → Calls Tryz.prog 156 #[.string ⟨l.toArray⟩, .string ⟨#[46]⟩] wr (RetWs wr (piecesL l))) := fun wr ⟨m, hm⟩ => by
    have h := Tryz.strings_Split ⟨l.toArray⟩ ⟨#[46]⟩ m wr (by rw [size_of']; omega) hm (by decide)
    have hsp := split_pieces _ ⟨l.toArray⟩ rfl
    rw [hsp] at h
    have hln : (piecesL l).length = Lib.countB ⟨l.toArray⟩ ⟨#[46]⟩ + 1 := by
      have := congrArg List.length hsp
      rw [List.length_map, List.length_map, Lib.splitB_all _ (by decide) 0 _ _ rfl] at this
      exact this.symm
    refine h.mono ?_
    rintro e w' ⟨rfl, rfl⟩
    refine ⟨_, rfl, ?_⟩
    rw [← hln]
    exact (Blk.new wr 9 ((piecesL l).map strc).toArray).own (Nat.le_refl _) (Gr.alloc wr _) (by simp) (by have := (pieces_size l).1; simp only [maxLen]; omega)
  obtain ⟨s, hs⟩ : ∃ s : ByteArray, s = ⟨l.toArray⟩ := ⟨_, rfl⟩
  rw [← hs] at HR ⊢
  simp only [← hs] at HP
  clear hs hT hM
  cases hb : rightL l with
  | false =>
    rw [hb] at HR
    have HS : Hid (splitL l = []) := by show _ = _; unfold splitL; rw [if_neg (by rw [hb]; decide)]
    go_enter Tryz.func124, Tryz.ntmps124
    go_wp2_with fail
    refine HR.out.mono ?_
    rintro e w1 ⟨rfl, g1⟩
    have G1 := Lib.hid g1; clear g1
    go_wp2_with fail
    go_ret
    exact ⟨_, rfl, by rw [HS.out]; exact Own.nil' G1.out _ _⟩
  | true =>
    rw [hb] at HR
    have HS : Hid (splitL l = piecesL l) := by show _ = _; unfold splitL; rw [if_pos hb]
    go_enter Tryz.func124, Tryz.ntmps124
    go_wp2_with fail
    refine HR.out.mono ?_
    rintro e w1 ⟨rfl, g1⟩
    have G1 := Lib.hid g1; clear g1
    go_wp2_with fail
    refine (HP.out _ (HM.out.mono G1.out)).mono ?_
    rintro e w2 ⟨v, rfl, own⟩
    have OW := Lib.hid own; clear own
    go_wp2_with fail
    go_ret
    exact ⟨_, rfl, by rw [HS.out]; exact OW.out.onto G1.out⟩
end Go.Proofs.YtfemhhjmfckicaaGreatDoor

namespace Go.Proofs.YtfemhhjmfckicaaGreatDoor
open Go.RowKit
set_option linter.unusedVariables false

/-! ### slices of numbers -/
theorem tNums : ElemT Tryz.prog 70 3 (.int .i64 0) 1 8 := ⟨Tryz.underlying70, by kernel_rfl, rfl, by decide, by decide⟩
def RetIs (w : World) (l : List Int) (e : Ending) (w' : World) : Prop := ∃ v, e = .returned v ∧ Own w w' 3 1 v l.length (l.map i64c)
theorem Is.len {w : World} {A : Option Addr} {n c : Nat} {l : List Int} (h : Is w A n c l) : l.length = n := by have := Sl.len h; simpa using this
theorem Is.addr {w : World} {A : Option Addr} {n c : Nat} {l : List Int} (h : Is w A n c l) (hn : 0 < n) :
    ∃ b o, A = some ⟨b, o, none⟩ ∧ ∀ j, j < n → w.cell? ⟨b, o + j, none⟩ = some (.int .i64 (iAt l j)) := by
  obtain ⟨b, o, e, hc⟩ := Sl.addr h hn
  exact ⟨b, o, e, fun j hj => hc j _ (by
    have : j < l.length := by rw [h.len]; exact hj
    rw [List.getElem?_map, List.getElem?_eq_getElem this]; simp [i64c, iAt, this])⟩
theorem takeI_same {a b : List Int} {k : Nat} (ha : k < a.length) (hb : k < b.length) (h : a.take k = b.take k) (he : iAt a k = iAt b k) : a.take (k + 1) = b.take (k + 1) := by
  rw [List.take_succ_eq_append_getElem ha, List.take_succ_eq_append_getElem hb, h]
  have : a[k] = b[k] := by simpa [iAt, ha, hb] using he
  rw [this]
theorem ne_of_iAt {a b : List Int} {k : Nat} (h : iAt a k ≠ iAt b k) : (a == b) = false := by
  rw [beq_eq_false_iff_ne]; rintro rfl; exact h rfl

/-! ### numbers -/
end Go.Proofs.YtfemhhjmfckicaaGreatDoor

/- Names: words, which names are below which, and the chapter's example. No condition. -/
namespace Go.Proofs.YtfemhhjmfckicaaGreatDoor
open Go.RowKit
set_option linter.unusedVariables false
theorem takeW_same {a b : List (List UInt8)} {k : Nat} (ha : k < a.length) (hb : k < b.length) (h : a.take k = b.take k) (he : a[k] = b[k]) : a.take (k + 1) = b.take (k + 1) := by
  rw [List.take_succ_eq_append_getElem ha, List.take_succ_eq_append_getElem hb, h, he]
set_option maxHeartbeats 1000000 in
theorem words_any (A B : Option Addr) (n m c d : Nat) (a b : List (List UInt8)) (w : World) (ha : Ws w A n c a) (hb : Ws w B m d b) :
    Calls Tryz.prog 12 #[.slice A n c, .slice B m d] w fun e w' => e = .returned (.bool (a == b)) ∧ ∃ k, w' = w.drewN k := by
  have hla := ha.len
  have hlb := hb.len
  have ma := ha.max
  have mb := hb.max
  have ca := ha.cap
  have cb := hb.cap
  by_cases hnm : n = m
  · subst hnm
    have HA := Lib.hid ha; have HB := Lib.hid hb; clear ha hb
    have HLA := Lib.hid hla; have HLB := Lib.hid hlb; clear hla hlb
    have t1 : ((n : Int) != (n : Int)) = false := by simp
    go_enter Tryz.func12, Tryz.ntmps12
    go_wp2
    clear t1
    go_loopw [5] (fun i wr => ∃ k q : Nat, k ≤ n ∧ i = .int .i64 k ∧ wr = w.drewN q ∧ a.take k = b.take k) (fun i _ => n - (intOf i).toNat)
    case atStart => exact ⟨0, 0, Nat.zero_le _, rfl, rfl, rfl⟩
    case round =>
      obtain ⟨k, q, hk, rfl, rfl, hsame⟩ := hrel
      have HSM := Lib.hid hsame; clear hsame
      by_cases hlt : k < n
      · obtain ⟨b1, o1, rfl, hc1⟩ := Ws.addr HA.out (by omega)
        obtain ⟨b2, o2, rfl, hc2⟩ := Ws.addr HB.out (by omega)
        have hka : k < a.length := by rw [HLA.out]; exact hlt
        have hkb : k < b.length := by rw [HLB.out]; exact hlt
        have c1 : w.cell? ⟨b1, o1 + k, none⟩ = some _ := hc1 k hka
        have c2 : w.cell? ⟨b2, o2 + k, none⟩ = some _ := hc2 k hkb
        have HS1 := Lib.hid (fun he => takeW_same hka hkb HSM.out he)
        have HS2 : Hid (¬ a[k] = b[k] → (a == b) = false) := fun he => beq_eq_false_iff_ne.2 (by rintro rfl; exact he rfl)
        clear hc1 hc2
        generalize a[k] = x at *
        generalize b[k] = y at *
        obtain ⟨xs, hxs⟩ : ∃ xs : ByteArray, xs = ⟨x.toArray⟩ := ⟨_, rfl⟩
        obtain ⟨ys, hys⟩ : ∃ ys : ByteArray, ys = ⟨y.toArray⟩ := ⟨_, rfl⟩
        rw [← hxs] at c1
        rw [← hys] at c2
        have hxl : xs.toList = x := by rw [ByteArray.toList_eq, hxs]
        have hyl : ys.toList = y := by rw [ByteArray.toList_eq, hys]
        clear hxs hys
        by_cases he : x = y
        · have t1 : (xs.toList == ys.toList) = true := by rw [hxl, hyl, he]; simp
          have HE := Lib.hid (HS1.out he); clear he hxl hyl
          go_wp2
          go_quiet (fail)
          go_wp2
          refine ⟨⟨k + 1, _, by omega, by first | trivial | go_num, rfl, HE.out⟩, ?_⟩
          show n - ((k : Int) + 1).toNat < n - (k : Int).toNat
          omega
        · have t1 : (xs.toList == ys.toList) = false := by rw [hxl, hyl]; exact beq_eq_false_iff_ne.2 he
          have HE := Lib.hid (HS2.out he); clear he hxl hyl
          go_wp2
          go_quiet (fail)
          go_wp2
          go_ret
          exact ⟨ret_bool HE.out.symm, _, World.drewN_drewN _ _ _⟩
      · obtain rfl : k = n := by omega
        have HE : Hid ((a == b) = true) := by
          have h := HSM.out
          rw [List.take_of_length_le (by rw [HLA.out]; omega), List.take_of_length_le (by rw [HLB.out]; omega)] at h
          exact beq_iff_eq.2 h
        go_wp2
        go_ret
        exact ⟨ret_bool HE.out.symm, _, rfl⟩
  · have t1 : ((n : Int) != (m : Int)) = true := by rw [bne_iff_ne]; omega
    have HE : Hid ((a == b) = false) := by
      apply beq_eq_false_iff_ne.2
      rintro rfl
      omega
    clear ha hb
    go_enter Tryz.func12, Tryz.ntmps12
    go_wp2
    go_ret
    exact ⟨ret_bool HE.out.symm, 0, rfl⟩
def belowP (s t : List UInt8) : Bool := rightL s && rightL t && Lib.hasPrefix s (t ++ [46])
theorem joinR_ex : joinR [[97, 98], [51]] = ([97, 98, 46, 51], 0) := by decide +kernel
theorem below_ex : belowP [97, 98, 46, 51] [97, 98] = true := by decide +kernel
theorem right_ex : rightL [65, 98] = false := by decide +kernel
/-- Are the texts of a row all short? -/
theorem long_at {ps : List (List UInt8)} {k : Nat} (hk : k < ps.length) (h : ∀ p ∈ ps, p.length ≤ 100) : ps[k].length ≤ 100 := h _ (List.getElem_mem hk)
end Go.Proofs.YtfemhhjmfckicaaGreatDoor
