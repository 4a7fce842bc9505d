/- Own texts of this claim, one behind the other. No condition. -/
import Derived.Test.YtfemhhjmfckicaaGreatDoorObPkP
import Derived.Test.YtfemhhjmfckicaaGreatDoorObPkU
import Derived.Test.YtfemhhjmfckicaaGreatDoorObPkV
import Derived.Test.YtfemhhjmfckicaaGreatDoorObPkW
import Derived.Shelf.GgClosure.Gives
import Derived.Shelf.SlSortCmp.Kit1

/- leaf.order: the order of heads. No condition. -/
namespace Go.Proofs.YtfemhhjmfckicaaGreatDoor
open Go.RowKit
set_option linter.unusedVariables false
set_option linter.unusedSimpArgs false
theorem headC_tt {s t : List UInt8} (h : rightL s = true) (k : rightL t = true) : headC s t = cmpL s t := by simp [headC, h, k]
theorem headC_tf {s t : List UInt8} (h : rightL s = true) (k : rightL t = false) : headC s t = 1 := by simp [headC, h, k]
theorem headC_ft {s t : List UInt8} (h : rightL s = false) (k : rightL t = true) : headC s t = -1 := by simp [headC, h, k]
theorem headC_ff {s t : List UInt8} (h : rightL s = false) (k : rightL t = false) : headC s t = cmpB s t := by simp [headC, h, k]
theorem cmpStr_any (s t : List UInt8) (w : World) : Calls Tryz.prog 60 #[strc s, strc t] w fun e w' => e = .returned (.int .i64 (cmpB s t)) ∧ w' = w := by
  have h := cmpTwo_any ⟨s.toArray⟩ ⟨t.toArray⟩ w
  have e : ∀ l : List UInt8, (⟨l.toArray⟩ : ByteArray).toList = l := fun l => by rw [ByteArray.toList_eq]
  rw [e, e] at h
  exact h
set_option maxRecDepth 100000 in
set_option maxHeartbeats 1000000 in
theorem order_any (s t : List UInt8) (w : World) (hs : s.length ≤ 100000) (ht : t.length ≤ 100000) (hT : U8 w) (hM : MLen w) : Calls Tryz.prog 29 #[strc s, strc t] w fun e w' => e = .returned (.int .i64 (headC s t)) ∧ Gr w w' := by
  have H1 : Hid (∀ wr, Gr w wr → Calls Tryz.prog 58 #[strc s] wr fun e w' => e = .returned (.bool (rightL s)) ∧ Gr wr w') := fun wr g => right_any s wr hs (hT.mono g)
  have H2 : Hid (∀ wr, Gr w wr → Calls Tryz.prog 58 #[strc t] wr fun e w' => e = .returned (.bool (rightL t)) ∧ Gr wr w') := fun wr g => right_any t wr ht (hT.mono g)
  have H3 : Hid (∀ wr, Gr w wr → Calls Tryz.prog 59 #[strc s, strc t] wr fun e w' => e = .returned (.int .i64 (cmpL s t)) ∧ Gr wr w') := fun wr g => cmp_any s t wr hs ht (hT.mono g) (hM.mono g)
  have H4 : Hid (∀ wr, Calls Tryz.prog 60 #[strc s, strc t] wr fun e w' => e = .returned (.int .i64 (cmpB s t)) ∧ w' = wr) := fun wr => cmpStr_any s t wr
  obtain ⟨q, hq⟩ : ∃ q, q = headC s t := ⟨_, rfl⟩
  rw [← hq]
  have HQ := Lib.hid hq
  obtain ⟨sx, hsx⟩ : ∃ sx : ByteArray, strc s = .string sx := ⟨_, rfl⟩
  obtain ⟨tx, htx⟩ : ∃ tx : ByteArray, strc t = .string tx := ⟨_, rfl⟩
  rw [hsx] at H1 H3 H4 ⊢
  rw [htx] at H2 H3 H4 ⊢
  clear hq hsx htx hT hM
  cases hrs : rightL s <;> cases hrt : rightL t
  case false.false =>
    have HF := Lib.hid (HQ.out.trans (headC_ff hrs hrt))
    rw [hrs] at H1
    rw [hrt] at H2
    clear hrs hrt HQ
    go_enter Tryz.func29, Tryz.ntmps29
    go_wp2_with fail
    refine (H1.out _ (Gr.refl _)).mono ?_
    rintro e w1 ⟨rfl, g1⟩
    have G1 := Lib.hid g1; clear g1
    go_wp2_with fail
    refine (H2.out _ G1.out).mono ?_
    rintro e w2 ⟨rfl, g2⟩
    have G2 := Lib.hid (Gr.trans G1.out g2); clear g2
    go_wp2_with fail
    refine (H4.out _).mono ?_
    rintro e w3 ⟨rfl, rfl⟩
    go_wp2_with fail
    go_ret
    exact ⟨by rw [HF.out]; rfl, G2.out⟩
  case false.true =>
    have HF := Lib.hid (HQ.out.trans (headC_ft hrs hrt))
    rw [hrs] at H1
    rw [hrt] at H2
    clear hrs hrt HQ
    go_enter Tryz.func29, Tryz.ntmps29
    go_wp2_with fail
    refine (H1.out _ (Gr.refl _)).mono ?_
    rintro e w1 ⟨rfl, g1⟩
    have G1 := Lib.hid g1; clear g1
    go_wp2_with fail
    refine (H2.out _ G1.out).mono ?_
    rintro e w2 ⟨rfl, g2⟩
    have G2 := Lib.hid (Gr.trans G1.out g2); clear g2
    go_wp2_with fail
    go_ret
    exact ⟨by rw [HF.out]; rfl, G2.out⟩
  case true.false =>
    have HF := Lib.hid (HQ.out.trans (headC_tf hrs hrt))
    rw [hrs] at H1
    rw [hrt] at H2
    clear hrs hrt HQ
    go_enter Tryz.func29, Tryz.ntmps29
    go_wp2_with fail
    refine (H1.out _ (Gr.refl _)).mono ?_
    rintro e w1 ⟨rfl, g1⟩
    have G1 := Lib.hid g1; clear g1
    go_wp2_with fail
    refine (H2.out _ G1.out).mono ?_
    rintro e w2 ⟨rfl, g2⟩
    have G2 := Lib.hid (Gr.trans G1.out g2); clear g2
    go_wp2_with fail
    go_ret
    exact ⟨by rw [HF.out]; rfl, G2.out⟩
  case true.true =>
    have HF := Lib.hid (HQ.out.trans (headC_tt hrs hrt))
    rw [hrs] at H1
    rw [hrt] at H2
    clear hrs hrt HQ
    go_enter Tryz.func29, Tryz.ntmps29
    go_wp2_with fail
    refine (H1.out _ (Gr.refl _)).mono ?_
    rintro e w1 ⟨rfl, g1⟩
    have G1 := Lib.hid g1; clear g1
    go_wp2_with fail
    refine (H2.out _ G1.out).mono ?_
    rintro e w2 ⟨rfl, g2⟩
    have G2 := Lib.hid (Gr.trans G1.out g2); clear g2
    go_wp2_with fail
    refine (H3.out _ G2.out).mono ?_
    rintro e w3 ⟨rfl, g3⟩
    have G3 := Lib.hid (Gr.trans G2.out g3); clear g3
    go_wp2_with fail
    go_ret
    exact ⟨by rw [HF.out]; rfl, G3.out⟩
end Go.Proofs.YtfemhhjmfckicaaGreatDoor

/- leaf.Find, Free: the first slot with a head. No condition. -/
namespace Go.Proofs.YtfemhhjmfckicaaGreatDoor
open Go.RowKit
set_option linter.unusedVariables false
set_option linter.unusedSimpArgs false
def idxH (ls : List (List UInt8)) (s : List UInt8) : Int := match ls.findIdx? (· == s) with
  | some i => (i : Int)
  | none => -1
abbrev mkB (l : List UInt8) : ByteArray := ⟨l.toArray⟩
theorem mkB_inj {l m : List UInt8} : mkB l = mkB m ↔ l = m := ⟨fun h => by
  have := congrArg (fun b : ByteArray => b.data.toList) h
  simpa using this, fun h => by rw [h]⟩
theorem idxFrom_of (s : List UInt8) : ∀ (ls : List (List UInt8)) (i : Nat), Lib.idxFromS (ls.map mkB) (mkB s) i = match ls.findIdx? (· == s) with
    | some k => ((i + k : Nat) : Int)
    | none => -1
  | [], i => rfl
  | l :: ls, i => by
    rw [List.map_cons, Lib.idxFromS, List.findIdx?_cons]
    by_cases h : l = s
    · subst h; simp
    · have h2 : ¬ mkB l = mkB s := fun e => h (mkB_inj.1 e)
      have h3 : (l == s) = false := by simpa using h
      simp only [h2, h3, if_false, Bool.false_eq_true, beq_iff_eq, decide_false]
      rw [idxFrom_of s ls (i + 1)]
      cases ls.findIdx? (· == s) with
      | none => rfl
      | some k => simp only [Option.map_some]; congr 1; omega
theorem idx_of (ls : List (List UInt8)) (s : List UInt8) : Lib.idxOfS (ls.map mkB) (mkB s) = idxH ls s := by
  unfold Lib.idxOfS
  rw [idxFrom_of]
  unfold idxH
  cases ls.findIdx? (· == s) with
  | none => rfl
  | some k => simp
theorem index_any (A : Option Addr) (n c : Nat) (ls : List (List UInt8)) (s : List UInt8) (w : World) (h : Ws w A n c ls) (hn : n ≤ 9223372036854775807) :
    Calls Tryz.prog 24 #[.slice A n c, strc s] w fun e w' => e = .returned (.int .i64 (idxH ls s)) ∧ w' = w := by
  have hl := h.len
  by_cases h0 : n = 0
  · subst h0
    have e : ls = [] := List.eq_nil_of_length_eq_zero hl
    subst e
    exact Tryz.slices_Index_string_empty A c (mkB s) w
  · obtain ⟨b, o, rfl, hc⟩ := h.addr (by omega)
    have k := Tryz.slices_Index_string b o n c (ls.map mkB) (mkB s) w (by rw [List.length_map]; omega) hn (fun j hj => by
      rw [List.length_map] at hj
      rw [List.getD_eq_getElem?_getD, List.getElem?_map, List.getElem?_eq_getElem hj]
      exact hc j hj)
    rw [List.take_of_length_le (by rw [List.length_map]; omega), idx_of] at k
    exact k
end Go.Proofs.YtfemhhjmfckicaaGreatDoor

/- leaf.Find, Free, Used. No condition. -/
namespace Go.Proofs.YtfemhhjmfckicaaGreatDoor
open Go.RowKit
set_option linter.unusedVariables false
set_option linter.unusedSimpArgs false
set_option maxHeartbeats 1000000 in
theorem free_any (A : Option Addr) (n c : Nat) (ls : List (List UInt8)) (w : World) (h : Ws w A n c ls) (hn : n ≤ 9223372036854775807) :
    Calls Tryz.prog 9 #[.slice A n c] w fun e w' => e = .returned (.int .i64 (freeH ls)) ∧ w' = w := by
  have H := Lib.hid (index_any A n c ls [] w h hn)
  have HF : Hid (freeH ls = idxH ls []) := rfl
  rw [HF.out]
  clear h
  go_enter Tryz.func9, Tryz.ntmps9
  go_wp2_with fail
  refine H.out.mono ?_
  rintro e w1 ⟨rfl, rfl⟩
  go_wp2_with fail
  go_ret
  exact ⟨rfl, rfl⟩
theorem find_idx {ls : List (List UInt8)} {s : List UInt8} (h : s ≠ []) : findH ls s = idxH ls s := by unfold findH; rw [if_neg h]; rfl
set_option maxHeartbeats 1000000 in
theorem leafFind_any (A : Option Addr) (n c : Nat) (ls : List (List UInt8)) (s : List UInt8) (w : World) (h : Ws w A n c ls) (hn : n ≤ 9223372036854775807) :
    Calls Tryz.prog 7 #[.slice A n c, strc s] w fun e w' => e = .returned (.int .i64 (findH ls s)) ∧ w' = w := by
  have H := Lib.hid (index_any A n c ls s w h hn)
  clear h
  obtain ⟨sx, hsx⟩ : ∃ sx : ByteArray, sx = ⟨s.toArray⟩ := ⟨_, rfl⟩
  have hl : sx.toList = s := by rw [ByteArray.toList_eq, hsx]
  have hs2 : strc s = .string sx := by rw [hsx]; rfl
  rw [hs2] at H ⊢
  by_cases hs : s = []
  · have HF : Hid (findH ls s = -1) := by show _ = _; unfold findH; rw [if_pos hs]
    rw [HF.out]
    have he : sx.toList.isEmpty = true := by rw [hl, hs]; rfl
    clear hs HF hsx hl hs2 H
    go_enter Tryz.func7, Tryz.ntmps7
    go_wp2_with fail
    go_ret
    exact ⟨rfl, rfl⟩
  · have HF := Lib.hid (find_idx (ls := ls) hs)
    rw [HF.out]
    have he : sx.toList.isEmpty = false := by rw [hl]; cases s with
      | nil => exact absurd rfl hs
      | cons a b => rfl
    clear hs HF hsx hl hs2
    go_enter Tryz.func7, Tryz.ntmps7
    go_wp2_with fail
    refine H.out.mono ?_
    rintro e w1 ⟨rfl, rfl⟩
    go_wp2_with fail
    go_ret
    exact ⟨rfl, rfl⟩
end Go.Proofs.YtfemhhjmfckicaaGreatDoor

/- leaf.Used. No condition. -/
namespace Go.Proofs.YtfemhhjmfckicaaGreatDoor
open Go.RowKit
set_option linter.unusedVariables false
set_option linter.unusedSimpArgs false
theorem used_snoc (ls : List (List UInt8)) (k : Nat) (h : k < ls.length) : usedH (ls.take (k + 1)) = usedH (ls.take k) + (if ls[k] = [] then 0 else 1) := by
  unfold usedH fullH
  rw [List.take_succ_eq_append_getElem h, List.filter_append, List.length_append]
  congr 1
  by_cases e : ls[k] = []
  · simp [e]
  · simp [e]
theorem used_le (ls : List (List UInt8)) : usedH ls ≤ ls.length := List.length_filter_le _ _
set_option maxHeartbeats 1000000 in
theorem used_any (A : Option Addr) (n c : Nat) (ls : List (List UInt8)) (w : World) (h : Ws w A n c ls) :
    Calls Tryz.prog 11 #[.slice A n c] w fun e w' => e = .returned (.int .i64 (usedH ls)) ∧ w' = w := by
  have hmax := h.max
  have hcap := h.cap
  have HL := Lib.hid h.len
  have HH := Lib.hid h; clear h
  go_enter Tryz.func11, Tryz.ntmps11
  go_wp2
  go_loopw [2, 7] (fun v i wr => ∃ k : Nat, k ≤ n ∧ i = .int .i64 k ∧ v = .int .i64 (usedH (ls.take k)) ∧ wr = w) (fun _ i _ => n - (Go.RowKit.intOf i).toNat)
  case atStart => exact ⟨0, Nat.zero_le _, rfl, rfl, rfl⟩
  case round =>
    obtain ⟨k, hk, rfl, rfl, rfl⟩ := hrel
    by_cases hlt : k < n
    · obtain ⟨b, o, rfl, hcc⟩ := Ws.addr (ps := ls) HH.out (by omega)
      have hkl : k < ls.length := by rw [HL.out]; exact hlt
      have HS := Lib.hid (used_snoc ls k hkl)
      have hle : usedH (ls.take k) ≤ k := Nat.le_trans (used_le _) (by rw [List.length_take]; omega)
      obtain ⟨sx, hsx⟩ : ∃ sx : ByteArray, sx = ⟨ls[k].toArray⟩ := ⟨_, rfl⟩
      have c1 : wr.cell? ⟨b, o + k, none⟩ = some (.string sx) := by rw [hsx]; exact hcc k hkl
      have hl : sx.toList = ls[k] := by rw [ByteArray.toList_eq, hsx]
      clear hcc
      by_cases hs : ls[k] = []
      · have he : sx.toList.isEmpty = true := by rw [hl, hs]; rfl
        have HT : Hid (usedH (ls.take (k + 1)) = usedH (ls.take k)) := by show _ = _; rw [HS.out, if_pos hs]; rfl
        clear hs hl hsx
        generalize usedH (ls.take k) = u at *
        go_wp2_with fail
        refine ⟨⟨k + 1, by omega, by first | trivial | go_num, by rw [HT.out], by first | trivial | rfl⟩, ?_⟩
        show n - ((k : Int) + 1).toNat < n - (k : Int).toNat
        omega
      · have he : sx.toList.isEmpty = false := by
          rw [hl]
          cases hx : ls[k] with
          | nil => exact absurd hx hs
          | cons a b => rfl
        have HT : Hid (usedH (ls.take (k + 1)) = usedH (ls.take k) + 1) := by show _ = _; rw [HS.out, if_neg hs]
        clear hs hl hsx
        generalize usedH (ls.take k) = u at *
        go_wp2_with fail
        refine ⟨⟨k + 1, by omega, by first | trivial | go_num, by rw [HT.out]; first | trivial | go_num, by first | trivial | rfl⟩, ?_⟩
        show n - ((k : Int) + 1).toNat < n - (k : Int).toNat
        omega
    · obtain rfl : n = k := by omega
      have HF : Hid (usedH (ls.take n) = usedH ls) := by show _ = _; rw [List.take_of_length_le (by rw [HL.out]; omega)]
      rw [HF.out]
      go_wp2_with fail
      go_ret
      exact ⟨rfl, rfl⟩
end Go.Proofs.YtfemhhjmfckicaaGreatDoor

/- leaf.Names: the closure that says which heads are none. No condition. -/
namespace Go.Proofs.YtfemhhjmfckicaaGreatDoor
open Go.RowKit
set_option linter.unusedVariables false
set_option linter.unusedSimpArgs false
set_option maxHeartbeats 1000000 in
theorem isNone_any (x : List UInt8) (w : World) : Calls Tryz.prog 27 #[strc x] w fun e w' => e = .returned (.bool (x == [])) ∧ w' = w := by
  obtain ⟨sx, hsx⟩ : ∃ sx : ByteArray, sx = ⟨x.toArray⟩ := ⟨_, rfl⟩
  have hl : sx.toList = x := by rw [ByteArray.toList_eq, hsx]
  have hs2 : strc x = .string sx := by rw [hsx]; rfl
  rw [hs2]
  have he : Hid (sx.toList.isEmpty = (x == [])) := by show _ = _; rw [hl]; cases x <;> rfl
  clear hsx hl hs2
  go_enter Tryz.func27, Tryz.ntmps27
  go_wp2_with fail
  go_ret
  exact ⟨by rw [← he.out]; rfl, rfl⟩
theorem isNone_at (w : World) : Go.Proofs.PredAt Tryz.prog 27 #[] strc (fun x : List UInt8 => x == []) w := fun W x _ =>
  (isNone_any x W).mono fun e w' ⟨he, hw⟩ => ⟨he, 0, hw⟩
theorem isNone_over (blk off size : Nat) (w : World) : Go.Proofs.PredOver Tryz.prog 27 #[] strc (fun x : List UInt8 => x == []) blk off size w := fun n os dk x _ =>
  (isNone_any x _).mono fun e w' ⟨he, hw⟩ => ⟨he, 0, hw⟩
/-- A world that the sort passes through is a later one of the world in which the row was not yet. -/
theorem gr_sort {α : Type} {w0 w : World} (g : Gr w0 w) {blk : Nat} (hb : w0.heap.size ≤ blk) [Inhabited α] (enc : α → Value) (off m : Nat) (dk : Array α) (os : Array Obj) : Gr w0 (Go.Proofs.sortWorld enc w blk off m dk os) := by
  have hsz : (Go.Sort.putRow enc (Go.Sort.ahead w m) blk off dk).heap.size = w.heap.size := by rw [Go.Sort.size_putRow]; rfl
  refine ⟨g.os, g.tape, g.output, ?_, fun k hk => ?_⟩
  · show _ ≤ ((Go.Sort.putRow enc (Go.Sort.ahead w m) blk off dk).heap ++ os).size
    rw [Array.size_append, hsz]
    have := g.size
    omega
  · show ((Go.Sort.putRow enc (Go.Sort.ahead w m) blk off dk).heap ++ os)[k]? = _
    have hs := g.size
    rw [Array.getElem?_append_left (by rw [hsz]; omega), ← g.block k hk]
    show (w.heap.modify blk _)[k]? = _
    rw [Array.getElem?_modify, if_neg (by omega)]
end Go.Proofs.YtfemhhjmfckicaaGreatDoor

/- leaf.Names: what its sort asks, and what it gives. No condition. -/
namespace Go.Proofs.YtfemhhjmfckicaaGreatDoor
open Go.RowKit
set_option linter.unusedVariables false
set_option linter.unusedSimpArgs false
/-- A head of a length that the program can hold. -/
abbrev Hd := {l : List UInt8 // l.length ≤ 100000}
instance : Inhabited Hd := ⟨⟨[], by simp⟩⟩
def encH (x : Hd) : Value := strc x.1
def cmpH (x y : Hd) : Int := headC x.1 y.1
theorem ltOf_head (x y : Hd) : Go.Proofs.ltOf cmpH x y = true ↔ LtH x.1 y.1 := by
  unfold Go.Proofs.ltOf cmpH LtH
  rw [decide_eq_true_iff]
  rcases headC_cases x.1 y.1 with h | h | h <;> rw [h] <;> decide
theorem swoH : Go.Sort.SWO (Go.Proofs.ltOf cmpH) where
  irrefl x := by
    rw [Bool.eq_false_iff]; intro h
    exact ltH_ne ((ltOf_head x x).1 h) rfl
  trans x y z h k := (ltOf_head x z).2 (headC_trans ((ltOf_head x y).1 h) ((ltOf_head y z).1 k))
  ntrans x y z h k := by
    rw [Bool.eq_false_iff] at *
    intro c
    have c1 := (ltOf_head x z).1 c
    rcases ltH_three x.1 y.1 with e | e | e
    · exact h ((ltOf_head x y).2 e)
    · exact k ((ltOf_head y z).2 (e ▸ c1))
    · exact k ((ltOf_head y z).2 (headC_trans e c1))
theorem cmpLays_order {w0 w : World} (g : Gr w0 w) {blk : Nat} (hb : w0.heap.size ≤ blk) (hT : U8 w0) (hM : MLen w0) (off size : Nat) : Go.Proofs.CmpLays1 Tryz.prog 29 #[] encH cmpH blk off size w := fun m os dk hs x y => by
  have gs := gr_sort g hb encH off m dk os
  rw [Array.append_empty]
  exact calls_grow (order_any x.1 y.1 _ x.2 y.2 (hT.mono gs) (hM.mono gs))
/-- The texts of heads. -/
def valsH (d : Array Hd) : List (List UInt8) := d.toList.map (·.1)
def hdsOf (ls : List (List UInt8)) (h : ∀ x ∈ ls, x.length ≤ 100000) : Array Hd := (ls.attach.map fun x => (⟨x.1, h x.1 x.2⟩ : Hd)).toArray
theorem vals_hds (ls : List (List UInt8)) (h : ∀ x ∈ ls, x.length ≤ 100000) : valsH (hdsOf ls h) = ls := by
  unfold valsH hdsOf
  simp [List.map_map, Function.comp_def]
theorem size_hds (ls : List (List UInt8)) (h : ∀ x ∈ ls, x.length ≤ 100000) : (hdsOf ls h).size = ls.length := by
  unfold hdsOf; simp
theorem sort_perm {d d' : Array Hd} (h : Go.Sort.PermIn 0 d.size d d') : (valsH d').Perm (valsH d) := by
  obtain ⟨h1, _, h3⟩ := h
  have e1 : d'.extract 0 d.size = d' := by rw [← h1]; simp
  have e2 : d.extract 0 d.size = d := by simp
  rw [e1, e2] at h3
  exact h3.map _
theorem sort_weak {d d' : Array Hd} (h1 : d'.size = d.size) (h : Go.Sort.SortedIn (Go.Proofs.ltOf cmpH) 0 d.size d') : Weak (valsH d') := by
  unfold Weak valsH
  rw [List.pairwise_map, List.pairwise_iff_getElem]
  intro i j hi hj hij hlt
  have hi' : i < d'.size := by simpa using hi
  have hj' : j < d'.size := by simpa using hj
  have k := h i j (Nat.zero_le _) hij (by omega)
  rw [getElem!_pos d' i hi', getElem!_pos d' j hj'] at k
  have k2 := (ltOf_head d'[j] d'[i]).2 (by simpa using hlt)
  rw [k] at k2
  cases k2
end Go.Proofs.YtfemhhjmfckicaaGreatDoor
