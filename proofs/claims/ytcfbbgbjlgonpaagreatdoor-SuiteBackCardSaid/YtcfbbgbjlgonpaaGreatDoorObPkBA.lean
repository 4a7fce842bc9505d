/- Own texts of this claim, one behind the other. No condition. -/
import Derived.Test.YtcfbbgbjlgonpaaGreatDoorObPkAE
import Derived.Test.YtcfbbgbjlgonpaaGreatDoorObPkAM
import Derived.Test.YtcfbbgbjlgonpaaGreatDoorObPkAY
import Derived.Test.YtcfbbgbjlgonpaaGreatDoorObPkAZ
import Derived.Maps.Own
import Derived.Maps.OwnSet
import Derived.Maps.Views

/- The program's table of terms in memory: are ids there?, kinds, parts. No condition. -/
namespace Go.Proofs.YtcfbbgbjlgonpaaGreatDoor
open Go.RowKit Go.Maps
set_option linter.unusedVariables false

/-! ### closures over ids: is there one for which it holds? -/
theorem is_new (w : World) (cs : List Int) : Is (w.alloc (.cells (cs.map i64c).toArray 3)) (some ⟨w.heap.size, 0, none⟩) cs.length cs.length cs ∨ maxLen < cs.length := by
  rcases Nat.lt_or_ge maxLen cs.length with h | h
  · exact .inr h
  · refine .inl ⟨by simp, Nat.le_refl _, h, fun _ => ⟨_, _, rfl, fun j u hu => ?_⟩⟩
    rw [Nat.zero_add, (Blk.new w _ _).cell]
    exact hu
theorem iAt_get {l : List Int} {k : Nat} (hk : k < l.length) : iAt l k = l[k] := by unfold iAt; rw [List.getD_eq_getElem?_getD, List.getElem?_eq_getElem hk]; rfl
theorem any_take_snoc (q : Int → Bool) (l : List Int) (k : Nat) (hk : k < l.length) : (l.take (k + 1)).any q = ((l.take k).any q || q (iAt l k)) := by
  rw [List.take_succ_eq_append_getElem hk, List.any_append, iAt_get hk]; simp
theorem any_of_at (q : Int → Bool) (l : List Int) (k : Nat) (hk : k < l.length) (h : q (iAt l k) = true) : l.any q = true := List.any_eq_true.2 ⟨l[k], List.getElem_mem hk, by rw [← iAt_get hk]; exact h⟩
theorem iAt_mem {l : List Int} {k : Nat} (hk : k < l.length) : iAt l k ∈ l := by rw [iAt_get hk]; exact List.getElem_mem hk
set_option maxHeartbeats 400000 in
theorem indexThere (C : Value) (A : Option Addr) (n c : Nat) (l : List Int) (q : Int → Bool) (w : World) (h : Is w A n c l) (hq : ∀ x ∈ l, ∀ w', Gr w w' → Calls Tryz.prog 75 #[.int .i64 x, C] w' fun e w'' => e = .returned (.bool (q x)) ∧ Gr w' w'') :
    Calls Tryz.prog 111 #[.slice A n c, .func (.func 75) #[] #[C]] w fun e w' => ∃ r, e = .returned (.int .i64 r) ∧ decide (0 ≤ r) = l.any q ∧ Gr w w' := by
  have hmax := h.max
  have hcap := h.cap
  have hll := h.len
  have HL := Lib.hid h.len
  have HH := Lib.hid h; have HQ := Lib.hid hq; clear h hq hll
  go_enter Tryz.func111, Tryz.ntmps111
  go_wp2
  go_loopw [8] (fun i wr => ∃ k : Nat, k ≤ n ∧ i = .int .i64 k ∧ Gr w wr ∧ (l.take k).any q = false) (fun i _ => n - (Go.RowKit.intOf i).toNat)
  case atStart => exact ⟨0, Nat.zero_le _, rfl, Gr.refl _, rfl⟩
  case round =>
    obtain ⟨k, hk, rfl, hbel, hall⟩ := hrel
    have HA := Lib.hid hall; have HB := Lib.hid hbel; clear hall
    by_cases hlt : k < n
    · obtain ⟨b, o, rfl, hcc⟩ := Is.addr (l := l) (HH.out.mono hbel) (by omega)
      have c1 := hcc k hlt
      have hkl : k < l.length := by rw [HL.out]; exact hlt
      have HC := Lib.hid (HQ.out (iAt l k) (iAt_mem hkl) wr hbel)
      have HS := Lib.hid (any_take_snoc q l k hkl)
      have HT : Hid (q (iAt l k) = true → l.any q = true) := fun hh => any_of_at q l k hkl hh
      clear hcc hkl hbel
      generalize iAt l k = x at *
      cases he : q x
      · have HT2 : Hid ((l.take (k + 1)).any q = false) := by show _ = _; rw [HS.out, HA.out, he]; rfl
        rw [he] at HC
        clear he
        go_wp2_with (go_at_call 75; refine HC.out.mono ?_; rintro e w1 ⟨rfl, b1⟩)
        go_roundw
        case rel => exact ⟨k + 1, by omega, by go_num, HB.out.trans b1, HT2.out⟩
        case measure => simp [Go.RowKit.intOf]; omega
      · have HF : Hid (l.any q = true) := HT.out he
        rw [he] at HC
        clear he
        go_wp2_with (go_at_call 75; refine HC.out.mono ?_; rintro e w1 ⟨rfl, b1⟩)
        go_ret
        exact ⟨k, rfl, by rw [HF.out, decide_eq_true_iff]; omega, HB.out.trans b1⟩
    · obtain rfl : n = k := by omega
      have HF : Hid (l.any q = false) := by have := HA.out; rwa [List.take_of_length_le (by rw [HL.out]; omega)] at this
      clear hbel
      go_wp2
      go_ret
      exact ⟨-1, rfl, by rw [HF.out]; rfl, HB.out⟩
theorem containsThere (C : Value) (A : Option Addr) (n c : Nat) (l : List Int) (q : Int → Bool) (w : World) (h : Is w A n c l) (hq : ∀ x ∈ l, ∀ w', Gr w w' → Calls Tryz.prog 75 #[.int .i64 x, C] w' fun e w'' => e = .returned (.bool (q x)) ∧ Gr w' w'') :
    Calls Tryz.prog 74 #[.slice A n c, .func (.func 75) #[] #[C]] w fun e w' => e = .returned (.bool (l.any q)) ∧ Gr w w' := by
  have HI := Lib.hid (indexThere C A n c l q w h hq)
  clear h hq
  go_enter Tryz.func74, Tryz.ntmps74
  go_wp2_with fail
  refine HI.out.mono ?_
  rintro e w1 ⟨r, rfl, hr, g1⟩
  have HR := Lib.hid hr; have G1 := Lib.hid g1; clear hr g1
  go_wp2_with fail
  go_ret
  exact ⟨ret_bool HR.out, G1.out⟩

/-! ### a table in memory -/
def outside (n : Nat) (id : Int) : Bool := decide (id < 1) || decide ((n : Int) < id)
/-- The table's list of n terms. -/
def TLen (w : World) (g n : Nat) : Prop := ∃ A c, w.cell? ⟨g, 0, none⟩ = some (.slice A n c)
theorem TLen.mono {w w' : World} {g n : Nat} (h : TLen w g n) (hb : Gr w w') : TLen w' g n := by
  obtain ⟨A, c, h⟩ := h
  exact ⟨A, c, (Below.cell hb (World.block_lt_of_cell? w _ h)).trans h⟩
theorem there1_any (p g n : Nat) (id : Int) (w : World) (hp : w.cell? ⟨p, 0, none⟩ = some (.pointer (some ⟨g, 0, none⟩))) (h : TLen w g n) :
    Calls Tryz.prog 75 #[.int .i64 id, .pointer (some ⟨p, 0, none⟩)] w fun e w' => e = .returned (.bool (outside n id)) ∧ Gr w w' := by
  obtain ⟨A, c, h⟩ := h
  unfold outside
  by_cases h1 : id < 1
  · rw [decide_eq_true h1]
    go_enter Tryz.func75, Tryz.ntmps75
    go_wp2_with fail
    go_ret
    exact ⟨rfl, Gr.refl _⟩
  · rw [decide_eq_false h1, Bool.false_or]
    go_enter Tryz.func75, Tryz.ntmps75
    go_wp2_with fail
    go_ret
    exact ⟨rfl, Gr.refl _⟩
theorem there_any (g n : Nat) (A : Option Addr) (m c : Nat) (l : List Int) (w : World) (ht : TLen w g n) (h : Is w A m c l) :
    Calls Tryz.prog 35 #[.pointer (some ⟨g, 0, none⟩), .slice A m c] w fun e w' => e = .returned (.bool (!l.any (outside n))) ∧ Gr w w' := by
  obtain ⟨W, hW⟩ : ∃ W, W = w.alloc (.cells #[.pointer (some ⟨g, 0, none⟩)] 34) := ⟨_, rfl⟩
  have hg : Gr w W := by rw [hW]; exact Gr.alloc _ _
  have hp : W.cell? ⟨w.heap.size, 0, none⟩ = some (.pointer (some ⟨g, 0, none⟩)) := by rw [hW, (Blk.new w _ _).cell]; rfl
  have HC := Lib.hid (containsThere (.pointer (some ⟨w.heap.size, 0, none⟩)) A m c l (outside n) W (h.mono hg) (fun x _ w' hw => there1_any w.heap.size g n x w' ((Below.cell hw (World.block_lt_of_cell? W _ hp)).trans hp) ((ht.mono hg).mono hw)))
  have HG := Lib.hid hg; have HW := Lib.hid hW; have HP := Lib.hid hp
  clear ht h hg hW hp
  go_enter Tryz.func35, Tryz.ntmps35
  go_wp2_with fail
  rw [← HW.out]
  refine HC.out.mono ?_
  rintro e w1 ⟨rfl, g1⟩
  have G1 := Lib.hid g1; clear g1
  go_wp2_with fail
  go_ret
  exact ⟨rfl, HG.out.trans G1.out⟩
/-! ### what a term's value is asserted to be -/
theorem assert_hit {P : Program} {X : TypeId} {fs : Array Field} (hu : P.underlying X = some (.struct fs)) (xT : TypeId) (v : Value) (w : World) : (Instr.typeAssert (.iface X v) xT X true).run P w = .ok (.tuple #[v, .bool true]) w := by
  simp [Instr.typeAssert, run_underlying hu]
theorem assert_miss {P : Program} {X : TypeId} {fs : Array Field} {z : Value} (hu : P.underlying X = some (.struct fs)) (hz : ∀ w, (zeroValue X).run P w = .ok z w) (xT D : TypeId) (hD : (D = X) = False) (v : Value) (w : World) : (Instr.typeAssert (.iface D v) xT X true).run P w = .ok (.tuple #[z, .bool false]) w := by
  simp [Instr.typeAssert, run_underlying hu, hD, hz]
theorem zAtom (w : World) : (zeroValue 72).run Tryz.prog w = .ok (.agg #[.int .i64 0]) w := by kernel_rfl
theorem zText (w : World) : (zeroValue 75).run Tryz.prog w = .ok (.agg #[.string ByteArray.empty]) w := by kernel_rfl
theorem zKdf (w : World) : (zeroValue 78).run Tryz.prog w = .ok (.agg #[.int .i64 0, .string ByteArray.empty]) w := by kernel_rfl
theorem zMix (w : World) : (zeroValue 81).run Tryz.prog w = .ok (.agg #[.int .i64 0, .int .i64 0]) w := by kernel_rfl
theorem zEnc (w : World) : (zeroValue 117).run Tryz.prog w = .ok (.agg #[.int .i64 0, .int .i64 0]) w := by kernel_rfl
end Go.Proofs.YtcfbbgbjlgonpaaGreatDoor
