/- Own texts of this claim, one behind the other. No condition. -/
import Derived.Test.YtcfbbgbjlgonpaaGreatDoorObPkAA
import Derived.Test.YtcfbbgbjlgonpaaGreatDoorObPkAE
import Derived.Test.YtcfbbgbjlgonpaaGreatDoorObPkAL
import Derived.Test.YtcfbbgbjlgonpaaGreatDoorObPkAT
import Derived.Maps.Own
import Derived.Maps.OwnSet
import Derived.Maps.Views
import Derived.Deep.Cut
import Derived.Lib.SlKeysI
import Derived.Lib.SlMapMerge

/- The program's table of terms in memory: are ids there?, kinds, parts. No condition. -/
namespace Go.Proofs.YtcfbbgbjlgonpaaGreatDoor
open Go.RowKit Go.Maps
set_option linter.unusedVariables false

/-! ### closures over ids: is there one for which it holds? -/
theorem is_new (w : World) (cs : List Int) : Is (w.alloc (.cells (cs.map i64c).toArray 3)) (some ⟨w.heap.size, 0, none⟩) cs.length cs.length cs ∨ maxLen < cs.length := by
  rcases Nat.lt_or_ge maxLen cs.length with h | h
  · exact .inr h
  · refine .inl ⟨by simp, Nat.le_refl _, h, fun _ => ⟨_, _, rfl, fun j u hu => ?_⟩⟩
    rw [Nat.zero_add, (Blk.new w _ _).cell]
    exact hu
theorem iAt_get {l : List Int} {k : Nat} (hk : k < l.length) : iAt l k = l[k] := by unfold iAt; rw [List.getD_eq_getElem?_getD, List.getElem?_eq_getElem hk]; rfl
theorem any_take_snoc (q : Int → Bool) (l : List Int) (k : Nat) (hk : k < l.length) : (l.take (k + 1)).any q = ((l.take k).any q || q (iAt l k)) := by
  rw [List.take_succ_eq_append_getElem hk, List.any_append, iAt_get hk]; simp
theorem any_of_at (q : Int → Bool) (l : List Int) (k : Nat) (hk : k < l.length) (h : q (iAt l k) = true) : l.any q = true := List.any_eq_true.2 ⟨l[k], List.getElem_mem hk, by rw [← iAt_get hk]; exact h⟩
theorem iAt_mem {l : List Int} {k : Nat} (hk : k < l.length) : iAt l k ∈ l := by rw [iAt_get hk]; exact List.getElem_mem hk
set_option maxHeartbeats 400000 in
theorem indexThere (C : Value) (A : Option Addr) (n c : Nat) (l : List Int) (q : Int → Bool) (w : World) (h : Is w A n c l) (hq : ∀ x ∈ l, ∀ w', Gr w w' → Calls Tryz.prog 75 #[.int .i64 x, C] w' fun e w'' => e = .returned (.bool (q x)) ∧ Gr w' w'') :
    Calls Tryz.prog 111 #[.slice A n c, .func (.func 75) #[] #[C]] w fun e w' => ∃ r, e = .returned (.int .i64 r) ∧ decide (0 ≤ r) = l.any q ∧ Gr w w' := by
  have hmax := h.max
  have hcap := h.cap
  have hll := h.len
  have HL := Lib.hid h.len
  have HH := Lib.hid h; have HQ := Lib.hid hq; clear h hq hll
  go_enter Tryz.func111, Tryz.ntmps111
  go_wp2
  go_loopw [8] (fun i wr => ∃ k : Nat, k ≤ n ∧ i = .int .i64 k ∧ Gr w wr ∧ (l.take k).any q = false) (fun i _ => n - (Go.RowKit.intOf i).toNat)
  case atStart => exact ⟨0, Nat.zero_le _, rfl, Gr.refl _, rfl⟩
  case round =>
    obtain ⟨k, hk, rfl, hbel, hall⟩ := hrel
    have HA := Lib.hid hall; have HB := Lib.hid hbel; clear hall
    by_cases hlt : k < n
    · obtain ⟨b, o, rfl, hcc⟩ := Is.addr (l := l) (HH.out.mono hbel) (by omega)
      have c1 := hcc k hlt
      have hkl : k < l.length := by rw [HL.out]; exact hlt
      have HC := Lib.hid (HQ.out (iAt l k) (iAt_mem hkl) wr hbel)
      have HS := Lib.hid (any_take_snoc q l k hkl)
      have HT : Hid (q (iAt l k) = true → l.any q = true) := fun hh => any_of_at q l k hkl hh
      clear hcc hkl hbel
      generalize iAt l k = x at *
      cases he : q x
      · have HT2 : Hid ((l.take (k + 1)).any q = false) := by show _ = _; rw [HS.out, HA.out, he]; rfl
        rw [he] at HC
        clear he
        go_wp2_with (go_at_call 75; refine HC.out.mono ?_; rintro e w1 ⟨rfl, b1⟩)
        go_roundw
        case rel => exact ⟨k + 1, by omega, by go_num, HB.out.trans b1, HT2.out⟩
        case measure => simp [Go.RowKit.intOf]; omega
      · have HF : Hid (l.any q = true) := HT.out he
        rw [he] at HC
        clear he
        go_wp2_with (go_at_call 75; refine HC.out.mono ?_; rintro e w1 ⟨rfl, b1⟩)
        go_ret
        exact ⟨k, rfl, by rw [HF.out, decide_eq_true_iff]; omega, HB.out.trans b1⟩
    · obtain rfl : n = k := by omega
      have HF : Hid (l.any q = false) := by have := HA.out; rwa [List.take_of_length_le (by rw [HL.out]; omega)] at this
      clear hbel
      go_wp2
      go_ret
      exact ⟨-1, rfl, by rw [HF.out]; rfl, HB.out⟩
theorem containsThere (C : Value) (A : Option Addr) (n c : Nat) (l : List Int) (q : Int → Bool) (w : World) (h : Is w A n c l) (hq : ∀ x ∈ l, ∀ w', Gr w w' → Calls Tryz.prog 75 #[.int .i64 x, C] w' fun e w'' => e = .returned (.bool (q x)) ∧ Gr w' w'') :
    Calls Tryz.prog 74 #[.slice A n c, .func (.func 75) #[] #[C]] w fun e w' => e = .returned (.bool (l.any q)) ∧ Gr w w' := by
  have HI := Lib.hid (indexThere C A n c l q w h hq)
  clear h hq
  go_enter Tryz.func74, Tryz.ntmps74
  go_wp2_with fail
  refine HI.out.mono ?_
  rintro e w1 ⟨r, rfl, hr, g1⟩
  have HR := Lib.hid hr; have G1 := Lib.hid g1; clear hr g1
  go_wp2_with fail
  go_ret
  exact ⟨ret_bool HR.out, G1.out⟩

/-! ### a table in memory -/
def outside (n : Nat) (id : Int) : Bool := decide (id < 1) || decide ((n : Int) < id)
/-- The table's list of n terms. -/
def TLen (w : World) (g n : Nat) : Prop := ∃ A c, w.cell? ⟨g, 0, none⟩ = some (.slice A n c)
theorem TLen.mono {w w' : World} {g n : Nat} (h : TLen w g n) (hb : Gr w w') : TLen w' g n := by
  obtain ⟨A, c, h⟩ := h
  exact ⟨A, c, (Below.cell hb (World.block_lt_of_cell? w _ h)).trans h⟩
theorem there1_any (p g n : Nat) (id : Int) (w : World) (hp : w.cell? ⟨p, 0, none⟩ = some (.pointer (some ⟨g, 0, none⟩))) (h : TLen w g n) :
    Calls Tryz.prog 75 #[.int .i64 id, .pointer (some ⟨p, 0, none⟩)] w fun e w' => e = .returned (.bool (outside n id)) ∧ Gr w w' := by
  obtain ⟨A, c, h⟩ := h
  unfold outside
  by_cases h1 : id < 1
  · rw [decide_eq_true h1]
    go_enter Tryz.func75, Tryz.ntmps75
    go_wp2_with fail
    go_ret
    exact ⟨rfl, Gr.refl _⟩
  · rw [decide_eq_false h1, Bool.false_or]
    go_enter Tryz.func75, Tryz.ntmps75
    go_wp2_with fail
    go_ret
    exact ⟨rfl, Gr.refl _⟩
theorem there_any (g n : Nat) (A : Option Addr) (m c : Nat) (l : List Int) (w : World) (ht : TLen w g n) (h : Is w A m c l) :
    Calls Tryz.prog 35 #[.pointer (some ⟨g, 0, none⟩), .slice A m c] w fun e w' => e = .returned (.bool (!l.any (outside n))) ∧ Gr w w' := by
  obtain ⟨W, hW⟩ : ∃ W, W = w.alloc (.cells #[.pointer (some ⟨g, 0, none⟩)] 34) := ⟨_, rfl⟩
  have hg : Gr w W := by rw [hW]; exact Gr.alloc _ _
  have hp : W.cell? ⟨w.heap.size, 0, none⟩ = some (.pointer (some ⟨g, 0, none⟩)) := by rw [hW, (Blk.new w _ _).cell]; rfl
  have HC := Lib.hid (containsThere (.pointer (some ⟨w.heap.size, 0, none⟩)) A m c l (outside n) W (h.mono hg) (fun x _ w' hw => there1_any w.heap.size g n x w' ((Below.cell hw (World.block_lt_of_cell? W _ hp)).trans hp) ((ht.mono hg).mono hw)))
  have HG := Lib.hid hg; have HW := Lib.hid hW; have HP := Lib.hid hp
  clear ht h hg hW hp
  go_enter Tryz.func35, Tryz.ntmps35
  go_wp2_with fail
  rw [← HW.out]
  refine HC.out.mono ?_
  rintro e w1 ⟨rfl, g1⟩
  have G1 := Lib.hid g1; clear g1
  go_wp2_with fail
  go_ret
  exact ⟨rfl, HG.out.trans G1.out⟩
/-! ### what a term's value is asserted to be -/
theorem assert_hit {P : Program} {X : TypeId} {fs : Array Field} (hu : P.underlying X = some (.struct fs)) (xT : TypeId) (v : Value) (w : World) : (Instr.typeAssert (.iface X v) xT X true).run P w = .ok (.tuple #[v, .bool true]) w := by
  simp [Instr.typeAssert, run_underlying hu]
theorem assert_miss {P : Program} {X : TypeId} {fs : Array Field} {z : Value} (hu : P.underlying X = some (.struct fs)) (hz : ∀ w, (zeroValue X).run P w = .ok z w) (xT D : TypeId) (hD : (D = X) = False) (v : Value) (w : World) : (Instr.typeAssert (.iface D v) xT X true).run P w = .ok (.tuple #[z, .bool false]) w := by
  simp [Instr.typeAssert, run_underlying hu, hD, hz]
theorem zAtom (w : World) : (zeroValue 72).run Tryz.prog w = .ok (.agg #[.int .i64 0]) w := by kernel_rfl
theorem zText (w : World) : (zeroValue 75).run Tryz.prog w = .ok (.agg #[.string ByteArray.empty]) w := by kernel_rfl
theorem zKdf (w : World) : (zeroValue 78).run Tryz.prog w = .ok (.agg #[.int .i64 0, .string ByteArray.empty]) w := by kernel_rfl
theorem zMix (w : World) : (zeroValue 81).run Tryz.prog w = .ok (.agg #[.int .i64 0, .int .i64 0]) w := by kernel_rfl
theorem zEnc (w : World) : (zeroValue 117).run Tryz.prog w = .ok (.agg #[.int .i64 0, .int .i64 0]) w := by kernel_rfl
end Go.Proofs.YtcfbbgbjlgonpaaGreatDoor

/- The program's table of terms in memory: how many, kinds, parts. No condition. -/
namespace Go.Proofs.YtcfbbgbjlgonpaaGreatDoor
open Go.RowKit Go.Maps
set_option linter.unusedVariables false

def i64n (n : Nat) : Value := .int .i64 (n : Int)
/-- How a term stands in the table. -/
def Nd.cell (x : Nd) : Value :=
  if x.k = 1 then .iface 72 (.agg #[.int .i64 (x.n : Int)])
  else if x.k = 2 then .iface 75 (.agg #[.string x.s])
  else if x.k = 3 then .iface 78 (.agg #[.int .i64 (x.a : Int), .string x.s])
  else if x.k = 4 then .iface 81 (.agg #[.int .i64 (x.a : Int), .int .i64 (x.b : Int)])
  else .iface 117 (.agg #[.int .i64 (x.a : Int), .int .i64 (x.b : Int)])
def Kinds (T : List Nd) : Prop := ∀ x ∈ T, 1 ≤ x.k ∧ x.k ≤ 5
/-- A table's terms, to be read. -/
def TRd (w : World) (g : Nat) (T : List Nd) : Prop := ∃ A c, w.cell? ⟨g, 0, none⟩ = some (.slice A T.length c) ∧ Sl w A T.length c 1 (T.map Nd.cell)
theorem TRd.mono {w w' : World} {g : Nat} {T : List Nd} (h : TRd w g T) (hb : Gr w w') : TRd w' g T := by
  obtain ⟨A, c, h, hs⟩ := h
  exact ⟨A, c, (Below.cell hb (World.block_lt_of_cell? w _ h)).trans h, hs.mono hb⟩
theorem TRd.len {w : World} {g : Nat} {T : List Nd} (h : TRd w g T) : TLen w g T.length := by
  obtain ⟨A, c, h, _⟩ := h
  exact ⟨A, c, h⟩
def kindOf (T : List Nd) (id : Int) : Nat := if outside T.length id then 0 else match T[id.toNat - 1]? with
  | some x => x.k
  | none => 0
def partsOf (T : List Nd) (id : Int) : List Nat := if outside T.length id then [] else match T[id.toNat - 1]? with
  | some x => x.parts
  | none => []
theorem is_one (w : World) (x : Int) : Is (w.alloc (.cells #[.int .i64 x] 3)) (some ⟨w.heap.size, 0, none⟩) 1 1 [x] := (is_new w [x]).resolve_right (by simp [maxLen])
theorem len_any (g : Nat) (T : List Nd) (w : World) (h : TRd w g T) : Calls Tryz.prog 11 #[.pointer (some ⟨g, 0, none⟩)] w fun e w' => e = .returned (.int .i64 (T.length : Int)) ∧ w = w' := by
  obtain ⟨A, c, h, _⟩ := h
  go_enter Tryz.func11, Tryz.ntmps11
  go_wp2_with fail
  go_ret
  exact ⟨rfl, rfl⟩
set_option maxHeartbeats 1000000 in
theorem kind_any (g : Nat) (T : List Nd) (id : Int) (w : World) (h : TRd w g T) (hk : Kinds T) (hid : -9223372036854775808 ≤ id ∧ id ≤ 9223372036854775807) :
    Calls Tryz.prog 13 #[.pointer (some ⟨g, 0, none⟩), .int .i64 id] w fun e w' => e = .returned (.int .i64 (kindOf T id : Int)) ∧ Gr w w' := by
  have HT := Lib.hid (there_any g T.length (some ⟨w.heap.size, 0, none⟩) 1 1 [id] _ ((h.mono (Gr.alloc w (.cells #[.int .i64 id] 3))).len) (is_one w id))
  have HG := Lib.hid (Gr.alloc w (.cells #[.int .i64 id] 3))
  have e1 : [id].any (outside T.length) = outside T.length id := by simp
  rw [e1] at HT
  clear e1
  unfold kindOf
  cases ho : outside T.length id with
  | true =>
    rw [ho] at HT
    clear ho
    go_enter Tryz.func13, Tryz.ntmps13
    go_wp2_with fail
    refine HT.out.mono ?_
    rintro e w1 ⟨rfl, g1⟩
    have G1 := Lib.hid (HG.out.trans g1); clear g1
    go_wp2_with fail
    go_ret
    exact ⟨rfl, G1.out⟩
  | false =>
    rw [ho] at HT
    have hin : 1 ≤ id ∧ id ≤ T.length := by unfold outside at ho; simp at ho; omega
    obtain ⟨i, hi⟩ : ∃ i : Nat, id = (i : Int) + 1 := ⟨(id - 1).toNat, by omega⟩
    subst hi
    have hit : i < T.length := by omega
    obtain ⟨x, hx⟩ : ∃ x, T[i]? = some x := ⟨T[i], List.getElem?_eq_getElem hit⟩
    have e2 : ((i : Int) + 1).toNat - 1 = i := by omega
    rw [e2, hx]
    obtain ⟨A, c, hc, hs⟩ := h
    obtain ⟨b, o, rfl, hcc⟩ := Sl.addr hs (by omega)
    have hcell : w.cell? ⟨b, o + i, none⟩ = some x.cell := hcc i _ (by rw [List.getElem?_map, hx]; rfl)
    have hkx := hk x (List.mem_of_getElem? hx)
    have HF : Hid (∀ wq, Gr w wq → wq.cell? ⟨g, 0, none⟩ = some (.slice (some ⟨b, o, none⟩) T.length c) ∧ wq.cell? ⟨b, o + i, none⟩ = some x.cell) := fun wq hq => ⟨(Below.cell hq (World.block_lt_of_cell? w _ hc)).trans hc, (Below.cell hq (World.block_lt_of_cell? w _ hcell)).trans hcell⟩
    have hmx := hs.max
    have hcp := hs.cap
    clear hs hcc hc hcell hx e2 ho hk
    unfold Nd.cell at HF
    obtain ⟨xk, xa, xb, xs, xn⟩ := x
    simp only at HF hkx ⊢
    have hkk : xk = 1 ∨ xk = 2 ∨ xk = 3 ∨ xk = 4 ∨ xk = 5 := by omega
    rcases hkk with rfl | rfl | rfl | rfl | rfl
    all_goals
      simp only [reduceIte, Nat.reduceEqDiff] at HF
      clear hkx hin hid
      have ahatom := fun xT v w => assert_hit (P := Tryz.prog) Tryz.underlying72 xT v w
      have amatom := fun xT D hD v w => assert_miss (P := Tryz.prog) Tryz.underlying72 zAtom xT D hD v w
      have ahtext := fun xT v w => assert_hit (P := Tryz.prog) Tryz.underlying75 xT v w
      have amtext := fun xT D hD v w => assert_miss (P := Tryz.prog) Tryz.underlying75 zText xT D hD v w
      have ahkdf := fun xT v w => assert_hit (P := Tryz.prog) Tryz.underlying78 xT v w
      have amkdf := fun xT D hD v w => assert_miss (P := Tryz.prog) Tryz.underlying78 zKdf xT D hD v w
      have ahmix := fun xT v w => assert_hit (P := Tryz.prog) Tryz.underlying81 xT v w
      have ammix := fun xT D hD v w => assert_miss (P := Tryz.prog) Tryz.underlying81 zMix xT D hD v w
      have ahenc := fun xT v w => assert_hit (P := Tryz.prog) Tryz.underlying117 xT v w
      have amenc := fun xT D hD v w => assert_miss (P := Tryz.prog) Tryz.underlying117 zEnc xT D hD v w
      go_enter Tryz.func13, Tryz.ntmps13
      go_wp2_with fail
      refine HT.out.mono ?_
      rintro e w1 ⟨rfl, g1⟩
      obtain ⟨f0, f1⟩ := HF.out w1 (HG.out.trans g1)
      have G1 := Lib.hid (HG.out.trans g1); clear g1
      go_wp2_with fail
      go_ret
      refine ⟨rfl, ?_⟩
      repeat (first | exact G1.out | refine Gr.trans ?_ (Gr.alloc _ _))
/-- Numbers in new memory. -/
def Fresh (w : World) (A : Option Addr) : Prop := ∀ b o, A = some ⟨b, o, none⟩ → w.heap.size ≤ b
theorem Fresh.nil (w : World) : Fresh w none := fun b o e => by cases e
theorem Fresh.mk1 {w w1 : World} (h : Gr w w1) (k : Nat) : Fresh w (some ⟨w1.heap.size + k, 0, none⟩) := fun b o e => by
  injection e with e
  injection e with e1 _
  have := h.size
  omega
/-- Just these numbers' own block. -/
def OwnI (w : World) (A : Option Addr) (l : List Int) : Prop := l = [] ∨ ∃ q, A = some ⟨q, 0, none⟩ ∧ Blk w q 3 (l.map i64c)
theorem OwnI.one (W : World) (o : Obj) (x : Int) : OwnI ((W.alloc o).alloc (.cells #[.int .i64 x] 3)) (some ⟨W.heap.size + 1, 0, none⟩) [x] := by
  have h := Blk.new (W.alloc o) 3 #[.int .i64 x]
  rw [show (W.alloc o).heap.size = W.heap.size + 1 by simp] at h
  exact .inr ⟨_, rfl, h⟩
theorem OwnI.two (W : World) (o : Obj) (x y : Int) : OwnI ((W.alloc o).alloc (.cells #[.int .i64 x, .int .i64 y] 3)) (some ⟨W.heap.size + 1, 0, none⟩) [x, y] := by
  have h := Blk.new (W.alloc o) 3 #[.int .i64 x, .int .i64 y]
  rw [show (W.alloc o).heap.size = W.heap.size + 1 by simp] at h
  exact .inr ⟨_, rfl, h⟩
def RetInts (w : World) (l : List Int) (e : Ending) (w' : World) : Prop := ∃ A c, e = .returned (.slice A l.length c) ∧ Is w' A l.length c l ∧ Gr w w' ∧ Fresh w A ∧ OwnI w' A l
theorem is_two (w : World) (x y : Int) : Is (w.alloc (.cells #[.int .i64 x, .int .i64 y] 3)) (some ⟨w.heap.size, 0, none⟩) 2 2 [x, y] := (is_new w [x, y]).resolve_right (by simp [maxLen])
set_option maxHeartbeats 1000000 in
theorem parts_any (g : Nat) (T : List Nd) (id : Int) (w : World) (h : TRd w g T) (hk : Kinds T) (hid : -9223372036854775808 ≤ id ∧ id ≤ 9223372036854775807) :
    Calls Tryz.prog 51 #[.pointer (some ⟨g, 0, none⟩), .int .i64 id] w fun e w' => RetInts w ((partsOf T id).map Int.ofNat) e w' := by
  have HT := Lib.hid (there_any g T.length (some ⟨w.heap.size, 0, none⟩) 1 1 [id] _ ((h.mono (Gr.alloc w (.cells #[.int .i64 id] 3))).len) (is_one w id))
  have HG := Lib.hid (Gr.alloc w (.cells #[.int .i64 id] 3))
  have e1 : [id].any (outside T.length) = outside T.length id := by simp
  rw [e1] at HT
  clear e1
  unfold partsOf
  cases ho : outside T.length id with
  | true =>
    rw [ho] at HT
    clear ho
    go_enter Tryz.func51, Tryz.ntmps51
    go_wp2_with fail
    refine HT.out.mono ?_
    rintro e w1 ⟨rfl, g1⟩
    have G1 := Lib.hid (HG.out.trans g1); clear g1
    go_wp2_with fail
    go_ret
    exact ⟨none, 0, rfl, Sl.nil _ _, G1.out, Fresh.nil _, .inl rfl⟩
  | false =>
    rw [ho] at HT
    have hin : 1 ≤ id ∧ id ≤ T.length := by unfold outside at ho; simp at ho; omega
    obtain ⟨i, hi⟩ : ∃ i : Nat, id = (i : Int) + 1 := ⟨(id - 1).toNat, by omega⟩
    subst hi
    have hit : i < T.length := by omega
    obtain ⟨x, hx⟩ : ∃ x, T[i]? = some x := ⟨T[i], List.getElem?_eq_getElem hit⟩
    have e2 : ((i : Int) + 1).toNat - 1 = i := by omega
    rw [e2, hx]
    obtain ⟨A, c, hc, hs⟩ := h
    obtain ⟨b, o, rfl, hcc⟩ := Sl.addr hs (by omega)
    have hcell : w.cell? ⟨b, o + i, none⟩ = some x.cell := hcc i _ (by rw [List.getElem?_map, hx]; rfl)
    have hkx := hk x (List.mem_of_getElem? hx)
    have HF : Hid (∀ wq, Gr w wq → wq.cell? ⟨g, 0, none⟩ = some (.slice (some ⟨b, o, none⟩) T.length c) ∧ wq.cell? ⟨b, o + i, none⟩ = some x.cell) := fun wq hq => ⟨(Below.cell hq (World.block_lt_of_cell? w _ hc)).trans hc, (Below.cell hq (World.block_lt_of_cell? w _ hcell)).trans hcell⟩
    have hmx := hs.max
    have hcp := hs.cap
    clear hs hcc hc hcell hx e2 ho hk
    unfold Nd.cell at HF
    obtain ⟨xk, xa, xb, xs, xn⟩ := x
    simp only at HF hkx ⊢
    have N1 : Hid (∀ (W : World) (o : Obj) (x : Int), Is ((W.alloc o).alloc (.cells #[.int .i64 x] 3)) (some ⟨W.heap.size + 1, 0, none⟩) 1 1 [x]) := fun W o x => by have h := is_one (W.alloc o) x; rw [show (W.alloc o).heap.size = W.heap.size + 1 by simp] at h; exact h
    have N2 : Hid (∀ (W : World) (o : Obj) (x y : Int), Is ((W.alloc o).alloc (.cells #[.int .i64 x, .int .i64 y] 3)) (some ⟨W.heap.size + 1, 0, none⟩) 2 2 [x, y]) := fun W o x y => by have h := is_two (W.alloc o) x y; rw [show (W.alloc o).heap.size = W.heap.size + 1 by simp] at h; exact h
    have hkk : xk = 1 ∨ xk = 2 ∨ xk = 3 ∨ xk = 4 ∨ xk = 5 := by omega
    rcases hkk with rfl | rfl | rfl | rfl | rfl
    all_goals
      simp only [reduceIte, Nat.reduceEqDiff] at HF
      clear hkx hin hid
      have ahatom := fun xT v w => assert_hit (P := Tryz.prog) Tryz.underlying72 xT v w
      have amatom := fun xT D hD v w => assert_miss (P := Tryz.prog) Tryz.underlying72 zAtom xT D hD v w
      have ahtext := fun xT v w => assert_hit (P := Tryz.prog) Tryz.underlying75 xT v w
      have amtext := fun xT D hD v w => assert_miss (P := Tryz.prog) Tryz.underlying75 zText xT D hD v w
      have ahkdf := fun xT v w => assert_hit (P := Tryz.prog) Tryz.underlying78 xT v w
      have amkdf := fun xT D hD v w => assert_miss (P := Tryz.prog) Tryz.underlying78 zKdf xT D hD v w
      have ahmix := fun xT v w => assert_hit (P := Tryz.prog) Tryz.underlying81 xT v w
      have ammix := fun xT D hD v w => assert_miss (P := Tryz.prog) Tryz.underlying81 zMix xT D hD v w
      have ahenc := fun xT v w => assert_hit (P := Tryz.prog) Tryz.underlying117 xT v w
      have amenc := fun xT D hD v w => assert_miss (P := Tryz.prog) Tryz.underlying117 zEnc xT D hD v w
      go_enter Tryz.func51, Tryz.ntmps51
      go_wp2_with fail
      refine HT.out.mono ?_
      rintro e w1 ⟨rfl, g1⟩
      obtain ⟨f0, f1⟩ := HF.out w1 (HG.out.trans g1)
      have G1 := Lib.hid (HG.out.trans g1); clear g1
      go_wp2_with fail
      go_ret
      first
        | exact ⟨none, 0, rfl, Sl.nil _ _, G1.out, Fresh.nil _, .inl rfl⟩
        | exact ⟨_, _, rfl, N1.out _ _ _, (G1.out.trans (Gr.alloc _ _)).trans (Gr.alloc _ _), Fresh.mk1 G1.out 1, OwnI.one _ _ _⟩
        | exact ⟨_, _, rfl, N2.out _ _ _ _, (G1.out.trans (Gr.alloc _ _)).trans (Gr.alloc _ _), Fresh.mk1 G1.out 1, OwnI.two _ _ _ _⟩
end Go.Proofs.YtcfbbgbjlgonpaaGreatDoor

namespace Go.Proofs.YtcfbbgbjlgonpaaGreatDoor
open Go.RowKit Go.Maps
set_option linter.unusedVariables false

/-! ### a map with ints as keys: what stands in it is told value for value -/
def Rv (v : Value) : Option (DataW Value × List MemPlace) := some (.held v, [])
def dOf (l : List (Int × Value)) : DataW Value := (l.map fun p => (Lit.int .i64 p.1, DataW.held p.2)).foldl (fun D p => D.put p.1 p.2) (.map [])
theorem dOf_snoc (l : List (Int × Value)) (x : Int) (v : Value) : dOf (l ++ [(x, v)]) = (dOf l).put (.int .i64 x) (.held v) := by simp [dOf]
theorem dOf_has (l : List (Int × Value)) (x : Int) : has (dOf l) (.int .i64 x) = (l.map Prod.fst).contains x := by
  unfold dOf
  rw [has_foldPut _ _ _ isMap_empty (by intro p hp; obtain ⟨q, _, rfl⟩ := List.mem_map.1 hp; exact trivial)]
  have : has (DataW.map ([] : List (Lit × DataW Value))) (.int .i64 x) = false := rfl
  rw [this, Bool.false_or, List.any_map]
  induction l with
  | nil => rfl
  | cons p l ih =>
    simp only [List.any_cons, List.map_cons, List.contains_cons]
    rw [ih]
    congr 1
    refine Bool.eq_iff_iff.2 ?_
    show decide (IntKind.i64 = IntKind.i64 ∧ p.1 = x) = true ↔ (x == p.1) = true
    rw [decide_eq_true_iff, beq_iff_eq]
    exact ⟨fun h => h.2.symm, fun h => ⟨rfl, h.symm⟩⟩

/-! ### numbers in order, each once -/
def insU (x : Int) : List Int → List Int
  | [] => [x]
  | y :: t => if y < x then y :: insU x t else if y = x then y :: t else x :: y :: t
def sortU (l : List Int) : List Int := l.foldl (fun a x => insU x a) []
theorem insU_mem (x z : Int) : ∀ l, z ∈ insU x l ↔ z = x ∨ z ∈ l
  | [] => by simp [insU]
  | y :: t => by
    unfold insU
    split
    · rw [List.mem_cons, insU_mem x z t, List.mem_cons]; constructor <;> (intro h; rcases h with h | h | h <;> simp [h])
    · split
      · rename_i h; subst h; simp
      · simp
theorem insU_up (x : Int) : ∀ l, l.Pairwise (· < ·) → (insU x l).Pairwise (· < ·)
  | [], _ => by simp [insU]
  | y :: t, h => by
    have ht := List.pairwise_cons.1 h
    unfold insU
    split
    · rename_i hy
      refine List.pairwise_cons.2 ⟨fun z hz => ?_, insU_up x t ht.2⟩
      rcases (insU_mem x z t).1 hz with rfl | hz
      · exact hy
      · exact ht.1 z hz
    · split
      · exact h
      · rename_i h1 h2
        refine List.pairwise_cons.2 ⟨fun z hz => ?_, h⟩
        rcases List.mem_cons.1 hz with rfl | hz
        · omega
        · have := ht.1 z hz; omega
theorem sortU_snoc (l : List Int) (x : Int) : sortU (l ++ [x]) = insU x (sortU l) := by simp [sortU]
theorem foldU (l : List Int) : ∀ a : List Int, a.Pairwise (· < ·) → (l.foldl (fun a x => insU x a) a).Pairwise (· < ·) ∧ ∀ z, z ∈ l.foldl (fun a x => insU x a) a ↔ z ∈ a ∨ z ∈ l := by
  induction l with
  | nil => intro a h; exact ⟨h, fun z => by simp⟩
  | cons x l ih =>
    intro a h
    have := ih (insU x a) (insU_up x a h)
    refine ⟨this.1, fun z => ?_⟩
    rw [List.foldl_cons, this.2 z, insU_mem, List.mem_cons]
    constructor
    · rintro ((h | h) | h) <;> simp [h]
    · rintro (h | h | h) <;> simp [h]
theorem sortU_up (l : List Int) : (sortU l).Pairwise (· < ·) := (foldU l [] List.Pairwise.nil).1
theorem sortU_mem (l : List Int) (z : Int) : z ∈ sortU l ↔ z ∈ l := by unfold sortU; rw [(foldU l [] List.Pairwise.nil).2 z]; simp
theorem up_uniq {a b : List Int} (ha : a.Pairwise (· < ·)) (hb : b.Pairwise (· < ·)) (h : ∀ z, z ∈ a ↔ z ∈ b) : a = b := by
  have na : a.Nodup := ha.imp (fun {x y} h => by omega)
  have nb : b.Nodup := hb.imp (fun {x y} h => by omega)
  exact List.Perm.eq_of_pairwise (le := (· < ·)) (fun x y _ _ h1 h2 => by omega) ha hb ((List.perm_ext_iff_of_nodup na nb).2 h)
theorem sorted_uniq {ss l : List Int} (hn : ss.Nodup) (h : ∀ z, z ∈ ss ↔ z ∈ l) : ss.mergeSort (fun x y => decide (x ≤ y)) = sortU l := by
  have tr : ∀ a b c : Int, decide (a ≤ b) = true → decide (b ≤ c) = true → decide (a ≤ c) = true := fun a b c h1 h2 => by simp at *; omega
  have tot : ∀ a b : Int, (decide (a ≤ b) || decide (b ≤ a)) = true := fun a b => by simp; omega
  have hp := List.mergeSort_perm ss (fun x y => decide (x ≤ y))
  have hm : (ss.mergeSort (fun x y => decide (x ≤ y))).Nodup := hp.nodup_iff.2 hn
  refine up_uniq ?_ (sortU_up l) (fun z => by rw [sortU_mem, ← h z]; exact hp.mem_iff)
  have hle := List.pairwise_mergeSort tr tot ss
  have := List.pairwise_and_iff.2 ⟨hle, hm⟩
  exact this.imp (fun {x y} h => by simp at h; omega)

/-- The keys of such a map, in order. -/
theorem keys_sorted {P : Program} {w : World} {b n : Nat} {l : List (Int × Value)} {ss : List Int} (hk : P.underlying 3 = some (.int .i64)) (K : Keyed P 3) (h : w.ownsMap P 3 Rv b n (dOf l)) (hp : ss.Perm (intKeys (dOf l))) :
    ss.mergeSort (fun x y => decide (x ≤ y)) = sortU (l.map Prod.fst) := by
  have nd : (sortU (l.map Prod.fst)).Nodup := (sortU_up _).imp (fun {x y} h => by omega)
  have hc : CollectedI (dOf l) (fun _ => false) (sortU (l.map Prod.fst)) := ⟨nd, fun x => by rw [sortU_mem, dOf_has, List.contains_iff_mem]; simp⟩
  have hq := hc.perm h K hk (fun _ => rfl)
  have hr := hp.trans hq.symm
  exact sorted_uniq (hr.nodup_iff.2 nd) (fun z => by rw [hr.mem_iff, sortU_mem])
/-- .. of any map with ints as keys. -/
theorem keys_sortedG {H : Type} {R : Value → Option (DataW H × List MemPlace)} {P : Program} {w : World} {b n : Nat} {D : DataW H} {l ss : List Int} (hk : P.underlying 3 = some (.int .i64)) (K : Keyed P 3) (h : w.ownsMap P 3 R b n D) (hh : ∀ x, has D (.int .i64 x) = l.contains x) (hp : ss.Perm (intKeys D)) :
    ss.mergeSort (fun x y => decide (x ≤ y)) = sortU l := by
  have nd : (sortU l).Nodup := (sortU_up _).imp (fun {x y} h => by omega)
  have hc : CollectedI D (fun _ => false) (sortU l) := ⟨nd, fun x => by rw [sortU_mem, hh, List.contains_iff_mem]; simp⟩
  have hq := hc.perm h K hk (fun _ => rfl)
  have hr := hp.trans hq.symm
  exact sorted_uniq (hr.nodup_iff.2 nd) (fun z => by rw [hr.mem_iff, sortU_mem])
end Go.Proofs.YtcfbbgbjlgonpaaGreatDoor
