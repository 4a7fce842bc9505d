/- Own texts of this claim, one behind the other. No condition. -/
import Derived.Test.YtplddbaggbdbiaaDoorObPkAP

/- Regions that draw their order and hold calls of a suite, and blocks that are made: one walk, of an order of one's own choice, serves every order. No condition. -/
namespace Go.Proofs.YtplddbaggbdbiaaDoor
open Go.RowKit
set_option linter.unusedVariables false
/-- A later world: only blocks of a table's cells have turned; what stands in w0 stands. -/
structure Rf (w0 w w' : World) : Prop where
  size : w.heap.size ≤ w'.heap.size
  fs : FS w w'
  bel : Below w0.heap.size w0 w → Below w0.heap.size w0 w'
def okT (t : TypeId) : Prop := t ≠ 110 ∧ t ≠ 20 ∧ t ≠ 3
theorem Rf.gr {w0 w w' : World} (h : Gr w w') : Rf w0 w w' := ⟨h.size, FS.gr h, fun k => below_both k h⟩
theorem Rf.refl {w0 : World} (w : World) : Rf w0 w w := Rf.gr (Gr.refl w)
theorem Rf.trans {w0 a b c : World} (h : Rf w0 a b) (k : Rf w0 b c) : Rf w0 a c := ⟨Nat.le_trans h.size k.size, h.fs.trans k.fs, fun q => k.bel (h.bel q)⟩
theorem Rf.alloc {w0 : World} (w : World) (o : Obj) : Rf w0 w (w.alloc o) := Rf.gr (Gr.alloc w o)
theorem Rf.drew {w0 : World} (w : World) : Rf w0 w w.drew := Rf.gr (Gr.drew w)
theorem Rf.blk {w0 w w' : World} {g : Nat} {t : TypeId} {cs : List Value} (h : Rf w0 w w') (ht : okT t) (hb : Blk w g t cs) : Blk w' g t cs := h.fs g t cs ht.1 ht.2.1 ht.2.2 hb
/-- The walk of a chosen order. I: the numbers of the blocks that the calls have made. -/
def wpR (w0 : World) (P : Program) (ops : Array Oper) (Q : Act → World → Prop) (base : Nat) : List St → List (Nat × Nat) → Act → World → Prop
  | [], _, a, w => ∀ w', Rf w0 w w' → Q a w'
  | x :: l, I, a, w => match ops[x.i]? with
    | none => False
    | some o => if Region.wanted o (yielded ops a.tmps) = true then match x with
        | .p _ => ∃ v, (∀ w', plainAt P o a w' v) ∧ wpR w0 P ops Q base l I (a.put o.dst v) w
        | .q _ => ∃ v, (∀ w', Rf w0 w w' → plainAt P o a w' v) ∧ wpR w0 P ops Q base l I (a.put o.dst v) w
        | .m _ t z => ∀ w' b, Rf w0 w w' → base ≤ b → Blk w' b t z.toList → (∀ p ∈ I, b < p.1 ∨ p.2 ≤ b) → wpR w0 P ops Q base l I (a.put o.dst (.pointer (some ⟨b, 0, none⟩))) w'
        | .c _ => ∀ w', Rf w0 w w' → o.wp P a w' (fun a' w'' => Rf w0 w' w'' ∧ wpR w0 P ops Q base l ((w'.heap.size, w''.heap.size) :: I) a' w'') noExit
        | .s _ => ∀ w', Rf w0 w w' → o.wp P a w' (fun a' w'' => wpR w0 P ops Q base l I a' w'') noExit
      else wpR w0 P ops Q base l I (a.put o.dst undef) w

section
variable {P : Program} {ops : Array Oper} {Q : Act → World → Prop} {base : Nat} {md : Region.Mode} {w0 : World}
/-- In a later world the walk goes through, too. -/
theorem wpR_later : ∀ (l : List St) (I : List (Nat × Nat)) (a : Act) (w w' : World), wpR w0 P ops Q base l I a w → Rf w0 w w' → wpR w0 P ops Q base l I a w'
  | [], I, a, w, w', h, hg => by unfold wpR at *; exact fun v hv => h v (hg.trans hv)
  | x :: l, I, a, w, w', h, hg => by
    unfold wpR at *
    split
    · rename_i ho; simp only [ho] at h
    · rename_i o ho
      simp only [ho] at h
      split
      · rename_i hw
        simp only [hw, if_true] at h
        cases x with
        | p i => exact ⟨h.choose, h.choose_spec.1, wpR_later l I _ w w' h.choose_spec.2 hg⟩
        | q i => exact ⟨h.choose, fun v hv => h.choose_spec.1 v (hg.trans hv), wpR_later l I _ w w' h.choose_spec.2 hg⟩
        | m i t z => exact fun v b hv => h v b (hg.trans hv)
        | c i => exact fun v hv => h v (hg.trans hv)
        | s i => exact fun v hv => h v (hg.trans hv)
      · rename_i hw
        simp only [hw] at h
        exact wpR_later l I _ w w' h hg

/-- One step of the walk, kind by kind. -/
theorem wpR_p {i : Nat} {o : Oper} {l : List St} {I : List (Nat × Nat)} {a : Act} {w : World} (ho : ops[i]? = some o) (hw : Region.wanted o (yielded ops a.tmps) = true) (v : Value) (hv : ∀ w', plainAt P o a w' v) (h : wpR w0 P ops Q base l I (a.put o.dst v) w) : wpR w0 P ops Q base (.p i :: l) I a w := by
  unfold wpR
  simp only [St.i, ho, hw, if_true]
  exact ⟨v, hv, h⟩
theorem wpR_q {i : Nat} {o : Oper} {l : List St} {I : List (Nat × Nat)} {a : Act} {w : World} (ho : ops[i]? = some o) (hw : Region.wanted o (yielded ops a.tmps) = true) (v : Value) (hv : ∀ w', Rf w0 w w' → plainAt P o a w' v) (h : wpR w0 P ops Q base l I (a.put o.dst v) w) : wpR w0 P ops Q base (.q i :: l) I a w := by
  unfold wpR
  simp only [St.i, ho, hw, if_true]
  exact ⟨v, hv, h⟩
theorem wpR_pe {i : Nat} {o : Oper} {l : List St} {I : List (Nat × Nat)} {a : Act} {w : World} (ho : ops[i]? = some o) (hw : Region.wanted o (yielded ops a.tmps) = true) (h : ∃ v, (∀ w', plainAt P o a w' v) ∧ wpR w0 P ops Q base l I (a.put o.dst v) w) : wpR w0 P ops Q base (.p i :: l) I a w := by
  obtain ⟨v, hv, h⟩ := h
  exact wpR_p ho hw v hv h
theorem wpR_qe {i : Nat} {o : Oper} {l : List St} {I : List (Nat × Nat)} {a : Act} {w : World} (ho : ops[i]? = some o) (hw : Region.wanted o (yielded ops a.tmps) = true) (h : ∃ v, (∀ w', Rf w0 w w' → plainAt P o a w' v) ∧ wpR w0 P ops Q base l I (a.put o.dst v) w) : wpR w0 P ops Q base (.q i :: l) I a w := by
  obtain ⟨v, hv, h⟩ := h
  exact wpR_q ho hw v hv h
theorem wpR_m {i : Nat} {t : TypeId} {z : Array Value} {o : Oper} {l : List St} {I : List (Nat × Nat)} {a : Act} {w : World} (ho : ops[i]? = some o) (hw : Region.wanted o (yielded ops a.tmps) = true)
    (h : ∀ w' b, Rf w0 w w' → base ≤ b → Blk w' b t z.toList → (∀ p ∈ I, b < p.1 ∨ p.2 ≤ b) → wpR w0 P ops Q base l I (a.put o.dst (.pointer (some ⟨b, 0, none⟩))) w') : wpR w0 P ops Q base (.m i t z :: l) I a w := by
  unfold wpR
  simp only [St.i, ho, hw, if_true]
  exact h
theorem wpR_c {i : Nat} {o : Oper} {l : List St} {I : List (Nat × Nat)} {a : Act} {w : World} (ho : ops[i]? = some o) (hw : Region.wanted o (yielded ops a.tmps) = true)
    (h : ∀ w', Rf w0 w w' → ∀ K : Act → World → Prop, (∀ a' w'', Rf w0 w' w'' → wpR w0 P ops Q base l ((w'.heap.size, w''.heap.size) :: I) a' w'' → K a' w'') → o.wp P a w' K noExit) : wpR w0 P ops Q base (.c i :: l) I a w := by
  unfold wpR
  simp only [St.i, ho, hw, if_true]
  exact fun w' hg => h w' hg _ (fun _ _ h1 h2 => ⟨h1, h2⟩)
theorem wpR_s {i : Nat} {o : Oper} {l : List St} {I : List (Nat × Nat)} {a : Act} {w : World} (ho : ops[i]? = some o) (hw : Region.wanted o (yielded ops a.tmps) = true)
    (h : ∀ w', Rf w0 w w' → ∀ K : Act → World → Prop, (∀ a' w'', wpR w0 P ops Q base l I a' w'' → K a' w'') → o.wp P a w' K noExit) : wpR w0 P ops Q base (.s i :: l) I a w := by
  unfold wpR
  simp only [St.i, ho, hw, if_true]
  exact fun w' hg => h w' hg _ (fun _ _ h2 => h2)
theorem wpR_skip {x : St} {o : Oper} {l : List St} {I : List (Nat × Nat)} {a : Act} {w : World} (ho : ops[x.i]? = some o) (hw : Region.wanted o (yielded ops a.tmps) = false) (h : wpR w0 P ops Q base l I (a.put o.dst undef) w) : wpR w0 P ops Q base (x :: l) I a w := by
  unfold wpR
  simp only [ho, hw]
  exact h
theorem wpR_skip_p {i : Nat} {o : Oper} {l : List St} {I : List (Nat × Nat)} {a : Act} {w : World} (ho : ops[i]? = some o) (hw : Region.wanted o (yielded ops a.tmps) = false) (h : wpR w0 P ops Q base l I (a.put o.dst undef) w) : wpR w0 P ops Q base (.p i :: l) I a w := wpR_skip (x := .p i) ho hw h
theorem wpR_skip_q {i : Nat} {o : Oper} {l : List St} {I : List (Nat × Nat)} {a : Act} {w : World} (ho : ops[i]? = some o) (hw : Region.wanted o (yielded ops a.tmps) = false) (h : wpR w0 P ops Q base l I (a.put o.dst undef) w) : wpR w0 P ops Q base (.q i :: l) I a w := wpR_skip (x := .q i) ho hw h
theorem wpR_skip_c {i : Nat} {o : Oper} {l : List St} {I : List (Nat × Nat)} {a : Act} {w : World} (ho : ops[i]? = some o) (hw : Region.wanted o (yielded ops a.tmps) = false) (h : wpR w0 P ops Q base l I (a.put o.dst undef) w) : wpR w0 P ops Q base (.c i :: l) I a w := wpR_skip (x := .c i) ho hw h
theorem wpR_nil {I : List (Nat × Nat)} {a : Act} {w : World} (h : ∀ w', Rf w0 w w' → Q a w') : wpR w0 P ops Q base [] I a w := by unfold wpR; exact h

/-- An operation that is apart from all that stand ahead of it may be taken first. -/
theorem take_genR {o : Oper} {s : St} {l2 : List St} (u : Value) (Inv : List (Nat × Nat) → World → Prop) (hs : ∀ cs b, o.op ≠ .select cs b)
    (k1 : ∀ I w w', Inv I w → Rf w0 w w' → Inv I w') (k2 : ∀ I w w', Inv I w → Rf w0 w w' → Inv ((w.heap.size, w'.heap.size) :: I) w')
    (a0 : Act) (hh : ∀ I a w, Same ops o a0 a → Inv I w → wpR w0 P ops Q base (s :: l2) I a w → wpR w0 P ops Q base l2 I (a.put o.dst u) w) :
    ∀ (l1 : List St) (I : List (Nat × Nat)) (a : Act) (w : World), (∀ x ∈ l1, ∀ ox, ops[x.i]? = some ox → ox.apart ops o = true ∧ ∀ cs b, ox.op ≠ .select cs b) → (∀ x ∈ l1, ∀ i, x ≠ .s i) →
      Same ops o a0 a → Inv I w → wpR w0 P ops Q base (l1 ++ s :: l2) I a w → wpR w0 P ops Q base (l1 ++ l2) I (a.put o.dst u) w
  | [], I, a, w, _, _, hsm, hi, h => hh I a w hsm hi h
  | x :: l1, I, a, w, hap, hns, hsm, hi, h => by
    have IH := take_genR u Inv hs k1 k2 a0 hh l1
    have hap' := fun y hy => hap y (List.mem_cons_of_mem _ hy)
    have hns' := fun y hy => hns y (List.mem_cons_of_mem _ hy)
    rw [List.cons_append] at h ⊢
    unfold wpR at h ⊢
    split
    · rename_i ho; simp only [ho] at h
    · rename_i ox ho
      simp only [ho] at h
      obtain ⟨hapx, hsx⟩ := hap x List.mem_cons_self ox ho
      obtain ⟨e1, e2, e3⟩ := Oper.apart_spec hapx
      have e4 : ∀ d, o.dst = some d → ox.dst ≠ some d := fun d hd hx => e2 d hx hd
      rw [wanted_put ox a o.dst u e3]
      split
      · rename_i hw
        simp only [hw, if_true] at h
        cases x with
        | p i =>
          obtain ⟨v, hv, h⟩ := h
          refine ⟨v, fun w' => plainAt_of (execOp_put ox hsx a o.dst u e3) (hv w'), ?_⟩
          rw [← Act.put_comm a v u e2]
          exact IH I _ w hap' hns' (hsm.put' e1 hs v) hi h
        | q i =>
          obtain ⟨v, hv, h⟩ := h
          refine ⟨v, fun w' hg => plainAt_of (execOp_put ox hsx a o.dst u e3) (hv w' hg), ?_⟩
          rw [← Act.put_comm a v u e2]
          exact IH I _ w hap' hns' (hsm.put' e1 hs v) hi h
        | m i t z =>
          intro w' b hg hb hblk hI
          have := h w' b hg hb hblk hI
          rw [← Act.put_comm a _ u e2]
          exact IH I _ w' hap' hns' (hsm.put' e1 hs _) (k1 I w w' hi hg) this
        | c i =>
          intro w' hg
          refine Oper.wp_mono ?_ (wp_putR (ops := ops) (x := o) (u := u) e3 e4 hsx (h w' hg))
          rintro a' w'' ⟨ds, v, rfl, hgg, h⟩
          exact ⟨hgg, IH _ _ w'' hap' hns' (hsm.put e1 hs v ds) (k2 I w' w'' (k1 I w w' hi hg) hgg) h⟩
        | s i => exact absurd rfl (hns (.s i) List.mem_cons_self i)
      · rename_i hw
        simp only [hw] at h
        rw [← Act.put_comm a undef u e2]
        exact IH I _ w hap' hns' (hsm.put' e1 hs undef) hi h

/-- What a reading operation yields, read off the walk. -/
theorem plain_ofR {o : Oper} {i : Nat} {l2 : List St} (hi : ops[i]? = some o) (hs : ∀ cs b, o.op ≠ .select cs b) (every : Bool) :
    ∀ (l1 : List St) (I : List (Nat × Nat)) (a : Act) (w : World), (∀ x ∈ l1, ∀ ox, ops[x.i]? = some ox → ox.apart ops o = true) → (∀ x ∈ l1, x = .p x.i ∨ x = .q x.i) → Region.wanted o (yielded ops a.tmps) = true →
      wpR w0 P ops Q base (l1 ++ (if every then St.p i else St.q i) :: l2) I a w → ∃ v, (∀ w', (every = false → Rf w0 w w') → plainAt P o a w' v)
  | [], I, a, w, _, _, hw, h => by
    rw [List.nil_append] at h
    unfold wpR at h
    have hx : (if every then St.p i else St.q i).i = i := by cases every <;> rfl
    simp only [hx, hi, hw, if_true] at h
    cases every with
    | true => obtain ⟨v, hv, _⟩ := h; exact ⟨v, fun w' _ => hv w'⟩
    | false => obtain ⟨v, hv, _⟩ := h; exact ⟨v, fun w' hg => hv w' (hg rfl)⟩
  | x :: l1, I, a, w, hap, hpq, hw, h => by
    have IH := plain_ofR (l2 := l2) hi hs every l1
    have hap' := fun y hy => hap y (List.mem_cons_of_mem _ hy)
    have hpq' := fun y hy => hpq y (List.mem_cons_of_mem _ hy)
    rw [List.cons_append] at h
    unfold wpR at h
    split at h
    · exact h.elim
    · rename_i ox ho
      obtain ⟨e1, e2, e3⟩ := Oper.apart_spec (hap x List.mem_cons_self ox ho)
      have go : ∀ v, wpR w0 P ops Q base (l1 ++ (if every then St.p i else St.q i) :: l2) I (a.put ox.dst v) w → ∃ v, (∀ w', (every = false → Rf w0 w w') → plainAt P o a w' v) := fun v h => by
        obtain ⟨u, hu⟩ := IH I _ w hap' hpq' ((wanted_put o a ox.dst v e1).trans hw) h
        exact ⟨u, fun w' hg => plainAt_of (execOp_put o hs a ox.dst v e1).symm (hu w' hg)⟩
      split at h
      · rcases hpq x List.mem_cons_self with hx | hx <;> rw [hx] at h <;> obtain ⟨v, _, h⟩ := h <;> exact go v h
      · exact go undef h

/-- A call behind reading operations may be taken first. -/
theorem take_cR {o : Oper} {i : Nat} {l2 : List St} (hi : ops[i]? = some o) (hs : ∀ cs b, o.op ≠ .select cs b) :
    ∀ (l1 : List St) (I : List (Nat × Nat)) (a : Act) (w : World), (∀ x ∈ l1, ∀ ox, ops[x.i]? = some ox → ox.apart ops o = true ∧ ∀ cs b, ox.op ≠ .select cs b) → (∀ x ∈ l1, x = .p x.i ∨ x = .q x.i) → Region.wanted o (yielded ops a.tmps) = true →
      wpR w0 P ops Q base (l1 ++ .c i :: l2) I a w → o.wp P a w (fun a' w' => Rf w0 w w' ∧ wpR w0 P ops Q base (l1 ++ l2) ((w.heap.size, w'.heap.size) :: I) a' w') noExit
  | [], I, a, w, _, _, hw, h => by
    rw [List.nil_append] at h
    unfold wpR at h
    simp only [St.i, hi, hw, if_true] at h
    exact h w (Rf.refl w)
  | x :: l1, I, a, w, hap, hpq, hw, h => by
    have IH := take_cR (l2 := l2) hi hs l1
    have hap' := fun y hy => hap y (List.mem_cons_of_mem _ hy)
    have hpq' := fun y hy => hpq y (List.mem_cons_of_mem _ hy)
    rw [List.cons_append] at h ⊢
    unfold wpR at h
    split at h
    · exact h.elim
    · rename_i ox ho
      obtain ⟨hapx, hsx⟩ := hap x List.mem_cons_self ox ho
      obtain ⟨e1, e2, e3⟩ := Oper.apart_spec hapx
      split at h
      · rename_i hwx
        rcases hpq x List.mem_cons_self with hx | hx <;> rw [hx] at h <;> obtain ⟨v, hv, h⟩ := h
        all_goals
          refine Oper.wp_mono ?_ (wp_putL (ops := ops) (x := ox) e1 e2 hs (IH I _ w hap' hpq' ((wanted_put o a ox.dst v e1).trans hw) h))
          rintro a' w' ⟨ds, r, rfl, hg, h⟩
          refine ⟨hg, ?_⟩
          have hww := (wanted_put ox ({ a with defers := ds } : Act) o.dst r e3).trans hwx
          rw [hx]
        · exact wpR_p (i := x.i) ho hww v (fun w' => plainAt_of (execOp_put ox hsx ({ a with defers := ds } : Act) o.dst r e3) (hv w')) h
        · exact wpR_q (i := x.i) ho hww v (fun w' hg' => plainAt_of (execOp_put ox hsx ({ a with defers := ds } : Act) o.dst r e3) (hv w' (hg.trans hg'))) h
      · rename_i hwx
        refine Oper.wp_mono ?_ (wp_putL (ops := ops) (x := ox) e1 e2 hs (IH I _ w hap' hpq' ((wanted_put o a ox.dst undef e1).trans hw) h))
        rintro a' w' ⟨ds, r, rfl, hg, h⟩
        refine ⟨hg, ?_⟩
        unfold wpR
        simp only [ho, (wanted_put ox ({ a with defers := ds } : Act) o.dst r e3), hwx]
        exact h
theorem take_sR {o : Oper} {i : Nat} {l2 : List St} (hi : ops[i]? = some o) (hs : ∀ cs b, o.op ≠ .select cs b) :
    ∀ (l1 : List St) (I : List (Nat × Nat)) (a : Act) (w : World), (∀ x ∈ l1, ∀ ox, ops[x.i]? = some ox → ox.apart ops o = true ∧ ∀ cs b, ox.op ≠ .select cs b) → (∀ x ∈ l1, x = .p x.i) → Region.wanted o (yielded ops a.tmps) = true →
      wpR w0 P ops Q base (l1 ++ .s i :: l2) I a w → o.wp P a w (fun a' w' => wpR w0 P ops Q base (l1 ++ l2) I a' w') noExit
  | [], I, a, w, _, _, hw, h => by
    rw [List.nil_append] at h
    unfold wpR at h
    simp only [St.i, hi, hw, if_true] at h
    exact h w (Rf.refl w)
  | x :: l1, I, a, w, hap, hpq, hw, h => by
    have IH := take_sR (l2 := l2) hi hs l1
    have hap' := fun y hy => hap y (List.mem_cons_of_mem _ hy)
    have hpq' := fun y hy => hpq y (List.mem_cons_of_mem _ hy)
    rw [List.cons_append] at h ⊢
    unfold wpR at h
    split at h
    · exact h.elim
    · rename_i ox ho
      obtain ⟨hapx, hsx⟩ := hap x List.mem_cons_self ox ho
      obtain ⟨e1, e2, e3⟩ := Oper.apart_spec hapx
      split at h
      · rename_i hwx
        have hx := hpq x List.mem_cons_self
        rw [hx] at h
        obtain ⟨v, hv, h⟩ := h
        refine Oper.wp_mono ?_ (wp_putL (ops := ops) (x := ox) e1 e2 hs (IH I _ w hap' hpq' ((wanted_put o a ox.dst v e1).trans hw) h))
        rintro a' w' ⟨ds, r, rfl, h⟩
        rw [hx]
        exact wpR_p (i := x.i) ho ((wanted_put ox ({ a with defers := ds } : Act) o.dst r e3).trans hwx) v (fun w' => plainAt_of (execOp_put ox hsx ({ a with defers := ds } : Act) o.dst r e3) (hv w')) h
      · rename_i hwx
        refine Oper.wp_mono ?_ (wp_putL (ops := ops) (x := ox) e1 e2 hs (IH I _ w hap' hpq' ((wanted_put o a ox.dst undef e1).trans hw) h))
        rintro a' w' ⟨ds, r, rfl, h⟩
        unfold wpR
        simp only [ho, (wanted_put ox ({ a with defers := ds } : Act) o.dst r e3), hwx]
        exact h

/-! ### the check of a chosen order -/
/-- Every block that is made in the region is told by its type and cells. -/
def mkAllR (P : Program) (ops : Array Oper) : List St → Prop
  | [] => True
  | .m i t z :: l => (∀ o, ops[i]? = some o → makesB P o t z ∧ okT t) ∧ mkAllR P ops l
  | _ :: l => mkAllR P ops l
theorem mkAllR_mem : ∀ {l : List St}, mkAllR P ops l → ∀ {i t z}, St.m i t z ∈ l → ∀ o, ops[i]? = some o → makesB P o t z ∧ okT t
  | [], _, _, _, _, h => by cases h
  | x :: l, hm, i, t, z, h => by
    rcases List.mem_cons.1 h with e | hh
    · subst e; exact hm.1
    · cases x with
      | m i' t' z' => exact mkAllR_mem (l := l) hm.2 hh
      | p i' => exact mkAllR_mem (l := l) hm hh
      | q i' => exact mkAllR_mem (l := l) hm hh
      | c i' => exact mkAllR_mem (l := l) hm hh
      | s i' => exact mkAllR_mem (l := l) hm hh

theorem wpAny_of_R {M : List Nat} {Q' : Exit → Act → World → Prop} (hm : masksB md ops M = true) (hns : Region.noSelect ops = true) :
    ∀ (n : Nat) (l : List St) (I : List (Nat × Nat)) (listed : Array Bool) (a : Act) (w : World), l.length = n → (∀ i t z, St.m i t z ∈ l → ∀ o, ops[i]? = some o → makesB P o t z ∧ okT t) → Good md ops M l listed →
      ((∀ i t z, St.m i t z ∉ l) ∨ (base ≤ w.heap.size ∧ ∀ p ∈ I, p.2 ≤ w.heap.size)) → wpR w0 P ops (fun a' w' => Q' .normal a' w') base l I a w → wpAny P md ops Q' n listed a w
  | 0, l, I, listed, a, w, hl, _, hg, _, h => by
    have : l = [] := List.eq_nil_of_length_eq_zero hl
    subst this
    unfold wpR at h
    refine ⟨?_, h w (Rf.refl w)⟩
    rw [List.eq_nil_iff_forall_not_mem]
    intro j hj
    obtain ⟨h0, o, ho, _⟩ := mem_ready.1 hj
    obtain ⟨x, hx, _⟩ := (hg.unl j).1 ⟨(Array.getElem?_eq_some_iff.1 ho).1, h0⟩
    cases hx
  | n + 1, l, I, listed, a, w, hl, hmk, hg, hI, h => by
    refine ⟨fun h0 => ?_, fun i hi => ?_⟩
    · obtain ⟨x, l', rfl⟩ : ∃ x l', l = x :: l' := by cases l with | nil => simp at hl | cons x l' => exact ⟨x, l', rfl⟩
      have := hg.head
      rw [h0] at this
      cases this
    · obtain ⟨hu, o, ho, _⟩ := mem_ready.1 hi
      have hlt := (Array.getElem?_eq_some_iff.1 ho).1
      obtain ⟨s, hs, rfl⟩ := (hg.unl i).1 ⟨hlt, hu⟩
      obtain ⟨l1, l2, rfl⟩ := List.append_of_mem hs
      have hah := hg.ahead hm hi ho
      have hsel := Region.noSelect_spec hns
      have hso : ∀ cs b, o.op ≠ .select cs b := fun cs b => hsel _ o cs b ho
      have hap : ∀ x ∈ l1, ∀ ox, ops[x.i]? = some ox → ox.apart ops o = true := fun x hx ox hox => (hah x hx).2 ox hox
      have hap2 : ∀ x ∈ l1, ∀ ox, ops[x.i]? = some ox → ox.apart ops o = true ∧ ∀ cs b, ox.op ≠ .select cs b := fun x hx ox hox => ⟨(hah x hx).2 ox hox, fun cs b => hsel _ ox cs b hox⟩
      have hlen : (l1 ++ l2).length = n := by simp at hl ⊢; omega
      have hsub : ∀ y, y ∈ l1 ++ l2 → y ∈ l1 ++ s :: l2 := fun y hy => by
        rcases List.mem_append.1 hy with hy | hy
        · exact List.mem_append_left _ hy
        · exact List.mem_append_right _ (List.mem_cons_of_mem _ hy)
      have hmk' : ∀ i t z, St.m i t z ∈ l1 ++ l2 → ∀ o, ops[i]? = some o → makesB P o t z ∧ okT t := fun i t z hy => hmk i t z (hsub _ hy)
      have hnm : ∀ {w' : World}, w.heap.size ≤ w'.heap.size → ((∀ i t z, St.m i t z ∉ l1 ++ l2) ∨ (base ≤ w'.heap.size ∧ ∀ p ∈ I, p.2 ≤ w'.heap.size)) := fun hle => hI.imp (fun h i t z hy => h i t z (hsub _ hy)) (fun h => ⟨by omega, fun p hp => Nat.le_trans (h.2 p hp) hle⟩)
      have hgt := hg.take hi
      have IH := fun I' a' w' hI' h' => wpAny_of_R (Q' := Q') hm hns n (l1 ++ l2) I' (listed.setIfInBounds s.i true) a' w' hlen hmk' hgt hI' h'
      have hnos : ∀ x ∈ l1, ∀ i, x ≠ .s i := fun x hx i e => by
        have := (hah x hx).1
        subst e
        cases s <;> simp [St.may] at this
      unfold wpOp
      simp only [ho]
      by_cases hw : Region.wanted o (yielded ops a.tmps) = true
      · simp only [hw, if_true]
        refine .inl ?_
        cases s with
        | p i =>
          have hpq : ∀ x ∈ l1, x = .p x.i ∨ x = .q x.i := fun x hx => may_pq (i := i) (.inl (hah x hx).1)
          obtain ⟨v, hv⟩ := plain_ofR (i := i) ho hso true l1 I a w hap hpq hw h
          refine plain_wp (hv w (fun h => by cases h)) (IH I _ w (hnm (Nat.le_refl _)) ?_)
          refine take_genR v (fun _ _ => True) hso (fun _ _ _ _ _ => trivial) (fun _ _ _ _ _ => trivial) a (fun I' a' w' hsm _ h' => ?_) l1 I a w hap2 hnos ⟨rfl, rfl⟩ trivial h
          unfold wpR at h'
          have ho' : ops[i]? = some o := ho
          simp only [St.i, ho', hsm.1.trans hw, if_true] at h'
          obtain ⟨v', hv', h'⟩ := h'
          have e := plainAt_det hsm.2 (hv w' (fun h => by cases h)) (hv' w')
          rw [← e]
          exact h'
        | q i =>
          have hpq : ∀ x ∈ l1, x = .p x.i ∨ x = .q x.i := fun x hx => may_pq (i := i) (.inr (.inl (hah x hx).1))
          obtain ⟨v, hv⟩ := plain_ofR (i := i) ho hso false l1 I a w hap hpq hw h
          refine plain_wp (hv w (fun _ => Rf.refl w)) (IH I _ w (hnm (Nat.le_refl _)) ?_)
          refine take_genR v (fun _ w' => Rf w0 w w') hso (fun _ _ _ h k => h.trans k) (fun _ _ _ h k => h.trans k) a (fun I' a' w' hsm hinv h' => ?_) l1 I a w hap2 hnos ⟨rfl, rfl⟩ (Rf.refl w) h
          unfold wpR at h'
          have ho' : ops[i]? = some o := ho
          simp only [St.i, ho', hsm.1.trans hw, if_true] at h'
          obtain ⟨v', hv', h'⟩ := h'
          have e := plainAt_det hsm.2 (hv w' (fun _ => hinv)) (hv' w' (Rf.refl w'))
          rw [← e]
          exact h'
        | m i t z =>
          obtain ⟨hmm, hok⟩ := hmk i t z (List.mem_append_right _ List.mem_cons_self) o ho
          obtain ⟨hb, hI2⟩ : base ≤ w.heap.size ∧ ∀ p ∈ I, p.2 ≤ w.heap.size := hI.resolve_left (fun h => h i t z (List.mem_append_right _ List.mem_cons_self))
          unfold Oper.wp
          rw [hmm]
          simp only [Oper.upon]
          refine IH I _ _ (hnm (by simp)) ?_
          refine take_genR _ (fun I' w' => Blk w' w.heap.size t z.toList ∧ ∀ p ∈ I', w.heap.size < p.1 ∨ p.2 ≤ w.heap.size) hso (fun _ _ _ h k => ⟨k.blk hok h.1, h.2⟩) (fun I' w1 w2 h k => ⟨k.blk hok h.1, fun p hp => ?_⟩) a (fun I' a' w' hsm hinv h' => ?_) l1 I a _ hap2 hnos ⟨rfl, rfl⟩ ⟨Blk.new w t z, fun p hp => .inr (hI2 p hp)⟩ (wpR_later _ I a w _ h (Rf.alloc w _))
          · rcases List.mem_cons.1 hp with rfl | hp
            · exact .inl h.1.lt
            · exact h.2 p hp
          · unfold wpR at h'
            have ho' : ops[i]? = some o := ho
            simp only [St.i, ho', hsm.1.trans hw, if_true] at h'
            exact h' w' w.heap.size (Rf.refl w') hb hinv.1 hinv.2
        | c i =>
          have hpq : ∀ x ∈ l1, x = .p x.i ∨ x = .q x.i := fun x hx => may_pq (i := i) (.inr (.inr (hah x hx).1))
          refine wp_noExit ?_ (take_cR (i := i) ho hso l1 I a w hap2 hpq hw h)
          rintro a' w' ⟨hgr, h'⟩
          refine IH _ a' w' ?_ h'
          rcases hnm hgr.size with h1 | h1
          · exact .inl h1
          · exact .inr ⟨h1.1, fun p hp => by
              rcases List.mem_cons.1 hp with rfl | hp
              · exact Nat.le_refl _
              · exact h1.2 p hp⟩
        | s i =>
          have hpq : ∀ x ∈ l1, x = .p x.i := fun x hx => may_p (i := i) (hah x hx).1
          refine wp_noExit ?_ (take_sR (i := i) ho hso l1 I a w hap2 hpq hw h)
          intro a' w' h'
          refine IH _ a' w' (.inl fun j t z hy => ?_) h'
          rcases List.mem_append.1 hy with hy | hy
          · have := hpq _ hy; cases this
          · obtain ⟨_, _, _, _, _, _, hf, _⟩ := pairB_spec ((List.pairwise_cons.1 (List.pairwise_append.1 hg.pw).2.1).1 _ hy)
            simp [St.fine] at hf
      · have hw' : Region.wanted o (yielded ops a.tmps) = false := by simpa using hw
        simp only [hw', Bool.false_eq_true, if_false]
        refine IH I _ w (hnm (Nat.le_refl _)) ?_
        refine take_genR undef (fun _ _ => True) hso (fun _ _ _ _ _ => trivial) (fun _ _ _ _ _ => trivial) a (fun I' a' w' hsm _ h' => ?_) l1 I a w hap2 hnos ⟨rfl, rfl⟩ trivial h
        unfold wpR at h'
        simp only [ho, hsm.1.trans hw', Bool.false_eq_true, if_false] at h'
        exact h'

/-- **One walk of a chosen order serves every order.** -/
theorem wp_region_rel {id : Nat} {Q' : Exit → Act → World → Prop} {a : Act} {w : World} (hf : P.follows .mixedOrders = true) (M : List Nat) (l : List St) (hB : planB .any ops M l = true) (hmk : mkAllR P ops l)
    (h : wpR w0 P ops (fun a' w' => Q' .normal a' w') w.heap.size l [] a w.drew) : (Code.region id ops true).wp P Q' a w := by
  unfold planB at hB
  rw [Bool.and_eq_true, Bool.and_eq_true, Bool.and_eq_true, Bool.and_eq_true] at hB
  obtain ⟨hns, hm, hp, hlen, hall⟩ := hB
  have hlen : l.length = ops.size := of_decide_eq_true hlen
  obtain ⟨hpw, hself⟩ := pairsB_spec hp
  have hin : ∀ x ∈ l, x.i < ops.size := fun x hx => by
    have := hself x hx
    unfold selfB at this
    split at this
    · rename_i o ho; exact (Array.getElem?_eq_some_iff.1 ho).1
    · cases this
  have hall' : ∀ i, i < ops.size → ∃ x ∈ l, x.i = i := fun i hi => by
    have := List.all_eq_true.1 hall i (List.mem_range.2 hi)
    rw [List.any_eq_true] at this
    obtain ⟨x, hx, he⟩ := this
    exact ⟨x, hx, by simpa using he⟩
  have hg : Good .any ops M l (Array.replicate ops.size false) := by
    refine ⟨hpw, hself, fun i => ⟨fun hi => hall' i hi.1, fun ⟨x, hx, e⟩ => ?_⟩, fun j o hj hl => ?_, by simp⟩
    · have := hin x hx
      rw [e] at this
      exact ⟨this, by simp [this]⟩
    · exfalso
      rcases Nat.lt_or_ge j ops.size with h' | h' <;> simp [h'] at hl
  refine wp_region_any hf ?_
  exact wpAny_of_R (base := w.heap.size) hm hns ops.size l [] _ a _ hlen (fun i t z hy => mkAllR_mem hmk hy) hg (.inr ⟨Nat.le_refl _, fun p hp => by cases hp⟩) h
end
attribute [irreducible] wpR
end Go.Proofs.YtplddbaggbdbiaaDoor
