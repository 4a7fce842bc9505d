/- Own texts of this claim, one behind the other. No condition. -/
import Derived.Test.YtfemhhjmfckicaaGreatDoorObPkM
import Derived.Test.YtfemhhjmfckicaaGreatDoorObPkS
import Derived.Test.YtfemhhjmfckicaaGreatDoorObPkY
import Derived.Test.YtfemhhjmfckicaaGreatDoorObPkZF
import Derived.Shelf.SlIterI.Nil
import Derived.Shelf.SortM.Plain
import Derived.Shelf.SortM.SortNone

/- leaf.plan.do: any change. No condition. -/
namespace Go.Proofs.YtfemhhjmfckicaaGreatDoor
open Go.RowKit Go.Maps
set_option linter.unusedVariables false
set_option linter.unusedSimpArgs false
def ChV.v (x : ChV) : Value := .agg #[strc x.d.n, .slice x.a x.m x.c, .bool x.d.g]
theorem find_one {ls : List (List UInt8)} {s : List UInt8} : findH ls s < 0 → findH ls s = -1 := by
  intro h
  rw [find_neg] at h
  exact find_none h
theorem free_one {ls : List (List UInt8)} : freeH ls < 0 → freeH ls = -1 := by
  intro h
  unfold freeH at *
  cases hf : ls.findIdx? (· == []) with
  | none => rfl
  | some i =>
    exfalso
    rw [hf] at h
    simp at h
    omega
/-- What one change does to a plan. -/
def RetP (w0 : World) (P g mb n : Nat) (now : List (List UInt8)) (log : List TcV) (x : ChD) (e : Ending) (w' : World) : Prop :=
  e = .returned (.int .i64 (faultC 350 now x : Int)) ∧ (faultC 350 now x ≠ 0 → PL w0 w' P g mb n now log) ∧
    (faultC 350 now x = 0 → ∃ a' m' c', PL w0 w' P g mb n (doC (now, log.map TcV.d) x).1 (log ++ [⟨tcOf (slotOf now x).toNat x, a', m', c'⟩]))
theorem do_any {w0 w : World} {P g mb n : Nat} {now : List (List UInt8)} {log : List TcV} (h : PL w0 w P g mb n now log) (hn : n ≤ 1000) (hlog : log.length ≤ 1000) (x : ChV) (hv : Bs w x.a x.m x.c x.d.v) (hs : x.d.n.length ≤ 100000) (hT : U8 w0) :
    Calls Tryz.prog 52 #[.pointer (some ⟨P, 0, none⟩), x.v] w (RetP w0 P g mb n now log x.d) := by
  obtain ⟨⟨s, v, gn⟩, a, m, c⟩ := x
  have hl := hv.len
  show Calls Tryz.prog 52 #[.pointer (some ⟨P, 0, none⟩), .agg #[strc s, .slice a m c, .bool gn]] w (RetP w0 P g mb n now log ⟨s, v, gn⟩)
  simp only at hv hs hl
  cases hr : rightL s with
  | false =>
    have hF : faultC 350 now ⟨s, v, gn⟩ = 2 := by unfold faultC; rw [if_pos (.inl hr)]
    refine (do_wrong h s a m c gn hs hT hr).mono fun e w' ⟨he, hp⟩ => ?_
    unfold RetP; rw [hF]
    exact ⟨he, fun _ => hp, fun q => by cases q⟩
  | true =>
    by_cases hb : gn = false ∧ 350 < m
    · obtain ⟨rfl, hm⟩ := hb
      have hF : faultC 350 now ⟨s, v, false⟩ = 2 := by unfold faultC; rw [if_pos (.inr ⟨rfl, by show 350 < v.length; omega⟩)]
      refine (do_long h s a m c hs hT hr hm).mono fun e w' ⟨he, hp⟩ => ?_
      unfold RetP; rw [hF]
      exact ⟨he, fun _ => hp, fun q => by cases q⟩
    have hF1 : faultC 350 now ⟨s, v, gn⟩ = if findH now s < 0 ∧ gn = true then 7 else if slotOf now ⟨s, v, gn⟩ < 0 then 5 else 0 := by
      unfold faultC
      rw [if_neg]
      rintro (q | ⟨q1, q2⟩)
      · rw [hr] at q; cases q
      · exact hb ⟨q1, by simp only at q2; omega⟩
    cases gn with
    | true =>
      by_cases hf : findH now s < 0
      · have hF : faultC 350 now ⟨s, v, true⟩ = 7 := by rw [hF1, if_pos ⟨hf, rfl⟩]
        refine (do_missing h hn s a m c hs hT hr (find_one hf)).mono fun e w' ⟨he, hp⟩ => ?_
        unfold RetP; rw [hF]
        exact ⟨he, fun _ => hp, fun q => by cases q⟩
      · obtain ⟨i, hi, hil, _⟩ := find_is (now := now) (s := s) (by omega)
        have hS : slotOf now ⟨s, v, true⟩ = (i : Int) := by unfold slotOf; rw [if_neg hf]; exact hi
        have hF : faultC 350 now ⟨s, v, true⟩ = 0 := by rw [hF1, if_neg (fun q => hf q.1), if_neg (by rw [hS]; omega)]
        refine (do_gone h hn hlog s a m c hs hT hr i (by rw [← h.len]; exact hil) hi).mono fun e w' ⟨he, hp⟩ => ?_
        unfold RetP; rw [hF]
        refine ⟨he, fun q => absurd rfl q, fun _ => ⟨none, 0, 0, ?_⟩⟩
        unfold doC
        rw [hS]
        exact hp
    | false =>
      have hm : m ≤ 350 := by
        by_cases q : m ≤ 350
        · exact q
        · exact absurd ⟨rfl, by omega⟩ hb
      by_cases hf : findH now s < 0
      · by_cases he : freeH now < 0
        · have hS : slotOf now ⟨s, v, false⟩ = freeH now := by unfold slotOf; rw [if_pos hf]
          have hF : faultC 350 now ⟨s, v, false⟩ = 5 := by rw [hF1, if_neg (fun q => by cases q.2), if_pos (by rw [hS]; exact he)]
          refine (do_full h hn s a m c hs hT hr hm (find_one hf) (free_one he)).mono fun e w' ⟨he, hp⟩ => ?_
          unfold RetP; rw [hF]
          exact ⟨he, fun _ => hp, fun q => by cases q⟩
        · obtain ⟨i, hi, hil, _⟩ := free_is (now := now) (by omega)
          have hS : slotOf now ⟨s, v, false⟩ = (i : Int) := by unfold slotOf; rw [if_pos hf]; exact hi
          have hF : faultC 350 now ⟨s, v, false⟩ = 0 := by rw [hF1, if_neg (fun q => by cases q.2), if_neg (by rw [hS]; omega)]
          refine (do_new h hn hlog s a m c v hv hs hT hr hm i (by rw [← h.len]; exact hil) (find_one hf) hi).mono fun e w' ⟨he, a', m', c', hp⟩ => ?_
          unfold RetP; rw [hF]
          refine ⟨he, fun q => absurd rfl q, fun _ => ⟨a', m', c', ?_⟩⟩
          unfold doC
          rw [hS]
          exact hp
      · obtain ⟨i, hi, hil, _⟩ := find_is (now := now) (s := s) (by omega)
        have hS : slotOf now ⟨s, v, false⟩ = (i : Int) := by unfold slotOf; rw [if_neg hf]; exact hi
        have hF : faultC 350 now ⟨s, v, false⟩ = 0 := by rw [hF1, if_neg (fun q => by cases q.2), if_neg (by rw [hS]; omega)]
        refine (do_put h hn hlog s a m c v hv hs hT hr hm i (by rw [← h.len]; exact hil) hi).mono fun e w' ⟨he, a', m', c', hp⟩ => ?_
        unfold RetP; rw [hF]
        refine ⟨he, fun q => absurd rfl q, fun _ => ⟨a', m', c', ?_⟩⟩
        unfold doC
        rw [hS]
        exact hp
end Go.Proofs.YtfemhhjmfckicaaGreatDoor

/- leaf.Plan: how it begins. No condition. -/
namespace Go.Proofs.YtfemhhjmfckicaaGreatDoor
open Go.RowKit Go.Maps
set_option linter.unusedVariables false
set_option linter.unusedSimpArgs false
theorem Tch.row {S : Nat → Prop} {w : World} {g : Nat} (cs : Array Value) (hS : S g) : Tch S w (w.setRow g cs) :=
  ⟨⟨rfl, rfl, rfl, by rw [setRow_size]; exact Nat.le_refl _, fun k hk => absurd hk (by omega)⟩, fun b _ hn => setRow_other w g b cs (fun e => hn (e ▸ hS))⟩
theorem copy_words {W : World} {g n c : Nat} {A : Option Addr} {hs : List (List UInt8)} (ty : TypeId) (hB : Blk W g 9 (reps n (.string ⟨#[]⟩))) (h : Ws W A n c hs) :
    ∃ W', (Builtin.copy_ #[22, 22] ty #[.slice (some ⟨g, 0, none⟩) n n, .slice A n c]).run Tryz.prog W = .ok (.int .i64 (n : Int)) W' ∧ Tch (fun b => b = g) W W' ∧ Blk W' g 9 (hs.map strc) := by
  have hl := h.len
  by_cases h0 : n = 0
  · subst h0
    obtain rfl : hs = [] := List.eq_nil_of_length_eq_zero hl
    exact ⟨W, run_copy_none (P := Tryz.prog) W _ _ ty 9 _ A 0 0 0 c Tryz.underlying22 (by kernel_rfl) rfl, Tch.refl _, hB⟩
  · obtain ⟨b, o, rfl, hc⟩ := h.addr (by omega)
    have hm : (hs.map strc).length = Nat.min n n := by rw [List.length_map, hl]; exact (Nat.min_self n).symm
    have hrun := run_copy_row (P := Tryz.prog) W 22 22 ty 9 g 0 n n ⟨b, o, none⟩ n c (reps n (.string ⟨#[]⟩)).toArray 9 (hs.map strc) Tryz.underlying22 (by kernel_rfl) hB hm (fun j v hv => by
      rw [List.getElem?_map] at hv
      cases hj : hs[j]? with
      | none => rw [hj] at hv; cases hv
      | some x =>
        rw [hj] at hv
        have hjl := (List.getElem?_eq_some_iff.1 hj).1
        rw [add_flat, hc j hjl]
        rw [← hv]
        rw [(List.getElem?_eq_some_iff.1 hj).2]
        rfl) (by rw [List.length_map, hl, List.size_toArray, reps_length]; omega) (fun v hv => by obtain ⟨x, _, rfl⟩ := List.mem_map.1 hv; rfl)
    have e1 : goInt ((hs.map strc).length : Nat) = .int .i64 (n : Int) := by rw [List.length_map, hl]; rfl
    rw [e1] at hrun
    refine ⟨_, hrun, Tch.row (S := fun b => b = g) _ rfl, ?_⟩
    unfold Blk
    have e2 : ((reps n (Value.string ⟨#[]⟩)).toArray.toList.take 0 ++ hs.map strc ++ (reps n (Value.string ⟨#[]⟩)).toArray.toList.drop (0 + (hs.map strc).length)) = hs.map strc := by
      rw [List.take_zero, List.nil_append, List.drop_eq_nil_of_le (by rw [List.length_map, hl]; show (reps n _).length ≤ _; rw [reps_length]; omega), List.append_nil]
    rw [setRow_heap W g _ _ _ _ hB, e2]
/-- What a plan has behind the first changes. -/
def PLs (w0 w : World) (P g mb n : Nat) (hs : List (List UInt8)) (l : List ChD) : Prop :=
  (planC 350 (hs, []) l).2 = 0 ∧ ∃ log, PL w0 w P g mb n (planC 350 (hs, []) l).1.1 log ∧ log.map TcV.d = (planC 350 (hs, []) l).1.2 ∧ log.length = l.length
theorem PLs.step {w0 w' : World} {P g mb n : Nat} {hs : List (List UInt8)} {l : List ChD} {x : ChD} (h : (planC 350 (hs, []) l).2 = 0) {log : List TcV} (hd : log.map TcV.d = (planC 350 (hs, []) l).1.2) (hl : log.length = l.length) (h0 : faultC 350 (planC 350 (hs, []) l).1.1 x = 0)
    {a' : Option Addr} {m' c' : Nat} (hp : PL w0 w' P g mb n (doC ((planC 350 (hs, []) l).1.1, log.map TcV.d) x).1 (log ++ [⟨tcOf (slotOf (planC 350 (hs, []) l).1.1 x).toNat x, a', m', c'⟩])) : PLs w0 w' P g mb n hs (l ++ [x]) := by
  have e : planC 350 (hs, []) (l ++ [x]) = (doC (planC 350 (hs, []) l).1 x, 0) := by
    rw [plan_snoc, if_pos h, plan_cons, if_pos h0]
    rfl
  unfold PLs
  rw [e]
  refine ⟨rfl, _, hp, ?_, by rw [List.length_append, List.length_append, hl]; rfl⟩
  rw [List.map_append, hd]
  rfl
theorem plan_stop {hs : List (List UInt8)} {l l' : List ChD} {x : ChD} (h : (planC 350 (hs, []) l).2 = 0) (h0 : faultC 350 (planC 350 (hs, []) l).1.1 x ≠ 0) : (planC 350 (hs, []) (l ++ x :: l')).2 = faultC 350 (planC 350 (hs, []) l).1.1 x := by
  have e : planC 350 (hs, []) (l ++ [x]) = ((planC 350 (hs, []) l).1, faultC 350 (planC 350 (hs, []) l).1.1 x) := by
    rw [plan_snoc, if_pos h, plan_cons, if_neg h0]
  have : l ++ x :: l' = (l ++ [x]) ++ l' := by simp
  rw [this, plan_bad _ _ (by rw [e]; exact h0), e]
theorem PL.start {w W : World} {n : Nat} {hs : List (List UInt8)} (hl : hs.length = n) {W3 : World} (hW3 : W3 = ((w.alloc (.cells (reps n (.string ⟨#[]⟩)).toArray 9)).alloc (.map #[] 0)).alloc (.cells #[.slice (some ⟨w.heap.size, 0, none⟩) n n, .map (some (w.heap.size + 1))] 77))
    (t : Tch (fun b => b = w.heap.size) W3 W) (hb : Blk W w.heap.size 9 (hs.map strc)) : PL w W (w.heap.size + 1 + 1) w.heap.size (w.heap.size + 1) n hs [] := by
  have z1 : (w.alloc (.cells (reps n (.string ⟨#[]⟩)).toArray 9)).heap.size = w.heap.size + 1 := by simp
  have z2 : ((w.alloc (.cells (reps n (.string ⟨#[]⟩)).toArray 9)).alloc (.map #[] 0)).heap.size = w.heap.size + 1 + 1 := by simp
  have b3 : Blk W3 (w.heap.size + 1 + 1) 77 [.slice (some ⟨w.heap.size, 0, none⟩) n n, .map (some (w.heap.size + 1))] := by
    rw [hW3]
    have := Blk.new ((w.alloc (.cells (reps n (.string ⟨#[]⟩)).toArray 9)).alloc (.map #[] 0)) 77 #[.slice (some ⟨w.heap.size, 0, none⟩) n n, .map (some (w.heap.size + 1))]
    rw [z2] at this
    exact this
  have m3 : W3.ownsMap Tryz.prog 3 Rv (w.heap.size + 1) 0 (.map []) := by
    rw [hW3]
    have := (World.ownsMap_made (w.alloc (.cells (reps n (.string ⟨#[]⟩)).toArray 9)) Tryz.prog 3 Rv).alloc (.cells #[.slice (some ⟨w.heap.size, 0, none⟩) n n, .map (some (w.heap.size + 1))] 77)
    rw [z1] at this
    exact this
  have g3 : Gr w W3 := by
    rw [hW3]
    exact ((Gr.alloc w _).trans (Gr.alloc _ _)).trans (Gr.alloc _ _)
  refine ⟨t.below g3 g3.size (fun b e => by subst e; exact Nat.le_refl _), by omega, Nat.le_refl _, by omega, by omega, hl, b3.tch t (by omega), hb, ownsMap_at m3 (t.keep _ m3.lt (by omega)), fun x hx => by cases hx⟩
end Go.Proofs.YtfemhhjmfckicaaGreatDoor

/- leaf.Plan: the slots, in order, and what each has last. No condition. -/
namespace Go.Proofs.YtfemhhjmfckicaaGreatDoor
open Go.RowKit Go.Maps
set_option linter.unusedVariables false
set_option linter.unusedSimpArgs false
def lastV (log : List TcV) (s : Nat) : Option TcV := log.reverse.find? fun x => x.d.s == s
theorem lastV_snoc (log : List TcV) (t : TcV) (s : Nat) : lastV (log ++ [t]) s = if t.d.s = s then some t else lastV log s := by
  unfold lastV
  rw [List.reverse_append, List.reverse_singleton, List.singleton_append, List.find?_cons]
  by_cases h : t.d.s = s
  · rw [if_pos h]; simp [h]
  · rw [if_neg h]
    have : (t.d.s == s) = false := by simpa using h
    rw [this]
theorem snoc_ind {α : Type} {C : List α → Prop} (h0 : C []) (h1 : ∀ l x, C l → C (l ++ [x])) : ∀ l, C l := by
  have : ∀ n (l : List α), l.length = n → C l := by
    intro n
    induction n with
    | zero => intro l hl; rw [List.length_eq_zero_iff.1 hl]; exact h0
    | succ n ih =>
      intro l hl
      rcases List.eq_nil_or_concat l with h | ⟨a, c, h⟩
      · rw [h] at hl; simp at hl
      · rw [List.concat_eq_append] at h
        subst h
        exact h1 a c (ih a (by simpa using hl))
  exact fun l => this l.length l rfl
theorem dOf_map : ∀ l : List (Int × Value), IsMap (dOf l) := snoc_ind isMap_empty fun l x h => by
  obtain ⟨a, b⟩ := x
  rw [dOf_snoc]
  exact h.put _ _
theorem last_at (s : Nat) (zd : DataW Value) : ∀ log : List TcV, (dOf (logE log)).atKey (.int .i64 (s : Int)) zd = match lastV log s with
    | some x => .held x.v
    | none => zd := snoc_ind (by rfl) fun log t ih => by
  rw [logE_snoc, dOf_snoc, lastV_snoc]
  by_cases h : t.d.s = s
  · rw [if_pos h, h]
    exact atKey_put_same (dOf_map _) (show WideAt.IsKeyLit (Lit.int .i64 (s : Int)) from trivial) _ _
  · rw [if_neg h, ← ih]
    exact atKey_put_other (by intro e; injection e with _ e; exact h (by omega)) _ _
theorem lastV_d (s : Nat) : ∀ log : List TcV, (lastV log s).map TcV.d = lastOf (log.map TcV.d) s := snoc_ind rfl fun log t ih => by
  rw [lastV_snoc, List.map_append, List.map_cons, List.map_nil, last_snoc]
  split
  · rfl
  · exact ih
theorem lastV_mem {log : List TcV} {s : Nat} {x : TcV} (h : lastV log s = some x) : x ∈ log ∧ x.d.s = s := by
  unfold lastV at h
  exact ⟨by simpa using List.mem_of_find?_eq_some h, by simpa using List.find?_some h⟩
theorem logE_keys (log : List TcV) : (logE log).map Prod.fst = (log.map TcV.d).map fun t => (t.s : Int) := by
  unfold logE
  rw [List.map_map, List.map_map]
  rfl
theorem slots_has {log : List TcV} {x : Int} (h : x ∈ slotsOf (log.map TcV.d)) : ∃ s : Nat, x = s ∧ ∃ t, lastV log s = some t := by
  unfold slotsOf at h
  rw [sortU_mem, List.map_map] at h
  obtain ⟨t, ht, e⟩ := List.mem_map.1 h
  refine ⟨t.d.s, e.symm, ?_⟩
  cases hl : lastV log t.d.s with
  | some x => exact ⟨x, rfl⟩
  | none =>
    unfold lastV at hl
    rw [List.find?_eq_none] at hl
    exact absurd (by simp) (hl t (by simpa using ht))
theorem iAtS_get {l : List Int} {k : Nat} (hk : k < l.length) : iAt l k = l[k] := by unfold iAt; rw [List.getD_eq_getElem?_getD, List.getElem?_eq_getElem hk]; rfl
theorem insU_len (x : Int) : ∀ l : List Int, (insU x l).length ≤ l.length + 1
  | [] => by simp [insU]
  | y :: l => by
    have ih := insU_len x l
    unfold insU
    split
    · rw [List.length_cons, List.length_cons]; omega
    · split
      · simp
      · simp only [List.length_cons]; omega
theorem sortU_len : ∀ l : List Int, (sortU l).length ≤ l.length := snoc_ind (by simp [sortU]) fun l x h => by
  rw [sortU_snoc, List.length_append, List.length_singleton]
  exact Nat.le_trans (insU_len x _) (by omega)
theorem slots_len (log : List TcV) : (slotsOf (log.map TcV.d)).length ≤ log.length := by
  unfold slotsOf
  refine Nat.le_trans (sortU_len _) ?_
  simp
theorem sortsL (m : Nat) : AnyZI.SortsIn Tryz.prog Tryz.sortedA_ren Fence.wide m :=
  ⟨fun blk off cap ss W hH hblk hsz => callsIn_wide.2 (AnyM.slices_Sort_int Tryz.sortA blk off cap ss W hH hblk hsz),
   fun p cap W => callsIn_wide.2 (AnyM.slices_Sort_int_none Tryz.sortA p cap W)⟩
theorem slots_any {w0 wr : World} {P g mb n : Nat} {now : List (List UInt8)} {log : List TcV} (hp : PL w0 wr P g mb n now log) (hl : log.length ≤ 1000) :
    Calls Tryz.prog 54 #[.map (some mb)] wr (fun e w' => e = .returned (.func (.func 84) #[] #[.pointer (some ⟨wr.heap.size, 0, none⟩)]) ∧ w' = wr.alloc (.cells #[.map (some mb)] 75)) ∧
    Calls Tryz.prog 53 #[.func (.func 84) #[] #[.pointer (some ⟨wr.heap.size, 0, none⟩)]] (wr.alloc (.cells #[.map (some mb)] 75)) (fun e w' => RetIs wr (slotsOf (log.map TcV.d)) e w') := by
  have hown := hp.om
  have hszD : Maps.size (dOf (logE log)) ≤ log.length := hown.size_le
  refine ⟨(callsIn_wide (n := 5)).1 (AnyZI.keys_in Tryz.keysA Fence.wide 5 trivial rfl (some mb) wr), ?_⟩
  have hseq : SeqGives Fence.wide 2 Tryz.prog 84 #[.pointer (some ⟨wr.heap.size, 0, none⟩)] encZ (fun ss => ss.Perm (intKeys (dOf (logE log)))) (Maps.size (dOf (logE log))) (wr.alloc (.cells #[.map (some mb)] 75)) :=
    AnyZI.keys_gives (ρ := Tryz.keysA_ren) { Tryz.keysA with } Fence.wide _ trivial rfl (by omega) wr.heap.size mb log.length (dOf (logE log)) _ (by simp) (by simp) (hown.alloc _)
  have cS := AnyZI.sorted_in Tryz.sortedA Fence.wide 5 trivial trivial trivial trivial rfl (by omega) (sortsL _) (enters_of Tryz.func83 (by kernel_rfl) rfl) 84 #[.pointer (some ⟨wr.heap.size, 0, none⟩)] trivial (enters_of Tryz.func84 (by kernel_rfl) rfl) _ _ (by simp only [maxLen]; omega) (by omega) _ hseq
  change CallsIn _ _ Tryz.prog 53 _ _ _ at cS
  refine (callsIn_wide.1 cS).mono ?_
  rintro e w' ⟨v, ss, rfl, hS, hrow, hnil, hb⟩
  have hsort := keys_sorted Tryz.underlying3 keyedI hown hS
  rw [logE_keys] at hsort
  have hsort : ss.mergeSort (fun x y => decide (x ≤ y)) = slotsOf (log.map TcV.d) := hsort
  have hlen : ss.length = (slotsOf (log.map TcV.d)).length := by
    have h1 := congrArg List.length hsort
    rwa [List.length_mergeSort] at h1
  refine ⟨v, rfl, ?_, below_both ((Below.refl _ wr).alloc (Nat.le_refl _) _) hb⟩
  have h2 := ownsRow_base_a hrow (show wr.heap.size ≤ _ by simp)
  rw [hsort, hlen] at h2
  exact h2
end Go.Proofs.YtfemhhjmfckicaaGreatDoor
