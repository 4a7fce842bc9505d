/- Own texts of this claim, one behind the other. No condition. -/
import Derived.Test.YtfemhhjmfckicaaGreatDoorObPkV
import Derived.Test.YtfemhhjmfckicaaGreatDoorObPkZ

/- Plans of changes, in plain Lean. No condition. -/
namespace Go.Proofs.YtfemhhjmfckicaaGreatDoor
open Go.RowKit
set_option linter.unusedVariables false
set_option linter.unusedSimpArgs false
/-- A change of a name. -/
structure ChD where
  n : List UInt8
  v : List UInt8
  g : Bool
/-- A change of a slot. -/
structure TcD where
  s : Nat
  h : List UInt8
  v : List UInt8
  g : Bool
def mostV : Nat := 400
def slotOf (now : List (List UInt8)) (c : ChD) : Int := if findH now c.n < 0 then freeH now else findH now c.n
/-- Why a change is not done; 0: it is. -/
def faultC (M : Nat) (now : List (List UInt8)) (c : ChD) : Nat :=
  if rightL c.n = false ∨ (c.g = false ∧ M < c.v.length) then 2 else if findH now c.n < 0 ∧ c.g = true then 7 else if slotOf now c < 0 then 5 else 0
def headOf (c : ChD) : List UInt8 := if c.g = true then [] else c.n
def tcOf (slot : Nat) (c : ChD) : TcD := if c.g = true then ⟨slot, [], [], true⟩ else ⟨slot, c.n, c.v, false⟩
def doC (st : List (List UInt8) × List TcD) (c : ChD) : List (List UInt8) × List TcD := (st.1.set (slotOf st.1 c).toNat (headOf c), st.2 ++ [tcOf (slotOf st.1 c).toNat c])
/-- The first fault, and what stood then. -/
def planC (M : Nat) (st : List (List UInt8) × List TcD) : List ChD → (List (List UInt8) × List TcD) × Nat
  | [] => (st, 0)
  | c :: l => if faultC M st.1 c = 0 then planC M (doC st c) l else (st, faultC M st.1 c)
def lastOf (log : List TcD) (s : Nat) : Option TcD := log.reverse.find? fun t => t.s == s
def slotsOf (log : List TcD) : List Int := sortU (log.map fun t => (t.s : Int))
def outOf (log : List TcD) : List TcD := (slotsOf log).filterMap fun s => lastOf log s.toNat
/-! ### each name once -/
def Once (now : List (List UInt8)) : Prop := ∀ i j (hi : i < now.length) (hj : j < now.length), now[i] = now[j] → now[i] ≠ [] → i = j
theorem find_is {now : List (List UInt8)} {s : List UInt8} (h : 0 ≤ findH now s) : ∃ i : Nat, findH now s = i ∧ ∃ hi : i < now.length, now[i] = s ∧ s ≠ [] := by
  unfold findH at *
  by_cases h0 : s = []
  · rw [if_pos h0] at h; omega
  · rw [if_neg h0] at h ⊢
    cases hf : now.findIdx? (· == s) with
    | none => rw [hf] at h; simp at h
    | some i =>
      rw [List.findIdx?_eq_some_iff_getElem] at hf
      obtain ⟨hi, h1, _⟩ := hf
      exact ⟨i, rfl, hi, by simpa using h1, h0⟩
theorem free_is {now : List (List UInt8)} (h : 0 ≤ freeH now) : ∃ i : Nat, freeH now = i ∧ ∃ hi : i < now.length, now[i] = [] := by
  unfold freeH at *
  cases hf : now.findIdx? (· == []) with
  | none => rw [hf] at h; simp at h
  | some i =>
    rw [List.findIdx?_eq_some_iff_getElem] at hf
    obtain ⟨hi, h1, _⟩ := hf
    exact ⟨i, rfl, hi, by simpa using h1⟩
theorem find_neg {now : List (List UInt8)} {s : List UInt8} : findH now s < 0 ↔ ¬ (s ∈ now ∧ s ≠ []) := by
  constructor
  · rintro h ⟨h1, h2⟩
    have := find_some h1 h2
    omega
  · intro h
    rw [find_none h]; omega
theorem right_ne {s : List UInt8} (h : rightL s = true) : s ≠ [] := by rintro rfl; revert h; decide
/-- What a change that is done has for a slot. -/
theorem slot_is {M : Nat} {now : List (List UInt8)} {c : ChD} (h : faultC M now c = 0) : rightL c.n = true ∧ ∃ i : Nat, slotOf now c = i ∧ ∃ hi : i < now.length, (now[i] = c.n ∨ (now[i] = [] ∧ c.n ∉ now ∧ c.g = false)) := by
  unfold faultC at h
  split at h
  · omega
  next h1 =>
  have hr : rightL c.n = true := by
    cases hq : rightL c.n with
    | true => rfl
    | false => exact absurd (.inl hq) h1
  refine ⟨hr, ?_⟩
  split at h
  · omega
  next h2 =>
  split at h
  · omega
  next h3 =>
  unfold slotOf at *
  by_cases hf : findH now c.n < 0
  · rw [if_pos hf] at h3 ⊢
    obtain ⟨i, hi, hl, he⟩ := free_is (by omega : 0 ≤ freeH now)
    refine ⟨i, hi, hl, .inr ⟨he, fun hm => ?_, ?_⟩⟩
    · exact find_neg.1 hf ⟨hm, right_ne hr⟩
    · cases hg : c.g with
      | false => rfl
      | true => exact absurd ⟨hf, hg⟩ h2
  · rw [if_neg hf] at h3 ⊢
    obtain ⟨i, hi, hl, he, _⟩ := find_is (by omega : 0 ≤ findH now c.n)
    exact ⟨i, hi, hl, .inl he⟩
theorem once_set {now : List (List UInt8)} {i : Nat} (hi : i < now.length) (h : Once now) {x : List UInt8} (hx : x = [] ∨ now[i] = x ∨ x ∉ now) : Once (now.set i x) := by
  intro a b ha hb he hn
  rw [List.length_set] at ha hb
  rw [List.getElem_set, List.getElem_set] at he
  rw [List.getElem_set] at hn
  by_cases h1 : i = a <;> by_cases h2 : i = b
  · omega
  · rw [if_pos h1, if_neg h2] at he
    rw [if_pos h1] at hn
    rcases hx with hx | hx | hx
    · exact absurd hx hn
    · have := h i b hi hb (hx.trans he) (by rw [hx]; exact hn)
      omega
    · exact absurd (by rw [he]; exact List.getElem_mem hb) hx
  · rw [if_neg h1, if_pos h2] at he
    rw [if_neg h1] at hn
    rcases hx with hx | hx | hx
    · exact absurd (he.trans hx) hn
    · have := h a i ha hi (he.trans hx.symm) hn
      omega
    · exact absurd (by rw [← he]; exact List.getElem_mem ha) hx
  · rw [if_neg h1, if_neg h2] at he
    rw [if_neg h1] at hn
    exact h a b ha hb he hn
theorem once_do {M : Nat} {st : List (List UInt8) × List TcD} {c : ChD} (h : Once st.1) (hf : faultC M st.1 c = 0) : Once (doC st c).1 := by
  obtain ⟨hr, i, he, hi, hc⟩ := slot_is hf
  show Once (st.1.set (slotOf st.1 c).toNat (headOf c))
  rw [he]
  refine once_set hi h ?_
  unfold headOf
  by_cases hg : c.g = true
  · rw [if_pos hg]; exact .inl rfl
  · rw [if_neg hg]
    rcases hc with h1 | h1
    · exact .inr (.inl h1)
    · exact .inr (.inr h1.2.1)
/-- Which names are there behind a change. -/
theorem mem_do {M : Nat} {st : List (List UInt8) × List TcD} {c : ChD} (h : Once st.1) (hf : faultC M st.1 c = 0) (x : List UInt8) (hx : x ≠ []) : x ∈ (doC st c).1 ↔ (if x = c.n then c.g = false else x ∈ st.1) := by
  obtain ⟨hr, i, he, hi, hc⟩ := slot_is hf
  show x ∈ (st.1.set (slotOf st.1 c).toNat (headOf c)) ↔ _
  rw [he]
  show x ∈ (st.1.set i (headOf c)) ↔ _
  rw [List.mem_iff_getElem]
  by_cases hxc : x = c.n
  · rw [if_pos hxc]
    constructor
    · rintro ⟨j, hj, hj2⟩
      rw [List.length_set] at hj
      rw [List.getElem_set] at hj2
      by_cases hij : i = j
      · rw [if_pos hij] at hj2
        unfold headOf at hj2
        by_cases hg : c.g = true
        · rw [if_pos hg] at hj2; exact absurd hj2.symm hx
        · simpa using hg
      · rw [if_neg hij] at hj2
        rcases hc with h1 | h1
        · exact absurd (h i j hi hj (by rw [h1, hj2, hxc]) (by rw [h1, ← hxc]; exact hx)) hij
        · exact absurd (by rw [← hxc, ← hj2]; exact List.getElem_mem hj) h1.2.1
    · intro hg
      refine ⟨i, by rw [List.length_set]; exact hi, ?_⟩
      rw [List.getElem_set, if_pos rfl]
      unfold headOf
      rw [if_neg (by rw [hg]; decide)]
      exact hxc.symm
  · rw [if_neg hxc]
    constructor
    · rintro ⟨j, hj, hj2⟩
      rw [List.length_set] at hj
      rw [List.getElem_set] at hj2
      by_cases hij : i = j
      · rw [if_pos hij] at hj2
        unfold headOf at hj2
        split at hj2
        · exact absurd hj2.symm hx
        · exact absurd hj2.symm hxc
      · rw [if_neg hij] at hj2
        rw [← hj2]; exact List.getElem_mem hj
    · intro hm
      obtain ⟨j, hj, hj2⟩ := List.mem_iff_getElem.1 hm
      have hij : i ≠ j := by
        rintro rfl
        rcases hc with h1 | h1
        · exact hxc (hj2.symm.trans h1)
        · exact hx (hj2.symm.trans h1.1)
      refine ⟨j, by rw [List.length_set]; exact hj, ?_⟩
      rw [List.getElem_set, if_neg hij]
      exact hj2
/-! ### what is told of a plan -/
/-- The slots as the log has them. -/
def Logged (hs : List (List UInt8)) (st : List (List UInt8) × List TcD) : Prop :=
  st.1.length = hs.length ∧ (∀ t ∈ st.2, t.s < hs.length) ∧ ∀ s (h : s < st.1.length) (h' : s < hs.length), st.1[s] = match lastOf st.2 s with
    | some t => t.h
    | none => hs[s]
theorem logged_nil (hs : List (List UInt8)) : Logged hs (hs, []) := ⟨rfl, (fun t h => by cases h), fun s h h' => rfl⟩
theorem last_snoc (log : List TcD) (t : TcD) (s : Nat) : lastOf (log ++ [t]) s = if t.s = s then some t else lastOf log s := by
  unfold lastOf
  rw [List.reverse_append, List.reverse_singleton, List.singleton_append, List.find?_cons]
  by_cases h : t.s = s
  · rw [if_pos h]; simp [h]
  · rw [if_neg h]
    have : (t.s == s) = false := by simpa using h
    rw [this]
theorem tc_s (i : Nat) (c : ChD) : (tcOf i c).s = i ∧ (tcOf i c).h = headOf c := by unfold tcOf headOf; split <;> exact ⟨rfl, rfl⟩
theorem logged_do {M : Nat} {hs : List (List UInt8)} {st : List (List UInt8) × List TcD} {c : ChD} (h : Logged hs st) (hf : faultC M st.1 c = 0) : Logged hs (doC st c) := by
  obtain ⟨hr, i, he, hi, _⟩ := slot_is hf
  obtain ⟨h1, h2, h3⟩ := h
  have e : doC st c = (st.1.set i (headOf c), st.2 ++ [tcOf i c]) := by unfold doC; rw [he]; rfl
  rw [e]
  refine ⟨by rw [List.length_set]; exact h1, fun t ht => ?_, fun s hs1 hs2 => ?_⟩
  · rcases List.mem_append.1 ht with ht | ht
    · exact h2 t ht
    · simp only [List.mem_singleton] at ht
      subst ht
      rw [(tc_s i c).1]; omega
  · rw [List.length_set] at hs1
    show (st.1.set i (headOf c))[s] = match lastOf (st.2 ++ [tcOf i c]) s with | some t => t.h | none => hs[s]
    rw [last_snoc, (tc_s i c).1, List.getElem_set]
    by_cases his : i = s
    · rw [if_pos his, if_pos his]
      exact (tc_s i c).2.symm
    · rw [if_neg his, if_neg his]
      exact h3 s hs1 hs2
/-- What holds behind a plan that is done. -/
structure PlanOk (hs : List (List UInt8)) (l : List ChD) (st : List (List UInt8) × List TcD) : Prop where
  log : Logged hs st
  once : Once hs → Once st.1
  last : Once hs → ∀ i (hi : i < l.length), (∀ k (hk : k < l.length), i < k → l[k].n ≠ l[i].n) → rightL l[i].n = true ∧ (l[i].n ∈ st.1 ↔ l[i].g = false)
theorem plan_cons (M : Nat) (st : List (List UInt8) × List TcD) (c : ChD) (l : List ChD) : planC M st (c :: l) = if faultC M st.1 c = 0 then planC M (doC st c) l else (st, faultC M st.1 c) := by rw [planC]
theorem plan_snoc {M : Nat} : ∀ (l : List ChD) (c : ChD) (st : List (List UInt8) × List TcD), planC M st (l ++ [c]) = if (planC M st l).2 = 0 then planC M (planC M st l).1 [c] else planC M st l
  | [], c, st => by rw [List.nil_append, show planC M st [] = (st, 0) by rw [planC], if_pos rfl]
  | a :: l, c, st => by
    rw [List.cons_append, plan_cons, plan_cons]
    by_cases h : faultC M st.1 a = 0
    · rw [if_pos h, if_pos h]
      exact plan_snoc l c (doC st a)
    · rw [if_neg h, if_neg h, if_neg h]
/-- As far as the first k changes. -/
theorem plan_take {M : Nat} {hs : List (List UInt8)} {l : List ChD} {k : Nat} (hk : k < l.length) (h : (planC M (hs, []) (l.take k)).2 = 0) : planC M (hs, []) (l.take (k + 1)) = planC M (planC M (hs, []) (l.take k)).1 [l[k]] := by
  rw [List.take_succ_eq_append_getElem hk, plan_snoc, if_pos h]
theorem plan_bad {M : Nat} {st : List (List UInt8) × List TcD} : ∀ (a b : List ChD), (planC M st a).2 ≠ 0 → planC M st (a ++ b) = planC M st a
  | [], b, h => absurd (by rw [planC]) h
  | x :: a, b, h => by
    rw [List.cons_append, plan_cons, plan_cons]
    rw [plan_cons] at h
    by_cases hf : faultC M st.1 x = 0
    · rw [if_pos hf] at h ⊢
      rw [if_pos hf]
      exact plan_bad a b h
    · rw [if_neg hf, if_neg hf]
theorem planOk_nil (hs : List (List UInt8)) : PlanOk hs [] (hs, []) := ⟨logged_nil hs, id, fun _ i hi => by simp at hi⟩
theorem planOk_do {M : Nat} {hs : List (List UInt8)} {l : List ChD} {st : List (List UInt8) × List TcD} {c : ChD} (h : PlanOk hs l st) (hf : faultC M st.1 c = 0) : PlanOk hs (l ++ [c]) (doC st c) := by
  refine ⟨logged_do h.log hf, fun ho => once_do (h.once ho) hf, fun ho i hi hlast => ?_⟩
  rw [List.length_append, List.length_singleton] at hi
  obtain ⟨hr, _⟩ := slot_is hf
  by_cases hil : i < l.length
  · have e : (l ++ [c])[i]'(by rw [List.length_append]; omega) = l[i] := List.getElem_append_left hil
    have hne : l[i].n ≠ c.n := by
      have h1 := hlast l.length (by rw [List.length_append, List.length_singleton]; omega) hil
      rw [List.getElem_append_right (Nat.le_refl _), e] at h1
      simpa using fun q => h1 (by simpa using q.symm)
    have h2 := h.last ho i hil (fun k hk hik => by
      have h1 := hlast k (by rw [List.length_append, List.length_singleton]; omega) hik
      rw [List.getElem_append_left hk, e] at h1
      exact h1)
    rw [e]
    refine ⟨h2.1, ?_⟩
    rw [mem_do (h.once ho) hf l[i].n (right_ne h2.1), if_neg hne]
    exact h2.2
  · have hie : i = l.length := by omega
    subst hie
    have e : (l ++ [c])[l.length]'(by rw [List.length_append, List.length_singleton]; omega) = c := by rw [List.getElem_append_right (Nat.le_refl _)]; simp
    rw [e]
    refine ⟨hr, ?_⟩
    rw [mem_do (h.once ho) hf c.n (right_ne hr), if_pos rfl]
theorem plan_ok {M : Nat} {hs : List (List UInt8)} : ∀ (n : Nat) (l : List ChD), l.length = n → (planC M (hs, []) l).2 = 0 → PlanOk hs l (planC M (hs, []) l).1
  | 0, l, hl, _ => by
    obtain rfl : l = [] := List.length_eq_zero_iff.1 hl
    rw [show planC M (hs, []) [] = ((hs, []), 0) by rw [planC]]
    exact ⟨logged_nil hs, id, fun _ i hi => by simp at hi⟩
  | n + 1, l, hl, h => by
    obtain ⟨a, c, rfl⟩ : ∃ a c, l = a ++ [c] := by
      rcases List.eq_nil_or_concat l with h | ⟨a, c, h⟩
      · rw [h] at hl; simp at hl
      · exact ⟨a, c, by simpa using h⟩
    rw [plan_snoc] at h ⊢
    by_cases h0 : (planC M (hs, []) a).2 = 0
    · rw [if_pos h0] at h ⊢
      rw [plan_cons] at h ⊢
      by_cases hf : faultC M (planC M (hs, []) a).1.1 c = 0
      · rw [if_pos hf]
        rw [show planC M (doC (planC M (hs, []) a).1 c) [] = (doC (planC M (hs, []) a).1 c, 0) by rw [planC]]
        exact planOk_do (plan_ok n a (by simpa using hl) h0) hf
      · rw [if_neg hf] at h
        exact absurd h hf
    · rw [if_neg h0] at h
      exact absurd h h0
/-- The changes told, put over the heads, give what the plan has. -/
def overH (hs : List (List UInt8)) (p : List TcD) : List (List UInt8) := p.foldl (fun n t => n.set t.s t.h) hs
theorem over_len (p : List TcD) : ∀ hs : List (List UInt8), (overH hs p).length = hs.length := by
  induction p with
  | nil => intro hs; rfl
  | cons t p ih => intro hs; show (overH (hs.set t.s t.h) p).length = _; rw [ih, List.length_set]
theorem last_is {log : List TcD} {s : Nat} {t : TcD} (h : lastOf log s = some t) : t.s = s ∧ t ∈ log := by
  unfold lastOf at h
  have h1 := List.find?_some h
  have h2 := List.mem_of_find?_eq_some h
  exact ⟨by simpa using h1, by simpa using h2⟩
theorem last_of {log : List TcD} {s : Nat} (h : ∃ t ∈ log, t.s = s) : ∃ t, lastOf log s = some t := by
  cases hl : lastOf log s with
  | some t => exact ⟨t, rfl⟩
  | none =>
    unfold lastOf at hl
    rw [List.find?_eq_none] at hl
    obtain ⟨t, ht, hs⟩ := h
    exact absurd (by simpa using hs) (hl t (by simpa using ht))
theorem over_at : ∀ (p : List TcD) (hs : List (List UInt8)) (s : Nat) (h : s < (overH hs p).length) (h' : s < hs.length), p.Pairwise (fun a b => a.s ≠ b.s) → (overH hs p)[s] = match p.find? (fun t => t.s == s) with
    | some t => t.h
    | none => hs[s]
  | [], hs, s, h, h', _ => rfl
  | t :: p, hs, s, h, h', hp => by
    rw [List.pairwise_cons] at hp
    show (overH (hs.set t.s t.h) p)[s] = _
    have hl : s < (hs.set t.s t.h).length := by rw [List.length_set]; exact h'
    rw [over_at p (hs.set t.s t.h) s h hl hp.2, List.find?_cons]
    by_cases hts : t.s = s
    · have hnone : p.find? (fun t => t.s == s) = none := by
        rw [List.find?_eq_none]
        intro x hx
        have := hp.1 x hx
        rw [← hts]
        simpa using this.symm
      rw [hnone]
      have : (t.s == s) = true := by simpa using hts
      rw [this]
      show (hs.set t.s t.h)[s] = t.h
      rw [List.getElem_set, if_pos hts]
    · have : (t.s == s) = false := by simpa using hts
      rw [this]
      cases p.find? (fun t => t.s == s) with
      | some x => rfl
      | none =>
        show (hs.set t.s t.h)[s] = hs[s]
        rw [List.getElem_set, if_neg hts]
/-- What is told, in order, and each slot once. -/
theorem out_mem {log : List TcD} {t : TcD} (h : t ∈ outOf log) : lastOf log t.s = some t := by
  unfold outOf at h
  rw [List.mem_filterMap] at h
  obtain ⟨s, hs, hl⟩ := h
  have := (last_is hl).1
  rw [this]; exact hl
theorem out_up (log : List TcD) : (outOf log).Pairwise fun a b => a.s < b.s := by
  unfold outOf
  have hup := sortU_up (log.map fun t => (t.s : Int))
  have hmem : ∀ x ∈ slotsOf log, ∃ t ∈ log, (t.s : Int) = x := fun x hx => by
    unfold slotsOf at hx
    rw [sortU_mem] at hx
    obtain ⟨t, ht, he⟩ := List.mem_map.1 hx
    exact ⟨t, ht, he⟩
  unfold slotsOf at hmem ⊢
  generalize sortU (log.map fun t => (t.s : Int)) = S at *
  induction S with
  | nil => exact List.Pairwise.nil
  | cons s S ih =>
    rw [List.pairwise_cons] at hup
    have ih := ih hup.2 (fun x hx => hmem x (List.mem_cons_of_mem _ hx))
    obtain ⟨t0, h0, he⟩ := hmem s List.mem_cons_self
    obtain ⟨t, ht⟩ := last_of (log := log) (s := s.toNat) ⟨t0, h0, by omega⟩
    rw [List.filterMap_cons, ht]
    show List.Pairwise _ (t :: List.filterMap _ S)
    rw [List.pairwise_cons]
    refine ⟨fun y hy => ?_, ih⟩
    rw [List.mem_filterMap] at hy
    obtain ⟨s', hs', hl'⟩ := hy
    have h1 := hup.1 s' hs'
    have h2 := (last_is ht).1
    have h3 := (last_is hl').1
    omega
theorem out_over {hs : List (List UInt8)} {st : List (List UInt8) × List TcD} (h : Logged hs st) : overH hs (outOf st.2) = st.1 := by
  obtain ⟨h1, h2, h3⟩ := h
  apply List.ext_getElem
  · rw [over_len, h1]
  · intro s hs1 hs2
    have hsl : s < hs.length := by rw [over_len] at hs1; exact hs1
    rw [over_at _ hs s hs1 hsl ((out_up st.2).imp fun h => by omega), h3 s hs2 hsl]
    cases hl : lastOf st.2 s with
    | some t =>
      have hts := last_is hl
      have hin : t ∈ outOf st.2 := by
        unfold outOf
        rw [List.mem_filterMap]
        refine ⟨(s : Int), ?_, hl⟩
        unfold slotsOf
        rw [sortU_mem]
        exact List.mem_map.2 ⟨t, hts.2, by rw [hts.1]⟩
      have hf : ∃ x, (outOf st.2).find? (fun t => t.s == s) = some x := by
        cases hf : (outOf st.2).find? (fun t => t.s == s) with
        | some x => exact ⟨x, rfl⟩
        | none =>
          rw [List.find?_eq_none] at hf
          exact absurd (by simpa using hts.1) (hf t hin)
      obtain ⟨x, hx⟩ := hf
      rw [hx]
      have hxm := List.mem_of_find?_eq_some hx
      have hxs : x.s = s := by simpa using List.find?_some hx
      have := out_mem hxm
      rw [hxs, hl] at this
      injection this with this
      rw [this]
    | none =>
      have hf : (outOf st.2).find? (fun t => t.s == s) = none := by
        rw [List.find?_eq_none]
        intro x hx hxs
        have hxs : x.s = s := by simpa using hxs
        have := out_mem hx
        rw [hxs, hl] at this
        cases this
      rw [hf]
theorem out_in {hs : List (List UInt8)} {st : List (List UInt8) × List TcD} (h : Logged hs st) : ∀ t ∈ outOf st.2, t.s < hs.length := fun t ht => h.2.1 t (last_is (out_mem ht)).2
end Go.Proofs.YtfemhhjmfckicaaGreatDoor
