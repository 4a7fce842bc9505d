/- What the acts keep of a term's form, and that a term that is made again is found. No condition. -/
import Derived.Test.YthlnoaalhojphaaDoorObTermP
import Derived.Test.YthlnoaalhojphaaDoorObPrintL
namespace Go.Proofs.YthlnoaalhojphaaDoor
open Go.RowKit
set_option linter.unusedVariables false
/-- A term has just what its kind has. -/
def Canon (x : Nd) : Prop := (x.k = 2 → x.a = 0 ∧ x.b = 0) ∧ (x.k = 3 → x.b = 0) ∧ (4 ≤ x.k → x.s = ByteArray.empty) ∧ (x.k = 1 → x.s = ByteArray.empty)
structure TC (T : List Nd) : Prop where
  n : ∀ x ∈ T, x.n ≤ T.length
  s : ∀ x ∈ T, x.s.size ≤ 40
  c : ∀ x ∈ T, Canon x
theorem TC.nil : TC [] := ⟨fun x h => (by cases h), fun x h => (by cases h), fun x h => (by cases h)⟩
theorem TC.snoc {T : List Nd} (h : TC T) {x : Nd} (hn : x.n ≤ T.length) (hs : x.s.size ≤ 40) (hc : Canon x) : TC (T ++ [x]) := by
  have key : ∀ (P : Nd → Prop), (∀ y ∈ T, P y) → P x → ∀ y ∈ T ++ [x], P y := fun P h1 h2 y hy => by
    rcases List.mem_append.1 hy with q | q
    · exact h1 y q
    · rw [List.mem_singleton] at q; rw [q]; exact h2
  exact ⟨key _ (fun y hy => by have := h.n y hy; simp; omega) (by simp; omega), key _ h.s hs, key _ h.c hc⟩
theorem putT_tc {T : List Nd} (h : TC T) {x : Nd} {ids : List Int} (hn : x.n = 0) (hs : x.s.size ≤ 40) (hc : Canon x) : TC (putT T x ids).1 := by
  unfold putT
  split
  · exact h
  · cases findT T x with
    | some j => exact h
    | none => exact h.snoc (by omega) hs hc
theorem doT_tc {T : List Nd} (h : TC T) (k a b : Int) (s : ByteArray) (hs : s.size ≤ 40) : TC (doT T k a b s).1 := by
  have pair : ∀ k', 4 ≤ k' → TC (pairT T k' a b).1 := fun k' hk' => by
    unfold pairT
    split
    · exact h
    · exact putT_tc h rfl (by show ByteArray.empty.size ≤ _; decide) ⟨fun q => by dsimp only at q; omega, fun q => by dsimp only at q; omega, fun _ => rfl, fun _ => rfl⟩
  unfold doT
  split
  · unfold atomT
    exact h.snoc (atoms_le T) (by show ByteArray.empty.size ≤ _; decide) ⟨fun q => by dsimp only at q; omega, fun q => by dsimp only at q; omega, fun _ => rfl, fun _ => rfl⟩
  split
  · exact putT_tc h rfl hs ⟨fun _ => ⟨rfl, rfl⟩, fun q => by dsimp only at q; omega, fun q => by dsimp only at q; omega, fun q => by dsimp only at q; omega⟩
  split
  · unfold kdfT
    split
    · exact h
    · exact putT_tc h rfl hs ⟨fun q => by dsimp only at q; omega, fun _ => rfl, fun q => by dsimp only at q; omega, fun q => by dsimp only at q; omega⟩
  split
  · exact pair 4 (by omega)
  · exact pair 5 (by omega)
theorem madeT_tc (L : List Ac) (hL : ∀ x ∈ L, x.s.size ≤ 40) : TC (madeT L) := by
  unfold madeT
  have : ∀ (L : List Ac) (T : List Nd), TC T → (∀ x ∈ L, x.s.size ≤ 40) → TC (L.foldl stepT T) := by
    intro L
    induction L with
    | nil => intro T h _; exact h
    | cons x L ih => intro T h hL; exact ih _ (doT_tc h _ _ _ _ (hL x (by simp))) (fun y hy => hL y (List.mem_cons_of_mem _ hy))
  exact this L [] TC.nil hL
theorem TC.brief {T : List Nd} (h : TC T) (hn : T.length < 100) : Brief T := ⟨fun x hx => Nat.lt_of_le_of_lt (h.n x hx) hn, h.s⟩
/-- The same term is found where it stands. -/
theorem find_self {T : List Nd} (hu : Uniq T) {i : Nat} {x y : Nd} (hx : T[i]? = some x) (hk : x.k ≠ 1) (hs : x.same y = true) : findT T y = some i := by
  have hi := (List.getElem?_eq_some_iff.1 hx).1
  have hxe : T[i] = x := by rw [List.getElem?_eq_getElem hi] at hx; exact Option.some.inj hx
  unfold findT
  rw [List.findIdx?_eq_some_iff_getElem]
  refine ⟨hi, by rw [hxe]; simp [hk, hs], fun j hj => ?_⟩
  have hjl : j < T.length := by omega
  intro hc
  simp only [Bool.and_eq_true, decide_eq_true_eq] at hc
  have := hu j i T[j] x hj (List.getElem?_eq_getElem hjl) hx hc.1 hk
  rw [same_trans hc.2 hs] at this
  cases this
/-- A term that is made again of its parts. -/
theorem doT_again {T : List Nd} (h : TIn T) (hc : TC T) {i : Nat} {x : Nd} (hx : T[i]? = some x) (hk : x.k ≠ 1) : doT T (x.k : Int) ((x.parts.getD 0 0 : Nat) : Int) ((x.parts.getD 1 0 : Nat) : Int) (if x.k = 2 ∨ x.k = 3 then x.s else ⟨#[]⟩) = (T, i + 1) := by
  have hm := List.mem_of_getElem? hx
  have h1 := (h.parts i x hx).1
  have hp := (h.parts i x hx).2
  have hcn := hc.c x hm
  have hi := (List.getElem?_eq_some_iff.1 hx).1
  have inn : ∀ p ∈ x.parts, outside T.length ((p : Nat) : Int) = false := fun p hq => by
    have := hp p hq
    unfold outside; simp; omega
  have fnd : ∀ y : Nd, x.same y = true → findT T y = some i := fun y hs => find_self h.uniq hx hk hs
  obtain ⟨xk, xa, xb, xs, xn⟩ := x
  unfold Canon at hcn
  dsimp only at *
  have hkk : xk = 2 ∨ xk = 3 ∨ xk = 4 ∨ xk = 5 := by omega
  rcases hkk with rfl | rfl | rfl | rfl
  · obtain ⟨rfl, rfl⟩ := hcn.1 rfl
    unfold doT
    rw [if_neg (by decide), if_pos (show ((2 : Nat) : Int) = 2 from rfl)]
    unfold putT
    rw [if_neg (by simp), if_pos (.inl rfl), fnd _ (by simp [Nd.same])]
  · obtain rfl := hcn.2.1 rfl
    have i0 := inn xa (by simp [Nd.parts])
    unfold doT
    rw [if_neg (by decide), if_neg (by decide), if_pos (show ((3 : Nat) : Int) = 3 from rfl)]
    show kdfT T ((xa : Nat) : Int) _ = _
    unfold kdfT putT
    rw [i0, if_neg (by decide), if_neg (by simp [i0]), if_pos (.inr rfl), fnd _ (by simp [Nd.same])]
  · obtain rfl := hcn.2.2.1 (by omega)
    have i0 := inn xa (by simp [Nd.parts])
    have i1 := inn xb (by simp [Nd.parts])
    unfold doT
    rw [if_neg (by decide), if_neg (by decide), if_neg (by decide), if_pos (show ((4 : Nat) : Int) = 4 from rfl)]
    show pairT T 4 ((xa : Nat) : Int) ((xb : Nat) : Int) = _
    unfold pairT putT
    rw [i0, i1, if_neg (by decide), if_neg (by simp [i0, i1]), fnd _ (by simp [Nd.same])]
  · obtain rfl := hcn.2.2.1 (by omega)
    have i0 := inn xa (by simp [Nd.parts])
    have i1 := inn xb (by simp [Nd.parts])
    unfold doT
    rw [if_neg (by decide), if_neg (by decide), if_neg (by decide), if_neg (by decide)]
    show pairT T 5 ((xa : Nat) : Int) ((xb : Nat) : Int) = _
    unfold pairT putT
    rw [i0, i1, if_neg (by decide), if_neg (by simp [i0, i1]), fnd _ (by simp [Nd.same])]
/-- Sizes are above zero. -/
theorem sizeOf'_pos (S ps : List Nat) : 1 ≤ sizeOf' S ps := by
  unfold sizeOf'
  have : ∀ (ps : List Nat) (a : Nat), 1 ≤ a → 1 ≤ ps.foldl (fun n p => min (n + S.getD (p - 1) 0) great) a := by
    intro ps
    induction ps with
    | nil => intro a h; exact h
    | cons p ps ih => intro a h; refine ih (min (a + S.getD (p - 1) 0) great) ?_; unfold great; omega
  exact this ps 1 (Nat.le_refl _)
theorem sizeT_at {T : List Nd} (hT : Parted T) {i : Nat} {x : Nd} (hx : T[i]? = some x) : sizeT T ((i + 1 : Nat) : Int) = sizeOf' (sizesL T) x.parts := by
  have hi : i < T.length := (List.getElem?_eq_some_iff.1 hx).1
  have ho : outside T.length ((i + 1 : Nat) : Int) = false := by unfold outside; simp; omega
  have e : (((i + 1 : Nat) : Int)).toNat - 1 = i := by omega
  unfold sizeT
  rw [ho, e, if_neg (by decide), size_at hT hx]
theorem sizeT_zero {T : List Nd} (hT : Parted T) (id : Int) : sizeT T id = 0 ↔ outside T.length id = true := by
  constructor
  · intro h
    cases ho : outside T.length id with
    | true => rfl
    | false =>
      have hin : 1 ≤ id ∧ id ≤ T.length := by unfold outside at ho; simp at ho; omega
      obtain ⟨i, hi⟩ : ∃ i : Nat, id = ((i + 1 : Nat) : Int) := ⟨(id - 1).toNat, by omega⟩
      subst hi
      have hit : i < T.length := by omega
      have := sizeT_at hT (List.getElem?_eq_getElem hit)
      have p := sizeOf'_pos (sizesL T) T[i].parts
      omega
  · intro h; unfold sizeT; rw [h]; rfl
theorem printT_ne {T : List Nd} (hT : Parted T) {i : Nat} (hi : i < T.length) : printT T (i + 1) ≠ [] := by
  rw [printT_at hT (List.getElem?_eq_getElem hi)]
  repeat' split
  all_goals simp [headS]
end Go.Proofs.YthlnoaalhojphaaDoor
