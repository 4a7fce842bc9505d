import Derived.Test.YtbmijjodpdbbmaaObDelW
import Derived.Laws.CopyRow
namespace Go.Proofs.Ytbmijjodpdbbmaa
open Go.RowKit Go.Maps
set_option linter.unusedVariables false

/-! ### 'clear(s[i:])' of writes in a block of the call's own -/
theorem clear_wrs (g o q c ty : Nat) (cs : List Value) (w : World) (h : Blk w g 46 cs) (hq : o + q * 2 ≤ cs.length) :
    ∃ cs', (Builtin.clear_ #[22] ty #[.slice (some ⟨g, o, none⟩) q c]).run Try.prog w = .ok (.tuple #[]) (w.setRow g cs'.toArray) ∧ cs'.length = cs.length ∧ (∀ i, i < o → cs'[i]? = cs[i]?) ∧ Blk (w.setRow g cs'.toArray) g 46 cs' := by
  have hz : ∀ w, (zeroValue 46).run Try.prog w = .ok (.agg #[.int .i64 0, .slice none 0 0]) w := by intro w; kernel_rfl
  obtain ⟨zs, hzs⟩ : ∃ zs, zs = (Builtin.zeroCells (Value.agg #[.int .i64 0, .slice none 0 0]).cells q).toList := ⟨_, rfl⟩
  have hl : zs.length = q * 2 := by rw [hzs]; simp [Builtin.zeroCells, Value.cells]
  have h1 : ∀ v ∈ zs, v.oneCell' = true := by
    intro v hv
    rw [hzs] at hv
    simp only [Builtin.zeroCells, Array.toList_map, List.mem_map] at hv
    obtain ⟨i, _, rfl⟩ := hv
    have : (Value.agg #[.int .i64 0, .slice none 0 0]).cells = #[.int .i64 0, .slice none 0 0] := rfl
    rw [this]
    have h2 : i % 2 = 0 ∨ i % 2 = 1 := by omega
    show Value.oneCell' (#[Value.int .i64 0, .slice none 0 0][i % 2]!) = true
    rcases h2 with h2 | h2 <;> rw [h2] <;> rfl
  have hs := run_storeCells_at (P := Try.prog) g o 46 zs 0 cs.toArray w h (by simp [hl]; omega) h1
  simp only [Nat.add_zero] at hs
  rcases Nat.eq_zero_or_pos q with hq0 | hq0
  · subst hq0
    refine ⟨cs, ?_, rfl, fun _ _ => rfl, ?_⟩
    · rw [setRow_self w g cs.toArray _ (0, 0) h]
      simp [Builtin.clear_, run_underlying Try.underlying22]
    · rw [setRow_self w g cs.toArray _ (0, 0) h]; exact h
  · refine ⟨cs.take o ++ zs ++ cs.drop (o + zs.length), ?_, ?_, fun i hi => ?_, ?_⟩
    · obtain ⟨r, rfl⟩ : ∃ r, q = r + 1 := ⟨q - 1, by omega⟩
      simp [Builtin.clear_, run_underlying Try.underlying22, hz, ← hzs, hs]
    · simp [hl]; omega
    · rw [List.append_assoc, List.getElem?_append_left (by simp; omega), List.getElem?_take_of_lt hi]
    · exact setRow_heap w g cs.toArray _ _ _ h

def keepW (H : List Int) (L : List Wr) : List Wr := L.filter fun x => !hid1 H x
theorem keepW_snoc (H : List Int) (L : List Wr) (j : Nat) (x : Wr) (h : L[j]? = some x) : keepW H (L.take (j + 1)) = if hid1 H x then keepW H (L.take j) else keepW H (L.take j) ++ [x] := by
  have hk : j < L.length := (List.getElem?_eq_some_iff.1 h).1
  rw [List.getElem?_eq_getElem hk] at h
  injection h with h
  rw [List.take_succ_eq_append_getElem hk, h]
  unfold keepW
  rw [List.filter_append]
  cases hp : hid1 H x <;> simp [hp]
theorem keepW_all (H : List Int) (L : List Wr) (h : L.all (fun x => !hid1 H x) = true) : keepW H L = L := by
  unfold keepW
  rw [List.filter_eq_self]
  exact fun x hx => List.all_eq_true.1 h x hx
theorem cells_len (L : List Wr) : (L.flatMap Wr.cells).length = L.length * 2 := flat_length Wr.cells_len L

/-- What stands in the row while it is gone through. -/
def Gone (H : List Int) (L : List Wr) (i j : Nat) (cs : List Value) : Prop :=
  (keepW H (L.take j)).length = i ∧ (∀ t, t < i * 2 → cs[t]? = ((keepW H (L.take j)).flatMap Wr.cells)[t]?) ∧ ∀ t, j * 2 ≤ t → t < L.length * 2 → cs[t]? = (L.flatMap Wr.cells)[t]?
theorem Gone.skip {H : List Int} {L : List Wr} {i j : Nat} {cs : List Value} {x : Wr} (h : Gone H L i j cs) (hx : L[j]? = some x) (he : hid1 H x = true) : Gone H L i (j + 1) cs := by
  unfold Gone
  rw [keepW_snoc H L j x hx, if_pos he]
  exact ⟨h.1, h.2.1, fun t h1 h2 => h.2.2 t (by omega) h2⟩
theorem Gone.keep {H : List Int} {L : List Wr} {i j : Nat} {cs : List Value} {x : Wr} (h : Gone H L i j cs) (hx : L[j]? = some x) (he : hid1 H x = false) (hij : i ≤ j) (hl : i * 2 + 1 < cs.length) : Gone H L (i + 1) (j + 1) ((cs.set (i * 2) (.int .i64 x.p)).set (i * 2 + 1) x.r.v) := by
  unfold Gone
  rw [keepW_snoc H L j x hx, if_neg (by rw [he]; decide)]
  have hc := cells_len (keepW H (L.take j))
  rw [h.1] at hc
  refine ⟨by rw [List.length_append, h.1]; rfl, fun t ht => ?_, fun t h1 h2 => ?_⟩
  · rw [List.flatMap_append]
    rcases Nat.lt_or_ge t (i * 2) with h3 | h3
    · rw [List.getElem?_set_ne (by omega), List.getElem?_set_ne (by omega), h.2.1 t h3, List.getElem?_append_left (by omega)]
    · rw [List.getElem?_append_right (by omega), hc]
      have h4 : t = i * 2 ∨ t = i * 2 + 1 := by omega
      rcases h4 with rfl | rfl
      · rw [List.getElem?_set_ne (by omega), List.getElem?_set_self (by omega), Nat.sub_self]
        rfl
      · rw [List.getElem?_set_self (by rw [List.length_set]; omega), show i * 2 + 1 - i * 2 = 1 by omega]
        rfl
  · rw [List.getElem?_set_ne (by omega), List.getElem?_set_ne (by omega)]
    exact h.2.2 t (by omega) h2
end Go.Proofs.Ytbmijjodpdbbmaa
