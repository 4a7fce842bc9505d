import Derived.Test.YthlnoaalhojphaaGreatDoorObChB
namespace Go.Proofs.YthlnoaalhojphaaGreatDoor
open Go.RowKit
set_option linter.unusedVariables false

theorem cellsK_drop : ∀ (L : List Wr) (k : Nat), (L.drop k).flatMap Wr.cells = (L.flatMap Wr.cells).drop (k * 2)
  | [], k => by simp
  | x :: L, 0 => by simp
  | x :: L, k + 1 => by
    rw [List.drop_succ_cons, List.flatMap_cons, cellsK_drop L k, Nat.add_mul]
    simp [Wr.cells]
theorem Wrs.fromK {w : World} {A A' : Option Addr} {n c : Nat} {L : List Wr} (h : Wrs w A n c L) {k : Nat} (hk : k ≤ n) (hA : k < n → ∀ b o, A = some ⟨b, o, none⟩ → A' = some ⟨b, o + k * 2, none⟩) : Wrs w A' (n - k) (n - k) (L.drop k) := by
  obtain ⟨h1, ⟨s1, s2, s3, s4⟩, h3⟩ := h
  refine ⟨by rw [List.length_drop]; omega, ⟨?_, Nat.le_refl _, by omega, fun hp => ?_⟩, fun x hx => h3 x (List.mem_of_mem_drop hx)⟩
  · rw [cellsK_drop, List.length_drop, s1, Nat.sub_mul]
  · obtain ⟨b, o, e, hc⟩ := s4 (by omega)
    refine ⟨b, o + k * 2, hA (by omega) b o e, fun j u hu => ?_⟩
    rw [cellsK_drop, List.getElem?_drop] at hu
    rw [Nat.add_assoc]
    exact hc _ u hu
theorem run_from3 {P : Program} {t e : TypeId} {z : Value} {size bytes : Nat} (ht : ElemT P t e z size bytes) (A : Option Addr) (n c k : Nat) (hk : k ≤ n) (hc : n ≤ c) :
    ∃ A', (k < n → ∀ b o, A = some ⟨b, o, none⟩ → A' = some ⟨b, o + k * size, none⟩) ∧ ∀ w : World, (Instr.slice t (.slice A n c) (some (.int .i64 (k : Int))) (some (.int .i64 (n : Int))) (some (.int .i64 (n : Int)))).run P w = .ok (.slice A' (n - k) (n - k)) w := by
  obtain ⟨i, hi, hz, hsz, hby⟩ := info_parts ht.info
  have hu : P.underlying t = some (.slice (P.elem t)) := by
    have := ht.und
    simp [Program.elem, this]
  have he : P.elem t = e := by simp [Program.elem, ht.und]
  refine ⟨if n = k then A else A.map (·.add (k * size)), fun hlt b o hA => ?_, fun w => ?_⟩
  · rw [if_neg (by omega), hA]
    simp only [Option.map_some]
    rw [add_flat]
  · rw [run_slice_lhm w t A n c hu .i64 .i64 .i64 k n n (by omega) (by omega) (by omega) (by omega)]
    simp [sizeOf, typeInfo, he, hi, Result.andThen, sliced, hsz]
theorem OwnK.carry {t : TypeId} {w0 w1 w2 w3 : World} {v : Value} {M : List Wr} (h : OwnK t w1 w2 v M) (hf : ∀ x ∈ M, FreshK w1 x.r) (hb : Below w0.heap.size w0 w3) (hle : w0.heap.size ≤ w1.heap.size) (hbl : ∀ b, w1.heap.size ≤ b → w3.heap[b]? = w2.heap[b]?) : OwnK t w0 w3 v M := by
  obtain ⟨⟨⟨hl, ho⟩, _⟩, hr⟩ := h
  refine ⟨⟨⟨hl, ?_⟩, hb⟩, fun x hx => ?_⟩
  · rcases ho with h | ⟨g, cap, cur, hv, hg, hh, r⟩
    · exact .inl h
    · exact .inr ⟨g, cap, cur, hv, Nat.le_trans hle hg, by rw [hbl g hg]; exact hh, r⟩
  · obtain ⟨⟨hb2, hap⟩, hp⟩ := hr x hx
    refine ⟨⟨?_, hap⟩, hp⟩
    rcases Nat.eq_zero_or_pos x.r.n with h0 | h0
    · exact ⟨hb2.1, hb2.2.1, hb2.2.2.1, fun h => absurd h (by omega)⟩
    · exact Sl.keepB hb2 (fun b o e => hbl b (hf x hx b o h0 e))
end Go.Proofs.YthlnoaalhojphaaGreatDoor
