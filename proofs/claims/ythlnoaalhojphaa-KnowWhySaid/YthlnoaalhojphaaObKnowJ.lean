/- Who knows terms: Clone. No condition. -/
import Derived.Test.YthlnoaalhojphaaObKnowI
import Derived.Shelf.SlMaps.Clone
import Derived.Outline
namespace Go.Proofs.Ythlnoaalhojphaa
open Go.RowKit
set_option linter.unusedVariables false
theorem mapsClone_any (b : Nat) (es : Array MapEntry) (clock : Nat) (w : World) (hb : w.heap[b]? = some (.map es clock)) :
    Calls Try.prog 28 #[.map (some b)] w fun e w' => e = .returned (.map (some w.heap.size)) ∧ w' = w.alloc (.map es clock) := by
  have hq : ∀ w, (binOp .eql 53 (.map (some b)) (.map none)).run Try.prog w = .ok (.bool false) w := fun w => run_eql_map_nil_sl (P := Try.prog) w 53 _ _ (some b) Try.underlying53
  go_enter Try.func28, Try.ntmps28
  have he : (Extern.MapsClone.clone #[.iface 53 (.map (some b))]).run Try.prog w = .ok (.iface 53 (.map (some w.heap.size))) (w.alloc (.map es clock)) := run_maps_clone_sl w 53 hb
  have e := run_callFunc_extern Try.func45 (by kernel_rfl) (by kernel_rfl) (by kernel_rfl) (e := Extern.MapsClone.clone) (by kernel_rfl) (args := #[.iface 53 (.map (some b))]) (w := w)
  rw [he] at e
  simp only [Result.andThen] at e
  have ha : ∀ w1, (Instr.typeAssert (.iface 53 (.map (some w.heap.size))) 20 53 false).run Try.prog w1 = .ok (.map (some w.heap.size)) w1 := fun w1 => run_typeAssert_map_sl w1 53 20 _ _ _ Try.underlying53
  clear he hb
  go_wp2
  go_ret
  exact ⟨rfl, rfl⟩
theorem mK.clone {w : World} {bk n : Nat} {l : List Int} (h : mK w bk n l) : Calls Try.prog 28 #[.map (some bk)] w fun e w' => e = .returned (.map (some w.heap.size)) ∧ mK w' w.heap.size n l ∧ Gr w w' := by
  obtain ⟨D, ⟨es, clock, hb, F, hs, hD⟩, hh⟩ := h
  refine (mapsClone_any bk es clock w hb).mono ?_
  rintro e w' ⟨rfl, rfl⟩
  exact ⟨rfl, ⟨D, ⟨es, clock, (MapKept.heap_alloc w _).1, F, hs, hD⟩, hh⟩, Gr.alloc _ _⟩
set_option maxRecDepth 100000 in
set_option maxHeartbeats 1000000 in
theorem knowClone_any (w0 : World) (gk g bk N : Nat) (T : List Nd) (l : List Int) (vk vp vi : Value) (w : World) (h : KnF w0 w gk g bk N T l vk vp vi) :
    Calls Try.prog 12 #[.pointer (some ⟨gk, 0, none⟩)] w fun e w' => ∃ gk' bk', e = .returned (.pointer (some ⟨gk', 0, none⟩)) ∧ KnF w0 w' gk' g bk' N T l (.slice none 0 0) (.slice none 0 0) (.slice none 0 0) ∧ Gr w w' ∧ w.heap.size ≤ gk' ∧ w.heap.size ≤ bk' := by
  have H := Lib.hid h
  have FA : Hid (∀ wq, Gr w wq → wq.cell? ⟨gk, 0, none⟩ = some (.pointer (some ⟨g, 0, none⟩)) ∧ wq.cell? ⟨gk, 1, none⟩ = some (.map (some bk))) := fun wq hq => ⟨((hq.blk h.blk).cell 0).trans rfl, ((hq.blk h.blk).cell 1).trans rfl⟩
  have HM : Hid (∀ wq, Gr w wq → mK wq bk N l) := fun wq hq => (h.gr hq).m
  clear h
  go_enter Try.func12, Try.ntmps12
  go_wp2_with fail
  refine wp_region_grow (by kernel_rfl) [0, 1, 3, 7, 0, 16, 48, 112, 240, 511, 1023, 2047] [.p 0, .p 1, .p 2, .p 4, .p 5, .p 6, .q 3, .q 7, .c 8, .p 9, .c 10, .p 11] (by kernel_rfl) (trivial) ?_
  refine wpG_pe rfl rfl ?_
  apply Exists.intro
  refine ⟨fun wq => ?_, ?_⟩
  · unfold plainAt
    go_simp
    first | exact rfl | exact ⟨rfl, rfl⟩
  go_simp
  refine wpG_pe rfl rfl ?_
  apply Exists.intro
  refine ⟨fun wq => ?_, ?_⟩
  · unfold plainAt
    go_simp
    first | exact rfl | exact ⟨rfl, rfl⟩
  go_simp
  refine wpG_pe rfl rfl ?_
  apply Exists.intro
  refine ⟨fun wq => ?_, ?_⟩
  · unfold plainAt
    go_simp
    first | exact rfl | exact ⟨rfl, rfl⟩
  go_simp
  refine wpG_pe rfl rfl ?_
  apply Exists.intro
  refine ⟨fun wq => ?_, ?_⟩
  · unfold plainAt
    go_simp
    first | exact rfl | exact ⟨rfl, rfl⟩
  go_simp
  refine wpG_pe rfl rfl ?_
  apply Exists.intro
  refine ⟨fun wq => ?_, ?_⟩
  · unfold plainAt
    go_simp
    first | exact rfl | exact ⟨rfl, rfl⟩
  go_simp
  refine wpG_pe rfl rfl ?_
  apply Exists.intro
  refine ⟨fun wq => ?_, ?_⟩
  · unfold plainAt
    go_simp
    first | exact rfl | exact ⟨rfl, rfl⟩
  go_simp
  refine wpG_qe rfl rfl ?_
  apply Exists.intro
  refine ⟨fun wq hq => ?_, ?_⟩
  · obtain ⟨y0, y1⟩ := FA.out wq ((Gr.drew _).trans hq)
    unfold plainAt
    go_simp
    first | exact rfl | exact ⟨rfl, rfl⟩
  go_simp
  refine wpG_qe rfl rfl ?_
  apply Exists.intro
  refine ⟨fun wq hq => ?_, ?_⟩
  · obtain ⟨y0, y1⟩ := FA.out wq ((Gr.drew _).trans hq)
    unfold plainAt
    go_simp
    first | exact rfl | exact ⟨rfl, rfl⟩
  go_simp
  refine wpG_c rfl rfl ?_
  intro w2 g2 K hK
  go_simp
  go_at_call 28
  refine (mK.clone (HM.out w2 ((Gr.drew _).trans g2))).mono ?_
  rintro e wn ⟨rfl, m2, g3⟩
  refine hK _ _ g3 ?_; have M2 := Lib.hid m2; have G3 := Lib.hid (((Gr.drew _).trans g2).trans g3); have G2 := Lib.hid ((Gr.drew _).trans g2); clear g2 g3 m2 hK
  go_simp
  refine wpG_pe rfl rfl ?_
  apply Exists.intro
  refine ⟨fun wq => ?_, ?_⟩
  · unfold plainAt
    go_simp
    first | exact rfl | exact ⟨rfl, rfl⟩
  go_simp
  refine wpG_c rfl rfl ?_
  intro w4 g4 K hK
  go_simp
  refine hK _ _ (Gr.alloc _ _) ?_
  clear hK
  have G4 := Lib.hid (G3.out.trans g4)
  have M4 := Lib.hid (M2.out.keep (g4.block _ M2.out.lt))
  clear g4
  go_simp
  refine wpG_pe rfl rfl ?_
  apply Exists.intro
  refine ⟨fun wq => ?_, ?_⟩
  · unfold plainAt
    go_simp
    first | exact rfl | exact ⟨rfl, rfl⟩
  go_simp
  refine wpG_nil ?_
  intro w6 g6
  have G6 := Lib.hid ((G4.out.trans (Gr.alloc w4 _)).trans g6)
  have B6 := Lib.hid (g6.blk (Blk.new w4 56 #[.pointer (some ⟨g, 0, none⟩), .map (some w2.heap.size), .slice none 0 0, .slice none 0 0, .slice none 0 0]))
  have M6 := Lib.hid (M4.out.keep (((Gr.alloc w4 _).trans g6).block _ M4.out.lt))
  clear g6
  go_wp2_with fail
  go_ret
  have hb := H.out.bel.size
  have h2 := G2.out.size
  have h4 := G4.out.size
  exact ⟨w4.heap.size, rfl, w2.heap.size, ⟨by omega, by omega, below_both H.out.bel G6.out, B6.out, M6.out, .inl ⟨rfl, rfl⟩, .inl rfl⟩, G6.out, h4, h2⟩
end Go.Proofs.Ythlnoaalhojphaa
