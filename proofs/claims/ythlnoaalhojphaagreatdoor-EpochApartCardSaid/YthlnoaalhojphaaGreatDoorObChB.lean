import Derived.Test.YthlnoaalhojphaaGreatDoorObChA
import Derived.Test.YthlnoaalhojphaaGreatDoorObDrawW
import Derived.Test.YthlnoaalhojphaaGreatDoorObKdf
import Derived.Test.YthlnoaalhojphaaGreatDoorObShb
namespace Go.Proofs.YthlnoaalhojphaaGreatDoor
open Go.RowKit
set_option linter.unusedVariables false

/-! ### a real suite -/
/-- A suite with a source lies at block g. -/
def RealS (w : World) (g : Nat) : Prop := ∃ q, w.cell? ⟨g, 2, none⟩ = some (.pointer (some q))
theorem RealS.mono {w w' : World} {g : Nat} (h : RealS w g) (hb : Below w.heap.size w w') : RealS w' g := by
  obtain ⟨q, h⟩ := h
  exact ⟨q, (hb.cell (World.block_lt_of_cell? w _ h)).trans h⟩
theorem realNil_any (w : World) (hz : 2 < w.heap.size) :
    Calls Tryz.prog 6 #[.slice none 0 0] w fun e w' => ∃ g, e = .returned (.pointer (some ⟨g, 0, none⟩)) ∧ RealS w' g ∧ Below w.heap.size w w' ∧ w.heap.size ≤ g := by
  go_enter Tryz.func6, Tryz.ntmps6
  go_wp2_with fail
  refine (new_any none 0 0 [] w (Sl.nil _ _) (by omega) hz).mono ?_
  rintro e w1 ⟨p, A1, c1, rfl, s1, b1, g1, n1, q1⟩
  have B1 := Lib.hid b1; clear s1 b1 g1 n1 q1
  go_wp2_with fail
  go_ret
  refine ⟨w1.heap.size, rfl, ⟨⟨p, 0, none⟩, ?_⟩, B1.out.alloc B1.out.size _, B1.out.size⟩
  rw [(Blk.new w1 _ _).cell]
  rfl
theorem none_any (g : Nat) (w : World) (h : RealS w g) : Calls Tryz.prog 37 #[.pointer (some ⟨g, 0, none⟩)] w fun e w' => e = .returned (.bool false) ∧ w = w' := by
  obtain ⟨q, h⟩ := h
  go_enter Tryz.func37, Tryz.ntmps37
  go_wp2_with fail
  go_ret
  exact ⟨rfl, rfl⟩
theorem real_any (g : Nat) (w : World) (h : RealS w g) : Calls Tryz.prog 38 #[.pointer (some ⟨g, 0, none⟩)] w fun e w' => e = .returned (.bool true) ∧ w = w' := by
  obtain ⟨q, h⟩ := h
  go_enter Tryz.func38, Tryz.ntmps38
  go_wp2_with fail
  go_ret
  exact ⟨rfl, rfl⟩
theorem sDeriveO_any (g : Nat) (A : Option Addr) (n c : Nat) (k s : List UInt8) (w : World) (hr : RealS w g) (hk : Bs w A n c k) (hn : n ≤ 50000) (hs : s.length ≤ 5000) (hK : ShaK w) :
    Calls Tryz.prog 26 #[.pointer (some ⟨g, 0, none⟩), .slice A n c, .string ⟨s.toArray⟩] w (RetRo w (deriveL k s)) := by
  have HR := Lib.hid hr; have HB := Lib.hid hk; have HK := Lib.hid hK; clear hr hk hK
  go_enter Tryz.func26, Tryz.ntmps26
  go_wp2_with (first
    | (go_at_call 37; refine (none_any g _ HR.out).mono ?_; rintro e w1 ⟨rfl, rfl⟩)
    | (go_at_call 38; refine (real_any g _ HR.out).mono ?_; rintro e w1 ⟨rfl, rfl⟩)
    | (go_at_call 53; refine (deriveO_any A n c k s _ HB.out hn hs HK.out).mono ?_; rintro e w2 ⟨A2, c2, k2, rfl, s2, b2⟩; have S2 := Lib.hid s2; have B2 := Lib.hid b2; clear s2 b2))
  go_ret
  exact ⟨A2, c2, k2, rfl, S2.out, B2.out⟩
theorem sDerive_any (g : Nat) (A : Option Addr) (n c : Nat) (k s : List UInt8) (w : World) (hr : RealS w g) (hk : Bs w A n c k) (hn : n ≤ 50000) (hs : s.length ≤ 5000) (hK : ShaK w) :
    Calls Tryz.prog 26 #[.pointer (some ⟨g, 0, none⟩), .slice A n c, .string ⟨s.toArray⟩] w (RetRd w (deriveL k s)) := (sDeriveO_any g A n c k s w hr hk hn hs hK).mono (by
  rintro e w' ⟨A', c', k', rfl, h1, h2⟩
  exact ⟨A', c', rfl, h1, h2.below⟩)
/-! ### Start, Drop -/
def FreshA (w : World) (A : Option Addr) : Prop := ∀ b o, A = some ⟨b, o, none⟩ → w.heap.size ≤ b
/-- A chain in new memory. -/
def RetCh (w : World) (g : Int) (cur : List UInt8) (K : List (Int × List UInt8)) (e : Ending) (w' : World) : Prop :=
  ∃ A c v M, e = .returned (.agg #[.int .i64 g, .slice A cur.length c, v]) ∧ Bs w' A cur.length c cur ∧ OwnK 102 w w' v M ∧ (∀ x ∈ M, FreshK w x.r) ∧ M.map Wr.kk = K ∧ FreshA w A ∧ Below w.heap.size w w'
theorem chSize : (Tryz.prog.info? 50).map (·.size) = some 3 := by kernel_rfl
theorem chOne (g : Int) (A B : Option Addr) (n c m d : Nat) : (#[.int .i64 g, .slice A n c, .slice B m d] : Array Value).all (·.oneCell') = true := by simp [Value.oneCell']
/-- A chain's block is stored anew. -/
theorem wpList_store_ch {ops : Array Oper} {rest : List Oper} {o : Oper} {a : Act} {w : World} {Q : Exit → Act → World → Prop} (hgd : o.guard = none) (x y : Operand) (ho : o.op = .store 50 x y)
    (g : Nat) (i : Int) (A B : Option Addr) (n c m d : Nat) (hx : a.eval x = .pointer (some ⟨g, 0, none⟩)) (hy : a.eval y = .agg #[.int .i64 i, .slice A n c, .slice B m d]) {old0 old1 old2 : Value} (hg : Blk w g 50 [old0, old1, old2])
    (h : wpList Tryz.prog ops Q rest (a.put o.dst undef) (w.setRow g #[.int .i64 i, .slice A n c, .slice B m d])) : wpList Tryz.prog ops Q (o :: rest) a w :=
  wpList_store_row hgd 50 x y ho g _ hx hy 50 #[old0, old1, old2] hg chSize rfl (chOne _ _ _ _ _ _ _) h
theorem start_any (A : Option Addr) (n c : Nat) (k : List UInt8) (w : World) (h : Bs w A n c k) (hn : n ≤ 50000) :
    Calls Tryz.prog 29 #[.slice A n c] w (RetCh w 0 k []) := by
  have hb0 : Below w.heap.size w (w.alloc (.cells #[.int .i64 0, .slice none 0 0, .slice none 0 0] 50)) := (Below.refl _ _).alloc (Nat.le_refl _) _
  have HC := Lib.hid (clone_any A n c k _ (h.mono hb0) (by omega))
  have HB0 := Lib.hid hb0; clear h hb0
  go_enter Tryz.func29, Tryz.ntmps29
  go_wp2_with (first
    | (go_at_call 50; refine HC.out.mono ?_; rintro e w1 ⟨v1, rfl, own1⟩; obtain ⟨A1, c1, rfl, s1⟩ := own1.slice; have O1 := Lib.hid own1; have BK : Hid (Blk w1 w.heap.size 50 [.int .i64 0, .slice none 0 0, .slice none 0 0]) := (Blk.new w _ _).mono own1.below; have S1 := Lib.hid s1; clear own1 s1)
    | (refine wpList_store_ch rfl (.tmp 2) (.tmp 5) rfl w.heap.size 0 A1 none k.length c1 0 0 rfl rfl BK.out ?_))
  have hB1 : Below w.heap.size w w1 := below_both HB0.out O1.out.below
  have hB2 : Below w.heap.size w (w1.setRow w.heap.size #[.int .i64 0, .slice A1 k.length c1, .slice none 0 0]) := below_row hB1 (Nat.le_refl _) _
  have hN : (w1.setRow w.heap.size #[.int .i64 0, .slice A1 k.length c1, .slice none 0 0]).heap[w.heap.size]? = some (.cells #[.int .i64 0, .slice A1 k.length c1, .slice none 0 0] 50 (0, 0)) := setRow_heap w1 w.heap.size _ _ _ _ BK.out
  have hS : Bs (w1.setRow w.heap.size #[.int .i64 0, .slice A1 k.length c1, .slice none 0 0]) A1 k.length c1 k := Sl.keepB S1.out (fun b o e => setRow_other w1 w.heap.size b _ (by
    have h1 := (O1.out.1.lt b (by rw [e]; rfl)).1
    simp at h1
    omega))
  exact bodyPost_ret (v := .agg #[.int .i64 0, .slice A1 k.length c1, .slice none 0 0]) (results_cell_row Tryz.results29 _ _ w.heap.size 50 _ (0, 0) _ rfl hN Tryz.underlying50 rfl chSize) rfl ⟨A1, c1, .slice none 0 0, [], rfl, hS, ⟨Own.nil' hB2 _ _, fun x hx => by cases hx⟩, (fun x hx => by cases hx), rfl, (fun b o e => by have h1 := (O1.out.1.lt b (by rw [e]; rfl)).1; simp at h1; omega), hB2⟩
end Go.Proofs.YthlnoaalhojphaaGreatDoor
