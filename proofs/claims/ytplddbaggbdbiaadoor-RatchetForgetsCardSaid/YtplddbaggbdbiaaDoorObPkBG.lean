/- Own texts of this claim, one behind the other. No condition. -/
import Derived.Test.YtplddbaggbdbiaaDoorObPkBC
import Derived.Laws.CopyRow

namespace Go.Proofs.YtplddbaggbdbiaaDoor
open Go.RowKit
set_option linter.unusedVariables false

/-! ### slices.Delete of skipped keys, one of them -/
theorem clear_skips (g o q c ty : Nat) (cs : List Value) (w : World) (h : Blk w g 54 cs) (hq : o + q * 2 ≤ cs.length) :
    ∃ cs', (Builtin.clear_ #[39] ty #[.slice (some ⟨g, o, none⟩) q c]).run Tryd.prog w = .ok (.tuple #[]) (w.setRow g cs'.toArray) ∧ cs'.length = cs.length ∧ (∀ i, i < o → cs'[i]? = cs[i]?) ∧ Blk (w.setRow g cs'.toArray) g 54 cs' := by
  have hz : ∀ w, (zeroValue 54).run Tryd.prog w = .ok (.agg #[.int .i64 0, .slice none 0 0]) w := by intro w; kernel_rfl
  obtain ⟨zs, hzs⟩ : ∃ zs, zs = (Builtin.zeroCells (Value.agg #[.int .i64 0, .slice none 0 0]).cells q).toList := ⟨_, rfl⟩
  have hl : zs.length = q * 2 := by rw [hzs]; simp [Builtin.zeroCells, Value.cells]
  have h1 : ∀ v ∈ zs, v.oneCell' = true := by
    intro v hv
    rw [hzs] at hv
    simp only [Builtin.zeroCells, Array.toList_map, List.mem_map] at hv
    obtain ⟨i, _, rfl⟩ := hv
    have : (Value.agg #[.int .i64 0, .slice none 0 0]).cells = #[.int .i64 0, .slice none 0 0] := rfl
    rw [this]
    have h2 : i % 2 = 0 ∨ i % 2 = 1 := by omega
    show Value.oneCell' (#[Value.int .i64 0, .slice none 0 0][i % 2]!) = true
    rcases h2 with h2 | h2 <;> rw [h2] <;> rfl
  have hs := run_storeCells_at (P := Tryd.prog) g o 54 zs 0 cs.toArray w h (by simp [hl]; omega) h1
  simp only [Nat.add_zero] at hs
  rcases Nat.eq_zero_or_pos q with hq0 | hq0
  · subst hq0
    refine ⟨cs, ?_, rfl, fun _ _ => rfl, ?_⟩
    · rw [setRow_self w g cs.toArray _ (0, 0) h]
      simp [Builtin.clear_, run_underlying Tryd.underlying39]
    · rw [setRow_self w g cs.toArray _ (0, 0) h]; exact h
  · refine ⟨cs.take o ++ zs ++ cs.drop (o + zs.length), ?_, ?_, fun i hi => ?_, ?_⟩
    · obtain ⟨r, rfl⟩ : ∃ r, q = r + 1 := ⟨q - 1, by omega⟩
      simp [Builtin.clear_, run_underlying Tryd.underlying39, hz, ← hzs, hs]
    · simp [hl]; omega
    · rw [List.append_assoc, List.getElem?_append_left (by simp; omega), List.getElem?_take_of_lt hi]
    · exact setRow_heap w g cs.toArray _ _ _ h

/-- append where there is room, one step of a region that draws: the whole block is told. -/
theorem step_roomK {ops : Array Oper} {o : Oper} {a : Act} {w : World} {K : Act → World → Prop} {Q : Exit → Act → World → Prop} {E : Prop}
    (hgd : o.guard = none) (s x : Operand) (ho : o.op = .call { callee := .builtin .append, args := #[s, x], argTypes := #[39, 39] })
    (g k c : Nat) (cs : List Value) (hs : a.eval s = .slice (some ⟨g, 0, none⟩) k c) (hg : Blk w g 54 cs)
    (ad : Addr) (r d n' : Nat) (news : List Value) (hx : a.eval x = .slice (some ad) r d) (hn : news.length = r * 2) (hc : ∀ j u, news[j]? = some u → w.cell? (ad.add j) = some u) (h1 : ∀ u ∈ news, u.oneCell' = true)
    (hroom : k + r ≤ c) (hsum : k + r = n') (hfit : k * 2 + news.length ≤ cs.length) (cs1 : List Value) (hcs1 : cs1 = cs.take (k * 2) ++ news ++ cs.drop (k * 2 + news.length))
    (hK : ∀ W, Blk W g 54 cs1 → (∀ b, b ≠ g → W.heap[b]? = w.heap[b]?) → (∀ (X : World) N, Below N X w → N ≤ g → Below N X W) → K (a.put o.dst (.slice (some ⟨g, 0, none⟩) n' c)) W) :
    if Region.wanted o (yielded ops a.tmps) = true then Oper.wp Tryd.prog o a w K Q else E := by
  have hw : Region.wanted o (yielded ops a.tmps) = true := by simp [Region.wanted, hgd]
  rw [if_pos hw]
  obtain ⟨i, hi, hz, hsz, hby⟩ := info_parts tSk.info
  have hrun := run_append_room (P := Tryd.prog) w 39 o.type 54 i Tryd.underlying39 hi g k c cs.toArray hg ad r d news (by rw [hsz]; exact hn) hc h1 hroom (by rw [hsz]; simpa using hfit)
  rw [hsz, hsum] at hrun
  have e : (cs.take (k * 2) ++ news ++ cs.drop (k * 2 + news.length)).toArray = cs1.toArray := by rw [hcs1]
  have hK' := hK (w.setRow g cs1.toArray) (setRow_heap w g _ _ _ _ hg) (fun b hb => setRow_other w g b _ hb) (fun X N hb hN => below_row hb hN _)
  unfold Oper.wp execOp
  simp only [ho, resolve, invoke, builtin, Sem.run_bind, Sem.run_pure, Result.andThen_ok, List.map_toArray, List.map_cons, List.map_nil, hs, hx, hrun]
  rw [← e] at hK'
  exact hK'

theorem run_fromS {P : Program} {t e : TypeId} {z : Value} {size bytes : Nat} (ht : ElemT P t e z size bytes) (g n c k : Nat) (hk : k + 1 ≤ n) (hc : n ≤ c) :
    ∃ ad, (k + 1 < n → ad = ⟨g, (k + 1) * size, none⟩) ∧ ∀ w : World, (Instr.slice t (.slice (some ⟨g, 0, none⟩) n c) (some (.int .i64 ((k : Int) + 1))) none none).run P w = .ok (.slice (some ad) (n - (k + 1)) (c - (k + 1))) w := by
  obtain ⟨i, hi, hz, hsz, hby⟩ := info_parts ht.info
  have hu : P.underlying t = some (.slice (P.elem t)) := by
    have := ht.und
    simp [Program.elem, this]
  have he : P.elem t = e := by simp [Program.elem, ht.und]
  refine ⟨if c = k + 1 then ⟨g, 0, none⟩ else (Addr.mk g 0 none).add ((k + 1) * size), fun hlt => ?_, fun w => ?_⟩
  · rw [if_neg (by omega), add_flat, Nat.zero_add]
  · have e1 : ((k : Int) + 1).toNat = k + 1 := by omega
    rw [run_slice_l w t (some ⟨g, 0, none⟩) n c hu .i64 ((k : Int) + 1) (by omega) (by omega)]
    by_cases hck : c = k + 1 <;> simp [sizeOf, typeInfo, he, hi, Result.andThen, sliced, hsz, e1, hck]
theorem run_mid3 {P : Program} {t e : TypeId} {z : Value} {size bytes : Nat} (ht : ElemT P t e z size bytes) (A : Option Addr) (n c k : Nat) (hk : k + 1 ≤ n) (hc : n ≤ c) :
    ∃ X, ∀ w : World, (Instr.slice t (.slice A n c) (some (.int .i64 (k : Int))) (some (.int .i64 ((k : Int) + 1))) (some (.int .i64 (n : Int)))).run P w = .ok X w := by
  obtain ⟨i, hi, hz, hsz, hby⟩ := info_parts ht.info
  have hu : P.underlying t = some (.slice (P.elem t)) := by
    have := ht.und
    simp [Program.elem, this]
  have he : P.elem t = e := by simp [Program.elem, ht.und]
  refine ⟨sliced A k (k + 1) n size, fun w => ?_⟩
  have e1 : ((k : Int) + 1).toNat = k + 1 := by omega
  rw [run_slice_lhm w t A n c hu .i64 .i64 .i64 (k : Int) ((k : Int) + 1) n (by omega) (by omega) (by omega) (by omega)]
  simp [sizeOf, typeInfo, he, hi, Result.andThen, hsz, e1]
theorem run_mid2 {P : Program} {t e : TypeId} {z : Value} {size bytes : Nat} (ht : ElemT P t e z size bytes) (g n c m : Nat) (hm : m < n) (hc : n ≤ c) :
    ∀ w : World, (Instr.slice t (.slice (some ⟨g, 0, none⟩) m c) (some (.int .i64 (m : Int))) (some (.int .i64 (n : Int))) none).run P w = .ok (.slice (some ⟨g, m * size, none⟩) (n - m) (c - m)) w := by
  obtain ⟨i, hi, hz, hsz, hby⟩ := info_parts ht.info
  have hu : P.underlying t = some (.slice (P.elem t)) := by
    have := ht.und
    simp [Program.elem, this]
  have he : P.elem t = e := by simp [Program.elem, ht.und]
  intro w
  rw [run_slice_lh w t (some ⟨g, 0, none⟩) m c hu .i64 .i64 (m : Int) n (by omega) (by omega) (by omega)]
  have h1 : ¬ c = m := by omega
  simp [sizeOf, typeInfo, he, hi, Result.andThen, hsz, sliced, h1, add_flat]
theorem erase_cells (L : List Wr) (k : Nat) (hk : k < L.length) : (L.eraseIdx k).flatMap Wr.cells = (L.flatMap Wr.cells).take (k * 2) ++ (L.flatMap Wr.cells).drop ((k + 1) * 2) := by
  have hlen : ∀ M : List Wr, (M.flatMap Wr.cells).length = M.length * 2 := fun M => flat_length Wr.cells_len M
  have e : L = L.take k ++ ([L[k]] ++ L.drop (k + 1)) := by simp
  rw [List.eraseIdx_eq_take_drop_succ, List.flatMap_append]
  have h1 : (L.flatMap Wr.cells).take (k * 2) = (L.take k).flatMap Wr.cells := by
    conv => lhs; rw [e]
    rw [List.flatMap_append, List.take_append_of_le_length (by rw [hlen, List.length_take]; omega), List.take_of_length_le (by rw [hlen, List.length_take]; omega)]
  have h2 : (L.flatMap Wr.cells).drop ((k + 1) * 2) = (L.drop (k + 1)).flatMap Wr.cells := by
    conv => lhs; rw [e]
    rw [List.flatMap_append, List.flatMap_append, ← List.append_assoc]
    have hl : ((L.take k).flatMap Wr.cells ++ [L[k]].flatMap Wr.cells).length = (k + 1) * 2 := by
      rw [List.length_append, hlen, hlen, List.length_take]; simp; omega
    rw [← hl, List.drop_left]
  rw [h1, h2]
set_option maxRecDepth 100000 in
set_option maxHeartbeats 1000000 in
theorem deleteK_any (g n c k : Nat) (L : List Wr) (cs : List Value) (w : World) (hb : Blk w g 54 cs) (hcs : cs.length = c * 2) (hL : L.length = n) (hnc : n ≤ c) (hcm : c ≤ maxLen) (htk : cs.take (n * 2) = L.flatMap Wr.cells) (hk : k < n) (hn : n ≤ 1000) :
    Calls Tryd.prog 40 #[.slice (some ⟨g, 0, none⟩) n c, .int .i64 (k : Int), .int .i64 ((k : Int) + 1)] w fun e w' => ∃ cs' n', e = .returned (.slice (some ⟨g, 0, none⟩) n' c) ∧ n' + 1 = n ∧ Blk w' g 54 cs' ∧ cs'.length = c * 2 ∧ cs'.take (n' * 2) = (L.eraseIdx k).flatMap Wr.cells ∧ (∀ b, b ≠ g → w'.heap[b]? = w.heap[b]?) ∧ (∀ (X : World) N, Below N X w → N ≤ g → Below N X w') := by
  obtain ⟨n', hn'⟩ : ∃ n', n' + 1 = n := ⟨n - 1, by omega⟩
  obtain ⟨r, hr⟩ : ∃ r, k + r = n' := ⟨n' - k, by omega⟩
  obtain ⟨X1, h1⟩ := run_mid3 (P := Tryd.prog) tSk (some ⟨g, 0, none⟩) n c k (by omega) hnc
  obtain ⟨ad, had, h3⟩ := run_fromS (P := Tryd.prog) tSk g n c k (by omega) hnc
  have h2 := fun w => run_upto (P := Tryd.prog) tSk (some ⟨g, 0, none⟩) n c k (by omega) w
  have h4 := run_mid2 (P := Tryd.prog) tSk g n c n' (by omega) hnc
  have e1 : n - (k + 1) = r := by omega
  rw [e1] at h3
  have hcl : (L.flatMap Wr.cells).length = n * 2 := by rw [flat_length Wr.cells_len, hL]
  obtain ⟨news, hnw⟩ : ∃ news, news = (L.flatMap Wr.cells).drop ((k + 1) * 2) := ⟨_, rfl⟩
  have hnl : news.length = r * 2 := by rw [hnw, List.length_drop, hcl]; omega
  have hone : ∀ u ∈ news, u.oneCell' = true := by
    intro u hu
    rw [hnw] at hu
    obtain ⟨x, _, hx⟩ := List.mem_flatMap.1 (List.mem_of_mem_drop hu)
    exact Wr.ones x u hx
  obtain ⟨cs1, hcs1⟩ : ∃ cs1, cs1 = cs.take (k * 2) ++ news ++ cs.drop (k * 2 + news.length) := ⟨_, rfl⟩
  have hl1 : cs1.length = c * 2 := by rw [hcs1]; simp [hnl, hcs]; omega
  have ht1 : cs1.take (n' * 2) = (L.eraseIdx k).flatMap Wr.cells := by
    rw [erase_cells L k (by omega), hcs1, ← hnw, ← htk, List.take_take, List.take_left' (by simp [hnl, hcs]; omega)]
    rw [Nat.min_eq_left (by omega)]
  have HCELL : Hid (∀ W : World, Blk W g 54 cs → ∀ j u, news[j]? = some u → W.cell? (ad.add j) = some u) := by
    intro W hW j u hu
    have hj : j < r * 2 := by have := (List.getElem?_eq_some_iff.1 hu).1; omega
    rw [had (by omega), add_flat, hW.cell]
    rw [hnw, List.getElem?_drop, ← htk, List.getElem?_take_of_lt (by omega)] at hu
    exact hu
  have HNL := Lib.hid hnl; have HONE := Lib.hid hone; have HL1 := Lib.hid hl1; have HT1 := Lib.hid ht1; have HCS1 := Lib.hid hcs1; have HCS := Lib.hid hcs; have HN' := Lib.hid hn'; have HR := Lib.hid hr
  have hne : ((k : Int) == (k : Int) + 1) = false := by rw [beq_eq_false_iff_ne]; omega
  have HB := Lib.hid hb
  have hkn : k < n := hk
  clear hnl hone hl1 ht1 hcs1 hcs hnw htk had hcl hb e1 hL
  have f1 : (0 : Int) ≤ k := by omega
  have hmn : (n : Int) ≤ 1000 := by omega
  have HK3 : Hid (k + r ≤ c) := by show _ ≤ _; omega
  clear hn' hr
  go_enter Tryd.func40, Tryd.ntmps40
  go_wp2_with fail
  go_region_law (refine step_roomK rfl (.tmp 22) (.tmp 25) rfl g k c cs rfl (by exact HB.out) ad r (c - (k + 1)) n' news rfl HNL.out (by exact HCELL.out _ HB.out) HONE.out HK3.out HR.out (by rw [HNL.out, HCS.out]; have := HK3.out; omega) cs1 HCS1.out ?_; intro W bk oth bel)
  all_goals
    obtain ⟨cs', hclr, hl', hpre', hblk'⟩ := clear_skips g (n' * 2) (n - n') (c - n') 0 cs1 W bk (by rw [HL1.out]; have := HN'.out; omega)
    have FIN : Hid (n' + 1 = n ∧ Blk (W.setRow g cs'.toArray) g 54 cs' ∧ cs'.length = c * 2 ∧ cs'.take (n' * 2) = (L.eraseIdx k).flatMap Wr.cells ∧ (∀ b, b ≠ g → (W.setRow g cs'.toArray).heap[b]? = w.heap[b]?) ∧ (∀ (X : World) N, Below N X w → N ≤ g → Below N X (W.setRow g cs'.toArray))) := by
      refine ⟨HN'.out, hblk', by rw [hl', HL1.out], ?_, fun b hb => (setRow_other W g b _ hb).trans (oth b hb), fun X N hb hN => below_row (bel X N hb.drew hN) hN _⟩
      rw [← HT1.out]
      apply List.ext_getElem?
      intro t
      rcases Nat.lt_or_ge t (n' * 2) with h | h
      · rw [List.getElem?_take_of_lt h, List.getElem?_take_of_lt h, hpre' t h]
      · rw [List.getElem?_eq_none (by simp; omega), List.getElem?_eq_none (by simp; omega)]
    have hnn : (n' : Int) ≤ n := by have := HN'.out; omega
    clear bk oth bel hblk' hl' hpre'
    go_wp2_with fail
    go_ret
    exact ⟨cs', n', rfl, FIN.out⟩
end Go.Proofs.YtplddbaggbdbiaaDoor
