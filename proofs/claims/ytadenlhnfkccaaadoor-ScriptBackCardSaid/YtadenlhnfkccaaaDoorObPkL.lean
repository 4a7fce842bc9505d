/- Own texts of this claim, one behind the other. No condition. -/
import Derived.Test.YtadenlhnfkccaaaDoorObPkC
import Derived.Test.YtadenlhnfkccaaaDoorObPkD
import Derived.Test.YtadenlhnfkccaaaDoorObPkF
import Derived.Test.YtadenlhnfkccaaaDoorObPkJ
import Derived.Test.YtadenlhnfkccaaaDoorObPkK
import Derived.Outline
import Derived.Test.YtadenlhnfkccaaaDoorProg
import Derived.Lib.Builder
import Derived.Lib.UnsafeStr
import Derived.Lib.AppendStr
import Derived.Laws.Externs

/- Lines of scripts: a line's words. No condition. -/
namespace Go.Proofs.YtadenlhnfkccaaaDoor
open Go.RowKit
set_option linter.unusedVariables false
set_option linter.unusedSimpArgs false
set_option maxRecDepth 100000 in
theorem word_110 (x : LnV) (w : World) (hT : Pow10 w) (h0 : -9223372036854775808 ≤ x.d.n) (h1 : x.d.n ≤ 9223372036854775807) :
    Calls Tryd.prog 96 #[.agg x.arr, .int .i32 110] w fun e w' => e = .returned (strc (printL x.d.n)) ∧ Gr w w' := by
  have G0 : Hid (Gr w (w.alloc (.cells x.arr 53))) := Gr.alloc _ _
  have c0 : (w.alloc (.cells x.arr 53)).cell? ⟨w.heap.size, 9, none⟩ = some (.int .i64 x.d.n) := ((Blk.new w 53 x.arr).cell 9).trans rfl
  have HP := Lib.hid (print_any x.d.n _ h0 h1 (hT.mono G0.out))
  clear hT h0 h1
  go_enter Tryd.func96, Tryd.ntmps96
  go_wp2_with fail
  refine HP.out.mono ?_
  rintro e w2 ⟨rfl, g⟩
  have G2 := Lib.hid (G0.out.trans g)
  clear g
  go_wp2_with fail
  go_ret
  exact ⟨rfl, G2.out⟩
set_option maxRecDepth 100000 in
theorem word_116 (x : LnV) (w : World) (hT : Pow10 w) (h0 : -9223372036854775808 ≤ x.d.t) (h1 : x.d.t ≤ 9223372036854775807) :
    Calls Tryd.prog 96 #[.agg x.arr, .int .i32 116] w fun e w' => e = .returned (strc (printL x.d.t)) ∧ Gr w w' := by
  have G0 : Hid (Gr w (w.alloc (.cells x.arr 53))) := Gr.alloc _ _
  have c0 : (w.alloc (.cells x.arr 53)).cell? ⟨w.heap.size, 11, none⟩ = some (.int .i64 x.d.t) := ((Blk.new w 53 x.arr).cell 11).trans rfl
  have HP := Lib.hid (print_any x.d.t _ h0 h1 (hT.mono G0.out))
  clear hT h0 h1
  go_enter Tryd.func96, Tryd.ntmps96
  go_wp2_with fail
  refine HP.out.mono ?_
  rintro e w2 ⟨rfl, g⟩
  have G2 := Lib.hid (G0.out.trans g)
  clear g
  go_wp2_with fail
  go_ret
  exact ⟨rfl, G2.out⟩
set_option maxRecDepth 100000 in
theorem word_97 (x : LnV) (w : World) (hT : Pow10 w) (h0 : -9223372036854775808 ≤ x.d.a) (h1 : x.d.a ≤ 9223372036854775807) :
    Calls Tryd.prog 96 #[.agg x.arr, .int .i32 97] w fun e w' => e = .returned (strc (printL x.d.a)) ∧ Gr w w' := by
  have G0 : Hid (Gr w (w.alloc (.cells x.arr 53))) := Gr.alloc _ _
  have c0 : (w.alloc (.cells x.arr 53)).cell? ⟨w.heap.size, 12, none⟩ = some (.int .i64 x.d.a) := ((Blk.new w 53 x.arr).cell 12).trans rfl
  have HP := Lib.hid (print_any x.d.a _ h0 h1 (hT.mono G0.out))
  clear hT h0 h1
  go_enter Tryd.func96, Tryd.ntmps96
  go_wp2_with fail
  refine HP.out.mono ?_
  rintro e w2 ⟨rfl, g⟩
  have G2 := Lib.hid (G0.out.trans g)
  clear g
  go_wp2_with fail
  go_ret
  exact ⟨rfl, G2.out⟩
set_option maxRecDepth 100000 in
theorem word_101 (x : LnV) (w : World) (hT : Pow10 w) (h0 : -9223372036854775808 ≤ x.d.e) (h1 : x.d.e ≤ 9223372036854775807) :
    Calls Tryd.prog 96 #[.agg x.arr, .int .i32 101] w fun e w' => e = .returned (strc (printL x.d.e)) ∧ Gr w w' := by
  have G0 : Hid (Gr w (w.alloc (.cells x.arr 53))) := Gr.alloc _ _
  have c0 : (w.alloc (.cells x.arr 53)).cell? ⟨w.heap.size, 14, none⟩ = some (.int .i64 x.d.e) := ((Blk.new w 53 x.arr).cell 14).trans rfl
  have HP := Lib.hid (print_any x.d.e _ h0 h1 (hT.mono G0.out))
  clear hT h0 h1
  go_enter Tryd.func96, Tryd.ntmps96
  go_wp2_with fail
  refine HP.out.mono ?_
  rintro e w2 ⟨rfl, g⟩
  have G2 := Lib.hid (G0.out.trans g)
  clear g
  go_wp2_with fail
  go_ret
  exact ⟨rfl, G2.out⟩
set_option maxRecDepth 100000 in
theorem word_103 (x : LnV) (w : World) :
    Calls Tryd.prog 96 #[.agg x.arr, .int .i32 103] w fun e w' => e = .returned (strc x.d.g) ∧ Gr w w' := by
  have G0 : Hid (Gr w (w.alloc (.cells x.arr 53))) := Gr.alloc _ _
  have c0 : (w.alloc (.cells x.arr 53)).cell? ⟨w.heap.size, 13, none⟩ = some (strc x.d.g) := ((Blk.new w 53 x.arr).cell 13).trans rfl
  go_enter Tryd.func96, Tryd.ntmps96
  go_wp2_with fail
  go_ret
  exact ⟨rfl, G0.out⟩
set_option maxRecDepth 100000 in
theorem word_105 (x : LnV) (w : World) :
    Calls Tryd.prog 96 #[.agg x.arr, .int .i32 105] w fun e w' => e = .returned (strc x.d.i) ∧ Gr w w' := by
  have G0 : Hid (Gr w (w.alloc (.cells x.arr 53))) := Gr.alloc _ _
  have c0 : (w.alloc (.cells x.arr 53)).cell? ⟨w.heap.size, 15, none⟩ = some (strc x.d.i) := ((Blk.new w 53 x.arr).cell 15).trans rfl
  go_enter Tryd.func96, Tryd.ntmps96
  go_wp2_with fail
  go_ret
  exact ⟨rfl, G0.out⟩
set_option maxRecDepth 100000 in
theorem word_120 (x : LnV) (w : World) (hb : Bs w x.C x.d.b.length x.s x.d.b) (hl : x.d.b.length ≤ 100000) :
    Calls Tryd.prog 96 #[.agg x.arr, .int .i32 120] w fun e w' => e = .returned (strc (hexP x.d.b)) ∧ Gr w w' := by
  have G0 : Hid (Gr w (w.alloc (.cells x.arr 53))) := Gr.alloc _ _
  have c0 : (w.alloc (.cells x.arr 53)).cell? ⟨w.heap.size, 16, none⟩ = some (.slice x.C x.d.b.length x.s) := ((Blk.new w 53 x.arr).cell 16).trans rfl
  have HP := Lib.hid (hexPrint_any x.C x.d.b.length x.s x.d.b _ (hb.mono G0.out) hl)
  clear hb
  go_enter Tryd.func96, Tryd.ntmps96
  go_wp2_with fail
  refine HP.out.mono ?_
  rintro e w2 ⟨rfl, g⟩
  have G2 := Lib.hid (G0.out.trans g)
  clear g
  go_wp2_with fail
  go_ret
  exact ⟨rfl, G2.out⟩
theorem keepT_snoc (p : List Int) (k : Nat) (h : k < p.length) : (p.take (k + 1)).flatMap printL = (p.take k).flatMap printL ++ printL p[k] := by
  rw [List.take_succ_eq_append_getElem h, List.flatMap_append]; simp
theorem printL_bd {n : Int} (h : n ≤ 9223372036854775807) : (printL n).length ≤ 20 := by
  by_cases h0 : n < 0
  · unfold printL; rw [if_pos h0]; simp
  · obtain ⟨u, rfl⟩ := Int.eq_ofNat_of_zero_le (show 0 ≤ n by omega)
    have e : printL (u : Int) = Lib.decDigits u := by unfold printL; rw [if_neg (by omega)]; rfl
    rw [e]
    obtain ⟨_, i2, i3, _, i5, _⟩ := dec_back u
    rcases Nat.lt_or_ge 20 (Lib.decDigits u).length with h | h
    · by_cases hu : 1 ≤ u
      · have h2 := i5 hu
        have h3 : 10 ^ 20 ≤ 10 ^ ((Lib.decDigits u).length - 1) := Nat.pow_le_pow_right (by decide) (by omega)
        have h4 : (10 : Nat) ^ 20 = 100000000000000000000 := by decide
        omega
      · rw [dec_small u (by omega)] at h; simp at h
    · exact h
theorem flat_len (p : List Int) (hr : ∀ n ∈ p, n ≤ 9223372036854775807) : (p.flatMap printL).length ≤ p.length * 20 := by
  induction p with
  | nil => simp
  | cons n p ih =>
    have h1 := printL_bd (hr n List.mem_cons_self)
    have h2 := ih fun x hx => hr x (List.mem_cons_of_mem _ hx)
    simp only [List.flatMap_cons, List.length_append, List.length_cons]
    omega
set_option maxRecDepth 100000 in
set_option maxHeartbeats 2000000 in
theorem word_107 (x : LnV) (w : World) (hp : Is w x.B x.d.p.length x.q x.d.p) (hl : x.d.p.length ≤ 1000) (hT : Pow10 w) (hr : ∀ n ∈ x.d.p, -9223372036854775808 ≤ n ∧ n ≤ 9223372036854775807) :
    Calls Tryd.prog 96 #[.agg x.arr, .int .i32 107] w fun e w' => e = .returned (strc (keepT x.d.p)) ∧ Gr w w' := by
  have G0 : Hid (Gr w (w.alloc (.cells x.arr 53))) := Gr.alloc _ _
  have c0 : (w.alloc (.cells x.arr 53)).cell? ⟨w.heap.size, 10, none⟩ = some (.slice x.B x.d.p.length x.q) := ((Blk.new w 53 x.arr).cell 10).trans rfl
  have HPR : Hid (∀ (n : Int) wr, Gr w wr → n ∈ x.d.p → Calls Tryd.prog 68 #[.int .i64 n] wr fun e w' => e = .returned (strc (printL n)) ∧ Gr wr w') := fun n wr g h => print_any n wr (hr n h).1 (hr n h).2 (hT.mono g)
  have HBD := Lib.hid (fun k => Nat.le_trans (flat_len (x.d.p.take k) (fun n hn => (hr n (List.mem_of_mem_take hn)).2)) (Nat.mul_le_mul_right 20 (show (x.d.p.take k).length ≤ x.d.p.length by rw [List.length_take]; omega)))
  have HPZ := Lib.hid (fun n hn => printL_bd (hr n hn).2)
  have HP := Lib.hid hp
  have hmax := hp.max
  have hcap := hp.cap
  clear hp hT hr
  generalize x.d.p = p at *
  generalize x.B = XB at *
  go_enter Tryd.func96, Tryd.ntmps96
  by_cases h0 : p = []
  · subst h0
    go_wp2_with fail
    go_ret
    exact ⟨rfl, G0.out⟩
  · have hpos := List.length_pos_iff.2 h0
    have t0 : ((p.length : Int) == 0) = false := beq_eq_false_iff_ne.2 (by omega)
    have HF : Hid (keepT p = p.flatMap printL) := if_neg h0
    rw [HF.out]
    clear h0
    go_wp2_with fail
    go_loopw [5, 52] (fun v i wr => ∃ (k : Nat) (t : ByteArray), k ≤ p.length ∧ i = .int .i64 k ∧ v = .string t ∧ t = ⟨((p.take k).flatMap printL).toArray⟩ ∧ Gr w wr) (fun _ i _ => p.length - (intOf i).toNat)
    case atStart => exact ⟨0, ⟨#[]⟩, Nat.zero_le _, rfl, rfl, rfl, G0.out⟩
    case round =>
      obtain ⟨k, t, hk, rfl, rfl, ht, g⟩ := hrel
      have HT := Lib.hid ht; have G := Lib.hid g
      have htz : t.size = ((p.take k).flatMap printL).length := by rw [ht]; exact size_of' _
      have hbd := HBD.out k
      clear ht g
      by_cases hlt : k < p.length
      · obtain ⟨bn, on, rfl, hc⟩ := Is.addr (HP.out.mono G.out) hpos
        have ck := hc k hlt
        have hia : iAt p k = p[k] := by simp [iAt, List.getElem?_eq_getElem hlt]
        rw [hia] at ck
        have HPC := Lib.hid (HPR.out p[k] wr G.out (List.getElem_mem hlt))
        have hpz := HPZ.out p[k] (List.getElem_mem hlt)
        have HSN := Lib.hid (keepT_snoc p k hlt)
        clear hc hia
        generalize p[k] = n at *
        obtain ⟨fx, hfx⟩ : ∃ fx : ByteArray, fx = ⟨(printL n).toArray⟩ := ⟨_, rfl⟩
        have hfz : fx.size = (printL n).length := by rw [hfx]; exact size_of' _
        rw [show strc (printL n) = .string fx by rw [hfx]; rfl] at HPC
        have HX2 : Hid (t ++ fx = ⟨((p.take (k + 1)).flatMap printL).toArray⟩) := by
          show _ = _
          rw [HSN.out, HT.out, hfx]
          apply ByteArray.ext
          simp
        have l1 : ¬ 9223372036854775807 < t.size + fx.size := by omega
        clear hfx hfz htz hbd hpz
        go_wp2_with fail
        refine HPC.out.mono ?_
        rintro e w2 ⟨rfl, g2⟩
        have G2 := Lib.hid (G.out.trans g2)
        clear g2 ck
        go_wp2_with fail
        refine ⟨⟨k + 1, t ++ fx, by omega, by first | trivial | go_num, rfl, HX2.out, G2.out⟩, ?_⟩
        show p.length - ((k : Int) + 1).toNat < p.length - (k : Int).toNat
        omega
      · obtain rfl : k = p.length := by omega
        have HT2 : Hid (Value.string t = strc (p.flatMap printL)) := by
          show _ = _
          rw [HT.out, List.take_of_length_le (Nat.le_refl _)]; rfl
        go_wp2_with fail
        go_ret
        exact ⟨by rw [← HT2.out]; rfl, G.out⟩
/-! ### all signs -/
structure LnOk (d : LnD) : Prop where
  n : -9223372036854775808 ≤ d.n ∧ d.n ≤ 9223372036854775807
  t : -9223372036854775808 ≤ d.t ∧ d.t ≤ 9223372036854775807
  a : -9223372036854775808 ≤ d.a ∧ d.a ≤ 9223372036854775807
  e : -9223372036854775808 ≤ d.e ∧ d.e ≤ 9223372036854775807
  p : ∀ n ∈ d.p, -9223372036854775808 ≤ n ∧ n ≤ 9223372036854775807
  pl : d.p.length ≤ 100
  gl : d.g.length ≤ 1000
  il : d.i.length ≤ 1000
  bl : d.b.length ≤ 1000
theorem wordT_any (x : LnV) (s : Nat) (w : World) (ho : LnOk x.d) (hx : LnAt w x) (hT : Pow10 w) (hs : s = 110 ∨ s = 116 ∨ s = 97 ∨ s = 101 ∨ s = 107 ∨ s = 103 ∨ s = 105 ∨ s = 120) :
    Calls Tryd.prog 96 #[.agg x.arr, .int .i32 (s : Int)] w fun e w' => e = .returned (strc (wordS x.d s)) ∧ Gr w w' := by
  rcases hs with rfl | rfl | rfl | rfl | rfl | rfl | rfl | rfl
  · exact word_110 x w hT ho.n.1 ho.n.2
  · exact word_116 x w hT ho.t.1 ho.t.2
  · exact word_97 x w hT ho.a.1 ho.a.2
  · exact word_101 x w hT ho.e.1 ho.e.2
  · exact word_107 x w hx.p (by have := ho.pl; omega) hT ho.p
  · exact word_103 x w
  · exact word_105 x w
  · exact word_120 x w hx.b (by have := ho.bl; omega)
theorem wordS_len {d : LnD} (ho : LnOk d) (s : Nat) : (wordS d s).length ≤ 3000 := by
  unfold wordS
  split
  · have := printL_bd ho.n.2; omega
  · split
    · have := printL_bd ho.t.2; omega
    · split
      · have := printL_bd ho.a.2; omega
      · split
        · have := printL_bd ho.e.2; omega
        · split
          · have := ho.gl; omega
          · split
            · have := ho.il; omega
            · split
              · have := ho.bl; rw [hexP_len]; omega
              · unfold keepT
                split
                · simp
                · have := flat_len d.p (fun n hn => (ho.p n hn).2)
                  have := ho.pl
                  omega
end Go.Proofs.YtadenlhnfkccaaaDoor

/- ObOqC, ObOqD: one text. No condition. -/
/- Operations as lines: Tell. No condition. -/
namespace Go.Proofs.YtadenlhnfkccaaaDoor
open Go.RowKit
set_option linter.unusedVariables false
set_option linter.unusedSimpArgs false
theorem str_nil {p : List UInt8} : (⟨p.toArray⟩ : ByteArray) = ⟨#[]⟩ ↔ p = [] := by
  constructor
  · intro h
    have := congrArg (fun x : ByteArray => x.data.toList) h
    simpa using this
  · rintro rfl; rfl
theorem contains_any39 (ps : List (List UInt8)) (A : Option Addr) (n c : Nat) (w : World) (s : Ws w A n c ps) (hl : ps.length = n) (h0 : 0 < n) (hmax : n ≤ 9223372036854775807) :
    Calls Tryd.prog 39 #[.slice A n c, .string ⟨#[]⟩] w fun e w' => e = .returned (.bool (decide ([] ∈ ps))) ∧ w' = w := by
  obtain ⟨bk, ok, rfl, hc⟩ := Ws.addr (ps := ps) s h0
  have h := Tryd.slices_Contains_string bk ok n c (ps.map fun p => (⟨p.toArray⟩ : ByteArray)) ⟨#[]⟩ w (by rw [List.length_map]; omega) hmax (fun j hj => by
    rw [List.length_map] at hj
    have := hc j hj
    rw [this]
    simp [List.getD_eq_getElem?_getD, List.getElem?_eq_getElem hj, strc])
  have e : Lib.containsS ((ps.map fun p => (⟨p.toArray⟩ : ByteArray)).take n) ⟨#[]⟩ = decide ([] ∈ ps) := by
    rw [List.take_of_length_le (by rw [List.length_map]; omega)]
    apply Bool.eq_iff_iff.2
    rw [Lib.containsS_iff, decide_eq_true_eq, List.mem_map]
    constructor
    · rintro ⟨p, hp, e⟩
      rw [str_nil] at e
      exact e ▸ hp
    · intro h; exact ⟨[], h, rfl⟩
  rw [e] at h
  exact h
theorem join_any39 (ps : List (List UInt8)) (A : Option Addr) (n c : Nat) (w : World) (s : Ws w A n c ps) (hl : ps.length = n) (h0 : 0 < n) (hN : n ≤ 140737488355328) (hlen : (Lib.join ps [32]).length ≤ 140737488355328) :
    Calls Tryd.prog 26 #[.slice A n c, .string ⟨#[32]⟩] w fun e w' => e = .returned (strc (Lib.join ps [32])) ∧ Gr w w' := by
  have hcap := s.cap
  obtain ⟨bk, ok, rfl, hcl⟩ := Ws.addr (ps := ps) s h0
  have hxs2 : (ps.map fun p => (⟨p.toArray⟩ : ByteArray)).map (·.data.toList) = ps := by rw [List.map_map]; exact List.map_id'' (fun p => rfl) _
  have h := Tryd.strings_Join bk ok c (ps.map fun p => (⟨p.toArray⟩ : ByteArray)) ⟨#[32]⟩ w (fun j x hx => by
    rw [List.getElem?_map] at hx
    obtain ⟨p, hp, rfl⟩ := Option.map_eq_some_iff.1 hx
    obtain ⟨hj, rfl⟩ := List.getElem?_eq_some_iff.1 hp
    exact hcl j hj) (World.block_lt_of_cell? w _ (hcl 0 (by omega))) (by rw [List.length_map, hl]; exact hN) (by rw [List.length_map, hl]; exact hcap) (by rw [hxs2]; exact hlen)
  rw [hxs2, List.length_map, hl] at h
  exact h
theorem wordL_len (k : Nat) : (wordL k).length ≤ 7 := by
  rcases Nat.lt_or_ge k 15 with h | h
  · rcases show k = 0 ∨ k = 1 ∨ k = 2 ∨ k = 3 ∨ k = 4 ∨ k = 5 ∨ k = 6 ∨ k = 7 ∨ k = 8 ∨ k = 9 ∨ k = 10 ∨ k = 11 ∨ k = 12 ∨ k = 13 ∨ k = 14 by omega with rfl | rfl | rfl | rfl | rfl | rfl | rfl | rfl | rfl | rfl | rfl | rfl | rfl | rfl | rfl <;> decide +kernel
  · rw [wordL_out h]; decide
theorem wordT_len (f : Int) : (wordT f).length ≤ 7 := by
  unfold wordT
  split
  · decide
  · exact wordL_len _
theorem joinL_len (c : UInt8) (B : Nat) : ∀ ps : List (List UInt8), (∀ p ∈ ps, p.length ≤ B) → (Lib.join ps [c]).length ≤ ps.length * (B + 1)
  | [], _ => by simp [Lib.join]
  | p :: r, h => by
    rw [Lib.join_cons]
    have h1 := h p List.mem_cons_self
    have h2 : ∀ r : List (List UInt8), (∀ p ∈ r, p.length ≤ B) → (Lib.joinTail [c] r).length ≤ r.length * (B + 1) := by
      intro r
      induction r with
      | nil => intro _; simp [Lib.joinTail]
      | cons q r ih =>
        intro hq
        have i1 := ih fun x hx => hq x (List.mem_cons_of_mem _ hx)
        have i2 := hq q List.mem_cons_self
        simp only [Lib.joinTail, List.map_cons, List.flatten_cons, List.length_append, List.length_cons, List.length_nil, Nat.add_mul] at i1 ⊢
        omega
    have h3 := h2 r fun x hx => h x (List.mem_cons_of_mem _ hx)
    simp only [List.length_append, List.length_cons, Nat.add_mul] at h3 ⊢
    omega
theorem tellA_len (a : AnD) (hb : a.b.length ≤ 10000) (hn : a.n.length ≤ 10000) (ht : a.t.length ≤ 10000) : (Lib.join (tellA a) [32]).length ≤ 300000000 ∧ (tellA a).length ≤ 10003 := by
  have h1 := joinL_len 32 20001 (tellA a) (by
    intro p hp
    unfold tellA tellW at hp
    rcases List.mem_append.1 hp with hp | hp
    · rcases List.mem_append.1 hp with hp | hp
      · rcases List.mem_cons.1 hp with rfl | hp
        · have := wordT_len a.f; omega
        · obtain ⟨n, _, rfl⟩ := List.mem_map.1 hp
          have := countT_len n; omega
      · split at hp
        · simp at hp
        · simp only [List.mem_singleton] at hp
          subst hp
          simp only [List.length_cons, hexP_len]; omega
    · split at hp
      · simp at hp
      · simp only [List.mem_singleton] at hp
        subst hp
        simp only [List.length_cons]; omega)
  have h2 : (tellA a).length ≤ 10003 := by
    unfold tellA tellW
    simp only [List.length_append, List.length_cons, List.length_map]
    split <;> split <;> simp <;> omega
  exact ⟨by have := Nat.mul_le_mul_right 20002 h2; omega, h2⟩
set_option maxRecDepth 100000 in
set_option maxHeartbeats 4000000 in
theorem tell_any (a : AnD) (A B : Option Addr) (m c p q : Nat) (w : World) (hA : Bs w A m c a.b) (hB : Is w B p q a.n) (hb : a.b.length ≤ 10000) (hn : a.n.length ≤ 10000) (ht : a.t.length ≤ 10000) (hr : ∀ x ∈ a.n, -9223372036854775808 ≤ x ∧ x ≤ 9223372036854775807) (hT : Pow10 w) :
    Calls Tryd.prog 14 #[.agg (anC a A m c B p q)] w fun e w' => e = .returned (strc (tellL a)) ∧ Gr w w' := by
  have HW : Hid (∀ wr, Calls Tryd.prog 37 #[.int .i64 a.f] wr fun e w' => e = .returned (strc (wordT a.f)) ∧ Gr wr w') := fun wr => word_any a.f wr
  have HX : Hid (∀ wq, Gr (w.alloc (.cells (anC a A m c B p q) 37)) wq → ∀ (i : Nat) (v : Value), (anC a A m c B p q).toList[i]? = some v → wq.cell? ⟨w.heap.size, i, none⟩ = some v) := fun wq g i v h => (((Blk.new w 37 (anC a A m c B p q)).mono g).cell i).trans h
  have G0 : Hid (Gr w (w.alloc (.cells (anC a A m c B p q) 37))) := Gr.alloc w _
  have k0 := HX.out _ (Gr.refl _) 0 _ rfl
  obtain ⟨x, hx⟩ : ∃ x : ByteArray, strc (wordT a.f) = .string x := ⟨_, rfl⟩
  rw [hx] at HW
  go_enter Tryd.func14, Tryd.ntmps14
  go_wp2_with fail
  refine (HW.out _).mono ?_
  rintro e w1 ⟨rfl, g1⟩
  have G1 := Lib.hid g1; clear g1 k0
  have gB : Gr w1 (w1.alloc (.cells #[.string x] 9)) := Gr.alloc _ _
  have k0 := HX.out _ (G1.out.trans gB) 0 _ rfl
  have k2 := HX.out _ (G1.out.trans gB) 2 _ rfl
  by_cases hf : a.f = 0
  · have t1 : (a.f != 0) = false := by rw [bne_eq_false_iff_eq]; exact hf
    have k1 := HX.out _ (G1.out.trans gB) 1 _ rfl
    have k3 := HX.out _ (G1.out.trans gB) 3 _ rfl
    have hpl := hB.len
    have hp1000 : p ≤ 10000 := by omega
    have hpm := hB.max
    have hpc := hB.cap
    have GW1 : Hid (Gr w w1) := G0.out.trans G1.out
    have O0 : Hid (Own w1 (w1.alloc (.cells #[.string x] 9)) 9 1 (.slice (some ⟨w1.heap.size, 0, none⟩) 1 1) 1 [.string x]) := (Blk.new w1 9 #[.string x]).own (w0 := w1) (size := 1) (n := 1) (Nat.le_refl _) (Gr.alloc w1 _) rfl (by decide)
    have HBB := Lib.hid hB
    have HAA := Lib.hid hA; have HBL := Lib.hid hb; have HNL := Lib.hid hn; have HTL := Lib.hid ht
    have HRR := Lib.hid hr; have HPT := Lib.hid hT
    clear hB hr hT hA hb hn ht
    go_wp2_with fail
    clear k0 k1 k2 k3 gB
    go_loopw [3, 19] (fun v i wr => ∃ k : Nat, k ≤ p ∧ i = .int .i64 k ∧ Own w1 wr 9 1 v (k + 1) ((wordT a.f :: (a.n.take k).map countT).map strc)) (fun _ i _ => p - (intOf i).toNat)
    case atStart => exact ⟨0, by omega, rfl, by simpa [hx] using O0.out⟩
    case round =>
      obtain ⟨k, hk, rfl, ow⟩ := hrel
      have OW := Lib.hid ow; clear ow
      have GW : Hid (Gr w wr) := Below.trans GW1.out (OW.out.below.mono GW1.out.size)
      by_cases hlt : k < p
      · obtain ⟨bn, on, rfl, hc⟩ := Is.addr (HBB.out.mono GW.out) (by omega)
        have ck := hc k hlt
        have hkl : k < a.n.length := by omega
        have hia : iAt a.n k = a.n[k] := by simp [iAt, List.getElem?_eq_getElem hkl]
        rw [hia] at ck
        have hrk := HRR.out _ (List.getElem_mem hkl)
        have HCN := Lib.hid (count_any a.n[k] wr hrk.1 hrk.2 (HPT.out.mono GW.out))
        have hst : Hid ((wordT a.f :: (a.n.take (k + 1)).map countT).map strc = (wordT a.f :: (a.n.take k).map countT).map strc ++ [strc (countT a.n[k])]) := by
          show _ = _
          rw [List.take_succ_eq_append_getElem hkl, List.map_append, ← List.cons_append, List.map_append]
          rfl
        clear hc hia hrk
        generalize a.n[k] = nk at *
        obtain ⟨cx, hcx⟩ : ∃ cx : ByteArray, strc (countT nk) = .string cx := ⟨_, rfl⟩
        rw [hcx] at HCN hst
        clear hcx
        go_wp2_with fail
        refine HCN.out.mono ?_
        rintro e w4 ⟨rfl, g4⟩
        have O4 := Lib.hid (OW.out.mono g4); clear g4
        go_wp2_with (at_builtin; refine wpList_push rfl (.tmp 23) (.tmp 26) 65 rfl tWords rfl O4.out #[.string cx] rfl rfl (by intro u hu; simp at hu; subst hu; rfl) (by omega) ?_; intro v1 wn o1)
        have OE : Hid (Own w1 wn 9 1 v1 (k + 1 + 1) ((wordT a.f :: (a.n.take (k + 1)).map countT).map strc)) := by
          show Own _ _ _ _ _ _ _
          rw [hst.out]
          exact o1
        clear o1
        go_wp2_with fail
        refine ⟨⟨k + 1, by omega, by first | trivial | go_num, OE.out⟩, ?_⟩
        show p - ((k : Int) + 1).toNat < p - (k : Int).toNat
        omega
      · obtain rfl : k = p := by omega
        have OWF : Hid (Own w1 wr 9 1 u3 (k + 1) ((tellW a).map strc)) := by
          show Own _ _ _ _ _ _ _
          have := OW.out
          rw [List.take_of_length_le (by omega)] at this
          exact this
        obtain ⟨A5, c5, rfl, s5⟩ := OWF.out.slice
        have hcap5 := s5.cap
        have hlw : (tellW a).length = k + 1 := by unfold tellW; simp; omega
        have HCT := Lib.hid (contains_any39 (tellW a) A5 (k + 1) c5 wr s5 hlw (by omega) (by have := HNL.out; omega))
        clear s5 hcap5
        have GX : Hid (Gr (w.alloc (.cells (anC a A m c B k q) 37)) wr) := Below.trans G1.out (OWF.out.below.mono G1.out.size)
        have c1 := HX.out _ GX.out 1 _ rfl
        have c3 := HX.out _ GX.out 3 _ rfl
        by_cases hmt : [] ∈ tellW a
        · have HF : Hid (tellL a = []) := by show _ = _; unfold tellL; rw [if_neg (by simp [hf]), if_pos (.inl hmt)]
          rw [decide_eq_true hmt] at HCT
          go_wp2_with fail
          refine HCT.out.mono ?_
          rintro e w4 ⟨rfl, rfl⟩
          go_wp2_with fail
          go_ret
          exact ⟨by rw [HF.out]; rfl, GW.out⟩
        · rw [decide_eq_false hmt] at HCT
          obtain ⟨tx, htx⟩ : ∃ tx : ByteArray, tx = ⟨a.t.toArray⟩ := ⟨_, rfl⟩
          have htz : tx.size = a.t.length := by rw [htx]; exact size_of' _
          have hst : strc a.t = .string tx := by rw [htx]; rfl
          have hte : tx = ⟨#[]⟩ ↔ a.t = [] := by rw [htx]; exact str_nil
          obtain ⟨hx, hhx⟩ : ∃ hx : ByteArray, hx = ⟨(hexP a.b).toArray⟩ := ⟨_, rfl⟩
          have hhz : hx.size = 2 * a.b.length := by rw [hhx, size_of', hexP_len]
          have HHX : Hid (∀ wr, Gr w wr → Calls Tryd.prog 41 #[.slice A m c] wr fun e w' => e = .returned (.string hx) ∧ Gr wr w') := fun wr g => by
            rw [hhx]; exact hexPrint_any A m c a.b wr (HAA.out.mono g) (by have := HAA.out.len; have := HBL.out; omega)
          have HPP := Lib.hid (fun wr => opPart_any a.t wr (by have := HTL.out; omega))
          have l1 : ¬ 9223372036854775807 < 1 + hx.size := by have := HBL.out; omega
          have l2 : ¬ 9223372036854775807 < 1 + tx.size := by have := HTL.out; omega
          have HS1 : Hid (.string (⟨#[35]⟩ ++ hx) = strc (35 :: hexP a.b)) := by
            show _ = _
            rw [hhx]
            unfold strc
            congr 1
          have HS2 : Hid (.string (⟨#[61]⟩ ++ tx) = strc (61 :: a.t)) := by
            show _ = _
            rw [htx]
            unfold strc
            congr 1
          have HML := Lib.hid HAA.out.len
          have htl : tx.toList = a.t := by rw [htx, ByteArray.toList_eq]
          clear hhx htx hhz htz c1
          rw [hst] at HPP c3
          have HST := Lib.hid hst
          have HLW := Lib.hid hlw
          clear hst hlw
          by_cases ht0 : a.t = []
          · have te : (tx.toList == ([] : List UInt8)) = true := by rw [htl, ht0]; rfl
            have HF : Hid (tellL a = Lib.join (tellA a) [32]) := by show _ = _; unfold tellL; rw [if_neg (by simp [hf]), if_neg (by simp [hmt, ht0])]
            clear htl
            go_wp2_with fail
            refine HCT.out.mono ?_
            rintro e w4 ⟨rfl, rfl⟩
            by_cases hb0 : a.b = []
            · have HTA : Hid (tellA a = tellW a) := by show _ = _; unfold tellA; rw [if_pos hb0, if_pos ht0]; simp
              have tm : ¬ 0 < m := by have := HML.out; rw [hb0] at this; simp at this; omega
              have HLA : Hid ((tellA a).length = k + 1) := by show _ = _; rw [HTA.out]; exact HLW.out
              have OJ : Hid (Own w1 w4 9 1 (.slice A5 (k + 1) c5) (k + 1) ((tellA a).map strc)) := by
                have := OWF.out
                show Own _ _ _ _ _ _ _
                rw [HTA.out]; exact this
              have GZ := GX
              have c1 := HX.out _ GZ.out 1 _ rfl
              clear HTA
              have HLN := Lib.hid (tellA_len a HBL.out HNL.out HTL.out)
              obtain ⟨A6, c6, e6, s6⟩ := OJ.out.slice
              first
                | subst e6
                | (injection e6 with i1 _ i2; subst i1 i2)
              have HJ := Lib.hid (join_any39 (tellA a) _ (k + 1) _ _ s6 HLA.out (by omega) (by have := HNL.out; omega) (by have := HLN.out.1; omega))
              clear s6 HLN
              go_wp2_with fail
              refine HJ.out.mono ?_
              rintro e w8 ⟨rfl, g8⟩
              have G8 := Lib.hid (G0.out.trans (GZ.out.trans g8)); clear g8
              go_wp2_with fail
              go_ret
              exact ⟨by rw [HF.out]; rfl, G8.out⟩
            · have HTA : Hid (tellA a = tellW a ++ [35 :: hexP a.b]) := by show _ = _; unfold tellA; rw [if_neg hb0, if_pos ht0]; simp
              have tm : 0 < m := by have := HML.out; have := List.length_pos_iff.2 hb0; omega
              have HLA : Hid ((tellA a).length = k + 1 + 1) := by show _ = _; rw [HTA.out, List.length_append, HLW.out]; rfl
              have c1 := HX.out _ GX.out 1 _ rfl
              go_wp2_with fail
              refine (HHX.out _ (G0.out.trans (GX).out)).mono ?_
              rintro e w5 ⟨rfl, g5⟩
              have O5 := Lib.hid ((OWF).out.mono g5)
              clear g5 c3
              go_wp2_with (at_builtin; go_loud (refine wpList_push rfl (.tmp 46) (.tmp 51) 65 rfl tWords rfl O5.out #[Value.string ((⟨#[35]⟩ : ByteArray) ++ hx)] rfl rfl (by intro u hu; simp at hu; subst hu; rfl) (by omega) ?_); intro v6 w6 o6; have G6 : Hid (Gr (w.alloc (.cells (anC a A m c B k q) 37)) w6) := Below.trans G1.out (o6.below.mono G1.out.size); have c3 := HX.out _ G6.out 3 _ rfl; rw [HST.out] at c3)
              have O6 : Hid (Own w1 w6 9 1 v6 (k + 1 + 1) ((tellW a ++ [35 :: hexP a.b]).map strc)) := by
                show Own _ _ _ _ _ _ _
                rw [List.map_append, List.map_cons, List.map_nil, ← HS1.out]
                exact o6
              clear o6 O5
              have GZ := G6
              have OJ : Hid (Own w1 w6 9 1 v6 (k + 1 + 1) ((tellA a).map strc)) := by
                have := O6.out
                show Own _ _ _ _ _ _ _
                rw [HTA.out]; exact this
              clear HTA O6
              have HLN := Lib.hid (tellA_len a HBL.out HNL.out HTL.out)
              obtain ⟨A6, c6, e6, s6⟩ := OJ.out.slice
              first
                | subst e6
                | (injection e6 with i1 _ i2; subst i1 i2)
              have HJ := Lib.hid (join_any39 (tellA a) _ (k + 1 + 1) _ _ s6 HLA.out (by omega) (by have := HNL.out; omega) (by have := HLN.out.1; omega))
              clear s6 HLN
              go_wp2_with fail
              refine HJ.out.mono ?_
              rintro e w8 ⟨rfl, g8⟩
              have G8 := Lib.hid (G0.out.trans (GZ.out.trans g8)); clear g8
              go_wp2_with fail
              go_ret
              exact ⟨by rw [HF.out]; rfl, G8.out⟩
          · have te : (tx.toList == ([] : List UInt8)) = false := by rw [htl]; exact beq_false_of_ne ht0
            clear htl
            have HPT2 := HPP
            obtain ⟨px, hpx⟩ : ∃ px : ByteArray, strc (partT a.t) = .string px := ⟨_, rfl⟩
            have hpl : px.toList = partT a.t := by
              unfold strc at hpx
              injection hpx with hpx
              rw [← hpx, ByteArray.toList_eq]
            rw [hpx] at HPP
            clear hpx HPT2
            go_wp2_with fail
            refine HCT.out.mono ?_
            rintro e w4 ⟨rfl, rfl⟩
            go_wp2_with fail
            refine (HPP.out _).mono ?_
            rintro e w2 ⟨rfl, g2⟩
            have O2 := Lib.hid (OWF.out.mono g2)
            have G2 := Lib.hid (GX.out.trans g2)
            have GW2 := Lib.hid (GW.out.trans g2)
            clear g2 c3
            have c1 := HX.out _ G2.out 1 _ rfl
            have c3 := HX.out _ G2.out 3 _ rfl
            rw [HST.out] at c3
            by_cases hpt : partT a.t = []
            · have tp : (px.toList == ([] : List UInt8)) = true := by rw [hpl, hpt]; rfl
              have HF : Hid (tellL a = []) := by show _ = _; unfold tellL; rw [if_neg (by simp [hf]), if_pos (.inr ⟨ht0, hpt⟩)]
              clear hpl
              go_wp2_with fail
              go_ret
              exact ⟨by rw [HF.out]; rfl, GW2.out⟩
            · have tp : (px.toList == ([] : List UInt8)) = false := by rw [hpl]; exact beq_false_of_ne hpt
              have HF : Hid (tellL a = Lib.join (tellA a) [32]) := by show _ = _; unfold tellL; rw [if_neg (by simp [hf]), if_neg (by simp [hmt, hpt])]
              clear hpl
              by_cases hb0 : a.b = []
              · have HTA : Hid (tellA a = tellW a ++ [61 :: a.t]) := by show _ = _; unfold tellA; rw [if_pos hb0, if_neg ht0]; simp
                have tm : ¬ 0 < m := by have := HML.out; rw [hb0] at this; simp at this; omega
                have HLA : Hid ((tellA a).length = k + 1 + 1) := by show _ = _; rw [HTA.out, List.length_append, HLW.out]; rfl
                go_wp2_with (at_builtin; go_loud (refine wpList_push rfl (.tmp 56) (.tmp 60) 65 rfl tWords rfl (O2).out #[Value.string ((⟨#[61]⟩ : ByteArray) ++ tx)] rfl rfl (by intro u hu; simp at hu; subst hu; rfl) (by omega) ?_); intro v7 w7 o7)
                have GZ : Hid (Gr (w.alloc (.cells (anC a A m c B k q) 37)) w7) := Below.trans G1.out (o7.below.mono G1.out.size)
                have OJ : Hid (Own w1 w7 9 1 v7 (k + 1 + 1) ((tellA a).map strc)) := by
                  show Own _ _ _ _ _ _ _
                  rw [HTA.out, List.map_append, List.map_cons, List.map_nil, ← HS2.out]
                  exact o7
                clear o7
                have HLN := Lib.hid (tellA_len a HBL.out HNL.out HTL.out)
                obtain ⟨A6, c6, e6, s6⟩ := OJ.out.slice
                first
                  | subst e6
                  | (injection e6 with i1 _ i2; subst i1 i2)
                have HJ := Lib.hid (join_any39 (tellA a) _ (k + 1 + 1) _ _ s6 HLA.out (by omega) (by have := HNL.out; omega) (by have := HLN.out.1; omega))
                clear s6 HLN
                go_wp2_with fail
                refine HJ.out.mono ?_
                rintro e w8 ⟨rfl, g8⟩
                have G8 := Lib.hid (G0.out.trans (GZ.out.trans g8)); clear g8
                go_wp2_with fail
                go_ret
                exact ⟨by rw [HF.out]; rfl, G8.out⟩
              · have HTA : Hid (tellA a = (tellW a ++ [35 :: hexP a.b]) ++ [61 :: a.t]) := by show _ = _; unfold tellA; rw [if_neg hb0, if_neg ht0]
                have tm : 0 < m := by have := HML.out; have := List.length_pos_iff.2 hb0; omega
                have HLA : Hid ((tellA a).length = k + 1 + 1 + 1) := by show _ = _; rw [HTA.out, List.length_append, List.length_append, HLW.out]; rfl
                go_wp2_with fail
                refine (HHX.out _ (G0.out.trans (G2).out)).mono ?_
                rintro e w5 ⟨rfl, g5⟩
                have O5 := Lib.hid ((O2).out.mono g5)
                clear g5 c3
                go_wp2_with (at_builtin; first | (refine wpList_push rfl (.tmp 46) (.tmp 51) 65 rfl tWords rfl O5.out #[Value.string ((⟨#[35]⟩ : ByteArray) ++ hx)] rfl rfl (by intro u hu; simp at hu; subst hu; rfl) (by omega) ?_; intro v6 w6 o6; have G6 : Hid (Gr (w.alloc (.cells (anC a A m c B k q) 37)) w6) := Below.trans G1.out (o6.below.mono G1.out.size); have c3 := HX.out _ G6.out 3 _ rfl; rw [HST.out] at c3; have O6 : Hid (Own w1 w6 9 1 v6 (k + 1 + 1) ((tellW a ++ [35 :: hexP a.b]).map strc)) := (by show Own _ _ _ _ _ _ _; rw [List.map_append, List.map_cons, List.map_nil, ← HS1.out]; exact o6); clear o6 O5) | (go_loud (refine wpList_push rfl (.tmp 56) (.tmp 60) 65 rfl tWords rfl O6.out #[Value.string ((⟨#[61]⟩ : ByteArray) ++ tx)] rfl rfl (by intro u hu; simp at hu; subst hu; rfl) (by omega) ?_); intro v7 w7 o7))
                have GZ : Hid (Gr (w.alloc (.cells (anC a A m c B k q) 37)) w7) := Below.trans G1.out (o7.below.mono G1.out.size)
                have OJ : Hid (Own w1 w7 9 1 v7 (k + 1 + 1 + 1) ((tellA a).map strc)) := by
                  show Own _ _ _ _ _ _ _
                  rw [HTA.out, List.map_append, List.map_cons, List.map_nil, ← HS2.out]
                  exact o7
                clear o7
                have HLN := Lib.hid (tellA_len a HBL.out HNL.out HTL.out)
                obtain ⟨A6, c6, e6, s6⟩ := OJ.out.slice
                first
                  | subst e6
                  | (injection e6 with i1 _ i2; subst i1 i2)
                have HJ := Lib.hid (join_any39 (tellA a) _ (k + 1 + 1 + 1) _ _ s6 HLA.out (by omega) (by have := HNL.out; omega) (by have := HLN.out.1; omega))
                clear s6 HLN
                go_wp2_with fail
                refine HJ.out.mono ?_
                rintro e w8 ⟨rfl, g8⟩
                have G8 := Lib.hid (G0.out.trans (GZ.out.trans g8)); clear g8
                go_wp2_with fail
                go_ret
                exact ⟨by rw [HF.out]; rfl, G8.out⟩
  · have t1 : (a.f != 0) = true := bne_iff_ne.2 hf
    have HF : Hid (tellL a = wordT a.f) := if_pos hf
    have cx : (w1.alloc (.cells #[.string x] 9)).cell? ⟨w1.heap.size, 0, none⟩ = some (.string x) := by rw [(Blk.new w1 9 #[.string x]).cell]; rfl
    have HXX := Lib.hid hx
    clear hx
    go_wp2_with fail
    go_ret
    exact ⟨by rw [HF.out, HXX.out]; rfl, (G0.out.trans G1.out).trans gB⟩
end Go.Proofs.YtadenlhnfkccaaaDoor
/- Operations as lines: the chapter's example; is an answer small? No condition. -/
namespace Go.Proofs.YtadenlhnfkccaaaDoor
open Go.RowKit
set_option linter.unusedVariables false
set_option linter.unusedSimpArgs false
def look0 : OpD := ⟨9, [97], [], 0, 0, 0, 0, []⟩
theorem parse_look : parseO [108, 111, 111, 107, 32, 97] = (look0, 0) := by kernel_rfl
def an321 : AnD := ⟨0, [], [3, 2, 1], []⟩
theorem tell_321 : tellL an321 = [111, 107, 32, 51, 32, 50, 32, 49] := by decide +kernel
set_option maxRecDepth 100000 in
set_option maxHeartbeats 2000000 in
theorem alive39_any (w : World) (hT : Pow10 w) (hM : MLen w) : Calls Tryd.prog 7 #[] w fun e w' => e = .returned (.bool true) ∧ Gr w w' := by
  have HP : Hid (Calls Tryd.prog 10 #[.string ⟨#[108, 111, 111, 107, 32, 97]⟩] w (RetOp w (parseO [108, 111, 111, 107, 32, 97]))) := opParse_any [108, 111, 111, 107, 32, 97] w (by decide) hM hT
  have HT : Hid (∀ wr B p q, Gr w wr → Is wr B p q [3, 2, 1] → Calls Tryd.prog 14 #[.agg #[.int .i64 0, .slice none 0 0, .slice B p q, .string ⟨#[]⟩]] wr fun e w' => e = .returned (.string ⟨#[111, 107, 32, 51, 32, 50, 32, 49]⟩) ∧ Gr wr w') := fun wr B p q g h => by
    have := tell_any an321 none B 0 0 p q wr (Sl.nil _ _) h (by decide) (by decide) (by decide) (by decide) (hT.mono g)
    rw [tell_321] at this
    exact this
  rw [parse_look] at HP
  clear hT hM
  go_enter Tryd.func7, Tryd.ntmps7
  go_wp2_with fail
  refine HP.out.mono ?_
  rintro e w5 ⟨A2, m2, c2, rfl, sx, g5⟩
  have HYB := setRow_heap (w5.alloc (.cells #[.int .i64 0, .string ⟨#[]⟩, .string ⟨#[]⟩, .int .i64 0, .int .i64 0, .int .i64 0, .int .i64 0, .slice none 0 0] 24)) w5.heap.size _ (opC look0 A2 m2 c2) _ _ (heap_alloc_new w5 _)
  have GS0 : Gr w5 ((w5.alloc (.cells #[.int .i64 0, .string ⟨#[]⟩, .string ⟨#[]⟩, .int .i64 0, .int .i64 0, .int .i64 0, .int .i64 0, .slice none 0 0] 24)).setRow w5.heap.size (opC look0 A2 m2 c2)) := below_row39 ((Below.refl _ _).alloc (Nat.le_refl _) _) (Nat.le_refl _) _
  have GX := Lib.hid (g5.trans GS0)
  have HY8 : Hid (∀ (i : Nat) (v : Value), (opC look0 A2 m2 c2).toList[i]? = some v → ((w5.alloc (.cells #[.int .i64 0, .string ⟨#[]⟩, .string ⟨#[]⟩, .int .i64 0, .int .i64 0, .int .i64 0, .int .i64 0, .slice none 0 0] 24)).setRow w5.heap.size (opC look0 A2 m2 c2)).cell? ⟨w5.heap.size, i, none⟩ = some v) := fun i v h => ((show Blk ((w5.alloc (.cells #[.int .i64 0, .string ⟨#[]⟩, .string ⟨#[]⟩, .int .i64 0, .int .i64 0, .int .i64 0, .int .i64 0, .slice none 0 0] 24)).setRow w5.heap.size (opC look0 A2 m2 c2)) w5.heap.size 24 (opC look0 A2 m2 c2).toList from HYB).cell i).trans h
  have e0 := HY8.out 0 (.int .i64 9) rfl
  have e1 := HY8.out 1 (.string ⟨#[97]⟩) rfl
  clear HYB GS0 g5 sx
  go_wp2_with (refine wpList_store_row rfl 24 (.tmp 1) (.tmp 5) rfl w5.heap.size (opC look0 A2 m2 c2) rfl rfl 24 #[.int .i64 0, .string ⟨#[]⟩, .string ⟨#[]⟩, .int .i64 0, .int .i64 0, .int .i64 0, .int .i64 0, .slice none 0 0] (by exact heap_alloc_new w5 _) opSize rfl (opOne _ _ _ _) ?_)
  obtain ⟨W, hW⟩ : ∃ W, W = ((w5.alloc (.cells #[.int .i64 0, .string ⟨#[]⟩, .string ⟨#[]⟩, .int .i64 0, .int .i64 0, .int .i64 0, .int .i64 0, .slice none 0 0] 24)).setRow w5.heap.size (opC look0 A2 m2 c2)) := ⟨_, rfl⟩
  have hsz : W.heap.size = w5.heap.size + 1 := by rw [hW]; simp [World.setRow]
  rw [← hW] at GX ⊢
  have hb := Blk.new W 3 #[.int .i64 3, .int .i64 2, .int .i64 1]
  rw [hsz] at hb
  have G3 := Lib.hid (GX.out.trans (Gr.alloc W (.cells #[.int .i64 3, .int .i64 2, .int .i64 1] 3)))
  refine (HT.out _ _ _ _ G3.out ⟨rfl, Nat.le_refl _, by decide, fun _ => ⟨_, 0, rfl, fun j u hu => by rw [Nat.zero_add]; exact (hb.cell j).trans hu⟩⟩).mono ?_
  rintro e w6 ⟨rfl, g6⟩
  have G6 := Lib.hid (G3.out.trans g6)
  clear g6 hb hW e0 e1 HY8
  go_wp2_with fail
  go_ret
  exact ⟨rfl, G6.out⟩
set_option maxRecDepth 100000 in
theorem light39_any (a : AnD) (A B : Option Addr) (m c p q : Nat) (w : World) (hA : Bs w A m c a.b) (hB : Is w B p q a.n) :
    Calls Tryd.prog 13 #[.agg (anC a A m c B p q)] w fun e w' => e = .returned (.bool (decide (a.b.length ≤ 100) && decide (a.n.length ≤ 20) && decide (a.t.length ≤ 100))) ∧ Gr w w' := by
  have hm := hA.len
  have hp := hB.len
  have HX : Hid (∀ wq, Gr (w.alloc (.cells (anC a A m c B p q) 37)) wq → ∀ (i : Nat) (v : Value), (anC a A m c B p q).toList[i]? = some v → wq.cell? ⟨w.heap.size, i, none⟩ = some v) := fun wq g i v h => (((Blk.new w 37 (anC a A m c B p q)).mono g).cell i).trans h
  have G0 : Hid (Gr w (w.alloc (.cells (anC a A m c B p q) 37))) := Gr.alloc w _
  have c1 := HX.out _ (Gr.refl _) 1 _ rfl
  have c2 := HX.out _ (Gr.refl _) 2 _ rfl
  have c3 := HX.out _ (Gr.refl _) 3 _ rfl
  obtain ⟨t, ht⟩ : ∃ t : ByteArray, t = ⟨a.t.toArray⟩ := ⟨_, rfl⟩
  have htz : t.size = a.t.length := by rw [ht]; exact size_of' _
  have hst : strc a.t = .string t := by rw [ht]; rfl
  rw [hm, hp, ← htz]
  rw [hst] at c3
  clear hA hB HX hm hp htz hst ht
  go_enter Tryd.func13, Tryd.ntmps13
  have dI : ∀ n k : Nat, decide ((n : Int) ≤ (k : Int)) = decide (n ≤ k) := fun n k => by
    by_cases h : n ≤ k
    · rw [decide_eq_true h, decide_eq_true (by omega)]
    · rw [decide_eq_false h, decide_eq_false (by omega)]
  by_cases h1 : m ≤ 100
  · by_cases h2 : p ≤ 20
    · go_wp2_with fail
      go_ret
      refine ⟨?_, G0.out⟩
      rw [decide_eq_true h1, decide_eq_true h2]
      exact congrArg (fun b => Ending.returned (.bool b)) (dI t.size 100)
    · go_wp2_with fail
      go_ret
      exact ⟨rfl, G0.out⟩
  · go_wp2_with fail
    go_ret
    exact ⟨rfl, G0.out⟩
end Go.Proofs.YtadenlhnfkccaaaDoor

/- Lines of scripts: what a line's text would be. No condition. -/
namespace Go.Proofs.YtadenlhnfkccaaaDoor
open Go.RowKit
set_option linter.unusedVariables false
set_option linter.unusedSimpArgs false
def OpLt (o : OpD) : Prop := OpOk o ∧ o.g.length ≤ 1000 ∧ o.i.length ≤ 1000
theorem signsW : ∀ k s, s ∈ scrS k → s.toNat = 110 ∨ s.toNat = 116 ∨ s.toNat = 97 ∨ s.toNat = 101 ∨ s.toNat = 107 ∨ s.toNat = 103 ∨ s.toNat = 105 ∨ s.toNat = 120 := by
  intro k s h
  match k, h with
  | 2, h => simp [scrS] at h; subst h; decide
  | 3, h => simp [scrS] at h; rcases h with rfl | rfl | rfl <;> decide
  | 5, h => simp [scrS] at h; rcases h with rfl | rfl | rfl <;> decide
  | 7, h => simp [scrS] at h; rcases h with rfl | rfl | rfl <;> decide
  | 0, h => simp [scrS] at h
  | 1, h => simp [scrS] at h
  | 4, h => simp [scrS] at h
  | 6, h => simp [scrS] at h
  | k + 8, h => simp [scrS] at h
theorem scrS_lenW (k : Nat) : (scrS k).length ≤ 3 := by
  match k with
  | 0 | 1 | 2 | 3 | 4 | 5 | 6 | 7 => simp [scrS]
  | k + 8 => simp [scrS]
theorem scrW_len (k : Nat) : (scrW k).length ≤ 6 := by
  match k with
  | 0 | 1 | 2 | 3 | 4 | 5 | 6 | 7 | 8 => simp [scrW]
  | k + 9 => simp [scrW]
def textW (d : LnD) (K : Nat) : List (List UInt8) := scrW K :: (scrS K).map fun s => wordS d s.toNat
theorem textW_len {d : LnD} (ho : LnOk d) (K : Nat) : (Lib.join (textW d K) [32]).length ≤ 20000 := by
  have h1 := joinL_len 32 3000 (textW d K) (by
    intro p hp
    rcases List.mem_cons.1 hp with rfl | hp
    · have := scrW_len K; omega
    · obtain ⟨s, _, rfl⟩ := List.mem_map.1 hp
      exact wordS_len ho s.toNat)
  have h2 : (textW d K).length ≤ 4 := by
    have := scrS_lenW K
    simp only [textW, List.length_cons, List.length_map]; omega
  have := Nat.mul_le_mul_right 3001 h2
  omega
theorem printO_lenS {o : OpD} (hg : o.g.length ≤ 1000) (hi : o.i.length ≤ 1000) : (printO o).1.length ≤ 5000 := by
  rw [printO_eq]
  split
  · have := lineTo_len o hg hi _ (Nat.le_refl (formS (formOf o)).length)
    have h4 := formS_len (formOf o)
    have h5 : (formS (formOf o)).length * 1001 ≤ 4 * 1001 := Nat.mul_le_mul_right _ h4
    show (lineTo _ _ _).length ≤ _
    omega
  · exact Nat.zero_le _
set_option maxRecDepth 100000 in
set_option maxHeartbeats 4000000 in
theorem text_any (x : LnV) (w : World) (ho : LnOk x.d) (hop : OpLt x.d.o) (hx : LnAt w x) (hT : Pow10 w) (hM : MLen w) :
    Calls Tryd.prog 79 #[.agg x.arr] w fun e w' => e = .returned (strc (textT x.d)) ∧ Gr w w' := by
  have HC : Hid (∀ wq, Gr (w.alloc (.cells x.arr 53)) wq → ∀ (i : Nat) (v : Value), x.cells[i]? = some v → wq.cell? ⟨w.heap.size, i, none⟩ = some v) := fun wq g i v h => (((Blk.new w 53 x.arr).mono g).cell i).trans h
  have G0 : Hid (Gr w (w.alloc (.cells x.arr 53))) := Gr.alloc w _
  have HFO : Hid (∀ wr : World, Calls Tryd.prog 75 #[] wr fun e w' => e = .returned (.agg scrCells) ∧ Gr wr w') := fun wr => scrForms_any wr
  have HO := Lib.hid scrOne
  by_cases h1 : x.d.k = 1
  · have t1 : (x.d.k == 1) = true := beq_iff_eq.2 h1
    have HF : Hid (textT x.d = (printO x.d.o).1) := if_pos h1
    have HPR := Lib.hid (opPrint_any x.d.o x.A x.d.o.x.length x.c _ hop.1 hop.2.1 hop.2.2 (hx.o.mono G0.out) (hT.mono G0.out) (hM.mono G0.out))
    rw [HF.out]
    clear h1 hx hT hM hop
    have c0 := HC.out _ (Gr.refl _) 0 _ rfl
    have c1 := HC.out _ (Gr.refl _) 1 _ rfl
    have c2 := HC.out _ (Gr.refl _) 2 _ rfl
    have c3 := HC.out _ (Gr.refl _) 3 _ rfl
    have c4 := HC.out _ (Gr.refl _) 4 _ rfl
    have c5 := HC.out _ (Gr.refl _) 5 _ rfl
    have c6 := HC.out _ (Gr.refl _) 6 _ rfl
    have c7 := HC.out _ (Gr.refl _) 7 _ rfl
    have c8 := HC.out _ (Gr.refl _) 8 _ rfl
    have c9 := HC.out _ (Gr.refl _) 9 _ rfl
    have c10 := HC.out _ (Gr.refl _) 10 _ rfl
    have c11 := HC.out _ (Gr.refl _) 11 _ rfl
    have c12 := HC.out _ (Gr.refl _) 12 _ rfl
    have c13 := HC.out _ (Gr.refl _) 13 _ rfl
    have c14 := HC.out _ (Gr.refl _) 14 _ rfl
    have c15 := HC.out _ (Gr.refl _) 15 _ rfl
    have c16 := HC.out _ (Gr.refl _) 16 _ rfl
    go_enter Tryd.func79, Tryd.ntmps79
    go_wp2_with fail
    refine HPR.out.mono ?_
    rintro e w2 ⟨rfl, g⟩
    have G2 := Lib.hid (G0.out.trans g)
    clear g
    go_wp2_with fail
    go_ret
    exact ⟨rfl, G2.out⟩
  · have t1 : (x.d.k == 1) = false := beq_eq_false_iff_ne.2 h1
    by_cases hk : 0 ≤ x.d.k ∧ x.d.k < 9
    · obtain ⟨K, hke⟩ : ∃ K : Nat, x.d.k = (K : Int) := ⟨x.d.k.toNat, by omega⟩
      have hK : K < 9 := by omega
      have HTT : Hid (textT x.d = Lib.join (textW x.d K) [32]) := by
        show _ = _
        unfold textT
        rw [if_neg h1, if_pos hk, hke]
        rfl
      rw [HTT.out]
      have HWD : Hid (∀ (s : UInt8) wr, s ∈ scrS K → Gr w wr → Calls Tryd.prog 96 #[.agg x.arr, .int .i32 (s.toNat : Int)] wr fun e w' => e = .returned (strc (wordS x.d s.toNat)) ∧ Gr wr w') := fun s wr hs g => wordT_any x s.toNat wr ho (hx.gr g) (hT.mono g) (signsW K s hs)
      have HLN := Lib.hid (textW_len ho K)
      have hf4 := scrS_lenW K
      have HSG := Lib.hid (signsW K)
      obtain ⟨xw, hxx⟩ : ∃ xw : ByteArray, xw = ⟨(scrW K).toArray⟩ := ⟨_, rfl⟩
      obtain ⟨y, hy⟩ : ∃ y : ByteArray, y = ⟨(scrS K).toArray⟩ := ⟨_, rfl⟩
      have hys : y.size = (scrS K).length := by rw [hy]; exact size_of' _
      have HAT := Lib.hid (at_of (scrS K) y hy)
      have hxs : strc (scrW K) = .string xw := by rw [hxx]; rfl
      have hyS : strc (scrS K) = .string y := by rw [hy]; rfl
      clear hxx hy hx hT hM hop ho
      have c0 := HC.out _ (Gr.refl _) 0 _ rfl
      have c1 := HC.out _ (Gr.refl _) 1 _ rfl
      have c2 := HC.out _ (Gr.refl _) 2 _ rfl
      have c3 := HC.out _ (Gr.refl _) 3 _ rfl
      have c4 := HC.out _ (Gr.refl _) 4 _ rfl
      have c5 := HC.out _ (Gr.refl _) 5 _ rfl
      have c6 := HC.out _ (Gr.refl _) 6 _ rfl
      have c7 := HC.out _ (Gr.refl _) 7 _ rfl
      have c8 := HC.out _ (Gr.refl _) 8 _ rfl
      have c9 := HC.out _ (Gr.refl _) 9 _ rfl
      have c10 := HC.out _ (Gr.refl _) 10 _ rfl
      have c11 := HC.out _ (Gr.refl _) 11 _ rfl
      have c12 := HC.out _ (Gr.refl _) 12 _ rfl
      have c13 := HC.out _ (Gr.refl _) 13 _ rfl
      have c14 := HC.out _ (Gr.refl _) 14 _ rfl
      have c15 := HC.out _ (Gr.refl _) 15 _ rfl
      have c16 := HC.out _ (Gr.refl _) 16 _ rfl
      go_enter Tryd.func79, Tryd.ntmps79
      go_wp2_with fail
      refine (HFO.out _).mono ?_
      rintro e w2 ⟨rfl, g2⟩
      clear c0 c1 c2 c3 c4 c5 c6 c7 c8 c9 c10 c11 c12 c13 c14 c15 c16
      have G23 : Gr w2 ((w2.alloc (.cells #[.string ⟨#[]⟩, .string ⟨#[]⟩, .string ⟨#[]⟩, .string ⟨#[]⟩, .string ⟨#[]⟩, .string ⟨#[]⟩, .string ⟨#[]⟩, .string ⟨#[]⟩, .string ⟨#[]⟩, .string ⟨#[]⟩, .string ⟨#[]⟩, .string ⟨#[]⟩, .string ⟨#[]⟩, .string ⟨#[]⟩, .string ⟨#[]⟩, .string ⟨#[]⟩, .string ⟨#[]⟩, .string ⟨#[]⟩] 131)).setRow w2.heap.size scrCells) := below_row39 ((Below.refl _ _).alloc (Nat.le_refl _) _) (Nat.le_refl _) _
      have BF : Blk ((w2.alloc (.cells #[.string ⟨#[]⟩, .string ⟨#[]⟩, .string ⟨#[]⟩, .string ⟨#[]⟩, .string ⟨#[]⟩, .string ⟨#[]⟩, .string ⟨#[]⟩, .string ⟨#[]⟩, .string ⟨#[]⟩, .string ⟨#[]⟩, .string ⟨#[]⟩, .string ⟨#[]⟩, .string ⟨#[]⟩, .string ⟨#[]⟩, .string ⟨#[]⟩, .string ⟨#[]⟩, .string ⟨#[]⟩, .string ⟨#[]⟩] 131)).setRow w2.heap.size scrCells) w2.heap.size 131 scrCells.toList := setRow_heap _ w2.heap.size _ _ _ _ (heap_alloc_new w2 _)
      have GS := Lib.hid (g2.trans G23)
      have GB : Gr ((w2.alloc (.cells #[.string ⟨#[]⟩, .string ⟨#[]⟩, .string ⟨#[]⟩, .string ⟨#[]⟩, .string ⟨#[]⟩, .string ⟨#[]⟩, .string ⟨#[]⟩, .string ⟨#[]⟩, .string ⟨#[]⟩, .string ⟨#[]⟩, .string ⟨#[]⟩, .string ⟨#[]⟩, .string ⟨#[]⟩, .string ⟨#[]⟩, .string ⟨#[]⟩, .string ⟨#[]⟩, .string ⟨#[]⟩, .string ⟨#[]⟩] 131)).setRow w2.heap.size scrCells) (((w2.alloc (.cells #[.string ⟨#[]⟩, .string ⟨#[]⟩, .string ⟨#[]⟩, .string ⟨#[]⟩, .string ⟨#[]⟩, .string ⟨#[]⟩, .string ⟨#[]⟩, .string ⟨#[]⟩, .string ⟨#[]⟩, .string ⟨#[]⟩, .string ⟨#[]⟩, .string ⟨#[]⟩, .string ⟨#[]⟩, .string ⟨#[]⟩, .string ⟨#[]⟩, .string ⟨#[]⟩, .string ⟨#[]⟩, .string ⟨#[]⟩] 131)).setRow w2.heap.size scrCells).alloc (.cells #[.string xw] 9)) := Gr.alloc _ _
      have d0 : ((w2.alloc (.cells #[.string ⟨#[]⟩, .string ⟨#[]⟩, .string ⟨#[]⟩, .string ⟨#[]⟩, .string ⟨#[]⟩, .string ⟨#[]⟩, .string ⟨#[]⟩, .string ⟨#[]⟩, .string ⟨#[]⟩, .string ⟨#[]⟩, .string ⟨#[]⟩, .string ⟨#[]⟩, .string ⟨#[]⟩, .string ⟨#[]⟩, .string ⟨#[]⟩, .string ⟨#[]⟩, .string ⟨#[]⟩, .string ⟨#[]⟩] 131)).setRow w2.heap.size scrCells).cell? ⟨w.heap.size, 0, none⟩ = some (.int .i64 (K : Int)) := by rw [← hke]; exact HC.out _ GS.out 0 _ rfl
      have cw : ((w2.alloc (.cells #[.string ⟨#[]⟩, .string ⟨#[]⟩, .string ⟨#[]⟩, .string ⟨#[]⟩, .string ⟨#[]⟩, .string ⟨#[]⟩, .string ⟨#[]⟩, .string ⟨#[]⟩, .string ⟨#[]⟩, .string ⟨#[]⟩, .string ⟨#[]⟩, .string ⟨#[]⟩, .string ⟨#[]⟩, .string ⟨#[]⟩, .string ⟨#[]⟩, .string ⟨#[]⟩, .string ⟨#[]⟩, .string ⟨#[]⟩] 131)).setRow w2.heap.size scrCells).cell? ⟨w2.heap.size, K * 2, none⟩ = some (.string xw) := by
        rw [BF.cell, Nat.mul_comm, scrCells_w K hK, hxs]
      have d0' : (((w2.alloc (.cells #[.string ⟨#[]⟩, .string ⟨#[]⟩, .string ⟨#[]⟩, .string ⟨#[]⟩, .string ⟨#[]⟩, .string ⟨#[]⟩, .string ⟨#[]⟩, .string ⟨#[]⟩, .string ⟨#[]⟩, .string ⟨#[]⟩, .string ⟨#[]⟩, .string ⟨#[]⟩, .string ⟨#[]⟩, .string ⟨#[]⟩, .string ⟨#[]⟩, .string ⟨#[]⟩, .string ⟨#[]⟩, .string ⟨#[]⟩] 131)).setRow w2.heap.size scrCells).alloc (.cells #[.string xw] 9)).cell? ⟨w.heap.size, 0, none⟩ = some (.int .i64 (K : Int)) := by rw [← hke]; exact HC.out _ (GS.out.trans GB) 0 _ rfl
      have cs' : (((w2.alloc (.cells #[.string ⟨#[]⟩, .string ⟨#[]⟩, .string ⟨#[]⟩, .string ⟨#[]⟩, .string ⟨#[]⟩, .string ⟨#[]⟩, .string ⟨#[]⟩, .string ⟨#[]⟩, .string ⟨#[]⟩, .string ⟨#[]⟩, .string ⟨#[]⟩, .string ⟨#[]⟩, .string ⟨#[]⟩, .string ⟨#[]⟩, .string ⟨#[]⟩, .string ⟨#[]⟩, .string ⟨#[]⟩, .string ⟨#[]⟩] 131)).setRow w2.heap.size scrCells).alloc (.cells #[.string xw] 9)).cell? ⟨w2.heap.size, K * 2 + 1, none⟩ = some (.string y) := by
        rw [(BF.mono GB).cell, Nat.mul_comm, scrCells_s K hK, hyS]
      have t1 : decide ((K : Int) < 0) = false := decide_eq_false (by omega)
      have t2 : decide ((K : Int) ≥ 9) = false := decide_eq_false (by omega)
      have hi9 : (K : Int) < 9 := by omega
      clear hk g2
      go_wp2_with (refine wpList_store_row rfl 131 (.tmp 5) (.tmp 19) rfl w2.heap.size scrCells rfl rfl 131 (reps 18 (.string ⟨#[]⟩)).toArray (by exact heap_alloc_new w2 _) scrSize rfl HO.out ?_)
      obtain ⟨w3, hw3⟩ : ∃ w3, w3 = ((w2.alloc (.cells #[.string ⟨#[]⟩, .string ⟨#[]⟩, .string ⟨#[]⟩, .string ⟨#[]⟩, .string ⟨#[]⟩, .string ⟨#[]⟩, .string ⟨#[]⟩, .string ⟨#[]⟩, .string ⟨#[]⟩, .string ⟨#[]⟩, .string ⟨#[]⟩, .string ⟨#[]⟩, .string ⟨#[]⟩, .string ⟨#[]⟩, .string ⟨#[]⟩, .string ⟨#[]⟩, .string ⟨#[]⟩, .string ⟨#[]⟩] 131)).setRow w2.heap.size scrCells) := ⟨_, rfl⟩
      rw [← hw3] at GS ⊢
      have hs3 : w3.heap.size = w2.heap.size + 1 := by rw [hw3]; simp [World.setRow]
      clear d0 cw d0' cs' GB BF G23 hw3
      have O0 : Hid (Own w3 ((w3.alloc (.cells #[.string xw] 9)).iter y 0) 9 1 (.slice (some ⟨w3.heap.size, 0, none⟩) 1 1) 1 [.string xw]) := by
        have := (Blk.new w3 9 #[.string xw]).own (w0 := w3) (size := 1) (n := 1) (Nat.le_refl _) (Gr.alloc w3 _) rfl (by decide)
        exact Own.alloc this (.stringIter y 0)
      rw [hs3] at O0
      have hIH : ((w3.alloc (.cells #[.string xw] 9)).iter y 0).heap[w3.heap.size + 1]? = some (.stringIter y 0) := by
        have := heap_alloc_new (w3.alloc (.cells #[.string xw] 9)) (.stringIter y 0)
        rw [show (w3.alloc (.cells #[.string xw] 9)).heap.size = w3.heap.size + 1 by simp] at this
        exact this
      rw [hs3] at hIH
      have HIH := Lib.hid hIH; clear hIH
      have HS3 := Lib.hid hs3; clear hs3
      clear t1 t2 hi9
      go_loopw [6] (fun v wr => ∃ j : Nat, j ≤ y.size ∧ Own w3 wr 9 1 v (j + 1) ((scrW K :: ((scrS K).take j).map fun s => wordS x.d s.toNat).map strc) ∧ wr.heap[w2.heap.size + 1 + 1]? = some (.stringIter y j)) (fun _ wr => y.size - wr.iterPos (w2.heap.size + 1 + 1))
      case atStart => exact ⟨0, by omega, by simpa [hxs] using O0.out, HIH.out⟩
      case round =>
        obtain ⟨j, hj, ow, hit⟩ := hrel
        have OW := Lib.hid ow; clear ow
        by_cases hlt : j < y.size
        · have hja : j < (scrS K).length := by omega
          have hsg := HSG.out _ (List.getElem_mem hja)
          have hya : (y[j]'hlt).toNat = (scrS K)[j].toNat := by
            have h1 := HAT.out j hlt
            unfold bAt at h1
            rw [show (scrS K).getD j 0 = (scrS K)[j] by simp [List.getD_eq_getElem?_getD, List.getElem?_eq_getElem hja]] at h1
            omega
          have hnx : ∀ ty, (Instr.next (.pointer (some ⟨w2.heap.size + 1 + 1, 0, none⟩)) true ty).run Tryd.prog wr = .ok (.tuple #[.bool true, .int .i64 j, .int .i32 ((scrS K)[j].toNat : Int)]) (wr.iterAt (w2.heap.size + 1 + 1) y (j + 1)) := fun ty => by
            rw [Lib.run_next_ascii_at wr (w2.heap.size + 1 + 1) y j ty hit hlt (by rw [hya]; rcases hsg with h | h | h | h | h | h | h | h <;> omega), hya]
          have OI : Hid (Own w3 (wr.iterAt (w2.heap.size + 1 + 1) y (j + 1)) 9 1 u6 (j + 1) ((scrW K :: ((scrS K).take j).map fun s => wordS x.d s.toNat).map strc)) := Own.tch OW.out (Tch.iterAt wr (w2.heap.size + 1 + 1) y (j + 1)) (fun b e => by have e : b = w2.heap.size + 1 + 1 := e; have := HS3.out; omega) (fun b e h => Own.not_iter OW.out hit e h)
          have hit2 := Lib.iterAt_heap wr (w2.heap.size + 1 + 1) y j (j + 1) hit
          have GXI : Gr (w.alloc (.cells x.arr 53)) (wr.iterAt (w2.heap.size + 1 + 1) y (j + 1)) := Below.trans GS.out (OI.out.below.mono GS.out.size)
          have BX : Hid (Blk (wr.iterAt (w2.heap.size + 1 + 1) y (j + 1)) w.heap.size 53 x.arr.toList) := (Blk.new w 53 x.arr).mono GXI
          have GWI := Lib.hid (G0.out.trans GXI)
          have HFC := Lib.hid (HWD.out (scrS K)[j] _ (List.getElem_mem hja) GWI.out)
          have hst : Hid ((scrW K :: ((scrS K).take (j + 1)).map fun s => wordS x.d s.toNat).map strc = (scrW K :: ((scrS K).take j).map fun s => wordS x.d s.toNat).map strc ++ [strc (wordS x.d (scrS K)[j].toNat)]) := by
            show _ = _
            rw [List.take_succ_eq_append_getElem hja, List.map_append, ← List.cons_append, List.map_append]
            rfl
          have HI2 := Lib.hid hit2; have HI1 := Lib.hid hit
          clear hit hit2 hya hsg GXI
          generalize (scrS K)[j].toNat = sg at *
          obtain ⟨fx, hfx⟩ : ∃ fx : ByteArray, strc (wordS x.d sg) = .string fx := ⟨_, rfl⟩
          rw [hfx] at HFC hst
          clear hfx
          go_wp2_with (refine wpList_load_row rfl 53 (.tmp 1) rfl w.heap.size rfl 53 x.arr (0, 0) _ BX.out Tryd.underlying53 rfl lnSize ?_)
          refine HFC.out.mono ?_
          rintro e w6 ⟨rfl, g6⟩
          have O6 := Lib.hid (OI.out.mono g6)
          have HI6 := Lib.hid ((g6.block _ (Array.getElem?_eq_some_iff.1 HI2.out).1).trans HI2.out)
          clear g6
          go_wp2_with (at_builtin; go_loud (refine wpList_pushG rfl (.tmp 43) (.tmp 47) 65 rfl tWords rfl O6.out #[.string fx] rfl rfl (by intro u hu; simp at hu; subst hu; rfl) (by omega) ?_); intro v1 wn o1 kp)
          have hI7 : wn.heap[w2.heap.size + 1 + 1]? = some (.stringIter y (j + 1)) := by
            have h1 : (w6.alloc (.cells #[.string fx] 9)).heap[w2.heap.size + 1 + 1]? = some (.stringIter y (j + 1)) := by
              exact ((Gr.alloc w6 (.cells #[.string fx] 9)).block _ (Array.getElem?_eq_some_iff.1 HI6.out).1).trans HI6.out
            rw [kp.1 _ (Array.getElem?_eq_some_iff.1 h1).1 (fun e => Own.not_iter O6.out HI6.out e rfl)]
            exact h1
          have OE : Hid (Own w3 wn 9 1 v1 (j + 1 + 1) ((scrW K :: ((scrS K).take (j + 1)).map fun s => wordS x.d s.toNat).map strc)) := by
            show Own _ _ _ _ _ _ _
            rw [hst.out]
            exact o1
          refine ⟨⟨j + 1, by omega, OE.out, hI7⟩, ?_⟩
          rw [iterPos_of hI7, iterPos_of HI1.out]
          omega
        · have hje : j = (scrS K).length := by omega
          subst hje
          have hnx : ∀ ty, (Instr.next (.pointer (some ⟨w2.heap.size + 1 + 1, 0, none⟩)) true ty).run Tryd.prog wr = .ok (.tuple #[.bool false]) wr := fun ty => Lib.run_next_end_at wr (w2.heap.size + 1 + 1) y _ ty hit hlt
          have OF : Hid (Own w3 wr 9 1 u6 ((scrS K).length + 1) ((textW x.d K).map strc)) := by
            show Own _ _ _ _ _ _ _
            have := OW.out
            rw [List.take_length] at this
            exact this
          have GX3 : Hid (Gr (w.alloc (.cells x.arr 53)) wr) := (Below.trans GS.out (OF.out.below.mono GS.out.size))
          obtain ⟨A5, c5, rfl, s5⟩ := OF.out.slice
          have HJ := Lib.hid (join_any39 (textW x.d K) A5 ((scrS K).length + 1) c5 wr s5 (by simp [textW]) (by omega) (by omega) (by have := HLN.out; omega))
          clear s5 hit
          go_wp2_with fail
          refine HJ.out.mono ?_
          rintro e w8 ⟨rfl, g8⟩
          have G8 := Lib.hid (G0.out.trans (GX3.out.trans g8)); clear g8
          go_wp2_with fail
          go_ret
          exact ⟨rfl, G8.out⟩
    · have HF : Hid (textT x.d = []) := by show _ = _; unfold textT; rw [if_neg h1, if_neg hk]
      rw [HF.out]
      clear h1 hx hT hM hop
      have c0 := HC.out _ (Gr.refl _) 0 _ rfl
      have c1 := HC.out _ (Gr.refl _) 1 _ rfl
      have c2 := HC.out _ (Gr.refl _) 2 _ rfl
      have c3 := HC.out _ (Gr.refl _) 3 _ rfl
      have c4 := HC.out _ (Gr.refl _) 4 _ rfl
      have c5 := HC.out _ (Gr.refl _) 5 _ rfl
      have c6 := HC.out _ (Gr.refl _) 6 _ rfl
      have c7 := HC.out _ (Gr.refl _) 7 _ rfl
      have c8 := HC.out _ (Gr.refl _) 8 _ rfl
      have c9 := HC.out _ (Gr.refl _) 9 _ rfl
      have c10 := HC.out _ (Gr.refl _) 10 _ rfl
      have c11 := HC.out _ (Gr.refl _) 11 _ rfl
      have c12 := HC.out _ (Gr.refl _) 12 _ rfl
      have c13 := HC.out _ (Gr.refl _) 13 _ rfl
      have c14 := HC.out _ (Gr.refl _) 14 _ rfl
      have c15 := HC.out _ (Gr.refl _) 15 _ rfl
      have c16 := HC.out _ (Gr.refl _) 16 _ rfl
      by_cases hneg : x.d.k < 0
      · have t2 : decide (x.d.k < 0) = true := decide_eq_true hneg
        go_enter Tryd.func79, Tryd.ntmps79
        go_wp2_with fail
        refine (HFO.out _).mono ?_
        rintro e w2 ⟨rfl, g2⟩
        have GS := g2.trans (below_row39 ((Below.refl _ _).alloc (Nat.le_refl _) _) (Nat.le_refl _) _ : Gr w2 ((w2.alloc (.cells #[.string ⟨#[]⟩, .string ⟨#[]⟩, .string ⟨#[]⟩, .string ⟨#[]⟩, .string ⟨#[]⟩, .string ⟨#[]⟩, .string ⟨#[]⟩, .string ⟨#[]⟩, .string ⟨#[]⟩, .string ⟨#[]⟩, .string ⟨#[]⟩, .string ⟨#[]⟩, .string ⟨#[]⟩, .string ⟨#[]⟩, .string ⟨#[]⟩, .string ⟨#[]⟩, .string ⟨#[]⟩, .string ⟨#[]⟩] 131)).setRow w2.heap.size scrCells))
        have d0 := HC.out _ GS 0 _ rfl
        have GE := Lib.hid (G0.out.trans GS)
        clear g2 GS hneg hk
        go_wp2_with (refine wpList_store_row rfl 131 (.tmp 5) (.tmp 19) rfl w2.heap.size scrCells rfl rfl 131 (reps 18 (.string ⟨#[]⟩)).toArray (by exact heap_alloc_new w2 _) scrSize rfl HO.out ?_)
        go_ret
        exact ⟨rfl, GE.out⟩
      · have t2 : decide (x.d.k < 0) = false := decide_eq_false hneg
        have t3 : decide (x.d.k ≥ 9) = true := decide_eq_true (by omega)
        go_enter Tryd.func79, Tryd.ntmps79
        go_wp2_with fail
        refine (HFO.out _).mono ?_
        rintro e w2 ⟨rfl, g2⟩
        have GS := g2.trans (below_row39 ((Below.refl _ _).alloc (Nat.le_refl _) _) (Nat.le_refl _) _ : Gr w2 ((w2.alloc (.cells #[.string ⟨#[]⟩, .string ⟨#[]⟩, .string ⟨#[]⟩, .string ⟨#[]⟩, .string ⟨#[]⟩, .string ⟨#[]⟩, .string ⟨#[]⟩, .string ⟨#[]⟩, .string ⟨#[]⟩, .string ⟨#[]⟩, .string ⟨#[]⟩, .string ⟨#[]⟩, .string ⟨#[]⟩, .string ⟨#[]⟩, .string ⟨#[]⟩, .string ⟨#[]⟩, .string ⟨#[]⟩, .string ⟨#[]⟩] 131)).setRow w2.heap.size scrCells))
        have d0 := HC.out _ GS 0 _ rfl
        have GE := Lib.hid (G0.out.trans GS)
        clear g2 GS hneg hk
        go_wp2_with (refine wpList_store_row rfl 131 (.tmp 5) (.tmp 19) rfl w2.heap.size scrCells rfl rfl 131 (reps 18 (.string ⟨#[]⟩)).toArray (by exact heap_alloc_new w2 _) scrSize rfl HO.out ?_)
        go_ret
        exact ⟨rfl, GE.out⟩
end Go.Proofs.YtadenlhnfkccaaaDoor

/- Lines of scripts: Print. No condition. -/
namespace Go.Proofs.YtadenlhnfkccaaaDoor
open Go.RowKit
set_option linter.unusedVariables false
set_option linter.unusedSimpArgs false
theorem wpList_load_rowG {P : Program} {ops : Array Oper} {rest : List Oper} {o : Oper} {a : Act} {w : World} {Q : Exit → Act → World → Prop} (hgd : Region.wanted o (yielded ops a.tmps) = true) (ty : TypeId) (x : Operand) (ho : o.op = .load ty x)
    (g : Nat) (hx : a.eval x = .pointer (some ⟨g, 0, none⟩)) (t : TypeId) (cs : Array Value) (fr : Nat × Nat) (d : TypeDesc) (hg : w.heap[g]? = some (.cells cs t fr))
    (hu : P.underlying ty = some d) (hd : (match d with | .struct _ | .array _ _ => true | _ => false) = true) (hi : (P.info? ty).map (·.size) = some cs.size)
    (h : wpList P ops Q rest (a.put o.dst (.agg cs)) w) : wpList P ops Q (o :: rest) a w :=
  wpList_step fun K hK => by
    simp only [hgd, if_true]
    exact wp_load_row ty x ho g hx t cs fr d hg hu hd hi (hK _ _ h)
theorem textT_len {d : LnD} (ho : LnOk d) (hop : OpLt d.o) : (textT d).length ≤ 20000 := by
  unfold textT
  split
  · have := printO_lenS hop.2.1 hop.2.2; omega
  · split
    · exact textW_len ho d.k.toNat
    · exact Nat.zero_le _
set_option maxRecDepth 100000 in
set_option maxHeartbeats 4000000 in
theorem scPrint_any (x : LnV) (w : World) (ho : LnOk x.d) (hop : OpLt x.d.o) (hx : LnAt w x) (hT : Pow10 w) (hM : MLen w) :
    Calls Tryd.prog 50 #[.agg x.arr] w fun e w' => e = .returned (.tuple #[strc (printT x.d).1, .int .i64 ((printT x.d).2 : Int)]) ∧ Gr w w' := by
  have HB : Hid (∀ wq, Gr (w.alloc (.cells x.arr 53)) wq → Blk wq w.heap.size 53 x.arr.toList) := fun wq g => (Blk.new w 53 x.arr).mono g
  have G0 : Hid (Gr w (w.alloc (.cells x.arr 53))) := Gr.alloc w _
  have HTX := Lib.hid (text_any x _ ho hop (hx.gr G0.out) (hT.mono G0.out) (hM.mono G0.out))
  have HPA : Hid (∀ wr, Gr w wr → Calls Tryd.prog 48 #[strc (textT x.d)] wr (RetLn wr (parseT (textT x.d)))) := fun wr g => scParse_any _ wr (by have := textT_len ho hop; omega) (hM.mono g) (hT.mono g)
  have HSM : Hid (∀ y wr, Gr w wr → LnAt wr y → Calls Tryd.prog 80 #[.agg x.arr, .agg y.arr] wr fun e w' => e = .returned (.bool (sameT x.d y.d)) ∧ Gr wr w') := fun y wr g h => scSame_any x y wr (hx.gr g) h
  have HR : Hid (printT x.d = if (parseT (textT x.d)).2 = 0 ∧ sameT x.d (parseT (textT x.d)).1 = true then (textT x.d, 0) else ([], 2)) := rfl
  obtain ⟨r, hr⟩ : ∃ r, r = printT x.d := ⟨_, rfl⟩
  rw [← hr] at HR ⊢
  obtain ⟨tx, htx⟩ : ∃ tx : ByteArray, strc (textT x.d) = .string tx := ⟨_, rfl⟩
  rw [htx] at HTX HPA
  have HV := Lib.hid htx
  generalize parseT (textT x.d) = p at *
  clear hx hT hM hop ho hr htx
  obtain ⟨pd, pf⟩ := p
  simp only at HR
  go_enter Tryd.func50, Tryd.ntmps50
  have B0 := HB.out _ (Gr.refl _)
  have BB0 := Lib.hid B0
  clear B0
  go_wp2_with (refine wpList_load_row rfl 53 (.tmp 1) rfl w.heap.size rfl 53 x.arr (0, 0) _ BB0.out Tryd.underlying53 rfl lnSize ?_)
  refine HTX.out.mono ?_
  rintro e w1 ⟨rfl, g1⟩
  have G1 := Lib.hid g1
  clear g1
  go_wp2_with fail
  refine (HPA.out _ (G0.out.trans G1.out)).mono ?_
  rintro e w2 ⟨y, rfl, hyd, hya, g2, _⟩
  subst hyd
  have HYB := setRow_heap (w2.alloc (.cells #[.int .i64 0, .int .i64 0, .string ⟨#[]⟩, .string ⟨#[]⟩, .int .i64 0, .int .i64 0, .int .i64 0, .int .i64 0, .slice none 0 0, .int .i64 0, .slice none 0 0, .int .i64 0, .int .i64 0, .string ⟨#[]⟩, .int .i64 0, .string ⟨#[]⟩, .slice none 0 0] 53)) w2.heap.size _ y.arr _ _ (heap_alloc_new w2 _)
  have GS0 : Gr w2 ((w2.alloc (.cells #[.int .i64 0, .int .i64 0, .string ⟨#[]⟩, .string ⟨#[]⟩, .int .i64 0, .int .i64 0, .int .i64 0, .int .i64 0, .slice none 0 0, .int .i64 0, .slice none 0 0, .int .i64 0, .int .i64 0, .string ⟨#[]⟩, .int .i64 0, .string ⟨#[]⟩, .slice none 0 0] 53)).setRow w2.heap.size y.arr) := below_row39 ((Below.refl _ _).alloc (Nat.le_refl _) _) (Nat.le_refl _) _
  have GX := Lib.hid (G1.out.trans (g2.trans GS0))
  have AY := Lib.hid (hya.gr GS0)
  have BY : Hid (Blk ((w2.alloc (.cells #[.int .i64 0, .int .i64 0, .string ⟨#[]⟩, .string ⟨#[]⟩, .int .i64 0, .int .i64 0, .int .i64 0, .int .i64 0, .slice none 0 0, .int .i64 0, .slice none 0 0, .int .i64 0, .int .i64 0, .string ⟨#[]⟩, .int .i64 0, .string ⟨#[]⟩, .slice none 0 0] 53)).setRow w2.heap.size y.arr) w2.heap.size 53 y.arr.toList) := HYB
  have BX := Lib.hid (HB.out _ GX.out)
  have HSC := Lib.hid (HSM.out y _ (G0.out.trans GX.out) AY.out)
  clear HYB GS0 g2 hya
  by_cases hf : pf = 0
  · have tf : ((pf : Int) != 0) = false := by rw [hf]; rfl
    cases hs : sameT x.d y.d with
    | true =>
      have HF : Hid (r = (textT x.d, 0)) := by show _ = _; rw [HR.out, if_pos ⟨hf, hs⟩]
      rw [hs] at HSC
      clear hf hs
      go_wp2_with (first
        | (refine wpList_store_row rfl 53 (.tmp 5) (.tmp 12) rfl w2.heap.size y.arr rfl rfl 53 #[.int .i64 0, .int .i64 0, .string ⟨#[]⟩, .string ⟨#[]⟩, .int .i64 0, .int .i64 0, .int .i64 0, .int .i64 0, .slice none 0 0, .int .i64 0, .slice none 0 0, .int .i64 0, .int .i64 0, .string ⟨#[]⟩, .int .i64 0, .string ⟨#[]⟩, .slice none 0 0] (by exact heap_alloc_new w2 _) lnSize rfl (lnOne _) ?_)
        | (refine wpList_load_rowG rfl 53 (.tmp 1) rfl w.heap.size rfl 53 x.arr (0, 0) _ BX.out Tryd.underlying53 rfl lnSize ?_)
        | (refine wpList_load_rowG rfl 53 (.tmp 5) rfl w2.heap.size rfl 53 y.arr (0, 0) _ BY.out Tryd.underlying53 rfl lnSize ?_))
      refine HSC.out.mono ?_
      rintro e w3 ⟨rfl, g3⟩
      have G3 := Lib.hid (G0.out.trans (GX.out.trans g3))
      clear g3
      go_wp2_with fail
      go_ret2
      exact ⟨by rw [HF.out]; simp only; rw [HV.out]; rfl, G3.out⟩
    | false =>
      have HF : Hid (r = ([], 2)) := by show _ = _; rw [HR.out, if_neg (by simp [hs])]
      rw [hs] at HSC
      clear hf hs
      go_wp2_with (first
        | (refine wpList_store_row rfl 53 (.tmp 5) (.tmp 12) rfl w2.heap.size y.arr rfl rfl 53 #[.int .i64 0, .int .i64 0, .string ⟨#[]⟩, .string ⟨#[]⟩, .int .i64 0, .int .i64 0, .int .i64 0, .int .i64 0, .slice none 0 0, .int .i64 0, .slice none 0 0, .int .i64 0, .int .i64 0, .string ⟨#[]⟩, .int .i64 0, .string ⟨#[]⟩, .slice none 0 0] (by exact heap_alloc_new w2 _) lnSize rfl (lnOne _) ?_)
        | (refine wpList_load_rowG rfl 53 (.tmp 1) rfl w.heap.size rfl 53 x.arr (0, 0) _ BX.out Tryd.underlying53 rfl lnSize ?_)
        | (refine wpList_load_rowG rfl 53 (.tmp 5) rfl w2.heap.size rfl 53 y.arr (0, 0) _ BY.out Tryd.underlying53 rfl lnSize ?_))
      refine HSC.out.mono ?_
      rintro e w3 ⟨rfl, g3⟩
      have G3 := Lib.hid (G0.out.trans (GX.out.trans g3))
      clear g3
      go_wp2_with fail
      go_ret2
      exact ⟨by rw [HF.out]; rfl, G3.out⟩
  · have tf : ((pf : Int) != 0) = true := bne_iff_ne.2 (by omega)
    have HF : Hid (r = ([], 2)) := by show _ = _; rw [HR.out, if_neg (by simp [hf])]
    have G3 := Lib.hid (G0.out.trans GX.out)
    clear hf
    go_wp2_with (refine wpList_store_row rfl 53 (.tmp 5) (.tmp 12) rfl w2.heap.size y.arr rfl rfl 53 #[.int .i64 0, .int .i64 0, .string ⟨#[]⟩, .string ⟨#[]⟩, .int .i64 0, .int .i64 0, .int .i64 0, .int .i64 0, .slice none 0 0, .int .i64 0, .slice none 0 0, .int .i64 0, .int .i64 0, .string ⟨#[]⟩, .int .i64 0, .string ⟨#[]⟩, .slice none 0 0] (by exact heap_alloc_new w2 _) lnSize rfl (lnOne _) ?_)
    go_ret2
    exact ⟨by rw [HF.out]; rfl, G3.out⟩
end Go.Proofs.YtadenlhnfkccaaaDoor

/- strings.Builder at this dump: the check ahead of a write, a write. No condition. -/
namespace Go.Proofs.YtadenlhnfkccaaaDoor
open Go.RowKit
set_option linter.unusedVariables false
theorem sbInfo : ∃ j, Tryd.prog.info? 104 = some j ∧ j.size = 2 := by
  have h : (Tryd.prog.info? 104).map (fun i => i.size) = some 2 := by kernel_rfl
  exact Option.map_eq_some_iff.1 h
/-- A builder that has been written to: nothing turns. -/
theorem sbUsed_any (b : Nat) (w : World) (h0 : w.cell? ⟨b, 0, none⟩ = some (.pointer (some ⟨b, 0, none⟩))) :
    Calls Tryd.prog 81 #[.pointer (some ⟨b, 0, none⟩)] w fun e w' => e = .returned (.tuple #[]) ∧ w = w' := by
  obtain ⟨j, hj, _⟩ := sbInfo
  have hq := Lib.run_neq_ptr_same (P := Tryd.prog) w ⟨b, 0, none⟩ Tryd.underlying102 hj
  clear hj
  go_enter Tryd.func81, Tryd.ntmps81
  go_wp2
  go_end0
  exact ⟨rfl, rfl⟩
theorem sb_shape {w : World} {b : Nat} {u v : Value} (h : Blk w b 104 [u, v]) : w.shape? b = some (104, 2) := by
  unfold Blk at h
  simp [World.shape?, h]
set_option maxRecDepth 100000 in
/-- A new one keeps its own address. -/
theorem sbFresh_any (b : Nat) (v : Value) (w : World) (h : Blk w b 104 [.pointer none, v]) :
    Calls Tryd.prog 81 #[.pointer (some ⟨b, 0, none⟩)] w fun e w' => e = .returned (.tuple #[]) ∧ w' = w.setCell ⟨b, 0, none⟩ (.pointer (some ⟨b, 0, none⟩)) := by
  obtain ⟨j, hj, hjs⟩ := sbInfo
  have hsh := sb_shape h
  have c0 : w.cell? ⟨b, 0, none⟩ = some (.pointer none) := (h.cell 0).trans rfl
  have y0 := h.free 0
  have hlt := h.lt
  have hU := Lib.run_to_unsafe (P := Tryd.prog) (w := w) ⟨b, 0, none⟩ Tryd.underlying102 Tryd.underlying151 hj (by rw [hjs]; decide) hsh (by show 0 < 2; decide)
  have hV := Lib.run_from_unsafe (P := Tryd.prog) (w := w) ⟨b, 0, none⟩ Tryd.underlying151 Tryd.underlying102 hj hsh (by kernel_rfl)
  have he : (Extern.AbiNoEscape.same #[.pointer (some ⟨b, 0, none⟩)]).run Tryd.prog w = .ok (.pointer (some ⟨b, 0, none⟩)) w := rfl
  have hN := run_callFunc_extern Tryd.func99 (by kernel_rfl) (by kernel_rfl) (by kernel_rfl) (e := Extern.AbiNoEscape.same) (by kernel_rfl) (args := #[.pointer (some ⟨b, 0, none⟩)]) (w := w)
  rw [he] at hN
  simp only [Result.andThen] at hN
  clear hj hjs hsh he h
  go_enter Tryd.func81, Tryd.ntmps81
  go_wp2
  go_end0
  exact ⟨rfl, rfl⟩
/-- A builder of the call's own (w0: what was there ahead), which holds these bytes. -/
def SB (w0 w : World) (b : Nat) (l : List UInt8) : Prop := ∃ p v, (p = .pointer none ∨ p = .pointer (some ⟨b, 0, none⟩)) ∧ Blk w b 104 [p, v] ∧ Own w0 w 5 1 v l.length (l.map u8c) ∧ w0.heap.size ≤ b
theorem SB.below {w0 w : World} {b : Nat} {l : List UInt8} (h : SB w0 w b l) : Below w0.heap.size w0 w := by obtain ⟨p, v, _, _, h, _⟩ := h; exact h.2
theorem SB.gr {w0 w w' : World} {b : Nat} {l : List UInt8} (h : SB w0 w b l) (hg : Gr w w') : SB w0 w' b l := by
  obtain ⟨p, v, hp, hb, ho, hl⟩ := h
  exact ⟨p, v, hp, hg.blk hb, ho.mono hg, hl⟩
/-- Blocks of cells that are neither bytes nor a builder stay. -/
def FB (w w' : World) : Prop := ∀ g t cs, t ≠ 5 → t ≠ 104 → Blk w g t cs → Blk w' g t cs
theorem FB.gr {w w' : World} (h : Gr w w') : FB w w' := fun g t cs _ _ hb => h.blk hb
theorem FB.trans {a b c : World} (h : FB a b) (k : FB b c) : FB a c := fun g t cs h1 h2 hb => k g t cs h1 h2 (h g t cs h1 h2 hb)
theorem FB.set {w : World} {b i : Nat} {cs : List Value} (h : Blk w b 104 cs) (v : Value) : FB w (w.setCell ⟨b, i, none⟩ v) := fun g t ds _ h2 hb => hb.far (fun e => by
  have e' : g = b := e
  subst e'
  unfold Blk at h hb
  rw [h] at hb
  injection hb with hb
  injection hb with _ hb
  exact h2 hb.symm) v
theorem FB.grown {w0 w w' : World} {v : Value} {n : Nat} {xs : List Value} (ho : Own w0 w 5 1 v n xs) (hg : w.grownBy w' v.ownBlock) : FB w w' := fun g t cs h1 _ hb => (hg.block g hb.lt (fun e => ho.not_blk hb (fun q => h1 q.symm) e.symm)).trans hb
theorem strCells_u8 (s : ByteArray) : Lib.strCells s = s.data.toList.map u8c := rfl
theorem tBytes' : ElemT Tryd.prog 22 5 (.int .u8 0) 1 1 := ⟨Tryd.underlying22, by kernel_rfl, rfl, by decide, by decide⟩
theorem sbCheck_any (w0 : World) (b : Nat) (l : List UInt8) (w : World) (h : SB w0 w b l) :
    Calls Tryd.prog 81 #[.pointer (some ⟨b, 0, none⟩)] w fun e w' => e = .returned (.tuple #[]) ∧ FB w w' ∧ ∃ v, Blk w' b 104 [.pointer (some ⟨b, 0, none⟩), v] ∧ Own w0 w' 5 1 v l.length (l.map u8c) ∧ w0.heap.size ≤ b := by
  obtain ⟨p, v, rfl | rfl, hb, ho, hl⟩ := h
  · refine (sbFresh_any b v w hb).mono ?_
    rintro e w' ⟨rfl, rfl⟩
    have t : Tch (fun x => x = b) w (w.setCell ⟨b, 0, none⟩ (.pointer (some ⟨b, 0, none⟩))) := Tch.set _ _ rfl
    exact ⟨rfl, FB.set hb _, v, hb.set 0 _, ho.tch t (fun x e => by omega) (fun x hx e => by subst e; exact ho.not_blk hb (by decide) hx), hl⟩
  · refine (sbUsed_any b w ((hb.cell 0).trans rfl)).mono ?_
    rintro e w' ⟨rfl, rfl⟩
    exact ⟨rfl, FB.gr (Gr.refl _), v, hb, ho, hl⟩
set_option maxRecDepth 100000 in
set_option maxHeartbeats 1000000 in
theorem sbWrite_any (w0 : World) (b : Nat) (l : List UInt8) (s : ByteArray) (w : World) (h : SB w0 w b l) (hs : l.length + s.size ≤ 1000000000) :
    Calls Tryd.prog 51 #[.pointer (some ⟨b, 0, none⟩), .string s] w fun e w' => e = .returned (.tuple #[.int .i64 s.size, .nilIface]) ∧ SB w0 w' b (l ++ s.data.toList) ∧ FB w w' := by
  obtain ⟨i0, hi, hz, hsz, hby⟩ := info_parts tBytes'.info
  have HC := Lib.hid (sbCheck_any w0 b l w h)
  clear h
  go_enter Tryd.func51, Tryd.ntmps51
  go_wp2_with fail
  refine HC.out.mono ?_
  rintro e w1 ⟨rfl, fb, v, hb, ho, hl⟩
  have F1 := Lib.hid fb; clear fb
  have c1 : w1.cell? ⟨b, 1, none⟩ = some v := (hb.cell 1).trans rfl
  have OW := Lib.hid ho; have BK := Lib.hid hb
  clear hb ho
  go_wp2_with (at_builtin; refine Lib.wpList_append_own_string _ rfl _ _ 22 9 rfl w0.heap.size 5 i0 Tryd.underlying22 Tryd.underlying9 hi hz hsz hby _ _ _ rfl OW.out.1 s rfl ?c3 ?c4 ?c5 ?_)
  case c3 => unfold maxLen; omega
  case c4 => omega
  case c5 => exact OW.out.2.size
  intro v' w2 own' grow' _
  have hbel : Below w0.heap.size w0 w2 := OW.out.2.grown grow' OW.out.2.size (fun k hk => (OW.out.1.lt k hk).1)
  have b2 : Blk w2 b 104 [.pointer (some ⟨b, 0, none⟩), v] := (grow'.block b BK.out.lt (fun e => OW.out.not_blk BK.out (by decide) e.symm)).trans BK.out
  have d1 : w2.cell? ⟨b, 1, none⟩ = some v := (b2.cell 1).trans rfl
  have y1 := b2.free 1
  have hlt := b2.lt
  have O2 : Hid (Own w0 w2 5 1 v' (l ++ s.data.toList).length ((l ++ s.data.toList).map u8c)) := by
    show Own _ _ _ _ _ _ _
    rw [List.map_append, List.length_append]
    exact ⟨by simpa [strCells_u8] using own', hbel⟩
  have B2 := Lib.hid b2
  have F2 := Lib.hid (F1.out.trans (FB.grown OW.out grow'))
  obtain ⟨A3, c3, rfl, _⟩ := O2.out.slice
  clear own' grow' hbel b2 c1
  go_wp2_with fail
  go_ret2
  have t : Tch (fun x => x = b) w2 (w2.setCell ⟨b, 1, none⟩ (.slice A3 (l ++ s.data.toList).length c3)) := Tch.set _ _ rfl
  have el : l.length + s.size = (l ++ s.data.toList).length := by rw [List.length_append]; rfl
  rw [el]
  exact ⟨rfl, ⟨_, _, .inr rfl, B2.out.set 1 _, O2.out.tch t (fun x e => by omega) (fun x hx e => by subst e; exact O2.out.not_blk B2.out (by decide) hx), hl⟩, F2.out.trans (FB.set B2.out _)⟩
end Go.Proofs.YtadenlhnfkccaaaDoor
