/- Own texts of this claim, one behind the other. No condition. -/
import Derived.Test.YtadenlhnfkccaaaDoorObPkA
import Derived.Test.YtadenlhnfkccaaaDoorObPkF
import Derived.Test.YtadenlhnfkccaaaDoorObPkG
import Derived.Test.YtadenlhnfkccaaaDoorObPkI
import Derived.Test.YtadenlhnfkccaaaDoorObPkJ
import Derived.Test.YtadenlhnfkccaaaDoorProg
import Derived.Deep.QuietTactic
import Derived.BigQuiet
import Derived.Lib.OthersKept
import Derived.Outline

namespace Go.Proofs.YtadenlhnfkccaaaDoor
open Go.RowKit
set_option linter.unusedVariables false

/-! ### slices of numbers -/
theorem tNums : ElemT Tryd.prog 35 3 (.int .i64 0) 1 8 := ⟨Tryd.underlying35, by kernel_rfl, rfl, by decide, by decide⟩
def RetIs (w : World) (l : List Int) (e : Ending) (w' : World) : Prop := ∃ v, e = .returned v ∧ Own w w' 3 1 v l.length (l.map i64c)
theorem Is.len {w : World} {A : Option Addr} {n c : Nat} {l : List Int} (h : Is w A n c l) : l.length = n := by have := Sl.len h; simpa using this
theorem Is.addr {w : World} {A : Option Addr} {n c : Nat} {l : List Int} (h : Is w A n c l) (hn : 0 < n) :
    ∃ b o, A = some ⟨b, o, none⟩ ∧ ∀ j, j < n → w.cell? ⟨b, o + j, none⟩ = some (.int .i64 (iAt l j)) := by
  obtain ⟨b, o, e, hc⟩ := Sl.addr h hn
  exact ⟨b, o, e, fun j hj => hc j _ (by
    have : j < l.length := by rw [h.len]; exact hj
    rw [List.getElem?_map, List.getElem?_eq_getElem this]; simp [i64c, iAt, this])⟩
theorem takeI_same {a b : List Int} {k : Nat} (ha : k < a.length) (hb : k < b.length) (h : a.take k = b.take k) (he : iAt a k = iAt b k) : a.take (k + 1) = b.take (k + 1) := by
  rw [List.take_succ_eq_append_getElem ha, List.take_succ_eq_append_getElem hb, h]
  have : a[k] = b[k] := by simpa [iAt, ha, hb] using he
  rw [this]
theorem ne_of_iAt {a b : List Int} {k : Nat} (h : iAt a k ≠ iAt b k) : (a == b) = false := by
  rw [beq_eq_false_iff_ne]; rintro rfl; exact h rfl

/-! ### numbers -/
set_option maxHeartbeats 400000 in
theorem ints_any (A B : Option Addr) (n m c d : Nat) (a b : List Int) (w : World) (ha : Is w A n c a) (hb : Is w B m d b) :
    Calls Tryd.prog 47 #[.slice A n c, .slice B m d] w fun e w' => e = .returned (.bool (a == b)) ∧ ∃ k, w' = w.drewN k := by
  have hla := ha.len
  have hlb := hb.len
  have ma := ha.max
  have mb := hb.max
  have ca := ha.cap
  have cb := hb.cap
  by_cases hnm : n = m
  · subst hnm
    have HA := Lib.hid ha; have HB := Lib.hid hb; clear ha hb
    have HLA := Lib.hid hla; have HLB := Lib.hid hlb; clear hla hlb
    have t1 : ((n : Int) != (n : Int)) = false := by simp
    go_enter Tryd.func47, Tryd.ntmps47
    go_wp2
    clear t1
    go_loopw [5] (fun i wr => ∃ k q : Nat, k ≤ n ∧ i = .int .i64 k ∧ wr = w.drewN q ∧ a.take k = b.take k) (fun i _ => n - (intOf i).toNat)
    case atStart => exact ⟨0, 0, Nat.zero_le _, rfl, rfl, rfl⟩
    case round =>
      obtain ⟨k, q, hk, rfl, rfl, hsame⟩ := hrel
      have HSM := Lib.hid hsame; clear hsame
      by_cases hlt : k < n
      · obtain ⟨b1, o1, rfl, hc1⟩ := HA.out.addr (by omega)
        obtain ⟨b2, o2, rfl, hc2⟩ := HB.out.addr (by omega)
        have c1 : w.cell? ⟨b1, o1 + k, none⟩ = some _ := hc1 k hlt
        have c2 : w.cell? ⟨b2, o2 + k, none⟩ = some _ := hc2 k hlt
        have HC1 := Lib.hid hc1; have HC2 := Lib.hid hc2; clear hc1 hc2
        by_cases he : iAt a k = iAt b k
        · have t1 : (iAt a k != iAt b k) = false := by simp [he]
          have HE := Lib.hid he; clear he
          go_wp2
          go_quiet (fail)
          go_wp2
          go_roundw
          case rel => exact ⟨k + 1, _, by omega, by go_num, rfl, takeI_same (by rw [HLA.out]; exact hlt) (by rw [HLB.out]; exact hlt) HSM.out HE.out⟩
          case measure => simp [intOf]; omega
        · have t1 : (iAt a k != iAt b k) = true := by simpa using he
          have HE := Lib.hid (ne_of_iAt he); clear he
          go_wp2
          go_quiet (fail)
          go_wp2
          go_ret
          exact ⟨ret_bool HE.out.symm, _, World.drewN_drewN _ _ _⟩
      · obtain rfl : k = n := by omega
        have HE : Hid ((a == b) = true) := by
          have h := HSM.out
          rw [List.take_of_length_le (by rw [HLA.out]; omega), List.take_of_length_le (by rw [HLB.out]; omega)] at h
          exact beq_iff_eq.2 h
        go_wp2
        go_ret
        exact ⟨ret_bool HE.out.symm, _, rfl⟩
  · have t1 : ((n : Int) != (m : Int)) = true := by rw [bne_iff_ne]; omega
    have HE : Hid ((a == b) = false) := by
      apply beq_eq_false_iff_ne.2
      rintro rfl
      omega
    clear ha hb
    go_enter Tryd.func47, Tryd.ntmps47
    go_wp2
    go_ret
    exact ⟨ret_bool HE.out.symm, 0, rfl⟩
end Go.Proofs.YtadenlhnfkccaaaDoor

/- Lines of scripts: a line in memory; which ones are kept. No condition. -/
namespace Go.Proofs.YtadenlhnfkccaaaDoor
open Go.RowKit
set_option linter.unusedVariables false
set_option linter.unusedSimpArgs false
/-- A line, and where its three rows lie. -/
structure LnV where
  d : LnD
  A : Option Addr
  c : Nat
  B : Option Addr
  q : Nat
  C : Option Addr
  s : Nat
def LnV.cells (x : LnV) : List Value := [.int .i64 x.d.k, .int .i64 x.d.o.k, strc x.d.o.g, strc x.d.o.i, .int .i64 x.d.o.e, .int .i64 x.d.o.s, .int .i64 x.d.o.n, .int .i64 x.d.o.v, .slice x.A x.d.o.x.length x.c, .int .i64 x.d.n, .slice x.B x.d.p.length x.q, .int .i64 x.d.t, .int .i64 x.d.a, strc x.d.g, .int .i64 x.d.e, strc x.d.i, .slice x.C x.d.b.length x.s]
def LnV.arr (x : LnV) : Array Value := x.cells.toArray
structure LnAt (w : World) (x : LnV) : Prop where
  o : Bs w x.A x.d.o.x.length x.c x.d.o.x
  p : Is w x.B x.d.p.length x.q x.d.p
  b : Bs w x.C x.d.b.length x.s x.d.b
theorem LnAt.gr {w w' : World} {x : LnV} (h : LnAt w x) (g : Gr w w') : LnAt w' x := ⟨h.o.mono g, h.p.mono g, h.b.mono g⟩
theorem LnV.one (x : LnV) : ∀ u ∈ x.cells, u.oneCell' = true := by
  intro v hv
  simp only [LnV.cells, List.mem_cons, List.not_mem_nil, or_false] at hv
  rcases hv with h | h | h | h | h | h | h | h | h | h | h | h | h | h | h | h | h <;> subst h <;> rfl
theorem LnV.len (x : LnV) : x.cells.length = 17 := rfl
theorem lnOne (x : LnV) : x.arr.all (·.oneCell') = true := by
  rw [Array.all_eq_true']
  intro v hv
  exact x.one v (by simpa [LnV.arr] using hv)
theorem lnSize : (Tryd.prog.info? 53).map (·.size) = some 17 := by kernel_rfl
/-- Its rows lie in new memory. -/
structure LnNew (w : World) (x : LnV) : Prop where
  o : ∀ b q, x.A = some ⟨b, q, none⟩ → 0 < x.d.o.x.length → w.heap.size ≤ b
  p : ∀ b q, x.B = some ⟨b, q, none⟩ → 0 < x.d.p.length → w.heap.size ≤ b
  b : ∀ b q, x.C = some ⟨b, q, none⟩ → 0 < x.d.b.length → w.heap.size ≤ b
def RetLn (w : World) (r : LnD × Nat) (e : Ending) (w' : World) : Prop := ∃ x, e = .returned (.tuple #[.agg (LnV.arr x), .int .i64 (r.2 : Int)]) ∧ x.d = r.1 ∧ LnAt w' x ∧ Gr w w' ∧ LnNew w x
theorem results_ln {fn : Func} {p u : Tmp} (h : fn.results = #[.cell p 53, .tmp u]) (tmps : Array Value) (w : World) (g : Nat) (t : TypeId) (cs : Array Value)
    (hp : tmps.getD p undef = .pointer (some ⟨g, 0, none⟩)) (hg : w.heap[g]? = some (.cells cs t (0, 0))) (hc : cs.size = 17) :
    (results fn tmps).run Tryd.prog w = .ok (.tuple #[.agg cs, tmps.getD u undef]) w := by
  rw [results_cell_tmp h, hp]
  simp only [asAddr, Sem.run_pure, Result.andThen, run_loadVar_row w g t 53 cs (0, 0) _ hg Tryd.underlying53 rfl (by rw [lnSize, hc])]
/-! ### which ones are kept -/
def keepL' (w : List UInt8) : List Int := w.map fun c => (c.toNat : Int) - 48
theorem Own.not_iterR {w0 w : World} {e : TypeId} {s n I : Nat} {v : Value} {xs : List Value} {t : ByteArray} {k : Nat} (h : Own w0 w e s v n xs) (hi : w.heap[I]? = some (.stringIter t k)) : v.ownBlock ≠ some I := by
  intro hv
  rcases h.1.2 with ⟨h1, _⟩ | ⟨g', cap, cur, hv', _, hh, _⟩
  · rw [h1] at hv; cases hv
  · have e1 : g' = I := by rw [hv'] at hv; exact Option.some.inj hv
    rw [e1, hi] at hh
    cases hh
/-- The first blocks of a world. -/
def cutR (w : World) (n : Nat) : World := { w with heap := w.heap.extract 0 n }
theorem cutR_size {w : World} {n : Nat} (h : n ≤ w.heap.size) : (cutR w n).heap.size = n := by simp [cutR]; omega
theorem cutR_at {w : World} {n k : Nat} (h : k < n) (hn : n ≤ w.heap.size) : (cutR w n).heap[k]? = w.heap[k]? := by
  simp [cutR, Array.getElem?_extract]; omega
theorem cutR_below {w : World} {n : Nat} (h : n ≤ w.heap.size) : Below n (cutR w n) w := ⟨rfl, rfl, rfl, by rw [cutR_size h]; exact h, fun k hk => (cutR_at hk h).symm⟩
theorem own_cut {w : World} {B : Nat} {e : TypeId} {s n : Nat} {v : Value} {xs : List Value} (h : w.ownsRow B e s v n xs) (hB : B ≤ w.heap.size) : Own (cutR w B) w e s v n xs := by
  refine ⟨?_, ?_⟩
  · rw [cutR_size hB]; exact h
  · rw [cutR_size hB]; exact cutR_below hB
structure KpSt (w wr : World) (R I : Nat) (s : ByteArray) (us : List Value) (k : Nat) (v : Value) (xs : List Value) : Prop where
  r : Blk wr R 138 (us.set 10 v)
  own : wr.ownsRow w.heap.size 3 1 v k xs
  it : wr.heap[I]? = some (.stringIter s k)
  t : Tch (fun q => q = R) w wr
  rl : R < w.heap.size
  il : w.heap.size ≤ I
section
variable {w wr : World} {R I : Nat} {s : ByteArray} {us : List Value} {k : Nat} {v : Value} {xs : List Value}
theorem KpSt.next (h : KpSt w wr R I s us k v xs) (k' : Nat) : Blk (wr.iterAt I s k') R 138 (us.set 10 v) ∧ Own (cutR (wr.iterAt I s k') w.heap.size) (wr.iterAt I s k') 3 1 v k xs ∧ (wr.iterAt I s k').heap[I]? = some (.stringIter s k') ∧ Tch (fun q => q = R) w (wr.iterAt I s k') := by
  have hRI : R ≠ I := by have := h.rl; have := h.il; omega
  refine ⟨(Lib.iterAt_other wr I R s k' hRI).trans h.r, own_cut ⟨h.own.1, ?_⟩ (by rw [Lib.iterAt_size]; exact h.t.size), Lib.iterAt_heap wr I s k k' h.it, h.t.trans' (Tch.iterAt wr I s k') (fun x hx e => by have := h.il; omega)⟩
  rcases h.own.2 with q | ⟨g, cap, cur, hv, hg, hh, r⟩
  · exact .inl q
  · refine .inr ⟨g, cap, cur, hv, hg, (Lib.iterAt_other wr I g s k' ?_).trans hh, r⟩
    rintro rfl
    rw [h.it] at hh; cases hh
theorem KpSt.push (h : KpSt w wr R I s us k v xs) {n v5 : Value} {w5 : World} (o : Own (cutR (wr.iterAt I s (k + 1)) w.heap.size) w5 3 1 v5 (k + 1) (xs ++ [n])) (kp : Kept ((wr.iterAt I s (k + 1)).alloc (.cells #[n] 3)) w5 v v5) :
    Blk w5 R 138 (us.set 10 v) ∧ KpSt w (w5.setCell ⟨R, 10, none⟩ v5) R I s us (k + 1) v5 (xs ++ [n]) := by
  obtain ⟨hr, own, hi, ht⟩ := h.next (k + 1)
  have hsz : (cutR (wr.iterAt I s (k + 1)) w.heap.size).heap.size = w.heap.size := cutR_size ht.size
  have hrl := h.rl
  have hil := h.il
  have hRI : R ≠ I := by omega
  have oa := own.alloc (.cells #[n] 3)
  have T := Tch.kept kp o oa.2
  have hra := hr.alloc (.cells #[n] 3)
  have nR : v.ownBlock ≠ some R := oa.not_blk hra (by decide)
  have hr5 := hra.tch T nR
  have hilt : I < (wr.iterAt I s (k + 1)).heap.size := (Array.getElem?_eq_some_iff.1 hi).1
  have hia : ((wr.iterAt I s (k + 1)).alloc (.cells #[n] 3)).heap[I]? = some (.stringIter s (k + 1)) := (Below.heap_alloc _ _ I hilt).trans hi
  have nI : v.ownBlock ≠ some I := oa.not_iterR hia
  have hi5 := (T.keep I (Array.getElem?_eq_some_iff.1 hia).1 nI).trans hia
  have o1 := o.1
  rw [hsz] at o1
  refine ⟨hr5, ?_, ownsRow_setCell_below o1 hrl v5, (Below.heap_setCell w5 ⟨R, 10, none⟩ v5 I (fun e => hRI e.symm)).trans hi5, ?_, hrl, hil⟩
  · have := hr5.set 10 v5
    rwa [List.set_set] at this
  · refine ((ht.trans (Tch.gr (Gr.alloc _ _))).trans' T (fun x hx e => ?_)).trans (Tch.set ⟨R, 10, none⟩ v5 rfl)
    have := (World.ownsRow.lt oa.1 x e).1
    omega
end
theorem keep_step {l : List UInt8} {k : Nat} (h : k < l.length) : (keepL' (l.take (k + 1))) = keepL' (l.take k) ++ [((l[k].toNat : Int) - 48)] := by
  unfold keepL'
  rw [List.take_succ_eq_append_getElem h, List.map_append]; rfl
set_option maxRecDepth 100000 in
set_option maxHeartbeats 2000000 in
theorem keep_any (R : Nat) (us : List Value) (h17 : us.length = 17) (l : List UInt8) (w : World) (hl : l.length ≤ 100000) (hR : Blk w R 138 us) :
    Calls Tryd.prog 95 #[.pointer (some ⟨R, 0, none⟩), strc l] w fun e w' => e = .returned (.bool (keepB l)) ∧ (keepB l = true → ∃ B q, Blk w' R 138 (us.set 10 (.slice B (keepL l).length q)) ∧ Is w' B (keepL l).length q (keepL l) ∧ ∀ b o, B = some ⟨b, o, none⟩ → 0 < (keepL l).length → R < b) ∧ Tch (fun q => q = R) w w' := by
  obtain ⟨s, hs⟩ : ∃ s : ByteArray, s = ⟨l.toArray⟩ := ⟨_, rfl⟩
  have hsz : s.size = l.length := by rw [hs]; exact size_of' l
  have hsl : s.toList = l := by rw [hs, ByteArray.toList_eq]
  have HAT := Lib.hid (at_of l s hs)
  have hss : strc l = .string s := by rw [hs]; rfl
  rw [hss]
  clear hs hss
  have c1 : w.cell? ⟨R, 10, none⟩ = some (us[10]'(by omega)) := (hR.cell 10).trans (List.getElem?_eq_getElem (by omega))
  have f1 := hR.free 10
  have HR := Lib.hid hR
  have hrl := hR.lt
  clear hR
  go_enter Tryd.func95, Tryd.ntmps95
  by_cases hd : l = [45]
  · have td : (s.toList == ([45] : List UInt8)) = true := by rw [hsl, hd]; rfl
    have HK : Hid (keepB l = true ∧ keepL l = []) := by subst hd; exact ⟨rfl, rfl⟩
    clear hsl
    go_wp2_with fail
    go_ret
    exact ⟨by rw [HK.out.1]; rfl, fun _ => by rw [HK.out.2]; exact ⟨none, 0, HR.out.set 10 _, Sl.nil _ _, fun b o e => by cases e⟩, Tch.set _ _ rfl⟩
  · have td : (s.toList == ([45] : List UInt8)) = false := by rw [hsl]; exact beq_false_of_ne hd
    have HKB : Hid (keepB l = (l.all (fun c => c == 48 || c == 49) && decide (1 ≤ l.length) && decide (l.length ≤ 64))) := by show _ = _; unfold keepB; rw [beq_false_of_ne hd, Bool.false_or]
    have HKL : Hid (keepL l = keepL' l) := by show _ = _; unfold keepL; rw [if_neg hd]; rfl
    have HSL := Lib.hid hsl
    have hlsz := hsz
    clear hsl hd
    go_wp2_with fail
    have hI : ((w.setCell ⟨R, 10, none⟩ (.slice none 0 0)).iter s 0).heap[w.heap.size]? = some (.stringIter s 0) := by
      have := heap_alloc_new (w.setCell ⟨R, 10, none⟩ (.slice none 0 0)) (.stringIter s 0)
      rw [show (w.setCell ⟨R, 10, none⟩ (.slice none 0 0)).heap.size = w.heap.size by simp [World.setCell]] at this
      exact this
    have ST0 : Hid (KpSt w ((w.setCell ⟨R, 10, none⟩ (.slice none 0 0)).iter s 0) R w.heap.size s us 0 (.slice none 0 0) []) :=
      ⟨(HR.out.set 10 _).alloc _, World.ownsRow_nil _ _ _ _, hI, (Tch.set (S := fun q => q = R) (w := w) ⟨R, 10, none⟩ (.slice none 0 0) rfl).trans (Tch.gr (Gr.alloc _ _)), hrl, Nat.le_refl _⟩
    clear hI c1 f1
    go_loopw [6] (fun _ wr => ∃ (k : Nat) (v : Value), k ≤ s.size ∧ (l.take k).all (fun c => c == 48 || c == 49) = true ∧ KpSt w wr R w.heap.size s us k v ((keepL' (l.take k)).map i64c)) (fun _ wr => s.size - wr.iterPos w.heap.size)
    case atStart => exact ⟨0, _, Nat.zero_le _, rfl, ST0.out⟩
    case round =>
      obtain ⟨k, v, hk, hok, st⟩ := hrel
      have HOK := Lib.hid hok; have ST := Lib.hid st
      have hit := st.it
      clear hok st
      by_cases hlt : k < s.size
      · have hkl : k < l.length := by omega
        have hsc : ((s[k]'hlt).toNat : Int) = (l[k].toNat : Int) := by
          rw [HAT.out k hlt]
          unfold bAt
          rw [List.getD_eq_getElem?_getD, List.getElem?_eq_getElem hkl]; rfl
        have HSTP := Lib.hid (keep_step hkl)
        have HALL : Hid ((l.take (k + 1)).all (fun c => c == 48 || c == 49) = ((l.take k).all (fun c => c == 48 || c == 49) && (l[k] == 48 || l[k] == 49))) := by
          show _ = _
          rw [List.take_succ_eq_append_getElem hkl, List.all_append]; simp
        have HBAD : Hid ((l[k] == 48 || l[k] == 49) = false → keepB l = false) := fun h => by
          rw [HKB.out, List.all_eq_false.2 ⟨l[k], List.getElem_mem hkl, by rw [h]; decide⟩]; rfl
        generalize l[k] = ch at *
        have hok2 := HOK.out
        by_cases hc48 : ch = 48
        · have hnx : ∀ ty, (Instr.next (.pointer (some ⟨w.heap.size, 0, none⟩)) true ty).run Tryd.prog wr = .ok (.tuple #[.bool true, .int .i64 k, .int .i32 48]) (wr.iterAt w.heap.size s (k + 1)) := fun ty => by
            have hs8 : (s[k]'hlt).toNat = 48 := by rw [hc48] at hsc; have : (((48 : UInt8)).toNat : Int) = 48 := rfl; omega
            rw [Lib.run_next_ascii_at wr w.heap.size s k ty hit hlt (by omega), hs8]
            rfl
          have HE : Hid ((keepL' (l.take (k + 1))).map i64c = (keepL' (l.take k)).map i64c ++ [Value.int .i64 0]) := by show _ = _; rw [HSTP.out, hc48, List.map_append]; rfl
          have HA2 : Hid ((l.take (k + 1)).all (fun c => c == 48 || c == 49) = true) := by show _ = _; rw [HALL.out, hok2, hc48]; rfl
          obtain ⟨hr, ho, hi, ht⟩ := ST.out.next (k + 1)
          have OW := Lib.hid ho
          have c5 : (wr.iterAt w.heap.size s (k + 1)).cell? ⟨R, 10, none⟩ = some v := (hr.cell 10).trans (by rw [List.getElem?_set_self (by omega)])
          clear hr ho hi ht hsc hok2 hc48
          go_wp2_with (at_builtin; go_loud (refine wpList_pushG rfl (.tmp 29) (.tmp 33) 35 rfl tNums rfl OW.out #[Value.int .i64 0] rfl rfl (by intro u hu; simp at hu; subst hu; rfl) (by omega) ?_); intro v5 w5 o5 k5; obtain ⟨B5, q5, rfl, _⟩ := o5.slice; obtain ⟨b5, s5⟩ := ST.out.push o5 k5; have c10 : w5.cell? ⟨R, 10, none⟩ = some v := (b5.cell 10).trans (by rw [List.getElem?_set_self (by omega)]); have f10 := b5.free 10; have S5 := Lib.hid s5; clear b5 s5 o5 k5)
          refine ⟨⟨k + 1, _, by omega, HA2.out, by rw [HE.out]; exact S5.out⟩, ?_⟩
          have h1 := S5.out.it
          simp only [World.iterPos, h1, hit]
          omega
        by_cases hc49 : ch = 49
        · have hnx : ∀ ty, (Instr.next (.pointer (some ⟨w.heap.size, 0, none⟩)) true ty).run Tryd.prog wr = .ok (.tuple #[.bool true, .int .i64 k, .int .i32 49]) (wr.iterAt w.heap.size s (k + 1)) := fun ty => by
            have hs8 : (s[k]'hlt).toNat = 49 := by rw [hc49] at hsc; have : (((49 : UInt8)).toNat : Int) = 49 := rfl; omega
            rw [Lib.run_next_ascii_at wr w.heap.size s k ty hit hlt (by omega), hs8]
            rfl
          have HE : Hid ((keepL' (l.take (k + 1))).map i64c = (keepL' (l.take k)).map i64c ++ [Value.int .i64 1]) := by show _ = _; rw [HSTP.out, hc49, List.map_append]; rfl
          have HA2 : Hid ((l.take (k + 1)).all (fun c => c == 48 || c == 49) = true) := by show _ = _; rw [HALL.out, hok2, hc49]; rfl
          obtain ⟨hr, ho, hi, ht⟩ := ST.out.next (k + 1)
          have OW := Lib.hid ho
          have c5 : (wr.iterAt w.heap.size s (k + 1)).cell? ⟨R, 10, none⟩ = some v := (hr.cell 10).trans (by rw [List.getElem?_set_self (by omega)])
          clear hr ho hi ht hsc hok2 hc49
          go_wp2_with (at_builtin; go_loud (refine wpList_pushG rfl (.tmp 29) (.tmp 33) 35 rfl tNums rfl OW.out #[Value.int .i64 1] rfl rfl (by intro u hu; simp at hu; subst hu; rfl) (by omega) ?_); intro v5 w5 o5 k5; obtain ⟨B5, q5, rfl, _⟩ := o5.slice; obtain ⟨b5, s5⟩ := ST.out.push o5 k5; have c10 : w5.cell? ⟨R, 10, none⟩ = some v := (b5.cell 10).trans (by rw [List.getElem?_set_self (by omega)]); have f10 := b5.free 10; have S5 := Lib.hid s5; clear b5 s5 o5 k5)
          refine ⟨⟨k + 1, _, by omega, HA2.out, by rw [HE.out]; exact S5.out⟩, ?_⟩
          have h1 := S5.out.it
          simp only [World.iterPos, h1, hit]
          omega
        have HF := Lib.hid (HBAD.out (by simp [hc48, hc49]))
        have hrn : (Utf8.decode s k).1 ≠ 48 ∧ (Utf8.decode s k).1 ≠ 49 := by
          rcases Nat.lt_or_ge (s[k]'hlt).toNat 128 with h | h
          · rw [decode_ascii s k hlt h]
            refine ⟨fun e => hc48 (UInt8.toNat_inj.1 ?_), fun e => hc49 (UInt8.toNat_inj.1 ?_)⟩
            · have e : (s[k]'hlt).toNat = 48 := e
              show ch.toNat = 48; omega
            · have e : (s[k]'hlt).toNat = 49 := e
              show ch.toNat = 49; omega
          · have := (decode_high s k hlt h).1
            omega
        have hnx : ∀ ty, (Instr.next (.pointer (some ⟨w.heap.size, 0, none⟩)) true ty).run Tryd.prog wr = _ := fun ty => Lib.run_next_any_at wr w.heap.size s k ty hit hlt
        have HT := Lib.hid (ST.out.next (k + (Utf8.decode s k).2)).2.2.2
        generalize (Utf8.decode s k).1 = rn at *
        generalize wr.iterAt w.heap.size s (k + (Utf8.decode s k).2) = wn at *
        have t1 : ((rn : Int) != 48) = true := bne_iff_ne.2 (by omega)
        have t2 : ((rn : Int) != 49) = true := bne_iff_ne.2 (by omega)
        clear hrn hc48 hc49 hsc hok2
        go_wp2_with fail
        go_ret
        exact ⟨by rw [HF.out]; rfl, fun h => (by rw [HF.out] at h; cases h), HT.out⟩
      · obtain rfl : k = s.size := by omega
        have hnx : ∀ ty, (Instr.next (.pointer (some ⟨w.heap.size, 0, none⟩)) true ty).run Tryd.prog wr = .ok (.tuple #[.bool false]) wr := fun ty => Lib.run_next_end_at wr w.heap.size s s.size ty hit hlt
        have htk : l.take s.size = l := List.take_of_length_le (by omega)
        rw [htk] at HOK ST
        obtain ⟨B, q, hv, sl⟩ := (own_cut ST.out.own ST.out.t.size).slice
        subst hv
        have c10 : wr.cell? ⟨R, 10, none⟩ = some (.slice B s.size q) := (ST.out.r.cell 10).trans (by rw [List.getElem?_set_self (by omega)])
        have HBK : Hid (keepB l = (decide (1 ≤ s.size) && decide (s.size ≤ 64))) := by show _ = _; rw [HKB.out, HOK.out, hsz]; rfl
        have hll : (keepL l).length = s.size := by rw [HKL.out]; unfold keepL'; simp [hsz]
        have HRES : Hid (keepB l = true → ∃ B q, Blk wr R 138 (us.set 10 (.slice B (keepL l).length q)) ∧ Is wr B (keepL l).length q (keepL l) ∧ ∀ b o, B = some ⟨b, o, none⟩ → 0 < (keepL l).length → R < b) := fun _ => by
          rw [hll]
          refine ⟨B, q, ST.out.r, by rw [HKL.out]; exact sl, fun b o e h0 => ?_⟩
          have := (World.ownsRow.lt ST.out.own b (by rw [e]; rfl)).1
          omega
        have HTT := Lib.hid ST.out.t
        clear htk hll sl
        by_cases h0 : 0 < s.size
        · by_cases h64 : s.size ≤ 64
          · have HF : Hid (keepB l = true) := by show _ = _; rw [HBK.out, decide_eq_true h64, decide_eq_true (by omega)]; rfl
            have t64 : Hid (decide ((l.length : Int) ≤ 64) = true) := decide_eq_true (by omega)
            go_wp2_with fail
            go_ret
            exact ⟨by rw [HF.out]; exact congrArg (fun b => Ending.returned (.bool b)) t64.out, HRES.out, HTT.out⟩
          · have HF : Hid (keepB l = false) := by show _ = _; rw [HBK.out, decide_eq_false h64, Bool.and_false]
            have t64 : Hid (decide ((l.length : Int) ≤ 64) = false) := decide_eq_false (by omega)
            go_wp2_with fail
            go_ret
            exact ⟨by rw [HF.out]; exact congrArg (fun b => Ending.returned (.bool b)) t64.out, HRES.out, HTT.out⟩
        · have HF : Hid (keepB l = false) := by show _ = _; rw [HBK.out, decide_eq_false (by omega)]; rfl
          go_wp2_with fail
          go_ret
          exact ⟨by rw [HF.out]; rfl, HRES.out, HTT.out⟩
end Go.Proofs.YtadenlhnfkccaaaDoor

/- Lines of scripts: words read into a line. No condition. -/
namespace Go.Proofs.YtadenlhnfkccaaaDoor
open Go.RowKit
set_option linter.unusedVariables false
set_option linter.unusedSimpArgs false
set_option maxRecDepth 100000 in
theorem rdt_110 (R : Nat) (us : List Value) (h17 : us.length = 17) (s : ByteArray) (pn pf : Int) (w : World) (hR : Blk w R 138 us)
    (HPA : Hid (Calls Tryd.prog 43 #[.string s, .int .i64 1073741824] w fun e w' => e = .returned (.tuple #[.int .i64 pn, .int .i64 pf]) ∧ Gr w w')) :
    Calls Tryd.prog 78 #[.pointer (some ⟨R, 0, none⟩), .int .i32 110, .string s] w fun e w' => e = .returned (.bool (pf == 0)) ∧ Blk w' R 138 (us.set 9 (.int .i64 pn)) ∧ Tch (fun q => q = R) w w' := by
  have HR := Lib.hid hR
  clear hR
  obtain ⟨pb, hpb⟩ : ∃ pb, pb = (pf == 0) := ⟨_, rfl⟩
  rw [← hpb]
  have HPB := Lib.hid hpb; clear hpb
  go_enter Tryd.func78, Tryd.ntmps78
  go_wp2_with fail
  refine HPA.out.mono ?_
  rintro e w1 ⟨rfl, g1⟩
  have B1 := Lib.hid (HR.out.mono g1)
  have c1 : w1.cell? ⟨R, 9, none⟩ = some (us[9]'(by omega)) := (B1.out.cell 9).trans (List.getElem?_eq_getElem (by omega))
  have f1 := B1.out.free 9
  have TC : Hid (Tch (fun q => q = R) w (w1.setCell ⟨R, 9, none⟩ (.int .i64 pn))) := (Tch.gr g1).trans (Tch.set ⟨R, 9, none⟩ (.int .i64 pn) rfl)
  clear g1
  go_wp2_with fail
  go_ret
  exact ⟨by rw [HPB.out]; rfl, B1.out.set 9 _, TC.out⟩
set_option maxRecDepth 100000 in
theorem rdt_116 (R : Nat) (us : List Value) (h17 : us.length = 17) (s : ByteArray) (pn pf : Int) (w : World) (hR : Blk w R 138 us)
    (HPA : Hid (Calls Tryd.prog 43 #[.string s, .int .i64 1073741824] w fun e w' => e = .returned (.tuple #[.int .i64 pn, .int .i64 pf]) ∧ Gr w w')) :
    Calls Tryd.prog 78 #[.pointer (some ⟨R, 0, none⟩), .int .i32 116, .string s] w fun e w' => e = .returned (.bool (pf == 0)) ∧ Blk w' R 138 (us.set 11 (.int .i64 pn)) ∧ Tch (fun q => q = R) w w' := by
  have HR := Lib.hid hR
  clear hR
  obtain ⟨pb, hpb⟩ : ∃ pb, pb = (pf == 0) := ⟨_, rfl⟩
  rw [← hpb]
  have HPB := Lib.hid hpb; clear hpb
  go_enter Tryd.func78, Tryd.ntmps78
  go_wp2_with fail
  refine HPA.out.mono ?_
  rintro e w1 ⟨rfl, g1⟩
  have B1 := Lib.hid (HR.out.mono g1)
  have c1 : w1.cell? ⟨R, 11, none⟩ = some (us[11]'(by omega)) := (B1.out.cell 11).trans (List.getElem?_eq_getElem (by omega))
  have f1 := B1.out.free 11
  have TC : Hid (Tch (fun q => q = R) w (w1.setCell ⟨R, 11, none⟩ (.int .i64 pn))) := (Tch.gr g1).trans (Tch.set ⟨R, 11, none⟩ (.int .i64 pn) rfl)
  clear g1
  go_wp2_with fail
  go_ret
  exact ⟨by rw [HPB.out]; rfl, B1.out.set 11 _, TC.out⟩
set_option maxRecDepth 100000 in
theorem rdt_97 (R : Nat) (us : List Value) (h17 : us.length = 17) (s : ByteArray) (pn pf : Int) (w : World) (hR : Blk w R 138 us)
    (HPA : Hid (Calls Tryd.prog 43 #[.string s, .int .i64 1073741824] w fun e w' => e = .returned (.tuple #[.int .i64 pn, .int .i64 pf]) ∧ Gr w w')) :
    Calls Tryd.prog 78 #[.pointer (some ⟨R, 0, none⟩), .int .i32 97, .string s] w fun e w' => e = .returned (.bool (pf == 0)) ∧ Blk w' R 138 (us.set 12 (.int .i64 pn)) ∧ Tch (fun q => q = R) w w' := by
  have HR := Lib.hid hR
  clear hR
  obtain ⟨pb, hpb⟩ : ∃ pb, pb = (pf == 0) := ⟨_, rfl⟩
  rw [← hpb]
  have HPB := Lib.hid hpb; clear hpb
  go_enter Tryd.func78, Tryd.ntmps78
  go_wp2_with fail
  refine HPA.out.mono ?_
  rintro e w1 ⟨rfl, g1⟩
  have B1 := Lib.hid (HR.out.mono g1)
  have c1 : w1.cell? ⟨R, 12, none⟩ = some (us[12]'(by omega)) := (B1.out.cell 12).trans (List.getElem?_eq_getElem (by omega))
  have f1 := B1.out.free 12
  have TC : Hid (Tch (fun q => q = R) w (w1.setCell ⟨R, 12, none⟩ (.int .i64 pn))) := (Tch.gr g1).trans (Tch.set ⟨R, 12, none⟩ (.int .i64 pn) rfl)
  clear g1
  go_wp2_with fail
  go_ret
  exact ⟨by rw [HPB.out]; rfl, B1.out.set 12 _, TC.out⟩
set_option maxRecDepth 100000 in
theorem rdt_101 (R : Nat) (us : List Value) (h17 : us.length = 17) (s : ByteArray) (pn pf : Int) (w : World) (hR : Blk w R 138 us)
    (HPA : Hid (Calls Tryd.prog 43 #[.string s, .int .i64 1073741824] w fun e w' => e = .returned (.tuple #[.int .i64 pn, .int .i64 pf]) ∧ Gr w w')) :
    Calls Tryd.prog 78 #[.pointer (some ⟨R, 0, none⟩), .int .i32 101, .string s] w fun e w' => e = .returned (.bool (pf == 0)) ∧ Blk w' R 138 (us.set 14 (.int .i64 pn)) ∧ Tch (fun q => q = R) w w' := by
  have HR := Lib.hid hR
  clear hR
  obtain ⟨pb, hpb⟩ : ∃ pb, pb = (pf == 0) := ⟨_, rfl⟩
  rw [← hpb]
  have HPB := Lib.hid hpb; clear hpb
  go_enter Tryd.func78, Tryd.ntmps78
  go_wp2_with fail
  refine HPA.out.mono ?_
  rintro e w1 ⟨rfl, g1⟩
  have B1 := Lib.hid (HR.out.mono g1)
  have c1 : w1.cell? ⟨R, 14, none⟩ = some (us[14]'(by omega)) := (B1.out.cell 14).trans (List.getElem?_eq_getElem (by omega))
  have f1 := B1.out.free 14
  have TC : Hid (Tch (fun q => q = R) w (w1.setCell ⟨R, 14, none⟩ (.int .i64 pn))) := (Tch.gr g1).trans (Tch.set ⟨R, 14, none⟩ (.int .i64 pn) rfl)
  clear g1
  go_wp2_with fail
  go_ret
  exact ⟨by rw [HPB.out]; rfl, B1.out.set 14 _, TC.out⟩
set_option maxRecDepth 100000 in
theorem rdt_103 (R : Nat) (us : List Value) (h17 : us.length = 17) (s : ByteArray) (pn pf : Int) (pb : Bool) (w : World) (hR : Blk w R 138 us)
    (HPA : Hid (Calls Tryd.prog 43 #[.string s, .int .i64 1073741824] w fun e w' => e = .returned (.tuple #[.int .i64 pn, .int .i64 pf]) ∧ Gr w w'))
    (HPT : Hid (∀ wr, Calls Tryd.prog 69 #[.string s] wr fun e w' => e = .returned (.bool pb) ∧ Gr wr w')) :
    Calls Tryd.prog 78 #[.pointer (some ⟨R, 0, none⟩), .int .i32 103, .string s] w fun e w' => e = .returned (.bool pb) ∧ Blk w' R 138 (us.set 13 (.string s)) ∧ Tch (fun q => q = R) w w' := by
  have HR := Lib.hid hR
  clear hR
  go_enter Tryd.func78, Tryd.ntmps78
  go_wp2_with fail
  refine HPA.out.mono ?_
  rintro e w1 ⟨rfl, g1⟩
  have B1 := Lib.hid (HR.out.mono g1)
  have c1 : w1.cell? ⟨R, 13, none⟩ = some (us[13]'(by omega)) := (B1.out.cell 13).trans (List.getElem?_eq_getElem (by omega))
  have f1 := B1.out.free 13
  have TC : Hid (Tch (fun q => q = R) w (w1.setCell ⟨R, 13, none⟩ (.string s))) := (Tch.gr g1).trans (Tch.set ⟨R, 13, none⟩ (.string s) rfl)
  have B2 := Lib.hid (B1.out.set 13 (.string s))
  clear g1
  go_wp2_with fail
  refine (HPT.out _).mono ?_
  rintro e w3 ⟨rfl, g3⟩
  have G3 := Lib.hid g3; clear g3
  go_wp2_with fail
  go_ret
  exact ⟨rfl, B2.out.mono G3.out, TC.out.trans (Tch.gr G3.out)⟩
set_option maxRecDepth 100000 in
theorem rdt_105 (R : Nat) (us : List Value) (h17 : us.length = 17) (s : ByteArray) (pn pf : Int) (pb : Bool) (w : World) (hR : Blk w R 138 us)
    (HPA : Hid (Calls Tryd.prog 43 #[.string s, .int .i64 1073741824] w fun e w' => e = .returned (.tuple #[.int .i64 pn, .int .i64 pf]) ∧ Gr w w'))
    (HPT : Hid (∀ wr, Calls Tryd.prog 69 #[.string s] wr fun e w' => e = .returned (.bool pb) ∧ Gr wr w')) :
    Calls Tryd.prog 78 #[.pointer (some ⟨R, 0, none⟩), .int .i32 105, .string s] w fun e w' => e = .returned (.bool pb) ∧ Blk w' R 138 (us.set 15 (.string s)) ∧ Tch (fun q => q = R) w w' := by
  have HR := Lib.hid hR
  clear hR
  go_enter Tryd.func78, Tryd.ntmps78
  go_wp2_with fail
  refine HPA.out.mono ?_
  rintro e w1 ⟨rfl, g1⟩
  have B1 := Lib.hid (HR.out.mono g1)
  have c1 : w1.cell? ⟨R, 15, none⟩ = some (us[15]'(by omega)) := (B1.out.cell 15).trans (List.getElem?_eq_getElem (by omega))
  have f1 := B1.out.free 15
  have TC : Hid (Tch (fun q => q = R) w (w1.setCell ⟨R, 15, none⟩ (.string s))) := (Tch.gr g1).trans (Tch.set ⟨R, 15, none⟩ (.string s) rfl)
  have B2 := Lib.hid (B1.out.set 15 (.string s))
  clear g1
  go_wp2_with fail
  refine (HPT.out _).mono ?_
  rintro e w3 ⟨rfl, g3⟩
  have G3 := Lib.hid g3; clear g3
  go_wp2_with fail
  go_ret
  exact ⟨rfl, B2.out.mono G3.out, TC.out.trans (Tch.gr G3.out)⟩
set_option maxRecDepth 100000 in
theorem rdt_107 (R : Nat) (us : List Value) (h17 : us.length = 17) (l : List UInt8) (pn pf : Int) (w : World) (hl : l.length ≤ 100000) (hR : Blk w R 138 us)
    (HPA : Hid (Calls Tryd.prog 43 #[strc l, .int .i64 1073741824] w fun e w' => e = .returned (.tuple #[.int .i64 pn, .int .i64 pf]) ∧ Gr w w')) :
    Calls Tryd.prog 78 #[.pointer (some ⟨R, 0, none⟩), .int .i32 107, strc l] w fun e w' => e = .returned (.bool (keepB l)) ∧ (keepB l = true → ∃ B q, Blk w' R 138 (us.set 10 (.slice B (keepL l).length q)) ∧ Is w' B (keepL l).length q (keepL l) ∧ ∀ b o, B = some ⟨b, o, none⟩ → 0 < (keepL l).length → R < b) ∧ Tch (fun q => q = R) w w' := by
  have HR := Lib.hid hR
  clear hR
  have HKP := Lib.hid (fun wr (h : Blk wr R 138 us) => keep_any R us h17 l wr hl h)
  obtain ⟨s, hs⟩ : ∃ s, strc l = .string s := ⟨_, rfl⟩
  rw [hs] at HPA HKP ⊢
  clear hs
  go_enter Tryd.func78, Tryd.ntmps78
  go_wp2_with fail
  refine HPA.out.mono ?_
  rintro e w1 ⟨rfl, g1⟩
  have B1 := Lib.hid (HR.out.mono g1)
  have G1 := Lib.hid g1
  clear g1
  go_wp2_with fail
  refine (HKP.out _ B1.out).mono ?_
  rintro e w3 ⟨rfl, k3, t3⟩
  have K3 := Lib.hid k3; have T3 := Lib.hid t3; clear k3 t3
  go_wp2_with fail
  go_ret
  exact ⟨rfl, K3.out, (Tch.gr G1.out).trans T3.out⟩
set_option maxRecDepth 100000 in
theorem rdt_120 (R : Nat) (us : List Value) (h17 : us.length = 17) (s : ByteArray) (r : List UInt8 × Nat × Nat) (pn pf : Int) (w : World) (hR : Blk w R 138 us)
    (HPA : Hid (Calls Tryd.prog 43 #[.string s, .int .i64 1073741824] w fun e w' => e = .returned (.tuple #[.int .i64 pn, .int .i64 pf]) ∧ Gr w w'))
    (HHX : Hid (∀ wr, Calls Tryd.prog 45 #[.string s] wr (RetHex wr r))) :
    Calls Tryd.prog 78 #[.pointer (some ⟨R, 0, none⟩), .int .i32 120, .string s] w fun e w' => e = .returned (.bool (r.2.2 == 0 && decide (0 < r.1.length) && decide (r.1.length ≤ 512))) ∧ (∃ C c, Blk w' R 138 (us.set 16 (.slice C r.1.length c)) ∧ Bs w' C r.1.length c r.1 ∧ ∀ b o, C = some ⟨b, o, none⟩ → 0 < r.1.length → R < b) ∧ Tch (fun q => q = R) w w' := by
  have HR := Lib.hid hR
  clear hR
  obtain ⟨bs, at_, f⟩ := r
  simp only
  go_enter Tryd.func78, Tryd.ntmps78
  go_wp2_with fail
  refine HPA.out.mono ?_
  rintro e w1 ⟨rfl, g1⟩
  have B1 := Lib.hid (HR.out.mono g1)
  have G1 := Lib.hid g1
  clear g1
  go_wp2_with fail
  refine (HHX.out _).mono ?_
  rintro e w3 ⟨v, rfl, o3⟩
  obtain ⟨C, c, rfl, s3⟩ := o3.slice
  have B3 := Lib.hid (B1.out.mono o3.below)
  have c1 : w3.cell? ⟨R, 16, none⟩ = some (us[16]'(by omega)) := (B3.out.cell 16).trans (List.getElem?_eq_getElem (by omega))
  have f1 := B3.out.free 16
  have nC : ∀ b o, C = some ⟨b, o, none⟩ → 0 < bs.length → R < b := fun b o e h0 => by
    have := (World.ownsRow.lt o3.1 b (by rw [e]; rfl)).1
    have := B1.out.lt
    omega
  have B4 := Lib.hid (B3.out.set 16 (.slice C bs.length c))
  have T4 : Hid (Tch (fun q => q = R) w (w3.setCell ⟨R, 16, none⟩ (.slice C bs.length c))) := ((Tch.gr G1.out).trans (Tch.gr o3.below)).trans (Tch.set ⟨R, 16, none⟩ (.slice C bs.length c) rfl)
  have S4 : Hid (Bs (w3.setCell ⟨R, 16, none⟩ (.slice C bs.length c)) C bs.length c bs) := Sl.tch s3 (by decide) (Tch.set (S := fun q => q = R) ⟨R, 16, none⟩ (.slice C bs.length c) rfl) (fun h0 b o e hb => by have := nC b o e h0; have hb : b = R := hb; omega)
  have c2 : (w3.setCell ⟨R, 16, none⟩ (.slice C bs.length c)).cell? ⟨R, 16, none⟩ = some (.slice C bs.length c) := (B4.out.cell 16).trans (by rw [List.getElem?_set_self (by omega)])
  have NC := Lib.hid nC
  clear nC s3 o3
  by_cases hf : f = 0
  · have tf : ((f : Int) == 0) = true := by rw [hf]; rfl
    have HE : Hid ((f == 0) = true) := by show _ = _; rw [hf]; rfl
    clear hf
    by_cases h0 : 0 < bs.length
    · by_cases h5 : bs.length ≤ 512
      · have t5 : Hid (decide ((bs.length : Int) ≤ 512) = true) := decide_eq_true (by omega)
        go_wp2_with fail
        go_ret
        exact ⟨by rw [HE.out, decide_eq_true h0, decide_eq_true h5]; exact congrArg (fun b => Ending.returned (.bool b)) t5.out, ⟨C, c, B4.out, S4.out, NC.out⟩, T4.out⟩
      · have t5 : Hid (decide ((bs.length : Int) ≤ 512) = false) := decide_eq_false (by omega)
        go_wp2_with fail
        go_ret
        exact ⟨by rw [HE.out, decide_eq_true h0, decide_eq_false h5]; exact congrArg (fun b => Ending.returned (.bool b)) t5.out, ⟨C, c, B4.out, S4.out, NC.out⟩, T4.out⟩
    · go_wp2_with fail
      go_ret
      exact ⟨by rw [HE.out, decide_eq_false h0]; rfl, ⟨C, c, B4.out, S4.out, NC.out⟩, T4.out⟩
  · have tf : ((f : Int) == 0) = false := beq_eq_false_iff_ne.2 (by omega)
    have HE : Hid ((f == 0) = false) := beq_eq_false_iff_ne.2 hf
    clear hf
    go_wp2_with fail
    go_ret
    exact ⟨by rw [HE.out]; rfl, ⟨C, c, B4.out, S4.out, NC.out⟩, T4.out⟩
/-! ### all signs -/
def SignT (s : Nat) : Prop := s = 110 ∨ s = 116 ∨ s = 97 ∨ s = 101 ∨ s = 107 ∨ s = 103 ∨ s = 105 ∨ s = 120
/-- The reader's line, in its block. -/
def RsT (w : World) (R : Nat) (d : LnD) : Prop := ∃ B q C s, Blk w R 138 (LnV.cells ⟨d, none, 0, B, q, C, s⟩) ∧ d.o.x = [] ∧ Is w B d.p.length q d.p ∧ Bs w C d.b.length s d.b ∧ (∀ b o, B = some ⟨b, o, none⟩ → 0 < d.p.length → R < b) ∧ (∀ b o, C = some ⟨b, o, none⟩ → 0 < d.b.length → R < b)
theorem RsT.tch {w : World} {R I : Nat} {d : LnD} {s : ByteArray} {k k' : Nat} (h : RsT w R d) (hit : w.heap[I]? = some (.stringIter s k)) (hRI : R ≠ I) : RsT (w.iterAt I s k') R d := by
  obtain ⟨B, q, C, c, hR, hx, hp, hb, nB, nC⟩ := h
  have off : ∀ {A : Option Addr} {n c : Nat} {xs : List Value}, Sl w A n c 1 xs → 0 < n → ∀ b o, A = some ⟨b, o, none⟩ → b ≠ I := by
    intro A n c xs hs h0 b o e hb
    obtain ⟨h1, _, _, h4⟩ := hs
    obtain ⟨b', o', e', hc⟩ := h4 h0
    rw [e] at e'
    injection e' with e'
    injection e' with e1 e2
    subst e1 e2
    have hl : 0 < xs.length := by omega
    have := hc 0 _ (List.getElem?_eq_getElem hl)
    rw [hb] at this
    exact iter_not_cell hit this
  have T : Tch (fun q => q = I) w (w.iterAt I s k') := Tch.iterAt w I s k'
  exact ⟨B, q, C, c, hR.tch T hRI, hx, Sl.tch hp (by decide) T (fun h0 b o e => off hp h0 b o e), Sl.tch hb (by decide) T (fun h0 b o e => off hb h0 b o e), nB, nC⟩
theorem readT_any (d : LnD) (R s : Nat) (l : List UInt8) (w : World) (h : RsT w R d) (hl : l.length ≤ 100000) (hs : SignT s) :
    Calls Tryd.prog 78 #[.pointer (some ⟨R, 0, none⟩), .int .i32 (s : Int), strc l] w fun e w' => e = .returned (.bool (okT s l)) ∧ (okT s l = true → RsT w' R (readT d s l)) ∧ Tch (fun q => q = R) w w' := by
  obtain ⟨B, q, C, c, hR, hx, hp, hb, nB, nC⟩ := h
  have HPA : Hid (Calls Tryd.prog 43 #[strc l, .int .i64 1073741824] w fun e w' => e = .returned (.tuple #[.int .i64 (parseN l 1073741824), .int .i64 (parseF l 1073741824)]) ∧ Gr w w') := parse_any ⟨l.toArray⟩ l 1073741824 w rfl (by rw [size_of']; exact hl)
  have keepP : ∀ w', Tch (fun q => q = R) w w' → Is w' B d.p.length q d.p := fun w' t => Sl.tch hp (by decide) t (fun h0 b o e hq => by have := nB b o e h0; have hq : b = R := hq; omega)
  have keepBy : ∀ w', Tch (fun q => q = R) w w' → Bs w' C d.b.length c d.b := fun w' t => Sl.tch hb (by decide) t (fun h0 b o e hq => by have := nC b o e h0; have hq : b = R := hq; omega)
  rcases hs with rfl | rfl | rfl | rfl | rfl | rfl | rfl | rfl
  · refine (rdt_110 R _ rfl ⟨l.toArray⟩ _ _ w hR HPA).mono ?_
    rintro e w' ⟨rfl, b, t⟩
    exact ⟨rfl, fun _ => ⟨B, q, C, c, b, hx, keepP w' t, keepBy w' t, nB, nC⟩, t⟩
  · refine (rdt_116 R _ rfl ⟨l.toArray⟩ _ _ w hR HPA).mono ?_
    rintro e w' ⟨rfl, b, t⟩
    exact ⟨rfl, fun _ => ⟨B, q, C, c, b, hx, keepP w' t, keepBy w' t, nB, nC⟩, t⟩
  · refine (rdt_97 R _ rfl ⟨l.toArray⟩ _ _ w hR HPA).mono ?_
    rintro e w' ⟨rfl, b, t⟩
    exact ⟨rfl, fun _ => ⟨B, q, C, c, b, hx, keepP w' t, keepBy w' t, nB, nC⟩, t⟩
  · refine (rdt_101 R _ rfl ⟨l.toArray⟩ _ _ w hR HPA).mono ?_
    rintro e w' ⟨rfl, b, t⟩
    exact ⟨rfl, fun _ => ⟨B, q, C, c, b, hx, keepP w' t, keepBy w' t, nB, nC⟩, t⟩
  · refine (rdt_107 R _ rfl l _ _ w hl hR HPA).mono ?_
    rintro e w' ⟨rfl, k, t⟩
    refine ⟨rfl, fun h => ?_, t⟩
    obtain ⟨B', q', b, i, n⟩ := k h
    exact ⟨B', q', C, c, b, hx, i, keepBy w' t, n, nC⟩
  · refine (rdt_103 R _ rfl ⟨l.toArray⟩ _ _ _ w hR HPA (Lib.hid fun wr => part_any l wr (by omega))).mono ?_
    rintro e w' ⟨rfl, b, t⟩
    exact ⟨rfl, fun _ => ⟨B, q, C, c, b, hx, keepP w' t, keepBy w' t, nB, nC⟩, t⟩
  · refine (rdt_105 R _ rfl ⟨l.toArray⟩ _ _ _ w hR HPA (Lib.hid fun wr => part_any l wr (by omega))).mono ?_
    rintro e w' ⟨rfl, b, t⟩
    exact ⟨rfl, fun _ => ⟨B, q, C, c, b, hx, keepP w' t, keepBy w' t, nB, nC⟩, t⟩
  · refine (rdt_120 R _ rfl ⟨l.toArray⟩ (hexR l) _ _ w hR HPA (Lib.hid fun wr => hexParse_any l wr hl)).mono ?_
    rintro e w' ⟨rfl, ⟨C', c', b, i, n⟩, t⟩
    exact ⟨rfl, fun _ => ⟨B, q, C', c', b, hx, keepP w' t, i, nB, n⟩, t⟩
end Go.Proofs.YtadenlhnfkccaaaDoor

/- Lines of scripts: Parse. No condition. -/
namespace Go.Proofs.YtadenlhnfkccaaaDoor
open Go.RowKit
set_option linter.unusedVariables false
set_option linter.unusedSimpArgs false
theorem signsT_all : ∀ k s, s ∈ scrS k → SignT s.toNat := by
  intro k s h
  unfold SignT
  match k, h with
  | 2, h => simp [scrS] at h; subst h; decide
  | 3, h => simp [scrS] at h; rcases h with rfl | rfl | rfl <;> decide
  | 5, h => simp [scrS] at h; rcases h with rfl | rfl | rfl <;> decide
  | 7, h => simp [scrS] at h; rcases h with rfl | rfl | rfl <;> decide
  | 0, h => simp [scrS] at h
  | 1, h => simp [scrS] at h
  | 4, h => simp [scrS] at h
  | 6, h => simp [scrS] at h
  | k + 8, h => simp [scrS] at h
theorem scrS_len (k : Nat) : (scrS k).length ≤ 3 := by
  match k with
  | 0 | 1 | 2 | 3 | 4 | 5 | 6 | 7 => simp [scrS]
  | k + 8 => simp [scrS]
def lnV0 : LnV := ⟨ln0, none, 0, none, 0, none, 0⟩
theorem lnAt0 (w : World) : LnAt w lnV0 := ⟨Sl.nil _ _, Sl.nil _ _, Sl.nil _ _⟩
theorem lnNew0 (w : World) : LnNew w lnV0 := ⟨(fun b q e => by cases e), (fun b q e => by cases e), (fun b q e => by cases e)⟩
theorem sl_row {w : World} {A : Option Addr} {n c s : Nat} {xs cs0 : List Value} {g : Nat} {t : TypeId} (h : Sl w A n c s xs) (hs : 0 < s) (cs : Array Value) (hn : 0 < n → ∀ b o, A = some ⟨b, o, none⟩ → b ≠ g) : Sl (w.setRow g cs) A n c s xs :=
  Sl.tch h hs (S := fun q => q = g) ⟨below_row39 (Below.refl 0 w) (Nat.zero_le _) cs, fun b _ hb => by simp [World.setRow, Array.getElem?_modify, Ne.symm hb]⟩ hn
set_option maxRecDepth 100000 in
set_option maxHeartbeats 4000000 in
theorem scParse_any (l : List UInt8) (w : World) (hl : l.length ≤ 100000) (hM : MLen w) (hT : Pow10 w) : Calls Tryd.prog 48 #[strc l] w (RetLn w (parseT l)) := by
  have HPO : Hid (∀ wr, Gr w wr → Calls Tryd.prog 10 #[strc l] wr (RetOpN wr (parseO l))) := fun wr g => opParse_new l wr hl (hM.mono g) (hT.mono g)
  have HSP : Hid (∀ wr, Gr w wr → Calls Tryd.prog 30 #[strc l, .string ⟨#[32]⟩] wr (RetCut wr (cutL 32 l))) := fun wr g => split_any l wr hl (hM.mono g)
  have HFO : Hid (∀ wr : World, Calls Tryd.prog 75 #[] wr fun e w' => e = .returned (.agg scrCells) ∧ Gr wr w') := fun wr => scrForms_any wr
  have HO := Lib.hid scrOne
  obtain ⟨s, hs⟩ : ∃ s : ByteArray, strc l = .string s := ⟨_, rfl⟩
  rw [hs] at HSP HPO ⊢
  clear hs hM hT
  obtain ⟨r, hr⟩ : ∃ r, r = parseT l := ⟨_, rfl⟩
  rw [← hr]
  have HR := Lib.hid hr; clear hr
  go_enter Tryd.func48, Tryd.ntmps48
  go_wp2_with fail
  refine (HPO.out _ (Gr.alloc _ _)).mono ?_
  rintro e w0 ⟨Ao, mo, co, rfl, so, g0, hfr⟩
  have HFR : Hid (∀ b q, Ao = some ⟨b, q, none⟩ → w.heap.size ≤ b) := fun b q e => by have := hfr b q e; rw [World.size_alloc] at this; omega
  clear hfr
  have BR0 : Hid (Blk w0 w.heap.size 53 (LnV.arr lnV0).toList) := (Blk.new w 53 (LnV.arr lnV0)).mono g0
  have G0 : Hid (Gr w w0) := (Gr.alloc w _).trans g0
  obtain rfl : (parseO l).1.x.length = mo := by have := Sl.len so; simpa using this
  obtain ⟨po, hpo⟩ : ∃ po, po = parseO l := ⟨_, rfl⟩
  rw [← hpo] at so ⊢
  have HPP := Lib.hid hpo
  clear hpo HPO
  obtain ⟨o1, f1⟩ := po
  simp only at so ⊢
  have HYB := setRow_heap (w0.alloc (.cells #[.int .i64 0, .string ⟨#[]⟩, .string ⟨#[]⟩, .int .i64 0, .int .i64 0, .int .i64 0, .int .i64 0, .slice none 0 0] 24)) w0.heap.size _ (opC o1 Ao o1.x.length co) _ _ (heap_alloc_new w0 _)
  have GS0 : Gr w0 ((w0.alloc (.cells #[.int .i64 0, .string ⟨#[]⟩, .string ⟨#[]⟩, .int .i64 0, .int .i64 0, .int .i64 0, .int .i64 0, .slice none 0 0] 24)).setRow w0.heap.size (opC o1 Ao o1.x.length co)) := below_row39 ((Below.refl _ _).alloc (Nat.le_refl _) _) (Nat.le_refl _) _
  have GA := Lib.hid (G0.out.trans GS0)
  have SO := Lib.hid (Sl.gr so GS0)
  have BRA : Hid (Blk ((w0.alloc (.cells #[.int .i64 0, .string ⟨#[]⟩, .string ⟨#[]⟩, .int .i64 0, .int .i64 0, .int .i64 0, .int .i64 0, .slice none 0 0] 24)).setRow w0.heap.size (opC o1 Ao o1.x.length co)) w.heap.size 53 (LnV.arr lnV0).toList) := BR0.out.mono GS0
  have BY : Hid (Blk ((w0.alloc (.cells #[.int .i64 0, .string ⟨#[]⟩, .string ⟨#[]⟩, .int .i64 0, .int .i64 0, .int .i64 0, .int .i64 0, .slice none 0 0] 24)).setRow w0.heap.size (opC o1 Ao o1.x.length co)) w0.heap.size 24 (opC o1 Ao o1.x.length co).toList) := HYB
  clear HYB GS0 so g0
  by_cases hf : f1 = 0
  · have t18 : ((f1 : Int) == 0) = true := by rw [hf]; rfl
    have e0 := (BY.out.cell 0).trans (show _ = some (.int .i64 o1.k) from rfl)
    have e1 := (BY.out.cell 1).trans (show _ = some (strc o1.g) from rfl)
    have e2 := (BY.out.cell 2).trans (show _ = some (strc o1.i) from rfl)
    have e3 := (BY.out.cell 3).trans (show _ = some (.int .i64 o1.e) from rfl)
    have e4 := (BY.out.cell 4).trans (show _ = some (.int .i64 o1.s) from rfl)
    have e5 := (BY.out.cell 5).trans (show _ = some (.int .i64 o1.n) from rfl)
    have e6 := (BY.out.cell 6).trans (show _ = some (.int .i64 o1.v) from rfl)
    have e7 := (BY.out.cell 7).trans (show _ = some (.slice Ao o1.x.length co) from rfl)
    have HF : Hid (r = ({ ln0 with k := 1, o := o1 }, 0)) := by
      show _ = _
      rw [HR.out]
      unfold parseT
      rw [← HPP.out]
      exact if_pos hf
    have nA : ∀ b o, Ao = some ⟨b, o, none⟩ → 0 < o1.x.length → b ≠ w.heap.size := fun b o e h0 => Sl.not_blk SO.out (by decide) BRA.out (fun u hu x hx => by
      obtain ⟨z, hz, rfl⟩ := List.mem_map.1 (List.mem_of_getElem? hx)
      simp only [LnV.arr, LnV.cells, lnV0, List.mem_cons, List.not_mem_nil, or_false] at hu
      rcases hu with h | h | h | h | h | h | h | h | h | h | h | h | h | h | h | h | h <;> subst h <;> simp [u8c, strc]) h0 e
    have NA := Lib.hid nA
    clear hf nA
    go_wp2_with (first
      | (refine wpList_store_row rfl 24 (.tmp 4) (.tmp 16) rfl w0.heap.size (opC o1 Ao o1.x.length co) rfl rfl 24 #[.int .i64 0, .string ⟨#[]⟩, .string ⟨#[]⟩, .int .i64 0, .int .i64 0, .int .i64 0, .int .i64 0, .slice none 0 0] (by exact heap_alloc_new w0 _) opSize rfl (opOne _ _ _ _) ?_)
      | (refine wpList_store_row rfl 53 (.tmp 2) (.tmp 21) rfl w.heap.size (LnV.arr ⟨{ ln0 with k := 1, o := o1 }, Ao, co, none, 0, none, 0⟩) rfl rfl 53 (LnV.arr lnV0) BRA.out lnSize rfl (lnOne _) ?_))
    have HN := setRow_heap _ w.heap.size _ (LnV.arr ⟨{ ln0 with k := 1, o := o1 }, Ao, co, none, 0, none, 0⟩) _ _ BRA.out
    rw [HF.out]
    exact bodyPost_ret (results_ln Tryd.results48 _ _ w.heap.size _ _ rfl HN rfl) rfl ⟨⟨{ ln0 with k := 1, o := o1 }, Ao, co, none, 0, none, 0⟩, rfl, rfl, ⟨sl_row (cs0 := []) (t := 0) SO.out (by decide) _ (fun h0 b o e => NA.out b o e h0), Sl.nil _ _, Sl.nil _ _⟩, below_row39 GA.out (Nat.le_refl _) _, ⟨(fun b q e _ => HFR.out b q e), (fun b q e => by cases e), (fun b q e => by cases e)⟩⟩
  · have t18 : ((f1 : Int) == 0) = false := beq_eq_false_iff_ne.2 (by omega)
    have HPT : Hid (r = match lnOf l with
      | some d => (d, 0)
      | none => (ln0, 3)) := by
      show _ = _
      rw [HR.out]
      unfold parseT
      rw [← HPP.out]
      exact if_neg hf
    clear hf HR HPP BY SO BR0
    go_wp2_with (refine wpList_store_row rfl 24 (.tmp 4) (.tmp 16) rfl w0.heap.size (opC o1 Ao o1.x.length co) rfl rfl 24 #[.int .i64 0, .string ⟨#[]⟩, .string ⟨#[]⟩, .int .i64 0, .int .i64 0, .int .i64 0, .int .i64 0, .slice none 0 0] (by exact heap_alloc_new w0 _) opSize rfl (opOne _ _ _ _) ?_)
    generalize (w0.alloc (.cells #[.int .i64 0, .string ⟨#[]⟩, .string ⟨#[]⟩, .int .i64 0, .int .i64 0, .int .i64 0, .int .i64 0, .slice none 0 0] 24)).setRow w0.heap.size (opC o1 Ao o1.x.length co) = wa at *
    clear t18
    refine (HSP.out _ GA.out).mono ?_
    rintro e w1 ⟨b, o, c, rfl, s1, g1⟩
    have S1 := Lib.hid s1; have G1 := Lib.hid g1; clear s1 g1
    go_wp2_with fail
    refine (HFO.out _).mono ?_
    rintro e w2 ⟨rfl, g2⟩
    have G2 := Lib.hid g2; clear g2
    go_wp2_with (refine wpList_store_row rfl 131 (.tmp 7) (.tmp 24) rfl w2.heap.size scrCells rfl rfl 131 (reps 18 (.string ⟨#[]⟩)).toArray (by exact heap_alloc_new w2 _) scrSize rfl HO.out ?_)
    have G23 : Gr w2 ((w2.alloc (.cells (reps 18 (.string ⟨#[]⟩)).toArray 131)).setRow w2.heap.size scrCells) := below_row39 ((Below.refl _ _).alloc (Nat.le_refl _) _) (Nat.le_refl _) _
    have BF : Blk ((w2.alloc (.cells (reps 18 (.string ⟨#[]⟩)).toArray 131)).setRow w2.heap.size scrCells) w2.heap.size 131 scrCells.toList := setRow_heap _ w2.heap.size _ _ _ _ (heap_alloc_new w2 _)
    show Calls _ _ _ ((w2.alloc (.cells (reps 18 (.string ⟨#[]⟩)).toArray 131)).setRow w2.heap.size scrCells) _
    generalize (w2.alloc (.cells (reps 18 (.string ⟨#[]⟩)).toArray 131)).setRow w2.heap.size scrCells = w3 at *
    have gA : Gr w1 w3 := ((Gr.alloc w1 (.cells #[.slice (some ⟨b, o, none⟩) (cutL 32 l).length c] 65)).trans G2.out).trans G23
    have hv : w3.cell? ⟨w1.heap.size, 0, none⟩ = some (.slice (some ⟨b, o, none⟩) (cutL 32 l).length c) := by
      rw [((Blk.new w1 65 #[.slice (some ⟨b, o, none⟩) (cutL 32 l).length c]).mono (G2.out.trans G23)).cell]; rfl
    have GW : Hid (Gr w w3) := (GA.out.trans G1.out).trans gA
    have BR : Hid (Blk w3 w.heap.size 53 (LnV.arr lnV0).toList) := (BRA.out.mono G1.out).mono gA
    have S3 := Lib.hid (Sl.gr S1.out gA)
    have hne := List.length_pos_iff.2 (cut_ne 32 l)
    have hz : w3.cell? ⟨b, o, none⟩ = some (strc ((cutL 32 l).headD [])) := by
      obtain ⟨b', o', e, hc⟩ := Ws.addr S3.out hne
      injection e with e
      injection e with e1 e2
      subst e1 e2
      have := hc 0 hne
      rw [head_at hne]
      exact this
    have HIX := Lib.hid (scrIx_any w2.heap.size w1.heap.size b o (cutL 32 l).length c ((cutL 32 l).headD []) w3 BF hv hz hne)
    have HBF := Lib.hid BF
    have HV := Lib.hid hv
    have hsm := (cut_size 32 l).1
    have HPK : Hid (r = match (if scrK ((cutL 32 l).headD []) < 9 then tryT (scrK ((cutL 32 l).headD [])) (cutL 32 l) else none) with
      | some o => (o, 0)
      | none => (ln0, 3)) := HPT.out
    clear HPT
    have hwz : ∀ p ∈ cutL 32 l, p.length ≤ 100000 := fun p hp => Nat.le_trans ((cut_size 32 l).2 p hp) hl
    clear hz hv BF G23
    have HWZ := Lib.hid hwz; clear hwz
    generalize cutL 32 l = ws at *
    generalize hkz : scrK (ws.headD []) = K at *
    clear hkz G1 S1 G2 gA HSP HFO HO BRA GA
    by_cases hK : K < 9
    · rw [if_pos hK] at HIX HPK
      have hfl := scrS_len K
      have HSG := Lib.hid (signsT_all K)
      obtain ⟨y, hy⟩ : ∃ y : ByteArray, y = ⟨(scrS K).toArray⟩ := ⟨_, rfl⟩
      have hys : y.size = (scrS K).length := by rw [hy]; exact size_of' _
      have HAT := Lib.hid (at_of (scrS K) y hy)
      refine HIX.out.mono ?_
      rintro e w4 ⟨rfl, g4⟩
      have BR4 := Lib.hid (BR.out.mono g4)
      have GW4 := Lib.hid (GW.out.trans g4)
      have BF4 := Lib.hid (HBF.out.mono g4)
      have S4 := Lib.hid (Sl.gr S3.out g4)
      have hv4 : w4.cell? ⟨w1.heap.size, 0, none⟩ = some (.slice (some ⟨b, o, none⟩) ws.length c) := (g4.cell (p := ⟨w1.heap.size, 0, none⟩) (World.block_lt_of_cell? w3 _ HV.out)).trans HV.out
      have c1 : w4.cell? ⟨w2.heap.size, K * 2 + 1, none⟩ = some (.string y) := by
        rw [BF4.out.cell, Nat.mul_comm, scrCells_s K hK, hy]; rfl
      have tk : decide ((K : Int) < 0) = false := decide_eq_false (by omega)
      have hi : (K : Int) < 9 := by omega
      have hw : IntKind.i64.wrap (1 + (y.size : Int)) = 1 + y.size := by rw [IntKind.wrap_i64]; omega
      clear g4 hy HIX BR HBF S3 HV GW
      by_cases hlen : ws.length = 1 + y.size
      · have tl : ((ws.length : Int) != 1 + (y.size : Int)) = false := by rw [bne_eq_false_iff_eq]; omega
        have HF : Hid (r = match foldT { ln0 with k := (K : Int) } (scrS K) ws.tail with
          | some o => (o, 0)
          | none => (ln0, 3)) := by
          show _ = _
          rw [HPK.out]
          unfold tryT
          rw [if_pos (by omega)]
        clear HPK
        go_wp2_with fail
        go_quiet (fail)
        have g5 : Gr w4 (w4.drewN nq) := belowN (Gr.refl _) _
        have BR5 : Hid (Blk (w4.drewN nq) w.heap.size 53 (LnV.arr lnV0).toList) := BR4.out.mono g5
        have GW5 : Hid (Gr w (w4.drewN nq)) := GW4.out.trans g5
        have S5 := Lib.hid (Sl.gr S4.out g5)
        have c5 : (w4.drewN nq).cell? ⟨w2.heap.size, K * 2 + 1, none⟩ = some (.string y) := (g5.cell (p := ⟨w2.heap.size, K * 2 + 1, none⟩) (World.block_lt_of_cell? w4 _ c1)).trans c1
        have hv5 := (g5.cell (p := ⟨w1.heap.size, 0, none⟩) (World.block_lt_of_cell? w4 _ hv4)).trans hv4
        clear hv4 c1 BR4 GW4 S4 BF4 g5
        generalize w4.drewN nq = w5 at *
        have gC : Gr w5 (w5.alloc (.cells #[.int .i64 (K : Int), .int .i64 0, .string ⟨#[]⟩, .string ⟨#[]⟩, .int .i64 0, .int .i64 0, .int .i64 0, .int .i64 0, .slice none 0 0, .int .i64 0, .slice none 0 0, .int .i64 0, .int .i64 0, .string ⟨#[]⟩, .int .i64 0, .string ⟨#[]⟩, .slice none 0 0] 138)) := Gr.alloc w5 _
        have c6 : (w5.alloc (.cells #[.int .i64 (K : Int), .int .i64 0, .string ⟨#[]⟩, .string ⟨#[]⟩, .int .i64 0, .int .i64 0, .int .i64 0, .int .i64 0, .slice none 0 0, .int .i64 0, .slice none 0 0, .int .i64 0, .int .i64 0, .string ⟨#[]⟩, .int .i64 0, .string ⟨#[]⟩, .slice none 0 0] 138)).cell? ⟨w2.heap.size, K * 2 + 1, none⟩ = some (.string y) := (gC.cell (p := ⟨w2.heap.size, K * 2 + 1, none⟩) (World.block_lt_of_cell? w5 _ c5)).trans c5
        clear tl hw tk
        go_wp2_with fail
        obtain ⟨R, hRe⟩ : ∃ R, R = w5.heap.size := ⟨_, rfl⟩
        obtain ⟨wI, hwI⟩ : ∃ wI, wI = (w5.alloc (.cells #[.int .i64 (K : Int), .int .i64 0, .string ⟨#[]⟩, .string ⟨#[]⟩, .int .i64 0, .int .i64 0, .int .i64 0, .int .i64 0, .slice none 0 0, .int .i64 0, .slice none 0 0, .int .i64 0, .int .i64 0, .string ⟨#[]⟩, .int .i64 0, .string ⟨#[]⟩, .slice none 0 0] 138)).iter y 0 := ⟨_, rfl⟩
        have gD : Gr w5 wI := by rw [hwI]; exact gC.trans (Gr.alloc _ _)
        have hRB : Blk wI R 138 (LnV.cells ⟨{ ln0 with k := (K : Int) }, none, 0, none, 0, none, 0⟩) := by rw [hwI, hRe]; exact (Blk.new w5 138 #[.int .i64 (K : Int), .int .i64 0, .string ⟨#[]⟩, .string ⟨#[]⟩, .int .i64 0, .int .i64 0, .int .i64 0, .int .i64 0, .slice none 0 0, .int .i64 0, .slice none 0 0, .int .i64 0, .int .i64 0, .string ⟨#[]⟩, .int .i64 0, .string ⟨#[]⟩, .slice none 0 0]).mono (Gr.alloc _ _)
        have hIH : wI.heap[R + 1]? = some (.stringIter y 0) := by
          rw [hwI, hRe]
          have := heap_alloc_new (w5.alloc (.cells #[.int .i64 (K : Int), .int .i64 0, .string ⟨#[]⟩, .string ⟨#[]⟩, .int .i64 0, .int .i64 0, .int .i64 0, .int .i64 0, .slice none 0 0, .int .i64 0, .slice none 0 0, .int .i64 0, .int .i64 0, .string ⟨#[]⟩, .int .i64 0, .string ⟨#[]⟩, .slice none 0 0] 138)) (.stringIter y 0)
          rw [show (w5.alloc (.cells #[.int .i64 (K : Int), .int .i64 0, .string ⟨#[]⟩, .string ⟨#[]⟩, .int .i64 0, .int .i64 0, .int .i64 0, .int .i64 0, .slice none 0 0, .int .i64 0, .slice none 0 0, .int .i64 0, .int .i64 0, .string ⟨#[]⟩, .int .i64 0, .string ⟨#[]⟩, .slice none 0 0] 138)).heap.size = w5.heap.size + 1 by simp] at this
          exact this
        have SI := Lib.hid (Sl.gr S5.out gD)
        have hvI : wI.cell? ⟨w1.heap.size, 0, none⟩ = some _ := (gD.cell (p := ⟨w1.heap.size, 0, none⟩) (World.block_lt_of_cell? w5 _ hv5)).trans hv5
        have hVlt : w1.heap.size < w5.heap.size := World.block_lt_of_cell? w5 _ hv5
        have hblt : ∀ bb oo, (some ⟨b, o, none⟩ : Option Addr) = some ⟨bb, oo, none⟩ → bb < w5.heap.size := fun bb oo e => Sl.lt S5.out (by decide) (by omega) e
        have BRI := Lib.hid (BR5.out.mono gD)
        have hr0 : w.heap.size < w5.heap.size := BR5.out.lt
        have GWI := Lib.hid (GW5.out.trans gD)
        show Code.wp _ _ _ _ ((w5.alloc (.cells #[.int .i64 (K : Int), .int .i64 0, .string ⟨#[]⟩, .string ⟨#[]⟩, .int .i64 0, .int .i64 0, .int .i64 0, .int .i64 0, .slice none 0 0, .int .i64 0, .slice none 0 0, .int .i64 0, .int .i64 0, .string ⟨#[]⟩, .int .i64 0, .string ⟨#[]⟩, .slice none 0 0] 138)).iter y 0)
        rw [← hwI, ← hRe]
        rw [← hRe] at hVlt hblt hr0
        clear hwI gC gD c5 c6 hv5 S5 BR5 GW5 hRe
        have HRB := Lib.hid hRB; have HIH := Lib.hid hIH; have HVI := Lib.hid hvI; have HBLT := Lib.hid hblt
        clear hRB hIH hvI hblt
        go_loopw [11] (fun v wr => ∃ (k : Nat) (o' : LnD), k ≤ y.size ∧ foldT { ln0 with k := (K : Int) } (scrS K) ws.tail = foldT o' ((scrS K).drop k) (ws.tail.drop k) ∧ RsT wr R o' ∧ wr.heap[R + 1]? = some (.stringIter y k) ∧ Tch (fun q => q = R ∨ q = R + 1) wI wr) (fun _ wr => y.size - wr.iterPos (R + 1))
        case atStart => exact ⟨0, { ln0 with k := (K : Int) }, by omega, rfl, ⟨none, 0, none, 0, HRB.out, rfl, Sl.nil _ _, Sl.nil _ _, (fun b q e => by cases e), (fun b q e => by cases e)⟩, HIH.out, Tch.refl _⟩
        case round =>
          obtain ⟨k, o', hk, hfold, hrd, hit, ht⟩ := hrel
          have HFD := Lib.hid hfold; have HRD := Lib.hid hrd; have HT := Lib.hid ht
          clear hfold hrd ht
          by_cases hlt : k < y.size
          · have hka : k < (scrS K).length := by omega
            have hasc : ((y[k]'hlt).toNat : Int) = bAt (scrS K) k := HAT.out k hlt
            have hsg := HSG.out _ (List.getElem_mem hka)
            have hgk : (scrS K).getD k 0 = (scrS K)[k] := by simp [List.getD_eq_getElem?_getD, List.getElem?_eq_getElem hka]
            have hya : (y[k]'hlt).toNat = (scrS K)[k].toNat := by unfold bAt at hasc; rw [hgk] at hasc; omega
            have hnx : ∀ ty, (Instr.next (.pointer (some ⟨R + 1, 0, none⟩)) true ty).run Tryd.prog wr = .ok (.tuple #[.bool true, .int .i64 k, .int .i32 ((scrS K)[k].toNat : Int)]) (wr.iterAt (R + 1) y (k + 1)) := fun ty => by
              rw [Lib.run_next_ascii_at wr (R + 1) y k ty hit hlt (by rw [hya]; rcases hsg with h | h | h | h | h | h | h | h <;> omega), hya]
            have hws : k < ws.tail.length := by rw [List.length_tail]; omega
            have hwk : ws.tail[k] = ws[k + 1]'(by omega) := by rw [List.getElem_tail]
            obtain ⟨b', q', eb, hcw⟩ := Ws.addr (Sl.tch SI.out (by decide) HT.out (fun _ bb oo e => by have := HBLT.out bb oo e; omega)) (by omega)
            injection eb with eb
            injection eb with eb1 eb2
            subst eb1 eb2
            have cw := hcw (k + 1) (by omega)
            rw [← hwk] at cw
            clear hcw
            have cv := (World.cell?_of_block (w := wI) (a := ⟨w1.heap.size, 0, none⟩) (HT.out.keep w1.heap.size (World.block_lt_of_cell? wI _ HVI.out) (by omega))).trans HVI.out
            have TIT : Hid (Tch (fun q => q = R + 1) wr (wr.iterAt (R + 1) y (k + 1))) := Tch.iterAt wr (R + 1) y (k + 1)
            have hit2 := Lib.iterAt_heap wr (R + 1) y k (k + 1) hit
            have hRD2 := HRD.out.tch (k' := k + 1) hit (by omega)
            have hbR : ∀ bb oo, (some ⟨b, o, none⟩ : Option Addr) = some ⟨bb, oo, none⟩ → bb < R := HBLT.out
            have hbl := hbR b o rfl
            have cw2 : (wr.iterAt (R + 1) y (k + 1)).cell? ⟨b, o + (k + 1), none⟩ = some (.string ⟨ws.tail[k].toArray⟩) := (World.cell?_of_block (w := wr) (a := ⟨b, o + (k + 1), none⟩) (TIT.out.keep b (World.block_lt_of_cell? wr _ cw) (by omega))).trans cw
            have cv2 : (wr.iterAt (R + 1) y (k + 1)).cell? ⟨w1.heap.size, 0, none⟩ = some _ := (World.cell?_of_block (w := wr) (a := ⟨w1.heap.size, 0, none⟩) (TIT.out.keep w1.heap.size (World.block_lt_of_cell? wr _ cv) (by omega))).trans cv
            have HT2 : Hid (Tch (fun q => q = R ∨ q = R + 1) wI (wr.iterAt (R + 1) y (k + 1))) := HT.out.trans (TIT.out.mono (fun _ _ e => .inr e))
            have hwl : ws.tail[k].length ≤ 100000 := HWZ.out _ (List.mem_of_mem_tail (List.getElem_mem hws))
            have HRDC := Lib.hid (readT_any o' R (scrS K)[k].toNat ws.tail[k] (wr.iterAt (R + 1) y (k + 1)) hRD2 hwl hsg)
            have HFD2 : Hid (foldT { ln0 with k := (K : Int) } (scrS K) ws.tail = if okT (scrS K)[k].toNat ws.tail[k] = true then foldT (readT o' (scrS K)[k].toNat ws.tail[k]) ((scrS K).drop (k + 1)) (ws.tail.drop (k + 1)) else none) := by
              show _ = _
              rw [HFD.out, List.drop_eq_getElem_cons hka, List.drop_eq_getElem_cons hws]
              rfl
            have hit3 := Lib.hid hit2
            have hik : (k : Int) + 1 < ((1 + (scrS K).length : Nat) : Int) := by omega
            have hitk := Lib.hid hit
            clear hit hit2 hRD2 cw cv hasc hgk hya hsg hwk
            generalize ws.tail[k] = wd at *
            generalize (scrS K)[k].toNat = sg at *
            obtain ⟨wx, hwx⟩ : ∃ wx : ByteArray, strc wd = .string wx := ⟨_, rfl⟩
            rw [show Value.string ⟨wd.toArray⟩ = Value.string wx from hwx] at cw2
            rw [hwx] at HRDC
            clear hwx
            go_wp2_with fail
            refine HRDC.out.mono ?_
            rintro e w7 ⟨rfl, rd, t7⟩
            have TC := Lib.hid (HT2.out.trans (t7.mono (fun _ _ e => .inl e)))
            have hit7 : w7.heap[R + 1]? = some (.stringIter y (k + 1)) := (t7.keep (R + 1) (Array.getElem?_eq_some_iff.1 hit3.out).1 (fun e => by have e : R + 1 = R := e; omega)).trans hit3.out
            have RD7 := Lib.hid rd
            clear rd t7
            cases hb : okT sg wd with
            | true =>
              rw [hb] at HFD2
              have RD8 := Lib.hid (RD7.out hb)
              have HFD3 : Hid (foldT { ln0 with k := (K : Int) } (scrS K) ws.tail = foldT (readT o' sg wd) ((scrS K).drop (k + 1)) (ws.tail.drop (k + 1))) := HFD2.out
              clear hb
              go_wp2_with fail
              go_roundw
              case rel => exact ⟨k + 1, _, by omega, HFD3.out, RD8.out, hit7, TC.out⟩
              case measure =>
                rw [iterPos_of hit7, iterPos_of hitk.out]
                omega
            | false =>
              rw [hb] at HFD2
              have HF : Hid (r = (ln0, 3)) := by show _ = _; rw [HF.out, HFD2.out]; rfl
              have BR7 : Hid (Blk w7 w.heap.size 53 (LnV.arr lnV0).toList) := BRI.out.tch TC.out (fun e => by rcases e with e | e <;> omega)
              have GW7 : Hid (Gr w w7) := Tch.below GWI.out TC.out GWI.out.size (fun q e => by rcases e with e | e <;> omega)
              clear hb
              go_wp2_with (refine wpList_store_row rfl 53 (.tmp 2) (.tmp 66) rfl w.heap.size (LnV.arr lnV0) rfl rfl 53 (LnV.arr lnV0) BR7.out lnSize rfl (lnOne _) ?_)
              have HN := setRow_heap w7 w.heap.size _ (LnV.arr lnV0) _ _ BR7.out
              have G6 : Gr w (w7.setRow w.heap.size (LnV.arr lnV0)) := below_row39 GW7.out (Nat.le_refl _) _
              rw [HF.out]
              exact bodyPost_ret (results_ln Tryd.results48 _ _ w.heap.size _ _ rfl HN rfl) rfl ⟨lnV0, rfl, rfl, lnAt0 _, G6, lnNew0 _⟩
          · have hke : k = y.size := by omega
            have HF : Hid (r = (o', 0)) := by
              show _ = _
              rw [HF.out, HFD.out, List.drop_of_length_le (show (scrS K).length ≤ k by omega)]
              rfl
            have hnx : ∀ ty, (Instr.next (.pointer (some ⟨R + 1, 0, none⟩)) true ty).run Tryd.prog wr = .ok (.tuple #[.bool false]) wr := fun ty => Lib.run_next_end_at wr (R + 1) y k ty hit hlt
            obtain ⟨B', q', C', c', hb, hx, hp, hbb, nB, nC⟩ := HRD.out
            have HB : Hid (Blk wr R 138 (LnV.arr ⟨o', none, 0, B', q', C', c'⟩).toList) := hb
            have HP := Lib.hid hp; have HBB := Lib.hid hbb; have HXO := Lib.hid hx; have NB := Lib.hid nB; have NC := Lib.hid nC
            have BR7 : Hid (Blk wr w.heap.size 53 (LnV.arr lnV0).toList) := BRI.out.tch HT.out (fun e => by rcases e with e | e <;> omega)
            have GW7 : Hid (Gr w wr) := Tch.below GWI.out HT.out GWI.out.size (fun q e => by rcases e with e | e <;> omega)
            clear hb hx hp hbb nB nC hit HRD
            go_wp2_with (first
              | (refine wpList_load_row rfl 53 (.tmp 69) rfl R rfl 138 (LnV.arr ⟨o', none, 0, B', q', C', c'⟩) (0, 0) _ HB.out Tryd.underlying53 rfl lnSize ?_)
              | (refine wpList_store_row rfl 53 (.tmp 2) (.tmp 70) rfl w.heap.size (LnV.arr ⟨o', none, 0, B', q', C', c'⟩) rfl rfl 53 (LnV.arr lnV0) BR7.out lnSize rfl (lnOne _) ?_))
            have HN := setRow_heap wr w.heap.size _ (LnV.arr ⟨o', none, 0, B', q', C', c'⟩) _ _ BR7.out
            have G8 : Gr w (wr.setRow w.heap.size (LnV.arr ⟨o', none, 0, B', q', C', c'⟩)) := below_row39 GW7.out (Nat.le_refl _) _
            rw [HF.out]
            refine bodyPost_ret (results_ln Tryd.results48 _ _ w.heap.size _ _ rfl HN rfl) rfl ⟨⟨o', none, 0, B', q', C', c'⟩, rfl, rfl, ⟨?_, ?_, ?_⟩, G8, ⟨(fun b q e => by cases e), (fun b q e h0 => by have := NB.out b q e h0; omega), (fun b q e h0 => by have := NC.out b q e h0; omega)⟩⟩
            · show Bs _ none o'.o.x.length 0 o'.o.x
              rw [HXO.out]
              exact Sl.nil _ _
            · exact sl_row (cs0 := []) (t := 0) HP.out (by decide) _ (fun h0 b o e => by have := NB.out b o e h0; omega)
            · exact sl_row (cs0 := []) (t := 0) HBB.out (by decide) _ (fun h0 b o e => by have := NC.out b o e h0; omega)
      · have tl : ((ws.length : Int) != 1 + (y.size : Int)) = true := by rw [bne_iff_ne]; omega
        have HF : Hid (r = (ln0, 3)) := by
          show _ = _
          rw [HPK.out]
          unfold tryT
          rw [if_neg (by omega)]
        clear HPK
        go_wp2_with fail
        go_quiet (fail)
        have BR5 : Hid (Blk (w4.drewN nq) w.heap.size 53 (LnV.arr lnV0).toList) := BR4.out.mono (belowN (Gr.refl _) _)
        have GW5 : Hid (Gr w (w4.drewN nq)) := GW4.out.trans (belowN (Gr.refl _) _)
        clear hv4 c1
        generalize w4.drewN nq = w5 at *
        go_wp2_with (refine wpList_store_row rfl 53 (.tmp 2) (.tmp 41) rfl w.heap.size (LnV.arr lnV0) rfl rfl 53 (LnV.arr lnV0) BR5.out lnSize rfl (lnOne _) ?_)
        have HN := setRow_heap w5 w.heap.size _ (LnV.arr lnV0) _ _ BR5.out
        have G6 : Gr w (w5.setRow w.heap.size (LnV.arr lnV0)) := below_row39 GW5.out (Nat.le_refl _) _
        rw [HF.out]
        exact bodyPost_ret (results_ln Tryd.results48 _ _ w.heap.size _ _ rfl HN rfl) rfl ⟨lnV0, rfl, rfl, lnAt0 _, G6, lnNew0 _⟩
    · rw [if_neg hK] at HIX HPK
      have HF : Hid (r = (ln0, 3)) := HPK.out
      clear HPK
      refine HIX.out.mono ?_
      rintro e w4 ⟨rfl, g4⟩
      have BR4 := Lib.hid (BR.out.mono g4)
      have GW4 := Lib.hid (GW.out.trans g4)
      clear g4
      go_wp2_with fail
      go_quiet (fail)
      have BR5 : Hid (Blk (w4.drewN nq) w.heap.size 53 (LnV.arr lnV0).toList) := BR4.out.mono (belowN (Gr.refl _) _)
      have GW5 : Hid (Gr w (w4.drewN nq)) := GW4.out.trans (belowN (Gr.refl _) _)
      generalize w4.drewN nq = w5 at *
      go_wp2_with (refine wpList_store_row rfl 53 (.tmp 2) (.tmp 41) rfl w.heap.size (LnV.arr lnV0) rfl rfl 53 (LnV.arr lnV0) BR5.out lnSize rfl (lnOne _) ?_)
      have HN := setRow_heap w5 w.heap.size _ (LnV.arr lnV0) _ _ BR5.out
      have G6 : Gr w (w5.setRow w.heap.size (LnV.arr lnV0)) := below_row39 GW5.out (Nat.le_refl _) _
      rw [HF.out]
      exact bodyPost_ret (results_ln Tryd.results48 _ _ w.heap.size _ _ rfl HN rfl) rfl ⟨lnV0, rfl, rfl, lnAt0 _, G6, lnNew0 _⟩
end Go.Proofs.YtadenlhnfkccaaaDoor

/- Lines of scripts: the same line. No condition. -/
namespace Go.Proofs.YtadenlhnfkccaaaDoor
open Go.RowKit
set_option linter.unusedVariables false
set_option linter.unusedSimpArgs false
theorem eqInts_any (A B : Option Addr) (n m c d : Nat) (a b : List Int) (w : World) (ha : Is w A n c a) (hb : Is w B m d b) :
    Calls Tryd.prog 98 #[.slice A n c, .slice B m d] w fun e w' => e = .returned (.bool (a == b)) ∧ Gr w w' := by
  have hla := ha.len
  have hlb := hb.len
  have hma := ha.max; have hca := ha.cap
  have hmb := hb.max; have hcb := hb.cap
  by_cases hnm : n = m
  · by_cases h0 : n = 0
    · subst h0
      have h := Tryd.slices_Equal_int_empty A B c m d w (by omega)
      refine h.mono ?_
      rintro e w' ⟨rfl, rfl⟩
      obtain rfl : a = [] := List.eq_nil_of_length_eq_zero hla
      obtain rfl : b = [] := List.eq_nil_of_length_eq_zero (by omega)
      exact ⟨by rw [decide_eq_true hnm.symm]; rfl, Gr.refl _⟩
    · obtain ⟨b1, o1, rfl, hc1⟩ := ha.addr (by omega)
      obtain ⟨b2, o2, rfl, hc2⟩ := hb.addr (by omega)
      have h := Tryd.slices_Equal_int b1 o1 n c b2 o2 m d a b w (by omega) (by omega) (by omega) (by omega)
        (fun j hj => by rw [hc1 j (by omega)]; simp [iAt, List.getD_eq_getElem?_getD])
        (fun j hj => by rw [hc2 j (by omega)]; simp [iAt, List.getD_eq_getElem?_getD])
      rw [List.take_of_length_le (by omega), List.take_of_length_le (by omega)] at h
      refine h.mono ?_
      rintro e w' ⟨rfl, q, rfl⟩
      exact ⟨rfl, belowN (Gr.refl _) q⟩
  · have h := Tryd.slices_Equal_int_lens A B n c m d w hnm
    refine h.mono ?_
    rintro e w' ⟨rfl, rfl⟩
    exact ⟨by rw [beq_false_of_ne (fun e => hnm (by rw [← hla, ← hlb, e]))], Gr.refl _⟩
set_option maxRecDepth 100000 in
set_option maxHeartbeats 2000000 in
theorem alike_raw (k1 e1 s1 n1 v1 k2 e2 s2 n2 v2 : Int) (g1 i1 g2 i2 : ByteArray) (A1 A2 : Option Addr) (m1 c1 m2 c2 : Nat) (x y : List UInt8) (w : World) (ha : Bs w A1 m1 c1 x) (hb : Bs w A2 m2 c2 y) :
    Calls Tryd.prog 97 #[.agg #[.int .i64 k1, .string g1, .string i1, .int .i64 e1, .int .i64 s1, .int .i64 n1, .int .i64 v1, .slice A1 m1 c1], .agg #[.int .i64 k2, .string g2, .string i2, .int .i64 e2, .int .i64 s2, .int .i64 n2, .int .i64 v2, .slice A2 m2 c2]] w fun e w' => e = .returned (.bool ((k1 == k2) && (g1.toList == g2.toList) && (i1.toList == i2.toList) && (e1 == e2) && (s1 == s2) && (n1 == n2) && (v1 == v2) && x == y)) ∧ Gr w w' := by
  have HSM : Hid (∀ wr, Gr w wr → Calls Tryd.prog 58 #[.slice A1 m1 c1, .slice A2 m2 c2] wr fun e w' => e = .returned (.bool (x == y)) ∧ Gr wr w') := fun wr g => (same_any A1 A2 m1 m2 c1 c2 x y wr (ha.mono g) (hb.mono g)).mono fun e w' h => ⟨h.1, by rw [h.2]; exact Gr.refl _⟩
  have G0 : Hid (Gr w ((w.alloc (.cells #[.int .i64 k1, .string g1, .string i1, .int .i64 e1, .int .i64 s1, .int .i64 n1, .int .i64 v1, .slice A1 m1 c1] 24)).alloc (.cells #[.int .i64 k2, .string g2, .string i2, .int .i64 e2, .int .i64 s2, .int .i64 n2, .int .i64 v2, .slice A2 m2 c2] 24))) := (Gr.alloc w _).trans (Gr.alloc _ _)
  clear ha hb
  go_enter Tryd.func97, Tryd.ntmps97
  go_wp2_with fail
  refine (HSM.out _ G0.out).mono ?_
  rintro e w2 ⟨rfl, gg⟩
  have BX : Hid (Blk w2 w.heap.size 24 #[.int .i64 k1, .string g1, .string i1, .int .i64 e1, .int .i64 s1, .int .i64 n1, .int .i64 v1, .slice A1 m1 c1].toList) := ((Blk.new w 24 #[.int .i64 k1, .string g1, .string i1, .int .i64 e1, .int .i64 s1, .int .i64 n1, .int .i64 v1, .slice A1 m1 c1]).alloc _).mono gg
  have BY : Hid (Blk w2 (w.heap.size + 1) 24 #[.int .i64 k2, .string g2, .string i2, .int .i64 e2, .int .i64 s2, .int .i64 n2, .int .i64 v2, .slice A2 m2 c2].toList) := by
    have := Blk.new (w.alloc (.cells #[.int .i64 k1, .string g1, .string i1, .int .i64 e1, .int .i64 s1, .int .i64 n1, .int .i64 v1, .slice A1 m1 c1] 24)) 24 #[.int .i64 k2, .string g2, .string i2, .int .i64 e2, .int .i64 s2, .int .i64 n2, .int .i64 v2, .slice A2 m2 c2]
    rw [World.size_alloc] at this
    exact this.mono gg
  have G2 := Lib.hid (G0.out.trans gg)
  clear gg
  have a0 : w2.cell? ⟨w.heap.size, 0, none⟩ = some (.int .i64 k1) := (BX.out.cell 0).trans rfl
  have b0 : w2.cell? ⟨w.heap.size + 1, 0, none⟩ = some (.int .i64 k2) := (BY.out.cell 0).trans rfl
  have a1 : w2.cell? ⟨w.heap.size, 1, none⟩ = some (.string g1) := (BX.out.cell 1).trans rfl
  have b1 : w2.cell? ⟨w.heap.size + 1, 1, none⟩ = some (.string g2) := (BY.out.cell 1).trans rfl
  have a2 : w2.cell? ⟨w.heap.size, 2, none⟩ = some (.string i1) := (BX.out.cell 2).trans rfl
  have b2 : w2.cell? ⟨w.heap.size + 1, 2, none⟩ = some (.string i2) := (BY.out.cell 2).trans rfl
  have a3 : w2.cell? ⟨w.heap.size, 3, none⟩ = some (.int .i64 e1) := (BX.out.cell 3).trans rfl
  have b3 : w2.cell? ⟨w.heap.size + 1, 3, none⟩ = some (.int .i64 e2) := (BY.out.cell 3).trans rfl
  have a4 : w2.cell? ⟨w.heap.size, 4, none⟩ = some (.int .i64 s1) := (BX.out.cell 4).trans rfl
  have b4 : w2.cell? ⟨w.heap.size + 1, 4, none⟩ = some (.int .i64 s2) := (BY.out.cell 4).trans rfl
  have a5 : w2.cell? ⟨w.heap.size, 5, none⟩ = some (.int .i64 n1) := (BX.out.cell 5).trans rfl
  have b5 : w2.cell? ⟨w.heap.size + 1, 5, none⟩ = some (.int .i64 n2) := (BY.out.cell 5).trans rfl
  have a6 : w2.cell? ⟨w.heap.size, 6, none⟩ = some (.int .i64 v1) := (BX.out.cell 6).trans rfl
  have b6 : w2.cell? ⟨w.heap.size + 1, 6, none⟩ = some (.int .i64 v2) := (BY.out.cell 6).trans rfl
  cases ts : (x == y) with
  | false =>
    go_wp2_with fail
    go_ret
    exact ⟨by rw [ts]; simp, G2.out⟩
  | true =>
  cases t0 : (k1 == k2) with
  | false =>
    go_wp2_with fail
    go_ret
    exact ⟨by rw [t0]; simp, G2.out⟩
  | true =>
  cases t1 : (g1.toList == g2.toList) with
  | false =>
    go_wp2_with fail
    go_ret
    exact ⟨by rw [t1]; simp, G2.out⟩
  | true =>
  cases t2 : (i1.toList == i2.toList) with
  | false =>
    go_wp2_with fail
    go_ret
    exact ⟨by rw [t2]; simp, G2.out⟩
  | true =>
  cases t3 : (e1 == e2) with
  | false =>
    go_wp2_with fail
    go_ret
    exact ⟨by rw [t3]; simp, G2.out⟩
  | true =>
  cases t4 : (s1 == s2) with
  | false =>
    go_wp2_with fail
    go_ret
    exact ⟨by rw [t4]; simp, G2.out⟩
  | true =>
  cases t5 : (n1 == n2) with
  | false =>
    go_wp2_with fail
    go_ret
    exact ⟨by rw [t5]; simp, G2.out⟩
  | true =>
  cases t6 : (v1 == v2) with
  | false =>
    go_wp2_with fail
    go_ret
    exact ⟨by rw [t6]; simp, G2.out⟩
  | true =>
  go_wp2_with fail
  go_ret
  exact ⟨by rw [ts, t0, t1, t2, t3, t4, t5, t6]; rfl, G2.out⟩
theorem alike_any (o1 o2 : OpD) (A1 A2 : Option Addr) (m1 c1 m2 c2 : Nat) (w : World) (ha : Bs w A1 m1 c1 o1.x) (hb : Bs w A2 m2 c2 o2.x) :
    Calls Tryd.prog 97 #[opV o1 A1 m1 c1, opV o2 A2 m2 c2] w fun e w' => e = .returned (.bool (sameO o1 o2)) ∧ Gr w w' := by
  have h := alike_raw o1.k o1.e o1.s o1.n o1.v o2.k o2.e o2.s o2.n o2.v ⟨o1.g.toArray⟩ ⟨o1.i.toArray⟩ ⟨o2.g.toArray⟩ ⟨o2.i.toArray⟩ A1 A2 m1 c1 m2 c2 o1.x o2.x w ha hb
  simp only [ByteArray.toList_eq] at h
  exact h
set_option maxRecDepth 100000 in
set_option maxHeartbeats 4000000 in
theorem scSame_any (x y : LnV) (w : World) (hx : LnAt w x) (hy : LnAt w y) : Calls Tryd.prog 80 #[.agg x.arr, .agg y.arr] w fun e w' => e = .returned (.bool (sameT x.d y.d)) ∧ Gr w w' := by
  have G0 : Hid (Gr w ((w.alloc (.cells x.arr 53)).alloc (.cells y.arr 53))) := (Gr.alloc w _).trans (Gr.alloc _ _)
  have HX : Hid (∀ wq, Gr ((w.alloc (.cells x.arr 53)).alloc (.cells y.arr 53)) wq → ∀ (i : Nat) (v : Value), x.cells[i]? = some v → wq.cell? ⟨w.heap.size, i, none⟩ = some v) := fun wq g i v h => ((((Blk.new w 53 x.arr).alloc _).mono g).cell i).trans h
  have HY : Hid (∀ wq, Gr ((w.alloc (.cells x.arr 53)).alloc (.cells y.arr 53)) wq → ∀ (i : Nat) (v : Value), y.cells[i]? = some v → wq.cell? ⟨w.heap.size + 1, i, none⟩ = some v) := fun wq g i v h => by
    have hB := Blk.new (w.alloc (.cells x.arr 53)) 53 y.arr
    rw [World.size_alloc] at hB
    exact ((hB.mono g).cell i).trans h
  have HAL : Hid (∀ wq, Gr w wq → Calls Tryd.prog 97 #[opV x.d.o x.A x.d.o.x.length x.c, opV y.d.o y.A y.d.o.x.length y.c] wq fun e w' => e = .returned (.bool (sameO x.d.o y.d.o)) ∧ Gr wq w') := fun wq g => alike_any _ _ _ _ _ _ _ _ wq (hx.o.mono g) (hy.o.mono g)
  have HEQ : Hid (∀ wq, Gr w wq → Calls Tryd.prog 98 #[.slice x.B x.d.p.length x.q, .slice y.B y.d.p.length y.q] wq fun e w' => e = .returned (.bool (x.d.p == y.d.p)) ∧ Gr wq w') := fun wq g => eqInts_any _ _ _ _ _ _ _ _ wq (hx.p.mono g) (hy.p.mono g)
  have HSM : Hid (∀ wq, Gr w wq → Calls Tryd.prog 58 #[.slice x.C x.d.b.length x.s, .slice y.C y.d.b.length y.s] wq fun e w' => e = .returned (.bool (x.d.b == y.d.b)) ∧ Gr wq w') := fun wq g => (same_any _ _ _ _ _ _ _ _ wq (hx.b.mono g) (hy.b.mono g)).mono fun e w' h => ⟨h.1, by rw [h.2]; exact Gr.refl _⟩
  obtain ⟨g1, hg1⟩ : ∃ g : ByteArray, g = ⟨x.d.g.toArray⟩ := ⟨_, rfl⟩
  obtain ⟨i1, hi1⟩ : ∃ g : ByteArray, g = ⟨x.d.i.toArray⟩ := ⟨_, rfl⟩
  obtain ⟨g2, hg2⟩ : ∃ g : ByteArray, g = ⟨y.d.g.toArray⟩ := ⟨_, rfl⟩
  obtain ⟨i2, hi2⟩ : ∃ g : ByteArray, g = ⟨y.d.i.toArray⟩ := ⟨_, rfl⟩
  have HE : Hid (sameT x.d y.d = (x.d.k == y.d.k && sameO x.d.o y.d.o && x.d.n == y.d.n && x.d.p == y.d.p && x.d.t == y.d.t && x.d.a == y.d.a && (g1.toList == g2.toList && x.d.e == y.d.e && i1.toList == i2.toList) && x.d.b == y.d.b)) := by
    show _ = _
    rw [hg1, hi1, hg2, hi2]
    simp only [ByteArray.toList_eq]
    rfl
  have VG1 : Hid (strc x.d.g = .string g1) := by show _ = _; rw [hg1]; rfl
  have VI1 : Hid (strc x.d.i = .string i1) := by show _ = _; rw [hi1]; rfl
  have VG2 : Hid (strc y.d.g = .string g2) := by show _ = _; rw [hg2]; rfl
  have VI2 : Hid (strc y.d.i = .string i2) := by show _ = _; rw [hi2]; rfl
  clear hg1 hi1 hg2 hi2 hx hy
  have x0 := HX.out _ (Gr.refl _) 0 _ rfl
  have y0 := HY.out _ (Gr.refl _) 0 _ rfl
  go_enter Tryd.func80, Tryd.ntmps80
  cases t0 : (x.d.k == y.d.k) with
  | false =>
    go_wp2_with fail
    go_ret
    exact ⟨by rw [HE.out, t0]; rfl, G0.out⟩
  | true =>
  have x1 := HX.out _ (Gr.refl _) 1 _ rfl
  have y1 := HY.out _ (Gr.refl _) 1 _ rfl
  have x2 := HX.out _ (Gr.refl _) 2 _ rfl
  have y2 := HY.out _ (Gr.refl _) 2 _ rfl
  have x3 := HX.out _ (Gr.refl _) 3 _ rfl
  have y3 := HY.out _ (Gr.refl _) 3 _ rfl
  have x4 := HX.out _ (Gr.refl _) 4 _ rfl
  have y4 := HY.out _ (Gr.refl _) 4 _ rfl
  have x5 := HX.out _ (Gr.refl _) 5 _ rfl
  have y5 := HY.out _ (Gr.refl _) 5 _ rfl
  have x6 := HX.out _ (Gr.refl _) 6 _ rfl
  have y6 := HY.out _ (Gr.refl _) 6 _ rfl
  have x7 := HX.out _ (Gr.refl _) 7 _ rfl
  have y7 := HY.out _ (Gr.refl _) 7 _ rfl
  have x8 := HX.out _ (Gr.refl _) 8 _ rfl
  have y8 := HY.out _ (Gr.refl _) 8 _ rfl
  go_wp2_with fail
  refine (HAL.out _ G0.out).mono ?_
  rintro e w2 ⟨rfl, g⟩
  have GX2 := Lib.hid g
  clear g x0 x1 x2 x3 x4 x5 x6 x7 x8 y0 y1 y2 y3 y4 y5 y6 y7 y8
  cases t1 : sameO x.d.o y.d.o with
  | false =>
    go_wp2_with fail
    go_ret
    exact ⟨by rw [HE.out, t1, Bool.and_false]; rfl, G0.out.trans GX2.out⟩
  | true =>
  have x9 := HX.out _ GX2.out 9 _ rfl
  have y9 := HY.out _ GX2.out 9 _ rfl
  have x10 := HX.out _ GX2.out 10 _ rfl
  have y10 := HY.out _ GX2.out 10 _ rfl
  cases t2 : (x.d.n == y.d.n) with
  | false =>
    go_wp2_with fail
    go_ret
    exact ⟨by rw [HE.out, t2, Bool.and_false]; rfl, G0.out.trans GX2.out⟩
  | true =>
  go_wp2_with fail
  refine (HEQ.out _ (G0.out.trans GX2.out)).mono ?_
  rintro e w3 ⟨rfl, g⟩
  have GX3 := Lib.hid (GX2.out.trans g)
  clear g x9 x10 y9 y10
  cases t3 : (x.d.p == y.d.p) with
  | false =>
    go_wp2_with fail
    go_ret
    exact ⟨by rw [HE.out, t3, Bool.and_false]; rfl, G0.out.trans GX3.out⟩
  | true =>
  have x11 := HX.out _ GX3.out 11 _ rfl
  have y11 := HY.out _ GX3.out 11 _ rfl
  have x12 := HX.out _ GX3.out 12 _ rfl
  have y12 := HY.out _ GX3.out 12 _ rfl
  have x13 := HX.out _ GX3.out 13 _ rfl
  have y13 := HY.out _ GX3.out 13 _ rfl
  have x14 := HX.out _ GX3.out 14 _ rfl
  have y14 := HY.out _ GX3.out 14 _ rfl
  have x15 := HX.out _ GX3.out 15 _ rfl
  have y15 := HY.out _ GX3.out 15 _ rfl
  have x16 := HX.out _ GX3.out 16 _ rfl
  have y16 := HY.out _ GX3.out 16 _ rfl
  rw [VG1.out] at x13
  rw [VG2.out] at y13
  rw [VI1.out] at x15
  rw [VI2.out] at y15
  cases t4 : (x.d.t == y.d.t) with
  | false =>
    go_wp2_with fail
    go_ret
    exact ⟨by rw [HE.out, t4, Bool.and_false]; rfl, G0.out.trans GX3.out⟩
  | true =>
  cases t5 : (x.d.a == y.d.a) with
  | false =>
    go_wp2_with fail
    go_ret
    exact ⟨by rw [HE.out, t5, Bool.and_false]; rfl, G0.out.trans GX3.out⟩
  | true =>
  by_cases hg : g1.toList = g2.toList
  · by_cases he : x.d.e = y.d.e
    · by_cases hi : i1.toList = i2.toList
      · have HE7 : Hid (sameT x.d y.d = (x.d.b == y.d.b)) := by
          show _ = _
          rw [HE.out, t0, t1, t2, t3, t4, t5, hg, he, hi]
          simp
        go_wp2_with fail
        refine (HSM.out _ (G0.out.trans GX3.out)).mono ?_
        rintro e w4 ⟨rfl, g⟩
        have GX4 := Lib.hid (GX3.out.trans g)
        clear g
        go_wp2_with fail
        go_ret
        exact ⟨by rw [HE7.out]; rfl, G0.out.trans GX4.out⟩
      · have HE7 : Hid (sameT x.d y.d = false) := by
          show _ = _
          rw [HE.out, beq_false_of_ne hi]
          simp
        go_wp2_with fail
        go_ret
        exact ⟨by rw [HE7.out]; rfl, G0.out.trans GX3.out⟩
    · have HE7 : Hid (sameT x.d y.d = false) := by
        show _ = _
        rw [HE.out, beq_false_of_ne he]
        simp
      go_wp2_with fail
      go_ret
      exact ⟨by rw [HE7.out]; rfl, G0.out.trans GX3.out⟩
  · have HE7 : Hid (sameT x.d y.d = false) := by
      show _ = _
      rw [HE.out, beq_false_of_ne hg]
      simp
    go_wp2_with fail
    go_ret
    exact ⟨by rw [HE7.out]; rfl, G0.out.trans GX3.out⟩
end Go.Proofs.YtadenlhnfkccaaaDoor
