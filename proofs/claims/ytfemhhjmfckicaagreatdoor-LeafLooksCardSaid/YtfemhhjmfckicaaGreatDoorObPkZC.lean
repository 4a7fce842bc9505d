/- Own texts of this claim, one behind the other. No condition. -/
import Derived.Test.YtfemhhjmfckicaaGreatDoorObPkE
import Derived.Test.YtfemhhjmfckicaaGreatDoorObPkZ
import Derived.Test.YtfemhhjmfckicaaGreatDoorObPkZB
import Derived.WideKeyEntry

/- leaf.plan.do: one change. No condition. -/
namespace Go.Proofs.YtfemhhjmfckicaaGreatDoor
open Go.RowKit Go.Maps
set_option linter.unusedVariables false
set_option linter.unusedSimpArgs false
section
variable {w0 w : World} {P g mb n : Nat} {now : List (List UInt8)} {log : List TcV}
theorem PL.cells {w0 w : World} {P g mb n : Nat} {now : List (List UInt8)} {log : List TcV} (h : PL w0 w P g mb n now log) : w.cell? ⟨P, 0, none⟩ = some (.slice (some ⟨g, 0, none⟩) n n) ∧ w.cell? ⟨P, 1, none⟩ = some (.map (some mb)) := ⟨h.bp.cell 0, h.bp.cell 1⟩
/-- The change, as it lies in its own block. -/
abbrev chO (s : Value) (a : Option Addr) (m c : Nat) (gn : Bool) : Obj := .cells #[s, .slice a m c, .bool gn] 42
theorem ch_cells {w wr : World} {s : Value} {a : Option Addr} {m c : Nat} {gn : Bool} (h : Gr (w.alloc (chO s a m c gn)) wr) :
    wr.cell? ⟨w.heap.size, 0, none⟩ = some s ∧ wr.cell? ⟨w.heap.size, 1, none⟩ = some (.slice a m c) ∧ wr.cell? ⟨w.heap.size, 2, none⟩ = some (.bool gn) := by
  have hb := (Blk.new w 42 #[s, .slice a m c, .bool gn]).mono h
  exact ⟨hb.cell 0, hb.cell 1, hb.cell 2⟩
set_option maxHeartbeats 1000000 in
theorem do_wrong (h : PL w0 w P g mb n now log) (s : List UInt8) (a : Option Addr) (m c : Nat) (gn : Bool) (hs : s.length ≤ 100000) (hT : U8 w0) (hr : rightL s = false) :
    Calls Tryz.prog 52 #[.pointer (some ⟨P, 0, none⟩), .agg #[strc s, .slice a m c, .bool gn]] w fun e w' => e = .returned (.int .i64 2) ∧ PL w0 w' P g mb n now log := by
  have HP := Lib.hid (h.mono (Gr.alloc w (chO (strc s) a m c gn)))
  have H1 : Hid (Calls Tryz.prog 58 #[strc s] (w.alloc (chO (strc s) a m c gn)) fun e w' => e = .returned (.bool false) ∧ Gr (w.alloc (chO (strc s) a m c gn)) w') := by
    have k := right_any s _ hs (hT.mono HP.out.gr); rw [hr] at k; exact k
  obtain ⟨sx, hsx⟩ : ∃ sx : ByteArray, strc s = .string sx := ⟨_, rfl⟩
  rw [hsx] at HP H1 ⊢
  have HC := Lib.hid (fun (wr : World) (k : Gr (w.alloc (chO (.string sx) a m c gn)) wr) => ch_cells k)
  clear h hsx hr hT
  go_enter Tryz.func52, Tryz.ntmps52
  go_wp2_with fail
  refine H1.out.mono ?_
  rintro e w1 ⟨rfl, g1⟩
  have HP1 := Lib.hid (HP.out.mono g1)
  have G1 := Lib.hid g1
  obtain ⟨d0, d1, d2⟩ := HC.out _ g1
  clear g1
  obtain ⟨cp0, cp1⟩ := HP1.out.cells
  go_wp2_with fail
  go_ret
  exact ⟨rfl, HP1.out⟩
set_option maxHeartbeats 1000000 in
theorem do_long (h : PL w0 w P g mb n now log) (s : List UInt8) (a : Option Addr) (m c : Nat) (hs : s.length ≤ 100000) (hT : U8 w0) (hr : rightL s = true) (hm : 350 < m) :
    Calls Tryz.prog 52 #[.pointer (some ⟨P, 0, none⟩), .agg #[strc s, .slice a m c, .bool false]] w fun e w' => e = .returned (.int .i64 2) ∧ PL w0 w' P g mb n now log := by
  have HP := Lib.hid (h.mono (Gr.alloc w (chO (strc s) a m c false)))
  have H1 : Hid (Calls Tryz.prog 58 #[strc s] (w.alloc (chO (strc s) a m c false)) fun e w' => e = .returned (.bool true) ∧ Gr (w.alloc (chO (strc s) a m c false)) w') := by
    have k := right_any s _ hs (hT.mono HP.out.gr); rw [hr] at k; exact k
  obtain ⟨sx, hsx⟩ : ∃ sx : ByteArray, strc s = .string sx := ⟨_, rfl⟩
  rw [hsx] at HP H1 ⊢
  have HC := Lib.hid (fun (wr : World) (k : Gr (w.alloc (chO (.string sx) a m c false)) wr) => ch_cells k)
  have t1 : decide ((350 : Int) < (m : Int)) = true := decide_eq_true (by omega)
  clear h hsx hr hT hm
  go_enter Tryz.func52, Tryz.ntmps52
  go_wp2_with fail
  refine H1.out.mono ?_
  rintro e w1 ⟨rfl, g1⟩
  have HP1 := Lib.hid (HP.out.mono g1)
  have G1 := Lib.hid g1
  obtain ⟨d0, d1, d2⟩ := HC.out _ g1
  clear g1
  obtain ⟨cp0, cp1⟩ := HP1.out.cells
  go_wp2_with fail
  go_ret
  exact ⟨rfl, HP1.out⟩
set_option maxHeartbeats 1000000 in
theorem do_missing (h : PL w0 w P g mb n now log) (hn : n ≤ 1000) (s : List UInt8) (a : Option Addr) (m c : Nat) (hs : s.length ≤ 100000) (hT : U8 w0) (hr : rightL s = true) (hf : findH now s = -1) :
    Calls Tryz.prog 52 #[.pointer (some ⟨P, 0, none⟩), .agg #[strc s, .slice a m c, .bool true]] w fun e w' => e = .returned (.int .i64 7) ∧ PL w0 w' P g mb n now log := by
  have HP := Lib.hid (h.mono (Gr.alloc w (chO (strc s) a m c true)))
  have H1 : Hid (Calls Tryz.prog 58 #[strc s] (w.alloc (chO (strc s) a m c true)) fun e w' => e = .returned (.bool true) ∧ Gr (w.alloc (chO (strc s) a m c true)) w') := by
    have k := right_any s _ hs (hT.mono HP.out.gr); rw [hr] at k; exact k
  have H2 : Hid (∀ wr, PL w0 wr P g mb n now log → Calls Tryz.prog 7 #[.slice (some ⟨g, 0, none⟩) n n, strc s] wr fun e w' => e = .returned (.int .i64 (-1)) ∧ w' = wr) := fun wr k => by
    have q := leafFind_any _ n n now s wr (k.ws (by unfold maxLen; omega)) (by omega); rw [hf] at q; exact q
  obtain ⟨sx, hsx⟩ : ∃ sx : ByteArray, strc s = .string sx := ⟨_, rfl⟩
  rw [hsx] at HP H1 H2 ⊢
  have HC := Lib.hid (fun (wr : World) (k : Gr (w.alloc (chO (.string sx) a m c true)) wr) => ch_cells k)
  clear h hsx hr hT hf
  go_enter Tryz.func52, Tryz.ntmps52
  go_wp2_with fail
  refine H1.out.mono ?_
  rintro e w1 ⟨rfl, g1⟩
  have HP1 := Lib.hid (HP.out.mono g1)
  have G1 := Lib.hid g1
  obtain ⟨d0, d1, d2⟩ := HC.out _ g1
  clear g1
  obtain ⟨cp0, cp1⟩ := HP1.out.cells
  go_wp2_with fail
  have H2q := Lib.hid (fun q => H2.out (w1.drewN q) (HP1.out.mono (belowN (Below.refl _ _) q)))
  go_quiet ((go_at_call 7; exact Calls.quiet_of_same (H2q.out _)))
  have HP2 := Lib.hid (HP1.out.mono (belowN (Below.refl _ _) nq))
  clear cp0 cp1 d0 d1 d2
  obtain ⟨cp0, cp1⟩ := HP2.out.cells
  obtain ⟨d0, d1, d2⟩ := HC.out _ (belowN G1.out nq)
  go_wp2_with fail
  go_ret
  exact ⟨rfl, HP2.out⟩
set_option maxHeartbeats 1000000 in
theorem do_full (h : PL w0 w P g mb n now log) (hn : n ≤ 1000) (s : List UInt8) (a : Option Addr) (m c : Nat) (hs : s.length ≤ 100000) (hT : U8 w0) (hr : rightL s = true) (hm : m ≤ 350) (hf : findH now s = -1) (he : freeH now = -1) :
    Calls Tryz.prog 52 #[.pointer (some ⟨P, 0, none⟩), .agg #[strc s, .slice a m c, .bool false]] w fun e w' => e = .returned (.int .i64 5) ∧ PL w0 w' P g mb n now log := by
  have HP := Lib.hid (h.mono (Gr.alloc w (chO (strc s) a m c false)))
  have H1 : Hid (Calls Tryz.prog 58 #[strc s] (w.alloc (chO (strc s) a m c false)) fun e w' => e = .returned (.bool true) ∧ Gr (w.alloc (chO (strc s) a m c false)) w') := by
    have k := right_any s _ hs (hT.mono HP.out.gr); rw [hr] at k; exact k
  have H2 : Hid (∀ wr, PL w0 wr P g mb n now log → Calls Tryz.prog 7 #[.slice (some ⟨g, 0, none⟩) n n, strc s] wr fun e w' => e = .returned (.int .i64 (-1)) ∧ w' = wr) := fun wr k => by
    have q := leafFind_any _ n n now s wr (k.ws (by unfold maxLen; omega)) (by omega); rw [hf] at q; exact q
  have H3 : Hid (∀ wr, PL w0 wr P g mb n now log → Calls Tryz.prog 9 #[.slice (some ⟨g, 0, none⟩) n n] wr fun e w' => e = .returned (.int .i64 (-1)) ∧ w' = wr) := fun wr k => by
    have q := free_any _ n n now wr (k.ws (by unfold maxLen; omega)) (by omega); rw [he] at q; exact q
  obtain ⟨sx, hsx⟩ : ∃ sx : ByteArray, strc s = .string sx := ⟨_, rfl⟩
  rw [hsx] at HP H1 H2 ⊢
  have HC := Lib.hid (fun (wr : World) (k : Gr (w.alloc (chO (.string sx) a m c false)) wr) => ch_cells k)
  have t1 : decide ((350 : Int) < (m : Int)) = false := decide_eq_false (by omega)
  clear h hsx hr hT hf he hm
  go_enter Tryz.func52, Tryz.ntmps52
  go_wp2_with fail
  refine H1.out.mono ?_
  rintro e w1 ⟨rfl, g1⟩
  have HP1 := Lib.hid (HP.out.mono g1)
  have G1 := Lib.hid g1
  obtain ⟨d0, d1, d2⟩ := HC.out _ g1
  clear g1
  obtain ⟨cp0, cp1⟩ := HP1.out.cells
  go_wp2_with fail
  have H2q := Lib.hid (fun q => H2.out (w1.drewN q) (HP1.out.mono (belowN (Below.refl _ _) q)))
  go_quiet ((go_at_call 7; exact Calls.quiet_of_same (H2q.out _)))
  have HP2 := Lib.hid (HP1.out.mono (belowN (Below.refl _ _) nq))
  clear cp0 cp1 d0 d1 d2
  obtain ⟨cp0, cp1⟩ := HP2.out.cells
  obtain ⟨d0, d1, d2⟩ := HC.out _ (belowN G1.out nq)
  go_wp2_with fail
  refine (H3.out _ HP2.out).mono ?_
  rintro e w3 ⟨rfl, rfl⟩
  go_wp2_with fail
  go_ret
  exact ⟨rfl, HP2.out⟩
end
end Go.Proofs.YtfemhhjmfckicaaGreatDoor

/- An entry of a map that is taken first, and stored behind. No condition. -/
namespace Go.Proofs.YtfemhhjmfckicaaGreatDoor
open Go.RowKit Go.ChangeMaps Go.MapKept
open Go.WideElems (Fit rg)
open Go.Maps (Keyed)
set_option linter.unusedVariables false
theorem block_same {w : World} {b : Nat} {o o' : Obj} {es : Array MapEntry} {clock : Nat} (hb : w.heap[b]? = some (.map es clock)) (h : setBlock w b o = setBlock w b o') : o = o' := by
  have h1 := heap_setBlock_same hb o
  rw [h, heap_setBlock_same hb o'] at h1
  injection h1 with h1
  exact h1.symm
theorem map_same {a b : Array MapEntry} {c d : Nat} (h : Obj.map a c = Obj.map b d) : a = b ∧ c = d := by
  injection h with h1 h2
  exact ⟨h1, h2⟩
theorem entry_store {H : Type} {P : Program} {w : World} {t k e : TypeId} {R : Value → Option (DataW H × List MemPlace)} {b n : Nat} {D : DataW H} (h : w.ownsMap P k R b n D) (K : Keyed P k) (ht : P.underlying t = some (.map k e)) {z : Value} (hz : ∀ u : World, (zeroValue e).run P u = .ok z u) (hn : n < maxLen)
    {key : Value} {kl : Lit} (hkey : keyOf P k key = some kl) :
    ∃ (v0 : Value) (st : Nat) (w1 : World), (Instr.mapEntry t (.map (some b)) key).run P w = .ok (.tuple #[v0, goInt st]) w1 ∧ w.grownBy w1 (some b) ∧ w1.heap.size = w.heap.size ∧
      ∀ (w2 : World) (val : Value) (d : DataW H) (ps : List MemPlace), R val = some (d, ps) → w2.heap[b]? = w1.heap[b]? → ∃ w3, (Instr.entryStore t (.map (some b)) (goInt st) val).run P w2 = .ok () w3 ∧ w3.ownsMap P k R b (n + 1) (D.put kl d) ∧ w2.grownBy w3 (some b) := by
  obtain ⟨es, clock, hb, F, hs, rfl⟩ := h
  obtain ⟨s1, s2, _⟩ := F.stamped
  have fin : ∀ (es1 : Array MapEntry) (clock1 st : Nat), (∀ (w2 : World) (val : Value), w2.heap[b]? = some (.map es1 clock1) → ∃ es' clock', (Instr.entryStore t (.map (some b)) (goInt st) val).run P w2 = .ok () (setBlock w2 b (.map es' clock')) ∧ (Instr.mapUpdate t (.map (some b)) key val).run P w = .ok () (setBlock w b (.map es' clock'))) →
      w.grownBy (setBlock w b (.map es1 clock1)) (some b) ∧ (setBlock w b (.map es1 clock1)).heap.size = w.heap.size ∧
      ∀ (w2 : World) (val : Value) (d : DataW H) (ps : List MemPlace), R val = some (d, ps) → w2.heap[b]? = (setBlock w b (.map es1 clock1)).heap[b]? → ∃ w3, (Instr.entryStore t (.map (some b)) (goInt st) val).run P w2 = .ok () w3 ∧ w3.ownsMap P k R b (n + 1) (.put (.map ((es.toList.map (rg P k R)).foldr DataW.insert [])) kl d) ∧ w2.grownBy w3 (some b) := by
    intro es1 clock1 st hst
    refine ⟨⟨rfl, rfl, rfl, by simp [setBlock], fun i _ hi => heap_setBlock_other hb _ (fun e => hi (by rw [e]))⟩, by simp [setBlock], fun w2 val d ps hv h2 => ?_⟩
    rw [heap_setBlock_same hb] at h2
    obtain ⟨es', clock', r1, r2⟩ := hst w2 val h2
    obtain ⟨es2, clock2, hrun, F', hput, _⟩ := Maps.fit_store (R' := R) K ht hb F (Nat.lt_of_le_of_lt hs hn) (fun _ _ _ _ hz => hz) hkey hv
    rw [r2] at hrun
    injection hrun with _ hrun
    obtain ⟨rfl, rfl⟩ := map_same (block_same hb hrun)
    refine ⟨_, r1, ⟨es', clock', heap_setBlock_same h2 _, F', ?_, by rw [DataW.put_eq, hput]⟩, ⟨rfl, rfl, rfl, by simp [setBlock], fun i _ hi => heap_setBlock_other h2 _ (fun e => hi (by rw [e]))⟩⟩
    have e1 : es'.size = ((es'.toList.map (rg P k R)).foldr DataW.insert []).length := by rw [length_sorted]; simp
    rw [e1, hput]
    unfold putKey
    rw [length_insert]
    have e2 := List.length_filter_le (notKey kl) ((es.toList.map (rg P k R)).foldr DataW.insert [])
    rw [length_sorted] at e2
    simp at e2
    omega
  rcases K.find w hkey es.toList F.keys with ⟨h1, h2⟩ | ⟨j, e0, h1, h2, h3⟩
  · refine ⟨z, clock, setBlock w b (.map (es.push ⟨key, z, clock⟩) (clock + 1)), ?_, fin _ _ _ fun w2 val hw2 => ⟨es.push ⟨key, val, clock⟩, clock + 1, ?_, ?_⟩⟩
    · simp [Instr.mapEntry, run_underlying ht, MapKept.run_getObj_map hb, K.check w false hkey, h1, hz, MapKept.run_setObj_map _ hb, Result.andThen, setBlock]
    · have hidx : (es.push ⟨key, z, clock⟩).findIdx? (fun e => ((e.born : Nat) : Int) == ((clock : Nat) : Int)) = some es.size := by
        rw [WideElems.findIdx_arr]
        have := WideElems.findIdx_born (l := (es.push ⟨key, z, clock⟩).toList) (j := es.size) (e0 := ⟨key, z, clock⟩) (by
          simp only [Array.toList_push, List.map_append, List.map_cons, List.map_nil]
          refine List.nodup_append.2 ⟨s2, by simp, fun a ha c hc e1 => ?_⟩
          simp only [List.mem_singleton] at hc
          obtain ⟨x, hx, rfl⟩ := List.mem_map.1 ha
          have := s1 x hx
          omega) (by simp)
        exact this
      have hmod : (es.push ⟨key, z, clock⟩).modify es.size (fun e => { e with val := val }) = es.push ⟨key, val, clock⟩ := by
        apply Array.ext'
        rw [Array.toList_modify, Array.toList_push, Array.toList_push, ← Array.length_toList, WideElems.modify_last]
      simp [Instr.entryStore, MapKept.run_getObj_map hw2, asInt, asIntOf, goInt, hidx, hmod, MapKept.run_setObj_map _ hw2, Result.andThen, setBlock]
    · simp [Instr.mapUpdate, run_underlying ht, MapKept.run_getObj_map hb, K.check w false hkey, h1, MapKept.run_setObj_map _ hb, Result.andThen, setBlock]
  · have hj : es[j]? = some e0 := by simpa using h2
    have hsame : es.modify j (fun e => { e with key := key }) = es := by
      apply Array.ext'
      rw [Array.toList_modify, modify_eq_set _ _ _ _ h2]
      have : ({ e0 with key := key } : MapEntry) = e0 := by rw [← h3]
      rw [this]
      exact WideElems.set_self _ _ _ h2
    refine ⟨e0.val, e0.born, setBlock w b (.map es clock), ?_, fin _ _ _ fun w2 val hw2 => ⟨es.modify j (fun e' => { e' with key := key, val := val }), clock, ?_, ?_⟩⟩
    · simp [Instr.mapEntry, run_underlying ht, MapKept.run_getObj_map hb, K.check w false hkey, h1, hj, h3, K.stays w hkey, hsame, MapKept.run_setObj_map _ hb, Result.andThen, setBlock]
    · have hidx : es.findIdx? (fun e => ((e.born : Nat) : Int) == ((e0.born : Nat) : Int)) = some j := by
        rw [WideElems.findIdx_arr]
        exact WideElems.findIdx_born s2 h2
      have hmod : es.modify j (fun e => { e with val := val }) = es.modify j (fun e' => { e' with key := key, val := val }) := by
        apply Array.ext'
        rw [Array.toList_modify, Array.toList_modify, modify_eq_set _ _ _ _ h2, modify_eq_set _ _ _ _ h2, ← h3]
      simp [Instr.entryStore, MapKept.run_getObj_map hw2, asInt, asIntOf, goInt, hidx, hmod, MapKept.run_setObj_map _ hw2, Result.andThen, setBlock]
    · simp [Instr.mapUpdate, run_underlying ht, MapKept.run_getObj_map hb, K.check w false hkey, h1, hj, h3, K.stays w hkey, MapKept.run_setObj_map _ hb, Result.andThen, setBlock]
theorem wp_mapEntry {P : Program} {o : Oper} {a : Act} {w w1 : World} {K : Act → World → Prop} {Q : Exit → Act → World → Prop} {t : TypeId} {m x : Operand} {v : Value} (hop : o.op = Op.mapEntry t m x) (hrun : (Instr.mapEntry t (a.eval m) (a.eval x)).run P w = .ok v w1)
    (h : K (a.put o.dst v) w1) : o.wp P a w K Q := by
  unfold Oper.wp
  simp [execOp, hop, hrun, Result.andThen]
  exact h
theorem wp_entryStore {P : Program} {o : Oper} {a : Act} {w w1 : World} {K : Act → World → Prop} {Q : Exit → Act → World → Prop} {t : TypeId} {m s x : Operand} (hop : o.op = Op.entryStore t m s x) (hrun : (Instr.entryStore t (a.eval m) (a.eval s) (a.eval x)).run P w = .ok () w1)
    (h : K (a.put o.dst undef) w1) : o.wp P a w K Q := by
  unfold Oper.wp
  simp [execOp, hop, hrun, Result.andThen]
  exact h
end Go.Proofs.YtfemhhjmfckicaaGreatDoor
