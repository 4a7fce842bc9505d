/- Own texts of this claim, one behind the other. No condition. -/
import Derived.Test.YtfemhhjmfckicaaGreatDoorObPkL
import Derived.Test.YtfemhhjmfckicaaGreatDoorObPkS
import Derived.Test.YtfemhhjmfckicaaGreatDoorObPkX
import Derived.Test.YtfemhhjmfckicaaGreatDoorObPkZA

/- Rows of changes of names, and light ones. No condition. -/
namespace Go.Proofs.YtfemhhjmfckicaaGreatDoor
open Go.RowKit
set_option linter.unusedVariables false
set_option linter.unusedSimpArgs false
/-- A change that came in, and where its value lies. -/
structure ChV where
  d : ChD
  a : Option Addr
  m : Nat
  c : Nat
instance : Inhabited ChV := ⟨⟨⟨[], [], false⟩, none, 0, 0⟩⟩
def ChV.cells (x : ChV) : List Value := [strc x.d.n, .slice x.a x.m x.c, .bool x.d.g]
theorem ChV.cells_len (x : ChV) : x.cells.length = 3 := rfl
def Chg (w : World) (A : Option Addr) (n c : Nat) (L : List ChV) : Prop := L.length = n ∧ Sl w A n c 3 (L.flatMap ChV.cells) ∧ ∀ x ∈ L, Bs w x.a x.m x.c x.d.v ∧ x.d.n.length ≤ 9223372036854775807
theorem Chg.nil (w : World) : Chg w none 0 0 [] := ⟨rfl, Sl.nil _ _, fun x hx => by cases hx⟩
theorem Chg.mono {w w' : World} {A : Option Addr} {n c : Nat} {L : List ChV} (h : Chg w A n c L) (hb : Gr w w') : Chg w' A n c L := ⟨h.1, h.2.1.mono hb, fun x hx => ⟨(h.2.2 x hx).1.mono hb, (h.2.2 x hx).2⟩⟩
theorem Chg.max {w : World} {A : Option Addr} {n c : Nat} {L : List ChV} (h : Chg w A n c L) : n ≤ 9223372036854775807 := Nat.le_trans h.2.1.cap h.2.1.max
theorem Chg.row {w : World} {A : Option Addr} {n c : Nat} {L : List ChV} (h : Chg w A n c L) {k : Nat} (hk : k < L.length) :
    ∃ b o, A = some ⟨b, o, none⟩ ∧ w.cell? ⟨b, o + k * 3, none⟩ = some (strc L[k].d.n) ∧ w.cell? ⟨b, o + k * 3 + 1, none⟩ = some (.slice L[k].a L[k].m L[k].c) ∧ w.cell? ⟨b, o + k * 3 + 2, none⟩ = some (.bool L[k].d.g) ∧ Bs w L[k].a L[k].m L[k].c L[k].d.v ∧ L[k].d.n.length ≤ 9223372036854775807 := by
  obtain ⟨hl, hs, hx⟩ := h
  obtain ⟨b, o, e, hc⟩ := hs.addr (by omega)
  have hr : L[k]? = some L[k] := List.getElem?_eq_getElem hk
  have h0 := flat_at (s := 3) ChV.cells_len L k 0 (by decide) _ hr
  have h1 := flat_at (s := 3) ChV.cells_len L k 1 (by decide) _ hr
  have h2 := flat_at (s := 3) ChV.cells_len L k 2 (by decide) _ hr
  exact ⟨b, o, e, hc _ _ (h0.trans rfl), by rw [Nat.add_assoc]; exact hc _ _ (h1.trans rfl), by rw [Nat.add_assoc]; exact hc _ _ (h2.trans rfl), hx _ (List.getElem_mem _)⟩
/-- Few heads and changes, and short ones. -/
structure LightP (hs : List (List UInt8)) (L : List ChV) : Prop where
  h : hs.length ≤ 70
  l : L.length ≤ 40
  hh : ∀ p ∈ hs, p.length ≤ 100
  hl : ∀ x ∈ L, x.d.n.length ≤ 100 ∧ x.d.v.length ≤ 400
theorem take_all {α : Type} {l : List α} {k : Nat} {P : α → Prop} (hk : k < l.length) (h : ∀ p ∈ l.take k, P p) (hn : P l[k]) : ∀ p ∈ l.take (k + 1), P p := fun p hp => by
  rw [List.take_succ_eq_append_getElem hk, List.mem_append, List.mem_singleton] at hp
  rcases hp with hp | rfl
  · exact h p hp
  · exact hn
set_option maxRecDepth 100000 in
set_option maxHeartbeats 2000000 in
theorem light31_any (A B : Option Addr) (n c m d : Nat) (hs : List (List UInt8)) (L : List ChV) (w : World) (h : Ws w A n c hs) (hz : ∀ p ∈ hs, p.length ≤ 9223372036854775807) (hL : Chg w B m d L) :
    Calls Tryz.prog 5 #[.slice A n c, .slice B m d] w fun e w' => ∃ b, e = .returned (.bool b) ∧ (b = true → LightP hs L) ∧ Gr w w' := by
  have hmax := h.max
  have hcap := h.cap
  have hmm := hL.max
  have HL := Lib.hid h.len
  have HL2 := Lib.hid hL.1
  have HH := Lib.hid h; have HC := Lib.hid hL; have HZ := Lib.hid hz
  clear h hL hz
  by_cases h70 : 70 < n
  · have t1 : decide ((70 : Int) < (n : Int)) = true := decide_eq_true (by omega)
    go_enter Tryz.func5, Tryz.ntmps5
    go_wp2_with fail
    go_ret
    exact ⟨false, rfl, (fun q => by cases q), Gr.refl _⟩
  have t1 : decide ((70 : Int) < (n : Int)) = false := decide_eq_false (by omega)
  by_cases h40 : 40 < m
  · have t2 : decide ((40 : Int) < (m : Int)) = true := decide_eq_true (by omega)
    go_enter Tryz.func5, Tryz.ntmps5
    go_wp2_with fail
    go_ret
    exact ⟨false, rfl, (fun q => by cases q), Gr.refl _⟩
  have t2 : decide ((40 : Int) < (m : Int)) = false := decide_eq_false (by omega)
  go_enter Tryz.func5, Tryz.ntmps5
  go_wp2_with fail
  go_loopw [5] (fun i wr => ∃ k : Nat, k ≤ n ∧ i = .int .i64 k ∧ wr = w ∧ ∀ p ∈ hs.take k, p.length ≤ 100) (fun i _ => n - (intOf i).toNat)
  case atStart => exact ⟨0, Nat.zero_le _, rfl, rfl, by simp⟩
  case round =>
    obtain ⟨k, hk, rfl, rfl, hall⟩ := hrel
    have HA := Lib.hid hall; clear hall
    by_cases hlt : k < n
    · have hkl : k < hs.length := by rw [HL.out]; exact hlt
      obtain ⟨b, o, rfl, hc⟩ := Ws.addr HH.out (by omega)
      have c1 := hc k hkl
      have hzk := HZ.out _ (List.getElem_mem hkl)
      have HTK : Hid (hs[k].length ≤ 100 → ∀ p ∈ hs.take (k + 1), p.length ≤ 100) := fun h => take_all (P := fun p : List UInt8 => p.length ≤ 100) hkl HA.out h
      clear hc
      generalize hs[k] = x at *
      obtain ⟨xs, hxs⟩ : ∃ xs : ByteArray, xs = ⟨x.toArray⟩ := ⟨_, rfl⟩
      have hxz : xs.size = x.length := by rw [hxs]; exact size_of' x
      rw [← hxs] at c1
      clear hxs
      by_cases h100 : 100 < xs.size
      · have t3 : decide ((100 : Int) < (xs.size : Int)) = true := decide_eq_true (by omega)
        clear hxz
        go_wp2_with fail
        go_ret
        exact ⟨false, rfl, (fun q => by cases q), Gr.refl _⟩
      · have t3 : decide ((100 : Int) < (xs.size : Int)) = false := decide_eq_false (by omega)
        have HK2 := Lib.hid (HTK.out (by omega))
        clear hxz
        go_wp2_with fail
        refine ⟨⟨k + 1, by omega, by first | trivial | go_num, by first | trivial | rfl, HK2.out⟩, ?_⟩
        show n - ((k : Int) + 1).toNat < n - (k : Int).toNat
        omega
    · obtain rfl : k = n := by omega
      have HS : Hid (∀ p ∈ hs, p.length ≤ 100) := by have := HA.out; rwa [List.take_of_length_le (by rw [HL.out]; omega)] at this
      go_wp2_with fail
      go_loopw [6] (fun i wx => ∃ j : Nat, j ≤ m ∧ i = .int .i64 j ∧ wx = wr ∧ ∀ x ∈ L.take j, x.d.n.length ≤ 100 ∧ x.d.v.length ≤ 400) (fun i _ => m - (intOf i).toNat)
      case atStart => exact ⟨0, Nat.zero_le _, rfl, rfl, by simp⟩
      case round =>
        obtain ⟨j, hj, rfl, rfl, hall⟩ := hrel
        have HB := Lib.hid hall; clear hall
        by_cases hlt2 : j < m
        · have hjl : j < L.length := by rw [HL2.out]; exact hlt2
          obtain ⟨b, o, rfl, c1, c2, c3, hb, hzj⟩ := HC.out.row hjl
          have hvl := hb.len
          have hvc := hb.cap
          have hvm := hb.max
          have HTK : Hid (L[j].d.n.length ≤ 100 ∧ L[j].d.v.length ≤ 400 → ∀ x ∈ L.take (j + 1), x.d.n.length ≤ 100 ∧ x.d.v.length ≤ 400) := fun h => take_all (P := fun x : ChV => x.d.n.length ≤ 100 ∧ x.d.v.length ≤ 400) hjl HB.out h
          clear hb c3
          generalize L[j] = x at *
          obtain ⟨⟨xn, xv, xg⟩, xa, xm, xc⟩ := x
          simp only at c1 c2 hzj hvl hvc hvm HTK
          obtain ⟨xs, hxs⟩ : ∃ xs : ByteArray, xs = ⟨xn.toArray⟩ := ⟨_, rfl⟩
          have hxz : xs.size = xn.length := by rw [hxs]; exact size_of' xn
          replace c1 : wr.cell? ⟨b, o + j * 3, none⟩ = some (.string xs) := by rw [hxs]; exact c1
          clear hxs
          by_cases h100 : 100 < xs.size
          · have t3 : decide ((100 : Int) < (xs.size : Int)) = true := decide_eq_true (by omega)
            clear hxz hvl HTK
            go_wp2_with fail
            go_ret
            exact ⟨false, rfl, (fun q => by cases q), Gr.refl _⟩
          · have t3 : decide ((100 : Int) < (xs.size : Int)) = false := decide_eq_false (by omega)
            by_cases h400 : 400 < xm
            · have t4 : decide ((400 : Int) < (xm : Int)) = true := decide_eq_true (by omega)
              clear hxz hvl HTK
              go_wp2_with fail
              go_ret
              exact ⟨false, rfl, (fun q => by cases q), Gr.refl _⟩
            · have t4 : decide ((400 : Int) < (xm : Int)) = false := decide_eq_false (by omega)
              have HK2 := Lib.hid (HTK.out ⟨by omega, by omega⟩)
              clear hxz hvl HTK
              go_wp2_with fail
              refine ⟨⟨j + 1, by omega, by first | trivial | go_num, by first | trivial | rfl, HK2.out⟩, ?_⟩
              show m - ((j : Int) + 1).toNat < m - (j : Int).toNat
              omega
        · obtain rfl : j = m := by omega
          have HS2 : Hid (∀ x ∈ L, x.d.n.length ≤ 100 ∧ x.d.v.length ≤ 400) := by have := HB.out; rwa [List.take_of_length_le (by rw [HL2.out]; omega)] at this
          go_wp2_with fail
          go_ret
          exact ⟨true, rfl, fun _ => ⟨by rw [HL.out]; omega, by rw [HL2.out]; omega, HS.out, HS2.out⟩, Gr.refl _⟩
end Go.Proofs.YtfemhhjmfckicaaGreatDoor

/- leaf.plan: what a plan has in memory. No condition. -/
namespace Go.Proofs.YtfemhhjmfckicaaGreatDoor
open Go.RowKit Go.Maps
set_option linter.unusedVariables false
set_option linter.unusedSimpArgs false
/-- A change of a slot, and where its value lies. -/
structure TcV where
  d : TcD
  a : Option Addr
  m : Nat
  c : Nat
instance : Inhabited TcV := ⟨⟨⟨0, [], [], false⟩, none, 0, 0⟩⟩
def TcV.v (x : TcV) : Value := .agg #[.int .i64 (x.d.s : Int), strc x.d.h, .slice x.a x.m x.c, .bool x.d.g]
def TcV.cells (x : TcV) : List Value := [.int .i64 (x.d.s : Int), strc x.d.h, .slice x.a x.m x.c, .bool x.d.g]
theorem TcV.cells_len (x : TcV) : x.cells.length = 4 := rfl
def logE (l : List TcV) : List (Int × Value) := l.map fun x => ((x.d.s : Int), x.v)
theorem logE_snoc (l : List TcV) (x : TcV) : logE (l ++ [x]) = logE l ++ [((x.d.s : Int), x.v)] := by simp [logE]
theorem keyedI : Keyed Tryz.prog 3 := int_keyed Tryz.underlying3
/-- The plan at P: its heads in g, its last changes in mb. -/
structure PL (w0 w : World) (P g mb n : Nat) (now : List (List UInt8)) (log : List TcV) : Prop where
  gr : Gr w0 w
  hp : w0.heap.size ≤ P
  hg : w0.heap.size ≤ g
  hm : w0.heap.size ≤ mb
  pg : P ≠ g
  len : now.length = n
  bp : Blk w P 77 [.slice (some ⟨g, 0, none⟩) n n, .map (some mb)]
  bg : Blk w g 9 (now.map strc)
  om : w.ownsMap Tryz.prog 3 Rv mb log.length (dOf (logE log))
  vs : ∀ x ∈ log, Bs w x.a x.m x.c x.d.v ∧ ∀ b o, x.a = some ⟨b, o, none⟩ → b ≠ g
theorem PL.ws {w0 w : World} {P g mb n : Nat} {now : List (List UInt8)} {log : List TcV} (h : PL w0 w P g mb n now log) (hn : n ≤ maxLen) : Ws w (some ⟨g, 0, none⟩) n n now :=
  ⟨by rw [List.length_map, h.len, Nat.mul_one], Nat.le_refl _, hn, fun _ => ⟨g, 0, rfl, fun j u hu => by rw [Nat.zero_add, h.bg.cell]; exact hu⟩⟩
theorem ownsMap_at {w w' : World} {P : Program} {k b n : Nat} {D : DataW Value} (h : w.ownsMap P k Rv b n D) (e : w'.heap[b]? = w.heap[b]?) : w'.ownsMap P k Rv b n D := by
  obtain ⟨es, clock, h1, h2⟩ := h
  exact ⟨es, clock, e.trans h1, h2⟩
theorem ownsMap_map {w : World} {P : Program} {k b n : Nat} {D : DataW Value} (h : w.ownsMap P k Rv b n D) : ∃ es clock, w.heap[b]? = some (.map es clock) := by
  obtain ⟨es, clock, h1, h2⟩ := h
  exact ⟨es, clock, h1⟩
theorem PL.mg {w0 w : World} {P g mb n : Nat} {now : List (List UInt8)} {log : List TcV} (h : PL w0 w P g mb n now log) : mb ≠ g ∧ mb ≠ P := by
  obtain ⟨es, clock, h1⟩ := ownsMap_map h.om
  refine ⟨fun e => ?_, fun e => ?_⟩
  · have h2 := h.bg
    unfold Blk at h2
    rw [← e, h1] at h2
    cases h2
  · have h2 := h.bp
    unfold Blk at h2
    rw [← e, h1] at h2
    cases h2
theorem PL.mono {w0 w w' : World} {P g mb n : Nat} {now : List (List UInt8)} {log : List TcV} (h : PL w0 w P g mb n now log) (k : Gr w w') : PL w0 w' P g mb n now log :=
  ⟨h.gr.trans k, h.hp, h.hg, h.hm, h.pg, h.len, h.bp.mono k, h.bg.mono k, ownsMap_at h.om (k.block mb h.om.lt), fun x hx => ⟨(h.vs x hx).1.mono k, (h.vs x hx).2⟩⟩
/-- A head is put in its slot. -/
theorem PL.put {w0 w : World} {P g mb n : Nat} {now : List (List UInt8)} {log : List TcV} (h : PL w0 w P g mb n now log) (i : Nat) (s : List UInt8) : PL w0 (w.setCell ⟨g, i, none⟩ (strc s)) P g mb n (now.set i s) log := by
  refine ⟨(Tch.set (S := fun b => b = g) ⟨g, i, none⟩ (strc s) rfl).below h.gr h.gr.size (fun b e => e ▸ h.hg), h.hp, h.hg, h.hm, h.pg, by rw [List.length_set]; exact h.len, h.bp.far (p := ⟨g, i, none⟩) h.pg _, ?_, ownsMap_at h.om (Below.heap_setCell w ⟨g, i, none⟩ _ mb h.mg.1), fun x hx => ⟨(h.vs x hx).1.tch (by decide) (Tch.set (S := fun b => b = g) ⟨g, i, none⟩ (strc s) rfl) (fun _ b o e q => (h.vs x hx).2 b o e q), (h.vs x hx).2⟩⟩
  rw [List.map_set]
  exact h.bg.set i (strc s)
/-- The last change of a slot is put in the map. -/
theorem PL.upd {w0 w w' : World} {P g mb n : Nat} {now : List (List UInt8)} {log : List TcV} (h : PL w0 w P g mb n now log) (x : TcV) (hx : Bs w x.a x.m x.c x.d.v) (hb : ∀ b o, x.a = some ⟨b, o, none⟩ → b ≠ g)
    (k : w.grownBy w' (some mb)) (om : w'.ownsMap Tryz.prog 3 Rv mb (log.length + 1) ((dOf (logE log)).put (.int .i64 (x.d.s : Int)) (.held x.v))) : PL w0 w' P g mb n now (log ++ [x]) := by
  have t : Tch (fun b => b = mb) w w' := Tch.grown k (fun b e => by injection e with e; exact e.symm)
  obtain ⟨es, clock, h1⟩ := ownsMap_map h.om
  refine ⟨t.below h.gr h.gr.size (fun b e => e ▸ h.hm), h.hp, h.hg, h.hm, h.pg, h.len, h.bp.tch t (fun e => h.mg.2 e.symm), h.bg.tch t (fun e => h.mg.1 e.symm), ?_, fun y hy => ?_⟩
  · rw [List.length_append, List.length_singleton, logE_snoc, dOf_snoc]
    exact om
  · rcases List.mem_append.1 hy with hy | hy
    · exact ⟨(h.vs y hy).1.tch (by decide) t (fun hn b o e => (h.vs y hy).1.not_map (by decide) h1 hn e), (h.vs y hy).2⟩
    · simp only [List.mem_singleton] at hy
      subst hy
      exact ⟨hx.tch (by decide) t (fun hn b o e => hx.not_map (by decide) h1 hn e), hb⟩
end Go.Proofs.YtfemhhjmfckicaaGreatDoor
