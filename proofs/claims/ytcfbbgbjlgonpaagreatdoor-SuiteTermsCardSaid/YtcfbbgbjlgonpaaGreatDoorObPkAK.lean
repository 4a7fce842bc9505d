/- Own texts of this claim, one behind the other. No condition. -/
import Derived.Test.YtcfbbgbjlgonpaaGreatDoorObPkAB
import Derived.Test.YtcfbbgbjlgonpaaGreatDoorObPkAC
import Derived.Test.YtcfbbgbjlgonpaaGreatDoorObPkAD
import Derived.Test.YtcfbbgbjlgonpaaGreatDoorObPkAF
import Derived.Test.YtcfbbgbjlgonpaaGreatDoorObPkAJ
import Derived.Lib.SlBytesConst
import Derived.ArgAppend
import Derived.Outline

/- ObSymA, ObSymB: one text. No condition. -/
/- The suite of terms: handles. No condition. -/
namespace Go.Proofs.YtcfbbgbjlgonpaaGreatDoor
open Go.RowKit
set_option linter.unusedVariables false
/-- 'append(s, x...)' where s has no room left: s stays, a new row. -/
theorem wpList_catFull {P : Program} {ops : Array Oper} {rest : List Oper} {o : Oper} {a : Act} {Q : Exit → Act → World → Prop} (hgd : o.guard = none) (s x : Operand) (t : TypeId)
    (ho : o.op = .call { callee := .builtin .append, args := #[s, x], argTypes := #[t, t] })
    {e : TypeId} {z : Value} {size bytes : Nat} (ht : ElemT P t e z size bytes) {w : World} {A B : Option Addr} {n c m d : Nat} {xs news : List Value} (hs : a.eval s = .slice A n c) (hsl : Sl w A n c size xs) (hn : 0 < n)
    (hx : a.eval x = .slice B m d) (hsx : Sl w B m d size news) (hm : 0 < m) (hg : c < n + m)
    (hroom : (n + m) * bytes ≤ 140737488355328)
    (h : ∀ v' w', Own w w' e size v' (n + m) (xs ++ news) → wpList P ops Q rest (a.put o.dst v') w') : wpList P ops Q (o :: rest) a w :=
  wpList_plain hgd fun _ hK => by
    obtain ⟨i, hi, hz, hsz, hby⟩ := info_parts ht.info
    have hb1 : n + m ≤ (n + m) * bytes := Nat.le_mul_of_pos_right _ ht.bpos
    obtain ⟨b, off, rfl, hc⟩ := hsl.addr hn
    obtain ⟨b', off', rfl, hc'⟩ := hsx.addr hm
    have ad : ∀ (b off j : Nat), (Addr.mk b off none).add j = ⟨b, off + j, none⟩ := fun b off j => by unfold Addr.add; split <;> simp_all
    obtain ⟨v', w', hrun, h2, h3⟩ := run_append_arg_grows (P := P) w t o.type e i z size bytes ht.und hi hz hsz hby ht.cells ht.pos ⟨b, off, none⟩ n c xs hsl.1 (fun j u hu => by rw [ad]; exact hc j u hu) ⟨b', off', none⟩ m d news hsx.1 (fun j u hu => by rw [ad]; exact hc' j u hu) hg (by simp only [maxLen]; omega) hroom
    unfold Oper.wp execOp
    simp only [ho, resolve, invoke, builtin, Sem.run_bind, Sem.run_pure, Result.andThen_ok, List.map_toArray, List.map_cons, List.map_nil, hs, hx, hrun]
    exact hK _ _ (h v' w' ⟨h2, (Below.refl _ w).grown h3 (Nat.le_refl _) (fun k hk => by cases hk)⟩)
def magicL : List UInt8 := [255, 254, 116, 101, 114, 109, 254, 255]
def handleL (id : Nat) : List UInt8 := padL (magicL ++ be id 8) 32
theorem be_len8 (id : Nat) : (be id 8).length = 8 := be_length 8 id
theorem handleL_len (id : Nat) : (handleL id).length = 32 := padL_length _ _
theorem handleL_eq (id : Nat) : handleL id = magicL ++ be id 8 ++ List.replicate 16 0 := by
  unfold handleL padL
  rw [List.take_of_length_le (by rw [List.length_append, be_len8]; decide), List.length_append, be_len8]
  rfl
/-- The literal's row, marked. -/
abbrev magicO : Obj := .cells #[.int .u8 255, .int .u8 254, .int .u8 116, .int .u8 101, .int .u8 114, .int .u8 109, .int .u8 254, .int .u8 255] 5 (8, 9)
theorem magic_sl (w : World) : Sl (w.alloc magicO) (some ⟨w.heap.size, 0, none⟩) 8 8 1 (magicL.map u8c) := by
  refine ⟨rfl, Nat.le_refl _, by decide, fun _ => ⟨_, _, rfl, fun j u hu => ?_⟩⟩
  change [Value.int .u8 255, .int .u8 254, .int .u8 116, .int .u8 101, .int .u8 114, .int .u8 109, .int .u8 254, .int .u8 255][j]? = some u at hu
  have hj : (w.alloc magicO).heap[w.heap.size]? = some magicO := heap_alloc_new w _
  simp only [World.cell?, hj, Nat.zero_add]
  rw [if_neg (by decide)]
  simpa using hu
set_option maxRecDepth 100000 in
set_option maxHeartbeats 1000000 in
theorem handle_any (id : Nat) (w : World) (h : id < 9223372036854775808) :
    Calls Tryz.prog 34 #[.int .i64 (id : Int)] w (RetBs w (handleL id)) := by
  have e1 : putS (id : Int) 8 = be id 8 := by unfold putS; rw [if_pos (by decide)]; rfl
  have HP := Lib.hid (put_any (id : Int) 8 (w.alloc magicO) (by omega) (by omega))
  rw [e1] at HP
  have HM := Lib.hid (magic_sl w)
  have HG := Lib.hid (Gr.alloc w magicO)
  have hb8 := be_len8 id
  have hcv := fun (W : World) (C : Array Value) (n c : Nat) => Lib.run_convert_bytes_const (P := Tryz.prog) W 28 5 C n c Tryz.underlying28 Tryz.underlying5
  have hwr : IntKind.u64.wrap (id : Int) = id := IntWalk.u64_in _ (by omega)
  clear e1
  go_enter Tryz.func34, Tryz.ntmps34
  go_wp2_with fail
  refine HP.out.mono ?_
  rintro e w1 ⟨v1, rfl, o1⟩
  rw [hb8] at o1
  have G1 : Hid (Gr (w.alloc magicO) w1) := o1.below
  have M1 := Lib.hid (HM.out.mono o1.below)
  obtain ⟨A1, c1, rfl, s1⟩ := o1.slice
  have S1 := Lib.hid s1
  clear o1 s1
  go_wp2_with (at_builtin; refine wpList_catFull rfl (.tmp 4) (.tmp 7) 28 rfl tBytes rfl M1.out (by omega) rfl S1.out (by omega) (by omega) (by omega) ?_; intro v2 w2 own2; rw [← List.map_append] at own2; obtain ⟨A2, c2, rfl, s2⟩ := own2.slice; have S2 := Lib.hid s2; have B2 : Hid (Gr w1 w2) := own2.below; clear own2 s2)
  refine (pad_any _ _ _ _ _ _ S2.out).mono ?_
  rintro e w3 ⟨v3, rfl, o3⟩
  have O3 := Lib.hid (o3.base (HG.out.trans (G1.out.trans B2.out)))
  clear o3
  go_wp2_with fail
  go_ret
  exact ⟨_, rfl, O3.out⟩
end Go.Proofs.YtcfbbgbjlgonpaaGreatDoor
/- The suite of terms: its state, and what it answers of handles. No condition. -/
namespace Go.Proofs.YtcfbbgbjlgonpaaGreatDoor
open Go.RowKit
set_option linter.unusedVariables false
/-- What a table's calls leave: blocks of other cells than its own. -/
def FS (w w' : World) : Prop := ∀ g t cs, t ≠ 68 → t ≠ 20 → t ≠ 3 → Blk w g t cs → Blk w' g t cs
theorem FS.gr {w w' : World} (h : Gr w w') : FS w w' := fun g t cs _ _ _ hb => h.blk hb
theorem FS.trans {a b c : World} (h : FS a b) (k : FS b c) : FS a c := fun g t cs h1 h2 h3 hb => k g t cs h1 h2 h3 (h g t cs h1 h2 h3 hb)
theorem FS.own {w0 w w' : World} {e : TypeId} {s n : Nat} {v : Value} {xs : List Value} (h : FS w w') (ho : Own w0 w e s v n xs) (h1 : e ≠ 68) (h2 : e ≠ 20) (h3 : e ≠ 3) (hb : Below w0.heap.size w0 w') : Own w0 w' e s v n xs := by
  refine ⟨⟨ho.1.1, ?_⟩, hb⟩
  rcases ho.1.2 with q | ⟨g, cap, cur, hv, hg, hh, r⟩
  · exact .inl q
  · refine .inr ⟨g, cap, cur, hv, hg, ?_, r⟩
    have hk : Blk w g e cur.toList := by unfold Blk; rw [Array.toArray_toList]; exact hh
    have := h g e cur.toList h1 h2 h3 hk
    unfold Blk at this
    rw [Array.toArray_toList] at this
    exact this
theorem FS.tbl {w0 w w' : World} {g bm : Nat} {T : List Nd} {vl vs vl' vs' : Value} (h : TbF w0 w g T vl vs bm) (c : TChM w w' g bm vl vs vl' vs') : FS w w' := fun b t cs h1 h2 h3 hb => by
  refine (c.keep b hb.lt (fun e => ?_) (fun e => ?_) (fun e => ?_) (fun e => ?_)).trans hb
  · subst e
    have hk := h.x.blk
    unfold Blk at hb hk
    rw [hk] at hb
    injection hb with hb
    injection hb with _ hb
    exact h1 hb.symm
  · subst e; exact h.m.ne_blk hb rfl
  · exact h.x.l.not_blk hb (fun q => h2 q.symm) e
  · exact h.x.s.not_blk hb (fun q => h3 q.symm) e
/-- A suite of terms, its table T. -/
structure SymS (w0 w : World) (p g bm bs : Nat) (T : List Nd) : Prop where
  blk : Blk w p 60 [.pointer (some ⟨g, 0, none⟩), .map (some bs), .pointer none]
  t : ∃ vl vs, TbF w0 w g T vl vs bm
  i : TIn T
theorem SymS.below {w0 w : World} {p g bm bs : Nat} {T : List Nd} (h : SymS w0 w p g bm bs T) : Below w0.heap.size w0 w := by obtain ⟨vl, vs, ht⟩ := h.t; exact ht.x.l.below
theorem SymS.gr {w0 w w' : World} {p g bm bs : Nat} {T : List Nd} (h : SymS w0 w p g bm bs T) (hg : Gr w w') : SymS w0 w' p g bm bs T := by
  obtain ⟨vl, vs, ht⟩ := h.t
  exact ⟨hg.blk h.blk, ⟨vl, vs, ht.gr hg⟩, h.i⟩
theorem SymS.rd {w0 w : World} {p g bm bs : Nat} {T : List Nd} (h : SymS w0 w p g bm bs T) : TRd w g T := by obtain ⟨vl, vs, ht⟩ := h.t; exact ht.rd
theorem SymS.turn {w0 w w' : World} {p g bm bs : Nat} {T T' : List Nd} {vl vs vl' vs' : Value} (h : SymS w0 w p g bm bs T) (ht : TbF w0 w g T vl vs bm) (ht' : TbF w0 w' g T' vl' vs' bm) (c : TChM w w' g bm vl vs vl' vs') (i : TIn T') : SymS w0 w' p g bm bs T' ∧ FS w w' :=
  have f := FS.tbl ht c
  ⟨⟨f _ _ _ (by decide) (by decide) (by decide) h.blk, ⟨vl', vs', ht'⟩, i⟩, f⟩
section
variable {w0 w : World} {p g bm bs : Nat} {T : List Nd}
theorem SymS.isNone (h : SymS w0 w p g bm bs T) : Calls Tryz.prog 32 #[.pointer (some ⟨p, 0, none⟩)] w fun e w' => e = .returned (.bool false) ∧ w = w' := by
  have c0 : w.cell? ⟨p, 0, none⟩ = some (.pointer (some ⟨g, 0, none⟩)) := (h.blk.cell 0).trans rfl
  have c2 : w.cell? ⟨p, 2, none⟩ = some (.pointer none) := (h.blk.cell 2).trans rfl
  clear h
  go_enter Tryz.func32, Tryz.ntmps32
  go_wp2_with fail
  go_ret
  exact ⟨rfl, rfl⟩
theorem SymS.isReal (h : SymS w0 w p g bm bs T) : Calls Tryz.prog 43 #[.pointer (some ⟨p, 0, none⟩)] w fun e w' => e = .returned (.bool false) ∧ w = w' := by
  have c2 : w.cell? ⟨p, 2, none⟩ = some (.pointer none) := (h.blk.cell 2).trans rfl
  clear h
  go_enter Tryz.func43, Tryz.ntmps43
  go_wp2_with fail
  go_ret
  exact ⟨rfl, rfl⟩
def bearsT (T : List Nd) (id : Int) : Bool := decide (kindOf T id ≠ 0) && decide (kindOf T id ≠ 2)
theorem SymS.bears (h : SymS w0 w p g bm bs T) (id : Int) (hid : -9223372036854775808 ≤ id ∧ id ≤ 9223372036854775807) : Calls Tryz.prog 33 #[.pointer (some ⟨p, 0, none⟩), .int .i64 id] w fun e w' => e = .returned (.bool (bearsT T id)) ∧ Gr w w' := by
  have c0 : w.cell? ⟨p, 0, none⟩ = some (.pointer (some ⟨g, 0, none⟩)) := (h.blk.cell 0).trans rfl
  have HK := Lib.hid (kind_any g T id w h.rd h.i.kinds hid)
  unfold bearsT
  clear h
  generalize kindOf T id = q at *
  by_cases h0 : q = 0
  · subst h0
    go_enter Tryz.func33, Tryz.ntmps33
    go_wp2_with fail
    refine HK.out.mono ?_
    rintro e w1 ⟨rfl, g1⟩
    have G1 := Lib.hid g1; clear g1
    go_wp2_with fail
    go_ret
    exact ⟨rfl, G1.out⟩
  · have t0 : ((q : Int) != 0) = true := by rw [bne_iff_ne]; omega
    by_cases h2 : q = 2
    · subst h2
      go_enter Tryz.func33, Tryz.ntmps33
      go_wp2_with fail
      refine HK.out.mono ?_
      rintro e w1 ⟨rfl, g1⟩
      have G1 := Lib.hid g1; clear g1
      go_wp2_with fail
      go_ret
      exact ⟨rfl, G1.out⟩
    · have t1 : ((q : Int) != 2) = true := by rw [bne_iff_ne]; omega
      have HB : Hid ((decide (q ≠ 0) && decide (q ≠ 2)) = true) := by show _ = _; rw [decide_eq_true h0, decide_eq_true h2]; rfl
      rw [HB.out]
      go_enter Tryz.func33, Tryz.ntmps33
      go_wp2_with fail
      refine HK.out.mono ?_
      rintro e w1 ⟨rfl, g1⟩
      have G1 := Lib.hid g1; clear g1
      go_wp2_with fail
      go_ret
      exact ⟨rfl, G1.out⟩
end
end Go.Proofs.YtcfbbgbjlgonpaaGreatDoor
