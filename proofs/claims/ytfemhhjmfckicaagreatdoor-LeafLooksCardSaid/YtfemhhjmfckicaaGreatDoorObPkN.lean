/- Own texts of this claim, one behind the other. No condition. -/
import Derived.Test.YtfemhhjmfckicaaGreatDoorObPkG
import Derived.Test.YtfemhhjmfckicaaGreatDoorObPkM
import Derived.Outline
import Derived.Lib.Join
import Derived.Lib.SplitLaws
import Derived.Lib.CountLaws
import Derived.Lib.RuneCount
import Derived.Shelf.Unicode.ValidAny
import Derived.Test.YtfemhhjmfckicaaGreatDoorProg

/- Names: the reference's Right, Split, Join, and rows of words. No condition. -/
namespace Go.Proofs.YtfemhhjmfckicaaGreatDoor
open Go.RowKit
set_option linter.unusedVariables false
/-- A slice that reads as texts. -/
abbrev Ws (w : World) (A : Option Addr) (n c : Nat) (ps : List (List UInt8)) : Prop := Sl w A n c 1 (ps.map strc)
theorem Ws.len {w : World} {A : Option Addr} {n c : Nat} {ps : List (List UInt8)} (h : Ws w A n c ps) : ps.length = n := by have := Sl.len h; simpa using this
theorem Ws.addr {w : World} {A : Option Addr} {n c : Nat} {ps : List (List UInt8)} (h : Ws w A n c ps) (hn : 0 < n) : ∃ b o, A = some ⟨b, o, none⟩ ∧ ∀ j (hj : j < ps.length), w.cell? ⟨b, o + j, none⟩ = some (.string ⟨ps[j].toArray⟩) := by
  obtain ⟨b, o, e, hc⟩ := Sl.addr h hn
  exact ⟨b, o, e, fun j hj => hc j _ (by rw [List.getElem?_map, List.getElem?_eq_getElem hj]; rfl)⟩
theorem Own.onto {w0 w1 w : World} {e : TypeId} {size n : Nat} {v : Value} {xs : List Value} (h : Own w1 w e size v n xs) (hb : Below w0.heap.size w0 w1) : Own w0 w e size v n xs := by
  refine ⟨⟨h.1.1, ?_⟩, hb.trans (h.2.mono hb.size)⟩
  rcases h.1.2 with h' | ⟨g, cap, cur, hv, hg, r⟩
  · exact .inl h'
  · exact .inr ⟨g, cap, cur, hv, Nat.le_trans hb.size hg, r⟩
/-! ### parts of slices -/
theorem Sl.gr {w w' : World} {A : Option Addr} {n c s : Nat} {xs : List Value} (h : Sl w A n c s xs) (g : Gr w w') : Sl w' A n c s xs := h.mono g
set_option maxHeartbeats 2000000 in
theorem refRight_any (l : List UInt8) (w : World) (hl : l.length ≤ 100000) : Calls Tryz.prog 61 #[.string ⟨l.toArray⟩] w fun e w' => e = .returned (.bool (rightL l)) ∧ Gr w w' := by
  have HR := Lib.hid (refPieces_any l w hl)
  have HCT := Lib.hid (fun w => refCount_any l w hl)
  obtain ⟨s, hs⟩ : ∃ s : ByteArray, s = ⟨l.toArray⟩ := ⟨_, rfl⟩
  rw [← hs] at HR ⊢
  simp only [← hs] at HCT
  clear hs
  obtain ⟨b, hb⟩ : ∃ b, b = rightL l := ⟨_, rfl⟩
  rw [← hb]
  have HB : Hid (b = ((piecesL l).all partL && decide ((piecesL l).length ≤ 4) && decide (countR (runesA l) ≤ 24))) := by
    show _ = _
    rw [hb, ← rightRef_eq]
    unfold rightRef
    have hp : (piecesL l).all partR = (piecesL l).all partL := by congr 1; funext x; exact partR_eq x
    rw [hp]
    congr 1
    show (match runesA l with | some rs => decide (rs.length ≤ 24) | none => true) = _
    cases runesA l with
    | none => rfl
    | some rs => exact decide_eq_decide.2 (by show _ ↔ ((rs.length : Nat) : Int) ≤ 24; omega)
  clear hb
  have HLEN := Lib.hid (fun p hp => Nat.le_trans ((pieces_size l).2 p hp) hl)
  have hmx : (piecesL l).length ≤ 100001 := Nat.le_trans (pieces_size l).1 (by omega)
  have hne : 0 < (piecesL l).length := List.length_pos_iff.2 (pieces_ne l)
  have hc1 : -1 ≤ countR (runesA l) := by unfold countR; cases runesA l <;> simp <;> omega
  generalize piecesL l = ps at *
  generalize countR (runesA l) = ct at *
  go_enter Tryz.func61, Tryz.ntmps61
  go_wp2_with fail
  refine HR.out.mono ?_
  rintro e w1 ⟨v, rfl, own⟩
  have G1 := Lib.hid own.below
  obtain ⟨A, c, rfl, sl⟩ := own.slice
  have hm := sl.max
  have hcap := sl.cap
  clear own
  obtain ⟨bk, o, rfl, hcl⟩ := Ws.addr sl hne
  have HC := Lib.hid hcl; clear hcl sl
  go_wp2_with fail
  go_loopw [4] (fun i wr => ∃ k : Nat, k ≤ ps.length ∧ i = .int .i64 k ∧ Gr w1 wr ∧ (ps.take k).all partL = true) (fun i _ => ps.length - (intOf i).toNat)
  case atStart => exact ⟨0, Nat.zero_le _, rfl, Gr.refl _, rfl⟩
  case round =>
    obtain ⟨k, hk, rfl, g, hall⟩ := hrel
    have HAL := Lib.hid hall; clear hall
    have G := Lib.hid g
    by_cases hlt : k < ps.length
    · have hc0 := HC.out k hlt
      have hc : wr.cell? ⟨bk, o + k, none⟩ = some (.string ⟨ps[k].toArray⟩) := (g.cell (p := ⟨bk, o + k, none⟩) (World.block_lt_of_cell? w1 _ hc0)).trans hc0
      have HTK : Hid ((ps.take (k + 1)).all partL = partL ps[k]) := by
        show _ = _
        rw [List.take_succ_eq_append_getElem hlt, List.all_append, HAL.out]
        simp
      have HIN : Hid (partL ps[k] = false → b = false) := fun e => by
        rw [HB.out]
        have : ps.all partL = false := by
          rw [List.all_eq_false]
          exact ⟨ps[k], List.getElem_mem hlt, by rw [e]; decide⟩
        rw [this]; rfl
      have HSM := Lib.hid (refPart_any ps[k] wr (HLEN.out _ (List.getElem_mem hlt)))
      clear hc0 g
      generalize ps[k] = y at *
      obtain ⟨ys, hys⟩ : ∃ ys : ByteArray, ys = ⟨y.toArray⟩ := ⟨_, rfl⟩
      rw [← hys] at hc HSM
      clear hys
      cases hsm : partL y with
      | false =>
        rw [hsm] at HSM
        have HF := Lib.hid (HIN.out hsm)
        clear hsm
        go_wp2_with fail
        refine HSM.out.mono ?_
        rintro e w2 ⟨rfl, g2⟩
        have G2 := Lib.hid g2; clear g2
        go_wp2_with fail
        go_ret
        exact ⟨by rw [HF.out]; rfl, Gr.trans (Gr.trans G1.out G.out) G2.out⟩
      | true =>
        rw [hsm] at HSM HTK
        clear hsm
        go_wp2_with fail
        refine HSM.out.mono ?_
        rintro e w2 ⟨rfl, g2⟩
        have G2 := Lib.hid g2; clear g2
        go_wp2_with fail
        go_roundw
        case rel => exact ⟨k + 1, by omega, by first | trivial | go_num, Gr.trans G.out G2.out, HTK.out⟩
        case measure =>
          show ps.length - ((k : Int) + 1).toNat < ps.length - (k : Int).toNat
          omega
    · have HA : Hid (b = (decide (ps.length ≤ 4) && decide (ct ≤ 24))) := by
        show _ = _
        have := HAL.out
        rw [List.take_of_length_le (by omega)] at this
        rw [HB.out, this]; rfl
      clear g
      by_cases h4 : ps.length ≤ 4
      · have t4 : decide ((ps.length : Int) ≤ 4) = true := decide_eq_true (by omega)
        have HF : Hid (b = decide (ct ≤ 24)) := by show _ = _; rw [HA.out, decide_eq_true h4]; rfl
        go_wp2_with fail
        refine (HCT.out _).mono ?_
        rintro e w2 ⟨rfl, g2⟩
        have G2 := Lib.hid g2; clear g2
        go_wp2_with fail
        go_ret
        exact ⟨by rw [HF.out]; rfl, Gr.trans (Gr.trans G1.out G.out) G2.out⟩
      · have t4 : decide ((ps.length : Int) ≤ 4) = false := decide_eq_false (by omega)
        have HF : Hid (b = false) := by show _ = _; rw [HA.out, decide_eq_false h4]; rfl
        go_wp2_with fail
        go_ret
        exact ⟨by rw [HF.out]; rfl, Gr.trans G1.out G.out⟩
/-- What Split tells. -/
def splitL (l : List UInt8) : List (List UInt8) := if rightL l = true then piecesL l else []
end Go.Proofs.YtfemhhjmfckicaaGreatDoor

/- Names: the reference's Join, and the laws on joined and split texts. No condition. -/
namespace Go.Proofs.YtfemhhjmfckicaaGreatDoor
open Go.RowKit
set_option linter.unusedVariables false
def joinL (ps : List (List UInt8)) : List UInt8 := Lib.join ps [46]
theorem joinL_nil : joinL [] = [] := rfl
theorem joinL_one (x : List UInt8) : joinL [x] = x := Lib.join_one x _
theorem joinTail_snoc (r : List (List UInt8)) (x : List UInt8) : Lib.joinTail [46] (r ++ [x]) = Lib.joinTail [46] r ++ ([46] ++ x) := by simp [Lib.joinTail]
theorem joinL_snoc (xs : List (List UInt8)) (x : List UInt8) (h : xs ≠ []) : joinL (xs ++ [x]) = joinL xs ++ [46] ++ x := by
  match xs, h with
  | y :: r, _ =>
    unfold joinL
    rw [List.cons_append, Lib.join_cons, Lib.join_cons, joinTail_snoc]
    simp
theorem joinTail_len (B : Nat) : ∀ r : List (List UInt8), (∀ p ∈ r, p.length ≤ B) → (Lib.joinTail [46] r).length ≤ r.length * (B + 1)
  | [], _ => by simp [Lib.joinTail]
  | x :: r, h => by
    have ih := joinTail_len B r (fun p hp => h p (List.mem_cons_of_mem _ hp))
    have hx := h x List.mem_cons_self
    have e : Lib.joinTail [46] (x :: r) = ([46] ++ x) ++ Lib.joinTail [46] r := by simp [Lib.joinTail]
    have e2 : (x :: r).length * (B + 1) = r.length * (B + 1) + (B + 1) := by rw [List.length_cons, Nat.add_mul, Nat.one_mul]
    have e3 : ([46] ++ x : List UInt8).length = 1 + x.length := by simp; omega
    rw [e, List.length_append, e3, e2]
    omega
theorem joinL_len (B : Nat) (xs : List (List UInt8)) (h : ∀ p ∈ xs, p.length ≤ B) : (joinL xs).length ≤ xs.length * (B + 1) := by
  match xs, h with
  | [], _ => simp [joinL_nil]
  | y :: r, h =>
    unfold joinL
    have e2 : (y :: r).length * (B + 1) = r.length * (B + 1) + (B + 1) := by rw [List.length_cons, Nat.add_mul, Nat.one_mul]
    rw [Lib.join_cons, List.length_append, e2]
    have := joinTail_len B r (fun p hp => h p (List.mem_cons_of_mem _ hp))
    have := h y List.mem_cons_self
    omega
theorem take_text' (l : List UInt8) (s : ByteArray) (hs : s = ⟨l.toArray⟩) (k : Nat) : s.extract 0 k = ⟨(l.take k).toArray⟩ := by
  subst hs
  apply ByteArray.ext
  simp [ByteArray.extract, ByteArray.copySlice]
/-- What Join tells: a text and a fault. -/
def joinR (ps : List (List UInt8)) : List UInt8 × Nat := if ps.length < 1 ∨ 4 < ps.length then ([], 3) else if ps.all partL = false then ([], 3) else if rightL (joinL ps) = false then ([], 6) else (joinL ps, 0)
def RetJ (w : World) (r : List UInt8 × Nat) (e : Ending) (w' : World) : Prop := e = .returned (.tuple #[strc r.1, .int .i64 (r.2 : Int)]) ∧ Gr w w'
theorem split_pieces : ∀ (k : Nat) (s : ByteArray), Lib.countB s ⟨#[46]⟩ = k → (Lib.splitB ⟨#[46]⟩ 0 k s).map Value.string = (piecesL s.data.toList).map strc := by
  intro k
  induction k with
  | zero =>
    intro s hk
    have hix : Lib.indexB s ⟨#[46]⟩ = Lib.indexByte s.data.toList 46 := Lib.index_one s.data.toList 46
    rcases pieces_index s.data.toList _ rfl with ⟨hi, hp⟩ | ⟨j, hi, hj, hp⟩
    · rw [hp]; rfl
    · rw [hi] at hix
      have := Lib.countB_hit s ⟨#[46]⟩ j (by decide) hix
      omega
  | succ k ih =>
    intro s hk
    have hix : Lib.indexB s ⟨#[46]⟩ = Lib.indexByte s.data.toList 46 := Lib.index_one s.data.toList 46
    rcases pieces_index s.data.toList _ rfl with ⟨hi, hp⟩ | ⟨j, hi, hj, hp⟩
    · rw [hi] at hix
      have := Lib.countB_miss s ⟨#[46]⟩ hix
      omega
    · rw [hi] at hix
      have hc := Lib.countB_hit s ⟨#[46]⟩ j (by decide) hix
      rw [Lib.splitB_hit _ 0 k s j hix, hp, List.map_cons, List.map_cons, ih _ (by omega)]
      have e1 : (⟨#[46]⟩ : ByteArray).size = 1 := rfl
      have hs : s = ⟨s.data.toList.toArray⟩ := by cases s; rfl
      congr 1
      · show Value.string _ = strc _
        unfold strc
        rw [← take_text' _ s hs j]
        rfl
      · rw [e1, drop_text _ s hs (j + 1)]
end Go.Proofs.YtfemhhjmfckicaaGreatDoor

/- Names: a part, as the program says. No condition. -/
namespace Go.Proofs.YtfemhhjmfckicaaGreatDoor
open Go.RowKit
set_option linter.unusedVariables false
theorem size_of (l : List UInt8) : (⟨l.toArray⟩ : ByteArray).size = l.length := by simp [ByteArray.size]
theorem map_add {o : Option Nat} {a b : Nat} : (o.map (· + a)).map (· + b) = o.map (· + (b + a)) := by cases o <;> simp; omega
set_option maxHeartbeats 1000000 in
theorem part_any (l : List UInt8) (w : World) (hl : l.length < 9223372036854775807) : Calls Tryz.prog 96 #[.string ⟨l.toArray⟩] w fun e w' => e = .returned (.bool (partL l)) ∧ Gr w w' := by
  obtain ⟨r, hr⟩ : ∃ r, r = partL l := ⟨_, rfl⟩
  rw [← hr]
  have HR := Lib.hid hr
  obtain ⟨s, hs⟩ : ∃ s : ByteArray, s = ⟨l.toArray⟩ := ⟨_, rfl⟩
  rw [← hs]
  have hsz : s.size = l.length := by rw [hs]; exact size_of l
  have HS := Lib.hid hs; have HSZ := Lib.hid hsz
  clear hr hs hsz
  go_enter Tryz.func96, Tryz.ntmps96
  go_wp2_with fail
  go_loopw [3] (fun n w' => ∃ (pos acc : Nat), w' = w.iter s pos ∧ n = .int .i64 acc ∧ acc ≤ pos ∧ pos ≤ s.size ∧ runesN l = (runesN (l.drop pos)).map (· + acc)) (fun _ w' => s.size - w'.iterPos w.heap.size)
  case atStart => exact ⟨0, 0, rfl, rfl, Nat.le_refl _, Nat.zero_le _, by rw [List.drop_zero]; cases runesN l <;> rfl⟩
  case round =>
    obtain ⟨pos, acc, rfl, rfl, ha, hps, hrn⟩ := hrel
    have HRN := Lib.hid hrn; clear hrn
    have GI : Hid (∀ q, Gr w (w.iter s q)) := fun q => Gr.alloc w (.stringIter s q)
    by_cases hp : pos < s.size
    · have hnx : ∀ ty, (Instr.next (.pointer (some ⟨w.heap.size, 0, none⟩)) true ty).run Tryz.prog (w.iter s pos) = _ := fun ty => run_next_any w s pos ty hp
      have hd := decode_small l pos (by rw [← HSZ.out]; exact hp)
      rw [← HS.out] at hd
      have hne : l.drop pos ≠ [] := by
        intro e
        have := congrArg List.length e
        rw [List.length_drop] at this
        have := HSZ.out
        simp at *
        omega
      have hsm := Lib.hid (small_any (Utf8.decode s pos).1)
      generalize hdec : Utf8.decode s pos = dc at *
      obtain ⟨rn, wd⟩ := dc
      simp only at hd hsm hnx
      cases hb : smallR rn with
      | false =>
        rw [hb] at hd hsm
        rw [if_neg (by decide)] at hd
        have HF : Hid (r = false) := by
          show r = false
          rw [HR.out]
          unfold partL
          rw [HRN.out, runesN_stop hd hne]
          rfl
        clear hd hb hne hdec
        go_wp2_with fail
        refine (hsm.out _).mono ?_
        rintro e w1 ⟨rfl, h1⟩
        subst h1
        go_wp2_with fail
        go_ret
        exact ⟨by rw [HF.out]; rfl, GI.out _⟩
      | true =>
        rw [hb] at hd hsm
        rw [if_pos rfl] at hd
        have hwp : 0 < wd := by have := Lib.decode_width_pos s pos hp; rw [hdec] at this; exact this
        obtain ⟨h3, h4, h5⟩ := runesN_step hd hwp
        rw [List.drop_drop] at h5
        rw [List.length_drop] at h3
        have HN2 : Hid (runesN l = (runesN (l.drop (pos + wd))).map (· + (acc + 1))) := by
          show _ = _
          rw [HRN.out, h5, map_add]
        have hpw : pos + wd ≤ s.size := by rw [HSZ.out]; have := HSZ.out; omega
        have hz := HSZ.out
        clear hd hb hne hdec h3 h5
        go_wp2_with fail
        refine (hsm.out _).mono ?_
        rintro e w1 ⟨rfl, h1⟩
        subst h1
        go_wp2_with fail
        go_roundw
        case rel => exact ⟨pos + wd, acc + 1, rfl, by go_num, by omega, hpw, HN2.out⟩
        case measure => simp; omega
    · have hnx : ∀ ty, (Instr.next (.pointer (some ⟨w.heap.size, 0, none⟩)) true ty).run Tryz.prog (w.iter s pos) = _ := fun ty => run_next_end w s pos ty hp
      have hpe : pos = l.length := by have := HSZ.out; omega
      have HE : Hid (r = (decide (1 ≤ acc) && decide (acc ≤ 8))) := by
        show r = _
        rw [HR.out]
        unfold partL
        rw [HRN.out, hpe, List.drop_length]
        simp [runesN]
      clear hpe
      by_cases h1 : acc < 1
      · have HF : Hid (r = false) := by show r = false; rw [HE.out]; simp; omega
        go_wp2_with fail
        go_ret
        exact ⟨by rw [HF.out]; rfl, GI.out _⟩
      by_cases h8 : acc ≤ 8
      · have HF : Hid (r = true) := by show r = true; rw [HE.out]; simp; omega
        have t8 : decide ((acc : Int) ≤ 8) = true := decide_eq_true (by omega)
        go_wp2_with fail
        go_ret
        exact ⟨by rw [HF.out]; rfl, GI.out _⟩
      · have HF : Hid (r = false) := by show r = false; rw [HE.out]; simp; omega
        have t8 : decide ((acc : Int) ≤ 8) = false := decide_eq_false (by omega)
        go_wp2_with fail
        go_ret
        exact ⟨by rw [HF.out]; rfl, GI.out _⟩
end Go.Proofs.YtfemhhjmfckicaaGreatDoor

/-
  DERIVED: THE SHELF's CONTRACTS AT THIS DUMP, IN PLAIN WORDS (tools/lay-plain.mjs out of 'TrywShelf.lean', which tools/lay-shelf.mjs wrote): THE SAME DECLARATIONS UNDER THE SAME NAMES: 'import', 'namespace', 'open', 'def', 'theorem' AND NOTHING ELSE: no command of the shelf's: FOR A HAND-IN. Each laying: the table of numbers ('.._ren') and one theorem, a field a fact of the dump's own or the kernel's comparison; each contract: ONE APPLICATION.
-/
namespace Go.Proofs
open Go.Shelf
def Tryz.lays196_ren : Go.Shelf.Ren := ⟨fun | 196 => 123 | 259 => 155 | n => n, fun | 9 => 9 | 4 => 4 | 3 => 3 | 5 => 5 | 12 => 12 | 119 => 184 | 0 => 0 | 46 => 86 | 139 => 187 | 138 => 186 | 53 => 96 | n => n, fun | 3 => 0 | 4 => 1 | n => n⟩
theorem Tryz.lays196 : Go.Proofs.Lays.n196 Tryz.prog Tryz.lays196_ren := {
  mixed := by kernel_rfl
  f196 := Tryz.func123.trans (congrArg some (by kernel_rfl))
  f259 := Tryz.func155.trans (congrArg some (by kernel_rfl))
  t0 := Tryz.underlying0
  a0 := Tryz.isAgg0
  z0 := Tryz.sizeOf0
  v0 := Tryz.zeroValue0
  t3 := Tryz.underlying3
  a3 := Tryz.isAgg3
  z3 := Tryz.sizeOf3
  v3 := Tryz.zeroValue3
  t4 := Tryz.underlying4
  a4 := Tryz.isAgg4
  z4 := Tryz.sizeOf4
  v4 := Tryz.zeroValue4
  t5 := Tryz.underlying5
  a5 := Tryz.isAgg5
  z5 := Tryz.sizeOf5
  v5 := Tryz.zeroValue5
  t9 := Tryz.underlying9
  a9 := Tryz.isAgg9
  z9 := Tryz.sizeOf9
  v9 := Tryz.zeroValue9
  t12 := Tryz.underlying12
  a12 := Tryz.isAgg12
  z12 := Tryz.sizeOf12
  v12 := Tryz.zeroValue12
  t46 := Tryz.underlying86
  a46 := Tryz.isAgg86
  z46 := Tryz.sizeOf86
  v46 := Tryz.zeroValue86
  t53 := Tryz.underlying96
  a53 := Tryz.isAgg96
  z53 := Tryz.sizeOf96
  v53 := Tryz.zeroValue96
  t119 := Tryz.underlying184
  a119 := Tryz.isAgg184
  z119 := Tryz.sizeOf184
  t138 := Tryz.underlying186
  a138 := Tryz.isAgg186
  z138 := Tryz.sizeOf186
  v138 := Tryz.zeroValue186
  t139 := Tryz.underlying187
  a139 := Tryz.isAgg187
  z139 := Tryz.sizeOf187
  v139 := Tryz.zeroValue187
  g3 := by kernel_rfl
  g4 := by kernel_rfl }
open Go.RowKit Go.Lib in
theorem Tryz.utf8_ValidString (s : ByteArray) (w : World) (hs : s.size ≤ 9223372036854775807) (hT : Lib.Utf8Tabs 0 1 w) :
    Calls Tryz.prog 123 #[.string s] w fun e w' => e = .returned (.bool (Lib.validD s.data.toList)) ∧ Below w.heap.size w w' := Any.utf8_ValidString Tryz.lays196 s w hs hT
end Go.Proofs
