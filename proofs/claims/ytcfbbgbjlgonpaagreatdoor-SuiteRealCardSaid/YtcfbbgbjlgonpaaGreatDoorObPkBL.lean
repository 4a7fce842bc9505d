/- Own texts of this claim, one behind the other. No condition. -/
import Derived.Test.YtcfbbgbjlgonpaaGreatDoorObPkAE
import Derived.Test.YtcfbbgbjlgonpaaGreatDoorObPkAG
import Derived.Test.YtcfbbgbjlgonpaaGreatDoorObPkAH
import Derived.Test.YtcfbbgbjlgonpaaGreatDoorObPkAI
import Derived.Test.YtcfbbgbjlgonpaaGreatDoorObPkBK
import Derived.StillTailTactics

/- ObRefT, ObRefU, ObRefM: one text. No condition. -/
namespace Go.Proofs.YtcfbbgbjlgonpaaGreatDoor
open Go.RowKit
set_option linter.unusedVariables false

/-! ### the reference's SHA-256: Pad -/
def padTo7 (k : Nat) : List UInt8 := 128 :: List.replicate k 0
theorem padTo7_len (k : Nat) : (padTo7 k).length = k + 1 := by simp [padTo7]
theorem padTo7_snoc (k : Nat) : padTo7 k ++ [0] = padTo7 (k + 1) := by simp [padTo7, List.replicate_succ']
theorem padTo7_all (n : Nat) : padTo7 (padZ n) ++ be (n * 8) 8 = padB n := by simp [padTo7, padB]
set_option maxHeartbeats 1000000 in
theorem refPad7_any (n : Nat) (w : World) (hn : n ≤ 60000) :
    Calls Tryz.prog 179 #[.int .i64 (n : Int)] w (RetBs w (padB n)) := by
  have O0 : Hid (Own w (w.alloc (.cells #[.int .u8 128] 5)) 5 1 (.slice (some ⟨w.heap.size, 0, none⟩) 1 1) (padTo7 0).length ((padTo7 0).map u8c)) :=
    (Blk.new w 5 #[.int .u8 128]).own (Nat.le_refl _) ((Below.refl _ _).alloc (Nat.le_refl _) _) (by simp) (by simp [maxLen])
  have hz := padZ_lt n
  have h56 : (n + (padZ n + 1)) % 64 = 56 := by unfold padZ; omega
  have hne : ∀ k, k < padZ n → (n + (k + 1)) % 64 ≠ 56 := by intro k hk; unfold padZ at hk; omega
  have H56 := Lib.hid h56; have HNE := Lib.hid hne; clear h56 hne
  go_enter Tryz.func179, Tryz.ntmps179
  go_wp2_with fail
  go_loopw [3] (fun v wr => ∃ (k : Nat) (A' : Option Addr) (c' : Nat), v = .slice A' (k + 1) c' ∧ k ≤ padZ n ∧ Own w wr 5 1 (.slice A' (k + 1) c') (k + 1) ((padTo7 k).map u8c)) (fun v _ => 100 - slN v)
  case atStart => exact ⟨0, some ⟨w.heap.size, 0, none⟩, 1, rfl, Nat.zero_le _, O0.out⟩
  case round =>
    obtain ⟨k, A1, c1, rfl, hk, o1⟩ := hrel
    have O1 := Lib.hid o1; clear o1
    by_cases hlt : k < padZ n
    · have ht : (((n : Int) + ((k : Int) + 1)) % 64 != 56) = true := by
        have := HNE.out k hlt
        rw [bne_iff_ne]; omega
      go_wp2_with (at_builtin; refine wpList_push rfl (.tmp 17) (.tmp 18) 28 rfl tBytes rfl O1.out #[.int .u8 0] rfl rfl (one_int _ _) (by omega) ?_; intro v2 w2 own2; obtain ⟨A2, c2, rfl, sl2⟩ := own2.slice; have O2 : Hid (Own w w2 5 1 (.slice A2 (k + 1 + 1) c2) (k + 1 + 1) ((padTo7 (k + 1)).map u8c)) := (by rw [← padTo7_snoc, List.map_append]; exact own2); clear own2 sl2)
      first | go_roundw | skip
      case rel => exact ⟨k + 1, A2, c2, rfl, by omega, O2.out⟩
      case measure => simp [slN]; omega
    · have hk2 : padZ n = k := by omega
      have ht : (((n : Int) + ((k : Int) + 1)) % 64 != 56) = false := by
        have := H56.out
        rw [hk2] at this
        rw [bne_eq_false_iff_eq]; omega
      have HK2 := Lib.hid hk2; clear hk2
      go_wp2_with (first
        | (go_at_call 41; refine (show Calls Tryz.prog 41 #[.int .u64 ((n : Int) * 8), .int .i64 8] wr (RetBs wr (be (n * 8) 8)) from (by have := refPut_yes (n * 8) 8 wr (by omega) (by omega) (by omega); simpa using this)).mono ?_; rintro e w2 ⟨v2, rfl, own2⟩; obtain ⟨A2, c2, rfl, sl2⟩ := own2.slice; have O2 := Lib.hid (O1.out.mono own2.below); have S2 := Lib.hid sl2; clear own2 sl2)
        | (at_builtin; refine wpList_cat rfl (.tmp 20) (.tmp 24) 28 rfl tBytes rfl O2.out rfl S2.out (one_bytes _) (by rw [be_length]; omega) ?_; intro v3 w3 own3; have O3 := Lib.hid own3; clear own3))
      go_ret
      refine ⟨_, rfl, ?_⟩
      have := O3.out
      rw [← List.map_append, ← HK2.out, padTo7_all] at this
      have e : padZ n + 1 + (be (n * 8) 8).length = (padB n).length := by rw [padB_len, be_length]
      rw [e] at this
      exact this

/-! ### Table, Sum -/
def kArr : Array Value := (kAll.map u32c).toArray
theorem kArr_size : kArr.size = 64 := by simp [kArr, kAll]
theorem kArr_tab : Tab64 kArr := by
  refine ⟨kArr_size, fun t ht => ?_⟩
  unfold kArr kAll
  rw [List.getElem?_toArray, List.getElem?_map, List.getElem?_map, List.getElem?_range ht]
  rfl
theorem kArr_one : kArr.all (·.oneCell') = true := all_one_words kAll
theorem kArr_lit : kArr = #[.int .u32 1116352408, .int .u32 1899447441, .int .u32 3049323471, .int .u32 3921009573, .int .u32 961987163, .int .u32 1508970993, .int .u32 2453635748, .int .u32 2870763221, .int .u32 3624381080, .int .u32 310598401, .int .u32 607225278, .int .u32 1426881987, .int .u32 1925078388, .int .u32 2162078206, .int .u32 2614888103, .int .u32 3248222580, .int .u32 3835390401, .int .u32 4022224774, .int .u32 264347078, .int .u32 604807628, .int .u32 770255983, .int .u32 1249150122, .int .u32 1555081692, .int .u32 1996064986, .int .u32 2554220882, .int .u32 2821834349, .int .u32 2952996808, .int .u32 3210313671, .int .u32 3336571891, .int .u32 3584528711, .int .u32 113926993, .int .u32 338241895, .int .u32 666307205, .int .u32 773529912, .int .u32 1294757372, .int .u32 1396182291, .int .u32 1695183700, .int .u32 1986661051, .int .u32 2177026350, .int .u32 2456956037, .int .u32 2730485921, .int .u32 2820302411, .int .u32 3259730800, .int .u32 3345764771, .int .u32 3516065817, .int .u32 3600352804, .int .u32 4094571909, .int .u32 275423344, .int .u32 430227734, .int .u32 506948616, .int .u32 659060556, .int .u32 883997877, .int .u32 958139571, .int .u32 1322822218, .int .u32 1537002063, .int .u32 1747873779, .int .u32 1955562222, .int .u32 2024104815, .int .u32 2227730452, .int .u32 2361852424, .int .u32 2428436474, .int .u32 2756734187, .int .u32 3204031479, .int .u32 3329325298] := by kernel_rfl
theorem wpStill_load_row {P : Program} {ops : Array Oper} {w : World} {Q : Act → Prop} {a : Act} {o : Oper} {rest : List Oper} (hgd : o.guard = none) (ty : TypeId) (x : Operand) (ho : o.op = .load ty x)
    (g : Nat) (hx : a.eval x = .pointer (some ⟨g, 0, none⟩)) (t : TypeId) (cs : Array Value) (fr : Nat × Nat) (d : TypeDesc) (hg : w.heap[g]? = some (.cells cs t fr))
    (hu : P.underlying ty = some d) (hd : (match d with | .struct _ | .array _ _ => true | _ => false) = true) (hi : (P.info? ty).map (·.size) = some cs.size)
    (h : wpStill P ops w Q rest (a.put o.dst (.agg cs))) : wpStill P ops w Q (o :: rest) a :=
  wpStill_step fun K hK => by
    rw [if_pos (by simp [Region.wanted, hgd])]
    unfold Oper.still execOp
    simp only [ho, hx, Instr.loadAt, Instr.sureAddr, Sem.run_bind, Sem.run_pure, Result.andThen_ok, run_loadVar_row w g t ty cs fr d hg hu hd hi, Oper.stillUpon]
    exact ⟨trivial, hK _ h⟩
theorem run_part64 (b o L c t : Nat) (h : 64 * t + 64 ≤ c) (w : World) : (Instr.slice 28 (.slice (some ⟨b, o, none⟩) L c) (some (.int .i64 (64 * (t : Int)))) (some (.int .i64 (64 * (t : Int) + 64))) none).run Tryz.prog w = .ok (.slice (some ⟨b, o + 64 * t, none⟩) 64 (c - 64 * t)) w := by
  obtain ⟨i, hi, hz, hsz, hby⟩ := info_parts tBytes.info
  have he : Tryz.prog.elem 28 = 5 := by simp [Program.elem, tBytes.und]
  have hu : Tryz.prog.underlying 28 = some (.slice (Tryz.prog.elem 28)) := by rw [he]; exact tBytes.und
  rw [run_slice_lh w 28 (some ⟨b, o, none⟩) L c hu .i64 .i64 (64 * (t : Int)) (64 * (t : Int) + 64) (by omega) (by omega) (by omega)]
  have e1 : (64 * (t : Int)).toNat = 64 * t := by omega
  have e2 : (64 * (t : Int) + 64).toNat - 64 * t = 64 := by omega
  have e3 : ¬ c - 64 * t = 0 := by omega
  simp [sizeOf, typeInfo, he, hi, Result.andThen, sliced, hsz, e1, e2, add_flat]
  omega
set_option maxRecDepth 100000 in
set_option maxHeartbeats 1000000 in
theorem refTable_any (w : World) : Calls Tryz.prog 178 #[] w fun e w' => e = .returned (.agg kArr) ∧ Below w.heap.size w w' := by
  have HL := Lib.hid kArr_lit
  have HS := Lib.hid kArr_size
  have HO := Lib.hid kArr_one
  have hb : Hid (Below w.heap.size w ((w.alloc (.cells (reps 64 (.int .u32 0)).toArray 187)).setRow w.heap.size kArr)) := below_row ((Below.refl _ _).alloc (Nat.le_refl _) _) (Nat.le_refl _) _
  have HN : Hid (((w.alloc (.cells (reps 64 (.int .u32 0)).toArray 187)).setRow w.heap.size kArr).heap[w.heap.size]? = some (.cells kArr 187 (0, 0))) := setRow_heap _ w.heap.size _ _ _ _ (heap_alloc_new w _)
  go_enter Tryz.func178, Tryz.ntmps178
  go_wp2_with (rw [← HL.out]; refine wpList_store_row rfl 187 (.tmp 0) (.tmp 1) rfl w.heap.size kArr rfl rfl 187 (reps 64 (.int .u32 0)).toArray (by exact heap_alloc_new w _) (by rw [HS.out]; kernel_rfl) (by rw [HS.out]; rfl) HO.out ?_)
  exact bodyPost_ret (v := .agg kArr) (results_cell_row Tryz.results178 _ _ w.heap.size 187 _ (0, 0) _ rfl HN.out Tryz.underlying187 rfl (by rw [HS.out]; kernel_rfl)) rfl ⟨rfl, hb.out⟩
end Go.Proofs.YtcfbbgbjlgonpaaGreatDoor
namespace Go.Proofs.YtcfbbgbjlgonpaaGreatDoor
open Go.RowKit
set_option linter.unusedVariables false

set_option maxRecDepth 100000 in
set_option maxHeartbeats 2000000 in
theorem refSum_any (A : Option Addr) (n c : Nat) (l : List UInt8) (w : World) (h : Bs w A n c l) (hn : n ≤ 50000) :
    Calls Tryz.prog 158 #[.slice A n c] w (RetBs w (sumL l)) := by
  have hl : l.length = n := by have := Sl.len h; simpa using this
  have HH := Lib.hid h; have HLN := Lib.hid hl; clear h hl
  have HKS := Lib.hid kArr_size; have HKO := Lib.hid kArr_one
  go_enter Tryz.func158, Tryz.ntmps158
  go_wp2_with fail
  refine (refTable_any w).mono ?_
  rintro e w1 ⟨rfl, b1⟩
  obtain ⟨w2, hw2⟩ : ∃ w2, w2 = (w1.alloc (.cells (reps 64 (.int .u32 0)).toArray 187)).setRow w1.heap.size kArr := ⟨_, rfl⟩
  have D3 : Hid (Blk w2 w1.heap.size 187 kArr.toList) := by rw [hw2]; exact setRow_heap (w1.alloc _) w1.heap.size _ _ _ _ (heap_alloc_new w1 _)
  have HZ2 : Hid (w2.heap.size = w1.heap.size + 1) := by rw [hw2]; show _ = _; simp [World.setRow]
  have HB2 : Hid (Below w.heap.size w w2) := by rw [hw2]; exact below_row (b1.alloc b1.size _) b1.size _
  have HZ1 := Lib.hid b1.size
  have HW2 := Lib.hid hw2; clear hw2 b1
  go_wp2_with (first
    | (refine wpList_store_rowW rfl 187 (.tmp 3) (.tmp 9) rfl w1.heap.size kArr rfl rfl 187 (reps 64 (.int .u32 0)).toArray (by exact heap_alloc_new w1 _) (by rw [HKS.out]; kernel_rfl) (by rw [HKS.out]; rfl) HKO.out w2 (by exact HW2.out.symm) ?_)
    | fail)
  obtain ⟨w3, hw3⟩ : ∃ w3, w3 = w2.alloc (.cells #[.int .u32 1779033703, .int .u32 3144134277, .int .u32 1013904242, .int .u32 2773480762, .int .u32 1359893119, .int .u32 2600822924, .int .u32 528734635, .int .u32 1541459225] 174) := ⟨_, rfl⟩
  have AL : Hid (Below w2.heap.size w2 w3) := by rw [hw3]; exact (Below.refl _ _).alloc (Nat.le_refl _) _
  have HB3 : Hid (Below w.heap.size w w3) := below_both HB2.out AL.out
  have E3 : Hid (Blk w3 w1.heap.size 187 kArr.toList) := D3.out.mono AL.out
  have E4 : Hid (Blk w3 w2.heap.size 174 (hFold (allB l) (offs 0)).cells) := by
    rw [hw3]
    show Blk _ _ _ H0.cells
    rw [H0_cells]
    exact Blk.new w2 _ _
  have HZ3 : Hid (w3.heap.size = w2.heap.size + 1) := by rw [hw3]; show _ = _; simp
  rw [← hw3]
  clear hw3 D3 AL HW2
  refine (refPad7_any n w3 (by omega)).mono ?_
  rintro e w4 ⟨v4, rfl, o4⟩
  obtain ⟨A4, c4, rfl, s4⟩ := o4.slice
  have S4 := Lib.hid s4; have B4 := Lib.hid o4.below; clear o4 s4
  have hal := allB_len l
  have hpz := padZ_lt l.length
  have hpl := padB_len n
  have hln := HLN.out
  rw [hln] at hal hpz
  obtain ⟨m, hm⟩ : ∃ m, (allB l).length = 64 * m := ⟨_, (allB_whole l).symm⟩
  have hm1 : 1 ≤ m := by omega
  have hm2 : m ≤ 1000 := by omega
  have HSU : Hid (sumL l = outB (hFold (allB l) (offs m)).ws) := by unfold sumL; rw [hm, Nat.mul_div_cancel_left _ (by decide)]; exact rfl
  have HAB : Hid (l ++ padB n = allB l) := by unfold allB; rw [hln]; exact rfl
  have hnp : n + (padB n).length ≤ 60000 := by omega
  have HM := Lib.hid hm
  clear hal hpz hpl hln hm
  go_wp2_with fail
  refine (join_any A A4 n _ c c4 l (padB n) _ (HH.out.mono (below_both HB3.out B4.out)) S4.out (by omega)).mono ?_
  rintro e w5 ⟨v5, rfl, o5⟩
  rw [HAB.out, HM.out] at o5
  rcases o5.1.2 with ⟨_, h0⟩ | ⟨g5, c5, cur5, rfl, hg5, _⟩
  · omega
  have hb5 := o5.below
  obtain ⟨A5', c5', e5, s5⟩ := o5.slice
  injection e5 with e51 e52 e53
  subst e51 e53
  have hcap5 := Sl.cap s5
  have hmax5 := Sl.max s5
  have S5 : Hid (Bs w5 (some ⟨g5, 0, none⟩) (64 * m) c5 (allB l)) := s5
  have HB35 : Hid (Below w3.heap.size w3 w5) := below_both B4.out hb5
  have HB5 : Hid (Below w.heap.size w w5) := below_both HB3.out HB35.out
  have E35 : Hid (Blk w5 w1.heap.size 187 kArr.toList) := E3.out.mono HB35.out
  have E45 : Hid (Blk w5 w2.heap.size 174 (hFold (allB l) (offs 0)).cells) := E4.out.mono HB35.out
  have LG : Hid (w2.heap.size < g5) := by
    have h1 := (o5.1.lt g5 rfl).1; have h2 := B4.out.size; have h3 := HZ3.out; show _ < _; omega
  have L5 : Hid (w2.heap.size < w5.heap.size) := by have h2 := HB35.out.size; have h3 := HZ3.out; show _ < _; omega
  have L12 : Hid (w1.heap.size < w2.heap.size) := by have := HZ2.out; show _ < _; omega
  have LW : Hid (w.heap.size ≤ w2.heap.size) := HB2.out.size
  clear o5 hb5 s5 S4 B4 E3 E4 HZ3 HZ2 HAB HM HB35
  generalize hb1 : w1.heap.size = g1 at *
  generalize hb2 : w2.heap.size = g2 at *
  clear hb1 hb2
  generalize allB l = T at *
  go_wp2_with fail
  go_loopw [6] (fun i wr => ∃ t : Nat, t ≤ m ∧ i = .int .i64 (64 * (t : Int)) ∧ Blk wr g2 174 (hFold T (offs t)).cells ∧ (∀ b, b < w5.heap.size → b ≠ g2 → wr.heap[b]? = w5.heap[b]?) ∧ Below w.heap.size w wr ∧ w5.heap.size ≤ wr.heap.size) (fun i _ => 64 * m - (intOf i).toNat)
  case atStart => exact ⟨0, by omega, rfl, E45.out, fun _ _ _ => rfl, HB5.out, Nat.le_refl _⟩
  case round =>
    obtain ⟨t, ht, rfl, hblk, hsame, hbel, hsz⟩ := hrel
    have BK := Lib.hid hblk; have HSM := Lib.hid hsame; have BE := Lib.hid hbel
    clear hblk hsame hbel
    by_cases hlt : t < m
    · have hsn : hFold T (offs (t + 1)) = blockH (hFold T (offs t)) ((T.drop (64 * t)).take 64) := by rw [offs_succ, hFold_snoc]
      have HSN := Lib.hid hsn; clear hsn
      have K3 : Hid (Blk wr g1 187 kArr.toList) := (HSM.out g1 (by have := L12.out; have := L5.out; omega) (by have := L12.out; omega)).trans E35.out
      have hSx : Bs wr (some ⟨g5, 64 * t, none⟩) 64 (c5 - 64 * t) ((T.drop (64 * t)).take 64) := by
        have h1 := Sl.part S5.out (lo := 64 * t) (m := 64) (by omega)
        rw [Nat.zero_add] at h1
        refine Sl.keepB h1 (fun b o e => ?_)
        injection e with e
        injection e with e1 e2
        subst e1
        obtain ⟨b', o', e', hc'⟩ := S5.out.addr (by omega)
        cases e'
        exact HSM.out g5 (World.block_lt_of_cell? w5 _ (hc' 0 (by omega))) (by have := LG.out; omega)
      have SX := Lib.hid hSx; clear hSx
      have hpart := run_part64 g5 0 (64 * m) c5 t (by omega)
      rw [Nat.zero_add] at hpart
      generalize hFold T (offs t) = r at *
      have HSZ : Hid (r.cells.toArray.size = 8) := rfl
      have GW := with_any kArr kArr_tab r (some ⟨g5, 64 * t, none⟩) (c5 - 64 * t) ((T.drop (64 * t)).take 64) wr.drew (SX.out.mono (Below.refl _ _).drew)
      generalize hX : (T.drop (64 * t)).take 64 = X at *
      have HGW := Lib.hid GW; clear GW hX
      have p0 : (0 : Int) ≤ 64 * (t : Int) := by omega
      have q0 : 64 * (t : Int) + 64 ≤ 9223372036854775807 := by omega
      have t1 : 64 * (t : Int) + 64 ≤ 64 * (m : Int) := by omega
      go_wp2_with fail
      refine wp_region_still_tail 7 (by kernel_rfl) (by kernel_rfl) ?_
      simp only [List.take_succ_cons, List.take_zero, List.drop_succ_cons, List.drop_zero]
      refine wpStill_load_row rfl 187 (.tmp 3) rfl g1 rfl 187 kArr (0, 0) _ K3.out Tryz.underlying187 rfl (by rw [HKS.out]; kernel_rfl) ?_
      refine wpStill_load_row rfl 174 (.tmp 4) rfl g2 rfl 174 r.cells.toArray (0, 0) _ BK.out Tryz.underlying174 rfl (by rw [HSZ.out]; kernel_rfl) ?_
      have hw1 : IntKind.i64.wrap (64 * (t : Int) + 64) = 64 * (t : Int) + 64 := IntWalk.i64_in _ (by omega)
      repeat still_step
      refine wpStill_nil ?_
      clear hw1 hpart p0 q0 t1
      change wpList _ _ _ _ _ wr.drew
      obtain ⟨r', hr'⟩ : ∃ r', r' = blockH r X := ⟨_, rfl⟩
      rw [← hr'] at HSN HGW
      have HSZ' : Hid (r'.cells.toArray.size = 8) := rfl
      have HONE : Hid (r'.cells.toArray.all (·.oneCell') = true) := all_one_words r'.ws
      clear hr'
      go_wp2_with (first
        | (go_at_call 180; refine HGW.out.mono ?_; rintro e w6 ⟨rfl, b6⟩; have B6 : Hid (Below wr.heap.size wr w6) := ((Below.refl wr.heap.size wr).drew).trans b6; have BK6 : Hid (Blk w6 g2 174 r.cells) := BK.out.mono B6.out; clear b6)
        | (refine wpList_store_row rfl 174 (.tmp 4) (.tmp 30) rfl g2 r'.cells.toArray rfl rfl 174 r.cells.toArray BK6.out (by rw [HSZ'.out]; kernel_rfl) (by rw [HSZ'.out, HSZ.out]) HONE.out ?_))
      have F1 : Hid (Blk (w6.setRow g2 r'.cells.toArray) g2 174 (hFold T (offs (t + 1))).cells) := by rw [HSN.out]; exact setRow_heap w6 g2 _ _ _ _ BK6.out
      have F2 : Hid (∀ b, b < w5.heap.size → b ≠ g2 → (w6.setRow g2 r'.cells.toArray).heap[b]? = w5.heap[b]?) := fun b h1 h2 => (setRow_other w6 g2 b _ h2).trans ((B6.out.block b (by omega)).trans (HSM.out b h1 h2))
      have F3 : Hid (Below w.heap.size w (w6.setRow g2 r'.cells.toArray)) := below_row (below_both BE.out B6.out) LW.out _
      have F4 : Hid (w5.heap.size ≤ (w6.setRow g2 r'.cells.toArray).heap.size) := by have := B6.out.size; show _ ≤ _; simp [World.setRow]; omega
      go_roundw
      case rel => exact ⟨t + 1, by omega, by first | go_num | (congr 1; omega), F1.out, F2.out, F3.out, F4.out⟩
      case measure => simp [intOf]; omega
    · obtain rfl : t = m := by omega
      generalize hFold T (offs t) = r at *
      have HWL : Hid (r.ws.length = 8) := rfl
      have HOL := Lib.hid (fun k => outB_len (r.ws.take k))
      have HOS := Lib.hid (fun k hk => outB_snoc r.ws k hk)
      have HCE : Hid (∀ k, k < 8 → r.cells[k]? = some (.int .u32 (un (r.ws.getD k 0)))) := by
        intro k hk
        have hl8 : r.ws.length = 8 := rfl
        unfold H8.cells
        rw [List.getElem?_map, List.getElem?_eq_getElem (by omega), List.getD_eq_getElem?_getD, List.getElem?_eq_getElem (by omega)]
        rfl
      have HG2 : Hid (g2 < wr.heap.size) := BK.out.lt
      obtain ⟨wo, rfl⟩ : ∃ wo : World, wo = wr := ⟨_, rfl⟩
      go_wp2_with fail
      go_loopw [7, 8] (fun v i wr => ∃ k : Nat, k ≤ 8 ∧ i = .int .i64 k ∧ Own wo wr 5 1 v (outB (r.ws.take k)).length ((outB (r.ws.take k)).map u8c)) (fun _ i _ => 8 - (intOf i).toNat)
      case atStart => exact ⟨0, by omega, rfl, Own.nil _ _ _⟩
      case round =>
        obtain ⟨k, hk, rfl, hown⟩ := hrel
        by_cases hlt : k < 8
        · have HSN := Lib.hid (HOS.out k (by rw [HWL.out]; exact hlt))
          have hol : (outB (r.ws.take k)).length ≤ 32 := by rw [HOL.out k]; have := List.length_take_le k r.ws; omega
          have hck : wr.cell? ⟨g2, k, none⟩ = some (.int .u32 (un (r.ws.getD k 0))) := by
            rw [hown.below.cell (p := ⟨g2, k, none⟩) HG2.out, BK.out.cell]; exact HCE.out k hlt
          generalize r.ws.getD k 0 = x at *
          generalize outB (r.ws.take k) = U at *
          have HP := Lib.hid (show Calls Tryz.prog 41 #[.int .u64 (un x), .int .i64 4] wr (RetBs wr (be x.toNat 4)) from refPut_yes x.toNat 4 wr (by have := u32_lt x; omega) (by omega) (by omega))
          have r3 : IntKind.u64.wrap (un x) = un x := wrap_u64 (un_nn x) (by have := un_lt x; omega)
          have HBL := Lib.hid (be_length 4 x.toNat)
          have HO := Lib.hid hown; clear hown
          have p0 : (0 : Int) ≤ (k : Int) := by omega
          have q0 : (k : Int) < 8 := by omega
          go_wp2_with (first
            | (go_at_call 41; refine HP.out.mono ?_; rintro e w7 ⟨v7, rfl, o7⟩; obtain ⟨A7, c7, rfl, s7⟩ := o7.slice; have HO7 := Lib.hid (HO.out.mono o7.below); have hl4 : (be x.toNat 4).length ≤ 4 := (by rw [HBL.out]; omega); have HS7 := Lib.hid s7; clear o7 s7)
            | (at_builtin; refine wpList_cat rfl (.tmp 35) (.tmp 40) 28 rfl tBytes rfl HO7.out rfl HS7.out (one_bytes _) (by omega) ?_; intro v8 w8 o8))
          have HF : Hid (Own wo w8 5 1 v8 (outB (r.ws.take (k + 1))).length ((outB (r.ws.take (k + 1))).map u8c)) := by
            rw [HSN.out, List.length_append, List.map_append]; exact o8
          clear o8 r3
          go_roundw
          case rel => exact ⟨k + 1, by omega, by go_num, HF.out⟩
          case measure => simp [intOf]; omega
        · obtain rfl : k = 8 := by omega
          have hown2 : Own w wr 5 1 u7 (sumL l).length ((sumL l).map u8c) := by
            rw [HSU.out]
            rw [List.take_of_length_le (by rw [HWL.out]; omega)] at hown
            exact hown.base BE.out
          have HF := Lib.hid hown2; clear hown hown2
          go_wp2_with fail
          go_ret
          exact ⟨_, rfl, HF.out⟩
end Go.Proofs.YtcfbbgbjlgonpaaGreatDoor
namespace Go.Proofs.YtcfbbgbjlgonpaaGreatDoor
open Go.RowKit
set_option linter.unusedVariables false

/-! ### the reference's mac and kdf -/
theorem refKey_any (A : Option Addr) (n c : Nat) (l : List UInt8) (w : World) (h : Bs w A n c l) (hn : n ≤ 50000) :
    Calls Tryz.prog 181 #[.slice A n c] w (RetBs w (keyL l)) := by
  have hl : l.length = n := by have := Sl.len h; simpa using this
  have HH := Lib.hid h; clear h
  by_cases h64 : 64 < n
  · have e1 : keyL l = padL (sumL l) 64 := by unfold keyL; rw [if_pos (by omega)]
    rw [e1]
    obtain ⟨M, hM⟩ : ∃ M, M = sumL l := ⟨_, rfl⟩
    rw [← hM]
    have HM := Lib.hid hM; clear hM e1
    go_enter Tryz.func181, Tryz.ntmps181
    go_wp2_with (first
      | (go_at_call 158; refine (refSum_any A n c l _ HH.out (by omega)).mono ?_; rintro e w1 ⟨v1, rfl, own1⟩; rw [← HM.out] at own1; obtain ⟨A1, k1, rfl, sl1⟩ := own1.slice; have O1 := Lib.hid own1; have S1 := Lib.hid sl1; clear own1 sl1)
      | (go_at_call 39; refine (refPad_yes A1 _ k1 M 64 _ S1.out (by omega) (by omega)).mono ?_; rintro e w2 ⟨v2, rfl, own2⟩; have O2 := Lib.hid own2; clear own2))
    go_ret
    exact ⟨_, rfl, O2.out.base O1.out.below⟩
  · have e1 : keyL l = padL l 64 := by unfold keyL; rw [if_neg (by omega)]
    rw [e1]
    go_enter Tryz.func181, Tryz.ntmps181
    go_wp2_with (go_at_call 39; refine (refPad_yes A n c l 64 _ HH.out (by omega) (by omega)).mono ?_; rintro e w2 ⟨v2, rfl, own2⟩; have O2 := Lib.hid own2; clear own2)
    go_ret
    exact ⟨_, rfl, O2.out⟩

theorem xorRep_at (k : List UInt8) (x : UInt8) (i : Nat) (hk : i < k.length) (h64 : i < 64) : bits .xor .u8 (bAt k i) (x.toNat : Int) = bAt (xorL k (List.replicate 64 x)) i := by
  rw [← xor_byte k (List.replicate 64 x) i hk (by simpa using h64)]
  congr 1
  rw [bAt, List.getD_eq_getElem?_getD, List.getElem?_replicate, if_pos h64]
  rfl
theorem xorRep_take (L : List UInt8) (k : Nat) (h : k < L.length) : (L.take k).map u8c ++ [.int .u8 (bAt L k)] = (L.take (k + 1)).map u8c := (map_take_cell L k h).symm
set_option maxHeartbeats 1000000 in
theorem over_any (A : Option Addr) (n c : Nat) (l : List UInt8) (x : UInt8) (xi : Int) (hx : xi = (x.toNat : Int)) (w : World) (h : Bs w A n c l) (hn : n ≤ 50000) :
    Calls Tryz.prog 159 #[.slice A n c, .int .u8 xi] w (RetBs w (keyX l x)) := by
  have HKEY := Lib.hid (refKey_any A n c l w h hn); clear h
  have hlen := keyX_len l x
  have hxe : ∀ i, i < 64 → bits .xor .u8 (bAt (keyL l) i) xi = bAt (keyX l x) i := fun i hi => by rw [hx]; exact xorRep_at _ _ _ (by rw [keyL_len]; exact hi) hi
  have hkl := keyL_len l
  generalize keyX l x = X at *
  generalize keyL l = K at *
  have HLEN := Lib.hid hlen; have HXE := Lib.hid hxe; have HKL := Lib.hid hkl; clear hlen hxe hkl hx
  go_enter Tryz.func159, Tryz.ntmps159
  go_wp2_with fail
  refine HKEY.out.mono ?_
  rintro e w1 ⟨v1, rfl, own1⟩
  rw [HKL.out] at own1
  obtain ⟨A1, k1, rfl, sl1⟩ := own1.slice
  obtain ⟨b1, o1, rfl, hc1⟩ := Bs.addr sl1 (by omega)
  have cap1 := sl1.cap
  have HC1 := Lib.hid hc1; have B1 := Lib.hid own1.below; clear own1 sl1 hc1
  go_wp2_with fail
  go_loopw [5, 7] (fun v i wr => ∃ k : Nat, k ≤ 64 ∧ i = .int .i64 k ∧ Own w1 wr 5 1 v k ((X.take k).map u8c)) (fun _ i _ => 64 - (intOf i).toNat)
  case atStart => exact ⟨0, Nat.zero_le _, rfl, Own.nil _ _ _⟩
  case round =>
    obtain ⟨k, hk, rfl, hown⟩ := hrel
    have HO := Lib.hid hown
    by_cases hlt : k < 64
    · have c1 := hown.below.cell (p := ⟨b1, o1 + k, none⟩) (World.block_lt_of_cell? w1 _ (HC1.out k (by omega)))
      rw [HC1.out k (by omega)] at c1
      have i1 : (k : Int) < 64 := by omega
      clear hown
      go_wp2_with (at_builtin; refine wpList_push rfl (.tmp 14) (.tmp 21) 28 rfl tBytes rfl HO.out #[.int .u8 (bits .xor .u8 (bAt K k) xi)] rfl rfl (one_int _ _) (by omega) ?_; intro v2 w2 own2; have O2 := Lib.hid own2; clear own2)
      have F2 : Hid (Own w1 w2 5 1 v2 (k + 1) ((X.take (k + 1)).map u8c)) := by
        have := O2.out
        rw [HXE.out k hlt] at this
        rw [← xorRep_take X k (by rw [HLEN.out]; exact hlt)]
        exact this
      clear O2
      go_roundw
      case rel => exact ⟨k + 1, by omega, by go_num, F2.out⟩
      case measure => simp [intOf]; omega
    · obtain rfl : k = 64 := by omega
      clear hown
      go_wp2_with fail
      go_ret
      refine ⟨_, rfl, ?_⟩
      have := HO.out
      rw [List.take_of_length_le (by rw [HLEN.out]; omega)] at this
      rw [HLEN.out]
      exact this.base B1.out
set_option maxHeartbeats 1000000 in
theorem refMac_any (A B : Option Addr) (n c m d : Nat) (k t : List UInt8) (w : World) (h : Bs w A n c k) (hn : n ≤ 50000) (ht : Bs w B m d t) (hm : m ≤ 40000) :
    Calls Tryz.prog 135 #[.slice A n c, .slice B m d] w (RetBs w (macL k t)) := by
  have htl : t.length = m := by have := Sl.len ht; simpa using this
  have HH := Lib.hid h; have HT := Lib.hid ht; clear h ht
  obtain ⟨X1, hX1⟩ : ∃ X1, X1 = keyX k 54 := ⟨_, rfl⟩
  obtain ⟨X2, hX2⟩ : ∃ X2, X2 = keyX k 92 := ⟨_, rfl⟩
  have hX1l : X1.length = 64 := by rw [hX1, keyX_len]
  have hX2l : X2.length = 64 := by rw [hX2, keyX_len]
  obtain ⟨S1, hS1⟩ : ∃ S1, S1 = sumL (X1 ++ t) := ⟨_, rfl⟩
  have hS1l : S1.length = 32 := by rw [hS1, sumL_len]
  have hM : macL k t = sumL (X2 ++ S1) := by unfold macL; rw [← hX1, ← hX2, ← hS1]
  rw [hM]
  have C1 : Hid (∀ W, Below w.heap.size w W → Calls Tryz.prog 159 #[.slice A n c, .int .u8 54] W (RetBs W X1)) := by rw [hX1]; exact fun W hW => over_any A n c k 54 54 rfl W (HH.out.mono hW) hn
  have C2 : Hid (∀ W, Below w.heap.size w W → Calls Tryz.prog 159 #[.slice A n c, .int .u8 92] W (RetBs W X2)) := by rw [hX2]; exact fun W hW => over_any A n c k 92 92 rfl W (HH.out.mono hW) hn
  have HJ1 : Hid ((X1 ++ t).length = 64 + m) := by show _ = _; rw [List.length_append, hX1l, htl]
  have HJ2 : Hid ((X2 ++ S1).length = 96) := by show _ = _; rw [List.length_append, hX2l, hS1l]
  clear htl
  have HS1 := Lib.hid hS1; have HX1l := Lib.hid hX1l; have HX2l := Lib.hid hX2l; have HS1l := Lib.hid hS1l
  clear hX1 hX2 hS1 hX1l hX2l hS1l hM
  go_enter Tryz.func135, Tryz.ntmps135
  go_wp2_with fail
  refine (C1.out w (Below.refl _ _)).mono ?_
  rintro e w1 ⟨v1, rfl, own1⟩
  rw [HX1l.out] at own1
  obtain ⟨A1, k1, rfl, sl1⟩ := own1.slice
  have B1 := Lib.hid own1.below; have S1' := Lib.hid sl1; clear own1 sl1
  go_wp2_with fail
  refine (join_any A1 B 64 m k1 d X1 t _ S1'.out (HT.out.mono B1.out) (by omega)).mono ?_
  rintro e w2 ⟨v2, rfl, own2⟩
  rw [HJ1.out] at own2
  obtain ⟨A2, k2, rfl, sl2⟩ := own2.slice
  have B2 := Lib.hid (below_both B1.out own2.below); have S2 := Lib.hid sl2; clear own2 sl2
  go_wp2_with fail
  refine (refSum_any A2 _ k2 (X1 ++ t) _ S2.out (by omega)).mono ?_
  rintro e w3 ⟨v3, rfl, own3⟩
  rw [← HS1.out, HS1l.out] at own3
  obtain ⟨A3, k3, rfl, sl3⟩ := own3.slice
  have B3 := Lib.hid (below_both B2.out own3.below); have S3 := Lib.hid sl3; clear own3 sl3
  go_wp2_with fail
  refine (C2.out w3 B3.out).mono ?_
  rintro e w4 ⟨v4, rfl, own4⟩
  rw [HX2l.out] at own4
  obtain ⟨A4, k4, rfl, sl4⟩ := own4.slice
  have B4 := Lib.hid own4.below; have S4 := Lib.hid sl4; clear own4 sl4
  go_wp2_with fail
  refine (join_any A4 A3 64 32 k4 k3 X2 S1 _ S4.out (S3.out.mono B4.out) (by omega)).mono ?_
  rintro e w5 ⟨v5, rfl, own5⟩
  rw [HJ2.out] at own5
  obtain ⟨A5, k5, rfl, sl5⟩ := own5.slice
  have B5 := Lib.hid (below_both (below_both B3.out B4.out) own5.below); have S5 := Lib.hid sl5; clear own5 sl5
  go_wp2_with fail
  refine (refSum_any A5 _ k5 (X2 ++ S1) _ S5.out (by omega)).mono ?_
  rintro e w6 ⟨v6, rfl, own6⟩
  have O6 := Lib.hid (own6.base B5.out); clear own6
  go_wp2_with fail
  go_ret
  exact ⟨_, rfl, O6.out⟩

set_option maxHeartbeats 1000000 in
theorem refExpandO_any (A C : Option Addr) (n c q e : Nat) (k t : List UInt8) (w : World)
    (hk : Bs w A n c k) (ht : Bs w C q e t) (hn : n ≤ 50000) (hq : q ≤ 10000) :
    Calls Tryz.prog 137 #[.slice A n c, .slice C q e, .int .i64 32] w (fun e w' => ∃ (A' : Option Addr) (c' : Nat), e = .returned (.tuple #[.slice A' 32 c', .int .i64 0]) ∧ Own w w' 5 1 (.slice A' 32 c') 32 ((macL k (t ++ [1])).map u8c)) := by
  have htl : t.length = q := by have := Sl.len ht; simpa using this
  obtain ⟨M, hM⟩ : ∃ M, M = macL k (t ++ [1]) := ⟨_, rfl⟩
  have hMl : M.length = 32 := by rw [hM, macL_len]
  rw [← hM]
  have HM := Lib.hid hM; have HML := Lib.hid hMl; clear hM hMl
  have HKB := Lib.hid hk; have HT := Lib.hid ht
  have HJ : Hid ((t ++ [1]).length = q + 1) := by show _ = _; rw [List.length_append, htl]; rfl
  have HTL := Lib.hid htl
  clear hk ht htl
  have ONE : Hid (∀ W : World, Bs (W.alloc (.cells #[.int .u8 1] 5)) (some ⟨W.heap.size, 0, none⟩) 1 1 [1]) := by
    intro W
    refine ⟨by simp, Nat.le_refl _, by simp [maxLen], fun _ => ⟨_, _, rfl, ?_⟩⟩
    intro j u hu
    rw [Nat.zero_add, (Blk.new W _ _).cell]
    exact hu
  go_enter Tryz.func137, Tryz.ntmps137
  go_wp2_with fail
  go_loopw [8, 9, 10] (fun v g i wr => (v = .slice none 0 0 ∧ g = .slice none 0 0 ∧ i = .int .i64 1 ∧ wr = w) ∨ (∃ (A' : Option Addr) (c' : Nat), v = .slice A' 32 c' ∧ i = .int .i64 2 ∧ Own w wr 5 1 (.slice A' 32 c') 32 (M.map u8c))) (fun v _ _ _ => 32 - slN v)
  case atStart => exact .inl ⟨rfl, rfl, rfl, rfl⟩
  case round =>
    rcases hrel with ⟨rfl, rfl, rfl, rfl⟩ | ⟨A1, c1, rfl, rfl, b1⟩
    · go_wp2_with fail
      refine (join_any none C 0 q 0 e [] t _ (Sl.nil _ _) HT.out (by omega)).mono ?_
      rintro e w2 ⟨v2, rfl, own2⟩
      rw [List.nil_append, HTL.out] at own2
      obtain ⟨A2, k2, rfl, sl2⟩ := own2.slice
      have B2 := Lib.hid own2.below; have S2 := Lib.hid sl2; clear own2 sl2
      have hw : IntKind.u8.wrap 1 = 1 := by decide
      go_wp2_with fail
      have AL : Hid (Below w2.heap.size w2 (w2.alloc (.cells #[.int .u8 1] 5))) := (Below.refl _ _).alloc (Nat.le_refl _) _
      refine (join_any A2 _ q 1 k2 1 t [1] _ (S2.out.mono AL.out) (ONE.out w2) (by omega)).mono ?_
      rintro e w3 ⟨v3, rfl, own3⟩
      rw [HJ.out] at own3
      obtain ⟨A3, k3, rfl, sl3⟩ := own3.slice
      have B3 := Lib.hid (below_both (below_both B2.out AL.out) own3.below); have S3 := Lib.hid sl3; clear own3 sl3
      go_wp2_with fail
      refine (refMac_any A A3 n c _ k3 k (t ++ [1]) _ (HKB.out.mono B3.out) hn S3.out (by omega)).mono ?_
      rintro e w4 ⟨v4, rfl, own4⟩
      rw [← HM.out, HML.out] at own4
      obtain ⟨A4, k4, rfl, sl4⟩ := own4.slice
      have B4 := Lib.hid (below_both B3.out own4.below); have S4 := Lib.hid sl4; clear own4 sl4
      go_wp2_with (at_builtin; refine wpList_cat rfl (.tmp 32) (.tmp 33) 28 rfl tBytes rfl (Own.nil' B4.out _ _) rfl S4.out (one_bytes _) (by omega) ?_; intro v5 w5 own5; rw [List.nil_append, Nat.zero_add] at own5; obtain ⟨A5, k5, rfl, sl5⟩ := own5.slice; have B5 := Lib.hid own5; clear own5 sl5)
      go_roundw
      case rel => exact .inr ⟨A5, k5, rfl, rfl, B5.out⟩
      case measure => simp [slN]
    · obtain ⟨_, _, e', s1⟩ := b1.slice
      injection e' with e1 e2 e3
      subst e1 e3
      have q1 := s1.cap
      have m1 := s1.max
      have B1 := Lib.hid b1; clear s1 b1 e2
      go_wp2_with fail
      go_ret2
      exact ⟨_, _, rfl, B1.out⟩
theorem refExpand_any (A C : Option Addr) (n c q e : Nat) (k t : List UInt8) (w : World)
    (hk : Bs w A n c k) (ht : Bs w C q e t) (hn : n ≤ 50000) (hq : q ≤ 10000) :
    Calls Tryz.prog 137 #[.slice A n c, .slice C q e, .int .i64 32] w (fun e w' => ∃ (A' : Option Addr) (c' : Nat), e = .returned (.tuple #[.slice A' 32 c', .int .i64 0]) ∧ Bs w' A' 32 c' (macL k (t ++ [1])) ∧ Below w.heap.size w w') := (refExpandO_any A C n c q e k t w hk ht hn hq).mono (by
  rintro e w' ⟨A', c', rfl, ho⟩
  obtain ⟨_, _, e', hs⟩ := ho.slice
  injection e' with e1 e2 e3
  subst e1 e3
  exact ⟨A', c', rfl, hs, ho.below⟩)

theorem conv_fn {P : Program} (s : ByteArray) (t : TypeId) (hs : P.underlying 9 = some .string) (hd : P.underlying t = some (.slice 5)) (he : P.underlying 5 = some (.int .u8)) (hm : s.size ≤ maxLen) :
    ∃ (cf : World → Nat) (wf : World → World), ∀ w, (convert 9 t (.string s)).run P w = .ok (.slice (some ⟨w.heap.size, 0, none⟩) s.size (cf w)) (wf w) ∧ Bs (wf w) (some ⟨w.heap.size, 0, none⟩) s.size (cf w) s.data.toList ∧ Below w.heap.size w (wf w) := by
  refine ⟨fun w => grownCap w s.size 0 5, fun w => Lib.bytesWorld w 5 s, fun w => ⟨Lib.run_convert_string_bytes w 9 t 5 s hs hd he, ⟨by simp, grownCap_ge _ _ _ _, grownCap_le_maxLen _ _ _ _ hm, fun _ => ⟨_, _, rfl, fun j u hu => ?_⟩⟩, ?_⟩⟩
  · rw [Nat.zero_add]
    have hj : j < s.size := by have := (List.getElem?_eq_some_iff.1 hu).1; simpa using this
    rw [Lib.bytesWorld_cell w 5 s j hj, ← hu]
    exact (u8c_at (l := s.data.toList) (by simpa using hj)).symm
  · have h1 := run_bytes_of_string (P := P) w 9 t 5 s hs hd he
    have h2 := Lib.run_convert_string_bytes (P := P) w 9 t 5 s hs hd he
    rw [h1] at h2
    injection h2 with _ h3
    show Below w.heap.size w (Lib.bytesWorld w 5 s)
    rw [← h3]
    exact ((Below.refl _ _).drew).alloc (Nat.le_refl _) _
theorem byte_mod (n : Nat) : u8c (UInt8.ofNat (n % 256)) = .int .u8 ((n : Int) % 256) := by
  rw [u8c_ofNat]; exact congrArg _ (by omega)
theorem info_ref (s : List UInt8) : [0, 32, UInt8.ofNat ((10 + s.length) % 256)] ++ textL s = infoL s := by
  unfold infoL
  rw [textL_len]
  have : UInt8.ofNat ((10 + s.length) % 256) = UInt8.ofNat (10 + s.length) := by
    apply UInt8.toNat_inj.1
    simp
  rw [this]
  rfl
set_option maxHeartbeats 1000000 in
theorem refDeriveO_any (A : Option Addr) (n c : Nat) (k s : List UInt8) (w : World) (hk : Bs w A n c k) (hn : n ≤ 50000) (hs : s.length ≤ 5000) :
    Calls Tryz.prog 106 #[.slice A n c, .string ⟨s.toArray⟩] w (RetBs w (deriveL k s)) := by
  have HKB := Lib.hid hk
  clear hk
  obtain ⟨T, hT⟩ : ∃ T, T = (({ data := #[111, 117, 98, 108, 105, 101, 116, 116, 101, 32] } : ByteArray) ++ { data := s.toArray }) := ⟨_, rfl⟩
  have HT := Lib.hid hT
  have hz : T.size = 10 + s.length := by rw [hT]; exact text_size s
  have hd : T.data.toList = textL s := by rw [hT]; simp [ByteArray.data_append, textL, oubS]
  clear hT
  have HZ := Lib.hid hz; have HD := Lib.hid hd
  clear hz hd
  obtain ⟨cf, wf, hf⟩ := conv_fn (P := Tryz.prog) T 28 Tryz.underlying9 Tryz.underlying28 Tryz.underlying5 (by rw [HZ.out]; simp only [maxLen]; omega)
  have hu8 : IntKind.u8.wrap ((10 + (s.length : Int)) % 256) = (10 + (s.length : Int)) % 256 := wrap_u8 (by omega) (by omega)
  obtain ⟨W, hW⟩ : ∃ W, W = w.alloc (.cells #[.int .u8 0, .int .u8 32, .int .u8 ((10 + (s.length : Int)) % 256)] 5) := ⟨_, rfl⟩
  obtain ⟨h1, h2, h3⟩ := hf W
  generalize cf W = c2 at *
  generalize wf W = W2 at *
  clear hf
  have hzW : W.heap.size = w.heap.size + 1 := by rw [hW]; simp
  rw [HZ.out, hzW] at h2
  rw [HD.out] at h2
  have hcv : (convert 9 28 (.string (({ data := #[111, 117, 98, 108, 105, 101, 116, 116, 101, 32] } : ByteArray) ++ { data := s.toArray }))).run Tryz.prog (w.alloc (.cells #[.int .u8 0, .int .u8 32, .int .u8 ((10 + (s.length : Int)) % 256)] 5)) = .ok (.slice (some ⟨w.heap.size + 1, 0, none⟩) (10 + s.length) c2) W2 := by
    rw [HZ.out, hzW, HT.out] at h1
    rw [← hW]; exact h1
  have hB0 : Below w.heap.size w W := by rw [hW]; exact (Below.refl _ _).alloc (Nat.le_refl _) _
  have B2 : Hid (Below w.heap.size w W2) := below_both hB0 h3
  have S2 := Lib.hid h2
  have S1 : Hid (Bs W2 (some ⟨w.heap.size, 0, none⟩) 3 3 [0, 32, UInt8.ofNat ((10 + s.length) % 256)]) := by
    refine Sl.mono (w := W) ⟨by simp, Nat.le_refl _, by simp [maxLen], fun _ => ⟨_, _, rfl, fun j u hu => ?_⟩⟩ h3
    rw [hW, Nat.zero_add, (Blk.new w _ _).cell]
    rw [← hu]
    have e : u8c (UInt8.ofNat ((10 + s.length) % 256)) = .int .u8 ((10 + (s.length : Int)) % 256) := (byte_mod (10 + s.length)).trans (by rw [Int.natCast_add]; rfl)
    simp only [List.map_cons, List.map_nil, e]
    rfl
  have HI := Lib.hid (info_ref s)
  have HIL := Lib.hid (infoL_len s)
  clear h1 h2 h3 hB0 hW hzW
  go_enter Tryz.func106, Tryz.ntmps106
  go_wp2_with fail
  refine (join_any _ _ 3 (10 + s.length) 3 c2 _ (textL s) _ S1.out S2.out (by omega)).mono ?_
  rintro e w3 ⟨v3, rfl, own3⟩
  rw [HI.out, HIL.out] at own3
  obtain ⟨A3, k3, rfl, sl3⟩ := own3.slice
  have B3 := Lib.hid (below_both B2.out own3.below); have S3 := Lib.hid sl3; clear own3 sl3 hcv hu8
  go_wp2_with fail
  refine (refExpandO_any A A3 n c _ k3 k (infoL s) _ (HKB.out.mono B3.out) S3.out hn (by omega)).mono ?_
  rintro e w4 ⟨A4, c4, rfl, s4⟩
  have S4 := Lib.hid (s4.base B3.out); clear s4
  go_wp2_with fail
  go_ret
  refine ⟨_, rfl, ?_⟩
  rw [deriveL_len]
  exact S4.out
theorem refDerive_any (A : Option Addr) (n c : Nat) (k s : List UInt8) (w : World) (hk : Bs w A n c k) (hn : n ≤ 50000) (hs : s.length ≤ 5000) :
    Calls Tryz.prog 106 #[.slice A n c, .string ⟨s.toArray⟩] w (RetRd w (deriveL k s)) := (refDeriveO_any A n c k s w hk hn hs).mono (by
  rintro e w' ⟨v, rfl, ho⟩
  obtain ⟨A', c', rfl, hs'⟩ := ho.slice
  exact ⟨A', c', rfl, hs', ho.below⟩)
end Go.Proofs.YtcfbbgbjlgonpaaGreatDoor
