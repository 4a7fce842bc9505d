import Derived.Test.YtbmijjodpdbbmaaDoorObShaR
import Derived.Test.YtbmijjodpdbbmaaDoorObShaD
import Derived.Test.YtbmijjodpdbbmaaDoorObPushG
import Derived.Test.YtbmijjodpdbbmaaDoorObSmall
import Derived.StillTailTactics
namespace Go.Proofs.YtbmijjodpdbbmaaDoor
open Go.RowKit
set_option linter.unusedVariables false

/-! ### the reference's SHA-256: Pad -/
def padTo7 (k : Nat) : List UInt8 := 128 :: List.replicate k 0
theorem padTo7_len (k : Nat) : (padTo7 k).length = k + 1 := by simp [padTo7]
theorem padTo7_snoc (k : Nat) : padTo7 k ++ [0] = padTo7 (k + 1) := by simp [padTo7, List.replicate_succ']
theorem padTo7_all (n : Nat) : padTo7 (padZ n) ++ be (n * 8) 8 = padB n := by simp [padTo7, padB]
set_option maxHeartbeats 1000000 in
theorem refPad7_any (n : Nat) (w : World) (hn : n ≤ 60000) :
    Calls Tryd.prog 123 #[.int .i64 (n : Int)] w (RetBs w (padB n)) := by
  have O0 : Hid (Own w (w.alloc (.cells #[.int .u8 128] 5)) 5 1 (.slice (some ⟨w.heap.size, 0, none⟩) 1 1) (padTo7 0).length ((padTo7 0).map u8c)) :=
    (Blk.new w 5 #[.int .u8 128]).own (Nat.le_refl _) ((Below.refl _ _).alloc (Nat.le_refl _) _) (by simp) (by simp [maxLen])
  have hz := padZ_lt n
  have h56 : (n + (padZ n + 1)) % 64 = 56 := by unfold padZ; omega
  have hne : ∀ k, k < padZ n → (n + (k + 1)) % 64 ≠ 56 := by intro k hk; unfold padZ at hk; omega
  have H56 := Lib.hid h56; have HNE := Lib.hid hne; clear h56 hne
  go_enter Tryd.func123, Tryd.ntmps123
  go_wp2_with fail
  go_loopw [3] (fun v wr => ∃ (k : Nat) (A' : Option Addr) (c' : Nat), v = .slice A' (k + 1) c' ∧ k ≤ padZ n ∧ Own w wr 5 1 (.slice A' (k + 1) c') (k + 1) ((padTo7 k).map u8c)) (fun v _ => 100 - slN v)
  case atStart => exact ⟨0, some ⟨w.heap.size, 0, none⟩, 1, rfl, Nat.zero_le _, O0.out⟩
  case round =>
    obtain ⟨k, A1, c1, rfl, hk, o1⟩ := hrel
    have O1 := Lib.hid o1; clear o1
    by_cases hlt : k < padZ n
    · have ht : (((n : Int) + ((k : Int) + 1)) % 64 != 56) = true := by
        have := HNE.out k hlt
        rw [bne_iff_ne]; omega
      go_wp2_with (at_builtin; refine wpList_push rfl (.tmp 17) (.tmp 18) 22 rfl tBytes rfl O1.out #[.int .u8 0] rfl rfl (one_int _ _) (by omega) ?_; intro v2 w2 own2; obtain ⟨A2, c2, rfl, sl2⟩ := own2.slice; have O2 : Hid (Own w w2 5 1 (.slice A2 (k + 1 + 1) c2) (k + 1 + 1) ((padTo7 (k + 1)).map u8c)) := (by rw [← padTo7_snoc, List.map_append]; exact own2); clear own2 sl2)
      first | go_roundw | skip
      case rel => exact ⟨k + 1, A2, c2, rfl, by omega, O2.out⟩
      case measure => simp [slN]; omega
    · have hk2 : padZ n = k := by omega
      have ht : (((n : Int) + ((k : Int) + 1)) % 64 != 56) = false := by
        have := H56.out
        rw [hk2] at this
        rw [bne_eq_false_iff_eq]; omega
      have HK2 := Lib.hid hk2; clear hk2
      go_wp2_with (first
        | (go_at_call 125; refine (show Calls Tryd.prog 125 #[.int .u64 ((n : Int) * 8), .int .i64 8] wr (RetBs wr (be (n * 8) 8)) from (by have := refPut_yes (n * 8) 8 wr (by omega) (by omega) (by omega); simpa using this)).mono ?_; rintro e w2 ⟨v2, rfl, own2⟩; obtain ⟨A2, c2, rfl, sl2⟩ := own2.slice; have O2 := Lib.hid (O1.out.mono own2.below); have S2 := Lib.hid sl2; clear own2 sl2)
        | (at_builtin; refine wpList_cat rfl (.tmp 20) (.tmp 24) 22 rfl tBytes rfl O2.out rfl S2.out (one_bytes _) (by rw [be_length]; omega) ?_; intro v3 w3 own3; have O3 := Lib.hid own3; clear own3))
      go_ret
      refine ⟨_, rfl, ?_⟩
      have := O3.out
      rw [← List.map_append, ← HK2.out, padTo7_all] at this
      have e : padZ n + 1 + (be (n * 8) 8).length = (padB n).length := by rw [padB_len, be_length]
      rw [e] at this
      exact this

/-! ### Table, Sum -/
def kArr : Array Value := (kAll.map u32c).toArray
theorem kArr_size : kArr.size = 64 := by simp [kArr, kAll]
theorem kArr_tab : Tab64 kArr := by
  refine ⟨kArr_size, fun t ht => ?_⟩
  unfold kArr kAll
  rw [List.getElem?_toArray, List.getElem?_map, List.getElem?_map, List.getElem?_range ht]
  rfl
theorem kArr_one : kArr.all (·.oneCell') = true := all_one_words kAll
theorem kArr_lit : kArr = #[.int .u32 1116352408, .int .u32 1899447441, .int .u32 3049323471, .int .u32 3921009573, .int .u32 961987163, .int .u32 1508970993, .int .u32 2453635748, .int .u32 2870763221, .int .u32 3624381080, .int .u32 310598401, .int .u32 607225278, .int .u32 1426881987, .int .u32 1925078388, .int .u32 2162078206, .int .u32 2614888103, .int .u32 3248222580, .int .u32 3835390401, .int .u32 4022224774, .int .u32 264347078, .int .u32 604807628, .int .u32 770255983, .int .u32 1249150122, .int .u32 1555081692, .int .u32 1996064986, .int .u32 2554220882, .int .u32 2821834349, .int .u32 2952996808, .int .u32 3210313671, .int .u32 3336571891, .int .u32 3584528711, .int .u32 113926993, .int .u32 338241895, .int .u32 666307205, .int .u32 773529912, .int .u32 1294757372, .int .u32 1396182291, .int .u32 1695183700, .int .u32 1986661051, .int .u32 2177026350, .int .u32 2456956037, .int .u32 2730485921, .int .u32 2820302411, .int .u32 3259730800, .int .u32 3345764771, .int .u32 3516065817, .int .u32 3600352804, .int .u32 4094571909, .int .u32 275423344, .int .u32 430227734, .int .u32 506948616, .int .u32 659060556, .int .u32 883997877, .int .u32 958139571, .int .u32 1322822218, .int .u32 1537002063, .int .u32 1747873779, .int .u32 1955562222, .int .u32 2024104815, .int .u32 2227730452, .int .u32 2361852424, .int .u32 2428436474, .int .u32 2756734187, .int .u32 3204031479, .int .u32 3329325298] := by kernel_rfl
theorem wpStill_load_row {P : Program} {ops : Array Oper} {w : World} {Q : Act → Prop} {a : Act} {o : Oper} {rest : List Oper} (hgd : o.guard = none) (ty : TypeId) (x : Operand) (ho : o.op = .load ty x)
    (g : Nat) (hx : a.eval x = .pointer (some ⟨g, 0, none⟩)) (t : TypeId) (cs : Array Value) (fr : Nat × Nat) (d : TypeDesc) (hg : w.heap[g]? = some (.cells cs t fr))
    (hu : P.underlying ty = some d) (hd : (match d with | .struct _ | .array _ _ => true | _ => false) = true) (hi : (P.info? ty).map (·.size) = some cs.size)
    (h : wpStill P ops w Q rest (a.put o.dst (.agg cs))) : wpStill P ops w Q (o :: rest) a :=
  wpStill_step fun K hK => by
    rw [if_pos (by simp [Region.wanted, hgd])]
    unfold Oper.still execOp
    simp only [ho, hx, Instr.loadAt, Instr.sureAddr, Sem.run_bind, Sem.run_pure, Result.andThen_ok, run_loadVar_row w g t ty cs fr d hg hu hd hi, Oper.stillUpon]
    exact ⟨trivial, hK _ h⟩
theorem run_part64 (b o L c t : Nat) (h : 64 * t + 64 ≤ c) (w : World) : (Instr.slice 22 (.slice (some ⟨b, o, none⟩) L c) (some (.int .i64 (64 * (t : Int)))) (some (.int .i64 (64 * (t : Int) + 64))) none).run Tryd.prog w = .ok (.slice (some ⟨b, o + 64 * t, none⟩) 64 (c - 64 * t)) w := by
  obtain ⟨i, hi, hz, hsz, hby⟩ := info_parts tBytes.info
  have he : Tryd.prog.elem 22 = 5 := by simp [Program.elem, tBytes.und]
  have hu : Tryd.prog.underlying 22 = some (.slice (Tryd.prog.elem 22)) := by rw [he]; exact tBytes.und
  rw [run_slice_lh w 22 (some ⟨b, o, none⟩) L c hu .i64 .i64 (64 * (t : Int)) (64 * (t : Int) + 64) (by omega) (by omega) (by omega)]
  have e1 : (64 * (t : Int)).toNat = 64 * t := by omega
  have e2 : (64 * (t : Int) + 64).toNat - 64 * t = 64 := by omega
  have e3 : ¬ c - 64 * t = 0 := by omega
  simp [sizeOf, typeInfo, he, hi, Result.andThen, sliced, hsz, e1, e2, add_flat]
  omega
set_option maxRecDepth 100000 in
set_option maxHeartbeats 1000000 in
theorem refTable_any (w : World) : Calls Tryd.prog 122 #[] w fun e w' => e = .returned (.agg kArr) ∧ Below w.heap.size w w' := by
  have HL := Lib.hid kArr_lit
  have HS := Lib.hid kArr_size
  have HO := Lib.hid kArr_one
  have hb : Hid (Below w.heap.size w ((w.alloc (.cells (reps 64 (.int .u32 0)).toArray 153)).setRow w.heap.size kArr)) := below_row ((Below.refl _ _).alloc (Nat.le_refl _) _) (Nat.le_refl _) _
  have HN : Hid (((w.alloc (.cells (reps 64 (.int .u32 0)).toArray 153)).setRow w.heap.size kArr).heap[w.heap.size]? = some (.cells kArr 153 (0, 0))) := setRow_heap _ w.heap.size _ _ _ _ (heap_alloc_new w _)
  go_enter Tryd.func122, Tryd.ntmps122
  go_wp2_with (rw [← HL.out]; refine wpList_store_row rfl 153 (.tmp 0) (.tmp 1) rfl w.heap.size kArr rfl rfl 153 (reps 64 (.int .u32 0)).toArray (by exact heap_alloc_new w _) (by rw [HS.out]; kernel_rfl) (by rw [HS.out]; rfl) HO.out ?_)
  exact bodyPost_ret (v := .agg kArr) (results_cell_row Tryd.results122 _ _ w.heap.size 153 _ (0, 0) _ rfl HN.out Tryd.underlying153 rfl (by rw [HS.out]; kernel_rfl)) rfl ⟨rfl, hb.out⟩
end Go.Proofs.YtbmijjodpdbbmaaDoor
