/- Own texts of this claim, one behind the other. No condition. -/
import Derived.Test.YtcfbbgbjlgonpaaGreatDoorObPkAA
import Derived.Test.YtcfbbgbjlgonpaaGreatDoorObPkAB
import Derived.Test.YtcfbbgbjlgonpaaGreatDoorObPkAE
import Derived.Test.YtcfbbgbjlgonpaaGreatDoorObPkAH
import Derived.Deep.RegionHeld3
import Derived.Lib.AppendStr
import Derived.Lib.ItoaNum

/- ObKdfW, ObKdfE, ObKdfD: one text. No condition. -/
namespace Go.Proofs.YtcfbbgbjlgonpaaGreatDoor
open Go.RowKit
set_option linter.unusedVariables false

set_option maxRecDepth 100000 in
set_option maxHeartbeats 1000000 in
theorem expandf_any (pk pl pi : Nat) (A B C : Option Addr) (n c m d q e : Nat) (k l t : List UInt8) (w : World)
    (h1 : w.cell? ⟨pk, 0, none⟩ = some (.slice A n c)) (h2 : w.cell? ⟨pl, 0, none⟩ = some (.slice B m d)) (h3 : w.cell? ⟨pi, 0, none⟩ = some (.slice C q e))
    (hk : Bs w A n c k) (hl : Bs w B m d l) (ht : Bs w C q e t) (hn : n ≤ 50000) (hm : m ≤ 10000) (hq : q ≤ 10000) (hK : ShaK w) :
    Calls Tryz.prog 119 #[.int .i64 1, .pointer (some ⟨pk, 0, none⟩), .pointer (some ⟨pl, 0, none⟩), .pointer (some ⟨pi, 0, none⟩)] w (RetBs w (macL k (l ++ t ++ [1]))) := by
  have b1 := World.block_lt_of_cell? w _ h1
  have b2 := World.block_lt_of_cell? w _ h2
  have b3 := World.block_lt_of_cell? w _ h3
  have e1 : l.length = m := by have := Sl.len hl; simpa using this
  have e2 : t.length = q := by have := Sl.len ht; simpa using this
  have hw : IntKind.u8.wrap 1 = 1 := by decide
  obtain ⟨R, hR⟩ : ∃ R, R = [(⟨B, m, d, l⟩ : BRow), ⟨C, q, e, t⟩] := ⟨_, rfl⟩
  have hrr : rowsOf R = l ++ t := by rw [hR]; simp [rowsOf]
  obtain ⟨T, hT⟩ : ∃ T, T = l ++ t := ⟨_, rfl⟩
  have hTl : T.length = m + q := by rw [hT, List.length_append, e1, e2]
  rw [← hT] at hrr ⊢
  have HRR := Lib.hid hrr; clear hrr
  have HTL := Lib.hid hTl; clear hTl hT
  have SNEW : Hid (∀ W : World, Sl (W.alloc (.cells #[.int .u8 1] 5)) (some ⟨W.heap.size, 0, none⟩) 1 1 1 [.int .u8 1]) := by
    intro W
    refine ⟨by simp, Nat.le_refl _, by simp [maxLen], fun _ => ⟨_, _, rfl, ?_⟩⟩
    intro j u hu
    rw [Nat.zero_add, (Blk.new W _ _).cell]
    exact hu
  have al : ∀ (W : World) o, Below W.heap.size W (W.alloc o) := fun W o => (Below.refl _ _).alloc (Nat.le_refl _) _
  have X1 : Hid (Bss (w.alloc (.cells #[.slice B m d, .slice C q e] 28)).drew (some ⟨w.heap.size, 0, none⟩) 2 2 R) := by
    rw [hR]; exact (Bss.two (r := ⟨B, m, d, l⟩) (s := ⟨C, q, e, t⟩) hl ht _).mono (Below.refl _ _).drew
  have X2 : Hid (Bss ((w.alloc (.cells #[.slice B m d, .slice C q e] 28)).alloc (.cells #[.int .u8 1] 5)).drew (some ⟨w.heap.size, 0, none⟩) 2 2 R) := by
    rw [hR]; exact (Bss.two (r := ⟨B, m, d, l⟩) (s := ⟨C, q, e, t⟩) hl ht _).mono (al _ _).drew
  have X3 : Hid (Bss ((w.alloc (.cells #[.int .u8 1] 5)).alloc (.cells #[.slice B m d, .slice C q e] 28)).drew (some ⟨w.heap.size + 1, 0, none⟩) 2 2 R) := by
    have := (Bss.two (w := w.alloc (.cells #[.int .u8 1] 5)) (r := ⟨B, m, d, l⟩) (s := ⟨C, q, e, t⟩) (hl.mono (al _ _)) (ht.mono (al _ _)) 28).mono (Below.refl _ _).drew
    rw [hR]
    exact Lib.hid (by simpa using this)
  have S2 : Hid (Sl ((w.alloc (.cells #[.slice B m d, .slice C q e] 28)).alloc (.cells #[.int .u8 1] 5)).drew (some ⟨w.heap.size + 1, 0, none⟩) 1 1 1 [.int .u8 1]) := by
    have := (SNEW.out (w.alloc (.cells #[.slice B m d, .slice C q e] 28))).mono (Below.refl _ _).drew
    exact Lib.hid (by simpa using this)
  have S3 : Hid (Sl ((w.alloc (.cells #[.int .u8 1] 5)).alloc (.cells #[.slice B m d, .slice C q e] 28)).drew (some ⟨w.heap.size, 0, none⟩) 1 1 1 [.int .u8 1]) :=
    (SNEW.out w).mono ((al _ _).drew)
  have CL : Hid (∀ W : World, Below w.heap.size w W → W.cell? ⟨pk, 0, none⟩ = some (.slice A n c) ∧ W.cell? ⟨pl, 0, none⟩ = some (.slice B m d) ∧ W.cell? ⟨pi, 0, none⟩ = some (.slice C q e)) :=
    fun W hW => ⟨(hW.cell b1).trans h1, (hW.cell b2).trans h2, (hW.cell b3).trans h3⟩
  have BA1 : Hid (∀ o, Below w.heap.size w (w.alloc o).drew) := fun o => (al _ _).drew
  have BA2 : Hid (∀ o o', Below w.heap.size w ((w.alloc o).alloc o').drew) := fun o o' => (((al w o)).trans ((al _ _).mono (by simp))).drew
  have HKB := Lib.hid hk; have HK := Lib.hid hK
  clear hk hl ht hK hR al e1 e2 b1 b2 b3
  go_enter Tryz.func119, Tryz.ntmps119
  go_wp2_with fail
  go_region_held3 (fun w' => w'.cell? ⟨pk, 0, none⟩ = some (.slice A n c) ∧ w'.cell? ⟨pl, 0, none⟩ = some (.slice B m d) ∧ w'.cell? ⟨pi, 0, none⟩ = some (.slice C q e)) (go_keep)
    (first
      | (go_at_call 80; refine (concat_any _ 2 2 R _ (by first | exact X1.out | exact X2.out | exact X3.out) (by rw [HRR.out, HTL.out]; omega)).mono ?_; rintro e w3 ⟨v3, rfl, own3⟩; rw [HRR.out, HTL.out] at own3; have O3 : Hid (Own w w3 5 1 v3 (m + q) (T.map u8c)) := own3.base (by first | exact BA1.out _ | exact BA2.out _ _); have N3 := Lib.hid own3.below; clear own3; obtain ⟨z1, z2, z3⟩ := CL.out w3 O3.out.below)
      | (refine step_cat rfl (.tmp 10) (.tmp 13) 28 rfl tBytes rfl (by first | exact O3.out | exact O3.out.alloc _) rfl (news := [.int .u8 1]) (by first | exact SNEW.out _ | exact S2.out.mono N3.out | exact S3.out.mono N3.out) (one_int _ _) (by omega) ?_; intro v4 w4 own4; obtain ⟨A4, k4, rfl, sl4⟩ := own4.slice; have B4 := Lib.hid own4.below; have S4 : Hid (Bs w4 A4 (m + q + 1) k4 (T ++ [1])) := (by show Sl _ _ _ _ _ _; rw [List.map_append]; exact sl4); clear own4 sl4; obtain ⟨y1, y2, y3⟩ := CL.out w4 B4.out)
      | (go_at_call 81; refine (mac_any A A4 n c _ k4 k (T ++ [1]) _ (HKB.out.mono B4.out) hn S4.out (by omega) (HK.out.mono B4.out)).mono ?_; rintro e w5 ⟨v5, rfl, own5⟩; have O5 : Hid (Own w w5 5 1 v5 _ _) := own5.base B4.out; clear own5; obtain ⟨x1, x2, x3⟩ := CL.out w5 O5.out.below))
  all_goals
    go_wp2
    go_ret
    exact ⟨_, rfl, O5.out⟩
end Go.Proofs.YtcfbbgbjlgonpaaGreatDoor
namespace Go.Proofs.YtcfbbgbjlgonpaaGreatDoor
open Go.RowKit
set_option linter.unusedVariables false

set_option maxRecDepth 100000 in
set_option maxHeartbeats 1000000 in
theorem expandO_any (A C : Option Addr) (n c q e : Nat) (k t : List UInt8) (w : World)
    (hk : Bs w A n c k) (ht : Bs w C q e t) (hn : n ≤ 50000) (hq : q ≤ 10000) (hK : ShaK w) :
    Calls Tryz.prog 89 #[.slice A n c, .slice C q e, .int .i64 32] w (fun e w' => ∃ (A' : Option Addr) (k' : Nat), e = .returned (.tuple #[.slice A' 32 32, .int .i64 0]) ∧ Bs w' A' 32 32 (macL k (t ++ [1])) ∧ Own w w' 5 1 (.slice A' 32 k') 32 ((macL k (t ++ [1])).map u8c)) := by
  obtain ⟨M, hM⟩ : ∃ M, M = macL k (t ++ [1]) := ⟨_, rfl⟩
  have hMl : M.length = 32 := by rw [hM, macL_len]
  rw [← hM]
  have HM := Lib.hid hM; have HML := Lib.hid hMl; clear hM hMl
  have HKB := Lib.hid hk; have HT := Lib.hid ht; have HK := Lib.hid hK
  clear hk ht hK
  go_enter Tryz.func89, Tryz.ntmps89
  go_wp2_with fail
  go_step3
  go_wp2_with fail
  go_step3
  go_wp2_with fail
  obtain ⟨W, hW⟩ : ∃ W, W = ((w.alloc (.cells #[.slice A n c] 28)).alloc (.cells #[.slice C q e] 28)).alloc (.cells #[.slice none 0 0] 28) := ⟨_, rfl⟩
  rw [← hW]
  have hBW : Below w.heap.size w W := by rw [hW]; exact (((Below.refl _ _).alloc (Nat.le_refl _) _).alloc (by simp) _).alloc (by simp; omega) _
  have bl : Blk W (w.heap.size + 1 + 1) 28 [.slice none 0 0] := by rw [hW]; have := Blk.new ((w.alloc (.cells #[.slice A n c] 28)).alloc (.cells #[.slice C q e] 28)) 28 #[Value.slice none 0 0]; simpa using this
  have al : ∀ (W : World) o, Below W.heap.size W (W.alloc o) := fun W o => (Below.refl _ _).alloc (Nat.le_refl _) _
  have bk : W.cell? ⟨w.heap.size, 0, none⟩ = some (.slice A n c) := by
    rw [hW, (al _ _).cell (by simp; omega), (al _ _).cell (by simp), (Blk.new w _ _).cell]; rfl
  have bi : W.cell? ⟨w.heap.size + 1, 0, none⟩ = some (.slice C q e) := by
    rw [hW, (al _ _).cell (by simp)]
    simp
  have cl : W.cell? ⟨w.heap.size + 1 + 1, 0, none⟩ = some (.slice none 0 0) := by rw [bl.cell]; rfl
  have BL := Lib.hid bl; have BK := Lib.hid bk; have BI := Lib.hid bi; have CLL := Lib.hid cl; have BW := Lib.hid hBW
  have hzW : W.heap.size = w.heap.size + 3 := by rw [hW]; simp
  have HZ := Lib.hid hzW
  clear hW bl bk bi cl hBW hzW al
  go_loopw [6, 10] (fun v i wr => v = .slice none 0 0 ∧ i = .int .i64 1 ∧ wr = W) (fun _ _ _ => 0)
  case atStart => exact ⟨rfl, rfl, rfl⟩
  case round =>
    obtain ⟨rfl, rfl, rfl⟩ := hrel
    go_wp2_with fail
    refine (expandf_any w.heap.size (w.heap.size + 1 + 1) (w.heap.size + 1) A none C n c 0 0 q e k [] t wr BK.out CLL.out BI.out (HKB.out.mono BW.out) (Sl.nil _ _) (HT.out.mono BW.out) hn (by omega) hq (HK.out.mono BW.out)).mono ?_
    rintro e w2 ⟨v2, rfl, own2⟩
    rw [List.nil_append, ← HM.out, HML.out] at own2
    have b2 : Blk w2 (w.heap.size + 1 + 1) 28 [.slice none 0 0] := (own2.below.block _ (by have := HZ.out; omega)).trans BL.out
    have c2 : w2.cell? ⟨w.heap.size + 1 + 1, 0, none⟩ = some (.slice none 0 0) := by rw [b2.cell]; rfl
    have f2 := b2.free 0
    have B2 := Lib.hid b2; clear b2
    obtain ⟨A2, k2, rfl, sl2⟩ := own2.slice
    have O2 := Lib.hid own2; have S2 := Lib.hid sl2; clear own2 sl2
    have S3 : Hid (Bs (w2.setCell ⟨w.heap.size + 1 + 1, 0, none⟩ (.slice A2 32 k2)) A2 32 k2 M) := by
      refine S2.out.keepB (fun b o e => ?_)
      subst e
      have := (O2.out.1.lt b rfl).1
      have hz := HZ.out
      show (w2.setCell _ _).heap[b]? = _
      exact Below.heap_setCell w2 _ _ b (by show b ≠ w.heap.size + 1 + 1; omega)
    have B3 : Hid (Below w.heap.size w (w2.setCell ⟨w.heap.size + 1 + 1, 0, none⟩ (.slice A2 32 k2))) := (below_both BW.out O2.out.below).setCell (p := ⟨w.heap.size + 1 + 1, 0, none⟩) (by show w.heap.size ≤ w.heap.size + 1 + 1; omega) _
    clear O2
    go_wp2_with (at_builtin; refine wpList_cat rfl (.tmp 23) (.tmp 24) 28 rfl tBytes rfl (Own.nil' B3.out _ _) rfl S3.out (one_bytes _) (by omega) ?_; intro v4 w4 own4; rw [List.nil_append, Nat.zero_add] at own4; obtain ⟨A4, k4, rfl, sl4⟩ := own4.slice; have q4 := sl4.cap; have m4 := sl4.max; have B4 := Lib.hid own4; have S4 := Lib.hid sl4; clear own4 sl4)
    rw [Exit.noGoto_ret]
    go_ret2
    refine ⟨A4, k4, rfl, ⟨S4.out.1, Nat.le_refl _, by simp [maxLen], S4.out.2.2.2⟩, B4.out⟩
theorem expand_any (A C : Option Addr) (n c q e : Nat) (k t : List UInt8) (w : World)
    (hk : Bs w A n c k) (ht : Bs w C q e t) (hn : n ≤ 50000) (hq : q ≤ 10000) (hK : ShaK w) :
    Calls Tryz.prog 89 #[.slice A n c, .slice C q e, .int .i64 32] w (fun e w' => ∃ A' : Option Addr, e = .returned (.tuple #[.slice A' 32 32, .int .i64 0]) ∧ Bs w' A' 32 32 (macL k (t ++ [1])) ∧ Below w.heap.size w w') := (expandO_any A C n c q e k t w hk ht hn hq hK).mono (by
  rintro e w' ⟨A', k', rfl, h1, h2⟩
  exact ⟨A', rfl, h1, h2.below⟩)
end Go.Proofs.YtcfbbgbjlgonpaaGreatDoor
namespace Go.Proofs.YtcfbbgbjlgonpaaGreatDoor
open Go.RowKit Go.Lib
set_option linter.unusedVariables false

def oubS : List UInt8 := [111, 117, 98, 108, 105, 101, 116, 116, 101, 32]
def textL (s : List UInt8) : List UInt8 := oubS ++ s
def infoL (s : List UInt8) : List UInt8 := be 32 2 ++ [UInt8.ofNat (textL s).length] ++ textL s
def deriveL (k s : List UInt8) : List UInt8 := macL k (infoL s ++ [1])
theorem deriveL_len (k s : List UInt8) : (deriveL k s).length = 32 := macL_len _ _

theorem wpList_catS {ops : Array Oper} {rest : List Oper} {o : Oper} {a : Act} {Q : Exit → Act → World → Prop} (hgd : o.guard = none) (s x : Operand)
    (ho : o.op = .call { callee := .builtin .append, args := #[s, x], argTypes := #[28, 9] })
    {w0 w : World} {v : Value} {n : Nat} {xs : List Value} (hs : a.eval s = v) (hown : Own w0 w 5 1 v n xs) {t : ByteArray} (hx : a.eval x = .string t) (hroom : n + t.size ≤ 140737488355328)
    (h : ∀ v' w', Own w0 w' 5 1 v' (n + t.size) (xs ++ strCells t) → wpList Tryz.prog ops Q rest (a.put o.dst v') w') : wpList Tryz.prog ops Q (o :: rest) a w := by
  obtain ⟨i, hi, hz, hsz, hby⟩ := info_parts tBytes.info
  refine wpList_append_own_string w hgd s x 28 9 ho w0.heap.size 5 i tBytes.und Tryz.underlying9 hi hz hsz hby v n xs hs hown.1 t hx (by simp only [maxLen]; omega) hroom hown.2.size ?_
  intro v' w' h2 h3 _
  exact h v' w' ⟨h2, hown.2.grown h3 hown.2.size (fun k hk => (hown.1.lt k hk).1)⟩
theorem text_cells (s : List UInt8) : strCells (({ data := #[111, 117, 98, 108, 105, 101, 116, 116, 101, 32] } : ByteArray) ++ { data := s.toArray }) = (textL s).map u8c := by
  unfold strCells textL oubS
  have : (({ data := #[111, 117, 98, 108, 105, 101, 116, 116, 101, 32] } : ByteArray) ++ { data := s.toArray }).data.toList = [111, 117, 98, 108, 105, 101, 116, 116, 101, 32] ++ s := by
    simp [ByteArray.data_append]
  rw [this]
  rfl
theorem text_size (s : List UInt8) : (({ data := #[111, 117, 98, 108, 105, 101, 116, 116, 101, 32] } : ByteArray) ++ { data := s.toArray }).size = 10 + s.length := by
  rw [ByteArray.size_append]; rfl
theorem textL_len (s : List UInt8) : (textL s).length = 10 + s.length := by unfold textL oubS; rw [List.length_append]; rfl
theorem infoL_len (s : List UInt8) : (infoL s).length = 13 + s.length := by unfold infoL; rw [List.length_append, textL_len]; simp [be]; omega
theorem info_cells (s : List UInt8) : (be 32 2).map u8c ++ [.int .u8 ((10 + (s.length : Int)) % 256)] ++ (textL s).map u8c = (infoL s).map u8c := by
  unfold infoL
  rw [List.map_append, List.map_append, List.map_cons, List.map_nil, textL_len]
  congr 3
set_option maxRecDepth 100000 in
set_option maxHeartbeats 1000000 in
/-- Bytes of the call's own, cut off at their end. -/
def RetRo (w : World) (l : List UInt8) (e : Ending) (w' : World) : Prop := ∃ A c k, e = .returned (.slice A l.length c) ∧ Bs w' A l.length c l ∧ Own w w' 5 1 (.slice A l.length k) l.length (l.map u8c)
theorem deriveO_any (A : Option Addr) (n c : Nat) (k s : List UInt8) (w : World) (hk : Bs w A n c k) (hn : n ≤ 50000) (hs : s.length ≤ 5000) (hK : ShaK w) :
    Calls Tryz.prog 57 #[.slice A n c, .string ⟨s.toArray⟩] w (RetRo w (deriveL k s)) := by
  have HKB := Lib.hid hk; have HK := Lib.hid hK
  clear hk hK
  have SN : Hid (∀ (W : World) (x : Int), Sl (W.alloc (.cells #[.int .u8 x] 5)) (some ⟨W.heap.size, 0, none⟩) 1 1 1 [.int .u8 x]) := by
    intro W x
    refine ⟨by simp, Nat.le_refl _, by simp [maxLen], fun _ => ⟨_, _, rfl, ?_⟩⟩
    intro j u hu
    rw [Nat.zero_add, (Blk.new W _ _).cell]
    exact hu
  go_enter Tryz.func57, Tryz.ntmps57
  go_wp2_with (first
    | (go_at_call 73; refine (put_yes 32 2 _ (by omega) (by omega) (by omega)).mono ?_; rintro e w1 ⟨v1, rfl, own1⟩; have O1 : Hid (Own w w1 5 1 v1 2 ((be 32 2).map u8c)) := own1; clear own1)
    | (at_builtin; refine wpList_cat rfl (.tmp 11) (.tmp 15) 28 rfl tBytes rfl (O1.out.alloc _) rfl (news := [.int .u8 ((10 + (s.length : Int)) % 256)]) (SN.out _ _) (one_int _ _) (by omega) ?_; intro v2 w2 own2; have O2 := Lib.hid own2; clear own2)
    | (at_builtin; refine wpList_catS rfl (.tmp 19) (.tmp 20) rfl rfl O2.out rfl (by rw [text_size]; omega) ?_; intro v3 w3 own3; rw [text_cells, text_size, info_cells] at own3; obtain ⟨A3, k3, rfl, sl3⟩ := own3.slice; have B3 := Lib.hid own3.below; have S3 : Hid (Bs w3 A3 (2 + 1 + (10 + s.length)) k3 (infoL s)) := sl3; clear own3 sl3)
    | (go_at_call 89; refine (expandO_any A A3 n c _ k3 k (infoL s) _ (HKB.out.mono B3.out) S3.out hn (by omega) (HK.out.mono B3.out)).mono ?_; rintro e w4 ⟨A4, k4, rfl, s4, b4⟩; have S4 := Lib.hid s4; have B4 := Lib.hid (b4.base B3.out); clear s4 b4))
  go_ret
  refine ⟨A4, 32, k4, ?_, ?_, ?_⟩
  · rw [deriveL_len]; rfl
  · rw [deriveL_len]; exact S4.out
  · rw [deriveL_len]; exact B4.out
theorem derive_any (A : Option Addr) (n c : Nat) (k s : List UInt8) (w : World) (hk : Bs w A n c k) (hn : n ≤ 50000) (hs : s.length ≤ 5000) (hK : ShaK w) :
    Calls Tryz.prog 57 #[.slice A n c, .string ⟨s.toArray⟩] w (RetRd w (deriveL k s)) := (deriveO_any A n c k s w hk hn hs hK).mono (by
  rintro e w' ⟨A', c', k', rfl, h1, h2⟩
  exact ⟨A', c', rfl, h1, h2.below⟩)
end Go.Proofs.YtcfbbgbjlgonpaaGreatDoor

namespace Go.Proofs.YtcfbbgbjlgonpaaGreatDoor

/-! ### digits, no program in sight -/
def isDig (c : UInt8) : Bool := decide (48 ≤ (c.toNat : Int)) && decide ((c.toNat : Int) ≤ 57)
def valL (l : List UInt8) : Nat := l.foldl (fun n c => n * 10 + (c.toNat - 48)) 0
def badL (l : List UInt8) : Bool := !(decide (1 ≤ l.length) && decide (l.length ≤ 18) && (decide (l.length ≤ 1) || bAt l 0 != 48) && l.all isDig)
def parseN (l : List UInt8) (most : Int) : Int := if badL l then 0 else if most < (valL l : Int) then 0 else valL l
def parseF (l : List UInt8) (most : Int) : Int := if badL l then 3 else if most < (valL l : Int) then 2 else 0

theorem valL_snoc (l : List UInt8) (c : UInt8) : valL (l ++ [c]) = valL l * 10 + (c.toNat - 48) := by simp [valL]
theorem dig_snoc0 (l : List UInt8) (k : Nat) (h : k < l.length) : l.take (k + 1) = l.take k ++ [l.getD k 0] := by
  rw [List.take_succ_eq_append_getElem h, List.getD_eq_getElem?_getD, List.getElem?_eq_getElem h]; rfl
theorem isDig_at (l : List UInt8) (k : Nat) : isDig (l.getD k 0) = (decide (48 ≤ bAt l k) && decide (bAt l k ≤ 57)) := rfl
theorem valL_take (l : List UInt8) (k : Nat) (h : k < l.length) (hd : 48 ≤ bAt l k) : (valL (l.take (k + 1)) : Int) = valL (l.take k) * 10 + (bAt l k - 48) := by
  rw [dig_snoc0 l k h, valL_snoc]; unfold bAt at *; omega
theorem all_take (l : List UInt8) (k : Nat) (h : k < l.length) (ha : (l.take k).all isDig = true) (hd : isDig (l.getD k 0) = true) : (l.take (k + 1)).all isDig = true := by
  rw [dig_snoc0 l k h, List.all_append, ha]; simpa using hd
theorem all_not (l : List UInt8) (k : Nat) (h : k < l.length) (hd : isDig (l.getD k 0) = false) : l.all isDig = false := by
  rw [List.all_eq_false]
  refine ⟨l.getD k 0, ?_, by rw [hd]; decide⟩
  rw [List.getD_eq_getElem?_getD, List.getElem?_eq_getElem h]
  exact List.getElem_mem h
theorem val_fold : ∀ (l : List UInt8) (n : Nat), l.all isDig = true → l.foldl (fun n c => n * 10 + (c.toNat - 48)) n < (n + 1) * 10 ^ l.length
  | [], n, _ => by simp
  | c :: l, n, h => by
    simp only [List.all_cons, Bool.and_eq_true] at h
    have hc : c.toNat ≤ 57 := by have := h.1; simp [isDig] at this; omega
    have h1 := val_fold l (n * 10 + (c.toNat - 48)) h.2
    rw [List.foldl_cons, List.length_cons, Nat.pow_succ]
    refine Nat.lt_of_lt_of_le h1 ?_
    rw [Nat.mul_comm (10 ^ l.length) 10, ← Nat.mul_assoc]
    exact Nat.mul_le_mul_right _ (by omega)
theorem valL_lt (l : List UInt8) (h : l.all isDig = true) : valL l < 10 ^ l.length := by
  have := val_fold l 0 h
  simpa [valL] using this
theorem valL_take_lt (l : List UInt8) (k : Nat) (hk : k ≤ 17) (h : k ≤ l.length) (ha : (l.take k).all isDig = true) : valL (l.take k) < 100000000000000000 := by
  have h1 := valL_lt _ ha
  rw [List.length_take, Nat.min_eq_left h] at h1
  have : 10 ^ k ≤ 10 ^ 17 := Nat.pow_le_pow_right (by decide) hk
  exact Nat.lt_of_lt_of_le h1 this
theorem bad_of (l : List UInt8) (h : l.length < 1 ∨ 18 < l.length ∨ (1 < l.length ∧ bAt l 0 = 48) ∨ l.all isDig = false) : badL l = true := by
  unfold badL
  rcases h with h | h | h | h
  · have : decide (1 ≤ l.length) = false := decide_eq_false (by omega)
    rw [this]; simp
  · have : decide (l.length ≤ 18) = false := decide_eq_false (by omega)
    rw [this]; simp
  · have e1 : decide (l.length ≤ 1) = false := decide_eq_false (by omega)
    have e2 : (bAt l 0 != 48) = false := by rw [h.2]; decide
    rw [e1, e2]; simp
  · rw [h]; simp
theorem good_of (l : List UInt8) (h1 : 1 ≤ l.length) (h2 : l.length ≤ 18) (h3 : l.length ≤ 1 ∨ bAt l 0 ≠ 48) (h4 : l.all isDig = true) : badL l = false := by
  unfold badL
  rw [h4, decide_eq_true h1, decide_eq_true h2]
  rcases h3 with h | h
  · rw [decide_eq_true h]; simp
  · have : (bAt l 0 != 48) = true := by simpa using h
    rw [this]; simp

/-! ### a number's digits -/
def printL (n : Int) : List UInt8 := if n < 0 then [] else Lib.decDigits n.toNat
theorem dec_small (u : Nat) (h : u < 10) : Lib.decDigits u = [UInt8.ofNat (48 + u)] := by rw [Lib.decDigits, dif_pos h]
theorem dec_big (u : Nat) (h : ¬ u < 10) : Lib.decDigits u = Lib.decDigits (u / 10) ++ Lib.decDigits (u % 10) := by
  rw [Lib.decDigits, dif_neg h, dec_small (u % 10) (by omega)]
theorem dig_nat (d : Nat) (h : d < 10) : (UInt8.ofNat (48 + d)).toNat = 48 + d := by
  rw [UInt8.toNat_ofNat']; omega
theorem dec_back (u : Nat) : valL (Lib.decDigits u) = u ∧ (Lib.decDigits u).all isDig = true ∧ 1 ≤ (Lib.decDigits u).length ∧ (10 ≤ u → 49 ≤ bAt (Lib.decDigits u) 0) ∧ (1 ≤ u → 10 ^ ((Lib.decDigits u).length - 1) ≤ u) ∧ (1 ≤ u → 49 ≤ bAt (Lib.decDigits u) 0) := by
  induction u using Nat.strongRecOn with
  | _ u ih =>
    by_cases h : u < 10
    · rw [dec_small u h]
      have e := dig_nat u h
      refine ⟨?_, ?_, by simp, fun h1 => by omega, fun h1 => by simpa using h1, fun h1 => ?_⟩
      · simp only [valL, List.foldl_cons, List.foldl_nil, e]; omega
      · simp only [List.all_cons, List.all_nil, Bool.and_true, isDig, e]; simp; omega
      · simp only [bAt, List.getD_cons_zero, e]; omega
    · obtain ⟨i1, i2, i3, i4, i5, i6⟩ := ih (u / 10) (by omega)
      have e := dig_nat (u % 10) (by omega)
      have hx : Lib.decDigits u = Lib.decDigits (u / 10) ++ [UInt8.ofNat (48 + u % 10)] := by rw [dec_big u h, dec_small (u % 10) (by omega)]
      have hb : bAt (Lib.decDigits u) 0 = bAt (Lib.decDigits (u / 10)) 0 := by
        rw [hx]; unfold bAt
        rw [List.getD_eq_getElem?_getD, List.getD_eq_getElem?_getD, List.getElem?_append_left (by omega)]
      refine ⟨?_, ?_, by rw [hx]; simp, fun _ => by rw [hb]; exact i6 (by omega), fun _ => ?_, fun _ => by rw [hb]; exact i6 (by omega)⟩
      · rw [hx, valL_snoc, i1, e]; omega
      · rw [hx, List.all_append, i2]; simp only [List.all_cons, List.all_nil, Bool.and_true, isDig, e]; simp; omega
      · rw [hx, List.length_append, List.length_singleton]
        obtain ⟨q, hq⟩ : ∃ q, (Lib.decDigits (u / 10)).length = q + 1 := ⟨_, (Nat.sub_add_cancel i3).symm⟩
        have := i5 (by omega)
        rw [hq] at this ⊢
        simp only [Nat.add_sub_cancel] at this ⊢
        rw [Nat.pow_succ]
        omega

/-- What is printed is read as it was. -/
theorem parse_print (k : Int) (h0 : 0 ≤ k) (h1 : k < 288230376151711744) : parseN (printL k) k = k ∧ parseF (printL k) k = 0 := by
  obtain ⟨u, rfl⟩ := Int.eq_ofNat_of_zero_le h0
  have e : printL (u : Int) = Lib.decDigits u := by unfold printL; rw [if_neg (by omega)]; rfl
  obtain ⟨i1, i2, i3, i4, i5, i6⟩ := dec_back u
  have hbad : badL (Lib.decDigits u) = false := by
    refine good_of _ i3 ?_ ?_ i2
    · rcases Nat.lt_or_ge 18 (Lib.decDigits u).length with h | h
      · by_cases hu : 1 ≤ u
        · have h2 := i5 hu
          have : 10 ^ 18 ≤ 10 ^ ((Lib.decDigits u).length - 1) := Nat.pow_le_pow_right (by decide) (by omega)
          have h3 : (10 : Nat) ^ 18 ≤ u := Nat.le_trans this h2
          have h4 : (10 : Nat) ^ 18 = 1000000000000000000 := by decide
          omega
        · rw [dec_small u (by omega)] at h; simp at h
      · exact h
    · by_cases hu : u < 10
      · left; rw [dec_small u hu]; simp
      · right; have := i4 (by omega); omega
  unfold parseN parseF
  rw [e, hbad, i1]
  simp
end Go.Proofs.YtcfbbgbjlgonpaaGreatDoor
