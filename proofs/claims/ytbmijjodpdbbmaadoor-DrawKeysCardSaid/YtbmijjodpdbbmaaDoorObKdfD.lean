import Derived.Test.YtbmijjodpdbbmaaDoorObKdfE
import Derived.Test.YtbmijjodpdbbmaaDoorObNumW
import Derived.Lib.AppendStr
namespace Go.Proofs.YtbmijjodpdbbmaaDoor
open Go.RowKit Go.Lib
set_option linter.unusedVariables false

def oubS : List UInt8 := [111, 117, 98, 108, 105, 101, 116, 116, 101, 32]
def textL (s : List UInt8) : List UInt8 := oubS ++ s
def infoL (s : List UInt8) : List UInt8 := be 32 2 ++ [UInt8.ofNat (textL s).length] ++ textL s
def deriveL (k s : List UInt8) : List UInt8 := macL k (infoL s ++ [1])
theorem deriveL_len (k s : List UInt8) : (deriveL k s).length = 32 := macL_len _ _

theorem wpList_catS {ops : Array Oper} {rest : List Oper} {o : Oper} {a : Act} {Q : Exit → Act → World → Prop} (hgd : o.guard = none) (s x : Operand)
    (ho : o.op = .call { callee := .builtin .append, args := #[s, x], argTypes := #[22, 9] })
    {w0 w : World} {v : Value} {n : Nat} {xs : List Value} (hs : a.eval s = v) (hown : Own w0 w 5 1 v n xs) {t : ByteArray} (hx : a.eval x = .string t) (hroom : n + t.size ≤ 140737488355328)
    (h : ∀ v' w', Own w0 w' 5 1 v' (n + t.size) (xs ++ strCells t) → wpList Tryd.prog ops Q rest (a.put o.dst v') w') : wpList Tryd.prog ops Q (o :: rest) a w := by
  obtain ⟨i, hi, hz, hsz, hby⟩ := info_parts tBytes.info
  refine wpList_append_own_string w hgd s x 22 9 ho w0.heap.size 5 i tBytes.und Tryd.underlying9 hi hz hsz hby v n xs hs hown.1 t hx (by simp only [maxLen]; omega) hroom hown.2.size ?_
  intro v' w' h2 h3 _
  exact h v' w' ⟨h2, hown.2.grown h3 hown.2.size (fun k hk => (hown.1.lt k hk).1)⟩
theorem text_cells (s : List UInt8) : strCells (({ data := #[111, 117, 98, 108, 105, 101, 116, 116, 101, 32] } : ByteArray) ++ { data := s.toArray }) = (textL s).map u8c := by
  unfold strCells textL oubS
  have : (({ data := #[111, 117, 98, 108, 105, 101, 116, 116, 101, 32] } : ByteArray) ++ { data := s.toArray }).data.toList = [111, 117, 98, 108, 105, 101, 116, 116, 101, 32] ++ s := by
    simp [ByteArray.data_append]
  rw [this]
  rfl
theorem text_size (s : List UInt8) : (({ data := #[111, 117, 98, 108, 105, 101, 116, 116, 101, 32] } : ByteArray) ++ { data := s.toArray }).size = 10 + s.length := by
  rw [ByteArray.size_append]; rfl
theorem textL_len (s : List UInt8) : (textL s).length = 10 + s.length := by unfold textL oubS; rw [List.length_append]; rfl
theorem infoL_len (s : List UInt8) : (infoL s).length = 13 + s.length := by unfold infoL; rw [List.length_append, textL_len]; simp [be]; omega
theorem info_cells (s : List UInt8) : (be 32 2).map u8c ++ [.int .u8 ((10 + (s.length : Int)) % 256)] ++ (textL s).map u8c = (infoL s).map u8c := by
  unfold infoL
  rw [List.map_append, List.map_append, List.map_cons, List.map_nil, textL_len]
  congr 3
set_option maxRecDepth 100000 in
set_option maxHeartbeats 1000000 in
theorem derive_any (A : Option Addr) (n c : Nat) (k s : List UInt8) (w : World) (hk : Bs w A n c k) (hn : n ≤ 50000) (hs : s.length ≤ 5000) (hK : ShaK w) :
    Calls Tryd.prog 65 #[.slice A n c, .string ⟨s.toArray⟩] w (RetRd w (deriveL k s)) := by
  have HKB := Lib.hid hk; have HK := Lib.hid hK
  clear hk hK
  have SN : Hid (∀ (W : World) (x : Int), Sl (W.alloc (.cells #[.int .u8 x] 5)) (some ⟨W.heap.size, 0, none⟩) 1 1 1 [.int .u8 x]) := by
    intro W x
    refine ⟨by simp, Nat.le_refl _, by simp [maxLen], fun _ => ⟨_, _, rfl, ?_⟩⟩
    intro j u hu
    rw [Nat.zero_add, (Blk.new W _ _).cell]
    exact hu
  go_enter Tryd.func65, Tryd.ntmps65
  go_wp2_with (first
    | (go_at_call 88; refine (put_yes 32 2 _ (by omega) (by omega) (by omega)).mono ?_; rintro e w1 ⟨v1, rfl, own1⟩; have O1 : Hid (Own w w1 5 1 v1 2 ((be 32 2).map u8c)) := own1; clear own1)
    | (at_builtin; refine wpList_cat rfl (.tmp 11) (.tmp 15) 22 rfl tBytes rfl (O1.out.alloc _) rfl (news := [.int .u8 ((10 + (s.length : Int)) % 256)]) (SN.out _ _) (one_int _ _) (by omega) ?_; intro v2 w2 own2; have O2 := Lib.hid own2; clear own2)
    | (at_builtin; refine wpList_catS rfl (.tmp 19) (.tmp 20) rfl rfl O2.out rfl (by rw [text_size]; omega) ?_; intro v3 w3 own3; rw [text_cells, text_size, info_cells] at own3; obtain ⟨A3, k3, rfl, sl3⟩ := own3.slice; have B3 := Lib.hid own3.below; have S3 : Hid (Bs w3 A3 (2 + 1 + (10 + s.length)) k3 (infoL s)) := sl3; clear own3 sl3)
    | (go_at_call 89; refine (expand_any A A3 n c _ k3 k (infoL s) _ (HKB.out.mono B3.out) S3.out hn (by omega) (HK.out.mono B3.out)).mono ?_; rintro e w4 ⟨A4, rfl, s4, b4⟩; have S4 := Lib.hid s4; have B4 : Hid (Below w.heap.size w w4) := below_both B3.out b4; clear s4 b4))
  go_ret
  refine ⟨A4, 32, ?_, ?_, B4.out⟩
  · rw [deriveL_len]; rfl
  · rw [deriveL_len]; exact S4.out
end Go.Proofs.YtbmijjodpdbbmaaDoor
