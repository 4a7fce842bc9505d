/- ObEpA, ObEpL: one text. No condition. -/
import Derived.Test.YthlnoaalhojphaaGreatDoorObSui
import Derived.Outline
/- Epochs: why there is none; labels; a chain's start. No condition. -/
namespace Go.Proofs.YthlnoaalhojphaaGreatDoor
open Go.RowKit
set_option linter.unusedVariables false
theorem whyf_any (A : Option Addr) (n c : Nat) (w : World) : Calls Tryz.prog 51 #[.slice A n c] w fun e w' => e = .returned (.bool ((n : Int) != 32)) ∧ w = w' := by
  go_enter Tryz.func51, Tryz.ntmps51
  go_wp2_with fail
  go_ret
  exact ⟨rfl, rfl⟩
def oddK (x : BRow) : Bool := (x.n : Int) != 32
theorem anyK_snoc (q : BRow → Bool) (L : List BRow) (k : Nat) (x : BRow) (hx : L[k]? = some x) : (L.take (k + 1)).any q = ((L.take k).any q || q x) := by
  rw [List.take_add_one, hx]; simp
set_option maxHeartbeats 400000 in
theorem keyIx_any (A : Option Addr) (n c : Nat) (L : List BRow) (w : World) (h : Sl w A n c 1 (L.map BRow.v)) :
    Calls Tryz.prog 69 #[.slice A n c, .func (.func 51) #[] #[]] w fun e w' => ∃ r, e = .returned (.int .i64 r) ∧ decide (0 ≤ r) = L.any oddK ∧ Gr w w' := by
  have hmax := h.max
  have hcap := h.cap
  have hll : L.length = n := by have := h.len; simpa using this
  have HL := Lib.hid hll
  have HH := Lib.hid h; clear h hll
  go_enter Tryz.func69, Tryz.ntmps69
  go_wp2
  go_loopw [8] (fun i wr => ∃ k : Nat, k ≤ n ∧ i = .int .i64 k ∧ Gr w wr ∧ (L.take k).any oddK = false) (fun i _ => n - (Go.RowKit.intOf i).toNat)
  case atStart => exact ⟨0, Nat.zero_le _, rfl, Gr.refl _, rfl⟩
  case round =>
    obtain ⟨k, hk, rfl, hbel, hall⟩ := hrel
    have HA := Lib.hid hall; have HB := Lib.hid hbel; clear hall
    by_cases hlt : k < n
    · obtain ⟨b, o, rfl, hcc⟩ := (HH.out.mono hbel).addr (by omega)
      have hkl : k < L.length := by rw [HL.out]; exact hlt
      obtain ⟨⟨xa, xn, xc, xl⟩, hx⟩ : ∃ x, L[k]? = some x := ⟨_, List.getElem?_eq_getElem hkl⟩
      have c1 : wr.cell? ⟨b, o + k, none⟩ = some (.slice xa xn xc) := hcc k _ (by rw [List.getElem?_map, hx]; rfl)
      have HS := Lib.hid (anyK_snoc oddK L k _ hx)
      have HT : Hid (oddK ⟨xa, xn, xc, xl⟩ = true → L.any oddK = true) := fun hh => List.any_eq_true.2 ⟨_, List.mem_of_getElem? hx, hh⟩
      have HC := Lib.hid (fun W => whyf_any xa xn xc W)
      clear hcc hkl hbel hx
      cases he : ((xn : Int) != 32)
      · have HT2 : Hid ((L.take (k + 1)).any oddK = false) := by show _ = _; rw [HS.out, HA.out]; exact he
        rw [he] at HC
        clear he
        go_wp2_with (go_at_call 51; refine (HC.out _).mono ?_; rintro e w1 ⟨rfl, rfl⟩)
        go_roundw
        case rel => exact ⟨k + 1, by omega, by go_num, by first | exact HB.out | exact HB.out.trans (Gr.drew _), HT2.out⟩
        case measure => simp [Go.RowKit.intOf]; omega
      · have HF : Hid (L.any oddK = true) := HT.out he
        rw [he] at HC
        clear he
        go_wp2_with (go_at_call 51; refine (HC.out _).mono ?_; rintro e w1 ⟨rfl, rfl⟩)
        go_ret
        exact ⟨k, rfl, by rw [HF.out, decide_eq_true_iff]; omega, by first | exact HB.out | exact HB.out.trans (Gr.drew _)⟩
    · obtain rfl : n = k := by omega
      have HF : Hid (L.any oddK = false) := by have := HA.out; rwa [List.take_of_length_le (by rw [HL.out]; omega)] at this
      clear hbel
      go_wp2
      go_ret
      exact ⟨-1, rfl, by rw [HF.out]; rfl, HB.out⟩
theorem keyCont_any (A : Option Addr) (n c : Nat) (L : List BRow) (w : World) (h : Sl w A n c 1 (L.map BRow.v)) :
    Calls Tryz.prog 52 #[.slice A n c, .func (.func 51) #[] #[]] w fun e w' => e = .returned (.bool (L.any oddK)) ∧ Gr w w' := by
  have HI := Lib.hid (keyIx_any A n c L w h)
  clear h
  go_enter Tryz.func52, Tryz.ntmps52
  go_wp2_with fail
  refine HI.out.mono ?_
  rintro e w1 ⟨r, rfl, hr, g1⟩
  have HR := Lib.hid hr; have G1 := Lib.hid g1; clear hr g1
  go_wp2_with fail
  go_ret
  exact ⟨ret_bool HR.out, G1.out⟩
/-- Why there is no epoch: of a number of senders, and keys. -/
def whyL (snd : Int) (L : List BRow) : Int := if snd < 1 ∨ 4 < snd then 2 else if L.any oddK = true then 4 else 0
set_option maxHeartbeats 400000 in
theorem why_any (p : Nat) (snd : Int) (A : Option Addr) (n c : Nat) (L : List BRow) (w : World) (h : Sl w A n c 1 (L.map BRow.v)) :
    Calls Tryz.prog 25 #[.pointer (some ⟨p, 0, none⟩), .int .i64 snd, .slice A n c] w fun e w' => e = .returned (.int .i64 (whyL snd L)) ∧ Gr w w' := by
  unfold whyL
  have HC := Lib.hid (keyCont_any A n c L w h)
  clear h
  by_cases h1 : snd < 1
  · rw [if_pos (.inl h1)]
    clear HC
    go_enter Tryz.func25, Tryz.ntmps25
    go_wp2_with fail
    go_ret
    exact ⟨rfl, by first | exact Gr.refl _ | exact Gr.drew _⟩
  by_cases h2 : 4 < snd
  · rw [if_pos (.inr h2)]
    clear HC
    go_enter Tryz.func25, Tryz.ntmps25
    go_wp2_with fail
    go_ret
    exact ⟨rfl, by first | exact Gr.refl _ | exact Gr.drew _⟩
  rw [if_neg (by omega)]
  cases he : L.any oddK
  · rw [he] at HC
    rw [if_neg (by decide)]
    clear he
    go_enter Tryz.func25, Tryz.ntmps25
    go_wp2_with fail
    refine HC.out.mono ?_
    rintro e w1 ⟨rfl, g1⟩
    have G1 := Lib.hid g1; clear g1
    go_wp2_with fail
    go_ret
    exact ⟨rfl, G1.out⟩
  · rw [he] at HC
    rw [if_pos rfl]
    clear he
    go_enter Tryz.func25, Tryz.ntmps25
    go_wp2_with fail
    refine HC.out.mono ?_
    rintro e w1 ⟨rfl, g1⟩
    have G1 := Lib.hid g1; clear g1
    go_wp2_with fail
    go_ret
    exact ⟨rfl, G1.out⟩
theorem whyNil_any (snd : Int) (v : Value) (w : World) : Calls Tryz.prog 25 #[.pointer none, .int .i64 snd, v] w fun e w' => e = .returned (.int .i64 1) ∧ w = w' := by
  go_enter Tryz.func25, Tryz.ntmps25
  go_wp2_with fail
  go_ret
  exact ⟨rfl, rfl⟩
def senderS (k : Nat) : List UInt8 := [115, 101, 110, 100, 101, 114, 32] ++ Lib.decDigits k
theorem senderS_str (i : Nat) : (({ data := #[115, 101, 110, 100, 101, 114, 32] } : ByteArray) ++ { data := (Lib.decDigits i).toArray }) = ⟨(senderS i).toArray⟩ := by
  apply ByteArray.ext
  simp [senderS, ByteArray.data_append]
theorem label_any (k : Nat) (hk : k < 100) (w : World) : Calls Tryz.prog 23 #[.int .i64 (k : Int)] w fun e w' => e = .returned (.string ⟨(senderS k).toArray⟩) ∧ w = w' := by
  have HN := Lib.hid (printS_any k hk w)
  have HS := Lib.hid (senderS_str k)
  have hg : ¬ 9223372036854775807 < 7 + (Lib.decDigits k).length := by have := dec_len2 k hk; omega
  go_enter Tryz.func23, Tryz.ntmps23
  go_wp2_with fail
  refine HN.out.mono ?_
  rintro e w1 ⟨rfl, h1⟩
  obtain rfl : w1 = w := h1
  go_wp2_with fail
  rw [HS.out]
  go_ret
  exact ⟨rfl, rfl⟩
/-- A chain's start, its bytes the call's own. -/
theorem startO_any (A : Option Addr) (n c : Nat) (k : List UInt8) (w : World) (h : Bs w A n c k) (hn : n ≤ 50000) :
    Calls Tryz.prog 29 #[.slice A n c] w fun e w' => ∃ v, e = .returned (.agg #[.int .i64 0, v, .slice none 0 0]) ∧ Own w w' 5 1 v k.length (k.map u8c) := by
  have hb0 : Below w.heap.size w (w.alloc (.cells #[.int .i64 0, .slice none 0 0, .slice none 0 0] 50)) := (Below.refl _ _).alloc (Nat.le_refl _) _
  have HC := Lib.hid (clone_any A n c k _ (h.mono hb0) (by omega))
  have HB0 := Lib.hid hb0; clear h hb0
  go_enter Tryz.func29, Tryz.ntmps29
  go_wp2_with (first
    | (go_at_call 50; refine HC.out.mono ?_; rintro e w1 ⟨v1, rfl, own1⟩; obtain ⟨A1, c1, rfl, s1⟩ := own1.slice; have O1 := Lib.hid own1; have BK : Hid (Blk w1 w.heap.size 50 [.int .i64 0, .slice none 0 0, .slice none 0 0]) := (Blk.new w _ _).mono own1.below; have S1 := Lib.hid s1; clear own1 s1)
    | (refine wpList_store_ch rfl (.tmp 2) (.tmp 5) rfl w.heap.size 0 A1 none k.length c1 0 0 rfl rfl BK.out ?_))
  have hB1 : Below w.heap.size w w1 := below_both HB0.out O1.out.below
  have hB2 : Below w.heap.size w (w1.setRow w.heap.size #[.int .i64 0, .slice A1 k.length c1, .slice none 0 0]) := below_row hB1 (Nat.le_refl _) _
  have hN : (w1.setRow w.heap.size #[.int .i64 0, .slice A1 k.length c1, .slice none 0 0]).heap[w.heap.size]? = some (.cells #[.int .i64 0, .slice A1 k.length c1, .slice none 0 0] 50 (0, 0)) := setRow_heap w1 w.heap.size _ _ _ _ BK.out
  have hO : Own w (w1.setRow w.heap.size #[.int .i64 0, .slice A1 k.length c1, .slice none 0 0]) 5 1 (.slice A1 k.length c1) k.length (k.map u8c) := by
    obtain ⟨⟨h1, h2⟩, _⟩ := O1.out
    refine ⟨⟨h1, ?_⟩, hB2⟩
    rcases h2 with h | ⟨g, cap, cu, hv, hg, hh, r⟩
    · exact .inl h
    · have hne : g ≠ w.heap.size := by simp at hg; omega
      exact .inr ⟨g, cap, cu, hv, by simp at hg; omega, by rw [setRow_other w1 w.heap.size g _ hne]; exact hh, r⟩
  exact bodyPost_ret (v := .agg #[.int .i64 0, .slice A1 k.length c1, .slice none 0 0]) (results_cell_row Tryz.results29 _ _ w.heap.size 50 _ (0, 0) _ rfl hN Tryz.underlying50 rfl chSize) rfl ⟨_, rfl, hO⟩
/-- The closure that derives. -/
theorem bornf_any {w0 w : World} {p : Nat} (S : Sui w0 p) (s : S.σ) (m : Nat) (q1 q2 : Nat) (v : Value) (k l : List UInt8) (h : S.St w s (m + 1)) (hk : Kp w0 w v k) (h1 : w.cell? ⟨q1, 0, none⟩ = some (.pointer (some ⟨p, 0, none⟩))) (h2 : w.cell? ⟨q2, 0, none⟩ = some v) (hkl : k.length ≤ 100) (hl : l.length ≤ 100) :
    Calls Tryz.prog 28 #[.string ⟨l.toArray⟩, .pointer (some ⟨q1, 0, none⟩), .pointer (some ⟨q2, 0, none⟩)] w (RetK w0 S.St w (S.dv s k l) m) := by
  obtain ⟨A, c, rfl, hb, _⟩ := hk.at (S.below h)
  have HD := Lib.hid (S.derive w s m A k.length c k l h hb hkl hl)
  clear h hk hb
  go_enter Tryz.func28, Tryz.ntmps28
  go_wp2_with fail
  refine HD.out.mono ?_
  rintro e w1 ⟨v1, rfl, k1, s1, f1⟩
  have K1 := Lib.hid k1; have S1 := Lib.hid s1; have F1 := Lib.hid f1; clear k1 s1 f1
  go_wp2_with fail
  go_ret
  exact ⟨v1, rfl, K1.out, S1.out, F1.out⟩
end Go.Proofs.YthlnoaalhojphaaGreatDoor
/- Epochs: what a birth is made of, and what stays while it is made. No condition. -/
namespace Go.Proofs.YthlnoaalhojphaaGreatDoor
open Go.RowKit
set_option linter.unusedVariables false
/-- The first blocks of a world. -/
def cutW (w : World) (n : Nat) : World := { w with heap := w.heap.extract 0 n }
theorem cutW_size {w : World} {n : Nat} (h : n ≤ w.heap.size) : (cutW w n).heap.size = n := by simp [cutW]; omega
theorem cutW_at {w : World} {n k : Nat} (h : k < n) (hn : n ≤ w.heap.size) : (cutW w n).heap[k]? = w.heap[k]? := by
  simp [cutW, Array.getElem?_extract]; omega
theorem cutW_below {w : World} {n : Nat} (h : n ≤ w.heap.size) : Below n (cutW w n) w := ⟨rfl, rfl, rfl, by rw [cutW_size h]; exact h, fun k hk => (cutW_at hk h).symm⟩
theorem below_cut {w w' : World} {n : Nat} (h : n ≤ w.heap.size) (hb : Below n (cutW w n) w') (hs : w.heap.size ≤ w'.heap.size) : Below n w w' := ⟨hb.os, hb.tape, hb.output, hs, fun k hk => (hb.block k hk).trans (cutW_at hk h)⟩
theorem ownsRow_of_blk {w w' : World} {B : Nat} {e : TypeId} {s n : Nat} {v : Value} {xs : List Value} (h : ∀ g cs, Blk w g e cs → Blk w' g e cs) (ho : w.ownsRow B e s v n xs) : w'.ownsRow B e s v n xs := by
  refine ⟨ho.1, ?_⟩
  rcases ho.2 with q | ⟨g, cap, cur, hv, hg, hh, r⟩
  · exact .inl q
  · refine .inr ⟨g, cap, cur, hv, hg, ?_, r⟩
    have hk : Blk w g e cur.toList := by unfold Blk; rw [Array.toArray_toList]; exact hh
    have := h g cur.toList hk
    unfold Blk at this
    rw [Array.toArray_toList] at this
    exact this
theorem ownsRow_less {w : World} {B B' : Nat} {e : TypeId} {s n : Nat} {v : Value} {xs : List Value} (h : B' ≤ B) (ho : w.ownsRow B e s v n xs) : w.ownsRow B' e s v n xs := by
  refine ⟨ho.1, ?_⟩
  rcases ho.2 with q | ⟨g, cap, cur, hv, hg, r⟩
  · exact .inl q
  · exact .inr ⟨g, cap, cur, hv, by omega, r⟩
/-- What the caller keeps: blocks ahead of B, of other cells than a table's. -/
def FN (B : Nat) (w w' : World) : Prop := ∀ g t cs, g < B → t ≠ 108 → t ≠ 20 → t ≠ 3 → Blk w g t cs → Blk w' g t cs
theorem FN.fs {B : Nat} {w w' : World} (h : FS w w') : FN B w w' := fun g t cs _ h1 h2 h3 hb => h g t cs h1 h2 h3 hb
theorem FN.below {B : Nat} {w w' : World} (h : Below B w w') : FN B w w' := fun g t cs hg _ _ _ hb => (h.block g hg).trans hb
theorem FN.trans {B : Nat} {a b c : World} (h : FN B a b) (k : FN B b c) : FN B a c := fun g t cs hg h1 h2 h3 hb => k g t cs hg h1 h2 h3 (h g t cs hg h1 h2 h3 hb)
theorem FN.toFs {w w' : World} (h : FN w.heap.size w w') : FS w w' := fun g t cs h1 h2 h3 hb => h g t cs hb.lt h1 h2 h3 hb
theorem OC.trans {a b c : World} (h : OC a b) (k : OC b c) : OC a c := ⟨Nat.le_trans h.1 k.1, fun x hx h1 h2 h3 => by
  have e := h.2 x hx h1 h2 h3
  exact (k.2 x (Nat.lt_of_lt_of_le hx h.1) (fun cs q => by rw [e]; exact h1 cs q) (fun cs q => by rw [e]; exact h2 cs q) (fun cs q => by rw [e]; exact h3 cs q)).trans e⟩
/-- A block of these types is turned. -/
theorem OC.one {w w' : World} {p : Nat} {t : TypeId} {cs : List Value} (ht : t = 50 ∨ t = 30 ∨ t = 102) (hp : Blk w p t cs) (hs : w.heap.size ≤ w'.heap.size) (h : ∀ b, b < w.heap.size → b ≠ p → w'.heap[b]? = w.heap[b]?) : OC w w' := ⟨hs, fun b hb h1 h2 h3 => h b hb (fun e => by
  subst e
  rcases ht with rfl | rfl | rfl
  · exact h1 _ _ hp
  · exact h2 _ _ hp
  · exact h3 _ _ hp)⟩
theorem OC.push {w w' : World} {B : Nat} {t : TypeId} {s n : Nat} {v v' : Value} {xs : List Value} (ht : t = 50 ∨ t = 30 ∨ t = 102) (ho : w.ownsRow B t s v n xs) (h : Kept w w' v v') : OC w w' := ⟨h.2.1, fun b hb h1 h2 h3 => h.1 b hb (fun e => by
  rcases ho.2 with ⟨hv, _⟩ | ⟨g, cap, cur, hv, _, hh, _⟩
  · rw [hv] at e; cases e
  · rw [hv] at e
    injection e with e
    subst e
    rcases ht with rfl | rfl | rfl
    · exact h1 _ _ hh
    · exact h2 _ _ hh
    · exact h3 _ _ hh)⟩
/-- A chain's cells, at its start. -/
def chC (x : BRow) : List Value := [.int .i64 0, x.v, .slice none 0 0]
theorem chC_len (x : BRow) : (chC x).length = 3 := rfl
theorem chC_one (x : BRow) : ∀ u ∈ chC x, u.oneCell' = true := by intro u hu; simp [chC, BRow.v] at hu; rcases hu with rfl | rfl | rfl <;> rfl
theorem tChain : ElemT Tryz.prog 28 50 (.agg #[.int .i64 0, .slice none 0 0, .slice none 0 0]) 3 56 := ⟨Tryz.underlying28, by kernel_rfl, rfl, by decide, by decide⟩
/-- What is born. -/
structure Brt where
  ex : List UInt8
  ini : List UInt8
  ch : List (List UInt8)
def exS : List UInt8 := [101, 120, 112, 111, 114, 116]
def inS : List UInt8 := [105, 110, 105, 116]
def joinS : List UInt8 := [106, 111, 105, 110]
section
variable {w0 : World} {p : Nat}
def chS (S : Sui w0 p) (k : List UInt8) (s : S.σ) : Nat → S.σ × List (List UInt8)
  | 0 => (s, [])
  | n + 1 => let r := chS S k s n; let d := S.dv r.1 k (senderS n); (d.1, r.2 ++ [d.2])
def bornS (S : Sui w0 p) (s : S.σ) (k : List UInt8) (snd : Nat) : S.σ × Brt :=
  let a := S.dv s k exS
  let b := S.dv a.1 k inS
  let c := chS S k b.1 snd
  (c.1, ⟨a.2, b.2, c.2⟩)
def firstS (S : Sui w0 p) (s : S.σ) (k : List UInt8) (snd : Nat) : S.σ × Brt := let a := S.dv s k joinS; bornS S a.1 a.2 snd
def nextS (S : Sui w0 p) (s : S.σ) (i k : List UInt8) (snd : Nat) : S.σ × Brt := let a := S.mx s i k; firstS S a.1 a.2 snd
theorem chS_len (S : Sui w0 p) (k : List UInt8) (s : S.σ) : ∀ n, (chS S k s n).2.length = n
  | 0 => rfl
  | n + 1 => by show (_ ++ [_]).length = _; rw [List.length_append, chS_len S k s n]; rfl
/-- A row of chains, each at its start. -/
def Chs (w0 : World) (B : Nat) (w : World) (vc : Value) (M : List BRow) : Prop := w.ownsRow B 50 3 vc M.length (M.flatMap chC) ∧ ∀ x ∈ M, x.n = 32 ∧ Kp w0 w x.v x.l
/-- What a birth ends in. -/
def RetB (S : Sui w0 p) (w : World) (r : S.σ × Brt) (m : Nat) (e : Ending) (w' : World) : Prop :=
  ∃ ve vi vc M, e = .returned (.tuple #[.agg #[ve, vi, vc], .int .i64 0]) ∧ Kp w0 w' ve r.2.ex ∧ Kp w0 w' vi r.2.ini ∧ Chs w0 w.heap.size w' vc M ∧ M.map BRow.l = r.2.ch ∧ S.St w' r.1 m ∧ FS w w'
theorem Chs.fs {B : Nat} {w w' : World} {vc : Value} {M : List BRow} (h : Chs w0 B w vc M) (f : FS w w') : Chs w0 B w' vc M := ⟨ownsRow_of_blk (fun g cs hb => f g _ cs (by decide) (by decide) (by decide) hb) h.1, fun x hx => ⟨(h.2 x hx).1, (h.2 x hx).2.fr (FR.fs f)⟩⟩
/-- Another block is turned. -/
theorem Chs.far {B : Nat} {w w' : World} {vc : Value} {M : List BRow} (h : Chs w0 B w vc M) (hk : ∀ g cs, Blk w g 50 cs → Blk w' g 50 cs) (f : FR w w') : Chs w0 B w' vc M := ⟨ownsRow_of_blk hk h.1, fun x hx => ⟨(h.2 x hx).1, (h.2 x hx).2.fr f⟩⟩
theorem Chs.nil (B : Nat) (w : World) : Chs w0 B w (.slice none 0 0) [] := ⟨World.ownsRow_nil _ _ _ _, fun x hx => by cases hx⟩
theorem Chs.less {B B' : Nat} {w : World} {vc : Value} {M : List BRow} (h : Chs w0 B w vc M) (hB : B' ≤ B) : Chs w0 B' w vc M := ⟨ownsRow_less hB h.1, h.2⟩
end
/-- A cell of another block is set. -/
theorem blk_set_far {w : World} {p i : Nat} {t t' : TypeId} {cs : List Value} {u : Value} (hp : Blk w p t cs) (hne : t' ≠ t) : ∀ g cs', Blk w g t' cs' → Blk (w.setCell ⟨p, i, none⟩ u) g t' cs' := fun g cs' hb => hb.far (by
  intro e
  have e : g = p := e
  subst e
  have h1 : w.heap[g]? = some (.cells cs.toArray t (0, 0)) := hp
  have h2 : w.heap[g]? = some (.cells cs'.toArray t' (0, 0)) := hb
  rw [h1] at h2
  injection h2 with h2
  injection h2 with _ h2
  exact hne h2.symm) _
end Go.Proofs.YthlnoaalhojphaaGreatDoor
