/- Own texts, one behind the other. No condition. -/
import Derived.Test.YtdkmlmbehlooiaaGreatDoorObPkAG
import Derived.Laws.StructEq
import Derived.Lib.ConvBytes
set_option linter.unusedVariables false
set_option linter.unusedSimpArgs false
namespace Go.Proofs.YtdkmlmbehlooiaaGreatDoor
section
open Go.RowKit
def Rs {α : Type} (f : α → List Value) (s : Nat) (w : World) (A : Option Addr) (n c : Nat) (L : List α) : Prop := L.length = n ∧ Sl w A n c s (L.flatMap f)
section
variable {α : Type} {f : α → List Value} {s : Nat} {w w' : World} {A : Option Addr} {n c : Nat} {L : List α}
theorem Rs.mono (h : Rs f s w A n c L) (hb : Below w.heap.size w w') : Rs f s w' A n c L := ⟨h.1, h.2.mono hb⟩
theorem Rs.cap (h : Rs f s w A n c L) : n ≤ c := h.2.cap
theorem Rs.max (h : Rs f s w A n c L) : c ≤ 9223372036854775807 := h.2.max
theorem Rs.row (h : Rs f s w A n c L) (hf : ∀ x, (f x).length = s) {k : Nat} (hk : k < n) :
 ∃ b o x, A = some ⟨b, o, none⟩ ∧ L[k]? = some x ∧ ∀ j u, (f x)[j]? = some u → w.cell? ⟨b, o + k * s + j, none⟩ = some u := by
 obtain ⟨hl, hs⟩ := h
 obtain ⟨b, o, e, hc⟩ := hs.addr (by omega)
 have hr : L[k]? = some (L[k]'(by omega)) := List.getElem?_eq_getElem (by omega)
 refine ⟨b, o, _, e, hr, fun j u hu => ?_⟩
 have hj : j < s := by have := (List.getElem?_eq_some_iff.1 hu).1; rw [hf] at this; exact this
 rw [Nat.add_assoc]
 exact hc _ _ ((flat_at hf L k j hj _ hr).trans hu)
end
structure Cm where
 g : List UInt8
 e : Int
 i : List UInt8
instance : Inhabited Cm := ⟨⟨[], 0, []⟩⟩
def hit (g : List UInt8) (e : Int) (c : Cm) : Bool := c.g == g && c.e == e
end
section
open Go.RowKit
theorem assert_one {P : Program} {X : TypeId} {fs : Array Field} (hu : P.underlying X = some (.struct fs)) (xT : TypeId) (v : Value) (w : World) : (Instr.typeAssert (.iface X v) xT X false).run P w = .ok v w := by
 simp [Instr.typeAssert, run_underlying hu]
def labelT (T : List Nd) (id : Int) : ByteArray := if outside T.length id then ⟨#[]⟩ else match T[id.toNat - 1]? with
 | some x => if x.k = 2 ∨ x.k = 3 then x.s else ⟨#[]⟩
 | none => ⟨#[]⟩
set_option maxRecDepth 100000 in
set_option maxHeartbeats 1000000 in
theorem label_any (g : Nat) (T : List Nd) (id : Int) (w : World) (h : TRd w g T) (hk : Kinds T) (hid : -9223372036854775808 ≤ id ∧ id ≤ 9223372036854775807) :
 Calls Tryz.prog 174 #[.pointer (some ⟨g, 0, none⟩), .int .i64 id] w fun e w' => e = .returned (.string (labelT T id)) ∧ Gr w w' := by
 have HKC := Lib.hid (kind_any g T id w h hk hid)
 unfold labelT
 unfold kindOf at HKC
 cases ho : outside T.length id with
 | true =>
  rw [ho] at HKC
  clear ho h hk
  simp only [if_true] at HKC
  go_enter Tryz.func174, Tryz.ntmps174
  go_wp2_with fail
  refine HKC.out.mono ?_
  rintro e w1 ⟨rfl, g1⟩
  have G1 := Lib.hid g1; clear g1
  go_wp2_with fail
  go_ret
  exact ⟨rfl, G1.out⟩
 | false =>
  rw [ho] at HKC
  have hin : 1 ≤ id ∧ id ≤ T.length := by unfold outside at ho; simp at ho; omega
  obtain ⟨i, hi⟩ : ∃ i : Nat, id = (i : Int) + 1 := ⟨(id - 1).toNat, by omega⟩
  subst hi
  have hit : i < T.length := by omega
  obtain ⟨x, hx⟩ : ∃ x, T[i]? = some x := ⟨T[i], List.getElem?_eq_getElem hit⟩
  have e2 : ((i : Int) + 1).toNat - 1 = i := by omega
  rw [e2, hx] at HKC ⊢
  obtain ⟨A, c, hc, hs⟩ := h
  obtain ⟨b, o, rfl, hcc⟩ := Sl.addr hs (by omega)
  have hcell : w.cell? ⟨b, o + i, none⟩ = some x.cell := hcc i _ (by rw [List.getElem?_map, hx]; rfl)
  have hkx := hk x (List.mem_of_getElem? hx)
  have HF : Hid (∀ wq, Gr w wq → wq.cell? ⟨g, 0, none⟩ = some (.slice (some ⟨b, o, none⟩) T.length c) ∧ wq.cell? ⟨b, o + i, none⟩ = some x.cell) := fun wq hq => ⟨(Below.cell hq (World.block_lt_of_cell? w _ hc)).trans hc, (Below.cell hq (World.block_lt_of_cell? w _ hcell)).trans hcell⟩
  have hmx := hs.max
  have hcp := hs.cap
  clear hs hcc hc hcell hx e2 ho hk
  unfold Nd.cell at HF
  obtain ⟨xk, xa, xb, xs, xn⟩ := x
  simp only [Bool.false_eq_true, if_false] at HF hkx HKC ⊢
  have a2 := fun v w => assert_one (P := Tryz.prog) Tryz.underlying224 20 v w
  have a3 := fun v w => assert_one (P := Tryz.prog) Tryz.underlying227 20 v w
  have q2 : ∀ w, (Instr.field 224 (.agg #[.string xs]) 0).run Tryz.prog w = .ok (.string xs) w := fun w => by kernel_rfl
  have q3 : ∀ w, (Instr.field 227 (.agg #[.int .i64 (xa : Int), .string xs]) 1).run Tryz.prog w = .ok (.string xs) w := fun w => by kernel_rfl
  have hkk : xk = 1 ∨ xk = 2 ∨ xk = 3 ∨ xk = 4 ∨ xk = 5 := by omega
  rcases hkk with rfl | rfl | rfl | rfl | rfl
  all_goals
   simp only [reduceIte, Nat.reduceEqDiff, or_false, or_self] at HF ⊢
   clear hkx hin hid
   go_enter Tryz.func174, Tryz.ntmps174
   go_wp2_with fail
   refine HKC.out.mono ?_
   rintro e w1 ⟨rfl, g1⟩
   obtain ⟨f0, f1⟩ := HF.out w1 g1
   have G1 := Lib.hid g1; clear g1
   go_wp2_with fail
   go_ret
   exact ⟨rfl, G1.out⟩
end
section
open Go.RowKit
def heldT (T : List Nd) (id : Nat) : List UInt8 := if kindOf T id = 2 then (labelT T id).data.toList else handleL id
def sealT (T : List Nd) (key text : List UInt8) : List Nd × Nat := pairT (ofT (ofT T key).1 text).1 5 ((ofT T key).2 : Int) ((ofT (ofT T key).1 text).2 : Int)
def sealB (T : List Nd) (key text : List UInt8) : List UInt8 := padL (handleL (sealT T key text).2) (text.length + 48)
def openT (T : List Nd) (key b : List UInt8) : Option (List UInt8) :=
 if b.length < 48 ∨ 60048 < b.length then none
 else if kindOf T (termB T (b.take 32)) ≠ 5 ∨ b ≠ padL (handleL (termB T (b.take 32))) b.length then none
 else match partsOf T (termB T (b.take 32)) with
  | [p, q] => if heldT T p = key ∧ (heldT T q).length + 48 = b.length then some (heldT T q) else none
  | _ => none
theorem put_len (T : List Nd) (x : Nd) (ids : List Int) : (putT T x ids).1.length ≤ T.length + 1 := by
 unfold putT
 split
 · exact Nat.le_succ _
 · split
   · exact Nat.le_succ _
   · show (T ++ [x]).length ≤ _
     rw [List.length_append]
     exact Nat.le_refl _
theorem of_len (T : List Nd) (b : List UInt8) : (ofT T b).1.length ≤ T.length + 1 := by
 unfold ofT
 split
 · exact Nat.le_succ _
 · exact put_len T _ _
theorem pair_len (T : List Nd) (k : Nat) (a b : Int) : (pairT T k a b).1.length ≤ T.length + 1 := by
 unfold pairT
 split
 · exact Nat.le_succ _
 · exact put_len T _ _
theorem seal_len (T : List Nd) (key text : List UInt8) : (sealT T key text).1.length ≤ T.length + 3 := by
 have h1 := of_len T key
 have h2 := of_len (ofT T key).1 text
 have h3 := pair_len (ofT (ofT T key).1 text).1 5 ((ofT T key).2 : Int) ((ofT (ofT T key).1 text).2 : Int)
 unfold sealT
 omega
end
section
open Go.RowKit
section
variable {w0 w : World} {p g bm bs : Nat} {T : List Nd}
end
set_option maxHeartbeats 1000000 in
theorem symbolic2_any (w : World) : Calls Tryz.prog 8 #[] w fun e w' => ∃ p g bm bs, e = .returned (.pointer (some ⟨p, 0, none⟩)) ∧ SymS w w' p g bm bs [] ∧ w.heap.size ≤ p ∧ bs ≠ bm ∧ w'.heap[bs]? = some (.map #[] 0) ∧ w.heap.size ≤ bs := by
 have hmm := @run_makeMap Tryz.prog
 go_enter Tryz.func8, Tryz.ntmps8
 go_wp2_with fail
 refine (termNew_any w).mono ?_
 rintro e w1 ⟨g, bm, rfl, hf0, hg0⟩
 have HF := Lib.hid hf0; have HG := Lib.hid hg0
 clear hf0 hg0
 go_wp2_with fail
 go_ret
 have h1 := Gr.alloc w1 (.map #[] 0)
 have h2 := Gr.alloc (w1.alloc (.map #[] 0)) (.cells #[.pointer (some ⟨g, 0, none⟩), .map (some w1.heap.size), .pointer none] 61)
 refine ⟨w1.heap.size + 1, g, bm, w1.heap.size, rfl, ⟨heap_alloc2_new w1 _ _, ⟨_, _, HF.out.gr (h1.trans h2)⟩, TIn.nil⟩, by have := HG.out.size; omega, by have := HF.out.m.lt; omega, (h2.block w1.heap.size (by simp)).trans (heap_alloc_new w1 _), HG.out.size⟩
end
section
open Go.RowKit
theorem boxSize_any (n : Nat) (w : World) (h : n ≤ 1000000) : Calls Tryz.prog 100 #[.int .i64 (n : Int)] w fun e w' => e = .returned (.int .i64 ((n + 48 : Nat) : Int)) ∧ w' = w := by
 have t1 : max (n : Int) 0 = n := by omega
 go_enter Tryz.func100, Tryz.ntmps100
 go_wp2_with fail
 go_ret
 exact ⟨by first | rfl | (congr 2; push_cast; omega) | simp, rfl⟩
theorem doT_enc (T : List Nd) (a b : Int) : doT T 5 a b ByteArray.empty = pairT T 5 a b := by
 unfold doT
 rw [if_neg (by decide), if_neg (by decide), if_neg (by decide), if_neg (by decide)]
theorem sealT_in {T : List Nd} (h : TIn T) (hn : T.length ≤ 900) (key text : List UInt8) (hk : key.length ≤ maxLen) (ht : text.length ≤ maxLen) : TIn (sealT T key text).1 := by
 have h1 := ofT_in h (by omega) key hk
 have h2 := ofT_in h1.1 (by omega) text ht
 have h3 := doT_in h2.1 (by omega) 5 ((ofT T key).2 : Int) ((ofT (ofT T key).1 text).2 : Int) ByteArray.empty (by decide)
 rw [doT_enc] at h3
 exact h3.1
section
variable {w0 w : World} {p g bm bs : Nat} {T : List Nd}
end
end
section
open Go.RowKit
def KZ (bm : Nat) (w w' : World) : Prop := w.heap.size ≤ w'.heap.size ∧ ∀ b, b < w.heap.size → b ≠ bm → (∀ t cs, Blk w b t cs → t ≠ 103 ∧ t ≠ 20 ∧ t ≠ 3) → w'.heap[b]? = w.heap[b]?
theorem KZ.gr {bm : Nat} {w w' : World} (h : Gr w w') : KZ bm w w' := ⟨h.size, fun b hb _ _ => h.block b hb⟩
theorem KZ.trans {bm : Nat} {a b c : World} (h : KZ bm a b) (k : KZ bm b c) : KZ bm a c := ⟨Nat.le_trans h.1 k.1, fun x hx hm ht => by
 have e := h.2 x hx hm ht
 refine (k.2 x (Nat.lt_of_lt_of_le hx h.1) hm (fun t cs q => ht t cs ?_)).trans e
 unfold Blk at q ⊢
 rwa [e] at q⟩
theorem Own.blk_at {w0 w : World} {e : TypeId} {s n : Nat} {v : Value} {xs : List Value} (h : Own w0 w e s v n xs) {b : Nat} (hb : v.ownBlock = some b) : ∃ cs, Blk w b e cs := by
 rcases h.1.2 with ⟨q, _⟩ | ⟨g', cap, cur, hv', _, hh, _⟩
 · rw [q] at hb; cases hb
 · have e1 : g' = b := by rw [hv'] at hb; exact Option.some.inj hb
   subst e1
   exact ⟨cur.toList, by unfold Blk; rw [Array.toArray_toList]; exact hh⟩
theorem KZ.tbl {bm g : Nat} {w0 w w' : World} {T : List Nd} {vl vs vl' vs' : Value} (h : TbF w0 w g T vl vs bm) (c : TChM w w' g bm vl vs vl' vs') : KZ bm w w' := ⟨c.size, fun b hb hm ht => by
 refine c.keep b hb (fun e => ?_) hm (fun e => ?_) (fun e => ?_)
 · subst e; exact (ht _ _ h.x.blk).1 rfl
 · obtain ⟨cs, k⟩ := h.x.l.blk_at e; exact (ht _ _ k).2.1 rfl
 · obtain ⟨cs, k⟩ := h.x.s.blk_at e; exact (ht _ _ k).2.2 rfl⟩
section
variable {w0 w : World} {p g bm bs : Nat} {T : List Nd}
def RetSealZ (w0 w : World) (p g bm bs : Nat) (T : List Nd) (key text : List UInt8) (e : Ending) (w' : World) : Prop :=
 (∃ v, e = .returned v ∧ Own w0 w' 5 1 v (text.length + 48) ((sealB T key text).map u8c)) ∧ SymS w0 w' p g bm bs (sealT T key text).1 ∧ FSt w w' ∧ KZ bm w w'
set_option maxRecDepth 100000 in
set_option maxHeartbeats 2000000 in
theorem SymS.of3 (h : SymS w0 w p g bm bs T) (hn : T.length ≤ 1000) (A : Option Addr) (n c : Nat) (b : List UInt8) (hb : Bs w A n c b) :
 Calls Tryz.prog 184 #[.pointer (some ⟨p, 0, none⟩), .slice A n c] w (fun e w' => RetId w0 w p g bm bs (ofT T b) e w' ∧ KZ bm w w') := by
 have HT := Lib.hid (h.term hn A n c b hb)
 have hl : b.length = n := by have := hb.len; simpa using this
 have hcp := hb.cap; have hmx := hb.max
 have hbl : b.length ≤ maxLen := by simp only [maxLen]; omega
 have HIN := Lib.hid (ofT_in h.i hn b hbl)
 have HS := Lib.hid h; have HB := Lib.hid hb
 unfold ofT
 by_cases h0 : 0 < termB T b
 · rw [if_pos h0]
   have t0 : decide (0 < (termB T b : Int)) = true := decide_eq_true (by omega)
   clear h hb HIN
   generalize termB T b = q at *
   go_enter Tryz.func184, Tryz.ntmps184
   go_wp2_with fail
   refine HT.out.mono ?_
   rintro e w1 ⟨rfl, g1⟩
   have G1 := Lib.hid g1; clear g1
   go_wp2_with fail
   go_ret
   exact ⟨⟨rfl, HS.out.gr G1.out, FSt.gr G1.out⟩, KZ.gr G1.out⟩
 · have hin := HIN.out
   unfold ofT at hin
   rw [if_neg h0] at hin ⊢
   replace HIN := Lib.hid hin
   have e0 : termB T b = 0 := by omega
   rw [e0] at HT
   clear h hb hin h0 e0
   go_enter Tryz.func184, Tryz.ntmps184
   go_wp2_with fail
   refine HT.out.mono ?_
   rintro e w1 ⟨rfl, g1⟩
   have S1 := Lib.hid (HS.out.gr g1)
   have F1 := Lib.hid (FSt.gr g1)
   have K1 := Lib.hid (KZ.gr (bm := bm) g1)
   have c0 : w1.cell? ⟨p, 0, none⟩ = some (.pointer (some ⟨g, 0, none⟩)) := (S1.out.blk.cell 0).trans rfl
   have hcv := run_bytes_string Tryz.underlying36 Tryz.underlying5 Tryz.underlying9 (HB.out.mono (g1.trans (Gr.drew _)))
   clear g1
   go_upto_region 4 with fail
   refine wrP (by kernel_rfl) (fun w' => w' = w1.drew) (fun i => i == 4 || i == 6) (fun i => Nat.ble 7 i) [0, 1, 2, 3, 5, 4, 6] 2 (by kernel_rfl) (by kernel_rfl) (by kernel_rfl) rfl ?_
   iterate 5
    refine wpPre_e rfl rfl ?_
    apply Exists.intro
    refine ⟨fun wq hq => ?_, ?_⟩
    · clear hq
      unfold pLa
      go_simp
      first | exact rfl | exact ⟨rfl, rfl⟩
    go_simp
   iterate 2
    refine wpPre_e rfl rfl ?_
    apply Exists.intro
    refine ⟨fun wq hq => ?_, ?_⟩
    · replace hq := hq rfl
      subst hq
      unfold pLa
      go_simp
      first | exact rfl | exact ⟨rfl, rfl⟩
    go_simp
   refine wpPre_nil ?_
   clear c0 hcv
   obtain ⟨vl, vs, ht⟩ := (S1.out.gr (Gr.drew _)).t
   have HTX := Lib.hid (text_any w0 g T vl vs bm ⟨b.toArray⟩ w1.drew ht (HS.out.i.ok hn) hbl)
   have HTB := Lib.hid ht
   clear ht
   refine wR1 (i := 7) (by kernel_rfl) rfl rfl ?_
   intro K hK
   go_simp
   go_at_call 232
   refine HTX.out.mono ?_
   rintro e w2 ⟨vl', vs', rfl, t2, c2⟩
   have SF := Lib.hid ((S1.out.gr (Gr.drew _)).turn HTB.out t2 c2 HIN.out.1)
   have K2 := Lib.hid (KZ.tbl HTB.out c2)
   refine hK _ _ (fun q => by cases q) ?_
   clear hK t2 c2
   go_simp
   refine wR1 (i := 8) (by kernel_rfl) rfl rfl ?_
   intro K hK
   go_simp
   refine hK _ _ (fun h => by cases h) ?_
   clear hK
   go_simp
   refine wpRest_nil (by kernel_rfl) ?_
   go_wp2_with fail
   go_ret
   exact ⟨⟨rfl, SF.out.1, F1.out.trans ((FSt.gr (Gr.drew _)).trans SF.out.2)⟩, K1.out.trans ((KZ.gr (Gr.drew _)).trans K2.out)⟩
set_option maxRecDepth 100000 in
set_option maxHeartbeats 1000000 in
theorem SymS.draw3 (h : SymS w0 w p g bm bs T) (hn : T.length ≤ 990) :
 Calls Tryz.prog 30 #[.pointer (some ⟨p, 0, none⟩)] w (fun e w' => RetHd w0 w p g bm bs (atomT T) e w' ∧ KZ bm w w') := by
 have HN := Lib.hid h.isNone; have HR := Lib.hid h.isReal
 have c0 := h.c0
 obtain ⟨vl, vs, ht⟩ := h.t
 have HA := Lib.hid (atom_any w0 g T vl vs bm w ht (by omega))
 have HT := Lib.hid ht; have HS := Lib.hid h
 have hl : (atomT T).2 = T.length + 1 := rfl
 clear h ht
 go_enter Tryz.func30, Tryz.ntmps30
 go_wp2_with fail
 refine HN.out.mono ?_
 rintro e w1 ⟨rfl, h1⟩
 subst h1
 go_wp2_with fail
 refine HR.out.mono ?_
 rintro e w1 ⟨rfl, h1⟩
 subst h1
 go_wp2_with fail
 refine HA.out.mono ?_
 rintro e w2 ⟨vl', vs', rfl, t2, c2⟩
 have SF := Lib.hid (HS.out.turn HT.out t2 c2 (atomT_in HS.out.i (by omega)))
 have K2 := Lib.hid (KZ.tbl HT.out c2)
 clear t2 c2
 go_wp2_with fail
 refine (handle_any (atomT T).2 w2 (by omega)).mono ?_
 rintro e w3 ⟨v3, rfl, o3⟩
 rw [handleL_len] at o3
 have O3 := Lib.hid (o3.base SF.out.1.below)
 have S3 := Lib.hid (SF.out.1.gr o3.below)
 have F3 := Lib.hid (SF.out.2.trans (FSt.gr o3.below))
 have K3 := Lib.hid (K2.out.trans (KZ.gr o3.below))
 clear o3
 go_wp2_with fail
 go_ret
 exact ⟨⟨v3, rfl, O3.out, S3.out, F3.out⟩, K3.out⟩
set_option maxRecDepth 100000 in
set_option maxHeartbeats 2000000 in
theorem SymS.seal3 (h : SymS w0 w p g bm bs T) (hn : T.length ≤ 900) (A B : Option Addr) (n c m d : Nat) (key text : List UInt8) (ha : Bs w A n c key) (hb : Bs w B m d text) (hn32 : n = 32) (hm : m ≤ 20000) (HBK : ∀ w', KZ bm w w' → Below w0.heap.size w0 w' → Bs w' B m d text) :
 Calls Tryz.prog 118 #[.pointer (some ⟨p, 0, none⟩), .slice A n c, .slice B m d] w (RetSealZ w0 w p g bm bs T key text) := by
 subst hn32
 have hl : key.length = 32 := by have := ha.len; simpa using this
 have hl2 : text.length = m := by have := hb.len; simpa using this
 have hcp := ha.cap; have hmx := ha.max; have hcp2 := hb.cap; have hmx2 := hb.max
 have hal : key.length ≤ maxLen := by simp only [maxLen]; omega
 have hbl : text.length ≤ maxLen := by simp only [maxLen]; omega
 have HN := Lib.hid h.isNone; have HR := Lib.hid h.isReal
 have HOF := Lib.hid (h.of3 (by omega) A 32 c key ha)
 have HIN := Lib.hid (ofT_in h.i (by omega) key hal)
 have HIN1 := Lib.hid (ofT_in HIN.out.1 (by have := HIN.out.2.2; omega) text hbl)
 have HIN2 := Lib.hid (sealT_in h.i hn key text hal hbl)
 have HK := Lib.hid HBK
 have hid := pairT_id (ofT (ofT T key).1 text).1 5 ((ofT T key).2 : Int) ((ofT (ofT T key).1 text).2 : Int)
 have hid2 : (sealT T key text).2 < 9223372036854775808 := by have := HIN.out.2.2; have := HIN1.out.2.2; unfold sealT; omega
 have HSZ := Lib.hid (fun wr => boxSize_any m wr (by omega))
 have t60 : decide ((60000 : Int) < (m : Int)) = false := decide_eq_false (by omega)
 have HPB : Hid (padS (handleL (sealT T key text).2) ((m + 48 : Nat) : Int) = sealB T key text) := by
  show _ = _
  unfold padS sealB
  rw [if_pos ⟨by omega, by omega⟩, hl2]
  rfl
 have HLB : Hid ((sealB T key text).length = m + 48) := by show _ = _; rw [← hl2]; exact padL_length _ _
 clear h ha hb hid HBK
 go_enter Tryz.func118, Tryz.ntmps118
 go_wp2_with fail
 refine HN.out.mono ?_
 rintro e w1 ⟨rfl, h1⟩
 subst h1
 go_wp2_with fail
 refine HR.out.mono ?_
 rintro e w1 ⟨rfl, h1⟩
 subst h1
 go_wp2_with fail
 refine HOF.out.mono ?_
 rintro e w2 ⟨⟨rfl, s2, f2⟩, k2⟩
 have S2 := Lib.hid s2; have F2 := Lib.hid f2; have K2 := Lib.hid k2
 have HOF2 := Lib.hid ((s2.gr (Gr.drew _)).of3 (by have := HIN.out.2.2; omega) B m d text ((HK.out w2 k2 s2.below).mono (Gr.drew _)))
 have c0 := s2.c0
 clear s2 f2 k2
 go_upto_region 7 with fail
 refine wrP (by kernel_rfl) (fun w' => w'.cell? ⟨p, 0, none⟩ = some (.pointer (some ⟨g, 0, none⟩))) (fun i => i == 4) (fun _ => false) [0, 1, 2, 3, 5, 6, 7, 11, 12, 4] 6 (by kernel_rfl) (by kernel_rfl) (by kernel_rfl) c0 ?_
 iterate 9
  refine wpPre_e rfl rfl ?_
  apply Exists.intro
  refine ⟨fun wq hq => ?_, ?_⟩
  · clear hq
    unfold pLa
    go_simp
    first | exact rfl | exact ⟨rfl, rfl⟩
  go_simp
 refine wpPre_e rfl rfl ?_
 apply Exists.intro
 refine ⟨fun wq hq => ?_, ?_⟩
 · replace hq := hq rfl
   have z0 := hq
   unfold pLa
   go_simp
   first | exact rfl | exact ⟨rfl, rfl⟩
 go_simp
 refine wpPre_nil ?_
 clear c0
 refine wR1 (i := 8) (by kernel_rfl) rfl rfl ?_
 intro K hK
 go_simp
 go_at_call 184
 refine HOF2.out.mono ?_
 rintro e w3 ⟨⟨rfl, s3, f3⟩, k3⟩
 have S3 := Lib.hid s3
 have F3 := Lib.hid (F2.out.trans ((FSt.gr (Gr.drew _)).trans f3))
 have K3 := Lib.hid (K2.out.trans ((KZ.gr (Gr.drew _)).trans k3))
 refine hK _ _ (fun _ => s3.c0) ?_
 clear hK s3 f3 k3
 go_simp
 refine wR1 (i := 9) (by kernel_rfl) rfl rfl ?_
 intro K hK
 go_simp
 go_at_call 185
 obtain ⟨vl, vs, ht⟩ := S3.out.t
 have hok : TOk (ofT (ofT T key).1 text).1 := HIN1.out.1.ok (by have := HIN.out.2.2; have := HIN1.out.2.2; omega)
 refine (enc_any w0 g (ofT (ofT T key).1 text).1 vl vs bm ((ofT T key).2 : Int) ((ofT (ofT T key).1 text).2 : Int) w3 ht hok).mono ?_
 rintro e w4 ⟨vl', vs', rfl, t4, c4⟩
 have SF := Lib.hid (S3.out.turn ht t4 c4 HIN2.out)
 have K4 := Lib.hid (K3.out.trans (KZ.tbl ht c4))
 refine hK _ _ (fun _ => SF.out.1.c0) ?_
 clear hK t4 c4 ht
 go_simp
 refine wR1 (i := 10) (by kernel_rfl) rfl rfl ?_
 intro K hK
 go_simp
 go_at_call 78
 refine (handle_any (sealT T key text).2 w4 hid2).mono ?_
 rintro e w5 ⟨v5, rfl, o5⟩
 rw [handleL_len] at o5
 obtain ⟨A5, c5, rfl, s5⟩ := o5.slice
 have B5 : Hid (Bs w5 A5 32 c5 (handleL (sealT T key text).2)) := s5
 have S5 := Lib.hid (SF.out.1.gr o5.below)
 have F5 := Lib.hid (F3.out.trans (SF.out.2.trans (FSt.gr o5.below)))
 have K5 := Lib.hid (K4.out.trans (KZ.gr o5.below))
 refine hK _ _ (fun _ => S5.out.c0) ?_
 clear hK o5 s5
 go_simp
 refine wR1 (i := 13) (by kernel_rfl) rfl rfl ?_
 intro K hK
 go_simp
 go_at_call 100
 refine (HSZ.out _).mono ?_
 rintro e w6 ⟨rfl, rfl⟩
 refine hK _ _ (fun _ => S5.out.c0) ?_
 clear hK
 go_simp
 refine wR1 (i := 14) (by kernel_rfl) rfl rfl ?_
 intro K hK
 go_simp
 go_at_call 106
 refine (pad_any A5 32 c5 (handleL (sealT T key text).2) ((m + 48 : Nat) : Int) w6 B5.out).mono ?_
 rintro e w7 ⟨v7, rfl, o7⟩
 rw [HPB.out, HLB.out] at o7
 have O7 := Lib.hid (o7.base S5.out.below)
 have S7 := Lib.hid (S5.out.gr o7.below)
 have F7 := Lib.hid (F5.out.trans (FSt.gr o7.below))
 have K7 := Lib.hid (K5.out.trans (KZ.gr o7.below))
 refine hK _ _ (fun _ => S7.out.c0) ?_
 clear hK o7
 go_simp
 refine wR1 (i := 15) (by kernel_rfl) rfl rfl ?_
 intro K hK
 go_simp
 refine hK _ _ (fun _ => S7.out.c0) ?_
 clear hK
 go_simp
 refine wpRest_nil (by kernel_rfl) ?_
 go_wp2_with fail
 go_ret
 exact ⟨⟨v7, rfl, by rw [hl2]; exact O7.out⟩, S7.out, F7.out, K7.out⟩
end
end
section
open Go.RowKit
theorem bTy {w : World} {b : Nat} {t t' : TypeId} {cs cs' : List Value} (h : Blk w b t cs) (k : Blk w b t' cs') : t = t' := by
 unfold Blk at h k
 rw [h] at k
 injection k with k
 injection k
theorem at_lt {w : World} {b : Nat} {o : Obj} (h : w.heap[b]? = some o) : b < w.heap.size := (Array.getElem?_eq_some_iff.1 h).1
theorem Bs.stay {w w' : World} {A : Option Addr} {n c : Nat} {l : List UInt8} (h : Bs w A n c l) (u : ∀ b o, 0 < n → A = some ⟨b, o, none⟩ → w'.heap[b]? = w.heap[b]?) : Bs w' A n c l :=
 ⟨h.1, h.2.1, h.2.2.1, fun h0 => by
  obtain ⟨b, o, e, hc⟩ := h.2.2.2 h0
  exact ⟨b, o, e, fun j x hx => (World.cell?_of_block (w := w) (a := ⟨b, o + j, none⟩) (u b o h0 e)).trans (hc j x hx)⟩⟩
theorem below_two {n : Nat} {w0 w w' : World} (h : Below n w0 w) (h' : Below n w0 w') (hs : w.heap.size ≤ w'.heap.size) : Below 0 w w' :=
 ⟨h'.os.trans h.os.symm, h'.tape.trans h.tape.symm, h'.output.trans h.output.symm, hs, fun k hk => absurd hk (Nat.not_lt_zero _)⟩
theorem Own.stay {w0 w w' : World} {e : TypeId} {s n : Nat} {v : Value} {xs : List Value} (h : Own w0 w e s v n xs) (hb : Below w0.heap.size w0 w') (hs : w.heap.size ≤ w'.heap.size) (hk : ∀ b, v.ownBlock = some b → w'.heap[b]? = w.heap[b]?) : Own w0 w' e s v n xs := by
 refine Own.tch (S := fun b => ¬ (w'.heap[b]? = w.heap[b]?)) h ⟨below_two h.2 hb hs, fun b _ hn => Classical.not_not.1 hn⟩ (fun b hn => ?_) (fun b e hn => hn (hk b e))
 by_cases hlt : w0.heap.size ≤ b
 · exact hlt
 · exact absurd ((hb.block b (by omega)).trans (h.2.block b (by omega)).symm) hn
theorem Own.ge {w0 w : World} {e : TypeId} {s n : Nat} {v : Value} {xs : List Value} (h : Own w0 w e s v n xs) {b : Nat} (hb : v.ownBlock = some b) : w0.heap.size ≤ b := by
 rcases h.1.2 with ⟨h1, _⟩ | ⟨g', cap, cur, hv', hg, hh, _⟩
 · rw [h1] at hb; cases hb
 · rw [hv'] at hb
   have : g' = b := Option.some.inj hb
   omega
theorem SymS.off {S : Nat → Prop} {w0 w w' : World} {p g bm bs : Nat} {T : List Nd} {es : Array MapEntry} {ck : Nat} (h : SymS w0 w p g bm bs T) (k : Tch S w w') (hS : ∀ b, S b → w0.heap.size ≤ b) (hne : bs ≠ bm) (hm : w.heap[bs]? = some (.map es ck))
 (hn : ∀ b, S b → (∃ t cs, Blk w b t cs ∧ t ≠ 61 ∧ t ≠ 103 ∧ t ≠ 20 ∧ t ≠ 3) ∨ b = bs) : SymS w0 w' p g bm bs T := by
 obtain ⟨vl, vs, ht⟩ := h.t
 have key : ∀ b t cs, Blk w b t cs → (t = 61 ∨ t = 103 ∨ t = 20 ∨ t = 3) → ¬ S b := fun b t cs hb ht hs => by
  rcases hn b hs with ⟨t', cs', hb', h1, h2, h3, h4⟩ | rfl
  · have := bTy hb hb'
    subst this
    rcases ht with q | q | q | q
    · exact h1 q
    · exact h2 q
    · exact h3 q
    · exact h4 q
  · unfold Blk at hb
    rw [hb] at hm
    cases hm
 have kbm : ¬ S bm := fun hs => by
  rcases hn bm hs with ⟨t', cs', hb', _⟩ | e
  · exact ht.m.ne_blk hb' rfl
  · exact hne e.symm
 exact ⟨h.blk.tch k (key _ _ _ h.blk (.inl rfl)), ⟨vl, vs, ⟨⟨ht.x.blk.tch k (key _ _ _ ht.x.blk (.inr (.inl rfl))), ht.x.l.tch k hS (fun b hb => by obtain ⟨cs, q⟩ := ht.x.l.blk_at hb; exact key _ _ _ q (.inr (.inr (.inl rfl)))), ht.x.s.tch k hS (fun b hb => by obtain ⟨cs, q⟩ := ht.x.s.blk_at hb; exact key _ _ _ q (.inr (.inr (.inr rfl)))), ht.x.ge, ht.x.gm⟩, ht.m.keep (k.keep bm ht.m.lt kbm)⟩⟩, h.i⟩
theorem SymS.bmap {w0 w : World} {p g bm bs : Nat} {T : List Nd} (h : SymS w0 w p g bm bs T) : ∃ es ck, w.heap[bm]? = some (.map es ck) := by
 obtain ⟨vl, vs, ht⟩ := h.t
 obtain ⟨es, ck, hb, _⟩ := ht.m
 exact ⟨es, ck, hb⟩
end
section
open Go.RowKit
theorem conv2_fn {P : Program} (s : ByteArray) (t : TypeId) (hs : P.underlying 9 = some .string) (hd : P.underlying t = some (.slice 5)) (he : P.underlying 5 = some (.int .u8)) (hm : s.size ≤ maxLen) :
 ∃ (cf : World → Nat) (wf : World → World), ∀ w, (convert 9 t (.string s)).run P w = .ok (.slice (some ⟨w.heap.size, 0, none⟩) s.size (cf w)) (wf w) ∧ Bs (wf w) (some ⟨w.heap.size, 0, none⟩) s.size (cf w) s.data.toList ∧ Gr w (wf w) := by
 refine ⟨fun w => grownCap w s.size 0 5, fun w => Lib.bytesWorld w 5 s, fun w => ⟨Lib.run_convert_string_bytes w 9 t 5 s hs hd he, ⟨by simp, grownCap_ge _ _ _ _, grownCap_le_maxLen _ _ _ _ hm, fun _ => ⟨_, _, rfl, fun j u hu => ?_⟩⟩, ?_⟩⟩
 · rw [Nat.zero_add]
   have hj : j < s.size := by have := (List.getElem?_eq_some_iff.1 hu).1; simpa using this
   rw [Lib.bytesWorld_cell w 5 s j hj, ← hu]
   exact (u8c_at (l := s.data.toList) (by simpa using hj)).symm
 · have h1 := run_bytes_of_string (P := P) w 9 t 5 s hs hd he
   have h2 := Lib.run_convert_string_bytes (P := P) w 9 t 5 s hs hd he
   rw [h1] at h2
   injection h2 with _ h3
   show Below w.heap.size w (Lib.bytesWorld w 5 s)
   rw [← h3]
   exact ((Below.refl _ _).drew).alloc (Nat.le_refl _) _
def RetB (w : World) (l : List UInt8) (e : Ending) (w' : World) : Prop := ∃ A n c, e = .returned (.slice A n c) ∧ Bs w' A n c l ∧ Gr w w'
section
variable {w0 w : World} {p g bm bs : Nat} {T : List Nd}
set_option maxRecDepth 100000 in
set_option maxHeartbeats 2000000 in
theorem SymS.held (h : SymS w0 w p g bm bs T) (id : Nat) (hid : id ≤ 1000) (hsz : ∀ x ∈ T, x.s.size ≤ maxLen) :
 Calls Tryz.prog 108 #[.pointer (some ⟨p, 0, none⟩), .int .i64 (id : Int)] w (RetB w (heldT T id)) := by
 have HK := Lib.hid (kind_any g T (id : Int) w h.rd h.i.kinds ⟨by omega, by omega⟩)
 have HLB := Lib.hid (fun wr (k : Gr w wr) => label_any g T (id : Int) wr (h.rd.mono k) h.i.kinds ⟨by omega, by omega⟩)
 have HH := Lib.hid (fun wr => handle_any id wr (by omega))
 have HC0 := Lib.hid (fun wr (k : Gr w wr) => (h.gr k).c0)
 have c0 := h.c0
 have hs : (labelT T (id : Int)).size ≤ maxLen := by
  unfold labelT
  split
  · exact Nat.zero_le _
  · split
    · next x hx =>
      split
      · exact hsz x (List.mem_of_getElem? hx)
      · exact Nat.zero_le _
    · exact Nat.zero_le _
 unfold heldT
 clear h
 by_cases hk : kindOf T (id : Int) = 2
 · rw [if_pos hk]
   rw [hk] at HK
   generalize labelT T (id : Int) = s at *
   obtain ⟨cf, wf, hcv0⟩ := conv2_fn (P := Tryz.prog) s 36 Tryz.underlying9 Tryz.underlying36 Tryz.underlying5 hs
   have hcv := fun W => (hcv0 W).1
   have HCV := Lib.hid (fun W => (hcv0 W).2)
   clear hcv0 hk hs
   go_enter Tryz.func108, Tryz.ntmps108
   go_wp2_with fail
   refine HK.out.mono ?_
   rintro e w1 ⟨rfl, g1⟩
   have G1 := Lib.hid g1
   have d0 := HC0.out w1 g1
   clear g1 c0
   go_wp2_with fail
   refine (HLB.out _ G1.out).mono ?_
   rintro e w2 ⟨rfl, g2⟩
   have G2 := Lib.hid (Gr.trans G1.out g2); clear g2
   go_wp2_with fail
   go_ret
   exact ⟨_, _, _, rfl, (HCV.out w2).1, Gr.trans G2.out (HCV.out w2).2⟩
 · rw [if_neg hk]
   obtain ⟨q, hq⟩ : ∃ q, q = kindOf T (id : Int) := ⟨_, rfl⟩
   rw [← hq] at HK hk
   have t1 : ((q : Int) == 2) = false := by rw [beq_eq_false_iff_ne]; omega
   clear hq
   go_enter Tryz.func108, Tryz.ntmps108
   go_wp2_with fail
   refine HK.out.mono ?_
   rintro e w1 ⟨rfl, g1⟩
   have G1 := Lib.hid g1; clear g1
   go_wp2_with fail
   refine (HH.out _).mono ?_
   rintro e w2 ⟨v2, rfl, o2⟩
   have G2 := Lib.hid (Gr.trans G1.out o2.below)
   obtain ⟨A2, c2, rfl, s2⟩ := o2.slice
   have S2 := Lib.hid s2
   clear o2 s2
   go_wp2_with fail
   go_ret
   exact ⟨_, _, _, rfl, S2.out, G2.out⟩
end
end
section
open Go.RowKit Go.Maps
theorem wp_mapUpd {P : Program} {o : Oper} {a : Act} {w w1 : World} {K : Act → World → Prop} {Q : Exit → Act → World → Prop} {t : TypeId} {m k x : Operand} (hop : o.op = Op.mapUpdate t m k x) (hrun : (Instr.mapUpdate t (a.eval m) (a.eval k) (a.eval x)).run P w = .ok () w1)
 (h : K (a.put o.dst undef) w1) : o.wp P a w K Q := by
 unfold Oper.wp
 simp [execOp, hop, hrun, Result.andThen]
 exact h
abbrev markO : Obj := .cells #[.int .u8 255, .int .u8 253] 5 (2, 3)
theorem mark_sl (w : World) : Sl (w.alloc markO) (some ⟨w.heap.size, 0, none⟩) 2 2 1 (([255, 253] : List UInt8).map u8c) := by
 refine ⟨rfl, Nat.le_refl _, by decide, fun _ => ⟨_, _, rfl, fun j u hu => ?_⟩⟩
 change [Value.int .u8 255, .int .u8 253][j]? = some u at hu
 have hj : (w.alloc markO).heap[w.heap.size]? = some markO := heap_alloc_new w _
 simp only [World.cell?, hj, Nat.zero_add]
 rw [if_neg (by decide)]
 simpa using hu
section
variable {w0 w : World} {p g bs : Nat}
theorem sui_none (hb : Blk w p 61 [.pointer (some ⟨g, 0, none⟩), .map (some bs), .pointer none]) : Calls Tryz.prog 75 #[.pointer (some ⟨p, 0, none⟩)] w fun e w' => e = .returned (.bool false) ∧ w = w' := by
 have c0 : w.cell? ⟨p, 0, none⟩ = some (.pointer (some ⟨g, 0, none⟩)) := (hb.cell 0).trans rfl
 have c2 : w.cell? ⟨p, 2, none⟩ = some (.pointer none) := (hb.cell 2).trans rfl
 clear hb
 go_enter Tryz.func75, Tryz.ntmps75
 go_wp2_with fail
 go_ret
 exact ⟨rfl, rfl⟩
theorem sui_real (hb : Blk w p 61 [.pointer (some ⟨g, 0, none⟩), .map (some bs), .pointer none]) : Calls Tryz.prog 76 #[.pointer (some ⟨p, 0, none⟩)] w fun e w' => e = .returned (.bool false) ∧ w = w' := by
 have c2 : w.cell? ⟨p, 2, none⟩ = some (.pointer none) := (hb.cell 2).trans rfl
 clear hb
 go_enter Tryz.func76, Tryz.ntmps76
 go_wp2_with fail
 go_ret
 exact ⟨rfl, rfl⟩
theorem keyedS : Keyed Tryz.prog 9 := string_keyed Tryz.underlying9
theorem keyS {s : ByteArray} (h : s.size ≤ maxLen) : keyOf Tryz.prog 9 (.string s) = some (.string s.data.toList) := Go.WideMaps.keyOf_string_mk Tryz.underlying9 h
theorem ownsMap_drew {w : World} {P : Program} {k b n : Nat} {D : DataW Value} (h : w.ownsMap P k Rv b n D) : w.drew.ownsMap P k Rv b n D := h
end
end
section
open Go.RowKit
def numL (S : List (List UInt8)) (b : List UInt8) : Option Nat := S.findIdx? (fun l => l == b)
def numI : Option Nat → Int
 | some i => (i : Int)
 | none => -1
theorem numL_some {S : List (List UInt8)} {b l : List UInt8} {k : Nat} (h : S[k]? = some l) (e : (l == b) = true) (hp : ∀ (j : Nat) (l' : List UInt8), j < k → S[j]? = some l' → (l' == b) = false) : numL S b = some k := by
 unfold numL
 rw [List.findIdx?_eq_some_iff_getElem]
 have hk := (List.getElem?_eq_some_iff.1 h).1
 refine ⟨hk, ?_, fun j hj => ?_⟩
 · have := (List.getElem?_eq_some_iff.1 h).2
   rw [this]; exact e
 · have hj' : j < S.length := by omega
   rw [hp j S[j] hj (List.getElem?_eq_getElem hj')]
   decide
theorem numL_lt {S : List (List UInt8)} {b : List UInt8} {k : Nat} (h : numL S b = some k) : k < S.length := by
 unfold numL at h
 rw [List.findIdx?_eq_some_iff_getElem] at h
 exact h.1
def markL (i : Nat) : List UInt8 := [255, 253] ++ be i 6
theorem markL_len (i : Nat) : (markL i).length = 8 := by unfold markL; rw [List.length_append, be_length]; rfl
def sumS (S : List (List UInt8)) (b : List UInt8) : List (List UInt8) := match numL S b with
 | some _ => S
 | none => S ++ [b]
def sumI (S : List (List UInt8)) (b : List UInt8) : Nat := match numL S b with
 | some i => i
 | none => S.length
theorem numL_push {S : List (List UInt8)} {b : List UInt8} (h : numL S b = none) : numL (S ++ [b]) b = some S.length := by
 refine numL_some (l := b) (by rw [List.getElem?_append_right (Nat.le_refl _)]; simp) (by simp) (fun j l' hj he => ?_)
 rw [List.getElem?_append_left hj] at he
 unfold numL at h
 rw [List.findIdx?_eq_none_iff] at h
 exact h l' (List.mem_of_getElem? he)
def checkS (S : List (List UInt8)) (b s : List UInt8) : Bool := match numL S b with
 | some i => markL i == s
 | none => false
end
end Go.Proofs.YtdkmlmbehlooiaaGreatDoor
