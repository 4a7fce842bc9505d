/- Own texts, one behind the other. No condition. -/
import Derived.Test.YtdkmlmbehlooiaaGreatDoorObPkAK
import Derived.Lib.IndexLaws
import Derived.Lib.ValidU
import Derived.Laws.RangeAny
import Derived.Deep.DeepCutAuto
import Derived.Lib.RuneCount
set_option linter.unusedVariables false
set_option linter.unusedSimpArgs false
namespace Go.Proofs.YtdkmlmbehlooiaaGreatDoor
section
open Go.RowKit
def Dk.keeps (d : Dk) : List (Nat × List UInt8) → Dk
 | [] => d
 | (p, l) :: ps => (d.keep p l).keeps ps
theorem keeps_snoc : ∀ (L : List (Nat × List UInt8)) (d : Dk) (x : Nat × List UInt8), d.keeps (L ++ [x]) = (d.keeps L).keep x.1 x.2
 | [], d, x => rfl
 | (p, l) :: L, d, x => keeps_snoc L (d.keep p l) x
theorem keeps_all : ∀ (L : List (Nat × List UInt8)) (d : Dk), (d.keeps L).all = d.all + L.length ∧ (d.keeps L).kept.length = d.kept.length ∧ (d.keeps L).pend = d.pend ∧ (d.keeps L).fuse = d.fuse ∧ (d.keeps L).calls = d.calls ∧ (d.keeps L).down = d.down
 | [], d => ⟨rfl, rfl, rfl, rfl, rfl, rfl⟩
 | (p, l) :: L, d => by
  obtain ⟨h1, h2, h3⟩ := keeps_all L (d.keep p l)
  refine ⟨h1.trans ?_, h2.trans ?_, h3⟩
  · show d.all + 1 + L.length = d.all + (L.length + 1); omega
  · show (d.kept.set p l).length = _; rw [List.length_set]
theorem wait_at {x : Nat × List UInt8} : ∀ (L : List (Nat × List UInt8)) (k : Nat), (∀ y ∈ L, y.2.length = 512) → L[k]? = some x → ∀ (j : Nat) (v : Value), (waitCells x)[j]? = some v → (L.flatMap waitCells)[k * 513 + j]? = some v
 | [], k, _, q => by simp at q
 | y :: L, 0, hL, q => fun j v hv => by
  have e : y = x := by simpa using q
  subst e
  rw [List.flatMap_cons, Nat.zero_mul, Nat.zero_add, List.getElem?_append_left (List.getElem?_eq_some_iff.1 hv).1]
  exact hv
 | y :: L, k + 1, hL, q => fun j v hv => by
  have hy := waitCells_len (hL y List.mem_cons_self)
  rw [List.flatMap_cons, List.getElem?_append_right (by rw [hy]; omega), hy, show (k + 1) * 513 + j - 513 = k * 513 + j by omega]
  exact wait_at L k (fun z hz => hL z (List.mem_cons_of_mem _ hz)) (by simpa using q) j v hv
def Dk.flush (d : Dk) : Dk × Int := if d.burn.2 = 0 then ({ d.burn.1.keeps d.pend with pend := [] }, 0) else d.burn
section
variable {w0 w : World} {dp kb : Nat} {vP vA : Value} {d : Dk}
set_option maxRecDepth 100000 in
set_option maxHeartbeats 2000000 in
theorem diskFlush_any (h : DkM w0 w dp kb vP vA d) (hs : d.small) (hd : d.down = false) :
 Calls Tryz.prog 157 #[.pointer (some ⟨dp, 0, none⟩)] w fun e w' => e = .returned (.int .i64 d.flush.2) ∧ ∃ vP' vA', DkM w0 w' dp kb vP' vA' d.flush.1 ∧ TChM w w' dp kb vP vA vP' vA' := by
 have HB := Lib.hid (diskBurn_any h hs)
 have c5 : w.cell? ⟨dp, 5, none⟩ = some (.bool false) := by rw [h.c5, hd]
 have HH := Lib.hid h; have HS := Lib.hid hs; have HD := Lib.hid hd
 clear h hs hd
 by_cases hb : d.burn.2 = 0
 · have HF : Hid (d.flush = ({ d.burn.1.keeps d.pend with pend := [] }, 0)) := by show _ = _; unfold Dk.flush; rw [if_pos hb]
   rw [hb] at HB
   obtain ⟨d1, hd1⟩ : ∃ d1, d1 = d.burn.1 := ⟨_, rfl⟩
   rw [← hd1] at HB HF
   have hpd : d1.pend = d.pend := by rw [hd1]; unfold Dk.burn; split; rfl; split <;> rfl
   rw [← hpd] at HF
   have HPD := Lib.hid hpd; have HD1 := Lib.hid hd1
   clear hb hpd hd1
   obtain ⟨A, c, hv, _⟩ := HH.out.pend.slice
   subst hv
   go_enter Tryz.func157, Tryz.ntmps157
   go_wp2_with fail
   refine HB.out.mono ?_
   rintro e w1 ⟨rfl, m1, t1⟩
   have M1 := Lib.hid m1; have T1 := Lib.hid t1
   have c1 : w1.cell? ⟨dp, 1, none⟩ = some (.slice A d.pend.length c) := M1.out.blk.cell 1
   clear m1 t1
   obtain ⟨n, hn⟩ : ∃ n, n = d.pend.length := ⟨_, rfl⟩
   rw [← hn] at c1
   have hn7 : n ≤ 1000000 := by rw [hn]; exact HS.out.2.2.1
   have HN := Lib.hid hn; clear hn
   go_wp2_with fail
   have hkl : d1.kept.length ≤ 1024 := by rw [HD1.out]; have := HS.out.2.2.2.1; unfold Dk.burn; split; exact this; split <;> exact this
   have hal : d1.all ≤ 1000000000 := by rw [HD1.out]; have := HS.out.2.1; unfold Dk.burn; split; exact this; split <;> exact this
   have HKL := Lib.hid hkl; have HAL := Lib.hid hal
   have hnp : n = d1.pend.length := by rw [HPD.out]; exact HN.out
   have HNP := Lib.hid hnp
   have C0 : Hid (TChM w w1 dp kb (.slice A d.pend.length c) vA (.slice A d.pend.length c) vA) := ⟨T1.out.size, fun b h1 h2 _ _ _ => T1.out.keep b h1 h2, fun b q => .inl q, fun b q => .inl q⟩
   clear hkl hal hnp c1
   go_loopw [24] (fun i wr => ∃ k vA', k ≤ n ∧ i = .int .i64 (k : Int) ∧ DkM w0 wr dp kb (.slice A d.pend.length c) vA' (d1.keeps (d1.pend.take k)) ∧ TChM w wr dp kb (.slice A d.pend.length c) vA (.slice A d.pend.length c) vA') (fun i _ => n - (Go.RowKit.intOf i).toNat)
   case atStart => exact ⟨0, vA, Nat.zero_le _, rfl, M1.out, C0.out⟩
   case round =>
    obtain ⟨k, vA', hk, rfl, hm, hc⟩ := hrel
    have HM := Lib.hid hm; have HC := Lib.hid hc; clear hm hc
    by_cases hlt : k < n
    · have t : decide ((k : Int) < (n : Int)) = true := decide_eq_true (by omega)
      obtain ⟨x, hx⟩ : ∃ x, d1.pend[k]? = some x := ⟨_, List.getElem?_eq_getElem (by rw [← HNP.out]; exact hlt)⟩
      obtain ⟨h1, h2, h3⟩ := keeps_all (d1.pend.take k) d1
      have hpk := h3.1
      have hxm : x ∈ d1.pend := List.mem_of_getElem? hx
      have hx5 := M1.out.p512 x hxm
      obtain ⟨p, l⟩ := x
      simp only at hx5
      have hsl := HM.out.pend.slice
      rw [hpk] at hsl
      obtain ⟨A9, c9, he9, hsl⟩ := hsl
      injection he9 with e1 _ e3
      subst e1 e3
      obtain ⟨b, o, rfl, hcc⟩ := Sl.addr hsl (by rw [← HNP.out]; omega)
      have RG : Hid (wr.rangeAt b (o + k * 513) (waitCells (p, l))) := fun j v hv => by
       rw [Nat.add_assoc]
       exact hcc _ _ (wait_at d1.pend k (fun y hy => (M1.out.p512 y hy).1) hx j v hv)
      have AN := Lib.hid (heap_alloc_new wr (.cells Tryz.zeroCells258 258))
      have HW3 := Lib.hid (waitCells_len (x := (p, l)) hx5.1)
      have HSZ : Hid ((Tryz.prog.info? 258).map (·.size) = some (waitCells (p, l)).length) := by show _ = _; rw [HW3.out]; kernel_rfl
      have HSY : Hid ((Tryz.prog.info? 258).map (·.size) = some (waitCells (p, l)).toArray.size) := by show _ = _; rw [List.size_toArray]; exact HSZ.out
      have HZS : Hid (Tryz.zeroCells258.size = (waitCells (p, l)).toArray.size) := by
       show _ = _
       rw [show (waitCells (p, l)).toArray.size = 513 by rw [List.size_toArray]; exact HW3.out]
       kernel_rfl
      have HON : Hid ((waitCells (p, l)).toArray.all (·.oneCell') = true) := all_oneCell_toArray (fun u hu => by
       rcases List.mem_cons.1 hu with q | q
       · rw [q]; rfl
       · exact secOne l u q)
      have HSB : Hid ((Tryz.prog.info? 256).map (·.size) = some (l.map u8c).length) := by show _ = _; rw [List.length_map, hx5.1]; kernel_rfl
      obtain ⟨w3, hw3⟩ : ∃ w3, w3 = (wr.alloc (.cells Tryz.zeroCells258 258)).setRow wr.heap.size (waitCells (p, l)).toArray := ⟨_, rfl⟩
      have G3 : Hid (Gr wr w3) := by
       have g0 : Gr wr (wr.alloc (.cells Tryz.zeroCells258 258)) := Gr.alloc _ _
       rw [hw3]; exact bRb g0 (Nat.le_refl _) _
      have B3 : Hid (Blk w3 wr.heap.size 258 (waitCells (p, l))) := by rw [hw3]; exact setRow_heap _ _ _ _ _ _ AN.out
      have HW := Lib.hid hw3
      have c0 : w3.cell? ⟨wr.heap.size, 0, none⟩ = some (.int .i64 (p : Int)) := B3.out.cell 0
      have RB : Hid (w3.rangeAt wr.heap.size 1 (l.map u8c)) := fun j v hv => by
       rw [B3.out.cell, Nat.add_comm]
       exact hv
      have HKP := Lib.hid (diskKeep_any (HM.out.mono G3.out) (by rw [h2]; exact HKL.out) (by rw [h1]; have := HAL.out; rw [List.length_take]; omega) p (by rw [h2]; exact hx5.2) l hx5.1)
      have HSN : Hid (d1.keeps (d1.pend.take (k + 1)) = (d1.keeps (d1.pend.take k)).keep p l) := by
       show _ = _
       rw [List.take_add_one, hx]
       exact keeps_snoc _ d1 (p, l)
      have p0 : (0 : Int) ≤ (k : Int) := by omega
      have hkw : IntKind.i64.wrap ((k : Int) + 1) = (k : Int) + 1 := IntWalk.i64_in _ (by omega)
      clear hw3 hsl hcc h1 h2 h3 hpk hx hxm hx5
      go_wp2_with (first
       | (refine wpList_load_mid rfl 258 (.tmp 26) rfl b (o + k * 513) rfl (waitCells (p, l)) _ RG.out Tryz.underlying258 rfl HSZ.out ?_)
       | (refine wpList_store_row rfl 258 (.tmp 5) (.tmp 27) rfl wr.heap.size (waitCells (p, l)).toArray rfl rfl 258 _ AN.out HSY.out HZS.out HON.out ?_; rw [← HW.out])
       | (refine wpList_load_mid rfl 256 (.tmp 31) rfl wr.heap.size 1 rfl (l.map u8c) _ RB.out Tryz.underlying256 rfl HSB.out ?_)
       | (go_at_call 215; refine HKP.out.mono ?_; rintro e w4 ⟨rfl, vA4, m4, t4⟩; have M4 := Lib.hid m4; have T4 := Lib.hid t4; clear m4 t4))
      refine ⟨⟨k + 1, vA4, by omega, by go_num, by rw [HSN.out]; exact M4.out, (HC.out.trans (TChM.gr G3.out)).trans T4.out⟩, by simp [Go.RowKit.intOf]; omega⟩
    · obtain rfl : n = k := by omega
      have t : decide ((n : Int) < (n : Int)) = false := decide_eq_false (by omega)
      rw [List.take_of_length_le (by rw [← HNP.out]; exact Nat.le_refl _)] at HM
      have f1 := Blk.free HM.out.blk 1
      have c1 : wr.cell? ⟨dp, 1, none⟩ = some (.slice A d.pend.length c) := HM.out.blk.cell 1
      obtain ⟨h1, h2, h3⟩ := keeps_all d1.pend d1
      have O0 : Hid (Own w0 (wr.setCell ⟨dp, 1, none⟩ (.slice none 0 0)) 258 513 (.slice none 0 0) 0 []) := Own.nil' (HM.out.below.setCell (p := ⟨dp, 1, none⟩) HH.out.gd _) _ _
      have B0 : Hid (Blk (wr.setCell ⟨dp, 1, none⟩ (.slice none 0 0)) dp 53 [.slice (some ⟨kb, 0, none⟩) (d1.keeps d1.pend).kept.length (d1.keeps d1.pend).kept.length, .slice none 0 0, vA', .int .i64 (d1.keeps d1.pend).fuse, .int .i64 ((d1.keeps d1.pend).calls : Int), .bool (d1.keeps d1.pend).down]) := HM.out.blk.set 1 _
      have TT : Hid (Tch (fun b => b = dp) wr (wr.setCell ⟨dp, 1, none⟩ (.slice none 0 0))) := Tch.set ⟨dp, 1, none⟩ _ rfl
      clear h1 h2 h3
      go_wp2_with fail
      go_ret
      obtain ⟨m5, t5⟩ := HM.out.pend_turn (pd := []) O0.out.below TT.out.size (fun b' h1 h2 _ => TT.out.keep b' h1 h2) B0.out O0.out (fun x hx => by cases hx) (fun b q => by cases q)
      refine ⟨by rw [HF.out]; rfl, _, _, by rw [HF.out]; exact m5, HC.out.trans t5⟩
 · have ht : (d.burn.2 == 0) = false := by rw [beq_eq_false_iff_ne]; exact hb
   have HF : Hid (d.flush = d.burn) := by show _ = _; unfold Dk.flush; rw [if_neg hb]
   obtain ⟨q, hq⟩ : ∃ q, q = d.burn.2 := ⟨_, rfl⟩
   rw [← hq] at ht HB
   have HQ := Lib.hid hq
   clear hb hq
   go_enter Tryz.func157, Tryz.ntmps157
   go_wp2_with fail
   refine HB.out.mono ?_
   rintro e w1 ⟨rfl, m1, t1⟩
   have M1 := Lib.hid m1; have T1 := Lib.hid t1
   clear m1 t1
   go_wp2_with fail
   go_ret
   exact ⟨by rw [HF.out, ← HQ.out]; rfl, _, _, by rw [HF.out]; exact M1.out, T1.out.size, fun b h1 h2 _ _ _ => T1.out.keep b h1 h2, fun b q => .inl q, fun b q => .inl q⟩
end
end
section
open Go.RowKit
def smallA (b : UInt8) : Bool := (decide (48 ≤ b.toNat) && decide (b.toNat ≤ 57)) || (decide (97 ≤ b.toNat) && decide (b.toNat ≤ 122))
def smallC (b : UInt8) : Bool := decide (159 ≤ b.toNat) && decide (b.toNat ≤ 191) && decide (b.toNat ≠ 183)
def smallR (r : Nat) : Bool := (decide (48 ≤ r) && decide (r ≤ 57)) || (decide (97 ≤ r) && decide (r ≤ 122)) || (decide (223 ≤ r) && decide (r ≤ 255) && decide (r ≠ 247))
def runesN : List UInt8 → Option Nat
 | [] => some 0
 | [b] => if smallA b = true then some 1 else none
 | b :: c :: l => if smallA b = true then (runesN (c :: l)).map (· + 1) else if b = 195 ∧ smallC c = true then (runesN l).map (· + 1) else none
def partL (l : List UInt8) : Bool := match runesN l with
 | some n => decide (1 ≤ n) && decide (n ≤ 8)
 | none => false
def smallAt : List UInt8 → Nat
 | [] => 0
 | [b] => if smallA b = true then 1 else 0
 | b :: c :: _ => if smallA b = true then 1 else if b = 195 ∧ smallC c = true then 2 else 0
theorem runesN_step : ∀ {l : List UInt8} {k : Nat}, smallAt l = k → 0 < k → k ≤ l.length ∧ k ≤ 2 ∧ runesN l = (runesN (l.drop k)).map (· + 1)
 | [], k, h, hk => by simp only [smallAt] at h; omega
 | [b], k, h, hk => by
  simp only [smallAt] at h
  by_cases hb : smallA b = true
  · rw [if_pos hb] at h
    subst h
    refine ⟨Nat.le_refl _, by decide, ?_⟩
    simp only [runesN]
    rw [if_pos hb]
    rfl
  · rw [if_neg hb] at h; omega
 | b :: c :: l, k, h, hk => by
  simp only [smallAt] at h
  by_cases hb : smallA b = true
  · rw [if_pos hb] at h
    subst h
    refine ⟨by simp, by decide, ?_⟩
    rw [runesN, if_pos hb]
    rfl
  · rw [if_neg hb] at h
    by_cases hc : b = 195 ∧ smallC c = true
    · rw [if_pos hc] at h
      subst h
      refine ⟨by simp, by decide, ?_⟩
      rw [runesN, if_neg hb, if_pos hc]
      rfl
    · rw [if_neg hc] at h; omega
theorem runesN_stop : ∀ {l : List UInt8}, smallAt l = 0 → l ≠ [] → runesN l = none
 | [], _, hl => absurd rfl hl
 | [b], h, _ => by
  simp only [smallAt] at h
  by_cases hb : smallA b = true
  · rw [if_pos hb] at h; omega
  · simp only [runesN]; rw [if_neg hb]
 | b :: c :: l, h, _ => by
  simp only [smallAt] at h
  by_cases hb : smallA b = true
  · rw [if_pos hb] at h; omega
  · rw [if_neg hb] at h
    by_cases hc : b = 195 ∧ smallC c = true
    · rw [if_pos hc] at h; omega
    · rw [runesN, if_neg hb, if_neg hc]
theorem getBang (l : List UInt8) (i : Nat) (h : i < l.length) : (⟨l.toArray⟩ : ByteArray).get! i = l[i] := by
 unfold ByteArray.get!
 simp [h]
theorem decode_small (l : List UInt8) (i : Nat) (hi : i < l.length) : smallAt (l.drop i) = if smallR (Utf8.decode ⟨l.toArray⟩ i).1 = true then (Utf8.decode ⟨l.toArray⟩ i).2 else 0 := by
 have hsz : (⟨l.toArray⟩ : ByteArray).size = l.length := by simp [ByteArray.size]
 have h0 : (⟨l.toArray⟩ : ByteArray).get! (i + 0) = l[i] := getBang l i hi
 have hd : l.drop i = l[i] :: l.drop (i + 1) := List.drop_eq_getElem_cons hi
 have hb := (l[i]).toNat_lt
 generalize l[i] = b at *
 unfold Utf8.decode
 simp only [hsz, h0]
 by_cases h1 : b.toNat < 128
 · rw [if_pos h1]
   have hA : smallR b.toNat = smallA b := by
    unfold smallR smallA
    have : (decide (223 ≤ b.toNat) && decide (b.toNat ≤ 255) && decide (b.toNat ≠ 247)) = false := by simp; omega
    rw [this, Bool.or_false]
   simp only [hA]
   rw [hd]
   have hne : b ≠ 195 := by intro e; rw [e] at h1; revert h1; decide
   match l.drop (i + 1) with
   | [] => rfl
   | c :: t =>
    simp only [smallAt]
    by_cases ha : smallA b = true
    · rw [if_pos ha, if_pos ha]
    · rw [if_neg ha, if_neg ha, if_neg (fun e => hne e.1)]
 · rw [if_neg h1]
   have ha : ¬ smallA b = true := by unfold smallA; simp; omega
   have hR : ∀ r, 256 ≤ r → ¬ smallR r = true := fun r hr => by unfold smallR; simp; omega
   have hE : ¬ smallR Utf8.runeError = true := by decide
   have hS : smallAt (l.drop i) = if i + 1 < l.length ∧ b = 195 ∧ smallC (l.getD (i + 1) 0) = true then 2 else 0 := by
    rw [hd]
    by_cases hl : i + 1 < l.length
    · rw [List.drop_eq_getElem_cons hl]
      simp only [smallAt]
      rw [if_neg ha]
      have : l.getD (i + 1) 0 = l[i + 1] := by rw [List.getD_eq_getElem?_getD, List.getElem?_eq_getElem hl]; rfl
      rw [this]
      by_cases h : b = 195 ∧ smallC l[i + 1] = true
      · rw [if_pos h, if_pos ⟨hl, h⟩]
      · rw [if_neg h, if_neg (fun e => h e.2)]
    · rw [List.drop_eq_nil_of_le (by omega), if_neg (fun e => hl e.1)]
      simp only [smallAt]
      rw [if_neg ha]
   have hg : ∀ h : i + 1 < l.length, (⟨l.toArray⟩ : ByteArray).get! (i + 1) = l.getD (i + 1) 0 := fun h => by
    rw [getBang l (i + 1) h, List.getD_eq_getElem?_getD, List.getElem?_eq_getElem h]; rfl
   have hcl : (l.getD (i + 1) 0).toNat < 256 := (l.getD (i + 1) 0).toNat_lt
   obtain ⟨c, hc⟩ : ∃ c, c = l.getD (i + 1) 0 := ⟨_, rfl⟩
   rw [← hc] at hS hg hcl
   rw [hS]
   have h195 : b = 195 ↔ b.toNat = 195 := ⟨fun h => by rw [h]; rfl, fun h => UInt8.toNat_inj.1 h⟩
   by_cases h2 : b.toNat / 32 = 6 ∧ i + 1 < l.length ∧ c.toNat / 64 = 2
   · obtain ⟨h2, h3, h4⟩ := h2
     have hc2 : (b.toNat / 32 == 6 && (decide (i + 1 < l.length) && ((⟨l.toArray⟩ : ByteArray).get! (i + 1)).toNat / 64 == 2)) = true := by
      rw [hg h3]; simp [h2, h3, h4]
     rw [if_pos hc2, hg h3]
     by_cases h5 : (b.toNat % 32) * 64 + c.toNat % 64 ≥ 128
     · rw [if_pos h5]
       by_cases h6 : b.toNat = 195 ∧ smallC c = true
       · have hr : smallR ((b.toNat % 32) * 64 + c.toNat % 64) = true := by
          obtain ⟨h7, h8⟩ := h6
          unfold smallC at h8
          simp at h8
          unfold smallR
          simp
          omega
         rw [if_pos ⟨h3, h195.2 h6.1, h6.2⟩, if_pos hr]
       · have hr : ¬ smallR ((b.toNat % 32) * 64 + c.toNat % 64) = true := by
          intro hr
          apply h6
          unfold smallR at hr
          simp at hr
          have h7 : b.toNat = 195 := by omega
          refine ⟨h7, ?_⟩
          unfold smallC
          simp
          omega
         rw [if_neg hr, if_neg (fun e => h6 ⟨h195.1 e.2.1, e.2.2⟩)]
     · rw [if_neg h5, if_neg hE, if_neg]
       rintro ⟨_, e1, e2⟩
       have := h195.1 e1
       omega
   · have hc2 : ¬ (b.toNat / 32 == 6 && (decide (i + 1 < l.length) && ((⟨l.toArray⟩ : ByteArray).get! (i + 1)).toNat / 64 == 2)) = true := by
      intro h
      simp only [Bool.and_eq_true, beq_iff_eq, decide_eq_true_eq] at h
      obtain ⟨e1, e2, e3⟩ := h
      rw [hg e2] at e3
      exact h2 ⟨e1, e2, e3⟩
     rw [if_neg hc2, if_neg (by
      rintro ⟨e0, e1, e2⟩
      apply h2
      have := h195.1 e1
      unfold smallC at e2
      simp at e2
      exact ⟨by omega, e0, by omega⟩)]
     split
     · split
       · next h =>
         simp only [Bool.and_eq_true, decide_eq_true_eq] at h
         rw [if_neg (hR _ (by omega))]
       · first | rfl | rw [if_neg hE]
     · split
       · split
         · next h =>
           simp only [Bool.and_eq_true, decide_eq_true_eq] at h
           rw [if_neg (hR _ (by omega))]
         · first | rfl | rw [if_neg hE]
       · first | rfl | rw [if_neg hE]
end
section
open Go.RowKit
def consH (b : UInt8) : List (List UInt8) → List (List UInt8)
 | [] => [[b]]
 | p :: ps => (b :: p) :: ps
def pcL : List UInt8 → List (List UInt8)
 | [] => [[]]
 | b :: t => if b = 46 then [] :: pcL t else consH b (pcL t)
theorem pieces_ne : ∀ l, pcL l ≠ []
 | [], h => by cases h
 | b :: t, h => by
  unfold pcL at h
  split at h
  · cases h
  · cases hp : pcL t with
    | nil => exact pieces_ne t hp
    | cons p ps => rw [hp] at h; cases h
theorem pieces_none : ∀ l : List UInt8, (∀ b ∈ l, b ≠ 46) → pcL l = [l]
 | [], _ => rfl
 | b :: t, h => by
  unfold pcL
  rw [if_neg (h b List.mem_cons_self), pieces_none t (fun c hc => h c (List.mem_cons_of_mem _ hc))]
  rfl
theorem pieces_cut : ∀ (l : List UInt8) (i : Nat), l[i]? = some 46 → (∀ j, j < i → l[j]? ≠ some 46) → pcL l = l.take i :: pcL (l.drop (i + 1))
 | [], i, h, _ => by simp at h
 | b :: t, 0, h, _ => by
  have : b = 46 := by simpa using h
  show (if b = 46 then [] :: pcL t else consH b (pcL t)) = _
  rw [if_pos this]
  rfl
 | b :: t, i + 1, h, hj => by
  have hb : b ≠ 46 := fun e => hj 0 (by omega) (by simp [e])
  have ih := pieces_cut t i (by simpa using h) (fun j hji => by have := hj (j + 1) (by omega); simpa using this)
  show (if b = 46 then [] :: pcL t else consH b (pcL t)) = _
  rw [if_neg hb, ih]
  rfl
theorem pieces_index (l : List UInt8) (i : Int) (h : Lib.indexByte l 46 = i) : (i = -1 ∧ pcL l = [l]) ∨ ∃ k : Nat, i = k ∧ k < l.length ∧ pcL l = l.take k :: pcL (l.drop (k + 1)) := by
 by_cases h0 : i < 0
 · have := Lib.indexByte_ge l 46
   have hi : i = -1 := by omega
   subst hi
   left
   refine ⟨rfl, pieces_none l fun b hb e => ?_⟩
   subst e
   obtain ⟨k, hk, he⟩ := List.getElem_of_mem hb
   exact Lib.indexByte_none h k ((List.getElem?_eq_getElem hk).trans (by rw [he]))
 · right
   obtain ⟨k, rfl⟩ : ∃ k : Nat, i = k := ⟨i.toNat, by omega⟩
   obtain ⟨h1, h2⟩ := Lib.indexByte_some h
   exact ⟨k, rfl, (List.getElem?_eq_some_iff.1 h1).1, pieces_cut l k h1 h2⟩
def sumN (ps : List (List UInt8)) : Nat := (ps.map fun p => (runesN p).getD 0 + 1).sum
def rightL (l : List UInt8) : Bool := (pcL l).all partL && decide ((pcL l).length ≤ 4) && decide (sumN (pcL l) ≤ 25)
end
section
open Go.RowKit
theorem decodeL_small {l : List UInt8} {k : Nat} (h : smallAt l = k) (hk : 0 < k) (hl : l ≠ []) : (Lib.decodeL l).2 = k ∧ smallR (Lib.decodeL l).1 = true := by
 have hpos : 0 < l.length := List.length_pos_iff.2 hl
 have hd := decode_small l 0 hpos
 rw [List.drop_zero] at hd
 show (Utf8.decode ⟨l.toArray⟩ 0).2 = k ∧ smallR (Utf8.decode ⟨l.toArray⟩ 0).1 = true
 by_cases hs : smallR (Utf8.decode ⟨l.toArray⟩ 0).1 = true
 · rw [if_pos hs] at hd
   exact ⟨by omega, hs⟩
 · rw [if_neg hs] at hd
   omega
theorem smallAt_pos {l : List UInt8} (h : runesN l ≠ none) (hl : l ≠ []) : 0 < smallAt l := by
 rcases Nat.eq_zero_or_pos (smallAt l) with h0 | h0
 · exact absurd (runesN_stop h0 hl) h
 · exact h0
theorem valid_small : ∀ (f : Nat) (l : List UInt8), l.length ≤ f → runesN l ≠ none → Lib.validGoD f l = true
 | 0, _, _, _ => rfl
 | f + 1, l, hf, h => by
  unfold Lib.validGoD
  by_cases hl : l = []
  · rw [if_pos hl]
  · rw [if_neg hl]
    have hp := smallAt_pos h hl
    obtain ⟨h1, h2⟩ := decodeL_small rfl hp hl
    obtain ⟨h3, h4, h5⟩ := runesN_step rfl hp
    rw [if_neg (fun e => by rw [e.1] at h2; revert h2; decide), h1]
    exact valid_small f (l.drop (smallAt l)) (by rw [List.length_drop]; omega) (fun e => h (by rw [h5, e]; rfl))
theorem valid_of {l : List UInt8} (h : runesN l ≠ none) : Lib.validD l = true := valid_small l.length l (Nat.le_refl _) h
end
section
open Go.RowKit
def upperR (r : Nat) : Bool := (decide (65 ≤ r) && decide (r ≤ 90)) || (decide (192 ≤ r) && decide (r ≤ 222) && decide (r ≠ 215))
def letterR (r : Nat) : Bool := upperR r || (decide (97 ≤ r) && decide (r ≤ 122)) || (decide (223 ≤ r) && decide (r ≤ 255) && decide (r ≠ 247))
theorem smallR_eq (r : Nat) : smallR r = ((decide (48 ≤ r) && decide (r ≤ 57)) || (letterR r && !upperR r)) := by
 rw [Bool.eq_iff_iff]
 simp [smallR, letterR, upperR]
 omega
theorem upper_any (r : Nat) (w : World) : Calls Tryz.prog 256 #[.int .i32 (r : Int)] w fun e w' => e = .returned (.bool (upperR r)) ∧ w = w' := by
 by_cases h1 : r < 65
 · skip
   have hv : upperR r = false := by simp [upperR] <;> omega
   rw [hv]
   clear hv
   go_enter Tryz.func256, Tryz.ntmps256
   go_wp2_with fail
   go_ret
   exact ⟨rfl, rfl⟩
 by_cases h2 : r ≤ 90
 · skip
   have hv : upperR r = true := by simp [upperR] <;> omega
   rw [hv]
   clear hv
   go_enter Tryz.func256, Tryz.ntmps256
   go_wp2_with fail
   go_ret
   exact ⟨rfl, rfl⟩
 have t90 : decide ((r : Int) ≤ 90) = false := decide_eq_false (by omega)
 by_cases h3 : r < 192
 · skip
   have hv : upperR r = false := by simp [upperR] <;> omega
   rw [hv]
   clear hv
   go_enter Tryz.func256, Tryz.ntmps256
   go_wp2_with fail
   go_ret
   exact ⟨rfl, rfl⟩
 by_cases h4 : 222 < r
 · have t222 : decide ((r : Int) ≤ 222) = false := decide_eq_false (by omega)
   have hv : upperR r = false := by simp [upperR] <;> omega
   rw [hv]
   clear hv
   go_enter Tryz.func256, Tryz.ntmps256
   go_wp2_with fail
   go_ret
   exact ⟨rfl, rfl⟩
 by_cases h5 : r = 215
 · subst h5
   have hv : upperR 215 = false := by decide
   rw [hv]
   go_enter Tryz.func256, Tryz.ntmps256
   go_wp2_with fail
   go_ret
   exact ⟨rfl, rfl⟩
 have hv : upperR r = true := by simp [upperR]; omega
 have tne : ((r : Int) != 215) = true := bne_iff_ne.2 (by omega)
 rw [hv]
 clear hv
 go_enter Tryz.func256, Tryz.ntmps256
 go_wp2_with fail
 go_ret
 exact ⟨rfl, rfl⟩
theorem letter_any (r : Nat) (w : World) : Calls Tryz.prog 255 #[.int .i32 (r : Int)] w fun e w' => e = .returned (.bool (letterR r)) ∧ w = w' := by
 have HU := Lib.hid (upper_any r w)
 cases hu : upperR r with
 | true =>
  rw [hu] at HU
  have hv : letterR r = true := by unfold letterR; rw [hu]; rfl
  rw [hv]
  clear hv hu
  go_enter Tryz.func255, Tryz.ntmps255
  go_wp2_with fail
  refine HU.out.mono ?_
  rintro e w1 ⟨rfl, h1⟩
  obtain rfl : w = w1 := h1
  go_wp2_with fail
  go_ret
  exact ⟨rfl, rfl⟩
 | false =>
  rw [hu] at HU
  have hv : letterR r = ((decide (97 ≤ r) && decide (r ≤ 122)) || (decide (223 ≤ r) && decide (r ≤ 255) && decide (r ≠ 247))) := by unfold letterR; rw [hu, Bool.false_or]
  rw [hv]
  clear hv hu
  have HLB : Hid (∀ b : Bool, ((decide (97 ≤ r) && decide (r ≤ 122)) || (decide (223 ≤ r) && decide (r ≤ 255) && decide (r ≠ 247))) = b → Calls Tryz.prog 255 #[.int .i32 (r : Int)] w fun e w' => e = .returned (.bool b) ∧ w = w') := by
   intro b hb
   by_cases h0 : r = 247
   · subst h0
     obtain rfl : b = false := by rw [← hb]; decide
     clear hb
     go_enter Tryz.func255, Tryz.ntmps255
     go_wp2_with fail
     refine HU.out.mono ?_
     rintro e w1 ⟨rfl, h1⟩
     obtain rfl : w = w1 := h1
     go_wp2_with fail
     go_ret
     exact ⟨rfl, rfl⟩
   have teq : ((r : Int) == 247) = false := beq_eq_false_iff_ne.2 (by omega)
   by_cases h1 : r < 97
   · obtain rfl : b = false := by rw [← hb]; simp; omega
     clear hb
     go_enter Tryz.func255, Tryz.ntmps255
     go_wp2_with fail
     refine HU.out.mono ?_
     rintro e w1 ⟨rfl, h1⟩
     obtain rfl : w = w1 := h1
     go_wp2_with fail
     go_ret
     exact ⟨rfl, rfl⟩
   by_cases h2 : r ≤ 122
   · obtain rfl : b = true := by rw [← hb]; simp; omega
     clear hb
     go_enter Tryz.func255, Tryz.ntmps255
     go_wp2_with fail
     refine HU.out.mono ?_
     rintro e w1 ⟨rfl, h1⟩
     obtain rfl : w = w1 := h1
     go_wp2_with fail
     go_ret
     exact ⟨rfl, rfl⟩
   have t122 : decide ((r : Int) ≤ 122) = false := decide_eq_false (by omega)
   by_cases h3 : r < 223
   · obtain rfl : b = false := by rw [← hb]; simp; omega
     clear hb
     go_enter Tryz.func255, Tryz.ntmps255
     go_wp2_with fail
     refine HU.out.mono ?_
     rintro e w1 ⟨rfl, h1⟩
     obtain rfl : w = w1 := h1
     go_wp2_with fail
     go_ret
     exact ⟨rfl, rfl⟩
   by_cases h4 : r ≤ 255
   · have t255 : decide ((r : Int) ≤ 255) = true := decide_eq_true (by omega)
     obtain rfl : b = true := by rw [← hb]; simp; omega
     clear hb
     go_enter Tryz.func255, Tryz.ntmps255
     go_wp2_with fail
     refine HU.out.mono ?_
     rintro e w1 ⟨rfl, h1⟩
     obtain rfl : w = w1 := h1
     go_wp2_with fail
     go_ret
     exact ⟨rfl, rfl⟩
   have t255 : decide ((r : Int) ≤ 255) = false := decide_eq_false (by omega)
   obtain rfl : b = false := by rw [← hb]; simp; omega
   clear hb
   go_enter Tryz.func255, Tryz.ntmps255
   go_wp2_with fail
   refine HU.out.mono ?_
   rintro e w1 ⟨rfl, h1⟩
   obtain rfl : w = w1 := h1
   go_wp2_with fail
   go_ret
   exact ⟨rfl, rfl⟩
  exact HLB.out _ rfl
theorem small_any (r : Nat) (w : World) : Calls Tryz.prog 224 #[.int .i32 (r : Int)] w fun e w' => e = .returned (.bool (smallR r)) ∧ w = w' := by
 have HL := Lib.hid (letter_any r w)
 have HU := Lib.hid (upper_any r w)
 rw [smallR_eq]
 by_cases h0 : 48 ≤ r ∧ r ≤ 57
 · have hv : ((decide (48 ≤ r) && decide (r ≤ 57)) || (letterR r && !upperR r)) = true := by rw [decide_eq_true h0.1, decide_eq_true h0.2]; rfl
   obtain ⟨h1, h2⟩ := h0
   rw [hv]
   clear hv
   go_enter Tryz.func224, Tryz.ntmps224
   go_wp2_with fail
   go_ret
   exact ⟨rfl, rfl⟩
 have hv : ((decide (48 ≤ r) && decide (r ≤ 57)) || (letterR r && !upperR r)) = (letterR r && !upperR r) := by
  have : (decide (48 ≤ r) && decide (r ≤ 57)) = false := by simp; omega
  rw [this, Bool.false_or]
 rw [hv]
 clear hv
 generalize letterR r = a at *
 generalize upperR r = b at *
 by_cases h1 : r < 48
 · cases a with
   | false =>
    go_enter Tryz.func224, Tryz.ntmps224
    go_wp2_with fail
    refine HL.out.mono ?_
    rintro e w1 ⟨rfl, h1⟩
    obtain rfl : w = w1 := h1
    go_wp2_with fail
    go_ret
    exact ⟨rfl, rfl⟩
   | true =>
    go_enter Tryz.func224, Tryz.ntmps224
    go_wp2_with fail
    refine HL.out.mono ?_
    rintro e w1 ⟨rfl, h1⟩
    obtain rfl : w = w1 := h1
    go_wp2_with fail
    refine HU.out.mono ?_
    rintro e w2 ⟨rfl, h2⟩
    obtain rfl : w = w2 := h2
    go_wp2_with fail
    go_ret
    exact ⟨rfl, rfl⟩
 · have t57 : decide ((r : Int) ≤ 57) = false := decide_eq_false (by omega)
   cases a with
   | false =>
    go_enter Tryz.func224, Tryz.ntmps224
    go_wp2_with fail
    refine HL.out.mono ?_
    rintro e w1 ⟨rfl, h1⟩
    obtain rfl : w = w1 := h1
    go_wp2_with fail
    go_ret
    exact ⟨rfl, rfl⟩
   | true =>
    go_enter Tryz.func224, Tryz.ntmps224
    go_wp2_with fail
    refine HL.out.mono ?_
    rintro e w1 ⟨rfl, h1⟩
    obtain rfl : w = w1 := h1
    go_wp2_with fail
    refine HU.out.mono ?_
    rintro e w2 ⟨rfl, h2⟩
    obtain rfl : w = w2 := h2
    go_wp2_with fail
    go_ret
    exact ⟨rfl, rfl⟩
end
section
open Go.RowKit
theorem size_of' (l : List UInt8) : (⟨l.toArray⟩ : ByteArray).size = l.length := by simp [ByteArray.size]
end
section
open Go.RowKit
theorem drop_text (l : List UInt8) (s : ByteArray) (hs : s = ⟨l.toArray⟩) (k : Nat) : s.extract k s.size = ⟨(l.drop k).toArray⟩ := by
 subst hs
 apply ByteArray.ext
 rw [size_of']
 simp [ByteArray.extract, ByteArray.copySlice]
 rw [List.take_of_length_le (by simp)]
end
section
open Go.RowKit
def strc (p : List UInt8) : Value := .string ⟨p.toArray⟩
theorem pieces_size : ∀ l : List UInt8, (pcL l).length ≤ l.length + 1 ∧ ∀ p ∈ pcL l, p.length ≤ l.length
 | [] => ⟨by simp [pcL], by simp [pcL]⟩
 | b :: t => by
  obtain ⟨h1, h2⟩ := pieces_size t
  unfold pcL
  by_cases hb : b = 46
  · rw [if_pos hb]
    refine ⟨by simp; exact h1, fun p hp => ?_⟩
    rcases List.mem_cons.1 hp with rfl | hp
    · simp
    · have := h2 p hp; simp; omega
  · rw [if_neg hb]
    cases hq : pcL t with
    | nil => exact absurd hq (pieces_ne t)
    | cons q ps =>
     rw [hq] at h1 h2
     refine ⟨by show ((b :: q) :: ps).length ≤ _; simp at h1 ⊢; omega, fun p hp => ?_⟩
     have hp : p ∈ (b :: q) :: ps := hp
     rcases List.mem_cons.1 hp with rfl | hp
     · have := h2 q List.mem_cons_self; simp; omega
     · have := h2 p (List.mem_cons_of_mem _ hp); simp; omega
end
section
open Go.RowKit
theorem size_of (l : List UInt8) : (⟨l.toArray⟩ : ByteArray).size = l.length := by simp [ByteArray.size]
theorem map_add {o : Option Nat} {a b : Nat} : (o.map (· + a)).map (· + b) = o.map (· + (b + a)) := by cases o <;> simp; omega
set_option maxHeartbeats 1000000 in
theorem part_any (l : List UInt8) (w : World) (hl : l.length < 9223372036854775807) : Calls Tryz.prog 176 #[.string ⟨l.toArray⟩] w fun e w' => e = .returned (.bool (partL l)) ∧ Gr w w' := by
 obtain ⟨r, hr⟩ : ∃ r, r = partL l := ⟨_, rfl⟩
 rw [← hr]
 have HR := Lib.hid hr
 obtain ⟨s, hs⟩ : ∃ s : ByteArray, s = ⟨l.toArray⟩ := ⟨_, rfl⟩
 rw [← hs]
 have hsz : s.size = l.length := by rw [hs]; exact size_of l
 have HS := Lib.hid hs; have HSZ := Lib.hid hsz
 clear hr hs hsz
 go_enter Tryz.func176, Tryz.ntmps176
 go_wp2_with fail
 go_loopw [3] (fun n w' => ∃ (pos acc : Nat), w' = w.iter s pos ∧ n = .int .i64 acc ∧ acc ≤ pos ∧ pos ≤ s.size ∧ runesN l = (runesN (l.drop pos)).map (· + acc)) (fun _ w' => s.size - w'.iterPos w.heap.size)
 case atStart => exact ⟨0, 0, rfl, rfl, Nat.le_refl _, Nat.zero_le _, by rw [List.drop_zero]; cases runesN l <;> rfl⟩
 case round =>
  obtain ⟨pos, acc, rfl, rfl, ha, hps, hrn⟩ := hrel
  have HRN := Lib.hid hrn; clear hrn
  have GI : Hid (∀ q, Gr w (w.iter s q)) := fun q => Gr.alloc w (.stringIter s q)
  by_cases hp : pos < s.size
  · have hnx : ∀ ty, (Instr.next (.pointer (some ⟨w.heap.size, 0, none⟩)) true ty).run Tryz.prog (w.iter s pos) = _ := fun ty => run_next_any w s pos ty hp
    have hd := decode_small l pos (by rw [← HSZ.out]; exact hp)
    rw [← HS.out] at hd
    have hne : l.drop pos ≠ [] := by
     intro e
     have := congrArg List.length e
     rw [List.length_drop] at this
     have := HSZ.out
     simp at *
     omega
    have hsm := Lib.hid (small_any (Utf8.decode s pos).1)
    generalize hdec : Utf8.decode s pos = dc at *
    obtain ⟨rn, wd⟩ := dc
    simp only at hd hsm hnx
    cases hb : smallR rn with
    | false =>
     rw [hb] at hd hsm
     rw [if_neg (by decide)] at hd
     have HF : Hid (r = false) := by
      show r = false
      rw [HR.out]
      unfold partL
      rw [HRN.out, runesN_stop hd hne]
      rfl
     clear hd hb hne hdec
     go_wp2_with fail
     refine (hsm.out _).mono ?_
     rintro e w1 ⟨rfl, h1⟩
     subst h1
     go_wp2_with fail
     go_ret
     exact ⟨by rw [HF.out]; rfl, GI.out _⟩
    | true =>
     rw [hb] at hd hsm
     rw [if_pos rfl] at hd
     have hwp : 0 < wd := by have := Lib.decode_width_pos s pos hp; rw [hdec] at this; exact this
     obtain ⟨h3, h4, h5⟩ := runesN_step hd hwp
     rw [List.drop_drop] at h5
     rw [List.length_drop] at h3
     have HN2 : Hid (runesN l = (runesN (l.drop (pos + wd))).map (· + (acc + 1))) := by
      show _ = _
      rw [HRN.out, h5, map_add]
     have hpw : pos + wd ≤ s.size := by rw [HSZ.out]; have := HSZ.out; omega
     have hz := HSZ.out
     clear hd hb hne hdec h3 h5
     go_wp2_with fail
     refine (hsm.out _).mono ?_
     rintro e w1 ⟨rfl, h1⟩
     subst h1
     go_wp2_with fail
     go_roundw
     case rel => exact ⟨pos + wd, acc + 1, rfl, by go_num, by omega, hpw, HN2.out⟩
     case measure => simp; omega
  · have hnx : ∀ ty, (Instr.next (.pointer (some ⟨w.heap.size, 0, none⟩)) true ty).run Tryz.prog (w.iter s pos) = _ := fun ty => run_next_end w s pos ty hp
    have hpe : pos = l.length := by have := HSZ.out; omega
    have HE : Hid (r = (decide (1 ≤ acc) && decide (acc ≤ 8))) := by
     show r = _
     rw [HR.out]
     unfold partL
     rw [HRN.out, hpe, List.drop_length]
     simp [runesN]
    clear hpe
    by_cases h1 : acc < 1
    · have HF : Hid (r = false) := by show r = false; rw [HE.out]; simp; omega
      go_wp2_with fail
      go_ret
      exact ⟨by rw [HF.out]; rfl, GI.out _⟩
    by_cases h8 : acc ≤ 8
    · have HF : Hid (r = true) := by show r = true; rw [HE.out]; simp; omega
      have t8 : decide ((acc : Int) ≤ 8) = true := decide_eq_true (by omega)
      go_wp2_with fail
      go_ret
      exact ⟨by rw [HF.out]; rfl, GI.out _⟩
    · have HF : Hid (r = false) := by show r = false; rw [HE.out]; simp; omega
      have t8 : decide ((acc : Int) ≤ 8) = false := decide_eq_false (by omega)
      go_wp2_with fail
      go_ret
      exact ⟨by rw [HF.out]; rfl, GI.out _⟩
end
end Go.Proofs.YtdkmlmbehlooiaaGreatDoor
