/- Own texts, one behind the other. No condition. -/
import Derived.Test.YtdkmlmbehlooiaaGreatDoorObPkBI
import Derived.Defers
import Derived.Recover
set_option linter.unusedVariables false
set_option linter.unusedSimpArgs false
namespace Go.Proofs.YtdkmlmbehlooiaaGreatDoor
section
open Go.RowKit
structure Wtr (w0 w : World) (pw : Nat) (v : Value) (l : List UInt8) : Prop where
 ge : w0.heap.size ≤ pw
 b : Blk w pw 244 [v]
 o : Own w0 w 5 1 v l.length (l.map u8c)
structure WtF (w0 w w' : World) (pw : Nat) (v v' : Value) (l : List UInt8) : Prop where
 wt : Wtr w0 w' pw v' l
 t : Tch (fun z => z = pw ∨ v.ownBlock = some z) w w'
 v : v'.ownBlock = v.ownBlock ∨ ∀ z, v'.ownBlock = some z → w.heap.size ≤ z
def WtX (pw : Nat) (v : Value) (A : Option Addr) (n : Nat) : Prop := ∀ b o, 0 < n → A = some ⟨b, o, none⟩ → b ≠ pw ∧ v.ownBlock ≠ some b
section
variable {w0 w w' w'' : World} {pw : Nat} {v v' v'' : Value} {l l' : List UInt8}
theorem Wtr.mono (h : Wtr w0 w pw v l) (g : Gr w w') : Wtr w0 w' pw v l := ⟨h.ge, h.b.mono g, h.o.mono g⟩
theorem WtF.pre {w1 : World} (g : Gr w w1) (h : WtF w0 w1 w' pw v v' l) : WtF w0 w w' pw v v' l := ⟨h.wt, (Tch.gr g).trans h.t, h.v.imp id (fun q z e => Nat.le_trans g.size (q z e))⟩
theorem WtF.trans (h : WtF w0 w w' pw v v' l) (k : WtF w0 w' w'' pw v' v'' l') : WtF w0 w w'' pw v v'' l' := by
 refine ⟨k.wt, h.t.trans' k.t (fun z hz q => ?_), ?_⟩
 · rcases q with e | e
   · exact .inl e
   · rcases h.v with q | q
     · exact .inr (by rw [← q]; exact e)
     · have := q z e; omega
 · rcases k.v with q | q
   · rcases h.v with q2 | q2
     · exact .inl (q.trans q2)
     · exact .inr (fun z e => q2 z (by rw [← q]; exact e))
   · exact .inr (fun z e => Nat.le_trans h.t.size (q z e))
theorem WtX.nx {A : Option Addr} {n c : Nat} {x : List UInt8} (h : WtX pw v A n) (hx : Bs w A n c x) (k : WtF w0 w w' pw v v' l) : Bs w' A n c x ∧ WtX pw v' A n := by
 have hl : ∀ b o, 0 < n → A = some ⟨b, o, none⟩ → b < w.heap.size := fun b o h0 e => Bs.lt (r := ⟨A, n, c, x⟩) hx h0 b o e
 refine ⟨⟨hx.1, hx.2.1, hx.2.2.1, fun h0 => ?_⟩, fun b o h0 e => ⟨(h b o h0 e).1, fun q => ?_⟩⟩
 · obtain ⟨b, o, e, hc⟩ := hx.2.2.2 h0
   exact ⟨b, o, e, fun j u hu => (World.cell?_of_block (w := w) (a := ⟨b, o + j, none⟩) (k.t.keep b (hl b o h0 e) (fun q => by
    rcases q with q | q
    · exact (h b o h0 e).1 q
    · exact (h b o h0 e).2 q))).trans (hc j u hu)⟩
 · rcases k.v with q2 | q2
   · exact (h b o h0 e).2 (by rw [← q2]; exact q)
   · have := q2 b q; have := hl b o h0 e; omega
theorem WtX.old {A : Option Addr} {n c : Nat} {x : List UInt8} (h : Wtr w0 w pw v l) (hx : Bs w0 A n c x) : WtX pw v A n := fun b o h0 e => by
 have h1 := Bs.lt (r := ⟨A, n, c, x⟩) hx h0 b o e
 have h2 := h.ge
 exact ⟨by omega, fun q => by have := h.o.ge q; omega⟩
set_option maxRecDepth 100000 in
set_option maxHeartbeats 1000000 in
theorem wrPut_any (h : Wtr w0 w pw v l) (A : Option Addr) (n c : Nat) (x : List UInt8) (hx : Bs w A n c x) (hl : l.length ≤ 100000) (hn : n ≤ 100000) :
 Calls Tryz.prog 236 #[.pointer (some ⟨pw, 0, none⟩), .slice A n c] w fun e w' => (∃ u, e = .returned u) ∧ ∃ v', WtF w0 w w' pw v v' (l ++ x) := by
 have hge := h.ge
 have HB := Lib.hid h.b; have HO := Lib.hid h.o; have HX := Lib.hid hx
 have hxl : x.length = n := by have := hx.len; simpa using this
 have HL : Hid ((l ++ x).length = l.length + n) := by show _ = _; rw [List.length_append, hxl]
 have k0 := h.b.cell 0
 clear h hx hxl
 obtain ⟨N, hN⟩ : ∃ N, N = l.length := ⟨_, rfl⟩
 rw [← hN] at hl HO HL
 clear hN
 go_enter Tryz.func236, Tryz.ntmps236
 go_wp2_with (at_builtin; refine wpList_catG rfl (.tmp 10) (.tmp 11) 36 rfl tBytes rfl HO.out rfl HX.out (one_bytes _) (by omega) ?_; intro v1 w1 o1 kp; obtain ⟨A1, c1, rfl, _⟩ := o1.slice; have T1 := Lib.hid (kp.tch (below_two HO.out.below o1.below kp.2.1)); have B1 := Lib.hid (HB.out.tch T1.out (fun q => by obtain ⟨cs, z⟩ := HO.out.blk_at q; exact absurd (bTy z HB.out) (by decide))); have O1 := Lib.hid o1; have KP := Lib.hid kp.2.2; clear o1 kp; have k1 := B1.out.cell 0; have f1 := Blk.free B1.out 0)
 go_end0
 have T2 : Tch (fun z => z = pw) w1 (w1.setCell ⟨pw, 0, none⟩ (.slice A1 (N + n) c1)) := Tch.set ⟨pw, 0, none⟩ _ rfl
 have nv : ∀ z, z = pw → ∀ b, (Value.slice A1 (N + n) c1).ownBlock = some b → ¬ b = z := fun z e b q e2 => by
  obtain ⟨cs, z2⟩ := O1.out.blk_at q
  rw [e2, e] at z2
  exact absurd (bTy z2 B1.out) (by decide)
 refine ⟨⟨_, rfl⟩, _, ⟨hge, B1.out.set 0 _, ?_⟩, (T1.out.mono (fun z _ e => .inr e)).trans (T2.mono (fun z _ e => .inl e)), ?_⟩
 · rw [HL.out, List.map_append]
   exact O1.out.tch T2 (fun z e => by rw [e]; exact hge) (fun b q e => nv b e b q rfl)
 · rcases KP.out with q | q
   · exact .inl q
   · exact .inr (fun z e => by rw [q] at e; injection e with e; omega)
set_option maxRecDepth 100000 in
set_option maxHeartbeats 1000000 in
theorem wrNumber_any (h : Wtr w0 w pw v l) (k : Nat) (hk : k ≤ 65535) (hl : l.length ≤ 100000) :
 Calls Tryz.prog 235 #[.pointer (some ⟨pw, 0, none⟩), .int .u64 (k : Int), .int .i64 2] w fun e w' => (∃ u, e = .returned u) ∧ ∃ v', WtF w0 w w' pw v v' (l ++ be k 2) := by
 have HP := Lib.hid (put_yes k 2 w (by omega) (by decide) (by decide))
 have H := Lib.hid h
 clear h
 go_enter Tryz.func235, Tryz.ntmps235
 go_wp2_with fail
 refine HP.out.mono ?_
 rintro e w1 ⟨v1, rfl, o1⟩
 rw [be_length] at o1
 obtain ⟨A1, c1, rfl, s1⟩ := o1.slice
 have G1 := Lib.hid (show Gr w w1 from o1.below)
 have HPU := Lib.hid (wrPut_any (H.out.mono o1.below) A1 2 c1 (be k 2) s1 hl (by decide))
 clear o1 s1
 go_wp2_with fail
 refine HPU.out.mono ?_
 rintro e w2 ⟨⟨u, rfl⟩, v', f2⟩
 have F2 := Lib.hid (WtF.pre G1.out f2)
 clear f2
 go_wp2_with fail
 go_end0
 exact ⟨⟨_, rfl⟩, v', F2.out⟩
set_option maxRecDepth 100000 in
set_option maxHeartbeats 1000000 in
theorem wrBytes_any (h : Wtr w0 w pw v l) (A : Option Addr) (n c : Nat) (x : List UInt8) (hx : Bs w A n c x) (hap : WtX pw v A n) (hl : l.length ≤ 90000) (hn : n ≤ 65535) :
 Calls Tryz.prog 189 #[.pointer (some ⟨pw, 0, none⟩), .slice A n c] w fun e w' => (∃ u, e = .returned u) ∧ ∃ v', WtF w0 w w' pw v v' (l ++ fieldL x) := by
 have hxl : x.length = n := by have := hx.len; simpa using this
 have HNU := Lib.hid (wrNumber_any h n hn (by omega))
 have H := Lib.hid h; have HX := Lib.hid hx; have HAP := Lib.hid hap
 have hcap := hx.cap; have hmax := hx.max
 have hr1 := run_upto tBytes A n c n hcap
 have hmn : min (n : Int) 65535 = (n : Int) := by omega
 have wn : IntKind.u64.wrap (n : Int) = (n : Int) := IntWalk.u64_in (n : Int) (by omega)
 have HF : Hid (l ++ fieldL x = (l ++ be n 2) ++ x) := by show _ = _; unfold fieldL; rw [hxl, List.append_assoc]
 clear h hx hap hxl
 go_enter Tryz.func189, Tryz.ntmps189
 go_wp2_with fail
 refine HNU.out.mono ?_
 rintro e w1 ⟨⟨u, rfl⟩, v1, f1⟩
 obtain ⟨x1, ap1⟩ := HAP.out.nx HX.out f1
 have HPU := Lib.hid (wrPut_any f1.wt A n c x x1 (by rw [List.length_append, be_length]; omega) (by omega))
 have F1 := Lib.hid f1
 clear f1 x1 ap1
 go_wp2_with fail
 refine HPU.out.mono ?_
 rintro e w2 ⟨⟨u, rfl⟩, v2, f2⟩
 have F2 := Lib.hid (F1.out.trans f2)
 clear f2
 go_wp2_with fail
 go_end0
 exact ⟨⟨_, rfl⟩, v2, by rw [HF.out]; exact F2.out⟩
set_option maxRecDepth 100000 in
set_option maxHeartbeats 1000000 in
theorem wrOut_any (h : Wtr w0 w pw v l) (hl : l.length ≤ 100000) :
 Calls Tryz.prog 190 #[.pointer (some ⟨pw, 0, none⟩)] w (RetBs w l) := by
 obtain ⟨A, c, hv, s⟩ := h.o.slice
 have HCL := Lib.hid (clone_any A l.length c l w s (by omega))
 have k0 := h.b.cell 0
 rw [hv] at k0
 clear h hv s
 go_enter Tryz.func190, Tryz.ntmps190
 go_wp2_with fail
 refine HCL.out.mono ?_
 rintro e w1 ⟨v1, rfl, o1⟩
 have O1 := Lib.hid o1
 clear o1
 go_wp2_with fail
 go_ret
 exact ⟨v1, rfl, O1.out⟩
set_option maxRecDepth 100000 in
set_option maxHeartbeats 1000000 in
theorem wrText_any (h : Wtr w0 w pw v l) (x : List UInt8) (hl : l.length ≤ 90000) (hn : x.length ≤ 65535) :
 Calls Tryz.prog 269 #[.pointer (some ⟨pw, 0, none⟩), .string ⟨x.toArray⟩] w fun e w' => (∃ u, e = .returned u) ∧ ∃ v', WtF w0 w w' pw v v' (l ++ fieldL x) := by
 obtain ⟨cf, wf, hcv0⟩ := conv2_fn (P := Tryz.prog) ⟨x.toArray⟩ 36 Tryz.underlying9 Tryz.underlying36 Tryz.underlying5 (by show x.toArray.size ≤ maxLen; rw [List.size_toArray]; simp only [maxLen]; omega)
 obtain ⟨hcv, b1, g1⟩ := hcv0 w
 have hsz : (⟨x.toArray⟩ : ByteArray).size = x.length := by show x.toArray.size = _; rw [List.size_toArray]
 rw [hsz] at hcv b1
 have HBY := Lib.hid (wrBytes_any (h.mono g1) (some ⟨w.heap.size, 0, none⟩) x.length (cf w) x b1 (fun b o h0 e => by
  injection e with e
  injection e with e1 _
  subst e1
  exact ⟨by have := h.b.lt; omega, fun q => by have := (h.o.1.lt _ q).2; omega⟩) hl hn)
 have G1 := Lib.hid g1
 clear h g1 hcv0 b1 hsz
 go_enter Tryz.func269, Tryz.ntmps269
 go_wp2_with fail
 refine HBY.out.mono ?_
 rintro e w2 ⟨⟨u, rfl⟩, v2, f2⟩
 have F2 := Lib.hid (WtF.pre G1.out f2)
 clear f2
 go_wp2_with fail
 go_end0
 exact ⟨⟨_, rfl⟩, v2, F2.out⟩
end
end
section
open Go.RowKit
section
variable {w0 w w' : World} {a d l : Int}
theorem nodeRow_any (A : Option Addr) (n c : Nat) (w : World) : Calls Tryz.prog 101 #[.slice A n c] w fun e w' => e = .returned (.bool (decide (n = 0) || decide (n = 80))) ∧ Gr w w' := by
 have HS := Lib.hid (boxSize_any 32 w (by decide))
 have t0 : ((n : Int) == 0) = decide (n = 0) := by
  by_cases h : n = 0
  · subst h; rfl
  · rw [decide_eq_false h, beq_eq_false_iff_ne]; omega
 have t8 : ((n : Int) == 80) = decide (n = 80) := by
  by_cases h : n = 80
  · subst h; rfl
  · rw [decide_eq_false h, beq_eq_false_iff_ne]; omega
 by_cases hz : n = 0
 · have HZ := Lib.hid hz
   rw [decide_eq_true hz] at t0 ⊢
   clear hz t8 HS
   go_enter Tryz.func101, Tryz.ntmps101
   go_wp2_with fail
   go_ret
   exact ⟨rfl, Gr.refl _⟩
 · rw [decide_eq_false hz] at t0 ⊢
   clear hz
   go_enter Tryz.func101, Tryz.ntmps101
   go_wp2_with fail
   refine HS.out.mono ?_
   rintro e w1 ⟨rfl, hw⟩
   subst hw
   go_wp2_with fail
   go_ret
   exact ⟨ret_bool (by rw [Bool.false_or]), Gr.refl _⟩
theorem nodeEmpty_any (A : Option Addr) (n c : Nat) (w : World) : Calls Tryz.prog 90 #[.slice A n c] w fun e w' => e = .returned (.bool (decide (n = 0))) ∧ w = w' := by
 have t0 : ((n : Int) == 0) = decide (n = 0) := by
  by_cases h : n = 0
  · subst h; rfl
  · rw [decide_eq_false h, beq_eq_false_iff_ne]; omega
 go_enter Tryz.func90, Tryz.ntmps90
 go_wp2_with fail
 go_ret
 exact ⟨rfl, rfl⟩
theorem nodeOdd_any (r : BRow) (w : World) : Calls Tryz.prog 186 #[.slice r.a r.n r.c] w fun e w' => e = .returned (.bool (!(decide (r.n = 0) || decide (r.n = 80)))) ∧ Gr w w' := by
 have HR := Lib.hid (nodeRow_any r.a r.n r.c w)
 generalize (decide (r.n = 0) || decide (r.n = 80)) = q at *
 go_enter Tryz.func186, Tryz.ntmps186
 go_wp2_with fail
 refine HR.out.mono ?_
 rintro e w1 ⟨rfl, g1⟩
 have G1 := Lib.hid g1
 clear g1
 go_wp2_with fail
 go_ret
 exact ⟨rfl, G1.out⟩
theorem nodeSome_any (r : BRow) (w : World) : Calls Tryz.prog 188 #[.slice r.a r.n r.c] w fun e w' => e = .returned (.bool (decide (0 < r.n))) ∧ Gr w w' := by
 have t : decide ((0 : Int) < (r.n : Int)) = decide (0 < r.n) := decide_eq_decide.2 (by omega)
 go_enter Tryz.func188, Tryz.ntmps188
 go_wp2_with fail
 go_ret
 exact ⟨ret_bool rfl, Gr.refl _⟩
set_option maxHeartbeats 400000 in
theorem indexOdd (A : Option Addr) (n c : Nat) (R : List BRow) (q : BRow → Bool) (w : World) (h : Sl w A n c 1 (R.map BRow.v)) (hq : ∀ r ∈ R, ∀ w', Gr w w' → Calls Tryz.prog 186 #[.slice r.a r.n r.c] w' fun e w'' => e = .returned (.bool (q r)) ∧ Gr w' w'') :
 Calls Tryz.prog 234 #[.slice A n c, .func (.func 186) #[] #[]] w fun e w' => ∃ r, e = .returned (.int .i64 r) ∧ decide (0 ≤ r) = R.any q ∧ Gr w w' := by
 have hmax := h.max
 have hcap := h.cap
 have hll : R.length = n := by have := Sl.len h; simpa using this
 have HL := Lib.hid hll
 have HH := Lib.hid h; have HQ := Lib.hid hq; clear h hq hll
 go_enter Tryz.func234, Tryz.ntmps234
 go_wp2
 go_loopw [8] (fun i wr => ∃ k : Nat, k ≤ n ∧ i = .int .i64 k ∧ Gr w wr ∧ (R.take k).any q = false) (fun i _ => n - (Go.RowKit.intOf i).toNat)
 case atStart => exact ⟨0, Nat.zero_le _, rfl, Gr.refl _, rfl⟩
 case round =>
  obtain ⟨k, hk, rfl, hbel, hall⟩ := hrel
  have HA := Lib.hid hall; have HB := Lib.hid hbel; clear hall
  by_cases hlt : k < n
  · obtain ⟨b, o, rfl, hcc⟩ := Sl.addr (HH.out.mono hbel) (by omega)
    have hkl : k < R.length := by rw [HL.out]; exact hlt
    obtain ⟨x, hx⟩ : ∃ x, R[k]? = some x := ⟨_, List.getElem?_eq_getElem hkl⟩
    have c1 : wr.cell? ⟨b, o + k, none⟩ = some (.slice x.a x.n x.c) := hcc k _ (by rw [List.getElem?_map, hx]; rfl)
    have HC := Lib.hid (HQ.out x (List.mem_of_getElem? hx) wr hbel)
    have HS : Hid ((R.take (k + 1)).any q = ((R.take k).any q || q x)) := by
     show _ = _
     rw [List.take_add_one, hx, List.any_append]
     simp
    have HT : Hid (q x = true → R.any q = true) := fun hh => List.any_eq_true.2 ⟨x, List.mem_of_getElem? hx, hh⟩
    clear hcc hkl hbel hx
    cases he : q x
    · have HT2 : Hid ((R.take (k + 1)).any q = false) := by show _ = _; rw [HS.out, HA.out, he]; rfl
      rw [he] at HC
      clear he
      go_wp2_with (go_at_call 186; refine HC.out.mono ?_; rintro e w1 ⟨rfl, b1⟩)
      go_roundw
      case rel => exact ⟨k + 1, by omega, by go_num, HB.out.trans b1, HT2.out⟩
      case measure => simp [Go.RowKit.intOf]; omega
    · have HF : Hid (R.any q = true) := HT.out he
      rw [he] at HC
      clear he
      go_wp2_with (go_at_call 186; refine HC.out.mono ?_; rintro e w1 ⟨rfl, b1⟩)
      go_ret
      exact ⟨k, rfl, by rw [HF.out, decide_eq_true_iff]; omega, HB.out.trans b1⟩
  · obtain rfl : n = k := by omega
    have HF : Hid (R.any q = false) := by have := HA.out; rwa [List.take_of_length_le (by rw [HL.out]; omega)] at this
    clear hbel
    go_wp2
    go_ret
    exact ⟨-1, rfl, by rw [HF.out]; rfl, HB.out⟩
theorem containsOdd (A : Option Addr) (n c : Nat) (R : List BRow) (q : BRow → Bool) (w : World) (h : Sl w A n c 1 (R.map BRow.v)) (hq : ∀ r ∈ R, ∀ w', Gr w w' → Calls Tryz.prog 186 #[.slice r.a r.n r.c] w' fun e w'' => e = .returned (.bool (q r)) ∧ Gr w' w'') :
 Calls Tryz.prog 187 #[.slice A n c, .func (.func 186) #[] #[]] w fun e w' => e = .returned (.bool (R.any q)) ∧ Gr w w' := by
 have HI := Lib.hid (indexOdd A n c R q w h hq)
 clear h hq
 go_enter Tryz.func187, Tryz.ntmps187
 go_wp2_with fail
 refine HI.out.mono ?_
 rintro e w1 ⟨r, rfl, hr, g1⟩
 have HR := Lib.hid hr; have G1 := Lib.hid g1; clear hr g1
 go_wp2_with fail
 go_ret
 exact ⟨ret_bool HR.out, G1.out⟩
set_option maxHeartbeats 400000 in
theorem indexAny (A : Option Addr) (n c : Nat) (R : List BRow) (q : BRow → Bool) (w : World) (h : Sl w A n c 1 (R.map BRow.v)) (hq : ∀ r ∈ R, ∀ w', Gr w w' → Calls Tryz.prog 188 #[.slice r.a r.n r.c] w' fun e w'' => e = .returned (.bool (q r)) ∧ Gr w' w'') :
 Calls Tryz.prog 234 #[.slice A n c, .func (.func 188) #[] #[]] w fun e w' => ∃ r, e = .returned (.int .i64 r) ∧ decide (0 ≤ r) = R.any q ∧ Gr w w' := by
 have hmax := h.max
 have hcap := h.cap
 have hll : R.length = n := by have := Sl.len h; simpa using this
 have HL := Lib.hid hll
 have HH := Lib.hid h; have HQ := Lib.hid hq; clear h hq hll
 go_enter Tryz.func234, Tryz.ntmps234
 go_wp2
 go_loopw [8] (fun i wr => ∃ k : Nat, k ≤ n ∧ i = .int .i64 k ∧ Gr w wr ∧ (R.take k).any q = false) (fun i _ => n - (Go.RowKit.intOf i).toNat)
 case atStart => exact ⟨0, Nat.zero_le _, rfl, Gr.refl _, rfl⟩
 case round =>
  obtain ⟨k, hk, rfl, hbel, hall⟩ := hrel
  have HA := Lib.hid hall; have HB := Lib.hid hbel; clear hall
  by_cases hlt : k < n
  · obtain ⟨b, o, rfl, hcc⟩ := Sl.addr (HH.out.mono hbel) (by omega)
    have hkl : k < R.length := by rw [HL.out]; exact hlt
    obtain ⟨x, hx⟩ : ∃ x, R[k]? = some x := ⟨_, List.getElem?_eq_getElem hkl⟩
    have c1 : wr.cell? ⟨b, o + k, none⟩ = some (.slice x.a x.n x.c) := hcc k _ (by rw [List.getElem?_map, hx]; rfl)
    have HC := Lib.hid (HQ.out x (List.mem_of_getElem? hx) wr hbel)
    have HS : Hid ((R.take (k + 1)).any q = ((R.take k).any q || q x)) := by
     show _ = _
     rw [List.take_add_one, hx, List.any_append]
     simp
    have HT : Hid (q x = true → R.any q = true) := fun hh => List.any_eq_true.2 ⟨x, List.mem_of_getElem? hx, hh⟩
    clear hcc hkl hbel hx
    cases he : q x
    · have HT2 : Hid ((R.take (k + 1)).any q = false) := by show _ = _; rw [HS.out, HA.out, he]; rfl
      rw [he] at HC
      clear he
      go_wp2_with (go_at_call 188; refine HC.out.mono ?_; rintro e w1 ⟨rfl, b1⟩)
      go_roundw
      case rel => exact ⟨k + 1, by omega, by go_num, HB.out.trans b1, HT2.out⟩
      case measure => simp [Go.RowKit.intOf]; omega
    · have HF : Hid (R.any q = true) := HT.out he
      rw [he] at HC
      clear he
      go_wp2_with (go_at_call 188; refine HC.out.mono ?_; rintro e w1 ⟨rfl, b1⟩)
      go_ret
      exact ⟨k, rfl, by rw [HF.out, decide_eq_true_iff]; omega, HB.out.trans b1⟩
  · obtain rfl : n = k := by omega
    have HF : Hid (R.any q = false) := by have := HA.out; rwa [List.take_of_length_le (by rw [HL.out]; omega)] at this
    clear hbel
    go_wp2
    go_ret
    exact ⟨-1, rfl, by rw [HF.out]; rfl, HB.out⟩
theorem containsAny (A : Option Addr) (n c : Nat) (R : List BRow) (q : BRow → Bool) (w : World) (h : Sl w A n c 1 (R.map BRow.v)) (hq : ∀ r ∈ R, ∀ w', Gr w w' → Calls Tryz.prog 188 #[.slice r.a r.n r.c] w' fun e w'' => e = .returned (.bool (q r)) ∧ Gr w' w'') :
 Calls Tryz.prog 187 #[.slice A n c, .func (.func 188) #[] #[]] w fun e w' => e = .returned (.bool (R.any q)) ∧ Gr w w' := by
 have HI := Lib.hid (indexAny A n c R q w h hq)
 clear h hq
 go_enter Tryz.func187, Tryz.ntmps187
 go_wp2_with fail
 refine HI.out.mono ?_
 rintro e w1 ⟨r, rfl, hr, g1⟩
 have HR := Lib.hid hr; have G1 := Lib.hid g1; clear hr g1
 go_wp2_with fail
 go_ret
 exact ⟨ret_bool HR.out, G1.out⟩
theorem rowsE_snoc (L : List (List UInt8)) (x : List UInt8) : rowsE (L ++ [x]) = rowsE L ++ fieldL x := by
 unfold rowsE
 rw [List.flatMap_append]
 simp
theorem rowsE_len : ∀ L : List (List UInt8), (∀ x ∈ L, x.length ≤ 80) → (rowsE L).length ≤ L.length * 82
 | [], _ => Nat.zero_le _
 | x :: L, h => by
  have h1 := h x List.mem_cons_self
  have h2 := rowsE_len L (fun y hy => h y (List.mem_cons_of_mem _ hy))
  unfold rowsE at h2 ⊢
  rw [List.flatMap_cons, List.length_append, fLn, List.length_cons]
  omega
set_option maxRecDepth 100000 in
set_option maxHeartbeats 2000000 in
theorem nodeEncode_any (g : Geo a d l) (A : Option Addr) (n c : Nat) (R : List BRow) (hn : (n : Int) = a) (h : Sl w A n c 1 (R.map BRow.v)) (hr : ∀ r ∈ R, Bs w r.a r.n r.c r.l) (hok : ∀ r ∈ R, (decide (r.n = 0) || decide (r.n = 80)) = true) (hs : R.any (fun r => decide (0 < r.n)) = true) :
 Calls Tryz.prog 119 #[.agg #[.int .i64 a, .int .i64 d, .int .i64 l], .slice A n c] w fun e w' => ∃ v, e = .returned (.tuple #[v, .int .i64 0]) ∧ Own w w' 5 1 v (rowsE (R.map BRow.l)).length ((rowsE (R.map BRow.l)).map u8c) := by
 have hRn : R.length = n := by have := Sl.len h; simpa using this
 have hn4 : n ≤ 4 := by
  obtain ⟨x, y, e1, e2, x1, x2, _, _⟩ := rightB_ok g.r
  omega
 obtain ⟨W, hW⟩ : ∃ W, W = w.alloc (.cells #[.int .i64 a, .int .i64 d, .int .i64 l] 23) := ⟨_, rfl⟩
 have g0 : Gr w W := by rw [hW]; exact Gr.alloc _ _
 have b0 : Blk W w.heap.size 23 [.int .i64 a, .int .i64 d, .int .i64 l] := by rw [hW]; exact Blk.new w _ _
 have HRI := Lib.hid (fun wr => gRa a d l wr)
 rw [g.r] at HRI
 have HOD := Lib.hid (fun wr (q : Gr w wr) => containsOdd A n c R (fun r => !(decide (r.n = 0) || decide (r.n = 80))) wr (h.mono q) (fun r _ w' _ => nodeOdd_any r w'))
 have HSO := Lib.hid (fun wr (q : Gr w wr) => containsAny A n c R (fun r => decide (0 < r.n)) wr (h.mono q) (fun r _ w' _ => nodeSome_any r w'))
 have hodd : (R.any fun r => !(decide (r.n = 0) || decide (r.n = 80))) = false := by
  rw [List.any_eq_false]
  intro r q
  rw [hok r q]
  decide
 rw [hodd] at HOD
 rw [hs] at HSO
 have HSL := Lib.hid h
 have HRR := Lib.hid hr
 have HLE : Hid (∀ r ∈ R, r.n ≤ 80 ∧ r.l.length = r.n) := fun r q => by
  have h1 := hok r q
  have h2 := (hr r q).len
  simp only [Bool.or_eq_true, decide_eq_true_eq] at h1
  exact ⟨by omega, by simpa using h2⟩
 have HRN := Lib.hid hRn
 have G0 := Lib.hid g0; have B0 := Lib.hid b0; have HW := Lib.hid hW
 have tn : ((n : Int) != a) = false := by rw [hn]; simp
 clear h hr hok hs hRn g0 b0 hW hodd
 go_enter Tryz.func119, Tryz.ntmps119
 go_upto_region 2 with fail
 rw [← HW.out]
 have k0 := B0.out.cell 0
 have k1 := B0.out.cell 1
 have k2 := B0.out.cell 2
 go_wp2_with fail
 refine (HRI.out W).mono ?_
 rintro e w1 ⟨rfl, g1⟩
 have G1 := Lib.hid (G0.out.trans g1)
 have B1 := Lib.hid (B0.out.mono g1)
 clear k0 k1 k2 g1
 have k0 := B1.out.cell 0
 go_wp2_with fail
 refine (HOD.out w1 G1.out).mono ?_
 rintro e w2 ⟨rfl, g2⟩
 have G2 := Lib.hid (G1.out.trans g2)
 clear k0 g2
 go_wp2_with fail
 refine (HSO.out w2 G2.out).mono ?_
 rintro e w3 ⟨rfl, g3⟩
 have G3 := Lib.hid (G2.out.trans g3)
 clear g3
 go_upto_region 8 with fail
 obtain ⟨w4, hw4⟩ : ∃ w4, w4 = w3.alloc (.cells #[.slice none 0 0] 244) := ⟨_, rfl⟩
 rw [← hw4]
 have g34 : Gr w3 w4 := by rw [hw4]; exact Gr.alloc _ _
 have T4 : Hid (Wtr w w4 w3.heap.size (.slice none 0 0) []) := ⟨G3.out.size, by rw [hw4]; exact Blk.new w3 _ _, (Own.nil w4 _ _).base (G3.out.trans g34)⟩
 clear hw4 g34
 generalize w3.heap.size = pw at *
 have hcap := HSL.out.cap; have hmax := HSL.out.max
 have e1 := enters_of Tryz.func189 (by kernel_rfl) rfl
 go_wp2_with fail
 go_loopw [35] (fun i wr => ∃ k : Nat, k ≤ n ∧ i = .int .i64 (k : Int) ∧ ∃ v, Wtr w wr pw v (rowsE ((R.take k).map BRow.l))) (fun i _ => n - (Go.RowKit.intOf i).toNat)
 case atStart => exact ⟨0, Nat.zero_le _, rfl, _, T4.out⟩
 case round =>
  obtain ⟨k, hk, rfl, v, ht⟩ := hrel
  have HT := Lib.hid ht
  clear ht
  have hgr : Gr w wr := HT.out.o.below
  by_cases hlt : k < n
  · have t : decide ((k : Int) < (n : Int)) = true := decide_eq_true (by omega)
    have wk : IntKind.i64.wrap ((k : Int) + 1) = (k : Int) + 1 := IntWalk.i64_in _ (by omega)
    obtain ⟨b, o, rfl, hcc⟩ := Sl.addr (HSL.out.mono hgr) (by omega)
    obtain ⟨x, hx⟩ : ∃ x, R[k]? = some x := ⟨_, List.getElem?_eq_getElem (by rw [HRN.out]; exact hlt)⟩
    have c1 : wr.cell? ⟨b, o + k, none⟩ = some (.slice x.a x.n x.c) := hcc k _ (by rw [List.getElem?_map, hx]; rfl)
    have hm := List.mem_of_getElem? hx
    have hb := HRR.out x hm
    have h80 := HLE.out x hm
    have hlen : (rowsE ((R.take k).map BRow.l)).length ≤ 1000 := by
     have h1 := rowsE_len ((R.take k).map BRow.l) (fun y hy => by
      obtain ⟨r, hr, rfl⟩ := List.mem_map.1 hy
      have := HLE.out r (List.mem_of_mem_take hr)
      omega)
     rw [List.length_map, List.length_take] at h1
     omega
    have HBY := Lib.hid (wrBytes_any HT.out x.a x.n x.c x.l (hb.mono hgr) (WtX.old HT.out hb) (by omega) (by omega))
    have HE : Hid (rowsE ((R.take (k + 1)).map BRow.l) = rowsE ((R.take k).map BRow.l) ++ fieldL x.l) := by
     show _ = _
     rw [List.take_add_one, hx, List.map_append]
     exact rowsE_snoc _ _
    clear hcc hx hm hb h80 hlen hgr
    go_wp2_with fail
    refine HBY.out.mono ?_
    rintro e w5 ⟨⟨u, rfl⟩, v', f'⟩
    have F' := Lib.hid f'.wt
    clear f'
    go_wp2_with fail
    refine ⟨⟨k + 1, by omega, by go_num, v', by rw [HE.out]; exact F'.out⟩, by simp [Go.RowKit.intOf]; omega⟩
  · obtain rfl : n = k := by omega
    have t : decide ((n : Int) < (n : Int)) = false := decide_eq_false (by omega)
    have HE : Hid (rowsE ((R.take n).map BRow.l) = rowsE (R.map BRow.l)) := by show _ = _; rw [List.take_of_length_le (by rw [HRN.out]; exact Nat.le_refl _)]
    have hlen : (rowsE (R.map BRow.l)).length ≤ 1000 := by
     have h1 := rowsE_len (R.map BRow.l) (fun y hy => by
      obtain ⟨r, hr, rfl⟩ := List.mem_map.1 hy
      have := HLE.out r hr
      omega)
     rw [List.length_map, HRN.out] at h1
     omega
    have HO := Lib.hid (wrOut_any HT.out (by rw [HE.out]; omega))
    rw [HE.out] at HO
    clear hlen
    go_wp2_with fail
    refine HO.out.mono ?_
    rintro e w5 ⟨v5, rfl, o5⟩
    have O5 := Lib.hid (o5.base hgr)
    clear o5
    go_wp2_with fail
    go_ret2
    exact ⟨v5, rfl, O5.out⟩
end
end
section
open Go.RowKit
theorem run_hm2 {P : Program} {t e : TypeId} {z : Value} {size bytes : Nat} (ht : ElemT P t e z size bytes) (A : Option Addr) (n c k : Nat) (hk : k ≤ c) (w : World) :
 (Instr.slice t (.slice A n c) none (some (.int .i64 (k : Int))) (some (.int .i64 (k : Int)))).run P w = .ok (.slice A k k) w := by
 obtain ⟨i, hi, hz, hsz, hby⟩ := info_parts ht.info
 have hu : P.underlying t = some (.slice (P.elem t)) := by
  have := ht.und
  simp [Program.elem, this]
 rw [run_slice_hm w t A n c hu .i64 .i64 k k (by omega) (by omega) (by omega)]
 have he : P.elem t = e := by simp [Program.elem, ht.und]
 simp [sizeOf, typeInfo, he, hi, Result.andThen, sliced]
 cases A <;> simp [Addr.add]
theorem QB.take {kb : Nat} {w : World} {A : Option Addr} {n c : Nat} {l : List UInt8} (h : QB kb w A n c l) {k : Nat} (hk : k ≤ n) : QB kb w A k k (l.take k) := by
 have h1 := Sl.upto h.b hk
 rw [← List.map_take] at h1
 exact ⟨⟨h1.1, Nat.le_refl _, Nat.le_trans (Nat.le_trans hk h.b.2.1) h.b.2.2.1, h1.2.2.2⟩, fun b o h0 e => h.u b o (by omega) e⟩
section
variable {w0 w w' : World} {kb pr k : Nat} {l : List UInt8}
structure RdS (kb : Nat) (w0 w : World) (pr : Nat) (l : List UInt8) : Prop where
 ge : w0.heap.size ≤ pr
 g : Gr w0 w
 b : ∃ A c, Blk w pr 210 [.slice A l.length c, .int .i64 0] ∧ QB kb w A l.length c l
theorem RdS.mono (h : RdS kb w0 w pr l) (g : Gr w w') : RdS kb w0 w' pr l := by
 obtain ⟨A, c, h1, h2⟩ := h.b
 exact ⟨h.ge, h.g.trans g, A, c, h1.mono g, h2.mono g⟩
theorem RdS.off {S : Nat → Prop} (h : RdS kb w0 w pr l) (T : Tch S w w') (hS : ∀ z, S z → w0.heap.size ≤ z ∧ ∃ t cs, Blk w z t cs ∧ t ≠ 210 ∧ ¬ tyB t) : RdS kb w0 w' pr l := by
 obtain ⟨A, c, h1, h2⟩ := h.b
 refine ⟨h.ge, T.below h.g h.g.size (fun z e => (hS z e).1), A, c, h1.tch T (fun e => ?_), h2.tchT T (fun z e => ?_)⟩
 · obtain ⟨_, t, cs, q, q2, _⟩ := hS _ e
   exact q2 (bTy q h1)
 · obtain ⟨_, t, cs, q, _, q2⟩ := hS _ e
   exact ⟨t, cs, q, q2⟩
set_option maxRecDepth 100000 in
set_option maxHeartbeats 1000000 in
theorem rdTake_any (h : RdS kb w0 w pr l) (hk : k ≤ l.length) :
 Calls Tryz.prog 163 #[.pointer (some ⟨pr, 0, none⟩), .int .i64 (k : Int)] w fun e w' => ∃ A, e = .returned (.slice A k k) ∧ QB kb w' A k k (l.take k) ∧ RdS kb w0 w' pr (l.drop k) ∧ Tch (fun z => z = pr) w w' := by
 obtain ⟨A, c, hb, hq⟩ := h.b
 have hcap := hq.b.cap; have hmax := hq.b.max
 obtain ⟨A2, hA2, hr2⟩ := run_from tBytes A l.length c k hk hcap
 have hr1 := run_hm2 tBytes A l.length c k (by omega)
 have H := Lib.hid hb; have HQ := Lib.hid hq; have HA2 := Lib.hid hA2; have H0 := Lib.hid h
 have HL : Hid ((l.drop k).length = l.length - k) := List.length_drop
 have t1 : decide ((k : Int) < 0) = false := decide_eq_false (by omega)
 have t2 : decide ((l.length : Int) < (k : Int)) = false := decide_eq_false (by omega)
 have k0 := hb.cell 0
 have f0 := Blk.free hb 0
 clear h hb hq hA2
 generalize l.length = N at *
 go_enter Tryz.func163, Tryz.ntmps163
 go_wp2_with fail
 go_ret
 have T : Tch (fun z => z = pr) w (w.setCell ⟨pr, 0, none⟩ (.slice A2 (N - k) (c - k))) := Tch.set ⟨pr, 0, none⟩ _ rfl
 have hty : ∀ x, x = pr → ∃ t cs, Blk w x t cs ∧ ¬ tyB t := fun x e => ⟨210, [.slice A N c, .int .i64 0], by rw [e]; exact H.out, by unfold tyB; decide⟩
 refine ⟨A, rfl, (HQ.out.take hk).tchT T hty, ⟨H0.out.ge, T.below H0.out.g H0.out.g.size (fun z e => by rw [e]; exact H0.out.ge), A2, c - k, ?_, ?_⟩, T⟩
 · rw [HL.out]; exact H.out.set 0 _
 · rw [HL.out]; exact (HQ.out.from hk (fun hlt b o e => by have := HA2.out hlt b o e; rwa [Nat.mul_one] at this)).tchT T hty
set_option maxRecDepth 100000 in
set_option maxHeartbeats 1000000 in
theorem rdNumber_any (h : RdS kb w0 w pr l) (hk : 2 ≤ l.length) :
 Calls Tryz.prog 162 #[.pointer (some ⟨pr, 0, none⟩), .int .i64 2] w fun e w' => e = .returned (.int .u64 (getL (l.take 2) : Int)) ∧ RdS kb w0 w' pr (l.drop 2) ∧ Tch (fun z => z = pr) w w' := by
 have HT := Lib.hid (rdTake_any h hk)
 clear h hk
 go_enter Tryz.func162, Tryz.ntmps162
 go_wp2_with fail
 refine HT.out.mono ?_
 rintro e w1 ⟨A, rfl, q1, r1, T1⟩
 have HG := Lib.hid (get_yes A 2 2 (l.take 2) w1 q1.b (by decide) (by decide))
 have R1 := Lib.hid r1; have TT := Lib.hid T1
 clear q1 r1 T1
 go_wp2_with fail
 refine HG.out.mono ?_
 rintro e wd ⟨rfl, hwd⟩
 subst hwd
 go_wp2_with fail
 go_ret
 exact ⟨rfl, R1.out, TT.out⟩
end
end
end Go.Proofs.YtdkmlmbehlooiaaGreatDoor
