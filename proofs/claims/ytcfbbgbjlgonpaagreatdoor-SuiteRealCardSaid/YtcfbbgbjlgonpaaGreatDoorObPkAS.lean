/- Own texts of this claim, one behind the other. No condition. -/
import Derived.Test.YtcfbbgbjlgonpaaGreatDoorObPkAC
import Derived.Test.YtcfbbgbjlgonpaaGreatDoorObPkAI
import Derived.Test.YtcfbbgbjlgonpaaGreatDoorObPkAM
import Derived.Test.YtcfbbgbjlgonpaaGreatDoorObPkAR

/- Counters: begun. No condition. -/
namespace Go.Proofs.YtcfbbgbjlgonpaaGreatDoor
open Go.RowKit
set_option linter.unusedVariables false
set_option linter.unusedSimpArgs false
theorem wpList_copy_row {P : Program} {ops : Array Oper} {rest : List Oper} {o : Oper} {a : Act} {w : World} {Q : Exit → Act → World → Prop} (hgd : o.guard = none) (d s : Operand) (dT sT : TypeId)
    (ho : o.op = .call { callee := .builtin .copy, args := #[d, s], argTypes := #[dT, sT] }) (elem : TypeId) (hu : P.underlying dT = some (.slice elem)) (hsz : (P.info? elem).map (·.size) = some 1)
    (g off dLen dCap : Nat) (ad : Addr) (sLen sCap : Nat) (hd : a.eval d = .slice (some ⟨g, off, none⟩) dLen dCap) (hs : a.eval s = .slice (some ad) sLen sCap)
    (cur : Array Value) (t : TypeId) (hg : w.heap[g]? = some (.cells cur t (0, 0))) (cs : List Value) (hn : cs.length = Nat.min sLen dLen)
    (hsrc : ∀ j v, cs[j]? = some v → w.cell? (ad.add j) = some v) (hfit : off + cs.length ≤ cur.size) (h1 : ∀ v ∈ cs, v.oneCell' = true)
    (new : Array Value) (hnew : (cur.toList.take off ++ cs ++ cur.toList.drop (off + cs.length)).toArray = new)
    (h : wpList P ops Q rest (a.put o.dst (goInt cs.length)) (w.setRow g new)) : wpList P ops Q (o :: rest) a w :=
  wpList_plain hgd fun _ hK => wp_copy_row d s dT sT ho elem hu hsz g off dLen dCap ad sLen sCap hd hs cur t hg cs hn hsrc hfit h1 new hnew (hK _ _ h)
theorem plainRow {P : Program} {o : Oper} {a : Act} {w : World} (ty : TypeId) (x : Operand) (ho : o.op = .load ty x) (b of : Nat) (hx : a.eval x = .pointer (some ⟨b, of, none⟩)) (cs : List Value) (d : TypeDesc) (hc : w.rangeAt b of cs)
    (hu : P.underlying ty = some d) (hd : d.isRow = true) (hi : (P.info? ty).map (·.size) = some cs.length) : plainAt P o a w (.agg cs.toArray) := by
  unfold plainAt execOp
  simp only [ho, hx, Instr.loadAt, Instr.sureAddr, Sem.run_bind, Sem.run_pure, Result.andThen_ok, run_loadVar_mid w b of ty cs d hc hu hd hi]
  simp
theorem By.whole {w : World} {g : Nat} {t : TypeId} {l : List UInt8} (h : By w g t l) : w.rangeAt g 0 (l.map u8c) := fun j v hv => by
  rw [Nat.zero_add, Blk.cell h]; exact hv
theorem run_arr16 (g : Nat) (w : World) : (Instr.sliceAt 151 (.pointer (some ⟨g, 0, none⟩)) none none none).run Tryz.prog w = .ok (.slice (some ⟨g, 0, none⟩) 16 16) w := by kernel_rfl
theorem sizeKc (l : List UInt8) (hl : l.length = 240) : (Tryz.prog.info? 153).map (·.size) = some (l.map u8c).length := by rw [List.length_map, hl]; kernel_rfl
theorem results_begun {fn : Func} {p q u : Tmp} (h : fn.results = #[.cell p 153, .cell q 151, .tmp u]) (tmps : Array Value) (w : World) (g g' : Nat) (l m : List UInt8) (hl : l.length = 240) (hm : m.length = 16)
    (hp : tmps.getD p undef = .pointer (some ⟨g, 0, none⟩)) (hq : tmps.getD q undef = .pointer (some ⟨g', 0, none⟩)) (hg : By w g 153 l) (hg' : By w g' 151 m) :
    (results fn tmps).run Tryz.prog w = .ok (.tuple #[arr l, arr m, tmps.getD u undef]) w := by
  have h1 := run_loadVar_row w g 153 153 (l.map u8c).toArray (0, 0) _ hg Tryz.underlying153 rfl (sizeK l hl)
  have h2 := run_loadVar_row w g' 151 151 (m.map u8c).toArray (0, 0) _ hg' Tryz.underlying151 rfl (size16 m hm)
  have hp' : tmps[p]?.getD undef = .pointer (some ⟨g, 0, none⟩) := by simpa using hp
  have hq' : tmps[q]?.getD undef = .pointer (some ⟨g', 0, none⟩) := by simpa using hq
  simp only [results, h]
  simp [Sem.run_bind, Result.andThen, hp', hq', asAddr, h1, h2, arr]
set_option maxRecDepth 100000 in
set_option maxHeartbeats 2000000 in
theorem ctrBegun_any (A B : Option Addr) (c d : Nat) (key nonce : List UInt8) (w : World) (hk : Bs w A 32 c key) (hn : Bs w B 16 d nonce) :
    Calls Tryz.prog 139 #[.slice A 32 c, .slice B 16 d] w fun e w' => e = .returned (.tuple #[arr (schedL key), arr nonce, .int .i64 0]) ∧ Gr w w' := by
  have hkl : key.length = 32 := hk.len
  have hnl : nonce.length = 16 := hn.len
  obtain ⟨b, o, rfl, _⟩ := Sl.addr hn (by decide)
  have HK := Lib.hid hk; have HN := Lib.hid hn; have HKL := Lib.hid hkl; have HNL := Lib.hid hnl
  have HSL := Lib.hid (schedL_len hkl)
  clear hk hn hkl hnl
  go_enter Tryz.func139, Tryz.ntmps139
  go_upto_region 1 with fail
  obtain ⟨W2, hW2⟩ : ∃ W2, W2 = (w.alloc (.cells (reps 240 (.int .u8 0)).toArray 153)).alloc (.cells z16.toArray 151) := ⟨_, rfl⟩
  first | rw [← hW2] | (change Code.wp _ _ _ _ ((w.alloc (.cells (reps 240 (.int .u8 0)).toArray 153)).alloc (.cells z16.toArray 151)); rw [← hW2])
  obtain ⟨h, hh⟩ : ∃ h, h = w.heap.size := ⟨_, rfl⟩
  have HZ1 : Hid (By W2 h 153 (List.replicate 240 0)) := by rw [hW2, hh]; exact (Gr.alloc _ _).blk (show By (w.alloc (.cells (reps 240 (.int .u8 0)).toArray 153)) w.heap.size _ _ from heap_alloc_new w _)
  have HZ2 : Hid (By W2 (h + 1) 151 (List.replicate 16 0)) := by rw [hW2, hh]; exact heap_alloc2_new w _ _
  have HG2 : Hid (Gr w W2) := by rw [hW2]; exact (Gr.alloc _ _).trans (Gr.alloc _ _)
  rw [← hh]
  have HH := Lib.hid hh; clear hh hW2
  have HSC := Lib.hid (aesSchedule_any A c key W2 (HK.out.mono HG2.out))
  go_upto_region 4 with (first
    | (go_at_call 161; refine HSC.out.mono ?_; rintro e w3 ⟨rfl, g3⟩; have G3 : Hid (Gr w w3) := HG2.out.trans g3; have HZ3 : Hid (By w3 h 153 (List.replicate 240 0)) := g3.blk HZ1.out; have HY3 : Hid (By w3 (h + 1) 151 (List.replicate 16 0)) := g3.blk HZ2.out; clear g3; unfold arr)
    | (refine wpList_store_row rfl 153 (.tmp 4) (.tmp 15) rfl h ((schedL key).map u8c).toArray rfl rfl 153 _ HZ3.out (sizeK _ HSL.out) (by rw [arr_size, arr_size, HSL.out]; rfl) (arr_one _) ?_))
  obtain ⟨F, hF⟩ : ∃ F, F = schedL key := ⟨_, rfl⟩
  rw [← hF] at HSL ⊢
  have HFE := Lib.hid hF; clear hF
  obtain ⟨W4, hW4⟩ : ∃ W4, W4 = w3.setRow h (F.map u8c).toArray := ⟨_, rfl⟩
  have HF4 : Hid (By W4 h 153 F) := by rw [hW4]; exact HZ3.out.row
  have HY4 : Hid (By W4 (h + 1) 151 (List.replicate 16 0)) := by rw [hW4]; exact (setRow_other w3 h (h + 1) _ (by omega)).trans HY3.out
  have HG4 : Hid (Gr w W4) := by rw [hW4]; exact byRow_below G3.out (Nat.le_of_eq HH.out.symm) _
  rw [← hW4]
  clear hW4 HZ3 HY3 G3 HZ1 HZ2 HG2
  have hx := run_arr16 (h + 1)
  have HSRC : Hid (∀ j v, (nonce.map u8c)[j]? = some v → W4.cell? ((⟨b, o, none⟩ : Addr).add j) = some v) := fun j v hv => by
    rw [Addr.add_mid]
    obtain ⟨b', o', e, hc⟩ := Sl.addr (HN.out.mono HG4.out) (by decide)
    injection e with e
    injection e with e1 e2
    subst e1 e2
    exact hc j v hv
  have hcp := run_copy_row (P := Tryz.prog) W4 28 28 3 5 (h + 1) 0 16 16 ⟨b, o, none⟩ 16 d ((List.replicate 16 (0 : UInt8)).map u8c).toArray 151 (nonce.map u8c) Tryz.underlying28 (by kernel_rfl) HY4.out (by rw [List.length_map, HNL.out]; rfl) HSRC.out (by rw [List.length_map, HNL.out, arr_size]; decide) (bytes_one _)
  rw [HY4.out.spliced 0, HNL.out, show ((List.replicate 16 (0 : UInt8)).take 0 ++ nonce ++ (List.replicate 16 (0 : UInt8)).drop (0 + 16)) = nonce by simp] at hcp
  go_upto_region 5 with fail
  obtain ⟨W5, hW5⟩ : ∃ W5, W5 = W4.setRow (h + 1) (nonce.map u8c).toArray := ⟨_, rfl⟩
  have HF5 : Hid (By W5 h 153 F) := by rw [hW5]; exact (setRow_other W4 (h + 1) h _ (by omega)).trans HF4.out
  have HN5 : Hid (By W5 (h + 1) 151 nonce) := by rw [hW5]; exact HY4.out.row
  have HG5 : Hid (Gr w W5) := by rw [hW5]; exact byRow_below HG4.out (by rw [HH.out]; exact Nat.le_succ _) _
  rw [← hW5]
  clear hW5 hcp hx HF4 HY4 HSRC HG4
  refine wp_region_pre (by kernel_rfl) (fun w' => By w' h 153 F ∧ By w' (h + 1) 151 nonce) (fun i => i == 0 || i == 1) (fun _ => false) [2, 0, 1] 3 (by kernel_rfl) (by kernel_rfl) (by kernel_rfl) ⟨HF5.out, HN5.out⟩ ?_
  refine wpPre_e rfl rfl ?_
  apply Exists.intro
  refine ⟨fun wq hq => ?_, ?_⟩
  · clear hq
    unfold plainAt
    go_simp
    first | exact rfl | exact ⟨rfl, rfl⟩
  go_simp
  refine wpPre_e rfl rfl ⟨.agg (F.map u8c).toArray, fun wq hq => plainRow 153 (.tmp 4) rfl h 0 rfl _ _ (By.whole (hq rfl).1) Tryz.underlying153 rfl (sizeKc _ HSL.out), ?_⟩
  go_simp
  refine wpPre_e rfl rfl ⟨.agg (nonce.map u8c).toArray, fun wq hq => plainRow 151 (.tmp 5) rfl (h + 1) 0 rfl _ _ (By.whole (hq rfl).2) Tryz.underlying151 rfl (size16c _ HNL.out), ?_⟩
  go_simp
  refine wpPre_nil ?_
  obtain ⟨w7, hw7⟩ : ∃ w7, w7 = W5.drew := ⟨_, rfl⟩
  have HF7 : Hid (By w7 h 153 F) := by rw [hw7]; exact (Gr.drew _).blk HF5.out
  have HN7 : Hid (By w7 (h + 1) 151 nonce) := by rw [hw7]; exact (Gr.drew _).blk HN5.out
  have HG7 : Hid (Gr w w7) := by rw [hw7]; exact HG5.out.trans (Gr.drew _)
  rw [← hw7]
  clear hw7
  refine wpRest_one (i := 3) (by kernel_rfl) rfl rfl ?_
  intro K hK
  refine wp_store_row 153 (.tmp 4) (.tmp 20) rfl h (F.map u8c).toArray rfl rfl 153 _ HF7.out (sizeK _ HSL.out) rfl (arr_one _) ?_
  obtain ⟨W8, hW8⟩ : ∃ W8, W8 = w7.setRow h (F.map u8c).toArray := ⟨_, rfl⟩
  have HF8 : Hid (By W8 h 153 F) := by rw [hW8]; exact HF7.out.row
  have HN8 : Hid (By W8 (h + 1) 151 nonce) := by rw [hW8]; exact (setRow_other w7 h (h + 1) _ (by omega)).trans HN7.out
  have HG8 : Hid (Gr w W8) := by rw [hW8]; exact byRow_below HG7.out (Nat.le_of_eq HH.out.symm) _
  rw [← hW8]
  clear hW8
  refine hK _ _ (fun _ => ⟨HF8.out, HN8.out⟩) ?_
  clear hK
  go_simp
  refine wpRest_one (i := 4) (by kernel_rfl) rfl rfl ?_
  intro K hK
  refine wp_store_row 151 (.tmp 5) (.tmp 21) rfl (h + 1) (nonce.map u8c).toArray rfl rfl 151 _ HN8.out (size16 _ HNL.out) rfl (arr_one _) ?_
  obtain ⟨W10, hW10⟩ : ∃ W10, W10 = W8.setRow (h + 1) (nonce.map u8c).toArray := ⟨_, rfl⟩
  have HF10 : Hid (By W10 h 153 F) := by rw [hW10]; exact (setRow_other W8 (h + 1) h _ (by omega)).trans HF8.out
  have HN10 : Hid (By W10 (h + 1) 151 nonce) := by rw [hW10]; exact HN8.out.row
  have HG10 : Hid (Gr w W10) := by rw [hW10]; exact byRow_below HG8.out (by rw [HH.out]; exact Nat.le_succ _) _
  rw [← hW10]
  clear hW10
  refine hK _ _ (fun _ => ⟨HF10.out, HN10.out⟩) ?_
  clear hK
  go_simp
  refine wpRest_one (i := 5) (by kernel_rfl) rfl rfl ?_
  intro K hK
  go_simp
  refine hK _ _ (fun _ => ⟨HF10.out, HN10.out⟩) ?_
  clear hK
  go_simp
  refine wpRest_nil (by kernel_rfl) ?_
  go_wp2_with fail
  exact bodyPost_ret (v := .tuple #[arr F, arr nonce, .int .i64 0]) (results_begun Tryz.results139 _ _ h (h + 1) F nonce HSL.out HNL.out rfl rfl HF10.out HN10.out) rfl ⟨congrArg (fun z => Ending.returned (.tuple #[arr z, arr nonce, .int .i64 0])) HFE.out, HG10.out⟩
end Go.Proofs.YtcfbbgbjlgonpaaGreatDoor

/- Counters: the next block of a stream. No condition. -/
namespace Go.Proofs.YtcfbbgbjlgonpaaGreatDoor
open Go.RowKit
set_option linter.unusedVariables false
set_option linter.unusedSimpArgs false
theorem Tch.rowC {S : Nat → Prop} {w : World} (g : Nat) (cs : Array Value) (hS : S g) : Tch S w (w.setRow g cs) :=
  ⟨byRow_below (Below.refl 0 w) (Nat.zero_le _) cs, fun b _ hn => setRow_other w g b cs (fun e => hn (e ▸ hS))⟩
def RetBlock (w : World) (g : Nat) (E N : List UInt8) (e : Ending) (w' : World) : Prop :=
  ∃ b, e = .returned (.slice (some ⟨b, 0, none⟩) 16 16) ∧ By w' b 151 E ∧ w.heap.size ≤ b ∧ By w' g 151 N ∧ Tch (fun x => x = g) w w'
set_option maxRecDepth 100000 in
set_option maxHeartbeats 2000000 in
theorem ctrBlock_any (h g : Nat) (K c : List UInt8) (hK : K.length = 240) (hc : c.length = 16) (w : World) (hh : By w h 153 K) (hg : By w g 151 c) :
    Calls Tryz.prog 140 #[.pointer (some ⟨h, 0, none⟩), .pointer (some ⟨g, 0, none⟩)] w (RetBlock w g (encL K c) (nextL c)) := by
  have hgl := Blk.lt hg
  have HAE := Lib.hid (aesEncrypt_any K c hK hc w)
  have HNX := Lib.hid (ctrNext_any c hc)
  have HEL : Hid ((encL K c).length = 16) := encTo_len K c 14
  have HNL := Lib.hid (nextL_len hc)
  have HK := Lib.hid hh; have HG := Lib.hid hg; have HKL := Lib.hid hK; have HCL := Lib.hid hc
  clear hh hg hK hc
  obtain ⟨E, hE⟩ : ∃ E, E = encL K c := ⟨_, rfl⟩
  obtain ⟨N, hN⟩ : ∃ N, N = nextL c := ⟨_, rfl⟩
  rw [← hE] at HAE HEL ⊢
  rw [← hN] at HNX HNL ⊢
  clear hE hN
  go_enter Tryz.func140, Tryz.ntmps140
  go_upto_region 1 with fail
  go_upto_region 2 with (first
    | (refine wpList_load_row rfl 153 (.tmp 0) rfl h rfl 153 _ (0, 0) _ HK.out Tryz.underlying153 rfl (sizeK _ HKL.out) ?_)
    | (refine wpList_load_row rfl 151 (.tmp 1) rfl g rfl 151 _ (0, 0) _ HG.out Tryz.underlying151 rfl (size16 _ HCL.out) ?_)
    | (go_at_call 141; refine HAE.out.mono ?_; rintro e w1 ⟨rfl, g1⟩; have G1 := Lib.hid g1; clear g1; unfold arr)
    | (refine wpList_store_row rfl 151 (.tmp 3) (.tmp 6) rfl w1.heap.size (E.map u8c).toArray rfl rfl 151 _ (show By _ w1.heap.size 151 (List.replicate 16 0) from heap_alloc_new w1 _) (size16 _ HEL.out) (by rw [arr_size, arr_size, HEL.out]; rfl) (arr_one _) ?_))
  obtain ⟨b, hb⟩ : ∃ b, b = w1.heap.size := ⟨_, rfl⟩
  rw [← hb]
  obtain ⟨W2, hW2⟩ : ∃ W2, W2 = (w1.alloc (.cells z16.toArray 151)).setRow b (E.map u8c).toArray := ⟨_, rfl⟩
  first | rw [← hW2] | (change Code.wp _ _ _ _ ((w1.alloc (.cells z16.toArray 151)).setRow b (E.map u8c).toArray); rw [← hW2])
  have HB2 : Hid (By W2 b 151 E) := by rw [hW2, hb]; exact By.row (l := List.replicate 16 0) (heap_alloc_new w1 _)
  have HG2 : Hid (Gr w W2) := by rw [hW2]; exact byRow_below (G1.out.trans (Gr.alloc _ _)) (by rw [hb]; exact G1.out.size) _
  have HBL : Hid (w.heap.size ≤ b) := by rw [hb]; exact G1.out.size
  have HGC : Hid (By W2 g 151 c) := HG2.out.blk HG.out
  clear hW2 hb
  have HNW := Lib.hid (HNX.out W2)
  go_upto_region 3 with (first
    | (refine wpList_load_row rfl 151 (.tmp 1) rfl g rfl 151 _ (0, 0) _ HGC.out Tryz.underlying151 rfl (size16 _ HCL.out) ?_)
    | (go_at_call 142; refine HNW.out.mono ?_; rintro e w3 ⟨rfl, g3⟩; have G3 := Lib.hid g3; have HG3 : Hid (By w3 g 151 c) := g3.blk HGC.out; clear g3; unfold arr)
    | (refine wpList_store_row rfl 151 (.tmp 1) (.tmp 8) rfl g (N.map u8c).toArray rfl rfl 151 _ HG3.out (size16 _ HNL.out) (by rw [arr_size, arr_size, HNL.out, HCL.out]) (arr_one _) ?_))
  obtain ⟨W4, hW4⟩ : ∃ W4, W4 = w3.setRow g (N.map u8c).toArray := ⟨_, rfl⟩
  have HG4 : Hid (By W4 g 151 N) := by rw [hW4]; exact HG3.out.row
  have HBL2 := HBL.out
  have HB4 : Hid (By W4 b 151 E) := by rw [hW4]; exact (setRow_other w3 g b _ (by omega)).trans (G3.out.blk HB2.out)
  have HT : Hid (Tch (fun x => x = g) w W4) := by rw [hW4]; exact (Tch.gr (HG2.out.trans G3.out)).trans (Tch.rowC g _ rfl)
  rw [← hW4]
  clear hW4 HG3 HB2 G3 HG2 HGC HNW HNX HAE G1 HBL2 hgl
  have hx := run_arr16 b
  go_wp2_with fail
  go_ret
  exact ⟨b, rfl, HB4.out, HBL.out, HG4.out, HT.out⟩
end Go.Proofs.YtcfbbgbjlgonpaaGreatDoor

/- Counters: a stream. No condition. -/
namespace Go.Proofs.YtcfbbgbjlgonpaaGreatDoor
open Go.RowKit
set_option linter.unusedVariables false
set_option linter.unusedSimpArgs false
/-- The counter behind k blocks. -/
def ctrTo (c : List UInt8) : Nat → List UInt8
  | 0 => c
  | k + 1 => nextL (ctrTo c k)
theorem ctrTo_len {c : List UInt8} (h : c.length = 16) : ∀ k, (ctrTo c k).length = 16
  | 0 => h
  | k + 1 => nextL_len (ctrTo_len h k)
/-- k blocks of the stream. -/
def streamTo (K c : List UInt8) : Nat → List UInt8
  | 0 => []
  | k + 1 => streamTo K c k ++ encL K (ctrTo c k)
theorem streamTo_len (K c : List UInt8) : ∀ k, (streamTo K c k).length = 16 * k
  | 0 => rfl
  | k + 1 => by rw [streamTo, List.length_append, streamTo_len K c k]; have : (encL K (ctrTo c k)).length = 16 := encTo_len _ _ 14; omega
def streamL (key nonce : List UInt8) (n : Nat) : List UInt8 := (streamTo (schedL key) nonce ((n + 15) / 16)).take n
theorem streamL_len (key nonce : List UInt8) (n : Nat) : (streamL key nonce n).length = n := by unfold streamL; rw [List.length_take, streamTo_len]; omega
theorem By.kept {w w' : World} {g : Nat} {t : TypeId} {l : List UInt8} {v v' : Value} (h : By w g t l) (hk : Kept w w' v v') (hn : v.ownBlock ≠ some g) : By w' g t l := (hk.1 g (Blk.lt h) hn).trans h
theorem By.bs {w : World} {g n : Nat} {t : TypeId} {l : List UInt8} (h : By w g t l) (hl : l.length = n) (hn : n ≤ 9223372036854775807) : Bs w (some ⟨g, 0, none⟩) n n l :=
  ⟨by rw [List.length_map, hl]; omega, Nat.le_refl _, hn, fun _ => ⟨g, 0, rfl, fun j u hu => by rw [Nat.zero_add, Blk.cell h]; exact hu⟩⟩
def slM : Value → Nat
  | .slice _ n _ => n
  | _ => 0
def RetStream (w : World) (key nonce : List UInt8) (n : Nat) (e : Ending) (w' : World) : Prop :=
  ∃ A, e = .returned (.tuple #[.slice A n n, .int .i64 0]) ∧ Bs w' A n n (streamL key nonce n) ∧ Gr w w'
set_option maxRecDepth 100000 in
set_option maxHeartbeats 4000000 in
theorem ctrStream_any (A B : Option Addr) (c d n : Nat) (key nonce : List UInt8) (w : World) (hk : Bs w A 32 c key) (hn : Bs w B 16 d nonce) (hs : n ≤ 65536) :
    Calls Tryz.prog 113 #[.slice A 32 c, .slice B 16 d, .int .i64 (n : Int)] w (RetStream w key nonce n) := by
  have HBE := Lib.hid (ctrBegun_any A B c d key nonce w hk hn)
  have HKL := Lib.hid (schedL_len (hk.len : key.length = 32))
  have HNL : Hid (nonce.length = 16) := hn.len
  have p0 : (0 : Int) ≤ n := by omega
  have t0 : decide ((n : Int) < 0) = false := decide_eq_false (by omega)
  have t1 : decide ((65536 : Int) < n) = false := decide_eq_false (by omega)
  clear hk hn
  obtain ⟨F, hF⟩ : ∃ F, F = schedL key := ⟨_, rfl⟩
  unfold RetStream streamL
  rw [← hF] at HBE HKL ⊢
  clear hF
  go_enter Tryz.func113, Tryz.ntmps113
  go_upto_region 1 with fail
  go_upto_region 2 with (first
    | (go_at_call 139; refine HBE.out.mono ?_; rintro e w1 ⟨rfl, g1⟩; have G1 := Lib.hid g1; clear g1; unfold arr)
    | (change wpList _ _ _ _ _ ((w1.alloc (.cells (reps 240 (.int .u8 0)).toArray 153)).alloc (.cells z16.toArray 151))
       obtain ⟨h, hh⟩ : ∃ h, h = w1.heap.size := ⟨_, rfl⟩
       obtain ⟨W2, hW2⟩ : ∃ W2, W2 = (w1.alloc (.cells (reps 240 (.int .u8 0)).toArray 153)).alloc (.cells z16.toArray 151) := ⟨_, rfl⟩
       have HZ1 : Hid (By W2 h 153 (List.replicate 240 0)) := by rw [hW2, hh]; exact (Gr.alloc _ _).blk (show By (w1.alloc (.cells (reps 240 (.int .u8 0)).toArray 153)) w1.heap.size _ _ from heap_alloc_new w1 _)
       have HZ2 : Hid (By W2 (h + 1) 151 (List.replicate 16 0)) := by rw [hW2, hh]; exact heap_alloc2_new w1 _ _
       have HG2 : Hid (Gr w W2) := by rw [hW2]; exact G1.out.trans ((Gr.alloc _ _).trans (Gr.alloc _ _))
       have HH : Hid (w.heap.size ≤ h) := by rw [hh]; exact G1.out.size
       rw [← hW2, ← hh]
       clear hW2 hh
       refine wpList_store_row rfl 153 (.tmp 8) (.tmp 15) rfl h (F.map u8c).toArray rfl rfl 153 _ HZ1.out (sizeK _ HKL.out) (by rw [arr_size, arr_size, HKL.out]; rfl) (arr_one _) ?_
       obtain ⟨W3, hW3⟩ : ∃ W3, W3 = W2.setRow h (F.map u8c).toArray := ⟨_, rfl⟩
       have HF3 : Hid (By W3 h 153 F) := by rw [hW3]; exact HZ1.out.row
       have HC3 : Hid (By W3 (h + 1) 151 (List.replicate 16 0)) := by rw [hW3]; exact (setRow_other W2 h (h + 1) _ (by omega)).trans HZ2.out
       have HG3 : Hid (Gr w W3) := by rw [hW3]; exact byRow_below HG2.out HH.out _
       rw [← hW3]
       clear hW3 HZ1 HZ2 HG2)
    | (refine wpList_store_row rfl 151 (.tmp 9) (.tmp 16) rfl (h + 1) (nonce.map u8c).toArray rfl rfl 151 _ HC3.out (size16 _ HNL.out) (by rw [arr_size, arr_size, HNL.out]; rfl) (arr_one _) ?_
       obtain ⟨W4, hW4⟩ : ∃ W4, W4 = W3.setRow (h + 1) (nonce.map u8c).toArray := ⟨_, rfl⟩
       have HF4 : Hid (By W4 h 153 F) := by rw [hW4]; exact (setRow_other W3 (h + 1) h _ (by omega)).trans HF3.out
       have HC4 : Hid (By W4 (h + 1) 151 nonce) := by rw [hW4]; exact HC3.out.row
       have HG4 : Hid (Gr w W4) := by rw [hW4]; exact byRow_below HG3.out (Nat.le_succ_of_le HH.out) _
       rw [← hW4]
       clear hW4 HF3 HC3 HG3))
  go_wp2_with fail
  first | go_step3 | skip
  go_wp2_with fail
  first | go_step3 | skip
  go_wp2_with fail
  go_loopw [6] (fun v wr => ∃ (k : Nat) (A' : Option Addr) (c' : Nat), v = .slice A' (16 * k) c' ∧ 16 * k < n + 16 ∧ Own w wr 5 1 (.slice A' (16 * k) c') (16 * k) ((streamTo F nonce k).map u8c) ∧ By wr h 153 F ∧ By wr (h + 1) 151 (ctrTo nonce k)) (fun v _ => 70000 - slM v)
  case atStart => exact ⟨0, none, 0, rfl, by omega, Own.nil' HG4.out _ _, HF4.out, HC4.out⟩
  case round =>
    obtain ⟨k, A1, c1, rfl, hk, o1, f1, n1⟩ := hrel
    have O1 := Lib.hid o1; have F1 := Lib.hid f1; have N1 := Lib.hid n1
    have e1 := Own.not_blk o1 f1 (by decide)
    have e2 := Own.not_blk o1 n1 (by decide)
    have E1 := Lib.hid e1; have E2 := Lib.hid e2
    obtain ⟨_, _, hv1, s1⟩ := o1.slice
    injection hv1 with hv1 _ hv3
    subst hv1 hv3
    have q1 := s1.cap; have m1 := s1.max
    have S1 := Lib.hid s1
    clear o1 f1 n1 e1 e2 s1
    by_cases hlt : 16 * k < n
    · have t2 : decide (((16 * k : Nat) : Int) < (n : Int)) = true := decide_eq_true (by omega)
      have HBK := Lib.hid (ctrBlock_any h (h + 1) F (ctrTo nonce k) HKL.out (ctrTo_len HNL.out k) wr F1.out N1.out)
      go_wp2_with fail
      refine HBK.out.mono ?_
      rintro e w5 ⟨b, rfl, hb5, hbs5, hn5, ht5⟩
      have HT5 := Lib.hid ht5
      have B5 := Lib.hid hb5
      have N5 : Hid (By w5 (h + 1) 151 (ctrTo nonce (k + 1))) := hn5
      have F5 : Hid (By w5 h 153 F) := Blk.tch F1.out ht5 (by omega)
      have O5 : Hid (Own w w5 5 1 (.slice A1 (16 * k) c1) (16 * k) ((streamTo F nonce k).map u8c)) := Own.tch O1.out ht5 (fun x hx => by rw [hx]; exact Nat.le_succ_of_le HH.out) (fun x hx hy => E2.out (by rw [hx, hy]))
      have S5 := Lib.hid (hb5.bs (n := 16) (encTo_len _ _ 14) (by decide))
      have ES : Hid ((streamTo F nonce k).map u8c ++ (encL F (ctrTo nonce k)).map u8c = (streamTo F nonce (k + 1)).map u8c) := by show _ = _; rw [← List.map_append]; rfl
      have H16 : Hid (16 * k + 16 = 16 * (k + 1)) := by show _ = _; omega
      clear hb5 hbs5 hn5 ht5
      go_wp2_with (at_builtin; refine wpList_catG rfl (.tmp 34) (.tmp 36) 28 rfl tBytes rfl O5.out rfl S5.out (one_bytes _) (by omega) ?_; intro v6 w6 own6 kept6; obtain ⟨A6, k6, rfl, sl6⟩ := own6.slice; have O6 := Lib.hid own6; have F6 : Hid (By w6 h 153 F) := F5.out.kept kept6 E1.out; have N6 : Hid (By w6 (h + 1) 151 (ctrTo nonce (k + 1))) := N5.out.kept kept6 E2.out; clear own6 kept6 sl6)
      first | go_roundw | skip
      case rel => exact ⟨k + 1, A6, k6, by rw [H16.out], by omega, by rw [← ES.out, ← H16.out]; exact O6.out, F6.out, N6.out⟩
      case measure => simp [slM]; omega
    · have t2 : decide (((16 * k : Nat) : Int) < (n : Int)) = false := decide_eq_false (by omega)
      have q2 : n ≤ c1 := by omega
      go_wp2_with fail
      try rw [Exit.noGoto_ret]
      go_ret2
      have hN : (n + 15) / 16 = k := by omega
      refine ⟨A1, rfl, ?_, O1.out.below⟩
      have := S1.out.upto (k := n) (by omega)
      rw [← List.map_take] at this
      rw [hN]
      exact ⟨this.1, Nat.le_refl _, by simp only [maxLen]; omega, this.2.2.2⟩
end Go.Proofs.YtcfbbgbjlgonpaaGreatDoor

/- Counters: a stream over a text. No condition. -/
namespace Go.Proofs.YtcfbbgbjlgonpaaGreatDoor
open Go.RowKit
set_option linter.unusedVariables false
set_option linter.unusedSimpArgs false
def overL (key nonce text : List UInt8) : List UInt8 := xorL text (streamL key nonce text.length)
theorem overL_len (key nonce text : List UInt8) : (overL key nonce text).length = text.length := by unfold overL xorL; rw [List.length_zipWith, streamL_len, Nat.min_self]
def RetOver (w : World) (key nonce text : List UInt8) (e : Ending) (w' : World) : Prop :=
  ∃ v, e = .returned (.tuple #[v, .int .i64 0]) ∧ Own w w' 5 1 v text.length ((overL key nonce text).map u8c)
set_option maxRecDepth 100000 in
set_option maxHeartbeats 1000000 in
theorem ctrOver_any (A B C : Option Addr) (c d m n : Nat) (key nonce text : List UInt8) (w : World) (hk : Bs w A 32 c key) (hn : Bs w B 16 d nonce) (ht : Bs w C n m text) (hs : n ≤ 65536) :
    Calls Tryz.prog 79 #[.slice A 32 c, .slice B 16 d, .slice C n m] w (RetOver w key nonce text) := by
  have HST := Lib.hid (ctrStream_any A B c d n key nonce w hk hn hs)
  have htl : text.length = n := ht.len
  have HT := Lib.hid ht; have HTL := Lib.hid htl; have HS := Lib.hid hs
  have hcm := Sl.cap ht; have hmm := Sl.max ht
  have HOL := Lib.hid (overL_len key nonce text)
  clear hk hn ht htl hs
  go_enter Tryz.func79, Tryz.ntmps79
  go_wp2_with fail
  refine HST.out.mono ?_
  rintro e w1 ⟨A1, rfl, s1, g1⟩
  have S1 := Lib.hid s1; have G1 := Lib.hid g1
  have HX := Lib.hid (xor_any C A1 n n m n text (streamL key nonce n) w1 (HT.out.mono g1) s1 (Nat.le_trans HS.out (by decide)))
  clear s1 g1
  go_wp2_with fail
  refine HX.out.mono ?_
  rintro e w2 ⟨v2, rfl, o2⟩
  have O2 := Lib.hid o2; clear o2
  go_wp2_with fail
  go_ret2
  refine ⟨v2, rfl, ?_⟩
  have h := O2.out
  have e1 : xorL text (streamL key nonce n) = overL key nonce text := by unfold overL; rw [HTL.out]
  rw [e1, HOL.out] at h
  exact ⟨⟨h.1.1, h.1.2.imp id (fun ⟨g, x, y, z, a, r⟩ => ⟨g, x, y, z, Nat.le_trans G1.out.size a, r⟩)⟩, below_both G1.out h.2⟩
end Go.Proofs.YtcfbbgbjlgonpaaGreatDoor

/- Boxes: the two keys. No condition. -/
namespace Go.Proofs.YtcfbbgbjlgonpaaGreatDoor
open Go.RowKit
set_option linter.unusedVariables false
set_option linter.unusedSimpArgs false
def sealS : List UInt8 := [115, 101, 97, 108]
def tagS : List UInt8 := [116, 97, 103]
theorem derive1_any (p : Nat) (A : Option Addr) (n c : Nat) (k s : List UInt8) (w : World) (hp : w.cell? ⟨p, 0, none⟩ = some (.slice A n c)) (hk : Bs w A n c k) (hn : n ≤ 50000) (hs : s.length ≤ 5000) (hK : ShaK w) :
    Calls Tryz.prog 112 #[.string ⟨s.toArray⟩, .pointer (some ⟨p, 0, none⟩)] w (RetRo w (deriveL k s)) := by
  have HD := Lib.hid (deriveO_any A n c k s w hk hn hs hK)
  clear hk hK
  go_enter Tryz.func112, Tryz.ntmps112
  go_wp2_with fail
  refine HD.out.mono ?_
  rintro e w1 ⟨A1, c1, k1, rfl, s1, o1⟩
  have S1 := Lib.hid s1; have O1 := Lib.hid o1
  clear s1 o1
  go_wp2_with fail
  go_ret
  exact ⟨A1, c1, k1, rfl, S1.out, O1.out⟩
/-- Two rows of 32 bytes. -/
def RetKeys (w : World) (k : List UInt8) (e : Ending) (w' : World) : Prop :=
  ∃ A c B d, e = .returned (.tuple #[.slice A 32 c, .slice B 32 d]) ∧ Bs w' A 32 c (deriveL k sealS) ∧ Bs w' B 32 d (deriveL k tagS) ∧ Gr w w'
set_option maxRecDepth 100000 in
set_option maxHeartbeats 1000000 in
theorem boxKeys_any (A : Option Addr) (n c : Nat) (k : List UInt8) (w : World) (hk : Bs w A n c k) (hn : n ≤ 50000) (hK : ShaK w) :
    Calls Tryz.prog 78 #[.slice A n c] w (RetKeys w k) := by
  have HB := Lib.hid hk; have HK := Lib.hid hK
  have HL1 := Lib.hid (deriveL_len k sealS); have HL2 := Lib.hid (deriveL_len k tagS)
  obtain ⟨p, hp⟩ : ∃ p, p = w.heap.size := ⟨_, rfl⟩
  obtain ⟨W, hW⟩ : ∃ W, W = w.alloc (.cells #[.slice A n c] 28) := ⟨_, rfl⟩
  have hg : Gr w W := by rw [hW]; exact Gr.alloc _ _
  have hb : Blk W p 28 [.slice A n c] := by rw [hW, hp]; exact Blk.new w _ _
  have HG := Lib.hid hg; have HP := Lib.hid hb; have HW := Lib.hid hW; have HPP := Lib.hid hp
  clear hk hK hg hb hW hp
  go_enter Tryz.func78, Tryz.ntmps78
  go_upto_region 1 with fail
  rw [← HW.out, ← HPP.out]
  have h1 := derive1_any p A n c k sealS W ((HP.out.cell 0).trans rfl) (HB.out.mono HG.out) hn (by decide) (HK.out.mono HG.out)
  go_wp2_with fail
  refine h1.mono ?_
  rintro e w1 ⟨A1, c1, k1, rfl, s1, o1⟩
  clear h1
  have S1 := Lib.hid s1; have G1 := Lib.hid (HG.out.trans o1.below)
  have HP1 : Hid (Blk w1 p 28 [.slice A n c]) := HP.out.mono o1.below
  clear s1 o1
  have h2 := derive1_any p A n c k tagS w1 ((HP1.out.cell 0).trans rfl) (HB.out.mono G1.out) hn (by decide) (HK.out.mono G1.out)
  go_wp2_with fail
  refine h2.mono ?_
  rintro e w2 ⟨A2, c2, k2, rfl, s2, o2⟩
  clear h2
  have S2 := Lib.hid s2; have G2 := Lib.hid (G1.out.trans o2.below)
  have S1' := Lib.hid (S1.out.mono o2.below)
  clear s2 o2
  rw [HL1.out] at S1'
  rw [HL2.out] at S2
  go_wp2_with fail
  go_ret2
  exact ⟨A1, c1, A2, c2, rfl, S1'.out, S2.out, G2.out⟩
end Go.Proofs.YtcfbbgbjlgonpaaGreatDoor
