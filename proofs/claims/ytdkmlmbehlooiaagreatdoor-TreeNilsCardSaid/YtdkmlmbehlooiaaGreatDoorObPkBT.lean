/- Own texts, one behind the other. No condition. -/
import Derived.Test.YtdkmlmbehlooiaaGreatDoorObPkBS
set_option linter.unusedVariables false
set_option linter.unusedSimpArgs false
namespace Go.Proofs.YtdkmlmbehlooiaaGreatDoor
section
open Go.RowKit Go.Maps
def chgC (A : Option Addr) (c : Nat) : Array Value := #[.int .i64 1, .string ⟨#[97]⟩, .slice A 1 c, .bool false]
abbrev chgV (A : Option Addr) (c : Nat) : Value := .agg (chgC A c)
theorem chgSize : (Tryz.prog.info? 47).map (·.size) = some 4 := by kernel_rfl
theorem chgOne (A : Option Addr) (c : Nat) : (chgC A c).all (·.oneCell') = true := by
 rw [Array.all_eq_true']
 intro v hv
 have : v ∈ [Value.int .i64 1, .string ⟨#[97]⟩, .slice A 1 c, .bool false] := by simpa [chgC] using hv
 simp only [List.mem_cons, List.not_mem_nil, or_false] at this
 rcases this with h | h | h | h <;> subst h <;> rfl
theorem chg_cells {w : World} {b : Nat} {A : Option Addr} {c : Nat} (h : Blk w b 47 (chgC A c).toList) : w.cell? ⟨b, 0, none⟩ = some (.int .i64 1) ∧ w.cell? ⟨b, 1, none⟩ = some (.string ⟨#[97]⟩) ∧ w.cell? ⟨b, 2, none⟩ = some (.slice A 1 c) ∧ w.cell? ⟨b, 3, none⟩ = some (.bool false) := ⟨h.cell 0, h.cell 1, h.cell 2, h.cell 3⟩
def ChM (w : World) (mb : Nat) (A : Option Addr) (c : Nat) : Prop := w.ownsMap Tryz.prog 3 Rv mb 1 (dOf [(1, chgV A c)])
theorem intKeys1 (v : Value) : intKeys (dOf [(1, v)]) = [1] := rfl
section
variable {w0 w w' : World} {L : Pl} {m : Mc} {n : Nat} {x : Spr} {vl vk : Value} {next : Nat} {due : Bool} {pt ps b c : Nat} {R : List BRow}
theorem ChM.mono {mb : Nat} {A : Option Addr} {cc : Nat} (h : ChM w mb A cc) (g : Gr w w') : ChM w' mb A cc := by
 have hbl := World.ownsMap.lt h
 obtain ⟨es, clock, hb, Ft, hs, hD⟩ := h
 exact ⟨es, clock, (g.block mb hbl).trans hb, Ft, hs, hD⟩
theorem keysC_any (mb : Nat) (W : World) : Calls Tryz.prog 48 #[.map (some mb)] W fun e w' => e = .returned (.func (.func 115) #[] #[.pointer (some ⟨W.heap.size, 0, none⟩)]) ∧ w' = W.alloc (.cells #[.map (some mb)] 85) := (callsIn_wide (n := 5)).1 (AnyZI.keys_in Tryz.keysC Fence.wide 5 trivial rfl (some mb) W)
set_option maxRecDepth 100000 in
set_option maxHeartbeats 1000000 in
theorem collectC_any (mb Bm : Nat) (A : Option Addr) (cc : Nat) (W : World) (h1 : Blk W Bm 85 [.map (some mb)]) (hown : ChM W mb A cc) : Calls Tryz.prog 47 #[.func (.func 115) #[] #[.pointer (some ⟨Bm, 0, none⟩)]] W (RetIs W [1]) := by
 have hseq : SeqGives Fence.wide 3 Tryz.prog 115 #[.pointer (some ⟨Bm, 0, none⟩)] encZ (fun ss => ss.Perm (intKeys (dOf [(1, chgV A cc)]))) (Maps.size (dOf [(1, chgV A cc)])) W :=
  AnyZI.keys_gives (ρ := Tryz.keysC_ren) { Tryz.keysC with } Fence.wide _ trivial rfl (by omega) Bm mb 1 (dOf [(1, chgV A cc)]) _ h1.lt (h1.cell 0) hown
 have cS := AnyZI.collect_in Tryz.collectA Fence.wide 5 trivial trivial rfl (by omega) 115 #[.pointer (some ⟨Bm, 0, none⟩)] trivial (enters_of Tryz.func115 (by kernel_rfl) rfl) _ _ (show Maps.size (dOf [(1, chgV A cc)]) ≤ maxLen from (by decide : (1 : Nat) ≤ maxLen)) (show Maps.size (dOf [(1, chgV A cc)]) * 8 ≤ _ from (by decide : 1 * 8 ≤ 140737488355328)) W hseq
 change CallsIn _ _ Tryz.prog 47 _ _ _ at cS
 refine (callsIn_wide.1 cS).mono ?_
 rintro e w' ⟨v, ss, rfl, hS, hrow, _, hb⟩
 rw [intKeys1] at hS
 have hss : ss = [1] := List.perm_singleton.1 hS
 subst hss
 exact ⟨v, rfl, hrow, hb⟩
set_option maxRecDepth 100000 in
set_option maxHeartbeats 4000000 in
theorem treeAsked_any (h : TrP w0 L m n x vl next due vk pt ps b c R w) (hT : U8 w) (bl : Nat) (A : Option Addr) (cc : Nat) (hl : Blk w bl 47 (chgC A cc).toList) :
 Calls Tryz.prog 45 #[.pointer (some ⟨pt, 0, none⟩), .slice (some ⟨bl, 0, none⟩) 1 1] w fun e w' => ∃ mb, e = .returned (.tuple #[.map (some mb), .int .i64 0]) ∧ ChM w' mb A cc ∧ Gr w w' ∧ w.heap.size ≤ mb := by
 have hmm := @run_makeMap Tryz.prog
 have HRN := Lib.hid (fun wr (g : Gr w wr) => right_any [97] wr (by decide) (hT.mono g))
 rw [show rightL [97] = true by decide +kernel] at HRN
 have HLV := Lib.hid (fun wr => leaves_any 2 1 3 wr)
 rw [show leavesI 2 1 3 = 2 by decide] at HLV
 have HKC := Lib.hid keysC_any
 have HCC := Lib.hid (fun mb Bm W h1 h2 => collectC_any mb Bm A cc W h1 h2)
 have HTO := Lib.hid (fun B k W (hb : Is W B 1 k [1]) => touched_any 2 1 3 B 1 k [1] W hb (by decide))
 rw [show touR 2 1 3 [1] (pagesI 2 1 3).toNat = [0, 2] by decide +kernel] at HTO
 have HFI := Lib.hid (fun wr => walFits_any geo213 2 wr)
 have HH := Lib.hid h; have HL := Lib.hid hl
 obtain ⟨l0, l1, l2, l3⟩ := chg_cells hl
 clear h hl hT
 go_enter Tryz.func45, Tryz.ntmps45
 go_upto_region 2 with fail
 obtain ⟨w1, hw1⟩ : ∃ w1, w1 = w.alloc (.map #[] 0) := ⟨_, rfl⟩
 rw [← hw1]
 have O1 : Hid (w1.ownsMap Tryz.prog 3 Rv w.heap.size 0 (dOf [])) := by
  show World.ownsMap _ _ _ _ _ _ _
  rw [hw1]
  exact World.ownsMap_made _ _ _ _
 have G1 : Hid (Gr w w1) := by show Gr _ _; rw [hw1]; exact Gr.alloc _ _
 clear hw1 l0 l1 l2 l3
 have hge : w.heap.size ≤ w.heap.size := Nat.le_refl _
 obtain ⟨mb, hmb⟩ : ∃ mb, mb = w.heap.size := ⟨_, rfl⟩
 rw [← hmb] at O1 ⊢
 replace hge : w.heap.size ≤ mb := by omega
 clear hmb
 obtain ⟨l0, l1, l2, l3⟩ := chg_cells (HL.out.mono G1.out)
 go_wp2_with fail
 refine wp_loop_rounds 2 ?_
 rw [rounds_succ]
 go_upto_region 5 with (refine wpList_store_row rfl 47 (.tmp 8) (.tmp 16) rfl w1.heap.size (chgC A cc) rfl rfl 47 #[.int .i64 0, .string ⟨#[]⟩, .slice none 0 0, .bool false] (Blk.new w1 47 #[.int .i64 0, .string ⟨#[]⟩, .slice none 0 0, .bool false]) chgSize rfl (chgOne _ _) ?_)
 obtain ⟨w2, hw2⟩ : ∃ w2, w2 = (w1.alloc (.cells #[.int .i64 0, .string ⟨#[]⟩, .slice none 0 0, .bool false] 47)).setRow w1.heap.size (chgC A cc) := ⟨_, rfl⟩
 have G12 : Hid (Gr w1 w2) := by
  show Gr _ _
  rw [hw2]
  exact (Tch.row (S := fun b => b = w1.heap.size) (w := w1.alloc (.cells #[.int .i64 0, .string ⟨#[]⟩, .slice none 0 0, .bool false] 47)) (g := w1.heap.size) rfl (chgC A cc)).below (Gr.alloc _ _) (Gr.alloc w1 _).size (fun b e => e ▸ Nat.le_refl _)
 have C2 : Hid (Blk w2 w1.heap.size 47 (chgC A cc).toList) := by
  show Blk _ _ _ _
  rw [hw2]
  exact setRow_heap _ w1.heap.size _ (chgC A cc) _ _ (Blk.new w1 _ #[.int .i64 0, .string ⟨#[]⟩, .slice none 0 0, .bool false])
 rw [← hw2]
 clear hw2 l0 l1 l2 l3
 generalize w1.heap.size = pc at *
 obtain ⟨l0, l1, l2, l3⟩ := chg_cells C2.out
 have G2 := Lib.hid (G1.out.trans G12.out)
 go_wp2_with fail
 refine (HRN.out w2 G2.out).mono ?_
 rintro e w3 ⟨rfl, g3⟩
 have G23 := Lib.hid g3
 have C3 := Lib.hid (C2.out.mono g3)
 have G3 := Lib.hid (G2.out.trans g3)
 clear l0 l1 l2 l3 g3
 obtain ⟨l0, l1, l2, l3⟩ := chg_cells C3.out
 go_upto_region 6 with fail
 clear l0 l1 l2 l3
 refine wrG (by kernel_rfl) [0, 1, 3, 7, 15, 31, 15, 79, 207, 463, 975, 2047, 4095, 8191, 16383, 32767, 65535] [.p 0, .q 1, .p 2, .p 3, .p 4, .p 6, .p 7, .p 8, .q 5, .q 9, .c 10, .p 11, .p 12, .p 13, .p 14, .p 15, .p 16] (by kernel_rfl) (trivial) ?_
 refine wPe rfl rfl ?_
 apply Exists.intro
 refine ⟨fun wq => ?_, ?_⟩
 · unfold pLa
   go_simp
   first | exact rfl | exact ⟨rfl, rfl⟩
 go_simp
 refine wQe rfl rfl ?_
 apply Exists.intro
 refine ⟨fun wq hq => ?_, ?_⟩
 · obtain ⟨l0, l1, l2, l3⟩ := chg_cells (C3.out.mono ((Gr.drew _).trans hq))
   unfold pLa
   go_simp
   first | exact rfl | exact ⟨rfl, rfl⟩
 go_simp
 iterate 6
  refine wPe rfl rfl ?_
  apply Exists.intro
  refine ⟨fun wq => ?_, ?_⟩
  · unfold pLa
    go_simp
    first | exact rfl | exact ⟨rfl, rfl⟩
  go_simp
 refine wQe rfl rfl ?_
 apply Exists.intro
 refine ⟨fun wq hq => ?_, ?_⟩
 · obtain ⟨l0, l1, l2, l3⟩ := chg_cells (C3.out.mono ((Gr.drew _).trans hq))
   unfold pLa
   go_simp
   first | exact rfl | exact ⟨rfl, rfl⟩
 go_simp
 refine wQe rfl rfl ?_
 apply Exists.intro
 refine ⟨fun wq hq => ?_, ?_⟩
 · obtain ⟨s1, s2, s3, s4, s5, s6⟩ := (HH.out.gr (G3.out.trans ((Gr.drew _).trans hq))).cells
   unfold pLa
   go_simp
   first | exact rfl | exact ⟨rfl, rfl⟩
 go_simp
 refine wpG_c rfl rfl ?_
 intro w4 g4 K hK
 go_simp
 go_at_call 52
 refine (HLV.out w4).mono ?_
 rintro e wn ⟨rfl, g5⟩
 refine hK _ _ (show Gr w4 wn from g5) ?_; have G35 := Lib.hid (((Gr.drew w3).trans g4).trans (show Gr w4 wn from g5)); clear g4 g5 hK
 go_simp
 iterate 6
  refine wPe rfl rfl ?_
  apply Exists.intro
  refine ⟨fun wq => ?_, ?_⟩
  · unfold pLa
    go_simp
    first | exact rfl | exact ⟨rfl, rfl⟩
  go_simp
 refine wNi ?_
 intro w6 g6
 have G36 := Lib.hid (G35.out.trans g6)
 have G6 := Lib.hid (G3.out.trans G36.out)
 have C6 := Lib.hid (C3.out.mono G36.out)
 have O6 : Hid (w6.ownsMap Tryz.prog 3 Rv mb 0 (dOf [])) := by
  have hbl := World.ownsMap.lt O1.out
  obtain ⟨es, clock, hb, Ft, hs, hD⟩ := O1.out
  exact ⟨es, clock, ((G12.out.trans (G23.out.trans G36.out)).block mb hbl).trans hb, Ft, hs, hD⟩
 clear g6
 obtain ⟨l0, l1, l2, l3⟩ := chg_cells C6.out
 have hkey : keyOf Tryz.prog 3 (.int .i64 1) = some (.int .i64 1) := keyOf_int_mk Tryz.underlying3 (wf_i64 (by decide) (by decide))
 go_wp2_with (first
  | (at_mapUpdate; refine wpList_mapUpdate_own _ rfl _ _ _ 85 rfl 3 47 keyed3 Tryz.underlying85 Rv mb 0 _ rfl O6.out (by decide) _ _ _ rfl rfl hkey _ [] rfl ?_; intro w7 hown7 hgrow7)
  | go_in)
 have M7 : Hid (ChM w7 mb A cc) := hown7
 have G7 : Hid (Gr w w7) := Below.grown G6.out hgrow7 G6.out.size (fun j hj => by cases hj; exact hge)
 clear hown7 hgrow7 l0 l1 l2 l3 hkey O6
 rw [rounds_succ]
 go_upto_region 10 with fail
 refine wrG (by kernel_rfl) [0, 1, 3, 7, 0, 16, 48, 112, 0, 256, 768, 2032, 4080, 8191, 16383] [.p 0, .p 1, .p 2, .p 4, .p 5, .p 6, .p 8, .q 3, .q 7, .c 9, .c 10, .c 11, .p 12, .c 13, .p 14] (by kernel_rfl) (trivial) ?_
 iterate 7
  refine wPe rfl rfl ?_
  apply Exists.intro
  refine ⟨fun wq => ?_, ?_⟩
  · unfold pLa
    go_simp
    first | exact rfl | exact ⟨rfl, rfl⟩
  go_simp
 iterate 2
  refine wQe rfl rfl ?_
  apply Exists.intro
  refine ⟨fun wq hq => ?_, ?_⟩
  · obtain ⟨s1, s2, s3, s4, s5, s6⟩ := (HH.out.gr (G7.out.trans ((Gr.drew _).trans hq))).cells
    unfold pLa
    go_simp
    first | exact rfl | exact ⟨rfl, rfl⟩
  go_simp
 refine wpG_c rfl rfl ?_
 intro w8 g8 K hK
 go_simp
 go_at_call 48
 refine (HKC.out mb w8).mono ?_
 rintro e wn ⟨rfl, e9⟩
 have g9 : Gr w8 wn := by { rw [e9]; exact Gr.alloc _ _ }; refine hK _ _ g9 ?_; have K9 : Hid (Blk wn w8.heap.size 85 [.map (some mb)]) := by { show Blk _ _ _ _; rw [e9]; exact Blk.new w8 _ #[.map (some mb)] }; have G79 := Lib.hid (((Gr.drew w7).trans g8).trans g9); clear g8 g9 e9 hK
 go_simp
 refine wpG_c rfl rfl ?_
 intro wa ga K hK
 go_simp
 go_at_call 47
 refine (HCC.out mb w8.heap.size wa (K9.out.mono ga) (M7.out.mono (G79.out.trans ga))).mono ?_
 rintro e wn ⟨vb, rfl, ob⟩
 refine hK _ _ ob.below ?_; obtain ⟨Ab, cb, rfl, sb⟩ := ob.slice; have Gb := Lib.hid ((G79.out.trans ga).trans (show Gr wa wn from ob.below)); have Sb := Lib.hid (show Is wn Ab 1 cb [1] from sb); clear ga ob sb hK
 go_simp
 refine wpG_c rfl rfl ?_
 intro wc gc K hK
 go_simp
 go_at_call 46
 refine (HTO.out Ab cb wc (Sb.out.mono gc)).mono ?_
 rintro e wn ⟨vd, rfl, od⟩
 refine hK _ _ od.below ?_; obtain ⟨Ad, cd, rfl, sd⟩ := od.slice; have Gd := Lib.hid ((Gb.out.trans gc).trans (show Gr wc wn from od.below)); clear gc od sd hK
 go_simp
 refine wPe rfl rfl ?_
 apply Exists.intro
 refine ⟨fun wq => ?_, ?_⟩
 · unfold pLa
   go_simp
   first | exact rfl | exact ⟨rfl, rfl⟩
 go_simp
 refine wpG_c rfl rfl ?_
 intro we ge K hK
 go_simp
 go_at_call 111
 refine (HFI.out we).mono ?_
 rintro e wn ⟨rfl, gf⟩
 refine hK _ _ gf ?_; have Gf := Lib.hid ((Gd.out.trans ge).trans gf); clear ge gf hK
 go_simp
 refine wPe rfl rfl ?_
 apply Exists.intro
 refine ⟨fun wq => ?_, ?_⟩
 · unfold pLa
   go_simp
   first | exact rfl | exact ⟨rfl, rfl⟩
 go_simp
 refine wNi ?_
 intro wg gg
 have Gg := Lib.hid (Gf.out.trans gg)
 clear gg
 go_wp2_with fail
 go_ret2
 exact ⟨mb, rfl, M7.out.mono Gg.out, G7.out.trans Gg.out, hge⟩
end
end
section
open Go.RowKit Go.Maps
section
variable {w0 wb w w' : World} {p g bm bs : Nat} {T : List Nd} {L : Pl} {m : Mc} {n : Nat}
set_option maxRecDepth 100000 in
set_option maxHeartbeats 1000000 in
theorem SymS.draw4 (hb : SymS w0 wb p g bm bs T) (gb : Gr wb w) (hn : T.length ≤ 990) :
 Calls Tryz.prog 30 #[.pointer (some ⟨p, 0, none⟩)] w (fun e w' => (RetHd w0 w p g bm bs (atomT T) e w' ∧ KZ bm w w') ∧ ∀ b, wb.heap.size ≤ b → b < w.heap.size → w'.heap[b]? = w.heap[b]?) := by
 have h := hb.gr gb
 have HN := Lib.hid h.isNone; have HR := Lib.hid h.isReal
 have c0 := h.c0
 obtain ⟨vl, vs, htb⟩ := hb.t
 have ht := htb.gr gb
 have HA := Lib.hid (atom_any w0 g T vl vs bm w ht (by omega))
 have HT := Lib.hid ht; have HS := Lib.hid h; have HTB := Lib.hid htb
 have hl : (atomT T).2 = T.length + 1 := rfl
 clear h ht hb htb
 go_enter Tryz.func30, Tryz.ntmps30
 go_wp2_with fail
 refine HN.out.mono ?_
 rintro e w1 ⟨rfl, h1⟩
 subst h1
 go_wp2_with fail
 refine HR.out.mono ?_
 rintro e w1 ⟨rfl, h1⟩
 subst h1
 go_wp2_with fail
 refine HA.out.mono ?_
 rintro e w2 ⟨vl', vs', rfl, t2, c2⟩
 have SF := Lib.hid (HS.out.turn HT.out t2 c2 (atomT_in HS.out.i (by omega)))
 have K2 := Lib.hid (KZ.tbl HT.out c2)
 have N2 : Hid (∀ b, wb.heap.size ≤ b → b < w.heap.size → w2.heap[b]? = w.heap[b]?) := fun b h1 h2 =>
  c2.keep b h2 (fun e => by have := HTB.out.x.blk.lt; omega) (fun e => by have := HTB.out.m.lt; omega) (fun e => by have := (HTB.out.x.l.1.lt b e).2; omega) (fun e => by have := (HTB.out.x.s.1.lt b e).2; omega)
 clear t2 c2
 go_wp2_with fail
 refine (handle_any (atomT T).2 w2 (by omega)).mono ?_
 rintro e w3 ⟨v3, rfl, o3⟩
 rw [handleL_len] at o3
 have O3 := Lib.hid (o3.base SF.out.1.below)
 have S3 := Lib.hid (SF.out.1.gr o3.below)
 have F3 := Lib.hid (SF.out.2.trans (FSt.gr o3.below))
 have K3 := Lib.hid (K2.out.trans (KZ.gr o3.below))
 have N3 : Hid (∀ b, wb.heap.size ≤ b → b < w.heap.size → w3.heap[b]? = w.heap[b]?) := fun b h1 h2 => ((show Gr w2 w3 from o3.below).block b (Nat.lt_of_lt_of_le h2 K2.out.1)).trans (N2.out b h1 h2)
 clear o3
 go_wp2_with fail
 go_ret
 exact ⟨⟨⟨v3, rfl, O3.out, S3.out, F3.out⟩, K3.out⟩, N3.out⟩
theorem MSt.draw4 (h : MSt w0 L m wb) (gb : Gr wb w) (ho : m.Ok n) (hn : n ≤ 900) : Calls Tryz.prog 30 #[.pointer (some ⟨L.p, 0, none⟩)] w fun e w' => ∃ A c, e = .returned (.slice A 32 c) ∧ Own w0 w' 5 1 (.slice A 32 c) 32 (m.key.map u8c) ∧ MSt w0 L m.draw w' ∧ KQ L.kb w w' ∧ ∀ b, wb.heap.size ≤ b → b < w.heap.size → w'.heap[b]? = w.heap[b]? := by
 refine (h.sy.draw4 gb (by have := ho.t; omega)).mono ?_
 rintro e w' ⟨⟨⟨v, rfl, o, sy, _⟩, k⟩, nk⟩
 obtain ⟨A, c, rfl, _⟩ := o.slice
 obtain ⟨q, kq⟩ := MS.tab (h.mono gb) sy k
 exact ⟨A, c, rfl, o, q, kq, nk⟩
abbrev workC (pt mb : Nat) (TA : Option Addr) (tc : Nat) (vo : Value) : List Value := [.pointer (some ⟨pt, 0, none⟩), .map (some mb), .slice TA 2 tc, vo]
theorem tyA_work : ¬ tyA 96 := by unfold tyA tyM; decide
structure PutF (w0 w w' : World) (pw pt mb : Nat) (TA : Option Addr) (tc K : Nat) (vo vo' : Value) (xs : List Value) : Prop where
 wk : Blk w' pw 96 (workC pt mb TA tc vo')
 o : Own w0 w' 188 2 vo' K xs
 t : Tch (fun z => z = pw ∨ vo.ownBlock = some z) w w'
 nw : vo'.ownBlock = vo.ownBlock ∨ ∀ z, vo'.ownBlock = some z → w.heap.size ≤ z
set_option maxRecDepth 100000 in
set_option maxHeartbeats 1000000 in
theorem workPut_any {pw pt mb : Nat} {TA : Option Addr} {tc K : Nat} {vo : Value} {xs : List Value} (hk : Blk w pw 96 (workC pt mb TA tc vo)) (o : Own w0 w 188 2 vo K xs) (hge : w0.heap.size ≤ pw) (hK : K ≤ 1000) (k : Nat) (A : Option Addr) (bn c : Nat) :
 Calls Tryz.prog 120 #[.pointer (some ⟨pw, 0, none⟩), .int .i64 (k : Int), .slice A bn c, .int .i64 0] w fun e w' => e = .returned (.int .i64 0) ∧ ∃ vo', PutF w0 w w' pw pt mb TA tc (K + 1) vo vo' (xs ++ [.int .i64 (k : Int), .slice A bn c]) := by
 have HW := Lib.hid hk; have HO := Lib.hid o
 have k3 := hk.cell 3
 obtain ⟨A0, c0, rfl, _⟩ := o.slice
 clear hk o
 go_enter Tryz.func120, Tryz.ntmps120
 go_wp2_with (first
  | (refine wpList_plain rfl (fun _ hK => wp_build1 94 188 (.tmp 16) rfl (pageC k A bn c) rfl Tryz.underlying94 pageSize (by kernel_rfl) (show 0 < 2 by decide) (show 2 ≤ 2 ^ 24 by decide) (hK _ _ ?_)))
  | (at_builtin; refine wpList_pushG rfl (.tmp 13) (.tmp 17) 94 rfl tPage rfl HO.out (pageC k A bn c) rfl rfl (by intro u hu; rcases List.mem_cons.1 hu with rfl | hu; rfl; rw [List.mem_singleton.1 hu]; rfl) (by omega) ?_; intro v1 w1 o1 kp; obtain ⟨A1, c1, rfl, _⟩ := o1.slice; have T1 := Lib.hid (kp.tch (below_two (HO.out.alloc _).below o1.below kp.2.1)); have W1 := Lib.hid ((HW.out.mono (Gr.alloc w (.cells (pageC k A bn c) 188))).tch T1.out (fun q => by obtain ⟨cs, z⟩ := HO.out.blk_at q; exact absurd (bTy z HW.out) (by decide))); have O1 := Lib.hid o1; have KP := Lib.hid kp.2.2; clear o1 kp; have k1 := W1.out.cell 3; have f1 := Blk.free W1.out 3))
 go_ret
 have T2 : Tch (fun z => z = pw) w1 (w1.setCell ⟨pw, 3, none⟩ (.slice A1 (K + 1) c1)) := Tch.set ⟨pw, 3, none⟩ _ rfl
 refine ⟨rfl, _, W1.out.set 3 _, O1.out.tch T2 (fun z e => by rw [e]; exact hge) (fun b q e => ?_), ((Tch.gr (Gr.alloc w _)).trans (T1.out.mono (fun z _ e => .inr e))).trans (T2.mono (fun z _ e => .inl e)), ?_⟩
 rotate_left
 · rcases KP.out with q | q
   · exact .inl q
   · exact .inr (fun z e => by rw [q] at e; injection e with e; rw [World.size_alloc] at e; omega)
 obtain ⟨cs, z2⟩ := O1.out.blk_at q
 rw [e] at z2
 exact absurd (bTy z2 W1.out) (by decide)
end
end
section
open Go.RowKit Go.Maps
theorem ChM.look {w : World} {mb c : Nat} {A : Option Addr} (h : ChM w mb A c) : (Instr.lookup 85 (.map (some mb)) (.int .i64 1) false).run Tryz.prog w = .ok (chgV A c) w := by
 have hkey : keyOf Tryz.prog 3 (.int .i64 1) = some (.int .i64 1) := keyOf_int_mk Tryz.underlying3 (wf_i64 (by decide) (by decide))
 unfold ChM at h
 generalize chgV A c = v at *
 obtain ⟨vv, ps, hlook, hRv⟩ := World.ownsMap.lookup h (t := 85) keyed3 Tryz.underlying85 (z := .agg #[.int .i64 0, .string ByteArray.empty, .slice none 0 0, .bool false]) (by kernel_rfl) (zd := .held (.agg #[.int .i64 0, .string ByteArray.empty, .slice none 0 0, .bool false])) (zp := []) rfl hkey
 have hat : ∀ zd, (dOf [(1, v)]).atKey (.int .i64 1) zd = .held v := fun zd => by
  rw [show [((1 : Int), v)] = [] ++ [(1, v)] from rfl, dOf_snoc]
  exact atKey_put_same (by exact isMap_empty) (show WideAt.IsKeyLit (Lit.int .i64 1) from trivial) _ _
 rw [hat] at hRv
 have e : vv = v := by
  have h1 := (Prod.mk.inj (Option.some.inj (show some (DataW.held vv, []) = some (DataW.held v, ps) from hRv))).1
  exact DataW.held.inj h1
 rw [e] at hlook
 exact hlook
section
variable {w0 w w' : World} {L : Pl} {m m' : Mc} {n n' : Nat} {x : Spr} {vl vk : Value} {next : Nat} {due : Bool} {pt ps b c : Nat} {R : List BRow}
theorem TrP.kx {S : Nat → Prop} (h : TrP w0 L m n x vl next due vk pt ps b c R w) (k : KX S L.kb w w') (ms : MSt w0 L m' w') (ok : m'.Ok n') (n9 : n' ≤ 900) (hS : ∀ z, S z → ∃ t cs, Blk w z t cs ∧ t ≠ 65 ∧ t ≠ 111 ∧ (t ≠ 36 ∨ z ≠ b) ∧ ¬ tyB t) : TrP w0 L m' n' x vl next due vk pt ps b c R w' := by
 have nS : ∀ {g : Nat} {t : TypeId} {cs : List Value}, Blk w g t cs → (t = 65 ∨ t = 111) → ¬ S g := fun hg ht s => by
  obtain ⟨t', cs', z, h1, h2, h3, _⟩ := hS _ s
  have := bTy hg z
  subst this
  rcases ht with e | e
  · exact h1 e
  · exact h2 e
 refine ⟨ms, ok, n9, k.blk h.ft (by unfold tyM; decide) (fun e => absurd e (by decide)) (nS h.ft (.inl rfl)), k.blk h.fx (by unfold tyM; decide) (fun e => absurd e (by decide)) (nS h.fx (.inr rfl)), h.fp.kx k ms.below (fun z s => ⟨fun e => ?_, ?_⟩), h.c1, h.c2, h.sm⟩
 · obtain ⟨t', cs', z', _, _, h3, _⟩ := hS _ s
   rcases h3 with h3 | h3
   · obtain ⟨cs, z2⟩ := h.fp.o.blk_at (b := b) rfl
     rw [← e] at z2
     exact h3 (bTy z' z2)
   · exact h3 e
 · obtain ⟨t', cs', z', _, _, _, h4⟩ := hS _ s
   exact ⟨t', cs', z', h4⟩
theorem TrP.kq (h : TrP w0 L m n x vl next due vk pt ps b c R w) (k : KQ L.kb w w') (ms : MSt w0 L m' w') (ok : m'.Ok n') (n9 : n' ≤ 900) : TrP w0 L m' n' x vl next due vk pt ps b c R w' := h.kx (KX.kq (S := fun _ => False) k) ms ok n9 (fun z s => s.elim)
structure LfF (w0 : World) (L : Pl) (m : Mc) (n : Nat) (x : Spr) (vl : Value) (next : Nat) (due : Bool) (vk : Value) (pt ps b c : Nat) (R : List BRow) (pw mb : Nat) (TA : Option Addr) (tc : Nat) (vo : Value) (KA : Option Addr) (kc : Nat) (w w' : World) : Prop where
 tp : TrP w0 L ((m.draw).seal m.key [7]) (n + 4) x vl next due vk pt ps b c R w'
 ke : QB L.kb w' KA 32 kc m.key
 wk : ∃ A' c', Blk w' pw 96 (workC pt mb TA tc (.slice A' 1 c')) ∧ ∃ BA bc, Pgw w0 L.kb w' A' c' 1 [⟨2, ⟨BA, (fieldL [97] ++ fieldL (sealB m.draw.T m.key [7])).length, bc, fieldL [97] ++ fieldL (sealB m.draw.T m.key [7])⟩⟩] ∧ ∀ z, (Value.slice A' 1 c').ownBlock = some z → w.heap.size ≤ z
 kx : KX (fun z => z = pw) L.kb w w'
set_option maxRecDepth 100000 in
set_option maxHeartbeats 4000000 in
theorem workLeaf_any {pw mb tc vc : Nat} {TA VA : Option Addr} (h : TrP w0 L m n x vl next due vk pt ps b c R w) (hn : n + 4 ≤ 900) (hT : U8 w0) (hge : w0.heap.size ≤ pw) (hw : Blk w pw 96 (workC pt mb TA tc (.slice none 0 0))) (hm : ChM w mb VA vc) (hv : QB L.kb w VA 1 vc [7]) :
 Calls Tryz.prog 181 #[.pointer (some ⟨pw, 0, none⟩), .int .i64 2] w fun e w' => ∃ KA kc, e = .returned (.tuple #[.slice KA 32 kc, .int .i64 0]) ∧ LfF w0 L m n x vl next due vk pt ps b c R pw mb TA tc (.slice none 0 0) KA kc w w' := by
 have HSL := Lib.hid (fun wr => slot_any 2 1 3 2 wr)
 rw [show slotI 2 1 3 2 = 1 by decide] at HSL
 have HH := Lib.hid h; have HW := Lib.hid hw; have HM := Lib.hid hm; have HV := Lib.hid hv
 have HT0 := Lib.hid hT
 have HEL := Lib.hid (fun wr SA sc (hq : Bs wr SA 49 sc (sealB m.draw.T m.key [7])) (hu : U8 wr) => nodeEncodeLeaf_any [97] (sealB m.draw.T m.key [7]) SA 49 sc hq (by decide) (by decide) (by decide +kernel) (by decide) (by decide) hu)
 obtain ⟨BL, hBL⟩ : ∃ BL, BL = fieldL [97] ++ fieldL (sealB m.draw.T m.key [7]) := ⟨_, rfl⟩
 rw [← hBL] at HEL
 have HBL := Lib.hid hBL
 clear h hw hm hv hT hBL
 go_enter Tryz.func181, Tryz.ntmps181
 go_upto_region 1 with fail
 refine wrG (by kernel_rfl) [0, 1, 3, 7, 0, 16, 48, 112, 240, 496, 1008, 0, 4080, 8191, 0, 32767] [.p 0, .p 1, .p 2, .p 4, .p 5, .p 6, .p 11, .q 3, .q 7, .p 8, .p 9, .q 10, .c 12, .q 13, .m 14 47 #[.int .i64 0, .string ByteArray.empty, .slice none 0 0, .bool false], .s 15] (by kernel_rfl) (⟨fun o ho ρ w => by cases ho; kernel_rfl, trivial⟩) ?_
 iterate 7
  refine wPe rfl rfl ?_
  apply Exists.intro
  refine ⟨fun wq => ?_, ?_⟩
  · unfold pLa
    go_simp
    first | exact rfl | exact ⟨rfl, rfl⟩
  go_simp
 refine wQe rfl rfl ?_
 apply Exists.intro
 refine ⟨fun wq hq => ?_, ?_⟩
 · have k1 := (HW.out.mono ((Gr.drew _).trans hq)).cell 1
   unfold pLa
   go_simp
   first | exact rfl | exact ⟨rfl, rfl⟩
 go_simp
 refine wQe rfl rfl ?_
 apply Exists.intro
 refine ⟨fun wq hq => ?_, ?_⟩
 · have k0 := (HW.out.mono ((Gr.drew _).trans hq)).cell 0
   unfold pLa
   go_simp
   first | exact rfl | exact ⟨rfl, rfl⟩
 go_simp
 iterate 2
  refine wPe rfl rfl ?_
  apply Exists.intro
  refine ⟨fun wq => ?_, ?_⟩
  · unfold pLa
    go_simp
    first | exact rfl | exact ⟨rfl, rfl⟩
  go_simp
 refine wQe rfl rfl ?_
 apply Exists.intro
 refine ⟨fun wq hq => ?_, ?_⟩
 · obtain ⟨s1, s2, s3, s4, s5, s6⟩ := (HH.out.gr ((Gr.drew _).trans hq)).cells
   unfold pLa
   go_simp
   first | exact rfl | exact ⟨rfl, rfl⟩
 go_simp
 refine wpG_c rfl rfl ?_
 intro w2 g2 K hK
 go_simp
 go_at_call 141
 refine (HSL.out w2).mono ?_
 rintro e wn ⟨rfl, g3⟩
 refine hK _ _ (show Gr w2 wn from g3) ?_; have G3 := Lib.hid (((Gr.drew w).trans g2).trans (show Gr w2 wn from g3)); clear g2 g3 hK
 go_simp
 refine wQe rfl rfl ?_
 apply Exists.intro
 refine ⟨fun wq hq => ?_, ?_⟩
 · have hlook := (HM.out.mono (G3.out.trans hq)).look
   unfold pLa
   go_simp
   first | exact rfl | exact ⟨rfl, rfl⟩
 go_simp
 refine wpG_m rfl rfl ?_
 intro w4 pc g4 hpc hblk hI
 have G4 := Lib.hid (G3.out.trans g4)
 have C4 := Lib.hid hblk
 have hpc1 : w.heap.size ≤ pc := hpc
 clear hI hblk g4 hpc
 go_simp
 refine wpG_s rfl rfl ?_
 intro w5 g5 K hK
 have G5 := Lib.hid (G4.out.trans g5)
 have C5 := Lib.hid (C4.out.mono g5)
 refine wp_store_row 47 (.tmp 6) (.tmp 23) rfl pc (chgC VA vc) rfl rfl 47 #[.int .i64 0, .string ByteArray.empty, .slice none 0 0, .bool false] C5.out chgSize rfl (chgOne _ _) ?_
 refine hK _ _ ?_
 clear hK
 obtain ⟨w6, hw6⟩ : ∃ w6, w6 = w5.setRow pc (chgC VA vc) := ⟨_, rfl⟩
 have C6 : Blk w6 pc 47 (chgC VA vc).toList := by rw [hw6]; exact setRow_heap _ pc _ (chgC VA vc) _ _ C5.out
 have T6 : Tch (fun z => z = pc) w5 w6 := by rw [hw6]; exact Tch.row (S := fun z => z = pc) (w := w5) (g := pc) rfl (chgC VA vc)
 rw [← hw6]
 clear hw6 g5
 go_simp
 refine wNi ?_
 intro w7 g7
 have G7 : Hid (Gr w w7) := Gr.trans (show Gr w w6 from Tch.below G5.out T6 G5.out.size (fun z e => e ▸ hpc1)) g7
 have C7 := Lib.hid (C6.mono g7)
 clear C6 T6 g7
 have H7 := Lib.hid (HH.out.gr G7.out)
 have W7 := Lib.hid (HW.out.mono G7.out)
 have V7 := Lib.hid (HV.out.mono G7.out)
 obtain ⟨l0, l1, l2, l3⟩ := chg_cells C7.out
 have k0 := W7.out.cell 0
 obtain ⟨s1, s2, s3, s4, s5, s6⟩ := H7.out.cells
 have HDR := Lib.hid (H7.out.ms.draw H7.out.ok H7.out.n9)
 go_wp2_with fail
 refine HDR.out.mono ?_
 rintro e w8 ⟨KA, kc, rfl, o8, m8, k8⟩
 have Q8 := Lib.hid (QB.own (kb := L.kb) o8)
 have T8 := Lib.hid (H7.out.kq k8 m8 H7.out.ok.draw (by omega))
 have C8 := Lib.hid (k8.blk C7.out (by unfold tyM; decide) (fun e => absurd e (by decide)))
 have W8 := Lib.hid (k8.blk W7.out (by unfold tyM; decide) (fun e => absurd e (by decide)))
 have V8 := Lib.hid (V7.out.kq k8)
 have K8 : Hid (KQ L.kb w w8) := (KQ.gr G7.out).trans k8
 clear o8 m8 k8 l0 l1 l2 l3 k0 s1 s2 s3 s4 s5 s6 HDR
 have HC : Hid (∀ wr, KX (fun _ => False) L.kb w8 wr → (wr.cell? ⟨pc, 1, none⟩ = some (.string ⟨#[97]⟩) ∧ wr.cell? ⟨pc, 2, none⟩ = some (.slice VA 1 vc)) ∧ wr.cell? ⟨pw, 0, none⟩ = some (.pointer (some ⟨pt, 0, none⟩)) ∧ wr.cell? ⟨pt, 1, none⟩ = some (.pointer (some ⟨L.p, 0, none⟩))) := fun wr k => by
  have b1 := k.blk C8.out (by unfold tyM; decide) (fun e => absurd e (by decide)) (fun s => s)
  have b2 := k.blk W8.out (by unfold tyM; decide) (fun e => absurd e (by decide)) (fun s => s)
  have b3 := k.blk T8.out.ft (by unfold tyM; decide) (fun e => absurd e (by decide)) (fun s => s)
  exact ⟨⟨(chg_cells b1).2.1, (chg_cells b1).2.2.1⟩, b2.cell 0, b3.cell 1⟩
 have HSE := Lib.hid (fun wr (g : Gr w8 wr) => (T8.out.ms.mono g).seal T8.out.ok T8.out.n9 KA VA kc 1 vc m.key [7] ((Q8.out.mono g).b) (V8.out.mono g) (by decide))
 go_upto_region 5 with fail
 refine VG.wrV (KX (fun _ => False) L.kb) (KQ L.kb) 129 ?hlb (fun w w' h => h.1) (fun w w' b cs h hb => h.sec hb) (by kernel_rfl) [0, 1, 0, 4, 12, 28, 60, 124, 252, 0, 0, 1024, 4092, 8191, 16383, 32767, 32767, 65535, 262143] [.p 0, .p 2, .p 3, .p 4, .p 9, .p 10, .q 1, .q 5, .p 6, .p 7, .q 8, .q 11, .c 12, .c 13, .p 14, .p 15, .p 16, .p 17, .p 18] (by kernel_rfl) (trivial) ?_
 case hlb => exact fun v w' b cs k hb z => k.blk z (by unfold tyM; decide) (fun e => absurd e (by decide)) (fun s => s)
 iterate 6
  refine VG.wPe rfl rfl ?_
  apply Exists.intro
  refine ⟨fun wq => ?_, ?_⟩
  · unfold pLa
    go_simp
    first | exact rfl | exact ⟨rfl, rfl⟩
  go_simp
 iterate 2
  refine VG.wQe rfl rfl ?_
  apply Exists.intro
  refine ⟨fun wq hq => ?_, ?_⟩
  · obtain ⟨⟨l1, l2⟩, k0, t1⟩ := HC.out wq ((KX.gr (Gr.drew _)).trans hq)
    unfold pLa
    go_simp
    first | exact rfl | exact ⟨rfl, rfl⟩
  go_simp
 iterate 2
  refine VG.wPe rfl rfl ?_
  apply Exists.intro
  refine ⟨fun wq => ?_, ?_⟩
  · unfold pLa
    go_simp
    first | exact rfl | exact ⟨rfl, rfl⟩
  go_simp
 iterate 2
  refine VG.wQe rfl rfl ?_
  apply Exists.intro
  refine ⟨fun wq hq => ?_, ?_⟩
  · obtain ⟨⟨l1, l2⟩, k0, t1⟩ := HC.out wq ((KX.gr (Gr.drew _)).trans hq)
    unfold pLa
    go_simp
    first | exact rfl | exact ⟨rfl, rfl⟩
  go_simp
 refine VG.wpG_c rfl rfl ?_
 intro w9 g9 K hK
 go_simp
 go_at_call 118
 refine (HSE.out w9 ((Gr.drew _).trans g9)).mono ?_
 rintro e wn ⟨SA, sc, rfl, o9, m9, k9⟩
 refine hK _ _ (KX.kq k9) ?_; have M9 := Lib.hid m9; have K9 : Hid (KQ L.kb w8 wn) := (KQ.gr ((Gr.drew w8).trans g9)).trans k9; have Q9 := Lib.hid (QB.own (kb := L.kb) o9); clear g9 o9 m9 k9 hK
 go_simp
 refine VG.wpG_c rfl rfl ?_
 intro wa ga K hK
 go_simp
 go_at_call 230
 refine (HEL.out wa SA sc ((Q9.out.mono ga).b) (HT0.out.mono (M9.out.mono ga).below)).mono ?_
 rintro e wn ⟨vb, rfl, ob⟩
 refine hK _ _ (KX.gr ob.below) ?_; obtain ⟨BA, bc, rfl, _⟩ := ob.slice; have Gb := Lib.hid (ga.trans (show Gr wa wn from ob.below)); have Qb := Lib.hid (QB.own (kb := L.kb) ob); clear ga ob hK
 go_simp
 iterate 5
  refine VG.wPe rfl rfl ?_
  apply Exists.intro
  refine ⟨fun wq => ?_, ?_⟩
  · unfold pLa
    go_simp
    first | exact rfl | exact ⟨rfl, rfl⟩
  go_simp
 refine VG.wNi ?_
 intro wd gd
 have Kd : Hid (KQ L.kb w8 wd) := K9.out.trans (KQ.gr (Gb.out.trans gd))
 have Md := Lib.hid (M9.out.mono (Gb.out.trans gd))
 have Qd := Lib.hid (Qb.out.mono gd)
 have Td := Lib.hid (T8.out.kq Kd.out Md.out (T8.out.ok.seal (by rw [key_len]; decide) (by decide)) (by omega))
 have Wd := Lib.hid (Kd.out.blk W8.out (by unfold tyM; decide) (fun e => absurd e (by decide)))
 have KK := Lib.hid (Q8.out.kq Kd.out)
 clear gd
 have HPU := Lib.hid (workPut_any Wd.out ((Own.nil wd 188 2).base Md.out.below) hge (by decide) 2 BA BL.length bc)
 go_wp2_with fail
 refine HPU.out.mono ?_
 rintro e we ⟨rfl, vo, pf⟩
 have PF := Lib.hid pf
 clear pf
 go_wp2_with fail
 go_ret2
 obtain ⟨A', c', rfl, _⟩ := PF.out.o.slice
 have Te : Tch (fun z => z = pw) wd we := PF.out.t.mono (fun z _ q => q.resolve_right (fun q => by cases q))
 have Me : MSt w0 L ((m.draw).seal m.key [7]) we := Md.out.off Te (fun z e => e ▸ hge) (fun z e => e ▸ ⟨_, _, Wd.out, tyA_work⟩)
 have hty : ∀ z, z = pw → ∃ t cs, Blk wd z t cs ∧ ¬ tyB t := fun z e => e ▸ ⟨_, _, Wd.out, by unfold tyB; decide⟩
 refine ⟨KA, kc, rfl, ⟨Td.out.kx (KX.tch Te) Me Td.out.ok (by omega) (fun z e => by subst e; exact ⟨_, _, Wd.out, by decide, by decide, .inl (by decide), by unfold tyB; decide⟩), KK.out.tchT Te hty, ⟨A', c', PF.out.wk, BA, bc, ⟨by rw [← HBL.out]; exact PF.out.o, fun r hr => ?_⟩, fun z q => ?_⟩, ((KX.kq (K8.out.trans Kd.out)).trans (KX.tch Te))⟩⟩
 · rw [List.mem_singleton.1 hr]
   rw [← HBL.out]
   exact Qd.out.tchT Te hty
 · rcases PF.out.nw with q2 | q2
   · rw [q2] at q; cases q
   · exact Nat.le_trans (K8.out.trans Kd.out).1 (q2 z q)
end
end
end Go.Proofs.YtdkmlmbehlooiaaGreatDoor
