/- Own texts of this claim, one behind the other. No condition. -/
import Derived.Test.YtplddbaggbdbiaaDoorObPkAT
import Derived.Test.YtplddbaggbdbiaaDoorObPkBQ

/- Who knows terms, when more terms have come: Derives; Derive of a term that is there. No condition. -/
namespace Go.Proofs.YtplddbaggbdbiaaDoor
open Go.RowKit
set_option linter.unusedVariables false
set_option linter.unusedSimpArgs false
section
variable {w0 w : World} {p g bm bs : Nat} {T : List Nd}
theorem SymS.terms (h : SymS w0 w p g bm bs T) : Calls Tryd.prog 16 #[.pointer (some ⟨p, 0, none⟩)] w fun e w' => e = .returned (.pointer (some ⟨g, 0, none⟩)) ∧ w = w' := by
  have HN := Lib.hid h.isNone
  have c0 := h.c0
  clear h
  go_enter Tryd.func16, Tryd.ntmps16
  go_wp2_with fail
  refine HN.out.mono ?_
  rintro e w1 ⟨rfl, h1⟩
  subst h1
  go_wp2_with fail
  go_ret
  exact ⟨rfl, rfl⟩
set_option maxHeartbeats 1000000 in
theorem of_known (h : SymS w0 w p g bm bs T) (hn : T.length ≤ 1000) (A : Option Addr) (n c : Nat) (b : List UInt8) (hb : Bs w A n c b) (h0 : 0 < termB T b) :
    Calls Tryd.prog 51 #[.pointer (some ⟨p, 0, none⟩), .slice A n c] w fun e w' => e = .returned (.int .i64 (termB T b : Int)) ∧ Gr w w' := by
  have HT := Lib.hid (h.term hn A n c b hb)
  have t0 : decide (0 < (termB T b : Int)) = true := decide_eq_true (by omega)
  clear h hb
  generalize termB T b = q at *
  go_enter Tryd.func51, Tryd.ntmps51
  go_wp2_with fail
  refine HT.out.mono ?_
  rintro e w1 ⟨rfl, g1⟩
  have G1 := Lib.hid g1; clear g1
  go_wp2_with fail
  go_ret
  exact ⟨rfl, G1.out⟩
set_option maxRecDepth 100000 in
set_option maxHeartbeats 2000000 in
/-- Derive of a term that is there: which blocks it turns. -/
theorem deriveK_any (vl vs : Value) (h : SymS w0 w p g bm bs T) (ht : TbF w0 w g T vl vs bm) (hn : T.length ≤ 990) (A : Option Addr) (n c : Nat) (b : List UInt8) (hb : Bs w A n c b) (h0 : 0 < termB T b) (s : ByteArray) (hs : s.size ≤ maxLen) :
    Calls Tryd.prog 20 #[.pointer (some ⟨p, 0, none⟩), .slice A n c, .string s] w fun e w' => ∃ v vl' vs', e = .returned v ∧ Own w0 w' 5 1 v 32 ((handleL (derT T b s).2).map u8c) ∧ SymS w0 w' p g bm bs (derT T b s).1 ∧ FS w w' ∧ TbF w0 w' g (derT T b s).1 vl' vs' bm ∧ TChM w w' g bm vl vs vl' vs' := by
  have hl : b.length = n := by have := hb.len; simpa using this
  have hcp := hb.cap; have hmx := hb.max
  have hbl : b.length ≤ maxLen := by simp only [maxLen]; omega
  have HN := Lib.hid h.isNone; have HR := Lib.hid h.isReal
  have HOF := Lib.hid (of_known (h.gr (Gr.drew w)) (by omega) A n c b (hb.mono (Gr.drew w)) h0)
  have HIN2 := Lib.hid (derT_in h.i (by omega) b hbl s hs)
  have hof : ofT T b = (T, termB T b) := by unfold ofT; rw [if_pos h0]
  have hde : derT T b s = kdfT T (termB T b : Int) s := by unfold derT; rw [hof]
  have c0 := h.c0
  have HSS := Lib.hid hs; have HS := Lib.hid h; have HTB := Lib.hid ht
  have hid := kdfT_id T (termB T b : Int) s
  have hid2 : (derT T b s).2 < 9223372036854775808 := by rw [hde]; omega
  have HDE := Lib.hid hde
  clear h hb hs hid ht hof h0 hde
  go_enter Tryd.func20, Tryd.ntmps20
  go_wp2_with fail
  refine HN.out.mono ?_
  rintro e w1 ⟨rfl, h1⟩
  subst h1
  go_wp2_with fail
  refine HR.out.mono ?_
  rintro e w1 ⟨rfl, h1⟩
  subst h1
  go_upto_region 5 with fail
  refine wp_region_pre (by kernel_rfl) (fun w' => w'.cell? ⟨p, 0, none⟩ = some (.pointer (some ⟨g, 0, none⟩))) (fun i => i == 4) (fun _ => false) [0, 1, 2, 3, 5, 6, 8, 4] 4 (by kernel_rfl) (by kernel_rfl) (by kernel_rfl) c0 ?_
  refine wpPre_e rfl rfl ?_
  apply Exists.intro
  refine ⟨fun wq hq => ?_, ?_⟩
  · clear hq
    unfold plainAt
    go_simp
    first | exact rfl | exact ⟨rfl, rfl⟩
  go_simp
  refine wpPre_e rfl rfl ?_
  apply Exists.intro
  refine ⟨fun wq hq => ?_, ?_⟩
  · clear hq
    unfold plainAt
    go_simp
    first | exact rfl | exact ⟨rfl, rfl⟩
  go_simp
  refine wpPre_e rfl rfl ?_
  apply Exists.intro
  refine ⟨fun wq hq => ?_, ?_⟩
  · clear hq
    unfold plainAt
    go_simp
    first | exact rfl | exact ⟨rfl, rfl⟩
  go_simp
  refine wpPre_e rfl rfl ?_
  apply Exists.intro
  refine ⟨fun wq hq => ?_, ?_⟩
  · clear hq
    unfold plainAt
    go_simp
    first | exact rfl | exact ⟨rfl, rfl⟩
  go_simp
  refine wpPre_e rfl rfl ?_
  apply Exists.intro
  refine ⟨fun wq hq => ?_, ?_⟩
  · clear hq
    unfold plainAt
    go_simp
    first | exact rfl | exact ⟨rfl, rfl⟩
  go_simp
  refine wpPre_e rfl rfl ?_
  apply Exists.intro
  refine ⟨fun wq hq => ?_, ?_⟩
  · clear hq
    unfold plainAt
    go_simp
    first | exact rfl | exact ⟨rfl, rfl⟩
  go_simp
  refine wpPre_e rfl rfl ?_
  apply Exists.intro
  refine ⟨fun wq hq => ?_, ?_⟩
  · clear hq
    unfold plainAt
    go_simp
    first | exact rfl | exact ⟨rfl, rfl⟩
  go_simp
  refine wpPre_e rfl rfl ?_
  apply Exists.intro
  refine ⟨fun wq hq => ?_, ?_⟩
  · replace hq := hq rfl
    have z0 := hq
    unfold plainAt
    go_simp
    first | exact rfl | exact ⟨rfl, rfl⟩
  go_simp
  refine wpPre_nil ?_
  clear c0
  refine wpRest_one (i := 7) (by kernel_rfl) rfl rfl ?_
  intro K hK
  go_simp
  go_at_call 51
  refine HOF.out.mono ?_
  rintro e w2 ⟨rfl, g2⟩
  have G2 : Hid (Gr w w2) := (Gr.drew _).trans g2
  refine hK _ _ (fun _ => (HS.out.gr G2.out).c0) ?_
  clear hK g2
  go_simp
  refine wpRest_one (i := 9) (by kernel_rfl) rfl rfl ?_
  intro K hK
  go_simp
  go_at_call 50
  have hok : TOk T := HS.out.i.ok (by omega)
  refine (kdf_any w0 g T vl vs bm (termB T b : Int) s w2 (HTB.out.gr G2.out) hok HSS.out).mono ?_
  rintro e w3 ⟨vl', vs', rfl, t3, c3⟩
  rw [← HDE.out] at t3 ⊢
  have SF := Lib.hid ((HS.out.gr G2.out).turn (HTB.out.gr G2.out) t3 c3 HIN2.out.1)
  have T3 := Lib.hid t3; have C3 := Lib.hid c3
  refine hK _ _ (fun _ => SF.out.1.c0) ?_
  clear hK t3 c3
  go_simp
  refine wpRest_one (i := 10) (by kernel_rfl) rfl rfl ?_
  intro K hK
  go_simp
  go_at_call 36
  refine (handle_any (derT T b s).2 w3 hid2).mono ?_
  rintro e w4 ⟨v4, rfl, o4⟩
  rw [handleL_len] at o4
  have O4 := Lib.hid (o4.base SF.out.1.below)
  have S4 := Lib.hid (SF.out.1.gr o4.below)
  have F4 : Hid (FS w w4) := (FS.gr G2.out).trans (SF.out.2.trans (FS.gr o4.below))
  have T4 := Lib.hid (T3.out.gr o4.below)
  have C4 : Hid (TChM w w4 g bm vl vs vl' vs') := (TChM.gr G2.out).trans (C3.out.trans (TChM.gr o4.below))
  refine hK _ _ (fun _ => S4.out.c0) ?_
  clear hK o4
  go_simp
  refine wpRest_one (i := 11) (by kernel_rfl) rfl rfl ?_
  intro K hK
  go_simp
  refine hK _ _ (fun _ => S4.out.c0) ?_
  clear hK
  go_simp
  refine wpRest_nil (by kernel_rfl) ?_
  go_wp2_with fail
  go_ret
  exact ⟨v4, vl', vs', rfl, O4.out, S4.out, F4.out, T4.out, C4.out⟩
end
theorem Sl.keepP {w w' : World} {A : Option Addr} {n c s : Nat} {xs : List Value} (h : Sl w A n c s xs) (hp : 0 < n → ∀ b o, A = some ⟨b, o, none⟩ → w'.heap[b]? = w.heap[b]?) : Sl w' A n c s xs := by
  rcases Nat.eq_zero_or_pos n with h0 | h0
  · exact ⟨h.1, h.2.1, h.2.2.1, fun h => absurd h (by omega)⟩
  · exact Sl.keepB h (hp h0)
theorem own_keep {w0 w0' w w' : World} {e : TypeId} {s n : Nat} {v : Value} {xs : List Value} (h : Own w0' w e s v n xs) (hle : w0.heap.size ≤ w0'.heap.size) (hk : ∀ b, v.ownBlock = some b → w'.heap[b]? = w.heap[b]?) (hb : Below w0.heap.size w0 w') : Own w0 w' e s v n xs := by
  refine ⟨⟨h.1.1, ?_⟩, hb⟩
  rcases h.1.2 with q | ⟨g, cap, cur, hv, hg, hh, r⟩
  · exact .inl q
  · exact .inr ⟨g, cap, cur, hv, Nat.le_trans hle hg, by rw [hk g (by rw [hv]; rfl)]; exact hh, r⟩
theorem TbF.keepB {w0 w w' : World} {g bm : Nat} {T : List Nd} {vl vs : Value} (h : TbF w0 w g T vl vs bm) (hk : ∀ b, (b = g ∨ b = bm ∨ vl.ownBlock = some b ∨ vs.ownBlock = some b) → w'.heap[b]? = w.heap[b]?) (hb : Below w0.heap.size w0 w') : TbF w0 w' g T vl vs bm :=
  ⟨⟨(hk g (.inl rfl)).trans h.x.blk, own_keep h.x.l (Nat.le_refl _) (fun b e => hk b (.inr (.inr (.inl e)))) hb, own_keep h.x.s (Nat.le_refl _) (fun b e => hk b (.inr (.inr (.inr e)))) hb, h.x.ge, h.x.gm⟩, h.m.keep (hk bm (.inr (.inl rfl)))⟩
/-- A state in memory that has come since w0' is one in memory that has come since w0, as long as its memory stays. -/
theorem KnF.across {w0 w0' w w' : World} {gk g bk n : Nat} {T : List Nd} {l : List Int} {vk vp vi : Value} (h : KnF w0' w gk g bk n T l vk vp vi) (hle : w0.heap.size ≤ w0'.heap.size) (t : ∀ b, w0'.heap.size ≤ b → b < w.heap.size → w'.heap[b]? = w.heap[b]?) (hb : Below w0.heap.size w0 w') : KnF w0 w' gk g bk n T l vk vp vi := by
  have ho : ∀ {e : TypeId} {s n : Nat} {v : Value} {xs : List Value}, Own w0' w e s v n xs → Own w0 w' e s v n xs := fun hh => own_keep hh hle (fun b e => t b (hh.1.lt b e).1 (hh.1.lt b e).2) hb
  refine ⟨Nat.le_trans hle h.ge, Nat.le_trans hle h.gm, hb, (t gk h.ge h.blk.lt).trans h.blk, h.m.keep (t bk h.gm h.m.lt), ?_, ?_⟩
  · rcases h.kp with q | ⟨q1, R, q2, q3, q4⟩
    · exact .inl q
    · refine .inr ⟨ho q1, R, ⟨ho q2.1, fun r hr => ⟨?_, (q2.2 r hr).2⟩⟩, q3, fun r hr => ⟨(q4 r hr).1, fun b o h0 e => Nat.le_trans hle ((q4 r hr).2 b o h0 e)⟩⟩
      exact Sl.keepP (q2.2 r hr).1 (fun h0 b o e => t b ((q4 r hr).2 b o h0 e) (Sl.lt (q2.2 r hr).1 (by decide) h0 e))
  · rcases h.is with q | ⟨d, q1, q2⟩
    · exact .inl q
    · exact .inr ⟨d, ho q1, q2⟩
theorem kindOf_onto {T T' : List Nd} (h : Onto T T') (id : Nat) (hid : id ≤ T.length) : kindOf T' (id : Int) = kindOf T (id : Int) ∧ partsOf T' (id : Int) = partsOf T (id : Int) := by
  have hl := h.len
  have ho : outside T'.length (id : Int) = outside T.length (id : Int) := by
    unfold outside
    rw [Bool.eq_iff_iff]
    simp only [Bool.or_eq_true, decide_eq_true_eq]
    omega
  unfold kindOf partsOf
  rw [ho]
  cases hq : outside T.length (id : Int) with
  | true => exact ⟨rfl, rfl⟩
  | false =>
    have h1 : 1 ≤ id := by unfold outside at hq; simp at hq; omega
    have e : T'[(id : Int).toNat - 1]? = T[(id : Int).toNat - 1]? := h.at (by simp; omega)
    rw [e]
    exact ⟨rfl, rfl⟩
theorem range_map_take {α : Type} (f f' : Nat → α) (n m : Nat) (h : ∀ i, i < n → f' i = f i) (hn : n ≤ m) : ((List.range m).map f').take n = (List.range n).map f := by
  rw [← List.map_take, List.take_range, Nat.min_eq_left hn]
  exact List.map_congr_left (fun i hi => h i (List.mem_range.1 hi))
theorem kinds_onto {T T' : List Nd} (h : Onto T T') : (kindsA T').take (T.length + 1) = kindsA T := range_map_take _ _ _ _ (fun i hi => by rw [(kindOf_onto h i (by omega)).1]) (by have := h.len; omega)
theorem parts_onto {T T' : List Nd} (h : Onto T T') : (partsA T').take (T.length + 1) = partsA T := range_map_take _ _ _ _ (fun i hi => by rw [(kindOf_onto h i (by omega)).2]) (by have := h.len; omega)
/-- What a state's calls turn, of what is there. -/
def KV (gk : Nat) (vk vp : Value) : Nat → Prop := fun b => b = gk ∨ vk.ownBlock = some b ∨ vp.ownBlock = some b
/-- A state whose table may have got more terms since it was looked at. -/
structure RawK (w0 w : World) (gk g bk N : Nat) (T : List Nd) (l : List Int) (vk vp vi : Value) (k0 : Nat) (R : List IRow) (d : List Bool) : Prop where
  ge : w0.heap.size ≤ gk
  gm : w0.heap.size ≤ bk
  gt : GrowTo w0 w gk g bk T vk vp vi k0 R
  kle : k0 ≤ T.length + 1
  m : mK w bk N l
  is : Own w0 w 4 1 vi d.length (d.map boolc)
  dle : d.length ≤ T.length + 1
  memo : d.length = T.length + 1 → KnF w0 w gk g bk N T l vk vp vi ∧ Tells T (InL l) d
theorem KnF.raw {w0 w : World} {gk g bk N : Nat} {T T' : List Nd} {l : List Int} {vk vp vi : Value} (h : KnF w0 w gk g bk N T l vk vp vi) (ho : Onto T T') : ∃ k0 R d, RawK w0 w gk g bk N T' l vk vp vi k0 R d := by
  have hl := ho.len
  have H1 : ∃ k0 R, k0 ≤ T'.length + 1 ∧ GrowTo w0 w gk g bk T' vk vp vi k0 R := by
    rcases h.kp with ⟨rfl, rfl⟩ | ⟨q1, R, q2, q3, q4⟩
    · exact ⟨0, [], Nat.zero_le _, h.blk, Own.nil' h.bel _ _, GathI.nil' h.bel, rfl, (fun r hr => by cases hr), fun r hr => by cases hr⟩
    · exact ⟨T.length + 1, R, by omega, h.blk, by rw [kinds_onto ho]; exact q1, q2, by rw [parts_onto ho]; exact q3, fun r hr => (q4 r hr).1, fun r hr => (q4 r hr).2⟩
  obtain ⟨k0, R, hk0, hg⟩ := H1
  rcases h.is with rfl | ⟨d, q1, q2⟩
  · exact ⟨k0, R, [], h.ge, h.gm, hg, hk0, h.m, Own.nil' h.bel _ _, Nat.zero_le _, fun e => by simp at e⟩
  · refine ⟨k0, R, d, h.ge, h.gm, hg, hk0, h.m, q1, by have := q2.1; omega, fun e => ?_⟩
    obtain ⟨U, rfl⟩ := ho
    have : U = [] := List.eq_nil_of_length_eq_zero (by rw [List.length_append] at e; have := q2.1; omega)
    subst this
    rw [List.append_nil] at e ⊢
    exact ⟨h, q2.2 e⟩
section
variable {w0 w : World} {gk g bk N : Nat} {T : List Nd} {l : List Int} {vk vp vi : Value} {k0 : Nat} {R : List IRow} {d : List Bool}
theorem RawK.bel (h : RawK w0 w gk g bk N T l vk vp vi k0 R d) : Below w0.heap.size w0 w := h.is.2
theorem RawK.kv (h : RawK w0 w gk g bk N T l vk vp vi k0 R d) : ∀ b, KV gk vk vp b → w0.heap.size ≤ b := fun b q => by
  rcases q with rfl | q | q
  · exact h.ge
  · exact (h.gt.kk.1.lt b q).1
  · exact (h.gt.pp.1.1.lt b q).1
theorem RawK.kvm (h : RawK w0 w gk g bk N T l vk vp vi k0 R d) : ¬ KV gk vk vp bk := fun q => by
  obtain ⟨es, clock, hm⟩ := h.m.obj
  rcases q with q | q | q
  · subst q
    have := h.gt.blk
    unfold Blk at this
    rw [hm] at this
    cases this
  · exact h.gt.kk.not_map hm q
  · exact h.gt.pp.1.not_map hm q
theorem RawK.gr {w' : World} (h : RawK w0 w gk g bk N T l vk vp vi k0 R d) (hg : Gr w w') : RawK w0 w' gk g bk N T l vk vp vi k0 R d :=
  ⟨h.ge, h.gm, h.gt.gr hg, h.kle, h.m.keep (hg.block bk h.m.lt), h.is.mono hg, h.dle, fun e => ⟨(h.memo e).1.gr hg, (h.memo e).2⟩⟩
theorem RawK.grow (h : RawK w0 w gk g bk N T l vk vp vi k0 R d) (ht : ∀ W, Tch (KV gk vk vp) w W → TRd W g T) (hk : Kinds T) (hn : T.length ≤ 1000) (hst : d.length ≠ T.length + 1) :
    Calls Tryd.prog 89 #[.pointer (some ⟨gk, 0, none⟩)] w fun e w' => e = .returned (.tuple #[]) ∧ Tch (KV gk vk vp) w w' ∧ ∃ vk' vp', KnF w0 w' gk g bk N T l vk' vp' vi ∧ KnowFull w0 w' T vk' vp' := by
  obtain ⟨Ai, ci, ei, _⟩ := h.is.slice
  refine (growG_any (KV gk vk vp) w0 gk g bk T vk vp vi k0 R w (.inl rfl) h.ge h.kle h.gt (fun b e => .inr (.inr (.inl e))) (fun b e => .inr (.inr (.inr e))) ⟨Ai, _, ci, ei⟩ ht hk hn).mono ?_
  rintro e w' ⟨rfl, t, vk', vp', R', hg⟩
  have hfull : KnowFull w0 w' T vk' vp' := by
    have h1 := hg.kk
    have h2 := hg.rr
    rw [List.take_of_length_le (by rw [kindsA_len]; exact Nat.le_refl _)] at h1
    rw [List.take_of_length_le (by rw [partsA_len]; exact Nat.le_refl _)] at h2
    exact ⟨h1, R', hg.pp, h2, fun r hr => ⟨hg.ap r hr, hg.nw r hr⟩⟩
  have hv : ∀ b, vi.ownBlock = some b → ¬ KV gk vk vp b := fun b hb q => by
    rcases q with rfl | q | q
    · exact h.is.not_blk h.gt.blk (by decide) hb
    · exact own_other h.is h.gt.kk (by decide) hb q
    · exact own_other h.is h.gt.pp.1 (by decide) hb q
  exact ⟨rfl, t, vk', vp', ⟨h.ge, h.gm, t.below h.bel h.bel.size h.kv, hg.blk, h.m.keep (t.keep bk h.m.lt h.kvm), .inr hfull, .inr ⟨d, h.is.tch t h.kv hv, h.dle, fun q => absurd q hst⟩⟩, hfull⟩
set_option maxHeartbeats 1000000 in
theorem derives_new (SB : Nat → Prop) (k : Nat) (hB : Blk w gk 91 [.pointer (some ⟨g, 0, none⟩), .map (some bk), vk, vp, vi]) (hkd : Kinds T) (hn : T.length ≤ 1000) (hin : outside T.length (k : Int) = false)
    (hkc : Calls Tryd.prog 42 #[.pointer (some ⟨g, 0, none⟩), .int .i64 (k : Int)] w fun e w' => e = .returned (.int .i64 (kindOf T (k : Int) : Int)) ∧ Gr w w')
    (hall : ∀ w1, Gr w w1 → Calls Tryd.prog 48 #[.pointer (some ⟨gk, 0, none⟩)] w1 (RetAllS SB w0 w1 gk g bk N T l)) :
    Calls Tryd.prog 19 #[.pointer (some ⟨gk, 0, none⟩), .int .i64 (k : Int)] w fun e w' => ∃ r, e = .returned (.bool r) ∧ (r = true ↔ Der T (InL l) k) ∧ Tch SB w w' := by
  have c0 : w.cell? ⟨gk, 0, none⟩ = some (.pointer (some ⟨g, 0, none⟩)) := (hB.cell 0).trans rfl
  have HKC := Lib.hid hkc
  have hq0 := (kindOf_pos hkd (k : Int)).2 hin
  obtain ⟨q, hq⟩ : ∃ q, q = kindOf T (k : Int) := ⟨_, rfl⟩
  rw [← hq] at HKC hq0
  have HA := Lib.hid hall
  have hr : 1 ≤ (k : Int) ∧ (k : Int) ≤ T.length := by unfold outside at hin; simp at hin; omega
  have t0 : ((q : Int) == 0) = false := by rw [beq_eq_false_iff_ne]; omega
  clear hq hkc hkd hall hB hin
  go_enter Tryd.func19, Tryd.ntmps19
  go_wp2_with fail
  refine HKC.out.mono ?_
  rintro e w1 ⟨rfl, g1⟩
  have G1 := Lib.hid g1; clear g1 c0
  go_wp2_with fail
  refine (HA.out w1 G1.out).mono ?_
  rintro e w2 ⟨A, c, d', vk', vp', vi', rfl, hs, htl, hk2, ht2⟩
  have hcap := hs.cap; have hmx := hs.max
  obtain ⟨b, o, rfl, hcc⟩ := hs.addr (by omega)
  have c2 := hcc k _ (boolc_at (by rw [htl.1]; omega))
  have TL := Lib.hid htl; have T2 := Lib.hid ht2
  obtain ⟨m, hm⟩ : ∃ m, m = T.length := ⟨_, rfl⟩
  rw [← hm] at hr hn hcap ⊢
  clear hs hcc htl hk2 ht2 hm hq0
  go_wp2_with fail
  go_ret
  exact ⟨dAt d' k, rfl, TL.out.2 k, (Tch.gr G1.out).trans T2.out⟩
theorem RawK.derives (h : RawK w0 w gk g bk N T l vk vp vi k0 R d) (ht : ∀ W, Tch (KV gk vk vp) w W → TRd W g T) (hT : TIn T) (hn : T.length ≤ 1000) (hl : ∀ x ∈ l, outside T.length x = false) (k : Nat) (hin : outside T.length (k : Int) = false) :
    Calls Tryd.prog 19 #[.pointer (some ⟨gk, 0, none⟩), .int .i64 (k : Int)] w fun e w' => ∃ r, e = .returned (.bool r) ∧ (r = true ↔ Der T (InL l) k) ∧ Tch (KV gk vk vp) w w' := by
  have hr : 1 ≤ (k : Int) ∧ (k : Int) ≤ T.length := by unfold outside at hin; simp at hin; omega
  have hrd := ht w (Tch.refl w)
  have hlen : ∀ w1, Gr w w1 → ∀ q, Calls Tryd.prog 45 #[.pointer (some ⟨g, 0, none⟩)] (w1.drewN q) fun e w' => e = .returned (.int .i64 (T.length : Int)) ∧ w' = w1.drewN q := fun w1 hg q =>
    (len_any g T (w1.drewN q) (ht _ (Tch.gr (hg.trans (belowN (Below.refl _ _) q))))).mono fun e w' ⟨h1, h2⟩ => ⟨h1, h2.symm⟩
  refine derives_new (w0 := w0) (N := N) (KV gk vk vp) k h.gt.blk hT.kinds hn hin (kind_any g T (k : Int) w hrd hT.kinds ⟨by omega, by omega⟩) (fun w1 hg => ?_)
  have h1 := h.gr hg
  by_cases hd : d.length = T.length + 1
  · exact all_memo (KV gk vk vp) w0 gk g bk N T l vk vp vi d w1 (h1.memo hd).1 h1.is (h1.memo hd).2 hn (hlen w1 hg)
  · obtain ⟨Ai, ci, ei, _⟩ := h1.is.slice
    have hb := h1.gt.blk
    have hvi := ei
    subst hvi
    refine all_new (KV gk vk vp) w0 gk g bk N T l vk vp Ai d.length ci w1 (.inl rfl) h1.bel.size hb hd hn (hlen w1 hg) (fun w2 hg2 => ?_)
    have h2 := h1.gr hg2
    exact closed_of w0 gk g bk N T l _ bk N l w2 (KV gk vk vp) (h2.grow (fun W hW => ht W ((Tch.gr (hg.trans hg2)).trans hW)) hT.kinds hn hd) h2.kvm hT.parts hT.kinds hn h2.m hl
end
end Go.Proofs.YtplddbaggbdbiaaDoor
