/- Own texts of this claim, one behind the other. No condition. -/
import Derived.Test.YtfemhhjmfckicaaGreatDoorObPkZI

/- The reference's Find, Free. No condition. -/
namespace Go.Proofs.YtfemhhjmfckicaaGreatDoor
open Go.RowKit
set_option linter.unusedVariables false
set_option linter.unusedSimpArgs false
theorem idx_at {ls : List (List UInt8)} {s : List UInt8} {k : Nat} (hk : k < ls.length) (h : ls[k] = s) (hb : ∀ j (hj : j < ls.length), j < k → ls[j] ≠ s) : ls.findIdx? (· == s) = some k := by
  rw [List.findIdx?_eq_some_iff_getElem]
  exact ⟨hk, by simpa using h, fun j hj => by simpa using hb j (by omega) hj⟩
theorem idx_none {ls : List (List UInt8)} {s : List UInt8} (hb : ∀ j (hj : j < ls.length), ls[j] ≠ s) : ls.findIdx? (· == s) = none := by
  rw [List.findIdx?_eq_none_iff]
  intro x hx
  obtain ⟨j, hj, rfl⟩ := List.mem_iff_getElem.1 hx
  simpa using hb j hj
set_option maxRecDepth 100000 in
set_option maxHeartbeats 1000000 in
theorem refFind31_any (A : Option Addr) (n c : Nat) (ls : List (List UInt8)) (s : List UInt8) (w : World) (h : Ws w A n c ls) :
    Calls Tryz.prog 8 #[.slice A n c, strc s] w fun e w' => e = .returned (.int .i64 (findH ls s)) ∧ w' = w := by
  have hmax := h.max
  have hcap := h.cap
  have HL := Lib.hid h.len
  have HH := Lib.hid h; clear h
  obtain ⟨r, hr⟩ : ∃ r, r = findH ls s := ⟨_, rfl⟩
  rw [← hr]
  have HR := Lib.hid hr; clear hr
  obtain ⟨sx, hsx⟩ : ∃ sx : ByteArray, sx = ⟨s.toArray⟩ := ⟨_, rfl⟩
  have hsl : sx.toList = s := by rw [hsx, ByteArray.toList_eq]
  have e0 : strc s = .string sx := by rw [hsx]; rfl
  rw [e0]
  clear e0 hsx
  have HSL := Lib.hid hsl
  by_cases h0 : s = []
  · have he : sx.toList.isEmpty = true := by rw [hsl, h0]; rfl
    have HF : Hid (r = -1) := by show _ = _; rw [HR.out]; unfold findH; rw [if_pos h0]
    clear hsl h0 HR HSL
    go_enter Tryz.func8, Tryz.ntmps8
    go_wp2_with fail
    go_loopw [5] (fun i wr => ∃ k : Nat, k ≤ n ∧ i = .int .i64 k ∧ wr = w) (fun i _ => n - (intOf i).toNat)
    case atStart => exact ⟨0, Nat.zero_le _, rfl, rfl⟩
    case round =>
      obtain ⟨k, hk, rfl, rfl⟩ := hrel
      by_cases hkn : k < n
      · go_wp2_with fail
        refine ⟨⟨k + 1, by omega, by first | trivial | go_num, by first | trivial | rfl⟩, ?_⟩
        show n - ((k : Int) + 1).toNat < n - (k : Int).toNat
        omega
      · go_wp2_with fail
        go_ret
        exact ⟨by rw [HF.out]; rfl, rfl⟩
  · have he : sx.toList.isEmpty = false := by
      rw [hsl]
      cases s with
      | nil => exact absurd rfl h0
      | cons a b => rfl
    have HF : Hid (r = match ls.findIdx? (· == s) with | some i => (i : Int) | none => -1) := by show _ = _; rw [HR.out]; unfold findH; rw [if_neg h0]; rfl
    clear hsl h0 HR
    go_enter Tryz.func8, Tryz.ntmps8
    go_wp2_with fail
    go_loopw [5] (fun i wr => ∃ k : Nat, k ≤ n ∧ i = .int .i64 k ∧ wr = w ∧ ∀ j (hj : j < ls.length), j < k → ls[j] ≠ s) (fun i _ => n - (intOf i).toNat)
    case atStart => exact ⟨0, Nat.zero_le _, rfl, rfl, fun j hj q => absurd q (by omega)⟩
    case round =>
      obtain ⟨k, hk, rfl, rfl, hall⟩ := hrel
      have HA := Lib.hid hall; clear hall
      by_cases hkn : k < n
      · have hkl : k < ls.length := by rw [HL.out]; exact hkn
        obtain ⟨b, o, rfl, hcc⟩ := Ws.addr HH.out (by omega)
        have c1 := hcc k hkl
        have HNX : Hid (ls[k] ≠ s → ∀ j (hj : j < ls.length), j < k + 1 → ls[j] ≠ s) := fun q j hj hjk => by
          by_cases e : j = k
          · subst e; exact q
          · exact HA.out j hj (by omega)
        have HYS : Hid (ls[k] = s → r = (k : Int)) := fun q => by rw [HF.out, idx_at hkl q HA.out]
        clear hcc
        generalize ls[k] = x at *
        obtain ⟨xs, hxs⟩ : ∃ xs : ByteArray, xs = ⟨x.toArray⟩ := ⟨_, rfl⟩
        rw [← hxs] at c1
        have hxl : xs.toList = x := by rw [hxs, ByteArray.toList_eq]
        clear hxs
        by_cases hx : x = s
        · have t1 : (xs.toList == sx.toList) = true := by rw [hxl, HSL.out, hx]; simp
          have HE := Lib.hid (HYS.out hx)
          clear hxl hx HNX HYS
          go_wp2_with fail
          go_ret
          exact ⟨by rw [HE.out]; rfl, rfl⟩
        · have t1 : (xs.toList == sx.toList) = false := by rw [hxl, HSL.out]; exact beq_eq_false_iff_ne.2 hx
          have HN2 := Lib.hid (HNX.out hx)
          clear hxl hx HNX HYS
          go_wp2_with fail
          refine ⟨⟨k + 1, by omega, by first | trivial | go_num, by first | trivial | rfl, HN2.out⟩, ?_⟩
          show n - ((k : Int) + 1).toNat < n - (k : Int).toNat
          omega
      · obtain rfl : k = n := by omega
        have HE : Hid (r = -1) := by
          show _ = _
          rw [HF.out, idx_none (fun j hj => HA.out j hj (by rw [← HL.out]; exact hj))]
        go_wp2_with fail
        go_ret
        exact ⟨by rw [HE.out]; rfl, rfl⟩
set_option maxRecDepth 100000 in
set_option maxHeartbeats 1000000 in
theorem refFree31_any (A : Option Addr) (n c : Nat) (ls : List (List UInt8)) (w : World) (h : Ws w A n c ls) :
    Calls Tryz.prog 10 #[.slice A n c] w fun e w' => e = .returned (.int .i64 (freeH ls)) ∧ w' = w := by
  have hmax := h.max
  have hcap := h.cap
  have HL := Lib.hid h.len
  have HH := Lib.hid h; clear h
  obtain ⟨r, hr⟩ : ∃ r, r = freeH ls := ⟨_, rfl⟩
  rw [← hr]
  have HF : Hid (r = match ls.findIdx? (· == []) with | some i => (i : Int) | none => -1) := hr
  clear hr
  go_enter Tryz.func10, Tryz.ntmps10
  go_wp2_with fail
  go_loopw [3] (fun i wr => ∃ k : Nat, k ≤ n ∧ i = .int .i64 k ∧ wr = w ∧ ∀ j (hj : j < ls.length), j < k → ls[j] ≠ []) (fun i _ => n - (intOf i).toNat)
  case atStart => exact ⟨0, Nat.zero_le _, rfl, rfl, fun j hj q => absurd q (by omega)⟩
  case round =>
    obtain ⟨k, hk, rfl, rfl, hall⟩ := hrel
    have HA := Lib.hid hall; clear hall
    by_cases hkn : k < n
    · have hkl : k < ls.length := by rw [HL.out]; exact hkn
      obtain ⟨b, o, rfl, hcc⟩ := Ws.addr HH.out (by omega)
      have c1 := hcc k hkl
      have HNX : Hid (ls[k] ≠ [] → ∀ j (hj : j < ls.length), j < k + 1 → ls[j] ≠ []) := fun q j hj hjk => by
        by_cases e : j = k
        · subst e; exact q
        · exact HA.out j hj (by omega)
      have HYS : Hid (ls[k] = [] → r = (k : Int)) := fun q => by rw [HF.out, idx_at hkl q HA.out]
      clear hcc
      generalize ls[k] = x at *
      obtain ⟨xs, hxs⟩ : ∃ xs : ByteArray, xs = ⟨x.toArray⟩ := ⟨_, rfl⟩
      rw [← hxs] at c1
      have hxl : xs.toList = x := by rw [hxs, ByteArray.toList_eq]
      clear hxs
      by_cases hx : x = []
      · have he : xs.toList.isEmpty = true := by rw [hxl, hx]; rfl
        have HE := Lib.hid (HYS.out hx)
        clear hxl hx HNX HYS
        go_wp2_with fail
        go_ret
        exact ⟨by rw [HE.out]; rfl, rfl⟩
      · have he : xs.toList.isEmpty = false := by
          rw [hxl]
          cases x with
          | nil => exact absurd rfl hx
          | cons a b => rfl
        have HN2 := Lib.hid (HNX.out hx)
        clear hxl hx HNX HYS
        go_wp2_with fail
        refine ⟨⟨k + 1, by omega, by first | trivial | go_num, by first | trivial | rfl, HN2.out⟩, ?_⟩
        show n - ((k : Int) + 1).toNat < n - (k : Int).toNat
        omega
    · obtain rfl : k = n := by omega
      have HE : Hid (r = -1) := by
        show _ = _
        rw [HF.out, idx_none (fun j hj => HA.out j hj (by rw [← HL.out]; exact hj))]
      go_wp2_with fail
      go_ret
      exact ⟨by rw [HE.out]; rfl, rfl⟩
end Go.Proofs.YtfemhhjmfckicaaGreatDoor
