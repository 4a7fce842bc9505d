/- The reference's table of terms: is an id. No condition. -/
import Derived.Test.YthlnoaalhojphaaDoorObTermI
import Derived.Test.YthlnoaalhojphaaDoorObRowsS
namespace Go.Proofs.YthlnoaalhojphaaDoor
open Go.RowKit Go.Maps
set_option linter.unusedVariables false

theorem refThere_any (A : Option Addr) (n c : Nat) (id : Int) (w : World) :
    Calls Tryd.prog 81 #[.slice A n c, .int .i64 id] w fun e w' => e = .returned (.bool (!outside n id)) ∧ w' = w := by
  have e0 : (!outside n id) = (decide (1 ≤ id) && decide (id ≤ (n : Int))) := by
    unfold outside
    rw [Bool.not_or, ← decide_not, ← decide_not]
    congr 1 <;> (rw [decide_eq_decide]; omega)
  rw [e0]
  cases h1 : decide (1 ≤ id) <;> cases h2 : decide (id ≤ (n : Int))
  all_goals
    go_enter Tryd.func81, Tryd.ntmps81
    go_wp2_with fail
    go_ret
    exact ⟨rfl, rfl⟩
/-- A node of the reference's table. -/
def Nd.node (x : Nd) : List Value := [.int .i64 (x.k : Int), .int .i64 (x.a : Int), .int .i64 (x.b : Int), .string x.s, .int .i64 (x.n : Int)]
theorem Nd.node_len (x : Nd) : x.node.length = 5 := rfl
abbrev RTb (w : World) (A : Option Addr) (n c : Nat) (T : List Nd) : Prop := Rs Nd.node 5 w A n c T
theorem RTb.row {w : World} {A : Option Addr} {n c : Nat} {T : List Nd} (h : RTb w A n c T) {k : Nat} (hk : k < n) :
    ∃ b o x, A = some ⟨b, o, none⟩ ∧ T[k]? = some x ∧ w.cell? ⟨b, o + k * 5, none⟩ = some (.int .i64 (x.k : Int)) ∧ w.cell? ⟨b, o + k * 5 + 1, none⟩ = some (.int .i64 (x.a : Int)) ∧ w.cell? ⟨b, o + k * 5 + 2, none⟩ = some (.int .i64 (x.b : Int)) ∧
      w.cell? ⟨b, o + k * 5 + 3, none⟩ = some (.string x.s) ∧ w.cell? ⟨b, o + k * 5 + 4, none⟩ = some (.int .i64 (x.n : Int)) := by
  obtain ⟨b, o, x, e, hx, hc⟩ := Rs.row h Nd.node_len hk
  exact ⟨b, o, x, e, hx, hc 0 _ rfl, hc 1 _ rfl, hc 2 _ rfl, hc 3 _ rfl, hc 4 _ rfl⟩
theorem refKind_any (A : Option Addr) (n c : Nat) (T : List Nd) (id : Int) (w : World) (h : RTb w A n c T) :
    Calls Tryd.prog 43 #[.slice A n c, .int .i64 id] w fun e w' => e = .returned (.int .i64 (kindOf T id : Int)) ∧ w' = w := by
  have hl : T.length = n := h.1
  have hm := Nat.le_trans h.cap h.max
  have HR := Lib.hid (refThere_any A n c id w)
  unfold kindOf
  rw [hl]
  cases ho : outside n id with
  | true =>
    rw [ho] at HR
    clear h hl hm
    go_enter Tryd.func43, Tryd.ntmps43
    go_wp2_with fail
    refine HR.out.mono ?_
    rintro e w1 ⟨rfl, rfl⟩
    go_wp2_with fail
    go_ret
    exact ⟨rfl, rfl⟩
  | false =>
    rw [ho] at HR
    have hin : 1 ≤ id ∧ id ≤ n := by unfold outside at ho; simp at ho; omega
    obtain ⟨k, rfl⟩ : ∃ k : Nat, id = (k : Int) + 1 := ⟨(id - 1).toNat, by omega⟩
    have hk : k < n := by omega
    obtain ⟨b, o, x, rfl, hx, c0, _, _, _, _⟩ := h.row hk
    have ek : ((k : Int) + 1).toNat - 1 = k := by omega
    rw [ek, hx]
    have hw : IntKind.i64.wrap ((k : Int) + 1 - 1) = k := by rw [IntWalk.i64_in _ (by omega)]; omega
    have hw2 : wrap64 (k : Int) = k := IntWalk.wrap64_in _ ⟨by omega, by omega⟩
    clear h hl hin ek ho
    go_enter Tryd.func43, Tryd.ntmps43
    go_wp2_with fail
    refine HR.out.mono ?_
    rintro e w1 ⟨rfl, rfl⟩
    go_wp2_with fail
    go_ret
    exact ⟨rfl, rfl⟩
end Go.Proofs.YthlnoaalhojphaaDoor
