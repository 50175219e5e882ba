import Derived.Test.YtdadknejmnnkiaaGreatProg
import Derived.Test.YtdadknejmnnkiaaGreatRow
import Derived.Deep.QuietTactic
import Derived.BigQuiet
namespace Go.Proofs.YtdadknejmnnkiaaGreat
open Go Go.RowKit
set_option maxRecDepth 100000

/-! fix.Round, fix.Clip -/
def roundI (n b : Int) : Int × Int :=
  if (n < -4611686018427387904 ∨ n > 4611686018427387904) ∨ b < 0 ∨ b > 62 then (0, 2)
  else if b = 0 then (n, 0) else (wrap64 (n / 2 ^ b.toNat + Go.bits .and .i64 (n / 2 ^ (b.toNat - 1)) 1), 0)

theorem round_any (n b : Int) (w : World) :
    Calls Tryz.prog 36 #[.int .i64 n, .int .i64 b] w fun e w' => e = .returned (.tuple #[.int .i64 (roundI n b).1, .int .i64 (roundI n b).2]) ∧ Only (fun _ => False) w w' := by
  by_cases h1 : (n < -4611686018427387904 ∨ n > 4611686018427387904) ∨ b < 0 ∨ b > 62
  · have hr : roundI n b = (0, 2) := by unfold roundI; rw [if_pos h1]
    rw [hr]
    clear hr
    go_enter Tryz.func36, Tryz.ntmps36
    by_cases a1 : n < -4611686018427387904
    · go_wp2
      go_ret2
      exact ⟨rfl, Only.refl _ _⟩
    · by_cases a2 : n > 4611686018427387904
      · go_wp2
        go_ret2
        exact ⟨rfl, Only.refl _ _⟩
      · by_cases a3 : b < 0
        · go_wp2
          go_ret2
          exact ⟨rfl, Only.refl _ _⟩
        · have a4 : b > 62 := by omega
          go_wp2
          go_ret2
          exact ⟨rfl, Only.refl _ _⟩
  · have a1 : ¬ n < -4611686018427387904 := by omega
    have a2 : ¬ n > 4611686018427387904 := by omega
    have a3 : ¬ b < 0 := by omega
    have a4 : ¬ b > 62 := by omega
    by_cases hb : b = 0
    · have hr : roundI n b = (n, 0) := by unfold roundI; rw [if_neg h1, if_pos hb]
      rw [hr]
      subst hb
      clear hr h1
      go_enter Tryz.func36, Tryz.ntmps36
      go_wp2
      go_ret2
      exact ⟨rfl, Only.refl _ _⟩
    · have hr : roundI n b = (wrap64 (n / 2 ^ b.toNat + Go.bits .and .i64 (n / 2 ^ (b.toNat - 1)) 1), 0) := by unfold roundI; rw [if_neg h1, if_neg hb]
      rw [hr]
      have hw : wrap64 (b - 1) = b - 1 := by unfold wrap64; omega
      have h0 : 0 ≤ b := by omega
      have h0' : 0 ≤ b - 1 := by omega
      clear hr h1
      go_enter Tryz.func36, Tryz.ntmps36
      go_wp2
      go_quiet (fail)
      go_wp2
      go_ret2
      exact ⟨rfl, (Only.refl _ _).drewN _⟩
end Go.Proofs.YtdadknejmnnkiaaGreat
