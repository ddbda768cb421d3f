import Derived.Test.YtebickoieipjpaaProg
import Derived.Test.YtebickoieipjpaaPgBase
namespace Go.Proofs.Ytebickoieipjpaa
open Go.RowKit Go.Gi
set_option maxRecDepth 20000
set_option linter.unusedSimpArgs false
set_option linter.unusedVariables false

attribute [local go_sem] bs_size bs_empty
theorem kindOf_any (s : List UInt8) (w : World) :
    Calls Try.prog 52 #[.string (bs s)] w fun e w' => e = .returned (.bool (decide (1 ≤ s.length ∧ s.length ≤ 33))) ∧ w' = w := by
  go_enter Try.func52, Try.ntmps52
  go_wp2
  all_goals
    go_ret
    refine ⟨ret_bool ?_, rfl⟩
    rw [Bool.eq_iff_iff]
    simp
    try omega

set_option maxHeartbeats 1600000 in
theorem pcheck_any (k a : Int) (s o : List UInt8) (w : World) :
    Calls Try.prog 37 #[.agg #[.int .i64 k, .int .i64 a, .string (bs s), .string (bs o)]] w fun e w' => e = .returned (.int .i64 (opE k a s o)) ∧ Below w.heap.size w w' := by
  go_enter Try.func37, Try.ntmps37
  go_wp2_with (first | (go_at_call 52; refine (kindOf_any _ _).mono ?_; rintro e w' ⟨rfl, rfl⟩))
  all_goals
    go_ret
    refine ⟨ret_int ?_, balloc (Below.refl _ _) _⟩
    simp only [beq_iff_eq, decide_eq_true_eq, decide_eq_false_iff_not, beq_eq_false_iff_ne, ne_eq, Bool.not_eq_true', Bool.not_eq_false', ← List.length_eq_zero_iff] at *
    first
    | exact opE_pos (by unfold opOk; omega)
    | exact opE_neg (by unfold opOk; omega)
end Go.Proofs.Ytebickoieipjpaa
