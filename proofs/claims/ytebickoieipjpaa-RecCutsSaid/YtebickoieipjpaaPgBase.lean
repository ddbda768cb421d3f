/- Changes and pages, over lists. No program. -/
import Derived.Test.YtebickoieipjpaaBeq
namespace Go.Gi
/-- May a change be? -/
def opOk (k a : Int) (s o : List UInt8) : Prop :=
  s.length ≤ 512 ∧ o.length ≤ 512 ∧ ((k = 1 ∧ 0 ≤ a ∧ a ≤ 255 ∧ s.length ≤ 32 ∧ o.length = 0) ∨ (k = 2 ∧ 0 ≤ a ∧ a < 64 ∧ o.length = 0) ∨ (k = 3 ∧ 0 ≤ a ∧ a < 64 ∧ s.length = 0) ∨ (k = 4 ∧ 0 ≤ a ∧ a < 64)
    ∨ (k = 5 ∧ a = 0 ∧ s.length ≤ 32 ∧ o.length ≤ 32) ∨ (k = 6 ∧ 0 ≤ a ∧ a < 512 ∧ s.length = o.length ∧ s.length ≠ 0) ∨ (k = 7 ∧ a = 0 ∧ 1 ≤ s.length ∧ s.length ≤ 33 ∧ 1 ≤ o.length ∧ o.length ≤ 33))
instance (k a : Int) (s o : List UInt8) : Decidable (opOk k a s o) := by unfold opOk; infer_instance
def opE (k a : Int) (s o : List UInt8) : Int := if opOk k a s o then 0 else 33
theorem opE_pos {k a : Int} {s o : List UInt8} (h : opOk k a s o) : 0 = opE k a s o := by unfold opE; rw [if_pos h]
theorem opE_neg {k a : Int} {s o : List UInt8} (h : ¬ opOk k a s o) : 33 = opE k a s o := by unfold opE; rw [if_neg h]
end Go.Gi
