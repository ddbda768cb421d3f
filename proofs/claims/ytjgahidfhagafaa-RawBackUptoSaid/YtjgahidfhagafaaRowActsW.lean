/- The bound, for acts. -/
import Derived.Test.YtjgahidfhagafaaRowActs
import Derived.Test.YtjgahidfhagafaaLawWrites
import Derived.Test.YtjgahidfhagafaaBulk
namespace Go.Proofs.Ytjgahidfhagafaa
open Go.ChangeShapes Go.WideShapes Go.ChangeAt Go.RowKit Go.GiRow Go.Gi
variable {H : Type}
theorem acts_cost {d : DataW H} {l : List ActR} (hk : Rows.uptoSmall H [d] = true)
    (hd : l = [] ∨ ∃ ds sp, d = .slice ds sp ∧ ds.length = l.length ∧ ∀ k (h1 : k < ds.length) (h2 : k < l.length),
      (0 ≤ (l[k]'h2).x ∧ (l[k]'h2).x ≤ 18446744073709551615) ∧ ds[k]'h1 = .agg [.lit (.int .i64 (l[k]'h2).kind), .lit (.int .i64 (l[k]'h2).n), .lit (.int .u64 (l[k]'h2).x), .lit (.string (l[k]'h2).s.data.toList)]) :
    (∀ a ∈ l, 0 ≤ a.x ∧ a.x ≤ 18446744073709551615) ∧ actsCost l ≤ 1073741824 := by
  rcases hd with rfl | ⟨ds, sp, rfl, hl, h⟩
  · exact ⟨fun _ h => absurd h (by simp), by simp [actsCost]⟩
  · refine ⟨fun a ha => ?_, ?_⟩
    · obtain ⟨k, hk2, rfl⟩ := List.getElem_of_mem ha
      exact (h k (by omega) hk2).1
    · have hb := bulk_le hk
      simp only [Rows.uptoBulkAll, Rows.uptoBulk] at hb
      have hc := cost_bulk (fun a : ActR => a.s.size + 8) 8 ds l hl (fun i h1 h2 => by
        rw [(h i h1 h2).2]
        simp only [Rows.uptoBulkAll, Rows.uptoBulk, Array.length_toList]
        have : (l[i]'h2).s.data.size = (l[i]'h2).s.size := rfl
        omega)
      unfold actsCost
      omega
end Go.Proofs.Ytjgahidfhagafaa
