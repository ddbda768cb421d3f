/- What the bound of an '..UptoSaid' gives. -/
import Derived.Test.YtjgahidfhagafaaRows
namespace Go.Proofs.Ytjgahidfhagafaa
variable {H : Type}
theorem bulk_le {l : List (DataW H)} (hk : Rows.uptoSmall H l = true) : Rows.uptoBulkAll l ≤ 1048576 := of_decide_eq_true hk
theorem bulk_one (d : DataW H) : 1 ≤ Rows.uptoBulk d := by
  cases d with
  | lit l => cases l <;> simp [Rows.uptoBulk]
  | nil => simp [Rows.uptoBulk]
  | ptr d => simp [Rows.uptoBulk]
  | slice elems spare => simp [Rows.uptoBulk]
  | agg parts => simp [Rows.uptoBulk]
  | iface t d => simp [Rows.uptoBulk]
  | map entries => simp [Rows.uptoBulk]
  | held h => simp [Rows.uptoBulk]
/-- A list of costs, each under k times its element's bulk. -/
theorem cost_bulk {α : Type} (f : α → Nat) (k : Nat) : ∀ (ds : List (DataW H)) (l : List α), ds.length = l.length → (∀ i (h1 : i < ds.length) (h2 : i < l.length), f (l[i]'h2) ≤ k * Rows.uptoBulk (ds[i]'h1)) → (l.map f).sum ≤ k * Rows.uptoBulkAll ds
  | [], [], _, _ => by simp
  | d :: ds, a :: l, h, hi => by
    have h0 := hi 0 (by simp) (by simp)
    have h1 := cost_bulk f k ds l (by simpa using h) (fun i h1 h2 => by
      have := hi (i + 1) (by simpa using h1) (by simpa using h2)
      simpa using this)
    simp only [List.getElem_cons_zero] at h0
    simp only [List.map_cons, List.sum_cons, Rows.uptoBulkAll, Nat.mul_add]
    omega
  | [], _ :: _, h, _ => by simp at h
  | _ :: _, [], h, _ => by simp at h
end Go.Proofs.Ytjgahidfhagafaa
