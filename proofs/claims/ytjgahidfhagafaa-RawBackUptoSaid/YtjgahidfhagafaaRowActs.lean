/- Acts that came in, opened. -/
import Derived.Test.YtjgahidfhagafaaRowS
import Derived.Test.YtjgahidfhagafaaLawReads
namespace Go.Proofs.Ytjgahidfhagafaa
open Go.ChangeShapes Go.WideShapes Go.ChangeAt Go.RowKit Go.GiRow Go.Gi
variable {H : Type} {enc : TypeId × Value → H}

theorem act_open {W : World} {spare : Nat → Bool} {held : Bool} {fuel : Nat} {cs : List Value} {x : DataW H × List MemPlace}
    (h : DataW.trod enc Try.prog W 0 spare held fuel 48 cs = some x) :
    ∃ a : ActR, cs = a.cells ∧ (0 ≤ a.x ∧ a.x ≤ 18446744073709551615) ∧ x.1 = .agg [.lit (.int .i64 a.kind), .lit (.int .i64 a.n), .lit (.int .u64 a.x), .lit (.string a.s.data.toList)] := by
  have c3 : Try.prog.cellsOf 3 = 1 := by kernel_rfl
  have c30 : Try.prog.cellsOf 30 = 1 := by kernel_rfl
  have c9 : Try.prog.cellsOf 9 = 1 := by kernel_rfl
  have c48 : Try.prog.cellsOf 48 = 4 := by kernel_rfl
  obtain ⟨xs, m, _, hx, hl, hxl, hf⟩ := DataW.trod_struct Try.underlying48 h
  rw [c48] at hl
  have f0 := hf 0 _ rfl
  have f1 := hf 1 _ rfl
  have f2 := hf 2 _ rfl
  have f3 := hf 3 _ rfl
  match cs, hl with
  | [v0, v1, v2, v3], _ =>
    match xs, hxl with
    | [x0, x1, x2, x3], _ =>
      simp [c3, c30, c9] at f0 f1 f2 f3
      obtain ⟨a0, e0, rfl, w0⟩ := DataW.trod_int Try.underlying3 f0
      obtain ⟨a1, e1, rfl, w1⟩ := DataW.trod_int Try.underlying3 f1
      obtain ⟨a2, e2, rfl, w2⟩ := DataW.trod_int Try.underlying30 f2
      obtain ⟨a3, e3, rfl, w3⟩ := DataW.trod_string Try.underlying9 f3
      simp at e0 e1 e2 e3
      subst e0 e1 e2 e3
      exact ⟨⟨a0, a1, a2, a3⟩, rfl, bounds_u64 w2, by rw [hx]; rfl⟩

theorem acts_open {W : World} {spare : Nat → Bool} {held : Bool} {r : Reach} {b0 : Nat} {v : Value} {d : DataW H} {p : List MemPlace} (hv : Value.okWide Try.prog W r b0 40 v)
    (h : DataW.Trod enc Try.prog W 0 spare held 40 v d p) :
    ∃ (A : Option Addr) (c : Nat) (l : List ActR), v = .slice A l.length c ∧ RdRows ActR.cells 4 W A l ∧ (l = [] ∨ ∃ ds sp, d = .slice ds sp ∧ ds.length = l.length ∧ ∀ k (h1 : k < ds.length) (h2 : k < l.length),
      (0 ≤ (l[k]'h2).x ∧ (l[k]'h2).x ≤ 18446744073709551615) ∧ ds[k]'h1 = .agg [.lit (.int .i64 (l[k]'h2).kind), .lit (.int .i64 (l[k]'h2).n), .lit (.int .u64 (l[k]'h2).x), .lit (.string (l[k]'h2).s.data.toList)]) := by
  obtain ⟨A, c, l, rfl, _, h1, h2⟩ := open_rows (enc := enc) (P := Try.prog) ActR.cells (fun d a => (0 ≤ a.x ∧ a.x ≤ 18446744073709551615) ∧ d = .agg [.lit (.int .i64 a.kind), .lit (.int .i64 a.n), .lit (.int .u64 a.x), .lit (.string a.s.data.toList)]) 4 (by decide) Try.underlying40 (by kernel_rfl)
    (fun _ _ _ h => act_open h) (fun a => rfl) hv h
  exact ⟨A, c, l, rfl, h1, h2⟩

theorem rdActs_of {W : World} {A : Option Addr} {l : List ActR} (h : RdRows ActR.cells 4 W A l) : RdActs W A l := by
  intro k hk
  obtain ⟨b, off, rfl, hb, hc⟩ := h k hk
  exact ⟨b, off, rfl, hb, hc 0 _ rfl, hc 1 _ rfl, hc 2 _ rfl, hc 3 _ rfl⟩
end Go.Proofs.Ytjgahidfhagafaa
