/- Words for rows: a slice of structs, opened. No program. -/
import Derived.Test.YtebickoieipjpaaRowW
import Derived.Deep.Slices
namespace Go.GiRow
open Go.ChangeShapes Go.WideShapes Go.ChangeAt Go.RowKit
set_option maxRecDepth 20000
variable {H : Type} {enc : TypeId × Value → H} {P : Program}

/-- A slice whose elements are n cells each reads as a list. -/
def RdRows {α : Type} (encC : α → List Value) (n : Nat) (W : World) (A : Option Addr) (l : List α) : Prop :=
  ∀ k (h : k < l.length), ∃ b off, A = some ⟨b, off, none⟩ ∧ b < W.heap.size ∧ ∀ j u, (encC (l[k]'h))[j]? = some u → W.cell? ⟨b, off + k * n + j, none⟩ = some u

theorem add_add (b off i j : Nat) : ((⟨b, off, none⟩ : Addr).add i).add j = ⟨b, off + i + j, none⟩ := by
  unfold Addr.add
  by_cases hi : i = 0 <;> by_cases hj : j = 0 <;> simp [hi, hj]

theorem open_rows {α : Type} {W : World} {spare : Nat → Bool} {held : Bool} {t e : TypeId} (encC : α → List Value) (Q : DataW H → α → Prop) (n : Nat) (hn : 0 < n) (ht : P.underlying t = some (.slice e)) (hc : P.cellsOf e = n)
    (hel : ∀ fuel cs x, DataW.trod enc P W 0 spare held fuel e cs = some x → ∃ a : α, cs = encC a ∧ Q x.1 a) (hlen : ∀ a, (encC a).length = n)
    {r : Reach} {b0 : Nat} {v : Value} {d : DataW H} {p : List MemPlace} (hv : Value.okWide P W r b0 t v) (h : DataW.Trod enc P W 0 spare held t v d p) :
    ∃ (A : Option Addr) (c : Nat) (l : List α), v = .slice A l.length c ∧ l.length ≤ c ∧ RdRows encC n W A l ∧ (l = [] ∨ ∃ ds sp, d = .slice ds sp ∧ ds.length = l.length ∧ ∀ k (h1 : k < ds.length) (h2 : k < l.length), Q (ds[k]'h1) (l[k]'h2)) := by
  obtain ⟨a, len, cap, rfl⟩ := okWide_slice ht hv
  obtain ⟨fuel, hf⟩ := h
  rcases Go.Deep.open_slice ht hf with ⟨hcs, _⟩ | ⟨a, len, cap, m, fu, D, Pl, hcs, _, hl, _, hm, hx, hget⟩
  · simp [Value.cells] at hcs
    obtain ⟨rfl, rfl, rfl⟩ := hcs
    exact ⟨none, 0, [], rfl, Nat.zero_le _, fun k h => absurd h (by simp), .inl rfl⟩
  · simp [Value.cells] at hcs
    obtain ⟨rfl, rfl, rfl⟩ := hcs
    have hlm : len ≤ m := by rw [hm]; split <;> omega
    have hex : ∀ i, i < len → ∃ x : α, Q (D i) x ∧ ∀ j, j < n → W.cell? ((a.add (i * n)).add j) = (encC x)[j]? := by
      intro i hi
      obtain ⟨cs', h1, h2⟩ := hget i (by omega)
      obtain ⟨x, rfl, hq⟩ := hel _ _ _ h2
      refine ⟨x, hq, fun j hj => ?_⟩
      rw [hc] at h1
      unfold World.cells? at h1
      split at h1
      · have := mapM_some_get h1 j j (by simp [hj])
        simpa using this
      · cases h1
    obtain ⟨f, hf2⟩ : ∃ f : (i : Nat) → i < len → α, ∀ i hi, Q (D i) (f i hi) ∧ ∀ j, j < n → W.cell? ((a.add (i * n)).add j) = (encC (f i hi))[j]? :=
      ⟨fun i hi => Classical.choose (hex i hi), fun i hi => Classical.choose_spec (hex i hi)⟩
    refine ⟨some a, cap, List.ofFn (fun i : Fin len => f i.1 i.2), by simp, by simpa using hl, ?_, ?_⟩
    · intro k hk
      have hk' : k < len := by simpa using hk
      obtain ⟨_, hcell⟩ := hf2 k hk'
      have h0 := hcell 0 hn
      have hsome : ∃ u, (encC (f k hk'))[0]? = some u := ⟨_, List.getElem?_eq_getElem (by rw [hlen]; exact hn)⟩
      obtain ⟨u, hu⟩ := hsome
      rw [hu] at h0
      have hspot : a.spot = none := by
        obtain ⟨_, hc0⟩ := hf2 0 (by omega)
        have h00 := hc0 0 hn
        rw [List.getElem?_eq_getElem (by rw [hlen]; exact hn)] at h00
        rw [Nat.zero_mul] at h00
        have e : (a.add 0).add 0 = a := by unfold Addr.add; simp
        rw [e] at h00
        unfold World.cell? at h00
        cases hs : a.spot with
        | none => rfl
        | some y => simp [hs] at h00; split at h00 <;> simp_all
      obtain ⟨b, off, sp⟩ := a
      simp only at hspot
      subst hspot
      refine ⟨b, off, rfl, ?_, ?_⟩
      · have := World.block_lt_of_cell? W _ h0
        rw [add_add] at this
        exact this
      · intro j u hu
        have hj : j < n := by
          have := (List.getElem?_eq_some_iff.1 hu).1
          rw [hlen] at this
          exact this
        have := hcell j hj
        rw [add_add] at this
        rw [this]
        simpa using hu
    · right
      refine ⟨_, _, congrArg Prod.fst hx, by simp, fun k h1 h2 => ?_⟩
      have hk' : k < len := by simpa using h2
      simpa using (hf2 k hk').1
end Go.GiRow
