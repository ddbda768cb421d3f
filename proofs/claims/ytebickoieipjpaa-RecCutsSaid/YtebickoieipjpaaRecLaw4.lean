/- Records that are cut short are none. No program. -/
import Derived.Test.YtebickoieipjpaaRecLaw3
namespace Go.Gi
set_option linter.unusedSimpArgs false
set_option linter.unusedVariables false
theorem rn1 (L : List UInt8) (a : Nat) (e : Int) : (rNum L a e 1).1 < 256 := rNum_lt L a e 1
theorem rn2 (L : List UInt8) (a : Nat) (e : Int) : (rNum L a e 2).1 < 65536 := rNum_lt L a e 2
theorem rn4 (L : List UInt8) (a : Nat) (e : Int) : (rNum L a e 4).1 < 4294967296 := rNum_lt L a e 4
theorem rn8 (L : List UInt8) (a : Nat) (e : Int) : (rNum L a e 8).1 < 18446744073709551616 := rNum_lt L a e 8
theorem rn4i (L : List UInt8) (a : Nat) (e : Int) : 0 ≤ ((rNum L a e 4).1 : Int) ∧ ((rNum L a e 4).1 : Int) ≤ 4294967295 := by have := rn4 L a e; omega
theorem rn8i (L : List UInt8) (a : Nat) (e : Int) : 0 ≤ ((rNum L a e 8).1 : Int) ∧ ((rNum L a e 8).1 : Int) ≤ 18446744073709551615 := by have := rn8 L a e; omega
theorem rdMany_all {α : Type} {f : Nat → Int → α × Nat × Int} {P : α → Prop} (hf : ∀ a e, P (f a e).1) : ∀ n acc a e, (∀ x ∈ acc, P x) → ∀ x ∈ (rdMany f n acc a e).1, P x
  | 0, acc, a, e, h => h
  | n + 1, acc, a, e, h => by
    unfold rdMany
    split
    · refine rdMany_all hf n _ _ _ (fun x hx => ?_)
      rcases List.mem_append.1 hx with h1 | h1
      · exact h x h1
      · rw [List.mem_singleton.1 h1]; exact hf a e
    · exact h
theorem rd_wf (L : List UInt8) : RecW (rdRec L).1 := by
  unfold rdRec mkRec
  constructor
  · simp only []
    have := rn8 L (rNum L (rNum L 0 0 1).2.1 (rNum L 0 0 1).2.2 4).2.1 (rNum L (rNum L 0 0 1).2.1 (rNum L 0 0 1).2.2 4).2.2
    omega
  · simp only []
    unfold rdNext
    split
    · have := fun a e => rn8 L a e
      constructor
      · omega
      · have := this (rNum L (rNum L (rNum L 0 0 1).2.1 (rNum L 0 0 1).2.2 4).2.1 (rNum L (rNum L 0 0 1).2.1 (rNum L 0 0 1).2.2 4).2.2 8).2.1 (rNum L (rNum L (rNum L 0 0 1).2.1 (rNum L 0 0 1).2.2 4).2.1 (rNum L (rNum L 0 0 1).2.1 (rNum L 0 0 1).2.2 4).2.2 8).2.2
        omega
    · simp
  · simp only []
    generalize (rdNext L (↑(rNum L 0 0 1).1) (rNum L (rNum L (rNum L 0 0 1).2.1 (rNum L 0 0 1).2.2 4).2.1 (rNum L (rNum L 0 0 1).2.1 (rNum L 0 0 1).2.2 4).2.2 8).2.1 (rNum L (rNum L (rNum L 0 0 1).2.1 (rNum L 0 0 1).2.2 4).2.1 (rNum L (rNum L 0 0 1).2.1 (rNum L 0 0 1).2.2 4).2.2 8).2.2) = q
    unfold rdChIf
    split
    · unfold rdCh
      simp only []
      have := rn4 L q.2.1 q.2.2
      split <;> (simp only []; omega)
    · simp [zCh]
  · simp only []
    generalize (rdNext L (↑(rNum L 0 0 1).1) (rNum L (rNum L (rNum L 0 0 1).2.1 (rNum L 0 0 1).2.2 4).2.1 (rNum L (rNum L 0 0 1).2.1 (rNum L 0 0 1).2.2 4).2.2 8).2.1 (rNum L (rNum L (rNum L 0 0 1).2.1 (rNum L 0 0 1).2.2 4).2.1 (rNum L (rNum L 0 0 1).2.1 (rNum L 0 0 1).2.2 4).2.2 8).2.2) = q
    unfold rdChIf
    split
    · unfold rdCh
      simp only []
      split
      · simp only []
        exact rn4i _ _ _
      · simp
    · simp [zCh]
  · simp only []
    unfold rdTabIf
    split
    · unfold rdTab
      simp only []
      refine rdMany_all (fun a e => ?_) _ _ _ _ (fun x hx => absurd hx (by simp))
      unfold rdSt
      simp only []
      exact ⟨rn8i _ _ _, rn8i _ _ _⟩
    · intro t ht; simp at ht
  · simp only []
    unfold rdTabIf
    split
    · unfold rdTab
      simp only []
      refine rdMany_all (fun a e => ?_) _ _ _ _ (fun x hx => absurd hx (by simp))
      unfold rdDi
      simp only []
      exact ⟨rn4i _ _ _, rn8i _ _ _⟩
    · intro t ht; simp at ht
theorem dec_cut (r : RecR) (hr : recOk r) (hw : RecW r) (k : Nat) (hk : k < (recB r).length) : ¬ decOk ((recB r).take k) := by
  intro h
  have h1 := sRec h
  have h2 := cRec _ h.2 (rd_wf ((recB r).take k)) ((recB r).drop k)
  rw [h1, List.take_append_drop] at h2
  have h3 := cRec r hr hw []
  rw [List.append_nil, h2] at h3
  injection h3 with _ h3
  injection h3 with h3 _
  rw [List.length_take] at h3
  omega
end Go.Gi
