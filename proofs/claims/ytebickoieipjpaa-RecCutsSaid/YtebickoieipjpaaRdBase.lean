/- What a reader of bytes answers, over lists; the reader's block. No program. -/
import Derived.Test.YtebickoieipjpaaBase
import Derived.Deep.OwnRows
namespace Go.Gi
open Go.RowKit
set_option maxRecDepth 20000

/-- The next n bytes: behind them the place and the error. -/
def rTake (l : List UInt8) (a : Nat) (e : Int) (n : Int) : List UInt8 × Nat × Int :=
  if e ≠ 0 then ([], a, e) else if n < 0 then ([], a, 1) else if (l.length : Int) - a < n then ([], a, 4) else ((l.drop a).take n.toNat, a + n.toNat, 0)
def rNum (l : List UInt8) (a : Nat) (e : Int) (long : Int) : Nat × Nat × Int :=
  if e ≠ 0 then (0, a, e) else if long < 0 ∨ 8 < long then (0, a, 1) else if (l.length : Int) - a < long then (0, a, 4) else (numL ((l.drop a).take long.toNat), a + long.toNat, 0)
def rText (l : List UInt8) (a : Nat) (e : Int) (most : Int) : List UInt8 × Nat × Int :=
  if e ≠ 0 then ([], a, e) else if (l.length : Int) - a < 2 then ([], a, 4)
  else if most < (numL ((l.drop a).take 2) : Nat) then ([], a, 5)
  else if (l.length : Int) - (a + 2 : Nat) < (numL ((l.drop a).take 2) : Nat) then ([], a, 4)
  else ((l.drop (a + 2)).take (numL ((l.drop a).take 2)), a + 2 + numL ((l.drop a).take 2), 0)
def rBool (l : List UInt8) (a : Nat) (e : Int) : Bool × Nat × Int :=
  if e ≠ 0 then (false, a, e) else if (l.length : Int) - a < 1 then (false, a, 4)
  else if 1 < numL ((l.drop a).take 1) then (false, a, 6) else (numL ((l.drop a).take 1) == 1, a + 1, 0)
def rFail (e x : Int) : Int := if e = 0 then x else e
def rEnd (l : List UInt8) (a : Nat) (e : Int) : Int := if (l.length : Int) - a > 0 then rFail e 5 else e

theorem rTake_le (l : List UInt8) (a : Nat) (e n : Int) (ha : a ≤ l.length) : (rTake l a e n).2.1 ≤ l.length := by
  unfold rTake
  split
  · exact ha
  split
  · exact ha
  split
  · exact ha
  · simp only []; omega
theorem rTake_len (l : List UInt8) (a : Nat) (e n : Int) : ((rTake l a e n).1.length : Int) ≤ max n 0 := by
  unfold rTake
  split
  · simp; omega
  split
  · simp; omega
  split
  · simp; omega
  · have := List.length_take_le n.toNat (l.drop a)
    simp only []
    omega
theorem rNum_take (l : List UInt8) (a : Nat) (e long : Int) (h : e ≠ 0 ∨ 0 ≤ long ∧ long ≤ 8) : rNum l a e long = (numL (rTake l a e long).1, (rTake l a e long).2.1, (rTake l a e long).2.2) := by
  unfold rNum rTake
  by_cases he : e = 0
  · subst he
    have hl : 0 ≤ long ∧ long ≤ 8 := h.resolve_left (by simp)
    have a1 : ¬ (long < 0 ∨ 8 < long) := by omega
    have a2 : ¬ long < 0 := by omega
    simp only [ne_eq, not_true_eq_false, if_false, if_neg a1, if_neg a2]
    split <;> rfl
  · rw [if_pos he, if_pos he]; rfl
theorem rNum_bad (l : List UInt8) (a : Nat) (long : Int) (h : long < 0 ∨ 8 < long) : rNum l a 0 long = (0, a, 1) := by
  unfold rNum
  rw [if_neg (by simp), if_pos h]
theorem rNum_le (l : List UInt8) (a : Nat) (e long : Int) (ha : a ≤ l.length) : (rNum l a e long).2.1 ≤ l.length := by
  unfold rNum
  split
  · exact ha
  split
  · exact ha
  split
  · exact ha
  · simp only []; omega
/-- A reader's block. -/
def Rd (w : World) (T g : Nat) (s : ByteArray) (a : Nat) (e : Int) : Prop := w.heap[g]? = some (.cells #[.string s, .int .i64 a, .int .i64 e] T (0, 0))
section
variable {w w' : World} {T g : Nat} {s : ByteArray} {a : Nat} {e : Int}
theorem Rd.lt (h : Rd w T g s a e) : g < w.heap.size := by
  rcases Nat.lt_or_ge g w.heap.size with hlt | hge
  · exact hlt
  · unfold Rd at h; rw [Array.getElem?_eq_none hge] at h; cases h
theorem Rd.c0 (h : Rd w T g s a e) : w.cell? ⟨g, 0, none⟩ = some (.string s) := by unfold Rd at h; simp [World.cell?, h]
theorem Rd.c1 (h : Rd w T g s a e) : w.cell? ⟨g, 1, none⟩ = some (.int .i64 a) := by unfold Rd at h; simp [World.cell?, h]
theorem Rd.c2 (h : Rd w T g s a e) : w.cell? ⟨g, 2, none⟩ = some (.int .i64 e) := by unfold Rd at h; simp [World.cell?, h]
theorem Rd.f (h : Rd w T g s a e) (i : Nat) : w.frozen? ⟨g, i, none⟩ = false := by unfold Rd at h; simp [World.frozen?, h]
theorem Rd.set1 (h : Rd w T g s a e) (a' : Nat) : Rd (w.setCell ⟨g, 1, none⟩ (.int .i64 a')) T g s a' e := by
  unfold Rd at h ⊢; simp [World.setCell, Array.getElem?_modify, h]
theorem Rd.set2 (h : Rd w T g s a e) (e' : Int) : Rd (w.setCell ⟨g, 2, none⟩ (.int .i64 e')) T g s a e' := by
  unfold Rd at h ⊢; simp [World.setCell, Array.getElem?_modify, h]
theorem Rd.drewN (h : Rd w T g s a e) (n : Nat) : Rd (w.drewN n) T g s a e := h
theorem Rd.drew (h : Rd w T g s a e) : Rd w.drew T g s a e := h
theorem Rd.alloc (h : Rd w T g s a e) (o : Obj) : Rd (w.alloc o) T g s a e := (Below.heap_alloc w o g h.lt).trans h
theorem Rd.grown {row : Option Nat} (h : Rd w T g s a e) (hb : w.grownBy w' row) (hg : some g ≠ row) : Rd w' T g s a e := (hb.block g h.lt hg).trans h
theorem Rd.below {B : Nat} (h : Rd w T g s a e) (hb : Below B w w') (hg : g < B) : Rd w' T g s a e := (hb.block g hg).trans h
theorem Rd.step (h : Rd w T g s a e) (hb : Below w.heap.size w w') : Rd w' T g s a e := h.below hb h.lt
end
section
variable {a w w' : World} {g : Nat}
theorem gset (h : a.grownBy w (some g)) (i : Nat) (u : Value) : a.grownBy (w.setCell ⟨g, i, none⟩ u) (some g) :=
  ⟨h.os, h.tape, h.output, by simpa [World.setCell] using h.size, fun k hk hne => (Below.heap_setCell w ⟨g, i, none⟩ u k (by rintro rfl; exact hne rfl)).trans (h.block k hk hne)⟩
theorem gdrewN {row : Option Nat} (h : a.grownBy w row) (n : Nat) : a.grownBy (w.drewN n) row := ⟨h.os, h.tape, h.output, h.size, h.block⟩
theorem gdrew {row : Option Nat} (h : a.grownBy w row) : a.grownBy w.drew row := ⟨h.os, h.tape, h.output, h.size, h.block⟩
theorem galloc {row : Option Nat} (h : a.grownBy w row) (o : Obj) : a.grownBy (w.alloc o) row :=
  ⟨h.os, h.tape, h.output, Nat.le_trans h.size (by simp), fun i hi hne => (Below.heap_alloc w o i (Nat.lt_of_lt_of_le hi h.size)).trans (h.block i hi hne)⟩
theorem gstep {row : Option Nat} (h : a.grownBy w row) (k : w.grownBy w' row) : a.grownBy w' row :=
  ⟨k.os.trans h.os, k.tape.trans h.tape, k.output.trans h.output, Nat.le_trans h.size k.size, fun i hi hne => (k.block i (Nat.lt_of_lt_of_le hi h.size) hne).trans (h.block i hi hne)⟩
theorem gbelow {row : Option Nat} (h : a.grownBy w row) (k : Below w.heap.size w w') : a.grownBy w' row :=
  ⟨k.os.trans h.os, k.tape.trans h.tape, k.output.trans h.output, Nat.le_trans h.size k.size, fun i hi hne => (k.block i (Nat.lt_of_lt_of_le hi h.size)).trans (h.block i hi hne)⟩
/-- A block of the call's own may be written. -/
theorem bgrown {w a b : World} {row : Option Nat} (h : Below w.heap.size w a) (hg : a.grownBy b row) (hr : ∀ k, row = some k → w.heap.size ≤ k) : Below w.heap.size w b := h.grown hg h.size hr
end
end Go.Gi
