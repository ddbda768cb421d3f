/- A record, decoded: over lists. No program. -/
import Derived.Test.YtebickoieipjpaaRecRead
namespace Go.Gi
open Go.RowKit
def rdSt (L : List UInt8) (a : Nat) (e : Int) : StR × Nat × Int :=
  let q1 := rNum L a e 4
  let q2 := rNum L q1.2.1 q1.2.2 1
  let q3 := rNum L q2.2.1 q2.2.2 8
  let q4 := rNum L q3.2.1 q3.2.2 8
  (⟨q1.1, q2.1, q3.1, q4.1⟩, q4.2.1, q4.2.2)
def rdDi (L : List UInt8) (a : Nat) (e : Int) : DiR × Nat × Int :=
  let q1 := rNum L a e 4
  let q2 := rNum L q1.2.1 q1.2.2 8
  (⟨q1.1, q2.1⟩, q2.2.1, q2.2.2)
def rdMany {α : Type} (f : Nat → Int → α × Nat × Int) : Nat → List α → Nat → Int → List α × Nat × Int
  | 0, acc, a, e => (acc, a, e)
  | n + 1, acc, a, e => if e = 0 then rdMany f n (acc ++ [(f a e).1]) (f a e).2.1 (f a e).2.2 else (acc, a, e)
structure TabR where
  txs : List StR
  dirty : List DiR
def rdTab (L : List UInt8) (a : Nat) (e : Int) : TabR × Nat × Int :=
  let q1 := rNum L a e 2
  let q2 := rdMany (rdSt L) q1.1 [] q1.2.1 q1.2.2
  let q3 := rNum L q2.2.1 q2.2.2 2
  let q4 := rdMany (rdDi L) q3.1 [] q3.2.1 q3.2.2
  (⟨q2.1, q4.1⟩, q4.2.1, q4.2.2)
def zCh : ChR := ⟨0, 0, 0, [], [], 0, 0, [], 0, 0, false⟩
def mkRec (kind tx prev next : Int) (c : ChR) (t : TabR) : RecR := ⟨kind, tx, prev, next, c.page, c.ok, c.oa, c.os, c.oo, c.undo, c.index, c.key, c.rpage, c.rslot, c.live, t.txs, t.dirty⟩
def rdNext (L : List UInt8) (kind : Int) (a : Nat) (e : Int) : Nat × Nat × Int := if isNext kind then rNum L a e 8 else (0, a, e)
def rdChIf (L : List UInt8) (kind : Int) (a : Nat) (e : Int) : ChR × Nat × Int := if isChange kind then rdCh L a e else (zCh, a, e)
def rdTabIf (L : List UInt8) (kind : Int) (a : Nat) (e : Int) : TabR × Nat × Int := if kind = 8 then rdTab L a e else (⟨[], []⟩, a, e)
def rdRec (L : List UInt8) : RecR × Nat × Int :=
  let q1 := rNum L 0 0 1
  let q2 := rNum L q1.2.1 q1.2.2 4
  let q3 := rNum L q2.2.1 q2.2.2 8
  let q4 := rdNext L q1.1 q3.2.1 q3.2.2
  let q5 := rdChIf L q1.1 q4.2.1 q4.2.2
  let q6 := rdTabIf L q1.1 q5.2.1 q5.2.2
  (mkRec q1.1 q2.1 q3.1 q4.1 q5.1 q6.1, q6.2.1, q6.2.2)
/-- Are the bytes a record? -/
def decOk (L : List UInt8) : Prop := rEnd L (rdRec L).2.1 (rdRec L).2.2 = 0 ∧ recOk (rdRec L).1
theorem rdMany_len {α : Type} (f : Nat → Int → α × Nat × Int) : ∀ n acc a e, (rdMany f n acc a e).1.length ≤ acc.length + n
  | 0, acc, a, e => by simp [rdMany]
  | n + 1, acc, a, e => by
    unfold rdMany
    split
    · have := rdMany_len f n (acc ++ [(f a e).1]) (f a e).2.1 (f a e).2.2
      rw [List.length_append] at this
      simp only [List.length_cons, List.length_nil] at this
      omega
    · simp only []; omega
theorem rdMany_stop {α : Type} {f : Nat → Int → α × Nat × Int} {k : Nat} {acc ts : List α} {a b : Nat} {e e' : Int} (h : rdMany f k acc a e = (ts, b, e')) (hx : ¬ (0 < k ∧ e = 0)) : ts = acc ∧ b = a ∧ e' = e := by
  cases k with
  | zero => unfold rdMany at h; injection h with h1 h2; injection h2 with h2 h3; exact ⟨h1.symm, h2.symm, h3.symm⟩
  | succ k =>
    unfold rdMany at h
    rw [if_neg (fun he => hx ⟨Nat.succ_pos k, he⟩)] at h
    injection h with h1 h2; injection h2 with h2 h3; exact ⟨h1.symm, h2.symm, h3.symm⟩
theorem rdMany_go {α : Type} {f : Nat → Int → α × Nat × Int} {k : Nat} {acc ts : List α} {a b : Nat} {e' : Int} {x : α} {a1 : Nat} {e1 : Int} (h : rdMany f (k + 1) acc a 0 = (ts, b, e')) (hf : f a 0 = (x, a1, e1)) : rdMany f k (acc ++ [x]) a1 e1 = (ts, b, e') := by
  unfold rdMany at h
  rw [if_pos rfl, hf] at h
  exact h
theorem flat_snoc {α : Type} (enc : α → List Value) (acc : List α) (x : α) : ((acc ++ [x]).map enc).flatten = (acc.map enc).flatten ++ enc x := by simp
theorem tab_len {L : List UInt8} {k : Int} {a : Nat} {e : Int} {t : TabR} {a' : Nat} {e' : Int} (h : rdTabIf L k a e = (t, a', e')) : t.txs.length ≤ 65535 ∧ t.dirty.length ≤ 65535 := by
  unfold rdTabIf at h
  split at h
  · unfold rdTab at h
    simp only at h
    injection h with h1 h2
    subst h1
    have x1 := rNum_lt L a e 2
    have x2 : ∀ a e, (rNum L a e 2).1 < 65536 := fun a e => rNum_lt L a e 2
    constructor
    · refine Nat.le_trans (rdMany_len _ _ _ _ _) ?_
      have := x2 a e
      simp only [List.length_nil]
      omega
    · refine Nat.le_trans (rdMany_len _ _ _ _ _) ?_
      have := x2 (rdMany (rdSt L) (rNum L a e 2).1 [] (rNum L a e 2).2.1 (rNum L a e 2).2.2).2.1 (rdMany (rdSt L) (rNum L a e 2).1 [] (rNum L a e 2).2.1 (rNum L a e 2).2.2).2.2
      simp only [List.length_nil]
      omega
  · injection h with h1 h2
    subst h1
    simp
end Go.Gi
