/- A record's reading, over lists. No program. -/
import Derived.Test.YtebickoieipjpaaRecBytes
namespace Go.Gi
open Go.RowKit
structure ChR where
  page : Int
  ok : Int
  oa : Int
  os : List UInt8
  oo : List UInt8
  undo : Int
  index : Int
  key : List UInt8
  rpage : Int
  rslot : Int
  live : Bool
/-- A change, read. -/
def rdCh (L : List UInt8) (a : Nat) (e : Int) : ChR × Nat × Int :=
  let q1 := rNum L a e 4
  let q2 := rNum L q1.2.1 q1.2.2 1
  let q3 := rNum L q2.2.1 q2.2.2 2
  let q4 := rText L q3.2.1 q3.2.2 512
  let q5 := rText L q4.2.1 q4.2.2 512
  let q6 := rNum L q5.2.1 q5.2.2 1
  if (q6.1 : Int) = 2 then
    let q7 := rNum L q6.2.1 q6.2.2 2
    let q8 := rText L q7.2.1 q7.2.2 64
    let q9 := rNum L q8.2.1 q8.2.2 4
    let q10 := rNum L q9.2.1 q9.2.2 2
    let q11 := rBool L q10.2.1 q10.2.2
    (⟨q1.1, q2.1, q3.1, q4.1, q5.1, q6.1, q7.1, q8.1, q9.1, q10.1, q11.1⟩, q11.2.1, q11.2.2)
  else (⟨q1.1, q2.1, q3.1, q4.1, q5.1, q6.1, 0, [], 0, 0, false⟩, q6.2.1, q6.2.2)
theorem numL_take (L : List UInt8) (n : Nat) : numL (L.take n) < 256 ^ n :=
  Nat.lt_of_lt_of_le (numL_lt _) (Nat.pow_le_pow_right (by decide) (List.length_take_le _ _))
theorem rNum_lt (L : List UInt8) (a : Nat) (e : Int) (n : Nat) : (rNum L a e n).1 < 256 ^ n := by
  have h0 : 0 < 256 ^ n := Nat.pow_pos (by decide)
  unfold rNum
  split
  · exact h0
  split
  · exact h0
  split
  · exact h0
  · simp only [Int.toNat_natCast]
    exact numL_take _ _
theorem rText_le (l : List UInt8) (a : Nat) (e most : Int) (ha : a ≤ l.length) : (rText l a e most).2.1 ≤ l.length := by
  unfold rText
  split
  · exact ha
  split
  · exact ha
  split
  · exact ha
  split
  · exact ha
  · simp only []; omega
theorem rBool_le (l : List UInt8) (a : Nat) (e : Int) (ha : a ≤ l.length) : (rBool l a e).2.1 ≤ l.length := by
  unfold rBool
  split
  · exact ha
  split
  · exact ha
  split
  · exact ha
  · simp only []; omega
/-- A reader whose place lies in its bytes. -/
structure RS (w : World) (T g : Nat) (L : List UInt8) (a : Nat) (e : Int) : Prop where
  rd : Rd w T g (bs L) a e
  at_ : a ≤ L.length
  long : (bs L).size ≤ maxLen
theorem RS.far {w : World} {T g b o : Nat} {L : List UInt8} {a : Nat} {e : Int} {u : Value} (h : RS w T g L a e) (hne : b ≠ g) : RS (w.setCell ⟨b, o, none⟩ u) T g L a e :=
  ⟨(Below.heap_setCell w ⟨b, o, none⟩ u g (fun h => hne h.symm)).trans h.rd, h.at_, h.long⟩
theorem RS.step {w w' : World} {T g : Nat} {L : List UInt8} {a : Nat} {e : Int} (h : RS w T g L a e) (hb : Below w.heap.size w w') : RS w' T g L a e := ⟨h.rd.step hb, h.at_, h.long⟩
theorem bsetB {B : Nat} {w a : World} {b o : Nat} (h : Below B w a) (hp : B ≤ b) (u : Value) : Below B w (a.setCell ⟨b, o, none⟩ u) := h.setCell hp u
theorem bgrownB {B : Nat} {w a b : World} {g : Nat} (h : Below B w a) (hg : a.grownBy b (some g)) (hB : B ≤ w.heap.size) (hr : B ≤ g) : Below B w b :=
  h.grown hg (Nat.le_trans hB h.size) (fun k hk => by injection hk; omega)
end Go.Gi
