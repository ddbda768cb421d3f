/- A record's bytes, over lists. No program. -/
import Derived.Test.YtebickoieipjpaaRecBase
namespace Go.Gi
def txB (s : List UInt8) : List UInt8 := putL 2 s.length ++ s
def keyB (r : RecR) : List UInt8 := putL 2 r.index.toNat ++ txB r.key ++ putL 4 r.rpage.toNat ++ putL 2 r.rslot.toNat ++ [if r.live then 1 else 0]
def chB (r : RecR) : List UInt8 := putL 4 r.page.toNat ++ putL 1 r.ok.toNat ++ putL 2 r.oa.toNat ++ txB r.os ++ txB r.oo ++ putL 1 r.undo.toNat ++ (if r.undo = 2 then keyB r else [])
def stB (t : StR) : List UInt8 := putL 4 t.tx.toNat ++ putL 1 t.st.toNat ++ putL 8 t.last.toNat ++ putL 8 t.next.toNat
def diB (t : DiR) : List UInt8 := putL 4 t.page.toNat ++ putL 8 t.lsn.toNat
def stsB (l : List StR) : List UInt8 := (l.map stB).flatten
def disB (l : List DiR) : List UInt8 := (l.map diB).flatten
def tabB (r : RecR) : List UInt8 := putL 2 r.txs.length ++ stsB r.txs ++ putL 2 r.dirty.length ++ disB r.dirty
def headB (r : RecR) : List UInt8 := putL 1 r.kind.toNat ++ putL 4 r.tx.toNat ++ putL 8 r.prev.toNat
def recB (r : RecR) : List UInt8 := headB r ++ (if isNext r.kind then putL 8 r.next.toNat else []) ++ (if isChange r.kind then chB r else []) ++ (if r.kind = 8 then tabB r else [])
/-- The bounds of a record's numbers, by their types. -/
structure RecW (r : RecR) : Prop where
  prev : 0 ≤ r.prev ∧ r.prev ≤ 18446744073709551615
  next : 0 ≤ r.next ∧ r.next ≤ 18446744073709551615
  page : 0 ≤ r.page ∧ r.page ≤ 4294967295
  rpage : 0 ≤ r.rpage ∧ r.rpage ≤ 4294967295
  sts : ∀ t ∈ r.txs, (0 ≤ t.last ∧ t.last ≤ 18446744073709551615) ∧ 0 ≤ t.next ∧ t.next ≤ 18446744073709551615
  dis : ∀ t ∈ r.dirty, (0 ≤ t.page ∧ t.page ≤ 4294967295) ∧ 0 ≤ t.lsn ∧ t.lsn ≤ 18446744073709551615
theorem c8_1 : clamp8 1 = 1 := rfl
theorem c8_2 : clamp8 2 = 2 := rfl
theorem c8_4 : clamp8 4 = 4 := rfl
theorem c8_8 : clamp8 8 = 8 := rfl
theorem stB_len (t : StR) : (stB t).length = 21 := by simp [stB, putL_length]
theorem diB_len (t : DiR) : (diB t).length = 12 := by simp [diB, putL_length]
theorem stsB_len (l : List StR) : (stsB l).length = 21 * l.length := by
  induction l with
  | nil => rfl
  | cons a l ih => simp [stsB, stB_len] at ih ⊢; omega
theorem disB_len (l : List DiR) : (disB l).length = 12 * l.length := by
  induction l with
  | nil => rfl
  | cons a l ih => simp [disB, diB_len] at ih ⊢; omega
theorem stsB_take (l : List StR) (k : Nat) (h : k < l.length) : stsB (l.take (k + 1)) = stsB (l.take k) ++ stB l[k] := by
  unfold stsB
  rw [List.take_succ_eq_append_getElem h, List.map_append, List.flatten_append]
  simp
theorem disB_take (l : List DiR) (k : Nat) (h : k < l.length) : disB (l.take (k + 1)) = disB (l.take k) ++ diB l[k] := by
  unfold disB
  rw [List.take_succ_eq_append_getElem h, List.map_append, List.flatten_append]
  simp
theorem chB_len (r : RecR) (h1 : r.os.length ≤ 512) (h2 : r.oo.length ≤ 512) (h3 : r.key.length ≤ 64) : (chB r).length ≤ 2000 := by
  unfold chB keyB txB
  split <;> simp [putL_length] <;> omega
def sel (b : Bool) (l : List UInt8) : List UInt8 := if b then l else []
theorem sel_len (b : Bool) (l : List UInt8) : (sel b l).length ≤ l.length := by unfold sel; split <;> simp
theorem sel_true (l : List UInt8) : sel true l = l := rfl
theorem sel_false (l : List UInt8) : sel false l = [] := rfl
theorem sel_eq {b : Bool} {p : Prop} [Decidable p] (h : Says b p) (l : List UInt8) : sel b l = if p then l else [] := by
  cases b
  · rw [if_neg (h.not rfl)]; rfl
  · rw [if_pos (h.1 rfl)]; rfl
end Go.Gi
