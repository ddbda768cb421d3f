/- Records, over lists. No program. -/
import Derived.Test.YtebickoieipjpaaPgBase
import Derived.Test.YtebickoieipjpaaRdBase
namespace Go.Gi
structure StR where
  tx : Int
  st : Int
  last : Int
  next : Int
structure DiR where
  page : Int
  lsn : Int
structure RecR where
  kind : Int
  tx : Int
  prev : Int
  next : Int
  page : Int
  ok : Int
  oa : Int
  os : List UInt8
  oo : List UInt8
  undo : Int
  index : Int
  key : List UInt8
  rpage : Int
  rslot : Int
  live : Bool
  txs : List StR
  dirty : List DiR
def StR.cells (t : StR) : List Value := [.int .i64 t.tx, .int .i64 t.st, .int .u64 t.last, .int .u64 t.next]
def DiR.cells (t : DiR) : List Value := [.int .u32 t.page, .int .u64 t.lsn]
def RecR.cells (r : RecR) (A : Option Addr) (c : Nat) (B : Option Addr) (d : Nat) : Array Value :=
  #[.int .i64 r.kind, .int .i64 r.tx, .int .u64 r.prev, .int .u64 r.next, .int .u32 r.page, .int .i64 r.ok, .int .i64 r.oa, .string (bs r.os), .string (bs r.oo), .int .i64 r.undo, .int .i64 r.index,
    .string (bs r.key), .int .u32 r.rpage, .int .i64 r.rslot, .bool r.live, .slice A r.txs.length c, .slice B r.dirty.length d]
/-- A record as a value: its slices' headers. -/
def RecR.val (r : RecR) (A : Option Addr) (c : Nat) (B : Option Addr) (d : Nat) : Value := .agg (r.cells A c B d)
/-! May a record be? -/
def isChange (k : Int) : Prop := k = 1 ∨ k = 2
def isNext (k : Int) : Prop := k = 2 ∨ k = 3
instance (k : Int) : Decidable (isChange k) := by unfold isChange; infer_instance
instance (k : Int) : Decidable (isNext k) := by unfold isNext; infer_instance
def okHead (r : RecR) : Prop := 1 ≤ r.kind ∧ r.kind ≤ 8 ∧ 0 ≤ r.tx ∧ r.tx < 2147483648
def okUndo (r : RecR) : Prop := 0 ≤ r.undo ∧ r.undo ≤ 2
def okOp (r : RecR) : Prop :=
  if isChange r.kind then r.page ≠ 0 ∧ opOk r.ok r.oa r.os r.oo else r.page = 0 ∧ (r.ok = 0 ∧ r.oa = 0 ∧ r.os.length = 0 ∧ r.oo.length = 0) ∧ r.undo = 0
def okKey (r : RecR) : Prop :=
  if r.undo = 2 then 0 ≤ r.index ∧ r.index < 65536 ∧ r.key.length ≤ 64 ∧ 0 ≤ r.rslot ∧ r.rslot < 65536 else r.index = 0 ∧ (r.key.length = 0 ∧ r.rpage = 0 ∧ r.rslot = 0) ∧ r.live = false
def okNext (r : RecR) : Prop := (isNext r.kind ∨ r.next = 0) ∧ (r.kind = 1 ∨ r.undo = 0)
def okLong (r : RecR) : Prop := (r.kind = 8 ∨ r.txs.length = 0 ∧ r.dirty.length = 0) ∧ r.txs.length ≤ 64 ∧ r.dirty.length ≤ 256
def okSt (t : StR) : Prop := 0 ≤ t.tx ∧ t.tx < 2147483648 ∧ 1 ≤ t.st ∧ t.st ≤ 3
def recOk (r : RecR) : Prop := (((((okHead r ∧ okUndo r) ∧ okOp r) ∧ okKey r) ∧ okNext r) ∧ okLong r) ∧ ∀ t ∈ r.txs, okSt t
open Classical in
noncomputable def recE (r : RecR) : Int := if recOk r then 0 else 40
theorem recE_pos {r : RecR} (h : recOk r) : recE r = 0 := by unfold recE; rw [if_pos h]
theorem recE_neg {r : RecR} (h : ¬ recOk r) : recE r = 40 := by unfold recE; rw [if_neg h]
/-- A Boolean that says a thing. -/
def Says (b : Bool) (p : Prop) : Prop := b = true ↔ p
theorem Says.of_true {p : Prop} (h : p) : Says true p := ⟨fun _ => h, fun _ => rfl⟩
theorem Says.of_false {p : Prop} (h : ¬ p) : Says false p := ⟨fun e => (nomatch e), fun e => absurd e h⟩
theorem Says.of_dec {p q : Prop} [Decidable q] (h : q ↔ p) : Says (decide q) p := by unfold Says; rw [decide_eq_true_eq]; exact h
theorem Says.of_not {p q : Prop} [Decidable q] (h : ¬ q ↔ p) : Says (!decide q) p := by unfold Says; simp; exact h
theorem Says.of_beq {p : Prop} {x y : Int} (h : x = y ↔ p) : Says (x == y) p := by unfold Says; rw [beq_iff_eq]; exact h
theorem Says.of_bne {p : Prop} {x y : Int} (h : ¬ x = y ↔ p) : Says (x != y) p := by unfold Says; rw [bne_iff_ne]; exact h
theorem Says.not {p : Prop} {b : Bool} (h : Says b p) : b = false → ¬ p := fun e q => by rw [h.2 q] at e; cases e
def CutB (v : Value) (p : Prop) : Prop := ∃ b, v = .bool b ∧ Says b p
theorem cut_true {p : Prop} (h : p) : CutB (.bool true) p := ⟨_, rfl, .of_true h⟩
theorem cut_false {p : Prop} (h : ¬ p) : CutB (.bool false) p := ⟨_, rfl, .of_false h⟩
theorem cut_dec {p q : Prop} [Decidable q] (h : q ↔ p) : CutB (.bool (decide q)) p := ⟨_, rfl, .of_dec h⟩
theorem cut_beq {p : Prop} {x y : Int} (h : x = y ↔ p) : CutB (.bool (x == y)) p := ⟨_, rfl, .of_beq h⟩
theorem cut_bne {p : Prop} {x y : Int} (h : ¬ x = y ↔ p) : CutB (.bool (x != y)) p := ⟨_, rfl, .of_bne h⟩
/-- A Boolean's name, for a test of the walk. -/
theorem names (x y : Int) : ∃ b : Bool, (x == y) = b ∧ b = decide (x = y) := ⟨_, rfl, by rw [Bool.eq_iff_iff]; simp⟩
theorem namesN (x y : Nat) : ∃ b : Bool, ((x : Int) == (y : Int)) = b ∧ b = decide (x = y) := ⟨_, rfl, by rw [Bool.eq_iff_iff]; simp; omega⟩
theorem cut_says {p : Prop} {b : Bool} (h : b = true ↔ p) : CutB (.bool b) p := ⟨_, rfl, h⟩
theorem okOp_yes {r : RecR} (h : isChange r.kind) : okOp r ↔ (¬ r.page = 0 ∧ opOk r.ok r.oa r.os r.oo) := by unfold okOp; rw [if_pos h]
theorem okOp_no {r : RecR} (h : ¬ isChange r.kind) : okOp r ↔ (r.page = 0 ∧ (r.ok = 0 ∧ r.oa = 0 ∧ r.os.length = 0 ∧ r.oo.length = 0) ∧ r.undo = 0) := by unfold okOp; rw [if_neg h]
theorem okKey_yes {r : RecR} (h : r.undo = 2) : okKey r ↔ (0 ≤ r.index ∧ r.index < 65536 ∧ r.key.length ≤ 64 ∧ 0 ≤ r.rslot ∧ r.rslot < 65536) := by unfold okKey; rw [if_pos h]
theorem okKey_no {r : RecR} (h : ¬ r.undo = 2) : okKey r ↔ (r.index = 0 ∧ (r.key.length = 0 ∧ r.rpage = 0 ∧ r.rslot = 0) ∧ r.live = false) := by unfold okKey; rw [if_neg h]
theorem opE_zero {k a : Int} {s o : List UInt8} : opE k a s o = 0 ↔ opOk k a s o := by
  unfold opE; split <;> simp_all
theorem st_step {PP : Prop} {l : List StR} {k : Nat} {t0 : StR} {b b' : Bool} (hS : b = true ↔ PP ∧ ∀ t ∈ l.take k, okSt t) (hT : ∀ t, t ∈ l.take (k + 1) ↔ (t ∈ l.take k ∨ t = t0)) (h : b' = true ↔ (b = true ∧ okSt t0)) :
    b' = true ↔ PP ∧ ∀ t ∈ l.take (k + 1), okSt t := by
  rw [h, hS]
  constructor
  · rintro ⟨⟨hp, ha⟩, h0⟩
    exact ⟨hp, fun t ht => ((hT t).1 ht).elim (ha t) (fun e => e ▸ h0)⟩
  · rintro ⟨hp, ha⟩
    exact ⟨⟨hp, fun t ht => ha t ((hT t).2 (.inl ht))⟩, ha t0 ((hT t0).2 (.inr rfl))⟩
theorem and_key {p q q' : Prop} (hp : p) (h : q ↔ q') : (p ∧ q) ↔ q' := ⟨fun x => h.1 x.2, fun x => ⟨hp, h.2 x⟩⟩
end Go.Gi
