/- Words of this seat's own: bytes as lists, numbers in bytes, frames. No program. -/
import Derived.WalkKit
import Derived.KernelRfl
import Derived.Maps.AppendAt
import Derived.Lib.Hide
import Derived.Deep.QuietTactic
import Derived.BigQuiet
import Derived.Deep.RegionWith
import Derived.Deep.RegionHeld3
import Derived.StillTailTactics
namespace Go.Gi
open Go.RowKit
set_option maxRecDepth 20000

theorem max2_int (x y : Int) : Builtin.max2 (.int .i64 x) (.int .i64 y) = pure (.int .i64 (max x y)) := by
  simp only [Builtin.max2, gt_iff_lt]; congr 1; congr 1; rw [Int.max_def]; split <;> split <;> omega
theorem min2_int (x y : Int) : Builtin.min2 (.int .i64 x) (.int .i64 y) = pure (.int .i64 (min x y)) := by
  simp only [Builtin.min2]; congr 1; congr 1; rw [Int.min_def]; split <;> split <;> omega
theorem max_two (ats : Array TypeId) (ty : TypeId) (a b : Value) : Builtin.max_ ats ty #[a, b] = (Builtin.max2 a b >>= fun s => pure s) := by simp only [Builtin.max_, List.foldlM_cons, List.foldlM_nil]
theorem min_two (ats : Array TypeId) (ty : TypeId) (a b : Value) : Builtin.min_ ats ty #[a, b] = (Builtin.min2 a b >>= fun s => pure s) := by simp only [Builtin.min_, List.foldlM_cons, List.foldlM_nil]

/-- A list of bytes as a string. -/
def bs (l : List UInt8) : ByteArray := ⟨l.toArray⟩
theorem bs_nil : bs [] = ⟨#[]⟩ := rfl
theorem bs_toList (s : ByteArray) : bs s.data.toList = s := by cases s; simp [bs]
theorem bs_size (l : List UInt8) : (bs l).size = l.length := by simp [bs, ByteArray.size]
theorem toList_bs (l : List UInt8) : (bs l).data.toList = l := by simp [bs]
theorem bs_append (a b : List UInt8) : bs a ++ bs b = bs (a ++ b) := by
  apply ByteArray.ext; simp [bs]
theorem ret_int {k : IntKind} {a b : Int} (h : a = b) : Ending.returned (.int k a) = .returned (.int k b) := by rw [h]
theorem ret_str {a b : ByteArray} (h : a = b) : Ending.returned (.string a) = .returned (.string b) := by rw [h]
theorem ret_bool {a b : Bool} (h : a = b) : Ending.returned (.bool a) = .returned (.bool b) := by rw [h]
theorem wrapu64 (n : Int) : IntKind.u64.wrap n = n % 18446744073709551616 := by simp [IntKind.wrap, IntKind.bits, IntKind.signed]
theorem or_byte {q : Nat} (hq : q < 72057594037927936) (b : UInt8) : bits .or .u64 ((q : Int) * 256) ((b.toNat : Int) % 18446744073709551616) = ((b.toNat + 256 * q : Nat) : Int) := by
  have hb := b.toNat_lt
  rw [show (b.toNat : Int) % 18446744073709551616 = (b.toNat : Int) by omega, show (q : Int) * 256 = ((q * 256 : Nat) : Int) by omega, u64_or_nat _ _ (by omega) (by omega),
    nat_join 8 (q * 256) b.toNat (by simp) (by omega), Nat.add_comm, Nat.mul_comm]
/-! frames, step by step -/
theorem bcell {W w1 : World} (hb : Below W.heap.size W w1) : (∀ b o, b < W.heap.size → w1.cell? ⟨b, o, none⟩ = W.cell? ⟨b, o, none⟩) ∧ (∀ b o, b < W.heap.size → w1.frozen? ⟨b, o, none⟩ = W.frozen? ⟨b, o, none⟩) :=
  ⟨fun b o h => hb.cell (p := ⟨b, o, none⟩) h, fun b o h => hb.frozen (p := ⟨b, o, none⟩) h⟩
theorem bstep {w a b : World} (h : Below w.heap.size w a) (hb : Below a.heap.size a b) : Below w.heap.size w b := h.trans (hb.mono h.size)
theorem balloc {w a : World} (h : Below w.heap.size w a) (o : Obj) : Below w.heap.size w (a.alloc o) := h.alloc h.size o
theorem bdrewN {w a : World} (h : Below w.heap.size w a) (n : Nat) : Below w.heap.size w (a.drewN n) := ⟨h.os, h.tape, h.output, h.size, h.block⟩
theorem bdrew {w a : World} (h : Below w.heap.size w a) : Below w.heap.size w a.drew := ⟨h.os, h.tape, h.output, h.size, h.block⟩
theorem bset {w a : World} (h : Below w.heap.size w a) {p : Addr} (hp : w.heap.size ≤ p.block) (u : Value) : Below w.heap.size w (a.setCell p u) := h.setCell hp u
theorem extract_toList (s : ByteArray) (a b : Nat) : (s.extract a b).data.toList = (s.data.toList.drop a).take (b - a) := by
  simp
theorem extract_bs (s : ByteArray) (a b : Nat) : s.extract a b = bs ((s.data.toList.drop a).take (b - a)) := by
  rw [← extract_toList, bs_toList]
/-- A byte as a value. -/
def u8V (b : UInt8) : Value := .int .u8 b.toNat

theorem own_string {P : Program} {w : World} {base n : Nat} {e' src dst e : TypeId} {v : Value} {l : List UInt8} (hs : P.underlying src = some (.slice e)) (he : P.underlying e = some (.int .u8)) (hd : P.underlying dst = some .string)
    (h : w.ownsRow base e' 1 v n (l.map u8V)) : (convert src dst v).run P w = .ok (.string (bs l)) w := by
  have hl : l.length = n := by have := h.1; simp at this; exact this
  rcases h.2 with ⟨rfl, rfl⟩ | ⟨g, cap, cur, rfl, _⟩
  · obtain rfl : l = [] := List.eq_nil_of_length_eq_zero hl
    exact run_convert_bytes_nil w src e hs he 0 0 dst hd
  · have := run_convert_bytes_arg w src e hs he g 0 n cap (l.map fun b => (b.toNat : Int)) (by simpa using hl) (fun i hi => ?_) dst hd
    · rw [this]
      congr 2
      simp [strOfNums, bs, Function.comp_def]
    · have hc := h.cells (g := g) rfl i (u8V (l[i]'(by omega))) (by simp [List.getElem?_eq_getElem (show i < l.length by omega)])
      have hadd : (⟨g, 0, none⟩ : Addr).add i = ⟨g, 0 + i, none⟩ := by unfold Addr.add; split <;> simp_all
      rw [← hadd, hc]
      simp [u8V, List.getD, List.getElem?_eq_getElem (show i < l.length by omega)]

/-- A new row of one byte as a string. -/
theorem conv_lit1 {P : Program} {src dst e : TypeId} (hs : P.underlying src = some (.slice e)) (he : P.underlying e = some (.int .u8)) (hd : P.underlying dst = some .string)
    (W : World) (b : UInt8) (x : Int) (hx : x = b.toNat) : (convert src dst (.slice (some ⟨W.heap.size, 0, none⟩) 1 1)).run P (W.alloc (.cells #[.int .u8 x] e)) = .ok (.string (bs [b])) (W.alloc (.cells #[.int .u8 x] e)) := by
  subst hx
  have := World.ownsRow_lit (base := 0) (e := e) (size := 1) W #[.int .u8 b.toNat] 1 (Nat.zero_le _) (by decide) rfl
  exact own_string (l := [b]) hs he hd this

/-- A number's lowest k bytes, the lowest first. -/
def putL : Nat → Nat → List UInt8
  | 0, _ => []
  | k + 1, n => UInt8.ofNat n :: putL k (n / 256)
theorem putL_length : ∀ k n, (putL k n).length = k
  | 0, _ => rfl
  | k + 1, n => by simp [putL, putL_length k]
def clamp8 (long : Int) : Nat := (min (max long 0) 8).toNat
theorem putL_snoc : ∀ k n, putL (k + 1) n = putL k n ++ [UInt8.ofNat (n / 256 ^ k)]
  | 0, n => by simp [putL]
  | k + 1, n => by
    rw [putL, putL_snoc k (n / 256), putL]
    simp [Nat.div_div_eq_div_mul, Nat.pow_succ, Nat.mul_comm]

theorem bsetAt {w a : World} {b o : Nat} (h : Below w.heap.size w a) (hp : w.heap.size ≤ b) (u : Value) : Below w.heap.size w (a.setCell ⟨b, o, none⟩ u) := h.setCell hp u
/-- A cell that was written reads as it was written (no unknown in the premise). -/
theorem cellSame {w : World} {a : Addr} {v : Value} (h : (w.cell? a).isSome = true) : (w.setCell a v).cell? a = some v := by
  obtain ⟨x, hx⟩ := Option.isSome_iff_exists.1 h
  simp [World.cell?] at hx ⊢
  split at hx
  · rename_i c e f hg
    simp [World.setCell, Array.getElem?_modify, hg]
    split at hx
    · cases hx
    · rename_i hs
      simp [hs]
      obtain ⟨hlt, _⟩ := Array.getElem?_eq_some_iff.1 hx
      simp [hlt]
      cases hsp : a.spot with
      | none => rfl
      | some y => simp [hsp] at hs
  · cases hx
/-! the sum -/
theorem bits_u32_range (op : BinOp) (a b : Int) : 0 ≤ bits op .u32 a b ∧ bits op .u32 a b ≤ 4294967295 := by
  have h : ∀ n : Int, 0 ≤ IntKind.u32.wrap n ∧ IntKind.u32.wrap n ≤ 4294967295 := fun n => by rw [IntKind.wrap_u32]; omega
  unfold bits
  split <;> exact h _
/-- One bit of the sum's register. -/
def bit1 (r : Int) : Int := if bits .and .u32 r 1 = 1 then bits .xor .u32 (r / 2) 2197175160 else r / 2
theorem xor_ones {r : Int} (h : 0 ≤ r ∧ r ≤ 4294967295) : bits .xor .u32 r 4294967295 = 4294967295 - r := by
  obtain ⟨n, rfl⟩ := Int.eq_ofNat_of_zero_le h.1
  have hn : n < 2 ^ 32 := by omega
  rw [show (4294967295 : Int) = ((4294967295 : Nat) : Int) from rfl, u32_xor_nat n 4294967295 (by omega) (by decide)]
  have : n ^^^ 4294967295 = 4294967295 - n := by
    apply Nat.eq_of_testBit_eq
    intro i
    have e1 : (4294967295 : Nat) = 2 ^ 32 - 1 := rfl
    have e2 : 4294967295 - n = 2 ^ 32 - (n + 1) := by omega
    rw [Nat.testBit_xor, e2, Nat.testBit_two_pow_sub_succ hn, e1, Nat.testBit_two_pow_sub_one]
    by_cases hi : i < 32
    · simp [hi]
    · have : n.testBit i = false := Nat.testBit_lt_two_pow (Nat.lt_of_lt_of_le hn (Nat.pow_le_pow_right (by decide) (by omega)))
      simp [hi, this]
  rw [this]
  omega
theorem bit1_mod {r : Int} (h : 0 ≤ r ∧ r ≤ 4294967295) : bit1 r = if r % 2 = 1 then bits .xor .u32 (r / 2) 2197175160 else r / 2 := by
  obtain ⟨n, rfl⟩ := Int.eq_ofNat_of_zero_le h.1
  unfold bit1
  rw [show (1 : Int) = ((1 : Nat) : Int) from rfl, u32_and_nat n 1 (by omega) (by decide), Nat.and_one_is_mod]
  have : (((n % 2 : Nat) : Int) = ((1 : Nat) : Int)) ↔ ((n : Int) % 2 = ((1 : Nat) : Int)) := by omega
  simp only [this]
def bitN : Nat → Int → Int
  | 0, r => r
  | n + 1, r => bit1 (bitN n r)
def crcB (r : Int) (b : UInt8) : Int := bitN 8 (bits .xor .u32 r b.toNat)
def crcL (r : Int) (l : List UInt8) : Int := l.foldl crcB r
def sumL (sum : Int) (l : List UInt8) : Int := bits .xor .u32 (crcL (bits .xor .u32 sum 4294967295) l) 4294967295
theorem bit1_range {r : Int} (h : 0 ≤ r ∧ r ≤ 4294967295) : 0 ≤ bit1 r ∧ bit1 r ≤ 4294967295 := by
  unfold bit1
  split
  · exact bits_u32_range _ _ _
  · omega
theorem bitN_range {r : Int} (h : 0 ≤ r ∧ r ≤ 4294967295) : ∀ n, 0 ≤ bitN n r ∧ bitN n r ≤ 4294967295
  | 0 => h
  | n + 1 => bit1_range (bitN_range h n)
theorem crcB_range (r : Int) (b : UInt8) : 0 ≤ crcB r b ∧ crcB r b ≤ 4294967295 := bitN_range (bits_u32_range _ _ _) 8
theorem crcL_range {r : Int} (h : 0 ≤ r ∧ r ≤ 4294967295) : ∀ l, 0 ≤ crcL r l ∧ crcL r l ≤ 4294967295 := by
  intro l
  induction l generalizing r with
  | nil => exact h
  | cons b l ih => exact ih (crcB_range r b)
theorem crcL_snoc (r : Int) (l : List UInt8) (b : UInt8) : crcL r (l ++ [b]) = crcB (crcL r l) b := by simp [crcL]
theorem crcL_append (r : Int) (a b : List UInt8) : crcL r (a ++ b) = crcL (crcL r a) b := by simp [crcL]
theorem sumL_range (sum : Int) (l : List UInt8) : 0 ≤ sumL sum l ∧ sumL sum l ≤ 4294967295 := bits_u32_range _ _ _
theorem sumL_append (sum : Int) (a b : List UInt8) : sumL sum (a ++ b) = sumL (sumL sum a) b := by
  unfold sumL
  have h1 := bits_u32_range .xor sum 4294967295
  have h2 := crcL_range h1 a
  have e : bits .xor .u32 (bits .xor .u32 (crcL (bits .xor .u32 sum 4294967295) a) 4294967295) 4294967295 = crcL (bits .xor .u32 sum 4294967295) a := by
    rw [xor_ones h2, xor_ones (by omega)]; omega
  rw [e, crcL_append]
theorem take_snoc (s : ByteArray) (k : Nat) (h : k < s.size) : s.data.toList.take (k + 1) = s.data.toList.take k ++ [s[k]] := by
  rw [List.take_succ_eq_append_getElem (by simpa using h)]; rfl

/-- The number of bytes, the lowest first. -/
def numL : List UInt8 → Nat
  | [] => 0
  | b :: l => b.toNat + 256 * numL l
theorem numL_lt : ∀ l : List UInt8, numL l < 256 ^ l.length
  | [] => by simp [numL]
  | b :: l => by
    have := numL_lt l
    have hb := b.toNat_lt
    rw [List.length_cons, Nat.pow_succ, numL]
    omega
theorem numL_putL : ∀ k n, numL (putL k n) = n % 256 ^ k
  | 0, n => by simp [numL, putL, Nat.mod_one]
  | k + 1, n => by
    rw [putL, numL, numL_putL k, Nat.pow_succ, Nat.mul_comm (256 ^ k), Nat.mod_mul]
    simp
theorem putL_numL : ∀ l : List UInt8, putL l.length (numL l) = l
  | [] => rfl
  | b :: l => by
    have hb := b.toNat_lt
    have e1 : (b.toNat + 256 * numL l) / 256 = numL l := by omega
    have e2 : UInt8.ofNat (b.toNat + 256 * numL l) = b := by
      apply UInt8.toNat_inj.1
      simp only [UInt8.toNat_ofNat']
      omega
    rw [List.length_cons, numL, putL, e1, e2, putL_numL l]

/-- A block that is known whole. -/
def Blk (w : World) (g : Nat) (t : TypeId) (cs : Array Value) : Prop := w.heap[g]? = some (.cells cs t (0, 0))
section
variable {w w' : World} {g : Nat} {t : TypeId} {cs : Array Value}
theorem Blk.lt (h : Blk w g t cs) : g < w.heap.size := by
  rcases Nat.lt_or_ge g w.heap.size with hlt | hge
  · exact hlt
  · unfold Blk at h; rw [Array.getElem?_eq_none hge] at h; cases h
theorem Blk.cell (h : Blk w g t cs) (i : Nat) : w.cell? ⟨g, i, none⟩ = cs[i]? := cell_of_row w g i cs t (0, 0) h
theorem Blk.frozen (h : Blk w g t cs) (i : Nat) : w.frozen? ⟨g, i, none⟩ = false := by
  unfold Blk at h
  simp [World.frozen?, h]
theorem Blk.new (w : World) (t : TypeId) (cs : Array Value) : Blk (w.alloc (.cells cs t)) w.heap.size t cs := heap_alloc_new w _
theorem Blk.drew (h : Blk w g t cs) : Blk w.drew g t cs := h
theorem Blk.drewN (h : Blk w g t cs) (n : Nat) : Blk (w.drewN n) g t cs := h
theorem Blk.alloc (h : Blk w g t cs) (o : Obj) : Blk (w.alloc o) g t cs := (Below.heap_alloc w o g h.lt).trans h
theorem Blk.set_ (h : Blk w g t cs) (i : Nat) (u : Value) : Blk (w.setCell ⟨g, i, none⟩ u) g t (cs.setIfInBounds i u) := by
  unfold Blk at h ⊢
  simp [World.setCell, Array.getElem?_modify, h]
theorem Blk.far (h : Blk w g t cs) {p : Addr} (hp : g ≠ p.block) (u : Value) : Blk (w.setCell p u) g t cs := (Below.heap_setCell w p u g hp).trans h
theorem Blk.below {B : Nat} (h : Blk w g t cs) (hb : Below B w w') (hg : g < B) : Blk w' g t cs := (hb.block g hg).trans h
theorem Blk.step (h : Blk w g t cs) (hb : Below w.heap.size w w') : Blk w' g t cs := h.below hb h.lt
theorem Blk.grown {row : Option Nat} (h : Blk w g t cs) (hb : w.grownBy w' row) (hg : some g ≠ row) : Blk w' g t cs := (hb.block g h.lt hg).trans h
end
end Go.Gi
