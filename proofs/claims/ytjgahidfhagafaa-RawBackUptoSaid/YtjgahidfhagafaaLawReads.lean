import Derived.Test.YtjgahidfhagafaaOne
import Derived.Test.YtjgahidfhagafaaLaw01a
namespace Go.Proofs.Ytjgahidfhagafaa
open Go.RowKit Go.Gi
attribute [local go_sem] cellIte
set_option linter.unusedSimpArgs false
set_option linter.unusedVariables false

/-- An act: as the law's. -/
structure ActR where
  kind : Int
  n : Int
  x : Int
  s : ByteArray
def ActR.cells (a : ActR) : List Value := [.int .i64 a.kind, .int .i64 a.n, .int .u64 a.x, .string a.s]
/-- A slice of acts that came in. -/
def RdActs (w : World) (A : Option Addr) (l : List ActR) : Prop :=
  ∀ k (h : k < l.length), ∃ b off, A = some ⟨b, off, none⟩ ∧ b < w.heap.size ∧ w.cell? ⟨b, off + k * 4, none⟩ = some (.int .i64 l[k].kind) ∧ w.cell? ⟨b, off + k * 4 + 1, none⟩ = some (.int .i64 l[k].n) ∧ w.cell? ⟨b, off + k * 4 + 2, none⟩ = some (.int .u64 l[k].x) ∧ w.cell? ⟨b, off + k * 4 + 3, none⟩ = some (.string l[k].s)

def runActs (s : List UInt8) : List ActR → Nat × Int → Nat × Int
  | [], st => st
  | a :: l, st => runActs s l (actSt s a.kind a.n st.1 st.2)

theorem left_quiet {g : Nat} {s : ByteArray} {a : Nat} {e : Int} {w : World} {n : Nat} (h : Rd w 64 g s a e) (hs : s.size ≤ maxLen) (ha : a ≤ s.size) :
    Calls Try.prog 22 #[.pointer (some ⟨g, 0, none⟩)] (w.drewN n) fun e' w' => e' = .returned (.int .i64 ((s.size : Int) - a)) ∧ ∃ m, w' = w.drewN m :=
  (left_any (h.drewN n) hs ha).mono fun _ _ ⟨he, m, hm⟩ => ⟨he, n + m, by rw [hm, World.drewN_drewN]⟩

set_option maxHeartbeats 3200000 in
theorem rawReads_any (s : ByteArray) (A : Option Addr) (c : Nat) (l : List ActR) (w : World) (hs : s.size ≤ 140737488351232) (hl : RdActs w A l) (hll : l.length * 40 ≤ 140737488351232) :
    Calls Try.prog 6 #[.string s, .slice A l.length c] w fun e w' => e = .returned (.bool true) ∧ Below w.heap.size w w' := by
  have Hs := Lib.hid (show s.size ≤ maxLen by unfold maxLen; omega)
  have HL := Lib.hid hl
  have hll2 : l.length ≤ 9223372036854775807 := by omega
  clear hl hll
  go_enter Try.func6, Try.ntmps6
  go_wp2_with (first | (go_at_call 18; refine (newReader_any _ _).mono ?_; rintro e w1 ⟨g, rfl, h1, hg, hb1⟩; have H1 := Lib.hid h1; have Hg := Lib.hid hg; clear h1 hg) | (go_at_call 9; refine (awake01 _).mono ?_; rintro e w2 ⟨rfl, hb2⟩))
  have K1 := (H1.out.step hb2).alloc (.cells #[.string s, .int .i64 0, .int .i64 0] 44)
  have K2 := Blk.new w2 44 #[.string s, .int .i64 0, .int .i64 0]
  have K3 := balloc (bstep (bstep (Below.refl w.heap.size w) hb1) hb2) (.cells #[.string s, .int .i64 0, .int .i64 0] 44)
  have hgb : g < w2.heap.size := (H1.out.step hb2).lt
  have hwg : w.heap.size ≤ g := by rw [Hg.out]; exact Nat.le_refl _
  clear H1 Hg hb1 hb2
  generalize w2.alloc (.cells #[.string s, .int .i64 0, .int .i64 0] 44) = w3 at *
  generalize w2.heap.size = b at *
  clear w1 w2
  have q0 : ¬ b = g := by omega
  go_loopw [7] (fun i wr => ∃ (k a : Nat) (e : Int), k ≤ l.length ∧ a ≤ s.size ∧ i = .int .i64 k ∧ Rd wr 64 g s a e ∧ Blk wr b 44 #[.string s, .int .i64 a, .int .i64 e] ∧ Below w.heap.size w wr)
      (fun i _ => l.length - (intOf i).toNat)
  case atStart => exact ⟨0, 0, 0, Nat.zero_le _, Nat.zero_le _, rfl, K1, K2, K3⟩
  case round =>
    clear K1 K2 K3
    obtain ⟨k, a, e, hk, ha, rfl, hR, hB, hW⟩ := hrel
    by_cases hlt : k < l.length
    · obtain ⟨ab, off, rfl, hab, x0, x1, x2, x3⟩ := HL.out k hlt
      have y0 := (hW.cell (p := ⟨ab, off + k * 4, none⟩) hab).trans x0
      have y1 := (hW.cell (p := ⟨ab, off + k * 4 + 1, none⟩) hab).trans x1
      have y2 := (hW.cell (p := ⟨ab, off + k * 4 + 2, none⟩) hab).trans x2
      have y3 := (hW.cell (p := ⟨ab, off + k * 4 + 3, none⟩) hab).trans x3
      clear x0 x1 x2 x3
      generalize l[k] = act at *
      have b0 := hB.cell 0
      have b1 := hB.cell 1
      have b2 := hB.cell 2
      have bf := hB.frozen
      simp at b0 b1 b2
      have HR := Lib.hid hR
      have HB := Lib.hid hB
      have HW := Lib.hid hW
      clear hR hB hW
      have i0 : (0 : Int) ≤ k := by omega
      have i1 : (k : Int) < l.length := by omega
      have hbz := HB.out.lt
      have hgz := HR.out.lt
      go_wp2_with fail
      go_region_with ((go_at_call 19; refine (one_any (by exact HR.out) act.kind act.n act.x act.s Hs.out ha).mono ?_; rintro e' w4 ⟨rfl, h4, hg4⟩; obtain ⟨hc4, hf4⟩ := gcell hg4; have m0 : w4.cell? ⟨b, 0, none⟩ = some (.string s) := (hc4 _ _ hbz q0).trans b0; have m1 : w4.cell? ⟨b, 1, none⟩ = some (.int .i64 a) := (hc4 _ _ hbz q0).trans b1; have m2 : w4.cell? ⟨b, 2, none⟩ = some (.int .i64 e) := (hc4 _ _ hbz q0).trans b2; have mf : ∀ i, w4.frozen? ⟨b, i, none⟩ = false := (fun i => (hf4 _ _ hbz q0).trans (bf i)); clear hc4 hf4; have H4 := Lib.hid h4; clear h4))
      all_goals
        have ha' := actSt_le s.data.toList act.kind act.n a e (by simpa using ha)
        have ha2 : (actSt s.data.toList act.kind act.n a e).1 ≤ s.size := by simpa using ha'
        clear ha'
        obtain ⟨a2, e2, hst⟩ : ∃ a2 e2, actSt s.data.toList act.kind act.n a e = (a2, e2) := ⟨_, _, rfl⟩
        rw [hst] at H4 ha2 ⊢
        clear hst
        have hg5 : wr.grownBy w4 (some g) := ⟨hg4.os, hg4.tape, hg4.output, hg4.size, hg4.block⟩
        have B4 : Blk w4 b 44 #[.string s, .int .i64 a, .int .i64 e] := HB.out.grown hg5 (by simp [q0])
        have N1 := Rd.far (b := b) (o := 2) (u := .int .i64 e2) (Rd.far (b := b) (o := 1) (u := .int .i64 a2) (Rd.far (b := b) (o := 0) (u := .string s) H4.out q0) q0) q0
        have N2 := ((B4.set_ 0 (.string s)).set_ 1 (.int .i64 a2)).set_ 2 (.int .i64 e2)
        have N3 : Below w.heap.size w w4 := bgrown HW.out hg5 (fun k hk => by injection hk; omega)
        have N4 := bsetAt (b := b) (o := 2) (bsetAt (b := b) (o := 1) (bsetAt (b := b) (o := 0) N3 (by omega) (.string s)) (by omega) (.int .i64 a2)) (show w.heap.size ≤ b by omega) (.int .i64 e2)
        clear y0 y1 y2 y3 b0 b1 b2 bf HR HB HW m0 m1 m2 mf B4 N3 hg4 hg5 H4 hbz hgz
        generalize (((w4.setCell { block := b, off := 0 } (Value.string s)).setCell { block := b, off := 1 } (Value.int IntKind.i64 ↑a2)).setCell { block := b, off := 2 } (Value.int IntKind.i64 e2)) = w5 at *
        have b0 := N2.cell 0
        have b1 := N2.cell 1
        have b2 := N2.cell 2
        simp at b0 b1 b2
        have M1 := Lib.hid N1
        have M2 := Lib.hid N2
        have M4 := Lib.hid N4
        clear N1 N2 N4
        go_wp2_with fail
        go_quiet ((first | (go_at_call 20; exact Calls.quiet_of_same (err_any (by exact M1.out))) | (go_at_call 21; exact Calls.quiet_of_same (at_any (by exact M1.out))) | (go_at_call 22; exact left_quiet (by exact M1.out) Hs.out ha2)))
        go_wp2
        go_roundw
        case rel => exact ⟨k + 1, a2, e2, by omega, ha2, by go_num, M1.out.drewN _, M2.out.drewN _, bdrewN M4.out _⟩
        case measure => simp [intOf]; omega
    · go_wp2
      go_ret
      exact ⟨rfl, hW⟩
end Go.Proofs.Ytjgahidfhagafaa
