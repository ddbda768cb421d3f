import Derived.Test.YtebickoieipjpaaEv
import Derived.Test.YtebickoieipjpaaReader2
namespace Go.Proofs.Ytebickoieipjpaa
open Go.RowKit Go.Gi
set_option maxRecDepth 20000
attribute [local go_sem] cellIte
set_option linter.unusedSimpArgs false
set_option linter.unusedVariables false

theorem gcell {W w1 : World} {g : Nat} (hb : W.grownBy w1 (some g)) : (∀ b o, b < W.heap.size → ¬ b = g → w1.cell? ⟨b, o, none⟩ = W.cell? ⟨b, o, none⟩) ∧ (∀ b o, b < W.heap.size → ¬ b = g → w1.frozen? ⟨b, o, none⟩ = W.frozen? ⟨b, o, none⟩) :=
  ⟨fun b o h hn => World.cell?_of_block (hb.block b h (fun e => hn (by injection e))), fun b o h hn => World.frozen?_of_block (hb.block b h (fun e => hn (by injection e)))⟩

theorem rend_any {g : Nat} {s : ByteArray} {a : Nat} {e : Int} {w : World} (h : Rd w 99 g s a e) (hs : s.size ≤ maxLen) (ha : a ≤ s.size) :
    Calls Try.prog 26 #[.pointer (some ⟨g, 0, none⟩)] w fun e' w' => e' = .returned (.int .i64 (rEnd s.data.toList a e)) ∧ Rd w' 99 g s a (rEnd s.data.toList a e) ∧ w.grownBy w' (some g) := by
  have H := Lib.hid h
  have Hs := Lib.hid hs
  have hl : s.data.toList.length = s.size := by simp
  clear h hs
  unfold rEnd
  rw [hl]
  by_cases h1 : (s.size : Int) - a > 0
  · rw [if_pos h1]
    clear hl
    go_enter Try.func26, Try.ntmps26
    go_wp2_with (first | (go_at_call 45; refine (left_any H.out Hs.out ha).mono ?_; rintro e w' ⟨rfl, n, rfl⟩) | (go_at_call 46; refine (fail_any (H.out.drewN _) 5).mono ?_; rintro e w1 ⟨rfl, h1, hg1⟩; have H1 := Lib.hid h1; clear h1) | (go_at_call 25; refine (err_any H1.out).mono ?_; rintro e w' ⟨rfl, rfl⟩))
    go_ret
    exact ⟨rfl, H1.out, gstep (gdrewN (World.grownBy.refl _ _) _) hg1⟩
  · rw [if_neg h1]
    clear hl
    go_enter Try.func26, Try.ntmps26
    go_wp2_with (first | (go_at_call 45; refine (left_any H.out Hs.out ha).mono ?_; rintro e w' ⟨rfl, n, rfl⟩) | (go_at_call 25; refine (err_any (H.out.drewN _)).mono ?_; rintro e w' ⟨rfl, rfl⟩))
    go_ret
    exact ⟨rfl, H.out.drewN _, gdrewN (World.grownBy.refl _ _) _⟩

theorem newReader_any (s : ByteArray) (w : World) :
    Calls Try.prog 22 #[.string s] w fun e w' => ∃ g, e = .returned (.pointer (some ⟨g, 0, none⟩)) ∧ Rd w' 99 g s 0 0 ∧ g = w.heap.size ∧ Below w.heap.size w w' := by
  go_enter Try.func22, Try.ntmps22
  go_wp2
  go_ret
  exact ⟨_, rfl, (Blk.new w _ _ : Blk _ _ _ _), rfl, balloc (Below.refl _ _) _⟩

theorem Rd.far {w : World} {T g b o : Nat} {s : ByteArray} {a : Nat} {e : Int} {u : Value} (h : Rd w T g s a e) (hne : ¬ b = g) : Rd (w.setCell ⟨b, o, none⟩ u) T g s a e :=
  (Below.heap_setCell w ⟨b, o, none⟩ u g (fun h => hne h.symm)).trans h
theorem gsetAt {a w : World} {row : Option Nat} {b o : Nat} {u : Value} (h : a.grownBy w row) (hp : a.heap.size ≤ b) : a.grownBy (w.setCell ⟨b, o, none⟩ u) row :=
  ⟨h.os, h.tape, h.output, by simpa [World.setCell] using h.size, fun k hk hne => (Below.heap_setCell w ⟨b, o, none⟩ u k (by show k ≠ b; omega)).trans (h.block k hk hne)⟩
theorem rtext_eq {g : Nat} {s : ByteArray} {a : Nat} {e : Int} {w : World} (h : Rd w 99 g s a e) (hs : s.size ≤ maxLen) (ha : a ≤ s.size) (n : Int) (l : List UInt8) (a1 : Nat) (e1 : Int) (hn : rText s.data.toList a e n = (l, a1, e1)) :
    Calls Try.prog 43 #[.pointer (some ⟨g, 0, none⟩), .int .i64 n] w fun e' w' => e' = .returned (.string (bs l)) ∧ Rd w' 99 g s a1 e1 ∧ w.grownBy w' (some g) := by
  have := rtext_any h n hs ha
  rw [hn] at this
  exact this
theorem rbool_eq {g : Nat} {s : ByteArray} {a : Nat} {e : Int} {w : World} (h : Rd w 99 g s a e) (hs : s.size ≤ maxLen) (ha : a ≤ s.size) (v : Bool) (a1 : Nat) (e1 : Int) (hn : rBool s.data.toList a e = (v, a1, e1)) :
    Calls Try.prog 44 #[.pointer (some ⟨g, 0, none⟩)] w fun e' w' => e' = .returned (.bool v) ∧ Rd w' 99 g s a1 e1 ∧ w.grownBy w' (some g) := by
  have := rbool_any h hs ha
  rw [hn] at this
  exact this
end Go.Proofs.Ytebickoieipjpaa
