import Derived.Test.YtebickoieipjpaaRecLaw4
import Derived.Test.YtebickoieipjpaaRecDec
import Derived.Test.YtebickoieipjpaaBeq
namespace Go.Proofs.Ytebickoieipjpaa
open Go.RowKit Go.Gi Go.GiRow
set_option maxRecDepth 20000
set_option linter.unusedSimpArgs false
set_option linter.unusedVariables false

theorem rows_below {α : Type} {enc : α → List Value} {n : Nat} {w w' : World} {A : Option Addr} {l : List α} (h : RdRows enc n w A l) (hb : Below w.heap.size w w') : RdRows enc n w' A l := fun k hk => by
  obtain ⟨b, off, e, h1, h2⟩ := h k hk
  exact ⟨b, off, e, Nat.lt_of_lt_of_le h1 hb.size, fun j u hu => (hb.cell (p := ⟨b, off + k * n + j, none⟩) h1).trans (h2 j u hu)⟩
def rec0 : RecR := ⟨4, 3, 9, 0, 0, 0, 0, [], [], 0, 0, [], 0, 0, false, [], []⟩
theorem rec0_ok : recOk rec0 := by
  refine ⟨⟨⟨⟨⟨⟨?_, ?_⟩, ?_⟩, ?_⟩, ?_⟩, ?_⟩, ?_⟩
  · unfold okHead rec0; simp
  · unfold okUndo rec0; simp
  · rw [okOp_no (by unfold isChange rec0; simp)]; unfold rec0; simp
  · rw [okKey_no (by unfold rec0; simp)]; unfold rec0; simp
  · unfold okNext rec0; simp
  · unfold okLong rec0; simp
  · intro t ht; unfold rec0 at ht; simp at ht
theorem rec0_w : RecW rec0 := ⟨by unfold rec0; simp, by unfold rec0; simp, by unfold rec0; simp, by unfold rec0; simp, by unfold rec0; simp, by unfold rec0; simp⟩
theorem rec0_len : (recB rec0).length = 13 := by decide +kernel
theorem rd0 {α : Type} (enc : α → List Value) (n : Nat) (w : World) (A : Option Addr) : RdRows enc n w A [] := fun k hk => absurd hk (by simp)

theorem bs_prefix (s : List UInt8) (k : Nat) : (bs s).extract 0 k = bs (s.take k) := by rw [extract_bs, toList_bs]; simp
attribute [local go_sem] bs_size bs_append bs_prefix bs_empty
set_option maxHeartbeats 16000000 in
theorem awake04 (w : World) : Calls Try.prog 8 #[] w fun e w' => e = .returned (.bool true) ∧ Below w.heap.size w w' := by
  have henc := fun W => encode_ok rec0 none 0 none 0 W (rd0 _ _ _ _) (rd0 _ _ _ _) rec0_w rec0_ok
  have HENC := Lib.hid henc
  have hdec := fun W => decode_any (recB rec0) W (by rw [rec0_len]; decide)
  have HDEC := Lib.hid hdec
  have hl0 := rec0_len
  have HD := Lib.hid (dec_of_told rec0 rec0_ok rec0_w)
  clear henc hdec
  generalize recB rec0 = L0 at *
  go_enter Try.func8, Try.ntmps8
  go_upto_region 3 with (first | (go_at_call 7; refine (HENC.out _).mono ?_; rintro e w1 ⟨rfl, hb1⟩; have HB1 := Lib.hid hb1; clear hb1) | (go_at_call 9; refine (HDEC.out _).mono ?_; rintro e w2 ⟨⟨hy, _⟩, hb2⟩; obtain ⟨A, c, B, d, rfl, _, _⟩ := hy HD.out.1; rw [HD.out.2]; unfold rec0 RecR.val RecR.cells; have HB2 := Lib.hid (bstep HB1.out hb2); clear hb2 hy))
  go_wp2
  go_ret
  exact ⟨rfl, HB2.out.alloc HB2.out.size _⟩

theorem cut_law (at_ : Int) (n : Nat) (h0 : 0 < n) (h1 : n ≤ 100000) : ∃ f : Nat, f < n ∧ ((at_.tmod n + n).tmod n) = (f : Int) ∧ -100000 ≤ at_.tmod n ∧ at_.tmod n ≤ 100000 ∧ 0 ≤ at_.tmod n + n := by
  have h2 : at_.tmod n < n := Int.tmod_lt_of_pos _ (by omega)
  have h3 : -(n : Int) < at_.tmod n := by
    rcases Int.le_total 0 at_ with h | h
    · have := Int.tmod_nonneg (n : Int) h; omega
    · have := Int.tmod_lt_of_pos (-at_) (show (0 : Int) < n by omega)
      rw [Int.neg_tmod] at this
      omega
  generalize at_.tmod n = r at *
  have h4 : 0 ≤ (r + n).tmod n := Int.tmod_nonneg _ (by omega)
  have h5 : (r + n).tmod n < n := Int.tmod_lt_of_pos _ (by omega)
  exact ⟨((r + n).tmod n).toNat, by omega, by omega, by omega, by omega, by omega⟩
theorem recB_len (r : RecR) (hr : recOk r) : 0 < (recB r).length ∧ (recB r).length ≤ 20000 := by
  obtain ⟨⟨⟨⟨⟨⟨g1, g2⟩, g3⟩, g4⟩, g5⟩, g6⟩, g7⟩ := hr
  have hc : (chB r).length ≤ 2000 := by
    have hkk : r.key.length ≤ 64 := by
      by_cases hu : r.undo = 2
      · have := (okKey_yes hu).1 g4; omega
      · have := (okKey_no hu).1 g4; omega
    by_cases hch : isChange r.kind
    · have := ((okOp_yes hch).1 g3).2
      unfold opOk at this
      exact chB_len r (by omega) (by omega) hkk
    · have := ((okOp_no hch).1 g3)
      exact chB_len r (by omega) (by omega) hkk
  have ht : (tabB r).length ≤ 10000 := by
    have := g6.2
    unfold tabB
    simp only [List.length_append, putL_length, stsB_len, disB_len]
    omega
  unfold recB headB
  simp only [List.length_append, putL_length]
  split <;> split <;> split <;> simp only [putL_length, List.length_nil] <;> omega

end Go.Proofs.Ytebickoieipjpaa
