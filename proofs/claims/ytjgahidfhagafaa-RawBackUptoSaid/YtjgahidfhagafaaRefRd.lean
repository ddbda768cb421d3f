import Derived.Test.YtjgahidfhagafaaRdBase
import Derived.Test.YtjgahidfhagafaaRefNum
namespace Go.Proofs.Ytjgahidfhagafaa
open Go.RowKit Go.Gi

/-- The reference's reader as a value. -/
def rdV (s : ByteArray) (a : Nat) (e : Int) : Value := .agg #[.string s, .int .i64 a, .int .i64 e]

set_option maxHeartbeats 1600000 in
theorem take_any (s : ByteArray) (a : Nat) (e n : Int) (w : World) (hs : s.size ≤ maxLen) (ha : a ≤ s.size) :
    Calls Try.prog 37 #[.agg #[.string s, .int .i64 a, .int .i64 e], .int .i64 n] w fun e' w' =>
      e' = .returned (.tuple #[.agg #[.string s, .int .i64 (rTake s.data.toList a e n).2.1, .int .i64 (rTake s.data.toList a e n).2.2], .string (bs (rTake s.data.toList a e n).1)]) ∧ Below w.heap.size w w' := by
  have hl : s.data.toList.length = s.size := by simp
  have hs2 : s.size ≤ 9223372036854775807 := hs
  have Hs := Lib.hid hs
  clear hs
  unfold rTake
  rw [hl]
  by_cases he : e = 0
  · subst he
    by_cases h1 : n < 0
    · rw [if_neg (by simp), if_pos h1]
      clear hl
      go_enter Try.func37, Try.ntmps37
      go_wp2
      refine bodyPost_ret (v := .tuple #[.agg #[.string s, .int .i64 a, .int .i64 1], .string ⟨#[]⟩]) (by simp [results, Try.results37, go_sem]) rfl ⟨rfl, ?_⟩
      exact balloc (balloc (Below.refl _ _) _) _
    · obtain ⟨m, rfl⟩ := Int.eq_ofNat_of_zero_le (show 0 ≤ n by omega)
      rw [if_neg (by simp), if_neg h1]
      by_cases h2 : (s.size : Int) - a < m
      · rw [if_pos h2]
        have g1 : decide ((s.size : Int) - a < m) = true := decide_eq_true h2
        clear h1 hl h2
        go_enter Try.func37, Try.ntmps37
        go_wp2
        refine bodyPost_ret (v := .tuple #[.agg #[.string s, .int .i64 a, .int .i64 4], .string ⟨#[]⟩]) (by simp [results, Try.results37, go_sem]) rfl ⟨rfl, ?_⟩
        exact balloc (balloc (Below.refl _ _) _) _
      · rw [if_neg h2]
        have ham : a + m ≤ s.size := by omega
        have hw1 : IntKind.i64.wrap (a : Int) = a := IntWalk.i64_in _ (by omega)
        have hw2 : 0 ≤ (a : Int) + m := by omega
        have hw3 : (a : Int) + m ≤ s.size := by omega
        have hw4 : (a : Int) ≤ a + m := by omega
        clear h1 hl
        go_enter Try.func37, Try.ntmps37
        go_wp2
        go_region
        go_wp2
        refine bodyPost_ret (v := .tuple #[.agg #[.string s, .int .i64 (a + m : Nat), .int .i64 0], .string (bs ((s.data.toList.drop a).take m))]) (by simp [results, Try.results37, go_sem, extract_bs]) rfl ⟨rfl, ?_⟩
        exact bdrew (balloc (balloc (Below.refl _ _) _) _)
  · rw [if_pos he]
    have hb : (e != 0) = true := by simp [he]
    clear he hl
    go_enter Try.func37, Try.ntmps37
    go_wp2
    refine bodyPost_ret (v := .tuple #[.agg #[.string s, .int .i64 a, .int .i64 e], .string ⟨#[]⟩]) (by simp [results, Try.results37, go_sem]) rfl ⟨rfl, ?_⟩
    exact balloc (balloc (Below.refl _ _) _) _
theorem take_eq (s : ByteArray) (a : Nat) (e n : Int) (w : World) (hs : s.size ≤ maxLen) (ha : a ≤ s.size) (l : List UInt8) (a1 : Nat) (e1 : Int) (hn : rTake s.data.toList a e n = (l, a1, e1)) :
    Calls Try.prog 37 #[.agg #[.string s, .int .i64 a, .int .i64 e], .int .i64 n] w fun e' w' =>
      e' = .returned (.tuple #[.agg #[.string s, .int .i64 a1, .int .i64 e1], .string (bs l)]) ∧ Below w.heap.size w w' := by
  have := take_any s a e n w hs ha
  rw [hn] at this
  exact this

theorem rnumber_bs (l : List UInt8) (w : World) (hl : l.length ≤ 8) :
    Calls Try.prog 17 #[.string (bs l)] w fun e w' => e = .returned (.int .u64 (numL l : Nat)) ∧ w' = w := by
  have h : numL l % 18446744073709551616 = numL l := by
    apply Nat.mod_eq_of_lt
    refine Nat.lt_of_lt_of_le (numL_lt _) ?_
    exact Nat.le_trans (Nat.pow_le_pow_right (by decide) hl) (by decide)
  have := rnumber_any (bs l) w (by rw [bs_size]; unfold maxLen; omega)
  rw [toList_bs, h] at this
  exact this

set_option maxHeartbeats 1600000 in
theorem rnum_go (s : ByteArray) (a : Nat) (e long : Int) (w : World) (hs : s.size ≤ maxLen) (ha : a ≤ s.size) (h : (e == 0) = false ∨ 0 ≤ long ∧ long ≤ 8) (l1 : List UInt8) (a1 : Nat) (e1 : Int)
    (hT : rTake s.data.toList a e long = (l1, a1, e1)) (hlen : l1.length ≤ 8) :
    Calls Try.prog 36 #[.agg #[.string s, .int .i64 a, .int .i64 e], .int .i64 long] w fun e' w' =>
      e' = .returned (.tuple #[.agg #[.string s, .int .i64 a1, .int .i64 e1], .int .u64 (numL l1 : Nat)]) ∧ Below w.heap.size w w' := by
  have Hs := Lib.hid hs
  have HT := Lib.hid hT
  clear hs hT
  by_cases he : (e == 0) = false
  · clear h
    go_enter Try.func36, Try.ntmps36
    go_wp2_with (go_at_call 37; refine (take_eq _ _ _ _ _ Hs.out ha _ _ _ HT.out).mono ?_; rintro e w1 ⟨rfl, hb1⟩; obtain ⟨hc, hf⟩ := bcell hb1; have hz : w.heap.size + 2 ≤ w1.heap.size := by have := hb1.size; simp at this; omega)
    have B1 := (((Blk.new w 44 #[.string s, .int .i64 a, .int .i64 e]).alloc (.cells #[.string ⟨#[]⟩, .int .i64 0, .int .i64 0] 44)).step hb1)
    have B2 := ((Blk.new (w.alloc (.cells #[.string s, .int .i64 a, .int .i64 e] 44)) 44 #[.string ⟨#[]⟩, .int .i64 0, .int .i64 0]).step hb1)
    have hbel := bstep (balloc (balloc (Below.refl _ w) (.cells #[.string s, .int .i64 a, .int .i64 e] 44)) (.cells #[.string ⟨#[]⟩, .int .i64 0, .int .i64 0] 44)) hb1
    have C1 := ((B1.set_ 0 (.string s)).set_ 1 (.int .i64 a1)).set_ 2 (.int .i64 e1)
    have C2 := ((B2.far (p := ⟨w.heap.size, 0, none⟩) (by simp) (.string s)).far (p := ⟨w.heap.size, 1, none⟩) (by simp) (.int .i64 a1)).far (p := ⟨w.heap.size, 2, none⟩) (by simp) (.int .i64 e1)
    have C3 := bsetAt (o := 2) (bsetAt (o := 1) (bsetAt (o := 0) hbel (Nat.le_refl _) (.string s)) (Nat.le_refl _) (.int .i64 a1)) (Nat.le_refl _) (.int .i64 e1)
    clear hc hf hz hb1 B1 B2 hbel
    generalize ((w1.setCell { block := w.heap.size, off := 0 } (Value.string s)).setCell { block := w.heap.size, off := 1 } (Value.int IntKind.i64 ↑a1)).setCell { block := w.heap.size, off := 2 } (Value.int IntKind.i64 e1) = w4 at *
    have k0 := C1.cell 0
    have k1 := C1.cell 1
    have k2 := C1.cell 2
    have j0 := C2.cell 0
    have j1 := C2.cell 1
    have j2 := C2.cell 2
    have jf := C2.frozen
    simp at k0 k1 k2 j0 j1 j2 jf
    have D3 := Lib.hid C3
    clear C1 C2 C3
    go_region_with ((go_at_call 17; refine (rnumber_bs _ _ hlen).mono ?_; rintro e w' ⟨rfl, rfl⟩))
    all_goals go_wp2
    all_goals
      refine bodyPost_ret (v := .tuple #[.agg #[.string s, .int .i64 a1, .int .i64 e1], .int .u64 (numL l1 : Nat)]) (by simp [results, Try.results36, go_sem, j0, j1, j2]) rfl ⟨rfl, ?_⟩
      repeat (first | exact D3.out | apply bdrewN | apply bdrew | (refine bsetAt ?_ (by omega) _))
  · obtain ⟨h0, h8⟩ := h.resolve_left he
    have he' : (e == 0) = true := by simpa using he
    clear h he
    go_enter Try.func36, Try.ntmps36
    go_wp2_with (go_at_call 37; refine (take_eq _ _ _ _ _ Hs.out ha _ _ _ HT.out).mono ?_; rintro e w1 ⟨rfl, hb1⟩; obtain ⟨hc, hf⟩ := bcell hb1; have hz : w.heap.size + 2 ≤ w1.heap.size := by have := hb1.size; simp at this; omega)
    have B1 := (((Blk.new w 44 #[.string s, .int .i64 a, .int .i64 e]).alloc (.cells #[.string ⟨#[]⟩, .int .i64 0, .int .i64 0] 44)).step hb1)
    have B2 := ((Blk.new (w.alloc (.cells #[.string s, .int .i64 a, .int .i64 e] 44)) 44 #[.string ⟨#[]⟩, .int .i64 0, .int .i64 0]).step hb1)
    have hbel := bstep (balloc (balloc (Below.refl _ w) (.cells #[.string s, .int .i64 a, .int .i64 e] 44)) (.cells #[.string ⟨#[]⟩, .int .i64 0, .int .i64 0] 44)) hb1
    have C1 := ((B1.set_ 0 (.string s)).set_ 1 (.int .i64 a1)).set_ 2 (.int .i64 e1)
    have C2 := ((B2.far (p := ⟨w.heap.size, 0, none⟩) (by simp) (.string s)).far (p := ⟨w.heap.size, 1, none⟩) (by simp) (.int .i64 a1)).far (p := ⟨w.heap.size, 2, none⟩) (by simp) (.int .i64 e1)
    have C3 := bsetAt (o := 2) (bsetAt (o := 1) (bsetAt (o := 0) hbel (Nat.le_refl _) (.string s)) (Nat.le_refl _) (.int .i64 a1)) (Nat.le_refl _) (.int .i64 e1)
    clear hc hf hz hb1 B1 B2 hbel
    generalize ((w1.setCell { block := w.heap.size, off := 0 } (Value.string s)).setCell { block := w.heap.size, off := 1 } (Value.int IntKind.i64 ↑a1)).setCell { block := w.heap.size, off := 2 } (Value.int IntKind.i64 e1) = w4 at *
    have k0 := C1.cell 0
    have k1 := C1.cell 1
    have k2 := C1.cell 2
    have j0 := C2.cell 0
    have j1 := C2.cell 1
    have j2 := C2.cell 2
    have jf := C2.frozen
    simp at k0 k1 k2 j0 j1 j2 jf
    have D3 := Lib.hid C3
    clear C1 C2 C3
    go_region_with ((go_at_call 17; refine (rnumber_bs _ _ hlen).mono ?_; rintro e w' ⟨rfl, rfl⟩))
    all_goals go_wp2
    all_goals
      refine bodyPost_ret (v := .tuple #[.agg #[.string s, .int .i64 a1, .int .i64 e1], .int .u64 (numL l1 : Nat)]) (by simp [results, Try.results36, go_sem, j0, j1, j2]) rfl ⟨rfl, ?_⟩
      repeat (first | exact D3.out | apply bdrewN | apply bdrew | (refine bsetAt ?_ (by omega) _))

set_option maxHeartbeats 1600000 in
theorem rnum_bad (s : ByteArray) (a : Nat) (long : Int) (w : World) (hs : s.size ≤ maxLen) (ha : a ≤ s.size) (h : long < 0 ∨ 8 < long) :
    Calls Try.prog 36 #[.agg #[.string s, .int .i64 a, .int .i64 0], .int .i64 long] w fun e' w' =>
      e' = .returned (.tuple #[.agg #[.string s, .int .i64 a, .int .i64 1], .int .u64 (numL [] : Nat)]) ∧ Below w.heap.size w w' := by
  have Hs := Lib.hid hs
  have HT := Lib.hid (show rTake s.data.toList a 1 long = ([], a, 1) by unfold rTake; rw [if_pos (by decide)])
  have hlen : ([] : List UInt8).length ≤ 8 := by decide
  clear hs
  by_cases h1 : long < 0
  · clear h
    go_enter Try.func36, Try.ntmps36
    go_wp2_with (go_at_call 37; refine (take_eq _ _ _ _ _ Hs.out ha _ _ _ HT.out).mono ?_; rintro e w1 ⟨rfl, hb1⟩; obtain ⟨hc, hf⟩ := bcell hb1; have hz : w.heap.size + 2 ≤ w1.heap.size := by have := hb1.size; simp at this; omega)
    have B1 := (((Blk.new w 44 #[.string s, .int .i64 a, .int .i64 1]).alloc (.cells #[.string ⟨#[]⟩, .int .i64 0, .int .i64 0] 44)).step hb1)
    have B2 := ((Blk.new (w.alloc (.cells #[.string s, .int .i64 a, .int .i64 1] 44)) 44 #[.string ⟨#[]⟩, .int .i64 0, .int .i64 0]).step hb1)
    have hbel := bstep (balloc (balloc (Below.refl _ w) (.cells #[.string s, .int .i64 a, .int .i64 1] 44)) (.cells #[.string ⟨#[]⟩, .int .i64 0, .int .i64 0] 44)) hb1
    have C1 := ((B1.set_ 0 (.string s)).set_ 1 (.int .i64 a)).set_ 2 (.int .i64 (1 : Int))
    have C2 := ((B2.far (p := ⟨w.heap.size, 0, none⟩) (by simp) (.string s)).far (p := ⟨w.heap.size, 1, none⟩) (by simp) (.int .i64 a)).far (p := ⟨w.heap.size, 2, none⟩) (by simp) (.int .i64 (1 : Int))
    have C3 := bsetAt (o := 2) (bsetAt (o := 1) (bsetAt (o := 0) hbel (Nat.le_refl _) (.string s)) (Nat.le_refl _) (.int .i64 a)) (Nat.le_refl _) (.int .i64 (1 : Int))
    clear hc hf hz hb1 B1 B2 hbel
    generalize ((w1.setCell { block := w.heap.size, off := 0 } (Value.string s)).setCell { block := w.heap.size, off := 1 } (Value.int IntKind.i64 ↑a)).setCell { block := w.heap.size, off := 2 } (Value.int IntKind.i64 (1 : Int)) = w4 at *
    have k0 := C1.cell 0
    have k1 := C1.cell 1
    have k2 := C1.cell 2
    have j0 := C2.cell 0
    have j1 := C2.cell 1
    have j2 := C2.cell 2
    have jf := C2.frozen
    simp at k0 k1 k2 j0 j1 j2 jf
    have D3 := Lib.hid C3
    clear C1 C2 C3
    go_region_with ((go_at_call 17; refine (rnumber_bs _ _ hlen).mono ?_; rintro e w' ⟨rfl, rfl⟩))
    all_goals go_wp2
    all_goals
      refine bodyPost_ret (v := .tuple #[.agg #[.string s, .int .i64 a, .int .i64 (1 : Int)], .int .u64 (numL [] : Nat)]) (by simp [results, Try.results36, go_sem, j0, j1, j2]) rfl ⟨rfl, ?_⟩
      repeat (first | exact D3.out | apply bdrewN | apply bdrew | (refine bsetAt ?_ (by omega) _))
  · have h2 := h.resolve_left h1
    clear h
    go_enter Try.func36, Try.ntmps36
    go_wp2_with (go_at_call 37; refine (take_eq _ _ _ _ _ Hs.out ha _ _ _ HT.out).mono ?_; rintro e w1 ⟨rfl, hb1⟩; obtain ⟨hc, hf⟩ := bcell hb1; have hz : w.heap.size + 2 ≤ w1.heap.size := by have := hb1.size; simp at this; omega)
    have B1 := (((Blk.new w 44 #[.string s, .int .i64 a, .int .i64 1]).alloc (.cells #[.string ⟨#[]⟩, .int .i64 0, .int .i64 0] 44)).step hb1)
    have B2 := ((Blk.new (w.alloc (.cells #[.string s, .int .i64 a, .int .i64 1] 44)) 44 #[.string ⟨#[]⟩, .int .i64 0, .int .i64 0]).step hb1)
    have hbel := bstep (balloc (balloc (Below.refl _ w) (.cells #[.string s, .int .i64 a, .int .i64 1] 44)) (.cells #[.string ⟨#[]⟩, .int .i64 0, .int .i64 0] 44)) hb1
    have C1 := ((B1.set_ 0 (.string s)).set_ 1 (.int .i64 a)).set_ 2 (.int .i64 (1 : Int))
    have C2 := ((B2.far (p := ⟨w.heap.size, 0, none⟩) (by simp) (.string s)).far (p := ⟨w.heap.size, 1, none⟩) (by simp) (.int .i64 a)).far (p := ⟨w.heap.size, 2, none⟩) (by simp) (.int .i64 (1 : Int))
    have C3 := bsetAt (o := 2) (bsetAt (o := 1) (bsetAt (o := 0) hbel (Nat.le_refl _) (.string s)) (Nat.le_refl _) (.int .i64 a)) (Nat.le_refl _) (.int .i64 (1 : Int))
    clear hc hf hz hb1 B1 B2 hbel
    generalize ((w1.setCell { block := w.heap.size, off := 0 } (Value.string s)).setCell { block := w.heap.size, off := 1 } (Value.int IntKind.i64 ↑a)).setCell { block := w.heap.size, off := 2 } (Value.int IntKind.i64 (1 : Int)) = w4 at *
    have k0 := C1.cell 0
    have k1 := C1.cell 1
    have k2 := C1.cell 2
    have j0 := C2.cell 0
    have j1 := C2.cell 1
    have j2 := C2.cell 2
    have jf := C2.frozen
    simp at k0 k1 k2 j0 j1 j2 jf
    have D3 := Lib.hid C3
    clear C1 C2 C3
    go_region_with ((go_at_call 17; refine (rnumber_bs _ _ hlen).mono ?_; rintro e w' ⟨rfl, rfl⟩))
    all_goals go_wp2
    all_goals
      refine bodyPost_ret (v := .tuple #[.agg #[.string s, .int .i64 a, .int .i64 (1 : Int)], .int .u64 (numL [] : Nat)]) (by simp [results, Try.results36, go_sem, j0, j1, j2]) rfl ⟨rfl, ?_⟩
      repeat (first | exact D3.out | apply bdrewN | apply bdrew | (refine bsetAt ?_ (by omega) _))

theorem rnum_any (s : ByteArray) (a : Nat) (e long : Int) (w : World) (hs : s.size ≤ maxLen) (ha : a ≤ s.size) :
    Calls Try.prog 36 #[.agg #[.string s, .int .i64 a, .int .i64 e], .int .i64 long] w fun e' w' =>
      e' = .returned (.tuple #[.agg #[.string s, .int .i64 (rNum s.data.toList a e long).2.1, .int .i64 (rNum s.data.toList a e long).2.2], .int .u64 (rNum s.data.toList a e long).1]) ∧ Below w.heap.size w w' := by
  by_cases he : e = 0
  · subst he
    by_cases h : long < 0 ∨ 8 < long
    · rw [rNum_bad _ _ _ h]
      exact rnum_bad s a long w hs ha h
    · rw [rNum_take _ _ _ _ (by omega)]
      exact rnum_go s a 0 long w hs ha (by omega) _ _ _ rfl (by have := rTake_len s.data.toList a 0 long; omega)
  · rw [rNum_take _ _ _ _ (.inl he)]
    exact rnum_go s a e long w hs ha (.inl (by simp [he])) _ _ _ rfl (by unfold rTake; rw [if_pos he]; exact Nat.zero_le _)
end Go.Proofs.Ytjgahidfhagafaa
