import Derived.Test.YtebickoieipjpaaReader
namespace Go.Proofs.Ytebickoieipjpaa
open Go.RowKit Go.Gi
set_option maxRecDepth 20000

theorem numL_one (l : List UInt8) : numL (l.take 1) < 256 := by
  refine Nat.lt_of_lt_of_le (numL_lt _) (Nat.le_trans (Nat.pow_le_pow_right (by decide) (List.length_take_le _ _)) (by decide))

set_option maxHeartbeats 1600000 in
theorem rbool_any {g : Nat} {s : ByteArray} {a : Nat} {e : Int} {w : World} (h : Rd w 99 g s a e) (hs : s.size ≤ maxLen) (ha : a ≤ s.size) :
    Calls Try.prog 44 #[.pointer (some ⟨g, 0, none⟩)] w fun e' w' =>
      e' = .returned (.bool (rBool s.data.toList a e).1) ∧ Rd w' 99 g s (rBool s.data.toList a e).2.1 (rBool s.data.toList a e).2.2 ∧ w.grownBy w' (some g) := by
  have H := Lib.hid h
  have c0 := h.c0
  have c1 := h.c1
  have c2 := h.c2
  have f1 := h.f 1
  have f2 := h.f 2
  have hl : s.data.toList.length = s.size := by simp
  have hs2 : s.size ≤ 9223372036854775807 := hs
  have Hs := Lib.hid hs
  clear h hs
  unfold rBool
  rw [hl]
  by_cases he : e = 0
  · subst he
    rw [if_neg (by simp)]
    by_cases h2 : (s.size : Int) - a < 1
    · rw [if_pos h2]
      have H1 := Lib.hid (show (0 : Int) ≤ 1 ∧ (1 : Int) ≤ 8 ∧ (0 : Int) ≤ a ∧ (a : Int) ≤ s.size ∧ (s.size : Int) - a < 1 by omega)
      clear h2 hl
      go_enter Try.func44, Try.ntmps44
      go_wp2_with (go_at_call 25; refine (err_any H.out).mono ?_; rintro e w' ⟨rfl, rfl⟩)
      go_quiet ((go_at_call 42; exact Calls.quiet_of_same (get_cut _ _ _ _ H1.out.1 H1.out.2.1 H1.out.2.2.1 H1.out.2.2.2.1 H1.out.2.2.2.2)))
      go_wp2
      go_ret
      exact ⟨rfl, (H.out.drewN _).set2 4, gset (gdrewN (World.grownBy.refl _ _) _) _ _⟩
    · rw [if_neg h2]
      have hg := get_nat s a 1 w Hs.out (by decide) (by omega)
      have hn := numL_one (s.data.toList.drop a)
      have hg' : ∀ W, Calls Try.prog 42 #[.string s, .int .i64 a, .int .i64 1] W fun e w' => e = .returned (.tuple #[.int .u64 (numL ((s.data.toList.drop a).take 1) : Nat), .int .i64 0]) ∧ w' = W := fun W => get_nat s a 1 W Hs.out (by decide) (by omega)
      have HG := Lib.hid hg'
      clear hg hg' hl
      generalize numL ((s.data.toList.drop a).take 1) = n at *
      by_cases h3 : 1 < n
      · rw [if_pos h3]
        have h3' : (1 : Int) < n := by omega
        clear h2
        go_enter Try.func44, Try.ntmps44
        go_wp2_with (go_at_call 25; refine (err_any H.out).mono ?_; rintro e w' ⟨rfl, rfl⟩)
        go_quiet ((go_at_call 42; exact Calls.quiet_of_same (HG.out _)))
        go_wp2
        go_ret
        exact ⟨rfl, (H.out.drewN _).set2 6, gset (gdrewN (World.grownBy.refl _ _) _) _ _⟩
      · rw [if_neg h3]
        have h4 : (a : Int) + 1 ≤ 9223372036854775807 := by omega
        clear h2
        obtain rfl | rfl : n = 0 ∨ n = 1 := by omega
        all_goals
          clear h3 hn
          go_enter Try.func44, Try.ntmps44
          go_wp2_with (go_at_call 25; refine (err_any H.out).mono ?_; rintro e w' ⟨rfl, rfl⟩)
          go_quiet ((go_at_call 42; exact Calls.quiet_of_same (HG.out _)))
          go_wp2
          go_ret
          exact ⟨rfl, (H.out.drewN _).set1 (a + 1), gset (gdrewN (World.grownBy.refl _ _) _) _ _⟩
  · rw [if_pos he]
    have hb : (e != 0) = true := by simp [he]
    clear he hl
    go_enter Try.func44, Try.ntmps44
    go_wp2_with (go_at_call 25; refine (err_any H.out).mono ?_; rintro e w' ⟨rfl, rfl⟩)
    go_ret
    exact ⟨rfl, H.out, World.grownBy.refl _ _⟩

theorem fail_any {g : Nat} {s : ByteArray} {a : Nat} {e : Int} {w : World} (h : Rd w 99 g s a e) (x : Int) :
    Calls Try.prog 46 #[.pointer (some ⟨g, 0, none⟩), .int .i64 x] w fun e' w' =>
      e' = .returned (.tuple #[]) ∧ Rd w' 99 g s a (rFail e x) ∧ w.grownBy w' (some g) := by
  have H := Lib.hid h
  have c2 := h.c2
  have f2 := h.f 2
  clear h
  unfold rFail
  by_cases he : e = 0
  · subst he
    rw [if_pos rfl]
    go_enter Try.func46, Try.ntmps46
    go_wp2
    go_end0
    exact ⟨rfl, H.out.set2 x, gset (World.grownBy.refl _ _) _ _⟩
  · rw [if_neg he]
    have hb : (e == 0) = false := by simp [he]
    clear he
    go_enter Try.func46, Try.ntmps46
    go_wp2
    go_end0
    exact ⟨rfl, H.out, World.grownBy.refl _ _⟩

theorem left_any {g : Nat} {s : ByteArray} {a : Nat} {e : Int} {w : World} (h : Rd w 99 g s a e) (hs : s.size ≤ maxLen) (ha : a ≤ s.size) :
    Calls Try.prog 45 #[.pointer (some ⟨g, 0, none⟩)] w fun e' w' => e' = .returned (.int .i64 ((s.size : Int) - a)) ∧ ∃ n, w' = w.drewN n := by
  have c0 := h.c0
  have c1 := h.c1
  have hs2 : s.size ≤ 9223372036854775807 := hs
  clear h hs
  go_enter Try.func45, Try.ntmps45
  go_wp2
  go_quiet (fail)
  go_wp2
  go_ret
  exact ⟨rfl, _, rfl⟩

end Go.Proofs.Ytebickoieipjpaa
