import Derived.Test.YtebickoieipjpaaRdBase
import Derived.Test.YtebickoieipjpaaGet
namespace Go.Proofs.Ytebickoieipjpaa
open Go.RowKit Go.Gi
set_option maxRecDepth 20000

theorem err_any {g : Nat} {s : ByteArray} {a : Nat} {e : Int} {w : World} (h : Rd w 99 g s a e) :
    Calls Try.prog 25 #[.pointer (some ⟨g, 0, none⟩)] w fun e' w' => e' = .returned (.int .i64 e) ∧ w' = w := by
  have hc := h.c2
  go_enter Try.func25, Try.ntmps25
  go_wp2
  go_ret
  exact ⟨rfl, rfl⟩

set_option maxHeartbeats 800000 in
theorem num_any {g : Nat} {s : ByteArray} {a : Nat} {e : Int} {w : World} (h : Rd w 99 g s a e) (long : Int) (hs : s.size ≤ maxLen) (ha : a ≤ s.size) :
    Calls Try.prog 23 #[.pointer (some ⟨g, 0, none⟩), .int .i64 long] w fun e' w' =>
      e' = .returned (.int .u64 ((rNum s.data.toList a e long).1 : Nat)) ∧ Rd w' 99 g s (rNum s.data.toList a e long).2.1 (rNum s.data.toList a e long).2.2 ∧ w.grownBy w' (some g) := by
  have H := Lib.hid h
  have c0 := h.c0
  have c1 := h.c1
  have c2 := h.c2
  have f1 := h.f 1
  have f2 := h.f 2
  have hl : s.data.toList.length = s.size := by simp
  have hs2 : s.size ≤ 9223372036854775807 := hs
  have Hs := Lib.hid hs
  clear h hs
  unfold rNum
  rw [hl]
  by_cases he : e = 0
  · subst he
    by_cases h1 : long < 0 ∨ 8 < long
    · rw [if_neg (by simp), if_pos h1]
      have H1 := Lib.hid (show long < 0 ∨ 8 < long ∨ (a : Int) < 0 ∨ (s.size : Int) < a by omega)
      clear h1 hl
      go_enter Try.func23, Try.ntmps23
      go_wp2_with (go_at_call 25; refine (err_any H.out).mono ?_; rintro e w' ⟨rfl, rfl⟩)
      go_quiet ((go_at_call 42; exact Calls.quiet_of_same (get_arg _ _ _ _ H1.out)))
      go_wp2
      go_ret
      exact ⟨rfl, (H.out.drewN _).set2 1, gset (gdrewN (World.grownBy.refl _ _) _) _ _⟩
    · obtain ⟨m, rfl⟩ := Int.eq_ofNat_of_zero_le (show 0 ≤ long by omega)
      rw [if_neg (by simp), if_neg h1]
      have hm : m ≤ 8 := by omega
      by_cases h2 : (s.size : Int) - a < m
      · rw [if_pos h2]
        have H1 := Lib.hid (show (0 : Int) ≤ m ∧ (m : Int) ≤ 8 ∧ (0 : Int) ≤ a ∧ (a : Int) ≤ s.size ∧ (s.size : Int) - a < m by omega)
        clear h1 hl
        go_enter Try.func23, Try.ntmps23
        go_wp2_with (go_at_call 25; refine (err_any H.out).mono ?_; rintro e w' ⟨rfl, rfl⟩)
        go_quiet ((go_at_call 42; exact Calls.quiet_of_same (get_cut _ _ _ _ H1.out.1 H1.out.2.1 H1.out.2.2.1 H1.out.2.2.2.1 H1.out.2.2.2.2)))
        go_wp2
        go_ret
        exact ⟨rfl, (H.out.drewN _).set2 4, gset (gdrewN (World.grownBy.refl _ _) _) _ _⟩
      · rw [if_neg h2]
        have ham : a + m ≤ s.size := by omega
        clear h1 hl
        go_enter Try.func23, Try.ntmps23
        go_wp2_with (go_at_call 25; refine (err_any H.out).mono ?_; rintro e w' ⟨rfl, rfl⟩)
        go_quiet ((go_at_call 42; exact Calls.quiet_of_same (get_nat _ _ _ _ Hs.out hm ham)))
        go_wp2
        go_ret
        exact ⟨rfl, (H.out.drewN _).set1 (a + m), gset (gdrewN (World.grownBy.refl _ _) _) _ _⟩
  · rw [if_pos he]
    have hb : (e != 0) = true := by simp [he]
    clear he hl
    go_enter Try.func23, Try.ntmps23
    go_wp2_with (go_at_call 25; refine (err_any H.out).mono ?_; rintro e w' ⟨rfl, rfl⟩)
    go_ret
    exact ⟨rfl, H.out, World.grownBy.refl _ _⟩
set_option maxHeartbeats 800000 in
theorem bytes_any {g : Nat} {s : ByteArray} {a : Nat} {e : Int} {w : World} (h : Rd w 99 g s a e) (n : Int) (hs : s.size ≤ maxLen) (ha : a ≤ s.size) :
    Calls Try.prog 54 #[.pointer (some ⟨g, 0, none⟩), .int .i64 n] w fun e' w' =>
      e' = .returned (.string (bs (rTake s.data.toList a e n).1)) ∧ Rd w' 99 g s (rTake s.data.toList a e n).2.1 (rTake s.data.toList a e n).2.2 ∧ w.grownBy w' (some g) := by
  have H := Lib.hid h
  have c0 := h.c0
  have c1 := h.c1
  have c2 := h.c2
  have f1 := h.f 1
  have f2 := h.f 2
  have hl : s.data.toList.length = s.size := by simp
  have hs2 : s.size ≤ 9223372036854775807 := hs
  have Hs := Lib.hid hs
  clear h hs
  unfold rTake
  rw [hl]
  by_cases he : e = 0
  · subst he
    by_cases h1 : n < 0
    · rw [if_neg (by simp), if_pos h1]
      clear hl
      go_enter Try.func54, Try.ntmps54
      go_wp2_with (go_at_call 25; refine (err_any H.out).mono ?_; rintro e w' ⟨rfl, rfl⟩)
      go_ret
      exact ⟨rfl, H.out.set2 1, gset (World.grownBy.refl _ _) _ _⟩
    · obtain ⟨m, rfl⟩ := Int.eq_ofNat_of_zero_le (show 0 ≤ n by omega)
      rw [if_neg (by simp), if_neg h1]
      by_cases h2 : (s.size : Int) - a < m
      · rw [if_pos h2]
        have g1 : decide ((s.size : Int) - a < m) = true := decide_eq_true h2
        clear h1 hl h2
        go_enter Try.func54, Try.ntmps54
        go_wp2_with (go_at_call 25; refine (err_any H.out).mono ?_; rintro e w' ⟨rfl, rfl⟩)
        go_quiet (fail)
        go_wp2
        go_ret
        exact ⟨rfl, (H.out.drewN _).set2 4, gset (gdrewN (World.grownBy.refl _ _) _) _ _⟩
      · rw [if_neg h2]
        have ham : a + m ≤ s.size := by omega
        clear h1 hl
        go_enter Try.func54, Try.ntmps54
        go_wp2_with (go_at_call 25; refine (err_any H.out).mono ?_; rintro e w' ⟨rfl, rfl⟩)
        go_quiet (fail)
        have hw1 : IntKind.i64.wrap (a : Int) = a := IntWalk.i64_in _ (by omega)
        have hw2 : 0 ≤ (a : Int) + m := by omega
        have hw3 : (a : Int) + m ≤ s.size := by omega
        have hw4 : (a : Int) ≤ a + m := by omega
        go_wp2
        go_quiet (fail)
        clear hw1
        go_wp2
        go_ret
        exact ⟨ret_str (by rw [extract_bs]; simp), ((H.out.drewN _).set1 (a + m)).drewN _, gdrewN (gset (gdrewN (World.grownBy.refl _ _) _) _ _) _⟩
  · rw [if_pos he]
    have hb : (e != 0) = true := by simp [he]
    clear he hl
    go_enter Try.func54, Try.ntmps54
    go_wp2_with (go_at_call 25; refine (err_any H.out).mono ?_; rintro e w' ⟨rfl, rfl⟩)
    go_ret
    exact ⟨rfl, H.out, World.grownBy.refl _ _⟩
theorem num_eq {g : Nat} {s : ByteArray} {a : Nat} {e : Int} {w : World} (h : Rd w 99 g s a e) (hs : s.size ≤ maxLen) (ha : a ≤ s.size) (long : Int) (v a1 : Nat) (e1 : Int) (hn : rNum s.data.toList a e long = (v, a1, e1)) :
    Calls Try.prog 23 #[.pointer (some ⟨g, 0, none⟩), .int .i64 long] w fun e' w' => e' = .returned (.int .u64 (v : Nat)) ∧ Rd w' 99 g s a1 e1 ∧ w.grownBy w' (some g) := by
  have := num_any h long hs ha
  rw [hn] at this
  exact this
theorem bytes_eq {g : Nat} {s : ByteArray} {a : Nat} {e : Int} {w : World} (h : Rd w 99 g s a e) (hs : s.size ≤ maxLen) (ha : a ≤ s.size) (n : Int) (l : List UInt8) (a1 : Nat) (e1 : Int) (hn : rTake s.data.toList a e n = (l, a1, e1)) :
    Calls Try.prog 54 #[.pointer (some ⟨g, 0, none⟩), .int .i64 n] w fun e' w' => e' = .returned (.string (bs l)) ∧ Rd w' 99 g s a1 e1 ∧ w.grownBy w' (some g) := by
  have := bytes_any h n hs ha
  rw [hn] at this
  exact this

set_option maxHeartbeats 1600000 in
theorem rtext_any {g : Nat} {s : ByteArray} {a : Nat} {e : Int} {w : World} (h : Rd w 99 g s a e) (most : Int) (hs : s.size ≤ maxLen) (ha : a ≤ s.size) :
    Calls Try.prog 43 #[.pointer (some ⟨g, 0, none⟩), .int .i64 most] w fun e' w' =>
      e' = .returned (.string (bs (rText s.data.toList a e most).1)) ∧ Rd w' 99 g s (rText s.data.toList a e most).2.1 (rText s.data.toList a e most).2.2 ∧ w.grownBy w' (some g) := by
  have H := Lib.hid h
  have c0 := h.c0
  have c1 := h.c1
  have c2 := h.c2
  have f1 := h.f 1
  have f2 := h.f 2
  have hl : s.data.toList.length = s.size := by simp
  have hs2 : s.size ≤ 9223372036854775807 := hs
  have Hs := Lib.hid hs
  clear h hs
  by_cases he : e = 0
  · subst he
    by_cases h2 : (s.size : Int) - a < 2
    · have HN := Lib.hid (show rNum s.data.toList a 0 2 = (0, a, 4) by unfold rNum; rw [hl, if_neg (by simp), if_neg (by omega), if_pos h2])
      have HT := Lib.hid (show rText s.data.toList a 0 most = ([], a, 4) by unfold rText; rw [hl, if_neg (by simp), if_pos h2])
      rw [HT.out]
      clear hl
      go_enter Try.func43, Try.ntmps43
      go_wp2_with (first | (go_at_call 25; refine (err_any H.out).mono ?_; rintro e w' ⟨rfl, rfl⟩) | (go_at_call 23; refine (num_eq H.out Hs.out ha 2 0 a 4 HN.out).mono ?_; rintro e w1 ⟨rfl, h1, hg1⟩; have k0 := h1.c0; have k1 := h1.c1; have k2 := h1.c2; have kf1 := h1.f 1; have kf2 := h1.f 2; have Hk := Lib.hid h1; clear h1) | (go_at_call 54; refine (bytes_eq Hk.out Hs.out ha 0 [] a 4 (by unfold rTake; rw [if_pos (by simp)])).mono ?_; rintro e w2 ⟨rfl, h2', hg2⟩; have j0 := h2'.c0; have j1 := h2'.c1; have j2 := h2'.c2; have jf1 := h2'.f 1; have jf2 := h2'.f 2; have Hj := Lib.hid h2'; clear h2'))
      go_ret
      exact ⟨rfl, Hj.out.set1 a, gset (gstep hg1 hg2) _ _⟩
    · have HN := Lib.hid (show rNum s.data.toList a 0 2 = (numL ((s.data.toList.drop a).take 2), a + 2, 0) by unfold rNum; rw [hl, if_neg (by simp), if_neg (by omega), if_neg h2]; rfl)
      have hn0 := numL_lt ((s.data.toList.drop a).take 2)
      have hn : numL ((s.data.toList.drop a).take 2) < 65536 := Nat.lt_of_lt_of_le hn0 (Nat.pow_le_pow_right (by decide) (List.length_take_le _ _))
      clear hn0
      have ha2 : a + 2 ≤ s.size := by omega
      have hT : rText s.data.toList a 0 most = if most < (numL ((s.data.toList.drop a).take 2) : Nat) then ([], a, 5)
          else if (s.size : Int) - (a + 2 : Nat) < (numL ((s.data.toList.drop a).take 2) : Nat) then ([], a, 4)
          else ((s.data.toList.drop (a + 2)).take (numL ((s.data.toList.drop a).take 2)), a + 2 + numL ((s.data.toList.drop a).take 2), 0) := by
        unfold rText; rw [hl, if_neg (by simp), if_neg h2]
      have HT := Lib.hid hT
      clear hT
      generalize numL ((s.data.toList.drop a).take 2) = n at *
      have hk : IntKind.i64.wrap (n : Int) = n := IntWalk.i64_in _ (by omega)
      rw [HT.out]
      by_cases h3 : most < (n : Int)
      · rw [if_pos h3]
        clear hl
        go_enter Try.func43, Try.ntmps43
        go_wp2_with (first | (go_at_call 25; refine (err_any H.out).mono ?_; rintro e w' ⟨rfl, rfl⟩) | (go_at_call 23; refine (num_eq H.out Hs.out ha 2 n (a + 2) 0 HN.out).mono ?_; rintro e w1 ⟨rfl, h1, hg1⟩; have k0 := h1.c0; have k1 := h1.c1; have k2 := h1.c2; have kf1 := h1.f 1; have kf2 := h1.f 2; have Hk := Lib.hid h1; clear h1) | (go_at_call 54; refine (bytes_eq (Hk.out.set2 5) Hs.out ha2 n [] (a + 2) 5 (by unfold rTake; rw [if_pos (by simp)])).mono ?_; rintro e w2 ⟨rfl, h2', hg2⟩; have j0 := h2'.c0; have j1 := h2'.c1; have j2 := h2'.c2; have jf1 := h2'.f 1; have jf2 := h2'.f 2; have Hj := Lib.hid h2'; clear h2'))
        go_ret
        exact ⟨rfl, Hj.out.set1 a, gset (gstep (gset hg1 _ _) hg2) _ _⟩
      · rw [if_neg h3]
        by_cases h4 : (s.size : Int) - (a + 2 : Nat) < n
        · rw [if_pos h4]
          have h4' := Lib.hid h4
          clear h4 hl
          go_enter Try.func43, Try.ntmps43
          go_wp2_with (first | (go_at_call 25; refine (err_any H.out).mono ?_; rintro e w' ⟨rfl, rfl⟩) | (go_at_call 23; refine (num_eq H.out Hs.out ha 2 n (a + 2) 0 HN.out).mono ?_; rintro e w1 ⟨rfl, h1, hg1⟩; have k0 := h1.c0; have k1 := h1.c1; have k2 := h1.c2; have kf1 := h1.f 1; have kf2 := h1.f 2; have Hk := Lib.hid h1; clear h1) | (go_at_call 54; refine (bytes_eq Hk.out Hs.out ha2 n [] (a + 2) 4 (by unfold rTake; rw [if_neg (by simp), if_neg (by omega), if_pos (by simp; have := h4'.out; omega)])).mono ?_; rintro e w2 ⟨rfl, h2', hg2⟩; have j0 := h2'.c0; have j1 := h2'.c1; have j2 := h2'.c2; have jf1 := h2'.f 1; have jf2 := h2'.f 2; have Hj := Lib.hid h2'; clear h2'))
          go_ret
          exact ⟨rfl, Hj.out.set1 a, gset (gstep hg1 hg2) _ _⟩
        · rw [if_neg h4]
          have h4' := Lib.hid h4
          clear h4 hl
          go_enter Try.func43, Try.ntmps43
          go_wp2_with (first | (go_at_call 25; refine (err_any H.out).mono ?_; rintro e w' ⟨rfl, rfl⟩) | (go_at_call 23; refine (num_eq H.out Hs.out ha 2 n (a + 2) 0 HN.out).mono ?_; rintro e w1 ⟨rfl, h1, hg1⟩; have k0 := h1.c0; have k1 := h1.c1; have k2 := h1.c2; have kf1 := h1.f 1; have kf2 := h1.f 2; have Hk := Lib.hid h1; clear h1) | (go_at_call 54; refine (bytes_eq Hk.out Hs.out ha2 n ((s.data.toList.drop (a + 2)).take n) (a + 2 + n) 0 (by unfold rTake; rw [if_neg (by simp), if_neg (by omega), if_neg (by simp; have := h4'.out; omega)]; rfl)).mono ?_; rintro e w2 ⟨rfl, h2', hg2⟩; have j0 := h2'.c0; have j1 := h2'.c1; have j2 := h2'.c2; have jf1 := h2'.f 1; have jf2 := h2'.f 2; have Hj := Lib.hid h2'; clear h2'))
          go_ret
          exact ⟨rfl, Hj.out, gstep hg1 hg2⟩
  · have HT := Lib.hid (show rText s.data.toList a e most = ([], a, e) by unfold rText; rw [if_pos he])
    rw [HT.out]
    have hb : (e != 0) = true := by simp [he]
    clear he hl
    go_enter Try.func43, Try.ntmps43
    go_wp2_with (go_at_call 25; refine (err_any H.out).mono ?_; rintro e w' ⟨rfl, rfl⟩)
    go_ret
    exact ⟨rfl, H.out, World.grownBy.refl _ _⟩
end Go.Proofs.Ytebickoieipjpaa
