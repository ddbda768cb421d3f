import Derived.Test.YtjgahidfhagafaaLaw01b
namespace Go.Proofs.Ytjgahidfhagafaa
open Go.RowKit Go.Gi
theorem rnumber_ext (s : ByteArray) (a m : Nat) (w : World) (hm : m ≤ 8) (hs : s.size ≤ maxLen) :
    Calls Try.prog 17 #[.string (s.extract a (a + m))] w fun e w' => e = .returned (.int .u64 ((numL ((s.data.toList.drop a).take m) : Nat) : Int)) ∧ w' = w := by
  have h : numL ((s.data.toList.drop a).take m) % 18446744073709551616 = numL ((s.data.toList.drop a).take m) := by
    apply Nat.mod_eq_of_lt
    refine Nat.lt_of_lt_of_le (numL_lt _) (Nat.le_trans (Nat.pow_le_pow_right (by decide) (List.length_take_le _ _)) ?_)
    exact Nat.le_trans (Nat.pow_le_pow_right (by decide) hm) (by decide)
  have := rnumber_any (s.extract a (a + m)) w (Nat.le_trans (by simp; omega) hs)
  rw [extract_toList, Nat.add_sub_cancel_left, h] at this
  exact this

set_option maxHeartbeats 800000 in
theorem rawNumbers_ok_less (n a m : Nat) (s : ByteArray) (w : World) (hm : m ≤ 8) (ham : a + m ≤ s.size) (h0 : n ≤ 18446744073709551615) (h65 : s.size ≤ 65535) :
    Calls Try.prog 5 #[.int .u64 n, .agg #[.int .i64 m, .int .i64 a], .string s] w fun e w' => e = .returned (.bool true) ∧ Below w.heap.size w w' := by
  have hs' : s.size ≤ maxLen := by unfold maxLen; omega
  have Hs := Lib.hid hs'
  have hl := Lib.hid h65
  have hcat : (bs (putL 2 s.size)).size + s.size ≤ 9223372036854775807 := by rw [bs_size, putL_length]; omega
  have g1 : ¬ (m : Int) < 0 := by omega
  have g2 : ¬ (8 : Int) < m := by omega
  have g3 : ¬ (a : Int) < 0 := by omega
  have g4 : ¬ (s.size : Int) < a := by omega
  have g5 : ¬ (s.size : Int) - a < m := by omega
  have g6 : (a : Int) + m ≤ s.size := by omega
  have g7 : 0 ≤ (a : Int) + m := by omega
  have g8 : (a : Int) ≤ a + m := by omega
  clear hs'
  go_enter Try.func5, Try.ntmps5
  go_wp2
  go_quiet (fail)
  go_wp2_with (first | (go_at_call 13; refine (get_nat _ _ _ _ Hs.out hm ham).mono ?_; rintro e w' ⟨rfl, rfl⟩) | (go_at_call 14; refine (text_ok _ _ h65).mono ?_; rintro e w5 ⟨rfl, hb5⟩) | (go_at_call 9; refine (awake01 _).mono ?_; rintro e w1 ⟨rfl, hb1⟩) | (go_at_call 15; refine (put_nat _ _ _ h0).mono ?_; rintro e w2 ⟨rfl, hb2⟩) | (go_at_call 16; ((with_reducible refine (rput_two _ _ hl.out).mono ?_); rintro e w4 ⟨rfl, hb4⟩)) | (go_at_call 17; refine (rnumber_ext _ _ _ _ hm Hs.out).mono ?_; rintro e w' ⟨rfl, rfl⟩) | (go_at_call 16; refine (rput_any _ _ _ h0).mono ?_; rintro e w3 ⟨rfl, hb3⟩))
  go_ret
  exact ⟨rfl, by repeat (first | exact Below.refl _ _ | apply balloc | apply bdrewN | (refine bstep ?_ (by assumption)))⟩

set_option maxHeartbeats 800000 in
theorem rawNumbers_ok_more (n a m : Nat) (s : ByteArray) (w : World) (hm : m ≤ 8) (ham : a + m ≤ s.size) (h0 : n ≤ 18446744073709551615) (hs : s.size ≤ 140737488351232) (h65 : 65535 < s.size) :
    Calls Try.prog 5 #[.int .u64 n, .agg #[.int .i64 m, .int .i64 a], .string s] w fun e w' => e = .returned (.bool true) ∧ Below w.heap.size w w' := by
  have hs' : s.size ≤ maxLen := by unfold maxLen; omega
  have Hs := Lib.hid hs'
  have g1 : ¬ (m : Int) < 0 := by omega
  have g2 : ¬ (8 : Int) < m := by omega
  have g3 : ¬ (a : Int) < 0 := by omega
  have g4 : ¬ (s.size : Int) < a := by omega
  have g5 : ¬ (s.size : Int) - a < m := by omega
  have g6 : (a : Int) + m ≤ s.size := by omega
  have g7 : 0 ≤ (a : Int) + m := by omega
  have g8 : (a : Int) ≤ a + m := by omega
  clear hs'
  go_enter Try.func5, Try.ntmps5
  go_wp2
  go_quiet (fail)
  go_wp2_with (first | (go_at_call 13; refine (get_nat _ _ _ _ Hs.out hm ham).mono ?_; rintro e w' ⟨rfl, rfl⟩) | (go_at_call 14; refine (text_more _ _ Hs.out h65).mono ?_; rintro e w' ⟨rfl, rfl⟩) | (go_at_call 9; refine (awake01 _).mono ?_; rintro e w1 ⟨rfl, hb1⟩) | (go_at_call 15; refine (put_nat _ _ _ h0).mono ?_; rintro e w2 ⟨rfl, hb2⟩) | (go_at_call 17; refine (rnumber_ext _ _ _ _ hm Hs.out).mono ?_; rintro e w' ⟨rfl, rfl⟩) | (go_at_call 16; refine (rput_any _ _ _ h0).mono ?_; rintro e w3 ⟨rfl, hb3⟩))
  go_ret
  exact ⟨rfl, by repeat (first | exact Below.refl _ _ | apply balloc | apply bdrewN | (refine bstep ?_ (by assumption)))⟩

theorem rawNumbers_any (n : Int) (long at_ : Int) (s : ByteArray) (w : World) (hn : 0 ≤ n) (h0 : n ≤ 18446744073709551615) (hs : s.size ≤ 140737488351232) :
    Calls Try.prog 5 #[.int .u64 n, .agg #[.int .i64 long, .int .i64 at_], .string s] w fun e w' => e = .returned (.bool true) ∧ Below w.heap.size w w' := by
  obtain ⟨n, rfl⟩ := Int.eq_ofNat_of_zero_le hn
  by_cases h : long < 0 ∨ 8 < long ∨ at_ < 0 ∨ (s.size : Int) < at_
  · by_cases h65 : 65535 < s.size
    · exact rawNumbers_arg_more n long at_ s w h (by omega) hs h65
    · exact rawNumbers_arg_less n long at_ s w h (by omega) (by omega)
  · by_cases hc : (s.size : Int) - at_ < long
    · by_cases h65 : 65535 < s.size
      · exact rawNumbers_cut_more n long at_ s w (by omega) (by omega) hs h65
      · exact rawNumbers_cut_less n long at_ s w (by omega) (by omega) (by omega)
    · obtain ⟨m, rfl⟩ := Int.eq_ofNat_of_zero_le (show 0 ≤ long by omega)
      obtain ⟨a, rfl⟩ := Int.eq_ofNat_of_zero_le (show 0 ≤ at_ by omega)
      by_cases h65 : 65535 < s.size
      · exact rawNumbers_ok_more n a m s w (by omega) (by omega) (by omega) hs h65
      · exact rawNumbers_ok_less n a m s w (by omega) (by omega) (by omega) (by omega)
end Go.Proofs.Ytjgahidfhagafaa
