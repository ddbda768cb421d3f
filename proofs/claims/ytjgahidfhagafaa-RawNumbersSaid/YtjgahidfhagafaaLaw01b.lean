import Derived.Test.YtjgahidfhagafaaLaw01a
import Derived.Test.YtjgahidfhagafaaGet
namespace Go.Proofs.Ytjgahidfhagafaa
open Go.RowKit Go.Gi

theorem put_nat (n : Nat) (long : Int) (w : World) (h1 : n ≤ 18446744073709551615) :
    Calls Try.prog 15 #[.int .u64 n, .int .i64 long] w fun e w' => e = .returned (.string (bs (putL (clamp8 long) n))) ∧ Below w.heap.size w w' :=
  put_km _ _ _ n _ rfl rfl h1
theorem rput_two (n : Nat) (w : World) (h1 : n ≤ 65535) :
    Calls Try.prog 16 #[.int .u64 n, .int .i64 2] w fun e w' => e = .returned (.string (bs (putL 2 n))) ∧ Below w.heap.size w w' :=
  rput_any n 2 w (by omega)

set_option maxHeartbeats 800000 in
theorem rawNumbers_arg_more (n : Nat) (long at_ : Int) (s : ByteArray) (w : World) (h : long < 0 ∨ 8 < long ∨ at_ < 0 ∨ (s.size : Int) < at_) (h0 : n ≤ 18446744073709551615) (hs : s.size ≤ 140737488351232) (h65 : 65535 < s.size) :
    Calls Try.prog 5 #[.int .u64 n, .agg #[.int .i64 long, .int .i64 at_], .string s] w fun e w' => e = .returned (.bool true) ∧ Below w.heap.size w w' := by
  have hs' : s.size ≤ maxLen := by unfold maxLen; omega
  have Hs := Lib.hid hs'
  have H := Lib.hid h
  have hl := Lib.hid (show 0 ≤ 65535 by decide)
  clear hs' h
  go_enter Try.func5, Try.ntmps5
  go_wp2
  go_quiet (fail)
  go_wp2_with (first | (go_at_call 13; refine (get_arg _ _ _ _ H.out).mono ?_; rintro e w' ⟨rfl, rfl⟩) | (go_at_call 14; refine (text_more _ _ Hs.out h65).mono ?_; rintro e w' ⟨rfl, rfl⟩) | (go_at_call 9; refine (awake01 _).mono ?_; rintro e w1 ⟨rfl, hb1⟩) | (go_at_call 15; refine (put_nat _ _ _ h0).mono ?_; rintro e w2 ⟨rfl, hb2⟩) | (go_at_call 16; ((with_reducible refine (rput_two _ _ hl.out).mono ?_); rintro e w4 ⟨rfl, hb4⟩)) | (go_at_call 16; refine (rput_any _ _ _ h0).mono ?_; rintro e w3 ⟨rfl, hb3⟩))
  all_goals first
    | (exfalso; have := H.out; omega)
    | (go_ret
       exact ⟨rfl, by repeat (first | exact Below.refl _ _ | apply balloc | apply bdrewN | (refine bstep ?_ (by assumption)))⟩)

set_option maxHeartbeats 800000 in
theorem rawNumbers_arg_less (n : Nat) (long at_ : Int) (s : ByteArray) (w : World) (h : long < 0 ∨ 8 < long ∨ at_ < 0 ∨ (s.size : Int) < at_) (h0 : n ≤ 18446744073709551615) (h65 : s.size ≤ 65535) :
    Calls Try.prog 5 #[.int .u64 n, .agg #[.int .i64 long, .int .i64 at_], .string s] w fun e w' => e = .returned (.bool true) ∧ Below w.heap.size w w' := by
  have hs' : s.size ≤ maxLen := by unfold maxLen; omega
  have Hs := Lib.hid hs'
  have H := Lib.hid h
  have hl := Lib.hid h65
  have hcat : (bs (putL 2 s.size)).size + s.size ≤ 9223372036854775807 := by rw [bs_size, putL_length]; omega
  clear hs' h
  go_enter Try.func5, Try.ntmps5
  go_wp2
  go_quiet (fail)
  go_wp2_with (first | (go_at_call 13; refine (get_arg _ _ _ _ H.out).mono ?_; rintro e w' ⟨rfl, rfl⟩) | (go_at_call 14; refine (text_ok _ _ h65).mono ?_; rintro e w5 ⟨rfl, hb5⟩) | (go_at_call 9; refine (awake01 _).mono ?_; rintro e w1 ⟨rfl, hb1⟩) | (go_at_call 15; refine (put_nat _ _ _ h0).mono ?_; rintro e w2 ⟨rfl, hb2⟩) | (go_at_call 16; ((with_reducible refine (rput_two _ _ hl.out).mono ?_); rintro e w4 ⟨rfl, hb4⟩)) | (go_at_call 16; refine (rput_any _ _ _ h0).mono ?_; rintro e w3 ⟨rfl, hb3⟩))
  all_goals first
    | (exfalso; have := H.out; omega)
    | (go_ret
       exact ⟨rfl, by repeat (first | exact Below.refl _ _ | apply balloc | apply bdrewN | (refine bstep ?_ (by assumption)))⟩)

set_option maxHeartbeats 800000 in
theorem rawNumbers_cut_more (n : Nat) (long at_ : Int) (s : ByteArray) (w : World) (h : 0 ≤ long ∧ long ≤ 8 ∧ 0 ≤ at_ ∧ at_ ≤ s.size ∧ (s.size : Int) - at_ < long) (h0 : n ≤ 18446744073709551615) (hs : s.size ≤ 140737488351232) (h65 : 65535 < s.size) :
    Calls Try.prog 5 #[.int .u64 n, .agg #[.int .i64 long, .int .i64 at_], .string s] w fun e w' => e = .returned (.bool true) ∧ Below w.heap.size w w' := by
  have hs' : s.size ≤ maxLen := by unfold maxLen; omega
  have Hs := Lib.hid hs'
  have H := Lib.hid h
  have hl := Lib.hid (show 0 ≤ 65535 by decide)
  clear hs' h
  go_enter Try.func5, Try.ntmps5
  go_wp2
  go_quiet (fail)
  go_wp2_with (first | (go_at_call 13; refine (get_cut _ _ _ _ H.out.1 H.out.2.1 H.out.2.2.1 H.out.2.2.2.1 H.out.2.2.2.2).mono ?_; rintro e w' ⟨rfl, rfl⟩) | (go_at_call 14; refine (text_more _ _ Hs.out h65).mono ?_; rintro e w' ⟨rfl, rfl⟩) | (go_at_call 9; refine (awake01 _).mono ?_; rintro e w1 ⟨rfl, hb1⟩) | (go_at_call 15; refine (put_nat _ _ _ h0).mono ?_; rintro e w2 ⟨rfl, hb2⟩) | (go_at_call 16; ((with_reducible refine (rput_two _ _ hl.out).mono ?_); rintro e w4 ⟨rfl, hb4⟩)) | (go_at_call 16; refine (rput_any _ _ _ h0).mono ?_; rintro e w3 ⟨rfl, hb3⟩))
  all_goals first
    | (exfalso; have := H.out; omega)
    | (go_ret
       exact ⟨rfl, by repeat (first | exact Below.refl _ _ | apply balloc | apply bdrewN | (refine bstep ?_ (by assumption)))⟩)

set_option maxHeartbeats 800000 in
theorem rawNumbers_cut_less (n : Nat) (long at_ : Int) (s : ByteArray) (w : World) (h : 0 ≤ long ∧ long ≤ 8 ∧ 0 ≤ at_ ∧ at_ ≤ s.size ∧ (s.size : Int) - at_ < long) (h0 : n ≤ 18446744073709551615) (h65 : s.size ≤ 65535) :
    Calls Try.prog 5 #[.int .u64 n, .agg #[.int .i64 long, .int .i64 at_], .string s] w fun e w' => e = .returned (.bool true) ∧ Below w.heap.size w w' := by
  have hs' : s.size ≤ maxLen := by unfold maxLen; omega
  have Hs := Lib.hid hs'
  have H := Lib.hid h
  have hl := Lib.hid h65
  have hcat : (bs (putL 2 s.size)).size + s.size ≤ 9223372036854775807 := by rw [bs_size, putL_length]; omega
  clear hs' h
  go_enter Try.func5, Try.ntmps5
  go_wp2
  go_quiet (fail)
  go_wp2_with (first | (go_at_call 13; refine (get_cut _ _ _ _ H.out.1 H.out.2.1 H.out.2.2.1 H.out.2.2.2.1 H.out.2.2.2.2).mono ?_; rintro e w' ⟨rfl, rfl⟩) | (go_at_call 14; refine (text_ok _ _ h65).mono ?_; rintro e w5 ⟨rfl, hb5⟩) | (go_at_call 9; refine (awake01 _).mono ?_; rintro e w1 ⟨rfl, hb1⟩) | (go_at_call 15; refine (put_nat _ _ _ h0).mono ?_; rintro e w2 ⟨rfl, hb2⟩) | (go_at_call 16; ((with_reducible refine (rput_two _ _ hl.out).mono ?_); rintro e w4 ⟨rfl, hb4⟩)) | (go_at_call 16; refine (rput_any _ _ _ h0).mono ?_; rintro e w3 ⟨rfl, hb3⟩))
  all_goals first
    | (exfalso; have := H.out; omega)
    | (go_ret
       exact ⟨rfl, by repeat (first | exact Below.refl _ _ | apply balloc | apply bdrewN | (refine bstep ?_ (by assumption)))⟩)

end Go.Proofs.Ytjgahidfhagafaa
