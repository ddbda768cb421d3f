import Derived.Test.YtjgahidfhagafaaRefNum
namespace Go.Proofs.Ytjgahidfhagafaa
open Go.RowKit Go.Gi

theorem sum_123 (w : World) : Calls Try.prog 10 #[.string ⟨#[49, 50, 51, 52, 53, 54, 55, 56, 57]⟩] w fun e w' => e = .returned (.int .u32 3808858755) ∧ w' = w := by
  have h : sumL 0 [49, 50, 51, 52, 53, 54, 55, 56, 57] = 3808858755 := by decide +kernel
  rw [← h]
  exact sum_any ⟨#[49, 50, 51, 52, 53, 54, 55, 56, 57]⟩ w (by decide)
theorem put_258 (w : World) : Calls Try.prog 15 #[.int .u64 258, .int .i64 2] w fun e w' => e = .returned (.string ⟨#[2, 1]⟩) ∧ Below w.heap.size w w' :=
  put_km 258 2 w 258 2 rfl rfl (by decide)

theorem awake01 (w : World) : Calls Try.prog 9 #[] w fun e w' => e = .returned (.bool true) ∧ Below w.heap.size w w' := by
  go_enter Try.func9, Try.ntmps9
  go_wp2_with (first | (go_at_call 10; refine (sum_123 _).mono ?_; rintro e w' ⟨rfl, rfl⟩) | (go_at_call 15; refine (put_258 _).mono ?_; rintro e w' ⟨rfl, hb⟩))
  go_ret
  exact ⟨rfl, hb⟩

theorem rmore_ab (a b : ByteArray) (w : World) (hs : (a ++ b).size ≤ maxLen) :
    Calls Try.prog 11 #[.int .u32 0, .string (a ++ b)] w fun e w' => e = .returned (.int .u32 (sumL (sumL 0 a.data.toList) b.data.toList)) ∧ w' = w := by
  rw [← sumL_append, show a.data.toList ++ b.data.toList = (a ++ b).data.toList by simp]
  exact rmore_any 0 (a ++ b) w hs (by decide) (by decide)

theorem rawSums_any (a b : ByteArray) (sum : Int) (w : World) (h0 : 0 ≤ sum) (h1 : sum ≤ 4294967295) (ha : a.size ≤ 140737488351232) (hb : b.size ≤ 140737488351232) :
    Calls Try.prog 3 #[.string a, .string b, .int .u32 sum] w fun e w' => e = .returned (.bool true) ∧ Below w.heap.size w w' := by
  have ha' : a.size ≤ maxLen := by unfold maxLen; omega
  have hb' : b.size ≤ maxLen := by unfold maxLen; omega
  have hab : (a ++ b).size ≤ maxLen := by unfold maxLen; rw [ByteArray.size_append]; omega
  have hcat : a.size + b.size ≤ 9223372036854775807 := by omega
  have Ha := Lib.hid ha'
  have Hb := Lib.hid hb'
  have Hab := Lib.hid hab
  clear ha' hb' hab
  go_enter Try.func3, Try.ntmps3
  go_wp2_with (first | (go_at_call 9; refine (awake01 _).mono ?_; rintro e w' ⟨rfl, hbel⟩) | (go_at_call 10; refine (sum_any _ _ Ha.out).mono ?_; rintro e w' ⟨rfl, rfl⟩) | (go_at_call 11; ((with_reducible refine (rmore_ab _ _ _ Hab.out).mono ?_); rintro e w' ⟨rfl, rfl⟩)) | (go_at_call 11; refine (rmore_any _ _ _ (by first | exact Ha.out | exact Hb.out) (by omega) (by omega)).mono ?_; rintro e w' ⟨rfl, rfl⟩) | (go_at_call 12; refine (more_any _ _ _ Hb.out).mono ?_; rintro e w' ⟨rfl, rfl⟩))
  go_ret
  exact ⟨rfl, hbel⟩
end Go.Proofs.Ytjgahidfhagafaa
