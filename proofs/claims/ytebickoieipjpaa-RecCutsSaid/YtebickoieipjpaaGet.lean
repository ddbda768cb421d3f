import Derived.Test.YtebickoieipjpaaProg
import Derived.Test.YtebickoieipjpaaBase
namespace Go.Proofs.Ytebickoieipjpaa
open Go.RowKit Go.Gi
set_option maxRecDepth 20000

theorem get_arg (s : ByteArray) (at_ long : Int) (w : World) (h : long < 0 ∨ 8 < long ∨ at_ < 0 ∨ (s.size : Int) < at_) :
    Calls Try.prog 42 #[.string s, .int .i64 at_, .int .i64 long] w fun e w' => e = .returned (.tuple #[.int .u64 0, .int .i64 1]) ∧ w' = w := by
  go_enter Try.func42, Try.ntmps42
  by_cases h1 : long < 0
  · go_wp2; go_ret2; exact ⟨rfl, rfl⟩
  by_cases h2 : 8 < long
  · go_wp2; go_ret2; exact ⟨rfl, rfl⟩
  by_cases h3 : at_ < 0
  · go_wp2; go_ret2; exact ⟨rfl, rfl⟩
  have h4 : (s.size : Int) < at_ := by omega
  clear h
  go_wp2; go_ret2; exact ⟨rfl, rfl⟩

theorem get_cut (s : ByteArray) (at_ long : Int) (w : World) (h0 : 0 ≤ long) (h1 : long ≤ 8) (h2 : 0 ≤ at_) (h3 : at_ ≤ s.size) (h4 : (s.size : Int) - at_ < long) :
    Calls Try.prog 42 #[.string s, .int .i64 at_, .int .i64 long] w fun e w' => e = .returned (.tuple #[.int .u64 0, .int .i64 4]) ∧ w' = w := by
  go_enter Try.func42, Try.ntmps42
  go_wp2; go_ret2; exact ⟨rfl, rfl⟩

set_option maxHeartbeats 400000 in
theorem get_nat (s : ByteArray) (a n : Nat) (w : World) (hs : s.size ≤ maxLen) (h1 : n ≤ 8) (h4 : a + n ≤ s.size) :
    Calls Try.prog 42 #[.string s, .int .i64 a, .int .i64 n] w fun e w' => e = .returned (.tuple #[.int .u64 (numL ((s.data.toList.drop a).take n) : Nat), .int .i64 0]) ∧ w' = w := by
  unfold maxLen at hs
  have hl : ((s.data.toList.drop a).take n).length = n := by simp; omega
  obtain ⟨l, hleq⟩ : ∃ l, (s.data.toList.drop a).take n = l := ⟨_, rfl⟩
  have Hl := Lib.hid hleq
  rw [hleq] at hl
  rw [hleq]
  clear hleq
  have g1 : decide ((n : Int) < 0) = false := decide_eq_false (by omega)
  have g2 : decide (8 < (n : Int)) = false := decide_eq_false (by omega)
  have g3 : decide ((a : Int) < 0) = false := decide_eq_false (by omega)
  have g4 : decide (s.size < a) = false := decide_eq_false (by omega)
  have g5 : decide ((s.size : Int) - a < n) = false := decide_eq_false (by omega)
  go_enter Try.func42, Try.ntmps42
  go_wp2
  go_loop [8, 9] (fun x i => ∃ k : Nat, k ≤ n ∧ i = .int .i64 ((k : Int) - 1) ∧ x = .int .u64 ((numL (l.drop k) : Nat) : Int))
      (fun _ i => (intOf i + 1).toNat)
  case atStart => exact ⟨n, Nat.le_refl _, rfl, by rw [List.drop_eq_nil_of_le (by omega)]; rfl⟩
  case round =>
    obtain ⟨k, hk, rfl, rfl⟩ := hrel
    by_cases hk0 : k = 0
    · subst hk0
      go_wp2
      go_ret2
      exact ⟨rfl, rfl⟩
    · obtain ⟨j, rfl⟩ : ∃ j, k = j + 1 := ⟨k - 1, by omega⟩
      have hj : a + j < s.size := by omega
      have hjl : j < l.length := by omega
      have hget : l[j] = s[a + j] := by
        have h := Hl.out
        subst h
        simp
        rfl
      have hstep : numL (l.drop j) = s[a + j].toNat + 256 * numL (l.drop (j + 1)) := by
        rw [List.drop_eq_getElem_cons hjl, numL, hget]
      have hlt := numL_lt (l.drop (j + 1))
      have hlt2 : 256 ^ (l.drop (j + 1)).length ≤ 256 ^ 7 := Nat.pow_le_pow_right (by decide) (by simp; omega)
      have hq : numL (l.drop (j + 1)) < 72057594037927936 := Nat.lt_of_lt_of_le hlt hlt2
      have Hst := Lib.hid hstep
      clear hstep hlt hlt2 hget
      generalize numL (l.drop (j + 1)) = q at *
      go_wp2
      go_round
      case rel => exact ⟨j, by omega, by go_num, by rw [Hst.out, wrapu64, or_byte hq]⟩
      case measure => simp [intOf]
end Go.Proofs.Ytebickoieipjpaa
