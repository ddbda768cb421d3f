import Derived.Test.YtebickoieipjpaaProg
import Derived.Test.YtebickoieipjpaaBase
import Derived.Test.YtebickoieipjpaaPut
import Derived.Test.YtebickoieipjpaaCrc
namespace Go.Proofs.Ytebickoieipjpaa
open Go.RowKit Go.Gi
set_option maxRecDepth 20000

theorem text_more (s : ByteArray) (w : World) (hs : s.size ≤ maxLen) (h : 65535 < s.size) :
    Calls Try.prog 53 #[.string s] w fun e w' => e = .returned (.tuple #[.string ⟨#[]⟩, .int .i64 5]) ∧ w' = w := by
  unfold maxLen at hs
  go_enter Try.func53, Try.ntmps53
  go_wp2
  go_ret2
  exact ⟨rfl, rfl⟩

theorem text_ok (s : ByteArray) (w : World) (h : s.size ≤ 65535) :
    Calls Try.prog 53 #[.string s] w fun e w' => e = .returned (.tuple #[.string (bs (putL 2 s.size) ++ s), .int .i64 0]) ∧ Below w.heap.size w w' := by
  have hcat : (bs (putL 2 s.size)).size + s.size ≤ 9223372036854775807 := by rw [bs_size, putL_length]; omega
  go_enter Try.func53, Try.ntmps53
  go_wp2_with (go_at_call 39; refine (put_km _ _ _ s.size 2 rfl rfl (by omega)).mono ?_; rintro e w' ⟨rfl, hb⟩)
  go_ret2
  exact ⟨rfl, hb⟩


set_option maxHeartbeats 400000 in
theorem rput_any (n : Nat) (long : Int) (w : World) (h1 : n ≤ 18446744073709551615) :
    Calls Try.prog 32 #[.int .u64 n, .int .i64 long] w fun e w' => e = .returned (.string (bs (putL (clamp8 long) n))) ∧ Below w.heap.size w w' := by
  obtain ⟨m, hm⟩ : ∃ m : Int, min (max long 0) 8 = m := ⟨_, rfl⟩
  have hc : clamp8 long = m.toNat := by unfold clamp8; rw [hm]
  rw [hc]
  clear hc
  have hm1 : m ≤ 8 := by omega
  have hm2 : 0 ≤ m := by omega
  have Hm : Hid (min (max long 0) 8 = m) := hm
  clear hm
  go_enter Try.func32, Try.ntmps32
  go_wp2
  go_loopw [0, 5, 6] (fun x v i wr => ∃ k : Nat, k ≤ m.toNat ∧ x = .int .u64 ((n / 256 ^ k : Nat) : Int) ∧ i = .int .i64 k ∧ v = .string (bs (putL k n)) ∧ Below w.heap.size w wr)
      (fun _ _ i _ => m.toNat - (intOf i).toNat)
  case atStart => exact ⟨0, Nat.zero_le _, by simp, rfl, rfl, Below.refl _ _⟩
  case round =>
    obtain ⟨k, hk, rfl, rfl, rfl, hb⟩ := hrel
    have Hb := Lib.hid hb
    clear hb
    have hlen : (bs (putL k n)).size = k := by rw [bs_size, putL_length]
    by_cases hlt : k < m.toNat
    · have hl1 : (k : Int) < long := by have := Hm.out; omega
      have hl2 : (k : Int) < 8 := by omega
      have hq : n / 256 ^ k ≤ 18446744073709551615 := Nat.le_trans (Nat.div_le_self _ _) h1
      have Hs := Lib.hid (show bs (putL k n) ++ bs [UInt8.ofNat (n / 256 ^ k)] = bs (putL (k + 1) n) by rw [putL_snoc k n, bs_append])
      have Hq := Lib.hid (show n / 256 ^ (k + 1) = n / 256 ^ k / 256 by rw [Nat.pow_succ, Nat.div_div_eq_div_mul])
      have hcv := fun W => conv_lit1 (P := Try.prog) Try.underlying92 Try.underlying5 Try.underlying9 W (UInt8.ofNat (n / 256 ^ k)) ((n / 256 ^ k : Nat) % 256 : Int) (by simp)
      have hcat : (bs (putL k n)).size + (bs [UInt8.ofNat (n / 256 ^ k)]).size ≤ 9223372036854775807 := by rw [bs_size, putL_length, bs_size]; simp; omega
      generalize n / 256 ^ k = q at *
      go_wp2
      go_roundw
      case rel => exact ⟨k + 1, by omega, by rw [Hq.out]; simp, by go_num, by rw [Hs.out], Hb.out.alloc Hb.out.size _⟩
      case measure => simp [intOf]; omega
    · obtain rfl : k = m.toNat := by omega
      by_cases h8 : (m.toNat : Int) < long
      · have h9 : ¬ (m.toNat : Int) < 8 := by have := Hm.out; omega
        go_wp2
        go_ret
        exact ⟨rfl, Hb.out⟩
      · go_wp2
        go_ret
        exact ⟨rfl, Hb.out⟩

set_option maxHeartbeats 400000 in
theorem rnumber_any (s : ByteArray) (w : World) (hs : s.size ≤ maxLen) :
    Calls Try.prog 48 #[.string s] w fun e w' => e = .returned (.int .u64 ((numL s.data.toList % 18446744073709551616 : Nat) : Int)) ∧ w' = w := by
  unfold maxLen at hs
  go_enter Try.func48, Try.ntmps48
  go_wp2
  go_loop [3, 4] (fun x i => ∃ k : Nat, k ≤ s.size ∧ i = .int .i64 ((k : Int) - 1) ∧ x = .int .u64 ((numL (s.data.toList.drop k) % 18446744073709551616 : Nat) : Int))
      (fun _ i => (intOf i + 1).toNat)
  case atStart => exact ⟨s.size, Nat.le_refl _, rfl, by rw [List.drop_eq_nil_of_le (by simp)]; rfl⟩
  case round =>
    obtain ⟨k, hk, rfl, rfl⟩ := hrel
    by_cases hk0 : k = 0
    · subst hk0
      go_wp2
      go_ret
      exact ⟨ret_int (by simp), rfl⟩
    · obtain ⟨j, rfl⟩ : ∃ j, k = j + 1 := ⟨k - 1, by omega⟩
      have hj : j < s.size := by omega
      have hstep : numL (s.data.toList.drop j) % 18446744073709551616 = (numL (s.data.toList.drop (j + 1)) % 18446744073709551616 * 256 % 18446744073709551616 + s[j].toNat) % 18446744073709551616 := by
        rw [List.drop_eq_getElem_cons (by simpa using hj), numL]
        have : (s.data.toList[j]'(by simpa using hj)) = s[j] := rfl
        rw [this]
        omega
      have Hst := Lib.hid hstep
      clear hstep
      have hn := Nat.mod_lt (numL (s.data.toList.drop (j + 1))) (show 0 < 18446744073709551616 by decide)
      generalize numL (s.data.toList.drop (j + 1)) % 18446744073709551616 = q at *
      go_wp2
      go_round
      case rel => exact ⟨j, by omega, by go_num, by rw [Hst.out, wrapu64, wrapu64, wrapu64]; congr 1; omega⟩
      case measure => simp [intOf]


end Go.Proofs.Ytebickoieipjpaa
