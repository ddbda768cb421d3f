import Derived.Test.YtjgahidfhagafaaProg
import Derived.Test.YtjgahidfhagafaaBase
namespace Go.Proofs.Ytjgahidfhagafaa
open Go.RowKit Go.Gi

set_option maxHeartbeats 400000 in
theorem more_any (sum : Int) (s : ByteArray) (w : World) (hs : s.size ≤ maxLen) :
    Calls Try.prog 12 #[.int .u32 sum, .string s] w fun e w' => e = .returned (.int .u32 (sumL sum s.data.toList)) ∧ w' = w := by
  unfold maxLen at hs
  have hr0 := bits_u32_range .xor sum 4294967295
  obtain ⟨r0, hr⟩ : ∃ r0, bits .xor .u32 sum 4294967295 = r0 := ⟨_, rfl⟩
  have hsum : sumL sum s.data.toList = bits .xor .u32 (crcL r0 s.data.toList) 4294967295 := by unfold sumL; rw [hr]
  rw [hsum]
  rw [hr] at hr0
  clear hsum
  go_enter Try.func12, Try.ntmps12
  go_wp2
  clear hr
  go_loop [5, 6, 11] (fun r _ i => ∃ k : Nat, k ≤ s.size ∧ i = .int .i64 k ∧ r = .int .u32 (crcL r0 (s.data.toList.take k)))
      (fun _ _ i => s.size - (intOf i).toNat)
  case atStart => exact ⟨0, Nat.zero_le _, rfl, rfl⟩
  case round =>
    obtain ⟨k, hk, rfl, rfl⟩ := hrel
    have hz := crcL_range hr0 (s.data.toList.take k)
    by_cases hlt : k < s.size
    · have hsn : crcL r0 (s.data.toList.take (k + 1)) = crcB (crcL r0 (s.data.toList.take k)) s[k] := by rw [take_snoc s k hlt, crcL_snoc]
      have Hsn := Lib.hid hsn
      clear hsn
      generalize crcL r0 (s.data.toList.take k) = z at *
      have hy := bits_u32_range .xor z s[k].toNat
      obtain ⟨hz0, hz1⟩ := hz
      have hbt : (s[k].toNat : Int) < 256 := by have := s[k].toNat_lt; omega
      go_wp2
      unfold crcB at Hsn
      generalize bits .xor .u32 z ↑s[k].toNat = x0 at *
      clear hbt
      go_loop [5, 20] (fun r i => ∃ j : Nat, j ≤ 8 ∧ i = .int .i64 j ∧ r = .int .u32 (bitN j x0))
         (fun _ i => 8 - (intOf i).toNat)
      case atStart => exact ⟨0, by omega, rfl, rfl⟩
      case round =>
        obtain ⟨j, hj, rfl, rfl⟩ := hrel
        obtain ⟨hy0, hy1⟩ := bitN_range hy j
        by_cases hl8 : j < 8
        · have H1 := Lib.hid (show bitN (j + 1) x0 = bit1 (bitN j x0) from rfl)
          generalize bitN j x0 = y at *
          unfold bit1 at H1
          by_cases hb : bits .and .u32 y 1 = 1
          · have Hb := Lib.hid hb
            have hb' : (bits .and .u32 y 1 == 1) = true := by simp [hb]
            clear hb
            go_wp2
            go_round
            case rel => exact ⟨j + 1, by omega, by go_num, by rw [H1.out, if_pos Hb.out]⟩
            case measure => simp [intOf]; omega
          · have Hb := Lib.hid hb
            have hb' : (bits .and .u32 y 1 == 1) = false := by simp [hb]
            clear hb
            go_wp2
            go_round
            case rel => exact ⟨j + 1, by omega, by go_num, by rw [H1.out, if_neg Hb.out]⟩
            case measure => simp [intOf]; omega
        · obtain rfl : j = 8 := by omega
          go_wp2
          go_round
          case rel => exact ⟨k + 1, by omega, by go_num, by rw [Hsn.out]⟩
          case measure => simp [intOf]; omega
    · obtain rfl : k = s.size := by omega
      go_wp2
      go_ret
      exact ⟨ret_int (by rw [List.take_of_length_le (by simp)]), rfl⟩
end Go.Proofs.Ytjgahidfhagafaa
