import Derived.Test.YtebickoieipjpaaProg
import Derived.Test.YtebickoieipjpaaBase
namespace Go.Proofs.Ytebickoieipjpaa
open Go.RowKit Go.Gi
set_option maxRecDepth 20000
attribute [local go_sem] max2_int min2_int max_two min_two

theorem infoU8 : (Try.prog.info? 5).map (fun i => (i.zero, i.size, i.bytes)) = some (some (.int .u8 0), 1, 1) := by kernel_rfl

theorem u8V_ofNat (n k : Nat) : Value.int .u8 ((n : Int) / 256 ^ k % 256) = u8V (UInt8.ofNat (n / 256 ^ k)) := by
  simp [u8V]

set_option maxHeartbeats 400000 in
theorem put_any (n long : Int) (w : World) (h0 : 0 ≤ n) (h1 : n ≤ 18446744073709551615) :
    Calls Try.prog 39 #[.int .u64 n, .int .i64 long] w fun e w' => e = .returned (.string (bs (putL (clamp8 long) n.toNat))) ∧ Below w.heap.size w w' := by
  obtain ⟨i0, hi, hz0, hz1, hz2⟩ := info_parts infoU8
  obtain ⟨m, hm⟩ : ∃ m : Int, min (max long 0) 8 = m := ⟨_, rfl⟩
  have hm0 : 0 ≤ m := by omega
  have hm8 : m ≤ 8 := by omega
  have hc : clamp8 long = m.toNat := by unfold clamp8; rw [hm]
  rw [hc]
  clear hc
  obtain ⟨n, rfl⟩ := Int.eq_ofNat_of_zero_le h0
  go_enter Try.func39, Try.ntmps39
  go_wp2
  go_loopw [0, 5, 9] (fun x v i wr => ∃ k : Nat, k ≤ m.toNat ∧ x = .int .u64 ((n / 256 ^ k : Nat) : Int) ∧ i = .int .i64 k ∧ wr.ownsRow w.heap.size 5 1 v k ((putL k n).map u8V) ∧ Below w.heap.size w wr)
      (fun _ _ i _ => m.toNat - (intOf i).toNat)
  case atStart => exact ⟨0, Nat.zero_le _, by simp, rfl, World.ownsRow_nil _ _ _ _, Below.refl _ _⟩
  case round =>
    obtain ⟨k, hk, rfl, rfl, hown, hb⟩ := hrel
    have Hb := Lib.hid hb
    clear hb
    by_cases hlt : k < m.toNat
    · go_wp2_with (at_builtin; refine wpList_append_own _ rfl _ _ 92 rfl w.heap.size 5 i0 (.int .u8 0) 1 1 Try.underlying92 hi hz0 hz1 hz2 rfl (by decide) _ _ _ rfl (hown.alloc _) ⟨wr.heap.size, 0, none⟩ 1 1 [.int .u8 ((n : Int) / 256 ^ k % 256)] rfl rfl ?c1 ?c2 ?c3 ?c4 ?c5 ?_)
      case c1 => intro j u hj; match j, hj with | 0, hj => simp at hj; subst hj; simp [Addr.add]
      case c2 => intro u hu; simp at hu; subst hu; rfl
      case c3 => unfold maxLen; omega
      case c4 => omega
      case c5 => have := Hb.out.size; simp; omega
      intro v' w1 hown1 hgrow1 _
      have hb1 : Below w.heap.size w w1 := (Hb.out.alloc Hb.out.size _).grown hgrow1 (by have := Hb.out.size; simp; omega) (fun k hk => (hown.lt k hk).1)
      have Hb1 := Lib.hid hb1
      clear hb1 Hb
      rw [u8V_ofNat, ← List.map_singleton, ← List.map_append, ← putL_snoc] at hown1
      go_wp2
      go_roundw
      case rel => exact ⟨k + 1, by omega, by simp only [Value.int.injEq, true_and]; rw [Nat.pow_succ, ← Nat.div_div_eq_div_mul]; simp, by go_num, hown1, Hb1.out⟩
      case measure => simp [intOf]; omega
    · have hcv := own_string (P := Try.prog) Try.underlying92 Try.underlying5 Try.underlying9 hown
      obtain rfl : k = m.toNat := by omega
      go_wp2
      go_ret
      exact ⟨by simp, Hb.out⟩

theorem put_km (n long : Int) (w : World) (m k : Nat) (hn : n = m) (hk : clamp8 long = k) (hm : m ≤ 18446744073709551615) :
    Calls Try.prog 39 #[.int .u64 n, .int .i64 long] w fun e w' => e = .returned (.string (bs (putL k m))) ∧ Below w.heap.size w w' := by
  subst hn hk
  exact put_any _ _ _ (by omega) (by omega)
end Go.Proofs.Ytebickoieipjpaa
