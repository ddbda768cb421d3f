import Derived.Test.YtjgahidfhagafaaNil
import Derived.Test.YtjgahidfhagafaaLawReads
namespace Go.Proofs.Ytjgahidfhagafaa
open Go.RowKit Go.Gi
attribute [local go_sem] cellIte bs_size bs_append
set_option linter.unusedSimpArgs false
set_option linter.unusedVariables false

def actB (a : ActR) : List UInt8 :=
  if a.kind = 0 then putL (clamp8 a.n) a.x.toNat else if a.kind = 1 then a.s.data.toList else if a.kind = 2 then (if a.s.size ≤ 65535 then putL 2 a.s.size ++ a.s.data.toList else []) else putL 1 (a.x % 2).toNat
def actsB (l : List ActR) : List UInt8 := (l.map actB).flatten
def actsCost (l : List ActR) : Nat := (l.map fun a => a.s.size + 8).sum
theorem actB_len (a : ActR) : (actB a).length ≤ a.s.size + 8 := by
  unfold actB
  split
  · rw [putL_length]; unfold clamp8; omega
  · split
    · simp
    · split
      · split
        · simp [putL_length]; omega
        · simp
      · rw [putL_length]; omega
theorem actsB_take (l : List ActR) (k : Nat) (h : k < l.length) : actsB (l.take (k + 1)) = actsB (l.take k) ++ actB l[k] := by
  unfold actsB
  rw [List.take_succ_eq_append_getElem h, List.map_append, List.flatten_append]
  simp
theorem actsCost_take (l : List ActR) (k : Nat) : (actsB (l.take k)).length ≤ actsCost l := by
  have h1 : ∀ m : List ActR, (actsB m).length ≤ actsCost m := by
    intro m
    induction m with
    | nil => simp [actsB]
    | cons a m ih => have := actB_len a; simp [actsB, actsCost] at ih ⊢; omega
  refine Nat.le_trans (h1 _) ?_
  have h2 : ∀ (m : List ActR) (k : Nat), actsCost (m.take k) ≤ actsCost m := by
    intro m
    induction m with
    | nil => simp [actsCost]
    | cons a m ih => intro k; cases k with
      | zero => simp [actsCost]
      | succ k => have := ih k; simp [actsCost] at this ⊢; omega
  exact h2 l k

theorem actsCost_mem (l : List ActR) (k : Nat) (h : k < l.length) : l[k].s.size + 8 ≤ actsCost l := by
  unfold actsCost
  have : ∀ (m : List Nat) (x : Nat), x ∈ m → x ≤ m.sum := by
    intro m
    induction m with
    | nil => intro x h; simp at h
    | cons a m ih =>
      intro x h
      rcases List.mem_cons.1 h with rfl | h
      · simp
      · have := ih x h; simp; omega
  exact this _ _ (List.mem_map.2 ⟨l[k], List.getElem_mem h, rfl⟩)
theorem boolB (x : Int) : [if (x % 2 == 1) then (1 : UInt8) else 0] = putL 1 (x % 2).toNat := by
  rcases Int.emod_two_eq x with h | h <;> rw [h] <;> rfl
theorem wk_cell {a b : World} {g : Nat} {r r' : Option Nat} (h : WK a b g r r') {p : Addr} (hp : p.block < a.heap.size) (h1 : p.block ≠ g) (h2 : some p.block ≠ r) : b.cell? p = a.cell? p :=
  World.cell?_of_block (h.block _ hp h1 h2)
theorem rput_2 (n : Nat) (w : World) (h1 : n ≤ 65535) :
    Calls Try.prog 16 #[.int .u64 n, .int .i64 2] w fun e w' => e = .returned (.string (bs (putL 2 n))) ∧ Below w.heap.size w w' :=
  rput_any n 2 w (by omega)
theorem rput_eq (x long : Int) (w : World) (h0 : 0 ≤ x) (h1 : x ≤ 18446744073709551615) :
    Calls Try.prog 16 #[.int .u64 x, .int .i64 long] w fun e w' => e = .returned (.string (bs (putL (clamp8 long) x.toNat))) ∧ Below w.heap.size w w' := by
  have := rput_any x.toNat long w (by omega)
  rw [Int.toNat_of_nonneg h0] at this
  exact this

set_option maxRecDepth 10000 in
set_option maxHeartbeats 32000000 in
theorem rawWrites_any (A : Option Addr) (c : Nat) (l : List ActR) (w : World) (hl : RdActs w A l) (hx : ∀ a ∈ l, 0 ≤ a.x ∧ a.x ≤ 18446744073709551615) (hcost : actsCost l ≤ 1073741824) (hll : l.length * 40 ≤ 140737488351232) :
    Calls Try.prog 8 #[.slice A l.length c] w fun e w' => e = .returned (.bool true) ∧ Below w.heap.size w w' := by
  have HL := Lib.hid hl
  have HX := Lib.hid hx
  have hll2 : l.length ≤ 9223372036854775807 := by omega
  have HCo := Lib.hid hcost
  clear hl hll hx hcost
  go_enter Try.func8, Try.ntmps8
  go_wp2_with (first | (go_at_call 23; refine (newWriter_any _ _ (Nat.le_refl _)).mono ?_; rintro e w1 ⟨g, rfl, h1, hg, hb1⟩; have H1 := Lib.hid h1; have Hg := Lib.hid hg; clear h1 hg) | (go_at_call 9; refine (awake01 _).mono ?_; rintro e w2 ⟨rfl, hb2⟩))
  have K1 := H1.out.step hb2
  have K3 := bstep (bstep (Below.refl w.heap.size w) hb1) hb2
  clear H1 hb1 hb2
  generalize w2 = w3 at *
  go_loopw [6, 7] (fun wt i wr => ∃ (k : Nat) (r : Option Nat), k ≤ l.length ∧ i = .int .i64 k ∧ wt = .string (bs (actsB (l.take k))) ∧ Wr wr 71 5 w.heap.size g r (actsB (l.take k)) ∧ Below w.heap.size w wr)
      (fun _ i _ => l.length - (intOf i).toNat)
  case atStart => exact ⟨0, none, Nat.zero_le _, rfl, rfl, K1, K3⟩
  case round =>
    clear K1 K3
    obtain ⟨k, r, hk, rfl, rfl, hR, hW⟩ := hrel
    by_cases hlt : k < l.length
    · obtain ⟨ab, off, rfl, hab, x0, x1, x2, x3⟩ := HL.out k hlt
      have y0 := (hW.cell (p := ⟨ab, off + k * 4, none⟩) hab).trans x0
      have y1 := (hW.cell (p := ⟨ab, off + k * 4 + 1, none⟩) hab).trans x1
      have y2 := (hW.cell (p := ⟨ab, off + k * 4 + 2, none⟩) hab).trans x2
      have y3 := (hW.cell (p := ⟨ab, off + k * 4 + 3, none⟩) hab).trans x3
      clear x0 x1 x2 x3
      have hx := HX.out l[k] (List.getElem_mem hlt)
      have hT := Lib.hid (actsB_take l k hlt)
      have hC1 := actsCost_take l k
      have hC2 := actsCost_take l (k + 1)
      have hC3 := actsCost_mem l k hlt
      generalize l[k] = act at *
      generalize hT0 : actsB (l.take k) = tl at *
      have HR := Lib.hid hR
      have HW := Lib.hid hW
      clear hR hW
      have i0 : (0 : Int) ≤ k := by omega
      have i1 : (k : Int) < l.length := by omega
      have hne1 : ab ≠ g := by have := Hg.out; omega
      have hne2 : some ab ≠ r := fun e => by have := HR.out.row ab e.symm; omega
      have hab2 : ab < wr.heap.size := Nat.lt_of_lt_of_le hab HW.out.size
      have hl8 : tl.length + 8 ≤ 140737488355328 := by have := HCo.out; omega
      obtain ⟨kd, n, x, s⟩ := act
      obtain ⟨sl, rfl⟩ : ∃ sl, s = bs sl := ⟨_, (bs_toList s).symm⟩
      simp only [bs_size] at hx y0 y1 y2 y3 hC3
      have hcs : tl.length + sl.length ≤ 2147483648 := by have := HCo.out; omega
      by_cases k0 : kd = 0
      · have hB : actB ⟨kd, n, x, bs sl⟩ = putL (clamp8 n) x.toNat := by unfold actB; rw [if_pos k0]
        have hcat : tl.length + (putL (clamp8 n) x.toNat).length ≤ 9223372036854775807 := by rw [putL_length]; unfold clamp8; omega
        go_wp2_with fail
        go_region_with ((go_at_call 24; refine (wnumber_any (by exact HR.out) x n hx.1 hx.2 hl8).mono ?_; rintro e' w4 ⟨rfl, r4, h4, hk4⟩; have z1 := (wk_cell hk4 hab2 hne1 hne2).trans y1; have z2 := (wk_cell hk4 hab2 hne1 hne2).trans y2; have H4 := Lib.hid h4; have K4 := Lib.hid (show WK wr w4 g r r4 from WK.pre (by repeat (first | (with_reducible exact Below.refl _ _) | (with_reducible apply bdrew) | (with_reducible apply bdrewN))) hk4); clear h4 hk4))
        all_goals
          have B4 := Lib.hid (K4.out.below HW.out (HR.out.1) (fun j e => (HR.out.row j e).1))
          clear K4 HR HW y0 y1 y2 y3
          go_wp2_with fail
          go_region_with ((go_at_call 16; refine (rput_eq x n _ hx.1 hx.2).mono ?_; rintro e' w5 ⟨rfl, hb5⟩; have hb6 : Below w4.heap.size w4 w5 := (bstep (by repeat (first | (with_reducible exact Below.refl _ _) | (with_reducible apply bdrew) | (with_reducible apply bdrewN))) hb5); have H5 := Lib.hid (H4.out.step hb6); have B5 := Lib.hid (bstep B4.out hb6); clear hb5 hb6))
          all_goals
            clear z1 z2
            clear H4 B4
            go_wp2_with (go_at_call 33; refine (wlen_any (by exact H5.out)).mono ?_; rintro e' w6 ⟨rfl, rfl⟩)
            go_roundw
            case rel => exact ⟨k + 1, r4, by omega, by go_num, by rw [hT.out, hB], by rw [hT.out, hB]; exact H5.out, B5.out⟩
            case measure => simp [intOf]; omega
      · by_cases k1 : kd = 1
        · have hB : actB ⟨kd, n, x, bs sl⟩ = sl := by unfold actB; rw [if_neg k0, if_pos k1, toList_bs]
          have hcat : tl.length + sl.length ≤ 9223372036854775807 := by omega
          have hlb : tl.length + (bs sl).size ≤ 140737488355328 := by rw [bs_size]; omega
          go_wp2_with (first | (go_at_call 32; refine (wbytes_any (by exact HR.out) _ hlb).mono ?_; rintro e' w4 ⟨rfl, r4, h4, hk4⟩; have z3 := (wk_cell hk4 hab2 hne1 hne2).trans y3; rw [toList_bs] at h4; have H4 := Lib.hid h4; have hk5 : WK wr w4 g r r4 := (WK.pre (by repeat (first | (with_reducible exact Below.refl _ _) | (with_reducible apply bdrew) | (with_reducible apply bdrewN))) hk4); have B4 := Lib.hid (hk5.below HW.out (HR.out.1) (fun j e => (HR.out.row j e).1)); clear h4 hk4 hk5) | (go_at_call 33; refine (wlen_any (by exact H4.out)).mono ?_; rintro e' w6 ⟨rfl, rfl⟩))
          go_roundw
          case rel => exact ⟨k + 1, r4, by omega, by go_num, by rw [hT.out, hB], by rw [hT.out, hB]; exact H4.out, B4.out⟩
          case measure => simp [intOf]; omega
        · by_cases k2 : kd = 2
          · by_cases k3 : sl.length ≤ 65535
            · have hB : actB ⟨kd, n, x, bs sl⟩ = putL 2 sl.length ++ sl := by unfold actB; rw [if_neg k0, if_neg k1, if_pos k2, bs_size, if_pos k3, toList_bs]
              have hp2 : (putL 2 sl.length).length = 2 := putL_length _ _
              have hcat : (putL 2 sl.length).length + sl.length ≤ 9223372036854775807 := by omega
              have hcat2 : tl.length + ((putL 2 sl.length).length + sl.length) ≤ 9223372036854775807 := by omega
              clear hp2
              have hn1 : ¬ 9223372036854775807 < (putL 2 sl.length).length + sl.length := by omega
              have hn2 : ¬ 9223372036854775807 < tl.length + ((putL 2 sl.length).length + sl.length) := by omega
              have hn3 : ¬ 9223372036854775807 < tl.length + (putL 2 sl.length ++ sl).length := by rw [List.length_append]; omega
              have hlt3 : tl.length + 65537 ≤ 140737488355328 := by omega
              have hz3 : (bs sl).size ≤ 65535 := by rw [bs_size]; exact k3
              have hk3 : (sl.length : Int) ≤ 65535 := by omega
              have hwr : IntKind.u64.wrap (sl.length : Int) = sl.length := by rw [wrapu64]; omega
              go_wp2_with (first | (go_at_call 25; refine (wtext_ok (by exact HR.out) _ hz3 hlt3).mono ?_; rintro e' w4 ⟨rfl, r4, h4, hk4⟩; have hab4 : ab < w4.heap.size := (Nat.lt_of_lt_of_le hab2 hk4.size); have z3 := (wk_cell hk4 hab2 hne1 hne2).trans y3; rw [toList_bs, bs_size] at h4; have H4 := Lib.hid h4; have hk5 : WK wr w4 g r r4 := (WK.pre (by repeat (first | (with_reducible exact Below.refl _ _) | (with_reducible apply bdrew) | (with_reducible apply bdrewN))) hk4); have B4 := Lib.hid (hk5.below HW.out (HR.out.1) (fun j e => (HR.out.row j e).1)); clear h4 hk4 hk5))
              go_region_with ((go_at_call 16; refine (rput_2 sl.length _ k3).mono ?_; rintro e' w5 ⟨rfl, hb5⟩; have hb6 : Below w4.heap.size w4 w5 := (bstep (by repeat (first | (with_reducible exact Below.refl _ _) | (with_reducible apply bdrew) | (with_reducible apply bdrewN))) hb5); have z5 : w5.cell? ⟨ab, off + k * 4 + 3, none⟩ = some (.string (bs sl)) := ((hb6.cell (p := ⟨ab, off + k * 4 + 3, none⟩) hab4).trans z3); have H5 := Lib.hid (H4.out.step hb6); have B5 := Lib.hid (bstep B4.out hb6); clear hb5 hb6))
              all_goals
                clear z3 H4 B4
                go_wp2_with (go_at_call 33; refine (wlen_any (by exact H5.out)).mono ?_; rintro e' w6 ⟨rfl, rfl⟩)
                go_roundw
                case rel => exact ⟨k + 1, r4, by omega, by go_num, by rw [hT.out, hB], by rw [hT.out, hB, ← List.append_assoc]; exact H5.out, B5.out⟩
                case measure => simp [intOf]; omega
            · have hB : actB ⟨kd, n, x, bs sl⟩ = [] := by unfold actB; rw [if_neg k0, if_neg k1, if_pos k2, bs_size, if_neg k3]
              have hz3 : 65535 < (bs sl).size := by rw [bs_size]; omega
              have hm3 : (bs sl).size ≤ maxLen := by rw [bs_size]; unfold maxLen; omega
              have hl8b : tl.length ≤ 140737488355328 := by omega
              have hk3 : ¬ (sl.length : Int) ≤ 65535 := by omega
              go_wp2_with (first | (go_at_call 25; refine (wtext_more (by exact HR.out) _ hm3 hz3 hl8b).mono ?_; rintro e' w4 ⟨rfl, r4, h4, hk4⟩; have z3 := (wk_cell hk4 hab2 hne1 hne2).trans y3; have H4 := Lib.hid h4; have hk5 : WK wr w4 g r r4 := (WK.pre (by repeat (first | (with_reducible exact Below.refl _ _) | (with_reducible apply bdrew) | (with_reducible apply bdrewN))) hk4); have B4 := Lib.hid (hk5.below HW.out (HR.out.1) (fun j e => (HR.out.row j e).1)); clear h4 hk4 hk5) | (go_at_call 33; refine (wlen_any (by exact H4.out)).mono ?_; rintro e' w6 ⟨rfl, rfl⟩))
              go_roundw
              case rel => exact ⟨k + 1, r4, by omega, by go_num, by rw [hT.out, hB, List.append_nil], by rw [hT.out, hB, List.append_nil]; exact H4.out, B4.out⟩
              case measure => simp [intOf]; omega
          · have hB : actB ⟨kd, n, x, bs sl⟩ = putL 1 (x % 2).toNat := by unfold actB; rw [if_neg k0, if_neg k1, if_neg k2]
            have hc1 : clamp8 1 = 1 := rfl
            have hcat : tl.length + (putL 1 (x % 2).toNat).length ≤ 9223372036854775807 := by rw [putL_length]; omega
            go_wp2_with (first | (go_at_call 26; refine (wbool_any (by exact HR.out) _ hl8).mono ?_; rintro e' w4 ⟨rfl, r4, h4, hk4⟩; have z2 := (wk_cell hk4 hab2 hne1 hne2).trans y2; rw [boolB] at h4; have H4 := Lib.hid h4; have hk5 : WK wr w4 g r r4 := (WK.pre (by repeat (first | (with_reducible exact Below.refl _ _) | (with_reducible apply bdrew) | (with_reducible apply bdrewN))) hk4); have B4 := Lib.hid (hk5.below HW.out (HR.out.1) (fun j e => (HR.out.row j e).1)); clear h4 hk4 hk5) | (go_at_call 16; refine (rput_eq (x % 2) 1 _ (by omega) (by omega)).mono ?_; rintro e' w5 ⟨rfl, hb5⟩; have hb6 : Below w4.heap.size w4 w5 := (bstep (by repeat (first | (with_reducible exact Below.refl _ _) | (with_reducible apply bdrew) | (with_reducible apply bdrewN))) hb5); have H5 := Lib.hid (H4.out.step hb6); have B5 := Lib.hid (bstep B4.out hb6); clear hb5 hb6) | (go_at_call 33; refine (wlen_any (by exact H5.out)).mono ?_; rintro e' w6 ⟨rfl, rfl⟩))
            go_roundw
            case rel => exact ⟨k + 1, r4, by omega, by go_num, by rw [hT.out, hB], by rw [hT.out, hB]; exact H5.out, B5.out⟩
            case measure => simp [intOf]; omega
    · obtain rfl : k = l.length := by omega
      rw [List.take_length] at hR
      have hR0 := Lib.hid hR
      have hW0 := Lib.hid hW
      clear hR hW
      go_wp2_with (first | (go_at_call 24; with_reducible refine (wnumber_nil _ 1 1 (by decide) (by decide)).mono ?_; rintro e' w7 ⟨rfl, hb7⟩; have B7 := Lib.hid (bstep hW0.out hb7); have R7 := Lib.hid (hR0.out.step hb7); clear hb7) | (go_at_call 32; with_reducible refine (wbytes_nil _ _).mono ?_; rintro e' w8 ⟨rfl, rfl⟩) | (go_at_call 26; with_reducible refine (wbool_nil _ _).mono ?_; rintro e' w9 ⟨rfl, hb9⟩; have B9 := Lib.hid (bstep B7.out hb9); have R9 := Lib.hid (R7.out.step hb9); clear hb9) | (go_at_call 34; with_reducible refine (fail_nil _ _).mono ?_; rintro e' w10 ⟨rfl, rfl⟩) | (go_at_call 27; with_reducible refine (wall_any (by exact R9.out)).mono ?_; rintro e' w10 ⟨rfl, rfl⟩) | (go_at_call 27; with_reducible refine (wall_nil _).mono ?_; rintro e' w10 ⟨rfl, rfl⟩) | (go_at_call 25; with_reducible refine (wtext_nil _ _).mono ?_; rintro e' w10 ⟨rfl, rfl⟩) | (go_at_call 33; with_reducible refine (wlen_nil _).mono ?_; rintro e' w10 ⟨rfl, rfl⟩) | (go_at_call 28; with_reducible refine (num_nil _ _).mono ?_; rintro e' w10 ⟨rfl, rfl⟩) | (go_at_call 35; with_reducible refine (bytes_nil _ _).mono ?_; rintro e' w10 ⟨rfl, rfl⟩) | (go_at_call 29; with_reducible refine (text_nil _ _).mono ?_; rintro e' w10 ⟨rfl, rfl⟩) | (go_at_call 30; with_reducible refine (bool_nil _).mono ?_; rintro e' w10 ⟨rfl, rfl⟩) | (go_at_call 20; with_reducible refine (err_nil _).mono ?_; rintro e' w10 ⟨rfl, rfl⟩) | (go_at_call 31; with_reducible refine (end_nil _).mono ?_; rintro e' w10 ⟨rfl, rfl⟩) | (go_at_call 21; with_reducible refine (at_nil _).mono ?_; rintro e' w10 ⟨rfl, rfl⟩) | (go_at_call 22; with_reducible refine (left_nil _).mono ?_; rintro e' w10 ⟨rfl, rfl⟩))
      go_ret
      exact ⟨rfl, B9.out⟩
end Go.Proofs.Ytjgahidfhagafaa
