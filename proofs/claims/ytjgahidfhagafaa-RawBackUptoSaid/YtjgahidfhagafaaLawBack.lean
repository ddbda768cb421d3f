import Derived.Test.YtjgahidfhagafaaLawWrites
namespace Go.Proofs.Ytjgahidfhagafaa
open Go.RowKit Go.Gi
set_option maxRecDepth 20000
attribute [local go_sem] cellIte bs_size bs_append
set_option linter.unusedSimpArgs false
set_option linter.unusedVariables false

def bakB (a : ActR) : List UInt8 :=
  if a.kind = 0 then putL 8 a.x.toNat else if a.kind = 1 then (if a.s.size ≤ 65535 then putL 2 a.s.size ++ a.s.data.toList else []) else putL 1 (a.x % 2).toNat
def baksB (l : List ActR) : List UInt8 := (l.map bakB).flatten
theorem bakB_len (a : ActR) : (bakB a).length ≤ a.s.size + 8 := by
  unfold bakB
  split
  · rw [putL_length]; omega
  · split
    · split
      · simp [putL_length]; omega
      · simp
    · rw [putL_length]; omega
theorem baksB_take (l : List ActR) (k : Nat) (h : k < l.length) : baksB (l.take (k + 1)) = baksB (l.take k) ++ bakB l[k] := by
  unfold baksB
  rw [List.take_succ_eq_append_getElem h, List.map_append, List.flatten_append]
  simp
theorem baksB_cost (l : List ActR) : (baksB l).length ≤ actsCost l := by
  induction l with
  | nil => simp [baksB]
  | cons a m ih => have := bakB_len a; simp [baksB, actsCost] at ih ⊢; omega
theorem baksB_split (l : List ActR) (k : Nat) (h : k < l.length) : baksB l = baksB (l.take k) ++ (bakB l[k] ++ baksB (l.drop (k + 1))) := by
  have e : l = l.take k ++ (l[k] :: l.drop (k + 1)) := by
    rw [← List.drop_eq_getElem_cons h, List.take_append_drop]
  conv => lhs; rw [e]
  unfold baksB
  rw [List.map_append, List.map_cons, List.flatten_append, List.flatten_cons]
theorem baksB_le (l : List ActR) (k : Nat) (h : k < l.length) : (baksB (l.take k)).length + (bakB l[k]).length ≤ (baksB l).length := by
  rw [baksB_split l k h]; simp
theorem baksB_takele (l : List ActR) (k : Nat) : (baksB (l.take k)).length ≤ (baksB l).length := by
  conv => rhs; rw [← List.take_append_drop k l]
  unfold baksB
  rw [List.map_append, List.flatten_append, List.length_append]
  omega
/-! what is read where it was put -/
theorem take_at (p q r : List UInt8) : ((p ++ (q ++ r)).drop p.length).take q.length = q := by simp
theorem rNum_at (p q r : List UInt8) (h : q.length ≤ 8) : rNum (p ++ (q ++ r)) p.length 0 q.length = (numL q, p.length + q.length, 0) := by
  unfold rNum
  rw [if_neg (by simp), if_neg (by omega), if_neg (by simp only [List.length_append]; omega)]
  simp
theorem rBool_at (p r : List UInt8) (n : Nat) (h : n < 2) : rBool (p ++ (putL 1 n ++ r)) p.length 0 = (n == 1, p.length + 1, 0) := by
  have hn : numL (((p ++ (putL 1 n ++ r)).drop p.length).take 1) = n := by
    have := take_at p (putL 1 n) r
    rw [putL_length] at this
    rw [this, numL_putL]
    omega
  unfold rBool
  rw [if_neg (by simp), if_neg (by simp only [List.length_append, putL_length]; omega), hn, if_neg (by omega)]
theorem rText_at (p s r : List UInt8) (h : s.length ≤ 65535) : rText (p ++ ((putL 2 s.length ++ s) ++ r)) p.length 0 65535 = (s, p.length + (2 + s.length), 0) := by
  have hn : numL (((p ++ ((putL 2 s.length ++ s) ++ r)).drop p.length).take 2) = s.length := by
    have := take_at p (putL 2 s.length) (s ++ r)
    rw [putL_length] at this
    rw [List.append_assoc, this, numL_putL]
    omega
  have hd : (p ++ ((putL 2 s.length ++ s) ++ r)).drop (p.length + 2) = s ++ r := by
    have : p.length + 2 = (p ++ putL 2 s.length).length := by rw [List.length_append, putL_length]
    rw [this, List.append_assoc, ← List.append_assoc p, List.drop_left]
  unfold rText
  rw [if_neg (by simp), if_neg (by simp only [List.length_append, putL_length]; omega), hn, if_neg (by omega), if_neg (by simp only [List.length_append, putL_length]; omega), hd]
  simp; omega

/-- What the first loop leaves, and the second goes through. -/
theorem x_mod_nat {x : Int} (h : 0 ≤ x) : ((x % 2).toNat == 1) = (x % 2 == 1) := by
  rcases Int.emod_two_eq x with h | h <;> rw [h] <;> rfl

theorem text65535 {g : Nat} {s : ByteArray} {a : Nat} {w : World} (h : Rd w 64 g s a 0) (hs : s.size ≤ maxLen) (ha : a ≤ s.size) (t : List UInt8) (a1 : Nat) (e1 : Int) (hn : rText s.data.toList a 0 65535 = (t, a1, e1)) :
    Calls Try.prog 29 #[.pointer (some ⟨g, 0, none⟩), .int .i64 65535] w fun e' w' => e' = .returned (.string (bs t)) ∧ Rd w' 64 g s a1 e1 ∧ w.grownBy w' (some g) := by
  have := rtext_any h 65535 hs ha
  rw [hn] at this
  exact this
theorem bool_eq {g : Nat} {s : ByteArray} {a : Nat} {w : World} (h : Rd w 64 g s a 0) (hs : s.size ≤ maxLen) (ha : a ≤ s.size) (t : Bool) (a1 : Nat) (e1 : Int) (hn : rBool s.data.toList a 0 = (t, a1, e1)) :
    Calls Try.prog 30 #[.pointer (some ⟨g, 0, none⟩)] w fun e' w' => e' = .returned (.bool t) ∧ Rd w' 64 g s a1 e1 ∧ w.grownBy w' (some g) := by
  have := rbool_any h hs ha
  rw [hn] at this
  exact this
theorem end_eq {g : Nat} {s : ByteArray} {a : Nat} {w : World} (h : Rd w 64 g s a 0) (hs : s.size ≤ maxLen) (ha : a = s.size) :
    Calls Try.prog 31 #[.pointer (some ⟨g, 0, none⟩)] w fun e' w' => e' = .returned (.int .i64 0) ∧ Rd w' 64 g s a 0 ∧ w.grownBy w' (some g) := by
  have := rend_any h hs (by omega)
  have he : rEnd s.data.toList a 0 = 0 := by unfold rEnd; rw [if_neg (by simp; omega)]
  rw [he] at this
  exact this

set_option maxRecDepth 10000 in
set_option maxHeartbeats 32000000 in
theorem rawBack_any (A : Option Addr) (c : Nat) (l : List ActR) (w : World) (hl : RdActs w A l) (hx : ∀ a ∈ l, 0 ≤ a.x ∧ a.x ≤ 18446744073709551615) (hcost : actsCost l ≤ 1073741824) (hll : l.length * 40 ≤ 140737488351232) :
    Calls Try.prog 7 #[.slice A l.length c] w fun e w' => e = .returned (.bool true) ∧ Below w.heap.size w w' := by
  have HL := Lib.hid hl
  have HX := Lib.hid hx
  have hll2 : l.length ≤ 9223372036854775807 := by omega
  have HCo := Lib.hid hcost
  clear hl hll hx hcost
  go_enter Try.func7, Try.ntmps7
  go_wp2_with (first | (go_at_call 23; refine (newWriter_any _ _ (Nat.le_refl _)).mono ?_; rintro e w1 ⟨g, rfl, h1, hg, hb1⟩; have H1 := Lib.hid h1; have Hg := Lib.hid hg; clear h1 hg))
  have K1 := H1.out
  have K3 := bstep (Below.refl w.heap.size w) hb1
  clear H1 hb1
  generalize w1 = w3 at *
  go_loopw [4] (fun i wr => ∃ (k : Nat) (r : Option Nat), k ≤ l.length ∧ i = .int .i64 k ∧ Wr wr 71 5 w.heap.size g r (baksB (l.take k)) ∧ Below w.heap.size w wr)
      (fun i _ => l.length - (intOf i).toNat)
  case atStart => exact ⟨0, none, Nat.zero_le _, rfl, K1, K3⟩
  case round =>
    clear K1 K3
    obtain ⟨k, r, hk, rfl, hR, hW⟩ := hrel
    by_cases hlt : k < l.length
    · obtain ⟨ab, off, rfl, hab, x0, x1, x2, x3⟩ := HL.out k hlt
      have y0 := (hW.cell (p := ⟨ab, off + k * 4, none⟩) hab).trans x0
      have y1 := (hW.cell (p := ⟨ab, off + k * 4 + 1, none⟩) hab).trans x1
      have y2 := (hW.cell (p := ⟨ab, off + k * 4 + 2, none⟩) hab).trans x2
      have y3 := (hW.cell (p := ⟨ab, off + k * 4 + 3, none⟩) hab).trans x3
      clear x0 x1 x2 x3
      have hx := HX.out l[k] (List.getElem_mem hlt)
      have hT := Lib.hid (baksB_take l k hlt)
      have hC1 := baksB_takele l k
      have hC2 := baksB_cost l
      have hC3 := actsCost_mem l k hlt
      generalize l[k] = act at *
      generalize hT0 : baksB (l.take k) = tl at *
      have HR := Lib.hid hR
      have HW := Lib.hid hW
      clear hR hW
      have i0 : (0 : Int) ≤ k := by omega
      have i1 : (k : Int) < l.length := by omega
      have hl8 : tl.length + 8 ≤ 140737488355328 := by have := HCo.out; omega
      obtain ⟨kd, n, x, s⟩ := act
      obtain ⟨sl, rfl⟩ : ∃ sl, s = bs sl := ⟨_, (bs_toList s).symm⟩
      simp only [bs_size] at hx y0 y1 y2 y3 hC3
      have hcs : tl.length + sl.length ≤ 2147483648 := by have := HCo.out; omega
      clear hC1 hC2 hC3
      by_cases k0 : kd = 0
      · have hB : bakB ⟨kd, n, x, bs sl⟩ = putL 8 x.toNat := by unfold bakB; rw [if_pos k0]
        have hc8 : clamp8 8 = 8 := rfl
        go_wp2_with (first | (go_at_call 24; refine (wnumber_any (by exact HR.out) x 8 hx.1 hx.2 hl8).mono ?_; rintro e' w4 ⟨rfl, r4, h4, hk4⟩; have H4 := Lib.hid h4; have hk5 : WK wr w4 g r r4 := (WK.pre (by repeat (first | (with_reducible exact Below.refl _ _) | (with_reducible apply bdrew) | (with_reducible apply bdrewN))) hk4); have B4 := Lib.hid (hk5.below HW.out (HR.out.1) (fun j e => (HR.out.row j e).1)); clear h4 hk4 hk5))
        go_roundw
        case rel => exact ⟨k + 1, r4, by omega, by go_num, by rw [hT.out, hB, ← hc8]; exact H4.out, B4.out⟩
        case measure => simp [intOf]; omega
      · by_cases k1 : kd = 1
        · by_cases k3 : sl.length ≤ 65535
          · have hB : bakB ⟨kd, n, x, bs sl⟩ = putL 2 sl.length ++ sl := by unfold bakB; rw [if_neg k0, if_pos k1, bs_size, if_pos k3, toList_bs]
            have hlt3 : tl.length + 65537 ≤ 140737488355328 := by omega
            have hz3 : (bs sl).size ≤ 65535 := by rw [bs_size]; exact k3
            go_wp2_with (first | (go_at_call 25; refine (wtext_ok (by exact HR.out) _ hz3 hlt3).mono ?_; rintro e' w4 ⟨rfl, r4, h4, hk4⟩; rw [toList_bs, bs_size] at h4; have H4 := Lib.hid h4; have hk5 : WK wr w4 g r r4 := (WK.pre (by repeat (first | (with_reducible exact Below.refl _ _) | (with_reducible apply bdrew) | (with_reducible apply bdrewN))) hk4); have B4 := Lib.hid (hk5.below HW.out (HR.out.1) (fun j e => (HR.out.row j e).1)); clear h4 hk4 hk5))
            go_roundw
            case rel => exact ⟨k + 1, r4, by omega, by go_num, by rw [hT.out, hB, ← List.append_assoc]; exact H4.out, B4.out⟩
            case measure => simp [intOf]; omega
          · have hB : bakB ⟨kd, n, x, bs sl⟩ = [] := by unfold bakB; rw [if_neg k0, if_pos k1, bs_size, if_neg k3]
            have hz3 : 65535 < (bs sl).size := by rw [bs_size]; omega
            have hm3 : (bs sl).size ≤ maxLen := by rw [bs_size]; unfold maxLen; omega
            have hl8b : tl.length ≤ 140737488355328 := by omega
            go_wp2_with (first | (go_at_call 25; refine (wtext_more (by exact HR.out) _ hm3 hz3 hl8b).mono ?_; rintro e' w4 ⟨rfl, r4, h4, hk4⟩; have H4 := Lib.hid h4; have hk5 : WK wr w4 g r r4 := (WK.pre (by repeat (first | (with_reducible exact Below.refl _ _) | (with_reducible apply bdrew) | (with_reducible apply bdrewN))) hk4); have B4 := Lib.hid (hk5.below HW.out (HR.out.1) (fun j e => (HR.out.row j e).1)); clear h4 hk4 hk5))
            go_roundw
            case rel => exact ⟨k + 1, r4, by omega, by go_num, by rw [hT.out, hB, List.append_nil]; exact H4.out, B4.out⟩
            case measure => simp [intOf]; omega
        · have hB : bakB ⟨kd, n, x, bs sl⟩ = putL 1 (x % 2).toNat := by unfold bakB; rw [if_neg k0, if_neg k1]
          go_wp2_with (first | (go_at_call 26; refine (wbool_any (by exact HR.out) _ hl8).mono ?_; rintro e' w4 ⟨rfl, r4, h4, hk4⟩; rw [boolB] at h4; have H4 := Lib.hid h4; have hk5 : WK wr w4 g r r4 := (WK.pre (by repeat (first | (with_reducible exact Below.refl _ _) | (with_reducible apply bdrew) | (with_reducible apply bdrewN))) hk4); have B4 := Lib.hid (hk5.below HW.out (HR.out.1) (fun j e => (HR.out.row j e).1)); clear h4 hk4 hk5))
          go_roundw
          case rel => exact ⟨k + 1, r4, by omega, by go_num, by rw [hT.out, hB]; exact H4.out, B4.out⟩
          case measure => simp [intOf]; omega
    · obtain rfl : k = l.length := by omega
      rw [List.take_length] at hR
      have hR0 := Lib.hid hR
      have hW0 := Lib.hid hW
      clear hR hW
      have hC2 := baksB_cost l
      have hms : (bs (baksB l)).size ≤ maxLen := by rw [bs_size]; have := HCo.out; unfold maxLen; omega
      have Hms := Lib.hid hms
      clear hC2 hms
      go_wp2_with (first | (go_at_call 27; with_reducible refine (wall_any (by exact hR0.out)).mono ?_; rintro e' w10 ⟨rfl, rfl⟩) | (go_at_call 18; refine (newReader_any _ _).mono ?_; rintro e w5 ⟨g5, rfl, h5, hg5, hb5⟩; have H5 := Lib.hid h5; have Hg5 := Lib.hid hg5; clear h5 hg5))
      have K1 := H5.out
      have K3 := bstep hW0.out hb5
      have hg5 : w.heap.size ≤ g5 := by rw [Hg5.out]; exact hW0.out.size
      clear H5 hb5 hW0 hR0 Hg5
      go_loopw [6] (fun i wr => ∃ (k : Nat), k ≤ l.length ∧ i = .int .i64 k ∧ Rd wr 64 g5 (bs (baksB l)) (baksB (l.take k)).length 0 ∧ Below w.heap.size w wr)
          (fun i _ => l.length - (intOf i).toNat)
      case atStart => exact ⟨0, Nat.zero_le _, rfl, K1, K3⟩
      case round =>
        clear K1 K3
        obtain ⟨k, hk, rfl, hR, hW⟩ := hrel
        by_cases hlt : k < l.length
        · obtain ⟨ab, off, rfl, hab, x0, x1, x2, x3⟩ := HL.out k hlt
          have y0 := (hW.cell (p := ⟨ab, off + k * 4, none⟩) hab).trans x0
          have y1 := (hW.cell (p := ⟨ab, off + k * 4 + 1, none⟩) hab).trans x1
          have y2 := (hW.cell (p := ⟨ab, off + k * 4 + 2, none⟩) hab).trans x2
          have y3 := (hW.cell (p := ⟨ab, off + k * 4 + 3, none⟩) hab).trans x3
          clear x0 x1 x2 x3
          have hx := HX.out l[k] (List.getElem_mem hlt)
          have hT := Lib.hid (baksB_take l k hlt)
          have hS := Lib.hid (baksB_split l k hlt)
          have hle := baksB_le l k hlt
          have hne1 : ¬ ab = g5 := by omega
          generalize l[k] = act at *
          generalize hT0 : baksB (l.take k) = tl at *
          generalize hL0 : baksB l = L at *
          generalize hD0 : baksB (l.drop (k + 1)) = dl at *
          have HR := Lib.hid hR
          have HW := Lib.hid hW
          clear hR hW
          have ha : tl.length ≤ (bs L).size := by rw [bs_size]; omega
          have Ha := Lib.hid ha
          clear ha
          have i0 : (0 : Int) ≤ k := by omega
          have i1 : (k : Int) < l.length := by omega
          have hab2 : ab < wr.heap.size := Nat.lt_of_lt_of_le hab HW.out.size
          obtain ⟨kd, n, x, s⟩ := act
          obtain ⟨sl, rfl⟩ : ∃ sl, s = bs sl := ⟨_, (bs_toList s).symm⟩
          obtain ⟨xn, rfl⟩ := Int.eq_ofNat_of_zero_le hx.1
          simp only [bs_size] at hx y0 y1 y2 y3
          clear hle
          by_cases k0 : kd = 0
          · have hB : bakB ⟨kd, n, xn, bs sl⟩ = putL 8 xn := by unfold bakB; rw [if_pos k0]; rfl
            have hN : rNum (bs L).data.toList tl.length 0 8 = (xn, tl.length + 8, 0) := by
              have e := rNum_at tl (putL 8 xn) dl (by rw [putL_length]; omega)
              rw [toList_bs, hS.out, hB]
              rw [putL_length, numL_putL] at e
              rw [show xn % 256 ^ 8 = xn by omega] at e
              exact e
            have HN := Lib.hid hN
            have HB := Lib.hid hB
            clear hN hB
            go_wp2_with fail
            go_region_with ((go_at_call 28; refine (num_eq (by exact HR.out) Hms.out Ha.out 8 _ _ _ HN.out).mono ?_; rintro e' w4 ⟨rfl, h4, hg4⟩; obtain ⟨hc4, hf4⟩ := gcell hg4; have z2 : w4.cell? ⟨ab, off + k * 4 + 2, none⟩ = some (.int .u64 xn) := (hc4 _ _ hab2 hne1).trans y2; clear hc4 hf4; have H4 := Lib.hid h4; have hg5' : wr.grownBy w4 (some g5) := (⟨hg4.os, hg4.tape, hg4.output, hg4.size, hg4.block⟩); have W4 := Lib.hid (bgrown HW.out hg5' (fun k hk => by injection hk; omega)); clear h4 hg4 hg5'))
            all_goals
              go_wp2
              go_roundw
              case rel => exact ⟨k + 1, by omega, by go_num, by rw [hT.out, HB.out, List.length_append, putL_length]; exact H4.out, W4.out⟩
              case measure => simp [intOf]; omega
          · by_cases k1 : kd = 1
            · by_cases k3 : sl.length ≤ 65535
              · have hB : bakB ⟨kd, n, xn, bs sl⟩ = putL 2 sl.length ++ sl := by unfold bakB; rw [if_neg k0, if_pos k1, bs_size, if_pos k3, toList_bs]
                have hN : rText (bs L).data.toList tl.length 0 65535 = (sl, tl.length + (2 + sl.length), 0) := by
                  rw [toList_bs, hS.out, hB]
                  exact rText_at tl sl dl k3
                have HN := Lib.hid hN
                have HB := Lib.hid hB
                clear hN hB
                have hk3 : decide (65535 < (sl.length : Int)) = false := by simp; omega
                go_wp2_with fail
                go_region_with ((go_at_call 29; refine (text65535 (by exact HR.out) Hms.out Ha.out _ _ _ HN.out).mono ?_; rintro e' w4 ⟨rfl, h4, hg4⟩; obtain ⟨hc4, hf4⟩ := gcell hg4; have z3 : w4.cell? ⟨ab, off + k * 4 + 3, none⟩ = some (.string (bs sl)) := (hc4 _ _ hab2 hne1).trans y3; clear hc4 hf4; have H4 := Lib.hid h4; have hg5' : wr.grownBy w4 (some g5) := (⟨hg4.os, hg4.tape, hg4.output, hg4.size, hg4.block⟩); have W4 := Lib.hid (bgrown HW.out hg5' (fun k hk => by injection hk; omega)); clear h4 hg4 hg5'))
                all_goals
                  go_wp2
                  go_roundw
                  case rel => exact ⟨k + 1, by omega, by go_num, by rw [hT.out, HB.out, List.length_append, List.length_append, putL_length]; exact H4.out, W4.out⟩
                  case measure => simp [intOf]; omega
              · have hB : bakB ⟨kd, n, xn, bs sl⟩ = [] := by unfold bakB; rw [if_neg k0, if_pos k1, bs_size, if_neg k3]
                have hk3 : decide (65535 < (sl.length : Int)) = true := by simp; omega
                go_wp2_with fail
                go_quiet (fail)
                go_wp2
                go_roundw
                case rel => exact ⟨k + 1, by omega, by go_num, by rw [hT.out, hB, List.append_nil]; exact HR.out.drewN _, bdrewN HW.out _⟩
                case measure => simp [intOf]; omega
            · have hB : bakB ⟨kd, n, xn, bs sl⟩ = putL 1 (xn % 2) := by unfold bakB; rw [if_neg k0, if_neg k1]; rfl
              have hN : rBool (bs L).data.toList tl.length 0 = (((xn : Int) % 2 == 1), tl.length + 1, 0) := by
                rw [toList_bs, hS.out, hB, rBool_at tl dl (xn % 2) (by omega)]
                have : (xn % 2 == 1) = ((xn : Int) % 2 == 1) := by
                  rw [Bool.eq_iff_iff]; simp; omega
                rw [this]
              have HN := Lib.hid hN
              have HB := Lib.hid hB
              clear hN hB
              go_wp2_with fail
              go_region_with ((go_at_call 30; refine (bool_eq (by exact HR.out) Hms.out Ha.out _ _ _ HN.out).mono ?_; rintro e' w4 ⟨rfl, h4, hg4⟩; obtain ⟨hc4, hf4⟩ := gcell hg4; have z2 : w4.cell? ⟨ab, off + k * 4 + 2, none⟩ = some (.int .u64 xn) := (hc4 _ _ hab2 hne1).trans y2; clear hc4 hf4; have H4 := Lib.hid h4; have hg5' : wr.grownBy w4 (some g5) := (⟨hg4.os, hg4.tape, hg4.output, hg4.size, hg4.block⟩); have W4 := Lib.hid (bgrown HW.out hg5' (fun k hk => by injection hk; omega)); clear h4 hg4 hg5'))
              all_goals
                go_wp2
                go_roundw
                case rel => exact ⟨k + 1, by omega, by go_num, by rw [hT.out, HB.out, List.length_append, putL_length]; exact H4.out, W4.out⟩
                case measure => simp [intOf]; omega
        · obtain rfl : k = l.length := by omega
          rw [List.take_length] at hR
          have HR := Lib.hid hR
          clear hR
          have hsz : (baksB l).length = (bs (baksB l)).size := (bs_size _).symm
          have Hsz := Lib.hid hsz
          clear hsz
          go_wp2_with (first | (go_at_call 9; refine (awake01 _).mono ?_; rintro e w2 ⟨rfl, hb2⟩; have H2 := Lib.hid (HR.out.step hb2); have W2 := Lib.hid (bstep hW hb2); clear hb2) | (go_at_call 31; refine (end_eq (by exact H2.out) Hms.out Hsz.out).mono ?_; rintro e' w6 ⟨rfl, h6, hg6⟩; have H6 := Lib.hid h6; have W6 := Lib.hid (bgrown W2.out hg6 (fun k hk => by injection hk; omega)); clear h6 hg6) | (go_at_call 22; refine (left_any (by exact H6.out) Hms.out (Nat.le_of_eq Hsz.out)).mono ?_; rintro e' w7 ⟨rfl, m7, rfl⟩))
          go_ret
          exact ⟨ret_bool (by simp [bs_size]), bdrewN W6.out _⟩
end Go.Proofs.Ytjgahidfhagafaa
