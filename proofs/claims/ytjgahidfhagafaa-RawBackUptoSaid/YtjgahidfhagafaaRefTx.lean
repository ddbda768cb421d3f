import Derived.Test.YtjgahidfhagafaaRefRd
import Derived.Test.YtjgahidfhagafaaEv
namespace Go.Proofs.Ytjgahidfhagafaa
open Go.RowKit Go.Gi
attribute [local go_sem] cellIte
set_option linter.unusedSimpArgs false
set_option linter.unusedVariables false

theorem rnum_eq (s : ByteArray) (a : Nat) (e long : Int) (w : World) (hs : s.size ≤ maxLen) (ha : a ≤ s.size) (v a1 : Nat) (e1 : Int) (hn : rNum s.data.toList a e long = (v, a1, e1)) :
    Calls Try.prog 36 #[.agg #[.string s, .int .i64 a, .int .i64 e], .int .i64 long] w fun e' w' =>
      e' = .returned (.tuple #[.agg #[.string s, .int .i64 a1, .int .i64 e1], .int .u64 v]) ∧ Below w.heap.size w w' := by
  have := rnum_any s a e long w hs ha
  rw [hn] at this
  exact this

set_option maxHeartbeats 1600000 in
theorem rrtext_any (s : ByteArray) (a : Nat) (e most : Int) (w : World) (hs : s.size ≤ maxLen) (ha : a ≤ s.size) :
    Calls Try.prog 38 #[.agg #[.string s, .int .i64 a, .int .i64 e], .int .i64 most] w fun e' w' =>
      e' = .returned (.tuple #[.agg #[.string s, .int .i64 (rText s.data.toList a e most).2.1, .int .i64 (rText s.data.toList a e most).2.2], .string (bs (rText s.data.toList a e most).1)]) ∧ Below w.heap.size w w' := by
  have hl : s.data.toList.length = s.size := by simp
  have hs2 : s.size ≤ 9223372036854775807 := hs
  have Hs := Lib.hid hs
  clear hs
  by_cases he : e = 0
  · subst he
    by_cases h2 : (s.size : Int) - a < 2
    · have HN := Lib.hid (show rNum s.data.toList a 0 2 = (0, a, 4) by unfold rNum; rw [hl, if_neg (by simp), if_neg (by omega), if_pos h2])
      have HT := Lib.hid (show rText s.data.toList a 0 most = ([], a, 4) by unfold rText; rw [hl, if_neg (by simp), if_pos h2])
      have HK := Lib.hid (show rTake s.data.toList a 4 0 = ([], a, 4) by unfold rTake; rw [if_pos (by simp)])
      rw [HT.out]
      clear hl
      go_enter Try.func38, Try.ntmps38
      go_wp2_with (first | (go_at_call 36; refine (rnum_eq _ _ _ _ _ Hs.out ha _ _ _ HN.out).mono ?_; rintro e w1 ⟨rfl, hb1⟩; obtain ⟨hc1, hf1⟩ := bcell hb1; have hz1 : w.heap.size + 1 < w1.heap.size := (by have := hb1.size; simp at this; omega); have hy1 : w.heap.size < w1.heap.size := (by omega)) | (go_at_call 37; refine (take_eq _ _ _ _ _ Hs.out ha _ _ _ HK.out).mono ?_; rintro e w2 ⟨rfl, hb2⟩; obtain ⟨hc2, hf2⟩ := bcell hb2; have hz2 : w.heap.size + 1 < w2.heap.size := (by have := hb2.size; simp at this; omega); have hy2 : w.heap.size < w2.heap.size := (by omega)))
      refine bodyPost_ret (v := .tuple #[.agg #[.string s, .int .i64 (a : Nat), .int .i64 4], .string (bs [])]) (by simp [results, Try.results38, go_sem, hc2, hc1, hz1, hy1, hz2, hy2]) rfl ⟨rfl, ?_⟩
      repeat (first | (with_reducible exact Below.refl _ _) | (with_reducible refine bsetAt ?_ (by omega) _) | (with_reducible apply balloc) | (with_reducible apply bdrewN) | (with_reducible apply bdrew) | (with_reducible refine bstep ?_ hb2) | (with_reducible refine bstep ?_ hb1))
    · have HN := Lib.hid (show rNum s.data.toList a 0 2 = (numL ((s.data.toList.drop a).take 2), a + 2, 0) by unfold rNum; rw [hl, if_neg (by simp), if_neg (by omega), if_neg h2]; rfl)
      have hn0 := numL_lt ((s.data.toList.drop a).take 2)
      have hn : numL ((s.data.toList.drop a).take 2) < 65536 := Nat.lt_of_lt_of_le hn0 (Nat.pow_le_pow_right (by decide) (List.length_take_le _ _))
      clear hn0
      have ha2 : a + 2 ≤ s.size := by omega
      have hT : rText s.data.toList a 0 most = if most < (numL ((s.data.toList.drop a).take 2) : Nat) then ([], a, 5)
          else if (s.size : Int) - (a + 2 : Nat) < (numL ((s.data.toList.drop a).take 2) : Nat) then ([], a, 4)
          else ((s.data.toList.drop (a + 2)).take (numL ((s.data.toList.drop a).take 2)), a + 2 + numL ((s.data.toList.drop a).take 2), 0) := by
        unfold rText; rw [hl, if_neg (by simp), if_neg h2]
      have HT := Lib.hid hT
      clear hT
      generalize numL ((s.data.toList.drop a).take 2) = n at *
      have hk : IntKind.i64.wrap (n : Int) = n := IntWalk.i64_in _ (by omega)
      rw [HT.out]
      by_cases h3 : most < (n : Int)
      · rw [if_pos h3]
        have HK := Lib.hid (show rTake s.data.toList (a + 2) 5 n = ([], a + 2, 5) by unfold rTake; rw [if_pos (by simp)])
        clear hl
        go_enter Try.func38, Try.ntmps38
        go_wp2_with (first | (go_at_call 36; refine (rnum_eq _ _ _ _ _ Hs.out ha _ _ _ HN.out).mono ?_; rintro e w1 ⟨rfl, hb1⟩; obtain ⟨hc1, hf1⟩ := bcell hb1; have hz1 : w.heap.size + 1 < w1.heap.size := (by have := hb1.size; simp at this; omega); have hy1 : w.heap.size < w1.heap.size := (by omega)) | (go_at_call 37; refine (take_eq _ _ _ _ _ Hs.out ha2 _ _ _ HK.out).mono ?_; rintro e w2 ⟨rfl, hb2⟩; obtain ⟨hc2, hf2⟩ := bcell hb2; have hz2 : w.heap.size + 1 < w2.heap.size := (by have := hb2.size; simp at this; omega); have hy2 : w.heap.size < w2.heap.size := (by omega)))
        refine bodyPost_ret (v := .tuple #[.agg #[.string s, .int .i64 (a : Nat), .int .i64 5], .string (bs [])]) (by simp [results, Try.results38, go_sem, hc2, hc1, hz1, hy1, hz2, hy2]) rfl ⟨rfl, ?_⟩
        repeat (first | (with_reducible exact Below.refl _ _) | (with_reducible refine bsetAt ?_ (by omega) _) | (with_reducible apply balloc) | (with_reducible apply bdrewN) | (with_reducible apply bdrew) | (with_reducible refine bstep ?_ hb2) | (with_reducible refine bstep ?_ hb1))
      · rw [if_neg h3]
        by_cases h4 : (s.size : Int) - (a + 2 : Nat) < n
        · rw [if_pos h4]
          have HK := Lib.hid (show rTake s.data.toList (a + 2) 0 n = ([], a + 2, 4) by unfold rTake; rw [if_neg (by simp), if_neg (by omega), if_pos (by simp; omega)])
          clear h4 hl
          go_enter Try.func38, Try.ntmps38
          go_wp2_with (first | (go_at_call 36; refine (rnum_eq _ _ _ _ _ Hs.out ha _ _ _ HN.out).mono ?_; rintro e w1 ⟨rfl, hb1⟩; obtain ⟨hc1, hf1⟩ := bcell hb1; have hz1 : w.heap.size + 1 < w1.heap.size := (by have := hb1.size; simp at this; omega); have hy1 : w.heap.size < w1.heap.size := (by omega)) | (go_at_call 37; refine (take_eq _ _ _ _ _ Hs.out ha2 _ _ _ HK.out).mono ?_; rintro e w2 ⟨rfl, hb2⟩; obtain ⟨hc2, hf2⟩ := bcell hb2; have hz2 : w.heap.size + 1 < w2.heap.size := (by have := hb2.size; simp at this; omega); have hy2 : w.heap.size < w2.heap.size := (by omega)))
          refine bodyPost_ret (v := .tuple #[.agg #[.string s, .int .i64 (a : Nat), .int .i64 4], .string (bs [])]) (by simp [results, Try.results38, go_sem, hc2, hc1, hz1, hy1, hz2, hy2]) rfl ⟨rfl, ?_⟩
          repeat (first | (with_reducible exact Below.refl _ _) | (with_reducible refine bsetAt ?_ (by omega) _) | (with_reducible apply balloc) | (with_reducible apply bdrewN) | (with_reducible apply bdrew) | (with_reducible refine bstep ?_ hb2) | (with_reducible refine bstep ?_ hb1))
        · rw [if_neg h4]
          have HK := Lib.hid (show rTake s.data.toList (a + 2) 0 n = ((s.data.toList.drop (a + 2)).take n, a + 2 + n, 0) by unfold rTake; rw [if_neg (by simp), if_neg (by omega), if_neg (by simp; omega)]; rfl)
          clear h4 hl
          go_enter Try.func38, Try.ntmps38
          go_wp2_with (first | (go_at_call 36; refine (rnum_eq _ _ _ _ _ Hs.out ha _ _ _ HN.out).mono ?_; rintro e w1 ⟨rfl, hb1⟩; obtain ⟨hc1, hf1⟩ := bcell hb1; have hz1 : w.heap.size + 1 < w1.heap.size := (by have := hb1.size; simp at this; omega); have hy1 : w.heap.size < w1.heap.size := (by omega)) | (go_at_call 37; refine (take_eq _ _ _ _ _ Hs.out ha2 _ _ _ HK.out).mono ?_; rintro e w2 ⟨rfl, hb2⟩; obtain ⟨hc2, hf2⟩ := bcell hb2; have hz2 : w.heap.size + 1 < w2.heap.size := (by have := hb2.size; simp at this; omega); have hy2 : w.heap.size < w2.heap.size := (by omega)))
          refine bodyPost_ret (v := .tuple #[.agg #[.string s, .int .i64 (a + 2 + n : Nat), .int .i64 0], .string (bs ((s.data.toList.drop (a + 2)).take n))]) (by simp [results, Try.results38, go_sem, hc2, hc1, hz1, hy1, hz2, hy2]) rfl ⟨rfl, ?_⟩
          repeat (first | (with_reducible exact Below.refl _ _) | (with_reducible refine bsetAt ?_ (by omega) _) | (with_reducible apply balloc) | (with_reducible apply bdrewN) | (with_reducible apply bdrew) | (with_reducible refine bstep ?_ hb2) | (with_reducible refine bstep ?_ hb1))
  · have HT := Lib.hid (show rText s.data.toList a e most = ([], a, e) by unfold rText; rw [if_pos he])
    rw [HT.out]
    have HN := Lib.hid (show rNum s.data.toList a e 2 = (0, a, e) by unfold rNum; rw [if_pos he])
    have HK := Lib.hid (show rTake s.data.toList a e 0 = ([], a, e) by unfold rTake; rw [if_pos he])
    have hb : (e == 0) = false := by simp [he]
    have hb' : (e != 0) = true := by simp [he]
    clear he hl
    go_enter Try.func38, Try.ntmps38
    go_wp2_with (first | (go_at_call 36; refine (rnum_eq _ _ _ _ _ Hs.out ha _ _ _ HN.out).mono ?_; rintro e w1 ⟨rfl, hb1⟩; obtain ⟨hc1, hf1⟩ := bcell hb1; have hz1 : w.heap.size + 1 < w1.heap.size := (by have := hb1.size; simp at this; omega); have hy1 : w.heap.size < w1.heap.size := (by omega)) | (go_at_call 37; refine (take_eq _ _ _ _ _ Hs.out ha _ _ _ HK.out).mono ?_; rintro e w2 ⟨rfl, hb2⟩; obtain ⟨hc2, hf2⟩ := bcell hb2; have hz2 : w.heap.size + 1 < w2.heap.size := (by have := hb2.size; simp at this; omega); have hy2 : w.heap.size < w2.heap.size := (by omega)))
    refine bodyPost_ret (v := .tuple #[.agg #[.string s, .int .i64 (a : Nat), .int .i64 e], .string (bs [])]) (by simp [results, Try.results38, go_sem, hc2, hc1, hz1, hy1, hz2, hy2]) rfl ⟨rfl, ?_⟩
    repeat (first | (with_reducible exact Below.refl _ _) | (with_reducible refine bsetAt ?_ (by omega) _) | (with_reducible apply balloc) | (with_reducible apply bdrewN) | (with_reducible apply bdrew) | (with_reducible refine bstep ?_ hb2) | (with_reducible refine bstep ?_ hb1))

set_option maxHeartbeats 1600000 in
theorem rrbool_any (s : ByteArray) (a : Nat) (e : Int) (w : World) (hs : s.size ≤ maxLen) (ha : a ≤ s.size) :
    Calls Try.prog 39 #[.agg #[.string s, .int .i64 a, .int .i64 e]] w fun e' w' =>
      e' = .returned (.tuple #[.agg #[.string s, .int .i64 (rBool s.data.toList a e).2.1, .int .i64 (rBool s.data.toList a e).2.2], .bool (rBool s.data.toList a e).1]) ∧ Below w.heap.size w w' := by
  have hl : s.data.toList.length = s.size := by simp
  have hs2 : s.size ≤ 9223372036854775807 := hs
  have Hs := Lib.hid hs
  clear hs
  unfold rBool
  rw [hl]
  by_cases he : e = 0
  · subst he
    rw [if_neg (by simp)]
    by_cases h2 : (s.size : Int) - a < 1
    · rw [if_pos h2]
      have HK := Lib.hid (show rTake s.data.toList a 0 1 = ([], a, 4) by unfold rTake; rw [hl, if_neg (by simp), if_neg (by omega), if_pos h2])
      clear hl
      go_enter Try.func39, Try.ntmps39
      go_wp2_with (go_at_call 37; refine (take_eq _ _ _ _ _ Hs.out ha _ _ _ HK.out).mono ?_; rintro e w1 ⟨rfl, hb1⟩; obtain ⟨hc1, hf1⟩ := bcell hb1; have hz1 : w.heap.size + 1 < w1.heap.size := (by have := hb1.size; simp at this; omega); have hy1 : w.heap.size < w1.heap.size := (by omega))
      go_region
      all_goals go_wp2
      all_goals
        refine bodyPost_ret (v := .tuple #[.agg #[.string s, .int .i64 (a : Nat), .int .i64 4], .bool false]) (by simp [results, Try.results39, go_sem, hc1, hz1, hy1]) rfl ⟨rfl, ?_⟩
        repeat (first | (with_reducible exact Below.refl _ _) | (with_reducible refine bsetAt ?_ (by omega) _) | (with_reducible apply balloc) | (with_reducible apply bdrewN) | (with_reducible apply bdrew) | (with_reducible refine bstep ?_ hb1))
    · rw [if_neg h2]
      have hlt : a < s.size := by omega
      have hd : (s.data.toList.drop a).take 1 = [s[a]] := by
        rw [List.drop_eq_getElem_cons (by simpa using hlt)]
        rfl
      have HK := Lib.hid (show rTake s.data.toList a 0 1 = ([s[a]], a + 1, 0) by unfold rTake; rw [hl, if_neg (by simp), if_neg (by omega), if_neg h2, ← hd]; rfl)
      have hn : numL ((s.data.toList.drop a).take 1) = s[a].toNat := by rw [hd]; simp [numL]
      rw [hn]
      clear hn hd hl
      generalize s[a] = b at *
      have hbs : (bs [b]).size = 1 := by rw [bs_size]; rfl
      have hb0 : (bs [b])[0]'(by omega) = b := rfl
      by_cases h3 : 1 < b.toNat
      · rw [if_pos h3]
        have h3' : (1 : Int) < b.toNat := by omega
        clear h2
        go_enter Try.func39, Try.ntmps39
        go_wp2_with (go_at_call 37; refine (take_eq _ _ _ _ _ Hs.out ha _ _ _ HK.out).mono ?_; rintro e w1 ⟨rfl, hb1⟩; obtain ⟨hc1, hf1⟩ := bcell hb1; have hz1 : w.heap.size + 1 < w1.heap.size := (by have := hb1.size; simp at this; omega); have hy1 : w.heap.size < w1.heap.size := (by omega))
        all_goals go_wp2
        all_goals
          refine bodyPost_ret (v := .tuple #[.agg #[.string s, .int .i64 (a : Nat), .int .i64 6], .bool false]) (by simp [results, Try.results39, go_sem, hc1, hz1, hy1]) rfl ⟨rfl, ?_⟩
          repeat (first | (with_reducible exact Below.refl _ _) | (with_reducible refine bsetAt ?_ (by omega) _) | (with_reducible apply balloc) | (with_reducible apply bdrewN) | (with_reducible apply bdrew) | (with_reducible refine bstep ?_ hb1))
      · rw [if_neg h3]
        have h3' : b = 0 ∨ b = 1 := by
          have : b.toNat = 0 ∨ b.toNat = 1 := by omega
          rcases this with h | h
          · exact .inl (UInt8.toNat_inj.1 h)
          · exact .inr (UInt8.toNat_inj.1 h)
        clear h2 h3
        rcases h3' with rfl | rfl
        · go_enter Try.func39, Try.ntmps39
          go_wp2_with (go_at_call 37; refine (take_eq _ _ _ _ _ Hs.out ha _ _ _ HK.out).mono ?_; rintro e w1 ⟨rfl, hb1⟩; obtain ⟨hc1, hf1⟩ := bcell hb1; have hz1 : w.heap.size + 1 < w1.heap.size := (by have := hb1.size; simp at this; omega); have hy1 : w.heap.size < w1.heap.size := (by omega))
          go_region
          all_goals go_wp2
          all_goals
            refine bodyPost_ret (v := .tuple #[.agg #[.string s, .int .i64 (a + 1 : Nat), .int .i64 0], .bool false]) (by simp [results, Try.results39, go_sem, hc1, hz1, hy1]) rfl ⟨rfl, ?_⟩
            repeat (first | (with_reducible exact Below.refl _ _) | (with_reducible refine bsetAt ?_ (by omega) _) | (with_reducible apply balloc) | (with_reducible apply bdrewN) | (with_reducible apply bdrew) | (with_reducible refine bstep ?_ hb1))
        · go_enter Try.func39, Try.ntmps39
          go_wp2_with (go_at_call 37; refine (take_eq _ _ _ _ _ Hs.out ha _ _ _ HK.out).mono ?_; rintro e w1 ⟨rfl, hb1⟩; obtain ⟨hc1, hf1⟩ := bcell hb1; have hz1 : w.heap.size + 1 < w1.heap.size := (by have := hb1.size; simp at this; omega); have hy1 : w.heap.size < w1.heap.size := (by omega))
          go_region
          all_goals go_wp2
          all_goals
            refine bodyPost_ret (v := .tuple #[.agg #[.string s, .int .i64 (a + 1 : Nat), .int .i64 0], .bool true]) (by simp [results, Try.results39, go_sem, hc1, hz1, hy1]) rfl ⟨rfl, ?_⟩
            repeat (first | (with_reducible exact Below.refl _ _) | (with_reducible refine bsetAt ?_ (by omega) _) | (with_reducible apply balloc) | (with_reducible apply bdrewN) | (with_reducible apply bdrew) | (with_reducible refine bstep ?_ hb1))
  · rw [if_pos he]
    have HK := Lib.hid (show rTake s.data.toList a e 1 = ([], a, e) by unfold rTake; rw [if_pos he])
    have hb : (e == 0) = false := by simp [he]
    have hb' : (e != 0) = true := by simp [he]
    clear he hl
    go_enter Try.func39, Try.ntmps39
    go_wp2_with (go_at_call 37; refine (take_eq _ _ _ _ _ Hs.out ha _ _ _ HK.out).mono ?_; rintro e w1 ⟨rfl, hb1⟩; obtain ⟨hc1, hf1⟩ := bcell hb1; have hz1 : w.heap.size + 1 < w1.heap.size := (by have := hb1.size; simp at this; omega); have hy1 : w.heap.size < w1.heap.size := (by omega))
    go_region
    all_goals go_wp2
    all_goals
      refine bodyPost_ret (v := .tuple #[.agg #[.string s, .int .i64 (a : Nat), .int .i64 e], .bool false]) (by simp [results, Try.results39, go_sem, hc1, hz1, hy1]) rfl ⟨rfl, ?_⟩
      repeat (first | (with_reducible exact Below.refl _ _) | (with_reducible refine bsetAt ?_ (by omega) _) | (with_reducible apply balloc) | (with_reducible apply bdrewN) | (with_reducible apply bdrew) | (with_reducible refine bstep ?_ hb1))
end Go.Proofs.Ytjgahidfhagafaa
