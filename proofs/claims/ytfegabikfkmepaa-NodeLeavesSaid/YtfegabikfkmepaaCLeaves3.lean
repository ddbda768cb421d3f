import Derived.Test.YtfegabikfkmepaaCLeaves2
section
namespace Go.Proofs.Ytfegabikfkmepaa
open Go.RowKit Go.Gi Go.GiRow Go.Proofs.YtfegabikfkmepaaW.PrintWords Go.Proofs.YtfegabikfkmepaaW.PrintLast Go.Proofs.YtfegabikfkmepaaW.PrintMore
set_option maxRecDepth 20000
set_option linter.unusedSimpArgs false
set_option linter.unusedVariables false
theorem bdrewB {w w2 : World} (h : Below w.drew.heap.size w.drew w2) : Below w.heap.size w w2 := ⟨h.os, h.tape, h.output, h.size, h.block⟩
theorem bsr_lt {c : Nat → Int} {lo hi R : Nat} (h : bsr c (hi - lo) lo hi = R) (hlt : lo < hi) : (c ((lo + hi) / 2) < 0 → bsr c (hi - ((lo + hi) / 2 + 1)) ((lo + hi) / 2 + 1) hi = R) ∧ (¬ c ((lo + hi) / 2) < 0 → bsr c ((lo + hi) / 2 - lo) lo ((lo + hi) / 2) = R) := by
  obtain ⟨m, hm⟩ : ∃ m, hi - lo = m + 1 := ⟨hi - lo - 1, by omega⟩
  rw [hm, bsr, if_pos hlt] at h
  constructor
  · intro hc
    rw [if_pos hc] at h
    rw [← h]
    exact bsr_more c _ _ _ _ (Nat.le_refl _) (by omega)
  · intro hc
    rw [if_neg hc] at h
    rw [← h]
    exact bsr_more c _ _ _ _ (Nat.le_refl _) (by omega)
set_option maxHeartbeats 4000000 in
theorem bsearch_any (A : Option Addr) (cap : Nat) (l : List It) (k : ByteArray) (p s : Int) (w : World) (hA : RdRows It.cells 4 w A l) (hl : l.length ≤ 1000000000000) :
    Calls Try.prog 40 #[.slice A l.length cap, .agg #[.string k, .int .u32 p, .int .i64 s], .func (.func 41) #[] #[]] w fun e w' => e = .returned (.tuple #[.int .i64 (findAt l k p s), .bool (findIs l k p s)]) ∧ Below w.heap.size w w' := by
  have HA := Lib.hid hA
  have eg := enters_find
  have HR := Lib.hid (show bsr (cAt l k p s) (l.length - 0) 0 l.length = findAt l k p s from rfl)
  have HF := Lib.hid (show (decide (findAt l k p s < l.length) && decide (cAt l k p s (findAt l k p s) = 0)) = findIs l k p s from rfl)
  generalize findAt l k p s = R at *
  generalize findIs l k p s = F at *
  have hle : R ≤ l.length := by
    have := bsr_le (cAt l k p s) (l.length - 0) 0 l.length (Nat.zero_le _)
    rw [HR.out] at this
    exact this.2
  clear hA
  go_enter Try.func40, Try.ntmps40
  go_wp2
  have hB := Blk.new w 43 #[.string k, .int .u32 p, .int .i64 s]
  have hW := balloc (Below.refl w.heap.size w) (.cells #[.string k, .int .u32 p, .int .i64 s] 43)
  generalize w.alloc (.cells #[.string k, .int .u32 p, .int .i64 s] 43) = w0 at *
  generalize hg : w.heap.size = g at *
  have HB := Lib.hid hB
  have HW := Lib.hid (show Below w.heap.size w w0 by rw [hg]; exact hW)
  clear hB hW hg
  go_loopw [9, 10] (fun i j wr => ∃ lo hi : Nat, i = .int .i64 lo ∧ j = .int .i64 hi ∧ lo ≤ hi ∧ hi ≤ l.length ∧ Below w0.heap.size w0 wr ∧ Hid (bsr (cAt l k p s) (hi - lo) lo hi = R))
    (fun i j _ => (intOf j).toNat - (intOf i).toNat)
  case atStart => exact ⟨0, l.length, rfl, rfl, Nat.zero_le _, Nat.le_refl _, Below.refl _ _, HR⟩
  case round =>
    obtain ⟨lo, hi, rfl, rfl, hlh, hhl, hb, HC⟩ := hrel
    have HBb := Lib.hid hb
    clear hb HR
    by_cases hlt : lo < hi
    · have hst := Lib.hid (bsr_lt HC.out hlt)
      obtain ⟨m, hm⟩ : ∃ m, (lo + hi) / 2 = m := ⟨_, rfl⟩
      rw [hm] at hst
      have hml : m < l.length := by omega
      have hmi : ((lo : Int) + (hi : Int)) / 2 = (m : Int) := by omega
      obtain ⟨b, off, rfl, y0, y1, y2, y3⟩ := it_load w _ _ l HA.out (bstep HW.out HBb.out) m hml
      have hcm : cAt l k p s m = entC l[m].key l[m].page l[m].slot k p s := by unfold cAt; rw [List.getElem?_eq_getElem hml]
      rw [hcm] at hst
      clear hcm
      generalize l[m] = x at *
      obtain ⟨xk, xp, xs, xl⟩ := x
      simp only at y0 y1 y2 y3 hst
      have z0 := (HBb.out.cell (p := ⟨g, 0, none⟩) HB.out.lt).trans (HB.out.cell 0)
      have z1 := (HBb.out.cell (p := ⟨g, 1, none⟩) HB.out.lt).trans (HB.out.cell 1)
      have z2 := (HBb.out.cell (p := ⟨g, 2, none⟩) HB.out.lt).trans (HB.out.cell 2)
      have i0 : (0 : Int) ≤ m := by omega
      have i1 : (m : Int) < l.length := by omega
      have hcall := Lib.hid (fun w2 => find1_any ⟨xk, xp, xs, xl⟩ k p s w2)
      generalize entC xk xp xs k p s = c at *
      by_cases hc : c < 0
      · have hst2 := Lib.hid (hst.out.1 hc)
        clear hst
        go_wp2_with fail
        go_region_law ((go_simp; go_at_call 41; refine (hcall.out _).mono ?_; rintro e w2 ⟨rfl, h2⟩))
        all_goals
          go_wp2
          go_roundw
          case rel => exact ⟨m + 1, hi, by go_num, rfl, by omega, hhl, bstep HBb.out (bdrewB h2), hst2⟩
          case measure => simp [intOf]; omega
      · have hst2 := Lib.hid (hst.out.2 (by omega))
        clear hst
        go_wp2_with fail
        go_region_law ((go_simp; go_at_call 41; refine (hcall.out _).mono ?_; rintro e w2 ⟨rfl, h2⟩))
        all_goals
          go_wp2
          go_roundw
          case rel => exact ⟨lo, m, rfl, by go_num, by omega, by omega, bstep HBb.out (bdrewB h2), hst2⟩
          case measure => simp [intOf]; omega
    · obtain rfl : hi = lo := by omega
      have hR : hi = R := by have := HC.out; rwa [bsr_done] at this
      subst hR
      clear HC
      by_cases hn : hi < l.length
      · have hdn : decide ((hi : Int) < (l.length : Int)) = true := by simpa using hn
        obtain ⟨b, off, rfl, y0, y1, y2, y3⟩ := it_load w _ _ l HA.out (bstep HW.out HBb.out) hi hn
        have hcm : cAt l k p s hi = entC l[hi].key l[hi].page l[hi].slot k p s := by unfold cAt; rw [List.getElem?_eq_getElem hn]
        rw [hcm] at HF
        clear hcm
        generalize l[hi] = x at *
        obtain ⟨xk, xp, xs, xl⟩ := x
        simp only at y0 y1 y2 y3 HF
        have z0 := (HBb.out.cell (p := ⟨g, 0, none⟩) HB.out.lt).trans (HB.out.cell 0)
        have z1 := (HBb.out.cell (p := ⟨g, 1, none⟩) HB.out.lt).trans (HB.out.cell 1)
        have z2 := (HBb.out.cell (p := ⟨g, 2, none⟩) HB.out.lt).trans (HB.out.cell 2)
        have i0 : (0 : Int) ≤ hi := by omega
        have i1 : (hi : Int) < l.length := by omega
        have hcall := Lib.hid (fun w2 => find1_any ⟨xk, xp, xs, xl⟩ k p s w2)
        generalize entC xk xp xs k p s = c at *
        have HF2 := Lib.hid (show decide (c = 0) = F by have := HF.out; simpa [hn] using this)
        clear HF
        go_wp2_with fail
        refine start_ (n := 16) (S := fun w' => w'.cell? ⟨b, off + hi * 4, none⟩ = some (.string xk) ∧ w'.cell? ⟨b, off + hi * 4 + 1, none⟩ = some (.int .u32 xp) ∧ w'.cell? ⟨b, off + hi * 4 + 2, none⟩ = some (.int .i64 xs) ∧ w'.cell? ⟨b, off + hi * 4 + 3, none⟩ = some (.bool xl) ∧ w'.cell? ⟨g, 0, none⟩ = some (.string k) ∧ w'.cell? ⟨g, 1, none⟩ = some (.int .u32 p) ∧ w'.cell? ⟨g, 2, none⟩ = some (.int .i64 s)) (ds := []) #[false, false, false, false, false, false, false, false, false, false, false, false, false, false, false, false] (by kernel_rfl) rfl rfl ⟨y0, y1, y2, y3, z0, z1, z2⟩ (fun hHeld => ?_)
        refine pure_ (i := 0) (N := some 35) (v := ?_) (a' := ?_) #[true, false, false, false, false, false, false, false, false, false, false, false, false, false, false, false] rfl rfl (by kernel_rfl) (fun _ _ _ h => h) (Or.inl ⟨by rfl, ?_⟩) ?_ ?_
        rotate_left
        · intro w'
          go_simp
          with_reducible rfl
        rotate_left
        · simp only [Act.put, List.setIfInBounds_toArray, List.set_cons_zero, List.set_cons_succ, i64_w, i32_w]
          rfl
        refine pure_ (i := 1) (N := some 36) (v := ?_) (a' := ?_) #[true, true, false, false, false, false, false, false, false, false, false, false, false, false, false, false] rfl rfl (by kernel_rfl) (fun _ _ _ h => h) (Or.inl ⟨by rfl, ?_⟩) ?_ ?_
        rotate_left
        · intro w'
          go_simp
          with_reducible rfl
        rotate_left
        · simp only [Act.put, List.setIfInBounds_toArray, List.set_cons_zero, List.set_cons_succ, i64_w, i32_w]
          rfl
        refine pure_ (i := 2) (N := some 37) (v := ?_) (a' := ?_) #[true, true, true, false, false, false, false, false, false, false, false, false, false, false, false, false] rfl rfl (by kernel_rfl) (fun _ _ _ h => h) (Or.inl ⟨by rfl, ?_⟩) ?_ ?_
        rotate_left
        · intro w'
          go_simp
          with_reducible rfl
        rotate_left
        · simp only [Act.put, List.setIfInBounds_toArray, List.set_cons_zero, List.set_cons_succ, i64_w, i32_w]
          rfl
        refine pure_ (i := 3) (N := some 38) (v := ?_) (a' := ?_) #[true, true, true, true, false, false, false, false, false, false, false, false, false, false, false, false] rfl rfl (by kernel_rfl) (fun _ _ _ h => h) (Or.inl ⟨by rfl, ?_⟩) ?_ ?_
        rotate_left
        · intro w'
          go_simp
          with_reducible rfl
        rotate_left
        · simp only [Act.put, List.setIfInBounds_toArray, List.set_cons_zero, List.set_cons_succ, i64_w, i32_w]
          rfl
        refine pure_ (i := 4) (N := some 39) (v := ?_) (a' := ?_) #[true, true, true, true, true, false, false, false, false, false, false, false, false, false, false, false] rfl rfl (by kernel_rfl) (fun _ _ _ h => h) (Or.inl ⟨by rfl, ?_⟩) ?_ ?_
        rotate_left
        · intro w'
          go_simp
          with_reducible rfl
        rotate_left
        · simp only [Act.put, List.setIfInBounds_toArray, List.set_cons_zero, List.set_cons_succ, i64_w, i32_w]
          rfl
        refine pure_ (i := 5) (N := some 40) (v := ?_) (a' := ?_) #[true, true, true, true, true, true, false, false, false, false, false, false, false, false, false, false] rfl rfl (by kernel_rfl) (fun _ _ _ h => h) (Or.inl ⟨by rfl, ?_⟩) ?_ ?_
        rotate_left
        · intro w'
          go_simp
          with_reducible rfl
        rotate_left
        · simp only [Act.put, List.setIfInBounds_toArray, List.set_cons_zero, List.set_cons_succ, i64_w, i32_w]
          rfl
        refine pure_ (i := 6) (N := some 41) (v := ?_) (a' := ?_) #[true, true, true, true, true, true, true, false, false, false, false, false, false, false, false, false] rfl rfl (by kernel_rfl) (fun _ _ _ h => h) (Or.inl ⟨by rfl, ?_⟩) ?_ ?_
        rotate_left
        · intro w'
          go_simp
          with_reducible rfl
        rotate_left
        · simp only [Act.put, List.setIfInBounds_toArray, List.set_cons_zero, List.set_cons_succ, i64_w, i32_w]
          rfl
        refine pure_ (i := 7) (N := some 42) (v := ?_) (a' := ?_) #[true, true, true, true, true, true, true, true, false, false, false, false, false, false, false, false] rfl rfl (by kernel_rfl) (fun _ _ _ h => h) (Or.inl ⟨by rfl, ?_⟩) ?_ ?_
        rotate_left
        · intro w'
          go_simp
          with_reducible rfl
        rotate_left
        · simp only [Act.put, List.setIfInBounds_toArray, List.set_cons_zero, List.set_cons_succ, i64_w, i32_w]
          rfl
        refine pure_ (i := 8) (N := some 43) (v := ?_) (a' := ?_) #[true, true, true, true, true, true, true, true, true, false, false, false, false, false, false, false] rfl rfl (by kernel_rfl) (fun _ _ _ h => h) (Or.inl ⟨by rfl, ?_⟩) ?_ ?_
        rotate_left
        · intro w'
          go_simp
          with_reducible rfl
        rotate_left
        · simp only [Act.put, List.setIfInBounds_toArray, List.set_cons_zero, List.set_cons_succ, i64_w, i32_w]
          rfl
        refine take_ (i := 9) (N := some 44) (v := ?_) (a' := ?_) #[true, true, true, true, true, true, true, true, true, true, false, false, false, false, false, false] rfl rfl (by kernel_rfl) (fun _ _ _ h => h) (Or.inl ⟨by rfl, ?_⟩) hHeld ?_ ?_
        rotate_left
        · rintro w' ⟨s0, s1, s2, s3, s4, s5, s6⟩
          go_simp
          with_reducible rfl
        rotate_left
        · simp only [Act.put, List.setIfInBounds_toArray, List.set_cons_zero, List.set_cons_succ, i64_w, i32_w]
          rfl
        refine take_ (i := 10) (N := some 45) (v := ?_) (a' := ?_) #[true, true, true, true, true, true, true, true, true, true, true, false, false, false, false, false] rfl rfl (by kernel_rfl) (fun _ _ _ h => h) (Or.inl ⟨by rfl, ?_⟩) hHeld ?_ ?_
        rotate_left
        · rintro w' ⟨s0, s1, s2, s3, s4, s5, s6⟩
          go_simp
          with_reducible rfl
        rotate_left
        · simp only [Act.put, List.setIfInBounds_toArray, List.set_cons_zero, List.set_cons_succ, i64_w, i32_w]
          rfl
        refine one_ (i := 11) (N := some 46) #[true, true, true, true, true, true, true, true, true, true, true, true, false, false, false, false] rfl rfl (by kernel_rfl) (by decide) (fun K hK => ?_)
        refine call_ 41 #[.agg #[.string xk, .int .u32 xp, .int .i64 xs, .bool xl], .agg #[.string k, .int .u32 p, .int .i64 s]] (by rfl) rfl ?_ ?_
        · go_simp
        refine (hcall.out _).mono ?_
        rintro e w2 ⟨rfl, h2⟩
        refine ⟨_, rfl, ?_⟩
        obtain ⟨s0, s1, s2, s3, s4, s5, s6⟩ := hHeld
        refine hK.out _ _ ⟨(h2.cell (World.block_lt_of_cell? _ _ s0)).trans s0, (h2.cell (World.block_lt_of_cell? _ _ s1)).trans s1, (h2.cell (World.block_lt_of_cell? _ _ s2)).trans s2, (h2.cell (World.block_lt_of_cell? _ _ s3)).trans s3, (h2.cell (World.block_lt_of_cell? _ _ s4)).trans s4, (h2.cell (World.block_lt_of_cell? _ _ s5)).trans s5, (h2.cell (World.block_lt_of_cell? _ _ s6)).trans s6⟩ (fun hHeld => ?_)
        clear hK K
        have hb3 := bstep HBb.out (bdrewB h2)
        clear h2 s0 s1 s2 s3 s4 s5 s6 hcall
        refine norm_ (a' := ?_) ?_ ?_
        rotate_left
        · show Act.put _ (some 46) _ = _
          simp only [Act.put, List.setIfInBounds_toArray, List.set_cons_zero, List.set_cons_succ]
          rfl
        refine pure_ (i := 12) (N := some 47) (v := ?_) (a' := ?_) #[true, true, true, true, true, true, true, true, true, true, true, true, true, false, false, false] rfl rfl (by kernel_rfl) (fun _ _ _ h => h) (Or.inl ⟨by rfl, ?_⟩) ?_ ?_
        rotate_left
        · intro w'
          go_simp
          with_reducible rfl
        rotate_left
        · simp only [Act.put, List.setIfInBounds_toArray, List.set_cons_zero, List.set_cons_succ, i64_w, i32_w]
          rfl
        refine pure_ (i := 13) (N := some 48) (v := ?_) (a' := ?_) #[true, true, true, true, true, true, true, true, true, true, true, true, true, true, false, false] rfl rfl (by kernel_rfl) (fun _ _ _ h => h) (Or.inl ⟨by rfl, ?_⟩) ?_ ?_
        rotate_left
        · intro w'
          go_simp
          with_reducible rfl
        rotate_left
        · simp only [Act.put, List.setIfInBounds_toArray, List.set_cons_zero, List.set_cons_succ, i64_w, i32_w]
          rfl
        refine pure_ (i := 14) (N := some 6) (v := ?_) (a' := ?_) #[true, true, true, true, true, true, true, true, true, true, true, true, true, true, true, false] rfl rfl (by kernel_rfl) (fun _ _ _ h => h) (Or.inl ⟨by rfl, ?_⟩) ?_ ?_
        rotate_left
        · intro w'
          go_simp
          with_reducible rfl
        rotate_left
        · simp only [Act.put, List.setIfInBounds_toArray, List.set_cons_zero, List.set_cons_succ, i64_w, i32_w]
          rfl
        refine pure_ (i := 15) (N := some 7) (v := ?_) (a' := ?_) #[true, true, true, true, true, true, true, true, true, true, true, true, true, true, true, true] rfl rfl (by kernel_rfl) (fun _ _ _ h => h) (Or.inl ⟨by rfl, ?_⟩) ?_ ?_
        rotate_left
        · intro w'
          go_simp
          with_reducible rfl
        rotate_left
        · simp only [Act.put, List.setIfInBounds_toArray, List.set_cons_zero, List.set_cons_succ, i64_w, i32_w]
          rfl
        refine done_ (by kernel_rfl) ?_
        go_wp2
        go_ret2
        exact ⟨by rw [← HF2.out]; rfl, bstep HW.out hb3⟩
      · have hdn : decide ((hi : Int) < (l.length : Int)) = false := by simpa using hn
        have HF2 := Lib.hid (show false = F by have := HF.out; simpa [hn] using this)
        clear HF
        go_wp2_with fail
        go_quiet (fail)
        go_wp2
        go_ret2
        exact ⟨by rw [← HF2.out]; rfl, bstep HW.out (bdrewN HBb.out _)⟩
theorem find_any (A : Option Addr) (cap : Nat) (l : List It) (k : ByteArray) (p s : Int) (w : World) (hA : RdRows It.cells 4 w A l) (hl : l.length ≤ 1000000000000) :
    Calls Try.prog 18 #[.slice A l.length cap, .agg #[.string k, .int .u32 p, .int .i64 s]] w fun e w' => e = .returned (.tuple #[.int .i64 (findAt l k p s), .bool (findIs l k p s)]) ∧ Below w.heap.size w w' := by
  have HA := Lib.hid hA
  clear hA
  go_enter Try.func18, Try.ntmps18
  go_upto_region 1 with fail
  have hB := Blk.new w 43 #[.string k, .int .u32 p, .int .i64 s]
  have hW := balloc (Below.refl w.heap.size w) (.cells #[.string k, .int .u32 p, .int .i64 s] 43)
  generalize w.alloc (.cells #[.string k, .int .u32 p, .int .i64 s] 43) = w0 at *
  have z0 := hB.cell 0
  have z1 := hB.cell 1
  have z2 := hB.cell 2
  have HW := Lib.hid hW
  have hR := Lib.hid (show RdRows It.cells 4 w0 A l from fun j hj => by
    obtain ⟨b, off, e, h1, h2⟩ := HA.out j hj
    exact ⟨b, off, e, Nat.lt_of_lt_of_le h1 hW.size, fun i u hu => (hW.cell (p := ⟨b, off + j * 4 + i, none⟩) h1).trans (h2 i u hu)⟩)
  clear hB hW
  go_wp2_with (go_at_call 40; refine (bsearch_any A cap l k p s _ hR.out hl).mono ?_; rintro e w1 ⟨rfl, h1⟩)
  all_goals
    go_ret2
    exact ⟨rfl, bstep HW.out h1⟩
end Go.Proofs.Ytfegabikfkmepaa
end
section
namespace Go.Proofs.Ytfegabikfkmepaa
open Go.RowKit Go.Gi
set_option maxRecDepth 20000
theorem get_arg (s : ByteArray) (at_ long : Int) (w : World) (h : long < 0 ∨ 8 < long ∨ at_ < 0 ∨ (s.size : Int) < at_) :
    Calls Try.prog 39 #[.string s, .int .i64 at_, .int .i64 long] w fun e w' => e = .returned (.tuple #[.int .u64 0, .int .i64 1]) ∧ w' = w := by
  go_enter Try.func39, Try.ntmps39
  by_cases h1 : long < 0
  · go_wp2; go_ret2; exact ⟨rfl, rfl⟩
  by_cases h2 : 8 < long
  · go_wp2; go_ret2; exact ⟨rfl, rfl⟩
  by_cases h3 : at_ < 0
  · go_wp2; go_ret2; exact ⟨rfl, rfl⟩
  have h4 : (s.size : Int) < at_ := by omega
  clear h
  go_wp2; go_ret2; exact ⟨rfl, rfl⟩
theorem get_cut (s : ByteArray) (at_ long : Int) (w : World) (h0 : 0 ≤ long) (h1 : long ≤ 8) (h2 : 0 ≤ at_) (h3 : at_ ≤ s.size) (h4 : (s.size : Int) - at_ < long) :
    Calls Try.prog 39 #[.string s, .int .i64 at_, .int .i64 long] w fun e w' => e = .returned (.tuple #[.int .u64 0, .int .i64 4]) ∧ w' = w := by
  go_enter Try.func39, Try.ntmps39
  go_wp2; go_ret2; exact ⟨rfl, rfl⟩
set_option maxHeartbeats 400000 in
theorem get_nat (s : ByteArray) (a n : Nat) (w : World) (hs : s.size ≤ maxLen) (h1 : n ≤ 8) (h4 : a + n ≤ s.size) :
    Calls Try.prog 39 #[.string s, .int .i64 a, .int .i64 n] w fun e w' => e = .returned (.tuple #[.int .u64 (numL ((s.data.toList.drop a).take n) : Nat), .int .i64 0]) ∧ w' = w := by
  unfold maxLen at hs
  have hl : ((s.data.toList.drop a).take n).length = n := by simp; omega
  obtain ⟨l, hleq⟩ : ∃ l, (s.data.toList.drop a).take n = l := ⟨_, rfl⟩
  have Hl := Lib.hid hleq
  rw [hleq] at hl
  rw [hleq]
  clear hleq
  have g1 : decide ((n : Int) < 0) = false := decide_eq_false (by omega)
  have g2 : decide (8 < (n : Int)) = false := decide_eq_false (by omega)
  have g3 : decide ((a : Int) < 0) = false := decide_eq_false (by omega)
  have g4 : decide (s.size < a) = false := decide_eq_false (by omega)
  have g5 : decide ((s.size : Int) - a < n) = false := decide_eq_false (by omega)
  go_enter Try.func39, Try.ntmps39
  go_wp2
  go_loop [8, 9] (fun x i => ∃ k : Nat, k ≤ n ∧ i = .int .i64 ((k : Int) - 1) ∧ x = .int .u64 ((numL (l.drop k) : Nat) : Int))
      (fun _ i => (intOf i + 1).toNat)
  case atStart => exact ⟨n, Nat.le_refl _, rfl, by rw [List.drop_eq_nil_of_le (by omega)]; rfl⟩
  case round =>
    obtain ⟨k, hk, rfl, rfl⟩ := hrel
    by_cases hk0 : k = 0
    · subst hk0
      go_wp2
      go_ret2
      exact ⟨rfl, rfl⟩
    · obtain ⟨j, rfl⟩ : ∃ j, k = j + 1 := ⟨k - 1, by omega⟩
      have hj : a + j < s.size := by omega
      have hjl : j < l.length := by omega
      have hget : l[j] = s[a + j] := by
        have h := Hl.out
        subst h
        simp
        rfl
      have hstep : numL (l.drop j) = s[a + j].toNat + 256 * numL (l.drop (j + 1)) := by
        rw [List.drop_eq_getElem_cons hjl, numL, hget]
      have hlt := numL_lt (l.drop (j + 1))
      have hlt2 : 256 ^ (l.drop (j + 1)).length ≤ 256 ^ 7 := Nat.pow_le_pow_right (by decide) (by simp; omega)
      have hq : numL (l.drop (j + 1)) < 72057594037927936 := Nat.lt_of_lt_of_le hlt hlt2
      have Hst := Lib.hid hstep
      clear hstep hlt hlt2 hget
      generalize numL (l.drop (j + 1)) = q at *
      go_wp2
      go_round
      case rel => exact ⟨j, by omega, by go_num, by rw [Hst.out, wrapu64, or_byte hq]⟩
      case measure => simp [intOf]
end Go.Proofs.Ytfegabikfkmepaa
end
section
namespace Go.Proofs.Ytfegabikfkmepaa
open Go.RowKit Go.Gi
set_option maxRecDepth 20000
set_option linter.unusedSimpArgs false
def getR (l : List UInt8) (a n : Int) : Int × Int := if n < 0 ∨ 8 < n ∨ a < 0 ∨ (l.length : Int) < a then (0, 1) else if (l.length : Int) - a < n then (0, 4) else ((numL ((l.drop a.toNat).take n.toNat) : Nat), 0)
theorem getR_any (s : ByteArray) (a n : Int) (w : World) (hs : s.size ≤ maxLen) :
    Calls Try.prog 39 #[.string s, .int .i64 a, .int .i64 n] w fun e w' => e = .returned (.tuple #[.int .u64 (getR s.data.toList a n).1, .int .i64 (getR s.data.toList a n).2]) ∧ w' = w := by
  have hl : s.data.toList.length = s.size := by simp
  unfold getR
  rw [hl]
  by_cases h1 : n < 0 ∨ 8 < n ∨ a < 0 ∨ (s.size : Int) < a
  · rw [if_pos h1]
    exact get_arg s a n w h1
  · rw [if_neg h1]
    by_cases h2 : (s.size : Int) - a < n
    · rw [if_pos h2]
      exact get_cut s a n w (by omega) (by omega) (by omega) (by omega) h2
    · rw [if_neg h2]
      obtain ⟨a, rfl⟩ := Int.eq_ofNat_of_zero_le (show 0 ≤ a by omega)
      obtain ⟨n, rfl⟩ := Int.eq_ofNat_of_zero_le (show 0 ≤ n by omega)
      exact get_nat s a n w hs (by omega) (by omega)
end Go.Proofs.Ytfegabikfkmepaa
end
section
namespace Go.Proofs.Ytfegabikfkmepaa.PNe
open Go.RowKit Go.Proofs.YtfegabikfkmepaaW.PrintWords Go.Proofs.YtfegabikfkmepaaW.PrintLast Go.Proofs.YtfegabikfkmepaaW.PrintMore
attribute [local go_sem] max2_int min2_int max_two min_two max_three min_three max_four min_four
set_option linter.unusedVariables false
set_option linter.unusedSimpArgs false
def errW : Option Int → Value
 | none=>.nilIface
 | some c=>.iface 0 (.int .i64 c)
theorem errW_none : errW none=.nilIface:=rfl
theorem errW_some (c : Int) : errW (some c)=.iface 0 (.int .i64 c):=rfl
theorem info47 : (Try.prog.info? 47).map (fun i=>(i.zero,i.size,i.bytes))=some (some (.agg #[(.string ⟨#[]⟩),(.int .u32 0),(.int .i64 0),(.bool false)]),4,40):=by kernel_rfl
structure S41 where
 f0 : Int
 f1 : Int
def k41 : Kd S41:=Kd.iso (Kd.pair (Kd.int .u32) (Kd.int .i64)) (fun x : S41=>(x.f0,x.f1))
theorem k41_open {w : World} {x : S41} {cs : List Value} (h : k41.K w x cs) : cs=[.int .u32 x.f0,.int .i64 x.f1]:=by
 obtain ⟨_,_,rfl,rfl,rfl⟩:=h
 exact rfl
theorem k41_mk (w : World) (x : S41)  : k41.K w x [.int .u32 x.f0,.int .i64 x.f1]:=⟨[.int .u32 x.f0],[.int .i64 x.f1],rfl,rfl,rfl⟩
theorem k41_mkM (w : World) (base : Nat) (ok : Nat → Prop) (x : S41)  : k41.M w base ok x [.int .u32 x.f0,.int .i64 x.f1]:=⟨[.int .u32 x.f0],[.int .i64 x.f1],rfl,rfl,rfl⟩
structure S43 where
 f0 : ByteArray
 f1 : S41
def k43 : Kd S43:=Kd.iso (Kd.pair Kd.string k41) (fun x : S43=>(x.f0,x.f1))
theorem k43_open {w : World} {x : S43} {cs : List Value} (h : k43.K w x cs) : cs=[.string x.f0,.int .u32 x.f1.f0,.int .i64 x.f1.f1]:=by
 obtain ⟨_,_,rfl,rfl,s1⟩:=h
 obtain rfl:=k41_open s1
 exact rfl
theorem k43_mk (w : World) (x : S43)  : k43.K w x [.string x.f0,.int .u32 x.f1.f0,.int .i64 x.f1.f1]:=⟨[.string x.f0],[.int .u32 x.f1.f0,.int .i64 x.f1.f1],rfl,rfl,(k41_mk w x.f1 )⟩
theorem k43_mkM (w : World) (base : Nat) (ok : Nat → Prop) (x : S43)  : k43.M w base ok x [.string x.f0,.int .u32 x.f1.f0,.int .i64 x.f1.f1]:=⟨[.string x.f0],[.int .u32 x.f1.f0,.int .i64 x.f1.f1],rfl,rfl,(k41_mkM w base ok x.f1 )⟩
structure S47 where
 f0 : S43
 f1 : Bool
def k47 : Kd S47:=Kd.iso (Kd.pair k43 Kd.bool) (fun x : S47=>(x.f0,x.f1))
theorem k47_mkM (w : World) (base : Nat) (ok : Nat → Prop) (x : S47)  : k47.M w base ok x [.string x.f0.f0,.int .u32 x.f0.f1.f0,.int .i64 x.f0.f1.f1,.bool x.f1]:=⟨[.string x.f0.f0,.int .u32 x.f0.f1.f0,.int .i64 x.f0.f1.f1],[.bool x.f1],rfl,(k43_mkM w base ok x.f0 ),rfl⟩
structure S66 where
 f0 : Int
 f1 : S43
def k66 : Kd S66:=Kd.iso (Kd.pair (Kd.int .u32) k43) (fun x : S66=>(x.f0,x.f1))
theorem k66_open {w : World} {x : S66} {cs : List Value} (h : k66.K w x cs) : cs=[.int .u32 x.f0,.string x.f1.f0,.int .u32 x.f1.f1.f0,.int .i64 x.f1.f1.f1]:=by
 obtain ⟨_,_,rfl,rfl,s1⟩:=h
 obtain rfl:=k43_open s1
 exact rfl
theorem k66_mk (w : World) (x : S66)  : k66.K w x [.int .u32 x.f0,.string x.f1.f0,.int .u32 x.f1.f1.f0,.int .i64 x.f1.f1.f1]:=⟨[.int .u32 x.f0],[.string x.f1.f0,.int .u32 x.f1.f1.f0,.int .i64 x.f1.f1.f1],rfl,rfl,(k43_mk w x.f1 )⟩
end Go.Proofs.Ytfegabikfkmepaa.PNe
end
section
namespace Go.Proofs.Ytfegabikfkmepaa.PNe
open Go.RowKit Go.Proofs.YtfegabikfkmepaaW.PrintWords Go.Proofs.YtfegabikfkmepaaW.PrintLast Go.Proofs.YtfegabikfkmepaaW.PrintMore
attribute [local go_sem] max2_int min2_int max_two min_two max_three min_three max_four min_four
set_option linter.unusedVariables false
set_option linter.unusedSimpArgs false
def toIt (x : S47) : It:=⟨x.f0.f0,x.f0.f1.f0,x.f0.f1.f1,x.f1⟩
theorem itrows_of_C {w : World} {A : Option Addr} {l : List S47} (h : Kd.C k47 w A l.length l) : Go.GiRow.RdRows It.cells 4 w A (l.map toIt):=by
 intro k hk
 have hk : k < l.length:=by simpa using hk
 have hcells : ∀ (i : Nat) (hi : i < l.length),∃ ad,A=some ad∧∀ j u,(It.cells (toIt l[i]))[j]?=some u → w.cell? (ad.add (i * 4 + j))=some u:=by
  intro i hi
  obtain ⟨ad,rfl,hc⟩:=h.2.2 (by omega)
  obtain ⟨c,hl,hr,hcell⟩:=hc i _ (List.getElem?_eq_getElem hi)
  have hr' : c=It.cells (toIt l[i]):=by
   obtain ⟨c0,c1,rfl,⟨d0,d1,rfl,h0,⟨e0,e1,rfl,h1,h2⟩⟩,h3⟩:=hr
   have h0' : d0=[Value.string l[i].f0.f0]:=h0
   have h1' : e0=[Value.int .u32 l[i].f0.f1.f0]:=h1
   have h2' : e1=[Value.int .i64 l[i].f0.f1.f1]:=h2
   have h3' : c1=[Value.bool l[i].f1]:=h3
   rw [h0',h1',h2',h3']
   rfl
  rw [hr'] at hcell
  exact ⟨ad,rfl,hcell⟩
 obtain ⟨ad,rfl,hc⟩:=hcells k hk
 obtain ⟨ad',e',hc0⟩:=hcells 0 (by omega)
 injection e' with e'
 subst e'
 have h01:=hc0 0 _ rfl
 have e0 : ad.add (0 * 4 + 0)=ad:=by unfold Addr.add;simp
 rw [e0] at h01
 have hsp : ad.spot=none:=by
  unfold World.cell? at h01
  cases hs : ad.spot with
  | none=>rfl
  | some y =>
   simp [hs] at h01
   split at h01 <;> simp_all
 obtain ⟨b,off,sp⟩:=ad
 simp only at hsp
 subst hsp
 have ha : ∀ i,(⟨b,off,none⟩ : Addr).add i=⟨b,off + i,none⟩:=fun i=>by unfold Addr.add;split <;> simp_all
 refine ⟨b,off,rfl,World.block_lt_of_cell? w _ h01,?_⟩
 intro j u hu
 have:=hc j u (by simpa using hu)
 rw [ha] at this
 rw [Nat.add_assoc]
 exact this
def node_Find.f (l0 : List (S47)) (a1_0 : ByteArray) (a1_1 : Int) (a1_2 : Int) : Option (Int × Bool):=if l0.length≤1000000000000 then some ((findAt (l0.map toIt) a1_0 a1_1 a1_2 : Int),findIs (l0.map toIt) a1_0 a1_1 a1_2) else none
set_option maxHeartbeats 8000000 in
set_option maxRecDepth 100000 in
theorem node_Find.calls (A0 : Option Addr) (c0 : Nat) (l0 : List (S47)) (a1_0 : ByteArray) (a1_1 : Int) (a1_2 : Int) (r1 : Int) (r2 : Bool) (w : World) (hr0 : Kd.C k47 w A0 l0.length l0) (hc0 : l0.length≤c0) (h : node_Find.f l0 a1_0 a1_1 a1_2=some (r1,r2)) :
  Calls Try.prog 18 #[.slice A0 l0.length c0,.agg #[.string a1_0,.int .u32 a1_1,.int .i64 a1_2]] w fun e w'=>e=.returned (.tuple #[.int .i64 r1,.bool r2])∧Below w.heap.size w w':=by
 unfold node_Find.f at h
 split at h
 ·rename_i hl
  have h:=Option.some.inj h
  obtain ⟨rfl,rfl⟩:=Prod.mk.inj h
  have:=find_any A0 c0 (l0.map toIt) a1_0 a1_1 a1_2 w (itrows_of_C hr0) (by simpa using hl)
  rw [List.length_map] at this
  exact this
 ·cases h
end Go.Proofs.Ytfegabikfkmepaa.PNe
end
section
namespace Go.Proofs.Ytfegabikfkmepaa.PNe
open Go.RowKit Go.Proofs.YtfegabikfkmepaaW.PrintWords Go.Proofs.YtfegabikfkmepaaW.PrintLast Go.Proofs.YtfegabikfkmepaaW.PrintMore
attribute [local go_sem] max2_int min2_int max_two min_two max_three min_three max_four min_four
set_option linter.unusedVariables false
set_option linter.unusedSimpArgs false
def IsS110 (w0 W : World) (g : Nat) (f0 : ByteArray) (f1 : Int) (f2 : Int) : Prop:=W.heap[g]?=some (.cells #[.string f0,.int .i64 f1,.int .i64 f2] 110 (0,0))∧w0.heap.size≤g
theorem IsS110.grown {w0 W : World} {g : Nat} {f0 : ByteArray} {f1 : Int} {f2 : Int} {W1 : World} {row : Option Nat} (h : IsS110 w0 W g f0 f1 f2) (hw : W.grownBy W1 row) (hne : some g≠row) : IsS110 w0 W1 g f0 f1 f2:=by
 obtain ⟨hb,hg⟩:=h
 exact ⟨blk_grown hb hw hne,hg⟩
theorem IsS110.kept {w0 W : World} {g : Nat} {f0 : ByteArray} {f1 : Int} {f2 : Int} {W1 : World} {S : Nat → Prop} (h : IsS110 w0 W g f0 f1 f2) (hk : Kept W W1 S) (hne : ¬ S g) : IsS110 w0 W1 g f0 f1 f2:=by
 obtain ⟨hb,hg⟩:=h
 exact ⟨blk_kept hb hk hne,hg⟩
theorem IsS110.below {w0 W : World} {g : Nat} {f0 : ByteArray} {f1 : Int} {f2 : Int} {W1 : World} (h : IsS110 w0 W g f0 f1 f2) (hw : Below W.heap.size W W1) : IsS110 w0 W1 g f0 f1 f2:=h.grown (grown_of_below hw none) (by simp)
theorem IsS110.alloc {w0 W : World} {g : Nat} {f0 : ByteArray} {f1 : Int} {f2 : Int} (h : IsS110 w0 W g f0 f1 f2) (o : Obj) : IsS110 w0 (W.alloc o) g f0 f1 f2:=h.below (below_alloc (Below.refl _ _) o)
theorem IsS110.drewN {w0 W : World} {g : Nat} {f0 : ByteArray} {f1 : Int} {f2 : Int} (h : IsS110 w0 W g f0 f1 f2) (m : Nat) : IsS110 w0 (W.drewN m) g f0 f1 f2:=h
theorem IsS110.drew {w0 W : World} {g : Nat} {f0 : ByteArray} {f1 : Int} {f2 : Int} (h : IsS110 w0 W g f0 f1 f2) : IsS110 w0 W.drew g f0 f1 f2:=h
theorem IsS110.at_ {w0 W : World} {g : Nat} {f0 : ByteArray} {f1 : Int} {f2 : Int} {w' : World} {m : Nat} (hq : W.drewN m=w') (h : IsS110 w0 W g f0 f1 f2) : IsS110 w0 w' g f0 f1 f2:=by subst hq;exact IsS110.drewN h m
theorem IsS110.apart {w0 W : World} {g : Nat} {f0 : ByteArray} {f1 : Int} {f2 : Int} {α : Type} {d : Kd α} {e : Nat} {base : Nat} {ok : Nat → Prop} {v : Value} {xs : List α} (h : IsS110 w0 W g f0 f1 f2) (ho : d.R e W base ok v xs) (ht : ∀ q,q ∈ e :: d.E → q≠110) : d.R e W base (fun k=>ok k∧k≠g) v xs:=by
 obtain ⟨hb,hg⟩:=h
 exact Kd.R_types ho hb ht
theorem IsS110.own_ne {w0 W : World} {g : Nat} {f0 : ByteArray} {f1 : Int} {f2 : Int} {α : Type} {d : Kd α} {e : Nat} {base : Nat} {ok : Nat → Prop} {v : Value} {xs : List α} (h : IsS110 w0 W g f0 f1 f2) (ho : d.R e W base ok v xs) (ht : e≠110) : some g≠v.ownBlock:=by
 obtain ⟨hb,hg⟩:=h
 exact Kd.R_ne ho hb ht
theorem IsS110.lt {w0 W : World} {g : Nat} {f0 : ByteArray} {f1 : Int} {f2 : Int} (h : IsS110 w0 W g f0 f1 f2) : g < W.heap.size:=by
 obtain ⟨hb,hg⟩:=h
 exact blk_lt hb
theorem IsS110.ge {w0 W : World} {g : Nat} {f0 : ByteArray} {f1 : Int} {f2 : Int} (h : IsS110 w0 W g f0 f1 f2) : w0.heap.size≤g:=by
 obtain ⟨hb,hg⟩:=h
 exact hg
theorem IsS110.ne_blk {w0 W : World} {g : Nat} {f0 : ByteArray} {f1 : Int} {f2 : Int} {a : Nat} {cs : Array Value} {t : TypeId} {fr : Nat × Nat} (h : IsS110 w0 W g f0 f1 f2) (hb2 : W.heap[a]?=some (.cells cs t fr)) (ht : t≠110) : g≠a:=by
 obtain ⟨hb,hg⟩:=h
 rintro rfl
 rw [hb] at hb2
 injection hb2 with hb2
 injection hb2 with _ ht2
 exact ht ht2.symm
theorem IsS110.far {w0 W : World} {g : Nat} {f0 : ByteArray} {f1 : Int} {f2 : Int} {p : Addr} (h : IsS110 w0 W g f0 f1 f2) (hne : g≠p.block) (u : Value) : IsS110 w0 (W.setCell p u) g f0 f1 f2:=by
 obtain ⟨hb,hg⟩:=h
 exact ⟨blk_far hb hne u,hg⟩
theorem cellS110_0 {W : World} {g : Nat} {f0 : ByteArray} {f1 : Int} {f2 : Int} (h : W.heap[g]?=some (.cells #[.string f0,.int .i64 f1,.int .i64 f2] 110 (0,0))) : W.cell? ⟨g,0,none⟩=some (.string f0):=(blk_cell h 0).trans rfl
theorem IsS110.set_0 {w0 W : World} {g : Nat} {f0 : ByteArray} {f1 : Int} {f2 : Int} (h : IsS110 w0 W g f0 f1 f2) (x : ByteArray) : IsS110 w0 (W.setCell ⟨g,0,none⟩ (.string x)) g x f1 f2:=by
 obtain ⟨hb,hg⟩:=h
 exact ⟨by simpa using blk_set hb 0 (.string x),hg⟩
theorem cellS110_1 {W : World} {g : Nat} {f0 : ByteArray} {f1 : Int} {f2 : Int} (h : W.heap[g]?=some (.cells #[.string f0,.int .i64 f1,.int .i64 f2] 110 (0,0))) : W.cell? ⟨g,1,none⟩=some (.int .i64 f1):=(blk_cell h 1).trans rfl
theorem IsS110.set_1 {w0 W : World} {g : Nat} {f0 : ByteArray} {f1 : Int} {f2 : Int} (h : IsS110 w0 W g f0 f1 f2) (x : Int) : IsS110 w0 (W.setCell ⟨g,1,none⟩ (.int .i64 x)) g f0 x f2:=by
 obtain ⟨hb,hg⟩:=h
 exact ⟨by simpa using blk_set hb 1 (.int .i64 x),hg⟩
theorem cellS110_2 {W : World} {g : Nat} {f0 : ByteArray} {f1 : Int} {f2 : Int} (h : W.heap[g]?=some (.cells #[.string f0,.int .i64 f1,.int .i64 f2] 110 (0,0))) : W.cell? ⟨g,2,none⟩=some (.int .i64 f2):=(blk_cell h 2).trans rfl
theorem IsS110.set_2 {w0 W : World} {g : Nat} {f0 : ByteArray} {f1 : Int} {f2 : Int} (h : IsS110 w0 W g f0 f1 f2) (x : Int) : IsS110 w0 (W.setCell ⟨g,2,none⟩ (.int .i64 x)) g f0 f1 x:=by
 obtain ⟨hb,hg⟩:=h
 exact ⟨by simpa using blk_set hb 2 (.int .i64 x),hg⟩
theorem IsS110.new (w0 W : World) (f0 : ByteArray) (f1 : Int) (f2 : Int) (hB : Below w0.heap.size w0 W) : IsS110 w0 (W.alloc (.cells #[.string f0,.int .i64 f1,.int .i64 f2] 110)) W.heap.size f0 f1 f2:=⟨by simpa using heap_alloc_new W _,hB.size⟩
def raw_NewReader.f (a0 : ByteArray) : Option (ByteArray × Int × Int):=some (a0,0,0)
set_option maxHeartbeats 8000000 in
set_option maxRecDepth 100000 in
theorem raw_NewReader.calls (a0 : ByteArray) (r1 : ByteArray) (r2 : Int) (r3 : Int) (w0 w : World) (hB : Below w0.heap.size w0 w) (h : raw_NewReader.f a0=some (r1,r2,r3)) :
  Calls Try.prog 44 #[.string a0] w fun e w'=>∃ g_ : Nat,e=.returned (.pointer (some ⟨g_,0,none⟩))∧IsS110 w0 w' g_ r1 r2 r3∧Below w0.heap.size w0 w'∧Below w.heap.size w w':=by
 have hu110:=Try.underlying110
 have HBW:=Aside0.mk (Below.refl w.heap.size w)
 have HW0:=Aside0.mk hB.size
 have HB:=Aside0.mk hB
 clear hB
 have H : (some (a0,0,0))=some (r1,r2,r3):=h
 clear h
 simp only [Option.some.injEq,Prod.mk.injEq] at H
 obtain ⟨rfl,rfl,rfl⟩:=H
 go_enter Try.func44,Try.ntmps44
 go_wp2_with (first|((with_reducible refine gate_dst (N:=5) rfl ?_);refine box_event ?hg (N:=5) ?hd (cs:=#[.string a0,.int .i64 0,.int .i64 0]) (t:=110) ?hr ?_;(case hd=>rfl);(case hg=>rfl);(case hr=>first|(go_simp;done)|(go_simp;rfl));intro gb104 hg w2 hbox hb;have n0_:=Aside0.mk (below_step HBW.out hb);have n1_:=Aside0.mk (below_step (by repeat (first|(with_reducible first|exact HB.out|apply below_alloc|apply pw_below_drewN|apply below_drew1)|exact HB.out)) hb);have n2_:=Aside0.mk (hbox);have n3_:=Aside0.mk ((by rw [hg];exact (below_size (by repeat (first|(with_reducible first|exact HBW.out|apply below_alloc|apply pw_below_drewN|apply below_drew1)|exact HBW.out))) : w.heap.size≤gb104));have n4_:=Aside0.mk ((Nat.le_trans HW0.out (by rw [hg];exact (below_size (by repeat (first|(with_reducible first|exact HBW.out|apply below_alloc|apply pw_below_drewN|apply below_drew1)|exact HBW.out))) : w.heap.size≤gb104) : w0.heap.size≤gb104));clear HBW;clear HB;have HBW:=n0_;have HB:=n1_;have BK104:=n2_;have GW104:=n3_;have GE104:=n4_;clear n0_ n1_ n2_ n3_ n4_;clear hb hbox hg))
 go_ret
 exact ⟨_,rfl,(show IsS110 w0 _ gb104 a0 0 0 from ⟨by (with_reducible repeat (first|refine blk_drewN ?_ _|refine blk_drew ?_|refine blk_alloc ?_ _));exact BK104.out,GE104.out⟩),by repeat (first|(with_reducible first|exact HB.out|apply below_alloc|apply pw_below_drewN|apply below_drew1|refine below_set ?_ GE104.out)|exact HB.out),by repeat (first|(with_reducible first|exact HBW.out|apply below_alloc|apply pw_below_drewN|apply below_drew1|refine below_set ?_ GW104.out)|exact HBW.out)⟩
end Go.Proofs.Ytfegabikfkmepaa.PNe
end
section
namespace Go.Proofs.Ytfegabikfkmepaa.PNe
open Go.RowKit Go.Proofs.YtfegabikfkmepaaW.PrintWords Go.Proofs.YtfegabikfkmepaaW.PrintLast Go.Proofs.YtfegabikfkmepaaW.PrintMore
attribute [local go_sem] max2_int min2_int max_two min_two max_three min_three max_four min_four
set_option linter.unusedVariables false
set_option linter.unusedSimpArgs false
def raw_Get.f (a0 : ByteArray) (a1 : Int) (a2 : Int) : Option (Int × Int):=if a0.size≤9223372036854775807 then some (getR a0.data.toList a1 a2) else none
set_option maxHeartbeats 8000000 in
set_option maxRecDepth 100000 in
theorem raw_Get.calls (a0 : ByteArray) (a1 : Int) (a2 : Int) (r1 : Int) (r2 : Int) (w : World) (h : raw_Get.f a0 a1 a2=some (r1,r2)) :
  Calls Try.prog 39 #[.string a0,.int .i64 a1,.int .i64 a2] w fun e w'=>e=.returned (.tuple #[.int .u64 r1,.int .i64 r2])∧Drawn0 w w':=by
 unfold raw_Get.f at h
 split at h
 ·rename_i hs
  have h:=Option.some.inj h
  have:=getR_any a0 a1 a2 w hs
  rw [h] at this
  exact this.mono fun e w' ⟨x,y⟩=>⟨x,y ▸ Drawn0.refl _⟩
 ·cases h
end Go.Proofs.Ytfegabikfkmepaa.PNe
end
section
namespace Go.Proofs.Ytfegabikfkmepaa.PNe
open Go.RowKit Go.Proofs.YtfegabikfkmepaaW.PrintWords Go.Proofs.YtfegabikfkmepaaW.PrintLast Go.Proofs.YtfegabikfkmepaaW.PrintMore
attribute [local go_sem] max2_int min2_int max_two min_two max_three min_three max_four min_four
set_option linter.unusedVariables false
set_option linter.unusedSimpArgs false
def raw_Reader_Err.f (s0_0 : ByteArray) (s0_1 : Int) (s0_2 : Int) : Option (Int × ByteArray × Int × Int):=some (s0_2,s0_0,s0_1,s0_2)
set_option maxHeartbeats 8000000 in
set_option maxRecDepth 100000 in
theorem raw_Reader_Err.calls (g : Nat) (s0_0 : ByteArray) (s0_1 : Int) (s0_2 : Int) (r1 : Int) (r2 : ByteArray) (r3 : Int) (r4 : Int) (w0 w : World) (hI : IsS110 w0 w g s0_0 s0_1 s0_2) (hB : Below w0.heap.size w0 w) (h : raw_Reader_Err.f s0_0 s0_1 s0_2=some (r1,r2,r3,r4)) :
  Calls Try.prog 61 #[.pointer (some ⟨g,0,none⟩)] w fun e w'=>e=.returned (.int .i64 r1)∧IsS110 w0 w' g r2 r3 r4∧Below w0.heap.size w0 w'∧KeepBut w w' g none:=by
 have HI0:=Aside0.mk hI
 have HK:=Aside0.mk (KeepBut.refl w g none)
 have HL:=Aside0.mk hB.size
 clear hI
 have HW0:=Aside0.mk hB.size
 have HB:=Aside0.mk hB
 clear hB
 have H : (some (s0_2,s0_0,s0_1,s0_2))=some (r1,r2,r3,r4):=h
 clear h
 simp only [Option.some.injEq,Prod.mk.injEq] at H
 obtain ⟨rfl,rfl,rfl,rfl⟩:=H
 obtain ⟨HGz2,hgz2⟩:=HI0.out
 have hcz2_0:=cellS110_0 HGz2
 have hcz2_1:=cellS110_1 HGz2
 have hcz2_2:=cellS110_2 HGz2
 have hfz2_0:=blk_frozen HGz2 0
 have hfz2_1:=blk_frozen HGz2 1
 have hfz2_2:=blk_frozen HGz2 2
 clear HGz2 hgz2
 go_enter Try.func61,Try.ntmps61
 go_wp2
 go_ret
 exact ⟨by first|rfl|(simp [errW_none,errW_some] <;> rfl)|(simp [*,errW_none,errW_some] <;> rfl),by repeat (first|(with_reducible first|exact HI0.out|apply IsS110.alloc|apply IsS110.drewN|apply IsS110.drew|apply IsS110.set_0|apply IsS110.set_1|apply IsS110.set_2)|exact HI0.out),by repeat (first|(with_reducible first|exact HB.out|apply below_alloc|apply pw_below_drewN|apply below_drew1|refine below_set ?_ (IsS110.ge HI0.out))|exact HB.out),by repeat (first|(with_reducible first|exact HK.out|apply KeepBut.set_|apply keep_drewN|apply keep_drew|apply keep_alloc)|exact HK.out)⟩
end Go.Proofs.Ytfegabikfkmepaa.PNe
end
section
namespace Go.Proofs.Ytfegabikfkmepaa.PNe
open Go.RowKit Go.Proofs.YtfegabikfkmepaaW.PrintWords Go.Proofs.YtfegabikfkmepaaW.PrintLast Go.Proofs.YtfegabikfkmepaaW.PrintMore
attribute [local go_sem] max2_int min2_int max_two min_two max_three min_three max_four min_four
set_option linter.unusedVariables false
set_option linter.unusedSimpArgs false
def raw_Reader_Number.f (s0_0 : ByteArray) (s0_1 : Int) (s0_2 : Int) (a1 : Int) : Option (Int × ByteArray × Int × Int):=(raw_Reader_Err.f s0_0 s0_1 s0_2).bind fun bt105=>(if bt105.1=0 then ((raw_Get.f bt105.2.1 bt105.2.2.1 a1).bind fun bt109=>(if bt109.2=0 then (some (bt109.1,bt105.2.1,wrap64 (bt105.2.2.1 + a1),bt105.2.2.2)) else (some (0,bt105.2.1,bt105.2.2.1,bt109.2)))) else (some (0,bt105.2.1,bt105.2.2.1,bt105.2.2.2)))
set_option maxHeartbeats 8000000 in
set_option maxRecDepth 100000 in
theorem raw_Reader_Number.calls (g : Nat) (s0_0 : ByteArray) (s0_1 : Int) (s0_2 : Int) (a1 : Int) (r1 : Int) (r2 : ByteArray) (r3 : Int) (r4 : Int) (w0 w : World) (hI : IsS110 w0 w g s0_0 s0_1 s0_2) (hB : Below w0.heap.size w0 w) (h : raw_Reader_Number.f s0_0 s0_1 s0_2 a1=some (r1,r2,r3,r4)) :
  Calls Try.prog 45 #[.pointer (some ⟨g,0,none⟩),.int .i64 a1] w fun e w'=>e=.returned (.int .u64 r1)∧IsS110 w0 w' g r2 r3 r4∧Below w0.heap.size w0 w'∧KeepBut w w' g none:=by
 have HI0:=Aside0.mk hI
 have HK:=Aside0.mk (KeepBut.refl w g none)
 have HL:=Aside0.mk hB.size
 clear hI
 have HW0:=Aside0.mk hB.size
 have HB:=Aside0.mk hB
 clear hB
 have H : ((raw_Reader_Err.f s0_0 s0_1 s0_2).bind fun bt105=>(if bt105.1=0 then ((raw_Get.f bt105.2.1 bt105.2.2.1 a1).bind fun bt109=>(if bt109.2=0 then (some (bt109.1,bt105.2.1,wrap64 (bt105.2.2.1 + a1),bt105.2.2.2)) else (some (0,bt105.2.1,bt105.2.2.1,bt109.2)))) else (some (0,bt105.2.1,bt105.2.2.1,bt105.2.2.2))))=some (r1,r2,r3,r4):=h
 clear h
 replace H:=Option.bind_eq_some_iff.mp H
 obtain ⟨⟨t105,t106,t107,t108⟩,A30,H⟩:=H
 replace H : (if t105=0 then ((raw_Get.f t106 t107 a1).bind fun bt109=>(if bt109.2=0 then (some (bt109.1,t106,wrap64 (t107 + a1),t108)) else (some (0,t106,t107,bt109.2)))) else (some (0,t106,t107,t108)))=some (r1,r2,r3,r4):=H
 have A3:=Aside0.mk A30
 clear A30
 by_cases c4 : t105=0
 ·rw [if_pos c4] at H
  have c4b0 : (t105 == 0)=true:=beq_iff_eq.mpr c4
  have c4b1 : (t105 != 0)=false:=bne_eq_false_iff_eq.mpr c4
  clear c4
  replace H:=Option.bind_eq_some_iff.mp H
  obtain ⟨⟨t109,t110⟩,A50,H⟩:=H
  replace H : (if t110=0 then (some (t109,t106,wrap64 (t107 + a1),t108)) else (some (0,t106,t107,t110)))=some (r1,r2,r3,r4):=H
  have A5:=Aside0.mk A50
  clear A50
  by_cases c6 : t110=0
  ·rw [if_pos c6] at H
   have c6b0 : (t110 == 0)=true:=beq_iff_eq.mpr c6
   have c6b1 : (t110 != 0)=false:=bne_eq_false_iff_eq.mpr c6
   clear c6
   simp only [Option.some.injEq,Prod.mk.injEq] at H
   obtain ⟨rfl,rfl,rfl,rfl⟩:=H
   go_enter Try.func45,Try.ntmps45
   go_wp2_with (first|(go_at_call 61;(with_reducible refine (raw_Reader_Err.calls g s0_0 s0_1 s0_2 t105 t106 t107 t108 w0 _ ?side1 ?side2 A3.out).mono ?_);(case side1=>repeat (first|(with_reducible first|exact HI0.out|apply IsS110.alloc|apply IsS110.drewN|apply IsS110.drew|apply IsS110.set_0|apply IsS110.set_1|apply IsS110.set_2)|exact HI0.out));(case side2=>repeat (first|(with_reducible first|exact HB.out|apply below_alloc|apply pw_below_drewN|apply below_drew1|refine below_set ?_ (IsS110.ge HI0.out))|exact HB.out));rintro e w7 ⟨rfl,hi,hb,hk⟩;have n0_:=Aside0.mk (KeepBut.trans (by repeat (first|(with_reducible first|exact HK.out|apply KeepBut.set_|apply keep_drewN|apply keep_drew|apply keep_alloc)|exact HK.out)) hk (.inl rfl));have n1_:=Aside0.mk (hb);have n2_:=Aside0.mk (hi);clear HK;clear HB;clear HI0;have HK:=n0_;have HB:=n1_;have HI0:=n2_;clear n0_ n1_ n2_;(try clear hb);(try clear hb2);(try clear hk);(try clear hi);obtain ⟨HGz8,hgz8⟩:=HI0.out;have hcz8_0:=cellS110_0 HGz8;have hcz8_1:=cellS110_1 HGz8;have hcz8_2:=cellS110_2 HGz8;have hfz8_0:=blk_frozen HGz8 0;have hfz8_1:=blk_frozen HGz8 1;have hfz8_2:=blk_frozen HGz8 2;clear HGz8 hgz8)|(go_at_call 39;(with_reducible refine (raw_Get.calls t106 t107 a1 t109 t110 _ A5.out).mono ?_);rintro e w' ⟨rfl,⟨nd,rfl⟩⟩;(try first|exact ⟨rfl,_,World.drewN_drewN _ _ _⟩|exact ⟨rfl,_,Eq.trans (World.drewN_drewN _ _ _) (congrArg (World.drewN _) (Nat.add_assoc _ _ _))⟩)))
   repeat (go_quiet (first|(go_at_call 61;(with_reducible refine (raw_Reader_Err.calls g s0_0 s0_1 s0_2 t105 t106 t107 t108 w0 _ ?side1 ?side2 A3.out).mono ?_);(case side1=>repeat (first|(with_reducible first|exact HI0.out|apply IsS110.alloc|apply IsS110.drewN|apply IsS110.drew|apply IsS110.set_0|apply IsS110.set_1|apply IsS110.set_2)|exact HI0.out));(case side2=>repeat (first|(with_reducible first|exact HB.out|apply below_alloc|apply pw_below_drewN|apply below_drew1|refine below_set ?_ (IsS110.ge HI0.out))|exact HB.out));rintro e w7 ⟨rfl,hi,hb,hk⟩;have n0_:=Aside0.mk (KeepBut.trans (by repeat (first|(with_reducible first|exact HK.out|apply KeepBut.set_|apply keep_drewN|apply keep_drew|apply keep_alloc)|exact HK.out)) hk (.inl rfl));have n1_:=Aside0.mk (hb);have n2_:=Aside0.mk (hi);clear HK;clear HB;clear HI0;have HK:=n0_;have HB:=n1_;have HI0:=n2_;clear n0_ n1_ n2_;(try clear hb);(try clear hb2);(try clear hk);(try clear hi);obtain ⟨HGz8,hgz8⟩:=HI0.out;have hcz8_0:=cellS110_0 HGz8;have hcz8_1:=cellS110_1 HGz8;have hcz8_2:=cellS110_2 HGz8;have hfz8_0:=blk_frozen HGz8 0;have hfz8_1:=blk_frozen HGz8 1;have hfz8_2:=blk_frozen HGz8 2;clear HGz8 hgz8)|(go_at_call 39;(with_reducible refine (raw_Get.calls t106 t107 a1 t109 t110 _ A5.out).mono ?_);rintro e w' ⟨rfl,⟨nd,rfl⟩⟩;(try first|exact ⟨rfl,_,World.drewN_drewN _ _ _⟩|exact ⟨rfl,_,Eq.trans (World.drewN_drewN _ _ _) (congrArg (World.drewN _) (Nat.add_assoc _ _ _))⟩)));try go_wp2_with (first|(go_at_call 61;(with_reducible refine (raw_Reader_Err.calls g s0_0 s0_1 s0_2 t105 t106 t107 t108 w0 _ ?side1 ?side2 A3.out).mono ?_);(case side1=>repeat (first|(with_reducible first|exact HI0.out|apply IsS110.alloc|apply IsS110.drewN|apply IsS110.drew|apply IsS110.set_0|apply IsS110.set_1|apply IsS110.set_2)|exact HI0.out));(case side2=>repeat (first|(with_reducible first|exact HB.out|apply below_alloc|apply pw_below_drewN|apply below_drew1|refine below_set ?_ (IsS110.ge HI0.out))|exact HB.out));rintro e w7 ⟨rfl,hi,hb,hk⟩;have n0_:=Aside0.mk (KeepBut.trans (by repeat (first|(with_reducible first|exact HK.out|apply KeepBut.set_|apply keep_drewN|apply keep_drew|apply keep_alloc)|exact HK.out)) hk (.inl rfl));have n1_:=Aside0.mk (hb);have n2_:=Aside0.mk (hi);clear HK;clear HB;clear HI0;have HK:=n0_;have HB:=n1_;have HI0:=n2_;clear n0_ n1_ n2_;(try clear hb);(try clear hb2);(try clear hk);(try clear hi);obtain ⟨HGz8,hgz8⟩:=HI0.out;have hcz8_0:=cellS110_0 HGz8;have hcz8_1:=cellS110_1 HGz8;have hcz8_2:=cellS110_2 HGz8;have hfz8_0:=blk_frozen HGz8 0;have hfz8_1:=blk_frozen HGz8 1;have hfz8_2:=blk_frozen HGz8 2;clear HGz8 hgz8)|(go_at_call 39;(with_reducible refine (raw_Get.calls t106 t107 a1 t109 t110 _ A5.out).mono ?_);rintro e w' ⟨rfl,⟨nd,rfl⟩⟩;(try first|exact ⟨rfl,_,World.drewN_drewN _ _ _⟩|exact ⟨rfl,_,Eq.trans (World.drewN_drewN _ _ _) (congrArg (World.drewN _) (Nat.add_assoc _ _ _))⟩))))
   go_ret
   exact ⟨by first|rfl|(simp [errW_none,errW_some] <;> rfl)|(simp [*,errW_none,errW_some] <;> rfl),by repeat (first|(with_reducible first|exact HI0.out|apply IsS110.alloc|apply IsS110.drewN|apply IsS110.drew|apply IsS110.set_0|apply IsS110.set_1|apply IsS110.set_2)|exact HI0.out),by repeat (first|(with_reducible first|exact HB.out|apply below_alloc|apply pw_below_drewN|apply below_drew1|refine below_set ?_ (IsS110.ge HI0.out))|exact HB.out),by repeat (first|(with_reducible first|exact HK.out|apply KeepBut.set_|apply keep_drewN|apply keep_drew|apply keep_alloc)|exact HK.out)⟩
  ·rw [if_neg c6] at H
   have c6b0 : (t110 == 0)=false:=beq_eq_false_iff_ne.mpr c6
   have c6b1 : (t110 != 0)=true:=bne_iff_ne.mpr c6
   simp only [Option.some.injEq,Prod.mk.injEq] at H
   obtain ⟨rfl,rfl,rfl,rfl⟩:=H
   go_enter Try.func45,Try.ntmps45
   go_wp2_with (first|(go_at_call 61;(with_reducible refine (raw_Reader_Err.calls g s0_0 s0_1 s0_2 t105 t106 t107 t108 w0 _ ?side1 ?side2 A3.out).mono ?_);(case side1=>repeat (first|(with_reducible first|exact HI0.out|apply IsS110.alloc|apply IsS110.drewN|apply IsS110.drew|apply IsS110.set_0|apply IsS110.set_1|apply IsS110.set_2)|exact HI0.out));(case side2=>repeat (first|(with_reducible first|exact HB.out|apply below_alloc|apply pw_below_drewN|apply below_drew1|refine below_set ?_ (IsS110.ge HI0.out))|exact HB.out));rintro e w9 ⟨rfl,hi,hb,hk⟩;have n0_:=Aside0.mk (KeepBut.trans (by repeat (first|(with_reducible first|exact HK.out|apply KeepBut.set_|apply keep_drewN|apply keep_drew|apply keep_alloc)|exact HK.out)) hk (.inl rfl));have n1_:=Aside0.mk (hb);have n2_:=Aside0.mk (hi);clear HK;clear HB;clear HI0;have HK:=n0_;have HB:=n1_;have HI0:=n2_;clear n0_ n1_ n2_;(try clear hb);(try clear hb2);(try clear hk);(try clear hi);obtain ⟨HGz10,hgz10⟩:=HI0.out;have hcz10_0:=cellS110_0 HGz10;have hcz10_1:=cellS110_1 HGz10;have hcz10_2:=cellS110_2 HGz10;have hfz10_0:=blk_frozen HGz10 0;have hfz10_1:=blk_frozen HGz10 1;have hfz10_2:=blk_frozen HGz10 2;clear HGz10 hgz10)|(go_at_call 39;(with_reducible refine (raw_Get.calls t106 t107 a1 t109 t110 _ A5.out).mono ?_);rintro e w' ⟨rfl,⟨nd,rfl⟩⟩;(try first|exact ⟨rfl,_,World.drewN_drewN _ _ _⟩|exact ⟨rfl,_,Eq.trans (World.drewN_drewN _ _ _) (congrArg (World.drewN _) (Nat.add_assoc _ _ _))⟩)))
   repeat (go_quiet (first|(go_at_call 61;(with_reducible refine (raw_Reader_Err.calls g s0_0 s0_1 s0_2 t105 t106 t107 t108 w0 _ ?side1 ?side2 A3.out).mono ?_);(case side1=>repeat (first|(with_reducible first|exact HI0.out|apply IsS110.alloc|apply IsS110.drewN|apply IsS110.drew|apply IsS110.set_0|apply IsS110.set_1|apply IsS110.set_2)|exact HI0.out));(case side2=>repeat (first|(with_reducible first|exact HB.out|apply below_alloc|apply pw_below_drewN|apply below_drew1|refine below_set ?_ (IsS110.ge HI0.out))|exact HB.out));rintro e w9 ⟨rfl,hi,hb,hk⟩;have n0_:=Aside0.mk (KeepBut.trans (by repeat (first|(with_reducible first|exact HK.out|apply KeepBut.set_|apply keep_drewN|apply keep_drew|apply keep_alloc)|exact HK.out)) hk (.inl rfl));have n1_:=Aside0.mk (hb);have n2_:=Aside0.mk (hi);clear HK;clear HB;clear HI0;have HK:=n0_;have HB:=n1_;have HI0:=n2_;clear n0_ n1_ n2_;(try clear hb);(try clear hb2);(try clear hk);(try clear hi);obtain ⟨HGz10,hgz10⟩:=HI0.out;have hcz10_0:=cellS110_0 HGz10;have hcz10_1:=cellS110_1 HGz10;have hcz10_2:=cellS110_2 HGz10;have hfz10_0:=blk_frozen HGz10 0;have hfz10_1:=blk_frozen HGz10 1;have hfz10_2:=blk_frozen HGz10 2;clear HGz10 hgz10)|(go_at_call 39;(with_reducible refine (raw_Get.calls t106 t107 a1 t109 t110 _ A5.out).mono ?_);rintro e w' ⟨rfl,⟨nd,rfl⟩⟩;(try first|exact ⟨rfl,_,World.drewN_drewN _ _ _⟩|exact ⟨rfl,_,Eq.trans (World.drewN_drewN _ _ _) (congrArg (World.drewN _) (Nat.add_assoc _ _ _))⟩)));try go_wp2_with (first|(go_at_call 61;(with_reducible refine (raw_Reader_Err.calls g s0_0 s0_1 s0_2 t105 t106 t107 t108 w0 _ ?side1 ?side2 A3.out).mono ?_);(case side1=>repeat (first|(with_reducible first|exact HI0.out|apply IsS110.alloc|apply IsS110.drewN|apply IsS110.drew|apply IsS110.set_0|apply IsS110.set_1|apply IsS110.set_2)|exact HI0.out));(case side2=>repeat (first|(with_reducible first|exact HB.out|apply below_alloc|apply pw_below_drewN|apply below_drew1|refine below_set ?_ (IsS110.ge HI0.out))|exact HB.out));rintro e w9 ⟨rfl,hi,hb,hk⟩;have n0_:=Aside0.mk (KeepBut.trans (by repeat (first|(with_reducible first|exact HK.out|apply KeepBut.set_|apply keep_drewN|apply keep_drew|apply keep_alloc)|exact HK.out)) hk (.inl rfl));have n1_:=Aside0.mk (hb);have n2_:=Aside0.mk (hi);clear HK;clear HB;clear HI0;have HK:=n0_;have HB:=n1_;have HI0:=n2_;clear n0_ n1_ n2_;(try clear hb);(try clear hb2);(try clear hk);(try clear hi);obtain ⟨HGz10,hgz10⟩:=HI0.out;have hcz10_0:=cellS110_0 HGz10;have hcz10_1:=cellS110_1 HGz10;have hcz10_2:=cellS110_2 HGz10;have hfz10_0:=blk_frozen HGz10 0;have hfz10_1:=blk_frozen HGz10 1;have hfz10_2:=blk_frozen HGz10 2;clear HGz10 hgz10)|(go_at_call 39;(with_reducible refine (raw_Get.calls t106 t107 a1 t109 t110 _ A5.out).mono ?_);rintro e w' ⟨rfl,⟨nd,rfl⟩⟩;(try first|exact ⟨rfl,_,World.drewN_drewN _ _ _⟩|exact ⟨rfl,_,Eq.trans (World.drewN_drewN _ _ _) (congrArg (World.drewN _) (Nat.add_assoc _ _ _))⟩))))
   go_ret
   exact ⟨by first|rfl|(simp [errW_none,errW_some] <;> rfl)|(simp [*,errW_none,errW_some] <;> rfl),by repeat (first|(with_reducible first|exact HI0.out|apply IsS110.alloc|apply IsS110.drewN|apply IsS110.drew|apply IsS110.set_0|apply IsS110.set_1|apply IsS110.set_2)|exact HI0.out),by repeat (first|(with_reducible first|exact HB.out|apply below_alloc|apply pw_below_drewN|apply below_drew1|refine below_set ?_ (IsS110.ge HI0.out))|exact HB.out),by repeat (first|(with_reducible first|exact HK.out|apply KeepBut.set_|apply keep_drewN|apply keep_drew|apply keep_alloc)|exact HK.out)⟩
 ·rw [if_neg c4] at H
  have c4b0 : (t105 == 0)=false:=beq_eq_false_iff_ne.mpr c4
  have c4b1 : (t105 != 0)=true:=bne_iff_ne.mpr c4
  simp only [Option.some.injEq,Prod.mk.injEq] at H
  obtain ⟨rfl,rfl,rfl,rfl⟩:=H
  go_enter Try.func45,Try.ntmps45
  go_wp2_with (first|(go_at_call 61;(with_reducible refine (raw_Reader_Err.calls g s0_0 s0_1 s0_2 t105 t106 t107 t108 w0 _ ?side1 ?side2 A3.out).mono ?_);(case side1=>repeat (first|(with_reducible first|exact HI0.out|apply IsS110.alloc|apply IsS110.drewN|apply IsS110.drew|apply IsS110.set_0|apply IsS110.set_1|apply IsS110.set_2)|exact HI0.out));(case side2=>repeat (first|(with_reducible first|exact HB.out|apply below_alloc|apply pw_below_drewN|apply below_drew1|refine below_set ?_ (IsS110.ge HI0.out))|exact HB.out));rintro e w11 ⟨rfl,hi,hb,hk⟩;have n0_:=Aside0.mk (KeepBut.trans (by repeat (first|(with_reducible first|exact HK.out|apply KeepBut.set_|apply keep_drewN|apply keep_drew|apply keep_alloc)|exact HK.out)) hk (.inl rfl));have n1_:=Aside0.mk (hb);have n2_:=Aside0.mk (hi);clear HK;clear HB;clear HI0;have HK:=n0_;have HB:=n1_;have HI0:=n2_;clear n0_ n1_ n2_;(try clear hb);(try clear hb2);(try clear hk);(try clear hi)))
  repeat (go_quiet (first|(go_at_call 61;(with_reducible refine (raw_Reader_Err.calls g s0_0 s0_1 s0_2 t105 t106 t107 t108 w0 _ ?side1 ?side2 A3.out).mono ?_);(case side1=>repeat (first|(with_reducible first|exact HI0.out|apply IsS110.alloc|apply IsS110.drewN|apply IsS110.drew|apply IsS110.set_0|apply IsS110.set_1|apply IsS110.set_2)|exact HI0.out));(case side2=>repeat (first|(with_reducible first|exact HB.out|apply below_alloc|apply pw_below_drewN|apply below_drew1|refine below_set ?_ (IsS110.ge HI0.out))|exact HB.out));rintro e w11 ⟨rfl,hi,hb,hk⟩;have n0_:=Aside0.mk (KeepBut.trans (by repeat (first|(with_reducible first|exact HK.out|apply KeepBut.set_|apply keep_drewN|apply keep_drew|apply keep_alloc)|exact HK.out)) hk (.inl rfl));have n1_:=Aside0.mk (hb);have n2_:=Aside0.mk (hi);clear HK;clear HB;clear HI0;have HK:=n0_;have HB:=n1_;have HI0:=n2_;clear n0_ n1_ n2_;(try clear hb);(try clear hb2);(try clear hk);(try clear hi)));try go_wp2_with (first|(go_at_call 61;(with_reducible refine (raw_Reader_Err.calls g s0_0 s0_1 s0_2 t105 t106 t107 t108 w0 _ ?side1 ?side2 A3.out).mono ?_);(case side1=>repeat (first|(with_reducible first|exact HI0.out|apply IsS110.alloc|apply IsS110.drewN|apply IsS110.drew|apply IsS110.set_0|apply IsS110.set_1|apply IsS110.set_2)|exact HI0.out));(case side2=>repeat (first|(with_reducible first|exact HB.out|apply below_alloc|apply pw_below_drewN|apply below_drew1|refine below_set ?_ (IsS110.ge HI0.out))|exact HB.out));rintro e w11 ⟨rfl,hi,hb,hk⟩;have n0_:=Aside0.mk (KeepBut.trans (by repeat (first|(with_reducible first|exact HK.out|apply KeepBut.set_|apply keep_drewN|apply keep_drew|apply keep_alloc)|exact HK.out)) hk (.inl rfl));have n1_:=Aside0.mk (hb);have n2_:=Aside0.mk (hi);clear HK;clear HB;clear HI0;have HK:=n0_;have HB:=n1_;have HI0:=n2_;clear n0_ n1_ n2_;(try clear hb);(try clear hb2);(try clear hk);(try clear hi))))
  go_ret
  exact ⟨by first|rfl|(simp [errW_none,errW_some] <;> rfl)|(simp [*,errW_none,errW_some] <;> rfl),by repeat (first|(with_reducible first|exact HI0.out|apply IsS110.alloc|apply IsS110.drewN|apply IsS110.drew|apply IsS110.set_0|apply IsS110.set_1|apply IsS110.set_2)|exact HI0.out),by repeat (first|(with_reducible first|exact HB.out|apply below_alloc|apply pw_below_drewN|apply below_drew1|refine below_set ?_ (IsS110.ge HI0.out))|exact HB.out),by repeat (first|(with_reducible first|exact HK.out|apply KeepBut.set_|apply keep_drewN|apply keep_drew|apply keep_alloc)|exact HK.out)⟩
end Go.Proofs.Ytfegabikfkmepaa.PNe
end
section
namespace Go.Proofs.Ytfegabikfkmepaa.PNe
open Go.RowKit Go.Proofs.YtfegabikfkmepaaW.PrintWords Go.Proofs.YtfegabikfkmepaaW.PrintLast Go.Proofs.YtfegabikfkmepaaW.PrintMore
attribute [local go_sem] max2_int min2_int max_two min_two max_three min_three max_four min_four
set_option linter.unusedVariables false
set_option linter.unusedSimpArgs false
def raw_Reader_Bytes.f (s0_0 : ByteArray) (s0_1 : Int) (s0_2 : Int) (a1 : Int) : Option (ByteArray × ByteArray × Int × Int):=(raw_Reader_Err.f s0_0 s0_1 s0_2).bind fun bt111=>(if bt111.1=0 then (if a1 < 0 then (some ((⟨#[]⟩ : ByteArray),bt111.2.1,bt111.2.2.1,1)) else (if (wrap64 ((bt111.2.1.size : Int) - bt111.2.2.1)) < a1 then (some ((⟨#[]⟩ : ByteArray),bt111.2.1,bt111.2.2.1,4)) else (if 0≤(wrap64 ((wrap64 (bt111.2.2.1 + a1)) - a1)) then (if (wrap64 ((wrap64 (bt111.2.2.1 + a1)) - a1))≤(wrap64 (bt111.2.2.1 + a1)) then (if (wrap64 (bt111.2.2.1 + a1))≤(bt111.2.1.size : Int) then (some (bt111.2.1.extract ((wrap64 ((wrap64 (bt111.2.2.1 + a1)) - a1)) : Int).toNat ((wrap64 (bt111.2.2.1 + a1)) : Int).toNat,bt111.2.1,wrap64 (bt111.2.2.1 + a1),bt111.2.2.2)) else (none)) else (none)) else (none)))) else (some ((⟨#[]⟩ : ByteArray),bt111.2.1,bt111.2.2.1,bt111.2.2.2)))
set_option maxHeartbeats 8000000 in
set_option maxRecDepth 100000 in
theorem raw_Reader_Bytes.calls (g : Nat) (s0_0 : ByteArray) (s0_1 : Int) (s0_2 : Int) (a1 : Int) (r1 : ByteArray) (r2 : ByteArray) (r3 : Int) (r4 : Int) (w0 w : World) (hI : IsS110 w0 w g s0_0 s0_1 s0_2) (hB : Below w0.heap.size w0 w) (h : raw_Reader_Bytes.f s0_0 s0_1 s0_2 a1=some (r1,r2,r3,r4)) :
  Calls Try.prog 62 #[.pointer (some ⟨g,0,none⟩),.int .i64 a1] w fun e w'=>e=.returned (.string r1)∧IsS110 w0 w' g r2 r3 r4∧Below w0.heap.size w0 w'∧KeepBut w w' g none:=by
 have HI0:=Aside0.mk hI
 have HK:=Aside0.mk (KeepBut.refl w g none)
 have HL:=Aside0.mk hB.size
 clear hI
 have HW0:=Aside0.mk hB.size
 have HB:=Aside0.mk hB
 clear hB
 have H : ((raw_Reader_Err.f s0_0 s0_1 s0_2).bind fun bt111=>(if bt111.1=0 then (if a1 < 0 then (some ((⟨#[]⟩ : ByteArray),bt111.2.1,bt111.2.2.1,1)) else (if (wrap64 ((bt111.2.1.size : Int) - bt111.2.2.1)) < a1 then (some ((⟨#[]⟩ : ByteArray),bt111.2.1,bt111.2.2.1,4)) else (if 0≤(wrap64 ((wrap64 (bt111.2.2.1 + a1)) - a1)) then (if (wrap64 ((wrap64 (bt111.2.2.1 + a1)) - a1))≤(wrap64 (bt111.2.2.1 + a1)) then (if (wrap64 (bt111.2.2.1 + a1))≤(bt111.2.1.size : Int) then (some (bt111.2.1.extract ((wrap64 ((wrap64 (bt111.2.2.1 + a1)) - a1)) : Int).toNat ((wrap64 (bt111.2.2.1 + a1)) : Int).toNat,bt111.2.1,wrap64 (bt111.2.2.1 + a1),bt111.2.2.2)) else (none)) else (none)) else (none)))) else (some ((⟨#[]⟩ : ByteArray),bt111.2.1,bt111.2.2.1,bt111.2.2.2))))=some (r1,r2,r3,r4):=h
 clear h
 replace H:=Option.bind_eq_some_iff.mp H
 obtain ⟨⟨t111,t112,t113,t114⟩,A30,H⟩:=H
 replace H : (if t111=0 then (if a1 < 0 then (some ((⟨#[]⟩ : ByteArray),t112,t113,1)) else (if (wrap64 ((t112.size : Int) - t113)) < a1 then (some ((⟨#[]⟩ : ByteArray),t112,t113,4)) else (if 0≤(wrap64 ((wrap64 (t113 + a1)) - a1)) then (if (wrap64 ((wrap64 (t113 + a1)) - a1))≤(wrap64 (t113 + a1)) then (if (wrap64 (t113 + a1))≤(t112.size : Int) then (some (t112.extract ((wrap64 ((wrap64 (t113 + a1)) - a1)) : Int).toNat ((wrap64 (t113 + a1)) : Int).toNat,t112,wrap64 (t113 + a1),t114)) else (none)) else (none)) else (none)))) else (some ((⟨#[]⟩ : ByteArray),t112,t113,t114)))=some (r1,r2,r3,r4):=H
 have A3:=Aside0.mk A30
 clear A30
 by_cases c4 : t111=0
 ·rw [if_pos c4] at H
  have c4b0 : (t111 == 0)=true:=beq_iff_eq.mpr c4
  have c4b1 : (t111 != 0)=false:=bne_eq_false_iff_eq.mpr c4
  clear c4
  by_cases c5 : a1 < 0
  ·rw [if_pos c5] at H
   have c5b0 : decide (a1 < 0)=true:=decide_eq_true c5
   clear c5
   simp only [Option.some.injEq,Prod.mk.injEq] at H
   obtain ⟨rfl,rfl,rfl,rfl⟩:=H
   go_enter Try.func62,Try.ntmps62
   go_wp2_with (first|(go_at_call 61;(with_reducible refine (raw_Reader_Err.calls g s0_0 s0_1 s0_2 t111 t112 t113 t114 w0 _ ?side1 ?side2 A3.out).mono ?_);(case side1=>repeat (first|(with_reducible first|exact HI0.out|apply IsS110.alloc|apply IsS110.drewN|apply IsS110.drew|apply IsS110.set_0|apply IsS110.set_1|apply IsS110.set_2)|exact HI0.out));(case side2=>repeat (first|(with_reducible first|exact HB.out|apply below_alloc|apply pw_below_drewN|apply below_drew1|refine below_set ?_ (IsS110.ge HI0.out))|exact HB.out));rintro e w6 ⟨rfl,hi,hb,hk⟩;have n0_:=Aside0.mk (KeepBut.trans (by repeat (first|(with_reducible first|exact HK.out|apply KeepBut.set_|apply keep_drewN|apply keep_drew|apply keep_alloc)|exact HK.out)) hk (.inl rfl));have n1_:=Aside0.mk (hb);have n2_:=Aside0.mk (hi);clear HK;clear HB;clear HI0;have HK:=n0_;have HB:=n1_;have HI0:=n2_;clear n0_ n1_ n2_;(try clear hb);(try clear hb2);(try clear hk);(try clear hi);obtain ⟨HGz7,hgz7⟩:=HI0.out;have hcz7_0:=cellS110_0 HGz7;have hcz7_1:=cellS110_1 HGz7;have hcz7_2:=cellS110_2 HGz7;have hfz7_0:=blk_frozen HGz7 0;have hfz7_1:=blk_frozen HGz7 1;have hfz7_2:=blk_frozen HGz7 2;clear HGz7 hgz7))
   repeat (go_quiet (first|(go_at_call 61;(with_reducible refine (raw_Reader_Err.calls g s0_0 s0_1 s0_2 t111 t112 t113 t114 w0 _ ?side1 ?side2 A3.out).mono ?_);(case side1=>repeat (first|(with_reducible first|exact HI0.out|apply IsS110.alloc|apply IsS110.drewN|apply IsS110.drew|apply IsS110.set_0|apply IsS110.set_1|apply IsS110.set_2)|exact HI0.out));(case side2=>repeat (first|(with_reducible first|exact HB.out|apply below_alloc|apply pw_below_drewN|apply below_drew1|refine below_set ?_ (IsS110.ge HI0.out))|exact HB.out));rintro e w6 ⟨rfl,hi,hb,hk⟩;have n0_:=Aside0.mk (KeepBut.trans (by repeat (first|(with_reducible first|exact HK.out|apply KeepBut.set_|apply keep_drewN|apply keep_drew|apply keep_alloc)|exact HK.out)) hk (.inl rfl));have n1_:=Aside0.mk (hb);have n2_:=Aside0.mk (hi);clear HK;clear HB;clear HI0;have HK:=n0_;have HB:=n1_;have HI0:=n2_;clear n0_ n1_ n2_;(try clear hb);(try clear hb2);(try clear hk);(try clear hi);obtain ⟨HGz7,hgz7⟩:=HI0.out;have hcz7_0:=cellS110_0 HGz7;have hcz7_1:=cellS110_1 HGz7;have hcz7_2:=cellS110_2 HGz7;have hfz7_0:=blk_frozen HGz7 0;have hfz7_1:=blk_frozen HGz7 1;have hfz7_2:=blk_frozen HGz7 2;clear HGz7 hgz7));try go_wp2_with (first|(go_at_call 61;(with_reducible refine (raw_Reader_Err.calls g s0_0 s0_1 s0_2 t111 t112 t113 t114 w0 _ ?side1 ?side2 A3.out).mono ?_);(case side1=>repeat (first|(with_reducible first|exact HI0.out|apply IsS110.alloc|apply IsS110.drewN|apply IsS110.drew|apply IsS110.set_0|apply IsS110.set_1|apply IsS110.set_2)|exact HI0.out));(case side2=>repeat (first|(with_reducible first|exact HB.out|apply below_alloc|apply pw_below_drewN|apply below_drew1|refine below_set ?_ (IsS110.ge HI0.out))|exact HB.out));rintro e w6 ⟨rfl,hi,hb,hk⟩;have n0_:=Aside0.mk (KeepBut.trans (by repeat (first|(with_reducible first|exact HK.out|apply KeepBut.set_|apply keep_drewN|apply keep_drew|apply keep_alloc)|exact HK.out)) hk (.inl rfl));have n1_:=Aside0.mk (hb);have n2_:=Aside0.mk (hi);clear HK;clear HB;clear HI0;have HK:=n0_;have HB:=n1_;have HI0:=n2_;clear n0_ n1_ n2_;(try clear hb);(try clear hb2);(try clear hk);(try clear hi);obtain ⟨HGz7,hgz7⟩:=HI0.out;have hcz7_0:=cellS110_0 HGz7;have hcz7_1:=cellS110_1 HGz7;have hcz7_2:=cellS110_2 HGz7;have hfz7_0:=blk_frozen HGz7 0;have hfz7_1:=blk_frozen HGz7 1;have hfz7_2:=blk_frozen HGz7 2;clear HGz7 hgz7)))
   go_ret
   exact ⟨by first|rfl|(simp [errW_none,errW_some] <;> rfl)|(simp [*,errW_none,errW_some] <;> rfl),by repeat (first|(with_reducible first|exact HI0.out|apply IsS110.alloc|apply IsS110.drewN|apply IsS110.drew|apply IsS110.set_0|apply IsS110.set_1|apply IsS110.set_2)|exact HI0.out),by repeat (first|(with_reducible first|exact HB.out|apply below_alloc|apply pw_below_drewN|apply below_drew1|refine below_set ?_ (IsS110.ge HI0.out))|exact HB.out),by repeat (first|(with_reducible first|exact HK.out|apply KeepBut.set_|apply keep_drewN|apply keep_drew|apply keep_alloc)|exact HK.out)⟩
  ·rw [if_neg c5] at H
   have c5b0 : decide (a1 < 0)=false:=decide_eq_false c5
   clear c5
   by_cases c8 : (wrap64 ((t112.size : Int) - t113)) < a1
   ·rw [if_pos c8] at H
    have c8b0 : decide ((wrap64 ((t112.size : Int) - t113)) < a1)=true:=decide_eq_true c8
    clear c8
    simp only [Option.some.injEq,Prod.mk.injEq] at H
    obtain ⟨rfl,rfl,rfl,rfl⟩:=H
    go_enter Try.func62,Try.ntmps62
    go_wp2_with (first|(go_at_call 61;(with_reducible refine (raw_Reader_Err.calls g s0_0 s0_1 s0_2 t111 t112 t113 t114 w0 _ ?side1 ?side2 A3.out).mono ?_);(case side1=>repeat (first|(with_reducible first|exact HI0.out|apply IsS110.alloc|apply IsS110.drewN|apply IsS110.drew|apply IsS110.set_0|apply IsS110.set_1|apply IsS110.set_2)|exact HI0.out));(case side2=>repeat (first|(with_reducible first|exact HB.out|apply below_alloc|apply pw_below_drewN|apply below_drew1|refine below_set ?_ (IsS110.ge HI0.out))|exact HB.out));rintro e w9 ⟨rfl,hi,hb,hk⟩;have n0_:=Aside0.mk (KeepBut.trans (by repeat (first|(with_reducible first|exact HK.out|apply KeepBut.set_|apply keep_drewN|apply keep_drew|apply keep_alloc)|exact HK.out)) hk (.inl rfl));have n1_:=Aside0.mk (hb);have n2_:=Aside0.mk (hi);clear HK;clear HB;clear HI0;have HK:=n0_;have HB:=n1_;have HI0:=n2_;clear n0_ n1_ n2_;(try clear hb);(try clear hb2);(try clear hk);(try clear hi);obtain ⟨HGz10,hgz10⟩:=HI0.out;have hcz10_0:=cellS110_0 HGz10;have hcz10_1:=cellS110_1 HGz10;have hcz10_2:=cellS110_2 HGz10;have hfz10_0:=blk_frozen HGz10 0;have hfz10_1:=blk_frozen HGz10 1;have hfz10_2:=blk_frozen HGz10 2;clear HGz10 hgz10))
    repeat (go_quiet (first|(go_at_call 61;(with_reducible refine (raw_Reader_Err.calls g s0_0 s0_1 s0_2 t111 t112 t113 t114 w0 _ ?side1 ?side2 A3.out).mono ?_);(case side1=>repeat (first|(with_reducible first|exact HI0.out|apply IsS110.alloc|apply IsS110.drewN|apply IsS110.drew|apply IsS110.set_0|apply IsS110.set_1|apply IsS110.set_2)|exact HI0.out));(case side2=>repeat (first|(with_reducible first|exact HB.out|apply below_alloc|apply pw_below_drewN|apply below_drew1|refine below_set ?_ (IsS110.ge HI0.out))|exact HB.out));rintro e w9 ⟨rfl,hi,hb,hk⟩;have n0_:=Aside0.mk (KeepBut.trans (by repeat (first|(with_reducible first|exact HK.out|apply KeepBut.set_|apply keep_drewN|apply keep_drew|apply keep_alloc)|exact HK.out)) hk (.inl rfl));have n1_:=Aside0.mk (hb);have n2_:=Aside0.mk (hi);clear HK;clear HB;clear HI0;have HK:=n0_;have HB:=n1_;have HI0:=n2_;clear n0_ n1_ n2_;(try clear hb);(try clear hb2);(try clear hk);(try clear hi);obtain ⟨HGz10,hgz10⟩:=HI0.out;have hcz10_0:=cellS110_0 HGz10;have hcz10_1:=cellS110_1 HGz10;have hcz10_2:=cellS110_2 HGz10;have hfz10_0:=blk_frozen HGz10 0;have hfz10_1:=blk_frozen HGz10 1;have hfz10_2:=blk_frozen HGz10 2;clear HGz10 hgz10));try go_wp2_with (first|(go_at_call 61;(with_reducible refine (raw_Reader_Err.calls g s0_0 s0_1 s0_2 t111 t112 t113 t114 w0 _ ?side1 ?side2 A3.out).mono ?_);(case side1=>repeat (first|(with_reducible first|exact HI0.out|apply IsS110.alloc|apply IsS110.drewN|apply IsS110.drew|apply IsS110.set_0|apply IsS110.set_1|apply IsS110.set_2)|exact HI0.out));(case side2=>repeat (first|(with_reducible first|exact HB.out|apply below_alloc|apply pw_below_drewN|apply below_drew1|refine below_set ?_ (IsS110.ge HI0.out))|exact HB.out));rintro e w9 ⟨rfl,hi,hb,hk⟩;have n0_:=Aside0.mk (KeepBut.trans (by repeat (first|(with_reducible first|exact HK.out|apply KeepBut.set_|apply keep_drewN|apply keep_drew|apply keep_alloc)|exact HK.out)) hk (.inl rfl));have n1_:=Aside0.mk (hb);have n2_:=Aside0.mk (hi);clear HK;clear HB;clear HI0;have HK:=n0_;have HB:=n1_;have HI0:=n2_;clear n0_ n1_ n2_;(try clear hb);(try clear hb2);(try clear hk);(try clear hi);obtain ⟨HGz10,hgz10⟩:=HI0.out;have hcz10_0:=cellS110_0 HGz10;have hcz10_1:=cellS110_1 HGz10;have hcz10_2:=cellS110_2 HGz10;have hfz10_0:=blk_frozen HGz10 0;have hfz10_1:=blk_frozen HGz10 1;have hfz10_2:=blk_frozen HGz10 2;clear HGz10 hgz10)))
    go_ret
    exact ⟨by first|rfl|(simp [errW_none,errW_some] <;> rfl)|(simp [*,errW_none,errW_some] <;> rfl),by repeat (first|(with_reducible first|exact HI0.out|apply IsS110.alloc|apply IsS110.drewN|apply IsS110.drew|apply IsS110.set_0|apply IsS110.set_1|apply IsS110.set_2)|exact HI0.out),by repeat (first|(with_reducible first|exact HB.out|apply below_alloc|apply pw_below_drewN|apply below_drew1|refine below_set ?_ (IsS110.ge HI0.out))|exact HB.out),by repeat (first|(with_reducible first|exact HK.out|apply KeepBut.set_|apply keep_drewN|apply keep_drew|apply keep_alloc)|exact HK.out)⟩
   ·rw [if_neg c8] at H
    have c8b0 : decide ((wrap64 ((t112.size : Int) - t113)) < a1)=false:=decide_eq_false c8
    clear c8
    obtain ⟨ji11,hji11⟩ : ∃ j_ : Int,(wrap64 ((wrap64 (t113 + a1)) - a1))=j_:=⟨_,rfl⟩
    replace H : (if 0≤(ji11) then (if (ji11)≤(wrap64 (t113 + a1)) then (if (wrap64 (t113 + a1))≤(t112.size : Int) then (some (t112.extract ((ji11) : Int).toNat ((wrap64 (t113 + a1)) : Int).toNat,t112,wrap64 (t113 + a1),t114)) else (none)) else (none)) else (none))=some (r1,r2,r3,r4):=by first|(rw [hji11] at H;exact H)|(simp only [hji11] at H ⊢;exact H)
    (try rw [hji11] at A3)
    have hji11w : (IntKind.i64.wrap ((wrap64 (t113 + a1)) - a1))=ji11:=(i64_w _).trans hji11
    by_cases c12 : 0≤(ji11)
    ·rw [if_pos c12] at H
     have c12b0:=eq_true c12
     have c12b1 : decide (0≤(ji11))=true:=decide_eq_true c12
     clear c12
     by_cases c13 : (ji11)≤(wrap64 (t113 + a1))
     ·rw [if_pos c13] at H
      have c13b0:=eq_true c13
      have c13b1 : decide ((ji11)≤(wrap64 (t113 + a1)))=true:=decide_eq_true c13
      by_cases c14 : (wrap64 (t113 + a1))≤(t112.size : Int)
      ·rw [if_pos c14] at H
       have c14b0:=eq_true c14
       have c14b1 : decide ((wrap64 (t113 + a1))≤(t112.size : Int))=true:=decide_eq_true c14
       simp only [Option.some.injEq,Prod.mk.injEq] at H
       obtain ⟨rfl,rfl,rfl,rfl⟩:=H
       go_enter Try.func62,Try.ntmps62
       go_wp2_with (first|(go_at_call 61;(with_reducible refine (raw_Reader_Err.calls g s0_0 s0_1 s0_2 t111 t112 t113 t114 w0 _ ?side1 ?side2 A3.out).mono ?_);(case side1=>repeat (first|(with_reducible first|exact HI0.out|apply IsS110.alloc|apply IsS110.drewN|apply IsS110.drew|apply IsS110.set_0|apply IsS110.set_1|apply IsS110.set_2)|exact HI0.out));(case side2=>repeat (first|(with_reducible first|exact HB.out|apply below_alloc|apply pw_below_drewN|apply below_drew1|refine below_set ?_ (IsS110.ge HI0.out))|exact HB.out));rintro e w15 ⟨rfl,hi,hb,hk⟩;have n0_:=Aside0.mk (KeepBut.trans (by repeat (first|(with_reducible first|exact HK.out|apply KeepBut.set_|apply keep_drewN|apply keep_drew|apply keep_alloc)|exact HK.out)) hk (.inl rfl));have n1_:=Aside0.mk (hb);have n2_:=Aside0.mk (hi);clear HK;clear HB;clear HI0;have HK:=n0_;have HB:=n1_;have HI0:=n2_;clear n0_ n1_ n2_;(try clear hb);(try clear hb2);(try clear hk);(try clear hi);obtain ⟨HGz16,hgz16⟩:=HI0.out;have hcz16_0:=cellS110_0 HGz16;have hcz16_1:=cellS110_1 HGz16;have hcz16_2:=cellS110_2 HGz16;have hfz16_0:=blk_frozen HGz16 0;have hfz16_1:=blk_frozen HGz16 1;have hfz16_2:=blk_frozen HGz16 2;clear HGz16 hgz16))
       repeat (go_quiet (first|(go_at_call 61;(with_reducible refine (raw_Reader_Err.calls g s0_0 s0_1 s0_2 t111 t112 t113 t114 w0 _ ?side1 ?side2 A3.out).mono ?_);(case side1=>repeat (first|(with_reducible first|exact HI0.out|apply IsS110.alloc|apply IsS110.drewN|apply IsS110.drew|apply IsS110.set_0|apply IsS110.set_1|apply IsS110.set_2)|exact HI0.out));(case side2=>repeat (first|(with_reducible first|exact HB.out|apply below_alloc|apply pw_below_drewN|apply below_drew1|refine below_set ?_ (IsS110.ge HI0.out))|exact HB.out));rintro e w15 ⟨rfl,hi,hb,hk⟩;have n0_:=Aside0.mk (KeepBut.trans (by repeat (first|(with_reducible first|exact HK.out|apply KeepBut.set_|apply keep_drewN|apply keep_drew|apply keep_alloc)|exact HK.out)) hk (.inl rfl));have n1_:=Aside0.mk (hb);have n2_:=Aside0.mk (hi);clear HK;clear HB;clear HI0;have HK:=n0_;have HB:=n1_;have HI0:=n2_;clear n0_ n1_ n2_;(try clear hb);(try clear hb2);(try clear hk);(try clear hi);obtain ⟨HGz16,hgz16⟩:=HI0.out;have hcz16_0:=cellS110_0 HGz16;have hcz16_1:=cellS110_1 HGz16;have hcz16_2:=cellS110_2 HGz16;have hfz16_0:=blk_frozen HGz16 0;have hfz16_1:=blk_frozen HGz16 1;have hfz16_2:=blk_frozen HGz16 2;clear HGz16 hgz16));try go_wp2_with (first|(go_at_call 61;(with_reducible refine (raw_Reader_Err.calls g s0_0 s0_1 s0_2 t111 t112 t113 t114 w0 _ ?side1 ?side2 A3.out).mono ?_);(case side1=>repeat (first|(with_reducible first|exact HI0.out|apply IsS110.alloc|apply IsS110.drewN|apply IsS110.drew|apply IsS110.set_0|apply IsS110.set_1|apply IsS110.set_2)|exact HI0.out));(case side2=>repeat (first|(with_reducible first|exact HB.out|apply below_alloc|apply pw_below_drewN|apply below_drew1|refine below_set ?_ (IsS110.ge HI0.out))|exact HB.out));rintro e w15 ⟨rfl,hi,hb,hk⟩;have n0_:=Aside0.mk (KeepBut.trans (by repeat (first|(with_reducible first|exact HK.out|apply KeepBut.set_|apply keep_drewN|apply keep_drew|apply keep_alloc)|exact HK.out)) hk (.inl rfl));have n1_:=Aside0.mk (hb);have n2_:=Aside0.mk (hi);clear HK;clear HB;clear HI0;have HK:=n0_;have HB:=n1_;have HI0:=n2_;clear n0_ n1_ n2_;(try clear hb);(try clear hb2);(try clear hk);(try clear hi);obtain ⟨HGz16,hgz16⟩:=HI0.out;have hcz16_0:=cellS110_0 HGz16;have hcz16_1:=cellS110_1 HGz16;have hcz16_2:=cellS110_2 HGz16;have hfz16_0:=blk_frozen HGz16 0;have hfz16_1:=blk_frozen HGz16 1;have hfz16_2:=blk_frozen HGz16 2;clear HGz16 hgz16)))
       go_ret
       exact ⟨by first|rfl|(simp [errW_none,errW_some] <;> rfl)|(simp only [← hji11];first|rfl|(simp [errW_none,errW_some] <;> rfl))|(simp [*,errW_none,errW_some] <;> rfl),by repeat (first|(with_reducible first|exact HI0.out|apply IsS110.alloc|apply IsS110.drewN|apply IsS110.drew|apply IsS110.set_0|apply IsS110.set_1|apply IsS110.set_2)|exact HI0.out),by repeat (first|(with_reducible first|exact HB.out|apply below_alloc|apply pw_below_drewN|apply below_drew1|refine below_set ?_ (IsS110.ge HI0.out))|exact HB.out),by repeat (first|(with_reducible first|exact HK.out|apply KeepBut.set_|apply keep_drewN|apply keep_drew|apply keep_alloc)|exact HK.out)⟩
      ·rw [if_neg c14] at H
       exact absurd H (by simp)
     ·rw [if_neg c13] at H
      exact absurd H (by simp)
    ·rw [if_neg c12] at H
     exact absurd H (by simp)
 ·rw [if_neg c4] at H
  have c4b0 : (t111 == 0)=false:=beq_eq_false_iff_ne.mpr c4
  have c4b1 : (t111 != 0)=true:=bne_iff_ne.mpr c4
  simp only [Option.some.injEq,Prod.mk.injEq] at H
  obtain ⟨rfl,rfl,rfl,rfl⟩:=H
  go_enter Try.func62,Try.ntmps62
  go_wp2_with (first|(go_at_call 61;(with_reducible refine (raw_Reader_Err.calls g s0_0 s0_1 s0_2 t111 t112 t113 t114 w0 _ ?side1 ?side2 A3.out).mono ?_);(case side1=>repeat (first|(with_reducible first|exact HI0.out|apply IsS110.alloc|apply IsS110.drewN|apply IsS110.drew|apply IsS110.set_0|apply IsS110.set_1|apply IsS110.set_2)|exact HI0.out));(case side2=>repeat (first|(with_reducible first|exact HB.out|apply below_alloc|apply pw_below_drewN|apply below_drew1|refine below_set ?_ (IsS110.ge HI0.out))|exact HB.out));rintro e w17 ⟨rfl,hi,hb,hk⟩;have n0_:=Aside0.mk (KeepBut.trans (by repeat (first|(with_reducible first|exact HK.out|apply KeepBut.set_|apply keep_drewN|apply keep_drew|apply keep_alloc)|exact HK.out)) hk (.inl rfl));have n1_:=Aside0.mk (hb);have n2_:=Aside0.mk (hi);clear HK;clear HB;clear HI0;have HK:=n0_;have HB:=n1_;have HI0:=n2_;clear n0_ n1_ n2_;(try clear hb);(try clear hb2);(try clear hk);(try clear hi)))
  repeat (go_quiet (first|(go_at_call 61;(with_reducible refine (raw_Reader_Err.calls g s0_0 s0_1 s0_2 t111 t112 t113 t114 w0 _ ?side1 ?side2 A3.out).mono ?_);(case side1=>repeat (first|(with_reducible first|exact HI0.out|apply IsS110.alloc|apply IsS110.drewN|apply IsS110.drew|apply IsS110.set_0|apply IsS110.set_1|apply IsS110.set_2)|exact HI0.out));(case side2=>repeat (first|(with_reducible first|exact HB.out|apply below_alloc|apply pw_below_drewN|apply below_drew1|refine below_set ?_ (IsS110.ge HI0.out))|exact HB.out));rintro e w17 ⟨rfl,hi,hb,hk⟩;have n0_:=Aside0.mk (KeepBut.trans (by repeat (first|(with_reducible first|exact HK.out|apply KeepBut.set_|apply keep_drewN|apply keep_drew|apply keep_alloc)|exact HK.out)) hk (.inl rfl));have n1_:=Aside0.mk (hb);have n2_:=Aside0.mk (hi);clear HK;clear HB;clear HI0;have HK:=n0_;have HB:=n1_;have HI0:=n2_;clear n0_ n1_ n2_;(try clear hb);(try clear hb2);(try clear hk);(try clear hi)));try go_wp2_with (first|(go_at_call 61;(with_reducible refine (raw_Reader_Err.calls g s0_0 s0_1 s0_2 t111 t112 t113 t114 w0 _ ?side1 ?side2 A3.out).mono ?_);(case side1=>repeat (first|(with_reducible first|exact HI0.out|apply IsS110.alloc|apply IsS110.drewN|apply IsS110.drew|apply IsS110.set_0|apply IsS110.set_1|apply IsS110.set_2)|exact HI0.out));(case side2=>repeat (first|(with_reducible first|exact HB.out|apply below_alloc|apply pw_below_drewN|apply below_drew1|refine below_set ?_ (IsS110.ge HI0.out))|exact HB.out));rintro e w17 ⟨rfl,hi,hb,hk⟩;have n0_:=Aside0.mk (KeepBut.trans (by repeat (first|(with_reducible first|exact HK.out|apply KeepBut.set_|apply keep_drewN|apply keep_drew|apply keep_alloc)|exact HK.out)) hk (.inl rfl));have n1_:=Aside0.mk (hb);have n2_:=Aside0.mk (hi);clear HK;clear HB;clear HI0;have HK:=n0_;have HB:=n1_;have HI0:=n2_;clear n0_ n1_ n2_;(try clear hb);(try clear hb2);(try clear hk);(try clear hi))))
  go_ret
  exact ⟨by first|rfl|(simp [errW_none,errW_some] <;> rfl)|(simp [*,errW_none,errW_some] <;> rfl),by repeat (first|(with_reducible first|exact HI0.out|apply IsS110.alloc|apply IsS110.drewN|apply IsS110.drew|apply IsS110.set_0|apply IsS110.set_1|apply IsS110.set_2)|exact HI0.out),by repeat (first|(with_reducible first|exact HB.out|apply below_alloc|apply pw_below_drewN|apply below_drew1|refine below_set ?_ (IsS110.ge HI0.out))|exact HB.out),by repeat (first|(with_reducible first|exact HK.out|apply KeepBut.set_|apply keep_drewN|apply keep_drew|apply keep_alloc)|exact HK.out)⟩
end Go.Proofs.Ytfegabikfkmepaa.PNe
end
section
namespace Go.Proofs.Ytfegabikfkmepaa.PNe
open Go.RowKit Go.Proofs.YtfegabikfkmepaaW.PrintWords Go.Proofs.YtfegabikfkmepaaW.PrintLast Go.Proofs.YtfegabikfkmepaaW.PrintMore
attribute [local go_sem] max2_int min2_int max_two min_two max_three min_three max_four min_four
set_option linter.unusedVariables false
set_option linter.unusedSimpArgs false
def raw_Reader_Left.f (s0_0 : ByteArray) (s0_1 : Int) (s0_2 : Int) : Option (Int × ByteArray × Int × Int):=some (wrap64 ((s0_0.size : Int) - s0_1),s0_0,s0_1,s0_2)
set_option maxHeartbeats 8000000 in
set_option maxRecDepth 100000 in
theorem raw_Reader_Left.calls (g : Nat) (s0_0 : ByteArray) (s0_1 : Int) (s0_2 : Int) (r1 : Int) (r2 : ByteArray) (r3 : Int) (r4 : Int) (w0 w : World) (hI : IsS110 w0 w g s0_0 s0_1 s0_2) (hB : Below w0.heap.size w0 w) (h : raw_Reader_Left.f s0_0 s0_1 s0_2=some (r1,r2,r3,r4)) :
  Calls Try.prog 63 #[.pointer (some ⟨g,0,none⟩)] w fun e w'=>e=.returned (.int .i64 r1)∧IsS110 w0 w' g r2 r3 r4∧Below w0.heap.size w0 w'∧KeepBut w w' g none:=by
 have HI0:=Aside0.mk hI
 have HK:=Aside0.mk (KeepBut.refl w g none)
 have HL:=Aside0.mk hB.size
 clear hI
 have HW0:=Aside0.mk hB.size
 have HB:=Aside0.mk hB
 clear hB
 have H : (some (wrap64 ((s0_0.size : Int) - s0_1),s0_0,s0_1,s0_2))=some (r1,r2,r3,r4):=h
 clear h
 simp only [Option.some.injEq,Prod.mk.injEq] at H
 obtain ⟨rfl,rfl,rfl,rfl⟩:=H
 obtain ⟨HGz2,hgz2⟩:=HI0.out
 have hcz2_0:=cellS110_0 HGz2
 have hcz2_1:=cellS110_1 HGz2
 have hcz2_2:=cellS110_2 HGz2
 have hfz2_0:=blk_frozen HGz2 0
 have hfz2_1:=blk_frozen HGz2 1
 have hfz2_2:=blk_frozen HGz2 2
 clear HGz2 hgz2
 go_enter Try.func63,Try.ntmps63
 go_wp2
 repeat (go_quiet (fail);try go_wp2)
 go_ret
 exact ⟨by first|rfl|(simp [errW_none,errW_some] <;> rfl)|(simp [*,errW_none,errW_some] <;> rfl),by repeat (first|(with_reducible first|exact HI0.out|apply IsS110.alloc|apply IsS110.drewN|apply IsS110.drew|apply IsS110.set_0|apply IsS110.set_1|apply IsS110.set_2)|exact HI0.out),by repeat (first|(with_reducible first|exact HB.out|apply below_alloc|apply pw_below_drewN|apply below_drew1|refine below_set ?_ (IsS110.ge HI0.out))|exact HB.out),by repeat (first|(with_reducible first|exact HK.out|apply KeepBut.set_|apply keep_drewN|apply keep_drew|apply keep_alloc)|exact HK.out)⟩
end Go.Proofs.Ytfegabikfkmepaa.PNe
end
section
namespace Go.Proofs.Ytfegabikfkmepaa.PNe
open Go.RowKit Go.Proofs.YtfegabikfkmepaaW.PrintWords Go.Proofs.YtfegabikfkmepaaW.PrintLast Go.Proofs.YtfegabikfkmepaaW.PrintMore
attribute [local go_sem] max2_int min2_int max_two min_two max_three min_three max_four min_four
set_option linter.unusedVariables false
set_option linter.unusedSimpArgs false
def node_take.f (s0_0 : ByteArray) (s0_1 : Int) (s0_2 : Int) : Option (ByteArray × Int × Int × ByteArray × Int × Int):=(raw_Reader_Number.f s0_0 s0_1 s0_2 4).bind fun bt116=>((raw_Reader_Number.f bt116.2.1 bt116.2.2.1 bt116.2.2.2 2).bind fun bt120=>((raw_Reader_Left.f bt120.2.1 bt120.2.2.1 bt120.2.2.2).bind fun bt125=>((raw_Reader_Bytes.f bt125.2.1 bt125.2.2.1 bt125.2.2.2 bt125.1).bind fun bt129=>(some (bt129.1,(bt116.1) % 4294967296,wrap64 (bt120.1),bt129.2.1,bt129.2.2.1,bt129.2.2.2)))))
set_option maxHeartbeats 8000000 in
set_option maxRecDepth 100000 in
theorem node_take.calls (g : Nat) (s0_0 : ByteArray) (s0_1 : Int) (s0_2 : Int) (r1 : ByteArray) (r2 : Int) (r3 : Int) (r4 : ByteArray) (r5 : Int) (r6 : Int) (w0 w : World) (hI : IsS110 w0 w g s0_0 s0_1 s0_2) (hB : Below w0.heap.size w0 w) (h : node_take.f s0_0 s0_1 s0_2=some (r1,r2,r3,r4,r5,r6)) :
  Calls Try.prog 46 #[.pointer (some ⟨g,0,none⟩)] w fun e w'=>e=.returned (.agg #[.string r1,.int .u32 r2,.int .i64 r3])∧IsS110 w0 w' g r4 r5 r6∧Below w0.heap.size w0 w'∧KeepBut w w' g none:=by
 have hu43:=Try.underlying43
 have hu41:=Try.underlying41
 have HI0:=Aside0.mk hI
 have HK:=Aside0.mk (KeepBut.refl w g none)
 have HL:=Aside0.mk hB.size
 clear hI
 have HW0:=Aside0.mk hB.size
 have HB:=Aside0.mk hB
 clear hB
 have H : ((raw_Reader_Number.f s0_0 s0_1 s0_2 4).bind fun bt116=>((raw_Reader_Number.f bt116.2.1 bt116.2.2.1 bt116.2.2.2 2).bind fun bt120=>((raw_Reader_Left.f bt120.2.1 bt120.2.2.1 bt120.2.2.2).bind fun bt125=>((raw_Reader_Bytes.f bt125.2.1 bt125.2.2.1 bt125.2.2.2 bt125.1).bind fun bt129=>(some (bt129.1,(bt116.1) % 4294967296,wrap64 (bt120.1),bt129.2.1,bt129.2.2.1,bt129.2.2.2))))))=some (r1,r2,r3,r4,r5,r6):=h
 clear h
 replace H:=Option.bind_eq_some_iff.mp H
 obtain ⟨⟨t116,t117,t118,t119⟩,A20,H⟩:=H
 replace H : ((raw_Reader_Number.f t117 t118 t119 2).bind fun bt120=>((raw_Reader_Left.f bt120.2.1 bt120.2.2.1 bt120.2.2.2).bind fun bt125=>((raw_Reader_Bytes.f bt125.2.1 bt125.2.2.1 bt125.2.2.2 bt125.1).bind fun bt129=>(some (bt129.1,(t116) % 4294967296,wrap64 (bt120.1),bt129.2.1,bt129.2.2.1,bt129.2.2.2)))))=some (r1,r2,r3,r4,r5,r6):=H
 have A2:=Aside0.mk A20
 clear A20
 replace H:=Option.bind_eq_some_iff.mp H
 obtain ⟨⟨t120,t121,t122,t123⟩,A30,H⟩:=H
 replace H : ((raw_Reader_Left.f t121 t122 t123).bind fun bt125=>((raw_Reader_Bytes.f bt125.2.1 bt125.2.2.1 bt125.2.2.2 bt125.1).bind fun bt129=>(some (bt129.1,(t116) % 4294967296,wrap64 (t120),bt129.2.1,bt129.2.2.1,bt129.2.2.2))))=some (r1,r2,r3,r4,r5,r6):=H
 have A3:=Aside0.mk A30
 clear A30
 replace H:=Option.bind_eq_some_iff.mp H
 obtain ⟨⟨t125,t126,t127,t128⟩,A40,H⟩:=H
 replace H : ((raw_Reader_Bytes.f t126 t127 t128 t125).bind fun bt129=>(some (bt129.1,(t116) % 4294967296,wrap64 (t120),bt129.2.1,bt129.2.2.1,bt129.2.2.2)))=some (r1,r2,r3,r4,r5,r6):=H
 have A4:=Aside0.mk A40
 clear A40
 replace H:=Option.bind_eq_some_iff.mp H
 obtain ⟨⟨t129,t130,t131,t132⟩,A50,H⟩:=H
 replace H : (some (t129,(t116) % 4294967296,wrap64 (t120),t130,t131,t132))=some (r1,r2,r3,r4,r5,r6):=H
 have A5:=Aside0.mk A50
 clear A50
 simp only [Option.some.injEq,Prod.mk.injEq] at H
 obtain ⟨rfl,rfl,rfl,rfl,rfl,rfl⟩:=H
 go_enter Try.func46,Try.ntmps46
 go_wp2_with (first|((with_reducible refine gate_dst (N:=2) rfl ?_);refine box_event ?hg (N:=2) ?hd (cs:=#[.string (⟨#[]⟩ : ByteArray),.int .u32 0,.int .i64 0]) (t:=43) ?hr ?_;(case hd=>rfl);(case hg=>rfl);(case hr=>first|(go_simp;done)|(go_simp;rfl));intro gb115 hg w6 hbox hb;have n0_:=Aside0.mk (IsS110.below (by repeat (first|(with_reducible first|exact HI0.out|apply IsS110.alloc|apply IsS110.drewN|apply IsS110.drew|apply IsS110.set_0|apply IsS110.set_1|apply IsS110.set_2)|exact HI0.out)) hb);have n1_:=Aside0.mk (KeepBut.trans (by repeat (first|(with_reducible first|exact HK.out|apply KeepBut.set_|apply keep_drewN|apply keep_drew|apply keep_alloc)|exact HK.out)) (KeepBut.of_below hb g none) (.inl rfl));have n2_:=Aside0.mk (below_step (by repeat (first|(with_reducible first|exact HB.out|apply below_alloc|apply pw_below_drewN|apply below_drew1|refine below_set ?_ (IsS110.ge HI0.out))|exact HB.out)) hb);have n3_:=Aside0.mk (hbox);have n4_:=Aside0.mk ((by rw [hg];exact (keep_size (w:=w) (g:=g) (row:=none) (by repeat (first|(with_reducible first|exact HK.out|apply KeepBut.set_|apply keep_drewN|apply keep_drew|apply keep_alloc)|exact HK.out))) : w.heap.size≤gb115));have n5_:=Aside0.mk ((Nat.le_trans HW0.out (by rw [hg];exact (keep_size (w:=w) (g:=g) (row:=none) (by repeat (first|(with_reducible first|exact HK.out|apply KeepBut.set_|apply keep_drewN|apply keep_drew|apply keep_alloc)|exact HK.out))) : w.heap.size≤gb115) : w0.heap.size≤gb115));have n6_:=Aside0.mk ((by rw [hg];exact Nat.ne_of_lt (IsS110.lt (show IsS110 w0 _ g s0_0 s0_1 s0_2 from by repeat (first|(with_reducible first|exact HI0.out|apply IsS110.alloc|apply IsS110.drewN|apply IsS110.drew|apply IsS110.set_0|apply IsS110.set_1|apply IsS110.set_2)|exact HI0.out))) : g≠gb115));have n7_:=Aside0.mk ((by rw [hg];exact Nat.ne_of_gt (IsS110.lt (show IsS110 w0 _ g s0_0 s0_1 s0_2 from by repeat (first|(with_reducible first|exact HI0.out|apply IsS110.alloc|apply IsS110.drewN|apply IsS110.drew|apply IsS110.set_0|apply IsS110.set_1|apply IsS110.set_2)|exact HI0.out))) : gb115≠g));clear HI0;clear HK;clear HB;have HI0:=n0_;have HK:=n1_;have HB:=n2_;have BK115:=n3_;have GW115:=n4_;have GE115:=n5_;have NB0_115:=n6_;have NB115_0:=n7_;clear n0_ n1_ n2_ n3_ n4_ n5_ n6_ n7_;clear hb hbox hg)|((with_reducible refine gate_callee (f:=45) rfl ?_);refine goesL_ (some 5) rfl rfl Try.func45 (by kernel_rfl) rfl #[.pointer (some ⟨g,0,none⟩),.int .i64 4] rfl (by (try simp only [List.map_toArray,List.map_cons,List.map_nil]);first|done|rfl|(simp only [List.length_drop,List.length_take];rfl)) ?_;(with_reducible refine (raw_Reader_Number.calls g s0_0 s0_1 s0_2 4 t116 t117 t118 t119 w0 _ ?side1 ?side2 A2.out).mono ?_);(case side1=>repeat (first|(with_reducible first|exact HI0.out|apply IsS110.alloc|apply IsS110.drewN|apply IsS110.drew|apply IsS110.set_0|apply IsS110.set_1|apply IsS110.set_2|refine IsS110.far ?_ NB0_115.out _)|exact HI0.out));(case side2=>repeat (first|(with_reducible first|exact HB.out|apply below_alloc|apply pw_below_drewN|apply below_drew1|refine below_set ?_ (IsS110.ge HI0.out)|refine below_set ?_ GE115.out)|exact HB.out));rintro e w7 ⟨rfl,hi,hb,hk⟩;refine ⟨_,rfl,?_⟩;have n0_:=Aside0.mk (KeepBut.blk hk (g':=gb115) (o:=.cells #[.string (⟨#[]⟩ : ByteArray),.int .u32 0,.int .i64 0] 43 (0,0)) (by (with_reducible repeat (first|refine blk_drewN ?_ _|refine blk_drew ?_|refine blk_alloc ?_ _));exact BK115.out) NB115_0.out (by simp));have n1_:=Aside0.mk (KeepBut.trans (by repeat (first|(with_reducible first|exact HK.out|apply KeepBut.set_|apply keep_drewN|apply keep_drew|apply keep_alloc|refine keep_far ?_ GW115.out _)|exact HK.out)) hk (.inl rfl));have n2_:=Aside0.mk (hb);have n3_:=Aside0.mk (hi);clear BK115;clear HK;clear HB;clear HI0;have BK115:=n0_;have HK:=n1_;have HB:=n2_;have HI0:=n3_;clear n0_ n1_ n2_ n3_;(try clear hb);(try clear hb2);(try clear hk);(try clear hi))|((with_reducible refine gate_callee (f:=45) rfl ?_);refine goesL_ (some 8) rfl rfl Try.func45 (by kernel_rfl) rfl #[.pointer (some ⟨g,0,none⟩),.int .i64 2] rfl (by (try simp only [List.map_toArray,List.map_cons,List.map_nil]);first|done|rfl|(simp only [List.length_drop,List.length_take];rfl)) ?_;(with_reducible refine (raw_Reader_Number.calls g t117 t118 t119 2 t120 t121 t122 t123 w0 _ ?side1 ?side2 A3.out).mono ?_);(case side1=>repeat (first|(with_reducible first|exact HI0.out|apply IsS110.alloc|apply IsS110.drewN|apply IsS110.drew|apply IsS110.set_0|apply IsS110.set_1|apply IsS110.set_2|refine IsS110.far ?_ NB0_115.out _)|exact HI0.out));(case side2=>repeat (first|(with_reducible first|exact HB.out|apply below_alloc|apply pw_below_drewN|apply below_drew1|refine below_set ?_ (IsS110.ge HI0.out)|refine below_set ?_ GE115.out)|exact HB.out));rintro e w8 ⟨rfl,hi,hb,hk⟩;refine ⟨_,rfl,?_⟩;have n0_:=Aside0.mk (KeepBut.blk hk (g':=gb115) (o:=.cells #[.string (⟨#[]⟩ : ByteArray),.int .u32 0,.int .i64 0] 43 (0,0)) (by (with_reducible repeat (first|refine blk_drewN ?_ _|refine blk_drew ?_|refine blk_alloc ?_ _));exact BK115.out) NB115_0.out (by simp));have n1_:=Aside0.mk (KeepBut.trans (by repeat (first|(with_reducible first|exact HK.out|apply KeepBut.set_|apply keep_drewN|apply keep_drew|apply keep_alloc|refine keep_far ?_ GW115.out _)|exact HK.out)) hk (.inl rfl));have n2_:=Aside0.mk (hb);have n3_:=Aside0.mk (hi);clear BK115;clear HK;clear HB;clear HI0;have BK115:=n0_;have HK:=n1_;have HB:=n2_;have HI0:=n3_;clear n0_ n1_ n2_ n3_;(try clear hb);(try clear hb2);(try clear hk);(try clear hi))|((with_reducible refine gate_dst (N:=3) rfl ?_);refine box_event ?hg (N:=3) ?hd (cs:=#[.string (⟨#[]⟩ : ByteArray),.int .u32 0,.int .i64 0]) (t:=43) ?hr ?_;(case hd=>rfl);(case hg=>rfl);(case hr=>first|(go_simp;done)|(go_simp;rfl));intro gb124 hg w9 hbox hb;have n0_:=Aside0.mk (IsS110.below (by repeat (first|(with_reducible first|exact HI0.out|apply IsS110.alloc|apply IsS110.drewN|apply IsS110.drew|apply IsS110.set_0|apply IsS110.set_1|apply IsS110.set_2|refine IsS110.far ?_ NB0_115.out _)|exact HI0.out)) hb);have n1_:=Aside0.mk (blk_below (g:=gb115) (o:=.cells #[.string (⟨#[]⟩ : ByteArray),.int .u32 0,.int .i64 0] 43 (0,0)) (by (with_reducible repeat (first|refine blk_drewN ?_ _|refine blk_drew ?_|refine blk_alloc ?_ _));exact BK115.out) hb);have n2_:=Aside0.mk (KeepBut.trans (by repeat (first|(with_reducible first|exact HK.out|apply KeepBut.set_|apply keep_drewN|apply keep_drew|apply keep_alloc|refine keep_far ?_ GW115.out _)|exact HK.out)) (KeepBut.of_below hb g none) (.inl rfl));have n3_:=Aside0.mk (below_step (by repeat (first|(with_reducible first|exact HB.out|apply below_alloc|apply pw_below_drewN|apply below_drew1|refine below_set ?_ (IsS110.ge HI0.out)|refine below_set ?_ GE115.out)|exact HB.out)) hb);have n4_:=Aside0.mk (hbox);have n5_:=Aside0.mk ((by rw [hg];exact (keep_size (w:=w) (g:=g) (row:=none) (by repeat (first|(with_reducible first|exact HK.out|apply KeepBut.set_|apply keep_drewN|apply keep_drew|apply keep_alloc|refine keep_far ?_ GW115.out _)|exact HK.out))) : w.heap.size≤gb124));have n6_:=Aside0.mk ((Nat.le_trans HW0.out (by rw [hg];exact (keep_size (w:=w) (g:=g) (row:=none) (by repeat (first|(with_reducible first|exact HK.out|apply KeepBut.set_|apply keep_drewN|apply keep_drew|apply keep_alloc|refine keep_far ?_ GW115.out _)|exact HK.out))) : w.heap.size≤gb124) : w0.heap.size≤gb124));have n7_:=Aside0.mk ((by rw [hg];exact Nat.ne_of_lt (blk_lt (g:=gb115) (o:=.cells #[.string (⟨#[]⟩ : ByteArray),.int .u32 0,.int .i64 0] 43 (0,0)) (by (with_reducible repeat (first|refine blk_drewN ?_ _|refine blk_drew ?_|refine blk_alloc ?_ _));exact BK115.out)) : gb115≠gb124));have n8_:=Aside0.mk ((by rw [hg];exact Nat.ne_of_gt (blk_lt (g:=gb115) (o:=.cells #[.string (⟨#[]⟩ : ByteArray),.int .u32 0,.int .i64 0] 43 (0,0)) (by (with_reducible repeat (first|refine blk_drewN ?_ _|refine blk_drew ?_|refine blk_alloc ?_ _));exact BK115.out)) : gb124≠gb115));have n9_:=Aside0.mk ((by rw [hg];exact Nat.ne_of_lt (IsS110.lt (show IsS110 w0 _ g t121 t122 t123 from by repeat (first|(with_reducible first|exact HI0.out|apply IsS110.alloc|apply IsS110.drewN|apply IsS110.drew|apply IsS110.set_0|apply IsS110.set_1|apply IsS110.set_2|refine IsS110.far ?_ NB0_115.out _)|exact HI0.out))) : g≠gb124));have n10_:=Aside0.mk ((by rw [hg];exact Nat.ne_of_gt (IsS110.lt (show IsS110 w0 _ g t121 t122 t123 from by repeat (first|(with_reducible first|exact HI0.out|apply IsS110.alloc|apply IsS110.drewN|apply IsS110.drew|apply IsS110.set_0|apply IsS110.set_1|apply IsS110.set_2|refine IsS110.far ?_ NB0_115.out _)|exact HI0.out))) : gb124≠g));clear HI0;clear BK115;clear HK;clear HB;have HI0:=n0_;have BK115:=n1_;have HK:=n2_;have HB:=n3_;have BK124:=n4_;have GW124:=n5_;have GE124:=n6_;have NB115_124:=n7_;have NB124_115:=n8_;have NB0_124:=n9_;have NB124_0:=n10_;clear n0_ n1_ n2_ n3_ n4_ n5_ n6_ n7_ n8_ n9_ n10_;clear hb hbox hg;have hnb10:=NB124_115.out;have hnc10:=NB115_124.out;have hnb11:=NB124_0.out;have hnc11:=NB0_124.out;have hcz12_0 : w9.cell? ⟨gb124,0,none⟩=some (.string (⟨#[]⟩ : ByteArray)):=(blk_cell BK124.out 0).trans rfl;have hcz12_1 : w9.cell? ⟨gb124,1,none⟩=some (.int .u32 0):=(blk_cell BK124.out 1).trans rfl;have hcz12_2 : w9.cell? ⟨gb124,2,none⟩=some (.int .i64 0):=(blk_cell BK124.out 2).trans rfl;have hfz12_0:=blk_frozen BK124.out 0;have hfz12_1:=blk_frozen BK124.out 1;have hfz12_2:=blk_frozen BK124.out 2)|((with_reducible refine gate_callee (f:=63) rfl ?_);refine goesL_ (some 14) rfl rfl Try.func63 (by kernel_rfl) rfl #[.pointer (some ⟨g,0,none⟩)] rfl (by (try simp only [List.map_toArray,List.map_cons,List.map_nil]);first|done|rfl|(simp only [List.length_drop,List.length_take];rfl)) ?_;(with_reducible refine (raw_Reader_Left.calls g t121 t122 t123 t125 t126 t127 t128 w0 _ ?side1 ?side2 A4.out).mono ?_);(case side1=>repeat (first|(with_reducible first|exact HI0.out|apply IsS110.alloc|apply IsS110.drewN|apply IsS110.drew|apply IsS110.set_0|apply IsS110.set_1|apply IsS110.set_2|refine IsS110.far ?_ NB0_115.out _|refine IsS110.far ?_ NB0_124.out _)|exact HI0.out));(case side2=>repeat (first|(with_reducible first|exact HB.out|apply below_alloc|apply pw_below_drewN|apply below_drew1|refine below_set ?_ (IsS110.ge HI0.out)|refine below_set ?_ GE115.out|refine below_set ?_ GE124.out)|exact HB.out));rintro e w13 ⟨rfl,hi,hb,hk⟩;refine ⟨_,rfl,?_⟩;have n0_:=Aside0.mk (KeepBut.blk hk (g':=gb115) (o:=.cells #[.string (⟨#[]⟩ : ByteArray),.int .u32 0,.int .i64 0] 43 (0,0)) (by (with_reducible repeat (first|refine blk_drewN ?_ _|refine blk_drew ?_|refine blk_alloc ?_ _));refine blk_far ?_ NB115_124.out _;(with_reducible repeat (first|refine blk_drewN ?_ _|refine blk_drew ?_|refine blk_alloc ?_ _));refine blk_far ?_ NB115_124.out _;(with_reducible repeat (first|refine blk_drewN ?_ _|refine blk_drew ?_|refine blk_alloc ?_ _));refine blk_far ?_ NB115_124.out _;(with_reducible repeat (first|refine blk_drewN ?_ _|refine blk_drew ?_|refine blk_alloc ?_ _));exact BK115.out) NB115_0.out (by simp));have n1_:=Aside0.mk (KeepBut.blk hk (g':=gb124) (o:=.cells #[.string (⟨#[]⟩ : ByteArray),.int .u32 ((t116) % 4294967296),.int .i64 (wrap64 (t120))] 43 (0,0)) (by (with_reducible repeat (first|refine blk_drewN ?_ _|refine blk_drew ?_|refine blk_alloc ?_ _));refine blk_put (cs:=#[.string (⟨#[]⟩ : ByteArray),.int .u32 ((t116) % 4294967296),.int .i64 0]) ?_ 2 _ rfl;(with_reducible repeat (first|refine blk_drewN ?_ _|refine blk_drew ?_|refine blk_alloc ?_ _));refine blk_put (cs:=#[.string (⟨#[]⟩ : ByteArray),.int .u32 0,.int .i64 0]) ?_ 1 _ rfl;(with_reducible repeat (first|refine blk_drewN ?_ _|refine blk_drew ?_|refine blk_alloc ?_ _));refine blk_put (cs:=#[.string (⟨#[]⟩ : ByteArray),.int .u32 0,.int .i64 0]) ?_ 0 _ rfl;(with_reducible repeat (first|refine blk_drewN ?_ _|refine blk_drew ?_|refine blk_alloc ?_ _));exact BK124.out) NB124_0.out (by simp));have n2_:=Aside0.mk (KeepBut.trans (by repeat (first|(with_reducible first|exact HK.out|apply KeepBut.set_|apply keep_drewN|apply keep_drew|apply keep_alloc|refine keep_far ?_ GW115.out _|refine keep_far ?_ GW124.out _)|exact HK.out)) hk (.inl rfl));have n3_:=Aside0.mk (hb);have n4_:=Aside0.mk (hi);clear BK115;clear BK124;clear HK;clear HB;clear HI0;have BK115:=n0_;have BK124:=n1_;have HK:=n2_;have HB:=n3_;have HI0:=n4_;clear n0_ n1_ n2_ n3_ n4_;(try clear hb);(try clear hb2);(try clear hk);(try clear hi))|((with_reducible refine gate_callee (f:=62) rfl ?_);refine goesL_ (some 15) rfl rfl Try.func62 (by kernel_rfl) rfl #[.pointer (some ⟨g,0,none⟩),.int .i64 t125] rfl (by (try simp only [List.map_toArray,List.map_cons,List.map_nil]);first|done|rfl|(simp only [List.length_drop,List.length_take];rfl)) ?_;(with_reducible refine (raw_Reader_Bytes.calls g t126 t127 t128 t125 t129 t130 t131 t132 w0 _ ?side1 ?side2 A5.out).mono ?_);(case side1=>repeat (first|(with_reducible first|exact HI0.out|apply IsS110.alloc|apply IsS110.drewN|apply IsS110.drew|apply IsS110.set_0|apply IsS110.set_1|apply IsS110.set_2|refine IsS110.far ?_ NB0_115.out _|refine IsS110.far ?_ NB0_124.out _)|exact HI0.out));(case side2=>repeat (first|(with_reducible first|exact HB.out|apply below_alloc|apply pw_below_drewN|apply below_drew1|refine below_set ?_ (IsS110.ge HI0.out)|refine below_set ?_ GE115.out|refine below_set ?_ GE124.out)|exact HB.out));rintro e w14 ⟨rfl,hi,hb,hk⟩;refine ⟨_,rfl,?_⟩;have n0_:=Aside0.mk (KeepBut.blk hk (g':=gb115) (o:=.cells #[.string (⟨#[]⟩ : ByteArray),.int .u32 0,.int .i64 0] 43 (0,0)) (by (with_reducible repeat (first|refine blk_drewN ?_ _|refine blk_drew ?_|refine blk_alloc ?_ _));exact BK115.out) NB115_0.out (by simp));have n1_:=Aside0.mk (KeepBut.blk hk (g':=gb124) (o:=.cells #[.string (⟨#[]⟩ : ByteArray),.int .u32 ((t116) % 4294967296),.int .i64 (wrap64 (t120))] 43 (0,0)) (by (with_reducible repeat (first|refine blk_drewN ?_ _|refine blk_drew ?_|refine blk_alloc ?_ _));exact BK124.out) NB124_0.out (by simp));have n2_:=Aside0.mk (KeepBut.trans (by repeat (first|(with_reducible first|exact HK.out|apply KeepBut.set_|apply keep_drewN|apply keep_drew|apply keep_alloc|refine keep_far ?_ GW115.out _|refine keep_far ?_ GW124.out _)|exact HK.out)) hk (.inl rfl));have n3_:=Aside0.mk (hb);have n4_:=Aside0.mk (hi);clear BK115;clear BK124;clear HK;clear HB;clear HI0;have BK115:=n0_;have BK124:=n1_;have HK:=n2_;have HB:=n3_;have HI0:=n4_;clear n0_ n1_ n2_ n3_ n4_;(try clear hb);(try clear hb2);(try clear hk);(try clear hi);have hcz15_0 : w14.cell? ⟨gb124,0,none⟩=some (.string (⟨#[]⟩ : ByteArray)):=(blk_cell BK124.out 0).trans rfl;have hcz15_1 : w14.cell? ⟨gb124,1,none⟩=some (.int .u32 ((t116) % 4294967296)):=(blk_cell BK124.out 1).trans rfl;have hcz15_2 : w14.cell? ⟨gb124,2,none⟩=some (.int .i64 (wrap64 (t120))):=(blk_cell BK124.out 2).trans rfl;have hfz15_0:=blk_frozen BK124.out 0;have hfz15_1:=blk_frozen BK124.out 1;have hfz15_2:=blk_frozen BK124.out 2;have hnb16:=NB115_0.out;have hnc16:=NB0_115.out;have hcz17_0 : w14.cell? ⟨gb115,0,none⟩=some (.string (⟨#[]⟩ : ByteArray)):=(blk_cell BK115.out 0).trans rfl;have hcz17_1 : w14.cell? ⟨gb115,1,none⟩=some (.int .u32 0):=(blk_cell BK115.out 1).trans rfl;have hcz17_2 : w14.cell? ⟨gb115,2,none⟩=some (.int .i64 0):=(blk_cell BK115.out 2).trans rfl;have hfz17_0:=blk_frozen BK115.out 0;have hfz17_1:=blk_frozen BK115.out 1;have hfz17_2:=blk_frozen BK115.out 2))
 refine bodyPost_ret (results_cell_row rfl _ _ gb115 43 #[.string t129,.int .u32 ((t116) % 4294967296),.int .i64 (wrap64 (t120))] (0,0) _ rfl (by (with_reducible repeat (first|refine blk_drewN ?_ _|refine blk_drew ?_|refine blk_alloc ?_ _));refine blk_put (cs:=#[.string t129,.int .u32 ((t116) % 4294967296),.int .i64 0]) ?_ 2 _ rfl;(with_reducible repeat (first|refine blk_drewN ?_ _|refine blk_drew ?_|refine blk_alloc ?_ _));refine blk_put (cs:=#[.string t129,.int .u32 0,.int .i64 0]) ?_ 1 _ rfl;(with_reducible repeat (first|refine blk_drewN ?_ _|refine blk_drew ?_|refine blk_alloc ?_ _));refine blk_put (cs:=#[.string (⟨#[]⟩ : ByteArray),.int .u32 0,.int .i64 0]) ?_ 0 _ rfl;(with_reducible repeat (first|refine blk_drewN ?_ _|refine blk_drew ?_|refine blk_alloc ?_ _));refine blk_far ?_ NB115_124.out _;(with_reducible repeat (first|refine blk_drewN ?_ _|refine blk_drew ?_|refine blk_alloc ?_ _));exact BK115.out) Try.underlying43 rfl (by kernel_rfl)) rfl ?_
 exact ⟨by first|rfl|(simp [errW_none,errW_some] <;> rfl)|(simp [*,errW_none,errW_some] <;> rfl),by repeat (first|(with_reducible first|exact HI0.out|apply IsS110.alloc|apply IsS110.drewN|apply IsS110.drew|apply IsS110.set_0|apply IsS110.set_1|apply IsS110.set_2|refine IsS110.far ?_ NB0_115.out _|refine IsS110.far ?_ NB0_124.out _)|exact HI0.out),by repeat (first|(with_reducible first|exact HB.out|apply below_alloc|apply pw_below_drewN|apply below_drew1|refine below_set ?_ (IsS110.ge HI0.out)|refine below_set ?_ GE115.out|refine below_set ?_ GE124.out)|exact HB.out),by repeat (first|(with_reducible first|exact HK.out|apply KeepBut.set_|apply keep_drewN|apply keep_drew|apply keep_alloc|refine keep_far ?_ GW115.out _|refine keep_far ?_ GW124.out _)|exact HK.out)⟩
end Go.Proofs.Ytfegabikfkmepaa.PNe
end
section
namespace Go.Proofs.Ytfegabikfkmepaa.PNe
open Go.RowKit Go.Proofs.YtfegabikfkmepaaW.PrintWords Go.Proofs.YtfegabikfkmepaaW.PrintLast Go.Proofs.YtfegabikfkmepaaW.PrintMore
attribute [local go_sem] max2_int min2_int max_two min_two max_three min_three max_four min_four
set_option linter.unusedVariables false
set_option linter.unusedSimpArgs false
def raw_Reader_Bool.j0 : Nat → Int → Int → Bool → ByteArray → Int → Int → Option (Bool × ByteArray × Int × Int)
 | 0,_,_,_,_,_,_=>none
 | k + 1,x3,x4,x25,x1000,x1001,x1002=>if x25=true then (some (false,x1000,x1001,6)) else (if x4=0 then (some ((x3 == 1),x1000,wrap64 (x1001 + 1),x1002)) else (some (false,x1000,x1001,x4)))
def raw_Reader_Bool.f (k : Nat) (s0_0 : ByteArray) (s0_1 : Int) (s0_2 : Int) : Option (Bool × ByteArray × Int × Int):=(raw_Reader_Err.f s0_0 s0_1 s0_2).bind fun bt133=>(if bt133.1=0 then ((raw_Get.f bt133.2.1 bt133.2.2.1 1).bind fun bt137=>(if bt137.2=0 then (raw_Reader_Bool.j0 k bt137.1 bt137.2 (decide (bt137.1 > 1)) bt133.2.1 bt133.2.2.1 bt133.2.2.2) else (raw_Reader_Bool.j0 k bt137.1 bt137.2 false bt133.2.1 bt133.2.2.1 bt133.2.2.2))) else (some (false,bt133.2.1,bt133.2.2.1,bt133.2.2.2)))
set_option maxHeartbeats 8000000 in
set_option maxRecDepth 100000 in
theorem raw_Reader_Bool.calls (k : Nat) (g : Nat) (s0_0 : ByteArray) (s0_1 : Int) (s0_2 : Int) (r1 : Bool) (r2 : ByteArray) (r3 : Int) (r4 : Int) (w0 w : World) (hI : IsS110 w0 w g s0_0 s0_1 s0_2) (hB : Below w0.heap.size w0 w) (h : raw_Reader_Bool.f k s0_0 s0_1 s0_2=some (r1,r2,r3,r4)) :
  Calls Try.prog 47 #[.pointer (some ⟨g,0,none⟩)] w fun e w'=>e=.returned (.bool r1)∧IsS110 w0 w' g r2 r3 r4∧Below w0.heap.size w0 w'∧KeepBut w w' g none:=by
 have HI0:=Aside0.mk hI
 have HK:=Aside0.mk (KeepBut.refl w g none)
 have HL:=Aside0.mk hB.size
 clear hI
 have HW0:=Aside0.mk hB.size
 have HB:=Aside0.mk hB
 clear hB
 have H : ((raw_Reader_Err.f s0_0 s0_1 s0_2).bind fun bt133=>(if bt133.1=0 then ((raw_Get.f bt133.2.1 bt133.2.2.1 1).bind fun bt137=>(if bt137.2=0 then (raw_Reader_Bool.j0 k bt137.1 bt137.2 (decide (bt137.1 > 1)) bt133.2.1 bt133.2.2.1 bt133.2.2.2) else (raw_Reader_Bool.j0 k bt137.1 bt137.2 false bt133.2.1 bt133.2.2.1 bt133.2.2.2))) else (some (false,bt133.2.1,bt133.2.2.1,bt133.2.2.2))))=some (r1,r2,r3,r4):=h
 clear h
 replace H:=Option.bind_eq_some_iff.mp H
 obtain ⟨⟨t133,t134,t135,t136⟩,A20,H⟩:=H
 replace H : (if t133=0 then ((raw_Get.f t134 t135 1).bind fun bt137=>(if bt137.2=0 then (raw_Reader_Bool.j0 k bt137.1 bt137.2 (decide (bt137.1 > 1)) t134 t135 t136) else (raw_Reader_Bool.j0 k bt137.1 bt137.2 false t134 t135 t136))) else (some (false,t134,t135,t136)))=some (r1,r2,r3,r4):=H
 have A2:=Aside0.mk A20
 clear A20
 by_cases c3 : t133=0
 ·rw [if_pos c3] at H
  have c3b0 : (t133 == 0)=true:=beq_iff_eq.mpr c3
  have c3b1 : (t133 != 0)=false:=bne_eq_false_iff_eq.mpr c3
  clear c3
  replace H:=Option.bind_eq_some_iff.mp H
  obtain ⟨⟨t137,t138⟩,A40,H⟩:=H
  replace H : (if t138=0 then (raw_Reader_Bool.j0 k t137 t138 (decide (t137 > 1)) t134 t135 t136) else (raw_Reader_Bool.j0 k t137 t138 false t134 t135 t136))=some (r1,r2,r3,r4):=H
  have A4:=Aside0.mk A40
  clear A40
  have HC5:=Aside0.mk H
  clear H
  go_enter Try.func47,Try.ntmps47
  go_upto_region 4 with (first|(go_at_call 61;(with_reducible refine (raw_Reader_Err.calls g s0_0 s0_1 s0_2 t133 t134 t135 t136 w0 _ ?side1 ?side2 A2.out).mono ?_);(case side1=>repeat (first|(with_reducible first|exact HI0.out|apply IsS110.alloc|apply IsS110.drewN|apply IsS110.drew|apply IsS110.set_0|apply IsS110.set_1|apply IsS110.set_2)|exact HI0.out));(case side2=>repeat (first|(with_reducible first|exact HB.out|apply below_alloc|apply pw_below_drewN|apply below_drew1|refine below_set ?_ (IsS110.ge HI0.out))|exact HB.out));rintro e w6 ⟨rfl,hi,hb,hk⟩;have n0_:=Aside0.mk (KeepBut.trans (by repeat (first|(with_reducible first|exact HK.out|apply KeepBut.set_|apply keep_drewN|apply keep_drew|apply keep_alloc)|exact HK.out)) hk (.inl rfl));have n1_:=Aside0.mk (hb);have n2_:=Aside0.mk (hi);clear HK;clear HB;clear HI0;have HK:=n0_;have HB:=n1_;have HI0:=n2_;clear n0_ n1_ n2_;(try clear hb);(try clear hb2);(try clear hk);(try clear hi);obtain ⟨HGz7,hgz7⟩:=HI0.out;have hcz7_0:=cellS110_0 HGz7;have hcz7_1:=cellS110_1 HGz7;have hcz7_2:=cellS110_2 HGz7;have hfz7_0:=blk_frozen HGz7 0;have hfz7_1:=blk_frozen HGz7 1;have hfz7_2:=blk_frozen HGz7 2;clear HGz7 hgz7)|(go_at_call 39;(with_reducible refine (raw_Get.calls t134 t135 1 t137 t138 _ A4.out).mono ?_);rintro e w' ⟨rfl,⟨nd,rfl⟩⟩;(try first|exact ⟨rfl,_,World.drewN_drewN _ _ _⟩|exact ⟨rfl,_,Eq.trans (World.drewN_drewN _ _ _) (congrArg (World.drewN _) (Nat.add_assoc _ _ _))⟩)))
  repeat (go_quiet (first|(go_at_call 61;(with_reducible refine (raw_Reader_Err.calls g s0_0 s0_1 s0_2 t133 t134 t135 t136 w0 _ ?side1 ?side2 A2.out).mono ?_);(case side1=>repeat (first|(with_reducible first|exact HI0.out|apply IsS110.alloc|apply IsS110.drewN|apply IsS110.drew|apply IsS110.set_0|apply IsS110.set_1|apply IsS110.set_2)|exact HI0.out));(case side2=>repeat (first|(with_reducible first|exact HB.out|apply below_alloc|apply pw_below_drewN|apply below_drew1|refine below_set ?_ (IsS110.ge HI0.out))|exact HB.out));rintro e w6 ⟨rfl,hi,hb,hk⟩;have n0_:=Aside0.mk (KeepBut.trans (by repeat (first|(with_reducible first|exact HK.out|apply KeepBut.set_|apply keep_drewN|apply keep_drew|apply keep_alloc)|exact HK.out)) hk (.inl rfl));have n1_:=Aside0.mk (hb);have n2_:=Aside0.mk (hi);clear HK;clear HB;clear HI0;have HK:=n0_;have HB:=n1_;have HI0:=n2_;clear n0_ n1_ n2_;(try clear hb);(try clear hb2);(try clear hk);(try clear hi);obtain ⟨HGz7,hgz7⟩:=HI0.out;have hcz7_0:=cellS110_0 HGz7;have hcz7_1:=cellS110_1 HGz7;have hcz7_2:=cellS110_2 HGz7;have hfz7_0:=blk_frozen HGz7 0;have hfz7_1:=blk_frozen HGz7 1;have hfz7_2:=blk_frozen HGz7 2;clear HGz7 hgz7)|(go_at_call 39;(with_reducible refine (raw_Get.calls t134 t135 1 t137 t138 _ A4.out).mono ?_);rintro e w' ⟨rfl,⟨nd,rfl⟩⟩;(try first|exact ⟨rfl,_,World.drewN_drewN _ _ _⟩|exact ⟨rfl,_,Eq.trans (World.drewN_drewN _ _ _) (congrArg (World.drewN _) (Nat.add_assoc _ _ _))⟩)));go_upto_region 4 with (first|(go_at_call 61;(with_reducible refine (raw_Reader_Err.calls g s0_0 s0_1 s0_2 t133 t134 t135 t136 w0 _ ?side1 ?side2 A2.out).mono ?_);(case side1=>repeat (first|(with_reducible first|exact HI0.out|apply IsS110.alloc|apply IsS110.drewN|apply IsS110.drew|apply IsS110.set_0|apply IsS110.set_1|apply IsS110.set_2)|exact HI0.out));(case side2=>repeat (first|(with_reducible first|exact HB.out|apply below_alloc|apply pw_below_drewN|apply below_drew1|refine below_set ?_ (IsS110.ge HI0.out))|exact HB.out));rintro e w6 ⟨rfl,hi,hb,hk⟩;have n0_:=Aside0.mk (KeepBut.trans (by repeat (first|(with_reducible first|exact HK.out|apply KeepBut.set_|apply keep_drewN|apply keep_drew|apply keep_alloc)|exact HK.out)) hk (.inl rfl));have n1_:=Aside0.mk (hb);have n2_:=Aside0.mk (hi);clear HK;clear HB;clear HI0;have HK:=n0_;have HB:=n1_;have HI0:=n2_;clear n0_ n1_ n2_;(try clear hb);(try clear hb2);(try clear hk);(try clear hi);obtain ⟨HGz7,hgz7⟩:=HI0.out;have hcz7_0:=cellS110_0 HGz7;have hcz7_1:=cellS110_1 HGz7;have hcz7_2:=cellS110_2 HGz7;have hfz7_0:=blk_frozen HGz7 0;have hfz7_1:=blk_frozen HGz7 1;have hfz7_2:=blk_frozen HGz7 2;clear HGz7 hgz7)|(go_at_call 39;(with_reducible refine (raw_Get.calls t134 t135 1 t137 t138 _ A4.out).mono ?_);rintro e w' ⟨rfl,⟨nd,rfl⟩⟩;(try first|exact ⟨rfl,_,World.drewN_drewN _ _ _⟩|exact ⟨rfl,_,Eq.trans (World.drewN_drewN _ _ _) (congrArg (World.drewN _) (Nat.add_assoc _ _ _))⟩))))
  (try simp only [Act.put,sA_,sB_,sC_])
  go_cut [25] (fun v25 wc=>∃ (kq : Nat) (x25_4 : Bool),v25=.bool x25_4∧Aside0 (raw_Reader_Bool.j0 kq t137 t138 x25_4 t134 t135 t136=some (r1,r2,r3,r4))∧Aside0 (kq≤k)∧Aside0 (IsS110 w0 wc g t134 t135 t136)∧Aside0 (KeepBut w wc g none)∧Aside0 (Below w0.heap.size w0 wc))
  case first =>
   have H:=HC5.out
   clear HC5
   by_cases c8 : t138=0
   ·rw [if_pos c8] at H
    have c8b0 : (t138 == 0)=true:=beq_iff_eq.mpr c8
    have c8b1 : (t138 != 0)=false:=bne_eq_false_iff_eq.mpr c8
    clear c8
    (first|rw [c8b0]|(simp only [i64_w,i32_w];rw [c8b0])|skip)
    have H':=Aside0.mk H
    clear H
    go_wp2
    repeat (go_quiet (fail);try go_wp2)
    go_meet
    case rel=>exact ⟨_,(decide (t137 > 1)),(by first|rfl|(simp;done)|(simp [*];done)),H',⟨by first|omega|exact Nat.le_refl _⟩,⟨by repeat (first|(with_reducible first|exact HI0.out|apply IsS110.alloc|apply IsS110.drewN|apply IsS110.drew|apply IsS110.set_0|apply IsS110.set_1|apply IsS110.set_2)|exact HI0.out)⟩,⟨by repeat (first|(with_reducible first|exact HK.out|apply KeepBut.set_|apply keep_drewN|apply keep_drew|apply keep_alloc)|exact HK.out)⟩,⟨by repeat (first|(with_reducible first|exact HB.out|apply below_alloc|apply pw_below_drewN|apply below_drew1|refine below_set ?_ (IsS110.ge HI0.out))|exact HB.out)⟩⟩
   ·rw [if_neg c8] at H
    have c8b0 : (t138 == 0)=false:=beq_eq_false_iff_ne.mpr c8
    have c8b1 : (t138 != 0)=true:=bne_iff_ne.mpr c8
    (first|rw [c8b0]|(simp only [i64_w,i32_w];rw [c8b0])|skip)
    have H':=Aside0.mk H
    clear H
    go_wp2
    repeat (go_quiet (fail);try go_wp2)
    go_meet
    case rel=>exact ⟨_,(false),(by first|rfl|(simp;done)|(simp [*];done)),H',⟨by first|omega|exact Nat.le_refl _⟩,⟨by repeat (first|(with_reducible first|exact HI0.out|apply IsS110.alloc|apply IsS110.drewN|apply IsS110.drew|apply IsS110.set_0|apply IsS110.set_1|apply IsS110.set_2)|exact HI0.out)⟩,⟨by repeat (first|(with_reducible first|exact HK.out|apply KeepBut.set_|apply keep_drewN|apply keep_drew|apply keep_alloc)|exact HK.out)⟩,⟨by repeat (first|(with_reducible first|exact HB.out|apply below_alloc|apply pw_below_drewN|apply below_drew1|refine below_set ?_ (IsS110.ge HI0.out))|exact HB.out)⟩⟩
  case rest =>
   clear HC5
   try clear p2
   try clear c3
   try clear c3b0
   try clear c3b1
   try clear c4
   try clear c8
   try clear c8b0
   try clear c8b1
   try clear hcz7_0
   try clear hcz7_1
   try clear hcz7_2
   try clear hfz7_0
   try clear hfz7_1
   try clear hfz7_2
   obtain ⟨kq,x25_4,rfl,HA,HJ4,HI0,HK,HB⟩:=hcut
   cases kq with
   | zero=>exact absurd HA.out (by simp [raw_Reader_Bool.j0])
   | succ kj4 =>
    have H:=HA.out
    clear HA
    simp only [raw_Reader_Bool.j0] at H
    by_cases c9 : x25_4=true
    ·subst c9
     have H1 : (some (false,t134,t135,6))=some (r1,r2,r3,r4):=by rw [if_pos rfl] at H;exact H
     clear H
     have H:=H1
     clear H1
     simp only [Option.some.injEq,Prod.mk.injEq] at H
     obtain ⟨rfl,rfl,rfl,rfl⟩:=H
     obtain ⟨HGz10,hgz10⟩:=HI0.out
     have hcz10_0:=cellS110_0 HGz10
     have hcz10_1:=cellS110_1 HGz10
     have hcz10_2:=cellS110_2 HGz10
     have hfz10_0:=blk_frozen HGz10 0
     have hfz10_1:=blk_frozen HGz10 1
     have hfz10_2:=blk_frozen HGz10 2
     clear HGz10 hgz10
     go_wp2
     repeat (go_quiet (fail);try go_wp2)
     go_ret
     exact ⟨by first|rfl|(simp [errW_none,errW_some] <;> rfl)|(simp [*,errW_none,errW_some] <;> rfl),by repeat (first|(with_reducible first|exact HI0.out|apply IsS110.alloc|apply IsS110.drewN|apply IsS110.drew|apply IsS110.set_0|apply IsS110.set_1|apply IsS110.set_2)|exact HI0.out),by repeat (first|(with_reducible first|exact HB.out|apply below_alloc|apply pw_below_drewN|apply below_drew1|refine below_set ?_ (IsS110.ge HI0.out))|exact HB.out),by repeat (first|(with_reducible first|exact HK.out|apply KeepBut.set_|apply keep_drewN|apply keep_drew|apply keep_alloc)|exact HK.out)⟩
    ·replace c9:=Bool.eq_false_iff.mpr c9
     subst c9
     have H1 : (if t138=0 then (some ((t137 == 1),t134,wrap64 (t135 + 1),t136)) else (some (false,t134,t135,t138)))=some (r1,r2,r3,r4):=by rw [if_neg (show ¬ (false=true) by decide)] at H;exact H
     clear H
     have H:=H1
     clear H1
     by_cases c11 : t138=0
     ·rw [if_pos c11] at H
      have c11b0 : (t138 == 0)=true:=beq_iff_eq.mpr c11
      have c11b1 : (t138 != 0)=false:=bne_eq_false_iff_eq.mpr c11
      clear c11
      simp only [Option.some.injEq,Prod.mk.injEq] at H
      obtain ⟨rfl,rfl,rfl,rfl⟩:=H
      obtain ⟨HGz12,hgz12⟩:=HI0.out
      have hcz12_0:=cellS110_0 HGz12
      have hcz12_1:=cellS110_1 HGz12
      have hcz12_2:=cellS110_2 HGz12
      have hfz12_0:=blk_frozen HGz12 0
      have hfz12_1:=blk_frozen HGz12 1
      have hfz12_2:=blk_frozen HGz12 2
      clear HGz12 hgz12
      go_wp2
      repeat (go_quiet (fail);try go_wp2)
      go_ret
      exact ⟨by first|rfl|(simp [errW_none,errW_some] <;> rfl)|(simp [*,errW_none,errW_some] <;> rfl),by repeat (first|(with_reducible first|exact HI0.out|apply IsS110.alloc|apply IsS110.drewN|apply IsS110.drew|apply IsS110.set_0|apply IsS110.set_1|apply IsS110.set_2)|exact HI0.out),by repeat (first|(with_reducible first|exact HB.out|apply below_alloc|apply pw_below_drewN|apply below_drew1|refine below_set ?_ (IsS110.ge HI0.out))|exact HB.out),by repeat (first|(with_reducible first|exact HK.out|apply KeepBut.set_|apply keep_drewN|apply keep_drew|apply keep_alloc)|exact HK.out)⟩
     ·rw [if_neg c11] at H
      have c11b0 : (t138 == 0)=false:=beq_eq_false_iff_ne.mpr c11
      have c11b1 : (t138 != 0)=true:=bne_iff_ne.mpr c11
      simp only [Option.some.injEq,Prod.mk.injEq] at H
      obtain ⟨rfl,rfl,rfl,rfl⟩:=H
      obtain ⟨HGz13,hgz13⟩:=HI0.out
      have hcz13_0:=cellS110_0 HGz13
      have hcz13_1:=cellS110_1 HGz13
      have hcz13_2:=cellS110_2 HGz13
      have hfz13_0:=blk_frozen HGz13 0
      have hfz13_1:=blk_frozen HGz13 1
      have hfz13_2:=blk_frozen HGz13 2
      clear HGz13 hgz13
      go_wp2
      repeat (go_quiet (fail);try go_wp2)
      go_ret
      exact ⟨by first|rfl|(simp [errW_none,errW_some] <;> rfl)|(simp [*,errW_none,errW_some] <;> rfl),by repeat (first|(with_reducible first|exact HI0.out|apply IsS110.alloc|apply IsS110.drewN|apply IsS110.drew|apply IsS110.set_0|apply IsS110.set_1|apply IsS110.set_2)|exact HI0.out),by repeat (first|(with_reducible first|exact HB.out|apply below_alloc|apply pw_below_drewN|apply below_drew1|refine below_set ?_ (IsS110.ge HI0.out))|exact HB.out),by repeat (first|(with_reducible first|exact HK.out|apply KeepBut.set_|apply keep_drewN|apply keep_drew|apply keep_alloc)|exact HK.out)⟩
 ·rw [if_neg c3] at H
  have c3b0 : (t133 == 0)=false:=beq_eq_false_iff_ne.mpr c3
  have c3b1 : (t133 != 0)=true:=bne_iff_ne.mpr c3
  simp only [Option.some.injEq,Prod.mk.injEq] at H
  obtain ⟨rfl,rfl,rfl,rfl⟩:=H
  go_enter Try.func47,Try.ntmps47
  go_wp2_with (first|(go_at_call 61;(with_reducible refine (raw_Reader_Err.calls g s0_0 s0_1 s0_2 t133 t134 t135 t136 w0 _ ?side1 ?side2 A2.out).mono ?_);(case side1=>repeat (first|(with_reducible first|exact HI0.out|apply IsS110.alloc|apply IsS110.drewN|apply IsS110.drew|apply IsS110.set_0|apply IsS110.set_1|apply IsS110.set_2)|exact HI0.out));(case side2=>repeat (first|(with_reducible first|exact HB.out|apply below_alloc|apply pw_below_drewN|apply below_drew1|refine below_set ?_ (IsS110.ge HI0.out))|exact HB.out));rintro e w14 ⟨rfl,hi,hb,hk⟩;have n0_:=Aside0.mk (KeepBut.trans (by repeat (first|(with_reducible first|exact HK.out|apply KeepBut.set_|apply keep_drewN|apply keep_drew|apply keep_alloc)|exact HK.out)) hk (.inl rfl));have n1_:=Aside0.mk (hb);have n2_:=Aside0.mk (hi);clear HK;clear HB;clear HI0;have HK:=n0_;have HB:=n1_;have HI0:=n2_;clear n0_ n1_ n2_;(try clear hb);(try clear hb2);(try clear hk);(try clear hi)))
  repeat (go_quiet (first|(go_at_call 61;(with_reducible refine (raw_Reader_Err.calls g s0_0 s0_1 s0_2 t133 t134 t135 t136 w0 _ ?side1 ?side2 A2.out).mono ?_);(case side1=>repeat (first|(with_reducible first|exact HI0.out|apply IsS110.alloc|apply IsS110.drewN|apply IsS110.drew|apply IsS110.set_0|apply IsS110.set_1|apply IsS110.set_2)|exact HI0.out));(case side2=>repeat (first|(with_reducible first|exact HB.out|apply below_alloc|apply pw_below_drewN|apply below_drew1|refine below_set ?_ (IsS110.ge HI0.out))|exact HB.out));rintro e w14 ⟨rfl,hi,hb,hk⟩;have n0_:=Aside0.mk (KeepBut.trans (by repeat (first|(with_reducible first|exact HK.out|apply KeepBut.set_|apply keep_drewN|apply keep_drew|apply keep_alloc)|exact HK.out)) hk (.inl rfl));have n1_:=Aside0.mk (hb);have n2_:=Aside0.mk (hi);clear HK;clear HB;clear HI0;have HK:=n0_;have HB:=n1_;have HI0:=n2_;clear n0_ n1_ n2_;(try clear hb);(try clear hb2);(try clear hk);(try clear hi)));try go_wp2_with (first|(go_at_call 61;(with_reducible refine (raw_Reader_Err.calls g s0_0 s0_1 s0_2 t133 t134 t135 t136 w0 _ ?side1 ?side2 A2.out).mono ?_);(case side1=>repeat (first|(with_reducible first|exact HI0.out|apply IsS110.alloc|apply IsS110.drewN|apply IsS110.drew|apply IsS110.set_0|apply IsS110.set_1|apply IsS110.set_2)|exact HI0.out));(case side2=>repeat (first|(with_reducible first|exact HB.out|apply below_alloc|apply pw_below_drewN|apply below_drew1|refine below_set ?_ (IsS110.ge HI0.out))|exact HB.out));rintro e w14 ⟨rfl,hi,hb,hk⟩;have n0_:=Aside0.mk (KeepBut.trans (by repeat (first|(with_reducible first|exact HK.out|apply KeepBut.set_|apply keep_drewN|apply keep_drew|apply keep_alloc)|exact HK.out)) hk (.inl rfl));have n1_:=Aside0.mk (hb);have n2_:=Aside0.mk (hi);clear HK;clear HB;clear HI0;have HK:=n0_;have HB:=n1_;have HI0:=n2_;clear n0_ n1_ n2_;(try clear hb);(try clear hb2);(try clear hk);(try clear hi))))
  go_ret
  exact ⟨by first|rfl|(simp [errW_none,errW_some] <;> rfl)|(simp [*,errW_none,errW_some] <;> rfl),by repeat (first|(with_reducible first|exact HI0.out|apply IsS110.alloc|apply IsS110.drewN|apply IsS110.drew|apply IsS110.set_0|apply IsS110.set_1|apply IsS110.set_2)|exact HI0.out),by repeat (first|(with_reducible first|exact HB.out|apply below_alloc|apply pw_below_drewN|apply below_drew1|refine below_set ?_ (IsS110.ge HI0.out))|exact HB.out),by repeat (first|(with_reducible first|exact HK.out|apply KeepBut.set_|apply keep_drewN|apply keep_drew|apply keep_alloc)|exact HK.out)⟩
end Go.Proofs.Ytfegabikfkmepaa.PNe
end
section
namespace Go.Proofs.Ytfegabikfkmepaa.PNe
open Go.RowKit Go.Proofs.YtfegabikfkmepaaW.PrintWords Go.Proofs.YtfegabikfkmepaaW.PrintLast Go.Proofs.YtfegabikfkmepaaW.PrintMore
attribute [local go_sem] max2_int min2_int max_two min_two max_three min_three max_four min_four
set_option linter.unusedVariables false
set_option linter.unusedSimpArgs false
mutual
def node_Leaf.j0 : Nat → Bool → Int → Int → Int → ByteArray → List ByteArray → Option ((List (S47)) × Int)
 | 0,_,_,_,_,_,_=>none
 | k + 1,x17,x140000,x140001,x140002,x140003,x140004=>if x17=true then (some (([] : List (S47)),120)) else (node_Leaf.l0 k ([] : List (S47)) x140004 (x140004.length : Int) 0)
def node_Leaf.l0 : Nat → List (S47) → List ByteArray → Int → Int → Option ((List (S47)) × Int)
 | 0,_,_,_,_=>none
 | k + 1,x4,x19,x20,x21=>if x21 < x20 then (if 0≤x21 then (if x21 < (x19.length : Int) then (if ((rdOf ByteArray.empty x19 x21).size : Int) < 7 then (node_Leaf.j2 k x4 (rdOf ByteArray.empty x19 x21) x19 x20 x21 true) else (if 0 < ((rdOf ByteArray.empty x19 x21).size : Int) then (node_Leaf.j2 k x4 (rdOf ByteArray.empty x19 x21) x19 x20 x21 (decide ((bt (rdOf ByteArray.empty x19 x21) 0) > 1))) else (none))) else (none)) else (none)) else (some (x4,0))
def node_Leaf.j2 : Nat → List (S47) → ByteArray → List ByteArray → Int → Int → Bool → Option ((List (S47)) × Int)
 | 0,_,_,_,_,_,_=>none
 | k + 1,x4,x6,x19,x20,x21,x32=>if x32=true then (some (([] : List (S47)),120)) else ((raw_NewReader.f x6).bind fun bt141=>((raw_Reader_Bool.f k bt141.1 bt141.2.1 bt141.2.2).bind fun bt145=>((node_take.f bt145.2.1 bt145.2.2.1 bt145.2.2.2).bind fun bt150=>(if x4.length < 3518437208883 then (node_Leaf.l0 k (x4 ++ [(⟨(⟨bt150.1,(⟨bt150.2.1,bt150.2.2.1⟩ : S41)⟩ : S43),bt145.1⟩ : S47)]) x19 x20 (wrap64 (x21 + 1))) else (none)))))
end
def node_Leaf.f (k : Nat) (a0_0 : Int) (a0_1 : Int) (a0_2 : Int) (a0_3 : ByteArray) (l0_4 : List ByteArray) : Option ((List (S47)) × Int):=if a0_2=3 then (node_Leaf.j0 k ((a0_3.size : Int) != 4) a0_0 a0_1 a0_2 a0_3 l0_4) else (node_Leaf.j0 k true a0_0 a0_1 a0_2 a0_3 l0_4)
set_option maxHeartbeats 8000000 in
set_option maxRecDepth 100000 in
theorem node_Leaf.calls (k : Nat) (a0_0 : Int) (a0_1 : Int) (a0_2 : Int) (a0_3 : ByteArray) (A0_4 : Option Addr) (c0_4 : Nat) (l0_4 : List ByteArray) (r1 : List (S47)) (r2 : Int) (w : World) (hr0_4 : Kd.C Kd.string w A0_4 l0_4.length l0_4) (hc0_4 : l0_4.length≤c0_4) (h : node_Leaf.f k a0_0 a0_1 a0_2 a0_3 l0_4=some (r1,r2)) :
  Calls Try.prog 31 #[.agg #[.int .u32 a0_0,.int .u64 a0_1,.int .i64 a0_2,.string a0_3,.slice A0_4 l0_4.length c0_4]] w fun e w'=>∃ v0_ : Value,e=.returned (.tuple #[v0_,.int .i64 r2])∧Kd.R k47 47 w' w.heap.size (fun _=>True) v0_ r1∧Below w.heap.size w w':=by
 have hu28:=Try.underlying28
 have hu47:=Try.underlying47
 have hu43:=Try.underlying43
 have HR0_4:=Aside0.mk hr0_4
 have HC0_4:=Aside0.mk hc0_4
 clear hr0_4 hc0_4
 have HB:=Aside0.mk (Below.refl w.heap.size w)
 have H : (if a0_2=3 then (node_Leaf.j0 k ((a0_3.size : Int) != 4) a0_0 a0_1 a0_2 a0_3 l0_4) else (node_Leaf.j0 k true a0_0 a0_1 a0_2 a0_3 l0_4))=some (r1,r2):=h
 clear h
 have HC2:=Aside0.mk H
 clear H
 go_enter Try.func31,Try.ntmps31
 go_upto_region 1 with (first|((with_reducible refine gate_dst (N:=1) rfl ?_);(try (refine gate_guard (by rfl) ?_;dsimp only));refine box_event ?hg (N:=1) ?hd (cs:=#[.int .u32 a0_0,.int .u64 a0_1,.int .i64 a0_2,.string a0_3,.slice A0_4 l0_4.length c0_4]) (t:=28) ?hr ?_;(case hd=>rfl);(case hg=>rfl);(case hr=>first|(go_simp;done)|(go_simp;rfl));intro gb139 hg w3 hbox hb;have n0_:=Aside0.mk (below_step (by repeat (first|(with_reducible first|exact HB.out|apply below_alloc|apply pw_below_drewN|apply below_drew1)|exact HB.out)) hb);have n1_:=Aside0.mk (hbox);have n2_:=Aside0.mk ((by rw [hg];exact (below_size (by repeat (first|(with_reducible first|exact HB.out|apply below_alloc|apply pw_below_drewN|apply below_drew1)|exact HB.out))) : w.heap.size≤gb139));have n3_:=Aside0.mk ((by rw [hg];exact (below_size (by repeat (first|(with_reducible first|exact HB.out|apply below_alloc|apply pw_below_drewN|apply below_drew1)|exact HB.out))) : w.heap.size≤gb139));clear HB;have HB:=n0_;have BK139:=n1_;have GW139:=n2_;have GE139:=n3_;clear n0_ n1_ n2_ n3_;clear hb hbox hg))
 (try simp only [Act.put,sA_,sB_,sC_])
 go_cut [17] (fun v17 wc=>∃ (kq : Nat) (x17_1 : Bool),v17=.bool x17_1∧Aside0 (node_Leaf.j0 kq x17_1 a0_0 a0_1 a0_2 a0_3 l0_4=some (r1,r2))∧Aside0 (kq≤k)∧Aside0 (wc.heap[gb139]?=some (.cells #[.int .u32 a0_0,.int .u64 a0_1,.int .i64 a0_2,.string a0_3,(.slice A0_4 l0_4.length c0_4)] 28 (0,0)))∧Aside0 (Below w.heap.size w wc))
 case first =>
  have H:=HC2.out
  clear HC2
  by_cases c4 : a0_2=3
  ·rw [if_pos c4] at H
   have c4b0 : (a0_2 == 3)=true:=beq_iff_eq.mpr c4
   have c4b1 : (a0_2 != 3)=false:=bne_eq_false_iff_eq.mpr c4
   clear c4
   (first|rw [c4b0]|(simp only [i64_w,i32_w];rw [c4b0])|skip)
   have H':=Aside0.mk H
   clear H
   have hcz5_0 : w3.cell? ⟨gb139,0,none⟩=some (.int .u32 a0_0):=(blk_cell BK139.out 0).trans rfl
   have hcz5_1 : w3.cell? ⟨gb139,1,none⟩=some (.int .u64 a0_1):=(blk_cell BK139.out 1).trans rfl
   have hcz5_2 : w3.cell? ⟨gb139,2,none⟩=some (.int .i64 a0_2):=(blk_cell BK139.out 2).trans rfl
   have hcz5_3 : w3.cell? ⟨gb139,3,none⟩=some (.string a0_3):=(blk_cell BK139.out 3).trans rfl
   have hcz5_4 : w3.cell? ⟨gb139,4,none⟩=some (.slice A0_4 l0_4.length c0_4):=(blk_cell BK139.out 4).trans rfl
   have hfz5_0:=blk_frozen BK139.out 0
   have hfz5_1:=blk_frozen BK139.out 1
   have hfz5_2:=blk_frozen BK139.out 2
   have hfz5_3:=blk_frozen BK139.out 3
   have hfz5_4:=blk_frozen BK139.out 4
   go_wp2
   go_meet
   case rel=>exact ⟨_,(((a0_3.size : Int) != 4)),(by first|rfl|(simp;done)|(simp [*];done)),H',⟨by first|omega|exact Nat.le_refl _⟩,⟨by (with_reducible repeat (first|refine blk_drewN ?_ _|refine blk_drew ?_|refine blk_alloc ?_ _));exact BK139.out⟩,⟨by repeat (first|(with_reducible first|exact HB.out|apply below_alloc|apply pw_below_drewN|apply below_drew1|refine below_set ?_ GE139.out)|exact HB.out)⟩⟩
  ·rw [if_neg c4] at H
   have c4b0 : (a0_2 == 3)=false:=beq_eq_false_iff_ne.mpr c4
   have c4b1 : (a0_2 != 3)=true:=bne_iff_ne.mpr c4
   (first|rw [c4b0]|(simp only [i64_w,i32_w];rw [c4b0])|skip)
   have H':=Aside0.mk H
   clear H
   have hcz6_0 : w3.cell? ⟨gb139,0,none⟩=some (.int .u32 a0_0):=(blk_cell BK139.out 0).trans rfl
   have hcz6_1 : w3.cell? ⟨gb139,1,none⟩=some (.int .u64 a0_1):=(blk_cell BK139.out 1).trans rfl
   have hcz6_2 : w3.cell? ⟨gb139,2,none⟩=some (.int .i64 a0_2):=(blk_cell BK139.out 2).trans rfl
   have hcz6_3 : w3.cell? ⟨gb139,3,none⟩=some (.string a0_3):=(blk_cell BK139.out 3).trans rfl
   have hcz6_4 : w3.cell? ⟨gb139,4,none⟩=some (.slice A0_4 l0_4.length c0_4):=(blk_cell BK139.out 4).trans rfl
   have hfz6_0:=blk_frozen BK139.out 0
   have hfz6_1:=blk_frozen BK139.out 1
   have hfz6_2:=blk_frozen BK139.out 2
   have hfz6_3:=blk_frozen BK139.out 3
   have hfz6_4:=blk_frozen BK139.out 4
   go_wp2
   go_meet
   case rel=>exact ⟨_,(true),(by first|rfl|(simp;done)|(simp [*];done)),H',⟨by first|omega|exact Nat.le_refl _⟩,⟨by (with_reducible repeat (first|refine blk_drewN ?_ _|refine blk_drew ?_|refine blk_alloc ?_ _));exact BK139.out⟩,⟨by repeat (first|(with_reducible first|exact HB.out|apply below_alloc|apply pw_below_drewN|apply below_drew1|refine below_set ?_ GE139.out)|exact HB.out)⟩⟩
 case rest =>
  clear HC2
  try clear p2
  try clear c3
  try clear c4
  try clear c4b0
  try clear c4b1
  try clear hcz5_0
  try clear hcz5_1
  try clear hcz5_2
  try clear hcz5_3
  try clear hcz5_4
  try clear hcz6_0
  try clear hcz6_1
  try clear hcz6_2
  try clear hcz6_3
  try clear hcz6_4
  try clear hfz5_0
  try clear hfz5_1
  try clear hfz5_2
  try clear hfz5_3
  try clear hfz5_4
  try clear hfz6_0
  try clear hfz6_1
  try clear hfz6_2
  try clear hfz6_3
  try clear hfz6_4
  obtain ⟨kq,x17_1,rfl,HA,HJ1,BK139,HB⟩:=hcut
  cases kq with
  | zero=>exact absurd HA.out (by simp [node_Leaf.j0])
  | succ kj1 =>
   have H:=HA.out
   clear HA
   simp only [node_Leaf.j0] at H
   by_cases c7 : x17_1=true
   ·subst c7
    have H1 : (some (([] : List (S47)),120))=some (r1,r2):=by rw [if_pos rfl] at H;exact H
    clear H
    have H:=H1
    clear H1
    simp only [Option.some.injEq,Prod.mk.injEq] at H
    obtain ⟨rfl,rfl⟩:=H
    go_wp2
    go_ret2
    exact ⟨_,by first|rfl|(simp [errW_none,errW_some] <;> rfl)|(simp [*,errW_none,errW_some] <;> rfl),by first|exact Kd.R_nil _ _ _ _ _|exact Kd.N_nil _ _ _ _ _|exact Kd.V_nil _ _ _ _ _|exact Kd.Q_nil _ _ _ _ _|exact Kd.S_nil _ _ _ _ _,by repeat (first|(with_reducible first|exact HB.out|apply below_alloc|apply pw_below_drewN|apply below_drew1|refine below_set ?_ GE139.out)|exact HB.out)⟩
   ·replace c7:=Bool.eq_false_iff.mpr c7
    subst c7
    have H1 : (node_Leaf.l0 kj1 ([] : List (S47)) l0_4 (l0_4.length : Int) 0)=some (r1,r2):=by rw [if_neg (show ¬ (false=true) by decide)] at H;exact H
    clear H
    have H:=H1
    clear H1
    have H':=Aside0.mk H
    clear H
    have hcz8_0 : wc.cell? ⟨gb139,0,none⟩=some (.int .u32 a0_0):=(blk_cell BK139.out 0).trans rfl
    have hcz8_1 : wc.cell? ⟨gb139,1,none⟩=some (.int .u64 a0_1):=(blk_cell BK139.out 1).trans rfl
    have hcz8_2 : wc.cell? ⟨gb139,2,none⟩=some (.int .i64 a0_2):=(blk_cell BK139.out 2).trans rfl
    have hcz8_3 : wc.cell? ⟨gb139,3,none⟩=some (.string a0_3):=(blk_cell BK139.out 3).trans rfl
    have hcz8_4 : wc.cell? ⟨gb139,4,none⟩=some (.slice A0_4 l0_4.length c0_4):=(blk_cell BK139.out 4).trans rfl
    have hfz8_0:=blk_frozen BK139.out 0
    have hfz8_1:=blk_frozen BK139.out 1
    have hfz8_2:=blk_frozen BK139.out 2
    have hfz8_3:=blk_frozen BK139.out 3
    have hfz8_4:=blk_frozen BK139.out 4
    go_wp2
    go_loopg [4,21] kj1 (fun kq v4 v21 w'=>∃ (x4_2 : List (S47)) (x21_2 : Int),v21=.int .i64 x21_2∧Aside0 (node_Leaf.l0 kq x4_2 l0_4 (l0_4.length : Int) x21_2=some (r1,r2))∧Aside0 (kq≤kj1)∧Aside0 (Kd.R k47 47 w' w.heap.size (fun _=>True) v4 x4_2)∧Aside0 (w'.heap[gb139]?=some (.cells #[.int .u32 a0_0,.int .u64 a0_1,.int .i64 a0_2,.string a0_3,(.slice A0_4 l0_4.length c0_4)] 28 (0,0)))∧Aside0 (Below w.heap.size w w'))
    case atStart=>exact ⟨(([] : List (S47))),(0),(by first|rfl|(simp;done)|(simp [*];done)),H',⟨Nat.le_refl _⟩,⟨by first|exact Kd.R_nil _ _ _ _ _|exact Kd.N_nil _ _ _ _ _|exact Kd.V_nil _ _ _ _ _|exact Kd.Q_nil _ _ _ _ _|exact Kd.S_nil _ _ _ _ _⟩,⟨by (with_reducible repeat (first|refine blk_drewN ?_ _|refine blk_drew ?_|refine blk_alloc ?_ _));exact BK139.out⟩,⟨by repeat (first|(with_reducible first|exact HB.out|apply below_alloc|apply pw_below_drewN|apply below_drew1|refine below_set ?_ GE139.out)|exact HB.out)⟩⟩
    case round =>
     clear H'
     try clear p2
     try clear c3
     try clear c4
     try clear c4b0
     try clear c4b1
     try clear c7
     try clear hcz5_0
     try clear hcz5_1
     try clear hcz5_2
     try clear hcz5_3
     try clear hcz5_4
     try clear hcz6_0
     try clear hcz6_1
     try clear hcz6_2
     try clear hcz6_3
     try clear hcz6_4
     try clear hcz8_0
     try clear hcz8_1
     try clear hcz8_2
     try clear hcz8_3
     try clear hcz8_4
     try clear hfz5_0
     try clear hfz5_1
     try clear hfz5_2
     try clear hfz5_3
     try clear hfz5_4
     try clear hfz6_0
     try clear hfz6_1
     try clear hfz6_2
     try clear hfz6_3
     try clear hfz6_4
     try clear hfz8_0
     try clear hfz8_1
     try clear hfz8_2
     try clear hfz8_3
     try clear hfz8_4
     try clear p2
     obtain ⟨x4_2,x21_2,rfl,HA,HK2,HO_4,BK139,HB⟩:=hrel
     cases gk with
     | zero=>exact absurd HA.out (by simp [node_Leaf.l0])
     | succ k2 =>
      have H:=HA.out
      clear HA
      simp only [node_Leaf.l0] at H
      by_cases c9 : x21_2 < (l0_4.length : Int)
      ·rw [if_pos c9] at H
       have c9b0 : decide (x21_2 < (l0_4.length : Int))=true:=decide_eq_true c9
       clear c9
       by_cases c10 : 0≤x21_2
       ·rw [if_pos c10] at H
        have c10b0 : decide (0≤x21_2)=true:=decide_eq_true c10
        clear c10
        by_cases c11 : x21_2 < (l0_4.length : Int)
        ·rw [if_pos c11] at H
         have c11b0 : decide (x21_2 < (l0_4.length : Int))=true:=decide_eq_true c11
         clear c11
         have HC12:=Aside0.mk H
         clear H
         have p140 : 0≤(x21_2 : Int):=of_decide_eq_true (by first|(with_reducible assumption)|assumption)
         have q140 : x21_2 < (l0_4.length : Int):=of_decide_eq_true (by first|(with_reducible assumption)|assumption)
         obtain ⟨ad140,e140,hx140_0⟩:=Kd.at_string HR0_4.out x21_2 p140 q140
         cases e140
         replace hx140_0:=(HB.out.cell (World.block_lt_of_cell? w _ hx140_0)).trans hx140_0
         replace p140:=eq_true p140
         replace q140:=eq_true q140
         go_upto_region 7 with (fail)
         go_cut [32] (fun v32 wc=>∃ (kq : Nat) (x32_11 : Bool),v32=.bool x32_11∧Aside0 (node_Leaf.j2 kq x4_2 (rdOf ByteArray.empty l0_4 x21_2) l0_4 (l0_4.length : Int) x21_2 x32_11=some (r1,r2))∧Aside0 (kq≤k2)∧Aside0 (Kd.R k47 47 wc w.heap.size (fun _=>True) u4 x4_2)∧Aside0 (wc.heap[gb139]?=some (.cells #[.int .u32 a0_0,.int .u64 a0_1,.int .i64 a0_2,.string a0_3,(.slice (some ad140) l0_4.length c0_4)] 28 (0,0)))∧Aside0 (Below w.heap.size w wc))
         case first =>
          have H:=HC12.out
          clear HC12
          by_cases c13 : ((rdOf ByteArray.empty l0_4 x21_2).size : Int) < 7
          ·rw [if_pos c13] at H
           have c13b0 : decide (((rdOf ByteArray.empty l0_4 x21_2).size : Int) < 7)=true:=decide_eq_true c13
           have c13b1 : decide ((rdOf ByteArray.empty l0_4 x21_2).size < 7)=true:=decide_eq_true (by omega)
           clear c13
           (first|rw [c13b0]|(simp only [i64_w,i32_w];rw [c13b0])|skip)
           have H':=Aside0.mk H
           clear H
           go_wp2
           go_meet
           case rel=>exact ⟨_,(true),(by first|rfl|(simp;done)|(simp [*];done)),H',⟨by have:=HJ1.out;have:=HK2.out;first|omega|exact Nat.le_refl _⟩,⟨by (with_reducible repeat (first|apply Kd.R_alloc|apply Kd.R_drewN|apply Kd.R_drew));exact HO_4.out⟩,⟨by (with_reducible repeat (first|refine blk_drewN ?_ _|refine blk_drew ?_|refine blk_alloc ?_ _));exact BK139.out⟩,⟨by repeat (first|(with_reducible first|exact HB.out|apply below_alloc|apply pw_below_drewN|apply below_drew1|refine below_set ?_ GE139.out)|exact HB.out)⟩⟩
          ·rw [if_neg c13] at H
           have c13b0 : decide (((rdOf ByteArray.empty l0_4 x21_2).size : Int) < 7)=false:=decide_eq_false c13
           have c13b1 : decide ((rdOf ByteArray.empty l0_4 x21_2).size < 7)=false:=decide_eq_false (by omega)
           clear c13
           (first|rw [c13b0]|(simp only [i64_w,i32_w];rw [c13b0])|skip)
           by_cases c14 : 0 < ((rdOf ByteArray.empty l0_4 x21_2).size : Int)
           ·rw [if_pos c14] at H
            have c14b0 : decide (0 < ((rdOf ByteArray.empty l0_4 x21_2).size : Int))=true:=decide_eq_true c14
            have c14b1 : decide (0 < (rdOf ByteArray.empty l0_4 x21_2).size)=true:=decide_eq_true (by omega)
            clear c14
            have H':=Aside0.mk H
            clear H
            have p15 : 0≤(0 : Int):=(by omega)
            have q15 : 0 < (rdOf ByteArray.empty l0_4 x21_2).size:=(by have : (0 : Int) < ((rdOf ByteArray.empty l0_4 x21_2).size : Int):=of_decide_eq_true (by first|(with_reducible assumption)|assumption);omega)
            have hx15 : ∀ h : 0 < (rdOf ByteArray.empty l0_4 x21_2).size,(((rdOf ByteArray.empty l0_4 x21_2)[0]'h).toNat : Int)=bt (rdOf ByteArray.empty l0_4 x21_2) 0:=bt_at (rdOf ByteArray.empty l0_4 x21_2) 0
            clear p15
            have qi15 : (0 < ((rdOf ByteArray.empty l0_4 x21_2).size : Int))=True:=eq_true (of_decide_eq_true (by first|(with_reducible assumption)|assumption))
            replace q15:=eq_true q15
            go_wp2
            go_meet
            case rel=>exact ⟨_,(decide ((bt (rdOf ByteArray.empty l0_4 x21_2) 0) > 1)),(by first|rfl|(simp;done)|(simp [*];done)),H',⟨by have:=HJ1.out;have:=HK2.out;first|omega|exact Nat.le_refl _⟩,⟨by (with_reducible repeat (first|apply Kd.R_alloc|apply Kd.R_drewN|apply Kd.R_drew));exact HO_4.out⟩,⟨by (with_reducible repeat (first|refine blk_drewN ?_ _|refine blk_drew ?_|refine blk_alloc ?_ _));exact BK139.out⟩,⟨by repeat (first|(with_reducible first|exact HB.out|apply below_alloc|apply pw_below_drewN|apply below_drew1|refine below_set ?_ GE139.out)|exact HB.out)⟩⟩
           ·rw [if_neg c14] at H
            exact absurd H (by simp)
         case rest =>
          clear HC12
          try clear c1
          try clear p1
          try clear q1
          try clear hx1
          try clear qi1
          try clear p2
          try clear c3
          try clear c4
          try clear c4b0
          try clear c4b1
          try clear c7
          try clear c9
          try clear c9b0
          try clear c10
          try clear c10b0
          try clear c11
          try clear c11b0
          try clear c13
          try clear c13b0
          try clear c13b1
          try clear c14
          try clear c14b0
          try clear c14b1
          try clear p14
          try clear q14
          try clear hx14
          try clear p15
          try clear q15
          try clear hx15
          try clear qi15
          try clear hcz5_0
          try clear hcz5_1
          try clear hcz5_2
          try clear hcz5_3
          try clear hcz5_4
          try clear hcz6_0
          try clear hcz6_1
          try clear hcz6_2
          try clear hcz6_3
          try clear hcz6_4
          try clear hcz8_0
          try clear hcz8_1
          try clear hcz8_2
          try clear hcz8_3
          try clear hcz8_4
          try clear hfz5_0
          try clear hfz5_1
          try clear hfz5_2
          try clear hfz5_3
          try clear hfz5_4
          try clear hfz6_0
          try clear hfz6_1
          try clear hfz6_2
          try clear hfz6_3
          try clear hfz6_4
          try clear hfz8_0
          try clear hfz8_1
          try clear hfz8_2
          try clear hfz8_3
          try clear hfz8_4
          try clear hx140_0
          try clear p140
          try clear p15
          try clear p2
          try clear q140
          try clear q15
          obtain ⟨kq,x32_11,rfl,HA,HJ11,HO_4,BK139,HB⟩:=hcut
          cases kq with
          | zero=>exact absurd HA.out (by simp [node_Leaf.j2])
          | succ kj11 =>
           have H:=HA.out
           clear HA
           simp only [node_Leaf.j2] at H
           by_cases c16 : x32_11=true
           ·subst c16
            have H1 : (some (([] : List (S47)),120))=some (r1,r2):=by rw [if_pos rfl] at H;exact H
            clear H
            have H:=H1
            clear H1
            simp only [Option.some.injEq,Prod.mk.injEq] at H
            obtain ⟨rfl,rfl⟩:=H
            go_wp2
            go_ret2
            exact ⟨_,by first|rfl|(simp [errW_none,errW_some] <;> rfl)|(simp [*,errW_none,errW_some] <;> rfl),by first|exact Kd.R_nil _ _ _ _ _|exact Kd.N_nil _ _ _ _ _|exact Kd.V_nil _ _ _ _ _|exact Kd.Q_nil _ _ _ _ _|exact Kd.S_nil _ _ _ _ _,by repeat (first|(with_reducible first|exact HB.out|apply below_alloc|apply pw_below_drewN|apply below_drew1|refine below_set ?_ GE139.out)|exact HB.out)⟩
           ·replace c16:=Bool.eq_false_iff.mpr c16
            subst c16
            have H1 : ((raw_NewReader.f (rdOf ByteArray.empty l0_4 x21_2)).bind fun bt141=>((raw_Reader_Bool.f kj11 bt141.1 bt141.2.1 bt141.2.2).bind fun bt145=>((node_take.f bt145.2.1 bt145.2.2.1 bt145.2.2.2).bind fun bt150=>(if x4_2.length < 3518437208883 then (node_Leaf.l0 kj11 (x4_2 ++ [(⟨(⟨bt150.1,(⟨bt150.2.1,bt150.2.2.1⟩ : S41)⟩ : S43),bt145.1⟩ : S47)]) l0_4 (l0_4.length : Int) (wrap64 (x21_2 + 1))) else (none)))))=some (r1,r2):=by rw [if_neg (show ¬ (false=true) by decide)] at H;exact H
            clear H
            have H:=H1
            clear H1
            replace H:=Option.bind_eq_some_iff.mp H
            obtain ⟨⟨t141,t142,t143⟩,A170,H⟩:=H
            replace H : ((raw_Reader_Bool.f kj11 t141 t142 t143).bind fun bt145=>((node_take.f bt145.2.1 bt145.2.2.1 bt145.2.2.2).bind fun bt150=>(if x4_2.length < 3518437208883 then (node_Leaf.l0 kj11 (x4_2 ++ [(⟨(⟨bt150.1,(⟨bt150.2.1,bt150.2.2.1⟩ : S41)⟩ : S43),bt145.1⟩ : S47)]) l0_4 (l0_4.length : Int) (wrap64 (x21_2 + 1))) else (none))))=some (r1,r2):=H
            have A17:=Aside0.mk A170
            clear A170
            replace H:=Option.bind_eq_some_iff.mp H
            obtain ⟨⟨t145,t146,t147,t148⟩,A180,H⟩:=H
            replace H : ((node_take.f t146 t147 t148).bind fun bt150=>(if x4_2.length < 3518437208883 then (node_Leaf.l0 kj11 (x4_2 ++ [(⟨(⟨bt150.1,(⟨bt150.2.1,bt150.2.2.1⟩ : S41)⟩ : S43),t145⟩ : S47)]) l0_4 (l0_4.length : Int) (wrap64 (x21_2 + 1))) else (none)))=some (r1,r2):=H
            have A18:=Aside0.mk A180
            clear A180
            replace H:=Option.bind_eq_some_iff.mp H
            obtain ⟨⟨t150,t151,t152,t153,t154,t155⟩,A190,H⟩:=H
            replace H : (if x4_2.length < 3518437208883 then (node_Leaf.l0 kj11 (x4_2 ++ [(⟨(⟨t150,(⟨t151,t152⟩ : S41)⟩ : S43),t145⟩ : S47)]) l0_4 (l0_4.length : Int) (wrap64 (x21_2 + 1))) else (none))=some (r1,r2):=H
            have A19:=Aside0.mk A190
            clear A190
            by_cases c20 : x4_2.length < 3518437208883
            ·rw [if_pos c20] at H
             have LMc20:=Aside0.mk c20
             clear c20
             obtain ⟨y156,hy156⟩ : ∃ y_ : List (S47),y_=(x4_2 ++ [(⟨(⟨t150,(⟨t151,t152⟩ : S41)⟩ : S43),t145⟩ : S47)]):=⟨_,rfl⟩
             replace H : (node_Leaf.l0 kj11 y156 l0_4 (l0_4.length : Int) (wrap64 (x21_2 + 1)))=some (r1,r2):=by first|(rw [hy156];with_reducible exact H)|(have H2_:=(Option.bind_some _ _).symm.trans H;rw [hy156];with_reducible exact H2_)|(have H2_:=(Option.bind_some _ _).symm.trans H;with_reducible exact H2_)|with_reducible exact H|(rw [hy156];exact H)|exact H
             have Ny156:=Aside0.mk hy156
             clear hy156
             have H':=Aside0.mk H
             clear H
             go_wp2_with (first|((with_reducible refine gate_callee (f:=44) rfl ?_);refine goesL_ (some 34) rfl rfl Try.func44 (by kernel_rfl) rfl #[.string (rdOf ByteArray.empty l0_4 x21_2)] rfl (by (try simp only [List.map_toArray,List.map_cons,List.map_nil]);first|done|rfl|(simp only [List.length_drop,List.length_take];rfl)) ?_;(with_reducible refine (raw_NewReader.calls (rdOf ByteArray.empty l0_4 x21_2) t141 t142 t143 w _ ?side1 A17.out).mono ?_);(case side1=>repeat (first|(with_reducible first|exact HB.out|apply below_alloc|apply pw_below_drewN|apply below_drew1|refine below_set ?_ GE139.out)|exact HB.out));rintro e w21 ⟨g144,rfl,hi,hb,hb2⟩;refine ⟨_,rfl,?_⟩;have n0_:=Aside0.mk (Kd.R_below (by (with_reducible repeat (first|apply Kd.R_alloc|apply Kd.R_drewN|apply Kd.R_drew));exact HO_4.out) hb2);have n1_:=Aside0.mk (blk_below (g:=gb139) (o:=.cells #[.int .u32 a0_0,.int .u64 a0_1,.int .i64 a0_2,.string a0_3,.slice (some ad140) l0_4.length c0_4] 28 (0,0)) (by (with_reducible repeat (first|refine blk_drewN ?_ _|refine blk_drew ?_|refine blk_alloc ?_ _));exact BK139.out) hb2);have n2_:=Aside0.mk (hb);have n3_:=Aside0.mk (hi);have n4_:=Aside0.mk (IsS110.ne_blk hi (blk_below (g:=gb139) (o:=.cells #[.int .u32 a0_0,.int .u64 a0_1,.int .i64 a0_2,.string a0_3,.slice (some ad140) l0_4.length c0_4] 28 (0,0)) (by (with_reducible repeat (first|refine blk_drewN ?_ _|refine blk_drew ?_|refine blk_alloc ?_ _));exact BK139.out) hb2) (by decide));have n5_:=Aside0.mk (Ne.symm (IsS110.ne_blk hi (blk_below (g:=gb139) (o:=.cells #[.int .u32 a0_0,.int .u64 a0_1,.int .i64 a0_2,.string a0_3,.slice (some ad140) l0_4.length c0_4] 28 (0,0)) (by (with_reducible repeat (first|refine blk_drewN ?_ _|refine blk_drew ?_|refine blk_alloc ?_ _));exact BK139.out) hb2) (by decide)));clear HO_4;clear BK139;clear HB;have HO_4:=n0_;have BK139:=n1_;have HB:=n2_;have HI144:=n3_;have NB144_139:=n4_;have NB139_144:=n5_;clear n0_ n1_ n2_ n3_ n4_ n5_;(try clear hb);(try clear hb2);(try clear hk);(try clear hi))|((with_reducible refine gate_callee (f:=47) rfl ?_);refine goesL_ (some 36) rfl rfl Try.func47 (by kernel_rfl) rfl #[.pointer (some ⟨g144,0,none⟩)] rfl (by (try simp only [List.map_toArray,List.map_cons,List.map_nil]);first|done|rfl|(simp only [List.length_drop,List.length_take];rfl)) ?_;(with_reducible refine (raw_Reader_Bool.calls kj11 g144 t141 t142 t143 t145 t146 t147 t148 w _ ?side1 ?side2 A18.out).mono ?_);(case side1=>repeat (first|(with_reducible first|exact HI144.out|apply IsS110.alloc|apply IsS110.drewN|apply IsS110.drew|apply IsS110.set_0|apply IsS110.set_1|apply IsS110.set_2|refine IsS110.far ?_ NB144_139.out _)|exact HI144.out));(case side2=>repeat (first|(with_reducible first|exact HB.out|apply below_alloc|apply pw_below_drewN|apply below_drew1|refine below_set ?_ (IsS110.ge HI144.out)|refine below_set ?_ GE139.out)|exact HB.out));rintro e w22 ⟨rfl,hi,hb,hk⟩;refine ⟨_,rfl,?_⟩;have n0_:=Aside0.mk (Kd.R_mono (Kd.R_keep (IsS110.apart (show IsS110 w _ g144 t141 t142 t143 from by repeat (first|(with_reducible first|exact HI144.out|apply IsS110.alloc|apply IsS110.drewN|apply IsS110.drew|apply IsS110.set_0|apply IsS110.set_1|apply IsS110.set_2|refine IsS110.far ?_ NB144_139.out _)|exact HI144.out)) (by (with_reducible repeat (first|apply Kd.R_alloc|apply Kd.R_drewN|apply Kd.R_drew));exact HO_4.out) (by decide)) hk (fun _ h=>h.2)) (fun _ h=>h.1));have n1_:=Aside0.mk (KeepBut.blk hk (g':=gb139) (o:=.cells #[.int .u32 a0_0,.int .u64 a0_1,.int .i64 a0_2,.string a0_3,.slice (some ad140) l0_4.length c0_4] 28 (0,0)) (by (with_reducible repeat (first|refine blk_drewN ?_ _|refine blk_drew ?_|refine blk_alloc ?_ _));exact BK139.out) NB139_144.out (by simp));have n2_:=Aside0.mk (hb);have n3_:=Aside0.mk (hi);clear HO_4;clear BK139;clear HB;clear HI144;have HO_4:=n0_;have BK139:=n1_;have HB:=n2_;have HI144:=n3_;clear n0_ n1_ n2_ n3_;(try clear hb);(try clear hb2);(try clear hk);(try clear hi))|((with_reducible refine gate_dst (N:=8) rfl ?_);(try (refine gate_guard (by rfl) ?_;dsimp only));refine box_event ?hg (N:=8) ?hd (cs:=#[.string (⟨#[]⟩ : ByteArray),.int .u32 0,.int .i64 0,.bool false]) (t:=47) ?hr ?_;(case hd=>rfl);(case hg=>rfl);(case hr=>first|(go_simp;done)|(go_simp;rfl));intro gb149 hg w23 hbox hb;have n0_:=Aside0.mk (Kd.R_below (Kd.R_elderB (by (with_reducible repeat (first|apply Kd.R_alloc|apply Kd.R_drewN|apply Kd.R_drew));exact HO_4.out) gb149 (Nat.le_of_eq hg.symm)) hb);have n1_:=Aside0.mk (blk_below (g:=gb139) (o:=.cells #[.int .u32 a0_0,.int .u64 a0_1,.int .i64 a0_2,.string a0_3,.slice (some ad140) l0_4.length c0_4] 28 (0,0)) (by (with_reducible repeat (first|refine blk_drewN ?_ _|refine blk_drew ?_|refine blk_alloc ?_ _));exact BK139.out) hb);have n2_:=Aside0.mk (IsS110.below (by repeat (first|(with_reducible first|exact HI144.out|apply IsS110.alloc|apply IsS110.drewN|apply IsS110.drew|apply IsS110.set_0|apply IsS110.set_1|apply IsS110.set_2|refine IsS110.far ?_ NB144_139.out _)|exact HI144.out)) hb);have n3_:=Aside0.mk (below_step (by repeat (first|(with_reducible first|exact HB.out|apply below_alloc|apply pw_below_drewN|apply below_drew1|refine below_set ?_ (IsS110.ge HI144.out)|refine below_set ?_ GE139.out)|exact HB.out)) hb);have n4_:=Aside0.mk (hbox);have n5_:=Aside0.mk ((by rw [hg];exact (below_size (by repeat (first|(with_reducible first|exact HB.out|apply below_alloc|apply pw_below_drewN|apply below_drew1|refine below_set ?_ (IsS110.ge HI144.out)|refine below_set ?_ GE139.out)|exact HB.out))) : w.heap.size≤gb149));have n6_:=Aside0.mk ((by rw [hg];exact (below_size (by repeat (first|(with_reducible first|exact HB.out|apply below_alloc|apply pw_below_drewN|apply below_drew1|refine below_set ?_ (IsS110.ge HI144.out)|refine below_set ?_ GE139.out)|exact HB.out))) : w.heap.size≤gb149));have n7_:=Aside0.mk ((by rw [hg];exact Nat.ne_of_lt (blk_lt (g:=gb139) (o:=.cells #[.int .u32 a0_0,.int .u64 a0_1,.int .i64 a0_2,.string a0_3,.slice (some ad140) l0_4.length c0_4] 28 (0,0)) (by (with_reducible repeat (first|refine blk_drewN ?_ _|refine blk_drew ?_|refine blk_alloc ?_ _));exact BK139.out)) : gb139≠gb149));have n8_:=Aside0.mk ((by rw [hg];exact Nat.ne_of_gt (blk_lt (g:=gb139) (o:=.cells #[.int .u32 a0_0,.int .u64 a0_1,.int .i64 a0_2,.string a0_3,.slice (some ad140) l0_4.length c0_4] 28 (0,0)) (by (with_reducible repeat (first|refine blk_drewN ?_ _|refine blk_drew ?_|refine blk_alloc ?_ _));exact BK139.out)) : gb149≠gb139));have n9_:=Aside0.mk ((by rw [hg];exact Nat.ne_of_lt (IsS110.lt (show IsS110 w _ g144 t146 t147 t148 from by repeat (first|(with_reducible first|exact HI144.out|apply IsS110.alloc|apply IsS110.drewN|apply IsS110.drew|apply IsS110.set_0|apply IsS110.set_1|apply IsS110.set_2|refine IsS110.far ?_ NB144_139.out _)|exact HI144.out))) : g144≠gb149));have n10_:=Aside0.mk ((by rw [hg];exact Nat.ne_of_gt (IsS110.lt (show IsS110 w _ g144 t146 t147 t148 from by repeat (first|(with_reducible first|exact HI144.out|apply IsS110.alloc|apply IsS110.drewN|apply IsS110.drew|apply IsS110.set_0|apply IsS110.set_1|apply IsS110.set_2|refine IsS110.far ?_ NB144_139.out _)|exact HI144.out))) : gb149≠g144));clear HO_4;clear BK139;clear HI144;clear HB;have HO_4:=n0_;have BK139:=n1_;have HI144:=n2_;have HB:=n3_;have BK149:=n4_;have GW149:=n5_;have GE149:=n6_;have NB139_149:=n7_;have NB149_139:=n8_;have NB144_149:=n9_;have NB149_144:=n10_;clear n0_ n1_ n2_ n3_ n4_ n5_ n6_ n7_ n8_ n9_ n10_;clear hb hbox hg;have hnb24:=NB149_139.out;have hnc24:=NB139_149.out;have hnb25:=NB149_144.out;have hnc25:=NB144_149.out;have hcz26_0 : w23.cell? ⟨gb149,0,none⟩=some (.string (⟨#[]⟩ : ByteArray)):=(blk_cell BK149.out 0).trans rfl;have hcz26_1 : w23.cell? ⟨gb149,1,none⟩=some (.int .u32 0):=(blk_cell BK149.out 1).trans rfl;have hcz26_2 : w23.cell? ⟨gb149,2,none⟩=some (.int .i64 0):=(blk_cell BK149.out 2).trans rfl;have hcz26_3 : w23.cell? ⟨gb149,3,none⟩=some (.bool false):=(blk_cell BK149.out 3).trans rfl;have hfz26_0:=blk_frozen BK149.out 0;have hfz26_1:=blk_frozen BK149.out 1;have hfz26_2:=blk_frozen BK149.out 2;have hfz26_3:=blk_frozen BK149.out 3)|((with_reducible refine gate_callee (f:=46) rfl ?_);refine goesL_ (some 39) rfl rfl Try.func46 (by kernel_rfl) rfl #[.pointer (some ⟨g144,0,none⟩)] rfl (by (try simp only [List.map_toArray,List.map_cons,List.map_nil]);first|done|rfl|(simp only [List.length_drop,List.length_take];rfl)) ?_;(with_reducible refine (node_take.calls g144 t146 t147 t148 t150 t151 t152 t153 t154 t155 w _ ?side1 ?side2 A19.out).mono ?_);(case side1=>repeat (first|(with_reducible first|exact HI144.out|apply IsS110.alloc|apply IsS110.drewN|apply IsS110.drew|apply IsS110.set_0|apply IsS110.set_1|apply IsS110.set_2|refine IsS110.far ?_ NB144_139.out _|refine IsS110.far ?_ NB144_149.out _)|exact HI144.out));(case side2=>repeat (first|(with_reducible first|exact HB.out|apply below_alloc|apply pw_below_drewN|apply below_drew1|refine below_set ?_ (IsS110.ge HI144.out)|refine below_set ?_ GE139.out|refine below_set ?_ GE149.out)|exact HB.out));rintro e w27 ⟨rfl,hi,hb,hk⟩;refine ⟨_,rfl,?_⟩;have n0_:=Aside0.mk (Kd.R_mono (Kd.R_keep (IsS110.apart (show IsS110 w _ g144 t146 t147 t148 from by repeat (first|(with_reducible first|exact HI144.out|apply IsS110.alloc|apply IsS110.drewN|apply IsS110.drew|apply IsS110.set_0|apply IsS110.set_1|apply IsS110.set_2|refine IsS110.far ?_ NB144_139.out _|refine IsS110.far ?_ NB144_149.out _)|exact HI144.out)) (by (with_reducible repeat (first|apply Kd.R_alloc|apply Kd.R_drewN|apply Kd.R_drew));exact (Kd.R_mono (Kd.R_far (p:=⟨gb149,3,none⟩) (Kd.R_far (p:=⟨gb149,2,none⟩) (Kd.R_far (p:=⟨gb149,1,none⟩) (Kd.R_far (p:=⟨gb149,0,none⟩) (Kd.R_mono HO_4.out (fun k_ hk=>(⟨hk,hk.2⟩ : _∧k_≠gb149))) (fun _ hk=>hk.2) (.string (⟨#[]⟩ : ByteArray))) (fun _ hk=>hk.2) (.int .u32 0)) (fun _ hk=>hk.2) (.int .i64 0)) (fun _ hk=>hk.2) (.bool t145)) (fun _ h_=>h_.1))) (by decide)) hk (fun _ h=>h.2)) (fun _ h=>h.1));have n1_:=Aside0.mk (KeepBut.blk hk (g':=gb139) (o:=.cells #[.int .u32 a0_0,.int .u64 a0_1,.int .i64 a0_2,.string a0_3,.slice (some ad140) l0_4.length c0_4] 28 (0,0)) (by (with_reducible repeat (first|refine blk_drewN ?_ _|refine blk_drew ?_|refine blk_alloc ?_ _));refine blk_far ?_ NB139_149.out _;(with_reducible repeat (first|refine blk_drewN ?_ _|refine blk_drew ?_|refine blk_alloc ?_ _));refine blk_far ?_ NB139_149.out _;(with_reducible repeat (first|refine blk_drewN ?_ _|refine blk_drew ?_|refine blk_alloc ?_ _));refine blk_far ?_ NB139_149.out _;(with_reducible repeat (first|refine blk_drewN ?_ _|refine blk_drew ?_|refine blk_alloc ?_ _));refine blk_far ?_ NB139_149.out _;(with_reducible repeat (first|refine blk_drewN ?_ _|refine blk_drew ?_|refine blk_alloc ?_ _));exact BK139.out) NB139_144.out (by simp));have n2_:=Aside0.mk (KeepBut.blk hk (g':=gb149) (o:=.cells #[.string (⟨#[]⟩ : ByteArray),.int .u32 0,.int .i64 0,.bool t145] 47 (0,0)) (by (with_reducible repeat (first|refine blk_drewN ?_ _|refine blk_drew ?_|refine blk_alloc ?_ _));refine blk_put (cs:=#[.string (⟨#[]⟩ : ByteArray),.int .u32 0,.int .i64 0,.bool false]) ?_ 3 _ rfl;(with_reducible repeat (first|refine blk_drewN ?_ _|refine blk_drew ?_|refine blk_alloc ?_ _));refine blk_put (cs:=#[.string (⟨#[]⟩ : ByteArray),.int .u32 0,.int .i64 0,.bool false]) ?_ 2 _ rfl;(with_reducible repeat (first|refine blk_drewN ?_ _|refine blk_drew ?_|refine blk_alloc ?_ _));refine blk_put (cs:=#[.string (⟨#[]⟩ : ByteArray),.int .u32 0,.int .i64 0,.bool false]) ?_ 1 _ rfl;(with_reducible repeat (first|refine blk_drewN ?_ _|refine blk_drew ?_|refine blk_alloc ?_ _));refine blk_put (cs:=#[.string (⟨#[]⟩ : ByteArray),.int .u32 0,.int .i64 0,.bool false]) ?_ 0 _ rfl;(with_reducible repeat (first|refine blk_drewN ?_ _|refine blk_drew ?_|refine blk_alloc ?_ _));exact BK149.out) NB149_144.out (by simp));have n3_:=Aside0.mk (hb);have n4_:=Aside0.mk (hi);clear HO_4;clear BK139;clear BK149;clear HB;clear HI144;have HO_4:=n0_;have BK139:=n1_;have BK149:=n2_;have HB:=n3_;have HI144:=n4_;clear n0_ n1_ n2_ n3_ n4_;(try clear hb);(try clear hb2);(try clear hk);(try clear hi);have hcz28_0 : w27.cell? ⟨gb149,0,none⟩=some (.string (⟨#[]⟩ : ByteArray)):=(blk_cell BK149.out 0).trans rfl;have hcz28_1 : w27.cell? ⟨gb149,1,none⟩=some (.int .u32 0):=(blk_cell BK149.out 1).trans rfl;have hcz28_2 : w27.cell? ⟨gb149,2,none⟩=some (.int .i64 0):=(blk_cell BK149.out 2).trans rfl;have hcz28_3 : w27.cell? ⟨gb149,3,none⟩=some (.bool t145):=(blk_cell BK149.out 3).trans rfl;have hfz28_0:=blk_frozen BK149.out 0;have hfz28_1:=blk_frozen BK149.out 1;have hfz28_2:=blk_frozen BK149.out 2;have hfz28_3:=blk_frozen BK149.out 3)|((with_reducible refine gate_builtin (b:=.append) (xs:=#[.tmp 41,.tmp 43]) rfl ?_);(try (refine gate_guard (by rfl) ?_;dsimp only));at_builtin;refine Kd.R_append k47 (w0:=w) w.heap.size rfl (.tmp 41) (.tmp 43) 51 47 (.agg #[(.string ⟨#[]⟩),(.int .u32 0),(.int .i64 0),(.bool false)]) 40 rfl Try.underlying51 info47 rfl (by decide) (by omega) u4 x4_2 (⟨(⟨t150,(⟨t151,t152⟩ : S41)⟩ : S43),t145⟩ : S47) [.string t150,.int .u32 t151,.int .i64 t152,.bool t145] (fun k_=>k_≠gb149) (fun _=>False) rfl (by first|(go_simp;done)|(go_simp;rfl)) ?aP (fun _ hk=>hk.elim) ?aF ?aO ?aB ?aS ?aL ?_;(case aP=>exact k47_mkM _ _ _ (⟨(⟨t150,(⟨t151,t152⟩ : S41)⟩ : S43),t145⟩ : S47));(case aB=>exact (by repeat (first|(with_reducible first|exact HB.out|apply below_alloc|apply pw_below_drewN|apply below_drew1|refine below_set ?_ (IsS110.ge HI144.out)|refine below_set ?_ GE139.out|refine below_set ?_ GE149.out)|exact HB.out)));(case aF=>exact (fun k_ hk=>Kd.freshB (g:=gb149) (o:=.cells #[.string t150,.int .u32 t151,.int .i64 t152,.bool t145] 47 (0,0)) (by (with_reducible repeat (first|refine blk_drewN ?_ _|refine blk_drew ?_|refine blk_alloc ?_ _));refine blk_put (cs:=#[.string t150,.int .u32 t151,.int .i64 0,.bool t145]) ?_ 2 _ rfl;(with_reducible repeat (first|refine blk_drewN ?_ _|refine blk_drew ?_|refine blk_alloc ?_ _));refine blk_put (cs:=#[.string t150,.int .u32 0,.int .i64 0,.bool t145]) ?_ 1 _ rfl;(with_reducible repeat (first|refine blk_drewN ?_ _|refine blk_drew ?_|refine blk_alloc ?_ _));refine blk_put (cs:=#[.string (⟨#[]⟩ : ByteArray),.int .u32 0,.int .i64 0,.bool t145]) ?_ 0 _ rfl;(with_reducible repeat (first|refine blk_drewN ?_ _|refine blk_drew ?_|refine blk_alloc ?_ _));exact BK149.out) k_ hk));(case aO=>exact (by (with_reducible repeat (first|apply Kd.R_alloc|apply Kd.R_drewN|apply Kd.R_drew));exact Kd.R_mono (Kd.R_far (p:=⟨gb149,2,none⟩) (Kd.R_far (p:=⟨gb149,1,none⟩) (Kd.R_far (p:=⟨gb149,0,none⟩) (Kd.R_mono HO_4.out (fun k_ hk=>(⟨hk,hk.2⟩ : _∧k_≠gb149))) (fun _ hk=>hk.2) (.string t150)) (fun _ hk=>hk.2) (.int .u32 t151)) (fun _ hk=>hk.2) (.int .i64 t152)) (fun _ hk=>hk.1.2)));(case aS=>exact (below_size (by repeat (first|(with_reducible first|exact HB.out|apply below_alloc|apply pw_below_drewN|apply below_drew1|refine below_set ?_ (IsS110.ge HI144.out)|refine below_set ?_ GE139.out|refine below_set ?_ GE149.out)|exact HB.out))));(case aL=>have:=LMc20.out;omega);intro v157 w29 ho hb hg hat;rw [← Ny156.out] at ho;have n0_:=Aside0.mk (blk_grown (g:=gb139) (o:=.cells #[.int .u32 a0_0,.int .u64 a0_1,.int .i64 a0_2,.string a0_3,.slice (some ad140) l0_4.length c0_4] 28 (0,0)) (by (with_reducible repeat (first|refine blk_drewN ?_ _|refine blk_drew ?_|refine blk_alloc ?_ _));refine blk_far ?_ NB139_149.out _;(with_reducible repeat (first|refine blk_drewN ?_ _|refine blk_drew ?_|refine blk_alloc ?_ _));refine blk_far ?_ NB139_149.out _;(with_reducible repeat (first|refine blk_drewN ?_ _|refine blk_drew ?_|refine blk_alloc ?_ _));refine blk_far ?_ NB139_149.out _;(with_reducible repeat (first|refine blk_drewN ?_ _|refine blk_drew ?_|refine blk_alloc ?_ _));exact BK139.out) hg (Kd.R_ne HO_4.out BK139.out (by decide)));have n1_:=Aside0.mk (IsS110.grown (show IsS110 w _ g144 t153 t154 t155 from by repeat (first|(with_reducible first|exact HI144.out|apply IsS110.alloc|apply IsS110.drewN|apply IsS110.drew|apply IsS110.set_0|apply IsS110.set_1|apply IsS110.set_2|refine IsS110.far ?_ NB144_139.out _|refine IsS110.far ?_ NB144_149.out _)|exact HI144.out)) hg (IsS110.own_ne HI144.out HO_4.out (by decide)));have n2_:=Aside0.mk (blk_grown (g:=gb149) (o:=.cells #[.string t150,.int .u32 t151,.int .i64 t152,.bool t145] 47 (0,0)) (by (with_reducible repeat (first|refine blk_drewN ?_ _|refine blk_drew ?_|refine blk_alloc ?_ _));refine blk_put (cs:=#[.string t150,.int .u32 t151,.int .i64 0,.bool t145]) ?_ 2 _ rfl;(with_reducible repeat (first|refine blk_drewN ?_ _|refine blk_drew ?_|refine blk_alloc ?_ _));refine blk_put (cs:=#[.string t150,.int .u32 0,.int .i64 0,.bool t145]) ?_ 1 _ rfl;(with_reducible repeat (first|refine blk_drewN ?_ _|refine blk_drew ?_|refine blk_alloc ?_ _));refine blk_put (cs:=#[.string (⟨#[]⟩ : ByteArray),.int .u32 0,.int .i64 0,.bool t145]) ?_ 0 _ rfl;(with_reducible repeat (first|refine blk_drewN ?_ _|refine blk_drew ?_|refine blk_alloc ?_ _));exact BK149.out) hg (Kd.R_away HO_4.out (fun _ hk=>hk.2)));have n3_:=Aside0.mk (hb);have n4_:=Aside0.mk (ho);clear BK139;clear HI144;clear BK149;clear HB;clear HO_4;have BK139:=n0_;have HI144:=n1_;have BK149:=n2_;have HB:=n3_;have HO158:=n4_;clear n0_ n1_ n2_ n3_ n4_;clear ho hb hg hat))
             go_roundg kj11
             case measure=>have:=HJ1.out;have:=HK2.out;have:=HJ11.out;omega
             case rel=>exact ⟨(y156),(wrap64 (x21_2 + 1)),(by first|rfl|(simp;done)|(simp [*];done)),H',⟨by have:=HJ1.out;have:=HK2.out;have:=HJ11.out;omega⟩,⟨by (with_reducible repeat (first|apply Kd.R_alloc|apply Kd.R_drewN|apply Kd.R_drew));exact Kd.R_mono HO158.out (fun _ hk=>trivial)⟩,⟨by (with_reducible repeat (first|refine blk_drewN ?_ _|refine blk_drew ?_|refine blk_alloc ?_ _));exact BK139.out⟩,⟨by repeat (first|(with_reducible first|exact HB.out|apply below_alloc|apply pw_below_drewN|apply below_drew1|refine below_set ?_ (IsS110.ge HI144.out)|refine below_set ?_ GE139.out|refine below_set ?_ GE149.out)|exact HB.out)⟩⟩
            ·rw [if_neg c20] at H
             exact absurd H (by simp)
        ·rw [if_neg c11] at H
         exact absurd H (by simp)
       ·rw [if_neg c10] at H
        exact absurd H (by simp)
      ·rw [if_neg c9] at H
       have c9b0 : decide (x21_2 < (l0_4.length : Int))=false:=decide_eq_false c9
       clear c9
       simp only [Option.some.injEq,Prod.mk.injEq] at H
       obtain ⟨rfl,rfl⟩:=H
       go_wp2
       go_ret2
       exact ⟨_,by first|rfl|(simp [errW_none,errW_some] <;> rfl)|(simp [*,errW_none,errW_some] <;> rfl),by (with_reducible repeat (first|apply Kd.R_alloc|apply Kd.R_drewN|apply Kd.R_drew));exact HO_4.out,by repeat (first|(with_reducible first|exact HB.out|apply below_alloc|apply pw_below_drewN|apply below_drew1|refine below_set ?_ GE139.out)|exact HB.out)⟩
end Go.Proofs.Ytfegabikfkmepaa.PNe
end
section
namespace Go.Proofs.Ytfegabikfkmepaa.PNe
open Go.RowKit Go.Proofs.YtfegabikfkmepaaW.PrintWords Go.Proofs.YtfegabikfkmepaaW.PrintLast Go.Proofs.YtfegabikfkmepaaW.PrintMore
attribute [local go_sem] max2_int min2_int max_two min_two max_three min_three max_four min_four
set_option linter.unusedVariables false
set_option linter.unusedSimpArgs false
def node_leafSlot.f (a0_0 : ByteArray) (a0_1 : Int) (a0_2 : Int) (a0_3 : Bool) : Option (ByteArray):=if 0≤a0_1∧a0_1≤4294967295∧0≤a0_2∧a0_2≤65535∧a0_0.size≤140737488350000 then some (Go.Gi.bs (leafB a0_0 a0_1 a0_2 a0_3)) else none
set_option maxHeartbeats 8000000 in
set_option maxRecDepth 100000 in
theorem node_leafSlot.calls (a0_0 : ByteArray) (a0_1 : Int) (a0_2 : Int) (a0_3 : Bool) (r : ByteArray) (w : World) (h : node_leafSlot.f a0_0 a0_1 a0_2 a0_3=some r) :
  Calls Try.prog 38 #[.agg #[.string a0_0,.int .u32 a0_1,.int .i64 a0_2,.bool a0_3]] w fun e w'=>e=.returned (.string r)∧Below w.heap.size w w':=by
 unfold node_leafSlot.f at h
 split at h
 ·rename_i hc
  obtain ⟨h1,h2,h3,h4,h5⟩:=hc
  obtain rfl:=Option.some.inj h
  exact leafSlot_any a0_0 a0_1 a0_2 a0_3 w ⟨h1,h2⟩ ⟨h3,h4⟩ h5
 ·cases h
end Go.Proofs.Ytfegabikfkmepaa.PNe
end
section
namespace Go.Proofs.Ytfegabikfkmepaa.PNe
open Go.RowKit Go.Proofs.YtfegabikfkmepaaW.PrintWords Go.Proofs.YtfegabikfkmepaaW.PrintLast Go.Proofs.YtfegabikfkmepaaW.PrintMore
attribute [local go_sem] max2_int min2_int max_two min_two max_three min_three max_four min_four
set_option linter.unusedVariables false
set_option linter.unusedSimpArgs false
def node_PutItem.f (k : Nat) (a0_0 : Int) (a0_1 : Int) (a0_2 : Int) (a0_3 : ByteArray) (l0_4 : List ByteArray) (a1_0 : ByteArray) (a1_1 : Int) (a1_2 : Int) (a1_3 : Bool) : Option (Int × Int × ByteArray × ByteArray × Int):=(node_Leaf.f k a0_0 a0_1 a0_2 a0_3 l0_4).bind fun bt162=>(if bt162.2=0 then ((node_Find.f bt162.1 a1_0 a1_1 a1_2).bind fun bt166=>(if bt166.2=true then (some (0,0,(⟨#[]⟩ : ByteArray),(⟨#[]⟩ : ByteArray),121)) else ((node_leafSlot.f a1_0 a1_1 a1_2 a1_3).bind fun t168=>(some (2,bt166.1,t168,(⟨#[]⟩ : ByteArray),0))))) else (some (0,0,(⟨#[]⟩ : ByteArray),(⟨#[]⟩ : ByteArray),bt162.2)))
set_option maxHeartbeats 8000000 in
set_option maxRecDepth 100000 in
theorem node_PutItem.calls (k : Nat) (a0_0 : Int) (a0_1 : Int) (a0_2 : Int) (a0_3 : ByteArray) (A0_4 : Option Addr) (c0_4 : Nat) (l0_4 : List ByteArray) (a1_0 : ByteArray) (a1_1 : Int) (a1_2 : Int) (a1_3 : Bool) (r1 : Int) (r2 : Int) (r3 : ByteArray) (r4 : ByteArray) (r5 : Int) (w : World) (hr0_4 : Kd.C Kd.string w A0_4 l0_4.length l0_4) (hc0_4 : l0_4.length≤c0_4) (h : node_PutItem.f k a0_0 a0_1 a0_2 a0_3 l0_4 a1_0 a1_1 a1_2 a1_3=some (r1,r2,r3,r4,r5)) :
  Calls Try.prog 14 #[.agg #[.int .u32 a0_0,.int .u64 a0_1,.int .i64 a0_2,.string a0_3,.slice A0_4 l0_4.length c0_4],.agg #[.string a1_0,.int .u32 a1_1,.int .i64 a1_2,.bool a1_3]] w fun e w'=>e=.returned (.tuple #[.agg #[.int .i64 r1,.int .i64 r2,.string r3,.string r4],.int .i64 r5])∧Below w.heap.size w w':=by
 have hu28:=Try.underlying28
 have hu47:=Try.underlying47
 have hu38:=Try.underlying38
 have hu43:=Try.underlying43
 have HR0_4:=Aside0.mk hr0_4
 have HC0_4:=Aside0.mk hc0_4
 clear hr0_4 hc0_4
 have HB:=Aside0.mk (Below.refl w.heap.size w)
 have H : ((node_Leaf.f k a0_0 a0_1 a0_2 a0_3 l0_4).bind fun bt162=>(if bt162.2=0 then ((node_Find.f bt162.1 a1_0 a1_1 a1_2).bind fun bt166=>(if bt166.2=true then (some (0,0,(⟨#[]⟩ : ByteArray),(⟨#[]⟩ : ByteArray),121)) else ((node_leafSlot.f a1_0 a1_1 a1_2 a1_3).bind fun t168=>(some (2,bt166.1,t168,(⟨#[]⟩ : ByteArray),0))))) else (some (0,0,(⟨#[]⟩ : ByteArray),(⟨#[]⟩ : ByteArray),bt162.2))))=some (r1,r2,r3,r4,r5):=h
 clear h
 replace H:=Option.bind_eq_some_iff.mp H
 obtain ⟨⟨t162,t165⟩,A30,H⟩:=H
 replace H : (if t165=0 then ((node_Find.f t162 a1_0 a1_1 a1_2).bind fun bt166=>(if bt166.2=true then (some (0,0,(⟨#[]⟩ : ByteArray),(⟨#[]⟩ : ByteArray),121)) else ((node_leafSlot.f a1_0 a1_1 a1_2 a1_3).bind fun t168=>(some (2,bt166.1,t168,(⟨#[]⟩ : ByteArray),0))))) else (some (0,0,(⟨#[]⟩ : ByteArray),(⟨#[]⟩ : ByteArray),t165)))=some (r1,r2,r3,r4,r5):=H
 have A3:=Aside0.mk A30
 clear A30
 by_cases c4 : t165=0
 ·rw [if_pos c4] at H
  have c4b0 : (t165 == 0)=true:=beq_iff_eq.mpr c4
  have c4b1 : (t165 != 0)=false:=bne_eq_false_iff_eq.mpr c4
  clear c4
  replace H:=Option.bind_eq_some_iff.mp H
  obtain ⟨⟨t166,t167⟩,A50,H⟩:=H
  replace H : (if t167=true then (some (0,0,(⟨#[]⟩ : ByteArray),(⟨#[]⟩ : ByteArray),121)) else ((node_leafSlot.f a1_0 a1_1 a1_2 a1_3).bind fun t168=>(some (2,t166,t168,(⟨#[]⟩ : ByteArray),0))))=some (r1,r2,r3,r4,r5):=H
  have A5:=Aside0.mk A50
  clear A50
  by_cases c6 : t167=true
  ·subst c6
   have H1 : (some (0,0,(⟨#[]⟩ : ByteArray),(⟨#[]⟩ : ByteArray),121))=some (r1,r2,r3,r4,r5):=by rw [if_pos rfl] at H;exact H
   clear H
   have H:=H1
   clear H1
   simp only [Option.some.injEq,Prod.mk.injEq] at H
   obtain ⟨rfl,rfl,rfl,rfl,rfl⟩:=H
   go_enter Try.func14,Try.ntmps14
   go_wp2_with (first|((with_reducible refine gate_dst (N:=2) rfl ?_);refine box_event ?hg (N:=2) ?hd (cs:=#[.int .u32 a0_0,.int .u64 a0_1,.int .i64 a0_2,.string a0_3,.slice A0_4 l0_4.length c0_4]) (t:=28) ?hr ?_;(case hd=>rfl);(case hg=>rfl);(case hr=>first|(go_simp;done)|(go_simp;rfl));intro gb159 hg w7 hbox hb;have n0_:=Aside0.mk (below_step (by repeat (first|(with_reducible first|exact HB.out|apply below_alloc|apply pw_below_drewN|apply below_drew1)|exact HB.out)) hb);have n1_:=Aside0.mk (hbox);have n2_:=Aside0.mk ((by rw [hg];exact (below_size (by repeat (first|(with_reducible first|exact HB.out|apply below_alloc|apply pw_below_drewN|apply below_drew1)|exact HB.out))) : w.heap.size≤gb159));have n3_:=Aside0.mk ((by rw [hg];exact (below_size (by repeat (first|(with_reducible first|exact HB.out|apply below_alloc|apply pw_below_drewN|apply below_drew1)|exact HB.out))) : w.heap.size≤gb159));clear HB;have HB:=n0_;have BK159:=n1_;have GW159:=n2_;have GE159:=n3_;clear n0_ n1_ n2_ n3_;clear hb hbox hg)|((with_reducible refine gate_dst (N:=3) rfl ?_);refine box_event ?hg (N:=3) ?hd (cs:=#[.string a1_0,.int .u32 a1_1,.int .i64 a1_2,.bool a1_3]) (t:=47) ?hr ?_;(case hd=>rfl);(case hg=>rfl);(case hr=>first|(go_simp;done)|(go_simp;rfl));intro gb160 hg w8 hbox hb;have n0_:=Aside0.mk (blk_below (g:=gb159) (o:=.cells #[.int .u32 a0_0,.int .u64 a0_1,.int .i64 a0_2,.string a0_3,.slice A0_4 l0_4.length c0_4] 28 (0,0)) (by (with_reducible repeat (first|refine blk_drewN ?_ _|refine blk_drew ?_|refine blk_alloc ?_ _));exact BK159.out) hb);have n1_:=Aside0.mk (below_step (by repeat (first|(with_reducible first|exact HB.out|apply below_alloc|apply pw_below_drewN|apply below_drew1|refine below_set ?_ GE159.out)|exact HB.out)) hb);have n2_:=Aside0.mk (hbox);have n3_:=Aside0.mk ((by rw [hg];exact (below_size (by repeat (first|(with_reducible first|exact HB.out|apply below_alloc|apply pw_below_drewN|apply below_drew1|refine below_set ?_ GE159.out)|exact HB.out))) : w.heap.size≤gb160));have n4_:=Aside0.mk ((by rw [hg];exact (below_size (by repeat (first|(with_reducible first|exact HB.out|apply below_alloc|apply pw_below_drewN|apply below_drew1|refine below_set ?_ GE159.out)|exact HB.out))) : w.heap.size≤gb160));have n5_:=Aside0.mk ((by rw [hg];exact Nat.ne_of_lt (blk_lt (g:=gb159) (o:=.cells #[.int .u32 a0_0,.int .u64 a0_1,.int .i64 a0_2,.string a0_3,.slice A0_4 l0_4.length c0_4] 28 (0,0)) (by (with_reducible repeat (first|refine blk_drewN ?_ _|refine blk_drew ?_|refine blk_alloc ?_ _));exact BK159.out)) : gb159≠gb160));have n6_:=Aside0.mk ((by rw [hg];exact Nat.ne_of_gt (blk_lt (g:=gb159) (o:=.cells #[.int .u32 a0_0,.int .u64 a0_1,.int .i64 a0_2,.string a0_3,.slice A0_4 l0_4.length c0_4] 28 (0,0)) (by (with_reducible repeat (first|refine blk_drewN ?_ _|refine blk_drew ?_|refine blk_alloc ?_ _));exact BK159.out)) : gb160≠gb159));clear BK159;clear HB;have BK159:=n0_;have HB:=n1_;have BK160:=n2_;have GW160:=n3_;have GE160:=n4_;have NB159_160:=n5_;have NB160_159:=n6_;clear n0_ n1_ n2_ n3_ n4_ n5_ n6_;clear hb hbox hg)|((with_reducible refine gate_dst (N:=4) rfl ?_);refine box_event ?hg (N:=4) ?hd (cs:=#[.int .i64 0,.int .i64 0,.string (⟨#[]⟩ : ByteArray),.string (⟨#[]⟩ : ByteArray)]) (t:=38) ?hr ?_;(case hd=>rfl);(case hg=>rfl);(case hr=>first|(go_simp;done)|(go_simp;rfl));intro gb161 hg w9 hbox hb;have n0_:=Aside0.mk (blk_below (g:=gb159) (o:=.cells #[.int .u32 a0_0,.int .u64 a0_1,.int .i64 a0_2,.string a0_3,.slice A0_4 l0_4.length c0_4] 28 (0,0)) (by (with_reducible repeat (first|refine blk_drewN ?_ _|refine blk_drew ?_|refine blk_alloc ?_ _));exact BK159.out) hb);have n1_:=Aside0.mk (blk_below (g:=gb160) (o:=.cells #[.string a1_0,.int .u32 a1_1,.int .i64 a1_2,.bool a1_3] 47 (0,0)) (by (with_reducible repeat (first|refine blk_drewN ?_ _|refine blk_drew ?_|refine blk_alloc ?_ _));exact BK160.out) hb);have n2_:=Aside0.mk (below_step (by repeat (first|(with_reducible first|exact HB.out|apply below_alloc|apply pw_below_drewN|apply below_drew1|refine below_set ?_ GE159.out|refine below_set ?_ GE160.out)|exact HB.out)) hb);have n3_:=Aside0.mk (hbox);have n4_:=Aside0.mk ((by rw [hg];exact (below_size (by repeat (first|(with_reducible first|exact HB.out|apply below_alloc|apply pw_below_drewN|apply below_drew1|refine below_set ?_ GE159.out|refine below_set ?_ GE160.out)|exact HB.out))) : w.heap.size≤gb161));have n5_:=Aside0.mk ((by rw [hg];exact (below_size (by repeat (first|(with_reducible first|exact HB.out|apply below_alloc|apply pw_below_drewN|apply below_drew1|refine below_set ?_ GE159.out|refine below_set ?_ GE160.out)|exact HB.out))) : w.heap.size≤gb161));have n6_:=Aside0.mk ((by rw [hg];exact Nat.ne_of_lt (blk_lt (g:=gb159) (o:=.cells #[.int .u32 a0_0,.int .u64 a0_1,.int .i64 a0_2,.string a0_3,.slice A0_4 l0_4.length c0_4] 28 (0,0)) (by (with_reducible repeat (first|refine blk_drewN ?_ _|refine blk_drew ?_|refine blk_alloc ?_ _));exact BK159.out)) : gb159≠gb161));have n7_:=Aside0.mk ((by rw [hg];exact Nat.ne_of_gt (blk_lt (g:=gb159) (o:=.cells #[.int .u32 a0_0,.int .u64 a0_1,.int .i64 a0_2,.string a0_3,.slice A0_4 l0_4.length c0_4] 28 (0,0)) (by (with_reducible repeat (first|refine blk_drewN ?_ _|refine blk_drew ?_|refine blk_alloc ?_ _));exact BK159.out)) : gb161≠gb159));have n8_:=Aside0.mk ((by rw [hg];exact Nat.ne_of_lt (blk_lt (g:=gb160) (o:=.cells #[.string a1_0,.int .u32 a1_1,.int .i64 a1_2,.bool a1_3] 47 (0,0)) (by (with_reducible repeat (first|refine blk_drewN ?_ _|refine blk_drew ?_|refine blk_alloc ?_ _));exact BK160.out)) : gb160≠gb161));have n9_:=Aside0.mk ((by rw [hg];exact Nat.ne_of_gt (blk_lt (g:=gb160) (o:=.cells #[.string a1_0,.int .u32 a1_1,.int .i64 a1_2,.bool a1_3] 47 (0,0)) (by (with_reducible repeat (first|refine blk_drewN ?_ _|refine blk_drew ?_|refine blk_alloc ?_ _));exact BK160.out)) : gb161≠gb160));clear BK159;clear BK160;clear HB;have BK159:=n0_;have BK160:=n1_;have HB:=n2_;have BK161:=n3_;have GW161:=n4_;have GE161:=n5_;have NB159_161:=n6_;have NB161_159:=n7_;have NB160_161:=n8_;have NB161_160:=n9_;clear n0_ n1_ n2_ n3_ n4_ n5_ n6_ n7_ n8_ n9_;clear hb hbox hg;have hnb10:=NB159_160.out;have hnc10:=NB160_159.out;have hnb11:=NB159_161.out;have hnc11:=NB161_159.out;have hcz12_0 : w9.cell? ⟨gb159,0,none⟩=some (.int .u32 a0_0):=(blk_cell BK159.out 0).trans rfl;have hcz12_1 : w9.cell? ⟨gb159,1,none⟩=some (.int .u64 a0_1):=(blk_cell BK159.out 1).trans rfl;have hcz12_2 : w9.cell? ⟨gb159,2,none⟩=some (.int .i64 a0_2):=(blk_cell BK159.out 2).trans rfl;have hcz12_3 : w9.cell? ⟨gb159,3,none⟩=some (.string a0_3):=(blk_cell BK159.out 3).trans rfl;have hcz12_4 : w9.cell? ⟨gb159,4,none⟩=some (.slice A0_4 l0_4.length c0_4):=(blk_cell BK159.out 4).trans rfl;have hfz12_0:=blk_frozen BK159.out 0;have hfz12_1:=blk_frozen BK159.out 1;have hfz12_2:=blk_frozen BK159.out 2;have hfz12_3:=blk_frozen BK159.out 3;have hfz12_4:=blk_frozen BK159.out 4)|((with_reducible refine gate_callee (f:=31) rfl ?_);refine goesL_ (some 12) rfl rfl Try.func31 (by kernel_rfl) rfl #[.agg #[.int .u32 a0_0,.int .u64 a0_1,.int .i64 a0_2,.string a0_3,.slice A0_4 l0_4.length c0_4]] rfl (by (try simp only [List.map_toArray,List.map_cons,List.map_nil]);first|done|rfl|(simp only [List.length_drop,List.length_take];rfl)) ?_;(with_reducible refine (node_Leaf.calls k a0_0 a0_1 a0_2 a0_3 _ _ l0_4 t162 t165 _ ?side1 ?side2 A3.out).mono ?_);(case side1=>repeat (first|exact (Kd.C_below HR0_4.out HB.out)|(with_reducible refine Kd.C_alloc ?_ _)|(with_reducible refine Kd.C_drewN ?_ _)|(with_reducible refine Kd.C_drew ?_)));(case side2=>exact HC0_4.out);rintro e w13 ⟨v163,rfl,ho0,hb⟩;refine ⟨_,rfl,?_⟩;have n0_:=Aside0.mk (Kd.R_lower (Kd.R_newB ho0 (g:=gb160) (o:=.cells #[.string a1_0,.int .u32 a1_1,.int .i64 a1_2,.bool a1_3] 47 (0,0)) (by (with_reducible repeat (first|refine blk_drewN ?_ _|refine blk_drew ?_|refine blk_alloc ?_ _));exact BK160.out)) (below_size (by repeat (first|(with_reducible first|exact HB.out|apply below_alloc|apply pw_below_drewN|apply below_drew1|refine below_set ?_ GE159.out|refine below_set ?_ GE160.out|refine below_set ?_ GE161.out)|exact HB.out))));have n1_:=Aside0.mk (blk_below (g:=gb159) (o:=.cells #[.int .u32 a0_0,.int .u64 a0_1,.int .i64 a0_2,.string a0_3,.slice A0_4 l0_4.length c0_4] 28 (0,0)) (by (with_reducible repeat (first|refine blk_drewN ?_ _|refine blk_drew ?_|refine blk_alloc ?_ _));exact BK159.out) hb);have n2_:=Aside0.mk (blk_below (g:=gb160) (o:=.cells #[.string a1_0,.int .u32 a1_1,.int .i64 a1_2,.bool a1_3] 47 (0,0)) (by (with_reducible repeat (first|refine blk_drewN ?_ _|refine blk_drew ?_|refine blk_alloc ?_ _));exact BK160.out) hb);have n3_:=Aside0.mk (blk_below (g:=gb161) (o:=.cells #[.int .i64 0,.int .i64 0,.string (⟨#[]⟩ : ByteArray),.string (⟨#[]⟩ : ByteArray)] 38 (0,0)) (by (with_reducible repeat (first|refine blk_drewN ?_ _|refine blk_drew ?_|refine blk_alloc ?_ _));exact BK161.out) hb);have n4_:=Aside0.mk (below_step (by repeat (first|(with_reducible first|exact HB.out|apply below_alloc|apply pw_below_drewN|apply below_drew1|refine below_set ?_ GE159.out|refine below_set ?_ GE160.out|refine below_set ?_ GE161.out)|exact HB.out)) hb);clear BK159;clear BK160;clear BK161;clear HB;have HO164:=n0_;have BK159:=n1_;have BK160:=n2_;have BK161:=n3_;have HB:=n4_;clear n0_ n1_ n2_ n3_ n4_;(try clear hb);(try clear hb2);(try clear hk);(try clear hi);(try clear ho0);have hnb14:=NB160_161.out;have hnc14:=NB161_160.out;have hcz15_0 : w13.cell? ⟨gb160,0,none⟩=some (.string a1_0):=(blk_cell BK160.out 0).trans rfl;have hcz15_1 : w13.cell? ⟨gb160,1,none⟩=some (.int .u32 a1_1):=(blk_cell BK160.out 1).trans rfl;have hcz15_2 : w13.cell? ⟨gb160,2,none⟩=some (.int .i64 a1_2):=(blk_cell BK160.out 2).trans rfl;have hcz15_3 : w13.cell? ⟨gb160,3,none⟩=some (.bool a1_3):=(blk_cell BK160.out 3).trans rfl;have hfz15_0:=blk_frozen BK160.out 0;have hfz15_1:=blk_frozen BK160.out 1;have hfz15_2:=blk_frozen BK160.out 2;have hfz15_3:=blk_frozen BK160.out 3;obtain ⟨Ao16,co16,eo16⟩:=Kd.R_slice HO164.out;subst eo16)|((with_reducible refine gate_callee (f:=18) rfl ?_);refine goesL_ (some 23) rfl rfl Try.func18 (by kernel_rfl) rfl #[.slice Ao16 t162.length co16,.agg #[.string a1_0,.int .u32 a1_1,.int .i64 a1_2]] rfl (by (try simp only [List.map_toArray,List.map_cons,List.map_nil]);first|done|rfl|(simp only [List.length_drop,List.length_take];rfl)) ?_;(with_reducible refine (node_Find.calls _ _ t162 a1_0 a1_1 a1_2 t166 true _ ?side1 ?side2 A5.out).mono ?_);(case side1=>repeat (first|exact (Kd.R_reads' HO164.out).2.2|(with_reducible refine Kd.C_alloc ?_ _)|(with_reducible refine Kd.C_drewN ?_ _)|(with_reducible refine Kd.C_drew ?_)));(case side2=>exact (Kd.R_reads' HO164.out).2.1);rintro e w17 ⟨rfl,hb⟩;refine ⟨_,rfl,?_⟩;have n0_:=Aside0.mk (Kd.R_below (by (with_reducible repeat (first|apply Kd.R_alloc|apply Kd.R_drewN|apply Kd.R_drew));exact HO164.out) hb);have n1_:=Aside0.mk (blk_below (g:=gb159) (o:=.cells #[.int .u32 a0_0,.int .u64 a0_1,.int .i64 a0_2,.string a0_3,.slice A0_4 l0_4.length c0_4] 28 (0,0)) (by (with_reducible repeat (first|refine blk_drewN ?_ _|refine blk_drew ?_|refine blk_alloc ?_ _));exact BK159.out) hb);have n2_:=Aside0.mk (blk_below (g:=gb160) (o:=.cells #[.string a1_0,.int .u32 a1_1,.int .i64 a1_2,.bool a1_3] 47 (0,0)) (by (with_reducible repeat (first|refine blk_drewN ?_ _|refine blk_drew ?_|refine blk_alloc ?_ _));exact BK160.out) hb);have n3_:=Aside0.mk (blk_below (g:=gb161) (o:=.cells #[.int .i64 0,.int .i64 0,.string (⟨#[]⟩ : ByteArray),.string (⟨#[]⟩ : ByteArray)] 38 (0,0)) (by (with_reducible repeat (first|refine blk_drewN ?_ _|refine blk_drew ?_|refine blk_alloc ?_ _));exact BK161.out) hb);have n4_:=Aside0.mk (below_step (by repeat (first|(with_reducible first|exact HB.out|apply below_alloc|apply pw_below_drewN|apply below_drew1|refine below_set ?_ GE159.out|refine below_set ?_ GE160.out|refine below_set ?_ GE161.out)|exact HB.out)) hb);clear HO164;clear BK159;clear BK160;clear BK161;clear HB;have HO164:=n0_;have BK159:=n1_;have BK160:=n2_;have BK161:=n3_;have HB:=n4_;clear n0_ n1_ n2_ n3_ n4_;(try clear hb);(try clear hb2);(try clear hk);(try clear hi);have hcz18_0 : w17.cell? ⟨gb161,0,none⟩=some (.int .i64 0):=(blk_cell BK161.out 0).trans rfl;have hcz18_1 : w17.cell? ⟨gb161,1,none⟩=some (.int .i64 0):=(blk_cell BK161.out 1).trans rfl;have hcz18_2 : w17.cell? ⟨gb161,2,none⟩=some (.string (⟨#[]⟩ : ByteArray)):=(blk_cell BK161.out 2).trans rfl;have hcz18_3 : w17.cell? ⟨gb161,3,none⟩=some (.string (⟨#[]⟩ : ByteArray)):=(blk_cell BK161.out 3).trans rfl;have hfz18_0:=blk_frozen BK161.out 0;have hfz18_1:=blk_frozen BK161.out 1;have hfz18_2:=blk_frozen BK161.out 2;have hfz18_3:=blk_frozen BK161.out 3))
   refine bodyPost_ret (results_ct rfl _ _ gb161 38 #[.int .i64 0,.int .i64 0,.string (⟨#[]⟩ : ByteArray),.string (⟨#[]⟩ : ByteArray)] (0,0) _ rfl (by (with_reducible repeat (first|refine blk_drewN ?_ _|refine blk_drew ?_|refine blk_alloc ?_ _));refine blk_put (cs:=#[.int .i64 0,.int .i64 0,.string (⟨#[]⟩ : ByteArray),.string (⟨#[]⟩ : ByteArray)]) ?_ 3 _ rfl;(with_reducible repeat (first|refine blk_drewN ?_ _|refine blk_drew ?_|refine blk_alloc ?_ _));refine blk_put (cs:=#[.int .i64 0,.int .i64 0,.string (⟨#[]⟩ : ByteArray),.string (⟨#[]⟩ : ByteArray)]) ?_ 2 _ rfl;(with_reducible repeat (first|refine blk_drewN ?_ _|refine blk_drew ?_|refine blk_alloc ?_ _));refine blk_put (cs:=#[.int .i64 0,.int .i64 0,.string (⟨#[]⟩ : ByteArray),.string (⟨#[]⟩ : ByteArray)]) ?_ 1 _ rfl;(with_reducible repeat (first|refine blk_drewN ?_ _|refine blk_drew ?_|refine blk_alloc ?_ _));refine blk_put (cs:=#[.int .i64 0,.int .i64 0,.string (⟨#[]⟩ : ByteArray),.string (⟨#[]⟩ : ByteArray)]) ?_ 0 _ rfl;(with_reducible repeat (first|refine blk_drewN ?_ _|refine blk_drew ?_|refine blk_alloc ?_ _));exact BK161.out) Try.underlying38 rfl (by kernel_rfl)) rfl ?_
   exact ⟨by first|rfl|(simp [errW_none,errW_some] <;> rfl)|(simp [*,errW_none,errW_some] <;> rfl),by repeat (first|(with_reducible first|exact HB.out|apply below_alloc|apply pw_below_drewN|apply below_drew1|refine below_set ?_ GE159.out|refine below_set ?_ GE160.out|refine below_set ?_ GE161.out)|exact HB.out)⟩
  ·replace c6:=Bool.eq_false_iff.mpr c6
   subst c6
   have H1 : ((node_leafSlot.f a1_0 a1_1 a1_2 a1_3).bind fun t168=>(some (2,t166,t168,(⟨#[]⟩ : ByteArray),0)))=some (r1,r2,r3,r4,r5):=by rw [if_neg (show ¬ (false=true) by decide)] at H;exact H
   clear H
   have H:=H1
   clear H1
   replace H:=Option.bind_eq_some_iff.mp H
   obtain ⟨t168,A190,H⟩:=H
   replace H : (some (2,t166,t168,(⟨#[]⟩ : ByteArray),0))=some (r1,r2,r3,r4,r5):=H
   have A19:=Aside0.mk A190
   clear A190
   simp only [Option.some.injEq,Prod.mk.injEq] at H
   obtain ⟨rfl,rfl,rfl,rfl,rfl⟩:=H
   go_enter Try.func14,Try.ntmps14
   go_wp2_with (first|((with_reducible refine gate_dst (N:=2) rfl ?_);refine box_event ?hg (N:=2) ?hd (cs:=#[.int .u32 a0_0,.int .u64 a0_1,.int .i64 a0_2,.string a0_3,.slice A0_4 l0_4.length c0_4]) (t:=28) ?hr ?_;(case hd=>rfl);(case hg=>rfl);(case hr=>first|(go_simp;done)|(go_simp;rfl));intro gb159 hg w20 hbox hb;have n0_:=Aside0.mk (below_step (by repeat (first|(with_reducible first|exact HB.out|apply below_alloc|apply pw_below_drewN|apply below_drew1)|exact HB.out)) hb);have n1_:=Aside0.mk (hbox);have n2_:=Aside0.mk ((by rw [hg];exact (below_size (by repeat (first|(with_reducible first|exact HB.out|apply below_alloc|apply pw_below_drewN|apply below_drew1)|exact HB.out))) : w.heap.size≤gb159));have n3_:=Aside0.mk ((by rw [hg];exact (below_size (by repeat (first|(with_reducible first|exact HB.out|apply below_alloc|apply pw_below_drewN|apply below_drew1)|exact HB.out))) : w.heap.size≤gb159));clear HB;have HB:=n0_;have BK159:=n1_;have GW159:=n2_;have GE159:=n3_;clear n0_ n1_ n2_ n3_;clear hb hbox hg)|((with_reducible refine gate_dst (N:=3) rfl ?_);refine box_event ?hg (N:=3) ?hd (cs:=#[.string a1_0,.int .u32 a1_1,.int .i64 a1_2,.bool a1_3]) (t:=47) ?hr ?_;(case hd=>rfl);(case hg=>rfl);(case hr=>first|(go_simp;done)|(go_simp;rfl));intro gb160 hg w21 hbox hb;have n0_:=Aside0.mk (blk_below (g:=gb159) (o:=.cells #[.int .u32 a0_0,.int .u64 a0_1,.int .i64 a0_2,.string a0_3,.slice A0_4 l0_4.length c0_4] 28 (0,0)) (by (with_reducible repeat (first|refine blk_drewN ?_ _|refine blk_drew ?_|refine blk_alloc ?_ _));exact BK159.out) hb);have n1_:=Aside0.mk (below_step (by repeat (first|(with_reducible first|exact HB.out|apply below_alloc|apply pw_below_drewN|apply below_drew1|refine below_set ?_ GE159.out)|exact HB.out)) hb);have n2_:=Aside0.mk (hbox);have n3_:=Aside0.mk ((by rw [hg];exact (below_size (by repeat (first|(with_reducible first|exact HB.out|apply below_alloc|apply pw_below_drewN|apply below_drew1|refine below_set ?_ GE159.out)|exact HB.out))) : w.heap.size≤gb160));have n4_:=Aside0.mk ((by rw [hg];exact (below_size (by repeat (first|(with_reducible first|exact HB.out|apply below_alloc|apply pw_below_drewN|apply below_drew1|refine below_set ?_ GE159.out)|exact HB.out))) : w.heap.size≤gb160));have n5_:=Aside0.mk ((by rw [hg];exact Nat.ne_of_lt (blk_lt (g:=gb159) (o:=.cells #[.int .u32 a0_0,.int .u64 a0_1,.int .i64 a0_2,.string a0_3,.slice A0_4 l0_4.length c0_4] 28 (0,0)) (by (with_reducible repeat (first|refine blk_drewN ?_ _|refine blk_drew ?_|refine blk_alloc ?_ _));exact BK159.out)) : gb159≠gb160));have n6_:=Aside0.mk ((by rw [hg];exact Nat.ne_of_gt (blk_lt (g:=gb159) (o:=.cells #[.int .u32 a0_0,.int .u64 a0_1,.int .i64 a0_2,.string a0_3,.slice A0_4 l0_4.length c0_4] 28 (0,0)) (by (with_reducible repeat (first|refine blk_drewN ?_ _|refine blk_drew ?_|refine blk_alloc ?_ _));exact BK159.out)) : gb160≠gb159));clear BK159;clear HB;have BK159:=n0_;have HB:=n1_;have BK160:=n2_;have GW160:=n3_;have GE160:=n4_;have NB159_160:=n5_;have NB160_159:=n6_;clear n0_ n1_ n2_ n3_ n4_ n5_ n6_;clear hb hbox hg)|((with_reducible refine gate_dst (N:=4) rfl ?_);refine box_event ?hg (N:=4) ?hd (cs:=#[.int .i64 0,.int .i64 0,.string (⟨#[]⟩ : ByteArray),.string (⟨#[]⟩ : ByteArray)]) (t:=38) ?hr ?_;(case hd=>rfl);(case hg=>rfl);(case hr=>first|(go_simp;done)|(go_simp;rfl));intro gb161 hg w22 hbox hb;have n0_:=Aside0.mk (blk_below (g:=gb159) (o:=.cells #[.int .u32 a0_0,.int .u64 a0_1,.int .i64 a0_2,.string a0_3,.slice A0_4 l0_4.length c0_4] 28 (0,0)) (by (with_reducible repeat (first|refine blk_drewN ?_ _|refine blk_drew ?_|refine blk_alloc ?_ _));exact BK159.out) hb);have n1_:=Aside0.mk (blk_below (g:=gb160) (o:=.cells #[.string a1_0,.int .u32 a1_1,.int .i64 a1_2,.bool a1_3] 47 (0,0)) (by (with_reducible repeat (first|refine blk_drewN ?_ _|refine blk_drew ?_|refine blk_alloc ?_ _));exact BK160.out) hb);have n2_:=Aside0.mk (below_step (by repeat (first|(with_reducible first|exact HB.out|apply below_alloc|apply pw_below_drewN|apply below_drew1|refine below_set ?_ GE159.out|refine below_set ?_ GE160.out)|exact HB.out)) hb);have n3_:=Aside0.mk (hbox);have n4_:=Aside0.mk ((by rw [hg];exact (below_size (by repeat (first|(with_reducible first|exact HB.out|apply below_alloc|apply pw_below_drewN|apply below_drew1|refine below_set ?_ GE159.out|refine below_set ?_ GE160.out)|exact HB.out))) : w.heap.size≤gb161));have n5_:=Aside0.mk ((by rw [hg];exact (below_size (by repeat (first|(with_reducible first|exact HB.out|apply below_alloc|apply pw_below_drewN|apply below_drew1|refine below_set ?_ GE159.out|refine below_set ?_ GE160.out)|exact HB.out))) : w.heap.size≤gb161));have n6_:=Aside0.mk ((by rw [hg];exact Nat.ne_of_lt (blk_lt (g:=gb159) (o:=.cells #[.int .u32 a0_0,.int .u64 a0_1,.int .i64 a0_2,.string a0_3,.slice A0_4 l0_4.length c0_4] 28 (0,0)) (by (with_reducible repeat (first|refine blk_drewN ?_ _|refine blk_drew ?_|refine blk_alloc ?_ _));exact BK159.out)) : gb159≠gb161));have n7_:=Aside0.mk ((by rw [hg];exact Nat.ne_of_gt (blk_lt (g:=gb159) (o:=.cells #[.int .u32 a0_0,.int .u64 a0_1,.int .i64 a0_2,.string a0_3,.slice A0_4 l0_4.length c0_4] 28 (0,0)) (by (with_reducible repeat (first|refine blk_drewN ?_ _|refine blk_drew ?_|refine blk_alloc ?_ _));exact BK159.out)) : gb161≠gb159));have n8_:=Aside0.mk ((by rw [hg];exact Nat.ne_of_lt (blk_lt (g:=gb160) (o:=.cells #[.string a1_0,.int .u32 a1_1,.int .i64 a1_2,.bool a1_3] 47 (0,0)) (by (with_reducible repeat (first|refine blk_drewN ?_ _|refine blk_drew ?_|refine blk_alloc ?_ _));exact BK160.out)) : gb160≠gb161));have n9_:=Aside0.mk ((by rw [hg];exact Nat.ne_of_gt (blk_lt (g:=gb160) (o:=.cells #[.string a1_0,.int .u32 a1_1,.int .i64 a1_2,.bool a1_3] 47 (0,0)) (by (with_reducible repeat (first|refine blk_drewN ?_ _|refine blk_drew ?_|refine blk_alloc ?_ _));exact BK160.out)) : gb161≠gb160));clear BK159;clear BK160;clear HB;have BK159:=n0_;have BK160:=n1_;have HB:=n2_;have BK161:=n3_;have GW161:=n4_;have GE161:=n5_;have NB159_161:=n6_;have NB161_159:=n7_;have NB160_161:=n8_;have NB161_160:=n9_;clear n0_ n1_ n2_ n3_ n4_ n5_ n6_ n7_ n8_ n9_;clear hb hbox hg;have hnb23:=NB159_160.out;have hnc23:=NB160_159.out;have hnb24:=NB159_161.out;have hnc24:=NB161_159.out;have hcz25_0 : w22.cell? ⟨gb159,0,none⟩=some (.int .u32 a0_0):=(blk_cell BK159.out 0).trans rfl;have hcz25_1 : w22.cell? ⟨gb159,1,none⟩=some (.int .u64 a0_1):=(blk_cell BK159.out 1).trans rfl;have hcz25_2 : w22.cell? ⟨gb159,2,none⟩=some (.int .i64 a0_2):=(blk_cell BK159.out 2).trans rfl;have hcz25_3 : w22.cell? ⟨gb159,3,none⟩=some (.string a0_3):=(blk_cell BK159.out 3).trans rfl;have hcz25_4 : w22.cell? ⟨gb159,4,none⟩=some (.slice A0_4 l0_4.length c0_4):=(blk_cell BK159.out 4).trans rfl;have hfz25_0:=blk_frozen BK159.out 0;have hfz25_1:=blk_frozen BK159.out 1;have hfz25_2:=blk_frozen BK159.out 2;have hfz25_3:=blk_frozen BK159.out 3;have hfz25_4:=blk_frozen BK159.out 4)|((with_reducible refine gate_callee (f:=31) rfl ?_);refine goesL_ (some 12) rfl rfl Try.func31 (by kernel_rfl) rfl #[.agg #[.int .u32 a0_0,.int .u64 a0_1,.int .i64 a0_2,.string a0_3,.slice A0_4 l0_4.length c0_4]] rfl (by (try simp only [List.map_toArray,List.map_cons,List.map_nil]);first|done|rfl|(simp only [List.length_drop,List.length_take];rfl)) ?_;(with_reducible refine (node_Leaf.calls k a0_0 a0_1 a0_2 a0_3 _ _ l0_4 t162 t165 _ ?side1 ?side2 A3.out).mono ?_);(case side1=>repeat (first|exact (Kd.C_below HR0_4.out HB.out)|(with_reducible refine Kd.C_alloc ?_ _)|(with_reducible refine Kd.C_drewN ?_ _)|(with_reducible refine Kd.C_drew ?_)));(case side2=>exact HC0_4.out);rintro e w26 ⟨v163,rfl,ho0,hb⟩;refine ⟨_,rfl,?_⟩;have n0_:=Aside0.mk (Kd.R_lower (Kd.R_newB ho0 (g:=gb160) (o:=.cells #[.string a1_0,.int .u32 a1_1,.int .i64 a1_2,.bool a1_3] 47 (0,0)) (by (with_reducible repeat (first|refine blk_drewN ?_ _|refine blk_drew ?_|refine blk_alloc ?_ _));exact BK160.out)) (below_size (by repeat (first|(with_reducible first|exact HB.out|apply below_alloc|apply pw_below_drewN|apply below_drew1|refine below_set ?_ GE159.out|refine below_set ?_ GE160.out|refine below_set ?_ GE161.out)|exact HB.out))));have n1_:=Aside0.mk (blk_below (g:=gb159) (o:=.cells #[.int .u32 a0_0,.int .u64 a0_1,.int .i64 a0_2,.string a0_3,.slice A0_4 l0_4.length c0_4] 28 (0,0)) (by (with_reducible repeat (first|refine blk_drewN ?_ _|refine blk_drew ?_|refine blk_alloc ?_ _));exact BK159.out) hb);have n2_:=Aside0.mk (blk_below (g:=gb160) (o:=.cells #[.string a1_0,.int .u32 a1_1,.int .i64 a1_2,.bool a1_3] 47 (0,0)) (by (with_reducible repeat (first|refine blk_drewN ?_ _|refine blk_drew ?_|refine blk_alloc ?_ _));exact BK160.out) hb);have n3_:=Aside0.mk (blk_below (g:=gb161) (o:=.cells #[.int .i64 0,.int .i64 0,.string (⟨#[]⟩ : ByteArray),.string (⟨#[]⟩ : ByteArray)] 38 (0,0)) (by (with_reducible repeat (first|refine blk_drewN ?_ _|refine blk_drew ?_|refine blk_alloc ?_ _));exact BK161.out) hb);have n4_:=Aside0.mk (below_step (by repeat (first|(with_reducible first|exact HB.out|apply below_alloc|apply pw_below_drewN|apply below_drew1|refine below_set ?_ GE159.out|refine below_set ?_ GE160.out|refine below_set ?_ GE161.out)|exact HB.out)) hb);clear BK159;clear BK160;clear BK161;clear HB;have HO164:=n0_;have BK159:=n1_;have BK160:=n2_;have BK161:=n3_;have HB:=n4_;clear n0_ n1_ n2_ n3_ n4_;(try clear hb);(try clear hb2);(try clear hk);(try clear hi);(try clear ho0);have hnb27:=NB160_161.out;have hnc27:=NB161_160.out;have hcz28_0 : w26.cell? ⟨gb160,0,none⟩=some (.string a1_0):=(blk_cell BK160.out 0).trans rfl;have hcz28_1 : w26.cell? ⟨gb160,1,none⟩=some (.int .u32 a1_1):=(blk_cell BK160.out 1).trans rfl;have hcz28_2 : w26.cell? ⟨gb160,2,none⟩=some (.int .i64 a1_2):=(blk_cell BK160.out 2).trans rfl;have hcz28_3 : w26.cell? ⟨gb160,3,none⟩=some (.bool a1_3):=(blk_cell BK160.out 3).trans rfl;have hfz28_0:=blk_frozen BK160.out 0;have hfz28_1:=blk_frozen BK160.out 1;have hfz28_2:=blk_frozen BK160.out 2;have hfz28_3:=blk_frozen BK160.out 3;obtain ⟨Ao29,co29,eo29⟩:=Kd.R_slice HO164.out;subst eo29)|((with_reducible refine gate_callee (f:=18) rfl ?_);refine goesL_ (some 23) rfl rfl Try.func18 (by kernel_rfl) rfl #[.slice Ao29 t162.length co29,.agg #[.string a1_0,.int .u32 a1_1,.int .i64 a1_2]] rfl (by (try simp only [List.map_toArray,List.map_cons,List.map_nil]);first|done|rfl|(simp only [List.length_drop,List.length_take];rfl)) ?_;(with_reducible refine (node_Find.calls _ _ t162 a1_0 a1_1 a1_2 t166 false _ ?side1 ?side2 A5.out).mono ?_);(case side1=>repeat (first|exact (Kd.R_reads' HO164.out).2.2|(with_reducible refine Kd.C_alloc ?_ _)|(with_reducible refine Kd.C_drewN ?_ _)|(with_reducible refine Kd.C_drew ?_)));(case side2=>exact (Kd.R_reads' HO164.out).2.1);rintro e w30 ⟨rfl,hb⟩;refine ⟨_,rfl,?_⟩;have n0_:=Aside0.mk (Kd.R_below (by (with_reducible repeat (first|apply Kd.R_alloc|apply Kd.R_drewN|apply Kd.R_drew));exact HO164.out) hb);have n1_:=Aside0.mk (blk_below (g:=gb159) (o:=.cells #[.int .u32 a0_0,.int .u64 a0_1,.int .i64 a0_2,.string a0_3,.slice A0_4 l0_4.length c0_4] 28 (0,0)) (by (with_reducible repeat (first|refine blk_drewN ?_ _|refine blk_drew ?_|refine blk_alloc ?_ _));exact BK159.out) hb);have n2_:=Aside0.mk (blk_below (g:=gb160) (o:=.cells #[.string a1_0,.int .u32 a1_1,.int .i64 a1_2,.bool a1_3] 47 (0,0)) (by (with_reducible repeat (first|refine blk_drewN ?_ _|refine blk_drew ?_|refine blk_alloc ?_ _));exact BK160.out) hb);have n3_:=Aside0.mk (blk_below (g:=gb161) (o:=.cells #[.int .i64 0,.int .i64 0,.string (⟨#[]⟩ : ByteArray),.string (⟨#[]⟩ : ByteArray)] 38 (0,0)) (by (with_reducible repeat (first|refine blk_drewN ?_ _|refine blk_drew ?_|refine blk_alloc ?_ _));exact BK161.out) hb);have n4_:=Aside0.mk (below_step (by repeat (first|(with_reducible first|exact HB.out|apply below_alloc|apply pw_below_drewN|apply below_drew1|refine below_set ?_ GE159.out|refine below_set ?_ GE160.out|refine below_set ?_ GE161.out)|exact HB.out)) hb);clear HO164;clear BK159;clear BK160;clear BK161;clear HB;have HO164:=n0_;have BK159:=n1_;have BK160:=n2_;have BK161:=n3_;have HB:=n4_;clear n0_ n1_ n2_ n3_ n4_;(try clear hb);(try clear hb2);(try clear hk);(try clear hi);have hcz31_0 : w30.cell? ⟨gb160,0,none⟩=some (.string a1_0):=(blk_cell BK160.out 0).trans rfl;have hcz31_1 : w30.cell? ⟨gb160,1,none⟩=some (.int .u32 a1_1):=(blk_cell BK160.out 1).trans rfl;have hcz31_2 : w30.cell? ⟨gb160,2,none⟩=some (.int .i64 a1_2):=(blk_cell BK160.out 2).trans rfl;have hcz31_3 : w30.cell? ⟨gb160,3,none⟩=some (.bool a1_3):=(blk_cell BK160.out 3).trans rfl;have hfz31_0:=blk_frozen BK160.out 0;have hfz31_1:=blk_frozen BK160.out 1;have hfz31_2:=blk_frozen BK160.out 2;have hfz31_3:=blk_frozen BK160.out 3)|((with_reducible refine gate_callee (f:=38) rfl ?_);refine goesL_ (some 30) rfl rfl Try.func38 (by kernel_rfl) rfl #[.agg #[.string a1_0,.int .u32 a1_1,.int .i64 a1_2,.bool a1_3]] rfl (by (try simp only [List.map_toArray,List.map_cons,List.map_nil]);first|done|rfl|(simp only [List.length_drop,List.length_take];rfl)) ?_;(with_reducible refine (node_leafSlot.calls a1_0 a1_1 a1_2 a1_3 t168 _ A19.out).mono ?_);rintro e w32 ⟨rfl,hb⟩;refine ⟨_,rfl,?_⟩;have n0_:=Aside0.mk (Kd.R_below (by (with_reducible repeat (first|apply Kd.R_alloc|apply Kd.R_drewN|apply Kd.R_drew));exact HO164.out) hb);have n1_:=Aside0.mk (blk_below (g:=gb159) (o:=.cells #[.int .u32 a0_0,.int .u64 a0_1,.int .i64 a0_2,.string a0_3,.slice A0_4 l0_4.length c0_4] 28 (0,0)) (by (with_reducible repeat (first|refine blk_drewN ?_ _|refine blk_drew ?_|refine blk_alloc ?_ _));exact BK159.out) hb);have n2_:=Aside0.mk (blk_below (g:=gb160) (o:=.cells #[.string a1_0,.int .u32 a1_1,.int .i64 a1_2,.bool a1_3] 47 (0,0)) (by (with_reducible repeat (first|refine blk_drewN ?_ _|refine blk_drew ?_|refine blk_alloc ?_ _));exact BK160.out) hb);have n3_:=Aside0.mk (blk_below (g:=gb161) (o:=.cells #[.int .i64 0,.int .i64 0,.string (⟨#[]⟩ : ByteArray),.string (⟨#[]⟩ : ByteArray)] 38 (0,0)) (by (with_reducible repeat (first|refine blk_drewN ?_ _|refine blk_drew ?_|refine blk_alloc ?_ _));exact BK161.out) hb);have n4_:=Aside0.mk (below_step (by repeat (first|(with_reducible first|exact HB.out|apply below_alloc|apply pw_below_drewN|apply below_drew1|refine below_set ?_ GE159.out|refine below_set ?_ GE160.out|refine below_set ?_ GE161.out)|exact HB.out)) hb);clear HO164;clear BK159;clear BK160;clear BK161;clear HB;have HO164:=n0_;have BK159:=n1_;have BK160:=n2_;have BK161:=n3_;have HB:=n4_;clear n0_ n1_ n2_ n3_ n4_;(try clear hb);(try clear hb2);(try clear hk);(try clear hi);have hcz33_0 : w32.cell? ⟨gb161,0,none⟩=some (.int .i64 0):=(blk_cell BK161.out 0).trans rfl;have hcz33_1 : w32.cell? ⟨gb161,1,none⟩=some (.int .i64 0):=(blk_cell BK161.out 1).trans rfl;have hcz33_2 : w32.cell? ⟨gb161,2,none⟩=some (.string (⟨#[]⟩ : ByteArray)):=(blk_cell BK161.out 2).trans rfl;have hcz33_3 : w32.cell? ⟨gb161,3,none⟩=some (.string (⟨#[]⟩ : ByteArray)):=(blk_cell BK161.out 3).trans rfl;have hfz33_0:=blk_frozen BK161.out 0;have hfz33_1:=blk_frozen BK161.out 1;have hfz33_2:=blk_frozen BK161.out 2;have hfz33_3:=blk_frozen BK161.out 3))
   refine bodyPost_ret (results_ct rfl _ _ gb161 38 #[.int .i64 2,.int .i64 t166,.string t168,.string (⟨#[]⟩ : ByteArray)] (0,0) _ rfl (by (with_reducible repeat (first|refine blk_drewN ?_ _|refine blk_drew ?_|refine blk_alloc ?_ _));refine blk_put (cs:=#[.int .i64 2,.int .i64 t166,.string t168,.string (⟨#[]⟩ : ByteArray)]) ?_ 3 _ rfl;(with_reducible repeat (first|refine blk_drewN ?_ _|refine blk_drew ?_|refine blk_alloc ?_ _));refine blk_put (cs:=#[.int .i64 2,.int .i64 t166,.string (⟨#[]⟩ : ByteArray),.string (⟨#[]⟩ : ByteArray)]) ?_ 2 _ rfl;(with_reducible repeat (first|refine blk_drewN ?_ _|refine blk_drew ?_|refine blk_alloc ?_ _));refine blk_put (cs:=#[.int .i64 2,.int .i64 0,.string (⟨#[]⟩ : ByteArray),.string (⟨#[]⟩ : ByteArray)]) ?_ 1 _ rfl;(with_reducible repeat (first|refine blk_drewN ?_ _|refine blk_drew ?_|refine blk_alloc ?_ _));refine blk_put (cs:=#[.int .i64 0,.int .i64 0,.string (⟨#[]⟩ : ByteArray),.string (⟨#[]⟩ : ByteArray)]) ?_ 0 _ rfl;(with_reducible repeat (first|refine blk_drewN ?_ _|refine blk_drew ?_|refine blk_alloc ?_ _));exact BK161.out) Try.underlying38 rfl (by kernel_rfl)) rfl ?_
   exact ⟨by first|rfl|(simp [errW_none,errW_some] <;> rfl)|(simp [*,errW_none,errW_some] <;> rfl),by repeat (first|(with_reducible first|exact HB.out|apply below_alloc|apply pw_below_drewN|apply below_drew1|refine below_set ?_ GE159.out|refine below_set ?_ GE160.out|refine below_set ?_ GE161.out)|exact HB.out)⟩
 ·rw [if_neg c4] at H
  have c4b0 : (t165 == 0)=false:=beq_eq_false_iff_ne.mpr c4
  have c4b1 : (t165 != 0)=true:=bne_iff_ne.mpr c4
  simp only [Option.some.injEq,Prod.mk.injEq] at H
  obtain ⟨rfl,rfl,rfl,rfl,rfl⟩:=H
  go_enter Try.func14,Try.ntmps14
  go_wp2_with (first|((with_reducible refine gate_dst (N:=2) rfl ?_);refine box_event ?hg (N:=2) ?hd (cs:=#[.int .u32 a0_0,.int .u64 a0_1,.int .i64 a0_2,.string a0_3,.slice A0_4 l0_4.length c0_4]) (t:=28) ?hr ?_;(case hd=>rfl);(case hg=>rfl);(case hr=>first|(go_simp;done)|(go_simp;rfl));intro gb159 hg w34 hbox hb;have n0_:=Aside0.mk (below_step (by repeat (first|(with_reducible first|exact HB.out|apply below_alloc|apply pw_below_drewN|apply below_drew1)|exact HB.out)) hb);have n1_:=Aside0.mk (hbox);have n2_:=Aside0.mk ((by rw [hg];exact (below_size (by repeat (first|(with_reducible first|exact HB.out|apply below_alloc|apply pw_below_drewN|apply below_drew1)|exact HB.out))) : w.heap.size≤gb159));have n3_:=Aside0.mk ((by rw [hg];exact (below_size (by repeat (first|(with_reducible first|exact HB.out|apply below_alloc|apply pw_below_drewN|apply below_drew1)|exact HB.out))) : w.heap.size≤gb159));clear HB;have HB:=n0_;have BK159:=n1_;have GW159:=n2_;have GE159:=n3_;clear n0_ n1_ n2_ n3_;clear hb hbox hg)|((with_reducible refine gate_dst (N:=3) rfl ?_);refine box_event ?hg (N:=3) ?hd (cs:=#[.string a1_0,.int .u32 a1_1,.int .i64 a1_2,.bool a1_3]) (t:=47) ?hr ?_;(case hd=>rfl);(case hg=>rfl);(case hr=>first|(go_simp;done)|(go_simp;rfl));intro gb160 hg w35 hbox hb;have n0_:=Aside0.mk (blk_below (g:=gb159) (o:=.cells #[.int .u32 a0_0,.int .u64 a0_1,.int .i64 a0_2,.string a0_3,.slice A0_4 l0_4.length c0_4] 28 (0,0)) (by (with_reducible repeat (first|refine blk_drewN ?_ _|refine blk_drew ?_|refine blk_alloc ?_ _));exact BK159.out) hb);have n1_:=Aside0.mk (below_step (by repeat (first|(with_reducible first|exact HB.out|apply below_alloc|apply pw_below_drewN|apply below_drew1|refine below_set ?_ GE159.out)|exact HB.out)) hb);have n2_:=Aside0.mk (hbox);have n3_:=Aside0.mk ((by rw [hg];exact (below_size (by repeat (first|(with_reducible first|exact HB.out|apply below_alloc|apply pw_below_drewN|apply below_drew1|refine below_set ?_ GE159.out)|exact HB.out))) : w.heap.size≤gb160));have n4_:=Aside0.mk ((by rw [hg];exact (below_size (by repeat (first|(with_reducible first|exact HB.out|apply below_alloc|apply pw_below_drewN|apply below_drew1|refine below_set ?_ GE159.out)|exact HB.out))) : w.heap.size≤gb160));have n5_:=Aside0.mk ((by rw [hg];exact Nat.ne_of_lt (blk_lt (g:=gb159) (o:=.cells #[.int .u32 a0_0,.int .u64 a0_1,.int .i64 a0_2,.string a0_3,.slice A0_4 l0_4.length c0_4] 28 (0,0)) (by (with_reducible repeat (first|refine blk_drewN ?_ _|refine blk_drew ?_|refine blk_alloc ?_ _));exact BK159.out)) : gb159≠gb160));have n6_:=Aside0.mk ((by rw [hg];exact Nat.ne_of_gt (blk_lt (g:=gb159) (o:=.cells #[.int .u32 a0_0,.int .u64 a0_1,.int .i64 a0_2,.string a0_3,.slice A0_4 l0_4.length c0_4] 28 (0,0)) (by (with_reducible repeat (first|refine blk_drewN ?_ _|refine blk_drew ?_|refine blk_alloc ?_ _));exact BK159.out)) : gb160≠gb159));clear BK159;clear HB;have BK159:=n0_;have HB:=n1_;have BK160:=n2_;have GW160:=n3_;have GE160:=n4_;have NB159_160:=n5_;have NB160_159:=n6_;clear n0_ n1_ n2_ n3_ n4_ n5_ n6_;clear hb hbox hg)|((with_reducible refine gate_dst (N:=4) rfl ?_);refine box_event ?hg (N:=4) ?hd (cs:=#[.int .i64 0,.int .i64 0,.string (⟨#[]⟩ : ByteArray),.string (⟨#[]⟩ : ByteArray)]) (t:=38) ?hr ?_;(case hd=>rfl);(case hg=>rfl);(case hr=>first|(go_simp;done)|(go_simp;rfl));intro gb161 hg w36 hbox hb;have n0_:=Aside0.mk (blk_below (g:=gb159) (o:=.cells #[.int .u32 a0_0,.int .u64 a0_1,.int .i64 a0_2,.string a0_3,.slice A0_4 l0_4.length c0_4] 28 (0,0)) (by (with_reducible repeat (first|refine blk_drewN ?_ _|refine blk_drew ?_|refine blk_alloc ?_ _));exact BK159.out) hb);have n1_:=Aside0.mk (blk_below (g:=gb160) (o:=.cells #[.string a1_0,.int .u32 a1_1,.int .i64 a1_2,.bool a1_3] 47 (0,0)) (by (with_reducible repeat (first|refine blk_drewN ?_ _|refine blk_drew ?_|refine blk_alloc ?_ _));exact BK160.out) hb);have n2_:=Aside0.mk (below_step (by repeat (first|(with_reducible first|exact HB.out|apply below_alloc|apply pw_below_drewN|apply below_drew1|refine below_set ?_ GE159.out|refine below_set ?_ GE160.out)|exact HB.out)) hb);have n3_:=Aside0.mk (hbox);have n4_:=Aside0.mk ((by rw [hg];exact (below_size (by repeat (first|(with_reducible first|exact HB.out|apply below_alloc|apply pw_below_drewN|apply below_drew1|refine below_set ?_ GE159.out|refine below_set ?_ GE160.out)|exact HB.out))) : w.heap.size≤gb161));have n5_:=Aside0.mk ((by rw [hg];exact (below_size (by repeat (first|(with_reducible first|exact HB.out|apply below_alloc|apply pw_below_drewN|apply below_drew1|refine below_set ?_ GE159.out|refine below_set ?_ GE160.out)|exact HB.out))) : w.heap.size≤gb161));have n6_:=Aside0.mk ((by rw [hg];exact Nat.ne_of_lt (blk_lt (g:=gb159) (o:=.cells #[.int .u32 a0_0,.int .u64 a0_1,.int .i64 a0_2,.string a0_3,.slice A0_4 l0_4.length c0_4] 28 (0,0)) (by (with_reducible repeat (first|refine blk_drewN ?_ _|refine blk_drew ?_|refine blk_alloc ?_ _));exact BK159.out)) : gb159≠gb161));have n7_:=Aside0.mk ((by rw [hg];exact Nat.ne_of_gt (blk_lt (g:=gb159) (o:=.cells #[.int .u32 a0_0,.int .u64 a0_1,.int .i64 a0_2,.string a0_3,.slice A0_4 l0_4.length c0_4] 28 (0,0)) (by (with_reducible repeat (first|refine blk_drewN ?_ _|refine blk_drew ?_|refine blk_alloc ?_ _));exact BK159.out)) : gb161≠gb159));have n8_:=Aside0.mk ((by rw [hg];exact Nat.ne_of_lt (blk_lt (g:=gb160) (o:=.cells #[.string a1_0,.int .u32 a1_1,.int .i64 a1_2,.bool a1_3] 47 (0,0)) (by (with_reducible repeat (first|refine blk_drewN ?_ _|refine blk_drew ?_|refine blk_alloc ?_ _));exact BK160.out)) : gb160≠gb161));have n9_:=Aside0.mk ((by rw [hg];exact Nat.ne_of_gt (blk_lt (g:=gb160) (o:=.cells #[.string a1_0,.int .u32 a1_1,.int .i64 a1_2,.bool a1_3] 47 (0,0)) (by (with_reducible repeat (first|refine blk_drewN ?_ _|refine blk_drew ?_|refine blk_alloc ?_ _));exact BK160.out)) : gb161≠gb160));clear BK159;clear BK160;clear HB;have BK159:=n0_;have BK160:=n1_;have HB:=n2_;have BK161:=n3_;have GW161:=n4_;have GE161:=n5_;have NB159_161:=n6_;have NB161_159:=n7_;have NB160_161:=n8_;have NB161_160:=n9_;clear n0_ n1_ n2_ n3_ n4_ n5_ n6_ n7_ n8_ n9_;clear hb hbox hg;have hnb37:=NB159_160.out;have hnc37:=NB160_159.out;have hnb38:=NB159_161.out;have hnc38:=NB161_159.out;have hcz39_0 : w36.cell? ⟨gb159,0,none⟩=some (.int .u32 a0_0):=(blk_cell BK159.out 0).trans rfl;have hcz39_1 : w36.cell? ⟨gb159,1,none⟩=some (.int .u64 a0_1):=(blk_cell BK159.out 1).trans rfl;have hcz39_2 : w36.cell? ⟨gb159,2,none⟩=some (.int .i64 a0_2):=(blk_cell BK159.out 2).trans rfl;have hcz39_3 : w36.cell? ⟨gb159,3,none⟩=some (.string a0_3):=(blk_cell BK159.out 3).trans rfl;have hcz39_4 : w36.cell? ⟨gb159,4,none⟩=some (.slice A0_4 l0_4.length c0_4):=(blk_cell BK159.out 4).trans rfl;have hfz39_0:=blk_frozen BK159.out 0;have hfz39_1:=blk_frozen BK159.out 1;have hfz39_2:=blk_frozen BK159.out 2;have hfz39_3:=blk_frozen BK159.out 3;have hfz39_4:=blk_frozen BK159.out 4)|((with_reducible refine gate_callee (f:=31) rfl ?_);refine goesL_ (some 12) rfl rfl Try.func31 (by kernel_rfl) rfl #[.agg #[.int .u32 a0_0,.int .u64 a0_1,.int .i64 a0_2,.string a0_3,.slice A0_4 l0_4.length c0_4]] rfl (by (try simp only [List.map_toArray,List.map_cons,List.map_nil]);first|done|rfl|(simp only [List.length_drop,List.length_take];rfl)) ?_;(with_reducible refine (node_Leaf.calls k a0_0 a0_1 a0_2 a0_3 _ _ l0_4 t162 t165 _ ?side1 ?side2 A3.out).mono ?_);(case side1=>repeat (first|exact (Kd.C_below HR0_4.out HB.out)|(with_reducible refine Kd.C_alloc ?_ _)|(with_reducible refine Kd.C_drewN ?_ _)|(with_reducible refine Kd.C_drew ?_)));(case side2=>exact HC0_4.out);rintro e w40 ⟨v163,rfl,ho0,hb⟩;refine ⟨_,rfl,?_⟩;have n0_:=Aside0.mk (Kd.R_lower (Kd.R_newB ho0 (g:=gb160) (o:=.cells #[.string a1_0,.int .u32 a1_1,.int .i64 a1_2,.bool a1_3] 47 (0,0)) (by (with_reducible repeat (first|refine blk_drewN ?_ _|refine blk_drew ?_|refine blk_alloc ?_ _));exact BK160.out)) (below_size (by repeat (first|(with_reducible first|exact HB.out|apply below_alloc|apply pw_below_drewN|apply below_drew1|refine below_set ?_ GE159.out|refine below_set ?_ GE160.out|refine below_set ?_ GE161.out)|exact HB.out))));have n1_:=Aside0.mk (blk_below (g:=gb159) (o:=.cells #[.int .u32 a0_0,.int .u64 a0_1,.int .i64 a0_2,.string a0_3,.slice A0_4 l0_4.length c0_4] 28 (0,0)) (by (with_reducible repeat (first|refine blk_drewN ?_ _|refine blk_drew ?_|refine blk_alloc ?_ _));exact BK159.out) hb);have n2_:=Aside0.mk (blk_below (g:=gb160) (o:=.cells #[.string a1_0,.int .u32 a1_1,.int .i64 a1_2,.bool a1_3] 47 (0,0)) (by (with_reducible repeat (first|refine blk_drewN ?_ _|refine blk_drew ?_|refine blk_alloc ?_ _));exact BK160.out) hb);have n3_:=Aside0.mk (blk_below (g:=gb161) (o:=.cells #[.int .i64 0,.int .i64 0,.string (⟨#[]⟩ : ByteArray),.string (⟨#[]⟩ : ByteArray)] 38 (0,0)) (by (with_reducible repeat (first|refine blk_drewN ?_ _|refine blk_drew ?_|refine blk_alloc ?_ _));exact BK161.out) hb);have n4_:=Aside0.mk (below_step (by repeat (first|(with_reducible first|exact HB.out|apply below_alloc|apply pw_below_drewN|apply below_drew1|refine below_set ?_ GE159.out|refine below_set ?_ GE160.out|refine below_set ?_ GE161.out)|exact HB.out)) hb);clear BK159;clear BK160;clear BK161;clear HB;have HO164:=n0_;have BK159:=n1_;have BK160:=n2_;have BK161:=n3_;have HB:=n4_;clear n0_ n1_ n2_ n3_ n4_;(try clear hb);(try clear hb2);(try clear hk);(try clear hi);(try clear ho0);have hnb41:=NB161_160.out;have hnc41:=NB160_161.out;have hcz42_0 : w40.cell? ⟨gb161,0,none⟩=some (.int .i64 0):=(blk_cell BK161.out 0).trans rfl;have hcz42_1 : w40.cell? ⟨gb161,1,none⟩=some (.int .i64 0):=(blk_cell BK161.out 1).trans rfl;have hcz42_2 : w40.cell? ⟨gb161,2,none⟩=some (.string (⟨#[]⟩ : ByteArray)):=(blk_cell BK161.out 2).trans rfl;have hcz42_3 : w40.cell? ⟨gb161,3,none⟩=some (.string (⟨#[]⟩ : ByteArray)):=(blk_cell BK161.out 3).trans rfl;have hfz42_0:=blk_frozen BK161.out 0;have hfz42_1:=blk_frozen BK161.out 1;have hfz42_2:=blk_frozen BK161.out 2;have hfz42_3:=blk_frozen BK161.out 3))
  refine bodyPost_ret (results_ct rfl _ _ gb161 38 #[.int .i64 0,.int .i64 0,.string (⟨#[]⟩ : ByteArray),.string (⟨#[]⟩ : ByteArray)] (0,0) _ rfl (by (with_reducible repeat (first|refine blk_drewN ?_ _|refine blk_drew ?_|refine blk_alloc ?_ _));refine blk_put (cs:=#[.int .i64 0,.int .i64 0,.string (⟨#[]⟩ : ByteArray),.string (⟨#[]⟩ : ByteArray)]) ?_ 3 _ rfl;(with_reducible repeat (first|refine blk_drewN ?_ _|refine blk_drew ?_|refine blk_alloc ?_ _));refine blk_put (cs:=#[.int .i64 0,.int .i64 0,.string (⟨#[]⟩ : ByteArray),.string (⟨#[]⟩ : ByteArray)]) ?_ 2 _ rfl;(with_reducible repeat (first|refine blk_drewN ?_ _|refine blk_drew ?_|refine blk_alloc ?_ _));refine blk_put (cs:=#[.int .i64 0,.int .i64 0,.string (⟨#[]⟩ : ByteArray),.string (⟨#[]⟩ : ByteArray)]) ?_ 1 _ rfl;(with_reducible repeat (first|refine blk_drewN ?_ _|refine blk_drew ?_|refine blk_alloc ?_ _));refine blk_put (cs:=#[.int .i64 0,.int .i64 0,.string (⟨#[]⟩ : ByteArray),.string (⟨#[]⟩ : ByteArray)]) ?_ 0 _ rfl;(with_reducible repeat (first|refine blk_drewN ?_ _|refine blk_drew ?_|refine blk_alloc ?_ _));exact BK161.out) Try.underlying38 rfl (by kernel_rfl)) rfl ?_
  exact ⟨by first|rfl|(simp [errW_none,errW_some] <;> rfl)|(simp [*,errW_none,errW_some] <;> rfl),by repeat (first|(with_reducible first|exact HB.out|apply below_alloc|apply pw_below_drewN|apply below_drew1|refine below_set ?_ GE159.out|refine below_set ?_ GE160.out|refine below_set ?_ GE161.out)|exact HB.out)⟩
end Go.Proofs.Ytfegabikfkmepaa.PNe
end
