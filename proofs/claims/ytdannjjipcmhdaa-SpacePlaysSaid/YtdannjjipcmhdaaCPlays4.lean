/- Pages are taken, the least first, claimed and made free; each change turns just one bit over: for every number of pages taken ahead and every list of acts; no condition. -/
import Derived.Test.YtdannjjipcmhdaaCPlays3
section
namespace Go.Proofs.Ytdannjjipcmhdaa
open Go.RowKit Go.Gi Go.GiRow Go.Proofs.YtdannjjipcmhdaaW.PrintWords Go.Proofs.YtdannjjipcmhdaaW.PrintLast Go.Proofs.YtdannjjipcmhdaaW.PrintMore PSp
set_option maxRecDepth 20000
set_option linter.unusedSimpArgs false
set_option linter.unusedVariables false
def hasC (H : Nat → Bool) : Array Value := ((List.range 2050).map fun i => Value.bool (H i)).toArray
theorem hasC_size (H : Nat → Bool) : (hasC H).size = 2050 := by simp [hasC]
theorem hasC_at (H : Nat → Bool) (n : Nat) (h : n < 2050) : (hasC H)[n]? = some (.bool (H n)) := by
  unfold hasC
  simp [List.getElem?_range h]
theorem arr_at {w : World} {g : Nat} {H : Nat → Bool} (h : Blk w g 37 (hasC H)) {n : Nat} (hn : n < 2050) : w.cell? ⟨g, n, none⟩ = some (.bool (H n)) := (h.cell n).trans (hasC_at H n hn)
def pgV (l : List Nat) : List Value := l.map fun x : Nat => Value.int .u32 (x : Int)
theorem pgV_at (l : List Nat) (k : Nat) (h : k < l.length) : (pgV l)[k]? = some (.int .u32 (l[k] : Int)) := by simp [pgV, List.getElem?_eq_getElem h]
theorem all_own {w : World} {base : Nat} {V : Value} {s : ByteArray} {H : Nat → Bool} (lsn : Int) (hS : Says s H) (h : OwnP w base V [s]) :
    Calls Try.prog 16 #[.agg (shM lsn V)] w fun e w' => ∃ A c, e = .returned (.slice A (allN H).length c) ∧ w'.ownsRow w.heap.size 24 1 (.slice A (allN H).length c) (allN H).length (pgV (allN H)) ∧ Below w.heap.size w w' := by
  obtain ⟨A, c, rfl, hc, hC⟩ := own_C h
  refine (space_All.calls 2049 1 lsn 1 ⟨#[]⟩ A c [s] ((allN H).map (fun x : Nat => (x : Int))) w hC hc (all_in (num := 1) (lsn := lsn) (head := ⟨#[]⟩) (isB_map hS.sz) hS 2049 (Nat.le_refl _))).mono ?_
  rintro e w' ⟨v, rfl, hR, hb⟩
  have ho := Kd.own_of_R hR
  have e1 : ((allN H).map (fun x : Nat => (x : Int))).length = (allN H).length := List.length_map ..
  have ho' : w'.ownsRow w.heap.size 24 1 v (allN H).length (pgV (allN H)) := by
    have h2 := ho
    rw [e1] at h2
    have e2 : pgV (allN H) = (((allN H).map (fun x : Nat => (x : Int))).map fun x => Value.int .u32 x) := by unfold pgV; rw [List.map_map]; rfl
    rw [e2]
    exact h2
  obtain ⟨A2, c2, hv⟩ := own_sl ho'
  subst hv
  exact ⟨A2, c2, rfl, ho', hb⟩
theorem taken_own {w : World} {base : Nat} {V : Value} {s : ByteArray} {H : Nat → Bool} (lsn : Int) (n : Nat) (hS : Says s H) (hn : n < 2050) (h : OwnP w base V [s]) :
    Calls Try.prog 15 #[.agg (shM lsn V), .int .u32 n] w fun e w' => e = .returned (.bool (H n)) ∧ Below w.heap.size w w' := by
  obtain ⟨A, c, rfl, hc, hC⟩ := own_C h
  have hB := isB_map hS.sz
  refine space_Taken.calls 1 lsn 1 ⟨#[]⟩ A c [s] n (H n) w hC hc ?_
  by_cases h0 : 1 ≤ n ∧ n ≤ 2048
  · rw [taken_in 1 lsn 1 ⟨#[]⟩ [s] hB n h0.1 h0.2]
    exact congrArg some (hS.mid n h0.1 h0.2)
  · rw [taken_out 1 lsn 1 ⟨#[]⟩ [s] hB n (by omega)]
    rcases (show n = 0 ∨ n = 2049 by omega) with rfl | rfl
    · rw [hS.lo]
    · rw [hS.hi]
theorem is_own {w : World} {base : Nat} {V : Value} {s : ByteArray} (lsn : Int) (hs : s.size = 256) (h : OwnP w base V [s]) :
    Calls Try.prog 14 #[.agg (shM lsn V)] w fun e w' => e = .returned (.bool true) ∧ Below w.heap.size w w' := by
  obtain ⟨A, c, rfl, hc, hC⟩ := own_C h
  exact space_Is.calls 1 lsn 1 ⟨#[]⟩ A c [s] true w hC hc (by rw [is_f, isB_map hs])
theorem count_own {w : World} {base : Nat} {V : Value} {s : ByteArray} {H : Nat → Bool} (lsn : Int) (hS : Says s H) (h : OwnP w base V [s]) :
    Calls Try.prog 17 #[.agg (shM lsn V)] w fun e w' => e = .returned (.int .i64 ((allN H).length : Nat)) ∧ Below w.heap.size w w' := by
  obtain ⟨A, c, rfl, hc, hC⟩ := own_C h
  refine space_Count.calls 2049 1 lsn 1 ⟨#[]⟩ A c [s] ((allN H).length : Nat) w hC hc ?_
  unfold space_Count.f space_All.f
  rw [all_in (num := 1) (lsn := lsn) (head := ⟨#[]⟩) (isB_map hS.sz) hS 2049 (Nat.le_refl _), Option.bind_some, List.length_map]
theorem pgRow {w : World} {base T c : Nat} {A : Option Addr} {l : List Nat} (h : w.ownsRow base T 1 (.slice A l.length c) l.length (pgV l)) (k : Nat) (hk : k < l.length) : ∃ b, A = some ⟨b, 0, none⟩ ∧ w.cell? ⟨b, k, none⟩ = some (.int .u32 (l[k] : Int)) := by
  obtain ⟨b, hb⟩ := own_some h (by omega)
  subst hb
  refine ⟨b, rfl, ?_⟩
  have h1 := h.cellAt k (by omega)
  have h2 : w.cell? ⟨b, k, none⟩ = (pgV l)[k]? := by simpa using h1
  rw [h2, pgV_at l k hk]
theorem upto_le (H : Nat → Bool) (n : Nat) : upto H n ≤ n := by
  have := List.length_filter_le H (List.range n)
  rw [List.length_range] at this
  exact this
set_option maxHeartbeats 6000000 in
theorem says_any {w : World} {base : Nat} {V : Value} {s : ByteArray} {H : Nat → Bool} (lsn : Int) (hS : Says s H) (hv : OwnP w base V [s]) :
    Calls Try.prog 13 #[.agg (shM lsn V), .agg (hasC H)] w fun e w' => e = .returned (.bool true) ∧ Below w.heap.size w w' := by
  have HS := Lib.hid hS
  have HV := Lib.hid hv
  clear hS hv
  go_enter Try.func13, Try.ntmps13
  go_upto_region 1 with fail
  have hB := (Blk.new w 29 (shM lsn V)).alloc (.cells (hasC H) 37)
  have hA := Blk.new (w.alloc (.cells (shM lsn V) 29)) 37 (hasC H)
  have hb5 := balloc (balloc (Below.refl w.heap.size w) (.cells (shM lsn V) 29)) (.cells (hasC H) 37)
  have hsz : (w.alloc (.cells (shM lsn V) 29)).heap.size = w.heap.size + 1 := by simp
  rw [hsz] at hA
  have HV1 := Lib.hid (HV.out.below hb5)
  clear HV
  have HV := HV1
  clear HV1 hsz
  have HB := Lib.hid hB
  have HA := Lib.hid hA
  have HK := Lib.hid hb5
  clear hB hA hb5
  generalize ((w.alloc (.cells (shM lsn V) 29)).alloc (.cells (hasC H) 37)) = w1 at *
  go_upto_block 0 with (first | (refine wpList_load_row rfl 29 (.tmp 2) rfl w.heap.size rfl 29 (shM lsn V) (0, 0) _ HB.out Try.underlying29 rfl (by kernel_rfl) ?_) | (go_at_call 16; refine (all_own lsn HS.out HV.out).mono ?_; rintro e w2 ⟨A, c, rfl, ho, hb5⟩; have HL := Lib.hid (own_le ho HK.out.size); clear ho; have n_HB := Lib.hid (HB.out.step hb5); have n_HA := Lib.hid (HA.out.step hb5); have n_HV := Lib.hid (HV.out.below hb5); have n_HK := Lib.hid (bstep HK.out hb5); clear hb5 HB HA HV HK; have HB := n_HB; have HA := n_HA; have HV := n_HV; have HK := n_HK; clear n_HB n_HA n_HV n_HK))
  go_wp2_with fail
  go_loopw [6, 7] (fun kv nv wr => ∃ (n k : Nat), nv = .int .i64 n ∧ kv = .int .i64 k ∧ n ≤ 2050 ∧ Hid (k = upto H n) ∧ Hid (Blk wr w.heap.size 29 (shM lsn V)) ∧ Hid (Blk wr (w.heap.size + 1) 37 (hasC H)) ∧ Hid (OwnP wr base V [s]) ∧ Hid (wr.ownsRow w.heap.size 24 1 (.slice A (allN H).length c) (allN H).length (pgV (allN H))) ∧ Hid (Below w.heap.size w wr))
    (fun _ nv _ => 2050 - (intOf nv).toNat)
  case atStart => exact ⟨0, 0, rfl, rfl, Nat.zero_le _, Lib.hid rfl, HB, HA, HV, HL, HK⟩
  case round =>
    clear HB HA HV HL HK
    obtain ⟨n, k, rfl, rfl, hn0, hk, HB, HA, HV, HL, HK⟩ := hrel
    have hk2 : k ≤ 2050 := by rw [hk.out]; exact Nat.le_trans (upto_le H n) hn0
    by_cases hn : n < 2050
    · have d1 : decide ((n : Int) ≤ 2049) = true := decide_eq_true (by omega)
      have hw1 : IntKind.u32.wrap (n : Int) = n := by rw [IntKind.wrap_u32]; omega
      have hw2 : (n : Int) % 4294967296 = n := by omega
      have i0_ : (0 : Int) ≤ n := by omega
      have i1_ : (n : Int) < 2050 := by omega
      go_upto_region 6 with fail
      have a0 := arr_at HA.out hn
      refine start_ (n := 8) (S := fun w' => Blk w' w.heap.size 29 (shM lsn V) ∧ w'.cell? ⟨(w.heap.size + 1), n, none⟩ = some (.bool (H n))) (ds := []) #[false, false, false, false, false, false, false, false] (by kernel_rfl) rfl rfl ⟨HB.out, a0⟩ (fun hHeld => ?_)
      refine take_ (i := 0) (N := some 14) (v := .agg (shM lsn V)) (a' := ?_) #[true, false, false, false, false, false, false, false] rfl rfl (by kernel_rfl) (fun _ _ _ h => h) (yields_row 29 (.tmp 2) rfl (by rfl) w.heap.size rfl 29 (shM lsn V) (0, 0) _ (fun w_ h => h.1) Try.underlying29 rfl (by kernel_rfl)) hHeld ?_ ?_
      rotate_left
      · simp only [Act.put, List.setIfInBounds_toArray, List.set_cons_zero, List.set_cons_succ]
        rfl
      refine pure_ (i := 1) (N := some 15) (v := ?_) (a' := ?_) #[true, true, false, false, false, false, false, false] rfl rfl (by kernel_rfl) (fun _ _ _ h => h) (Or.inl ⟨by rfl, ?_⟩) ?_ ?_
      rotate_left
      · intro w'
        go_simp
        with_reducible rfl
      rotate_left
      · simp only [Act.put, List.setIfInBounds_toArray, List.set_cons_zero, List.set_cons_succ, i64_w, i32_w]
        rfl
      refine pure_ (i := 2) (N := some 16) (v := ?_) (a' := ?_) #[true, true, true, false, false, false, false, false] rfl rfl (by kernel_rfl) (fun _ _ _ h => h) (Or.inl ⟨by rfl, ?_⟩) ?_ ?_
      rotate_left
      · intro w'
        go_simp
        with_reducible rfl
      rotate_left
      · simp only [Act.put, List.setIfInBounds_toArray, List.set_cons_zero, List.set_cons_succ, i64_w, i32_w]
        rfl
      refine pure_ (i := 4) (N := some 18) (v := ?_) (a' := ?_) #[true, true, true, false, true, false, false, false] rfl rfl (by kernel_rfl) (fun _ _ _ h => h) (Or.inl ⟨by rfl, ?_⟩) ?_ ?_
      rotate_left
      · intro w'
        go_simp
        with_reducible rfl
      rotate_left
      · simp only [Act.put, List.setIfInBounds_toArray, List.set_cons_zero, List.set_cons_succ, i64_w, i32_w]
        rfl
      refine pure_ (i := 5) (N := some 19) (v := ?_) (a' := ?_) #[true, true, true, false, true, true, false, false] rfl rfl (by kernel_rfl) (fun _ _ _ h => h) (Or.inl ⟨by rfl, ?_⟩) ?_ ?_
      rotate_left
      · intro w'
        go_simp
        with_reducible rfl
      rotate_left
      · simp only [Act.put, List.setIfInBounds_toArray, List.set_cons_zero, List.set_cons_succ, i64_w, i32_w]
        rfl
      refine take_ (i := 6) (N := some 20) (v := ?_) (a' := ?_) #[true, true, true, false, true, true, true, false] rfl rfl (by kernel_rfl) (fun _ _ _ h => h) (Or.inl ⟨by rfl, ?_⟩) hHeld ?_ ?_
      rotate_left
      · rintro w' ⟨s0, s1⟩
        go_simp
        with_reducible rfl
      rotate_left
      · simp only [Act.put, List.setIfInBounds_toArray, List.set_cons_zero, List.set_cons_succ, i64_w, i32_w]
        rfl
      have hb5 := bdrew (Below.refl wr.heap.size wr)
      have n_HB := Lib.hid (HB.out.step hb5)
      have n_HA := Lib.hid (HA.out.step hb5)
      have n_HV := Lib.hid (HV.out.below hb5)
      have n_HL := Lib.hid (own_below HL.out hb5)
      have n_HK := Lib.hid (bstep HK.out hb5)
      clear hb5 HB HA HV HL HK
      have HB := n_HB
      have HA := n_HA
      have HV := n_HV
      have HL := n_HL
      have HK := n_HK
      clear n_HB n_HA n_HV n_HL n_HK
      clear hHeld a0
      generalize wr.drew = x1 at *
      refine one_ (i := 3) (N := some 17) #[true, true, true, true, true, true, true, false] rfl rfl (by kernel_rfl) (by decide) (fun K hK => ?_)
      refine goes_ Try.func15 (by kernel_rfl) rfl #[.agg (shM lsn V), .int .u32 (n : Int)] (by rfl) rfl rfl (by (try simp only [List.map_toArray, List.map_cons, List.map_nil]); first | done | rfl) ?_
      refine (taken_own lsn n HS.out hn HV.out).mono ?_
      rintro e_ x2 ⟨rfl, hb5⟩
      have n_HB := Lib.hid (HB.out.step hb5)
      have n_HA := Lib.hid (HA.out.step hb5)
      have n_HV := Lib.hid (HV.out.below hb5)
      have n_HL := Lib.hid (own_below HL.out hb5)
      have n_HK := Lib.hid (bstep HK.out hb5)
      clear hb5 HB HA HV HL HK
      have HB := n_HB
      have HA := n_HA
      have HV := n_HV
      have HL := n_HL
      have HK := n_HK
      clear n_HB n_HA n_HV n_HL n_HK
      refine ⟨_, rfl, ?_⟩
      have a0 := arr_at HA.out hn
      refine hK.out _ _ ⟨HB.out, a0⟩ (fun hHeld => ?_)
      clear hK K hHeld a0
      refine norm_ (a' := ?_) ?_ ?_
      rotate_left
      · show Act.put _ (some 17) _ = _
        simp only [Act.put, List.setIfInBounds_toArray, List.set_cons_zero, List.set_cons_succ]
        rfl
      refine pure_ (i := 7) (N := some 21) (v := .bool false) (a' := ?_) #[true, true, true, true, true, true, true, true] rfl rfl (by kernel_rfl) (fun _ _ _ h => h) (Or.inl ⟨by rfl, ?_⟩) ?_ ?_
      · intro w'
        go_simp
      rotate_left
      · simp only [Act.put, List.setIfInBounds_toArray, List.set_cons_zero, List.set_cons_succ, i64_w, i32_w]
        rfl
      refine done_ (by kernel_rfl) ?_
      have a0 := arr_at HA.out hn
      obtain ⟨b, hb⟩ : ∃ b, H n = b := ⟨_, rfl⟩
      rw [hb] at a0
      cases b with
      | true =>
        have hall := all_at H n hn hb
        rw [← hk.out] at hall
        obtain ⟨hkl, hke⟩ := List.getElem?_eq_some_iff.1 hall
        obtain ⟨bl, hbl, y0⟩ := pgRow HL.out k hkl
        rw [hke] at y0
        subst hbl
        have d2 : decide ((k : Int) ≥ ((allN H).length : Int)) = false := decide_eq_false (by omega)
        have d3 : decide ((allN H).length ≤ k) = false := decide_eq_false (by omega)
        have hke_ := Lib.hid hke
        clear hke hall
        have hb_ := Lib.hid hb
        clear hb
        have i2_ : (0 : Int) ≤ k := by omega
        have i3_ : (k : Int) < (allN H).length := by omega
        go_wp2_with fail
        go_roundw
        case rel => exact ⟨n + 1, k + 1, by go_num, by go_num, by omega, Lib.hid (by rw [upto_succ, hb_.out, hk.out]; rfl), HB, HA, HV, HL, HK⟩
        case measure => simp [intOf]; omega
      | false =>
        go_wp2_with fail
        go_roundw
        case rel => exact ⟨n + 1, k, by go_num, by go_num, by omega, Lib.hid (by rw [upto_succ, hb, hk.out]; rfl), HB, HA, HV, HL, HK⟩
        case measure => simp [intOf]; omega
    · have d1 : decide ((n : Int) ≤ 2049) = false := decide_eq_false (by omega)
      obtain rfl : n = 2050 := by omega
      have hkl : k = (allN H).length := hk.out
      clear hk
      subst hkl
      go_wp2_with (first | (refine wpList_load_row rfl 29 (.tmp 2) rfl w.heap.size rfl 29 (shM lsn V) (0, 0) _ HB.out Try.underlying29 rfl (by kernel_rfl) ?_) | (refine wpList_load_row_on rfl 29 (.tmp 2) rfl w.heap.size rfl 29 (shM lsn V) (0, 0) _ HB.out Try.underlying29 rfl (by kernel_rfl) ?_) | (go_at_call 14; refine (is_own lsn HS.out.sz HV.out).mono ?_; rintro e w5 ⟨rfl, hb5⟩; have n_HB := Lib.hid (HB.out.step hb5); have n_HA := Lib.hid (HA.out.step hb5); have n_HV := Lib.hid (HV.out.below hb5); have n_HL := Lib.hid (own_below HL.out hb5); have n_HK := Lib.hid (bstep HK.out hb5); clear hb5 HB HA HV HL HK; have HB := n_HB; have HA := n_HA; have HV := n_HV; have HL := n_HL; have HK := n_HK; clear n_HB n_HA n_HV n_HL n_HK) | (go_at_call 17; refine (count_own lsn HS.out HV.out).mono ?_; rintro e w6 ⟨rfl, hb5⟩; have n_HB := Lib.hid (HB.out.step hb5); have n_HA := Lib.hid (HA.out.step hb5); have n_HV := Lib.hid (HV.out.below hb5); have n_HL := Lib.hid (own_below HL.out hb5); have n_HK := Lib.hid (bstep HK.out hb5); clear hb5 HB HA HV HL HK; have HB := n_HB; have HA := n_HA; have HV := n_HV; have HL := n_HL; have HK := n_HK; clear n_HB n_HA n_HV n_HL n_HK))
      go_ret
      exact ⟨rfl, HK.out⟩
end Go.Proofs.Ytdannjjipcmhdaa
end
section
namespace Go.Proofs.Ytdannjjipcmhdaa
open Go.RowKit Go.Gi Go.GiRow Go.Proofs.YtdannjjipcmhdaaW.PrintWords Go.Proofs.YtdannjjipcmhdaaW.PrintLast Go.Proofs.YtdannjjipcmhdaaW.PrintMore PSp
set_option maxRecDepth 20000
set_option linter.unusedSimpArgs false
set_option linter.unusedVariables false
structure ActS where
  k : Int
  n : Int
def ActS.cells (a : ActS) : List Value := [.int .i64 a.k, .int .i64 a.n]
theorem hasC_one (H : Nat → Bool) : (hasC H).all (·.oneCell') = true := by
  unfold hasC
  simp [Value.oneCell']
theorem isList {P : Program} {ops : Array Oper} {Q : Exit → Act → World → Prop} {l : List Oper} {a : Act} {w : World} (h : wpList P ops Q l a w) : wpList P ops Q l a w := h
def zeroH : Nat → Bool := fun _ => false
theorem info_arr : (Try.prog.info? 37).map (fun i => i.zero) = some (some (.agg (hasC zeroH))) := by kernel_rfl
theorem hasC_set (H : Nat → Bool) (n : Nat) (b : Bool) (hn : n < 2050) : (hasC H).setIfInBounds n (.bool b) = hasC (fun m => if m = n then b else H m) := by
  have hg : ∀ (G : Nat → Bool) i (h : i < (hasC G).size), (hasC G)[i] = .bool (G i) := fun G i h => (Array.getElem?_eq_some_iff.1 (hasC_at G i (by rw [hasC_size] at h; exact h))).2
  apply Array.ext
  · rw [Array.size_setIfInBounds, hasC_size, hasC_size]
  · intro i h1 h2
    have hi : i < 2050 := by rw [hasC_size] at h2; exact h2
    rw [Array.getElem_setIfInBounds (by rw [hasC_size]; exact hi), hg]
    by_cases e : n = i
    · rw [if_pos e, hg (fun m => if m = n then b else H m) i h2, if_pos e.symm]
    · rw [if_neg e, hg (fun m => if m = n then b else H m) i h2, if_neg (fun h : i = n => e h.symm)]
theorem has_set {w : World} {g : Nat} {H : Nat → Bool} (h : Blk w g 37 (hasC H)) (n : Nat) (b : Bool) (hn : n < 2050) : Blk (w.setCell ⟨g, n, none⟩ (.bool b)) g 37 (hasC (fun m => if m = n then b else H m)) := by
  have := h.set_ n (.bool b)
  rw [hasC_set H n b hn] at this
  exact this
theorem and4095 (x : Int) : ∃ m : Nat, Go.bits .and .i64 x 4095 = (m : Int) ∧ m ≤ 4095 := by
  have h : ((BitVec.ofInt 64 x) &&& (BitVec.ofInt 64 4095)).toNat ≤ 4095 := by
    rw [BitVec.toNat_and]
    exact Nat.le_trans Nat.and_le_right (by decide)
  refine ⟨_, ?_, h⟩
  have e : Go.bits .and .i64 x 4095 = IntKind.i64.wrap (((BitVec.ofInt 64 x) &&& (BitVec.ofInt 64 4095)).toNat : Int) := rfl
  rw [e, IntKind.wrap_i64]
  omega
def Turns (s : ByteArray) (n : Nat) (r1 r2 : Int) (r3 r4 : ByteArray) : Prop := 1 ≤ n ∧ n ≤ 2048 ∧ (r1, r2, r3, r4) = turnR s n
def Rop (r1 r2 : Int) (r3 r4 : ByteArray) (e : Int) : Value := .tuple #[.agg #[.int .i64 r1, .int .i64 r2, .string r3, .string r4], .int .i64 e]
theorem give_all {w : World} {base : Nat} {v : Value} {s : ByteArray} {H : Nat → Bool} (lsn : Int) (m : Nat) (hm : m ≤ 4095) (hS : Says s H) (h : OwnP w base v [s]) (E : Int) (hE : (1 ≤ m ∧ m ≤ 2048 ∧ H m = true ∧ E = 0) ∨ ((m < 1 ∨ 2048 < m ∨ H m = false) ∧ E = 2)) :
    Calls Try.prog 9 #[.agg (shM lsn v), .int .u32 m] w fun e w' => (∃ r1 r2 r3 r4, e = .returned (Rop r1 r2 r3 r4 E) ∧ (E = 0 → Turns s m r1 r2 r3 r4)) ∧ Below w.heap.size w w' := by
  obtain ⟨A, c, rfl, hc, hC⟩ := own_C h
  have hB := isB_map hS.sz
  have e0 : rdOf ByteArray.empty [s] 0 = s := rfl
  rcases hE with ⟨h1, h2, h3, rfl⟩ | ⟨h1, rfl⟩
  · have hg := give_in 1 lsn 1 ⟨#[]⟩ [s] hB m h1 h2 (by rw [e0, hS.mid m h1 h2]; exact h3)
    rw [e0] at hg
    exact (space_Give.calls 1 lsn 1 ⟨#[]⟩ A c [s] m _ _ _ _ _ w hC hc hg).mono fun e w' ⟨he, hb⟩ => ⟨⟨_, _, _, _, he, fun _ => ⟨h1, h2, rfl⟩⟩, hb⟩
  · have ht : space_Taken.f 1 lsn 1 ⟨#[]⟩ [s] m = some false := by
      by_cases h0 : 1 ≤ m ∧ m ≤ 2048
      · rw [taken_in 1 lsn 1 ⟨#[]⟩ [s] hB m h0.1 h0.2, e0, hS.mid m h0.1 h0.2]
        rcases h1 with h1 | h1 | h1
        · omega
        · omega
        · rw [h1]
      · exact taken_out 1 lsn 1 ⟨#[]⟩ [s] hB m (by omega)
    exact (space_Give.calls 1 lsn 1 ⟨#[]⟩ A c [s] m _ _ _ _ _ w hC hc (give_free 1 lsn 1 ⟨#[]⟩ [s] hB m ht)).mono fun e w' ⟨he, hb⟩ => ⟨⟨_, _, _, _, he, fun h => by cases h⟩, hb⟩
theorem claim_all {w : World} {base : Nat} {v : Value} {s : ByteArray} {H : Nat → Bool} (lsn : Int) (m : Nat) (hm : m ≤ 4095) (hS : Says s H) (h : OwnP w base v [s]) (E : Int) (hE : (1 ≤ m ∧ m ≤ 2048 ∧ H m = false ∧ E = 0) ∨ ((m < 1 ∨ 2048 < m ∨ H m = true) ∧ E = 2)) :
    Calls Try.prog 10 #[.agg (shM lsn v), .int .u32 m] w fun e w' => (∃ r1 r2 r3 r4, e = .returned (Rop r1 r2 r3 r4 E) ∧ (E = 0 → Turns s m r1 r2 r3 r4)) ∧ Below w.heap.size w w' := by
  obtain ⟨A, c, rfl, hc, hC⟩ := own_C h
  have hB := isB_map hS.sz
  have e0 : rdOf ByteArray.empty [s] 0 = s := rfl
  rcases hE with ⟨h1, h2, h3, rfl⟩ | ⟨h1, rfl⟩
  · have hg := claim_in 1 lsn 1 ⟨#[]⟩ [s] hB m h1 h2 (by rw [e0, hS.mid m h1 h2]; exact h3)
    rw [e0] at hg
    exact (space_Claim.calls 1 lsn 1 ⟨#[]⟩ A c [s] m _ _ _ _ _ w hC hc hg).mono fun e w' ⟨he, hb⟩ => ⟨⟨_, _, _, _, he, fun _ => ⟨h1, h2, rfl⟩⟩, hb⟩
  · have hg : space_Claim.f 1 lsn 1 ⟨#[]⟩ [s] m = some (0, 0, ⟨#[]⟩, ⟨#[]⟩, 2) := by
      by_cases h0 : 1 ≤ m ∧ m ≤ 2048
      · refine claim_taken 1 lsn 1 ⟨#[]⟩ [s] hB m h0.1 h0.2 ?_
        rw [e0, hS.mid m h0.1 h0.2]
        rcases h1 with h1 | h1 | h1
        · omega
        · omega
        · exact h1
      · exact claim_out 1 lsn 1 ⟨#[]⟩ [s] hB m (by omega)
    exact (space_Claim.calls 1 lsn 1 ⟨#[]⟩ A c [s] m _ _ _ _ _ w hC hc hg).mono fun e w' ⟨he, hb⟩ => ⟨⟨_, _, _, _, he, fun h => by cases h⟩, hb⟩
theorem take_all {w : World} {base : Nat} {v : Value} {s : ByteArray} {H : Nat → Bool} (lsn room : Int) (hS : Says s H) (h : OwnP w base v [s]) (n : Nat) (hn : n = ffrom H 2048 1) (E : Int) (hE : ((n : Int) ≤ room ∧ n ≤ 2048 ∧ E = 0) ∨ (((n : Int) > room ∨ 2048 < n) ∧ E = 20)) :
    Calls Try.prog 11 #[.agg (shM lsn v), .int .i64 room] w fun e w' => (∃ r0 r1 r2 r3 r4, e = .returned (.tuple #[.int .u32 r0, .agg #[.int .i64 r1, .int .i64 r2, .string r3, .string r4], .int .i64 E]) ∧ (E = 0 → r0 = n ∧ Turns s n r1 r2 r3 r4)) ∧ Below w.heap.size w w' := by
  obtain ⟨A, c, rfl, hc, hC⟩ := own_C h
  have hB := isB_map hS.sz
  have e0 : rdOf ByteArray.empty [s] 0 = s := rfl
  have ht := take_in 1 lsn 1 ⟨#[]⟩ [s] hB room 2050 (Nat.le_refl _)
  rw [e0] at ht
  have hf := first_is hS room 2048 1 (by omega) (by omega)
  have hle := (ffrom_le H 2048 1).1
  rw [← hn] at hf hle
  unfold takeR at ht
  rw [hf] at ht
  rcases hE with ⟨h1, h2, rfl⟩ | ⟨h1, rfl⟩
  · rw [if_neg (by omega)] at ht
    exact (space_Take.calls 2050 1 lsn 1 ⟨#[]⟩ A c [s] room _ _ _ _ _ _ w hC hc ht).mono fun e w' ⟨he, hb⟩ => ⟨⟨_, _, _, _, _, he, fun _ => ⟨rfl, hle, h2, rfl⟩⟩, hb⟩
  · rw [if_pos (by omega)] at ht
    exact (space_Take.calls 2050 1 lsn 1 ⟨#[]⟩ A c [s] room _ _ _ _ _ _ w hC hc ht).mono fun e w' ⟨he, hb⟩ => ⟨⟨_, _, _, _, _, he, fun h => by cases h⟩, hb⟩
theorem begun_bad (t : Int) (h : t < 1 ∨ 2048 < t) : girderlaw07_begun.f 1 t = some (1, 0, 0, ⟨#[]⟩, [], false) := by
  unfold girderlaw07_begun.f space_Fresh.f page_Blank.f
  rw [if_pos h, Option.bind_some, Option.bind_some, girderlaw07_begun.l0, if_neg (by simp)]
  rfl
theorem h0_eq : zeroH = fun n => decide (1 ≤ n ∧ n < 1) := by funext n; exact (decide_eq_false (by omega)).symm
theorem h1_eq (i : Nat) (hi : 1 ≤ i) : (fun m => if m = i then true else decide (1 ≤ m ∧ m < i)) = fun n => decide (1 ≤ n ∧ n < i + 1) := by
  funext m
  by_cases h : m = i
  · rw [if_pos h]; exact (decide_eq_true (by omega)).symm
  · rw [if_neg h]
    have : (1 ≤ m ∧ m < i) ↔ (1 ≤ m ∧ m < i + 1) := by omega
    simp only [this]
theorem h2_eq (t : Nat) : (fun n => decide (1 ≤ n ∧ n < t + 1)) = fun n => decide (1 ≤ n ∧ n ≤ t) := by
  funext m
  have : (1 ≤ m ∧ m < t + 1) ↔ (1 ≤ m ∧ m ≤ t) := by omega
  simp only [this]
theorem act_at {w : World} {A : Option Addr} {l : List ActS} (h : RdRows ActS.cells 2 w A l) (k : Nat) (hk : k < l.length) : ∃ b off, A = some ⟨b, off, none⟩ ∧ b < w.heap.size ∧ w.cell? ⟨b, off + k * 2, none⟩ = some (.int .i64 l[k].k) ∧ w.cell? ⟨b, off + k * 2 + 1, none⟩ = some (.int .i64 l[k].n) := by
  obtain ⟨b, off, h1, h2, h3⟩ := h k hk
  exact ⟨b, off, h1, h2, h3 0 _ rfl, h3 1 _ rfl⟩
theorem zero_arr (w : World) : (zeroValue 37).run Try.prog w = .ok (.agg (hasC zeroH)) w := by
  obtain ⟨i, hi, hz⟩ := Option.map_eq_some_iff.1 info_arr
  simp [zeroValue, typeInfo, hi, hz]
attribute [local go_sem] zero_arr
set_option maxHeartbeats 16000000 in
theorem plays_any (taken : Int) (A0 : Option Addr) (c0 : Nat) (l : List ActS) (w : World) (hA : RdRows ActS.cells 2 w A0 l) (ht : -9223372036854775808 ≤ taken ∧ taken ≤ 9223372036854775807) (hl : l.length ≤ 1000000000000000000) :
    Calls Try.prog 3 #[.int .i64 taken, .slice A0 l.length c0] w fun e w' => e = .returned (.bool true) ∧ Below w.heap.size w w' := by
  have HL := Lib.hid hA
  clear hA
  by_cases hin : taken < 1 ∨ 2048 < taken
  · go_enter Try.func3, Try.ntmps3
    go_upto_region 2 with (first | (go_at_call 6; refine (girderlaw07_begun.calls 1 taken 1 0 0 ⟨#[]⟩ [] false _ (begun_bad taken hin)).mono ?_; rintro e w1 ⟨v1, rfl, hR1, hb1⟩; have ho := own_of_kd hR1; obtain ⟨A1, m1, hv1⟩ := own_sl ho; subst hv1; have HV := Lib.hid ho; have HK := Lib.hid hb1; clear hR1 ho hb1) | (with_reducible (refine isList ?_; with_unfolding_all refine wpList_store_row rfl 29 (.tmp 5) (.tmp 24) rfl w1.heap.size #[.int .u32 1, .int .u64 0, .int .i64 0, .string ⟨#[]⟩, (.slice A1 0 m1)] (by kernel_rfl) (by kernel_rfl) 29 #[.int .u32 0, .int .u64 0, .int .i64 0, .string ⟨#[]⟩, .slice none 0 0] (Blk.new w1 29 #[.int .u32 0, .int .u64 0, .int .i64 0, .string ⟨#[]⟩, .slice none 0 0]) (by kernel_rfl) rfl (by simp [Value.oneCell']) ?_)))
    have hK1 := setRow_below (balloc (Below.refl w1.heap.size w1) (.cells #[.int .u32 0, .int .u64 0, .int .i64 0, .string ⟨#[]⟩, .slice none 0 0] 29)) (Nat.le_refl w1.heap.size) #[.int .u32 1, .int .u64 0, .int .i64 0, .string ⟨#[]⟩, (.slice A1 0 m1)]
    have HK1 := Lib.hid (bstep HK.out hK1)
    clear HK HV hK1
    generalize ((w1.alloc (.cells #[.int .u32 0, .int .u64 0, .int .i64 0, .string ⟨#[]⟩, .slice none 0 0] 29)).setRow w1.heap.size #[.int .u32 1, .int .u64 0, .int .i64 0, .string ⟨#[]⟩, (.slice A1 0 m1)]) = w2 at *
    have hc : (decide (taken < 1) = true) ∨ (decide (taken < 1) = false ∧ decide (taken > 2048) = true) := by
      by_cases h1 : taken < 1
      · exact .inl (decide_eq_true h1)
      · exact .inr ⟨decide_eq_false h1, decide_eq_true (by omega)⟩
    rcases hc with h1 | ⟨h1, h2⟩
    · go_wp2_with (first | (go_at_call 7; refine (girderlaw07_awake.calls 2060 true _ awake_2060).mono ?_; rintro e w5 ⟨rfl, hb5⟩; have n_ := Lib.hid (bstep HK1.out hb5); clear HK1 hb5; have HK1 := n_; clear n_) | (go_at_call 8; refine (fresh_bad taken _ hin).mono ?_; rintro e w6 ⟨rfl, rfl⟩))
      go_ret
      exact ⟨rfl, HK1.out⟩
    · go_wp2_with (first | (go_at_call 7; refine (girderlaw07_awake.calls 2060 true _ awake_2060).mono ?_; rintro e w5 ⟨rfl, hb5⟩; have n_ := Lib.hid (bstep HK1.out hb5); clear HK1 hb5; have HK1 := n_; clear n_) | (go_at_call 8; refine (fresh_bad taken _ hin).mono ?_; rintro e w6 ⟨rfl, rfl⟩))
      go_ret
      exact ⟨rfl, HK1.out⟩
  · obtain ⟨t, rfl⟩ : ∃ t : Nat, taken = t := ⟨taken.toNat, by omega⟩
    have t1 : 1 ≤ t := by omega
    have t2 : t ≤ 2048 := by omega
    clear hin ht
    go_enter Try.func3, Try.ntmps3
    have d1_ : decide ((t : Int) < 1) = false := decide_eq_false (by omega)
    have d2_ : decide ((t : Int) > 2048) = false := decide_eq_false (by omega)
    go_upto_region 2 with (first | (go_at_call 6; refine (girderlaw07_begun.calls 5 t 1 1 1 ⟨#[]⟩ [(strOfNums (fr t))] true _ (begun_f t t1 t2)).mono ?_; rintro e w1 ⟨v1, rfl, hR1, hb1⟩; have ho := own_of_kd hR1; obtain ⟨A1, m1, hv1⟩ := own_sl ho; subst hv1; have HV := Lib.hid ho; have HK := Lib.hid hb1; clear hR1 ho hb1) | (with_reducible (refine isList ?_; with_unfolding_all refine wpList_store_row rfl 29 (.tmp 5) (.tmp 24) rfl w1.heap.size (shM 1 (.slice A1 1 m1)) (by kernel_rfl) (by kernel_rfl) 29 #[.int .u32 0, .int .u64 0, .int .i64 0, .string ⟨#[]⟩, .slice none 0 0] (Blk.new w1 29 #[.int .u32 0, .int .u64 0, .int .i64 0, .string ⟨#[]⟩, .slice none 0 0]) (by kernel_rfl) rfl (by simp [shM, Value.oneCell']) ?_)))
    have hB := blk_setRow (cs' := (shM 1 (.slice A1 1 m1))) (Blk.new w1 29 #[.int .u32 0, .int .u64 0, .int .i64 0, .string ⟨#[]⟩, .slice none 0 0])
    have hb5 := setRow_below (balloc (Below.refl w1.heap.size w1) (.cells #[.int .u32 0, .int .u64 0, .int .i64 0, .string ⟨#[]⟩, .slice none 0 0] 29)) (Nat.le_refl w1.heap.size) (shM 1 (.slice A1 1 m1))
    have hG5 := HK.out.size
    simp only [List.length_singleton] at HV
    have n_HV := Lib.hid (HV.out.below hb5); have n_HK := Lib.hid (bstep HK.out hb5); clear hb5 HV HK; have HV := n_HV; have HK := n_HK; clear n_HV n_HK
    generalize ((w1.alloc (.cells #[.int .u32 0, .int .u64 0, .int .i64 0, .string ⟨#[]⟩, .slice none 0 0] 29)).setRow w1.heap.size (shM 1 (.slice A1 1 m1))) = w2 at *
    generalize w1.heap.size = g5 at *
    have HB := Lib.hid hB
    clear hB
    go_upto_region 8 with (first | (go_at_call 7; refine (girderlaw07_awake.calls 2060 true _ awake_2060).mono ?_; rintro e w5 ⟨rfl, hb5⟩; have n_HB := Lib.hid (HB.out.step hb5); have n_HV := Lib.hid (HV.out.below hb5); have n_HK := Lib.hid (bstep HK.out hb5); clear hb5 HB HV HK; have HB := n_HB; have HV := n_HV; have HK := n_HK; clear n_HB n_HV n_HK) | (with_reducible (refine isList ?_; with_unfolding_all refine wpList_store_row rfl 37 (.tmp 9) (.tmp 41) rfl w5.heap.size (hasC zeroH) (by kernel_rfl) (by kernel_rfl) 37 (hasC zeroH) (Blk.new w5 37 (hasC zeroH)) (by rw [hasC_size]; kernel_rfl) rfl (hasC_one zeroH) ?_)))
    have hA9 := blk_setRow (cs' := hasC zeroH) (Blk.new w5 37 (hasC zeroH))
    have hb5 := setRow_below (balloc (Below.refl w5.heap.size w5) (.cells (hasC zeroH) 37)) (Nat.le_refl w5.heap.size) (hasC zeroH)
    have hG9 := HK.out.size
    have HN59 := Lib.hid (Nat.ne_of_lt HB.out.lt)
    have n_HB := Lib.hid (HB.out.step hb5)
    have n_HV := Lib.hid (HV.out.below hb5)
    have n_HK := Lib.hid (bstep HK.out hb5)
    clear hb5 HB HV HK
    have HB := n_HB
    have HV := n_HV
    have HK := n_HK
    clear n_HB n_HV n_HK
    generalize ((w5.alloc (.cells (hasC zeroH) 37)).setRow w5.heap.size (hasC zeroH)) = w6 at *
    generalize w5.heap.size = g9 at *
    have HA := Lib.hid hA9
    clear hA9
    go_upto_block 0 with fail
    go_wp2_with fail
    go_loopw [10] (fun iv wr => ∃ i : Nat, iv = .int .i64 i ∧ 1 ≤ i ∧ i ≤ t + 1 ∧ Hid (Blk wr g5 29 (shM 1 (.slice A1 1 m1))) ∧ Hid (OwnP wr w.heap.size (.slice A1 1 m1) [strOfNums (fr t)]) ∧ Hid (Blk wr g9 37 (hasC (fun n => decide (1 ≤ n ∧ n < i)))) ∧ Hid (Below w.heap.size w wr))
      (fun iv _ => t + 1 - (intOf iv).toNat)
    case atStart => exact ⟨1, rfl, Nat.le_refl _, by omega, HB, HV, Lib.hid (by rw [← h0_eq]; exact HA.out), HK⟩
    case round =>
      clear HB HV HA HK
      obtain ⟨i, rfl, hi1, hi2, HB, HV, HA, HK⟩ := hrel
      by_cases hi : i ≤ t
      · have e1_ : decide ((i : Int) ≤ (t : Int)) = true := decide_eq_true (by omega)
        have e2_ : decide (i ≤ t) = true := decide_eq_true hi
        have a0 := arr_at HA.out (show i < 2050 by omega)
        have f0 := HA.out.frozen i
        have i0_ : (0 : Int) ≤ i := by omega
        have i1_ : (i : Int) < 2050 := by omega
        go_wp2_with fail
        go_roundw
        case rel => exact ⟨i + 1, by go_num, by omega, by omega, Lib.hid (HB.out.far HN59.out _), Lib.hid (OwnP.set HV.out HA.out (by decide)), Lib.hid (by rw [← h1_eq i hi1]; exact has_set HA.out i true (by omega)), Lib.hid (bsetAt HK.out hG9 _)⟩
        case measure => simp [intOf]; omega
      · have e1_ : decide ((i : Int) ≤ (t : Int)) = false := decide_eq_false (by omega)
        have e2_ : decide (i ≤ t) = false := decide_eq_false hi
        have HA1 := Lib.hid (show Blk wr g9 37 (hasC (fun n => decide (1 ≤ n ∧ n ≤ t))) by have h_ := HA.out; rw [show i = t + 1 by omega, h2_eq] at h_; exact h_)
        clear HA
        have HA := HA1
        clear HA1
        have HS0 := Lib.hid (Says.fresh t t2)
        clear hi hi1 hi2
        go_wp2_with fail
        clear e1_ e2_
        go_loopw [11] (fun iv wr => ∃ (k : Nat) (s : ByteArray) (H : Nat → Bool) (lsn : Int) (V : Value), iv = .int .i64 k ∧ k ≤ l.length ∧ Hid (Says s H) ∧ Hid (Blk wr g5 29 (shM lsn V)) ∧ Hid (OwnP wr w.heap.size V [s]) ∧ Hid (Blk wr g9 37 (hasC H)) ∧ Hid (Below w.heap.size w wr))
          (fun iv _ => l.length - (intOf iv).toNat)
        case atStart => exact ⟨0, _, _, 1, _, rfl, Nat.zero_le _, HS0, HB, HV, HA, HK⟩
        case round =>
          clear HS0 HB HV HA HK
          obtain ⟨k, s, H, lsn, V, rfl, hk, HS, HB, HV, HA, HK⟩ := hrel
          have hx : (¬ k < l.length ∧ decide ((k : Int) < (l.length : Int)) = false) ∨ (k < l.length ∧ decide ((k : Int) < (l.length : Int)) = true ∧ ¬ (k : Int) < 60 ∧ decide ((k : Int) < 60) = false) ∨ (k < l.length ∧ decide ((k : Int) < (l.length : Int)) = true ∧ (k : Int) < 60 ∧ decide ((k : Int) < 60) = true) := by
            by_cases h1 : k < l.length
            · by_cases h2 : k < 60
              · exact .inr (.inr ⟨h1, decide_eq_true (by omega), by omega, decide_eq_true (by omega)⟩)
              · exact .inr (.inl ⟨h1, decide_eq_true (by omega), by omega, decide_eq_false (by omega)⟩)
            · exact .inl ⟨h1, decide_eq_false (by omega)⟩
          rcases hx with ⟨h1, d1⟩ | ⟨h1, d1, h2, d2⟩ | ⟨h1, d1, h2, d2⟩
          · go_wp2_with (first | (with_reducible (refine isList ?_; with_unfolding_all refine wpList_load_row_on rfl 29 (.tmp 5) rfl g5 (by kernel_rfl) 29 (shM lsn V) (0, 0) _ HB.out Try.underlying29 rfl (by kernel_rfl) ?_)) | (with_reducible (refine isList ?_; with_unfolding_all refine wpList_load_row_on rfl 37 (.tmp 9) rfl g9 (by kernel_rfl) 37 (hasC H) (0, 0) _ HA.out Try.underlying37 rfl (by rw [hasC_size]; kernel_rfl) ?_)) | (go_at_call 13; refine (says_any lsn HS.out HV.out).mono ?_; rintro e w9 ⟨rfl, hb5⟩; have n_ := Lib.hid (bstep HK.out hb5); clear HB HA HV HK hb5; have HK := n_; clear n_))
            go_ret
            exact ⟨rfl, HK.out⟩
          · go_wp2_with (first | (with_reducible (refine isList ?_; with_unfolding_all refine wpList_load_row_on rfl 29 (.tmp 5) rfl g5 (by kernel_rfl) 29 (shM lsn V) (0, 0) _ HB.out Try.underlying29 rfl (by kernel_rfl) ?_)) | (with_reducible (refine isList ?_; with_unfolding_all refine wpList_load_row_on rfl 37 (.tmp 9) rfl g9 (by kernel_rfl) 37 (hasC H) (0, 0) _ HA.out Try.underlying37 rfl (by rw [hasC_size]; kernel_rfl) ?_)) | (go_at_call 13; refine (says_any lsn HS.out HV.out).mono ?_; rintro e w9 ⟨rfl, hb5⟩; have n_ := Lib.hid (bstep HK.out hb5); clear HB HA HV HK hb5; have HK := n_; clear n_))
            go_ret
            exact ⟨rfl, HK.out⟩
          · obtain ⟨bA, offA, rfl, hbA, y0', y1'⟩ := act_at HL.out k h1
            have y0 := (HK.out.cell (p := ⟨bA, offA + k * 2, none⟩) hbA).trans y0'
            have y1 := (HK.out.cell (p := ⟨bA, offA + k * 2 + 1, none⟩) hbA).trans y1'
            clear y0' y1'
            generalize l[k] = x at *
            obtain ⟨xk, xn⟩ := x
            have i0_ : (0 : Int) ≤ k := by omega
            have i1_ : (k : Int) < l.length := by omega
            go_upto_region 16 with fail
            simp only at y0 y1
            have hC := Blk.new wr 39 #[.int .i64 xk, .int .i64 xn]
            have hb5 := balloc (Below.refl wr.heap.size wr) (.cells #[.int .i64 xk, .int .i64 xn] 39)
            have hG12 := HK.out.size
            have HN5 := Lib.hid (Nat.ne_of_lt HB.out.lt)
            have HN9 := Lib.hid (Nat.ne_of_lt HA.out.lt)
            have n_HB := Lib.hid (HB.out.step hb5)
            have n_HA := Lib.hid (HA.out.step hb5)
            have n_HV := Lib.hid (HV.out.below hb5)
            have n_HK := Lib.hid (bstep HK.out hb5)
            clear hb5 HB HA HV HK
            have HB := n_HB
            have HA := n_HA
            have HV := n_HV
            have HK := n_HK
            clear n_HB n_HA n_HV n_HK
            generalize wr.alloc (.cells #[.int .i64 xk, .int .i64 xn] 39) = x0 at *
            generalize wr.heap.size = g12 at *
            have HC := Lib.hid hC
            have c0 := hC.cell 0
            have c1 := hC.cell 1
            clear hC y0 y1 hbA
            obtain ⟨m, hm, hm2⟩ := and4095 xn
            have n1_ : g12 ≠ x0.heap.size := Nat.ne_of_lt HC.out.lt
            have n2_ : x0.heap.size ≠ g12 := Nat.ne_of_gt HC.out.lt
            have c2 := (HC.out.alloc (.cells #[.int .i64 0, .int .i64 0, .string ⟨#[]⟩, .string ⟨#[]⟩] 41)).cell 1
            go_region
            clear n1_ n2_ c0 c1 c2
            have hQ := (Blk.new x0 41 #[.int .i64 0, .int .i64 0, .string ⟨#[]⟩, .string ⟨#[]⟩]).drew
            have hb5 := bdrew (balloc (Below.refl x0.heap.size x0) (.cells #[.int .i64 0, .int .i64 0, .string ⟨#[]⟩, .string ⟨#[]⟩] 41))
            have hG13 := HK.out.size
            have HM5 := Lib.hid (Nat.ne_of_lt HB.out.lt)
            have HM9 := Lib.hid (Nat.ne_of_lt HA.out.lt)
            have HM12 := Lib.hid (Nat.ne_of_lt HC.out.lt)
            have n_HB := Lib.hid (HB.out.step hb5)
            have n_HA := Lib.hid (HA.out.step hb5)
            have n_HV := Lib.hid (HV.out.below hb5)
            have n_HK := Lib.hid (bstep HK.out hb5)
            have n_HC := Lib.hid (HC.out.step hb5)
            clear hb5 HB HA HV HK HC
            have HB := n_HB
            have HA := n_HA
            have HV := n_HV
            have HK := n_HK
            have HC := n_HC
            clear n_HB n_HA n_HV n_HK n_HC
            generalize (x0.alloc (.cells #[.int .i64 0, .int .i64 0, .string ⟨#[]⟩, .string ⟨#[]⟩] 41)).drew = x3 at *
            generalize x0.heap.size = g13 at *
            have HQ := Lib.hid hQ
            clear hQ
            have c0 := HC.out.cell 0
            go_upto_block 4 with fail
            clear c0
            go_cut [14, 15, 16, 17, 18] from 70 to 142 (fun v14 v15 v16 _ _ wx => ∃ (E : Int) (n : Nat) (r1 r2 : Int) (r3 r4 : ByteArray), v14 = .int .i64 E ∧ v15 = .int .i64 n ∧ v16 = .int .i64 E ∧ Hid (E = 0 → Turns s n r1 r2 r3 r4) ∧ Hid (Blk wx g13 41 #[.int .i64 r1, .int .i64 r2, .string r3, .string r4]) ∧ Hid (Says s H) ∧ Hid (Blk wx g5 29 (shM lsn V)) ∧ Hid (OwnP wx w.heap.size V [s]) ∧ Hid (Blk wx g9 37 (hasC H)) ∧ Hid (Below w.heap.size w wx))
            case first =>
              obtain ⟨b2, hb2⟩ : ∃ b, (xk == 2) = b := ⟨_, rfl⟩
              obtain ⟨b3, hb3⟩ : ∃ b, (xk == 3) = b := ⟨_, rfl⟩
              cases b2 with
              | true =>
                have hwm1 : IntKind.u32.wrap (m : Int) = m := by rw [IntKind.wrap_u32]; omega
                have hwm2 : (m : Int) % 4294967296 = m := by omega
                rcases (show (m < 1 ∨ (1 ≤ m ∧ 2048 < m)) ∨ ((1 ≤ m ∧ m ≤ 2048) ∧ (H m = false ∨ H m = true)) from by cases hh_ : H m <;> simp <;> omega) with (h1 | ⟨h1, h2⟩) | ⟨⟨h1, h2⟩, (h3 | h3)⟩
                · have e1_ : decide ((m : Int) < 1) = true := decide_eq_true (by omega)
                  go_upto_region 31 with (first | (with_reducible (refine isList ?_; with_unfolding_all refine wpList_load_row rfl 29 (.tmp 5) rfl g5 (by kernel_rfl) 29 (shM lsn V) (0, 0) _ HB.out Try.underlying29 rfl (by kernel_rfl) ?_)) | (go_at_call 9; refine (give_all lsn m hm2 HS.out HV.out 2 (.inr ⟨.inl h1, rfl⟩)).mono ?_; rintro e x4 ⟨⟨r1, r2, r3, r4, rfl, ht⟩, hb5⟩; unfold Rop; have HT := Lib.hid ht; clear ht; have n_HB := Lib.hid (HB.out.step hb5); have n_HA := Lib.hid (HA.out.step hb5); have n_HV := Lib.hid (HV.out.below hb5); have n_HK := Lib.hid (bstep HK.out hb5); have n_HC := Lib.hid (HC.out.step hb5); have n_HQ := Lib.hid (HQ.out.step hb5); clear hb5 HB HA HV HK HC HQ; have HB := n_HB; have HA := n_HA; have HV := n_HV; have HK := n_HK; have HC := n_HC; have HQ := n_HQ; clear n_HB n_HA n_HV n_HK n_HC n_HQ) | (with_reducible (refine isList ?_; with_unfolding_all refine wpList_store_row rfl 41 (.tmp 13) (.tmp 109) rfl g13 #[.int .i64 r1, .int .i64 r2, .string r3, .string r4] (by kernel_rfl) (by kernel_rfl) 41 #[.int .i64 0, .int .i64 0, .string ⟨#[]⟩, .string ⟨#[]⟩] HQ.out (by kernel_rfl) rfl (by simp [Value.oneCell']) ?_)))
                  have n_HB := Lib.hid (blk_setRow_far HB.out #[.int .i64 r1, .int .i64 r2, .string r3, .string r4] HM5.out)
                  have n_HA := Lib.hid (blk_setRow_far HA.out #[.int .i64 r1, .int .i64 r2, .string r3, .string r4] HM9.out)
                  have n_HV := Lib.hid (OwnP.setRow (cs' := #[.int .i64 r1, .int .i64 r2, .string r3, .string r4]) HV.out HQ.out (by decide))
                  have n_HK := Lib.hid (setRow_below HK.out hG13 #[.int .i64 r1, .int .i64 r2, .string r3, .string r4])
                  have n_HC := Lib.hid (blk_setRow_far HC.out #[.int .i64 r1, .int .i64 r2, .string r3, .string r4] HM12.out)
                  have n_HQ := Lib.hid (blk_setRow (cs' := #[.int .i64 r1, .int .i64 r2, .string r3, .string r4]) HQ.out)
                  clear HB HA HV HK HC HQ
                  have HB := n_HB
                  have HA := n_HA
                  have HV := n_HV
                  have HK := n_HK
                  have HC := n_HC
                  have HQ := n_HQ
                  clear n_HB n_HA n_HV n_HK n_HC n_HQ
                  generalize x4.setRow g13 #[.int .i64 r1, .int .i64 r2, .string r3, .string r4] = x5 at *
                  go_wp2_with fail
                  go_meet
                  exact ⟨2, m, r1, r2, r3, r4, rfl, rfl, rfl, Lib.hid (fun e_ => by first | exact HT.out e_ | exact HT.out trivial), HQ, HS, HB, HV, HA, HK⟩
                · have e1_ : decide ((m : Int) < 1) = false := decide_eq_false (by omega)
                  have e2_ : decide ((m : Int) > 2048) = true := decide_eq_true (by omega)
                  go_upto_region 31 with (first | (with_reducible (refine isList ?_; with_unfolding_all refine wpList_load_row rfl 29 (.tmp 5) rfl g5 (by kernel_rfl) 29 (shM lsn V) (0, 0) _ HB.out Try.underlying29 rfl (by kernel_rfl) ?_)) | (go_at_call 9; refine (give_all lsn m hm2 HS.out HV.out 2 (.inr ⟨.inr (.inl h2), rfl⟩)).mono ?_; rintro e x4 ⟨⟨r1, r2, r3, r4, rfl, ht⟩, hb5⟩; unfold Rop; have HT := Lib.hid ht; clear ht; have n_HB := Lib.hid (HB.out.step hb5); have n_HA := Lib.hid (HA.out.step hb5); have n_HV := Lib.hid (HV.out.below hb5); have n_HK := Lib.hid (bstep HK.out hb5); have n_HC := Lib.hid (HC.out.step hb5); have n_HQ := Lib.hid (HQ.out.step hb5); clear hb5 HB HA HV HK HC HQ; have HB := n_HB; have HA := n_HA; have HV := n_HV; have HK := n_HK; have HC := n_HC; have HQ := n_HQ; clear n_HB n_HA n_HV n_HK n_HC n_HQ) | (with_reducible (refine isList ?_; with_unfolding_all refine wpList_store_row rfl 41 (.tmp 13) (.tmp 109) rfl g13 #[.int .i64 r1, .int .i64 r2, .string r3, .string r4] (by kernel_rfl) (by kernel_rfl) 41 #[.int .i64 0, .int .i64 0, .string ⟨#[]⟩, .string ⟨#[]⟩] HQ.out (by kernel_rfl) rfl (by simp [Value.oneCell']) ?_)))
                  have n_HB := Lib.hid (blk_setRow_far HB.out #[.int .i64 r1, .int .i64 r2, .string r3, .string r4] HM5.out)
                  have n_HA := Lib.hid (blk_setRow_far HA.out #[.int .i64 r1, .int .i64 r2, .string r3, .string r4] HM9.out)
                  have n_HV := Lib.hid (OwnP.setRow (cs' := #[.int .i64 r1, .int .i64 r2, .string r3, .string r4]) HV.out HQ.out (by decide))
                  have n_HK := Lib.hid (setRow_below HK.out hG13 #[.int .i64 r1, .int .i64 r2, .string r3, .string r4])
                  have n_HC := Lib.hid (blk_setRow_far HC.out #[.int .i64 r1, .int .i64 r2, .string r3, .string r4] HM12.out)
                  have n_HQ := Lib.hid (blk_setRow (cs' := #[.int .i64 r1, .int .i64 r2, .string r3, .string r4]) HQ.out)
                  clear HB HA HV HK HC HQ
                  have HB := n_HB
                  have HA := n_HA
                  have HV := n_HV
                  have HK := n_HK
                  have HC := n_HC
                  have HQ := n_HQ
                  clear n_HB n_HA n_HV n_HK n_HC n_HQ
                  generalize x4.setRow g13 #[.int .i64 r1, .int .i64 r2, .string r3, .string r4] = x5 at *
                  go_wp2_with fail
                  go_meet
                  exact ⟨2, m, r1, r2, r3, r4, rfl, rfl, rfl, Lib.hid (fun e_ => by first | exact HT.out e_ | exact HT.out trivial), HQ, HS, HB, HV, HA, HK⟩
                · have e1_ : decide ((m : Int) < 1) = false := decide_eq_false (by omega)
                  have e2_ : decide ((m : Int) > 2048) = false := decide_eq_false (by omega)
                  have i0_ : (0 : Int) ≤ m := by omega
                  have i2_ : (m : Int) < 2050 := by omega
                  go_upto_region 31 with (first | (with_reducible (refine isList ?_; with_unfolding_all refine wpList_load_row rfl 29 (.tmp 5) rfl g5 (by kernel_rfl) 29 (shM lsn V) (0, 0) _ HB.out Try.underlying29 rfl (by kernel_rfl) ?_)) | (go_at_call 9; refine (give_all lsn m hm2 HS.out HV.out 2 (.inr ⟨.inr (.inr h3), rfl⟩)).mono ?_; rintro e x4 ⟨⟨r1, r2, r3, r4, rfl, ht⟩, hb5⟩; unfold Rop; have HT := Lib.hid ht; clear ht; have n_HB := Lib.hid (HB.out.step hb5); have n_HA := Lib.hid (HA.out.step hb5); have n_HV := Lib.hid (HV.out.below hb5); have n_HK := Lib.hid (bstep HK.out hb5); have n_HC := Lib.hid (HC.out.step hb5); have n_HQ := Lib.hid (HQ.out.step hb5); clear hb5 HB HA HV HK HC HQ; have HB := n_HB; have HA := n_HA; have HV := n_HV; have HK := n_HK; have HC := n_HC; have HQ := n_HQ; clear n_HB n_HA n_HV n_HK n_HC n_HQ) | (with_reducible (refine isList ?_; with_unfolding_all refine wpList_store_row rfl 41 (.tmp 13) (.tmp 109) rfl g13 #[.int .i64 r1, .int .i64 r2, .string r3, .string r4] (by kernel_rfl) (by kernel_rfl) 41 #[.int .i64 0, .int .i64 0, .string ⟨#[]⟩, .string ⟨#[]⟩] HQ.out (by kernel_rfl) rfl (by simp [Value.oneCell']) ?_)))
                  have n_HB := Lib.hid (blk_setRow_far HB.out #[.int .i64 r1, .int .i64 r2, .string r3, .string r4] HM5.out)
                  have n_HA := Lib.hid (blk_setRow_far HA.out #[.int .i64 r1, .int .i64 r2, .string r3, .string r4] HM9.out)
                  have n_HV := Lib.hid (OwnP.setRow (cs' := #[.int .i64 r1, .int .i64 r2, .string r3, .string r4]) HV.out HQ.out (by decide))
                  have n_HK := Lib.hid (setRow_below HK.out hG13 #[.int .i64 r1, .int .i64 r2, .string r3, .string r4])
                  have n_HC := Lib.hid (blk_setRow_far HC.out #[.int .i64 r1, .int .i64 r2, .string r3, .string r4] HM12.out)
                  have n_HQ := Lib.hid (blk_setRow (cs' := #[.int .i64 r1, .int .i64 r2, .string r3, .string r4]) HQ.out)
                  clear HB HA HV HK HC HQ
                  have HB := n_HB
                  have HA := n_HA
                  have HV := n_HV
                  have HK := n_HK
                  have HC := n_HC
                  have HQ := n_HQ
                  clear n_HB n_HA n_HV n_HK n_HC n_HQ
                  generalize x4.setRow g13 #[.int .i64 r1, .int .i64 r2, .string r3, .string r4] = x5 at *
                  have a0 := arr_at HA.out (show m < 2050 by omega)
                  rw [h3] at a0
                  go_wp2_with fail
                  go_meet
                  exact ⟨2, m, r1, r2, r3, r4, rfl, rfl, rfl, Lib.hid (fun e_ => by first | exact HT.out e_ | exact HT.out trivial), HQ, HS, HB, HV, HA, HK⟩
                · have e1_ : decide ((m : Int) < 1) = false := decide_eq_false (by omega)
                  have e2_ : decide ((m : Int) > 2048) = false := decide_eq_false (by omega)
                  have i0_ : (0 : Int) ≤ m := by omega
                  have i2_ : (m : Int) < 2050 := by omega
                  go_upto_region 31 with (first | (with_reducible (refine isList ?_; with_unfolding_all refine wpList_load_row rfl 29 (.tmp 5) rfl g5 (by kernel_rfl) 29 (shM lsn V) (0, 0) _ HB.out Try.underlying29 rfl (by kernel_rfl) ?_)) | (go_at_call 9; refine (give_all lsn m hm2 HS.out HV.out 0 (.inl ⟨h1, h2, h3, rfl⟩)).mono ?_; rintro e x4 ⟨⟨r1, r2, r3, r4, rfl, ht⟩, hb5⟩; unfold Rop; have HT := Lib.hid ht; clear ht; have n_HB := Lib.hid (HB.out.step hb5); have n_HA := Lib.hid (HA.out.step hb5); have n_HV := Lib.hid (HV.out.below hb5); have n_HK := Lib.hid (bstep HK.out hb5); have n_HC := Lib.hid (HC.out.step hb5); have n_HQ := Lib.hid (HQ.out.step hb5); clear hb5 HB HA HV HK HC HQ; have HB := n_HB; have HA := n_HA; have HV := n_HV; have HK := n_HK; have HC := n_HC; have HQ := n_HQ; clear n_HB n_HA n_HV n_HK n_HC n_HQ) | (with_reducible (refine isList ?_; with_unfolding_all refine wpList_store_row rfl 41 (.tmp 13) (.tmp 109) rfl g13 #[.int .i64 r1, .int .i64 r2, .string r3, .string r4] (by kernel_rfl) (by kernel_rfl) 41 #[.int .i64 0, .int .i64 0, .string ⟨#[]⟩, .string ⟨#[]⟩] HQ.out (by kernel_rfl) rfl (by simp [Value.oneCell']) ?_)))
                  have n_HB := Lib.hid (blk_setRow_far HB.out #[.int .i64 r1, .int .i64 r2, .string r3, .string r4] HM5.out)
                  have n_HA := Lib.hid (blk_setRow_far HA.out #[.int .i64 r1, .int .i64 r2, .string r3, .string r4] HM9.out)
                  have n_HV := Lib.hid (OwnP.setRow (cs' := #[.int .i64 r1, .int .i64 r2, .string r3, .string r4]) HV.out HQ.out (by decide))
                  have n_HK := Lib.hid (setRow_below HK.out hG13 #[.int .i64 r1, .int .i64 r2, .string r3, .string r4])
                  have n_HC := Lib.hid (blk_setRow_far HC.out #[.int .i64 r1, .int .i64 r2, .string r3, .string r4] HM12.out)
                  have n_HQ := Lib.hid (blk_setRow (cs' := #[.int .i64 r1, .int .i64 r2, .string r3, .string r4]) HQ.out)
                  clear HB HA HV HK HC HQ
                  have HB := n_HB
                  have HA := n_HA
                  have HV := n_HV
                  have HK := n_HK
                  have HC := n_HC
                  have HQ := n_HQ
                  clear n_HB n_HA n_HV n_HK n_HC n_HQ
                  generalize x4.setRow g13 #[.int .i64 r1, .int .i64 r2, .string r3, .string r4] = x5 at *
                  have a0 := arr_at HA.out (show m < 2050 by omega)
                  rw [h3] at a0
                  go_wp2_with fail
                  go_meet
                  exact ⟨0, m, r1, r2, r3, r4, rfl, rfl, rfl, Lib.hid (fun e_ => by first | exact HT.out e_ | exact HT.out trivial), HQ, HS, HB, HV, HA, HK⟩
              | false =>
                cases b3 with
                | true =>
                  have hwm1 : IntKind.u32.wrap (m : Int) = m := by rw [IntKind.wrap_u32]; omega
                  have hwm2 : (m : Int) % 4294967296 = m := by omega
                  rcases (show (m < 1 ∨ (1 ≤ m ∧ 2048 < m)) ∨ ((1 ≤ m ∧ m ≤ 2048) ∧ (H m = true ∨ H m = false)) from by cases hh_ : H m <;> simp <;> omega) with (h1 | ⟨h1, h2⟩) | ⟨⟨h1, h2⟩, (h3 | h3)⟩
                  · have e1_ : decide ((m : Int) < 1) = true := decide_eq_true (by omega)
                    go_upto_region 35 with (first | (with_reducible (refine isList ?_; with_unfolding_all refine wpList_load_row rfl 29 (.tmp 5) rfl g5 (by kernel_rfl) 29 (shM lsn V) (0, 0) _ HB.out Try.underlying29 rfl (by kernel_rfl) ?_)) | (go_at_call 10; refine (claim_all lsn m hm2 HS.out HV.out 2 (.inr ⟨.inl h1, rfl⟩)).mono ?_; rintro e x4 ⟨⟨r1, r2, r3, r4, rfl, ht⟩, hb5⟩; unfold Rop; have HT := Lib.hid ht; clear ht; have n_HB := Lib.hid (HB.out.step hb5); have n_HA := Lib.hid (HA.out.step hb5); have n_HV := Lib.hid (HV.out.below hb5); have n_HK := Lib.hid (bstep HK.out hb5); have n_HC := Lib.hid (HC.out.step hb5); have n_HQ := Lib.hid (HQ.out.step hb5); clear hb5 HB HA HV HK HC HQ; have HB := n_HB; have HA := n_HA; have HV := n_HV; have HK := n_HK; have HC := n_HC; have HQ := n_HQ; clear n_HB n_HA n_HV n_HK n_HC n_HQ) | (with_reducible (refine isList ?_; with_unfolding_all refine wpList_store_row rfl 41 (.tmp 13) (.tmp 130) rfl g13 #[.int .i64 r1, .int .i64 r2, .string r3, .string r4] (by kernel_rfl) (by kernel_rfl) 41 #[.int .i64 0, .int .i64 0, .string ⟨#[]⟩, .string ⟨#[]⟩] HQ.out (by kernel_rfl) rfl (by simp [Value.oneCell']) ?_)))
                    have n_HB := Lib.hid (blk_setRow_far HB.out #[.int .i64 r1, .int .i64 r2, .string r3, .string r4] HM5.out)
                    have n_HA := Lib.hid (blk_setRow_far HA.out #[.int .i64 r1, .int .i64 r2, .string r3, .string r4] HM9.out)
                    have n_HV := Lib.hid (OwnP.setRow (cs' := #[.int .i64 r1, .int .i64 r2, .string r3, .string r4]) HV.out HQ.out (by decide))
                    have n_HK := Lib.hid (setRow_below HK.out hG13 #[.int .i64 r1, .int .i64 r2, .string r3, .string r4])
                    have n_HC := Lib.hid (blk_setRow_far HC.out #[.int .i64 r1, .int .i64 r2, .string r3, .string r4] HM12.out)
                    have n_HQ := Lib.hid (blk_setRow (cs' := #[.int .i64 r1, .int .i64 r2, .string r3, .string r4]) HQ.out)
                    clear HB HA HV HK HC HQ
                    have HB := n_HB
                    have HA := n_HA
                    have HV := n_HV
                    have HK := n_HK
                    have HC := n_HC
                    have HQ := n_HQ
                    clear n_HB n_HA n_HV n_HK n_HC n_HQ
                    generalize x4.setRow g13 #[.int .i64 r1, .int .i64 r2, .string r3, .string r4] = x5 at *
                    go_wp2_with fail
                    go_meet
                    exact ⟨2, m, r1, r2, r3, r4, rfl, rfl, rfl, Lib.hid (fun e_ => by first | exact HT.out e_ | exact HT.out trivial), HQ, HS, HB, HV, HA, HK⟩
                  · have e1_ : decide ((m : Int) < 1) = false := decide_eq_false (by omega)
                    have e2_ : decide ((m : Int) > 2048) = true := decide_eq_true (by omega)
                    go_upto_region 35 with (first | (with_reducible (refine isList ?_; with_unfolding_all refine wpList_load_row rfl 29 (.tmp 5) rfl g5 (by kernel_rfl) 29 (shM lsn V) (0, 0) _ HB.out Try.underlying29 rfl (by kernel_rfl) ?_)) | (go_at_call 10; refine (claim_all lsn m hm2 HS.out HV.out 2 (.inr ⟨.inr (.inl h2), rfl⟩)).mono ?_; rintro e x4 ⟨⟨r1, r2, r3, r4, rfl, ht⟩, hb5⟩; unfold Rop; have HT := Lib.hid ht; clear ht; have n_HB := Lib.hid (HB.out.step hb5); have n_HA := Lib.hid (HA.out.step hb5); have n_HV := Lib.hid (HV.out.below hb5); have n_HK := Lib.hid (bstep HK.out hb5); have n_HC := Lib.hid (HC.out.step hb5); have n_HQ := Lib.hid (HQ.out.step hb5); clear hb5 HB HA HV HK HC HQ; have HB := n_HB; have HA := n_HA; have HV := n_HV; have HK := n_HK; have HC := n_HC; have HQ := n_HQ; clear n_HB n_HA n_HV n_HK n_HC n_HQ) | (with_reducible (refine isList ?_; with_unfolding_all refine wpList_store_row rfl 41 (.tmp 13) (.tmp 130) rfl g13 #[.int .i64 r1, .int .i64 r2, .string r3, .string r4] (by kernel_rfl) (by kernel_rfl) 41 #[.int .i64 0, .int .i64 0, .string ⟨#[]⟩, .string ⟨#[]⟩] HQ.out (by kernel_rfl) rfl (by simp [Value.oneCell']) ?_)))
                    have n_HB := Lib.hid (blk_setRow_far HB.out #[.int .i64 r1, .int .i64 r2, .string r3, .string r4] HM5.out)
                    have n_HA := Lib.hid (blk_setRow_far HA.out #[.int .i64 r1, .int .i64 r2, .string r3, .string r4] HM9.out)
                    have n_HV := Lib.hid (OwnP.setRow (cs' := #[.int .i64 r1, .int .i64 r2, .string r3, .string r4]) HV.out HQ.out (by decide))
                    have n_HK := Lib.hid (setRow_below HK.out hG13 #[.int .i64 r1, .int .i64 r2, .string r3, .string r4])
                    have n_HC := Lib.hid (blk_setRow_far HC.out #[.int .i64 r1, .int .i64 r2, .string r3, .string r4] HM12.out)
                    have n_HQ := Lib.hid (blk_setRow (cs' := #[.int .i64 r1, .int .i64 r2, .string r3, .string r4]) HQ.out)
                    clear HB HA HV HK HC HQ
                    have HB := n_HB
                    have HA := n_HA
                    have HV := n_HV
                    have HK := n_HK
                    have HC := n_HC
                    have HQ := n_HQ
                    clear n_HB n_HA n_HV n_HK n_HC n_HQ
                    generalize x4.setRow g13 #[.int .i64 r1, .int .i64 r2, .string r3, .string r4] = x5 at *
                    go_wp2_with fail
                    go_meet
                    exact ⟨2, m, r1, r2, r3, r4, rfl, rfl, rfl, Lib.hid (fun e_ => by first | exact HT.out e_ | exact HT.out trivial), HQ, HS, HB, HV, HA, HK⟩
                  · have e1_ : decide ((m : Int) < 1) = false := decide_eq_false (by omega)
                    have e2_ : decide ((m : Int) > 2048) = false := decide_eq_false (by omega)
                    have i0_ : (0 : Int) ≤ m := by omega
                    have i2_ : (m : Int) < 2050 := by omega
                    go_upto_region 35 with (first | (with_reducible (refine isList ?_; with_unfolding_all refine wpList_load_row rfl 29 (.tmp 5) rfl g5 (by kernel_rfl) 29 (shM lsn V) (0, 0) _ HB.out Try.underlying29 rfl (by kernel_rfl) ?_)) | (go_at_call 10; refine (claim_all lsn m hm2 HS.out HV.out 2 (.inr ⟨.inr (.inr h3), rfl⟩)).mono ?_; rintro e x4 ⟨⟨r1, r2, r3, r4, rfl, ht⟩, hb5⟩; unfold Rop; have HT := Lib.hid ht; clear ht; have n_HB := Lib.hid (HB.out.step hb5); have n_HA := Lib.hid (HA.out.step hb5); have n_HV := Lib.hid (HV.out.below hb5); have n_HK := Lib.hid (bstep HK.out hb5); have n_HC := Lib.hid (HC.out.step hb5); have n_HQ := Lib.hid (HQ.out.step hb5); clear hb5 HB HA HV HK HC HQ; have HB := n_HB; have HA := n_HA; have HV := n_HV; have HK := n_HK; have HC := n_HC; have HQ := n_HQ; clear n_HB n_HA n_HV n_HK n_HC n_HQ) | (with_reducible (refine isList ?_; with_unfolding_all refine wpList_store_row rfl 41 (.tmp 13) (.tmp 130) rfl g13 #[.int .i64 r1, .int .i64 r2, .string r3, .string r4] (by kernel_rfl) (by kernel_rfl) 41 #[.int .i64 0, .int .i64 0, .string ⟨#[]⟩, .string ⟨#[]⟩] HQ.out (by kernel_rfl) rfl (by simp [Value.oneCell']) ?_)))
                    have n_HB := Lib.hid (blk_setRow_far HB.out #[.int .i64 r1, .int .i64 r2, .string r3, .string r4] HM5.out)
                    have n_HA := Lib.hid (blk_setRow_far HA.out #[.int .i64 r1, .int .i64 r2, .string r3, .string r4] HM9.out)
                    have n_HV := Lib.hid (OwnP.setRow (cs' := #[.int .i64 r1, .int .i64 r2, .string r3, .string r4]) HV.out HQ.out (by decide))
                    have n_HK := Lib.hid (setRow_below HK.out hG13 #[.int .i64 r1, .int .i64 r2, .string r3, .string r4])
                    have n_HC := Lib.hid (blk_setRow_far HC.out #[.int .i64 r1, .int .i64 r2, .string r3, .string r4] HM12.out)
                    have n_HQ := Lib.hid (blk_setRow (cs' := #[.int .i64 r1, .int .i64 r2, .string r3, .string r4]) HQ.out)
                    clear HB HA HV HK HC HQ
                    have HB := n_HB
                    have HA := n_HA
                    have HV := n_HV
                    have HK := n_HK
                    have HC := n_HC
                    have HQ := n_HQ
                    clear n_HB n_HA n_HV n_HK n_HC n_HQ
                    generalize x4.setRow g13 #[.int .i64 r1, .int .i64 r2, .string r3, .string r4] = x5 at *
                    have a0 := arr_at HA.out (show m < 2050 by omega)
                    rw [h3] at a0
                    go_wp2_with fail
                    go_meet
                    exact ⟨2, m, r1, r2, r3, r4, rfl, rfl, rfl, Lib.hid (fun e_ => by first | exact HT.out e_ | exact HT.out trivial), HQ, HS, HB, HV, HA, HK⟩
                  · have e1_ : decide ((m : Int) < 1) = false := decide_eq_false (by omega)
                    have e2_ : decide ((m : Int) > 2048) = false := decide_eq_false (by omega)
                    have i0_ : (0 : Int) ≤ m := by omega
                    have i2_ : (m : Int) < 2050 := by omega
                    go_upto_region 35 with (first | (with_reducible (refine isList ?_; with_unfolding_all refine wpList_load_row rfl 29 (.tmp 5) rfl g5 (by kernel_rfl) 29 (shM lsn V) (0, 0) _ HB.out Try.underlying29 rfl (by kernel_rfl) ?_)) | (go_at_call 10; refine (claim_all lsn m hm2 HS.out HV.out 0 (.inl ⟨h1, h2, h3, rfl⟩)).mono ?_; rintro e x4 ⟨⟨r1, r2, r3, r4, rfl, ht⟩, hb5⟩; unfold Rop; have HT := Lib.hid ht; clear ht; have n_HB := Lib.hid (HB.out.step hb5); have n_HA := Lib.hid (HA.out.step hb5); have n_HV := Lib.hid (HV.out.below hb5); have n_HK := Lib.hid (bstep HK.out hb5); have n_HC := Lib.hid (HC.out.step hb5); have n_HQ := Lib.hid (HQ.out.step hb5); clear hb5 HB HA HV HK HC HQ; have HB := n_HB; have HA := n_HA; have HV := n_HV; have HK := n_HK; have HC := n_HC; have HQ := n_HQ; clear n_HB n_HA n_HV n_HK n_HC n_HQ) | (with_reducible (refine isList ?_; with_unfolding_all refine wpList_store_row rfl 41 (.tmp 13) (.tmp 130) rfl g13 #[.int .i64 r1, .int .i64 r2, .string r3, .string r4] (by kernel_rfl) (by kernel_rfl) 41 #[.int .i64 0, .int .i64 0, .string ⟨#[]⟩, .string ⟨#[]⟩] HQ.out (by kernel_rfl) rfl (by simp [Value.oneCell']) ?_)))
                    have n_HB := Lib.hid (blk_setRow_far HB.out #[.int .i64 r1, .int .i64 r2, .string r3, .string r4] HM5.out)
                    have n_HA := Lib.hid (blk_setRow_far HA.out #[.int .i64 r1, .int .i64 r2, .string r3, .string r4] HM9.out)
                    have n_HV := Lib.hid (OwnP.setRow (cs' := #[.int .i64 r1, .int .i64 r2, .string r3, .string r4]) HV.out HQ.out (by decide))
                    have n_HK := Lib.hid (setRow_below HK.out hG13 #[.int .i64 r1, .int .i64 r2, .string r3, .string r4])
                    have n_HC := Lib.hid (blk_setRow_far HC.out #[.int .i64 r1, .int .i64 r2, .string r3, .string r4] HM12.out)
                    have n_HQ := Lib.hid (blk_setRow (cs' := #[.int .i64 r1, .int .i64 r2, .string r3, .string r4]) HQ.out)
                    clear HB HA HV HK HC HQ
                    have HB := n_HB
                    have HA := n_HA
                    have HV := n_HV
                    have HK := n_HK
                    have HC := n_HC
                    have HQ := n_HQ
                    clear n_HB n_HA n_HV n_HK n_HC n_HQ
                    generalize x4.setRow g13 #[.int .i64 r1, .int .i64 r2, .string r3, .string r4] = x5 at *
                    have a0 := arr_at HA.out (show m < 2050 by omega)
                    rw [h3] at a0
                    go_wp2_with fail
                    go_meet
                    exact ⟨0, m, r1, r2, r3, r4, rfl, rfl, rfl, Lib.hid (fun e_ => by first | exact HT.out e_ | exact HT.out trivial), HQ, HS, HB, HV, HA, HK⟩
                | false =>
                  obtain ⟨F, hF⟩ : ∃ F, F = ffrom H 2048 1 := ⟨_, rfl⟩
                  have hF1 := (ffrom_le H 2048 1).1
                  have hF2 := (ffrom_le H 2048 1).2
                  rw [← hF] at hF1 hF2
                  have HF := Lib.hid hF
                  clear hF
                  go_upto_block 5 with fail
                  go_cut [17] from 72 to 80 (fun v wx => v = .int .i64 F ∧ wx = x3)
                  case first =>
                    go_wp2_with fail
                    go_loopw [17] (fun v wr => ∃ n : Nat, v = .int .i64 n ∧ 1 ≤ n ∧ n ≤ 2049 ∧ Hid (ffrom H (2049 - n) n = F) ∧ wr = x3)
                      (fun v _ => 2049 - (intOf v).toNat)
                    case atStart => exact ⟨1, rfl, Nat.le_refl _, by omega, Lib.hid HF.out.symm, rfl⟩
                    case round =>
                      obtain ⟨n, rfl, hn1, hn2, HN, hwc⟩ := hrel
                      obtain rfl := hwc.symm
                      rcases (show (n = 2049) ∨ (n ≤ 2048 ∧ (H n = true ∨ H n = false)) from by cases hh_ : H n <;> simp <;> omega) with h1 | ⟨h1, h2 | h2⟩
                      · have e1_ : decide ((n : Int) ≤ 2048) = false := decide_eq_false (by omega)
                        have hFn := Lib.hid (show F = n by subst h1; exact HN.out.symm)
                        have h1_ := Lib.hid h1
                        clear h1
                        go_wp2_with fail
                        go_meet
                        exact ⟨by rw [hFn.out], by first | rfl | trivial⟩
                      · have e1_ : decide ((n : Int) ≤ 2048) = true := decide_eq_true (by omega)
                        have e3_ : decide (n ≤ 2048) = true := decide_eq_true h1
                        have a0 := arr_at HA.out (show n < 2050 by omega)
                        rw [h2] at a0
                        have i0_ : (0 : Int) ≤ n := by omega
                        have i2_ : (n : Int) < 2050 := by omega
                        have hNn := HN.out
                        rw [show 2049 - n = (2048 - n) + 1 by omega, ffrom, if_pos h2] at hNn
                        have HN2 := Lib.hid hNn
                        clear hNn h2
                        go_wp2_with fail
                        go_roundw
                        case rel => exact ⟨n + 1, by go_num, by omega, by omega, Lib.hid (by rw [show 2049 - (n + 1) = 2048 - n by omega]; exact HN2.out), by first | rfl | trivial⟩
                        case measure => simp [intOf]; omega
                      · have e1_ : decide ((n : Int) ≤ 2048) = true := decide_eq_true (by omega)
                        have e3_ : decide (n ≤ 2048) = true := decide_eq_true h1
                        have a0 := arr_at HA.out (show n < 2050 by omega)
                        rw [h2] at a0
                        have i0_ : (0 : Int) ≤ n := by omega
                        have i2_ : (n : Int) < 2050 := by omega
                        have hFn := Lib.hid (show F = n by rw [← HN.out, show 2049 - n = (2048 - n) + 1 by omega, ffrom, if_neg (by rw [h2]; simp)])
                        clear h2
                        go_wp2_with fail
                        go_meet
                        exact ⟨by rw [hFn.out], by first | rfl | trivial⟩
                  case rest =>
                  obtain ⟨rfl, hwc⟩ := hcut
                  obtain rfl := hwc.symm
                  rcases (show ((F : Int) > xn) ∨ ((F : Int) ≤ xn ∧ F > 2048) ∨ ((F : Int) ≤ xn ∧ F ≤ 2048) by omega) with h1 | ⟨h1, h2⟩ | ⟨h1, h2⟩
                  · have e1_ : decide ((F : Int) > xn) = true := decide_eq_true h1
                    have c1 := HC.out.cell 1
                    go_upto_region 24 with (first | (with_reducible (refine isList ?_; with_unfolding_all refine wpList_load_row rfl 29 (.tmp 5) rfl g5 (by kernel_rfl) 29 (shM lsn V) (0, 0) _ HB.out Try.underlying29 rfl (by kernel_rfl) ?_)) | (go_at_call 11; refine (take_all lsn xn HS.out HV.out F HF.out 20 (.inr ⟨.inl h1, rfl⟩)).mono ?_; rintro e x4 ⟨⟨r0, r1, r2, r3, r4, rfl, ht⟩, hb5⟩; have HT := Lib.hid (fun e => (ht e).2); have HR0 := Lib.hid (fun e => (ht e).1); clear ht; have n_HB := Lib.hid (HB.out.step hb5); have n_HA := Lib.hid (HA.out.step hb5); have n_HV := Lib.hid (HV.out.below hb5); have n_HK := Lib.hid (bstep HK.out hb5); have n_HC := Lib.hid (HC.out.step hb5); have n_HQ := Lib.hid (HQ.out.step hb5); clear hb5 HB HA HV HK HC HQ; have HB := n_HB; have HA := n_HA; have HV := n_HV; have HK := n_HK; have HC := n_HC; have HQ := n_HQ; clear n_HB n_HA n_HV n_HK n_HC n_HQ) | (with_reducible (refine isList ?_; with_unfolding_all refine wpList_store_row rfl 41 (.tmp 13) (.tmp 87) rfl g13 #[.int .i64 r1, .int .i64 r2, .string r3, .string r4] (by kernel_rfl) (by kernel_rfl) 41 #[.int .i64 0, .int .i64 0, .string ⟨#[]⟩, .string ⟨#[]⟩] HQ.out (by kernel_rfl) rfl (by simp [Value.oneCell']) ?_)))
                    clear c1
                    have n_HB := Lib.hid (blk_setRow_far HB.out #[.int .i64 r1, .int .i64 r2, .string r3, .string r4] HM5.out)
                    have n_HA := Lib.hid (blk_setRow_far HA.out #[.int .i64 r1, .int .i64 r2, .string r3, .string r4] HM9.out)
                    have n_HV := Lib.hid (OwnP.setRow (cs' := #[.int .i64 r1, .int .i64 r2, .string r3, .string r4]) HV.out HQ.out (by decide))
                    have n_HK := Lib.hid (setRow_below HK.out hG13 #[.int .i64 r1, .int .i64 r2, .string r3, .string r4])
                    have n_HC := Lib.hid (blk_setRow_far HC.out #[.int .i64 r1, .int .i64 r2, .string r3, .string r4] HM12.out)
                    have n_HQ := Lib.hid (blk_setRow (cs' := #[.int .i64 r1, .int .i64 r2, .string r3, .string r4]) HQ.out)
                    clear HB HA HV HK HC HQ
                    have HB := n_HB
                    have HA := n_HA
                    have HV := n_HV
                    have HK := n_HK
                    have HC := n_HC
                    have HQ := n_HQ
                    clear n_HB n_HA n_HV n_HK n_HC n_HQ
                    generalize x4.setRow g13 #[.int .i64 r1, .int .i64 r2, .string r3, .string r4] = x5 at *
                    have c1 := HC.out.cell 1
                    go_wp2_with fail
                    go_meet
                    exact ⟨20, F, r1, r2, r3, r4, rfl, rfl, rfl, Lib.hid (fun e_ => by first | exact HT.out e_ | exact HT.out trivial), HQ, HS, HB, HV, HA, HK⟩
                  · have e1_ : decide ((F : Int) > xn) = false := decide_eq_false (by omega)
                    have e2_ : decide ((F : Int) > 2048) = true := decide_eq_true (by omega)
                    have e3_ : decide (F > 2048) = true := decide_eq_true h2
                    have c1 := HC.out.cell 1
                    go_upto_region 24 with (first | (with_reducible (refine isList ?_; with_unfolding_all refine wpList_load_row rfl 29 (.tmp 5) rfl g5 (by kernel_rfl) 29 (shM lsn V) (0, 0) _ HB.out Try.underlying29 rfl (by kernel_rfl) ?_)) | (go_at_call 11; refine (take_all lsn xn HS.out HV.out F HF.out 20 (.inr ⟨.inr h2, rfl⟩)).mono ?_; rintro e x4 ⟨⟨r0, r1, r2, r3, r4, rfl, ht⟩, hb5⟩; have HT := Lib.hid (fun e => (ht e).2); have HR0 := Lib.hid (fun e => (ht e).1); clear ht; have n_HB := Lib.hid (HB.out.step hb5); have n_HA := Lib.hid (HA.out.step hb5); have n_HV := Lib.hid (HV.out.below hb5); have n_HK := Lib.hid (bstep HK.out hb5); have n_HC := Lib.hid (HC.out.step hb5); have n_HQ := Lib.hid (HQ.out.step hb5); clear hb5 HB HA HV HK HC HQ; have HB := n_HB; have HA := n_HA; have HV := n_HV; have HK := n_HK; have HC := n_HC; have HQ := n_HQ; clear n_HB n_HA n_HV n_HK n_HC n_HQ) | (with_reducible (refine isList ?_; with_unfolding_all refine wpList_store_row rfl 41 (.tmp 13) (.tmp 87) rfl g13 #[.int .i64 r1, .int .i64 r2, .string r3, .string r4] (by kernel_rfl) (by kernel_rfl) 41 #[.int .i64 0, .int .i64 0, .string ⟨#[]⟩, .string ⟨#[]⟩] HQ.out (by kernel_rfl) rfl (by simp [Value.oneCell']) ?_)))
                    clear c1
                    have n_HB := Lib.hid (blk_setRow_far HB.out #[.int .i64 r1, .int .i64 r2, .string r3, .string r4] HM5.out)
                    have n_HA := Lib.hid (blk_setRow_far HA.out #[.int .i64 r1, .int .i64 r2, .string r3, .string r4] HM9.out)
                    have n_HV := Lib.hid (OwnP.setRow (cs' := #[.int .i64 r1, .int .i64 r2, .string r3, .string r4]) HV.out HQ.out (by decide))
                    have n_HK := Lib.hid (setRow_below HK.out hG13 #[.int .i64 r1, .int .i64 r2, .string r3, .string r4])
                    have n_HC := Lib.hid (blk_setRow_far HC.out #[.int .i64 r1, .int .i64 r2, .string r3, .string r4] HM12.out)
                    have n_HQ := Lib.hid (blk_setRow (cs' := #[.int .i64 r1, .int .i64 r2, .string r3, .string r4]) HQ.out)
                    clear HB HA HV HK HC HQ
                    have HB := n_HB
                    have HA := n_HA
                    have HV := n_HV
                    have HK := n_HK
                    have HC := n_HC
                    have HQ := n_HQ
                    clear n_HB n_HA n_HV n_HK n_HC n_HQ
                    generalize x4.setRow g13 #[.int .i64 r1, .int .i64 r2, .string r3, .string r4] = x5 at *
                    have c1 := HC.out.cell 1
                    go_wp2_with fail
                    go_meet
                    exact ⟨20, F, r1, r2, r3, r4, rfl, rfl, rfl, Lib.hid (fun e_ => by first | exact HT.out e_ | exact HT.out trivial), HQ, HS, HB, HV, HA, HK⟩
                  · have e1_ : decide ((F : Int) > xn) = false := decide_eq_false (by omega)
                    have e2_ : decide ((F : Int) > 2048) = false := decide_eq_false (by omega)
                    have e3_ : decide (F > 2048) = false := decide_eq_false (by omega)
                    have c1 := HC.out.cell 1
                    go_upto_region 24 with (first | (with_reducible (refine isList ?_; with_unfolding_all refine wpList_load_row rfl 29 (.tmp 5) rfl g5 (by kernel_rfl) 29 (shM lsn V) (0, 0) _ HB.out Try.underlying29 rfl (by kernel_rfl) ?_)) | (go_at_call 11; refine (take_all lsn xn HS.out HV.out F HF.out 0 (.inl ⟨h1, h2, rfl⟩)).mono ?_; rintro e x4 ⟨⟨r0, r1, r2, r3, r4, rfl, ht⟩, hb5⟩; have HT := Lib.hid (fun e => (ht e).2); have HR0 := Lib.hid (fun e => (ht e).1); clear ht; have n_HB := Lib.hid (HB.out.step hb5); have n_HA := Lib.hid (HA.out.step hb5); have n_HV := Lib.hid (HV.out.below hb5); have n_HK := Lib.hid (bstep HK.out hb5); have n_HC := Lib.hid (HC.out.step hb5); have n_HQ := Lib.hid (HQ.out.step hb5); clear hb5 HB HA HV HK HC HQ; have HB := n_HB; have HA := n_HA; have HV := n_HV; have HK := n_HK; have HC := n_HC; have HQ := n_HQ; clear n_HB n_HA n_HV n_HK n_HC n_HQ) | (with_reducible (refine isList ?_; with_unfolding_all refine wpList_store_row rfl 41 (.tmp 13) (.tmp 87) rfl g13 #[.int .i64 r1, .int .i64 r2, .string r3, .string r4] (by kernel_rfl) (by kernel_rfl) 41 #[.int .i64 0, .int .i64 0, .string ⟨#[]⟩, .string ⟨#[]⟩] HQ.out (by kernel_rfl) rfl (by simp [Value.oneCell']) ?_)))
                    clear c1
                    have n_HB := Lib.hid (blk_setRow_far HB.out #[.int .i64 r1, .int .i64 r2, .string r3, .string r4] HM5.out)
                    have n_HA := Lib.hid (blk_setRow_far HA.out #[.int .i64 r1, .int .i64 r2, .string r3, .string r4] HM9.out)
                    have n_HV := Lib.hid (OwnP.setRow (cs' := #[.int .i64 r1, .int .i64 r2, .string r3, .string r4]) HV.out HQ.out (by decide))
                    have n_HK := Lib.hid (setRow_below HK.out hG13 #[.int .i64 r1, .int .i64 r2, .string r3, .string r4])
                    have n_HC := Lib.hid (blk_setRow_far HC.out #[.int .i64 r1, .int .i64 r2, .string r3, .string r4] HM12.out)
                    have n_HQ := Lib.hid (blk_setRow (cs' := #[.int .i64 r1, .int .i64 r2, .string r3, .string r4]) HQ.out)
                    clear HB HA HV HK HC HQ
                    have HB := n_HB
                    have HA := n_HA
                    have HV := n_HV
                    have HK := n_HK
                    have HC := n_HC
                    have HQ := n_HQ
                    clear n_HB n_HA n_HV n_HK n_HC n_HQ
                    generalize x4.setRow g13 #[.int .i64 r1, .int .i64 r2, .string r3, .string r4] = x5 at *
                    have c1 := HC.out.cell 1
                    obtain rfl := HR0.out (by first | rfl | trivial)
                    have hwF1 : IntKind.i64.wrap (F : Int) = F := by rw [IntKind.wrap_i64]; omega
                    have hwF2 : wrap64 (F : Int) = F := by unfold wrap64; omega
                    go_wp2_with fail
                    go_meet
                    exact ⟨0, F, r1, r2, r3, r4, rfl, rfl, rfl, Lib.hid (fun e_ => by first | exact HT.out e_ | exact HT.out trivial), HQ, HS, HB, HV, HA, HK⟩
            case rest =>
              obtain ⟨E, n, r1, r2, r3, r4, rfl, rfl, rfl, HT, k0, k1, k2, k3, k4, k5⟩ := hcut
              clear HS HB HV HA HK HC HQ
              have HQ := k0
              have HS := k1
              have HB := k2
              have HV := k3
              have HA := k4
              have HK := k5
              clear k0 k1 k2 k3 k4 k5
              by_cases hE : E = 0
              · subst hE
                obtain ⟨hn1, hn2, hnt⟩ := HT.out rfl
                have hst := step_turn s HS.out.sz n hn1 hn2
                have HS9 := Lib.hid (HS.out.turn n hn1 hn2)
                have ht2 : (r1, r2, r3, r4) = ((6 : Int), (((n - 1) / 8 : Nat) : Int), (turnR s n).2.2.1, (turnR s n).2.2.2) := hnt
                simp only [Prod.mk.injEq] at ht2
                obtain ⟨rfl, rfl, e3, e4⟩ := ht2
                rw [← e3, ← e4] at hst
                rw [← e3] at HS9
                have hz3 : (r3.size : Int) = 1 := by rw [e3]; rfl
                obtain ⟨q, hq⟩ : ∃ q, (n - 1) / 8 = q := ⟨_, rfl⟩
                rw [hq] at hst HS9
                rw [hq] at HQ
                obtain ⟨s', hs'⟩ : ∃ s', putB s r3 q = s' := ⟨_, rfl⟩
                rw [hs'] at hst HS9
                have HST := Lib.hid hst
                have HE3 := Lib.hid e3
                clear hst hs' hq e3 e4 hnt HT HE3
                go_upto_region 41 with (first | (with_reducible (refine isList ?_; with_unfolding_all refine wpList_load_row rfl 29 (.tmp 5) rfl g5 (by kernel_rfl) 29 (shM lsn V) (0, 0) _ HB.out Try.underlying29 rfl (by kernel_rfl) ?_)) | (with_reducible (refine isList ?_; with_unfolding_all refine wpList_load_row rfl 41 (.tmp 13) rfl g13 (by kernel_rfl) 41 #[.int .i64 6, .int .i64 q, .string r3, .string r4] (0, 0) _ HQ.out Try.underlying41 rfl (by kernel_rfl) ?_)) | (go_at_call 12; refine (apm_own lsn q r3 r4 2 HS.out.sz HV.out (HST.out.fw lsn 2)).mono ?_; rintro e x6 ⟨A15, c15, rfl, ho, hb5⟩; have HV9 := Lib.hid (OwnP.lower ho HK.out.size); clear ho; have n_HB := Lib.hid (HB.out.step hb5); have n_HA := Lib.hid (HA.out.step hb5); have n_HK := Lib.hid (bstep HK.out hb5); have n_HQ := Lib.hid (HQ.out.step hb5); clear hb5 HB HA HK HQ; have HB := n_HB; have HA := n_HA; have HK := n_HK; have HQ := n_HQ; clear n_HB n_HA n_HK n_HQ) | (with_reducible (refine isList ?_; with_unfolding_all refine wpList_store_row rfl 29 (.tmp 19) (.tmp 152) rfl x6.heap.size (shM 2 (.slice A15 1 c15)) (by kernel_rfl) (by kernel_rfl) 29 #[.int .u32 0, .int .u64 0, .int .i64 0, .string ⟨#[]⟩, .slice none 0 0] (Blk.new x6 29 #[.int .u32 0, .int .u64 0, .int .i64 0, .string ⟨#[]⟩, .slice none 0 0]) (by kernel_rfl) rfl (by simp [shM, Value.oneCell']) ?_)))
                have h19 := blk_setRow (cs' := (shM 2 (.slice A15 1 c15))) (Blk.new x6 29 #[.int .u32 0, .int .u64 0, .int .i64 0, .string ⟨#[]⟩, .slice none 0 0])
                have hb5 := setRow_below (balloc (Below.refl x6.heap.size x6) (.cells #[.int .u32 0, .int .u64 0, .int .i64 0, .string ⟨#[]⟩, .slice none 0 0] 29)) (Nat.le_refl x6.heap.size) (shM 2 (.slice A15 1 c15))
                have n_HB := Lib.hid (HB.out.step hb5)
                have n_HA := Lib.hid (HA.out.step hb5)
                have n_HK := Lib.hid (bstep HK.out hb5)
                have n_HQ := Lib.hid (HQ.out.step hb5)
                have n_HV9 := Lib.hid (HV9.out.below hb5)
                clear hb5 HB HA HK HQ HV9
                have HB := n_HB
                have HA := n_HA
                have HK := n_HK
                have HQ := n_HQ
                have HV9 := n_HV9
                clear n_HB n_HA n_HK n_HQ n_HV9
                generalize (x6.alloc (.cells #[.int .u32 0, .int .u64 0, .int .i64 0, .string ⟨#[]⟩, .slice none 0 0] 29)).setRow x6.heap.size (shM 2 (.slice A15 1 c15)) = x7 at *
                generalize x6.heap.size = g19 at *
                have H19 := Lib.hid h19
                clear h19
                obtain ⟨q0, q1, q2, q3⟩ := op_cells HQ.out
                go_upto_region 44 with (first | (with_reducible (refine isList ?_; with_unfolding_all refine wpList_load_row rfl 29 (.tmp 19) rfl g19 (by kernel_rfl) 29 (shM 2 (.slice A15 1 c15)) (0, 0) _ H19.out Try.underlying29 rfl (by kernel_rfl) ?_)) | (with_reducible (refine isList ?_; with_unfolding_all refine wpList_store_row rfl 29 (.tmp 5) (.tmp 167) rfl g5 (shM 2 (.slice A15 1 c15)) (by kernel_rfl) (by kernel_rfl) 29 (shM lsn V) HB.out (by kernel_rfl) rfl (by simp [shM, Value.oneCell']) ?_)))
                clear q0 q1 q2 q3
                have n_HA := Lib.hid (blk_setRow_far HA.out (shM 2 (.slice A15 1 c15)) (Ne.symm HN59.out))
                have n_HB := Lib.hid (blk_setRow (cs' := (shM 2 (.slice A15 1 c15))) HB.out)
                have n_HV := Lib.hid (OwnP.setRow (cs' := (shM 2 (.slice A15 1 c15))) HV9.out HB.out (by decide))
                have n_HK := Lib.hid (setRow_below HK.out hG5 (shM 2 (.slice A15 1 c15)))
                clear HA HB HV9 HK HQ H19
                have HA := n_HA
                have HB := n_HB
                have HV := n_HV
                have HK := n_HK
                clear n_HA n_HB n_HV n_HK
                generalize x7.setRow g5 (shM 2 (.slice A15 1 c15)) = x8 at *
                have a0 := arr_at HA.out (show n < 2050 by omega)
                have f0 := HA.out.frozen n
                have i3_ : (0 : Int) ≤ n := by omega
                have i4_ : (n : Int) < 2050 := by omega
                go_wp2_with fail
                go_roundw
                case rel => exact ⟨k + 1, s', _, 2, (.slice A15 1 c15), by go_num, by omega, HS9, Lib.hid (HB.out.far HN59.out _), Lib.hid (OwnP.set HV.out HA.out (by decide)), Lib.hid (has_set HA.out n (!H n) (by omega)), Lib.hid (bsetAt HK.out hG9 _)⟩
                case measure => simp [intOf]; omega
              · have hne : (E != 0) = true := by simp [hE]
                go_wp2_with fail
                go_roundw
                case rel => exact ⟨k + 1, s, H, lsn, V, by go_num, by omega, HS, HB, HV, HA, HK⟩
                case measure => simp [intOf]; omega
end Go.Proofs.Ytdannjjipcmhdaa
end
section
namespace Go.Proofs.Ytdannjjipcmhdaa.spacePlaysRow
open Go.ChangeShapes Go.WideShapes Go.ChangeAt Go.RowKit Go.GiRow Go.Proofs.YtdannjjipcmhdaaW.PrintWords OpenK
theorem own : ownKnob Try.prog.godebug = none := by kernel_rfl
theorem laid : laidOutB Try.prog = true := by kernel_rfl
def kAct : Kd ActS := Kd.iso (Kd.pair (Kd.int .i64) (Kd.int .i64)) (fun x : ActS => (x.k, x.n))
theorem opens_act : Opens Try.prog 39 kAct (fun x => (Lit.int .i64 x.k).wf = true ∧ (Lit.int .i64 x.n).wf = true) :=
  opens_struct Try.underlying39 (opens_cons (opens_int Try.underlying3) rfl (by kernel_rfl) (opens_one (opens_int Try.underlying3) rfl (by kernel_rfl))) (by kernel_rfl) (fun a => ⟨a.1, a.2⟩) (fun _ => rfl)
theorem opens_acts : Opens Try.prog 22 (Kd.slice 39 kAct) (fun l => l.length * 16 ≤ 140737488351232 ∧ ∀ x ∈ l, (Lit.int .i64 x.k).wf = true ∧ (Lit.int .i64 x.n).wf = true) :=
  opens_slice Try.underlying22 (by kernel_rfl) (by decide) (by kernel_rfl) opens_act
theorem act_open {w : World} {x : ActS} {cs : List Value} (h : kAct.K w x cs) : cs = x.cells := by
  obtain ⟨_, _, rfl, rfl, rfl⟩ := h
  exact rfl
theorem rd_of_C {α β : Type} {k : Kd β} {of : α → β} {cells : α → List Value} {n : Nat} (hsz : k.sz = n) (hn : 0 < n) (hk : ∀ w a cs, k.K w (of a) cs → cs = cells a) (hlen : ∀ a, (cells a).length = n) {w : World} {A : Option Addr} {l : List α}
    (h : Kd.C k w A l.length (l.map of)) : RdRows cells n w A l := fun j hj => by
  obtain ⟨h1, h2, h3⟩ := h
  obtain ⟨ad, rfl, hc⟩ := h3 (by omega)
  have hat : ∀ i (hi : i < l.length) x u, (cells l[i])[x]? = some u → w.cell? (ad.add (i * n + x)) = some u := by
    intro i hi x u hu
    obtain ⟨c, hcl, hK, hcell⟩ := hc i (of l[i]) (by simp [hi])
    have e := hk _ _ _ hK
    subst e
    rw [hsz] at hcell
    exact hcell x u hu
  have hc0 := hat 0 (by omega) 0 _ (List.getElem?_eq_getElem (by rw [hlen]; exact hn))
  rw [show ad.add (0 * n + 0) = ad by unfold Addr.add; simp] at hc0
  have hsp : ad.spot = none := by
    unfold World.cell? at hc0
    cases hs : ad.spot with
    | none => rfl
    | some y =>
      simp [hs] at hc0
      split at hc0 <;> simp_all
  obtain ⟨b, off, sp⟩ := ad
  simp only at hsp
  subst hsp
  refine ⟨b, off, rfl, World.block_lt_of_cell? w _ hc0, fun x u hu => ?_⟩
  have := hat j hj x u hu
  rw [show (⟨b, off, none⟩ : Addr).add (j * n + x) = ⟨b, off + j * n + x, none⟩ by unfold Addr.add; split <;> simp_all [Nat.add_assoc]] at this
  exact this
set_option maxRecDepth 100000 in
set_option maxHeartbeats 6400000 in
theorem lifted (os : Os) (started : os.Started) (H : Type) (enc : TypeId × Value → H) :
    ReturnsInHanded {} Try.checked os 3 .any (Rows.spacePlaysSpec.pre6 enc Try.prog Try.f3 Rows.spacePlaysRow.domain false) (Rows.spacePlaysSpec.post enc Try.prog Try.f3 false true false false) := by
  refine returnsInHanded_of_change_sized (C := Try.checked) own started (by kernel_rfl) Try.func3
    (ChangeSpec.witness6 (enc := enc) (C := Try.checked) false ⟨#[], #[.int .i64 0, .slice none 0 0], []⟩ 8 (by kernel_rfl) (by kernel_rfl) (by kernel_rfl) (by kernel_rfl)) ?_
  intro W base args ds gs before hval0 hW _ hsz0 _
  have hsz : (DataW.weightsEach Try.prog (Try.f3.params.toList ++ Rows.spacePlaysSpec.plain.varTypes Try.prog) (ds ++ gs)).all (· ≤ reachBytes) = true := hsz0
  have hval : ∀ (j : Nat) t v, Try.f3.params[j]? = some t → args[j]? = some v → Value.okWide Try.prog W .any base t v := hval0
  have hW' := hW
  obtain ⟨p, q, hA0, hV, rfl, _, _⟩ := hW
  have hA : DataW.TrodAll enc Try.prog W 0 (fun _ => true) true Try.f3.params.toList args.toList ds p := hA0
  rw [Try.params3] at hA hval hsz
  obtain ⟨v0, vs0, d0, ds0, p0, q0, hargs, rfl, rfl, h0, r0⟩ := trodAll_cons hA
  obtain ⟨v1, vs1, d1, ds1, p1, q1, rfl, rfl, rfl, h1, r1⟩ := trodAll_cons r0
  obtain ⟨rfl, rfl, rfl⟩ := trodAll_nil r1
  obtain rfl : args = #[v0, v1] := by cases args; simp_all
  obtain ⟨rfl, rfl⟩ := trodVars_none hV
  obtain ⟨a0, rfl, rfl, rfl, w0⟩ := open_int Try.underlying3 (hval 0 3 v0 rfl rfl) h0
  obtain ⟨a, len, cap, hv⟩ := okWide_slice Try.underlying22 (hval 1 22 v1 rfl rfl)
  subst hv
  obtain ⟨fuel, hf⟩ := h1
  obtain ⟨l, ⟨A, c, e, hc, hC⟩, hn, hB⟩ := opens_acts H enc W _ _ fuel _ _ hf (OpenK.light_each hsz 1 _ _ rfl rfl)
  simp only [Value.cells, List.cons.injEq, Value.slice.injEq, and_true] at e
  obtain ⟨rfl, rfl, rfl⟩ := e
  refine (plays_any a0 a cap l W (rd_of_C (k := kAct) (of := fun x : ActS => x) rfl (by decide) (fun _ _ _ h => act_open h) (fun _ => rfl) (by rw [List.map_id']; exact hC)) (bounds_i64 w0) (by omega)).mono fun e W' ⟨he, bel⟩ => ?_
  subst he
  refine ⟨_, rfl, law_post (tb := 4) laid (by kernel_rfl) rfl Try.underlying4 rfl (fun ds hds => ?_) hW' bel⟩
  match ds, hds with
  | [_, _], _ => rfl
theorem over : Rows.spacePlaysRow.holds Try.pinned (OpenSpec.ofChange Rows.spacePlaysSpec) :=
  OpenClaim.holds_of_wide 3 Try.f3 rfl rfl rfl rfl rfl rfl rfl ⟨rfl, rfl, rfl, rfl, rfl⟩ rfl rfl rfl rfl rfl (by kernel_rfl) Try.func3 (by kernel_rfl)
    (of_decide_eq_true (by kernel_rfl)) (by unfold Func.isWrapper; first | (rw [if_pos (by decide +kernel)]; kernel_rfl) | (rw [if_neg (by decide +kernel)]; exact ⟨rfl, rfl⟩))
    (fun os started H enc _ => lifted os started H enc)
end Go.Proofs.Ytdannjjipcmhdaa.spacePlaysRow
namespace Go.Proofs.Ytdannjjipcmhdaa
/-- The row, under a short name, for the claim. -/
theorem spacePlays_holds : Rows.SpacePlaysSaid := spacePlaysRow.over
#print axioms spacePlays_holds
end Go.Proofs.Ytdannjjipcmhdaa
end
