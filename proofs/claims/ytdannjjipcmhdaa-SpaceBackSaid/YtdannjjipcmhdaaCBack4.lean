/- What was taken and made free, taken back from the last to the first, leaves the map as it was: for every number of pages taken ahead and every list of what is done; no condition. -/
import Derived.Test.YtdannjjipcmhdaaCBack3
section
namespace Go.Proofs.Ytdannjjipcmhdaa.PSp
open Go.RowKit Go.Proofs.YtdannjjipcmhdaaW.PrintWords Go.Proofs.YtdannjjipcmhdaaW.PrintLast Go.Proofs.YtdannjjipcmhdaaW.PrintMore
attribute [local go_sem] max2_int min2_int max_two min_two max_three min_three max_four min_four
set_option linter.unusedVariables false
set_option linter.unusedSimpArgs false
def page_Same.f (k : Nat) (a0_0 : Int) (a0_1 : Int) (a0_2 : Int) (a0_3 : ByteArray) (l0_4 : List ByteArray) (a1_0 : Int) (a1_1 : Int) (a1_2 : Int) (a1_3 : ByteArray) (l1_4 : List ByteArray) : Option (Bool) := if a0_0 = a1_0 then (if a0_2 = a1_2 then (if a0_3.toList = a1_3.toList then ((slices_Equal_string_string.f k l0_4 l1_4).bind fun t233 => (some t233)) else (some false)) else (some false)) else (some false)
set_option maxHeartbeats 8000000 in
set_option maxRecDepth 100000 in
theorem page_Same.calls (k : Nat) (a0_0 : Int) (a0_1 : Int) (a0_2 : Int) (a0_3 : ByteArray) (A0_4 : Option Addr) (c0_4 : Nat) (l0_4 : List ByteArray) (a1_0 : Int) (a1_1 : Int) (a1_2 : Int) (a1_3 : ByteArray) (A1_4 : Option Addr) (c1_4 : Nat) (l1_4 : List ByteArray) (r : Bool) (w : World) (hr0_4 : Kd.C Kd.string w A0_4 l0_4.length l0_4) (hc0_4 : l0_4.length ≤ c0_4) (hr1_4 : Kd.C Kd.string w A1_4 l1_4.length l1_4) (hc1_4 : l1_4.length ≤ c1_4) (h : page_Same.f k a0_0 a0_1 a0_2 a0_3 l0_4 a1_0 a1_1 a1_2 a1_3 l1_4 = some r) :
  Calls Try.prog 19 #[.agg #[.int .u32 a0_0, .int .u64 a0_1, .int .i64 a0_2, .string a0_3, .slice A0_4 l0_4.length c0_4], .agg #[.int .u32 a1_0, .int .u64 a1_1, .int .i64 a1_2, .string a1_3, .slice A1_4 l1_4.length c1_4]] w fun e w' => e = .returned (.bool r) ∧ Below w.heap.size w w' := by
 have hu29 := Try.underlying29
 have HR0_4 := Aside0.mk hr0_4
 have HC0_4 := Aside0.mk hc0_4
 clear hr0_4 hc0_4
 have HR1_4 := Aside0.mk hr1_4
 have HC1_4 := Aside0.mk hc1_4
 clear hr1_4 hc1_4
 have HB := Aside0.mk (Below.refl w.heap.size w)
 have H : (if a0_0 = a1_0 then (if a0_2 = a1_2 then (if a0_3.toList = a1_3.toList then ((slices_Equal_string_string.f k l0_4 l1_4).bind fun t233 => (some t233)) else (some false)) else (some false)) else (some false)) = some r := h
 clear h
 by_cases c3 : a0_0 = a1_0
 ·rw [if_pos c3] at H
  have c3b0 : (a0_0 == a1_0) = true := beq_iff_eq.mpr c3
  have c3b1 : (a0_0 != a1_0) = false := bne_eq_false_iff_eq.mpr c3
  clear c3
  by_cases c4 : a0_2 = a1_2
  ·rw [if_pos c4] at H
   have c4b0 : (a0_2 == a1_2) = true := beq_iff_eq.mpr c4
   have c4b1 : (a0_2 != a1_2) = false := bne_eq_false_iff_eq.mpr c4
   clear c4
   by_cases c5 : a0_3.toList = a1_3.toList
   ·rw [if_pos c5] at H
    have c5b0 : (a0_3.toList == a1_3.toList) = true := beq_iff_eq.mpr c5
    have c5b1 : (a0_3.toList != a1_3.toList) = false := bne_eq_false_iff_eq.mpr c5
    clear c5
    replace H := Option.bind_eq_some_iff.mp H
    obtain ⟨t233, A60, H⟩ := H
    replace H : (some t233) = some r := H
    have A6 := Aside0.mk A60
    clear A60
    obtain rfl := Option.some.inj H
    go_enter Try.func19, Try.ntmps19
    go_wp2_with (first | ((with_reducible refine gate_dst (N := 2) rfl ?_); refine box_event ?hg (N := 2) ?hd (cs := #[.int .u32 a0_0, .int .u64 a0_1, .int .i64 a0_2, .string a0_3, .slice A0_4 l0_4.length c0_4]) (t := 29) ?hr ?_; (case hd => rfl); (case hg => rfl); (case hr => first | (go_simp; done) | (go_simp; rfl)); intro gb231 hg w7 hbox hb; have n0_ := Aside0.mk (below_step (by repeat (first | (with_reducible first | exact HB.out | apply below_alloc | apply pw_below_drewN | apply below_drew1) | exact HB.out)) hb); have n1_ := Aside0.mk (hbox); have n2_ := Aside0.mk ((by rw [hg]; exact (below_size (by repeat (first | (with_reducible first | exact HB.out | apply below_alloc | apply pw_below_drewN | apply below_drew1) | exact HB.out))) : w.heap.size ≤ gb231)); have n3_ := Aside0.mk ((by rw [hg]; exact (below_size (by repeat (first | (with_reducible first | exact HB.out | apply below_alloc | apply pw_below_drewN | apply below_drew1) | exact HB.out))) : w.heap.size ≤ gb231)); clear HB; have HB := n0_; have BK231 := n1_; have GW231 := n2_; have GE231 := n3_; clear n0_ n1_ n2_ n3_; clear hb hbox hg) | ((with_reducible refine gate_dst (N := 3) rfl ?_); refine box_event ?hg (N := 3) ?hd (cs := #[.int .u32 a1_0, .int .u64 a1_1, .int .i64 a1_2, .string a1_3, .slice A1_4 l1_4.length c1_4]) (t := 29) ?hr ?_; (case hd => rfl); (case hg => rfl); (case hr => first | (go_simp; done) | (go_simp; rfl)); intro gb232 hg w8 hbox hb; have n0_ := Aside0.mk (blk_below (g := gb231) (o := .cells #[.int .u32 a0_0, .int .u64 a0_1, .int .i64 a0_2, .string a0_3, .slice A0_4 l0_4.length c0_4] 29 (0, 0)) (by (with_reducible repeat (first | refine blk_drewN ?_ _ | refine blk_drew ?_ | refine blk_alloc ?_ _)); exact BK231.out) hb); have n1_ := Aside0.mk (below_step (by repeat (first | (with_reducible first | exact HB.out | apply below_alloc | apply pw_below_drewN | apply below_drew1 | refine below_set ?_ GE231.out) | exact HB.out)) hb); have n2_ := Aside0.mk (hbox); have n3_ := Aside0.mk ((by rw [hg]; exact (below_size (by repeat (first | (with_reducible first | exact HB.out | apply below_alloc | apply pw_below_drewN | apply below_drew1 | refine below_set ?_ GE231.out) | exact HB.out))) : w.heap.size ≤ gb232)); have n4_ := Aside0.mk ((by rw [hg]; exact (below_size (by repeat (first | (with_reducible first | exact HB.out | apply below_alloc | apply pw_below_drewN | apply below_drew1 | refine below_set ?_ GE231.out) | exact HB.out))) : w.heap.size ≤ gb232)); have n5_ := Aside0.mk ((by rw [hg]; exact Nat.ne_of_lt (blk_lt (g := gb231) (o := .cells #[.int .u32 a0_0, .int .u64 a0_1, .int .i64 a0_2, .string a0_3, .slice A0_4 l0_4.length c0_4] 29 (0, 0)) (by (with_reducible repeat (first | refine blk_drewN ?_ _ | refine blk_drew ?_ | refine blk_alloc ?_ _)); exact BK231.out)) : gb231 ≠ gb232)); have n6_ := Aside0.mk ((by rw [hg]; exact Nat.ne_of_gt (blk_lt (g := gb231) (o := .cells #[.int .u32 a0_0, .int .u64 a0_1, .int .i64 a0_2, .string a0_3, .slice A0_4 l0_4.length c0_4] 29 (0, 0)) (by (with_reducible repeat (first | refine blk_drewN ?_ _ | refine blk_drew ?_ | refine blk_alloc ?_ _)); exact BK231.out)) : gb232 ≠ gb231)); clear BK231; clear HB; have BK231 := n0_; have HB := n1_; have BK232 := n2_; have GW232 := n3_; have GE232 := n4_; have NB231_232 := n5_; have NB232_231 := n6_; clear n0_ n1_ n2_ n3_ n4_ n5_ n6_; clear hb hbox hg; have hnb9 := NB231_232.out; have hnc9 := NB232_231.out; have hcz10_0 : w8.cell? ⟨gb231, 0, none⟩ = some (.int .u32 a0_0) := (blk_cell BK231.out 0).trans rfl; have hcz10_1 : w8.cell? ⟨gb231, 1, none⟩ = some (.int .u64 a0_1) := (blk_cell BK231.out 1).trans rfl; have hcz10_2 : w8.cell? ⟨gb231, 2, none⟩ = some (.int .i64 a0_2) := (blk_cell BK231.out 2).trans rfl; have hcz10_3 : w8.cell? ⟨gb231, 3, none⟩ = some (.string a0_3) := (blk_cell BK231.out 3).trans rfl; have hcz10_4 : w8.cell? ⟨gb231, 4, none⟩ = some (.slice A0_4 l0_4.length c0_4) := (blk_cell BK231.out 4).trans rfl; have hfz10_0 := blk_frozen BK231.out 0; have hfz10_1 := blk_frozen BK231.out 1; have hfz10_2 := blk_frozen BK231.out 2; have hfz10_3 := blk_frozen BK231.out 3; have hfz10_4 := blk_frozen BK231.out 4; have hcz11_0 : w8.cell? ⟨gb232, 0, none⟩ = some (.int .u32 a1_0) := (blk_cell BK232.out 0).trans rfl; have hcz11_1 : w8.cell? ⟨gb232, 1, none⟩ = some (.int .u64 a1_1) := (blk_cell BK232.out 1).trans rfl; have hcz11_2 : w8.cell? ⟨gb232, 2, none⟩ = some (.int .i64 a1_2) := (blk_cell BK232.out 2).trans rfl; have hcz11_3 : w8.cell? ⟨gb232, 3, none⟩ = some (.string a1_3) := (blk_cell BK232.out 3).trans rfl; have hcz11_4 : w8.cell? ⟨gb232, 4, none⟩ = some (.slice A1_4 l1_4.length c1_4) := (blk_cell BK232.out 4).trans rfl; have hfz11_0 := blk_frozen BK232.out 0; have hfz11_1 := blk_frozen BK232.out 1; have hfz11_2 := blk_frozen BK232.out 2; have hfz11_3 := blk_frozen BK232.out 3; have hfz11_4 := blk_frozen BK232.out 4) | (go_at_call 29; (with_reducible refine (slices_Equal_string_string.calls k _ _ l0_4 _ _ l1_4 t233 _ ?side1 ?side2 ?side3 ?side4 A6.out).mono ?_); (case side1 => repeat (first | exact (Kd.C_below HR0_4.out HB.out) | (with_reducible refine Kd.C_alloc ?_ _) | (with_reducible refine Kd.C_drewN ?_ _) | (with_reducible refine Kd.C_drew ?_))); (case side2 => exact HC0_4.out); (case side3 => repeat (first | exact (Kd.C_below HR1_4.out HB.out) | (with_reducible refine Kd.C_alloc ?_ _) | (with_reducible refine Kd.C_drewN ?_ _) | (with_reducible refine Kd.C_drew ?_))); (case side4 => exact HC1_4.out); rintro e w' ⟨rfl, ⟨nd, rfl⟩⟩))
    go_ret
    exact ⟨by first | rfl | (simp [errW_none, errW_some] <;> rfl) | (simp [*, errW_none, errW_some] <;> rfl), by repeat (first | (with_reducible first | exact HB.out | apply below_alloc | apply pw_below_drewN | apply below_drew1 | refine below_set ?_ GE231.out | refine below_set ?_ GE232.out) | exact HB.out)⟩
   ·rw [if_neg c5] at H
    have c5b0 : (a0_3.toList == a1_3.toList) = false := beq_eq_false_iff_ne.mpr c5
    have c5b1 : (a0_3.toList != a1_3.toList) = true := bne_iff_ne.mpr c5
    obtain rfl := Option.some.inj H
    go_enter Try.func19, Try.ntmps19
    go_wp2_with (first | ((with_reducible refine gate_dst (N := 2) rfl ?_); refine box_event ?hg (N := 2) ?hd (cs := #[.int .u32 a0_0, .int .u64 a0_1, .int .i64 a0_2, .string a0_3, .slice A0_4 l0_4.length c0_4]) (t := 29) ?hr ?_; (case hd => rfl); (case hg => rfl); (case hr => first | (go_simp; done) | (go_simp; rfl)); intro gb231 hg w12 hbox hb; have n0_ := Aside0.mk (below_step (by repeat (first | (with_reducible first | exact HB.out | apply below_alloc | apply pw_below_drewN | apply below_drew1) | exact HB.out)) hb); have n1_ := Aside0.mk (hbox); have n2_ := Aside0.mk ((by rw [hg]; exact (below_size (by repeat (first | (with_reducible first | exact HB.out | apply below_alloc | apply pw_below_drewN | apply below_drew1) | exact HB.out))) : w.heap.size ≤ gb231)); have n3_ := Aside0.mk ((by rw [hg]; exact (below_size (by repeat (first | (with_reducible first | exact HB.out | apply below_alloc | apply pw_below_drewN | apply below_drew1) | exact HB.out))) : w.heap.size ≤ gb231)); clear HB; have HB := n0_; have BK231 := n1_; have GW231 := n2_; have GE231 := n3_; clear n0_ n1_ n2_ n3_; clear hb hbox hg) | ((with_reducible refine gate_dst (N := 3) rfl ?_); refine box_event ?hg (N := 3) ?hd (cs := #[.int .u32 a1_0, .int .u64 a1_1, .int .i64 a1_2, .string a1_3, .slice A1_4 l1_4.length c1_4]) (t := 29) ?hr ?_; (case hd => rfl); (case hg => rfl); (case hr => first | (go_simp; done) | (go_simp; rfl)); intro gb232 hg w13 hbox hb; have n0_ := Aside0.mk (blk_below (g := gb231) (o := .cells #[.int .u32 a0_0, .int .u64 a0_1, .int .i64 a0_2, .string a0_3, .slice A0_4 l0_4.length c0_4] 29 (0, 0)) (by (with_reducible repeat (first | refine blk_drewN ?_ _ | refine blk_drew ?_ | refine blk_alloc ?_ _)); exact BK231.out) hb); have n1_ := Aside0.mk (below_step (by repeat (first | (with_reducible first | exact HB.out | apply below_alloc | apply pw_below_drewN | apply below_drew1 | refine below_set ?_ GE231.out) | exact HB.out)) hb); have n2_ := Aside0.mk (hbox); have n3_ := Aside0.mk ((by rw [hg]; exact (below_size (by repeat (first | (with_reducible first | exact HB.out | apply below_alloc | apply pw_below_drewN | apply below_drew1 | refine below_set ?_ GE231.out) | exact HB.out))) : w.heap.size ≤ gb232)); have n4_ := Aside0.mk ((by rw [hg]; exact (below_size (by repeat (first | (with_reducible first | exact HB.out | apply below_alloc | apply pw_below_drewN | apply below_drew1 | refine below_set ?_ GE231.out) | exact HB.out))) : w.heap.size ≤ gb232)); have n5_ := Aside0.mk ((by rw [hg]; exact Nat.ne_of_lt (blk_lt (g := gb231) (o := .cells #[.int .u32 a0_0, .int .u64 a0_1, .int .i64 a0_2, .string a0_3, .slice A0_4 l0_4.length c0_4] 29 (0, 0)) (by (with_reducible repeat (first | refine blk_drewN ?_ _ | refine blk_drew ?_ | refine blk_alloc ?_ _)); exact BK231.out)) : gb231 ≠ gb232)); have n6_ := Aside0.mk ((by rw [hg]; exact Nat.ne_of_gt (blk_lt (g := gb231) (o := .cells #[.int .u32 a0_0, .int .u64 a0_1, .int .i64 a0_2, .string a0_3, .slice A0_4 l0_4.length c0_4] 29 (0, 0)) (by (with_reducible repeat (first | refine blk_drewN ?_ _ | refine blk_drew ?_ | refine blk_alloc ?_ _)); exact BK231.out)) : gb232 ≠ gb231)); clear BK231; clear HB; have BK231 := n0_; have HB := n1_; have BK232 := n2_; have GW232 := n3_; have GE232 := n4_; have NB231_232 := n5_; have NB232_231 := n6_; clear n0_ n1_ n2_ n3_ n4_ n5_ n6_; clear hb hbox hg; have hnb14 := NB231_232.out; have hnc14 := NB232_231.out; have hcz15_0 : w13.cell? ⟨gb231, 0, none⟩ = some (.int .u32 a0_0) := (blk_cell BK231.out 0).trans rfl; have hcz15_1 : w13.cell? ⟨gb231, 1, none⟩ = some (.int .u64 a0_1) := (blk_cell BK231.out 1).trans rfl; have hcz15_2 : w13.cell? ⟨gb231, 2, none⟩ = some (.int .i64 a0_2) := (blk_cell BK231.out 2).trans rfl; have hcz15_3 : w13.cell? ⟨gb231, 3, none⟩ = some (.string a0_3) := (blk_cell BK231.out 3).trans rfl; have hcz15_4 : w13.cell? ⟨gb231, 4, none⟩ = some (.slice A0_4 l0_4.length c0_4) := (blk_cell BK231.out 4).trans rfl; have hfz15_0 := blk_frozen BK231.out 0; have hfz15_1 := blk_frozen BK231.out 1; have hfz15_2 := blk_frozen BK231.out 2; have hfz15_3 := blk_frozen BK231.out 3; have hfz15_4 := blk_frozen BK231.out 4; have hcz16_0 : w13.cell? ⟨gb232, 0, none⟩ = some (.int .u32 a1_0) := (blk_cell BK232.out 0).trans rfl; have hcz16_1 : w13.cell? ⟨gb232, 1, none⟩ = some (.int .u64 a1_1) := (blk_cell BK232.out 1).trans rfl; have hcz16_2 : w13.cell? ⟨gb232, 2, none⟩ = some (.int .i64 a1_2) := (blk_cell BK232.out 2).trans rfl; have hcz16_3 : w13.cell? ⟨gb232, 3, none⟩ = some (.string a1_3) := (blk_cell BK232.out 3).trans rfl; have hcz16_4 : w13.cell? ⟨gb232, 4, none⟩ = some (.slice A1_4 l1_4.length c1_4) := (blk_cell BK232.out 4).trans rfl; have hfz16_0 := blk_frozen BK232.out 0; have hfz16_1 := blk_frozen BK232.out 1; have hfz16_2 := blk_frozen BK232.out 2; have hfz16_3 := blk_frozen BK232.out 3; have hfz16_4 := blk_frozen BK232.out 4))
    go_ret
    exact ⟨by first | rfl | (simp [errW_none, errW_some] <;> rfl) | (simp [*, errW_none, errW_some] <;> rfl), by repeat (first | (with_reducible first | exact HB.out | apply below_alloc | apply pw_below_drewN | apply below_drew1 | refine below_set ?_ GE231.out | refine below_set ?_ GE232.out) | exact HB.out)⟩
  ·rw [if_neg c4] at H
   have c4b0 : (a0_2 == a1_2) = false := beq_eq_false_iff_ne.mpr c4
   have c4b1 : (a0_2 != a1_2) = true := bne_iff_ne.mpr c4
   obtain rfl := Option.some.inj H
   go_enter Try.func19, Try.ntmps19
   go_wp2_with (first | ((with_reducible refine gate_dst (N := 2) rfl ?_); refine box_event ?hg (N := 2) ?hd (cs := #[.int .u32 a0_0, .int .u64 a0_1, .int .i64 a0_2, .string a0_3, .slice A0_4 l0_4.length c0_4]) (t := 29) ?hr ?_; (case hd => rfl); (case hg => rfl); (case hr => first | (go_simp; done) | (go_simp; rfl)); intro gb231 hg w17 hbox hb; have n0_ := Aside0.mk (below_step (by repeat (first | (with_reducible first | exact HB.out | apply below_alloc | apply pw_below_drewN | apply below_drew1) | exact HB.out)) hb); have n1_ := Aside0.mk (hbox); have n2_ := Aside0.mk ((by rw [hg]; exact (below_size (by repeat (first | (with_reducible first | exact HB.out | apply below_alloc | apply pw_below_drewN | apply below_drew1) | exact HB.out))) : w.heap.size ≤ gb231)); have n3_ := Aside0.mk ((by rw [hg]; exact (below_size (by repeat (first | (with_reducible first | exact HB.out | apply below_alloc | apply pw_below_drewN | apply below_drew1) | exact HB.out))) : w.heap.size ≤ gb231)); clear HB; have HB := n0_; have BK231 := n1_; have GW231 := n2_; have GE231 := n3_; clear n0_ n1_ n2_ n3_; clear hb hbox hg) | ((with_reducible refine gate_dst (N := 3) rfl ?_); refine box_event ?hg (N := 3) ?hd (cs := #[.int .u32 a1_0, .int .u64 a1_1, .int .i64 a1_2, .string a1_3, .slice A1_4 l1_4.length c1_4]) (t := 29) ?hr ?_; (case hd => rfl); (case hg => rfl); (case hr => first | (go_simp; done) | (go_simp; rfl)); intro gb232 hg w18 hbox hb; have n0_ := Aside0.mk (blk_below (g := gb231) (o := .cells #[.int .u32 a0_0, .int .u64 a0_1, .int .i64 a0_2, .string a0_3, .slice A0_4 l0_4.length c0_4] 29 (0, 0)) (by (with_reducible repeat (first | refine blk_drewN ?_ _ | refine blk_drew ?_ | refine blk_alloc ?_ _)); exact BK231.out) hb); have n1_ := Aside0.mk (below_step (by repeat (first | (with_reducible first | exact HB.out | apply below_alloc | apply pw_below_drewN | apply below_drew1 | refine below_set ?_ GE231.out) | exact HB.out)) hb); have n2_ := Aside0.mk (hbox); have n3_ := Aside0.mk ((by rw [hg]; exact (below_size (by repeat (first | (with_reducible first | exact HB.out | apply below_alloc | apply pw_below_drewN | apply below_drew1 | refine below_set ?_ GE231.out) | exact HB.out))) : w.heap.size ≤ gb232)); have n4_ := Aside0.mk ((by rw [hg]; exact (below_size (by repeat (first | (with_reducible first | exact HB.out | apply below_alloc | apply pw_below_drewN | apply below_drew1 | refine below_set ?_ GE231.out) | exact HB.out))) : w.heap.size ≤ gb232)); have n5_ := Aside0.mk ((by rw [hg]; exact Nat.ne_of_lt (blk_lt (g := gb231) (o := .cells #[.int .u32 a0_0, .int .u64 a0_1, .int .i64 a0_2, .string a0_3, .slice A0_4 l0_4.length c0_4] 29 (0, 0)) (by (with_reducible repeat (first | refine blk_drewN ?_ _ | refine blk_drew ?_ | refine blk_alloc ?_ _)); exact BK231.out)) : gb231 ≠ gb232)); have n6_ := Aside0.mk ((by rw [hg]; exact Nat.ne_of_gt (blk_lt (g := gb231) (o := .cells #[.int .u32 a0_0, .int .u64 a0_1, .int .i64 a0_2, .string a0_3, .slice A0_4 l0_4.length c0_4] 29 (0, 0)) (by (with_reducible repeat (first | refine blk_drewN ?_ _ | refine blk_drew ?_ | refine blk_alloc ?_ _)); exact BK231.out)) : gb232 ≠ gb231)); clear BK231; clear HB; have BK231 := n0_; have HB := n1_; have BK232 := n2_; have GW232 := n3_; have GE232 := n4_; have NB231_232 := n5_; have NB232_231 := n6_; clear n0_ n1_ n2_ n3_ n4_ n5_ n6_; clear hb hbox hg; have hnb19 := NB231_232.out; have hnc19 := NB232_231.out; have hcz20_0 : w18.cell? ⟨gb231, 0, none⟩ = some (.int .u32 a0_0) := (blk_cell BK231.out 0).trans rfl; have hcz20_1 : w18.cell? ⟨gb231, 1, none⟩ = some (.int .u64 a0_1) := (blk_cell BK231.out 1).trans rfl; have hcz20_2 : w18.cell? ⟨gb231, 2, none⟩ = some (.int .i64 a0_2) := (blk_cell BK231.out 2).trans rfl; have hcz20_3 : w18.cell? ⟨gb231, 3, none⟩ = some (.string a0_3) := (blk_cell BK231.out 3).trans rfl; have hcz20_4 : w18.cell? ⟨gb231, 4, none⟩ = some (.slice A0_4 l0_4.length c0_4) := (blk_cell BK231.out 4).trans rfl; have hfz20_0 := blk_frozen BK231.out 0; have hfz20_1 := blk_frozen BK231.out 1; have hfz20_2 := blk_frozen BK231.out 2; have hfz20_3 := blk_frozen BK231.out 3; have hfz20_4 := blk_frozen BK231.out 4; have hcz21_0 : w18.cell? ⟨gb232, 0, none⟩ = some (.int .u32 a1_0) := (blk_cell BK232.out 0).trans rfl; have hcz21_1 : w18.cell? ⟨gb232, 1, none⟩ = some (.int .u64 a1_1) := (blk_cell BK232.out 1).trans rfl; have hcz21_2 : w18.cell? ⟨gb232, 2, none⟩ = some (.int .i64 a1_2) := (blk_cell BK232.out 2).trans rfl; have hcz21_3 : w18.cell? ⟨gb232, 3, none⟩ = some (.string a1_3) := (blk_cell BK232.out 3).trans rfl; have hcz21_4 : w18.cell? ⟨gb232, 4, none⟩ = some (.slice A1_4 l1_4.length c1_4) := (blk_cell BK232.out 4).trans rfl; have hfz21_0 := blk_frozen BK232.out 0; have hfz21_1 := blk_frozen BK232.out 1; have hfz21_2 := blk_frozen BK232.out 2; have hfz21_3 := blk_frozen BK232.out 3; have hfz21_4 := blk_frozen BK232.out 4))
   go_ret
   exact ⟨by first | rfl | (simp [errW_none, errW_some] <;> rfl) | (simp [*, errW_none, errW_some] <;> rfl), by repeat (first | (with_reducible first | exact HB.out | apply below_alloc | apply pw_below_drewN | apply below_drew1 | refine below_set ?_ GE231.out | refine below_set ?_ GE232.out) | exact HB.out)⟩
 ·rw [if_neg c3] at H
  have c3b0 : (a0_0 == a1_0) = false := beq_eq_false_iff_ne.mpr c3
  have c3b1 : (a0_0 != a1_0) = true := bne_iff_ne.mpr c3
  obtain rfl := Option.some.inj H
  go_enter Try.func19, Try.ntmps19
  go_wp2_with (first | ((with_reducible refine gate_dst (N := 2) rfl ?_); refine box_event ?hg (N := 2) ?hd (cs := #[.int .u32 a0_0, .int .u64 a0_1, .int .i64 a0_2, .string a0_3, .slice A0_4 l0_4.length c0_4]) (t := 29) ?hr ?_; (case hd => rfl); (case hg => rfl); (case hr => first | (go_simp; done) | (go_simp; rfl)); intro gb231 hg w22 hbox hb; have n0_ := Aside0.mk (below_step (by repeat (first | (with_reducible first | exact HB.out | apply below_alloc | apply pw_below_drewN | apply below_drew1) | exact HB.out)) hb); have n1_ := Aside0.mk (hbox); have n2_ := Aside0.mk ((by rw [hg]; exact (below_size (by repeat (first | (with_reducible first | exact HB.out | apply below_alloc | apply pw_below_drewN | apply below_drew1) | exact HB.out))) : w.heap.size ≤ gb231)); have n3_ := Aside0.mk ((by rw [hg]; exact (below_size (by repeat (first | (with_reducible first | exact HB.out | apply below_alloc | apply pw_below_drewN | apply below_drew1) | exact HB.out))) : w.heap.size ≤ gb231)); clear HB; have HB := n0_; have BK231 := n1_; have GW231 := n2_; have GE231 := n3_; clear n0_ n1_ n2_ n3_; clear hb hbox hg) | ((with_reducible refine gate_dst (N := 3) rfl ?_); refine box_event ?hg (N := 3) ?hd (cs := #[.int .u32 a1_0, .int .u64 a1_1, .int .i64 a1_2, .string a1_3, .slice A1_4 l1_4.length c1_4]) (t := 29) ?hr ?_; (case hd => rfl); (case hg => rfl); (case hr => first | (go_simp; done) | (go_simp; rfl)); intro gb232 hg w23 hbox hb; have n0_ := Aside0.mk (blk_below (g := gb231) (o := .cells #[.int .u32 a0_0, .int .u64 a0_1, .int .i64 a0_2, .string a0_3, .slice A0_4 l0_4.length c0_4] 29 (0, 0)) (by (with_reducible repeat (first | refine blk_drewN ?_ _ | refine blk_drew ?_ | refine blk_alloc ?_ _)); exact BK231.out) hb); have n1_ := Aside0.mk (below_step (by repeat (first | (with_reducible first | exact HB.out | apply below_alloc | apply pw_below_drewN | apply below_drew1 | refine below_set ?_ GE231.out) | exact HB.out)) hb); have n2_ := Aside0.mk (hbox); have n3_ := Aside0.mk ((by rw [hg]; exact (below_size (by repeat (first | (with_reducible first | exact HB.out | apply below_alloc | apply pw_below_drewN | apply below_drew1 | refine below_set ?_ GE231.out) | exact HB.out))) : w.heap.size ≤ gb232)); have n4_ := Aside0.mk ((by rw [hg]; exact (below_size (by repeat (first | (with_reducible first | exact HB.out | apply below_alloc | apply pw_below_drewN | apply below_drew1 | refine below_set ?_ GE231.out) | exact HB.out))) : w.heap.size ≤ gb232)); have n5_ := Aside0.mk ((by rw [hg]; exact Nat.ne_of_lt (blk_lt (g := gb231) (o := .cells #[.int .u32 a0_0, .int .u64 a0_1, .int .i64 a0_2, .string a0_3, .slice A0_4 l0_4.length c0_4] 29 (0, 0)) (by (with_reducible repeat (first | refine blk_drewN ?_ _ | refine blk_drew ?_ | refine blk_alloc ?_ _)); exact BK231.out)) : gb231 ≠ gb232)); have n6_ := Aside0.mk ((by rw [hg]; exact Nat.ne_of_gt (blk_lt (g := gb231) (o := .cells #[.int .u32 a0_0, .int .u64 a0_1, .int .i64 a0_2, .string a0_3, .slice A0_4 l0_4.length c0_4] 29 (0, 0)) (by (with_reducible repeat (first | refine blk_drewN ?_ _ | refine blk_drew ?_ | refine blk_alloc ?_ _)); exact BK231.out)) : gb232 ≠ gb231)); clear BK231; clear HB; have BK231 := n0_; have HB := n1_; have BK232 := n2_; have GW232 := n3_; have GE232 := n4_; have NB231_232 := n5_; have NB232_231 := n6_; clear n0_ n1_ n2_ n3_ n4_ n5_ n6_; clear hb hbox hg; have hnb24 := NB231_232.out; have hnc24 := NB232_231.out; have hcz25_0 : w23.cell? ⟨gb231, 0, none⟩ = some (.int .u32 a0_0) := (blk_cell BK231.out 0).trans rfl; have hcz25_1 : w23.cell? ⟨gb231, 1, none⟩ = some (.int .u64 a0_1) := (blk_cell BK231.out 1).trans rfl; have hcz25_2 : w23.cell? ⟨gb231, 2, none⟩ = some (.int .i64 a0_2) := (blk_cell BK231.out 2).trans rfl; have hcz25_3 : w23.cell? ⟨gb231, 3, none⟩ = some (.string a0_3) := (blk_cell BK231.out 3).trans rfl; have hcz25_4 : w23.cell? ⟨gb231, 4, none⟩ = some (.slice A0_4 l0_4.length c0_4) := (blk_cell BK231.out 4).trans rfl; have hfz25_0 := blk_frozen BK231.out 0; have hfz25_1 := blk_frozen BK231.out 1; have hfz25_2 := blk_frozen BK231.out 2; have hfz25_3 := blk_frozen BK231.out 3; have hfz25_4 := blk_frozen BK231.out 4; have hcz26_0 : w23.cell? ⟨gb232, 0, none⟩ = some (.int .u32 a1_0) := (blk_cell BK232.out 0).trans rfl; have hcz26_1 : w23.cell? ⟨gb232, 1, none⟩ = some (.int .u64 a1_1) := (blk_cell BK232.out 1).trans rfl; have hcz26_2 : w23.cell? ⟨gb232, 2, none⟩ = some (.int .i64 a1_2) := (blk_cell BK232.out 2).trans rfl; have hcz26_3 : w23.cell? ⟨gb232, 3, none⟩ = some (.string a1_3) := (blk_cell BK232.out 3).trans rfl; have hcz26_4 : w23.cell? ⟨gb232, 4, none⟩ = some (.slice A1_4 l1_4.length c1_4) := (blk_cell BK232.out 4).trans rfl; have hfz26_0 := blk_frozen BK232.out 0; have hfz26_1 := blk_frozen BK232.out 1; have hfz26_2 := blk_frozen BK232.out 2; have hfz26_3 := blk_frozen BK232.out 3; have hfz26_4 := blk_frozen BK232.out 4))
  go_ret
  exact ⟨by first | rfl | (simp [errW_none, errW_some] <;> rfl) | (simp [*, errW_none, errW_some] <;> rfl), by repeat (first | (with_reducible first | exact HB.out | apply below_alloc | apply pw_below_drewN | apply below_drew1 | refine below_set ?_ GE231.out | refine below_set ?_ GE232.out) | exact HB.out)⟩
end Go.Proofs.Ytdannjjipcmhdaa.PSp
end
section
namespace Go.Proofs.Ytdannjjipcmhdaa
open Go.RowKit Go.Gi Go.GiRow Go.Proofs.YtdannjjipcmhdaaW.PrintWords Go.Proofs.YtdannjjipcmhdaaW.PrintLast Go.Proofs.YtdannjjipcmhdaaW.PrintMore PSp
set_option maxRecDepth 20000
set_option linter.unusedSimpArgs false
set_option linter.unusedVariables false
def shM (lsn : Int) (v : Value) : Array Value := #[.int .u32 1, .int .u64 lsn, .int .i64 1, .string ⟨#[]⟩, v]
theorem shM_cells {w : World} {g : Nat} {lsn : Int} {V : Value} (h : Blk w g 29 (shM lsn V)) : w.cell? ⟨g, 0, none⟩ = some (.int .u32 1) ∧ w.cell? ⟨g, 1, none⟩ = some (.int .u64 lsn) ∧ w.cell? ⟨g, 2, none⟩ = some (.int .i64 1) ∧ w.cell? ⟨g, 3, none⟩ = some (.string ⟨#[]⟩) ∧ w.cell? ⟨g, 4, none⟩ = some V := ⟨h.cell 0, h.cell 1, h.cell 2, h.cell 3, h.cell 4⟩
theorem isB_map {s : ByteArray} (h : s.size = 256) : isB 1 [s] = true := by
  have : rdOf ByteArray.empty [s] 0 = s := rfl
  unfold isB
  rw [this]
  simp [h]
theorem and63 (x : Int) : ∃ m : Nat, Go.bits .and .i64 x 63 = (m : Int) ∧ m ≤ 63 := by
  have h : ((BitVec.ofInt 64 x) &&& (BitVec.ofInt 64 63)).toNat ≤ 63 := by
    rw [BitVec.toNat_and]
    exact Nat.le_trans Nat.and_le_right (by decide)
  refine ⟨_, ?_, h⟩
  have e : Go.bits .and .i64 x 63 = IntKind.i64.wrap (((BitVec.ofInt 64 x) &&& (BitVec.ofInt 64 63)).toNat : Int) := rfl
  rw [e, IntKind.wrap_i64]
  omega
theorem give_own {w : World} {base : Nat} {v : Value} {s : ByteArray} (lsn : Int) (m : Nat) (hm : m ≤ 63) (hs : s.size = 256) (h : OwnP w base v [s]) :
    Calls Try.prog 9 #[.agg (shM lsn v), .int .u32 m] w fun e w' => (∃ r1 r2 r3 r4 r5, e = .returned (.tuple #[.agg #[.int .i64 r1, .int .i64 r2, .string r3, .string r4], .int .i64 r5]) ∧ (r5 = 0 → ∃ n, 1 ≤ n ∧ n ≤ 2048 ∧ (r1, r2, r3, r4) = turnR s n)) ∧ Below w.heap.size w w' := by
  obtain ⟨A, c, rfl, hc, hC⟩ := own_C h
  have hB := isB_map hs
  have e0 : rdOf ByteArray.empty [s] 0 = s := rfl
  have hex : ∃ r1 r2 r3 r4 r5, space_Give.f 1 lsn 1 ⟨#[]⟩ [s] m = some (r1, r2, r3, r4, r5) ∧ (r5 = 0 → ∃ n, 1 ≤ n ∧ n ≤ 2048 ∧ (r1, r2, r3, r4) = turnR s n) := by
    by_cases h1 : 1 ≤ m
    · cases hb : bitv s m with
      | true => exact ⟨_, _, _, _, _, by have := give_in 1 lsn 1 ⟨#[]⟩ [s] hB m h1 (by omega) (by rw [e0]; exact hb); rw [e0] at this; exact this, fun _ => ⟨m, h1, by omega, rfl⟩⟩
      | false => exact ⟨_, _, _, _, _, give_free 1 lsn 1 ⟨#[]⟩ [s] hB m (by rw [taken_in 1 lsn 1 ⟨#[]⟩ [s] hB m h1 (by omega), e0, hb]), fun h => by cases h⟩
    · exact ⟨_, _, _, _, _, give_free 1 lsn 1 ⟨#[]⟩ [s] hB m (taken_out 1 lsn 1 ⟨#[]⟩ [s] hB m (by omega)), fun h => by cases h⟩
  obtain ⟨r1, r2, r3, r4, r5, hr, hn⟩ := hex
  exact (space_Give.calls 1 lsn 1 ⟨#[]⟩ A c [s] m r1 r2 r3 r4 r5 w hC hc hr).mono fun e w' ⟨he, hb⟩ => ⟨⟨r1, r2, r3, r4, r5, he, hn⟩, hb⟩
theorem take_own {w : World} {base : Nat} {v : Value} {s : ByteArray} (lsn : Int) (hs : s.size = 256) (h : OwnP w base v [s]) :
    Calls Try.prog 11 #[.agg (shM lsn v), .int .i64 2048] w fun e w' => (∃ r0 r1 r2 r3 r4 r5, e = .returned (.tuple #[.int .u32 r0, .agg #[.int .i64 r1, .int .i64 r2, .string r3, .string r4], .int .i64 r5]) ∧ (r5 = 0 → ∃ n, 1 ≤ n ∧ n ≤ 2048 ∧ (r1, r2, r3, r4) = turnR s n)) ∧ Below w.heap.size w w' := by
  obtain ⟨A, c, rfl, hc, hC⟩ := own_C h
  have hB := isB_map hs
  have e0 : rdOf ByteArray.empty [s] 0 = s := rfl
  have ht := take_in 1 lsn 1 ⟨#[]⟩ [s] hB 2048 2050 (Nat.le_refl _)
  rw [e0] at ht
  have hff : ∀ d n j, 1 ≤ n → firstFree s 2048 d n = some j → 1 ≤ j ∧ j ≤ 2048 := by
    intro d
    induction d with
    | zero => intro n j h1 h; simp [firstFree] at h
    | succ d ih =>
      intro n j h1 h
      rw [firstFree] at h
      have hm : mn 2048 2048 = 2048 := rfl
      rw [hm] at h
      split at h
      · split at h
        · exact ih (n + 1) j (by omega) h
        · injection h with h; omega
      · cases h
  unfold takeR at ht
  cases hf : firstFree s 2048 2049 1 with
  | none =>
    rw [hf] at ht
    exact (space_Take.calls 2050 1 lsn 1 ⟨#[]⟩ A c [s] 2048 _ _ _ _ _ _ w hC hc ht).mono fun e w' ⟨he, hb⟩ => ⟨⟨_, _, _, _, _, _, he, fun h => by cases h⟩, hb⟩
  | some n =>
    rw [hf] at ht
    have hn := hff _ _ _ (Nat.le_refl _) hf
    exact (space_Take.calls 2050 1 lsn 1 ⟨#[]⟩ A c [s] 2048 _ _ _ _ _ _ w hC hc ht).mono fun e w' ⟨he, hb⟩ => ⟨⟨_, _, _, _, _, _, he, fun _ => ⟨n, hn.1, hn.2, rfl⟩⟩, hb⟩
theorem apm_own {w : World} {base : Nat} {v : Value} {s s' : ByteArray} (lsn : Int) (q : Nat) (y x : ByteArray) (l : Int) (hs : s.size = 256) (h : OwnP w base v [s]) (ha : apR 1 lsn 1 ⟨#[]⟩ [s] 6 q y x l = (1, l, 1, ⟨#[]⟩, [s'], 0)) :
    Calls Try.prog 12 #[.agg (shM lsn v), .agg #[.int .i64 6, .int .i64 q, .string y, .string x], .int .u64 l] w fun e w' => ∃ A c, e = .returned (.tuple #[.agg (shM l (.slice A 1 c)), .int .i64 0]) ∧ OwnP w' w.heap.size (.slice A 1 c) [s'] ∧ Below w.heap.size w w' := by
  refine (ap_own 1 lsn 1 ⟨#[]⟩ 6 q y x l h (by simp) (fun z hz => by simp at hz; subst hz; omega) (by decide)).mono ?_
  rintro e w' ⟨v', he, ho, hb⟩
  rw [ha] at he ho
  obtain ⟨A, c, hv⟩ := own_sl ho
  subst hv
  exact ⟨A, c, he, ho, hb⟩
theorem same_own {w : World} {base : Nat} {v v0 : Value} {s : ByteArray} (lsn l0 : Int) (h : OwnP w base v [s]) (h0 : OwnP w base v0 [s]) :
    Calls Try.prog 19 #[.agg (shM lsn v), .agg (shM l0 v0)] w fun e w' => e = .returned (.bool true) ∧ Below w.heap.size w w' := by
  obtain ⟨A, c, rfl, hc, hC⟩ := own_C h
  obtain ⟨A0, c0, rfl, hc0, hC0⟩ := own_C h0
  refine page_Same.calls 3 1 lsn 1 ⟨#[]⟩ A c [s] 1 l0 1 ⟨#[]⟩ A0 c0 [s] true w hC hc hC0 hc0 ?_
  unfold page_Same.f slices_Equal_string_string.f
  rw [if_pos rfl, if_pos rfl, if_pos rfl, if_pos rfl, slices_Equal_string_string.l0, if_pos (by simp), if_pos (by simp), if_pos (by simp), if_pos (by simp), if_pos rfl, show wrap64 (0 + 1) = 1 by unfold wrap64; decide, slices_Equal_string_string.l0, if_neg (by simp)]
  rfl
theorem int_at {w : World} {A : Option Addr} {l : List Int} (h : Kd.C (Kd.int .i64) w A l.length l) (k : Nat) (hk : k < l.length) : ∃ b off, A = some ⟨b, off, none⟩ ∧ b < w.heap.size ∧ w.cell? ⟨b, off + k, none⟩ = some (.int .i64 l[k]) := by
  obtain ⟨ad, rfl, hc⟩ := Kd.at_int h k (by omega) (by omega)
  obtain ⟨ad', e, hc0⟩ := Kd.at_int h 0 (by omega) (by omega)
  injection e with e
  subst e
  rw [show (0 : Int).toNat = 0 from rfl, show ad.add 0 = ad by unfold Addr.add; simp] at hc0
  have hsp : ad.spot = none := by
    unfold World.cell? at hc0
    cases hs : ad.spot with
    | none => rfl
    | some y =>
      simp [hs] at hc0
      split at hc0 <;> simp_all
  obtain ⟨b, off, sp⟩ := ad
  simp only at hsp
  subst hsp
  have hlt := World.block_lt_of_cell? w _ hc0
  refine ⟨b, off, rfl, hlt, ?_⟩
  rw [Int.toNat_natCast, show (⟨b, off, none⟩ : Addr).add k = ⟨b, off + k, none⟩ by unfold Addr.add; split <;> simp_all] at hc
  rw [hc]
  unfold rd
  simp [List.getD_eq_getElem?_getD, List.getElem?_eq_getElem hk]
theorem own_set4 {w : World} {base g T n : Nat} {v u0 u1 u2 u3 : Value} {size : Nat} {e : TypeId} {xs : List Value} {cs : Array Value} (h : w.ownsRow base e size v n xs) (hb : Blk w g T cs) (ht : T ≠ e) : World.ownsRow ((((w.setCell ⟨g, 0, none⟩ u0).setCell ⟨g, 1, none⟩ u1).setCell ⟨g, 2, none⟩ u2).setCell ⟨g, 3, none⟩ u3) base e size v n xs :=
  own_set (own_set (own_set (own_set h hb ht) (hb.set_ 0 _) ht) ((hb.set_ 0 _).set_ 1 _) ht) (((hb.set_ 0 _).set_ 1 _).set_ 2 _) ht
theorem OwnP.set4 {w : World} {base g T : Nat} {v u0 u1 u2 u3 : Value} {slots : List ByteArray} {cs : Array Value} (h : OwnP w base v slots) (hb : Blk w g T cs) (ht : T ≠ 9) : OwnP ((((w.setCell ⟨g, 0, none⟩ u0).setCell ⟨g, 1, none⟩ u1).setCell ⟨g, 2, none⟩ u2).setCell ⟨g, 3, none⟩ u3) base v slots := own_set4 h hb ht
theorem own_set4n {w : World} {base g n : Nat} {v u0 u1 u2 u3 : Value} {size : Nat} {e : TypeId} {xs : List Value} (h : w.ownsRow base e size v n xs) (hne : v.ownBlock ≠ some g) : World.ownsRow ((((w.setCell ⟨g, 0, none⟩ u0).setCell ⟨g, 1, none⟩ u1).setCell ⟨g, 2, none⟩ u2).setCell ⟨g, 3, none⟩ u3) base e size v n xs :=
  h.kept (gset (gset (gset (gset (World.grownBy.refl w (some g)) 0 u0) 1 u1) 2 u2) 3 u3) (.inr hne)
theorem own_setRown {w : World} {base g n : Nat} {v : Value} {size : Nat} {e : TypeId} {xs : List Value} {cs : Array Value} (h : w.ownsRow base e size v n xs) (hne : v.ownBlock ≠ some g) : (w.setRow g cs).ownsRow base e size v n xs :=
  h.kept (row := some g) ⟨rfl, rfl, rfl, by simp, fun k hk hn => setRow_other w g k cs (fun e => hn (by rw [e]))⟩ (.inr hne)
theorem own_set5 {w : World} {base g T n : Nat} {v u0 u1 u2 u3 u4 : Value} {size : Nat} {e : TypeId} {xs : List Value} {cs : Array Value} (h : w.ownsRow base e size v n xs) (hb : Blk w g T cs) (ht : T ≠ e) : World.ownsRow (((((w.setCell ⟨g, 0, none⟩ u0).setCell ⟨g, 1, none⟩ u1).setCell ⟨g, 2, none⟩ u2).setCell ⟨g, 3, none⟩ u3).setCell ⟨g, 4, none⟩ u4) base e size v n xs :=
  own_set (own_set4 h hb ht) ((((hb.set_ 0 _).set_ 1 _).set_ 2 _).set_ 3 _) ht
theorem OwnP.set5 {w : World} {base g T : Nat} {v u0 u1 u2 u3 u4 : Value} {slots : List ByteArray} {cs : Array Value} (h : OwnP w base v slots) (hb : Blk w g T cs) (ht : T ≠ 9) : OwnP (((((w.setCell ⟨g, 0, none⟩ u0).setCell ⟨g, 1, none⟩ u1).setCell ⟨g, 2, none⟩ u2).setCell ⟨g, 3, none⟩ u3).setCell ⟨g, 4, none⟩ u4) base v slots := own_set5 h hb ht
theorem set5 {w : World} {g : Nat} {lsn : Int} {V : Value} (h : Blk w g 29 (shM lsn V)) (u0 u1 u2 u3 u4 : Value) : Blk (((((w.setCell ⟨g, 0, none⟩ u0).setCell ⟨g, 1, none⟩ u1).setCell ⟨g, 2, none⟩ u2).setCell ⟨g, 3, none⟩ u3).setCell ⟨g, 4, none⟩ u4) g 29 #[u0, u1, u2, u3, u4] :=
  ((((h.set_ 0 u0).set_ 1 u1).set_ 2 u2).set_ 3 u3).set_ 4 u4
theorem far5 {w : World} {g b T : Nat} {cs : Array Value} {u0 u1 u2 u3 u4 : Value} (h : Blk w b T cs) (hne : b ≠ g) : Blk (((((w.setCell ⟨g, 0, none⟩ u0).setCell ⟨g, 1, none⟩ u1).setCell ⟨g, 2, none⟩ u2).setCell ⟨g, 3, none⟩ u3).setCell ⟨g, 4, none⟩ u4) b T cs := ((((h.far hne _).far hne _).far hne _).far hne _).far hne _
theorem below5 {w a : World} {g : Nat} {u0 u1 u2 u3 u4 : Value} (h : Below w.heap.size w a) (hg : w.heap.size ≤ g) : Below w.heap.size w (((((a.setCell ⟨g, 0, none⟩ u0).setCell ⟨g, 1, none⟩ u1).setCell ⟨g, 2, none⟩ u2).setCell ⟨g, 3, none⟩ u3).setCell ⟨g, 4, none⟩ u4) := bsetAt (bsetAt (bsetAt (bsetAt (bsetAt h hg _) hg _) hg _) hg _) hg _
theorem blk_cells {w : World} {g T : Nat} {cs : List Value} (h : Blk w g T cs.toArray) : ∀ j u, cs[j]? = some u → w.cell? ((⟨g, 0, none⟩ : Addr).add j) = some u := by
  intro j u hj
  rw [show (⟨g, 0, none⟩ : Addr).add j = ⟨g, j, none⟩ by unfold Addr.add; split <;> simp_all, h.cell j]
  simpa using hj
theorem opRow {w : World} {base co : Nat} {Ao : Option Addr} {ops : List OpB} {m : Nat} (h : w.ownsRow base 41 4 (.slice Ao ops.length co) ops.length (ops.map OpB.cells).flatten) (hm : m < ops.length) : ∃ b off, Ao = some ⟨b, off, none⟩ := by
  obtain ⟨A, c, e, hk⟩ := own_rows (enc := OpB.cells) (size := 4) (fun _ => rfl) h
  injection e with e1
  obtain ⟨b, off, e2, _⟩ := hk m hm
  exact ⟨b, off, by rw [e1, e2]⟩
theorem opEl {w : World} {base co bO offO q : Nat} {y x : ByteArray} {Ao : Option Addr} {ops : List OpB} {m : Nat} {hm : m < ops.length} (hop : ops[m] = ⟨q, y, x⟩) (hO : Ao = some ⟨bO, offO, none⟩) (h : w.ownsRow base 41 4 (.slice Ao ops.length co) ops.length (ops.map OpB.cells).flatten) :
    w.cell? ⟨bO, offO + m * 4, none⟩ = some (.int .i64 6) ∧ w.cell? ⟨bO, offO + m * 4 + 1, none⟩ = some (.int .i64 q) ∧ w.cell? ⟨bO, offO + m * 4 + 2, none⟩ = some (.string y) ∧ w.cell? ⟨bO, offO + m * 4 + 3, none⟩ = some (.string x) := by
  obtain ⟨A, c, e, hk⟩ := own_rows (enc := OpB.cells) (size := 4) (fun _ => rfl) h
  injection e with e1
  obtain ⟨b, off, e2, _, _, hc⟩ := hk m hm
  rw [← e1, hO] at e2
  injection e2 with e2
  injection e2 with e3 e4
  subst e3 e4
  rw [hop] at hc
  exact ⟨hc 0 _ rfl, hc 1 _ rfl, hc 2 _ rfl, hc 3 _ rfl⟩
theorem inv_own (q : Nat) (y x : ByteArray) (w : World) : Calls Try.prog 18 #[.agg #[.int .i64 6, .int .i64 q, .string y, .string x]] w fun e w' => e = .returned (.agg #[.int .i64 6, .int .i64 q, .string x, .string y]) ∧ Below w.heap.size w w' :=
  page_Inverse.calls 6 q y x 6 q x y w rfl
theorem apm_lit {w : World} {base : Nat} {v : Value} {s s' : ByteArray} (lsn : Int) (q : Nat) (y x : ByteArray) (l : Int) (hs : s.size = 256) (h : OwnP w base v [s]) (ha : apR 1 lsn 1 ⟨#[]⟩ [s] 6 q y x l = (1, l, 1, ⟨#[]⟩, [s'], 0)) :
    Calls Try.prog 12 #[.agg #[.int .u32 1, .int .u64 lsn, .int .i64 1, .string ⟨#[]⟩, v], .agg #[.int .i64 6, .int .i64 q, .string y, .string x], .int .u64 l] w fun e w' => ∃ A c, e = .returned (.tuple #[.agg #[.int .u32 1, .int .u64 l, .int .i64 1, .string ⟨#[]⟩, .slice A 1 c], .int .i64 0]) ∧ OwnP w' w.heap.size (.slice A 1 c) [s'] ∧ Below w.heap.size w w' := apm_own lsn q y x l hs h ha
theorem op_cells {w : World} {g : Nat} {r1 r2 : Int} {r3 r4 : ByteArray} (h : Blk w g 41 #[.int .i64 r1, .int .i64 r2, .string r3, .string r4]) : w.cell? ⟨g, 0, none⟩ = some (.int .i64 r1) ∧ w.cell? ⟨g, 1, none⟩ = some (.int .i64 r2) ∧ w.cell? ⟨g, 2, none⟩ = some (.string r3) ∧ w.cell? ⟨g, 3, none⟩ = some (.string r4) := ⟨h.cell 0, h.cell 1, h.cell 2, h.cell 3⟩
set_option maxHeartbeats 64000000 in
theorem back_any (taken : Int) (A0 : Option Addr) (c0 : Nat) (l : List Int) (w : World) (hA : Kd.C (Kd.int .i64) w A0 l.length l) (ht : -9223372036854775808 ≤ taken ∧ taken ≤ 9223372036854775807) (hl : l.length ≤ 1000000000000000) :
    Calls Try.prog 5 #[.int .i64 taken, .slice A0 l.length c0] w fun e w' => e = .returned (.bool true) ∧ Below w.heap.size w w' := by
  have HA := Lib.hid hA
  clear hA
  go_enter Try.func5, Try.ntmps5
  go_upto_if 19 with fail
  go_cut [5] from 20 to 22 (fun v wx => ∃ t : Nat, v = .int .i64 t ∧ 1 ≤ t ∧ t ≤ 100 ∧ wx = w)
  case first =>
    by_cases hgt : 1 < taken
    · obtain ⟨t, ht1⟩ : ∃ t : Nat, taken % 100 = (t : Int) := ⟨(taken % 100).toNat, by omega⟩
      have htm : Int.tmod taken 100 = (t : Int) := by rw [Int.tmod_eq_emod_of_nonneg (by omega)]; exact ht1
      have hw1 : IntKind.i64.wrap ((t : Int) + 1) = (t : Int) + 1 := by rw [IntKind.wrap_i64]; omega
      have hw2 : wrap64 ((t : Int) + 1) = (t : Int) + 1 := by unfold wrap64; omega
      go_wp2
      go_meet
      exact ⟨t + 1, by go_num, by omega, by omega, rfl⟩
    · go_wp2
      go_meet
      exact ⟨1, rfl, by omega, by omega, rfl⟩
  case rest =>
  obtain ⟨t, rfl, t1, t2, hwc⟩ := hcut
  obtain rfl := hwc.symm
  have hs0 : (strOfNums (fr t)).size = 256 := by
    have := fr_len t
    unfold strOfNums
    simp [ByteArray.size, this]
  have HS0 := Lib.hid hs0
  clear hs0
  go_upto_region 5 with (first | (go_at_call 6; refine (girderlaw07_begun.calls 5 t 1 1 1 ⟨#[]⟩ [(strOfNums (fr t))] true _ (begun_f t t1 (by omega))).mono ?_; rintro e w1 ⟨v1, rfl, hR1, hb1⟩; have ho := own_of_kd hR1; obtain ⟨A1, m1, hv1⟩ := own_sl ho; subst hv1; have HV := Lib.hid ho; have HK := Lib.hid hb1; clear hR1 ho hb1) | (refine wpList_store_row rfl 29 (.tmp 6) (.tmp 26) rfl w1.heap.size (shM 1 (.slice A1 1 m1)) rfl rfl 29 #[.int .u32 0, .int .u64 0, .int .i64 0, .string ⟨#[]⟩, .slice none 0 0] (Blk.new w1 29 #[.int .u32 0, .int .u64 0, .int .i64 0, .string ⟨#[]⟩, .slice none 0 0]) (by kernel_rfl) rfl (by simp [shM, Value.oneCell']) ?_))
  simp only [List.length_singleton] at HV
  have hB := blk_setRow (cs' := (shM 1 (.slice A1 1 m1))) (Blk.new w1 29 #[.int .u32 0, .int .u64 0, .int .i64 0, .string ⟨#[]⟩, .slice none 0 0])
  have hb5 := setRow_below (balloc (Below.refl w1.heap.size w1) (.cells #[.int .u32 0, .int .u64 0, .int .i64 0, .string ⟨#[]⟩, .slice none 0 0] 29)) (Nat.le_refl w1.heap.size) (shM 1 (.slice A1 1 m1))
  have hG6 := HK.out.size
  have n_HV := Lib.hid (HV.out.below hb5); have n_HK := Lib.hid (bstep HK.out hb5); clear hb5 HV HK; have HV := n_HV; have HK := n_HK; clear n_HV n_HK
  generalize ((w1.alloc (.cells #[.int .u32 0, .int .u64 0, .int .i64 0, .string ⟨#[]⟩, .slice none 0 0] 29)).setRow w1.heap.size (shM 1 (.slice A1 1 m1))) = w4 at *
  generalize w1.heap.size = g6 at *
  have HB := Lib.hid hB
  clear hB
  go_upto_region 8 with (first | (go_at_call 7; refine (girderlaw07_awake.calls 2060 true _ awake_2060).mono ?_; rintro e w5 ⟨rfl, hb5⟩; have n_HB := Lib.hid (HB.out.step hb5); have n_HV := Lib.hid (HV.out.below hb5); have n_HK := Lib.hid (bstep HK.out hb5); clear hb5 HB HV HK; have HB := n_HB; have HV := n_HV; have HK := n_HK; clear n_HB n_HV n_HK) | (refine wpList_load_row rfl 29 (.tmp 6) rfl g6 rfl 29 (shM 1 (.slice A1 1 m1)) (0, 0) _ HB.out Try.underlying29 rfl (by kernel_rfl) ?_) | (refine wpList_store_row rfl 29 (.tmp 8) (.tmp 34) rfl w5.heap.size (shM 1 (.slice A1 1 m1)) rfl rfl 29 #[.int .u32 0, .int .u64 0, .int .i64 0, .string ⟨#[]⟩, .slice none 0 0] (Blk.new w5 29 #[.int .u32 0, .int .u64 0, .int .i64 0, .string ⟨#[]⟩, .slice none 0 0]) (by kernel_rfl) rfl (by simp [shM, Value.oneCell']) ?_))
  have hB := blk_setRow (cs' := (shM 1 (.slice A1 1 m1))) (Blk.new w5 29 #[.int .u32 0, .int .u64 0, .int .i64 0, .string ⟨#[]⟩, .slice none 0 0])
  have hb5 := setRow_below (balloc (Below.refl w5.heap.size w5) (.cells #[.int .u32 0, .int .u64 0, .int .i64 0, .string ⟨#[]⟩, .slice none 0 0] 29)) (Nat.le_refl w5.heap.size) (shM 1 (.slice A1 1 m1))
  have hG8 := HK.out.size
  have HN68 := Lib.hid (Nat.ne_of_lt HB.out.lt)
  have n_HB := Lib.hid (HB.out.step hb5); have n_HV := Lib.hid (HV.out.below hb5); have n_HK := Lib.hid (bstep HK.out hb5); clear hb5 HB HV HK; have HB := n_HB; have HV := n_HV; have HK := n_HK; clear n_HB n_HV n_HK
  generalize ((w5.alloc (.cells #[.int .u32 0, .int .u64 0, .int .i64 0, .string ⟨#[]⟩, .slice none 0 0] 29)).setRow w5.heap.size (shM 1 (.slice A1 1 m1))) = w7 at *
  generalize w5.heap.size = g8 at *
  have HB8 := Lib.hid hB
  clear hB
  go_upto_block 0 with fail
  have hb5 := balloc (Below.refl w7.heap.size w7) (.cells #[] 41)
  have hL := Blk.new w7 41 #[]
  have hGL := HK.out.size
  have n_HB := Lib.hid (HB.out.step hb5); have n_HV := Lib.hid (HV.out.below hb5); have n_HK := Lib.hid (bstep HK.out hb5); have n_HB8 := Lib.hid (HB8.out.step hb5); clear hb5 HB HV HK HB8; have HB := n_HB; have HV := n_HV; have HK := n_HK; have HB8 := n_HB8; clear n_HB n_HV n_HK n_HB8
  generalize w7.alloc (.cells #[] 41) = w8 at *
  generalize w7.heap.size = gl at *
  have HR0 := Lib.hid (own_of_blk (cs := #[]) (size := 4) (n := 0) hL hGL rfl (by decide))
  clear hL
  obtain ⟨s0, hs0⟩ : ∃ s0, s0 = strOfNums (fr t) := ⟨_, rfl⟩
  rw [← hs0] at HV HS0
  clear hs0
  go_cut [9, 10, 11, 12, 13, 14] from 36 to 84 (fun vo _ _ _ _ _ wx => ∃ (ops : List OpB) (s : ByteArray) (lsn : Int) (V V0 : Value), ops.length ≤ 40 ∧ Hid (Chain s0 ops s) ∧ Hid (s.size = 256) ∧ Hid (wx.ownsRow w.heap.size 41 4 vo ops.length (ops.map OpB.cells).flatten) ∧ Hid (Blk wx g6 29 (shM lsn V)) ∧ Hid (OwnP wx w.heap.size V [s]) ∧ Hid (Blk wx g8 29 (shM 1 V0)) ∧ Hid (OwnP wx w.heap.size V0 [s0]) ∧ Hid (Below w.heap.size w wx))
  case first =>
   go_wp2_with fail
   go_loopw [9, 10] (fun vo i wr => ∃ (k : Nat) (ops : List OpB) (s : ByteArray) (lsn : Int) (V V0 : Value), i = .int .i64 k ∧ k ≤ l.length ∧ k ≤ 40 ∧ ops.length ≤ k ∧ Hid (Chain s0 ops s) ∧ Hid (s.size = 256) ∧ Hid (wr.ownsRow w.heap.size 41 4 vo ops.length (ops.map OpB.cells).flatten) ∧ Hid (Blk wr g6 29 (shM lsn V)) ∧ Hid (OwnP wr w.heap.size V [s]) ∧ Hid (Blk wr g8 29 (shM 1 V0)) ∧ Hid (OwnP wr w.heap.size V0 [s0]) ∧ Hid (Below w.heap.size w wr))
     (fun _ i _ => l.length - (intOf i).toNat)
   case atStart => exact ⟨0, [], s0, 1, _, _, rfl, Nat.zero_le _, by omega, Nat.zero_le _, Lib.hid (Chain.nil s0), HS0, HR0, HB, HV, HB8, HV, HK⟩
   case round =>
     clear HB HV HB8 HK HR0
     obtain ⟨k, ops, s, lsn, V, V0, rfl, hk, hk40, hol, HC, HZ, HR, HB, HV, HB8, HV0, HK⟩ := hrel
     have hx : (¬ k < l.length ∧ decide ((k : Int) < (l.length : Int)) = false) ∨ (k < l.length ∧ decide ((k : Int) < (l.length : Int)) = true ∧ ¬ (k : Int) < 40 ∧ decide ((k : Int) < 40) = false) ∨ (k < l.length ∧ decide ((k : Int) < (l.length : Int)) = true ∧ (k : Int) < 40 ∧ decide ((k : Int) < 40) = true) := by
       by_cases h1 : k < l.length
       · by_cases h2 : k < 40
         · exact .inr (.inr ⟨h1, decide_eq_true (by omega), by omega, decide_eq_true (by omega)⟩)
         · exact .inr (.inl ⟨h1, decide_eq_true (by omega), by omega, decide_eq_false (by omega)⟩)
       · exact .inl ⟨h1, decide_eq_false (by omega)⟩
     rcases hx with ⟨h1, d1⟩ | ⟨h1, d1, h2, d2⟩ | ⟨h1, d1, h2, d2⟩
     · go_wp2_with fail
       go_meet
       exact ⟨ops, s, lsn, V, V0, by omega, HC, HZ, HR, HB, HV, HB8, HV0, HK⟩
     · go_wp2_with fail
       go_meet
       exact ⟨ops, s, lsn, V, V0, by omega, HC, HZ, HR, HB, HV, HB8, HV0, HK⟩
     · go_upto_region 13 with fail
       have hQ := Blk.new wr 41 #[.int .i64 0, .int .i64 0, .string ⟨#[]⟩, .string ⟨#[]⟩]
       have hb5 := balloc (Below.refl wr.heap.size wr) (.cells #[.int .i64 0, .int .i64 0, .string ⟨#[]⟩, .string ⟨#[]⟩] 41)
       have hG11 := HK.out.size
       have hN6 := Lib.hid (Nat.ne_of_lt HB.out.lt)
       have hN8 := Lib.hid (Nat.ne_of_lt HB8.out.lt)
       have hD := Lib.hid (own_ne_new HR.out)
       have n_HB := Lib.hid (HB.out.step hb5)
       have n_HV := Lib.hid (HV.out.below hb5)
       have n_HB8 := Lib.hid (HB8.out.step hb5)
       have n_HV0 := Lib.hid (HV0.out.below hb5)
       have n_HR := Lib.hid (own_below HR.out hb5)
       have n_HK := Lib.hid (bstep HK.out hb5)
       clear hb5 HB HV HB8 HV0 HR HK
       have HB := n_HB
       have HV := n_HV
       have HB8 := n_HB8
       have HV0 := n_HV0
       have HR := n_HR
       have HK := n_HK
       clear n_HB n_HV n_HB8 n_HV0 n_HR n_HK
       generalize wr.alloc (.cells #[.int .i64 0, .int .i64 0, .string ⟨#[]⟩, .string ⟨#[]⟩] 41) = w12 at *
       generalize wr.heap.size = g11 at *
       have HQ := Lib.hid hQ
       clear hQ
       obtain ⟨bA, offA, rfl, hbA, hcA⟩ := int_at HA.out k h1
       have y0 := (HK.out.cell (p := ⟨bA, offA + k, none⟩) hbA).trans hcA
       generalize l[k] = x at *
       have i0 : (0 : Int) ≤ k := by omega
       have i1 : (k : Int) < l.length := by omega
       obtain ⟨b3, hb3⟩ : ∃ b3, (Int.tmod x 3 == 0) = b3 := ⟨_, rfl⟩
       go_upto_if 52 with fail
       clear hb3
       go_cut [12] from 53 to 69 (fun ve wx => ∃ r1 r2 r3 r4 r5, ve = .int .i64 r5 ∧ Hid (Blk wx g11 41 #[.int .i64 r1, .int .i64 r2, .string r3, .string r4]) ∧ Hid (r5 = 0 → ∃ n, 1 ≤ n ∧ n ≤ 2048 ∧ (r1, r2, r3, r4) = turnR s n) ∧ Hid (wx.ownsRow w.heap.size 41 4 u9 ops.length (ops.map OpB.cells).flatten) ∧ Hid (Blk wx g6 29 (shM lsn V)) ∧ Hid (OwnP wx w.heap.size V [s]) ∧ Hid (Blk wx g8 29 (shM 1 V0)) ∧ Hid (OwnP wx w.heap.size V0 [s0]) ∧ Hid (Below w.heap.size w wx))
       case first =>
         cases b3 with
         | true =>
           obtain ⟨m, hm1, hm63⟩ := and63 x
           have hwm1 : IntKind.u32.wrap (m : Int) = m := by rw [IntKind.wrap_u32]; omega
           have hwm2 : (m : Int) % 4294967296 = m := by omega
           go_wp2_with fail
           obtain ⟨c0, c1, c2, c3, c4⟩ := shM_cells HB.out
           refine start_ (n := 13) (S := fun w' => w'.cell? ⟨g6, 0, none⟩ = some (.int .u32 1) ∧ w'.cell? ⟨g6, 1, none⟩ = some (.int .u64 lsn) ∧ w'.cell? ⟨g6, 2, none⟩ = some (.int .i64 1) ∧ w'.cell? ⟨g6, 3, none⟩ = some (.string ⟨#[]⟩) ∧ w'.cell? ⟨g6, 4, none⟩ = some V ∧ w'.cell? ⟨bA, offA + k, none⟩ = some (.int .i64 x)) (ds := [11]) #[false, false, false, false, false, false, false, false, false, false, false, false, false] (by kernel_rfl) rfl rfl ⟨c0, c1, c2, c3, c4, y0⟩ (fun hHeld => ?_)
           refine pure_ (i := 1) (N := some 55) (v := ?_) (a' := ?_) #[false, true, false, false, false, false, false, false, false, false, false, false, false] rfl rfl (by kernel_rfl) (fun _ _ _ h => h) (Or.inl ⟨by rfl, ?_⟩) ?_ ?_
           rotate_left
           · intro w'
             go_simp
             with_reducible rfl
           rotate_left
           · simp only [Act.put, List.setIfInBounds_toArray, List.set_cons_zero, List.set_cons_succ, i64_w, i32_w]
             rfl
           refine pure_ (i := 2) (N := some 56) (v := ?_) (a' := ?_) #[false, true, true, false, false, false, false, false, false, false, false, false, false] rfl rfl (by kernel_rfl) (fun _ _ _ h => h) (Or.inl ⟨by rfl, ?_⟩) ?_ ?_
           rotate_left
           · intro w'
             go_simp
             with_reducible rfl
           rotate_left
           · simp only [Act.put, List.setIfInBounds_toArray, List.set_cons_zero, List.set_cons_succ, i64_w, i32_w]
             rfl
           refine pure_ (i := 3) (N := some 57) (v := ?_) (a' := ?_) #[false, true, true, true, false, false, false, false, false, false, false, false, false] rfl rfl (by kernel_rfl) (fun _ _ _ h => h) (Or.inl ⟨by rfl, ?_⟩) ?_ ?_
           rotate_left
           · intro w'
             go_simp
             with_reducible rfl
           rotate_left
           · simp only [Act.put, List.setIfInBounds_toArray, List.set_cons_zero, List.set_cons_succ, i64_w, i32_w]
             rfl
           refine take_ (i := 4) (N := some 58) (v := ?_) (a' := ?_) #[false, true, true, true, true, false, false, false, false, false, false, false, false] rfl rfl (by kernel_rfl) (fun _ _ _ h => h) (Or.inl ⟨by rfl, ?_⟩) hHeld ?_ ?_
           rotate_left
           · rintro w' ⟨s0, s1, s2, s3, s4, s5⟩
             go_simp
             with_reducible rfl
           rotate_left
           · simp only [Act.put, List.setIfInBounds_toArray, List.set_cons_zero, List.set_cons_succ, i64_w, i32_w]
             rfl
           refine take_ (i := 0) (N := some 54) (v := ?_) (a' := ?_) #[true, true, true, true, true, false, false, false, false, false, false, false, false] rfl rfl (by kernel_rfl) (fun _ _ _ h => h) (Or.inl ⟨by rfl, ?_⟩) hHeld ?_ ?_
           rotate_left
           · rintro w' ⟨s0, s1, s2, s3, s4, s5⟩
             go_simp
             with_reducible rfl
           rotate_left
           · simp only [Act.put, List.setIfInBounds_toArray, List.set_cons_zero, List.set_cons_succ, i64_w, i32_w]
             rfl
           refine pure_ (i := 5) (N := some 59) (v := ?_) (a' := ?_) #[true, true, true, true, true, true, false, false, false, false, false, false, false] rfl rfl (by kernel_rfl) (fun _ _ _ h => h) (Or.inl ⟨by rfl, ?_⟩) ?_ ?_
           rotate_left
           · intro w'
             go_simp
             with_reducible rfl
           rotate_left
           · simp only [Act.put, List.setIfInBounds_toArray, List.set_cons_zero, List.set_cons_succ, i64_w, i32_w]
             rfl
           refine pure_ (i := 6) (N := some 60) (v := ?_) (a' := ?_) #[true, true, true, true, true, true, true, false, false, false, false, false, false] rfl rfl (by kernel_rfl) (fun _ _ _ h => h) (Or.inl ⟨by rfl, ?_⟩) ?_ ?_
           rotate_left
           · intro w'
             go_simp
             with_reducible rfl
           rotate_left
           · simp only [Act.put, List.setIfInBounds_toArray, List.set_cons_zero, List.set_cons_succ, i64_w, i32_w]
             rfl
           have hb5 := bdrew (Below.refl w12.heap.size w12)
           have n_HB := Lib.hid (HB.out.step hb5)
           have n_HV := Lib.hid (HV.out.below hb5)
           have n_HB8 := Lib.hid (HB8.out.step hb5)
           have n_HV0 := Lib.hid (HV0.out.below hb5)
           have n_HR := Lib.hid (own_below HR.out hb5)
           have n_HK := Lib.hid (bstep HK.out hb5)
           have n_HQ := Lib.hid (HQ.out.step hb5)
           clear hb5 HB HV HB8 HV0 HR HK HQ
           have HB := n_HB
           have HV := n_HV
           have HB8 := n_HB8
           have HV0 := n_HV0
           have HR := n_HR
           have HK := n_HK
           have HQ := n_HQ
           clear n_HB n_HV n_HB8 n_HV0 n_HR n_HK n_HQ
           clear hHeld
           generalize w12.drew = w13 at *
           refine one_ (i := 7) (N := some 61) #[true, true, true, true, true, true, true, true, false, false, false, false, false] rfl rfl (by kernel_rfl) (by decide) (fun K hK => ?_)
           refine goes_ Try.func9 (by kernel_rfl) rfl #[.agg #[.int .u32 1, .int .u64 lsn, .int .i64 1, .string ⟨#[]⟩, V], .int .u32 (m : Int)] (by rfl) rfl rfl (by (try simp only [List.map_toArray, List.map_cons, List.map_nil]); first | done | rfl) ?_
           refine (give_own lsn m hm63 HZ.out HV.out).mono ?_
           rintro e w14 ⟨⟨r1, r2, r3, r4, r5, rfl, hn⟩, hb5⟩
           have hbA5 := HK.out.cell (p := ⟨bA, offA + k, none⟩)
           have n_HB := Lib.hid (HB.out.step hb5)
           have n_HV := Lib.hid (HV.out.below hb5)
           have n_HB8 := Lib.hid (HB8.out.step hb5)
           have n_HV0 := Lib.hid (HV0.out.below hb5)
           have n_HR := Lib.hid (own_below HR.out hb5)
           have n_HK := Lib.hid (bstep HK.out hb5)
           have n_HQ := Lib.hid (HQ.out.step hb5)
           clear hb5 HB HV HB8 HV0 HR HK HQ
           have HB := n_HB
           have HV := n_HV
           have HB8 := n_HB8
           have HV0 := n_HV0
           have HR := n_HR
           have HK := n_HK
           have HQ := n_HQ
           clear n_HB n_HV n_HB8 n_HV0 n_HR n_HK n_HQ
           clear hbA5
           have HN := Lib.hid hn
           clear hn
           refine ⟨_, rfl, ?_⟩
           obtain ⟨c0, c1, c2, c3, c4⟩ := shM_cells HB.out
           have y0 := (HK.out.cell (p := ⟨bA, offA + k, none⟩) hbA).trans hcA
           refine hK.out _ _ ⟨c0, c1, c2, c3, c4, y0⟩ (fun hHeld => ?_)
           clear hK K hHeld y0 c0 c1 c2 c3 c4
           refine norm_ (a' := ?_) ?_ ?_
           rotate_left
           · show Act.put _ (some 61) _ = _
             simp only [Act.put, List.setIfInBounds_toArray, List.set_cons_zero, List.set_cons_succ]
             rfl
           refine pure_ (i := 8) (N := some 53) (v := ?_) (a' := ?_) #[true, true, true, true, true, true, true, true, true, false, false, false, false] rfl rfl (by kernel_rfl) (fun _ _ _ h => h) (Or.inl ⟨by rfl, ?_⟩) ?_ ?_
           rotate_left
           · intro w'
             go_simp
             with_reducible rfl
           rotate_left
           · simp only [Act.put, List.setIfInBounds_toArray, List.set_cons_zero, List.set_cons_succ, i64_w, i32_w]
             rfl
           refine pure_ (i := 9) (N := some 62) (v := ?_) (a' := ?_) #[true, true, true, true, true, true, true, true, true, true, false, false, false] rfl rfl (by kernel_rfl) (fun _ _ _ h => h) (Or.inl ⟨by rfl, ?_⟩) ?_ ?_
           rotate_left
           · intro w'
             go_simp
             with_reducible rfl
           rotate_left
           · simp only [Act.put, List.setIfInBounds_toArray, List.set_cons_zero, List.set_cons_succ, i64_w, i32_w]
             rfl
           refine pure_ (i := 10) (N := some 63) (v := ?_) (a' := ?_) #[true, true, true, true, true, true, true, true, true, true, true, false, false] rfl rfl (by kernel_rfl) (fun _ _ _ h => h) (Or.inl ⟨by rfl, ?_⟩) ?_ ?_
           rotate_left
           · intro w'
             go_simp
             with_reducible rfl
           rotate_left
           · simp only [Act.put, List.setIfInBounds_toArray, List.set_cons_zero, List.set_cons_succ, i64_w, i32_w]
             rfl
           obtain ⟨q0, q1, q2, q3⟩ := op_cells HQ.out
           have f0 := HQ.out.frozen 0
           have f1 := HQ.out.frozen 1
           have f2 := HQ.out.frozen 2
           have f3 := HQ.out.frozen 3
           refine last_ (i := 11) (N := none) #[true, true, true, true, true, true, true, true, true, true, true, true, false] rfl rfl (by kernel_rfl) (by decide) (fun K hK => ?_)
           refine skip_ (w1 := ((((w14.setCell ⟨g11, 0, none⟩ (.int .i64 r1)).setCell ⟨g11, 1, none⟩ (.int .i64 r2)).setCell ⟨g11, 2, none⟩ (.string r3)).setCell ⟨g11, 3, none⟩ (.string r4))) (by rfl) rfl ?_ ?_
           · go_simp
           refine hK.out _ _ ?_
           clear hK K
           refine pure_ (i := 12) (N := some 12) (v := ?_) (a' := ?_) #[true, true, true, true, true, true, true, true, true, true, true, true, true] rfl rfl (by kernel_rfl) (fun _ _ _ h => h) (Or.inl ⟨by rfl, ?_⟩) ?_ ?_
           rotate_left
           · intro w'
             go_simp
             with_reducible rfl
           rotate_left
           · simp only [Act.put, List.setIfInBounds_toArray, List.set_cons_zero, List.set_cons_succ, i64_w, i32_w]
             rfl
           refine done_ (by kernel_rfl) ?_
           go_wp2_with fail
           go_meet
           exact ⟨r1, r2, r3, r4, r5, rfl, (((HQ.out.set_ 0 _).set_ 1 _).set_ 2 _).set_ 3 _, HN, own_set4n HR.out hD.out, (((HB.out.far hN6.out _).far hN6.out _).far hN6.out _).far hN6.out _, OwnP.set4 HV.out HQ.out (by decide), (((HB8.out.far hN8.out _).far hN8.out _).far hN8.out _).far hN8.out _, OwnP.set4 HV0.out HQ.out (by decide), bsetAt (bsetAt (bsetAt (bsetAt HK.out hG11 _) hG11 _) hG11 _) hG11 _⟩
         | false =>
           go_wp2_with (first | (refine wpList_load_row rfl 29 (.tmp 6) rfl g6 rfl 29 (shM lsn V) (0, 0) _ HB.out Try.underlying29 rfl (by kernel_rfl) ?_) | (go_at_call 11; refine (take_own lsn HZ.out HV.out).mono ?_; rintro e w14 ⟨⟨r0, r1, r2, r3, r4, r5, rfl, hn⟩, hb5⟩; have n_HB := Lib.hid (HB.out.step hb5); have n_HV := Lib.hid (HV.out.below hb5); have n_HB8 := Lib.hid (HB8.out.step hb5); have n_HV0 := Lib.hid (HV0.out.below hb5); have n_HR := Lib.hid (own_below HR.out hb5); have n_HK := Lib.hid (bstep HK.out hb5); have n_HQ := Lib.hid (HQ.out.step hb5); clear hb5 HB HV HB8 HV0 HR HK HQ; have HB := n_HB; have HV := n_HV; have HB8 := n_HB8; have HV0 := n_HV0; have HR := n_HR; have HK := n_HK; have HQ := n_HQ; clear n_HB n_HV n_HB8 n_HV0 n_HR n_HK n_HQ; have HN := Lib.hid hn; clear hn) | (refine wpList_store_row rfl 41 (.tmp 11) (.tmp 68) rfl g11 #[.int .i64 r1, .int .i64 r2, .string r3, .string r4] rfl rfl 41 #[.int .i64 0, .int .i64 0, .string ⟨#[]⟩, .string ⟨#[]⟩] HQ.out (by kernel_rfl) rfl (by simp [shM, Value.oneCell']) ?_))
           go_meet
           exact ⟨r1, r2, r3, r4, r5, rfl, blk_setRow HQ.out, HN, own_setRown HR.out hD.out, blk_setRow_far HB.out _ hN6.out, OwnP.setRow HV.out HQ.out (by decide), blk_setRow_far HB8.out _ hN8.out, OwnP.setRow HV0.out HQ.out (by decide), setRow_below HK.out hG11 _⟩
       case rest =>
       obtain ⟨r1, r2, r3, r4, r5, rfl, k0, k1, k2, k3, k4, k5, k6, k7⟩ := hcut
       clear HB HV HB8 HV0 HR HK HQ y0
       have HQ := k0
       have HN := k1
       have HR := k2
       have HB := k3
       have HV := k4
       have HB8 := k5
       have HV0 := k6
       have HK := k7
       clear k0 k1 k2 k3 k4 k5 k6 k7
       by_cases hr5 : r5 = 0
       · subst hr5
         obtain ⟨n, hn1, hn2, hnt⟩ := HN.out rfl
         have hst := step_turn s HZ.out n hn1 hn2
         have ht2 : (r1, r2, r3, r4) = ((6 : Int), (((n - 1) / 8 : Nat) : Int), (turnR s n).2.2.1, (turnR s n).2.2.2) := hnt
         simp only [Prod.mk.injEq] at ht2
         obtain ⟨rfl, rfl, e3, e4⟩ := ht2
         rw [← e3, ← e4] at hst
         obtain ⟨s', hs'⟩ : ∃ s', putB s r3 ((n - 1) / 8) = s' := ⟨_, rfl⟩
         rw [hs'] at hst
         obtain ⟨q, hq⟩ : ∃ q, (n - 1) / 8 = q := ⟨_, rfl⟩
         rw [hq] at hst HQ
         have HST := Lib.hid hst
         clear hst hs' hq e3 e4 hnt HN hn1 hn2
         go_upto_region 20 with (first | (refine wpList_load_row rfl 29 (.tmp 6) rfl g6 rfl 29 (shM lsn V) (0, 0) _ HB.out Try.underlying29 rfl (by kernel_rfl) ?_) | (refine wpList_load_row rfl 41 (.tmp 11) rfl g11 rfl 41 #[.int .i64 6, .int .i64 q, .string r3, .string r4] (0, 0) _ HQ.out Try.underlying41 rfl (by kernel_rfl) ?_) | (go_at_call 12; refine (apm_own lsn q r3 r4 2 HZ.out HV.out (HST.out.fw lsn 2)).mono ?_; rintro e w15 ⟨A15, c15, rfl, ho, hb5⟩; have HV15 := Lib.hid (OwnP.lower ho HK.out.size); clear ho; have n_HB := Lib.hid (HB.out.step hb5); have n_HB8 := Lib.hid (HB8.out.step hb5); have n_HV0 := Lib.hid (HV0.out.below hb5); have n_HR := Lib.hid (own_below HR.out hb5); have n_HK := Lib.hid (bstep HK.out hb5); have n_HQ := Lib.hid (HQ.out.step hb5); clear hb5 HB HB8 HV0 HR HK HQ; have HB := n_HB; have HB8 := n_HB8; have HV0 := n_HV0; have HR := n_HR; have HK := n_HK; have HQ := n_HQ; clear n_HB n_HB8 n_HV0 n_HR n_HK n_HQ) | (refine wpList_store_row rfl 29 (.tmp 13) (.tmp 76) rfl w15.heap.size (shM 2 (.slice A15 1 c15)) rfl rfl 29 #[.int .u32 0, .int .u64 0, .int .i64 0, .string ⟨#[]⟩, .slice none 0 0] (Blk.new w15 29 #[.int .u32 0, .int .u64 0, .int .i64 0, .string ⟨#[]⟩, .slice none 0 0]) (by kernel_rfl) rfl (by simp [shM, Value.oneCell']) ?_))
         have h13 := blk_setRow (cs' := (shM 2 (.slice A15 1 c15))) (Blk.new w15 29 #[.int .u32 0, .int .u64 0, .int .i64 0, .string ⟨#[]⟩, .slice none 0 0])
         have hb5 := setRow_below (balloc (Below.refl w15.heap.size w15) (.cells #[.int .u32 0, .int .u64 0, .int .i64 0, .string ⟨#[]⟩, .slice none 0 0] 29)) (Nat.le_refl w15.heap.size) (shM 2 (.slice A15 1 c15))
         have n_HB := Lib.hid (HB.out.step hb5)
         have n_HB8 := Lib.hid (HB8.out.step hb5)
         have n_HV0 := Lib.hid (HV0.out.below hb5)
         have n_HR := Lib.hid (own_below HR.out hb5)
         have n_HK := Lib.hid (bstep HK.out hb5)
         have n_HQ := Lib.hid (HQ.out.step hb5)
         have n_HV15 := Lib.hid (HV15.out.below hb5)
         clear hb5 HB HB8 HV0 HR HK HQ HV15
         have HB := n_HB
         have HB8 := n_HB8
         have HV0 := n_HV0
         have HR := n_HR
         have HK := n_HK
         have HQ := n_HQ
         have HV15 := n_HV15
         clear n_HB n_HB8 n_HV0 n_HR n_HK n_HQ n_HV15
         generalize (w15.alloc (.cells #[.int .u32 0, .int .u64 0, .int .i64 0, .string ⟨#[]⟩, .slice none 0 0] 29)).setRow w15.heap.size (shM 2 (.slice A15 1 c15)) = w16 at *
         generalize w15.heap.size = g13 at *
         have H13 := Lib.hid h13
         clear h13
         obtain ⟨d0, d1_, d2_, d3_, d4_⟩ := shM_cells H13.out
         obtain ⟨q0, q1, q2, q3⟩ := op_cells HQ.out
         refine start_ (n := 7) (S := fun w' => w'.cell? ⟨g13, 0, none⟩ = some (.int .u32 1) ∧ w'.cell? ⟨g13, 1, none⟩ = some (.int .u64 2) ∧ w'.cell? ⟨g13, 2, none⟩ = some (.int .i64 1) ∧ w'.cell? ⟨g13, 3, none⟩ = some (.string ⟨#[]⟩) ∧ w'.cell? ⟨g13, 4, none⟩ = some (.slice A15 1 c15) ∧ w'.cell? ⟨g11, 0, none⟩ = some (.int .i64 6) ∧ w'.cell? ⟨g11, 1, none⟩ = some (.int .i64 q) ∧ w'.cell? ⟨g11, 2, none⟩ = some (.string r3) ∧ w'.cell? ⟨g11, 3, none⟩ = some (.string r4)) (ds := [5]) #[false, false, false, false, false, false, false] (by kernel_rfl) rfl rfl ⟨d0, d1_, d2_, d3_, d4_, q0, q1, q2, q3⟩ (fun hHeld => ?_)
         refine take_ (i := 0) (N := some 80) (v := ?_) (a' := ?_) #[true, false, false, false, false, false, false] rfl rfl (by kernel_rfl) (fun _ _ _ h => h) (Or.inl ⟨by rfl, ?_⟩) hHeld ?_ ?_
         rotate_left
         · rintro w' ⟨s0, s1, s2, s3, s4, s5, s6, s7, s8⟩
           go_simp
           with_reducible rfl
         rotate_left
         · simp only [Act.put, List.setIfInBounds_toArray, List.set_cons_zero, List.set_cons_succ, i64_w, i32_w]
           rfl
         refine pure_ (i := 1) (N := some 81) (v := ?_) (a' := ?_) #[true, true, false, false, false, false, false] rfl rfl (by kernel_rfl) (fun _ _ _ h => h) (Or.inl ⟨by rfl, ?_⟩) ?_ ?_
         rotate_left
         · intro w'
           go_simp
           with_reducible rfl
         rotate_left
         · simp only [Act.put, List.setIfInBounds_toArray, List.set_cons_zero, List.set_cons_succ, i64_w, i32_w]
           rfl
         refine take_ (i := 2) (N := some 82) (v := ?_) (a' := ?_) #[true, true, true, false, false, false, false] rfl rfl (by kernel_rfl) (fun _ _ _ h => h) (Or.inl ⟨by rfl, ?_⟩) hHeld ?_ ?_
         rotate_left
         · rintro w' ⟨s0, s1, s2, s3, s4, s5, s6, s7, s8⟩
           go_simp
           with_reducible rfl
         rotate_left
         · simp only [Act.put, List.setIfInBounds_toArray, List.set_cons_zero, List.set_cons_succ, i64_w, i32_w]
           rfl
         clear d0 d1_ d2_ d3_ d4_ q0 q1 q2 q3 hHeld
         have hb5 := bdrew (Below.refl w16.heap.size w16)
         have n_HB := Lib.hid (HB.out.step hb5)
         have n_HB8 := Lib.hid (HB8.out.step hb5)
         have n_HV0 := Lib.hid (HV0.out.below hb5)
         have n_HR := Lib.hid (own_below HR.out hb5)
         have n_HK := Lib.hid (bstep HK.out hb5)
         have n_HQ := Lib.hid (HQ.out.step hb5)
         have n_HV15 := Lib.hid (HV15.out.below hb5)
         have n_H13 := Lib.hid (H13.out.step hb5)
         clear hb5 HB HB8 HV0 HR HK HQ HV15 H13
         have HB := n_HB
         have HB8 := n_HB8
         have HV0 := n_HV0
         have HR := n_HR
         have HK := n_HK
         have HQ := n_HQ
         have HV15 := n_HV15
         have H13 := n_H13
         clear n_HB n_HB8 n_HV0 n_HR n_HK n_HQ n_HV15 n_H13
         generalize w16.drew = w17 at *
         refine one_ (i := 3) (N := some 83) #[true, true, true, true, false, false, false] rfl rfl (by kernel_rfl) (by decide) (fun K hK => ?_)
         refine value_ (w1 := w17.alloc (.cells #[.int .i64 6, .int .i64 q, .string r3, .string r4] 41)) (v := .slice (some ⟨w17.heap.size, 0, none⟩) 1 1) (by rfl) rfl (by go_simp) ?_
         have hb5 := balloc (Below.refl w17.heap.size w17) (.cells #[.int .i64 6, .int .i64 q, .string r3, .string r4] 41)
         have hL := Blk.new w17 41 #[.int .i64 6, .int .i64 q, .string r3, .string r4]
         have hDL := own_ne_new HR.out
         have n_HB := Lib.hid (HB.out.step hb5)
         have n_HB8 := Lib.hid (HB8.out.step hb5)
         have n_HV0 := Lib.hid (HV0.out.below hb5)
         have n_HR := Lib.hid (own_below HR.out hb5)
         have n_HK := Lib.hid (bstep HK.out hb5)
         have n_HQ := Lib.hid (HQ.out.step hb5)
         have n_HV15 := Lib.hid (HV15.out.below hb5)
         have n_H13 := Lib.hid (H13.out.step hb5)
         clear hb5 HB HB8 HV0 HR HK HQ HV15 H13
         have HB := n_HB
         have HB8 := n_HB8
         have HV0 := n_HV0
         have HR := n_HR
         have HK := n_HK
         have HQ := n_HQ
         have HV15 := n_HV15
         have H13 := n_H13
         clear n_HB n_HB8 n_HV0 n_HR n_HK n_HQ n_HV15 n_H13
         generalize w17.alloc (.cells #[.int .i64 6, .int .i64 q, .string r3, .string r4] 41) = w18 at *
         generalize w17.heap.size = b18 at *
         have HL := Lib.hid hL
         have hD2 := Lib.hid hDL
         clear hL hDL
         obtain ⟨d0, d1_, d2_, d3_, d4_⟩ := shM_cells H13.out
         obtain ⟨q0, q1, q2, q3⟩ := op_cells HQ.out
         refine hK.out _ _ ⟨d0, d1_, d2_, d3_, d4_, q0, q1, q2, q3⟩ (fun hHeld => ?_)
         clear hK K hHeld d0 d1_ d2_ d3_ d4_ q0 q1 q2 q3
         refine norm_ (a' := ?_) ?_ ?_
         rotate_left
         · show Act.put _ (some 83) _ = _
           simp only [Act.put, List.setIfInBounds_toArray, List.set_cons_zero, List.set_cons_succ]
           rfl
         refine one_ (i := 4) (N := some 84) #[true, true, true, true, true, false, false] rfl rfl (by kernel_rfl) (by decide) (fun K hK => ?_)
         refine app1_step (by rfl) rfl (.tmp 81) (.tmp 83) 33 rfl 41 (.agg #[.int .i64 0, .int .i64 0, .string ⟨#[]⟩, .string ⟨#[]⟩]) 4 48 Try.underlying33 infoOp rfl (by decide) u9 rfl w.heap.size ops.length ((ops.map OpB.cells).flatten) HR.out ⟨b18, 0, none⟩ rfl (OpB.cells ⟨q, r3, r4⟩) rfl (blk_cells HL.out) (by simp [OpB.cells, Value.oneCell']) (by omega) (by omega) HK.out.size ?_
         intro v21 w21 ho hg hat
         have n_HB := Lib.hid (HB.out.grown hg (fun e_ => own_ne_blk HR.out HB.out (by decide) e_.symm))
         have n_HB8 := Lib.hid (HB8.out.grown hg (fun e_ => own_ne_blk HR.out HB8.out (by decide) e_.symm))
         have n_H13 := Lib.hid (H13.out.grown hg (fun e_ => own_ne_blk HR.out H13.out (by decide) e_.symm))
         have n_HQ := Lib.hid (HQ.out.grown hg (fun e_ => hD.out e_.symm))
         have n_HV0 := Lib.hid (OwnP.grown HV0.out hg (own_ne_own HV0.out HR.out (by decide)))
         have n_HV15 := Lib.hid (OwnP.grown HV15.out hg (own_ne_own HV15.out HR.out (by decide)))
         have n_HK := Lib.hid (HK.out.grown hg HK.out.size (fun k_ e_ => (HR.out.lt k_ e_).1))
         have n_HR := Lib.hid ho
         clear ho hg hat HL HR HB HB8 H13 HQ HV0 HV15 HK
         have HB := n_HB
         have HB8 := n_HB8
         have H13 := n_H13
         have HQ := n_HQ
         have HV0 := n_HV0
         have HV15 := n_HV15
         have HK := n_HK
         have HR := n_HR
         clear n_HB n_HB8 n_H13 n_HQ n_HV0 n_HV15 n_HK n_HR
         obtain ⟨d0, d1_, d2_, d3_, d4_⟩ := shM_cells H13.out
         obtain ⟨q0, q1, q2, q3⟩ := op_cells HQ.out
         refine hK.out _ _ ⟨d0, d1_, d2_, d3_, d4_, q0, q1, q2, q3⟩ (fun hHeld => ?_)
         clear hK K hHeld d0 d1_ d2_ d3_ d4_ q0 q1 q2 q3
         refine norm_ (a' := ?_) ?_ ?_
         rotate_left
         · show Act.put _ (some 84) _ = _
           simp only [Act.put, List.setIfInBounds_toArray, List.set_cons_zero, List.set_cons_succ]
           rfl
         obtain ⟨c0, c1, c2, c3, c4⟩ := shM_cells HB.out
         have f0 := HB.out.frozen 0
         have f1 := HB.out.frozen 1
         have f2 := HB.out.frozen 2
         have f3 := HB.out.frozen 3
         have f4 := HB.out.frozen 4
         refine last_ (i := 5) (N := none) #[true, true, true, true, true, true, false] rfl rfl (by kernel_rfl) (by decide) (fun K hK => ?_)
         refine skip_ (w1 := (((((w21.setCell ⟨g6, 0, none⟩ (.int .u32 1)).setCell ⟨g6, 1, none⟩ (.int .u64 2)).setCell ⟨g6, 2, none⟩ (.int .i64 1)).setCell ⟨g6, 3, none⟩ (.string ⟨#[]⟩)).setCell ⟨g6, 4, none⟩ (.slice A15 1 c15))) (by rfl) rfl ?_ ?_
         · go_simp
         refine hK.out _ _ ?_
         clear hK K
         refine pure_ (i := 6) (N := some 9) (v := ?_) (a' := ?_) #[true, true, true, true, true, true, true] rfl rfl (by kernel_rfl) (fun _ _ _ h => h) (Or.inl ⟨by rfl, ?_⟩) ?_ ?_
         rotate_left
         · intro w'
           go_simp
           with_reducible rfl
         rotate_left
         · simp only [Act.put, List.setIfInBounds_toArray, List.set_cons_zero, List.set_cons_succ, i64_w, i32_w]
           rfl
         refine done_ (by kernel_rfl) ?_
         go_wp2_with fail
         go_roundw
         case rel => exact ⟨k + 1, ops ++ [⟨q, r3, r4⟩], s', 2, (.slice A15 1 c15), V0, by go_num, by omega, by omega, by simp; omega, Chain.snoc HC.out HST.out, HST.out.s1, by rw [List.length_append, List.map_append, List.flatten_append]; exact own_set5 HR.out HB.out (by decide), set5 HB.out _ _ _ _ _, OwnP.set5 HV15.out HB.out (by decide), far5 HB8.out HN68.out.symm, OwnP.set5 HV0.out HB.out (by decide), below5 HK.out hG6⟩
         case measure => simp [intOf]; omega
       · have hne : (r5 != 0) = true := by simp [hr5]
         go_wp2_with fail
         go_roundw
         case rel => exact ⟨k + 1, ops, s, lsn, V, V0, by go_num, by omega, by omega, by omega, HC, HZ, HR, HB, HV, HB8, HV0, HK⟩
         case measure => simp [intOf]; omega
  case rest =>
  obtain ⟨ops, s, lsn, V, V0, ho40, HC, HZ, HR1, HB1, HV1, HB81, HV01, HK1⟩ := hcut
  clear HB HV HB8 HK HR0
  have HR := HR1
  have HB := HB1
  have HV := HV1
  have HB8 := HB81
  have HV0 := HV01
  have HK := HK1
  clear HR1 HB1 HV1 HB81 HV01 HK1
  obtain ⟨Ao, co, hvo⟩ := own_sl HR.out
  subst hvo
  have HC0 := Lib.hid (show Chain s0 (ops.take ops.length) s by rw [List.take_length]; exact HC.out)
  clear HC
  go_wp2_with fail
  go_loopw [15] (fun jv wr => ∃ (m : Nat) (j : Int) (s : ByteArray) (lsn : Int) (V V0 : Value), jv = .int .i64 j ∧ j = (m : Int) - 1 ∧ m ≤ ops.length ∧ Hid (Chain s0 (ops.take m) s) ∧ Hid (s.size = 256) ∧ Hid (wr.ownsRow w.heap.size 41 4 (.slice Ao ops.length co) ops.length (ops.map OpB.cells).flatten) ∧ Hid (Blk wr g6 29 (shM lsn V)) ∧ Hid (OwnP wr w.heap.size V [s]) ∧ Hid (Blk wr g8 29 (shM 1 V0)) ∧ Hid (OwnP wr w.heap.size V0 [s0]) ∧ Hid (Below w.heap.size w wr))
    (fun jv _ => (intOf jv + 1).toNat)
  case atStart => exact ⟨ops.length, (ops.length : Int) - 1, s, lsn, V, V0, by go_num, rfl, Nat.le_refl _, HC0, HZ, HR, HB, HV, HB8, HV0, HK⟩
  case round =>
    clear HB HV HB8 HV0 HK HR HC0 HZ
    obtain ⟨m0, j, s, lsn, V, V0, rfl, hj, hm, HC, HZ, HR, HB, HV, HB8, HV0, HK⟩ := hrel
    cases m0 with
    | zero =>
      obtain rfl : j = -1 := by omega
      obtain rfl : s = s0 := by
        obtain ⟨f, h0, h1, _⟩ := HC.out
        rw [← h1, ← h0]
        rfl
      clear hj hm HC
      go_wp2_with (first | (refine wpList_load_row rfl 29 (.tmp 6) rfl g6 rfl 29 (shM lsn V) (0, 0) _ HB.out Try.underlying29 rfl (by kernel_rfl) ?_) | (refine wpList_load_row rfl 29 (.tmp 8) rfl g8 rfl 29 (shM 1 V0) (0, 0) _ HB8.out Try.underlying29 rfl (by kernel_rfl) ?_) | (go_at_call 19; refine (same_own lsn 1 HV.out HV0.out).mono ?_; rintro e w30 ⟨rfl, hb5⟩; have HK5 := Lib.hid (bstep HK.out hb5); clear HK HB HB8 HV HV0 HR hb5; have HK := HK5; clear HK5))
      go_ret
      exact ⟨rfl, HK.out⟩
    | succ m =>
      obtain rfl : j = (m : Int) := by omega
      have hml : m < ops.length := by omega
      obtain ⟨s', hst, hcp⟩ := Chain.last hml HC.out
      have HST0 := Lib.hid hst
      have HCp := Lib.hid hcp
      clear hst hcp HC hj
      obtain ⟨bO, offO, hOb⟩ := opRow HR.out hml
      subst hOb
      obtain ⟨⟨q, y, x⟩, hop⟩ : ∃ o_, ops[m] = o_ := ⟨_, rfl⟩
      rw [hop] at HST0
      have HOP := Lib.hid hop
      have HST := HST0
      clear hop HST0
      have i0 : (0 : Int) ≤ m := by omega
      have i1 : (m : Int) < ops.length := by omega
      go_upto_region 24 with fail
      obtain ⟨c0, c1, c2, c3, c4⟩ := shM_cells HB.out
      obtain ⟨e0, e1, e2, e3⟩ := opEl HOP.out rfl HR.out
      refine start_ (n := 13) (S := fun w' => w'.cell? ⟨g6, 0, none⟩ = some (.int .u32 1) ∧ w'.cell? ⟨g6, 1, none⟩ = some (.int .u64 lsn) ∧ w'.cell? ⟨g6, 2, none⟩ = some (.int .i64 1) ∧ w'.cell? ⟨g6, 3, none⟩ = some (.string ⟨#[]⟩) ∧ w'.cell? ⟨g6, 4, none⟩ = some V ∧ w'.cell? ⟨bO, offO + m * 4, none⟩ = some (.int .i64 6) ∧ w'.cell? ⟨bO, offO + m * 4 + 1, none⟩ = some (.int .i64 q) ∧ w'.cell? ⟨bO, offO + m * 4 + 2, none⟩ = some (.string y) ∧ w'.cell? ⟨bO, offO + m * 4 + 3, none⟩ = some (.string x)) (ds := [11]) #[false, false, false, false, false, false, false, false, false, false, false, false, false] (by kernel_rfl) rfl rfl ⟨c0, c1, c2, c3, c4, e0, e1, e2, e3⟩ (fun hHeld => ?_)
      refine pure_ (i := 1) (N := some 94) (v := ?_) (a' := ?_) #[false, true, false, false, false, false, false, false, false, false, false, false, false] rfl rfl (by kernel_rfl) (fun _ _ _ h => h) (Or.inl ⟨by rfl, ?_⟩) ?_ ?_
      rotate_left
      · intro w'
        go_simp
        with_reducible rfl
      rotate_left
      · simp only [Act.put, List.setIfInBounds_toArray, List.set_cons_zero, List.set_cons_succ, i64_w, i32_w]
        rfl
      refine pure_ (i := 2) (N := some 95) (v := ?_) (a' := ?_) #[false, true, true, false, false, false, false, false, false, false, false, false, false] rfl rfl (by kernel_rfl) (fun _ _ _ h => h) (Or.inl ⟨by rfl, ?_⟩) ?_ ?_
      rotate_left
      · intro w'
        go_simp
        with_reducible rfl
      rotate_left
      · simp only [Act.put, List.setIfInBounds_toArray, List.set_cons_zero, List.set_cons_succ, i64_w, i32_w]
        rfl
      refine pure_ (i := 3) (N := some 96) (v := ?_) (a' := ?_) #[false, true, true, true, false, false, false, false, false, false, false, false, false] rfl rfl (by kernel_rfl) (fun _ _ _ h => h) (Or.inl ⟨by rfl, ?_⟩) ?_ ?_
      rotate_left
      · intro w'
        go_simp
        with_reducible rfl
      rotate_left
      · simp only [Act.put, List.setIfInBounds_toArray, List.set_cons_zero, List.set_cons_succ, i64_w, i32_w]
        rfl
      refine take_ (i := 4) (N := some 97) (v := ?_) (a' := ?_) #[false, true, true, true, true, false, false, false, false, false, false, false, false] rfl rfl (by kernel_rfl) (fun _ _ _ h => h) (Or.inl ⟨by rfl, ?_⟩) hHeld ?_ ?_
      rotate_left
      · rintro w' ⟨s0, s1, s2, s3, s4, s5, s6, s7, s8⟩
        go_simp
        with_reducible rfl
      rotate_left
      · simp only [Act.put, List.setIfInBounds_toArray, List.set_cons_zero, List.set_cons_succ, i64_w, i32_w]
        rfl
      refine take_ (i := 0) (N := some 93) (v := ?_) (a' := ?_) #[true, true, true, true, true, false, false, false, false, false, false, false, false] rfl rfl (by kernel_rfl) (fun _ _ _ h => h) (Or.inl ⟨by rfl, ?_⟩) hHeld ?_ ?_
      rotate_left
      · rintro w' ⟨s0, s1, s2, s3, s4, s5, s6, s7, s8⟩
        go_simp
        with_reducible rfl
      rotate_left
      · simp only [Act.put, List.setIfInBounds_toArray, List.set_cons_zero, List.set_cons_succ, i64_w, i32_w]
        rfl
      clear hHeld c0 c1 c2 c3 c4 e0 e1 e2 e3
      have hb5 := bdrew (Below.refl wr.heap.size wr)
      have n_HB := Lib.hid (HB.out.step hb5)
      have n_HV := Lib.hid (HV.out.below hb5)
      have n_HB8 := Lib.hid (HB8.out.step hb5)
      have n_HV0 := Lib.hid (HV0.out.below hb5)
      have n_HR := Lib.hid (own_below HR.out hb5)
      have n_HK := Lib.hid (bstep HK.out hb5)
      clear hb5 HB HV HB8 HV0 HR HK
      have HB := n_HB
      have HV := n_HV
      have HB8 := n_HB8
      have HV0 := n_HV0
      have HR := n_HR
      have HK := n_HK
      clear n_HB n_HV n_HB8 n_HV0 n_HR n_HK
      generalize wr.drew = x24 at *
      refine two_ (i := 5) (j := 10) (Ni := some 98) (Nj := some 16) #[true, true, true, true, true, true, false, false, false, false, false, false, false] #[true, true, true, true, true, false, false, false, false, false, true, false, false] rfl rfl rfl rfl (by kernel_rfl) (by decide) (by decide) (fun K hK => ?_) (fun K hK => ?_)
      · refine goes_ Try.func18 (by kernel_rfl) rfl #[.agg #[.int .i64 6, .int .i64 (q : Int), .string y, .string x]] (by rfl) rfl rfl (by (try simp only [List.map_toArray, List.map_cons, List.map_nil]); first | done | rfl) ?_
        refine (inv_own q y x _).mono ?_
        rintro e_ u101 ⟨rfl, hb5⟩
        have n_HB := Lib.hid (HB.out.step hb5)
        have n_HV := Lib.hid (HV.out.below hb5)
        have n_HB8 := Lib.hid (HB8.out.step hb5)
        have n_HV0 := Lib.hid (HV0.out.below hb5)
        have n_HR := Lib.hid (own_below HR.out hb5)
        have n_HK := Lib.hid (bstep HK.out hb5)
        clear hb5 HB HV HB8 HV0 HR HK
        have HB := n_HB
        have HV := n_HV
        have HB8 := n_HB8
        have HV0 := n_HV0
        have HR := n_HR
        have HK := n_HK
        clear n_HB n_HV n_HB8 n_HV0 n_HR n_HK
        refine ⟨_, rfl, ?_⟩
        obtain ⟨c0, c1, c2, c3, c4⟩ := shM_cells HB.out
        obtain ⟨e0, e1, e2, e3⟩ := opEl HOP.out rfl HR.out
        refine hK.out _ _ ⟨c0, c1, c2, c3, c4, e0, e1, e2, e3⟩ (fun hHeld => ?_)
        clear hK K hHeld c0 c1 c2 c3 c4 e0 e1 e2 e3
        refine norm_ (a' := ?_) ?_ ?_
        rotate_left
        · show Act.put _ (some 98) _ = _
          simp only [Act.put, List.setIfInBounds_toArray, List.set_cons_zero, List.set_cons_succ]
          rfl
        refine two_ (i := 6) (j := 10) (Ni := some 99) (Nj := some 16) #[true, true, true, true, true, true, true, false, false, false, false, false, false] #[true, true, true, true, true, true, false, false, false, false, true, false, false] rfl rfl rfl rfl (by kernel_rfl) (by decide) (by decide) (fun K hK => ?_) (fun K hK => ?_)
        · refine goes_ Try.func12 (by kernel_rfl) rfl #[.agg #[.int .u32 1, .int .u64 lsn, .int .i64 1, .string ⟨#[]⟩, V], .agg #[.int .i64 6, .int .i64 (q : Int), .string x, .string y], .int .u64 3] (by rfl) rfl rfl (by (try simp only [List.map_toArray, List.map_cons, List.map_nil]); first | done | rfl) ?_
          refine (apm_lit lsn q x y 3 HZ.out HV.out (HST.out.bw lsn 3)).mono ?_
          rintro e_ u102 ⟨An, cn, rfl, ho, hb5⟩
          have HVn := Lib.hid (OwnP.lower ho HK.out.size)
          clear ho
          have n_HB := Lib.hid (HB.out.step hb5)
          have n_HV := Lib.hid (HV.out.below hb5)
          have n_HB8 := Lib.hid (HB8.out.step hb5)
          have n_HV0 := Lib.hid (HV0.out.below hb5)
          have n_HR := Lib.hid (own_below HR.out hb5)
          have n_HK := Lib.hid (bstep HK.out hb5)
          clear hb5 HB HV HB8 HV0 HR HK
          have HB := n_HB
          have HV := n_HV
          have HB8 := n_HB8
          have HV0 := n_HV0
          have HR := n_HR
          have HK := n_HK
          clear n_HB n_HV n_HB8 n_HV0 n_HR n_HK
          refine ⟨_, rfl, ?_⟩
          obtain ⟨c0, c1, c2, c3, c4⟩ := shM_cells HB.out
          obtain ⟨e0, e1, e2, e3⟩ := opEl HOP.out rfl HR.out
          refine hK.out _ _ ⟨c0, c1, c2, c3, c4, e0, e1, e2, e3⟩ (fun hHeld => ?_)
          clear hK K hHeld c0 c1 c2 c3 c4 e0 e1 e2 e3
          refine norm_ (a' := ?_) ?_ ?_
          rotate_left
          · show Act.put _ (some 99) _ = _
            simp only [Act.put, List.setIfInBounds_toArray, List.set_cons_zero, List.set_cons_succ]
            rfl
          refine pure_ (i := 7) (N := some 92) (v := ?_) (a' := ?_) #[true, true, true, true, true, true, true, true, false, false, false, false, false] rfl rfl (by kernel_rfl) (fun _ _ _ h => h) (Or.inl ⟨by rfl, ?_⟩) ?_ ?_
          rotate_left
          · intro w'
            go_simp
            with_reducible rfl
          rotate_left
          · simp only [Act.put, List.setIfInBounds_toArray, List.set_cons_zero, List.set_cons_succ, i64_w, i32_w]
            rfl
          refine pure_ (i := 8) (N := some 100) (v := ?_) (a' := ?_) #[true, true, true, true, true, true, true, true, true, false, false, false, false] rfl rfl (by kernel_rfl) (fun _ _ _ h => h) (Or.inl ⟨by rfl, ?_⟩) ?_ ?_
          rotate_left
          · intro w'
            go_simp
            with_reducible rfl
          rotate_left
          · simp only [Act.put, List.setIfInBounds_toArray, List.set_cons_zero, List.set_cons_succ, i64_w, i32_w]
            rfl
          refine pure_ (i := 9) (N := some 101) (v := ?_) (a' := ?_) #[true, true, true, true, true, true, true, true, true, true, false, false, false] rfl rfl (by kernel_rfl) (fun _ _ _ h => h) (Or.inl ⟨by rfl, ?_⟩) ?_ ?_
          rotate_left
          · intro w'
            go_simp
            with_reducible rfl
          rotate_left
          · simp only [Act.put, List.setIfInBounds_toArray, List.set_cons_zero, List.set_cons_succ, i64_w, i32_w]
            rfl
          refine one_ (i := 10) (N := some 16) #[true, true, true, true, true, true, true, true, true, true, true, false, false] rfl rfl (by kernel_rfl) (by decide) (fun K hK => ?_)
          refine value_ (w1 := u102.alloc (.cells #[.int .u32 0, .int .u64 0, .int .i64 0, .string ⟨#[]⟩, .slice none 0 0] 29)) (v := .pointer (some ⟨u102.heap.size, 0, none⟩)) (by rfl) rfl (by go_simp) ?_
          have hb5 := balloc (Below.refl u102.heap.size u102) (.cells #[.int .u32 0, .int .u64 0, .int .i64 0, .string ⟨#[]⟩, .slice none 0 0] 29)
          have hL := Blk.new u102 29 #[.int .u32 0, .int .u64 0, .int .i64 0, .string ⟨#[]⟩, .slice none 0 0]
          have hG16 := HK.out.size
          have hn6 := Lib.hid (Nat.ne_of_lt HB.out.lt)
          have hn8 := Lib.hid (Nat.ne_of_lt HB8.out.lt)
          have n_HB := Lib.hid (HB.out.step hb5)
          have n_HV := Lib.hid (HV.out.below hb5)
          have n_HB8 := Lib.hid (HB8.out.step hb5)
          have n_HV0 := Lib.hid (HV0.out.below hb5)
          have n_HR := Lib.hid (own_below HR.out hb5)
          have n_HK := Lib.hid (bstep HK.out hb5)
          have n_HVn := Lib.hid (HVn.out.below hb5)
          clear hb5 HB HV HB8 HV0 HR HK HVn
          have HB := n_HB
          have HV := n_HV
          have HB8 := n_HB8
          have HV0 := n_HV0
          have HR := n_HR
          have HK := n_HK
          have HVn := n_HVn
          clear n_HB n_HV n_HB8 n_HV0 n_HR n_HK n_HVn
          generalize u102.alloc (.cells #[.int .u32 0, .int .u64 0, .int .i64 0, .string ⟨#[]⟩, .slice none 0 0] 29) = u103 at *
          generalize u102.heap.size = g16 at *
          have H16 := Lib.hid hL
          clear hL
          obtain ⟨c0, c1, c2, c3, c4⟩ := shM_cells HB.out
          obtain ⟨e0, e1, e2, e3⟩ := opEl HOP.out rfl HR.out
          refine hK.out _ _ ⟨c0, c1, c2, c3, c4, e0, e1, e2, e3⟩ (fun hHeld => ?_)
          clear hK K hHeld c0 c1 c2 c3 c4 e0 e1 e2 e3
          refine norm_ (a' := ?_) ?_ ?_
          rotate_left
          · show Act.put _ (some 16) _ = _
            simp only [Act.put, List.setIfInBounds_toArray, List.set_cons_zero, List.set_cons_succ]
            rfl
          have z0 := H16.out.cell 0
          have z1 := H16.out.cell 1
          have z2 := H16.out.cell 2
          have z3 := H16.out.cell 3
          have z4 := H16.out.cell 4
          have f0 := H16.out.frozen 0
          have f1 := H16.out.frozen 1
          have f2 := H16.out.frozen 2
          have f3 := H16.out.frozen 3
          have f4 := H16.out.frozen 4
          refine last_ (i := 11) (N := none) #[true, true, true, true, true, true, true, true, true, true, true, true, false] rfl rfl (by kernel_rfl) (by decide) (fun K hK => ?_)
          refine skip_ (w1 := (((((u103.setCell ⟨g16, 0, none⟩ (.int .u32 1)).setCell ⟨g16, 1, none⟩ (.int .u64 3)).setCell ⟨g16, 2, none⟩ (.int .i64 1)).setCell ⟨g16, 3, none⟩ (.string ⟨#[]⟩)).setCell ⟨g16, 4, none⟩ (.slice An 1 cn))) (by rfl) rfl ?_ ?_
          · go_simp
          refine hK.out _ _ ?_
          clear hK K
          refine pure_ (i := 12) (N := some 17) (v := ?_) (a' := ?_) #[true, true, true, true, true, true, true, true, true, true, true, true, true] rfl rfl (by kernel_rfl) (fun _ _ _ h => h) (Or.inl ⟨by rfl, ?_⟩) ?_ ?_
          rotate_left
          · intro w'
            go_simp
            with_reducible rfl
          rotate_left
          · simp only [Act.put, List.setIfInBounds_toArray, List.set_cons_zero, List.set_cons_succ, i64_w, i32_w]
            rfl
          refine done_ (by kernel_rfl) ?_
          have hb16 := ((((H16.out.set_ 0 (.int .u32 1)).set_ 1 (.int .u64 3)).set_ 2 (.int .i64 1)).set_ 3 (.string ⟨#[]⟩)).set_ 4 (.slice An 1 cn)
          have n1 := Lib.hid (far5 (u0 := .int .u32 1) (u1 := .int .u64 3) (u2 := .int .i64 1) (u3 := .string ⟨#[]⟩) (u4 := (.slice An 1 cn)) HB.out hn6.out)
          have n2 := Lib.hid (far5 (u0 := .int .u32 1) (u1 := .int .u64 3) (u2 := .int .i64 1) (u3 := .string ⟨#[]⟩) (u4 := (.slice An 1 cn)) HB8.out hn8.out)
          have n3 := Lib.hid (OwnP.set5 (u0 := .int .u32 1) (u1 := .int .u64 3) (u2 := .int .i64 1) (u3 := .string ⟨#[]⟩) (u4 := (.slice An 1 cn)) HVn.out H16.out (by decide))
          have n4 := Lib.hid (OwnP.set5 (u0 := .int .u32 1) (u1 := .int .u64 3) (u2 := .int .i64 1) (u3 := .string ⟨#[]⟩) (u4 := (.slice An 1 cn)) HV0.out H16.out (by decide))
          have n5 := Lib.hid (own_set5 (u0 := .int .u32 1) (u1 := .int .u64 3) (u2 := .int .i64 1) (u3 := .string ⟨#[]⟩) (u4 := (.slice An 1 cn)) HR.out H16.out (by decide))
          have n6 := Lib.hid (below5 (u0 := .int .u32 1) (u1 := .int .u64 3) (u2 := .int .i64 1) (u3 := .string ⟨#[]⟩) (u4 := (.slice An 1 cn)) HK.out hG16)
          clear z0 z1 z2 z3 z4 f0 f1 f2 f3 f4 HB HB8 HVn HV0 HR HK H16 HV
          generalize (((((u103.setCell ⟨g16, 0, none⟩ (.int .u32 1)).setCell ⟨g16, 1, none⟩ (.int .u64 3)).setCell ⟨g16, 2, none⟩ (.int .i64 1)).setCell ⟨g16, 3, none⟩ (.string ⟨#[]⟩)).setCell ⟨g16, 4, none⟩ (.slice An 1 cn)) = wz at *
          have HP := Lib.hid (show Blk wz g16 29 (shM 3 (.slice An 1 cn)) from hb16)
          clear hb16
          go_wp2_with (first | (refine wpList_load_row rfl 29 (.tmp 16) rfl g16 rfl 29 (shM 3 (.slice An 1 cn)) (0, 0) _ HP.out Try.underlying29 rfl (by kernel_rfl) ?_) | (refine wpList_store_row rfl 29 (.tmp 6) (.tmp 104) rfl g6 (shM 3 (.slice An 1 cn)) rfl rfl 29 (shM lsn V) n1.out (by kernel_rfl) rfl (by simp [shM, Value.oneCell']) ?_))
          go_roundw
          case rel => exact ⟨m, (m : Int) - 1, s', 3, (.slice An 1 cn), V0, by go_num, rfl, by omega, HCp, HST.out.s0, own_setRow n5.out n1.out (by decide), blk_setRow n1.out, OwnP.setRow n3.out n1.out (by decide), blk_setRow_far n2.out _ HN68.out.symm, OwnP.setRow n4.out n1.out (by decide), setRow_below n6.out hG6 _⟩
          case measure => simp [intOf]; try omega
        · refine value_ (w1 := u101.alloc (.cells #[.int .u32 0, .int .u64 0, .int .i64 0, .string ⟨#[]⟩, .slice none 0 0] 29)) (v := .pointer (some ⟨u101.heap.size, 0, none⟩)) (by rfl) rfl (by go_simp) ?_
          have hb5 := balloc (Below.refl u101.heap.size u101) (.cells #[.int .u32 0, .int .u64 0, .int .i64 0, .string ⟨#[]⟩, .slice none 0 0] 29)
          have hL := Blk.new u101 29 #[.int .u32 0, .int .u64 0, .int .i64 0, .string ⟨#[]⟩, .slice none 0 0]
          have hG16 := HK.out.size
          have hn6 := Lib.hid (Nat.ne_of_lt HB.out.lt)
          have hn8 := Lib.hid (Nat.ne_of_lt HB8.out.lt)
          have n_HB := Lib.hid (HB.out.step hb5)
          have n_HV := Lib.hid (HV.out.below hb5)
          have n_HB8 := Lib.hid (HB8.out.step hb5)
          have n_HV0 := Lib.hid (HV0.out.below hb5)
          have n_HR := Lib.hid (own_below HR.out hb5)
          have n_HK := Lib.hid (bstep HK.out hb5)
          clear hb5 HB HV HB8 HV0 HR HK
          have HB := n_HB
          have HV := n_HV
          have HB8 := n_HB8
          have HV0 := n_HV0
          have HR := n_HR
          have HK := n_HK
          clear n_HB n_HV n_HB8 n_HV0 n_HR n_HK
          generalize u101.alloc (.cells #[.int .u32 0, .int .u64 0, .int .i64 0, .string ⟨#[]⟩, .slice none 0 0] 29) = u104 at *
          generalize u101.heap.size = g16 at *
          have H16 := Lib.hid hL
          clear hL
          obtain ⟨c0, c1, c2, c3, c4⟩ := shM_cells HB.out
          obtain ⟨e0, e1, e2, e3⟩ := opEl HOP.out rfl HR.out
          refine hK.out _ _ ⟨c0, c1, c2, c3, c4, e0, e1, e2, e3⟩ (fun hHeld => ?_)
          clear hK K hHeld c0 c1 c2 c3 c4 e0 e1 e2 e3
          refine norm_ (a' := ?_) ?_ ?_
          rotate_left
          · show Act.put _ (some 16) _ = _
            simp only [Act.put, List.setIfInBounds_toArray, List.set_cons_zero, List.set_cons_succ]
            rfl
          refine one_ (i := 6) (N := some 99) #[true, true, true, true, true, true, true, false, false, false, true, false, false] rfl rfl (by kernel_rfl) (by decide) (fun K hK => ?_)
          refine goes_ Try.func12 (by kernel_rfl) rfl #[.agg #[.int .u32 1, .int .u64 lsn, .int .i64 1, .string ⟨#[]⟩, V], .agg #[.int .i64 6, .int .i64 (q : Int), .string x, .string y], .int .u64 3] (by rfl) rfl rfl (by (try simp only [List.map_toArray, List.map_cons, List.map_nil]); first | done | rfl) ?_
          refine (apm_lit lsn q x y 3 HZ.out HV.out (HST.out.bw lsn 3)).mono ?_
          rintro e_ u105 ⟨An, cn, rfl, ho, hb5⟩
          have HVn := Lib.hid (OwnP.lower ho HK.out.size)
          clear ho
          have n_HB := Lib.hid (HB.out.step hb5)
          have n_HV := Lib.hid (HV.out.below hb5)
          have n_HB8 := Lib.hid (HB8.out.step hb5)
          have n_HV0 := Lib.hid (HV0.out.below hb5)
          have n_HR := Lib.hid (own_below HR.out hb5)
          have n_HK := Lib.hid (bstep HK.out hb5)
          have n_H16 := Lib.hid (H16.out.step hb5)
          clear hb5 HB HV HB8 HV0 HR HK H16
          have HB := n_HB
          have HV := n_HV
          have HB8 := n_HB8
          have HV0 := n_HV0
          have HR := n_HR
          have HK := n_HK
          have H16 := n_H16
          clear n_HB n_HV n_HB8 n_HV0 n_HR n_HK n_H16
          refine ⟨_, rfl, ?_⟩
          obtain ⟨c0, c1, c2, c3, c4⟩ := shM_cells HB.out
          obtain ⟨e0, e1, e2, e3⟩ := opEl HOP.out rfl HR.out
          refine hK.out _ _ ⟨c0, c1, c2, c3, c4, e0, e1, e2, e3⟩ (fun hHeld => ?_)
          clear hK K hHeld c0 c1 c2 c3 c4 e0 e1 e2 e3
          refine norm_ (a' := ?_) ?_ ?_
          rotate_left
          · show Act.put _ (some 99) _ = _
            simp only [Act.put, List.setIfInBounds_toArray, List.set_cons_zero, List.set_cons_succ]
            rfl
          refine pure_ (i := 7) (N := some 92) (v := ?_) (a' := ?_) #[true, true, true, true, true, true, true, true, false, false, true, false, false] rfl rfl (by kernel_rfl) (fun _ _ _ h => h) (Or.inl ⟨by rfl, ?_⟩) ?_ ?_
          rotate_left
          · intro w'
            go_simp
            with_reducible rfl
          rotate_left
          · simp only [Act.put, List.setIfInBounds_toArray, List.set_cons_zero, List.set_cons_succ, i64_w, i32_w]
            rfl
          refine pure_ (i := 8) (N := some 100) (v := ?_) (a' := ?_) #[true, true, true, true, true, true, true, true, true, false, true, false, false] rfl rfl (by kernel_rfl) (fun _ _ _ h => h) (Or.inl ⟨by rfl, ?_⟩) ?_ ?_
          rotate_left
          · intro w'
            go_simp
            with_reducible rfl
          rotate_left
          · simp only [Act.put, List.setIfInBounds_toArray, List.set_cons_zero, List.set_cons_succ, i64_w, i32_w]
            rfl
          refine pure_ (i := 9) (N := some 101) (v := ?_) (a' := ?_) #[true, true, true, true, true, true, true, true, true, true, true, false, false] rfl rfl (by kernel_rfl) (fun _ _ _ h => h) (Or.inl ⟨by rfl, ?_⟩) ?_ ?_
          rotate_left
          · intro w'
            go_simp
            with_reducible rfl
          rotate_left
          · simp only [Act.put, List.setIfInBounds_toArray, List.set_cons_zero, List.set_cons_succ, i64_w, i32_w]
            rfl
          have z0 := H16.out.cell 0
          have z1 := H16.out.cell 1
          have z2 := H16.out.cell 2
          have z3 := H16.out.cell 3
          have z4 := H16.out.cell 4
          have f0 := H16.out.frozen 0
          have f1 := H16.out.frozen 1
          have f2 := H16.out.frozen 2
          have f3 := H16.out.frozen 3
          have f4 := H16.out.frozen 4
          refine last_ (i := 11) (N := none) #[true, true, true, true, true, true, true, true, true, true, true, true, false] rfl rfl (by kernel_rfl) (by decide) (fun K hK => ?_)
          refine skip_ (w1 := (((((u105.setCell ⟨g16, 0, none⟩ (.int .u32 1)).setCell ⟨g16, 1, none⟩ (.int .u64 3)).setCell ⟨g16, 2, none⟩ (.int .i64 1)).setCell ⟨g16, 3, none⟩ (.string ⟨#[]⟩)).setCell ⟨g16, 4, none⟩ (.slice An 1 cn))) (by rfl) rfl ?_ ?_
          · go_simp
          refine hK.out _ _ ?_
          clear hK K
          refine pure_ (i := 12) (N := some 17) (v := ?_) (a' := ?_) #[true, true, true, true, true, true, true, true, true, true, true, true, true] rfl rfl (by kernel_rfl) (fun _ _ _ h => h) (Or.inl ⟨by rfl, ?_⟩) ?_ ?_
          rotate_left
          · intro w'
            go_simp
            with_reducible rfl
          rotate_left
          · simp only [Act.put, List.setIfInBounds_toArray, List.set_cons_zero, List.set_cons_succ, i64_w, i32_w]
            rfl
          refine done_ (by kernel_rfl) ?_
          have hb16 := ((((H16.out.set_ 0 (.int .u32 1)).set_ 1 (.int .u64 3)).set_ 2 (.int .i64 1)).set_ 3 (.string ⟨#[]⟩)).set_ 4 (.slice An 1 cn)
          have n1 := Lib.hid (far5 (u0 := .int .u32 1) (u1 := .int .u64 3) (u2 := .int .i64 1) (u3 := .string ⟨#[]⟩) (u4 := (.slice An 1 cn)) HB.out hn6.out)
          have n2 := Lib.hid (far5 (u0 := .int .u32 1) (u1 := .int .u64 3) (u2 := .int .i64 1) (u3 := .string ⟨#[]⟩) (u4 := (.slice An 1 cn)) HB8.out hn8.out)
          have n3 := Lib.hid (OwnP.set5 (u0 := .int .u32 1) (u1 := .int .u64 3) (u2 := .int .i64 1) (u3 := .string ⟨#[]⟩) (u4 := (.slice An 1 cn)) HVn.out H16.out (by decide))
          have n4 := Lib.hid (OwnP.set5 (u0 := .int .u32 1) (u1 := .int .u64 3) (u2 := .int .i64 1) (u3 := .string ⟨#[]⟩) (u4 := (.slice An 1 cn)) HV0.out H16.out (by decide))
          have n5 := Lib.hid (own_set5 (u0 := .int .u32 1) (u1 := .int .u64 3) (u2 := .int .i64 1) (u3 := .string ⟨#[]⟩) (u4 := (.slice An 1 cn)) HR.out H16.out (by decide))
          have n6 := Lib.hid (below5 (u0 := .int .u32 1) (u1 := .int .u64 3) (u2 := .int .i64 1) (u3 := .string ⟨#[]⟩) (u4 := (.slice An 1 cn)) HK.out hG16)
          clear z0 z1 z2 z3 z4 f0 f1 f2 f3 f4 HB HB8 HVn HV0 HR HK H16 HV
          generalize (((((u105.setCell ⟨g16, 0, none⟩ (.int .u32 1)).setCell ⟨g16, 1, none⟩ (.int .u64 3)).setCell ⟨g16, 2, none⟩ (.int .i64 1)).setCell ⟨g16, 3, none⟩ (.string ⟨#[]⟩)).setCell ⟨g16, 4, none⟩ (.slice An 1 cn)) = wz at *
          have HP := Lib.hid (show Blk wz g16 29 (shM 3 (.slice An 1 cn)) from hb16)
          clear hb16
          go_wp2_with (first | (refine wpList_load_row rfl 29 (.tmp 16) rfl g16 rfl 29 (shM 3 (.slice An 1 cn)) (0, 0) _ HP.out Try.underlying29 rfl (by kernel_rfl) ?_) | (refine wpList_store_row rfl 29 (.tmp 6) (.tmp 104) rfl g6 (shM 3 (.slice An 1 cn)) rfl rfl 29 (shM lsn V) n1.out (by kernel_rfl) rfl (by simp [shM, Value.oneCell']) ?_))
          go_roundw
          case rel => exact ⟨m, (m : Int) - 1, s', 3, (.slice An 1 cn), V0, by go_num, rfl, by omega, HCp, HST.out.s0, own_setRow n5.out n1.out (by decide), blk_setRow n1.out, OwnP.setRow n3.out n1.out (by decide), blk_setRow_far n2.out _ HN68.out.symm, OwnP.setRow n4.out n1.out (by decide), setRow_below n6.out hG6 _⟩
          case measure => simp [intOf]; try omega
      · refine value_ (w1 := x24.alloc (.cells #[.int .u32 0, .int .u64 0, .int .i64 0, .string ⟨#[]⟩, .slice none 0 0] 29)) (v := .pointer (some ⟨x24.heap.size, 0, none⟩)) (by rfl) rfl (by go_simp) ?_
        have hb5 := balloc (Below.refl x24.heap.size x24) (.cells #[.int .u32 0, .int .u64 0, .int .i64 0, .string ⟨#[]⟩, .slice none 0 0] 29)
        have hL := Blk.new x24 29 #[.int .u32 0, .int .u64 0, .int .i64 0, .string ⟨#[]⟩, .slice none 0 0]
        have hG16 := HK.out.size
        have hn6 := Lib.hid (Nat.ne_of_lt HB.out.lt)
        have hn8 := Lib.hid (Nat.ne_of_lt HB8.out.lt)
        have n_HB := Lib.hid (HB.out.step hb5)
        have n_HV := Lib.hid (HV.out.below hb5)
        have n_HB8 := Lib.hid (HB8.out.step hb5)
        have n_HV0 := Lib.hid (HV0.out.below hb5)
        have n_HR := Lib.hid (own_below HR.out hb5)
        have n_HK := Lib.hid (bstep HK.out hb5)
        clear hb5 HB HV HB8 HV0 HR HK
        have HB := n_HB
        have HV := n_HV
        have HB8 := n_HB8
        have HV0 := n_HV0
        have HR := n_HR
        have HK := n_HK
        clear n_HB n_HV n_HB8 n_HV0 n_HR n_HK
        generalize x24.alloc (.cells #[.int .u32 0, .int .u64 0, .int .i64 0, .string ⟨#[]⟩, .slice none 0 0] 29) = u106 at *
        generalize x24.heap.size = g16 at *
        have H16 := Lib.hid hL
        clear hL
        obtain ⟨c0, c1, c2, c3, c4⟩ := shM_cells HB.out
        obtain ⟨e0, e1, e2, e3⟩ := opEl HOP.out rfl HR.out
        refine hK.out _ _ ⟨c0, c1, c2, c3, c4, e0, e1, e2, e3⟩ (fun hHeld => ?_)
        clear hK K hHeld c0 c1 c2 c3 c4 e0 e1 e2 e3
        refine norm_ (a' := ?_) ?_ ?_
        rotate_left
        · show Act.put _ (some 16) _ = _
          simp only [Act.put, List.setIfInBounds_toArray, List.set_cons_zero, List.set_cons_succ]
          rfl
        refine one_ (i := 5) (N := some 98) #[true, true, true, true, true, true, false, false, false, false, true, false, false] rfl rfl (by kernel_rfl) (by decide) (fun K hK => ?_)
        refine goes_ Try.func18 (by kernel_rfl) rfl #[.agg #[.int .i64 6, .int .i64 (q : Int), .string y, .string x]] (by rfl) rfl rfl (by (try simp only [List.map_toArray, List.map_cons, List.map_nil]); first | done | rfl) ?_
        refine (inv_own q y x _).mono ?_
        rintro e_ u107 ⟨rfl, hb5⟩
        have n_HB := Lib.hid (HB.out.step hb5)
        have n_HV := Lib.hid (HV.out.below hb5)
        have n_HB8 := Lib.hid (HB8.out.step hb5)
        have n_HV0 := Lib.hid (HV0.out.below hb5)
        have n_HR := Lib.hid (own_below HR.out hb5)
        have n_HK := Lib.hid (bstep HK.out hb5)
        have n_H16 := Lib.hid (H16.out.step hb5)
        clear hb5 HB HV HB8 HV0 HR HK H16
        have HB := n_HB
        have HV := n_HV
        have HB8 := n_HB8
        have HV0 := n_HV0
        have HR := n_HR
        have HK := n_HK
        have H16 := n_H16
        clear n_HB n_HV n_HB8 n_HV0 n_HR n_HK n_H16
        refine ⟨_, rfl, ?_⟩
        obtain ⟨c0, c1, c2, c3, c4⟩ := shM_cells HB.out
        obtain ⟨e0, e1, e2, e3⟩ := opEl HOP.out rfl HR.out
        refine hK.out _ _ ⟨c0, c1, c2, c3, c4, e0, e1, e2, e3⟩ (fun hHeld => ?_)
        clear hK K hHeld c0 c1 c2 c3 c4 e0 e1 e2 e3
        refine norm_ (a' := ?_) ?_ ?_
        rotate_left
        · show Act.put _ (some 98) _ = _
          simp only [Act.put, List.setIfInBounds_toArray, List.set_cons_zero, List.set_cons_succ]
          rfl
        refine one_ (i := 6) (N := some 99) #[true, true, true, true, true, true, true, false, false, false, true, false, false] rfl rfl (by kernel_rfl) (by decide) (fun K hK => ?_)
        refine goes_ Try.func12 (by kernel_rfl) rfl #[.agg #[.int .u32 1, .int .u64 lsn, .int .i64 1, .string ⟨#[]⟩, V], .agg #[.int .i64 6, .int .i64 (q : Int), .string x, .string y], .int .u64 3] (by rfl) rfl rfl (by (try simp only [List.map_toArray, List.map_cons, List.map_nil]); first | done | rfl) ?_
        refine (apm_lit lsn q x y 3 HZ.out HV.out (HST.out.bw lsn 3)).mono ?_
        rintro e_ u108 ⟨An, cn, rfl, ho, hb5⟩
        have HVn := Lib.hid (OwnP.lower ho HK.out.size)
        clear ho
        have n_HB := Lib.hid (HB.out.step hb5)
        have n_HV := Lib.hid (HV.out.below hb5)
        have n_HB8 := Lib.hid (HB8.out.step hb5)
        have n_HV0 := Lib.hid (HV0.out.below hb5)
        have n_HR := Lib.hid (own_below HR.out hb5)
        have n_HK := Lib.hid (bstep HK.out hb5)
        have n_H16 := Lib.hid (H16.out.step hb5)
        clear hb5 HB HV HB8 HV0 HR HK H16
        have HB := n_HB
        have HV := n_HV
        have HB8 := n_HB8
        have HV0 := n_HV0
        have HR := n_HR
        have HK := n_HK
        have H16 := n_H16
        clear n_HB n_HV n_HB8 n_HV0 n_HR n_HK n_H16
        refine ⟨_, rfl, ?_⟩
        obtain ⟨c0, c1, c2, c3, c4⟩ := shM_cells HB.out
        obtain ⟨e0, e1, e2, e3⟩ := opEl HOP.out rfl HR.out
        refine hK.out _ _ ⟨c0, c1, c2, c3, c4, e0, e1, e2, e3⟩ (fun hHeld => ?_)
        clear hK K hHeld c0 c1 c2 c3 c4 e0 e1 e2 e3
        refine norm_ (a' := ?_) ?_ ?_
        rotate_left
        · show Act.put _ (some 99) _ = _
          simp only [Act.put, List.setIfInBounds_toArray, List.set_cons_zero, List.set_cons_succ]
          rfl
        refine pure_ (i := 7) (N := some 92) (v := ?_) (a' := ?_) #[true, true, true, true, true, true, true, true, false, false, true, false, false] rfl rfl (by kernel_rfl) (fun _ _ _ h => h) (Or.inl ⟨by rfl, ?_⟩) ?_ ?_
        rotate_left
        · intro w'
          go_simp
          with_reducible rfl
        rotate_left
        · simp only [Act.put, List.setIfInBounds_toArray, List.set_cons_zero, List.set_cons_succ, i64_w, i32_w]
          rfl
        refine pure_ (i := 8) (N := some 100) (v := ?_) (a' := ?_) #[true, true, true, true, true, true, true, true, true, false, true, false, false] rfl rfl (by kernel_rfl) (fun _ _ _ h => h) (Or.inl ⟨by rfl, ?_⟩) ?_ ?_
        rotate_left
        · intro w'
          go_simp
          with_reducible rfl
        rotate_left
        · simp only [Act.put, List.setIfInBounds_toArray, List.set_cons_zero, List.set_cons_succ, i64_w, i32_w]
          rfl
        refine pure_ (i := 9) (N := some 101) (v := ?_) (a' := ?_) #[true, true, true, true, true, true, true, true, true, true, true, false, false] rfl rfl (by kernel_rfl) (fun _ _ _ h => h) (Or.inl ⟨by rfl, ?_⟩) ?_ ?_
        rotate_left
        · intro w'
          go_simp
          with_reducible rfl
        rotate_left
        · simp only [Act.put, List.setIfInBounds_toArray, List.set_cons_zero, List.set_cons_succ, i64_w, i32_w]
          rfl
        have z0 := H16.out.cell 0
        have z1 := H16.out.cell 1
        have z2 := H16.out.cell 2
        have z3 := H16.out.cell 3
        have z4 := H16.out.cell 4
        have f0 := H16.out.frozen 0
        have f1 := H16.out.frozen 1
        have f2 := H16.out.frozen 2
        have f3 := H16.out.frozen 3
        have f4 := H16.out.frozen 4
        refine last_ (i := 11) (N := none) #[true, true, true, true, true, true, true, true, true, true, true, true, false] rfl rfl (by kernel_rfl) (by decide) (fun K hK => ?_)
        refine skip_ (w1 := (((((u108.setCell ⟨g16, 0, none⟩ (.int .u32 1)).setCell ⟨g16, 1, none⟩ (.int .u64 3)).setCell ⟨g16, 2, none⟩ (.int .i64 1)).setCell ⟨g16, 3, none⟩ (.string ⟨#[]⟩)).setCell ⟨g16, 4, none⟩ (.slice An 1 cn))) (by rfl) rfl ?_ ?_
        · go_simp
        refine hK.out _ _ ?_
        clear hK K
        refine pure_ (i := 12) (N := some 17) (v := ?_) (a' := ?_) #[true, true, true, true, true, true, true, true, true, true, true, true, true] rfl rfl (by kernel_rfl) (fun _ _ _ h => h) (Or.inl ⟨by rfl, ?_⟩) ?_ ?_
        rotate_left
        · intro w'
          go_simp
          with_reducible rfl
        rotate_left
        · simp only [Act.put, List.setIfInBounds_toArray, List.set_cons_zero, List.set_cons_succ, i64_w, i32_w]
          rfl
        refine done_ (by kernel_rfl) ?_
        have hb16 := ((((H16.out.set_ 0 (.int .u32 1)).set_ 1 (.int .u64 3)).set_ 2 (.int .i64 1)).set_ 3 (.string ⟨#[]⟩)).set_ 4 (.slice An 1 cn)
        have n1 := Lib.hid (far5 (u0 := .int .u32 1) (u1 := .int .u64 3) (u2 := .int .i64 1) (u3 := .string ⟨#[]⟩) (u4 := (.slice An 1 cn)) HB.out hn6.out)
        have n2 := Lib.hid (far5 (u0 := .int .u32 1) (u1 := .int .u64 3) (u2 := .int .i64 1) (u3 := .string ⟨#[]⟩) (u4 := (.slice An 1 cn)) HB8.out hn8.out)
        have n3 := Lib.hid (OwnP.set5 (u0 := .int .u32 1) (u1 := .int .u64 3) (u2 := .int .i64 1) (u3 := .string ⟨#[]⟩) (u4 := (.slice An 1 cn)) HVn.out H16.out (by decide))
        have n4 := Lib.hid (OwnP.set5 (u0 := .int .u32 1) (u1 := .int .u64 3) (u2 := .int .i64 1) (u3 := .string ⟨#[]⟩) (u4 := (.slice An 1 cn)) HV0.out H16.out (by decide))
        have n5 := Lib.hid (own_set5 (u0 := .int .u32 1) (u1 := .int .u64 3) (u2 := .int .i64 1) (u3 := .string ⟨#[]⟩) (u4 := (.slice An 1 cn)) HR.out H16.out (by decide))
        have n6 := Lib.hid (below5 (u0 := .int .u32 1) (u1 := .int .u64 3) (u2 := .int .i64 1) (u3 := .string ⟨#[]⟩) (u4 := (.slice An 1 cn)) HK.out hG16)
        clear z0 z1 z2 z3 z4 f0 f1 f2 f3 f4 HB HB8 HVn HV0 HR HK H16 HV
        generalize (((((u108.setCell ⟨g16, 0, none⟩ (.int .u32 1)).setCell ⟨g16, 1, none⟩ (.int .u64 3)).setCell ⟨g16, 2, none⟩ (.int .i64 1)).setCell ⟨g16, 3, none⟩ (.string ⟨#[]⟩)).setCell ⟨g16, 4, none⟩ (.slice An 1 cn)) = wz at *
        have HP := Lib.hid (show Blk wz g16 29 (shM 3 (.slice An 1 cn)) from hb16)
        clear hb16
        go_wp2_with (first | (refine wpList_load_row rfl 29 (.tmp 16) rfl g16 rfl 29 (shM 3 (.slice An 1 cn)) (0, 0) _ HP.out Try.underlying29 rfl (by kernel_rfl) ?_) | (refine wpList_store_row rfl 29 (.tmp 6) (.tmp 104) rfl g6 (shM 3 (.slice An 1 cn)) rfl rfl 29 (shM lsn V) n1.out (by kernel_rfl) rfl (by simp [shM, Value.oneCell']) ?_))
        go_roundw
        case rel => exact ⟨m, (m : Int) - 1, s', 3, (.slice An 1 cn), V0, by go_num, rfl, by omega, HCp, HST.out.s0, own_setRow n5.out n1.out (by decide), blk_setRow n1.out, OwnP.setRow n3.out n1.out (by decide), blk_setRow_far n2.out _ HN68.out.symm, OwnP.setRow n4.out n1.out (by decide), setRow_below n6.out hG6 _⟩
        case measure => simp [intOf]; try omega
end Go.Proofs.Ytdannjjipcmhdaa
end
section
namespace Go.Proofs.Ytdannjjipcmhdaa.spaceBackRow
open Go.ChangeShapes Go.WideShapes Go.ChangeAt Go.RowKit Go.GiRow Go.Proofs.YtdannjjipcmhdaaW.PrintWords OpenK
theorem own : ownKnob Try.prog.godebug = none := by kernel_rfl
theorem laid : laidOutB Try.prog = true := by kernel_rfl
theorem opens_ints : Opens Try.prog 56 (Kd.slice 3 (Kd.int .i64)) (fun l => l.length * 8 ≤ 140737488351232 ∧ ∀ x ∈ l, (Lit.int .i64 x).wf = true) :=
  opens_slice Try.underlying56 (by kernel_rfl) (by decide) (by kernel_rfl) (opens_int Try.underlying3)
set_option maxRecDepth 100000 in
set_option maxHeartbeats 6400000 in
theorem lifted (os : Os) (started : os.Started) (H : Type) (enc : TypeId × Value → H) :
    ReturnsInHanded {} Try.checked os 5 .any (Rows.spaceBackSpec.pre6 enc Try.prog Try.f5 Rows.spaceBackRow.domain false) (Rows.spaceBackSpec.post enc Try.prog Try.f5 false true false false) := by
  refine returnsInHanded_of_change_sized (C := Try.checked) own started (by kernel_rfl) Try.func5
    (ChangeSpec.witness6 (enc := enc) (C := Try.checked) false ⟨#[], #[.int .i64 0, .slice none 0 0], []⟩ 8 (by kernel_rfl) (by kernel_rfl) (by kernel_rfl) (by kernel_rfl)) ?_
  intro W base args ds gs before hval0 hW _ hsz0 _
  have hsz : (DataW.weightsEach Try.prog (Try.f5.params.toList ++ Rows.spaceBackSpec.plain.varTypes Try.prog) (ds ++ gs)).all (· ≤ reachBytes) = true := hsz0
  have hval : ∀ (j : Nat) t v, Try.f5.params[j]? = some t → args[j]? = some v → Value.okWide Try.prog W .any base t v := hval0
  have hW' := hW
  obtain ⟨p, q, hA0, hV, rfl, _, _⟩ := hW
  have hA : DataW.TrodAll enc Try.prog W 0 (fun _ => true) true Try.f5.params.toList args.toList ds p := hA0
  rw [Try.params5] at hA hval hsz
  obtain ⟨v0, vs0, d0, ds0, p0, q0, hargs, rfl, rfl, h0, r0⟩ := trodAll_cons hA
  obtain ⟨v1, vs1, d1, ds1, p1, q1, rfl, rfl, rfl, h1, r1⟩ := trodAll_cons r0
  obtain ⟨rfl, rfl, rfl⟩ := trodAll_nil r1
  obtain rfl : args = #[v0, v1] := by cases args; simp_all
  obtain ⟨rfl, rfl⟩ := trodVars_none hV
  obtain ⟨a0, rfl, rfl, rfl, w0⟩ := open_int Try.underlying3 (hval 0 3 v0 rfl rfl) h0
  obtain ⟨a, len, cap, hv⟩ := okWide_slice Try.underlying56 (hval 1 56 v1 rfl rfl)
  subst hv
  obtain ⟨fuel, hf⟩ := h1
  obtain ⟨l, ⟨A, c, e, hc, hC⟩, hn, hB⟩ := opens_ints H enc W _ _ fuel _ _ hf (OpenK.light_each hsz 1 _ _ rfl rfl)
  simp only [Value.cells, List.cons.injEq, Value.slice.injEq, and_true] at e
  obtain ⟨rfl, rfl, rfl⟩ := e
  refine (back_any a0 a cap l W hC (bounds_i64 w0) (by omega)).mono fun e W' ⟨he, bel⟩ => ?_
  subst he
  refine ⟨_, rfl, law_post (tb := 4) laid (by kernel_rfl) rfl Try.underlying4 rfl (fun ds hds => ?_) hW' bel⟩
  match ds, hds with
  | [_, _], _ => rfl
theorem over : Rows.spaceBackRow.holds Try.pinned (OpenSpec.ofChange Rows.spaceBackSpec) :=
  OpenClaim.holds_of_wide 5 Try.f5 rfl rfl rfl rfl rfl rfl rfl ⟨rfl, rfl, rfl, rfl, rfl⟩ rfl rfl rfl rfl rfl (by kernel_rfl) Try.func5 (by kernel_rfl)
    (of_decide_eq_true (by kernel_rfl)) (by unfold Func.isWrapper; first | (rw [if_pos (by decide +kernel)]; kernel_rfl) | (rw [if_neg (by decide +kernel)]; exact ⟨rfl, rfl⟩))
    (fun os started H enc _ => lifted os started H enc)
end Go.Proofs.Ytdannjjipcmhdaa.spaceBackRow
namespace Go.Proofs.Ytdannjjipcmhdaa
/-- The row, under a short name, for the claim. -/
theorem spaceBack_holds : Rows.SpaceBackSaid := spaceBackRow.over
#print axioms spaceBack_holds
end Go.Proofs.Ytdannjjipcmhdaa
end
