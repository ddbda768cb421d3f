import Derived.Test.YtebickoieipjpaaCSame0
section
namespace Go.Proofs.Ytebickoieipjpaa.PRs
open Go.RowKit Go.Proofs.YtebickoieipjpaaW.PrintWords Go.Proofs.YtebickoieipjpaaW.PrintLast Go.Proofs.YtebickoieipjpaaW.PrintMore
attribute [local go_sem] max2_int min2_int max_two min_two max_three min_three max_four min_four
set_option linter.unusedVariables false
set_option linter.unusedSimpArgs false
attribute [local go_sem high] eqA27 eqA31
def rec_Same.f (k : Nat) (a0_0 : Int) (a0_1 : Int) (a0_2 : Int) (a0_3 : Int) (a0_4 : Int) (a0_5 : Int) (a0_6 : Int) (a0_7 : ByteArray) (a0_8 : ByteArray) (a0_9 : Int) (a0_10 : Int) (a0_11 : ByteArray) (a0_12 : Int) (a0_13 : Int) (a0_14 : Bool) (l0_15 : List (S70)) (l0_16 : List (S72)) (a1_0 : Int) (a1_1 : Int) (a1_2 : Int) (a1_3 : Int) (a1_4 : Int) (a1_5 : Int) (a1_6 : Int) (a1_7 : ByteArray) (a1_8 : ByteArray) (a1_9 : Int) (a1_10 : Int) (a1_11 : ByteArray) (a1_12 : Int) (a1_13 : Int) (a1_14 : Bool) (l1_15 : List (S70)) (l1_16 : List (S72)) : Option (Bool) := (api_TxState.f k l0_15 l1_15).bind fun t107 => (if t107 = true then ((api_Dirty.f k l0_16 l1_16).bind fun t108 => (if t108 = true then (if a0_0 = a1_0 then (if a0_1 = a1_1 then (if a0_2 = a1_2 then (if a0_3 = a1_3 then (if a0_4 = a1_4 then (if (a0_5 == a1_5 && (a0_6 == a1_6 && (a0_7.toList == a1_7.toList && (a0_8.toList == a1_8.toList)))) = true then (if a0_9 = a1_9 then (if a0_10 = a1_10 then (if (a0_11.toList == a1_11.toList && ((a0_12 == a1_12 && (a0_13 == a1_13)))) = true then (some (a0_14 == a1_14)) else (some false)) else (some false)) else (some false)) else (some false)) else (some false)) else (some false)) else (some false)) else (some false)) else (some false)) else (some false))) else (some false))
set_option maxHeartbeats 8000000 in
set_option maxRecDepth 100000 in
theorem rec_Same.calls (k : Nat) (a0_0 : Int) (a0_1 : Int) (a0_2 : Int) (a0_3 : Int) (a0_4 : Int) (a0_5 : Int) (a0_6 : Int) (a0_7 : ByteArray) (a0_8 : ByteArray) (a0_9 : Int) (a0_10 : Int) (a0_11 : ByteArray) (a0_12 : Int) (a0_13 : Int) (a0_14 : Bool) (A0_15 : Option Addr) (c0_15 : Nat) (l0_15 : List (S70)) (A0_16 : Option Addr) (c0_16 : Nat) (l0_16 : List (S72)) (a1_0 : Int) (a1_1 : Int) (a1_2 : Int) (a1_3 : Int) (a1_4 : Int) (a1_5 : Int) (a1_6 : Int) (a1_7 : ByteArray) (a1_8 : ByteArray) (a1_9 : Int) (a1_10 : Int) (a1_11 : ByteArray) (a1_12 : Int) (a1_13 : Int) (a1_14 : Bool) (A1_15 : Option Addr) (c1_15 : Nat) (l1_15 : List (S70)) (A1_16 : Option Addr) (c1_16 : Nat) (l1_16 : List (S72)) (r : Bool) (w : World) (hr0_15 : Kd.C k70 w A0_15 l0_15.length l0_15) (hc0_15 : l0_15.length ≤ c0_15) (hr0_16 : Kd.C k72 w A0_16 l0_16.length l0_16) (hc0_16 : l0_16.length ≤ c0_16) (hr1_15 : Kd.C k70 w A1_15 l1_15.length l1_15) (hc1_15 : l1_15.length ≤ c1_15) (hr1_16 : Kd.C k72 w A1_16 l1_16.length l1_16) (hc1_16 : l1_16.length ≤ c1_16) (h : rec_Same.f k a0_0 a0_1 a0_2 a0_3 a0_4 a0_5 a0_6 a0_7 a0_8 a0_9 a0_10 a0_11 a0_12 a0_13 a0_14 l0_15 l0_16 a1_0 a1_1 a1_2 a1_3 a1_4 a1_5 a1_6 a1_7 a1_8 a1_9 a1_10 a1_11 a1_12 a1_13 a1_14 l1_15 l1_16 = some r) :
  Calls Try.prog 11 #[.agg #[.int .i64 a0_0, .int .i64 a0_1, .int .u64 a0_2, .int .u64 a0_3, .int .u32 a0_4, .int .i64 a0_5, .int .i64 a0_6, .string a0_7, .string a0_8, .int .i64 a0_9, .int .i64 a0_10, .string a0_11, .int .u32 a0_12, .int .i64 a0_13, .bool a0_14, .slice A0_15 l0_15.length c0_15, .slice A0_16 l0_16.length c0_16], .agg #[.int .i64 a1_0, .int .i64 a1_1, .int .u64 a1_2, .int .u64 a1_3, .int .u32 a1_4, .int .i64 a1_5, .int .i64 a1_6, .string a1_7, .string a1_8, .int .i64 a1_9, .int .i64 a1_10, .string a1_11, .int .u32 a1_12, .int .i64 a1_13, .bool a1_14, .slice A1_15 l1_15.length c1_15, .slice A1_16 l1_16.length c1_16]] w fun e w' => e = .returned (.bool r) ∧ Below w.heap.size w w' := by
 have hu35 := Try.underlying35
 have hu27 := Try.underlying27
 have hu31 := Try.underlying31
 have HR0_15 := Aside0.mk hr0_15
 have HC0_15 := Aside0.mk hc0_15
 clear hr0_15 hc0_15
 have HR0_16 := Aside0.mk hr0_16
 have HC0_16 := Aside0.mk hc0_16
 clear hr0_16 hc0_16
 have HR1_15 := Aside0.mk hr1_15
 have HC1_15 := Aside0.mk hc1_15
 clear hr1_15 hc1_15
 have HR1_16 := Aside0.mk hr1_16
 have HC1_16 := Aside0.mk hc1_16
 clear hr1_16 hc1_16
 have HB := Aside0.mk (Below.refl w.heap.size w)
 have H : ((api_TxState.f k l0_15 l1_15).bind fun t107 => (if t107 = true then ((api_Dirty.f k l0_16 l1_16).bind fun t108 => (if t108 = true then (if a0_0 = a1_0 then (if a0_1 = a1_1 then (if a0_2 = a1_2 then (if a0_3 = a1_3 then (if a0_4 = a1_4 then (if (a0_5 == a1_5 && (a0_6 == a1_6 && (a0_7.toList == a1_7.toList && (a0_8.toList == a1_8.toList)))) = true then (if a0_9 = a1_9 then (if a0_10 = a1_10 then (if (a0_11.toList == a1_11.toList && ((a0_12 == a1_12 && (a0_13 == a1_13)))) = true then (some (a0_14 == a1_14)) else (some false)) else (some false)) else (some false)) else (some false)) else (some false)) else (some false)) else (some false)) else (some false)) else (some false)) else (some false))) else (some false))) = some r := h
 clear h
 replace H := Option.bind_eq_some_iff.mp H
 obtain ⟨t107, A30, H⟩ := H
 replace H : (if t107 = true then ((api_Dirty.f k l0_16 l1_16).bind fun t108 => (if t108 = true then (if a0_0 = a1_0 then (if a0_1 = a1_1 then (if a0_2 = a1_2 then (if a0_3 = a1_3 then (if a0_4 = a1_4 then (if (a0_5 == a1_5 && (a0_6 == a1_6 && (a0_7.toList == a1_7.toList && (a0_8.toList == a1_8.toList)))) = true then (if a0_9 = a1_9 then (if a0_10 = a1_10 then (if (a0_11.toList == a1_11.toList && ((a0_12 == a1_12 && (a0_13 == a1_13)))) = true then (some (a0_14 == a1_14)) else (some false)) else (some false)) else (some false)) else (some false)) else (some false)) else (some false)) else (some false)) else (some false)) else (some false)) else (some false))) else (some false)) = some r := H
 have A3 := Aside0.mk A30
 clear A30
 by_cases c4 : t107 = true
 ·subst c4
  have H1 : ((api_Dirty.f k l0_16 l1_16).bind fun t108 => (if t108 = true then (if a0_0 = a1_0 then (if a0_1 = a1_1 then (if a0_2 = a1_2 then (if a0_3 = a1_3 then (if a0_4 = a1_4 then (if (a0_5 == a1_5 && (a0_6 == a1_6 && (a0_7.toList == a1_7.toList && (a0_8.toList == a1_8.toList)))) = true then (if a0_9 = a1_9 then (if a0_10 = a1_10 then (if (a0_11.toList == a1_11.toList && ((a0_12 == a1_12 && (a0_13 == a1_13)))) = true then (some (a0_14 == a1_14)) else (some false)) else (some false)) else (some false)) else (some false)) else (some false)) else (some false)) else (some false)) else (some false)) else (some false)) else (some false))) = some r := by rw [if_pos rfl] at H; exact H
  clear H
  have H := H1
  clear H1
  replace H := Option.bind_eq_some_iff.mp H
  obtain ⟨t108, A50, H⟩ := H
  replace H : (if t108 = true then (if a0_0 = a1_0 then (if a0_1 = a1_1 then (if a0_2 = a1_2 then (if a0_3 = a1_3 then (if a0_4 = a1_4 then (if (a0_5 == a1_5 && (a0_6 == a1_6 && (a0_7.toList == a1_7.toList && (a0_8.toList == a1_8.toList)))) = true then (if a0_9 = a1_9 then (if a0_10 = a1_10 then (if (a0_11.toList == a1_11.toList && ((a0_12 == a1_12 && (a0_13 == a1_13)))) = true then (some (a0_14 == a1_14)) else (some false)) else (some false)) else (some false)) else (some false)) else (some false)) else (some false)) else (some false)) else (some false)) else (some false)) else (some false)) = some r := H
  have A5 := Aside0.mk A50
  clear A50
  by_cases c6 : t108 = true
  ·subst c6
   have H1 : (if a0_0 = a1_0 then (if a0_1 = a1_1 then (if a0_2 = a1_2 then (if a0_3 = a1_3 then (if a0_4 = a1_4 then (if (a0_5 == a1_5 && (a0_6 == a1_6 && (a0_7.toList == a1_7.toList && (a0_8.toList == a1_8.toList)))) = true then (if a0_9 = a1_9 then (if a0_10 = a1_10 then (if (a0_11.toList == a1_11.toList && ((a0_12 == a1_12 && (a0_13 == a1_13)))) = true then (some (a0_14 == a1_14)) else (some false)) else (some false)) else (some false)) else (some false)) else (some false)) else (some false)) else (some false)) else (some false)) else (some false)) = some r := by rw [if_pos rfl] at H; exact H
   clear H
   have H := H1
   clear H1
   by_cases c7 : a0_0 = a1_0
   ·rw [if_pos c7] at H
    have c7b0 : (a0_0 == a1_0) = true := beq_iff_eq.mpr c7
    have c7b1 : (a0_0 != a1_0) = false := bne_eq_false_iff_eq.mpr c7
    clear c7
    by_cases c8 : a0_1 = a1_1
    ·rw [if_pos c8] at H
     have c8b0 : (a0_1 == a1_1) = true := beq_iff_eq.mpr c8
     have c8b1 : (a0_1 != a1_1) = false := bne_eq_false_iff_eq.mpr c8
     clear c8
     by_cases c9 : a0_2 = a1_2
     ·rw [if_pos c9] at H
      have c9b0 : (a0_2 == a1_2) = true := beq_iff_eq.mpr c9
      have c9b1 : (a0_2 != a1_2) = false := bne_eq_false_iff_eq.mpr c9
      clear c9
      by_cases c10 : a0_3 = a1_3
      ·rw [if_pos c10] at H
       have c10b0 : (a0_3 == a1_3) = true := beq_iff_eq.mpr c10
       have c10b1 : (a0_3 != a1_3) = false := bne_eq_false_iff_eq.mpr c10
       clear c10
       by_cases c11 : a0_4 = a1_4
       ·rw [if_pos c11] at H
        have c11b0 : (a0_4 == a1_4) = true := beq_iff_eq.mpr c11
        have c11b1 : (a0_4 != a1_4) = false := bne_eq_false_iff_eq.mpr c11
        clear c11
        by_cases c12 : (a0_5 == a1_5 && (a0_6 == a1_6 && (a0_7.toList == a1_7.toList && (a0_8.toList == a1_8.toList)))) = true
        ·rw [if_pos c12] at H
         have c12b0 : (a0_5 == a1_5 && (a0_6 == a1_6 && (a0_7.toList == a1_7.toList && (a0_8.toList == a1_8.toList)))) = true := c12
         (try (have c12b1 : decide (a0_5 = a1_5 && (a0_6 == a1_6 && (a0_7.toList == a1_7.toList && (a0_8.toList == a1_8.toList)))) = true := by simpa using c12))
         (try (have c12b2 : (a0_5 == a1_5 && (a0_6 == a1_6 && (a0_7.toList == a1_7.toList && (a0_8.toList == a1_8.toList)))) = true := by simpa using c12))
         clear c12
         by_cases c13 : a0_9 = a1_9
         ·rw [if_pos c13] at H
          have c13b0 : (a0_9 == a1_9) = true := beq_iff_eq.mpr c13
          have c13b1 : (a0_9 != a1_9) = false := bne_eq_false_iff_eq.mpr c13
          clear c13
          by_cases c14 : a0_10 = a1_10
          ·rw [if_pos c14] at H
           have c14b0 : (a0_10 == a1_10) = true := beq_iff_eq.mpr c14
           have c14b1 : (a0_10 != a1_10) = false := bne_eq_false_iff_eq.mpr c14
           clear c14
           by_cases c15 : (a0_11.toList == a1_11.toList && ((a0_12 == a1_12 && (a0_13 == a1_13)))) = true
           ·rw [if_pos c15] at H
            have c15b0 : (a0_11.toList == a1_11.toList && ((a0_12 == a1_12 && (a0_13 == a1_13)))) = true := c15
            (try (have c15b1 : decide (a0_11.toList = a1_11.toList && ((a0_12 == a1_12 && (a0_13 == a1_13)))) = true := by simpa using c15))
            (try (have c15b2 : (a0_11.toList == a1_11.toList && ((a0_12 == a1_12 && (a0_13 == a1_13)))) = true := by simpa using c15))
            clear c15
            obtain rfl := Option.some.inj H
            go_enter Try.func11, Try.ntmps11
            go_wp2_with (first | ((with_reducible refine gate_dst (N := 2) rfl ?_); refine box_event ?hg (N := 2) ?hd (cs := #[.int .i64 a0_0, .int .i64 a0_1, .int .u64 a0_2, .int .u64 a0_3, .int .u32 a0_4, .int .i64 a0_5, .int .i64 a0_6, .string a0_7, .string a0_8, .int .i64 a0_9, .int .i64 a0_10, .string a0_11, .int .u32 a0_12, .int .i64 a0_13, .bool a0_14, .slice A0_15 l0_15.length c0_15, .slice A0_16 l0_16.length c0_16]) (t := 35) ?hr ?_; (case hd => rfl); (case hg => rfl); (case hr => first | (go_simp; done) | (go_simp; rfl)); intro gb105 hg w16 hbox hb; have n0_ := Aside0.mk (below_step (by repeat (first | (with_reducible first | exact HB.out | apply below_alloc | apply pw_below_drewN | apply below_drew1) | exact HB.out)) hb); have n1_ := Aside0.mk (hbox); have n2_ := Aside0.mk ((by rw [hg]; exact (below_size (by repeat (first | (with_reducible first | exact HB.out | apply below_alloc | apply pw_below_drewN | apply below_drew1) | exact HB.out))) : w.heap.size ≤ gb105)); have n3_ := Aside0.mk ((by rw [hg]; exact (below_size (by repeat (first | (with_reducible first | exact HB.out | apply below_alloc | apply pw_below_drewN | apply below_drew1) | exact HB.out))) : w.heap.size ≤ gb105)); clear HB; have HB := n0_; have BK105 := n1_; have GW105 := n2_; have GE105 := n3_; clear n0_ n1_ n2_ n3_; clear hb hbox hg) | ((with_reducible refine gate_dst (N := 3) rfl ?_); refine box_event ?hg (N := 3) ?hd (cs := #[.int .i64 a1_0, .int .i64 a1_1, .int .u64 a1_2, .int .u64 a1_3, .int .u32 a1_4, .int .i64 a1_5, .int .i64 a1_6, .string a1_7, .string a1_8, .int .i64 a1_9, .int .i64 a1_10, .string a1_11, .int .u32 a1_12, .int .i64 a1_13, .bool a1_14, .slice A1_15 l1_15.length c1_15, .slice A1_16 l1_16.length c1_16]) (t := 35) ?hr ?_; (case hd => rfl); (case hg => rfl); (case hr => first | (go_simp; done) | (go_simp; rfl)); intro gb106 hg w17 hbox hb; have n0_ := Aside0.mk (blk_below (g := gb105) (o := .cells #[.int .i64 a0_0, .int .i64 a0_1, .int .u64 a0_2, .int .u64 a0_3, .int .u32 a0_4, .int .i64 a0_5, .int .i64 a0_6, .string a0_7, .string a0_8, .int .i64 a0_9, .int .i64 a0_10, .string a0_11, .int .u32 a0_12, .int .i64 a0_13, .bool a0_14, .slice A0_15 l0_15.length c0_15, .slice A0_16 l0_16.length c0_16] 35 (0, 0)) (by (with_reducible repeat (first | refine blk_drewN ?_ _ | refine blk_drew ?_ | refine blk_alloc ?_ _)); exact BK105.out) hb); have n1_ := Aside0.mk (below_step (by repeat (first | (with_reducible first | exact HB.out | apply below_alloc | apply pw_below_drewN | apply below_drew1 | refine below_set ?_ GE105.out) | exact HB.out)) hb); have n2_ := Aside0.mk (hbox); have n3_ := Aside0.mk ((by rw [hg]; exact (below_size (by repeat (first | (with_reducible first | exact HB.out | apply below_alloc | apply pw_below_drewN | apply below_drew1 | refine below_set ?_ GE105.out) | exact HB.out))) : w.heap.size ≤ gb106)); have n4_ := Aside0.mk ((by rw [hg]; exact (below_size (by repeat (first | (with_reducible first | exact HB.out | apply below_alloc | apply pw_below_drewN | apply below_drew1 | refine below_set ?_ GE105.out) | exact HB.out))) : w.heap.size ≤ gb106)); have n5_ := Aside0.mk ((by rw [hg]; exact Nat.ne_of_lt (blk_lt (g := gb105) (o := .cells #[.int .i64 a0_0, .int .i64 a0_1, .int .u64 a0_2, .int .u64 a0_3, .int .u32 a0_4, .int .i64 a0_5, .int .i64 a0_6, .string a0_7, .string a0_8, .int .i64 a0_9, .int .i64 a0_10, .string a0_11, .int .u32 a0_12, .int .i64 a0_13, .bool a0_14, .slice A0_15 l0_15.length c0_15, .slice A0_16 l0_16.length c0_16] 35 (0, 0)) (by (with_reducible repeat (first | refine blk_drewN ?_ _ | refine blk_drew ?_ | refine blk_alloc ?_ _)); exact BK105.out)) : gb105 ≠ gb106)); have n6_ := Aside0.mk ((by rw [hg]; exact Nat.ne_of_gt (blk_lt (g := gb105) (o := .cells #[.int .i64 a0_0, .int .i64 a0_1, .int .u64 a0_2, .int .u64 a0_3, .int .u32 a0_4, .int .i64 a0_5, .int .i64 a0_6, .string a0_7, .string a0_8, .int .i64 a0_9, .int .i64 a0_10, .string a0_11, .int .u32 a0_12, .int .i64 a0_13, .bool a0_14, .slice A0_15 l0_15.length c0_15, .slice A0_16 l0_16.length c0_16] 35 (0, 0)) (by (with_reducible repeat (first | refine blk_drewN ?_ _ | refine blk_drew ?_ | refine blk_alloc ?_ _)); exact BK105.out)) : gb106 ≠ gb105)); clear BK105; clear HB; have BK105 := n0_; have HB := n1_; have BK106 := n2_; have GW106 := n3_; have GE106 := n4_; have NB105_106 := n5_; have NB106_105 := n6_; clear n0_ n1_ n2_ n3_ n4_ n5_ n6_; clear hb hbox hg; have hnb18 := NB105_106.out; have hnc18 := NB106_105.out; have hcz19_0 : w17.cell? ⟨gb105, 0, none⟩ = some (.int .i64 a0_0) := (blk_cell BK105.out 0).trans rfl; have hcz19_1 : w17.cell? ⟨gb105, 1, none⟩ = some (.int .i64 a0_1) := (blk_cell BK105.out 1).trans rfl; have hcz19_2 : w17.cell? ⟨gb105, 2, none⟩ = some (.int .u64 a0_2) := (blk_cell BK105.out 2).trans rfl; have hcz19_3 : w17.cell? ⟨gb105, 3, none⟩ = some (.int .u64 a0_3) := (blk_cell BK105.out 3).trans rfl; have hcz19_4 : w17.cell? ⟨gb105, 4, none⟩ = some (.int .u32 a0_4) := (blk_cell BK105.out 4).trans rfl; have hcz19_5 : w17.cell? ⟨gb105, 5, none⟩ = some (.int .i64 a0_5) := (blk_cell BK105.out 5).trans rfl; have hcz19_6 : w17.cell? ⟨gb105, 6, none⟩ = some (.int .i64 a0_6) := (blk_cell BK105.out 6).trans rfl; have hcz19_7 : w17.cell? ⟨gb105, 7, none⟩ = some (.string a0_7) := (blk_cell BK105.out 7).trans rfl; have hcz19_8 : w17.cell? ⟨gb105, 8, none⟩ = some (.string a0_8) := (blk_cell BK105.out 8).trans rfl; have hcz19_9 : w17.cell? ⟨gb105, 9, none⟩ = some (.int .i64 a0_9) := (blk_cell BK105.out 9).trans rfl; have hcz19_10 : w17.cell? ⟨gb105, 10, none⟩ = some (.int .i64 a0_10) := (blk_cell BK105.out 10).trans rfl; have hcz19_11 : w17.cell? ⟨gb105, 11, none⟩ = some (.string a0_11) := (blk_cell BK105.out 11).trans rfl; have hcz19_12 : w17.cell? ⟨gb105, 12, none⟩ = some (.int .u32 a0_12) := (blk_cell BK105.out 12).trans rfl; have hcz19_13 : w17.cell? ⟨gb105, 13, none⟩ = some (.int .i64 a0_13) := (blk_cell BK105.out 13).trans rfl; have hcz19_14 : w17.cell? ⟨gb105, 14, none⟩ = some (.bool a0_14) := (blk_cell BK105.out 14).trans rfl; have hcz19_15 : w17.cell? ⟨gb105, 15, none⟩ = some (.slice A0_15 l0_15.length c0_15) := (blk_cell BK105.out 15).trans rfl; have hcz19_16 : w17.cell? ⟨gb105, 16, none⟩ = some (.slice A0_16 l0_16.length c0_16) := (blk_cell BK105.out 16).trans rfl; have hfz19_0 := blk_frozen BK105.out 0; have hfz19_1 := blk_frozen BK105.out 1; have hfz19_2 := blk_frozen BK105.out 2; have hfz19_3 := blk_frozen BK105.out 3; have hfz19_4 := blk_frozen BK105.out 4; have hfz19_5 := blk_frozen BK105.out 5; have hfz19_6 := blk_frozen BK105.out 6; have hfz19_7 := blk_frozen BK105.out 7; have hfz19_8 := blk_frozen BK105.out 8; have hfz19_9 := blk_frozen BK105.out 9; have hfz19_10 := blk_frozen BK105.out 10; have hfz19_11 := blk_frozen BK105.out 11; have hfz19_12 := blk_frozen BK105.out 12; have hfz19_13 := blk_frozen BK105.out 13; have hfz19_14 := blk_frozen BK105.out 14; have hfz19_15 := blk_frozen BK105.out 15; have hfz19_16 := blk_frozen BK105.out 16; have hcz20_0 : w17.cell? ⟨gb106, 0, none⟩ = some (.int .i64 a1_0) := (blk_cell BK106.out 0).trans rfl; have hcz20_1 : w17.cell? ⟨gb106, 1, none⟩ = some (.int .i64 a1_1) := (blk_cell BK106.out 1).trans rfl; have hcz20_2 : w17.cell? ⟨gb106, 2, none⟩ = some (.int .u64 a1_2) := (blk_cell BK106.out 2).trans rfl; have hcz20_3 : w17.cell? ⟨gb106, 3, none⟩ = some (.int .u64 a1_3) := (blk_cell BK106.out 3).trans rfl; have hcz20_4 : w17.cell? ⟨gb106, 4, none⟩ = some (.int .u32 a1_4) := (blk_cell BK106.out 4).trans rfl; have hcz20_5 : w17.cell? ⟨gb106, 5, none⟩ = some (.int .i64 a1_5) := (blk_cell BK106.out 5).trans rfl; have hcz20_6 : w17.cell? ⟨gb106, 6, none⟩ = some (.int .i64 a1_6) := (blk_cell BK106.out 6).trans rfl; have hcz20_7 : w17.cell? ⟨gb106, 7, none⟩ = some (.string a1_7) := (blk_cell BK106.out 7).trans rfl; have hcz20_8 : w17.cell? ⟨gb106, 8, none⟩ = some (.string a1_8) := (blk_cell BK106.out 8).trans rfl; have hcz20_9 : w17.cell? ⟨gb106, 9, none⟩ = some (.int .i64 a1_9) := (blk_cell BK106.out 9).trans rfl; have hcz20_10 : w17.cell? ⟨gb106, 10, none⟩ = some (.int .i64 a1_10) := (blk_cell BK106.out 10).trans rfl; have hcz20_11 : w17.cell? ⟨gb106, 11, none⟩ = some (.string a1_11) := (blk_cell BK106.out 11).trans rfl; have hcz20_12 : w17.cell? ⟨gb106, 12, none⟩ = some (.int .u32 a1_12) := (blk_cell BK106.out 12).trans rfl; have hcz20_13 : w17.cell? ⟨gb106, 13, none⟩ = some (.int .i64 a1_13) := (blk_cell BK106.out 13).trans rfl; have hcz20_14 : w17.cell? ⟨gb106, 14, none⟩ = some (.bool a1_14) := (blk_cell BK106.out 14).trans rfl; have hcz20_15 : w17.cell? ⟨gb106, 15, none⟩ = some (.slice A1_15 l1_15.length c1_15) := (blk_cell BK106.out 15).trans rfl; have hcz20_16 : w17.cell? ⟨gb106, 16, none⟩ = some (.slice A1_16 l1_16.length c1_16) := (blk_cell BK106.out 16).trans rfl; have hfz20_0 := blk_frozen BK106.out 0; have hfz20_1 := blk_frozen BK106.out 1; have hfz20_2 := blk_frozen BK106.out 2; have hfz20_3 := blk_frozen BK106.out 3; have hfz20_4 := blk_frozen BK106.out 4; have hfz20_5 := blk_frozen BK106.out 5; have hfz20_6 := blk_frozen BK106.out 6; have hfz20_7 := blk_frozen BK106.out 7; have hfz20_8 := blk_frozen BK106.out 8; have hfz20_9 := blk_frozen BK106.out 9; have hfz20_10 := blk_frozen BK106.out 10; have hfz20_11 := blk_frozen BK106.out 11; have hfz20_12 := blk_frozen BK106.out 12; have hfz20_13 := blk_frozen BK106.out 13; have hfz20_14 := blk_frozen BK106.out 14; have hfz20_15 := blk_frozen BK106.out 15; have hfz20_16 := blk_frozen BK106.out 16) | ((with_reducible refine gate_callee (f := 30) rfl ?_); refine goesL_ (some 9) rfl rfl Try.func30 (by kernel_rfl) rfl #[.slice A0_15 l0_15.length c0_15, .slice A1_15 l1_15.length c1_15] rfl (by (try simp only [List.map_toArray, List.map_cons, List.map_nil]); first | done | rfl | (simp only [List.length_drop, List.length_take]; rfl)) ?_; (with_reducible refine (api_TxState.calls k _ _ l0_15 _ _ l1_15 true _ ?side1 ?side2 ?side3 ?side4 A3.out).mono ?_); (case side1 => repeat (first | exact (Kd.C_below HR0_15.out HB.out) | (with_reducible refine Kd.C_alloc ?_ _) | (with_reducible refine Kd.C_drewN ?_ _) | (with_reducible refine Kd.C_drew ?_))); (case side2 => exact HC0_15.out); (case side3 => repeat (first | exact (Kd.C_below HR1_15.out HB.out) | (with_reducible refine Kd.C_alloc ?_ _) | (with_reducible refine Kd.C_drewN ?_ _) | (with_reducible refine Kd.C_drew ?_))); (case side4 => exact HC1_15.out); rintro e w' ⟨rfl, ⟨nd, rfl⟩⟩; refine ⟨_, rfl, ?_⟩) | (go_at_call 31; (with_reducible refine (api_Dirty.calls k _ _ l0_16 _ _ l1_16 true _ ?side1 ?side2 ?side3 ?side4 A5.out).mono ?_); (case side1 => repeat (first | exact (Kd.C_below HR0_16.out (by repeat (first | (with_reducible first | exact HB.out | apply below_alloc | apply pw_below_drewN | apply below_drew1 | refine below_set ?_ GE105.out | refine below_set ?_ GE106.out) | exact HB.out))) | (with_reducible refine Kd.C_alloc ?_ _) | (with_reducible refine Kd.C_drewN ?_ _) | (with_reducible refine Kd.C_drew ?_))); (case side2 => exact HC0_16.out); (case side3 => repeat (first | exact (Kd.C_below HR1_16.out (by repeat (first | (with_reducible first | exact HB.out | apply below_alloc | apply pw_below_drewN | apply below_drew1 | refine below_set ?_ GE105.out | refine below_set ?_ GE106.out) | exact HB.out))) | (with_reducible refine Kd.C_alloc ?_ _) | (with_reducible refine Kd.C_drewN ?_ _) | (with_reducible refine Kd.C_drew ?_))); (case side4 => exact HC1_16.out); rintro e w' ⟨rfl, ⟨nd, rfl⟩⟩))
            go_ret
            exact ⟨by first | rfl | (simp [errW_none, errW_some] <;> rfl) | (simp [*, errW_none, errW_some] <;> rfl), by repeat (first | (with_reducible first | exact HB.out | apply below_alloc | apply pw_below_drewN | apply below_drew1 | refine below_set ?_ GE105.out | refine below_set ?_ GE106.out) | exact HB.out)⟩
           ·rw [if_neg c15] at H
            have c15b0 : (a0_11.toList == a1_11.toList && ((a0_12 == a1_12 && (a0_13 == a1_13)))) = false := by simpa using c15
            (try (have c15b1 : decide (a0_11.toList = a1_11.toList && ((a0_12 == a1_12 && (a0_13 == a1_13)))) = false := by simpa using c15))
            (try (have c15b2 : (a0_11.toList == a1_11.toList && ((a0_12 == a1_12 && (a0_13 == a1_13)))) = false := by simpa using c15))
            (try (have c15b3 : ¬ (a0_11.toList = a1_11.toList && ((a0_12 == a1_12 && (a0_13 == a1_13)))) := by simpa using c15))
            clear c15
            obtain rfl := Option.some.inj H
            go_enter Try.func11, Try.ntmps11
            go_wp2_with (first | ((with_reducible refine gate_dst (N := 2) rfl ?_); refine box_event ?hg (N := 2) ?hd (cs := #[.int .i64 a0_0, .int .i64 a0_1, .int .u64 a0_2, .int .u64 a0_3, .int .u32 a0_4, .int .i64 a0_5, .int .i64 a0_6, .string a0_7, .string a0_8, .int .i64 a0_9, .int .i64 a0_10, .string a0_11, .int .u32 a0_12, .int .i64 a0_13, .bool a0_14, .slice A0_15 l0_15.length c0_15, .slice A0_16 l0_16.length c0_16]) (t := 35) ?hr ?_; (case hd => rfl); (case hg => rfl); (case hr => first | (go_simp; done) | (go_simp; rfl)); intro gb105 hg w21 hbox hb; have n0_ := Aside0.mk (below_step (by repeat (first | (with_reducible first | exact HB.out | apply below_alloc | apply pw_below_drewN | apply below_drew1) | exact HB.out)) hb); have n1_ := Aside0.mk (hbox); have n2_ := Aside0.mk ((by rw [hg]; exact (below_size (by repeat (first | (with_reducible first | exact HB.out | apply below_alloc | apply pw_below_drewN | apply below_drew1) | exact HB.out))) : w.heap.size ≤ gb105)); have n3_ := Aside0.mk ((by rw [hg]; exact (below_size (by repeat (first | (with_reducible first | exact HB.out | apply below_alloc | apply pw_below_drewN | apply below_drew1) | exact HB.out))) : w.heap.size ≤ gb105)); clear HB; have HB := n0_; have BK105 := n1_; have GW105 := n2_; have GE105 := n3_; clear n0_ n1_ n2_ n3_; clear hb hbox hg) | ((with_reducible refine gate_dst (N := 3) rfl ?_); refine box_event ?hg (N := 3) ?hd (cs := #[.int .i64 a1_0, .int .i64 a1_1, .int .u64 a1_2, .int .u64 a1_3, .int .u32 a1_4, .int .i64 a1_5, .int .i64 a1_6, .string a1_7, .string a1_8, .int .i64 a1_9, .int .i64 a1_10, .string a1_11, .int .u32 a1_12, .int .i64 a1_13, .bool a1_14, .slice A1_15 l1_15.length c1_15, .slice A1_16 l1_16.length c1_16]) (t := 35) ?hr ?_; (case hd => rfl); (case hg => rfl); (case hr => first | (go_simp; done) | (go_simp; rfl)); intro gb106 hg w22 hbox hb; have n0_ := Aside0.mk (blk_below (g := gb105) (o := .cells #[.int .i64 a0_0, .int .i64 a0_1, .int .u64 a0_2, .int .u64 a0_3, .int .u32 a0_4, .int .i64 a0_5, .int .i64 a0_6, .string a0_7, .string a0_8, .int .i64 a0_9, .int .i64 a0_10, .string a0_11, .int .u32 a0_12, .int .i64 a0_13, .bool a0_14, .slice A0_15 l0_15.length c0_15, .slice A0_16 l0_16.length c0_16] 35 (0, 0)) (by (with_reducible repeat (first | refine blk_drewN ?_ _ | refine blk_drew ?_ | refine blk_alloc ?_ _)); exact BK105.out) hb); have n1_ := Aside0.mk (below_step (by repeat (first | (with_reducible first | exact HB.out | apply below_alloc | apply pw_below_drewN | apply below_drew1 | refine below_set ?_ GE105.out) | exact HB.out)) hb); have n2_ := Aside0.mk (hbox); have n3_ := Aside0.mk ((by rw [hg]; exact (below_size (by repeat (first | (with_reducible first | exact HB.out | apply below_alloc | apply pw_below_drewN | apply below_drew1 | refine below_set ?_ GE105.out) | exact HB.out))) : w.heap.size ≤ gb106)); have n4_ := Aside0.mk ((by rw [hg]; exact (below_size (by repeat (first | (with_reducible first | exact HB.out | apply below_alloc | apply pw_below_drewN | apply below_drew1 | refine below_set ?_ GE105.out) | exact HB.out))) : w.heap.size ≤ gb106)); have n5_ := Aside0.mk ((by rw [hg]; exact Nat.ne_of_lt (blk_lt (g := gb105) (o := .cells #[.int .i64 a0_0, .int .i64 a0_1, .int .u64 a0_2, .int .u64 a0_3, .int .u32 a0_4, .int .i64 a0_5, .int .i64 a0_6, .string a0_7, .string a0_8, .int .i64 a0_9, .int .i64 a0_10, .string a0_11, .int .u32 a0_12, .int .i64 a0_13, .bool a0_14, .slice A0_15 l0_15.length c0_15, .slice A0_16 l0_16.length c0_16] 35 (0, 0)) (by (with_reducible repeat (first | refine blk_drewN ?_ _ | refine blk_drew ?_ | refine blk_alloc ?_ _)); exact BK105.out)) : gb105 ≠ gb106)); have n6_ := Aside0.mk ((by rw [hg]; exact Nat.ne_of_gt (blk_lt (g := gb105) (o := .cells #[.int .i64 a0_0, .int .i64 a0_1, .int .u64 a0_2, .int .u64 a0_3, .int .u32 a0_4, .int .i64 a0_5, .int .i64 a0_6, .string a0_7, .string a0_8, .int .i64 a0_9, .int .i64 a0_10, .string a0_11, .int .u32 a0_12, .int .i64 a0_13, .bool a0_14, .slice A0_15 l0_15.length c0_15, .slice A0_16 l0_16.length c0_16] 35 (0, 0)) (by (with_reducible repeat (first | refine blk_drewN ?_ _ | refine blk_drew ?_ | refine blk_alloc ?_ _)); exact BK105.out)) : gb106 ≠ gb105)); clear BK105; clear HB; have BK105 := n0_; have HB := n1_; have BK106 := n2_; have GW106 := n3_; have GE106 := n4_; have NB105_106 := n5_; have NB106_105 := n6_; clear n0_ n1_ n2_ n3_ n4_ n5_ n6_; clear hb hbox hg; have hnb23 := NB105_106.out; have hnc23 := NB106_105.out; have hcz24_0 : w22.cell? ⟨gb105, 0, none⟩ = some (.int .i64 a0_0) := (blk_cell BK105.out 0).trans rfl; have hcz24_1 : w22.cell? ⟨gb105, 1, none⟩ = some (.int .i64 a0_1) := (blk_cell BK105.out 1).trans rfl; have hcz24_2 : w22.cell? ⟨gb105, 2, none⟩ = some (.int .u64 a0_2) := (blk_cell BK105.out 2).trans rfl; have hcz24_3 : w22.cell? ⟨gb105, 3, none⟩ = some (.int .u64 a0_3) := (blk_cell BK105.out 3).trans rfl; have hcz24_4 : w22.cell? ⟨gb105, 4, none⟩ = some (.int .u32 a0_4) := (blk_cell BK105.out 4).trans rfl; have hcz24_5 : w22.cell? ⟨gb105, 5, none⟩ = some (.int .i64 a0_5) := (blk_cell BK105.out 5).trans rfl; have hcz24_6 : w22.cell? ⟨gb105, 6, none⟩ = some (.int .i64 a0_6) := (blk_cell BK105.out 6).trans rfl; have hcz24_7 : w22.cell? ⟨gb105, 7, none⟩ = some (.string a0_7) := (blk_cell BK105.out 7).trans rfl; have hcz24_8 : w22.cell? ⟨gb105, 8, none⟩ = some (.string a0_8) := (blk_cell BK105.out 8).trans rfl; have hcz24_9 : w22.cell? ⟨gb105, 9, none⟩ = some (.int .i64 a0_9) := (blk_cell BK105.out 9).trans rfl; have hcz24_10 : w22.cell? ⟨gb105, 10, none⟩ = some (.int .i64 a0_10) := (blk_cell BK105.out 10).trans rfl; have hcz24_11 : w22.cell? ⟨gb105, 11, none⟩ = some (.string a0_11) := (blk_cell BK105.out 11).trans rfl; have hcz24_12 : w22.cell? ⟨gb105, 12, none⟩ = some (.int .u32 a0_12) := (blk_cell BK105.out 12).trans rfl; have hcz24_13 : w22.cell? ⟨gb105, 13, none⟩ = some (.int .i64 a0_13) := (blk_cell BK105.out 13).trans rfl; have hcz24_14 : w22.cell? ⟨gb105, 14, none⟩ = some (.bool a0_14) := (blk_cell BK105.out 14).trans rfl; have hcz24_15 : w22.cell? ⟨gb105, 15, none⟩ = some (.slice A0_15 l0_15.length c0_15) := (blk_cell BK105.out 15).trans rfl; have hcz24_16 : w22.cell? ⟨gb105, 16, none⟩ = some (.slice A0_16 l0_16.length c0_16) := (blk_cell BK105.out 16).trans rfl; have hfz24_0 := blk_frozen BK105.out 0; have hfz24_1 := blk_frozen BK105.out 1; have hfz24_2 := blk_frozen BK105.out 2; have hfz24_3 := blk_frozen BK105.out 3; have hfz24_4 := blk_frozen BK105.out 4; have hfz24_5 := blk_frozen BK105.out 5; have hfz24_6 := blk_frozen BK105.out 6; have hfz24_7 := blk_frozen BK105.out 7; have hfz24_8 := blk_frozen BK105.out 8; have hfz24_9 := blk_frozen BK105.out 9; have hfz24_10 := blk_frozen BK105.out 10; have hfz24_11 := blk_frozen BK105.out 11; have hfz24_12 := blk_frozen BK105.out 12; have hfz24_13 := blk_frozen BK105.out 13; have hfz24_14 := blk_frozen BK105.out 14; have hfz24_15 := blk_frozen BK105.out 15; have hfz24_16 := blk_frozen BK105.out 16; have hcz25_0 : w22.cell? ⟨gb106, 0, none⟩ = some (.int .i64 a1_0) := (blk_cell BK106.out 0).trans rfl; have hcz25_1 : w22.cell? ⟨gb106, 1, none⟩ = some (.int .i64 a1_1) := (blk_cell BK106.out 1).trans rfl; have hcz25_2 : w22.cell? ⟨gb106, 2, none⟩ = some (.int .u64 a1_2) := (blk_cell BK106.out 2).trans rfl; have hcz25_3 : w22.cell? ⟨gb106, 3, none⟩ = some (.int .u64 a1_3) := (blk_cell BK106.out 3).trans rfl; have hcz25_4 : w22.cell? ⟨gb106, 4, none⟩ = some (.int .u32 a1_4) := (blk_cell BK106.out 4).trans rfl; have hcz25_5 : w22.cell? ⟨gb106, 5, none⟩ = some (.int .i64 a1_5) := (blk_cell BK106.out 5).trans rfl; have hcz25_6 : w22.cell? ⟨gb106, 6, none⟩ = some (.int .i64 a1_6) := (blk_cell BK106.out 6).trans rfl; have hcz25_7 : w22.cell? ⟨gb106, 7, none⟩ = some (.string a1_7) := (blk_cell BK106.out 7).trans rfl; have hcz25_8 : w22.cell? ⟨gb106, 8, none⟩ = some (.string a1_8) := (blk_cell BK106.out 8).trans rfl; have hcz25_9 : w22.cell? ⟨gb106, 9, none⟩ = some (.int .i64 a1_9) := (blk_cell BK106.out 9).trans rfl; have hcz25_10 : w22.cell? ⟨gb106, 10, none⟩ = some (.int .i64 a1_10) := (blk_cell BK106.out 10).trans rfl; have hcz25_11 : w22.cell? ⟨gb106, 11, none⟩ = some (.string a1_11) := (blk_cell BK106.out 11).trans rfl; have hcz25_12 : w22.cell? ⟨gb106, 12, none⟩ = some (.int .u32 a1_12) := (blk_cell BK106.out 12).trans rfl; have hcz25_13 : w22.cell? ⟨gb106, 13, none⟩ = some (.int .i64 a1_13) := (blk_cell BK106.out 13).trans rfl; have hcz25_14 : w22.cell? ⟨gb106, 14, none⟩ = some (.bool a1_14) := (blk_cell BK106.out 14).trans rfl; have hcz25_15 : w22.cell? ⟨gb106, 15, none⟩ = some (.slice A1_15 l1_15.length c1_15) := (blk_cell BK106.out 15).trans rfl; have hcz25_16 : w22.cell? ⟨gb106, 16, none⟩ = some (.slice A1_16 l1_16.length c1_16) := (blk_cell BK106.out 16).trans rfl; have hfz25_0 := blk_frozen BK106.out 0; have hfz25_1 := blk_frozen BK106.out 1; have hfz25_2 := blk_frozen BK106.out 2; have hfz25_3 := blk_frozen BK106.out 3; have hfz25_4 := blk_frozen BK106.out 4; have hfz25_5 := blk_frozen BK106.out 5; have hfz25_6 := blk_frozen BK106.out 6; have hfz25_7 := blk_frozen BK106.out 7; have hfz25_8 := blk_frozen BK106.out 8; have hfz25_9 := blk_frozen BK106.out 9; have hfz25_10 := blk_frozen BK106.out 10; have hfz25_11 := blk_frozen BK106.out 11; have hfz25_12 := blk_frozen BK106.out 12; have hfz25_13 := blk_frozen BK106.out 13; have hfz25_14 := blk_frozen BK106.out 14; have hfz25_15 := blk_frozen BK106.out 15; have hfz25_16 := blk_frozen BK106.out 16) | ((with_reducible refine gate_callee (f := 30) rfl ?_); refine goesL_ (some 9) rfl rfl Try.func30 (by kernel_rfl) rfl #[.slice A0_15 l0_15.length c0_15, .slice A1_15 l1_15.length c1_15] rfl (by (try simp only [List.map_toArray, List.map_cons, List.map_nil]); first | done | rfl | (simp only [List.length_drop, List.length_take]; rfl)) ?_; (with_reducible refine (api_TxState.calls k _ _ l0_15 _ _ l1_15 true _ ?side1 ?side2 ?side3 ?side4 A3.out).mono ?_); (case side1 => repeat (first | exact (Kd.C_below HR0_15.out HB.out) | (with_reducible refine Kd.C_alloc ?_ _) | (with_reducible refine Kd.C_drewN ?_ _) | (with_reducible refine Kd.C_drew ?_))); (case side2 => exact HC0_15.out); (case side3 => repeat (first | exact (Kd.C_below HR1_15.out HB.out) | (with_reducible refine Kd.C_alloc ?_ _) | (with_reducible refine Kd.C_drewN ?_ _) | (with_reducible refine Kd.C_drew ?_))); (case side4 => exact HC1_15.out); rintro e w' ⟨rfl, ⟨nd, rfl⟩⟩; refine ⟨_, rfl, ?_⟩) | (go_at_call 31; (with_reducible refine (api_Dirty.calls k _ _ l0_16 _ _ l1_16 true _ ?side1 ?side2 ?side3 ?side4 A5.out).mono ?_); (case side1 => repeat (first | exact (Kd.C_below HR0_16.out (by repeat (first | (with_reducible first | exact HB.out | apply below_alloc | apply pw_below_drewN | apply below_drew1 | refine below_set ?_ GE105.out | refine below_set ?_ GE106.out) | exact HB.out))) | (with_reducible refine Kd.C_alloc ?_ _) | (with_reducible refine Kd.C_drewN ?_ _) | (with_reducible refine Kd.C_drew ?_))); (case side2 => exact HC0_16.out); (case side3 => repeat (first | exact (Kd.C_below HR1_16.out (by repeat (first | (with_reducible first | exact HB.out | apply below_alloc | apply pw_below_drewN | apply below_drew1 | refine below_set ?_ GE105.out | refine below_set ?_ GE106.out) | exact HB.out))) | (with_reducible refine Kd.C_alloc ?_ _) | (with_reducible refine Kd.C_drewN ?_ _) | (with_reducible refine Kd.C_drew ?_))); (case side4 => exact HC1_16.out); rintro e w' ⟨rfl, ⟨nd, rfl⟩⟩))
            go_ret
            exact ⟨by first | rfl | (simp [errW_none, errW_some] <;> rfl) | (simp [*, errW_none, errW_some] <;> rfl), by repeat (first | (with_reducible first | exact HB.out | apply below_alloc | apply pw_below_drewN | apply below_drew1 | refine below_set ?_ GE105.out | refine below_set ?_ GE106.out) | exact HB.out)⟩
          ·rw [if_neg c14] at H
           have c14b0 : (a0_10 == a1_10) = false := beq_eq_false_iff_ne.mpr c14
           have c14b1 : (a0_10 != a1_10) = true := bne_iff_ne.mpr c14
           obtain rfl := Option.some.inj H
           go_enter Try.func11, Try.ntmps11
           go_wp2_with (first | ((with_reducible refine gate_dst (N := 2) rfl ?_); refine box_event ?hg (N := 2) ?hd (cs := #[.int .i64 a0_0, .int .i64 a0_1, .int .u64 a0_2, .int .u64 a0_3, .int .u32 a0_4, .int .i64 a0_5, .int .i64 a0_6, .string a0_7, .string a0_8, .int .i64 a0_9, .int .i64 a0_10, .string a0_11, .int .u32 a0_12, .int .i64 a0_13, .bool a0_14, .slice A0_15 l0_15.length c0_15, .slice A0_16 l0_16.length c0_16]) (t := 35) ?hr ?_; (case hd => rfl); (case hg => rfl); (case hr => first | (go_simp; done) | (go_simp; rfl)); intro gb105 hg w26 hbox hb; have n0_ := Aside0.mk (below_step (by repeat (first | (with_reducible first | exact HB.out | apply below_alloc | apply pw_below_drewN | apply below_drew1) | exact HB.out)) hb); have n1_ := Aside0.mk (hbox); have n2_ := Aside0.mk ((by rw [hg]; exact (below_size (by repeat (first | (with_reducible first | exact HB.out | apply below_alloc | apply pw_below_drewN | apply below_drew1) | exact HB.out))) : w.heap.size ≤ gb105)); have n3_ := Aside0.mk ((by rw [hg]; exact (below_size (by repeat (first | (with_reducible first | exact HB.out | apply below_alloc | apply pw_below_drewN | apply below_drew1) | exact HB.out))) : w.heap.size ≤ gb105)); clear HB; have HB := n0_; have BK105 := n1_; have GW105 := n2_; have GE105 := n3_; clear n0_ n1_ n2_ n3_; clear hb hbox hg) | ((with_reducible refine gate_dst (N := 3) rfl ?_); refine box_event ?hg (N := 3) ?hd (cs := #[.int .i64 a1_0, .int .i64 a1_1, .int .u64 a1_2, .int .u64 a1_3, .int .u32 a1_4, .int .i64 a1_5, .int .i64 a1_6, .string a1_7, .string a1_8, .int .i64 a1_9, .int .i64 a1_10, .string a1_11, .int .u32 a1_12, .int .i64 a1_13, .bool a1_14, .slice A1_15 l1_15.length c1_15, .slice A1_16 l1_16.length c1_16]) (t := 35) ?hr ?_; (case hd => rfl); (case hg => rfl); (case hr => first | (go_simp; done) | (go_simp; rfl)); intro gb106 hg w27 hbox hb; have n0_ := Aside0.mk (blk_below (g := gb105) (o := .cells #[.int .i64 a0_0, .int .i64 a0_1, .int .u64 a0_2, .int .u64 a0_3, .int .u32 a0_4, .int .i64 a0_5, .int .i64 a0_6, .string a0_7, .string a0_8, .int .i64 a0_9, .int .i64 a0_10, .string a0_11, .int .u32 a0_12, .int .i64 a0_13, .bool a0_14, .slice A0_15 l0_15.length c0_15, .slice A0_16 l0_16.length c0_16] 35 (0, 0)) (by (with_reducible repeat (first | refine blk_drewN ?_ _ | refine blk_drew ?_ | refine blk_alloc ?_ _)); exact BK105.out) hb); have n1_ := Aside0.mk (below_step (by repeat (first | (with_reducible first | exact HB.out | apply below_alloc | apply pw_below_drewN | apply below_drew1 | refine below_set ?_ GE105.out) | exact HB.out)) hb); have n2_ := Aside0.mk (hbox); have n3_ := Aside0.mk ((by rw [hg]; exact (below_size (by repeat (first | (with_reducible first | exact HB.out | apply below_alloc | apply pw_below_drewN | apply below_drew1 | refine below_set ?_ GE105.out) | exact HB.out))) : w.heap.size ≤ gb106)); have n4_ := Aside0.mk ((by rw [hg]; exact (below_size (by repeat (first | (with_reducible first | exact HB.out | apply below_alloc | apply pw_below_drewN | apply below_drew1 | refine below_set ?_ GE105.out) | exact HB.out))) : w.heap.size ≤ gb106)); have n5_ := Aside0.mk ((by rw [hg]; exact Nat.ne_of_lt (blk_lt (g := gb105) (o := .cells #[.int .i64 a0_0, .int .i64 a0_1, .int .u64 a0_2, .int .u64 a0_3, .int .u32 a0_4, .int .i64 a0_5, .int .i64 a0_6, .string a0_7, .string a0_8, .int .i64 a0_9, .int .i64 a0_10, .string a0_11, .int .u32 a0_12, .int .i64 a0_13, .bool a0_14, .slice A0_15 l0_15.length c0_15, .slice A0_16 l0_16.length c0_16] 35 (0, 0)) (by (with_reducible repeat (first | refine blk_drewN ?_ _ | refine blk_drew ?_ | refine blk_alloc ?_ _)); exact BK105.out)) : gb105 ≠ gb106)); have n6_ := Aside0.mk ((by rw [hg]; exact Nat.ne_of_gt (blk_lt (g := gb105) (o := .cells #[.int .i64 a0_0, .int .i64 a0_1, .int .u64 a0_2, .int .u64 a0_3, .int .u32 a0_4, .int .i64 a0_5, .int .i64 a0_6, .string a0_7, .string a0_8, .int .i64 a0_9, .int .i64 a0_10, .string a0_11, .int .u32 a0_12, .int .i64 a0_13, .bool a0_14, .slice A0_15 l0_15.length c0_15, .slice A0_16 l0_16.length c0_16] 35 (0, 0)) (by (with_reducible repeat (first | refine blk_drewN ?_ _ | refine blk_drew ?_ | refine blk_alloc ?_ _)); exact BK105.out)) : gb106 ≠ gb105)); clear BK105; clear HB; have BK105 := n0_; have HB := n1_; have BK106 := n2_; have GW106 := n3_; have GE106 := n4_; have NB105_106 := n5_; have NB106_105 := n6_; clear n0_ n1_ n2_ n3_ n4_ n5_ n6_; clear hb hbox hg; have hnb28 := NB105_106.out; have hnc28 := NB106_105.out; have hcz29_0 : w27.cell? ⟨gb105, 0, none⟩ = some (.int .i64 a0_0) := (blk_cell BK105.out 0).trans rfl; have hcz29_1 : w27.cell? ⟨gb105, 1, none⟩ = some (.int .i64 a0_1) := (blk_cell BK105.out 1).trans rfl; have hcz29_2 : w27.cell? ⟨gb105, 2, none⟩ = some (.int .u64 a0_2) := (blk_cell BK105.out 2).trans rfl; have hcz29_3 : w27.cell? ⟨gb105, 3, none⟩ = some (.int .u64 a0_3) := (blk_cell BK105.out 3).trans rfl; have hcz29_4 : w27.cell? ⟨gb105, 4, none⟩ = some (.int .u32 a0_4) := (blk_cell BK105.out 4).trans rfl; have hcz29_5 : w27.cell? ⟨gb105, 5, none⟩ = some (.int .i64 a0_5) := (blk_cell BK105.out 5).trans rfl; have hcz29_6 : w27.cell? ⟨gb105, 6, none⟩ = some (.int .i64 a0_6) := (blk_cell BK105.out 6).trans rfl; have hcz29_7 : w27.cell? ⟨gb105, 7, none⟩ = some (.string a0_7) := (blk_cell BK105.out 7).trans rfl; have hcz29_8 : w27.cell? ⟨gb105, 8, none⟩ = some (.string a0_8) := (blk_cell BK105.out 8).trans rfl; have hcz29_9 : w27.cell? ⟨gb105, 9, none⟩ = some (.int .i64 a0_9) := (blk_cell BK105.out 9).trans rfl; have hcz29_10 : w27.cell? ⟨gb105, 10, none⟩ = some (.int .i64 a0_10) := (blk_cell BK105.out 10).trans rfl; have hcz29_11 : w27.cell? ⟨gb105, 11, none⟩ = some (.string a0_11) := (blk_cell BK105.out 11).trans rfl; have hcz29_12 : w27.cell? ⟨gb105, 12, none⟩ = some (.int .u32 a0_12) := (blk_cell BK105.out 12).trans rfl; have hcz29_13 : w27.cell? ⟨gb105, 13, none⟩ = some (.int .i64 a0_13) := (blk_cell BK105.out 13).trans rfl; have hcz29_14 : w27.cell? ⟨gb105, 14, none⟩ = some (.bool a0_14) := (blk_cell BK105.out 14).trans rfl; have hcz29_15 : w27.cell? ⟨gb105, 15, none⟩ = some (.slice A0_15 l0_15.length c0_15) := (blk_cell BK105.out 15).trans rfl; have hcz29_16 : w27.cell? ⟨gb105, 16, none⟩ = some (.slice A0_16 l0_16.length c0_16) := (blk_cell BK105.out 16).trans rfl; have hfz29_0 := blk_frozen BK105.out 0; have hfz29_1 := blk_frozen BK105.out 1; have hfz29_2 := blk_frozen BK105.out 2; have hfz29_3 := blk_frozen BK105.out 3; have hfz29_4 := blk_frozen BK105.out 4; have hfz29_5 := blk_frozen BK105.out 5; have hfz29_6 := blk_frozen BK105.out 6; have hfz29_7 := blk_frozen BK105.out 7; have hfz29_8 := blk_frozen BK105.out 8; have hfz29_9 := blk_frozen BK105.out 9; have hfz29_10 := blk_frozen BK105.out 10; have hfz29_11 := blk_frozen BK105.out 11; have hfz29_12 := blk_frozen BK105.out 12; have hfz29_13 := blk_frozen BK105.out 13; have hfz29_14 := blk_frozen BK105.out 14; have hfz29_15 := blk_frozen BK105.out 15; have hfz29_16 := blk_frozen BK105.out 16; have hcz30_0 : w27.cell? ⟨gb106, 0, none⟩ = some (.int .i64 a1_0) := (blk_cell BK106.out 0).trans rfl; have hcz30_1 : w27.cell? ⟨gb106, 1, none⟩ = some (.int .i64 a1_1) := (blk_cell BK106.out 1).trans rfl; have hcz30_2 : w27.cell? ⟨gb106, 2, none⟩ = some (.int .u64 a1_2) := (blk_cell BK106.out 2).trans rfl; have hcz30_3 : w27.cell? ⟨gb106, 3, none⟩ = some (.int .u64 a1_3) := (blk_cell BK106.out 3).trans rfl; have hcz30_4 : w27.cell? ⟨gb106, 4, none⟩ = some (.int .u32 a1_4) := (blk_cell BK106.out 4).trans rfl; have hcz30_5 : w27.cell? ⟨gb106, 5, none⟩ = some (.int .i64 a1_5) := (blk_cell BK106.out 5).trans rfl; have hcz30_6 : w27.cell? ⟨gb106, 6, none⟩ = some (.int .i64 a1_6) := (blk_cell BK106.out 6).trans rfl; have hcz30_7 : w27.cell? ⟨gb106, 7, none⟩ = some (.string a1_7) := (blk_cell BK106.out 7).trans rfl; have hcz30_8 : w27.cell? ⟨gb106, 8, none⟩ = some (.string a1_8) := (blk_cell BK106.out 8).trans rfl; have hcz30_9 : w27.cell? ⟨gb106, 9, none⟩ = some (.int .i64 a1_9) := (blk_cell BK106.out 9).trans rfl; have hcz30_10 : w27.cell? ⟨gb106, 10, none⟩ = some (.int .i64 a1_10) := (blk_cell BK106.out 10).trans rfl; have hcz30_11 : w27.cell? ⟨gb106, 11, none⟩ = some (.string a1_11) := (blk_cell BK106.out 11).trans rfl; have hcz30_12 : w27.cell? ⟨gb106, 12, none⟩ = some (.int .u32 a1_12) := (blk_cell BK106.out 12).trans rfl; have hcz30_13 : w27.cell? ⟨gb106, 13, none⟩ = some (.int .i64 a1_13) := (blk_cell BK106.out 13).trans rfl; have hcz30_14 : w27.cell? ⟨gb106, 14, none⟩ = some (.bool a1_14) := (blk_cell BK106.out 14).trans rfl; have hcz30_15 : w27.cell? ⟨gb106, 15, none⟩ = some (.slice A1_15 l1_15.length c1_15) := (blk_cell BK106.out 15).trans rfl; have hcz30_16 : w27.cell? ⟨gb106, 16, none⟩ = some (.slice A1_16 l1_16.length c1_16) := (blk_cell BK106.out 16).trans rfl; have hfz30_0 := blk_frozen BK106.out 0; have hfz30_1 := blk_frozen BK106.out 1; have hfz30_2 := blk_frozen BK106.out 2; have hfz30_3 := blk_frozen BK106.out 3; have hfz30_4 := blk_frozen BK106.out 4; have hfz30_5 := blk_frozen BK106.out 5; have hfz30_6 := blk_frozen BK106.out 6; have hfz30_7 := blk_frozen BK106.out 7; have hfz30_8 := blk_frozen BK106.out 8; have hfz30_9 := blk_frozen BK106.out 9; have hfz30_10 := blk_frozen BK106.out 10; have hfz30_11 := blk_frozen BK106.out 11; have hfz30_12 := blk_frozen BK106.out 12; have hfz30_13 := blk_frozen BK106.out 13; have hfz30_14 := blk_frozen BK106.out 14; have hfz30_15 := blk_frozen BK106.out 15; have hfz30_16 := blk_frozen BK106.out 16) | ((with_reducible refine gate_callee (f := 30) rfl ?_); refine goesL_ (some 9) rfl rfl Try.func30 (by kernel_rfl) rfl #[.slice A0_15 l0_15.length c0_15, .slice A1_15 l1_15.length c1_15] rfl (by (try simp only [List.map_toArray, List.map_cons, List.map_nil]); first | done | rfl | (simp only [List.length_drop, List.length_take]; rfl)) ?_; (with_reducible refine (api_TxState.calls k _ _ l0_15 _ _ l1_15 true _ ?side1 ?side2 ?side3 ?side4 A3.out).mono ?_); (case side1 => repeat (first | exact (Kd.C_below HR0_15.out HB.out) | (with_reducible refine Kd.C_alloc ?_ _) | (with_reducible refine Kd.C_drewN ?_ _) | (with_reducible refine Kd.C_drew ?_))); (case side2 => exact HC0_15.out); (case side3 => repeat (first | exact (Kd.C_below HR1_15.out HB.out) | (with_reducible refine Kd.C_alloc ?_ _) | (with_reducible refine Kd.C_drewN ?_ _) | (with_reducible refine Kd.C_drew ?_))); (case side4 => exact HC1_15.out); rintro e w' ⟨rfl, ⟨nd, rfl⟩⟩; refine ⟨_, rfl, ?_⟩) | (go_at_call 31; (with_reducible refine (api_Dirty.calls k _ _ l0_16 _ _ l1_16 true _ ?side1 ?side2 ?side3 ?side4 A5.out).mono ?_); (case side1 => repeat (first | exact (Kd.C_below HR0_16.out (by repeat (first | (with_reducible first | exact HB.out | apply below_alloc | apply pw_below_drewN | apply below_drew1 | refine below_set ?_ GE105.out | refine below_set ?_ GE106.out) | exact HB.out))) | (with_reducible refine Kd.C_alloc ?_ _) | (with_reducible refine Kd.C_drewN ?_ _) | (with_reducible refine Kd.C_drew ?_))); (case side2 => exact HC0_16.out); (case side3 => repeat (first | exact (Kd.C_below HR1_16.out (by repeat (first | (with_reducible first | exact HB.out | apply below_alloc | apply pw_below_drewN | apply below_drew1 | refine below_set ?_ GE105.out | refine below_set ?_ GE106.out) | exact HB.out))) | (with_reducible refine Kd.C_alloc ?_ _) | (with_reducible refine Kd.C_drewN ?_ _) | (with_reducible refine Kd.C_drew ?_))); (case side4 => exact HC1_16.out); rintro e w' ⟨rfl, ⟨nd, rfl⟩⟩))
           go_ret
           exact ⟨by first | rfl | (simp [errW_none, errW_some] <;> rfl) | (simp [*, errW_none, errW_some] <;> rfl), by repeat (first | (with_reducible first | exact HB.out | apply below_alloc | apply pw_below_drewN | apply below_drew1 | refine below_set ?_ GE105.out | refine below_set ?_ GE106.out) | exact HB.out)⟩
         ·rw [if_neg c13] at H
          have c13b0 : (a0_9 == a1_9) = false := beq_eq_false_iff_ne.mpr c13
          have c13b1 : (a0_9 != a1_9) = true := bne_iff_ne.mpr c13
          obtain rfl := Option.some.inj H
          go_enter Try.func11, Try.ntmps11
          go_wp2_with (first | ((with_reducible refine gate_dst (N := 2) rfl ?_); refine box_event ?hg (N := 2) ?hd (cs := #[.int .i64 a0_0, .int .i64 a0_1, .int .u64 a0_2, .int .u64 a0_3, .int .u32 a0_4, .int .i64 a0_5, .int .i64 a0_6, .string a0_7, .string a0_8, .int .i64 a0_9, .int .i64 a0_10, .string a0_11, .int .u32 a0_12, .int .i64 a0_13, .bool a0_14, .slice A0_15 l0_15.length c0_15, .slice A0_16 l0_16.length c0_16]) (t := 35) ?hr ?_; (case hd => rfl); (case hg => rfl); (case hr => first | (go_simp; done) | (go_simp; rfl)); intro gb105 hg w31 hbox hb; have n0_ := Aside0.mk (below_step (by repeat (first | (with_reducible first | exact HB.out | apply below_alloc | apply pw_below_drewN | apply below_drew1) | exact HB.out)) hb); have n1_ := Aside0.mk (hbox); have n2_ := Aside0.mk ((by rw [hg]; exact (below_size (by repeat (first | (with_reducible first | exact HB.out | apply below_alloc | apply pw_below_drewN | apply below_drew1) | exact HB.out))) : w.heap.size ≤ gb105)); have n3_ := Aside0.mk ((by rw [hg]; exact (below_size (by repeat (first | (with_reducible first | exact HB.out | apply below_alloc | apply pw_below_drewN | apply below_drew1) | exact HB.out))) : w.heap.size ≤ gb105)); clear HB; have HB := n0_; have BK105 := n1_; have GW105 := n2_; have GE105 := n3_; clear n0_ n1_ n2_ n3_; clear hb hbox hg) | ((with_reducible refine gate_dst (N := 3) rfl ?_); refine box_event ?hg (N := 3) ?hd (cs := #[.int .i64 a1_0, .int .i64 a1_1, .int .u64 a1_2, .int .u64 a1_3, .int .u32 a1_4, .int .i64 a1_5, .int .i64 a1_6, .string a1_7, .string a1_8, .int .i64 a1_9, .int .i64 a1_10, .string a1_11, .int .u32 a1_12, .int .i64 a1_13, .bool a1_14, .slice A1_15 l1_15.length c1_15, .slice A1_16 l1_16.length c1_16]) (t := 35) ?hr ?_; (case hd => rfl); (case hg => rfl); (case hr => first | (go_simp; done) | (go_simp; rfl)); intro gb106 hg w32 hbox hb; have n0_ := Aside0.mk (blk_below (g := gb105) (o := .cells #[.int .i64 a0_0, .int .i64 a0_1, .int .u64 a0_2, .int .u64 a0_3, .int .u32 a0_4, .int .i64 a0_5, .int .i64 a0_6, .string a0_7, .string a0_8, .int .i64 a0_9, .int .i64 a0_10, .string a0_11, .int .u32 a0_12, .int .i64 a0_13, .bool a0_14, .slice A0_15 l0_15.length c0_15, .slice A0_16 l0_16.length c0_16] 35 (0, 0)) (by (with_reducible repeat (first | refine blk_drewN ?_ _ | refine blk_drew ?_ | refine blk_alloc ?_ _)); exact BK105.out) hb); have n1_ := Aside0.mk (below_step (by repeat (first | (with_reducible first | exact HB.out | apply below_alloc | apply pw_below_drewN | apply below_drew1 | refine below_set ?_ GE105.out) | exact HB.out)) hb); have n2_ := Aside0.mk (hbox); have n3_ := Aside0.mk ((by rw [hg]; exact (below_size (by repeat (first | (with_reducible first | exact HB.out | apply below_alloc | apply pw_below_drewN | apply below_drew1 | refine below_set ?_ GE105.out) | exact HB.out))) : w.heap.size ≤ gb106)); have n4_ := Aside0.mk ((by rw [hg]; exact (below_size (by repeat (first | (with_reducible first | exact HB.out | apply below_alloc | apply pw_below_drewN | apply below_drew1 | refine below_set ?_ GE105.out) | exact HB.out))) : w.heap.size ≤ gb106)); have n5_ := Aside0.mk ((by rw [hg]; exact Nat.ne_of_lt (blk_lt (g := gb105) (o := .cells #[.int .i64 a0_0, .int .i64 a0_1, .int .u64 a0_2, .int .u64 a0_3, .int .u32 a0_4, .int .i64 a0_5, .int .i64 a0_6, .string a0_7, .string a0_8, .int .i64 a0_9, .int .i64 a0_10, .string a0_11, .int .u32 a0_12, .int .i64 a0_13, .bool a0_14, .slice A0_15 l0_15.length c0_15, .slice A0_16 l0_16.length c0_16] 35 (0, 0)) (by (with_reducible repeat (first | refine blk_drewN ?_ _ | refine blk_drew ?_ | refine blk_alloc ?_ _)); exact BK105.out)) : gb105 ≠ gb106)); have n6_ := Aside0.mk ((by rw [hg]; exact Nat.ne_of_gt (blk_lt (g := gb105) (o := .cells #[.int .i64 a0_0, .int .i64 a0_1, .int .u64 a0_2, .int .u64 a0_3, .int .u32 a0_4, .int .i64 a0_5, .int .i64 a0_6, .string a0_7, .string a0_8, .int .i64 a0_9, .int .i64 a0_10, .string a0_11, .int .u32 a0_12, .int .i64 a0_13, .bool a0_14, .slice A0_15 l0_15.length c0_15, .slice A0_16 l0_16.length c0_16] 35 (0, 0)) (by (with_reducible repeat (first | refine blk_drewN ?_ _ | refine blk_drew ?_ | refine blk_alloc ?_ _)); exact BK105.out)) : gb106 ≠ gb105)); clear BK105; clear HB; have BK105 := n0_; have HB := n1_; have BK106 := n2_; have GW106 := n3_; have GE106 := n4_; have NB105_106 := n5_; have NB106_105 := n6_; clear n0_ n1_ n2_ n3_ n4_ n5_ n6_; clear hb hbox hg; have hnb33 := NB105_106.out; have hnc33 := NB106_105.out; have hcz34_0 : w32.cell? ⟨gb105, 0, none⟩ = some (.int .i64 a0_0) := (blk_cell BK105.out 0).trans rfl; have hcz34_1 : w32.cell? ⟨gb105, 1, none⟩ = some (.int .i64 a0_1) := (blk_cell BK105.out 1).trans rfl; have hcz34_2 : w32.cell? ⟨gb105, 2, none⟩ = some (.int .u64 a0_2) := (blk_cell BK105.out 2).trans rfl; have hcz34_3 : w32.cell? ⟨gb105, 3, none⟩ = some (.int .u64 a0_3) := (blk_cell BK105.out 3).trans rfl; have hcz34_4 : w32.cell? ⟨gb105, 4, none⟩ = some (.int .u32 a0_4) := (blk_cell BK105.out 4).trans rfl; have hcz34_5 : w32.cell? ⟨gb105, 5, none⟩ = some (.int .i64 a0_5) := (blk_cell BK105.out 5).trans rfl; have hcz34_6 : w32.cell? ⟨gb105, 6, none⟩ = some (.int .i64 a0_6) := (blk_cell BK105.out 6).trans rfl; have hcz34_7 : w32.cell? ⟨gb105, 7, none⟩ = some (.string a0_7) := (blk_cell BK105.out 7).trans rfl; have hcz34_8 : w32.cell? ⟨gb105, 8, none⟩ = some (.string a0_8) := (blk_cell BK105.out 8).trans rfl; have hcz34_9 : w32.cell? ⟨gb105, 9, none⟩ = some (.int .i64 a0_9) := (blk_cell BK105.out 9).trans rfl; have hcz34_10 : w32.cell? ⟨gb105, 10, none⟩ = some (.int .i64 a0_10) := (blk_cell BK105.out 10).trans rfl; have hcz34_11 : w32.cell? ⟨gb105, 11, none⟩ = some (.string a0_11) := (blk_cell BK105.out 11).trans rfl; have hcz34_12 : w32.cell? ⟨gb105, 12, none⟩ = some (.int .u32 a0_12) := (blk_cell BK105.out 12).trans rfl; have hcz34_13 : w32.cell? ⟨gb105, 13, none⟩ = some (.int .i64 a0_13) := (blk_cell BK105.out 13).trans rfl; have hcz34_14 : w32.cell? ⟨gb105, 14, none⟩ = some (.bool a0_14) := (blk_cell BK105.out 14).trans rfl; have hcz34_15 : w32.cell? ⟨gb105, 15, none⟩ = some (.slice A0_15 l0_15.length c0_15) := (blk_cell BK105.out 15).trans rfl; have hcz34_16 : w32.cell? ⟨gb105, 16, none⟩ = some (.slice A0_16 l0_16.length c0_16) := (blk_cell BK105.out 16).trans rfl; have hfz34_0 := blk_frozen BK105.out 0; have hfz34_1 := blk_frozen BK105.out 1; have hfz34_2 := blk_frozen BK105.out 2; have hfz34_3 := blk_frozen BK105.out 3; have hfz34_4 := blk_frozen BK105.out 4; have hfz34_5 := blk_frozen BK105.out 5; have hfz34_6 := blk_frozen BK105.out 6; have hfz34_7 := blk_frozen BK105.out 7; have hfz34_8 := blk_frozen BK105.out 8; have hfz34_9 := blk_frozen BK105.out 9; have hfz34_10 := blk_frozen BK105.out 10; have hfz34_11 := blk_frozen BK105.out 11; have hfz34_12 := blk_frozen BK105.out 12; have hfz34_13 := blk_frozen BK105.out 13; have hfz34_14 := blk_frozen BK105.out 14; have hfz34_15 := blk_frozen BK105.out 15; have hfz34_16 := blk_frozen BK105.out 16; have hcz35_0 : w32.cell? ⟨gb106, 0, none⟩ = some (.int .i64 a1_0) := (blk_cell BK106.out 0).trans rfl; have hcz35_1 : w32.cell? ⟨gb106, 1, none⟩ = some (.int .i64 a1_1) := (blk_cell BK106.out 1).trans rfl; have hcz35_2 : w32.cell? ⟨gb106, 2, none⟩ = some (.int .u64 a1_2) := (blk_cell BK106.out 2).trans rfl; have hcz35_3 : w32.cell? ⟨gb106, 3, none⟩ = some (.int .u64 a1_3) := (blk_cell BK106.out 3).trans rfl; have hcz35_4 : w32.cell? ⟨gb106, 4, none⟩ = some (.int .u32 a1_4) := (blk_cell BK106.out 4).trans rfl; have hcz35_5 : w32.cell? ⟨gb106, 5, none⟩ = some (.int .i64 a1_5) := (blk_cell BK106.out 5).trans rfl; have hcz35_6 : w32.cell? ⟨gb106, 6, none⟩ = some (.int .i64 a1_6) := (blk_cell BK106.out 6).trans rfl; have hcz35_7 : w32.cell? ⟨gb106, 7, none⟩ = some (.string a1_7) := (blk_cell BK106.out 7).trans rfl; have hcz35_8 : w32.cell? ⟨gb106, 8, none⟩ = some (.string a1_8) := (blk_cell BK106.out 8).trans rfl; have hcz35_9 : w32.cell? ⟨gb106, 9, none⟩ = some (.int .i64 a1_9) := (blk_cell BK106.out 9).trans rfl; have hcz35_10 : w32.cell? ⟨gb106, 10, none⟩ = some (.int .i64 a1_10) := (blk_cell BK106.out 10).trans rfl; have hcz35_11 : w32.cell? ⟨gb106, 11, none⟩ = some (.string a1_11) := (blk_cell BK106.out 11).trans rfl; have hcz35_12 : w32.cell? ⟨gb106, 12, none⟩ = some (.int .u32 a1_12) := (blk_cell BK106.out 12).trans rfl; have hcz35_13 : w32.cell? ⟨gb106, 13, none⟩ = some (.int .i64 a1_13) := (blk_cell BK106.out 13).trans rfl; have hcz35_14 : w32.cell? ⟨gb106, 14, none⟩ = some (.bool a1_14) := (blk_cell BK106.out 14).trans rfl; have hcz35_15 : w32.cell? ⟨gb106, 15, none⟩ = some (.slice A1_15 l1_15.length c1_15) := (blk_cell BK106.out 15).trans rfl; have hcz35_16 : w32.cell? ⟨gb106, 16, none⟩ = some (.slice A1_16 l1_16.length c1_16) := (blk_cell BK106.out 16).trans rfl; have hfz35_0 := blk_frozen BK106.out 0; have hfz35_1 := blk_frozen BK106.out 1; have hfz35_2 := blk_frozen BK106.out 2; have hfz35_3 := blk_frozen BK106.out 3; have hfz35_4 := blk_frozen BK106.out 4; have hfz35_5 := blk_frozen BK106.out 5; have hfz35_6 := blk_frozen BK106.out 6; have hfz35_7 := blk_frozen BK106.out 7; have hfz35_8 := blk_frozen BK106.out 8; have hfz35_9 := blk_frozen BK106.out 9; have hfz35_10 := blk_frozen BK106.out 10; have hfz35_11 := blk_frozen BK106.out 11; have hfz35_12 := blk_frozen BK106.out 12; have hfz35_13 := blk_frozen BK106.out 13; have hfz35_14 := blk_frozen BK106.out 14; have hfz35_15 := blk_frozen BK106.out 15; have hfz35_16 := blk_frozen BK106.out 16) | ((with_reducible refine gate_callee (f := 30) rfl ?_); refine goesL_ (some 9) rfl rfl Try.func30 (by kernel_rfl) rfl #[.slice A0_15 l0_15.length c0_15, .slice A1_15 l1_15.length c1_15] rfl (by (try simp only [List.map_toArray, List.map_cons, List.map_nil]); first | done | rfl | (simp only [List.length_drop, List.length_take]; rfl)) ?_; (with_reducible refine (api_TxState.calls k _ _ l0_15 _ _ l1_15 true _ ?side1 ?side2 ?side3 ?side4 A3.out).mono ?_); (case side1 => repeat (first | exact (Kd.C_below HR0_15.out HB.out) | (with_reducible refine Kd.C_alloc ?_ _) | (with_reducible refine Kd.C_drewN ?_ _) | (with_reducible refine Kd.C_drew ?_))); (case side2 => exact HC0_15.out); (case side3 => repeat (first | exact (Kd.C_below HR1_15.out HB.out) | (with_reducible refine Kd.C_alloc ?_ _) | (with_reducible refine Kd.C_drewN ?_ _) | (with_reducible refine Kd.C_drew ?_))); (case side4 => exact HC1_15.out); rintro e w' ⟨rfl, ⟨nd, rfl⟩⟩; refine ⟨_, rfl, ?_⟩) | (go_at_call 31; (with_reducible refine (api_Dirty.calls k _ _ l0_16 _ _ l1_16 true _ ?side1 ?side2 ?side3 ?side4 A5.out).mono ?_); (case side1 => repeat (first | exact (Kd.C_below HR0_16.out (by repeat (first | (with_reducible first | exact HB.out | apply below_alloc | apply pw_below_drewN | apply below_drew1 | refine below_set ?_ GE105.out | refine below_set ?_ GE106.out) | exact HB.out))) | (with_reducible refine Kd.C_alloc ?_ _) | (with_reducible refine Kd.C_drewN ?_ _) | (with_reducible refine Kd.C_drew ?_))); (case side2 => exact HC0_16.out); (case side3 => repeat (first | exact (Kd.C_below HR1_16.out (by repeat (first | (with_reducible first | exact HB.out | apply below_alloc | apply pw_below_drewN | apply below_drew1 | refine below_set ?_ GE105.out | refine below_set ?_ GE106.out) | exact HB.out))) | (with_reducible refine Kd.C_alloc ?_ _) | (with_reducible refine Kd.C_drewN ?_ _) | (with_reducible refine Kd.C_drew ?_))); (case side4 => exact HC1_16.out); rintro e w' ⟨rfl, ⟨nd, rfl⟩⟩))
          go_ret
          exact ⟨by first | rfl | (simp [errW_none, errW_some] <;> rfl) | (simp [*, errW_none, errW_some] <;> rfl), by repeat (first | (with_reducible first | exact HB.out | apply below_alloc | apply pw_below_drewN | apply below_drew1 | refine below_set ?_ GE105.out | refine below_set ?_ GE106.out) | exact HB.out)⟩
        ·rw [if_neg c12] at H
         have c12b0 : (a0_5 == a1_5 && (a0_6 == a1_6 && (a0_7.toList == a1_7.toList && (a0_8.toList == a1_8.toList)))) = false := by simpa using c12
         (try (have c12b1 : decide (a0_5 = a1_5 && (a0_6 == a1_6 && (a0_7.toList == a1_7.toList && (a0_8.toList == a1_8.toList)))) = false := by simpa using c12))
         (try (have c12b2 : (a0_5 == a1_5 && (a0_6 == a1_6 && (a0_7.toList == a1_7.toList && (a0_8.toList == a1_8.toList)))) = false := by simpa using c12))
         (try (have c12b3 : ¬ (a0_5 = a1_5 && (a0_6 == a1_6 && (a0_7.toList == a1_7.toList && (a0_8.toList == a1_8.toList)))) := by simpa using c12))
         clear c12
         obtain rfl := Option.some.inj H
         go_enter Try.func11, Try.ntmps11
         go_wp2_with (first | ((with_reducible refine gate_dst (N := 2) rfl ?_); refine box_event ?hg (N := 2) ?hd (cs := #[.int .i64 a0_0, .int .i64 a0_1, .int .u64 a0_2, .int .u64 a0_3, .int .u32 a0_4, .int .i64 a0_5, .int .i64 a0_6, .string a0_7, .string a0_8, .int .i64 a0_9, .int .i64 a0_10, .string a0_11, .int .u32 a0_12, .int .i64 a0_13, .bool a0_14, .slice A0_15 l0_15.length c0_15, .slice A0_16 l0_16.length c0_16]) (t := 35) ?hr ?_; (case hd => rfl); (case hg => rfl); (case hr => first | (go_simp; done) | (go_simp; rfl)); intro gb105 hg w36 hbox hb; have n0_ := Aside0.mk (below_step (by repeat (first | (with_reducible first | exact HB.out | apply below_alloc | apply pw_below_drewN | apply below_drew1) | exact HB.out)) hb); have n1_ := Aside0.mk (hbox); have n2_ := Aside0.mk ((by rw [hg]; exact (below_size (by repeat (first | (with_reducible first | exact HB.out | apply below_alloc | apply pw_below_drewN | apply below_drew1) | exact HB.out))) : w.heap.size ≤ gb105)); have n3_ := Aside0.mk ((by rw [hg]; exact (below_size (by repeat (first | (with_reducible first | exact HB.out | apply below_alloc | apply pw_below_drewN | apply below_drew1) | exact HB.out))) : w.heap.size ≤ gb105)); clear HB; have HB := n0_; have BK105 := n1_; have GW105 := n2_; have GE105 := n3_; clear n0_ n1_ n2_ n3_; clear hb hbox hg) | ((with_reducible refine gate_dst (N := 3) rfl ?_); refine box_event ?hg (N := 3) ?hd (cs := #[.int .i64 a1_0, .int .i64 a1_1, .int .u64 a1_2, .int .u64 a1_3, .int .u32 a1_4, .int .i64 a1_5, .int .i64 a1_6, .string a1_7, .string a1_8, .int .i64 a1_9, .int .i64 a1_10, .string a1_11, .int .u32 a1_12, .int .i64 a1_13, .bool a1_14, .slice A1_15 l1_15.length c1_15, .slice A1_16 l1_16.length c1_16]) (t := 35) ?hr ?_; (case hd => rfl); (case hg => rfl); (case hr => first | (go_simp; done) | (go_simp; rfl)); intro gb106 hg w37 hbox hb; have n0_ := Aside0.mk (blk_below (g := gb105) (o := .cells #[.int .i64 a0_0, .int .i64 a0_1, .int .u64 a0_2, .int .u64 a0_3, .int .u32 a0_4, .int .i64 a0_5, .int .i64 a0_6, .string a0_7, .string a0_8, .int .i64 a0_9, .int .i64 a0_10, .string a0_11, .int .u32 a0_12, .int .i64 a0_13, .bool a0_14, .slice A0_15 l0_15.length c0_15, .slice A0_16 l0_16.length c0_16] 35 (0, 0)) (by (with_reducible repeat (first | refine blk_drewN ?_ _ | refine blk_drew ?_ | refine blk_alloc ?_ _)); exact BK105.out) hb); have n1_ := Aside0.mk (below_step (by repeat (first | (with_reducible first | exact HB.out | apply below_alloc | apply pw_below_drewN | apply below_drew1 | refine below_set ?_ GE105.out) | exact HB.out)) hb); have n2_ := Aside0.mk (hbox); have n3_ := Aside0.mk ((by rw [hg]; exact (below_size (by repeat (first | (with_reducible first | exact HB.out | apply below_alloc | apply pw_below_drewN | apply below_drew1 | refine below_set ?_ GE105.out) | exact HB.out))) : w.heap.size ≤ gb106)); have n4_ := Aside0.mk ((by rw [hg]; exact (below_size (by repeat (first | (with_reducible first | exact HB.out | apply below_alloc | apply pw_below_drewN | apply below_drew1 | refine below_set ?_ GE105.out) | exact HB.out))) : w.heap.size ≤ gb106)); have n5_ := Aside0.mk ((by rw [hg]; exact Nat.ne_of_lt (blk_lt (g := gb105) (o := .cells #[.int .i64 a0_0, .int .i64 a0_1, .int .u64 a0_2, .int .u64 a0_3, .int .u32 a0_4, .int .i64 a0_5, .int .i64 a0_6, .string a0_7, .string a0_8, .int .i64 a0_9, .int .i64 a0_10, .string a0_11, .int .u32 a0_12, .int .i64 a0_13, .bool a0_14, .slice A0_15 l0_15.length c0_15, .slice A0_16 l0_16.length c0_16] 35 (0, 0)) (by (with_reducible repeat (first | refine blk_drewN ?_ _ | refine blk_drew ?_ | refine blk_alloc ?_ _)); exact BK105.out)) : gb105 ≠ gb106)); have n6_ := Aside0.mk ((by rw [hg]; exact Nat.ne_of_gt (blk_lt (g := gb105) (o := .cells #[.int .i64 a0_0, .int .i64 a0_1, .int .u64 a0_2, .int .u64 a0_3, .int .u32 a0_4, .int .i64 a0_5, .int .i64 a0_6, .string a0_7, .string a0_8, .int .i64 a0_9, .int .i64 a0_10, .string a0_11, .int .u32 a0_12, .int .i64 a0_13, .bool a0_14, .slice A0_15 l0_15.length c0_15, .slice A0_16 l0_16.length c0_16] 35 (0, 0)) (by (with_reducible repeat (first | refine blk_drewN ?_ _ | refine blk_drew ?_ | refine blk_alloc ?_ _)); exact BK105.out)) : gb106 ≠ gb105)); clear BK105; clear HB; have BK105 := n0_; have HB := n1_; have BK106 := n2_; have GW106 := n3_; have GE106 := n4_; have NB105_106 := n5_; have NB106_105 := n6_; clear n0_ n1_ n2_ n3_ n4_ n5_ n6_; clear hb hbox hg; have hnb38 := NB105_106.out; have hnc38 := NB106_105.out; have hcz39_0 : w37.cell? ⟨gb105, 0, none⟩ = some (.int .i64 a0_0) := (blk_cell BK105.out 0).trans rfl; have hcz39_1 : w37.cell? ⟨gb105, 1, none⟩ = some (.int .i64 a0_1) := (blk_cell BK105.out 1).trans rfl; have hcz39_2 : w37.cell? ⟨gb105, 2, none⟩ = some (.int .u64 a0_2) := (blk_cell BK105.out 2).trans rfl; have hcz39_3 : w37.cell? ⟨gb105, 3, none⟩ = some (.int .u64 a0_3) := (blk_cell BK105.out 3).trans rfl; have hcz39_4 : w37.cell? ⟨gb105, 4, none⟩ = some (.int .u32 a0_4) := (blk_cell BK105.out 4).trans rfl; have hcz39_5 : w37.cell? ⟨gb105, 5, none⟩ = some (.int .i64 a0_5) := (blk_cell BK105.out 5).trans rfl; have hcz39_6 : w37.cell? ⟨gb105, 6, none⟩ = some (.int .i64 a0_6) := (blk_cell BK105.out 6).trans rfl; have hcz39_7 : w37.cell? ⟨gb105, 7, none⟩ = some (.string a0_7) := (blk_cell BK105.out 7).trans rfl; have hcz39_8 : w37.cell? ⟨gb105, 8, none⟩ = some (.string a0_8) := (blk_cell BK105.out 8).trans rfl; have hcz39_9 : w37.cell? ⟨gb105, 9, none⟩ = some (.int .i64 a0_9) := (blk_cell BK105.out 9).trans rfl; have hcz39_10 : w37.cell? ⟨gb105, 10, none⟩ = some (.int .i64 a0_10) := (blk_cell BK105.out 10).trans rfl; have hcz39_11 : w37.cell? ⟨gb105, 11, none⟩ = some (.string a0_11) := (blk_cell BK105.out 11).trans rfl; have hcz39_12 : w37.cell? ⟨gb105, 12, none⟩ = some (.int .u32 a0_12) := (blk_cell BK105.out 12).trans rfl; have hcz39_13 : w37.cell? ⟨gb105, 13, none⟩ = some (.int .i64 a0_13) := (blk_cell BK105.out 13).trans rfl; have hcz39_14 : w37.cell? ⟨gb105, 14, none⟩ = some (.bool a0_14) := (blk_cell BK105.out 14).trans rfl; have hcz39_15 : w37.cell? ⟨gb105, 15, none⟩ = some (.slice A0_15 l0_15.length c0_15) := (blk_cell BK105.out 15).trans rfl; have hcz39_16 : w37.cell? ⟨gb105, 16, none⟩ = some (.slice A0_16 l0_16.length c0_16) := (blk_cell BK105.out 16).trans rfl; have hfz39_0 := blk_frozen BK105.out 0; have hfz39_1 := blk_frozen BK105.out 1; have hfz39_2 := blk_frozen BK105.out 2; have hfz39_3 := blk_frozen BK105.out 3; have hfz39_4 := blk_frozen BK105.out 4; have hfz39_5 := blk_frozen BK105.out 5; have hfz39_6 := blk_frozen BK105.out 6; have hfz39_7 := blk_frozen BK105.out 7; have hfz39_8 := blk_frozen BK105.out 8; have hfz39_9 := blk_frozen BK105.out 9; have hfz39_10 := blk_frozen BK105.out 10; have hfz39_11 := blk_frozen BK105.out 11; have hfz39_12 := blk_frozen BK105.out 12; have hfz39_13 := blk_frozen BK105.out 13; have hfz39_14 := blk_frozen BK105.out 14; have hfz39_15 := blk_frozen BK105.out 15; have hfz39_16 := blk_frozen BK105.out 16; have hcz40_0 : w37.cell? ⟨gb106, 0, none⟩ = some (.int .i64 a1_0) := (blk_cell BK106.out 0).trans rfl; have hcz40_1 : w37.cell? ⟨gb106, 1, none⟩ = some (.int .i64 a1_1) := (blk_cell BK106.out 1).trans rfl; have hcz40_2 : w37.cell? ⟨gb106, 2, none⟩ = some (.int .u64 a1_2) := (blk_cell BK106.out 2).trans rfl; have hcz40_3 : w37.cell? ⟨gb106, 3, none⟩ = some (.int .u64 a1_3) := (blk_cell BK106.out 3).trans rfl; have hcz40_4 : w37.cell? ⟨gb106, 4, none⟩ = some (.int .u32 a1_4) := (blk_cell BK106.out 4).trans rfl; have hcz40_5 : w37.cell? ⟨gb106, 5, none⟩ = some (.int .i64 a1_5) := (blk_cell BK106.out 5).trans rfl; have hcz40_6 : w37.cell? ⟨gb106, 6, none⟩ = some (.int .i64 a1_6) := (blk_cell BK106.out 6).trans rfl; have hcz40_7 : w37.cell? ⟨gb106, 7, none⟩ = some (.string a1_7) := (blk_cell BK106.out 7).trans rfl; have hcz40_8 : w37.cell? ⟨gb106, 8, none⟩ = some (.string a1_8) := (blk_cell BK106.out 8).trans rfl; have hcz40_9 : w37.cell? ⟨gb106, 9, none⟩ = some (.int .i64 a1_9) := (blk_cell BK106.out 9).trans rfl; have hcz40_10 : w37.cell? ⟨gb106, 10, none⟩ = some (.int .i64 a1_10) := (blk_cell BK106.out 10).trans rfl; have hcz40_11 : w37.cell? ⟨gb106, 11, none⟩ = some (.string a1_11) := (blk_cell BK106.out 11).trans rfl; have hcz40_12 : w37.cell? ⟨gb106, 12, none⟩ = some (.int .u32 a1_12) := (blk_cell BK106.out 12).trans rfl; have hcz40_13 : w37.cell? ⟨gb106, 13, none⟩ = some (.int .i64 a1_13) := (blk_cell BK106.out 13).trans rfl; have hcz40_14 : w37.cell? ⟨gb106, 14, none⟩ = some (.bool a1_14) := (blk_cell BK106.out 14).trans rfl; have hcz40_15 : w37.cell? ⟨gb106, 15, none⟩ = some (.slice A1_15 l1_15.length c1_15) := (blk_cell BK106.out 15).trans rfl; have hcz40_16 : w37.cell? ⟨gb106, 16, none⟩ = some (.slice A1_16 l1_16.length c1_16) := (blk_cell BK106.out 16).trans rfl; have hfz40_0 := blk_frozen BK106.out 0; have hfz40_1 := blk_frozen BK106.out 1; have hfz40_2 := blk_frozen BK106.out 2; have hfz40_3 := blk_frozen BK106.out 3; have hfz40_4 := blk_frozen BK106.out 4; have hfz40_5 := blk_frozen BK106.out 5; have hfz40_6 := blk_frozen BK106.out 6; have hfz40_7 := blk_frozen BK106.out 7; have hfz40_8 := blk_frozen BK106.out 8; have hfz40_9 := blk_frozen BK106.out 9; have hfz40_10 := blk_frozen BK106.out 10; have hfz40_11 := blk_frozen BK106.out 11; have hfz40_12 := blk_frozen BK106.out 12; have hfz40_13 := blk_frozen BK106.out 13; have hfz40_14 := blk_frozen BK106.out 14; have hfz40_15 := blk_frozen BK106.out 15; have hfz40_16 := blk_frozen BK106.out 16) | ((with_reducible refine gate_callee (f := 30) rfl ?_); refine goesL_ (some 9) rfl rfl Try.func30 (by kernel_rfl) rfl #[.slice A0_15 l0_15.length c0_15, .slice A1_15 l1_15.length c1_15] rfl (by (try simp only [List.map_toArray, List.map_cons, List.map_nil]); first | done | rfl | (simp only [List.length_drop, List.length_take]; rfl)) ?_; (with_reducible refine (api_TxState.calls k _ _ l0_15 _ _ l1_15 true _ ?side1 ?side2 ?side3 ?side4 A3.out).mono ?_); (case side1 => repeat (first | exact (Kd.C_below HR0_15.out HB.out) | (with_reducible refine Kd.C_alloc ?_ _) | (with_reducible refine Kd.C_drewN ?_ _) | (with_reducible refine Kd.C_drew ?_))); (case side2 => exact HC0_15.out); (case side3 => repeat (first | exact (Kd.C_below HR1_15.out HB.out) | (with_reducible refine Kd.C_alloc ?_ _) | (with_reducible refine Kd.C_drewN ?_ _) | (with_reducible refine Kd.C_drew ?_))); (case side4 => exact HC1_15.out); rintro e w' ⟨rfl, ⟨nd, rfl⟩⟩; refine ⟨_, rfl, ?_⟩) | (go_at_call 31; (with_reducible refine (api_Dirty.calls k _ _ l0_16 _ _ l1_16 true _ ?side1 ?side2 ?side3 ?side4 A5.out).mono ?_); (case side1 => repeat (first | exact (Kd.C_below HR0_16.out (by repeat (first | (with_reducible first | exact HB.out | apply below_alloc | apply pw_below_drewN | apply below_drew1 | refine below_set ?_ GE105.out | refine below_set ?_ GE106.out) | exact HB.out))) | (with_reducible refine Kd.C_alloc ?_ _) | (with_reducible refine Kd.C_drewN ?_ _) | (with_reducible refine Kd.C_drew ?_))); (case side2 => exact HC0_16.out); (case side3 => repeat (first | exact (Kd.C_below HR1_16.out (by repeat (first | (with_reducible first | exact HB.out | apply below_alloc | apply pw_below_drewN | apply below_drew1 | refine below_set ?_ GE105.out | refine below_set ?_ GE106.out) | exact HB.out))) | (with_reducible refine Kd.C_alloc ?_ _) | (with_reducible refine Kd.C_drewN ?_ _) | (with_reducible refine Kd.C_drew ?_))); (case side4 => exact HC1_16.out); rintro e w' ⟨rfl, ⟨nd, rfl⟩⟩))
         go_ret
         exact ⟨by first | rfl | (simp [errW_none, errW_some] <;> rfl) | (simp [*, errW_none, errW_some] <;> rfl), by repeat (first | (with_reducible first | exact HB.out | apply below_alloc | apply pw_below_drewN | apply below_drew1 | refine below_set ?_ GE105.out | refine below_set ?_ GE106.out) | exact HB.out)⟩
       ·rw [if_neg c11] at H
        have c11b0 : (a0_4 == a1_4) = false := beq_eq_false_iff_ne.mpr c11
        have c11b1 : (a0_4 != a1_4) = true := bne_iff_ne.mpr c11
        obtain rfl := Option.some.inj H
        go_enter Try.func11, Try.ntmps11
        go_wp2_with (first | ((with_reducible refine gate_dst (N := 2) rfl ?_); refine box_event ?hg (N := 2) ?hd (cs := #[.int .i64 a0_0, .int .i64 a0_1, .int .u64 a0_2, .int .u64 a0_3, .int .u32 a0_4, .int .i64 a0_5, .int .i64 a0_6, .string a0_7, .string a0_8, .int .i64 a0_9, .int .i64 a0_10, .string a0_11, .int .u32 a0_12, .int .i64 a0_13, .bool a0_14, .slice A0_15 l0_15.length c0_15, .slice A0_16 l0_16.length c0_16]) (t := 35) ?hr ?_; (case hd => rfl); (case hg => rfl); (case hr => first | (go_simp; done) | (go_simp; rfl)); intro gb105 hg w41 hbox hb; have n0_ := Aside0.mk (below_step (by repeat (first | (with_reducible first | exact HB.out | apply below_alloc | apply pw_below_drewN | apply below_drew1) | exact HB.out)) hb); have n1_ := Aside0.mk (hbox); have n2_ := Aside0.mk ((by rw [hg]; exact (below_size (by repeat (first | (with_reducible first | exact HB.out | apply below_alloc | apply pw_below_drewN | apply below_drew1) | exact HB.out))) : w.heap.size ≤ gb105)); have n3_ := Aside0.mk ((by rw [hg]; exact (below_size (by repeat (first | (with_reducible first | exact HB.out | apply below_alloc | apply pw_below_drewN | apply below_drew1) | exact HB.out))) : w.heap.size ≤ gb105)); clear HB; have HB := n0_; have BK105 := n1_; have GW105 := n2_; have GE105 := n3_; clear n0_ n1_ n2_ n3_; clear hb hbox hg) | ((with_reducible refine gate_dst (N := 3) rfl ?_); refine box_event ?hg (N := 3) ?hd (cs := #[.int .i64 a1_0, .int .i64 a1_1, .int .u64 a1_2, .int .u64 a1_3, .int .u32 a1_4, .int .i64 a1_5, .int .i64 a1_6, .string a1_7, .string a1_8, .int .i64 a1_9, .int .i64 a1_10, .string a1_11, .int .u32 a1_12, .int .i64 a1_13, .bool a1_14, .slice A1_15 l1_15.length c1_15, .slice A1_16 l1_16.length c1_16]) (t := 35) ?hr ?_; (case hd => rfl); (case hg => rfl); (case hr => first | (go_simp; done) | (go_simp; rfl)); intro gb106 hg w42 hbox hb; have n0_ := Aside0.mk (blk_below (g := gb105) (o := .cells #[.int .i64 a0_0, .int .i64 a0_1, .int .u64 a0_2, .int .u64 a0_3, .int .u32 a0_4, .int .i64 a0_5, .int .i64 a0_6, .string a0_7, .string a0_8, .int .i64 a0_9, .int .i64 a0_10, .string a0_11, .int .u32 a0_12, .int .i64 a0_13, .bool a0_14, .slice A0_15 l0_15.length c0_15, .slice A0_16 l0_16.length c0_16] 35 (0, 0)) (by (with_reducible repeat (first | refine blk_drewN ?_ _ | refine blk_drew ?_ | refine blk_alloc ?_ _)); exact BK105.out) hb); have n1_ := Aside0.mk (below_step (by repeat (first | (with_reducible first | exact HB.out | apply below_alloc | apply pw_below_drewN | apply below_drew1 | refine below_set ?_ GE105.out) | exact HB.out)) hb); have n2_ := Aside0.mk (hbox); have n3_ := Aside0.mk ((by rw [hg]; exact (below_size (by repeat (first | (with_reducible first | exact HB.out | apply below_alloc | apply pw_below_drewN | apply below_drew1 | refine below_set ?_ GE105.out) | exact HB.out))) : w.heap.size ≤ gb106)); have n4_ := Aside0.mk ((by rw [hg]; exact (below_size (by repeat (first | (with_reducible first | exact HB.out | apply below_alloc | apply pw_below_drewN | apply below_drew1 | refine below_set ?_ GE105.out) | exact HB.out))) : w.heap.size ≤ gb106)); have n5_ := Aside0.mk ((by rw [hg]; exact Nat.ne_of_lt (blk_lt (g := gb105) (o := .cells #[.int .i64 a0_0, .int .i64 a0_1, .int .u64 a0_2, .int .u64 a0_3, .int .u32 a0_4, .int .i64 a0_5, .int .i64 a0_6, .string a0_7, .string a0_8, .int .i64 a0_9, .int .i64 a0_10, .string a0_11, .int .u32 a0_12, .int .i64 a0_13, .bool a0_14, .slice A0_15 l0_15.length c0_15, .slice A0_16 l0_16.length c0_16] 35 (0, 0)) (by (with_reducible repeat (first | refine blk_drewN ?_ _ | refine blk_drew ?_ | refine blk_alloc ?_ _)); exact BK105.out)) : gb105 ≠ gb106)); have n6_ := Aside0.mk ((by rw [hg]; exact Nat.ne_of_gt (blk_lt (g := gb105) (o := .cells #[.int .i64 a0_0, .int .i64 a0_1, .int .u64 a0_2, .int .u64 a0_3, .int .u32 a0_4, .int .i64 a0_5, .int .i64 a0_6, .string a0_7, .string a0_8, .int .i64 a0_9, .int .i64 a0_10, .string a0_11, .int .u32 a0_12, .int .i64 a0_13, .bool a0_14, .slice A0_15 l0_15.length c0_15, .slice A0_16 l0_16.length c0_16] 35 (0, 0)) (by (with_reducible repeat (first | refine blk_drewN ?_ _ | refine blk_drew ?_ | refine blk_alloc ?_ _)); exact BK105.out)) : gb106 ≠ gb105)); clear BK105; clear HB; have BK105 := n0_; have HB := n1_; have BK106 := n2_; have GW106 := n3_; have GE106 := n4_; have NB105_106 := n5_; have NB106_105 := n6_; clear n0_ n1_ n2_ n3_ n4_ n5_ n6_; clear hb hbox hg; have hnb43 := NB105_106.out; have hnc43 := NB106_105.out; have hcz44_0 : w42.cell? ⟨gb105, 0, none⟩ = some (.int .i64 a0_0) := (blk_cell BK105.out 0).trans rfl; have hcz44_1 : w42.cell? ⟨gb105, 1, none⟩ = some (.int .i64 a0_1) := (blk_cell BK105.out 1).trans rfl; have hcz44_2 : w42.cell? ⟨gb105, 2, none⟩ = some (.int .u64 a0_2) := (blk_cell BK105.out 2).trans rfl; have hcz44_3 : w42.cell? ⟨gb105, 3, none⟩ = some (.int .u64 a0_3) := (blk_cell BK105.out 3).trans rfl; have hcz44_4 : w42.cell? ⟨gb105, 4, none⟩ = some (.int .u32 a0_4) := (blk_cell BK105.out 4).trans rfl; have hcz44_5 : w42.cell? ⟨gb105, 5, none⟩ = some (.int .i64 a0_5) := (blk_cell BK105.out 5).trans rfl; have hcz44_6 : w42.cell? ⟨gb105, 6, none⟩ = some (.int .i64 a0_6) := (blk_cell BK105.out 6).trans rfl; have hcz44_7 : w42.cell? ⟨gb105, 7, none⟩ = some (.string a0_7) := (blk_cell BK105.out 7).trans rfl; have hcz44_8 : w42.cell? ⟨gb105, 8, none⟩ = some (.string a0_8) := (blk_cell BK105.out 8).trans rfl; have hcz44_9 : w42.cell? ⟨gb105, 9, none⟩ = some (.int .i64 a0_9) := (blk_cell BK105.out 9).trans rfl; have hcz44_10 : w42.cell? ⟨gb105, 10, none⟩ = some (.int .i64 a0_10) := (blk_cell BK105.out 10).trans rfl; have hcz44_11 : w42.cell? ⟨gb105, 11, none⟩ = some (.string a0_11) := (blk_cell BK105.out 11).trans rfl; have hcz44_12 : w42.cell? ⟨gb105, 12, none⟩ = some (.int .u32 a0_12) := (blk_cell BK105.out 12).trans rfl; have hcz44_13 : w42.cell? ⟨gb105, 13, none⟩ = some (.int .i64 a0_13) := (blk_cell BK105.out 13).trans rfl; have hcz44_14 : w42.cell? ⟨gb105, 14, none⟩ = some (.bool a0_14) := (blk_cell BK105.out 14).trans rfl; have hcz44_15 : w42.cell? ⟨gb105, 15, none⟩ = some (.slice A0_15 l0_15.length c0_15) := (blk_cell BK105.out 15).trans rfl; have hcz44_16 : w42.cell? ⟨gb105, 16, none⟩ = some (.slice A0_16 l0_16.length c0_16) := (blk_cell BK105.out 16).trans rfl; have hfz44_0 := blk_frozen BK105.out 0; have hfz44_1 := blk_frozen BK105.out 1; have hfz44_2 := blk_frozen BK105.out 2; have hfz44_3 := blk_frozen BK105.out 3; have hfz44_4 := blk_frozen BK105.out 4; have hfz44_5 := blk_frozen BK105.out 5; have hfz44_6 := blk_frozen BK105.out 6; have hfz44_7 := blk_frozen BK105.out 7; have hfz44_8 := blk_frozen BK105.out 8; have hfz44_9 := blk_frozen BK105.out 9; have hfz44_10 := blk_frozen BK105.out 10; have hfz44_11 := blk_frozen BK105.out 11; have hfz44_12 := blk_frozen BK105.out 12; have hfz44_13 := blk_frozen BK105.out 13; have hfz44_14 := blk_frozen BK105.out 14; have hfz44_15 := blk_frozen BK105.out 15; have hfz44_16 := blk_frozen BK105.out 16; have hcz45_0 : w42.cell? ⟨gb106, 0, none⟩ = some (.int .i64 a1_0) := (blk_cell BK106.out 0).trans rfl; have hcz45_1 : w42.cell? ⟨gb106, 1, none⟩ = some (.int .i64 a1_1) := (blk_cell BK106.out 1).trans rfl; have hcz45_2 : w42.cell? ⟨gb106, 2, none⟩ = some (.int .u64 a1_2) := (blk_cell BK106.out 2).trans rfl; have hcz45_3 : w42.cell? ⟨gb106, 3, none⟩ = some (.int .u64 a1_3) := (blk_cell BK106.out 3).trans rfl; have hcz45_4 : w42.cell? ⟨gb106, 4, none⟩ = some (.int .u32 a1_4) := (blk_cell BK106.out 4).trans rfl; have hcz45_5 : w42.cell? ⟨gb106, 5, none⟩ = some (.int .i64 a1_5) := (blk_cell BK106.out 5).trans rfl; have hcz45_6 : w42.cell? ⟨gb106, 6, none⟩ = some (.int .i64 a1_6) := (blk_cell BK106.out 6).trans rfl; have hcz45_7 : w42.cell? ⟨gb106, 7, none⟩ = some (.string a1_7) := (blk_cell BK106.out 7).trans rfl; have hcz45_8 : w42.cell? ⟨gb106, 8, none⟩ = some (.string a1_8) := (blk_cell BK106.out 8).trans rfl; have hcz45_9 : w42.cell? ⟨gb106, 9, none⟩ = some (.int .i64 a1_9) := (blk_cell BK106.out 9).trans rfl; have hcz45_10 : w42.cell? ⟨gb106, 10, none⟩ = some (.int .i64 a1_10) := (blk_cell BK106.out 10).trans rfl; have hcz45_11 : w42.cell? ⟨gb106, 11, none⟩ = some (.string a1_11) := (blk_cell BK106.out 11).trans rfl; have hcz45_12 : w42.cell? ⟨gb106, 12, none⟩ = some (.int .u32 a1_12) := (blk_cell BK106.out 12).trans rfl; have hcz45_13 : w42.cell? ⟨gb106, 13, none⟩ = some (.int .i64 a1_13) := (blk_cell BK106.out 13).trans rfl; have hcz45_14 : w42.cell? ⟨gb106, 14, none⟩ = some (.bool a1_14) := (blk_cell BK106.out 14).trans rfl; have hcz45_15 : w42.cell? ⟨gb106, 15, none⟩ = some (.slice A1_15 l1_15.length c1_15) := (blk_cell BK106.out 15).trans rfl; have hcz45_16 : w42.cell? ⟨gb106, 16, none⟩ = some (.slice A1_16 l1_16.length c1_16) := (blk_cell BK106.out 16).trans rfl; have hfz45_0 := blk_frozen BK106.out 0; have hfz45_1 := blk_frozen BK106.out 1; have hfz45_2 := blk_frozen BK106.out 2; have hfz45_3 := blk_frozen BK106.out 3; have hfz45_4 := blk_frozen BK106.out 4; have hfz45_5 := blk_frozen BK106.out 5; have hfz45_6 := blk_frozen BK106.out 6; have hfz45_7 := blk_frozen BK106.out 7; have hfz45_8 := blk_frozen BK106.out 8; have hfz45_9 := blk_frozen BK106.out 9; have hfz45_10 := blk_frozen BK106.out 10; have hfz45_11 := blk_frozen BK106.out 11; have hfz45_12 := blk_frozen BK106.out 12; have hfz45_13 := blk_frozen BK106.out 13; have hfz45_14 := blk_frozen BK106.out 14; have hfz45_15 := blk_frozen BK106.out 15; have hfz45_16 := blk_frozen BK106.out 16) | ((with_reducible refine gate_callee (f := 30) rfl ?_); refine goesL_ (some 9) rfl rfl Try.func30 (by kernel_rfl) rfl #[.slice A0_15 l0_15.length c0_15, .slice A1_15 l1_15.length c1_15] rfl (by (try simp only [List.map_toArray, List.map_cons, List.map_nil]); first | done | rfl | (simp only [List.length_drop, List.length_take]; rfl)) ?_; (with_reducible refine (api_TxState.calls k _ _ l0_15 _ _ l1_15 true _ ?side1 ?side2 ?side3 ?side4 A3.out).mono ?_); (case side1 => repeat (first | exact (Kd.C_below HR0_15.out HB.out) | (with_reducible refine Kd.C_alloc ?_ _) | (with_reducible refine Kd.C_drewN ?_ _) | (with_reducible refine Kd.C_drew ?_))); (case side2 => exact HC0_15.out); (case side3 => repeat (first | exact (Kd.C_below HR1_15.out HB.out) | (with_reducible refine Kd.C_alloc ?_ _) | (with_reducible refine Kd.C_drewN ?_ _) | (with_reducible refine Kd.C_drew ?_))); (case side4 => exact HC1_15.out); rintro e w' ⟨rfl, ⟨nd, rfl⟩⟩; refine ⟨_, rfl, ?_⟩) | (go_at_call 31; (with_reducible refine (api_Dirty.calls k _ _ l0_16 _ _ l1_16 true _ ?side1 ?side2 ?side3 ?side4 A5.out).mono ?_); (case side1 => repeat (first | exact (Kd.C_below HR0_16.out (by repeat (first | (with_reducible first | exact HB.out | apply below_alloc | apply pw_below_drewN | apply below_drew1 | refine below_set ?_ GE105.out | refine below_set ?_ GE106.out) | exact HB.out))) | (with_reducible refine Kd.C_alloc ?_ _) | (with_reducible refine Kd.C_drewN ?_ _) | (with_reducible refine Kd.C_drew ?_))); (case side2 => exact HC0_16.out); (case side3 => repeat (first | exact (Kd.C_below HR1_16.out (by repeat (first | (with_reducible first | exact HB.out | apply below_alloc | apply pw_below_drewN | apply below_drew1 | refine below_set ?_ GE105.out | refine below_set ?_ GE106.out) | exact HB.out))) | (with_reducible refine Kd.C_alloc ?_ _) | (with_reducible refine Kd.C_drewN ?_ _) | (with_reducible refine Kd.C_drew ?_))); (case side4 => exact HC1_16.out); rintro e w' ⟨rfl, ⟨nd, rfl⟩⟩))
        go_ret
        exact ⟨by first | rfl | (simp [errW_none, errW_some] <;> rfl) | (simp [*, errW_none, errW_some] <;> rfl), by repeat (first | (with_reducible first | exact HB.out | apply below_alloc | apply pw_below_drewN | apply below_drew1 | refine below_set ?_ GE105.out | refine below_set ?_ GE106.out) | exact HB.out)⟩
      ·rw [if_neg c10] at H
       have c10b0 : (a0_3 == a1_3) = false := beq_eq_false_iff_ne.mpr c10
       have c10b1 : (a0_3 != a1_3) = true := bne_iff_ne.mpr c10
       obtain rfl := Option.some.inj H
       go_enter Try.func11, Try.ntmps11
       go_wp2_with (first | ((with_reducible refine gate_dst (N := 2) rfl ?_); refine box_event ?hg (N := 2) ?hd (cs := #[.int .i64 a0_0, .int .i64 a0_1, .int .u64 a0_2, .int .u64 a0_3, .int .u32 a0_4, .int .i64 a0_5, .int .i64 a0_6, .string a0_7, .string a0_8, .int .i64 a0_9, .int .i64 a0_10, .string a0_11, .int .u32 a0_12, .int .i64 a0_13, .bool a0_14, .slice A0_15 l0_15.length c0_15, .slice A0_16 l0_16.length c0_16]) (t := 35) ?hr ?_; (case hd => rfl); (case hg => rfl); (case hr => first | (go_simp; done) | (go_simp; rfl)); intro gb105 hg w46 hbox hb; have n0_ := Aside0.mk (below_step (by repeat (first | (with_reducible first | exact HB.out | apply below_alloc | apply pw_below_drewN | apply below_drew1) | exact HB.out)) hb); have n1_ := Aside0.mk (hbox); have n2_ := Aside0.mk ((by rw [hg]; exact (below_size (by repeat (first | (with_reducible first | exact HB.out | apply below_alloc | apply pw_below_drewN | apply below_drew1) | exact HB.out))) : w.heap.size ≤ gb105)); have n3_ := Aside0.mk ((by rw [hg]; exact (below_size (by repeat (first | (with_reducible first | exact HB.out | apply below_alloc | apply pw_below_drewN | apply below_drew1) | exact HB.out))) : w.heap.size ≤ gb105)); clear HB; have HB := n0_; have BK105 := n1_; have GW105 := n2_; have GE105 := n3_; clear n0_ n1_ n2_ n3_; clear hb hbox hg) | ((with_reducible refine gate_dst (N := 3) rfl ?_); refine box_event ?hg (N := 3) ?hd (cs := #[.int .i64 a1_0, .int .i64 a1_1, .int .u64 a1_2, .int .u64 a1_3, .int .u32 a1_4, .int .i64 a1_5, .int .i64 a1_6, .string a1_7, .string a1_8, .int .i64 a1_9, .int .i64 a1_10, .string a1_11, .int .u32 a1_12, .int .i64 a1_13, .bool a1_14, .slice A1_15 l1_15.length c1_15, .slice A1_16 l1_16.length c1_16]) (t := 35) ?hr ?_; (case hd => rfl); (case hg => rfl); (case hr => first | (go_simp; done) | (go_simp; rfl)); intro gb106 hg w47 hbox hb; have n0_ := Aside0.mk (blk_below (g := gb105) (o := .cells #[.int .i64 a0_0, .int .i64 a0_1, .int .u64 a0_2, .int .u64 a0_3, .int .u32 a0_4, .int .i64 a0_5, .int .i64 a0_6, .string a0_7, .string a0_8, .int .i64 a0_9, .int .i64 a0_10, .string a0_11, .int .u32 a0_12, .int .i64 a0_13, .bool a0_14, .slice A0_15 l0_15.length c0_15, .slice A0_16 l0_16.length c0_16] 35 (0, 0)) (by (with_reducible repeat (first | refine blk_drewN ?_ _ | refine blk_drew ?_ | refine blk_alloc ?_ _)); exact BK105.out) hb); have n1_ := Aside0.mk (below_step (by repeat (first | (with_reducible first | exact HB.out | apply below_alloc | apply pw_below_drewN | apply below_drew1 | refine below_set ?_ GE105.out) | exact HB.out)) hb); have n2_ := Aside0.mk (hbox); have n3_ := Aside0.mk ((by rw [hg]; exact (below_size (by repeat (first | (with_reducible first | exact HB.out | apply below_alloc | apply pw_below_drewN | apply below_drew1 | refine below_set ?_ GE105.out) | exact HB.out))) : w.heap.size ≤ gb106)); have n4_ := Aside0.mk ((by rw [hg]; exact (below_size (by repeat (first | (with_reducible first | exact HB.out | apply below_alloc | apply pw_below_drewN | apply below_drew1 | refine below_set ?_ GE105.out) | exact HB.out))) : w.heap.size ≤ gb106)); have n5_ := Aside0.mk ((by rw [hg]; exact Nat.ne_of_lt (blk_lt (g := gb105) (o := .cells #[.int .i64 a0_0, .int .i64 a0_1, .int .u64 a0_2, .int .u64 a0_3, .int .u32 a0_4, .int .i64 a0_5, .int .i64 a0_6, .string a0_7, .string a0_8, .int .i64 a0_9, .int .i64 a0_10, .string a0_11, .int .u32 a0_12, .int .i64 a0_13, .bool a0_14, .slice A0_15 l0_15.length c0_15, .slice A0_16 l0_16.length c0_16] 35 (0, 0)) (by (with_reducible repeat (first | refine blk_drewN ?_ _ | refine blk_drew ?_ | refine blk_alloc ?_ _)); exact BK105.out)) : gb105 ≠ gb106)); have n6_ := Aside0.mk ((by rw [hg]; exact Nat.ne_of_gt (blk_lt (g := gb105) (o := .cells #[.int .i64 a0_0, .int .i64 a0_1, .int .u64 a0_2, .int .u64 a0_3, .int .u32 a0_4, .int .i64 a0_5, .int .i64 a0_6, .string a0_7, .string a0_8, .int .i64 a0_9, .int .i64 a0_10, .string a0_11, .int .u32 a0_12, .int .i64 a0_13, .bool a0_14, .slice A0_15 l0_15.length c0_15, .slice A0_16 l0_16.length c0_16] 35 (0, 0)) (by (with_reducible repeat (first | refine blk_drewN ?_ _ | refine blk_drew ?_ | refine blk_alloc ?_ _)); exact BK105.out)) : gb106 ≠ gb105)); clear BK105; clear HB; have BK105 := n0_; have HB := n1_; have BK106 := n2_; have GW106 := n3_; have GE106 := n4_; have NB105_106 := n5_; have NB106_105 := n6_; clear n0_ n1_ n2_ n3_ n4_ n5_ n6_; clear hb hbox hg; have hnb48 := NB105_106.out; have hnc48 := NB106_105.out; have hcz49_0 : w47.cell? ⟨gb105, 0, none⟩ = some (.int .i64 a0_0) := (blk_cell BK105.out 0).trans rfl; have hcz49_1 : w47.cell? ⟨gb105, 1, none⟩ = some (.int .i64 a0_1) := (blk_cell BK105.out 1).trans rfl; have hcz49_2 : w47.cell? ⟨gb105, 2, none⟩ = some (.int .u64 a0_2) := (blk_cell BK105.out 2).trans rfl; have hcz49_3 : w47.cell? ⟨gb105, 3, none⟩ = some (.int .u64 a0_3) := (blk_cell BK105.out 3).trans rfl; have hcz49_4 : w47.cell? ⟨gb105, 4, none⟩ = some (.int .u32 a0_4) := (blk_cell BK105.out 4).trans rfl; have hcz49_5 : w47.cell? ⟨gb105, 5, none⟩ = some (.int .i64 a0_5) := (blk_cell BK105.out 5).trans rfl; have hcz49_6 : w47.cell? ⟨gb105, 6, none⟩ = some (.int .i64 a0_6) := (blk_cell BK105.out 6).trans rfl; have hcz49_7 : w47.cell? ⟨gb105, 7, none⟩ = some (.string a0_7) := (blk_cell BK105.out 7).trans rfl; have hcz49_8 : w47.cell? ⟨gb105, 8, none⟩ = some (.string a0_8) := (blk_cell BK105.out 8).trans rfl; have hcz49_9 : w47.cell? ⟨gb105, 9, none⟩ = some (.int .i64 a0_9) := (blk_cell BK105.out 9).trans rfl; have hcz49_10 : w47.cell? ⟨gb105, 10, none⟩ = some (.int .i64 a0_10) := (blk_cell BK105.out 10).trans rfl; have hcz49_11 : w47.cell? ⟨gb105, 11, none⟩ = some (.string a0_11) := (blk_cell BK105.out 11).trans rfl; have hcz49_12 : w47.cell? ⟨gb105, 12, none⟩ = some (.int .u32 a0_12) := (blk_cell BK105.out 12).trans rfl; have hcz49_13 : w47.cell? ⟨gb105, 13, none⟩ = some (.int .i64 a0_13) := (blk_cell BK105.out 13).trans rfl; have hcz49_14 : w47.cell? ⟨gb105, 14, none⟩ = some (.bool a0_14) := (blk_cell BK105.out 14).trans rfl; have hcz49_15 : w47.cell? ⟨gb105, 15, none⟩ = some (.slice A0_15 l0_15.length c0_15) := (blk_cell BK105.out 15).trans rfl; have hcz49_16 : w47.cell? ⟨gb105, 16, none⟩ = some (.slice A0_16 l0_16.length c0_16) := (blk_cell BK105.out 16).trans rfl; have hfz49_0 := blk_frozen BK105.out 0; have hfz49_1 := blk_frozen BK105.out 1; have hfz49_2 := blk_frozen BK105.out 2; have hfz49_3 := blk_frozen BK105.out 3; have hfz49_4 := blk_frozen BK105.out 4; have hfz49_5 := blk_frozen BK105.out 5; have hfz49_6 := blk_frozen BK105.out 6; have hfz49_7 := blk_frozen BK105.out 7; have hfz49_8 := blk_frozen BK105.out 8; have hfz49_9 := blk_frozen BK105.out 9; have hfz49_10 := blk_frozen BK105.out 10; have hfz49_11 := blk_frozen BK105.out 11; have hfz49_12 := blk_frozen BK105.out 12; have hfz49_13 := blk_frozen BK105.out 13; have hfz49_14 := blk_frozen BK105.out 14; have hfz49_15 := blk_frozen BK105.out 15; have hfz49_16 := blk_frozen BK105.out 16; have hcz50_0 : w47.cell? ⟨gb106, 0, none⟩ = some (.int .i64 a1_0) := (blk_cell BK106.out 0).trans rfl; have hcz50_1 : w47.cell? ⟨gb106, 1, none⟩ = some (.int .i64 a1_1) := (blk_cell BK106.out 1).trans rfl; have hcz50_2 : w47.cell? ⟨gb106, 2, none⟩ = some (.int .u64 a1_2) := (blk_cell BK106.out 2).trans rfl; have hcz50_3 : w47.cell? ⟨gb106, 3, none⟩ = some (.int .u64 a1_3) := (blk_cell BK106.out 3).trans rfl; have hcz50_4 : w47.cell? ⟨gb106, 4, none⟩ = some (.int .u32 a1_4) := (blk_cell BK106.out 4).trans rfl; have hcz50_5 : w47.cell? ⟨gb106, 5, none⟩ = some (.int .i64 a1_5) := (blk_cell BK106.out 5).trans rfl; have hcz50_6 : w47.cell? ⟨gb106, 6, none⟩ = some (.int .i64 a1_6) := (blk_cell BK106.out 6).trans rfl; have hcz50_7 : w47.cell? ⟨gb106, 7, none⟩ = some (.string a1_7) := (blk_cell BK106.out 7).trans rfl; have hcz50_8 : w47.cell? ⟨gb106, 8, none⟩ = some (.string a1_8) := (blk_cell BK106.out 8).trans rfl; have hcz50_9 : w47.cell? ⟨gb106, 9, none⟩ = some (.int .i64 a1_9) := (blk_cell BK106.out 9).trans rfl; have hcz50_10 : w47.cell? ⟨gb106, 10, none⟩ = some (.int .i64 a1_10) := (blk_cell BK106.out 10).trans rfl; have hcz50_11 : w47.cell? ⟨gb106, 11, none⟩ = some (.string a1_11) := (blk_cell BK106.out 11).trans rfl; have hcz50_12 : w47.cell? ⟨gb106, 12, none⟩ = some (.int .u32 a1_12) := (blk_cell BK106.out 12).trans rfl; have hcz50_13 : w47.cell? ⟨gb106, 13, none⟩ = some (.int .i64 a1_13) := (blk_cell BK106.out 13).trans rfl; have hcz50_14 : w47.cell? ⟨gb106, 14, none⟩ = some (.bool a1_14) := (blk_cell BK106.out 14).trans rfl; have hcz50_15 : w47.cell? ⟨gb106, 15, none⟩ = some (.slice A1_15 l1_15.length c1_15) := (blk_cell BK106.out 15).trans rfl; have hcz50_16 : w47.cell? ⟨gb106, 16, none⟩ = some (.slice A1_16 l1_16.length c1_16) := (blk_cell BK106.out 16).trans rfl; have hfz50_0 := blk_frozen BK106.out 0; have hfz50_1 := blk_frozen BK106.out 1; have hfz50_2 := blk_frozen BK106.out 2; have hfz50_3 := blk_frozen BK106.out 3; have hfz50_4 := blk_frozen BK106.out 4; have hfz50_5 := blk_frozen BK106.out 5; have hfz50_6 := blk_frozen BK106.out 6; have hfz50_7 := blk_frozen BK106.out 7; have hfz50_8 := blk_frozen BK106.out 8; have hfz50_9 := blk_frozen BK106.out 9; have hfz50_10 := blk_frozen BK106.out 10; have hfz50_11 := blk_frozen BK106.out 11; have hfz50_12 := blk_frozen BK106.out 12; have hfz50_13 := blk_frozen BK106.out 13; have hfz50_14 := blk_frozen BK106.out 14; have hfz50_15 := blk_frozen BK106.out 15; have hfz50_16 := blk_frozen BK106.out 16) | ((with_reducible refine gate_callee (f := 30) rfl ?_); refine goesL_ (some 9) rfl rfl Try.func30 (by kernel_rfl) rfl #[.slice A0_15 l0_15.length c0_15, .slice A1_15 l1_15.length c1_15] rfl (by (try simp only [List.map_toArray, List.map_cons, List.map_nil]); first | done | rfl | (simp only [List.length_drop, List.length_take]; rfl)) ?_; (with_reducible refine (api_TxState.calls k _ _ l0_15 _ _ l1_15 true _ ?side1 ?side2 ?side3 ?side4 A3.out).mono ?_); (case side1 => repeat (first | exact (Kd.C_below HR0_15.out HB.out) | (with_reducible refine Kd.C_alloc ?_ _) | (with_reducible refine Kd.C_drewN ?_ _) | (with_reducible refine Kd.C_drew ?_))); (case side2 => exact HC0_15.out); (case side3 => repeat (first | exact (Kd.C_below HR1_15.out HB.out) | (with_reducible refine Kd.C_alloc ?_ _) | (with_reducible refine Kd.C_drewN ?_ _) | (with_reducible refine Kd.C_drew ?_))); (case side4 => exact HC1_15.out); rintro e w' ⟨rfl, ⟨nd, rfl⟩⟩; refine ⟨_, rfl, ?_⟩) | (go_at_call 31; (with_reducible refine (api_Dirty.calls k _ _ l0_16 _ _ l1_16 true _ ?side1 ?side2 ?side3 ?side4 A5.out).mono ?_); (case side1 => repeat (first | exact (Kd.C_below HR0_16.out (by repeat (first | (with_reducible first | exact HB.out | apply below_alloc | apply pw_below_drewN | apply below_drew1 | refine below_set ?_ GE105.out | refine below_set ?_ GE106.out) | exact HB.out))) | (with_reducible refine Kd.C_alloc ?_ _) | (with_reducible refine Kd.C_drewN ?_ _) | (with_reducible refine Kd.C_drew ?_))); (case side2 => exact HC0_16.out); (case side3 => repeat (first | exact (Kd.C_below HR1_16.out (by repeat (first | (with_reducible first | exact HB.out | apply below_alloc | apply pw_below_drewN | apply below_drew1 | refine below_set ?_ GE105.out | refine below_set ?_ GE106.out) | exact HB.out))) | (with_reducible refine Kd.C_alloc ?_ _) | (with_reducible refine Kd.C_drewN ?_ _) | (with_reducible refine Kd.C_drew ?_))); (case side4 => exact HC1_16.out); rintro e w' ⟨rfl, ⟨nd, rfl⟩⟩))
       go_ret
       exact ⟨by first | rfl | (simp [errW_none, errW_some] <;> rfl) | (simp [*, errW_none, errW_some] <;> rfl), by repeat (first | (with_reducible first | exact HB.out | apply below_alloc | apply pw_below_drewN | apply below_drew1 | refine below_set ?_ GE105.out | refine below_set ?_ GE106.out) | exact HB.out)⟩
     ·rw [if_neg c9] at H
      have c9b0 : (a0_2 == a1_2) = false := beq_eq_false_iff_ne.mpr c9
      have c9b1 : (a0_2 != a1_2) = true := bne_iff_ne.mpr c9
      obtain rfl := Option.some.inj H
      go_enter Try.func11, Try.ntmps11
      go_wp2_with (first | ((with_reducible refine gate_dst (N := 2) rfl ?_); refine box_event ?hg (N := 2) ?hd (cs := #[.int .i64 a0_0, .int .i64 a0_1, .int .u64 a0_2, .int .u64 a0_3, .int .u32 a0_4, .int .i64 a0_5, .int .i64 a0_6, .string a0_7, .string a0_8, .int .i64 a0_9, .int .i64 a0_10, .string a0_11, .int .u32 a0_12, .int .i64 a0_13, .bool a0_14, .slice A0_15 l0_15.length c0_15, .slice A0_16 l0_16.length c0_16]) (t := 35) ?hr ?_; (case hd => rfl); (case hg => rfl); (case hr => first | (go_simp; done) | (go_simp; rfl)); intro gb105 hg w51 hbox hb; have n0_ := Aside0.mk (below_step (by repeat (first | (with_reducible first | exact HB.out | apply below_alloc | apply pw_below_drewN | apply below_drew1) | exact HB.out)) hb); have n1_ := Aside0.mk (hbox); have n2_ := Aside0.mk ((by rw [hg]; exact (below_size (by repeat (first | (with_reducible first | exact HB.out | apply below_alloc | apply pw_below_drewN | apply below_drew1) | exact HB.out))) : w.heap.size ≤ gb105)); have n3_ := Aside0.mk ((by rw [hg]; exact (below_size (by repeat (first | (with_reducible first | exact HB.out | apply below_alloc | apply pw_below_drewN | apply below_drew1) | exact HB.out))) : w.heap.size ≤ gb105)); clear HB; have HB := n0_; have BK105 := n1_; have GW105 := n2_; have GE105 := n3_; clear n0_ n1_ n2_ n3_; clear hb hbox hg) | ((with_reducible refine gate_dst (N := 3) rfl ?_); refine box_event ?hg (N := 3) ?hd (cs := #[.int .i64 a1_0, .int .i64 a1_1, .int .u64 a1_2, .int .u64 a1_3, .int .u32 a1_4, .int .i64 a1_5, .int .i64 a1_6, .string a1_7, .string a1_8, .int .i64 a1_9, .int .i64 a1_10, .string a1_11, .int .u32 a1_12, .int .i64 a1_13, .bool a1_14, .slice A1_15 l1_15.length c1_15, .slice A1_16 l1_16.length c1_16]) (t := 35) ?hr ?_; (case hd => rfl); (case hg => rfl); (case hr => first | (go_simp; done) | (go_simp; rfl)); intro gb106 hg w52 hbox hb; have n0_ := Aside0.mk (blk_below (g := gb105) (o := .cells #[.int .i64 a0_0, .int .i64 a0_1, .int .u64 a0_2, .int .u64 a0_3, .int .u32 a0_4, .int .i64 a0_5, .int .i64 a0_6, .string a0_7, .string a0_8, .int .i64 a0_9, .int .i64 a0_10, .string a0_11, .int .u32 a0_12, .int .i64 a0_13, .bool a0_14, .slice A0_15 l0_15.length c0_15, .slice A0_16 l0_16.length c0_16] 35 (0, 0)) (by (with_reducible repeat (first | refine blk_drewN ?_ _ | refine blk_drew ?_ | refine blk_alloc ?_ _)); exact BK105.out) hb); have n1_ := Aside0.mk (below_step (by repeat (first | (with_reducible first | exact HB.out | apply below_alloc | apply pw_below_drewN | apply below_drew1 | refine below_set ?_ GE105.out) | exact HB.out)) hb); have n2_ := Aside0.mk (hbox); have n3_ := Aside0.mk ((by rw [hg]; exact (below_size (by repeat (first | (with_reducible first | exact HB.out | apply below_alloc | apply pw_below_drewN | apply below_drew1 | refine below_set ?_ GE105.out) | exact HB.out))) : w.heap.size ≤ gb106)); have n4_ := Aside0.mk ((by rw [hg]; exact (below_size (by repeat (first | (with_reducible first | exact HB.out | apply below_alloc | apply pw_below_drewN | apply below_drew1 | refine below_set ?_ GE105.out) | exact HB.out))) : w.heap.size ≤ gb106)); have n5_ := Aside0.mk ((by rw [hg]; exact Nat.ne_of_lt (blk_lt (g := gb105) (o := .cells #[.int .i64 a0_0, .int .i64 a0_1, .int .u64 a0_2, .int .u64 a0_3, .int .u32 a0_4, .int .i64 a0_5, .int .i64 a0_6, .string a0_7, .string a0_8, .int .i64 a0_9, .int .i64 a0_10, .string a0_11, .int .u32 a0_12, .int .i64 a0_13, .bool a0_14, .slice A0_15 l0_15.length c0_15, .slice A0_16 l0_16.length c0_16] 35 (0, 0)) (by (with_reducible repeat (first | refine blk_drewN ?_ _ | refine blk_drew ?_ | refine blk_alloc ?_ _)); exact BK105.out)) : gb105 ≠ gb106)); have n6_ := Aside0.mk ((by rw [hg]; exact Nat.ne_of_gt (blk_lt (g := gb105) (o := .cells #[.int .i64 a0_0, .int .i64 a0_1, .int .u64 a0_2, .int .u64 a0_3, .int .u32 a0_4, .int .i64 a0_5, .int .i64 a0_6, .string a0_7, .string a0_8, .int .i64 a0_9, .int .i64 a0_10, .string a0_11, .int .u32 a0_12, .int .i64 a0_13, .bool a0_14, .slice A0_15 l0_15.length c0_15, .slice A0_16 l0_16.length c0_16] 35 (0, 0)) (by (with_reducible repeat (first | refine blk_drewN ?_ _ | refine blk_drew ?_ | refine blk_alloc ?_ _)); exact BK105.out)) : gb106 ≠ gb105)); clear BK105; clear HB; have BK105 := n0_; have HB := n1_; have BK106 := n2_; have GW106 := n3_; have GE106 := n4_; have NB105_106 := n5_; have NB106_105 := n6_; clear n0_ n1_ n2_ n3_ n4_ n5_ n6_; clear hb hbox hg; have hnb53 := NB105_106.out; have hnc53 := NB106_105.out; have hcz54_0 : w52.cell? ⟨gb105, 0, none⟩ = some (.int .i64 a0_0) := (blk_cell BK105.out 0).trans rfl; have hcz54_1 : w52.cell? ⟨gb105, 1, none⟩ = some (.int .i64 a0_1) := (blk_cell BK105.out 1).trans rfl; have hcz54_2 : w52.cell? ⟨gb105, 2, none⟩ = some (.int .u64 a0_2) := (blk_cell BK105.out 2).trans rfl; have hcz54_3 : w52.cell? ⟨gb105, 3, none⟩ = some (.int .u64 a0_3) := (blk_cell BK105.out 3).trans rfl; have hcz54_4 : w52.cell? ⟨gb105, 4, none⟩ = some (.int .u32 a0_4) := (blk_cell BK105.out 4).trans rfl; have hcz54_5 : w52.cell? ⟨gb105, 5, none⟩ = some (.int .i64 a0_5) := (blk_cell BK105.out 5).trans rfl; have hcz54_6 : w52.cell? ⟨gb105, 6, none⟩ = some (.int .i64 a0_6) := (blk_cell BK105.out 6).trans rfl; have hcz54_7 : w52.cell? ⟨gb105, 7, none⟩ = some (.string a0_7) := (blk_cell BK105.out 7).trans rfl; have hcz54_8 : w52.cell? ⟨gb105, 8, none⟩ = some (.string a0_8) := (blk_cell BK105.out 8).trans rfl; have hcz54_9 : w52.cell? ⟨gb105, 9, none⟩ = some (.int .i64 a0_9) := (blk_cell BK105.out 9).trans rfl; have hcz54_10 : w52.cell? ⟨gb105, 10, none⟩ = some (.int .i64 a0_10) := (blk_cell BK105.out 10).trans rfl; have hcz54_11 : w52.cell? ⟨gb105, 11, none⟩ = some (.string a0_11) := (blk_cell BK105.out 11).trans rfl; have hcz54_12 : w52.cell? ⟨gb105, 12, none⟩ = some (.int .u32 a0_12) := (blk_cell BK105.out 12).trans rfl; have hcz54_13 : w52.cell? ⟨gb105, 13, none⟩ = some (.int .i64 a0_13) := (blk_cell BK105.out 13).trans rfl; have hcz54_14 : w52.cell? ⟨gb105, 14, none⟩ = some (.bool a0_14) := (blk_cell BK105.out 14).trans rfl; have hcz54_15 : w52.cell? ⟨gb105, 15, none⟩ = some (.slice A0_15 l0_15.length c0_15) := (blk_cell BK105.out 15).trans rfl; have hcz54_16 : w52.cell? ⟨gb105, 16, none⟩ = some (.slice A0_16 l0_16.length c0_16) := (blk_cell BK105.out 16).trans rfl; have hfz54_0 := blk_frozen BK105.out 0; have hfz54_1 := blk_frozen BK105.out 1; have hfz54_2 := blk_frozen BK105.out 2; have hfz54_3 := blk_frozen BK105.out 3; have hfz54_4 := blk_frozen BK105.out 4; have hfz54_5 := blk_frozen BK105.out 5; have hfz54_6 := blk_frozen BK105.out 6; have hfz54_7 := blk_frozen BK105.out 7; have hfz54_8 := blk_frozen BK105.out 8; have hfz54_9 := blk_frozen BK105.out 9; have hfz54_10 := blk_frozen BK105.out 10; have hfz54_11 := blk_frozen BK105.out 11; have hfz54_12 := blk_frozen BK105.out 12; have hfz54_13 := blk_frozen BK105.out 13; have hfz54_14 := blk_frozen BK105.out 14; have hfz54_15 := blk_frozen BK105.out 15; have hfz54_16 := blk_frozen BK105.out 16; have hcz55_0 : w52.cell? ⟨gb106, 0, none⟩ = some (.int .i64 a1_0) := (blk_cell BK106.out 0).trans rfl; have hcz55_1 : w52.cell? ⟨gb106, 1, none⟩ = some (.int .i64 a1_1) := (blk_cell BK106.out 1).trans rfl; have hcz55_2 : w52.cell? ⟨gb106, 2, none⟩ = some (.int .u64 a1_2) := (blk_cell BK106.out 2).trans rfl; have hcz55_3 : w52.cell? ⟨gb106, 3, none⟩ = some (.int .u64 a1_3) := (blk_cell BK106.out 3).trans rfl; have hcz55_4 : w52.cell? ⟨gb106, 4, none⟩ = some (.int .u32 a1_4) := (blk_cell BK106.out 4).trans rfl; have hcz55_5 : w52.cell? ⟨gb106, 5, none⟩ = some (.int .i64 a1_5) := (blk_cell BK106.out 5).trans rfl; have hcz55_6 : w52.cell? ⟨gb106, 6, none⟩ = some (.int .i64 a1_6) := (blk_cell BK106.out 6).trans rfl; have hcz55_7 : w52.cell? ⟨gb106, 7, none⟩ = some (.string a1_7) := (blk_cell BK106.out 7).trans rfl; have hcz55_8 : w52.cell? ⟨gb106, 8, none⟩ = some (.string a1_8) := (blk_cell BK106.out 8).trans rfl; have hcz55_9 : w52.cell? ⟨gb106, 9, none⟩ = some (.int .i64 a1_9) := (blk_cell BK106.out 9).trans rfl; have hcz55_10 : w52.cell? ⟨gb106, 10, none⟩ = some (.int .i64 a1_10) := (blk_cell BK106.out 10).trans rfl; have hcz55_11 : w52.cell? ⟨gb106, 11, none⟩ = some (.string a1_11) := (blk_cell BK106.out 11).trans rfl; have hcz55_12 : w52.cell? ⟨gb106, 12, none⟩ = some (.int .u32 a1_12) := (blk_cell BK106.out 12).trans rfl; have hcz55_13 : w52.cell? ⟨gb106, 13, none⟩ = some (.int .i64 a1_13) := (blk_cell BK106.out 13).trans rfl; have hcz55_14 : w52.cell? ⟨gb106, 14, none⟩ = some (.bool a1_14) := (blk_cell BK106.out 14).trans rfl; have hcz55_15 : w52.cell? ⟨gb106, 15, none⟩ = some (.slice A1_15 l1_15.length c1_15) := (blk_cell BK106.out 15).trans rfl; have hcz55_16 : w52.cell? ⟨gb106, 16, none⟩ = some (.slice A1_16 l1_16.length c1_16) := (blk_cell BK106.out 16).trans rfl; have hfz55_0 := blk_frozen BK106.out 0; have hfz55_1 := blk_frozen BK106.out 1; have hfz55_2 := blk_frozen BK106.out 2; have hfz55_3 := blk_frozen BK106.out 3; have hfz55_4 := blk_frozen BK106.out 4; have hfz55_5 := blk_frozen BK106.out 5; have hfz55_6 := blk_frozen BK106.out 6; have hfz55_7 := blk_frozen BK106.out 7; have hfz55_8 := blk_frozen BK106.out 8; have hfz55_9 := blk_frozen BK106.out 9; have hfz55_10 := blk_frozen BK106.out 10; have hfz55_11 := blk_frozen BK106.out 11; have hfz55_12 := blk_frozen BK106.out 12; have hfz55_13 := blk_frozen BK106.out 13; have hfz55_14 := blk_frozen BK106.out 14; have hfz55_15 := blk_frozen BK106.out 15; have hfz55_16 := blk_frozen BK106.out 16) | ((with_reducible refine gate_callee (f := 30) rfl ?_); refine goesL_ (some 9) rfl rfl Try.func30 (by kernel_rfl) rfl #[.slice A0_15 l0_15.length c0_15, .slice A1_15 l1_15.length c1_15] rfl (by (try simp only [List.map_toArray, List.map_cons, List.map_nil]); first | done | rfl | (simp only [List.length_drop, List.length_take]; rfl)) ?_; (with_reducible refine (api_TxState.calls k _ _ l0_15 _ _ l1_15 true _ ?side1 ?side2 ?side3 ?side4 A3.out).mono ?_); (case side1 => repeat (first | exact (Kd.C_below HR0_15.out HB.out) | (with_reducible refine Kd.C_alloc ?_ _) | (with_reducible refine Kd.C_drewN ?_ _) | (with_reducible refine Kd.C_drew ?_))); (case side2 => exact HC0_15.out); (case side3 => repeat (first | exact (Kd.C_below HR1_15.out HB.out) | (with_reducible refine Kd.C_alloc ?_ _) | (with_reducible refine Kd.C_drewN ?_ _) | (with_reducible refine Kd.C_drew ?_))); (case side4 => exact HC1_15.out); rintro e w' ⟨rfl, ⟨nd, rfl⟩⟩; refine ⟨_, rfl, ?_⟩) | (go_at_call 31; (with_reducible refine (api_Dirty.calls k _ _ l0_16 _ _ l1_16 true _ ?side1 ?side2 ?side3 ?side4 A5.out).mono ?_); (case side1 => repeat (first | exact (Kd.C_below HR0_16.out (by repeat (first | (with_reducible first | exact HB.out | apply below_alloc | apply pw_below_drewN | apply below_drew1 | refine below_set ?_ GE105.out | refine below_set ?_ GE106.out) | exact HB.out))) | (with_reducible refine Kd.C_alloc ?_ _) | (with_reducible refine Kd.C_drewN ?_ _) | (with_reducible refine Kd.C_drew ?_))); (case side2 => exact HC0_16.out); (case side3 => repeat (first | exact (Kd.C_below HR1_16.out (by repeat (first | (with_reducible first | exact HB.out | apply below_alloc | apply pw_below_drewN | apply below_drew1 | refine below_set ?_ GE105.out | refine below_set ?_ GE106.out) | exact HB.out))) | (with_reducible refine Kd.C_alloc ?_ _) | (with_reducible refine Kd.C_drewN ?_ _) | (with_reducible refine Kd.C_drew ?_))); (case side4 => exact HC1_16.out); rintro e w' ⟨rfl, ⟨nd, rfl⟩⟩))
      go_ret
      exact ⟨by first | rfl | (simp [errW_none, errW_some] <;> rfl) | (simp [*, errW_none, errW_some] <;> rfl), by repeat (first | (with_reducible first | exact HB.out | apply below_alloc | apply pw_below_drewN | apply below_drew1 | refine below_set ?_ GE105.out | refine below_set ?_ GE106.out) | exact HB.out)⟩
    ·rw [if_neg c8] at H
     have c8b0 : (a0_1 == a1_1) = false := beq_eq_false_iff_ne.mpr c8
     have c8b1 : (a0_1 != a1_1) = true := bne_iff_ne.mpr c8
     obtain rfl := Option.some.inj H
     go_enter Try.func11, Try.ntmps11
     go_wp2_with (first | ((with_reducible refine gate_dst (N := 2) rfl ?_); refine box_event ?hg (N := 2) ?hd (cs := #[.int .i64 a0_0, .int .i64 a0_1, .int .u64 a0_2, .int .u64 a0_3, .int .u32 a0_4, .int .i64 a0_5, .int .i64 a0_6, .string a0_7, .string a0_8, .int .i64 a0_9, .int .i64 a0_10, .string a0_11, .int .u32 a0_12, .int .i64 a0_13, .bool a0_14, .slice A0_15 l0_15.length c0_15, .slice A0_16 l0_16.length c0_16]) (t := 35) ?hr ?_; (case hd => rfl); (case hg => rfl); (case hr => first | (go_simp; done) | (go_simp; rfl)); intro gb105 hg w56 hbox hb; have n0_ := Aside0.mk (below_step (by repeat (first | (with_reducible first | exact HB.out | apply below_alloc | apply pw_below_drewN | apply below_drew1) | exact HB.out)) hb); have n1_ := Aside0.mk (hbox); have n2_ := Aside0.mk ((by rw [hg]; exact (below_size (by repeat (first | (with_reducible first | exact HB.out | apply below_alloc | apply pw_below_drewN | apply below_drew1) | exact HB.out))) : w.heap.size ≤ gb105)); have n3_ := Aside0.mk ((by rw [hg]; exact (below_size (by repeat (first | (with_reducible first | exact HB.out | apply below_alloc | apply pw_below_drewN | apply below_drew1) | exact HB.out))) : w.heap.size ≤ gb105)); clear HB; have HB := n0_; have BK105 := n1_; have GW105 := n2_; have GE105 := n3_; clear n0_ n1_ n2_ n3_; clear hb hbox hg) | ((with_reducible refine gate_dst (N := 3) rfl ?_); refine box_event ?hg (N := 3) ?hd (cs := #[.int .i64 a1_0, .int .i64 a1_1, .int .u64 a1_2, .int .u64 a1_3, .int .u32 a1_4, .int .i64 a1_5, .int .i64 a1_6, .string a1_7, .string a1_8, .int .i64 a1_9, .int .i64 a1_10, .string a1_11, .int .u32 a1_12, .int .i64 a1_13, .bool a1_14, .slice A1_15 l1_15.length c1_15, .slice A1_16 l1_16.length c1_16]) (t := 35) ?hr ?_; (case hd => rfl); (case hg => rfl); (case hr => first | (go_simp; done) | (go_simp; rfl)); intro gb106 hg w57 hbox hb; have n0_ := Aside0.mk (blk_below (g := gb105) (o := .cells #[.int .i64 a0_0, .int .i64 a0_1, .int .u64 a0_2, .int .u64 a0_3, .int .u32 a0_4, .int .i64 a0_5, .int .i64 a0_6, .string a0_7, .string a0_8, .int .i64 a0_9, .int .i64 a0_10, .string a0_11, .int .u32 a0_12, .int .i64 a0_13, .bool a0_14, .slice A0_15 l0_15.length c0_15, .slice A0_16 l0_16.length c0_16] 35 (0, 0)) (by (with_reducible repeat (first | refine blk_drewN ?_ _ | refine blk_drew ?_ | refine blk_alloc ?_ _)); exact BK105.out) hb); have n1_ := Aside0.mk (below_step (by repeat (first | (with_reducible first | exact HB.out | apply below_alloc | apply pw_below_drewN | apply below_drew1 | refine below_set ?_ GE105.out) | exact HB.out)) hb); have n2_ := Aside0.mk (hbox); have n3_ := Aside0.mk ((by rw [hg]; exact (below_size (by repeat (first | (with_reducible first | exact HB.out | apply below_alloc | apply pw_below_drewN | apply below_drew1 | refine below_set ?_ GE105.out) | exact HB.out))) : w.heap.size ≤ gb106)); have n4_ := Aside0.mk ((by rw [hg]; exact (below_size (by repeat (first | (with_reducible first | exact HB.out | apply below_alloc | apply pw_below_drewN | apply below_drew1 | refine below_set ?_ GE105.out) | exact HB.out))) : w.heap.size ≤ gb106)); have n5_ := Aside0.mk ((by rw [hg]; exact Nat.ne_of_lt (blk_lt (g := gb105) (o := .cells #[.int .i64 a0_0, .int .i64 a0_1, .int .u64 a0_2, .int .u64 a0_3, .int .u32 a0_4, .int .i64 a0_5, .int .i64 a0_6, .string a0_7, .string a0_8, .int .i64 a0_9, .int .i64 a0_10, .string a0_11, .int .u32 a0_12, .int .i64 a0_13, .bool a0_14, .slice A0_15 l0_15.length c0_15, .slice A0_16 l0_16.length c0_16] 35 (0, 0)) (by (with_reducible repeat (first | refine blk_drewN ?_ _ | refine blk_drew ?_ | refine blk_alloc ?_ _)); exact BK105.out)) : gb105 ≠ gb106)); have n6_ := Aside0.mk ((by rw [hg]; exact Nat.ne_of_gt (blk_lt (g := gb105) (o := .cells #[.int .i64 a0_0, .int .i64 a0_1, .int .u64 a0_2, .int .u64 a0_3, .int .u32 a0_4, .int .i64 a0_5, .int .i64 a0_6, .string a0_7, .string a0_8, .int .i64 a0_9, .int .i64 a0_10, .string a0_11, .int .u32 a0_12, .int .i64 a0_13, .bool a0_14, .slice A0_15 l0_15.length c0_15, .slice A0_16 l0_16.length c0_16] 35 (0, 0)) (by (with_reducible repeat (first | refine blk_drewN ?_ _ | refine blk_drew ?_ | refine blk_alloc ?_ _)); exact BK105.out)) : gb106 ≠ gb105)); clear BK105; clear HB; have BK105 := n0_; have HB := n1_; have BK106 := n2_; have GW106 := n3_; have GE106 := n4_; have NB105_106 := n5_; have NB106_105 := n6_; clear n0_ n1_ n2_ n3_ n4_ n5_ n6_; clear hb hbox hg; have hnb58 := NB105_106.out; have hnc58 := NB106_105.out; have hcz59_0 : w57.cell? ⟨gb105, 0, none⟩ = some (.int .i64 a0_0) := (blk_cell BK105.out 0).trans rfl; have hcz59_1 : w57.cell? ⟨gb105, 1, none⟩ = some (.int .i64 a0_1) := (blk_cell BK105.out 1).trans rfl; have hcz59_2 : w57.cell? ⟨gb105, 2, none⟩ = some (.int .u64 a0_2) := (blk_cell BK105.out 2).trans rfl; have hcz59_3 : w57.cell? ⟨gb105, 3, none⟩ = some (.int .u64 a0_3) := (blk_cell BK105.out 3).trans rfl; have hcz59_4 : w57.cell? ⟨gb105, 4, none⟩ = some (.int .u32 a0_4) := (blk_cell BK105.out 4).trans rfl; have hcz59_5 : w57.cell? ⟨gb105, 5, none⟩ = some (.int .i64 a0_5) := (blk_cell BK105.out 5).trans rfl; have hcz59_6 : w57.cell? ⟨gb105, 6, none⟩ = some (.int .i64 a0_6) := (blk_cell BK105.out 6).trans rfl; have hcz59_7 : w57.cell? ⟨gb105, 7, none⟩ = some (.string a0_7) := (blk_cell BK105.out 7).trans rfl; have hcz59_8 : w57.cell? ⟨gb105, 8, none⟩ = some (.string a0_8) := (blk_cell BK105.out 8).trans rfl; have hcz59_9 : w57.cell? ⟨gb105, 9, none⟩ = some (.int .i64 a0_9) := (blk_cell BK105.out 9).trans rfl; have hcz59_10 : w57.cell? ⟨gb105, 10, none⟩ = some (.int .i64 a0_10) := (blk_cell BK105.out 10).trans rfl; have hcz59_11 : w57.cell? ⟨gb105, 11, none⟩ = some (.string a0_11) := (blk_cell BK105.out 11).trans rfl; have hcz59_12 : w57.cell? ⟨gb105, 12, none⟩ = some (.int .u32 a0_12) := (blk_cell BK105.out 12).trans rfl; have hcz59_13 : w57.cell? ⟨gb105, 13, none⟩ = some (.int .i64 a0_13) := (blk_cell BK105.out 13).trans rfl; have hcz59_14 : w57.cell? ⟨gb105, 14, none⟩ = some (.bool a0_14) := (blk_cell BK105.out 14).trans rfl; have hcz59_15 : w57.cell? ⟨gb105, 15, none⟩ = some (.slice A0_15 l0_15.length c0_15) := (blk_cell BK105.out 15).trans rfl; have hcz59_16 : w57.cell? ⟨gb105, 16, none⟩ = some (.slice A0_16 l0_16.length c0_16) := (blk_cell BK105.out 16).trans rfl; have hfz59_0 := blk_frozen BK105.out 0; have hfz59_1 := blk_frozen BK105.out 1; have hfz59_2 := blk_frozen BK105.out 2; have hfz59_3 := blk_frozen BK105.out 3; have hfz59_4 := blk_frozen BK105.out 4; have hfz59_5 := blk_frozen BK105.out 5; have hfz59_6 := blk_frozen BK105.out 6; have hfz59_7 := blk_frozen BK105.out 7; have hfz59_8 := blk_frozen BK105.out 8; have hfz59_9 := blk_frozen BK105.out 9; have hfz59_10 := blk_frozen BK105.out 10; have hfz59_11 := blk_frozen BK105.out 11; have hfz59_12 := blk_frozen BK105.out 12; have hfz59_13 := blk_frozen BK105.out 13; have hfz59_14 := blk_frozen BK105.out 14; have hfz59_15 := blk_frozen BK105.out 15; have hfz59_16 := blk_frozen BK105.out 16; have hcz60_0 : w57.cell? ⟨gb106, 0, none⟩ = some (.int .i64 a1_0) := (blk_cell BK106.out 0).trans rfl; have hcz60_1 : w57.cell? ⟨gb106, 1, none⟩ = some (.int .i64 a1_1) := (blk_cell BK106.out 1).trans rfl; have hcz60_2 : w57.cell? ⟨gb106, 2, none⟩ = some (.int .u64 a1_2) := (blk_cell BK106.out 2).trans rfl; have hcz60_3 : w57.cell? ⟨gb106, 3, none⟩ = some (.int .u64 a1_3) := (blk_cell BK106.out 3).trans rfl; have hcz60_4 : w57.cell? ⟨gb106, 4, none⟩ = some (.int .u32 a1_4) := (blk_cell BK106.out 4).trans rfl; have hcz60_5 : w57.cell? ⟨gb106, 5, none⟩ = some (.int .i64 a1_5) := (blk_cell BK106.out 5).trans rfl; have hcz60_6 : w57.cell? ⟨gb106, 6, none⟩ = some (.int .i64 a1_6) := (blk_cell BK106.out 6).trans rfl; have hcz60_7 : w57.cell? ⟨gb106, 7, none⟩ = some (.string a1_7) := (blk_cell BK106.out 7).trans rfl; have hcz60_8 : w57.cell? ⟨gb106, 8, none⟩ = some (.string a1_8) := (blk_cell BK106.out 8).trans rfl; have hcz60_9 : w57.cell? ⟨gb106, 9, none⟩ = some (.int .i64 a1_9) := (blk_cell BK106.out 9).trans rfl; have hcz60_10 : w57.cell? ⟨gb106, 10, none⟩ = some (.int .i64 a1_10) := (blk_cell BK106.out 10).trans rfl; have hcz60_11 : w57.cell? ⟨gb106, 11, none⟩ = some (.string a1_11) := (blk_cell BK106.out 11).trans rfl; have hcz60_12 : w57.cell? ⟨gb106, 12, none⟩ = some (.int .u32 a1_12) := (blk_cell BK106.out 12).trans rfl; have hcz60_13 : w57.cell? ⟨gb106, 13, none⟩ = some (.int .i64 a1_13) := (blk_cell BK106.out 13).trans rfl; have hcz60_14 : w57.cell? ⟨gb106, 14, none⟩ = some (.bool a1_14) := (blk_cell BK106.out 14).trans rfl; have hcz60_15 : w57.cell? ⟨gb106, 15, none⟩ = some (.slice A1_15 l1_15.length c1_15) := (blk_cell BK106.out 15).trans rfl; have hcz60_16 : w57.cell? ⟨gb106, 16, none⟩ = some (.slice A1_16 l1_16.length c1_16) := (blk_cell BK106.out 16).trans rfl; have hfz60_0 := blk_frozen BK106.out 0; have hfz60_1 := blk_frozen BK106.out 1; have hfz60_2 := blk_frozen BK106.out 2; have hfz60_3 := blk_frozen BK106.out 3; have hfz60_4 := blk_frozen BK106.out 4; have hfz60_5 := blk_frozen BK106.out 5; have hfz60_6 := blk_frozen BK106.out 6; have hfz60_7 := blk_frozen BK106.out 7; have hfz60_8 := blk_frozen BK106.out 8; have hfz60_9 := blk_frozen BK106.out 9; have hfz60_10 := blk_frozen BK106.out 10; have hfz60_11 := blk_frozen BK106.out 11; have hfz60_12 := blk_frozen BK106.out 12; have hfz60_13 := blk_frozen BK106.out 13; have hfz60_14 := blk_frozen BK106.out 14; have hfz60_15 := blk_frozen BK106.out 15; have hfz60_16 := blk_frozen BK106.out 16) | ((with_reducible refine gate_callee (f := 30) rfl ?_); refine goesL_ (some 9) rfl rfl Try.func30 (by kernel_rfl) rfl #[.slice A0_15 l0_15.length c0_15, .slice A1_15 l1_15.length c1_15] rfl (by (try simp only [List.map_toArray, List.map_cons, List.map_nil]); first | done | rfl | (simp only [List.length_drop, List.length_take]; rfl)) ?_; (with_reducible refine (api_TxState.calls k _ _ l0_15 _ _ l1_15 true _ ?side1 ?side2 ?side3 ?side4 A3.out).mono ?_); (case side1 => repeat (first | exact (Kd.C_below HR0_15.out HB.out) | (with_reducible refine Kd.C_alloc ?_ _) | (with_reducible refine Kd.C_drewN ?_ _) | (with_reducible refine Kd.C_drew ?_))); (case side2 => exact HC0_15.out); (case side3 => repeat (first | exact (Kd.C_below HR1_15.out HB.out) | (with_reducible refine Kd.C_alloc ?_ _) | (with_reducible refine Kd.C_drewN ?_ _) | (with_reducible refine Kd.C_drew ?_))); (case side4 => exact HC1_15.out); rintro e w' ⟨rfl, ⟨nd, rfl⟩⟩; refine ⟨_, rfl, ?_⟩) | (go_at_call 31; (with_reducible refine (api_Dirty.calls k _ _ l0_16 _ _ l1_16 true _ ?side1 ?side2 ?side3 ?side4 A5.out).mono ?_); (case side1 => repeat (first | exact (Kd.C_below HR0_16.out (by repeat (first | (with_reducible first | exact HB.out | apply below_alloc | apply pw_below_drewN | apply below_drew1 | refine below_set ?_ GE105.out | refine below_set ?_ GE106.out) | exact HB.out))) | (with_reducible refine Kd.C_alloc ?_ _) | (with_reducible refine Kd.C_drewN ?_ _) | (with_reducible refine Kd.C_drew ?_))); (case side2 => exact HC0_16.out); (case side3 => repeat (first | exact (Kd.C_below HR1_16.out (by repeat (first | (with_reducible first | exact HB.out | apply below_alloc | apply pw_below_drewN | apply below_drew1 | refine below_set ?_ GE105.out | refine below_set ?_ GE106.out) | exact HB.out))) | (with_reducible refine Kd.C_alloc ?_ _) | (with_reducible refine Kd.C_drewN ?_ _) | (with_reducible refine Kd.C_drew ?_))); (case side4 => exact HC1_16.out); rintro e w' ⟨rfl, ⟨nd, rfl⟩⟩))
     go_ret
     exact ⟨by first | rfl | (simp [errW_none, errW_some] <;> rfl) | (simp [*, errW_none, errW_some] <;> rfl), by repeat (first | (with_reducible first | exact HB.out | apply below_alloc | apply pw_below_drewN | apply below_drew1 | refine below_set ?_ GE105.out | refine below_set ?_ GE106.out) | exact HB.out)⟩
   ·rw [if_neg c7] at H
    have c7b0 : (a0_0 == a1_0) = false := beq_eq_false_iff_ne.mpr c7
    have c7b1 : (a0_0 != a1_0) = true := bne_iff_ne.mpr c7
    obtain rfl := Option.some.inj H
    go_enter Try.func11, Try.ntmps11
    go_wp2_with (first | ((with_reducible refine gate_dst (N := 2) rfl ?_); refine box_event ?hg (N := 2) ?hd (cs := #[.int .i64 a0_0, .int .i64 a0_1, .int .u64 a0_2, .int .u64 a0_3, .int .u32 a0_4, .int .i64 a0_5, .int .i64 a0_6, .string a0_7, .string a0_8, .int .i64 a0_9, .int .i64 a0_10, .string a0_11, .int .u32 a0_12, .int .i64 a0_13, .bool a0_14, .slice A0_15 l0_15.length c0_15, .slice A0_16 l0_16.length c0_16]) (t := 35) ?hr ?_; (case hd => rfl); (case hg => rfl); (case hr => first | (go_simp; done) | (go_simp; rfl)); intro gb105 hg w61 hbox hb; have n0_ := Aside0.mk (below_step (by repeat (first | (with_reducible first | exact HB.out | apply below_alloc | apply pw_below_drewN | apply below_drew1) | exact HB.out)) hb); have n1_ := Aside0.mk (hbox); have n2_ := Aside0.mk ((by rw [hg]; exact (below_size (by repeat (first | (with_reducible first | exact HB.out | apply below_alloc | apply pw_below_drewN | apply below_drew1) | exact HB.out))) : w.heap.size ≤ gb105)); have n3_ := Aside0.mk ((by rw [hg]; exact (below_size (by repeat (first | (with_reducible first | exact HB.out | apply below_alloc | apply pw_below_drewN | apply below_drew1) | exact HB.out))) : w.heap.size ≤ gb105)); clear HB; have HB := n0_; have BK105 := n1_; have GW105 := n2_; have GE105 := n3_; clear n0_ n1_ n2_ n3_; clear hb hbox hg) | ((with_reducible refine gate_dst (N := 3) rfl ?_); refine box_event ?hg (N := 3) ?hd (cs := #[.int .i64 a1_0, .int .i64 a1_1, .int .u64 a1_2, .int .u64 a1_3, .int .u32 a1_4, .int .i64 a1_5, .int .i64 a1_6, .string a1_7, .string a1_8, .int .i64 a1_9, .int .i64 a1_10, .string a1_11, .int .u32 a1_12, .int .i64 a1_13, .bool a1_14, .slice A1_15 l1_15.length c1_15, .slice A1_16 l1_16.length c1_16]) (t := 35) ?hr ?_; (case hd => rfl); (case hg => rfl); (case hr => first | (go_simp; done) | (go_simp; rfl)); intro gb106 hg w62 hbox hb; have n0_ := Aside0.mk (blk_below (g := gb105) (o := .cells #[.int .i64 a0_0, .int .i64 a0_1, .int .u64 a0_2, .int .u64 a0_3, .int .u32 a0_4, .int .i64 a0_5, .int .i64 a0_6, .string a0_7, .string a0_8, .int .i64 a0_9, .int .i64 a0_10, .string a0_11, .int .u32 a0_12, .int .i64 a0_13, .bool a0_14, .slice A0_15 l0_15.length c0_15, .slice A0_16 l0_16.length c0_16] 35 (0, 0)) (by (with_reducible repeat (first | refine blk_drewN ?_ _ | refine blk_drew ?_ | refine blk_alloc ?_ _)); exact BK105.out) hb); have n1_ := Aside0.mk (below_step (by repeat (first | (with_reducible first | exact HB.out | apply below_alloc | apply pw_below_drewN | apply below_drew1 | refine below_set ?_ GE105.out) | exact HB.out)) hb); have n2_ := Aside0.mk (hbox); have n3_ := Aside0.mk ((by rw [hg]; exact (below_size (by repeat (first | (with_reducible first | exact HB.out | apply below_alloc | apply pw_below_drewN | apply below_drew1 | refine below_set ?_ GE105.out) | exact HB.out))) : w.heap.size ≤ gb106)); have n4_ := Aside0.mk ((by rw [hg]; exact (below_size (by repeat (first | (with_reducible first | exact HB.out | apply below_alloc | apply pw_below_drewN | apply below_drew1 | refine below_set ?_ GE105.out) | exact HB.out))) : w.heap.size ≤ gb106)); have n5_ := Aside0.mk ((by rw [hg]; exact Nat.ne_of_lt (blk_lt (g := gb105) (o := .cells #[.int .i64 a0_0, .int .i64 a0_1, .int .u64 a0_2, .int .u64 a0_3, .int .u32 a0_4, .int .i64 a0_5, .int .i64 a0_6, .string a0_7, .string a0_8, .int .i64 a0_9, .int .i64 a0_10, .string a0_11, .int .u32 a0_12, .int .i64 a0_13, .bool a0_14, .slice A0_15 l0_15.length c0_15, .slice A0_16 l0_16.length c0_16] 35 (0, 0)) (by (with_reducible repeat (first | refine blk_drewN ?_ _ | refine blk_drew ?_ | refine blk_alloc ?_ _)); exact BK105.out)) : gb105 ≠ gb106)); have n6_ := Aside0.mk ((by rw [hg]; exact Nat.ne_of_gt (blk_lt (g := gb105) (o := .cells #[.int .i64 a0_0, .int .i64 a0_1, .int .u64 a0_2, .int .u64 a0_3, .int .u32 a0_4, .int .i64 a0_5, .int .i64 a0_6, .string a0_7, .string a0_8, .int .i64 a0_9, .int .i64 a0_10, .string a0_11, .int .u32 a0_12, .int .i64 a0_13, .bool a0_14, .slice A0_15 l0_15.length c0_15, .slice A0_16 l0_16.length c0_16] 35 (0, 0)) (by (with_reducible repeat (first | refine blk_drewN ?_ _ | refine blk_drew ?_ | refine blk_alloc ?_ _)); exact BK105.out)) : gb106 ≠ gb105)); clear BK105; clear HB; have BK105 := n0_; have HB := n1_; have BK106 := n2_; have GW106 := n3_; have GE106 := n4_; have NB105_106 := n5_; have NB106_105 := n6_; clear n0_ n1_ n2_ n3_ n4_ n5_ n6_; clear hb hbox hg; have hnb63 := NB105_106.out; have hnc63 := NB106_105.out; have hcz64_0 : w62.cell? ⟨gb105, 0, none⟩ = some (.int .i64 a0_0) := (blk_cell BK105.out 0).trans rfl; have hcz64_1 : w62.cell? ⟨gb105, 1, none⟩ = some (.int .i64 a0_1) := (blk_cell BK105.out 1).trans rfl; have hcz64_2 : w62.cell? ⟨gb105, 2, none⟩ = some (.int .u64 a0_2) := (blk_cell BK105.out 2).trans rfl; have hcz64_3 : w62.cell? ⟨gb105, 3, none⟩ = some (.int .u64 a0_3) := (blk_cell BK105.out 3).trans rfl; have hcz64_4 : w62.cell? ⟨gb105, 4, none⟩ = some (.int .u32 a0_4) := (blk_cell BK105.out 4).trans rfl; have hcz64_5 : w62.cell? ⟨gb105, 5, none⟩ = some (.int .i64 a0_5) := (blk_cell BK105.out 5).trans rfl; have hcz64_6 : w62.cell? ⟨gb105, 6, none⟩ = some (.int .i64 a0_6) := (blk_cell BK105.out 6).trans rfl; have hcz64_7 : w62.cell? ⟨gb105, 7, none⟩ = some (.string a0_7) := (blk_cell BK105.out 7).trans rfl; have hcz64_8 : w62.cell? ⟨gb105, 8, none⟩ = some (.string a0_8) := (blk_cell BK105.out 8).trans rfl; have hcz64_9 : w62.cell? ⟨gb105, 9, none⟩ = some (.int .i64 a0_9) := (blk_cell BK105.out 9).trans rfl; have hcz64_10 : w62.cell? ⟨gb105, 10, none⟩ = some (.int .i64 a0_10) := (blk_cell BK105.out 10).trans rfl; have hcz64_11 : w62.cell? ⟨gb105, 11, none⟩ = some (.string a0_11) := (blk_cell BK105.out 11).trans rfl; have hcz64_12 : w62.cell? ⟨gb105, 12, none⟩ = some (.int .u32 a0_12) := (blk_cell BK105.out 12).trans rfl; have hcz64_13 : w62.cell? ⟨gb105, 13, none⟩ = some (.int .i64 a0_13) := (blk_cell BK105.out 13).trans rfl; have hcz64_14 : w62.cell? ⟨gb105, 14, none⟩ = some (.bool a0_14) := (blk_cell BK105.out 14).trans rfl; have hcz64_15 : w62.cell? ⟨gb105, 15, none⟩ = some (.slice A0_15 l0_15.length c0_15) := (blk_cell BK105.out 15).trans rfl; have hcz64_16 : w62.cell? ⟨gb105, 16, none⟩ = some (.slice A0_16 l0_16.length c0_16) := (blk_cell BK105.out 16).trans rfl; have hfz64_0 := blk_frozen BK105.out 0; have hfz64_1 := blk_frozen BK105.out 1; have hfz64_2 := blk_frozen BK105.out 2; have hfz64_3 := blk_frozen BK105.out 3; have hfz64_4 := blk_frozen BK105.out 4; have hfz64_5 := blk_frozen BK105.out 5; have hfz64_6 := blk_frozen BK105.out 6; have hfz64_7 := blk_frozen BK105.out 7; have hfz64_8 := blk_frozen BK105.out 8; have hfz64_9 := blk_frozen BK105.out 9; have hfz64_10 := blk_frozen BK105.out 10; have hfz64_11 := blk_frozen BK105.out 11; have hfz64_12 := blk_frozen BK105.out 12; have hfz64_13 := blk_frozen BK105.out 13; have hfz64_14 := blk_frozen BK105.out 14; have hfz64_15 := blk_frozen BK105.out 15; have hfz64_16 := blk_frozen BK105.out 16; have hcz65_0 : w62.cell? ⟨gb106, 0, none⟩ = some (.int .i64 a1_0) := (blk_cell BK106.out 0).trans rfl; have hcz65_1 : w62.cell? ⟨gb106, 1, none⟩ = some (.int .i64 a1_1) := (blk_cell BK106.out 1).trans rfl; have hcz65_2 : w62.cell? ⟨gb106, 2, none⟩ = some (.int .u64 a1_2) := (blk_cell BK106.out 2).trans rfl; have hcz65_3 : w62.cell? ⟨gb106, 3, none⟩ = some (.int .u64 a1_3) := (blk_cell BK106.out 3).trans rfl; have hcz65_4 : w62.cell? ⟨gb106, 4, none⟩ = some (.int .u32 a1_4) := (blk_cell BK106.out 4).trans rfl; have hcz65_5 : w62.cell? ⟨gb106, 5, none⟩ = some (.int .i64 a1_5) := (blk_cell BK106.out 5).trans rfl; have hcz65_6 : w62.cell? ⟨gb106, 6, none⟩ = some (.int .i64 a1_6) := (blk_cell BK106.out 6).trans rfl; have hcz65_7 : w62.cell? ⟨gb106, 7, none⟩ = some (.string a1_7) := (blk_cell BK106.out 7).trans rfl; have hcz65_8 : w62.cell? ⟨gb106, 8, none⟩ = some (.string a1_8) := (blk_cell BK106.out 8).trans rfl; have hcz65_9 : w62.cell? ⟨gb106, 9, none⟩ = some (.int .i64 a1_9) := (blk_cell BK106.out 9).trans rfl; have hcz65_10 : w62.cell? ⟨gb106, 10, none⟩ = some (.int .i64 a1_10) := (blk_cell BK106.out 10).trans rfl; have hcz65_11 : w62.cell? ⟨gb106, 11, none⟩ = some (.string a1_11) := (blk_cell BK106.out 11).trans rfl; have hcz65_12 : w62.cell? ⟨gb106, 12, none⟩ = some (.int .u32 a1_12) := (blk_cell BK106.out 12).trans rfl; have hcz65_13 : w62.cell? ⟨gb106, 13, none⟩ = some (.int .i64 a1_13) := (blk_cell BK106.out 13).trans rfl; have hcz65_14 : w62.cell? ⟨gb106, 14, none⟩ = some (.bool a1_14) := (blk_cell BK106.out 14).trans rfl; have hcz65_15 : w62.cell? ⟨gb106, 15, none⟩ = some (.slice A1_15 l1_15.length c1_15) := (blk_cell BK106.out 15).trans rfl; have hcz65_16 : w62.cell? ⟨gb106, 16, none⟩ = some (.slice A1_16 l1_16.length c1_16) := (blk_cell BK106.out 16).trans rfl; have hfz65_0 := blk_frozen BK106.out 0; have hfz65_1 := blk_frozen BK106.out 1; have hfz65_2 := blk_frozen BK106.out 2; have hfz65_3 := blk_frozen BK106.out 3; have hfz65_4 := blk_frozen BK106.out 4; have hfz65_5 := blk_frozen BK106.out 5; have hfz65_6 := blk_frozen BK106.out 6; have hfz65_7 := blk_frozen BK106.out 7; have hfz65_8 := blk_frozen BK106.out 8; have hfz65_9 := blk_frozen BK106.out 9; have hfz65_10 := blk_frozen BK106.out 10; have hfz65_11 := blk_frozen BK106.out 11; have hfz65_12 := blk_frozen BK106.out 12; have hfz65_13 := blk_frozen BK106.out 13; have hfz65_14 := blk_frozen BK106.out 14; have hfz65_15 := blk_frozen BK106.out 15; have hfz65_16 := blk_frozen BK106.out 16) | ((with_reducible refine gate_callee (f := 30) rfl ?_); refine goesL_ (some 9) rfl rfl Try.func30 (by kernel_rfl) rfl #[.slice A0_15 l0_15.length c0_15, .slice A1_15 l1_15.length c1_15] rfl (by (try simp only [List.map_toArray, List.map_cons, List.map_nil]); first | done | rfl | (simp only [List.length_drop, List.length_take]; rfl)) ?_; (with_reducible refine (api_TxState.calls k _ _ l0_15 _ _ l1_15 true _ ?side1 ?side2 ?side3 ?side4 A3.out).mono ?_); (case side1 => repeat (first | exact (Kd.C_below HR0_15.out HB.out) | (with_reducible refine Kd.C_alloc ?_ _) | (with_reducible refine Kd.C_drewN ?_ _) | (with_reducible refine Kd.C_drew ?_))); (case side2 => exact HC0_15.out); (case side3 => repeat (first | exact (Kd.C_below HR1_15.out HB.out) | (with_reducible refine Kd.C_alloc ?_ _) | (with_reducible refine Kd.C_drewN ?_ _) | (with_reducible refine Kd.C_drew ?_))); (case side4 => exact HC1_15.out); rintro e w' ⟨rfl, ⟨nd, rfl⟩⟩; refine ⟨_, rfl, ?_⟩) | (go_at_call 31; (with_reducible refine (api_Dirty.calls k _ _ l0_16 _ _ l1_16 true _ ?side1 ?side2 ?side3 ?side4 A5.out).mono ?_); (case side1 => repeat (first | exact (Kd.C_below HR0_16.out (by repeat (first | (with_reducible first | exact HB.out | apply below_alloc | apply pw_below_drewN | apply below_drew1 | refine below_set ?_ GE105.out | refine below_set ?_ GE106.out) | exact HB.out))) | (with_reducible refine Kd.C_alloc ?_ _) | (with_reducible refine Kd.C_drewN ?_ _) | (with_reducible refine Kd.C_drew ?_))); (case side2 => exact HC0_16.out); (case side3 => repeat (first | exact (Kd.C_below HR1_16.out (by repeat (first | (with_reducible first | exact HB.out | apply below_alloc | apply pw_below_drewN | apply below_drew1 | refine below_set ?_ GE105.out | refine below_set ?_ GE106.out) | exact HB.out))) | (with_reducible refine Kd.C_alloc ?_ _) | (with_reducible refine Kd.C_drewN ?_ _) | (with_reducible refine Kd.C_drew ?_))); (case side4 => exact HC1_16.out); rintro e w' ⟨rfl, ⟨nd, rfl⟩⟩))
    go_ret
    exact ⟨by first | rfl | (simp [errW_none, errW_some] <;> rfl) | (simp [*, errW_none, errW_some] <;> rfl), by repeat (first | (with_reducible first | exact HB.out | apply below_alloc | apply pw_below_drewN | apply below_drew1 | refine below_set ?_ GE105.out | refine below_set ?_ GE106.out) | exact HB.out)⟩
  ·replace c6 := Bool.eq_false_iff.mpr c6
   subst c6
   have H1 : (some false) = some r := by rw [if_neg (show ¬ (false = true) by decide)] at H; exact H
   clear H
   have H := H1
   clear H1
   obtain rfl := Option.some.inj H
   go_enter Try.func11, Try.ntmps11
   go_wp2_with (first | ((with_reducible refine gate_dst (N := 2) rfl ?_); refine box_event ?hg (N := 2) ?hd (cs := #[.int .i64 a0_0, .int .i64 a0_1, .int .u64 a0_2, .int .u64 a0_3, .int .u32 a0_4, .int .i64 a0_5, .int .i64 a0_6, .string a0_7, .string a0_8, .int .i64 a0_9, .int .i64 a0_10, .string a0_11, .int .u32 a0_12, .int .i64 a0_13, .bool a0_14, .slice A0_15 l0_15.length c0_15, .slice A0_16 l0_16.length c0_16]) (t := 35) ?hr ?_; (case hd => rfl); (case hg => rfl); (case hr => first | (go_simp; done) | (go_simp; rfl)); intro gb105 hg w66 hbox hb; have n0_ := Aside0.mk (below_step (by repeat (first | (with_reducible first | exact HB.out | apply below_alloc | apply pw_below_drewN | apply below_drew1) | exact HB.out)) hb); have n1_ := Aside0.mk (hbox); have n2_ := Aside0.mk ((by rw [hg]; exact (below_size (by repeat (first | (with_reducible first | exact HB.out | apply below_alloc | apply pw_below_drewN | apply below_drew1) | exact HB.out))) : w.heap.size ≤ gb105)); have n3_ := Aside0.mk ((by rw [hg]; exact (below_size (by repeat (first | (with_reducible first | exact HB.out | apply below_alloc | apply pw_below_drewN | apply below_drew1) | exact HB.out))) : w.heap.size ≤ gb105)); clear HB; have HB := n0_; have BK105 := n1_; have GW105 := n2_; have GE105 := n3_; clear n0_ n1_ n2_ n3_; clear hb hbox hg) | ((with_reducible refine gate_dst (N := 3) rfl ?_); refine box_event ?hg (N := 3) ?hd (cs := #[.int .i64 a1_0, .int .i64 a1_1, .int .u64 a1_2, .int .u64 a1_3, .int .u32 a1_4, .int .i64 a1_5, .int .i64 a1_6, .string a1_7, .string a1_8, .int .i64 a1_9, .int .i64 a1_10, .string a1_11, .int .u32 a1_12, .int .i64 a1_13, .bool a1_14, .slice A1_15 l1_15.length c1_15, .slice A1_16 l1_16.length c1_16]) (t := 35) ?hr ?_; (case hd => rfl); (case hg => rfl); (case hr => first | (go_simp; done) | (go_simp; rfl)); intro gb106 hg w67 hbox hb; have n0_ := Aside0.mk (blk_below (g := gb105) (o := .cells #[.int .i64 a0_0, .int .i64 a0_1, .int .u64 a0_2, .int .u64 a0_3, .int .u32 a0_4, .int .i64 a0_5, .int .i64 a0_6, .string a0_7, .string a0_8, .int .i64 a0_9, .int .i64 a0_10, .string a0_11, .int .u32 a0_12, .int .i64 a0_13, .bool a0_14, .slice A0_15 l0_15.length c0_15, .slice A0_16 l0_16.length c0_16] 35 (0, 0)) (by (with_reducible repeat (first | refine blk_drewN ?_ _ | refine blk_drew ?_ | refine blk_alloc ?_ _)); exact BK105.out) hb); have n1_ := Aside0.mk (below_step (by repeat (first | (with_reducible first | exact HB.out | apply below_alloc | apply pw_below_drewN | apply below_drew1 | refine below_set ?_ GE105.out) | exact HB.out)) hb); have n2_ := Aside0.mk (hbox); have n3_ := Aside0.mk ((by rw [hg]; exact (below_size (by repeat (first | (with_reducible first | exact HB.out | apply below_alloc | apply pw_below_drewN | apply below_drew1 | refine below_set ?_ GE105.out) | exact HB.out))) : w.heap.size ≤ gb106)); have n4_ := Aside0.mk ((by rw [hg]; exact (below_size (by repeat (first | (with_reducible first | exact HB.out | apply below_alloc | apply pw_below_drewN | apply below_drew1 | refine below_set ?_ GE105.out) | exact HB.out))) : w.heap.size ≤ gb106)); have n5_ := Aside0.mk ((by rw [hg]; exact Nat.ne_of_lt (blk_lt (g := gb105) (o := .cells #[.int .i64 a0_0, .int .i64 a0_1, .int .u64 a0_2, .int .u64 a0_3, .int .u32 a0_4, .int .i64 a0_5, .int .i64 a0_6, .string a0_7, .string a0_8, .int .i64 a0_9, .int .i64 a0_10, .string a0_11, .int .u32 a0_12, .int .i64 a0_13, .bool a0_14, .slice A0_15 l0_15.length c0_15, .slice A0_16 l0_16.length c0_16] 35 (0, 0)) (by (with_reducible repeat (first | refine blk_drewN ?_ _ | refine blk_drew ?_ | refine blk_alloc ?_ _)); exact BK105.out)) : gb105 ≠ gb106)); have n6_ := Aside0.mk ((by rw [hg]; exact Nat.ne_of_gt (blk_lt (g := gb105) (o := .cells #[.int .i64 a0_0, .int .i64 a0_1, .int .u64 a0_2, .int .u64 a0_3, .int .u32 a0_4, .int .i64 a0_5, .int .i64 a0_6, .string a0_7, .string a0_8, .int .i64 a0_9, .int .i64 a0_10, .string a0_11, .int .u32 a0_12, .int .i64 a0_13, .bool a0_14, .slice A0_15 l0_15.length c0_15, .slice A0_16 l0_16.length c0_16] 35 (0, 0)) (by (with_reducible repeat (first | refine blk_drewN ?_ _ | refine blk_drew ?_ | refine blk_alloc ?_ _)); exact BK105.out)) : gb106 ≠ gb105)); clear BK105; clear HB; have BK105 := n0_; have HB := n1_; have BK106 := n2_; have GW106 := n3_; have GE106 := n4_; have NB105_106 := n5_; have NB106_105 := n6_; clear n0_ n1_ n2_ n3_ n4_ n5_ n6_; clear hb hbox hg; have hnb68 := NB105_106.out; have hnc68 := NB106_105.out; have hcz69_0 : w67.cell? ⟨gb105, 0, none⟩ = some (.int .i64 a0_0) := (blk_cell BK105.out 0).trans rfl; have hcz69_1 : w67.cell? ⟨gb105, 1, none⟩ = some (.int .i64 a0_1) := (blk_cell BK105.out 1).trans rfl; have hcz69_2 : w67.cell? ⟨gb105, 2, none⟩ = some (.int .u64 a0_2) := (blk_cell BK105.out 2).trans rfl; have hcz69_3 : w67.cell? ⟨gb105, 3, none⟩ = some (.int .u64 a0_3) := (blk_cell BK105.out 3).trans rfl; have hcz69_4 : w67.cell? ⟨gb105, 4, none⟩ = some (.int .u32 a0_4) := (blk_cell BK105.out 4).trans rfl; have hcz69_5 : w67.cell? ⟨gb105, 5, none⟩ = some (.int .i64 a0_5) := (blk_cell BK105.out 5).trans rfl; have hcz69_6 : w67.cell? ⟨gb105, 6, none⟩ = some (.int .i64 a0_6) := (blk_cell BK105.out 6).trans rfl; have hcz69_7 : w67.cell? ⟨gb105, 7, none⟩ = some (.string a0_7) := (blk_cell BK105.out 7).trans rfl; have hcz69_8 : w67.cell? ⟨gb105, 8, none⟩ = some (.string a0_8) := (blk_cell BK105.out 8).trans rfl; have hcz69_9 : w67.cell? ⟨gb105, 9, none⟩ = some (.int .i64 a0_9) := (blk_cell BK105.out 9).trans rfl; have hcz69_10 : w67.cell? ⟨gb105, 10, none⟩ = some (.int .i64 a0_10) := (blk_cell BK105.out 10).trans rfl; have hcz69_11 : w67.cell? ⟨gb105, 11, none⟩ = some (.string a0_11) := (blk_cell BK105.out 11).trans rfl; have hcz69_12 : w67.cell? ⟨gb105, 12, none⟩ = some (.int .u32 a0_12) := (blk_cell BK105.out 12).trans rfl; have hcz69_13 : w67.cell? ⟨gb105, 13, none⟩ = some (.int .i64 a0_13) := (blk_cell BK105.out 13).trans rfl; have hcz69_14 : w67.cell? ⟨gb105, 14, none⟩ = some (.bool a0_14) := (blk_cell BK105.out 14).trans rfl; have hcz69_15 : w67.cell? ⟨gb105, 15, none⟩ = some (.slice A0_15 l0_15.length c0_15) := (blk_cell BK105.out 15).trans rfl; have hcz69_16 : w67.cell? ⟨gb105, 16, none⟩ = some (.slice A0_16 l0_16.length c0_16) := (blk_cell BK105.out 16).trans rfl; have hfz69_0 := blk_frozen BK105.out 0; have hfz69_1 := blk_frozen BK105.out 1; have hfz69_2 := blk_frozen BK105.out 2; have hfz69_3 := blk_frozen BK105.out 3; have hfz69_4 := blk_frozen BK105.out 4; have hfz69_5 := blk_frozen BK105.out 5; have hfz69_6 := blk_frozen BK105.out 6; have hfz69_7 := blk_frozen BK105.out 7; have hfz69_8 := blk_frozen BK105.out 8; have hfz69_9 := blk_frozen BK105.out 9; have hfz69_10 := blk_frozen BK105.out 10; have hfz69_11 := blk_frozen BK105.out 11; have hfz69_12 := blk_frozen BK105.out 12; have hfz69_13 := blk_frozen BK105.out 13; have hfz69_14 := blk_frozen BK105.out 14; have hfz69_15 := blk_frozen BK105.out 15; have hfz69_16 := blk_frozen BK105.out 16; have hcz70_0 : w67.cell? ⟨gb106, 0, none⟩ = some (.int .i64 a1_0) := (blk_cell BK106.out 0).trans rfl; have hcz70_1 : w67.cell? ⟨gb106, 1, none⟩ = some (.int .i64 a1_1) := (blk_cell BK106.out 1).trans rfl; have hcz70_2 : w67.cell? ⟨gb106, 2, none⟩ = some (.int .u64 a1_2) := (blk_cell BK106.out 2).trans rfl; have hcz70_3 : w67.cell? ⟨gb106, 3, none⟩ = some (.int .u64 a1_3) := (blk_cell BK106.out 3).trans rfl; have hcz70_4 : w67.cell? ⟨gb106, 4, none⟩ = some (.int .u32 a1_4) := (blk_cell BK106.out 4).trans rfl; have hcz70_5 : w67.cell? ⟨gb106, 5, none⟩ = some (.int .i64 a1_5) := (blk_cell BK106.out 5).trans rfl; have hcz70_6 : w67.cell? ⟨gb106, 6, none⟩ = some (.int .i64 a1_6) := (blk_cell BK106.out 6).trans rfl; have hcz70_7 : w67.cell? ⟨gb106, 7, none⟩ = some (.string a1_7) := (blk_cell BK106.out 7).trans rfl; have hcz70_8 : w67.cell? ⟨gb106, 8, none⟩ = some (.string a1_8) := (blk_cell BK106.out 8).trans rfl; have hcz70_9 : w67.cell? ⟨gb106, 9, none⟩ = some (.int .i64 a1_9) := (blk_cell BK106.out 9).trans rfl; have hcz70_10 : w67.cell? ⟨gb106, 10, none⟩ = some (.int .i64 a1_10) := (blk_cell BK106.out 10).trans rfl; have hcz70_11 : w67.cell? ⟨gb106, 11, none⟩ = some (.string a1_11) := (blk_cell BK106.out 11).trans rfl; have hcz70_12 : w67.cell? ⟨gb106, 12, none⟩ = some (.int .u32 a1_12) := (blk_cell BK106.out 12).trans rfl; have hcz70_13 : w67.cell? ⟨gb106, 13, none⟩ = some (.int .i64 a1_13) := (blk_cell BK106.out 13).trans rfl; have hcz70_14 : w67.cell? ⟨gb106, 14, none⟩ = some (.bool a1_14) := (blk_cell BK106.out 14).trans rfl; have hcz70_15 : w67.cell? ⟨gb106, 15, none⟩ = some (.slice A1_15 l1_15.length c1_15) := (blk_cell BK106.out 15).trans rfl; have hcz70_16 : w67.cell? ⟨gb106, 16, none⟩ = some (.slice A1_16 l1_16.length c1_16) := (blk_cell BK106.out 16).trans rfl; have hfz70_0 := blk_frozen BK106.out 0; have hfz70_1 := blk_frozen BK106.out 1; have hfz70_2 := blk_frozen BK106.out 2; have hfz70_3 := blk_frozen BK106.out 3; have hfz70_4 := blk_frozen BK106.out 4; have hfz70_5 := blk_frozen BK106.out 5; have hfz70_6 := blk_frozen BK106.out 6; have hfz70_7 := blk_frozen BK106.out 7; have hfz70_8 := blk_frozen BK106.out 8; have hfz70_9 := blk_frozen BK106.out 9; have hfz70_10 := blk_frozen BK106.out 10; have hfz70_11 := blk_frozen BK106.out 11; have hfz70_12 := blk_frozen BK106.out 12; have hfz70_13 := blk_frozen BK106.out 13; have hfz70_14 := blk_frozen BK106.out 14; have hfz70_15 := blk_frozen BK106.out 15; have hfz70_16 := blk_frozen BK106.out 16) | ((with_reducible refine gate_callee (f := 30) rfl ?_); refine goesL_ (some 9) rfl rfl Try.func30 (by kernel_rfl) rfl #[.slice A0_15 l0_15.length c0_15, .slice A1_15 l1_15.length c1_15] rfl (by (try simp only [List.map_toArray, List.map_cons, List.map_nil]); first | done | rfl | (simp only [List.length_drop, List.length_take]; rfl)) ?_; (with_reducible refine (api_TxState.calls k _ _ l0_15 _ _ l1_15 true _ ?side1 ?side2 ?side3 ?side4 A3.out).mono ?_); (case side1 => repeat (first | exact (Kd.C_below HR0_15.out HB.out) | (with_reducible refine Kd.C_alloc ?_ _) | (with_reducible refine Kd.C_drewN ?_ _) | (with_reducible refine Kd.C_drew ?_))); (case side2 => exact HC0_15.out); (case side3 => repeat (first | exact (Kd.C_below HR1_15.out HB.out) | (with_reducible refine Kd.C_alloc ?_ _) | (with_reducible refine Kd.C_drewN ?_ _) | (with_reducible refine Kd.C_drew ?_))); (case side4 => exact HC1_15.out); rintro e w' ⟨rfl, ⟨nd, rfl⟩⟩; refine ⟨_, rfl, ?_⟩) | (go_at_call 31; (with_reducible refine (api_Dirty.calls k _ _ l0_16 _ _ l1_16 false _ ?side1 ?side2 ?side3 ?side4 A5.out).mono ?_); (case side1 => repeat (first | exact (Kd.C_below HR0_16.out (by repeat (first | (with_reducible first | exact HB.out | apply below_alloc | apply pw_below_drewN | apply below_drew1 | refine below_set ?_ GE105.out | refine below_set ?_ GE106.out) | exact HB.out))) | (with_reducible refine Kd.C_alloc ?_ _) | (with_reducible refine Kd.C_drewN ?_ _) | (with_reducible refine Kd.C_drew ?_))); (case side2 => exact HC0_16.out); (case side3 => repeat (first | exact (Kd.C_below HR1_16.out (by repeat (first | (with_reducible first | exact HB.out | apply below_alloc | apply pw_below_drewN | apply below_drew1 | refine below_set ?_ GE105.out | refine below_set ?_ GE106.out) | exact HB.out))) | (with_reducible refine Kd.C_alloc ?_ _) | (with_reducible refine Kd.C_drewN ?_ _) | (with_reducible refine Kd.C_drew ?_))); (case side4 => exact HC1_16.out); rintro e w' ⟨rfl, ⟨nd, rfl⟩⟩))
   go_ret
   exact ⟨by first | rfl | (simp [errW_none, errW_some] <;> rfl) | (simp [*, errW_none, errW_some] <;> rfl), by repeat (first | (with_reducible first | exact HB.out | apply below_alloc | apply pw_below_drewN | apply below_drew1 | refine below_set ?_ GE105.out | refine below_set ?_ GE106.out) | exact HB.out)⟩
 ·replace c4 := Bool.eq_false_iff.mpr c4
  subst c4
  have H1 : (some false) = some r := by rw [if_neg (show ¬ (false = true) by decide)] at H; exact H
  clear H
  have H := H1
  clear H1
  obtain rfl := Option.some.inj H
  go_enter Try.func11, Try.ntmps11
  go_wp2_with (first | ((with_reducible refine gate_dst (N := 2) rfl ?_); refine box_event ?hg (N := 2) ?hd (cs := #[.int .i64 a0_0, .int .i64 a0_1, .int .u64 a0_2, .int .u64 a0_3, .int .u32 a0_4, .int .i64 a0_5, .int .i64 a0_6, .string a0_7, .string a0_8, .int .i64 a0_9, .int .i64 a0_10, .string a0_11, .int .u32 a0_12, .int .i64 a0_13, .bool a0_14, .slice A0_15 l0_15.length c0_15, .slice A0_16 l0_16.length c0_16]) (t := 35) ?hr ?_; (case hd => rfl); (case hg => rfl); (case hr => first | (go_simp; done) | (go_simp; rfl)); intro gb105 hg w71 hbox hb; have n0_ := Aside0.mk (below_step (by repeat (first | (with_reducible first | exact HB.out | apply below_alloc | apply pw_below_drewN | apply below_drew1) | exact HB.out)) hb); have n1_ := Aside0.mk (hbox); have n2_ := Aside0.mk ((by rw [hg]; exact (below_size (by repeat (first | (with_reducible first | exact HB.out | apply below_alloc | apply pw_below_drewN | apply below_drew1) | exact HB.out))) : w.heap.size ≤ gb105)); have n3_ := Aside0.mk ((by rw [hg]; exact (below_size (by repeat (first | (with_reducible first | exact HB.out | apply below_alloc | apply pw_below_drewN | apply below_drew1) | exact HB.out))) : w.heap.size ≤ gb105)); clear HB; have HB := n0_; have BK105 := n1_; have GW105 := n2_; have GE105 := n3_; clear n0_ n1_ n2_ n3_; clear hb hbox hg) | ((with_reducible refine gate_dst (N := 3) rfl ?_); refine box_event ?hg (N := 3) ?hd (cs := #[.int .i64 a1_0, .int .i64 a1_1, .int .u64 a1_2, .int .u64 a1_3, .int .u32 a1_4, .int .i64 a1_5, .int .i64 a1_6, .string a1_7, .string a1_8, .int .i64 a1_9, .int .i64 a1_10, .string a1_11, .int .u32 a1_12, .int .i64 a1_13, .bool a1_14, .slice A1_15 l1_15.length c1_15, .slice A1_16 l1_16.length c1_16]) (t := 35) ?hr ?_; (case hd => rfl); (case hg => rfl); (case hr => first | (go_simp; done) | (go_simp; rfl)); intro gb106 hg w72 hbox hb; have n0_ := Aside0.mk (blk_below (g := gb105) (o := .cells #[.int .i64 a0_0, .int .i64 a0_1, .int .u64 a0_2, .int .u64 a0_3, .int .u32 a0_4, .int .i64 a0_5, .int .i64 a0_6, .string a0_7, .string a0_8, .int .i64 a0_9, .int .i64 a0_10, .string a0_11, .int .u32 a0_12, .int .i64 a0_13, .bool a0_14, .slice A0_15 l0_15.length c0_15, .slice A0_16 l0_16.length c0_16] 35 (0, 0)) (by (with_reducible repeat (first | refine blk_drewN ?_ _ | refine blk_drew ?_ | refine blk_alloc ?_ _)); exact BK105.out) hb); have n1_ := Aside0.mk (below_step (by repeat (first | (with_reducible first | exact HB.out | apply below_alloc | apply pw_below_drewN | apply below_drew1 | refine below_set ?_ GE105.out) | exact HB.out)) hb); have n2_ := Aside0.mk (hbox); have n3_ := Aside0.mk ((by rw [hg]; exact (below_size (by repeat (first | (with_reducible first | exact HB.out | apply below_alloc | apply pw_below_drewN | apply below_drew1 | refine below_set ?_ GE105.out) | exact HB.out))) : w.heap.size ≤ gb106)); have n4_ := Aside0.mk ((by rw [hg]; exact (below_size (by repeat (first | (with_reducible first | exact HB.out | apply below_alloc | apply pw_below_drewN | apply below_drew1 | refine below_set ?_ GE105.out) | exact HB.out))) : w.heap.size ≤ gb106)); have n5_ := Aside0.mk ((by rw [hg]; exact Nat.ne_of_lt (blk_lt (g := gb105) (o := .cells #[.int .i64 a0_0, .int .i64 a0_1, .int .u64 a0_2, .int .u64 a0_3, .int .u32 a0_4, .int .i64 a0_5, .int .i64 a0_6, .string a0_7, .string a0_8, .int .i64 a0_9, .int .i64 a0_10, .string a0_11, .int .u32 a0_12, .int .i64 a0_13, .bool a0_14, .slice A0_15 l0_15.length c0_15, .slice A0_16 l0_16.length c0_16] 35 (0, 0)) (by (with_reducible repeat (first | refine blk_drewN ?_ _ | refine blk_drew ?_ | refine blk_alloc ?_ _)); exact BK105.out)) : gb105 ≠ gb106)); have n6_ := Aside0.mk ((by rw [hg]; exact Nat.ne_of_gt (blk_lt (g := gb105) (o := .cells #[.int .i64 a0_0, .int .i64 a0_1, .int .u64 a0_2, .int .u64 a0_3, .int .u32 a0_4, .int .i64 a0_5, .int .i64 a0_6, .string a0_7, .string a0_8, .int .i64 a0_9, .int .i64 a0_10, .string a0_11, .int .u32 a0_12, .int .i64 a0_13, .bool a0_14, .slice A0_15 l0_15.length c0_15, .slice A0_16 l0_16.length c0_16] 35 (0, 0)) (by (with_reducible repeat (first | refine blk_drewN ?_ _ | refine blk_drew ?_ | refine blk_alloc ?_ _)); exact BK105.out)) : gb106 ≠ gb105)); clear BK105; clear HB; have BK105 := n0_; have HB := n1_; have BK106 := n2_; have GW106 := n3_; have GE106 := n4_; have NB105_106 := n5_; have NB106_105 := n6_; clear n0_ n1_ n2_ n3_ n4_ n5_ n6_; clear hb hbox hg; have hnb73 := NB105_106.out; have hnc73 := NB106_105.out; have hcz74_0 : w72.cell? ⟨gb105, 0, none⟩ = some (.int .i64 a0_0) := (blk_cell BK105.out 0).trans rfl; have hcz74_1 : w72.cell? ⟨gb105, 1, none⟩ = some (.int .i64 a0_1) := (blk_cell BK105.out 1).trans rfl; have hcz74_2 : w72.cell? ⟨gb105, 2, none⟩ = some (.int .u64 a0_2) := (blk_cell BK105.out 2).trans rfl; have hcz74_3 : w72.cell? ⟨gb105, 3, none⟩ = some (.int .u64 a0_3) := (blk_cell BK105.out 3).trans rfl; have hcz74_4 : w72.cell? ⟨gb105, 4, none⟩ = some (.int .u32 a0_4) := (blk_cell BK105.out 4).trans rfl; have hcz74_5 : w72.cell? ⟨gb105, 5, none⟩ = some (.int .i64 a0_5) := (blk_cell BK105.out 5).trans rfl; have hcz74_6 : w72.cell? ⟨gb105, 6, none⟩ = some (.int .i64 a0_6) := (blk_cell BK105.out 6).trans rfl; have hcz74_7 : w72.cell? ⟨gb105, 7, none⟩ = some (.string a0_7) := (blk_cell BK105.out 7).trans rfl; have hcz74_8 : w72.cell? ⟨gb105, 8, none⟩ = some (.string a0_8) := (blk_cell BK105.out 8).trans rfl; have hcz74_9 : w72.cell? ⟨gb105, 9, none⟩ = some (.int .i64 a0_9) := (blk_cell BK105.out 9).trans rfl; have hcz74_10 : w72.cell? ⟨gb105, 10, none⟩ = some (.int .i64 a0_10) := (blk_cell BK105.out 10).trans rfl; have hcz74_11 : w72.cell? ⟨gb105, 11, none⟩ = some (.string a0_11) := (blk_cell BK105.out 11).trans rfl; have hcz74_12 : w72.cell? ⟨gb105, 12, none⟩ = some (.int .u32 a0_12) := (blk_cell BK105.out 12).trans rfl; have hcz74_13 : w72.cell? ⟨gb105, 13, none⟩ = some (.int .i64 a0_13) := (blk_cell BK105.out 13).trans rfl; have hcz74_14 : w72.cell? ⟨gb105, 14, none⟩ = some (.bool a0_14) := (blk_cell BK105.out 14).trans rfl; have hcz74_15 : w72.cell? ⟨gb105, 15, none⟩ = some (.slice A0_15 l0_15.length c0_15) := (blk_cell BK105.out 15).trans rfl; have hcz74_16 : w72.cell? ⟨gb105, 16, none⟩ = some (.slice A0_16 l0_16.length c0_16) := (blk_cell BK105.out 16).trans rfl; have hfz74_0 := blk_frozen BK105.out 0; have hfz74_1 := blk_frozen BK105.out 1; have hfz74_2 := blk_frozen BK105.out 2; have hfz74_3 := blk_frozen BK105.out 3; have hfz74_4 := blk_frozen BK105.out 4; have hfz74_5 := blk_frozen BK105.out 5; have hfz74_6 := blk_frozen BK105.out 6; have hfz74_7 := blk_frozen BK105.out 7; have hfz74_8 := blk_frozen BK105.out 8; have hfz74_9 := blk_frozen BK105.out 9; have hfz74_10 := blk_frozen BK105.out 10; have hfz74_11 := blk_frozen BK105.out 11; have hfz74_12 := blk_frozen BK105.out 12; have hfz74_13 := blk_frozen BK105.out 13; have hfz74_14 := blk_frozen BK105.out 14; have hfz74_15 := blk_frozen BK105.out 15; have hfz74_16 := blk_frozen BK105.out 16; have hcz75_0 : w72.cell? ⟨gb106, 0, none⟩ = some (.int .i64 a1_0) := (blk_cell BK106.out 0).trans rfl; have hcz75_1 : w72.cell? ⟨gb106, 1, none⟩ = some (.int .i64 a1_1) := (blk_cell BK106.out 1).trans rfl; have hcz75_2 : w72.cell? ⟨gb106, 2, none⟩ = some (.int .u64 a1_2) := (blk_cell BK106.out 2).trans rfl; have hcz75_3 : w72.cell? ⟨gb106, 3, none⟩ = some (.int .u64 a1_3) := (blk_cell BK106.out 3).trans rfl; have hcz75_4 : w72.cell? ⟨gb106, 4, none⟩ = some (.int .u32 a1_4) := (blk_cell BK106.out 4).trans rfl; have hcz75_5 : w72.cell? ⟨gb106, 5, none⟩ = some (.int .i64 a1_5) := (blk_cell BK106.out 5).trans rfl; have hcz75_6 : w72.cell? ⟨gb106, 6, none⟩ = some (.int .i64 a1_6) := (blk_cell BK106.out 6).trans rfl; have hcz75_7 : w72.cell? ⟨gb106, 7, none⟩ = some (.string a1_7) := (blk_cell BK106.out 7).trans rfl; have hcz75_8 : w72.cell? ⟨gb106, 8, none⟩ = some (.string a1_8) := (blk_cell BK106.out 8).trans rfl; have hcz75_9 : w72.cell? ⟨gb106, 9, none⟩ = some (.int .i64 a1_9) := (blk_cell BK106.out 9).trans rfl; have hcz75_10 : w72.cell? ⟨gb106, 10, none⟩ = some (.int .i64 a1_10) := (blk_cell BK106.out 10).trans rfl; have hcz75_11 : w72.cell? ⟨gb106, 11, none⟩ = some (.string a1_11) := (blk_cell BK106.out 11).trans rfl; have hcz75_12 : w72.cell? ⟨gb106, 12, none⟩ = some (.int .u32 a1_12) := (blk_cell BK106.out 12).trans rfl; have hcz75_13 : w72.cell? ⟨gb106, 13, none⟩ = some (.int .i64 a1_13) := (blk_cell BK106.out 13).trans rfl; have hcz75_14 : w72.cell? ⟨gb106, 14, none⟩ = some (.bool a1_14) := (blk_cell BK106.out 14).trans rfl; have hcz75_15 : w72.cell? ⟨gb106, 15, none⟩ = some (.slice A1_15 l1_15.length c1_15) := (blk_cell BK106.out 15).trans rfl; have hcz75_16 : w72.cell? ⟨gb106, 16, none⟩ = some (.slice A1_16 l1_16.length c1_16) := (blk_cell BK106.out 16).trans rfl; have hfz75_0 := blk_frozen BK106.out 0; have hfz75_1 := blk_frozen BK106.out 1; have hfz75_2 := blk_frozen BK106.out 2; have hfz75_3 := blk_frozen BK106.out 3; have hfz75_4 := blk_frozen BK106.out 4; have hfz75_5 := blk_frozen BK106.out 5; have hfz75_6 := blk_frozen BK106.out 6; have hfz75_7 := blk_frozen BK106.out 7; have hfz75_8 := blk_frozen BK106.out 8; have hfz75_9 := blk_frozen BK106.out 9; have hfz75_10 := blk_frozen BK106.out 10; have hfz75_11 := blk_frozen BK106.out 11; have hfz75_12 := blk_frozen BK106.out 12; have hfz75_13 := blk_frozen BK106.out 13; have hfz75_14 := blk_frozen BK106.out 14; have hfz75_15 := blk_frozen BK106.out 15; have hfz75_16 := blk_frozen BK106.out 16) | ((with_reducible refine gate_callee (f := 30) rfl ?_); refine goesL_ (some 9) rfl rfl Try.func30 (by kernel_rfl) rfl #[.slice A0_15 l0_15.length c0_15, .slice A1_15 l1_15.length c1_15] rfl (by (try simp only [List.map_toArray, List.map_cons, List.map_nil]); first | done | rfl | (simp only [List.length_drop, List.length_take]; rfl)) ?_; (with_reducible refine (api_TxState.calls k _ _ l0_15 _ _ l1_15 false _ ?side1 ?side2 ?side3 ?side4 A3.out).mono ?_); (case side1 => repeat (first | exact (Kd.C_below HR0_15.out HB.out) | (with_reducible refine Kd.C_alloc ?_ _) | (with_reducible refine Kd.C_drewN ?_ _) | (with_reducible refine Kd.C_drew ?_))); (case side2 => exact HC0_15.out); (case side3 => repeat (first | exact (Kd.C_below HR1_15.out HB.out) | (with_reducible refine Kd.C_alloc ?_ _) | (with_reducible refine Kd.C_drewN ?_ _) | (with_reducible refine Kd.C_drew ?_))); (case side4 => exact HC1_15.out); rintro e w' ⟨rfl, ⟨nd, rfl⟩⟩; refine ⟨_, rfl, ?_⟩))
  go_ret
  exact ⟨by first | rfl | (simp [errW_none, errW_some] <;> rfl) | (simp [*, errW_none, errW_some] <;> rfl), by repeat (first | (with_reducible first | exact HB.out | apply below_alloc | apply pw_below_drewN | apply below_drew1 | refine below_set ?_ GE105.out | refine below_set ?_ GE106.out) | exact HB.out)⟩
end Go.Proofs.Ytebickoieipjpaa.PRs
end
section
namespace Go.Proofs.Ytebickoieipjpaa
open Go.RowKit Go.Gi Go.GiRow Go.Proofs.YtebickoieipjpaaW.PrintWords Go.Proofs.YtebickoieipjpaaW.PrintLast Go.Proofs.YtebickoieipjpaaW.PrintMore PRs
set_option maxRecDepth 20000
set_option linter.unusedSimpArgs false
set_option linter.unusedVariables false
def ofSt (t : StR) : S70 := ⟨t.tx, t.st, t.last, t.next⟩
def ofDi (t : DiR) : S72 := ⟨t.page, t.lsn⟩
structure RowsR (w : World) (r : RecR) (A : Option Addr) (c : Nat) (B : Option Addr) (d : Nat) : Prop where
  hA : Kd.C k70 w A r.txs.length (r.txs.map ofSt)
  hc : r.txs.length ≤ c
  hB : Kd.C k72 w B r.dirty.length (r.dirty.map ofDi)
  hd : r.dirty.length ≤ d
  bA : r.txs.length * 32 ≤ 140737488351232
  bB : r.dirty.length * 16 ≤ 140737488351232
theorem RowsR.below {w w' : World} {r : RecR} {A : Option Addr} {c : Nat} {B : Option Addr} {d : Nat} (h : RowsR w r A c B d) (hb : Below w.heap.size w w') : RowsR w' r A c B d :=
  ⟨Kd.C_below h.hA hb, h.hc, Kd.C_below h.hB hb, h.hd, h.bA, h.bB⟩
theorem rd_of_C {α β : Type} {k : Kd β} {of : α → β} {cells : α → List Value} {n : Nat} (hsz : k.sz = n) (hn : 0 < n) (hk : ∀ w a cs, k.K w (of a) cs → cs = cells a) (hlen : ∀ a, (cells a).length = n) {w : World} {A : Option Addr} {l : List α}
    (h : Kd.C k w A l.length (l.map of)) : RdRows cells n w A l := fun j hj => by
  obtain ⟨h1, h2, h3⟩ := h
  obtain ⟨ad, rfl, hc⟩ := h3 (by omega)
  have hat : ∀ i (hi : i < l.length) x u, (cells l[i])[x]? = some u → w.cell? (ad.add (i * n + x)) = some u := by
    intro i hi x u hu
    obtain ⟨c, hcl, hK, hcell⟩ := hc i (of l[i]) (by simp [hi])
    have e := hk _ _ _ hK
    subst e
    rw [hsz] at hcell
    exact hcell x u hu
  have hc0 := hat 0 (by omega) 0 _ (List.getElem?_eq_getElem (by rw [hlen]; exact hn))
  rw [show ad.add (0 * n + 0) = ad by unfold Addr.add; simp] at hc0
  have hsp : ad.spot = none := by
    unfold World.cell? at hc0
    cases hs : ad.spot with
    | none => rfl
    | some y =>
      simp [hs] at hc0
      split at hc0 <;> simp_all
  obtain ⟨b, off, sp⟩ := ad
  simp only at hsp
  subst hsp
  refine ⟨b, off, rfl, World.block_lt_of_cell? w _ hc0, fun x u hu => ?_⟩
  have := hat j hj x u hu
  rw [show (⟨b, off, none⟩ : Addr).add (j * n + x) = ⟨b, off + j * n + x, none⟩ by unfold Addr.add; split <;> simp_all [Nat.add_assoc]] at this
  exact this
theorem RowsR.rdA {w : World} {r : RecR} {A : Option Addr} {c : Nat} {B : Option Addr} {d : Nat} (h : RowsR w r A c B d) : RdRows StR.cells 4 w A r.txs :=
  rd_of_C rfl (by decide) (fun _ _ _ h => k70_open h) (fun _ => rfl) h.hA
theorem RowsR.rdB {w : World} {r : RecR} {A : Option Addr} {c : Nat} {B : Option Addr} {d : Nat} (h : RowsR w r A c B d) : RdRows DiR.cells 2 w B r.dirty :=
  rd_of_C rfl (by decide) (fun _ _ _ h => k72_open h) (fun _ => rfl) h.hB
theorem cond_st (x y : S70) : (!((x.f0) == (y.f0)) || (!((x.f1) == (y.f1)) || (!((x.f2) == (y.f2)) || (!((x.f3) == (y.f3)))))) = true ↔ x ≠ y := by
  obtain ⟨a, b, c, d⟩ := x
  obtain ⟨a', b', c', d'⟩ := y
  by_cases h1 : a = a' <;> by_cases h2 : b = b' <;> by_cases h3 : c = c' <;> by_cases h4 : d = d' <;> simp [h1, h2, h3, h4]
theorem cond_di (x y : S72) : (!((x.f0) == (y.f0)) || (!((x.f1) == (y.f1)))) = true ↔ x ≠ y := by
  obtain ⟨a, b⟩ := x
  obtain ⟨a', b'⟩ := y
  by_cases h1 : a = a' <;> by_cases h2 : b = b' <;> simp [h1, h2]
theorem take_step {α : Type} {l m : List α} {k : Nat} (h1 : k < l.length) (h2 : k < m.length) (h : l.take k = m.take k) (e : l[k] = m[k]) : l.take (k + 1) = m.take (k + 1) := by
  rw [List.take_succ_eq_append_getElem h1, List.take_succ_eq_append_getElem h2, h, e]
theorem st_law (l m : List S70) (he : l.length = m.length) (hm : l.length ≤ 9223372036854775806) : ∀ k j : Nat, l.length < j + k → j ≤ l.length → l.take j = m.take j → ∃ b, api_TxState.l0 k l m (l.length : Int) (j : Int) = some b ∧ (b = true ↔ l = m)
  | 0, j, h, hj, _ => by omega
  | k + 1, j, h, hj, ht => by
    unfold api_TxState.l0
    by_cases hlt : j < l.length
    · have r1 : rd_T70 l (j : Int) = l[j] := by simp [rd_T70, List.getD_eq_getElem?_getD, List.getElem?_eq_getElem hlt]
      have r2 : rd_T70 m (j : Int) = m[j]'(by omega) := by simp [rd_T70, List.getD_eq_getElem?_getD, List.getElem?_eq_getElem (show j < m.length by omega)]
      rw [if_pos (by omega), if_pos (by omega), if_pos (by omega), if_pos (by omega), r1, r2]
      by_cases hx : l[j] = m[j]'(by omega)
      · rw [if_neg (by rw [cond_st]; exact fun h => h hx), show wrap64 ((j : Int) + 1) = ((j + 1 : Nat) : Int) by unfold wrap64; omega]
        exact st_law l m he hm k (j + 1) (by omega) (by omega) (take_step hlt (by omega) ht hx)
      · rw [if_pos ((cond_st _ _).2 hx)]
        refine ⟨false, rfl, by simp, fun e => absurd (by subst e; rfl) hx⟩
    · rw [if_neg (by omega)]
      have hj' : j = l.length := by omega
      refine ⟨true, rfl, fun _ => ?_, fun _ => rfl⟩
      rw [hj', List.take_length, he, List.take_length] at ht
      exact ht
theorem di_law (l m : List S72) (he : l.length = m.length) (hm : l.length ≤ 9223372036854775806) : ∀ k j : Nat, l.length < j + k → j ≤ l.length → l.take j = m.take j → ∃ b, api_Dirty.l0 k l m (l.length : Int) (j : Int) = some b ∧ (b = true ↔ l = m)
  | 0, j, h, hj, _ => by omega
  | k + 1, j, h, hj, ht => by
    unfold api_Dirty.l0
    by_cases hlt : j < l.length
    · have r1 : rd_T72 l (j : Int) = l[j] := by simp [rd_T72, List.getD_eq_getElem?_getD, List.getElem?_eq_getElem hlt]
      have r2 : rd_T72 m (j : Int) = m[j]'(by omega) := by simp [rd_T72, List.getD_eq_getElem?_getD, List.getElem?_eq_getElem (show j < m.length by omega)]
      rw [if_pos (by omega), if_pos (by omega), if_pos (by omega), if_pos (by omega), r1, r2]
      by_cases hx : l[j] = m[j]'(by omega)
      · rw [if_neg (by rw [cond_di]; exact fun h => h hx), show wrap64 ((j : Int) + 1) = ((j + 1 : Nat) : Int) by unfold wrap64; omega]
        exact di_law l m he hm k (j + 1) (by omega) (by omega) (take_step hlt (by omega) ht hx)
      · rw [if_pos ((cond_di _ _).2 hx)]
        refine ⟨false, rfl, by simp, fun e => absurd (by subst e; rfl) hx⟩
    · rw [if_neg (by omega)]
      have hj' : j = l.length := by omega
      refine ⟨true, rfl, fun _ => ?_, fun _ => rfl⟩
      rw [hj', List.take_length, he, List.take_length] at ht
      exact ht
theorem ofSt_inj : ∀ l m : List StR, l.map ofSt = m.map ofSt → l = m
  | [], [], _ => rfl
  | [], _ :: _, h => by simp at h
  | _ :: _, [], h => by simp at h
  | ⟨a, b, c, d⟩ :: l, ⟨a', b', c', d'⟩ :: m, h => by
    simp only [List.map_cons, List.cons.injEq, ofSt, S70.mk.injEq] at h
    obtain ⟨⟨rfl, rfl, rfl, rfl⟩, h⟩ := h
    rw [ofSt_inj l m h]
theorem ofDi_inj : ∀ l m : List DiR, l.map ofDi = m.map ofDi → l = m
  | [], [], _ => rfl
  | [], _ :: _, h => by simp at h
  | _ :: _, [], h => by simp at h
  | ⟨a, b⟩ :: l, ⟨a', b'⟩ :: m, h => by
    simp only [List.map_cons, List.cons.injEq, ofDi, S72.mk.injEq] at h
    obtain ⟨⟨rfl, rfl⟩, h⟩ := h
    rw [ofDi_inj l m h]
theorem st_f (l m : List StR) (k : Nat) (hk : l.length < k) (hm : l.length ≤ 9223372036854775806) : ∃ b, api_TxState.f k (l.map ofSt) (m.map ofSt) = some b ∧ (b = true ↔ l = m) := by
  unfold api_TxState.f
  by_cases he : l.length = m.length
  · rw [if_pos (by simp [he])]
    obtain ⟨b, h1, h2⟩ := st_law (l.map ofSt) (m.map ofSt) (by simp [he]) (by simp; omega) k 0 (by simp; omega) (by omega) rfl
    exact ⟨b, h1, h2.trans ⟨ofSt_inj l m, fun h => by rw [h]⟩⟩
  · rw [if_neg (by simp; omega)]
    exact ⟨false, rfl, by simp, fun h => absurd (by rw [h]) he⟩
theorem di_f (l m : List DiR) (k : Nat) (hk : l.length < k) (hm : l.length ≤ 9223372036854775806) : ∃ b, api_Dirty.f k (l.map ofDi) (m.map ofDi) = some b ∧ (b = true ↔ l = m) := by
  unfold api_Dirty.f
  by_cases he : l.length = m.length
  · rw [if_pos (by simp [he])]
    obtain ⟨b, h1, h2⟩ := di_law (l.map ofDi) (m.map ofDi) (by simp [he]) (by simp; omega) k 0 (by simp; omega) (by omega) rfl
    exact ⟨b, h1, h2.trans ⟨ofDi_inj l m, fun h => by rw [h]⟩⟩
  · rw [if_neg (by simp; omega)]
    exact ⟨false, rfl, by simp, fun h => absurd (by rw [h]) he⟩
theorem ite_b {c : Prop} [Decidable c] {p q : Prop} {x : Option Bool} (hx : c → ∃ b, x = some b ∧ (b = true ↔ q)) (hp : p ↔ c ∧ q) : ∃ b, (if c then x else some false) = some b ∧ (b = true ↔ p) := by
  by_cases hc : c
  · obtain ⟨b, h1, h2⟩ := hx hc
    exact ⟨b, by rw [if_pos hc, h1], h2.trans ⟨fun h => hp.2 ⟨hc, h⟩, fun h => (hp.1 h).2⟩⟩
  · exact ⟨false, by rw [if_neg hc], by simp, fun h => absurd (hp.1 h).1 hc⟩
theorem same_law (r s : RecR) (k : Nat) (h1 : r.txs.length < k) (h2 : r.dirty.length < k) (m1 : r.txs.length ≤ 9223372036854775806) (m2 : r.dirty.length ≤ 9223372036854775806) :
    ∃ b, rec_Same.f k r.kind r.tx r.prev r.next r.page r.ok r.oa (bs r.os) (bs r.oo) r.undo r.index (bs r.key) r.rpage r.rslot r.live (r.txs.map ofSt) (r.dirty.map ofDi) s.kind s.tx s.prev s.next s.page s.ok s.oa (bs s.os) (bs s.oo) s.undo s.index (bs s.key) s.rpage s.rslot s.live (s.txs.map ofSt) (s.dirty.map ofDi) = some b ∧ (b = true ↔ r = s) := by
  obtain ⟨kind, tx, prev, next, page, ok, oa, os, oo, undo, index, key, rpage, rslot, live, txs, dirty⟩ := r
  obtain ⟨kind', tx', prev', next', page', ok', oa', os', oo', undo', index', key', rpage', rslot', live', txs', dirty'⟩ := s
  simp only at h1 h2 m1 m2 ⊢
  unfold rec_Same.f
  obtain ⟨b1, e1, i1⟩ := st_f txs txs' k h1 m1
  obtain ⟨b2, e2, i2⟩ := di_f dirty dirty' k h2 m2
  rw [e1, e2, Option.bind_some, Option.bind_some]
  simp only [bs_tl]
  refine ite_b (q := dirty = dirty' ∧ kind = kind' ∧ tx = tx' ∧ prev = prev' ∧ next = next' ∧ page = page' ∧ (ok = ok' ∧ oa = oa' ∧ os = os' ∧ oo = oo') ∧ undo = undo' ∧ index = index' ∧ (key = key' ∧ rpage = rpage' ∧ rslot = rslot') ∧ live = live') (fun _ => ?_) ?_
  · refine ite_b (fun _ => ?_) (by rw [i2])
    refine ite_b (fun _ => ?_) Iff.rfl
    refine ite_b (fun _ => ?_) Iff.rfl
    refine ite_b (fun _ => ?_) Iff.rfl
    refine ite_b (fun _ => ?_) Iff.rfl
    refine ite_b (fun _ => ?_) Iff.rfl
    refine ite_b (q := undo = undo' ∧ index = index' ∧ (key = key' ∧ rpage = rpage' ∧ rslot = rslot') ∧ live = live') (fun _ => ?_) (by simp)
    refine ite_b (fun _ => ?_) Iff.rfl
    refine ite_b (fun _ => ?_) Iff.rfl
    refine ite_b (q := live = live') (fun _ => ?_) (by simp)
    exact ⟨_, rfl, by simp⟩
  · rw [i1]
    simp only [RecR.mk.injEq]
    constructor
    · rintro ⟨h0, h1, h2, h3, h4, h5, h6, h7, h8, h9, h10, h11, h12, h13, h14, h15, h16⟩
      exact ⟨h15, h16, h0, h1, h2, h3, h4, ⟨h5, h6, h7, h8⟩, h9, h10, ⟨h11, h12, h13⟩, h14⟩
    · rintro ⟨h15, h16, h0, h1, h2, h3, h4, ⟨h5, h6, h7, h8⟩, h9, h10, ⟨h11, h12, h13⟩, h14⟩
      exact ⟨h0, h1, h2, h3, h4, h5, h6, h7, h8, h9, h10, h11, h12, h13, h14, h15, h16⟩
theorem rsame_any (r s : RecR) {A : Option Addr} {c : Nat} {B : Option Addr} {d : Nat} {A' : Option Addr} {c' : Nat} {B' : Option Addr} {d' : Nat} {w : World} (hr : RowsR w r A c B d) (hs : RowsR w s A' c' B' d') :
    Calls Try.prog 11 #[r.val A c B d, s.val A' c' B' d'] w fun e w' => (∃ b, e = .returned (.bool b) ∧ (b = true ↔ r = s)) ∧ Below w.heap.size w w' := by
  have b1 := hr.bA
  have b2 := hr.bB
  obtain ⟨b, hf, hi⟩ := same_law r s (r.txs.length + r.dirty.length + 1) (by omega) (by omega) (by omega) (by omega)
  have e1 : (r.txs.map ofSt).length = r.txs.length := by simp
  have e2 : (r.dirty.map ofDi).length = r.dirty.length := by simp
  have e3 : (s.txs.map ofSt).length = s.txs.length := by simp
  have e4 : (s.dirty.map ofDi).length = s.dirty.length := by simp
  have H := rec_Same.calls (r.txs.length + r.dirty.length + 1) r.kind r.tx r.prev r.next r.page r.ok r.oa (bs r.os) (bs r.oo) r.undo r.index (bs r.key) r.rpage r.rslot r.live A c (r.txs.map ofSt) B d (r.dirty.map ofDi) s.kind s.tx s.prev s.next s.page s.ok s.oa (bs s.os) (bs s.oo) s.undo s.index (bs s.key) s.rpage s.rslot s.live A' c' (s.txs.map ofSt) B' d' (s.dirty.map ofDi) b w (by rw [e1]; exact hr.hA) (by rw [e1]; exact hr.hc) (by rw [e2]; exact hr.hB) (by rw [e2]; exact hr.hd) (by rw [e3]; exact hs.hA) (by rw [e3]; exact hs.hc) (by rw [e4]; exact hs.hB) (by rw [e4]; exact hs.hd) hf
  rw [e1, e2, e3, e4] at H
  exact H.mono fun e w' ⟨he, hb⟩ => ⟨⟨b, he, hi⟩, hb⟩
end Go.Proofs.Ytebickoieipjpaa
end
section
namespace Go.Gi
def txB (s : List UInt8) : List UInt8 := putL 2 s.length ++ s
def keyB (r : RecR) : List UInt8 := putL 2 r.index.toNat ++ txB r.key ++ putL 4 r.rpage.toNat ++ putL 2 r.rslot.toNat ++ [if r.live then 1 else 0]
def chB (r : RecR) : List UInt8 := putL 4 r.page.toNat ++ putL 1 r.ok.toNat ++ putL 2 r.oa.toNat ++ txB r.os ++ txB r.oo ++ putL 1 r.undo.toNat ++ (if r.undo = 2 then keyB r else [])
def stB (t : StR) : List UInt8 := putL 4 t.tx.toNat ++ putL 1 t.st.toNat ++ putL 8 t.last.toNat ++ putL 8 t.next.toNat
def diB (t : DiR) : List UInt8 := putL 4 t.page.toNat ++ putL 8 t.lsn.toNat
def stsB (l : List StR) : List UInt8 := (l.map stB).flatten
def disB (l : List DiR) : List UInt8 := (l.map diB).flatten
def tabB (r : RecR) : List UInt8 := putL 2 r.txs.length ++ stsB r.txs ++ putL 2 r.dirty.length ++ disB r.dirty
def headB (r : RecR) : List UInt8 := putL 1 r.kind.toNat ++ putL 4 r.tx.toNat ++ putL 8 r.prev.toNat
def recB (r : RecR) : List UInt8 := headB r ++ (if isNext r.kind then putL 8 r.next.toNat else []) ++ (if isChange r.kind then chB r else []) ++ (if r.kind = 8 then tabB r else [])
structure RecW (r : RecR) : Prop where
  prev : 0 ≤ r.prev ∧ r.prev ≤ 18446744073709551615
  next : 0 ≤ r.next ∧ r.next ≤ 18446744073709551615
  page : 0 ≤ r.page ∧ r.page ≤ 4294967295
  rpage : 0 ≤ r.rpage ∧ r.rpage ≤ 4294967295
  sts : ∀ t ∈ r.txs, (0 ≤ t.last ∧ t.last ≤ 18446744073709551615) ∧ 0 ≤ t.next ∧ t.next ≤ 18446744073709551615
  dis : ∀ t ∈ r.dirty, (0 ≤ t.page ∧ t.page ≤ 4294967295) ∧ 0 ≤ t.lsn ∧ t.lsn ≤ 18446744073709551615
theorem c8_1 : clamp8 1 = 1 := rfl
theorem c8_2 : clamp8 2 = 2 := rfl
theorem c8_4 : clamp8 4 = 4 := rfl
theorem c8_8 : clamp8 8 = 8 := rfl
theorem stB_len (t : StR) : (stB t).length = 21 := by simp [stB, putL_length]
theorem diB_len (t : DiR) : (diB t).length = 12 := by simp [diB, putL_length]
theorem stsB_len (l : List StR) : (stsB l).length = 21 * l.length := by
  induction l with
  | nil => rfl
  | cons a l ih => simp [stsB, stB_len] at ih ⊢; omega
theorem disB_len (l : List DiR) : (disB l).length = 12 * l.length := by
  induction l with
  | nil => rfl
  | cons a l ih => simp [disB, diB_len] at ih ⊢; omega
theorem stsB_take (l : List StR) (k : Nat) (h : k < l.length) : stsB (l.take (k + 1)) = stsB (l.take k) ++ stB l[k] := by
  unfold stsB
  rw [List.take_succ_eq_append_getElem h, List.map_append, List.flatten_append]
  simp
theorem disB_take (l : List DiR) (k : Nat) (h : k < l.length) : disB (l.take (k + 1)) = disB (l.take k) ++ diB l[k] := by
  unfold disB
  rw [List.take_succ_eq_append_getElem h, List.map_append, List.flatten_append]
  simp
theorem chB_len (r : RecR) (h1 : r.os.length ≤ 512) (h2 : r.oo.length ≤ 512) (h3 : r.key.length ≤ 64) : (chB r).length ≤ 2000 := by
  unfold chB keyB txB
  split <;> simp [putL_length] <;> omega
def sel (b : Bool) (l : List UInt8) : List UInt8 := if b then l else []
theorem sel_len (b : Bool) (l : List UInt8) : (sel b l).length ≤ l.length := by unfold sel; split <;> simp
theorem sel_true (l : List UInt8) : sel true l = l := rfl
theorem sel_false (l : List UInt8) : sel false l = [] := rfl
theorem sel_eq {b : Bool} {p : Prop} [Decidable p] (h : Says b p) (l : List UInt8) : sel b l = if p then l else [] := by
  cases b
  · rw [if_neg (h.not rfl)]; rfl
  · rw [if_pos (h.1 rfl)]; rfl
end Go.Gi
end
section
namespace Go.Proofs.Ytebickoieipjpaa
open Go.ChangeShapes Go.WideShapes Go.RowKit Go.Gi Go.Proofs.YtebickoieipjpaaW.PrintWords OpenK PRs
set_option linter.unusedVariables false
set_option maxRecDepth 20000
theorem opens_weak {α : Type} {P : Program} {t : TypeId} {k : Kd α} {B B' : α → Prop} (h : Opens P t k B) (hB : ∀ a, B a → B' a) : Opens P t k B' := fun H enc W spare held fuel cs x hx hl => by
  obtain ⟨a, h1, h2⟩ := h H enc W spare held fuel cs x hx hl
  exact ⟨a, h1, hB a h2⟩
def WU (ik : IntKind) (n : Int) : Prop := (Lit.int ik n).wf = true
def kOpT : Kd (Int × Int × ByteArray × ByteArray) := Kd.iso (Kd.pair (Kd.int .i64) (Kd.pair (Kd.int .i64) (Kd.pair Kd.string Kd.string))) (fun x => x)
theorem opens_opT : Opens Try.prog 27 kOpT (fun _ => True) :=
  opens_weak (opens_struct Try.underlying27 (opens_cons (opens_int Try.underlying3) rfl (by kernel_rfl) (opens_cons (opens_int Try.underlying3) rfl (by kernel_rfl) (opens_cons (opens_string Try.underlying9) rfl (by kernel_rfl) (opens_one (opens_string Try.underlying9) rfl (by kernel_rfl))))) (by kernel_rfl) (fun a => a) (fun _ => rfl)) (fun _ _ => trivial)
def kRidT : Kd (Int × Int) := Kd.iso (Kd.pair (Kd.int .u32) (Kd.int .i64)) (fun x => x)
theorem opens_ridT : Opens Try.prog 29 kRidT (fun x => WU .u32 x.1 ∧ WU .i64 x.2) :=
  opens_struct Try.underlying29 (opens_cons (opens_int Try.underlying25) rfl (by kernel_rfl) (opens_one (opens_int Try.underlying3) rfl (by kernel_rfl))) (by kernel_rfl) (fun a => a) (fun _ => rfl)
def kEntT : Kd (ByteArray × (Int × Int)) := Kd.iso (Kd.pair Kd.string kRidT) (fun x => x)
theorem opens_entT : Opens Try.prog 31 kEntT (fun x => WU .u32 x.2.1 ∧ WU .i64 x.2.2) :=
  opens_weak (opens_struct Try.underlying31 (opens_cons (opens_string Try.underlying9) rfl (by kernel_rfl) (opens_one opens_ridT rfl (by kernel_rfl))) (by kernel_rfl) (fun a => a) (fun _ => rfl)) (fun _ h => ⟨h.2.1, h.2.2⟩)
theorem opens_stT : Opens Try.prog 70 k70 (fun x => WU .u64 x.f2 ∧ WU .u64 x.f3) :=
  opens_weak (opens_struct Try.underlying70 (opens_cons (opens_int Try.underlying3) rfl (by kernel_rfl) (opens_cons (opens_int Try.underlying3) rfl (by kernel_rfl) (opens_cons (opens_int Try.underlying23) rfl (by kernel_rfl) (opens_one (opens_int Try.underlying23) rfl (by kernel_rfl))))) (by kernel_rfl) (fun a => ⟨a.1, a.2.1, a.2.2.1, a.2.2.2⟩) (fun _ => rfl)) (fun _ h => ⟨h.2.2.1, h.2.2.2⟩)
theorem opens_diT : Opens Try.prog 72 k72 (fun x => WU .u32 x.f0 ∧ WU .u64 x.f1) :=
  opens_struct Try.underlying72 (opens_cons (opens_int Try.underlying25) rfl (by kernel_rfl) (opens_one (opens_int Try.underlying23) rfl (by kernel_rfl))) (by kernel_rfl) (fun a => ⟨a.1, a.2⟩) (fun _ => rfl)
theorem opens_stsT : Opens Try.prog 32 (Kd.slice 70 k70) (fun l => l.length * 32 ≤ 140737488351232 ∧ ∀ x ∈ l, WU .u64 x.f2 ∧ WU .u64 x.f3) :=
  opens_slice Try.underlying32 (by kernel_rfl) (by decide) (by kernel_rfl) opens_stT
theorem opens_disT : Opens Try.prog 33 (Kd.slice 72 k72) (fun l => l.length * 16 ≤ 140737488351232 ∧ ∀ x ∈ l, WU .u32 x.f0 ∧ WU .u64 x.f1) :=
  opens_slice Try.underlying33 (by kernel_rfl) (by decide) (by kernel_rfl) opens_diT
abbrev RecT := Int × Int × Int × Int × Int × (Int × Int × ByteArray × ByteArray) × Int × Int × (ByteArray × (Int × Int)) × Bool × List S70 × List S72
def kRecT : Kd RecT := Kd.iso (Kd.pair (Kd.int .i64) (Kd.pair (Kd.int .i64) (Kd.pair (Kd.int .u64) (Kd.pair (Kd.int .u64) (Kd.pair (Kd.int .u32) (Kd.pair kOpT (Kd.pair (Kd.int .i64) (Kd.pair (Kd.int .i64) (Kd.pair kEntT (Kd.pair Kd.bool (Kd.pair (Kd.slice 70 k70) (Kd.slice 72 k72)))))))))))) (fun x => x)
def RecT.ok : RecT → Prop := fun (_, _, prev, next, page, _, _, _, (_, (rp, _)), _, sts, dis) => WU .u64 prev ∧ WU .u64 next ∧ WU .u32 page ∧ WU .u32 rp ∧ (sts.length * 32 ≤ 140737488351232 ∧ ∀ x ∈ sts, WU .u64 x.f2 ∧ WU .u64 x.f3) ∧ (dis.length * 16 ≤ 140737488351232 ∧ ∀ x ∈ dis, WU .u32 x.f0 ∧ WU .u64 x.f1)
theorem opens_recT : Opens Try.prog 35 kRecT RecT.ok :=
  opens_weak (opens_struct Try.underlying35 (opens_cons (opens_int Try.underlying3) rfl (by kernel_rfl) (opens_cons (opens_int Try.underlying3) rfl (by kernel_rfl) (opens_cons (opens_int Try.underlying23) rfl (by kernel_rfl) (opens_cons (opens_int Try.underlying23) rfl (by kernel_rfl) (opens_cons (opens_int Try.underlying25) rfl (by kernel_rfl)
    (opens_cons opens_opT rfl (by kernel_rfl) (opens_cons (opens_int Try.underlying3) rfl (by kernel_rfl) (opens_cons (opens_int Try.underlying3) rfl (by kernel_rfl) (opens_cons opens_entT rfl (by kernel_rfl) (opens_cons (opens_bool Try.underlying4) rfl (by kernel_rfl) (opens_cons opens_stsT rfl (by kernel_rfl) (opens_one opens_disT rfl (by kernel_rfl)))))))))))))
    (by kernel_rfl) (fun a => a) (fun _ => rfl)) (fun _ ⟨_, _, h3, h4, h5, _, _, _, h9, _, h11, h12⟩ => ⟨h3, h4, h5, h9.1, h11, h12⟩)
def stOf' (s : S70) : StR := ⟨s.f0, s.f1, s.f2, s.f3⟩
def diOf' (s : S72) : DiR := ⟨s.f0, s.f1⟩
theorem map_st (l : List S70) : (l.map stOf').map ofSt = l := by rw [List.map_map]; exact List.map_id l
theorem map_di (l : List S72) : (l.map diOf').map ofDi = l := by rw [List.map_map]; exact List.map_id l
theorem rec_cells {W : World} {x : RecT} {cs : List Value} (h : kRecT.K W x cs) (hx : x.ok) : ∃ (r : RecR) (A : Option Addr) (c : Nat) (B : Option Addr) (d : Nat), cs = (r.cells A c B d).toList ∧ RowsR W r A c B d ∧ RecW r := by
  obtain ⟨x0, x1, x2, x3, x4, ⟨y0, y1, y2, y3⟩, x6, x7, ⟨z0, z1, z2⟩, x9, sts, dis⟩ := x
  obtain ⟨_, _, rfl, rfl, ⟨_, _, rfl, rfl, ⟨_, _, rfl, rfl, ⟨_, _, rfl, rfl, ⟨_, _, rfl, rfl, ⟨_, _, rfl, ⟨_, _, rfl, rfl, ⟨_, _, rfl, rfl, ⟨_, _, rfl, rfl, rfl⟩⟩⟩, ⟨_, _, rfl, rfl, ⟨_, _, rfl, rfl, ⟨_, _, rfl, ⟨_, _, rfl, rfl, ⟨_, _, rfl, rfl, rfl⟩⟩, ⟨_, _, rfl, rfl, ⟨_, _, rfl, ⟨A, c, rfl, hlA, hgA⟩, ⟨B, d, rfl, hlB, hgB⟩⟩⟩⟩⟩⟩⟩⟩⟩⟩⟩⟩ := h
  obtain ⟨k1, k2, k3, k4, ⟨k5, k6⟩, k7, k8⟩ := hx
  refine ⟨⟨x0, x1, x2, x3, x4, y0, y1, y2.data.toList, y3.data.toList, x6, x7, z0.data.toList, z1, z2, x9, sts.map stOf', dis.map diOf'⟩, A, c, B, d, ?_, ?_, ?_⟩
  · unfold RecR.cells
    simp only [bs_toList, List.length_map]
    rfl
  · constructor
    · show Kd.C _ W A (sts.map stOf').length ((sts.map stOf').map ofSt)
      rw [map_st, List.length_map]; exact hgA
    · show (sts.map stOf').length ≤ c
      rw [List.length_map]; exact hlA
    · show Kd.C _ W B (dis.map diOf').length ((dis.map diOf').map ofDi)
      rw [map_di, List.length_map]; exact hgB
    · show (dis.map diOf').length ≤ d
      rw [List.length_map]; exact hlB
    · show (sts.map stOf').length * 32 ≤ _
      rw [List.length_map]; exact k5
    · show (dis.map diOf').length * 16 ≤ _
      rw [List.length_map]; exact k7
  · constructor
    · exact bounds_u64 k1
    · exact bounds_u64 k2
    · exact bounds_u32 k3
    · exact bounds_u32 k4
    · intro t ht
      obtain ⟨u, hu, rfl⟩ := List.mem_map.1 ht
      exact ⟨bounds_u64 (k6 u hu).1, bounds_u64 (k6 u hu).2⟩
    · intro t ht
      obtain ⟨u, hu, rfl⟩ := List.mem_map.1 ht
      exact ⟨bounds_u32 (k8 u hu).1, bounds_u64 (k8 u hu).2⟩
set_option maxRecDepth 100000 in
theorem rec_open3 {H : Type} {enc : TypeId × Value → H} {W : World} {spare : Nat → Bool} {held : Bool} {rr : Reach} {b0 : Nat} {v : Value} {dd : DataW H} {p : List MemPlace} (hv : Value.okWide Try.prog W rr b0 35 v)
    (h : DataW.Trod enc Try.prog W 0 spare held 35 v dd p) (hl : Light Try.prog 35 dd) :
    ∃ (r : RecR) (A : Option Addr) (c : Nat) (B : Option Addr) (d : Nat), v = r.val A c B d ∧ RowsR W r A c B d ∧ RecW r := by
  obtain ⟨cs, rfl, hsz⟩ := okWide_struct Try.underlying35 hv
  obtain ⟨fuel, hf⟩ := h
  obtain ⟨x, hk, hB⟩ := opens_recT H enc W spare held fuel _ _ hf hl
  obtain ⟨r, A, c, B, d, e, h1, h2⟩ := rec_cells hk hB
  obtain ⟨l⟩ := cs
  simp only [Value.cells] at e
  refine ⟨r, A, c, B, d, ?_, h1, h2⟩
  unfold RecR.val
  congr 1
  apply Array.toList_inj.1
  exact e
end Go.Proofs.Ytebickoieipjpaa
end
section
namespace Go.Proofs.Ytebickoieipjpaa
open Go.RowKit
theorem wanted_of {o : Oper} {ops : Array Oper} {tmps : Array Value} {j : Nat} {b : Bool} (hg : o.guard = some (j, true)) (hy : yielded ops tmps j = some b) : Region.wanted o (yielded ops tmps) = b := by
  unfold Region.wanted
  simp only [hg, hy]
  cases b <;> rfl
theorem on_ {P : Program} {ops : Array Oper} {rest : List Oper} {o : Oper} {a : Act} {w : World} {Q : Exit → Act → World → Prop} (j : Nat) {b : Bool} {d : Tmp} (hg : o.guard = some (j, true)) (hy : yielded ops a.tmps j = some b)
    (hN : o.dst = some d) (v : Value) (hrun : b = true → (execOp a.eval o).run P w = .ok (.value v) w) {a' : Value → Act} (ha : ∀ u, a.put (some d) u = a' u)
    (h : ∀ u, (b = true → u = v) → wpList P ops Q rest (a' u) w) : wpList P ops Q (o :: rest) a w := by
  have hw := wanted_of hg hy
  refine wpList_step fun K hK => ?_
  cases b with
  | true =>
    rw [if_pos hw]
    unfold Oper.wp
    rw [hrun rfl, Oper.upon_value, hN, ha]
    exact hK _ _ (h v (fun _ => rfl))
  | false =>
    rw [if_neg (by rw [hw]; simp), hN, ha]
    exact hK _ _ (h _ (fun e => by cases e))
theorem off_ {P : Program} {ops : Array Oper} {rest : List Oper} {o : Oper} {a : Act} {w : World} {Q : Exit → Act → World → Prop} {d : Tmp} (hg : o.guard = none)
    (hN : o.dst = some d) (v : Value) (hrun : (execOp a.eval o).run P w = .ok (.value v) w) {a' : Act} (ha : a.put (some d) v = a')
    (h : wpList P ops Q rest a' w) : wpList P ops Q (o :: rest) a w := by
  have hw : Region.wanted o (yielded ops a.tmps) = true := by unfold Region.wanted; rw [hg]
  refine wpList_step fun K hK => ?_
  rw [if_pos hw]
  unfold Oper.wp
  rw [hrun, Oper.upon_value, hN, ha]
  exact hK _ _ h
end Go.Proofs.Ytebickoieipjpaa
end
section
namespace Go.Gi
open Go.RowKit
structure ChR where
  page : Int
  ok : Int
  oa : Int
  os : List UInt8
  oo : List UInt8
  undo : Int
  index : Int
  key : List UInt8
  rpage : Int
  rslot : Int
  live : Bool
def rdCh (L : List UInt8) (a : Nat) (e : Int) : ChR × Nat × Int :=
  let q1 := rNum L a e 4
  let q2 := rNum L q1.2.1 q1.2.2 1
  let q3 := rNum L q2.2.1 q2.2.2 2
  let q4 := rText L q3.2.1 q3.2.2 512
  let q5 := rText L q4.2.1 q4.2.2 512
  let q6 := rNum L q5.2.1 q5.2.2 1
  if (q6.1 : Int) = 2 then
    let q7 := rNum L q6.2.1 q6.2.2 2
    let q8 := rText L q7.2.1 q7.2.2 64
    let q9 := rNum L q8.2.1 q8.2.2 4
    let q10 := rNum L q9.2.1 q9.2.2 2
    let q11 := rBool L q10.2.1 q10.2.2
    (⟨q1.1, q2.1, q3.1, q4.1, q5.1, q6.1, q7.1, q8.1, q9.1, q10.1, q11.1⟩, q11.2.1, q11.2.2)
  else (⟨q1.1, q2.1, q3.1, q4.1, q5.1, q6.1, 0, [], 0, 0, false⟩, q6.2.1, q6.2.2)
theorem numL_take (L : List UInt8) (n : Nat) : numL (L.take n) < 256 ^ n :=
  Nat.lt_of_lt_of_le (numL_lt _) (Nat.pow_le_pow_right (by decide) (List.length_take_le _ _))
theorem rNum_lt (L : List UInt8) (a : Nat) (e : Int) (n : Nat) : (rNum L a e n).1 < 256 ^ n := by
  have h0 : 0 < 256 ^ n := Nat.pow_pos (by decide)
  unfold rNum
  split
  · exact h0
  split
  · exact h0
  split
  · exact h0
  · simp only [Int.toNat_natCast]
    exact numL_take _ _
theorem rText_le (l : List UInt8) (a : Nat) (e most : Int) (ha : a ≤ l.length) : (rText l a e most).2.1 ≤ l.length := by
  unfold rText
  split
  · exact ha
  split
  · exact ha
  split
  · exact ha
  split
  · exact ha
  · simp only []; omega
theorem rBool_le (l : List UInt8) (a : Nat) (e : Int) (ha : a ≤ l.length) : (rBool l a e).2.1 ≤ l.length := by
  unfold rBool
  split
  · exact ha
  split
  · exact ha
  split
  · exact ha
  · simp only []; omega
structure RS (w : World) (T g : Nat) (L : List UInt8) (a : Nat) (e : Int) : Prop where
  rd : Rd w T g (bs L) a e
  at_ : a ≤ L.length
  long : (bs L).size ≤ maxLen
theorem RS.far {w : World} {T g b o : Nat} {L : List UInt8} {a : Nat} {e : Int} {u : Value} (h : RS w T g L a e) (hne : b ≠ g) : RS (w.setCell ⟨b, o, none⟩ u) T g L a e :=
  ⟨(Below.heap_setCell w ⟨b, o, none⟩ u g (fun h => hne h.symm)).trans h.rd, h.at_, h.long⟩
theorem RS.step {w w' : World} {T g : Nat} {L : List UInt8} {a : Nat} {e : Int} (h : RS w T g L a e) (hb : Below w.heap.size w w') : RS w' T g L a e := ⟨h.rd.step hb, h.at_, h.long⟩
theorem bsetB {B : Nat} {w a : World} {b o : Nat} (h : Below B w a) (hp : B ≤ b) (u : Value) : Below B w (a.setCell ⟨b, o, none⟩ u) := h.setCell hp u
theorem bgrownB {B : Nat} {w a b : World} {g : Nat} (h : Below B w a) (hg : a.grownBy b (some g)) (hB : B ≤ w.heap.size) (hr : B ≤ g) : Below B w b :=
  h.grown hg (Nat.le_trans hB h.size) (fun k hk => by injection hk; omega)
end Go.Gi
end
section
namespace Go.Gi
open Go.RowKit
def rdSt (L : List UInt8) (a : Nat) (e : Int) : StR × Nat × Int :=
  let q1 := rNum L a e 4
  let q2 := rNum L q1.2.1 q1.2.2 1
  let q3 := rNum L q2.2.1 q2.2.2 8
  let q4 := rNum L q3.2.1 q3.2.2 8
  (⟨q1.1, q2.1, q3.1, q4.1⟩, q4.2.1, q4.2.2)
def rdDi (L : List UInt8) (a : Nat) (e : Int) : DiR × Nat × Int :=
  let q1 := rNum L a e 4
  let q2 := rNum L q1.2.1 q1.2.2 8
  (⟨q1.1, q2.1⟩, q2.2.1, q2.2.2)
def rdMany {α : Type} (f : Nat → Int → α × Nat × Int) : Nat → List α → Nat → Int → List α × Nat × Int
  | 0, acc, a, e => (acc, a, e)
  | n + 1, acc, a, e => if e = 0 then rdMany f n (acc ++ [(f a e).1]) (f a e).2.1 (f a e).2.2 else (acc, a, e)
structure TabR where
  txs : List StR
  dirty : List DiR
def rdTab (L : List UInt8) (a : Nat) (e : Int) : TabR × Nat × Int :=
  let q1 := rNum L a e 2
  let q2 := rdMany (rdSt L) q1.1 [] q1.2.1 q1.2.2
  let q3 := rNum L q2.2.1 q2.2.2 2
  let q4 := rdMany (rdDi L) q3.1 [] q3.2.1 q3.2.2
  (⟨q2.1, q4.1⟩, q4.2.1, q4.2.2)
def zCh : ChR := ⟨0, 0, 0, [], [], 0, 0, [], 0, 0, false⟩
def mkRec (kind tx prev next : Int) (c : ChR) (t : TabR) : RecR := ⟨kind, tx, prev, next, c.page, c.ok, c.oa, c.os, c.oo, c.undo, c.index, c.key, c.rpage, c.rslot, c.live, t.txs, t.dirty⟩
def rdNext (L : List UInt8) (kind : Int) (a : Nat) (e : Int) : Nat × Nat × Int := if isNext kind then rNum L a e 8 else (0, a, e)
def rdChIf (L : List UInt8) (kind : Int) (a : Nat) (e : Int) : ChR × Nat × Int := if isChange kind then rdCh L a e else (zCh, a, e)
def rdTabIf (L : List UInt8) (kind : Int) (a : Nat) (e : Int) : TabR × Nat × Int := if kind = 8 then rdTab L a e else (⟨[], []⟩, a, e)
def rdRec (L : List UInt8) : RecR × Nat × Int :=
  let q1 := rNum L 0 0 1
  let q2 := rNum L q1.2.1 q1.2.2 4
  let q3 := rNum L q2.2.1 q2.2.2 8
  let q4 := rdNext L q1.1 q3.2.1 q3.2.2
  let q5 := rdChIf L q1.1 q4.2.1 q4.2.2
  let q6 := rdTabIf L q1.1 q5.2.1 q5.2.2
  (mkRec q1.1 q2.1 q3.1 q4.1 q5.1 q6.1, q6.2.1, q6.2.2)
def decOk (L : List UInt8) : Prop := rEnd L (rdRec L).2.1 (rdRec L).2.2 = 0 ∧ recOk (rdRec L).1
theorem rdMany_len {α : Type} (f : Nat → Int → α × Nat × Int) : ∀ n acc a e, (rdMany f n acc a e).1.length ≤ acc.length + n
  | 0, acc, a, e => by simp [rdMany]
  | n + 1, acc, a, e => by
    unfold rdMany
    split
    · have := rdMany_len f n (acc ++ [(f a e).1]) (f a e).2.1 (f a e).2.2
      rw [List.length_append] at this
      simp only [List.length_cons, List.length_nil] at this
      omega
    · simp only []; omega
theorem rdMany_stop {α : Type} {f : Nat → Int → α × Nat × Int} {k : Nat} {acc ts : List α} {a b : Nat} {e e' : Int} (h : rdMany f k acc a e = (ts, b, e')) (hx : ¬ (0 < k ∧ e = 0)) : ts = acc ∧ b = a ∧ e' = e := by
  cases k with
  | zero => unfold rdMany at h; injection h with h1 h2; injection h2 with h2 h3; exact ⟨h1.symm, h2.symm, h3.symm⟩
  | succ k =>
    unfold rdMany at h
    rw [if_neg (fun he => hx ⟨Nat.succ_pos k, he⟩)] at h
    injection h with h1 h2; injection h2 with h2 h3; exact ⟨h1.symm, h2.symm, h3.symm⟩
theorem rdMany_go {α : Type} {f : Nat → Int → α × Nat × Int} {k : Nat} {acc ts : List α} {a b : Nat} {e' : Int} {x : α} {a1 : Nat} {e1 : Int} (h : rdMany f (k + 1) acc a 0 = (ts, b, e')) (hf : f a 0 = (x, a1, e1)) : rdMany f k (acc ++ [x]) a1 e1 = (ts, b, e') := by
  unfold rdMany at h
  rw [if_pos rfl, hf] at h
  exact h
theorem flat_snoc {α : Type} (enc : α → List Value) (acc : List α) (x : α) : ((acc ++ [x]).map enc).flatten = (acc.map enc).flatten ++ enc x := by simp
theorem tab_len {L : List UInt8} {k : Int} {a : Nat} {e : Int} {t : TabR} {a' : Nat} {e' : Int} (h : rdTabIf L k a e = (t, a', e')) : t.txs.length ≤ 65535 ∧ t.dirty.length ≤ 65535 := by
  unfold rdTabIf at h
  split at h
  · unfold rdTab at h
    simp only at h
    injection h with h1 h2
    subst h1
    have x1 := rNum_lt L a e 2
    have x2 : ∀ a e, (rNum L a e 2).1 < 65536 := fun a e => rNum_lt L a e 2
    constructor
    · refine Nat.le_trans (rdMany_len _ _ _ _ _) ?_
      have := x2 a e
      simp only [List.length_nil]
      omega
    · refine Nat.le_trans (rdMany_len _ _ _ _ _) ?_
      have := x2 (rdMany (rdSt L) (rNum L a e 2).1 [] (rNum L a e 2).2.1 (rNum L a e 2).2.2).2.1 (rdMany (rdSt L) (rNum L a e 2).1 [] (rNum L a e 2).2.1 (rNum L a e 2).2.2).2.2
      simp only [List.length_nil]
      omega
  · injection h with h1 h2
    subst h1
    simp
end Go.Gi
end
section
namespace Go.Gi
set_option linter.unusedSimpArgs false
set_option linter.unusedVariables false
theorem drop_len {L P R : List UInt8} {a : Nat} (h : L.drop a = P ++ R) : L.drop (a + P.length) = R ∧ (a + P.length ≤ L.length ∨ P = [] ∧ R = []) := by
  constructor
  · rw [← List.drop_drop, h, List.drop_left]
  · have := congrArg List.length h
    rw [List.length_drop, List.length_append] at this
    by_cases ha : a ≤ L.length
    · left; omega
    · right
      constructor <;> (apply List.eq_nil_of_length_eq_zero; omega)
theorem cNum {L R : List UInt8} {a n v : Nat} (h : L.drop a = putL n v ++ R) (ha : a ≤ L.length) (hn : n ≤ 8) (hv : v < 256 ^ n) : rNum L a 0 n = (v, a + n, 0) ∧ L.drop (a + n) = R ∧ a + n ≤ L.length := by
  have hl := congrArg List.length h
  rw [List.length_drop, List.length_append, putL_length] at hl
  obtain ⟨h1, _⟩ := drop_len h
  rw [putL_length] at h1
  refine ⟨?_, h1, by omega⟩
  unfold rNum
  rw [if_neg (by simp), if_neg (by omega), if_neg (by omega)]
  have ht : (L.drop a).take n = putL n v := by rw [h]; exact List.take_left' (putL_length n v)
  rw [Int.toNat_natCast, ht, numL_putL, Nat.mod_eq_of_lt hv]
theorem cText {L R : List UInt8} {a : Nat} {s : List UInt8} {most : Int} (h : L.drop a = txB s ++ R) (ha : a ≤ L.length) (hs : s.length ≤ 65535) (hm : (s.length : Int) ≤ most) : rText L a 0 most = (s, a + (txB s).length, 0) ∧ L.drop (a + (txB s).length) = R ∧ a + (txB s).length ≤ L.length := by
  unfold txB at h ⊢
  have hl := congrArg List.length h
  rw [List.length_drop, List.length_append, List.length_append, putL_length] at hl
  obtain ⟨h1, _⟩ := drop_len h
  refine ⟨?_, h1, by rw [List.length_append, putL_length]; omega⟩
  rw [List.length_append, putL_length]
  have ht : (L.drop a).take 2 = putL 2 s.length := by rw [h, List.append_assoc]; exact List.take_left' (putL_length 2 _)
  have hn : numL ((L.drop a).take 2) = s.length := by rw [ht, numL_putL]; omega
  have hd : L.drop (a + 2) = s ++ R := by
    rw [← List.drop_drop, h, List.append_assoc]
    exact List.drop_left' (putL_length 2 _)
  unfold rText
  rw [if_neg (by simp), if_neg (by omega), hn, if_neg (by omega), if_neg (by omega), hd, List.take_left]
  congr 2
  omega
theorem cBool {L R : List UInt8} {a : Nat} {b : Bool} (h : L.drop a = [if b then 1 else 0] ++ R) (ha : a ≤ L.length) : rBool L a 0 = (b, a + 1, 0) ∧ L.drop (a + 1) = R ∧ a + 1 ≤ L.length := by
  have hl := congrArg List.length h
  rw [List.length_drop, List.length_append] at hl
  simp only [List.length_cons, List.length_nil] at hl
  obtain ⟨h1, _⟩ := drop_len h
  refine ⟨?_, h1, by omega⟩
  have ht : numL ((L.drop a).take 1) = if b then 1 else 0 := by rw [h]; cases b <;> rfl
  unfold rBool
  rw [if_neg (by simp), if_neg (by omega), ht]
  cases b <;> rfl
theorem cMany {α : Type} {L : List UInt8} {f : Nat → Int → α × Nat × Int} {enc : α → List UInt8} {P : α → Prop} (hf : ∀ a x R, P x → L.drop a = enc x ++ R → a ≤ L.length → f a 0 = (x, a + (enc x).length, 0) ∧ L.drop (a + (enc x).length) = R ∧ a + (enc x).length ≤ L.length) :
    ∀ (items acc : List α) (a : Nat) (R : List UInt8), (∀ x ∈ items, P x) → L.drop a = (items.map enc).flatten ++ R → a ≤ L.length →
      rdMany f items.length acc a 0 = (acc ++ items, a + (items.map enc).flatten.length, 0) ∧ L.drop (a + (items.map enc).flatten.length) = R ∧ a + (items.map enc).flatten.length ≤ L.length
  | [], acc, a, R, _, h, ha => by simpa [rdMany] using ⟨h, ha⟩
  | x :: items, acc, a, R, hp, h, ha => by
    rw [List.map_cons, List.flatten_cons, List.append_assoc] at h
    obtain ⟨h1, h2, h3⟩ := hf a x _ (hp x (by simp)) h ha
    obtain ⟨k1, k2, k3⟩ := cMany hf items (acc ++ [x]) _ R (fun y hy => hp y (by simp [hy])) h2 h3
    rw [List.length_cons, rdMany, if_pos rfl, h1]
    simp only [List.map_cons, List.flatten_cons, List.length_append]
    rw [← Nat.add_assoc]
    exact ⟨by rw [k1]; simp, k2, k3⟩
end Go.Gi
end
section
namespace Go.Gi
set_option linter.unusedSimpArgs false
set_option linter.unusedVariables false
theorem chB_no (r : RecR) (h : ¬ r.undo = 2) : chB r = putL 4 r.page.toNat ++ putL 1 r.ok.toNat ++ putL 2 r.oa.toNat ++ txB r.os ++ txB r.oo ++ putL 1 r.undo.toNat := by unfold chB; rw [if_neg h, List.append_nil]
theorem chB_yes (r : RecR) (h : r.undo = 2) : chB r = putL 4 r.page.toNat ++ putL 1 r.ok.toNat ++ putL 2 r.oa.toNat ++ txB r.os ++ txB r.oo ++ putL 1 r.undo.toNat ++ keyB r := by unfold chB; rw [if_pos h]
end Go.Gi
end
section
namespace Go.Gi
set_option linter.unusedSimpArgs false
set_option linter.unusedVariables false
theorem nc1 : ((1 : Nat) : Int) = 1 := rfl
theorem nc2 : ((2 : Nat) : Int) = 2 := rfl
theorem nc4 : ((4 : Nat) : Int) = 4 := rfl
theorem nc8 : ((8 : Nat) : Int) = 8 := rfl
def chOf (r : RecR) : ChR := ⟨r.page, r.ok, r.oa, r.os, r.oo, r.undo, r.index, r.key, r.rpage, r.rslot, r.live⟩
theorem toN {x : Int} (h : 0 ≤ x) : ((x.toNat : Nat) : Int) = x := Int.toNat_of_nonneg h
theorem cCh {L R : List UInt8} {a : Nat} (r : RecR) (h : L.drop a = chB r ++ R) (ha : a ≤ L.length) (p1 : 0 ≤ r.page ∧ r.page ≤ 4294967295) (p2 : 0 ≤ r.ok ∧ r.ok ≤ 255) (p3 : 0 ≤ r.oa ∧ r.oa ≤ 65535) (p4 : r.os.length ≤ 512) (p5 : r.oo.length ≤ 512) (p6 : 0 ≤ r.undo ∧ r.undo ≤ 2)
    (p7 : 0 ≤ r.index ∧ r.index ≤ 65535) (p8 : r.key.length ≤ 64) (p9 : 0 ≤ r.rpage ∧ r.rpage ≤ 4294967295) (p10 : 0 ≤ r.rslot ∧ r.rslot ≤ 65535) (p11 : ¬ r.undo = 2 → r.index = 0 ∧ r.key.length = 0 ∧ r.rpage = 0 ∧ r.rslot = 0 ∧ r.live = false) :
    rdCh L a 0 = (chOf r, a + (chB r).length, 0) ∧ L.drop (a + (chB r).length) = R ∧ a + (chB r).length ≤ L.length := by
  have hd := drop_len h
  have hlen : a + (chB r).length ≤ L.length := by
    have := congrArg List.length h
    rw [List.length_drop, List.length_append] at this
    omega
  refine ⟨?_, hd.1, hlen⟩
  by_cases hu : r.undo = 2
  · rw [chB_yes r hu] at h ⊢
    unfold keyB at h ⊢
    simp only [List.append_assoc] at h
    obtain ⟨q1, h1, l1⟩ := cNum (n := 4) h ha (by omega) (by omega)
    obtain ⟨q2, h2, l2⟩ := cNum (n := 1) h1 l1 (by omega) (by omega)
    obtain ⟨q3, h3, l3⟩ := cNum (n := 2) h2 l2 (by omega) (by omega)
    obtain ⟨q4, h4, l4⟩ := cText (most := 512) h3 l3 (by omega) (by omega)
    obtain ⟨q5, h5, l5⟩ := cText (most := 512) h4 l4 (by omega) (by omega)
    obtain ⟨q6, h6, l6⟩ := cNum (n := 1) h5 l5 (by omega) (by omega)
    obtain ⟨q7, h7, l7⟩ := cNum (n := 2) h6 l6 (by omega) (by omega)
    obtain ⟨q8, h8, l8⟩ := cText (most := 64) h7 l7 (by omega) (by omega)
    obtain ⟨q9, h9, l9⟩ := cNum (n := 4) h8 l8 (by omega) (by omega)
    obtain ⟨q10, h10, l10⟩ := cNum (n := 2) h9 l9 (by omega) (by omega)
    obtain ⟨q11, h11, l11⟩ := cBool h10 l10
    have hu2 : ((r.undo.toNat : Nat) : Int) = 2 := by omega
    simp only [nc1, nc2, nc4, nc8] at q1 q2 q3 q6 q7 q9 q10
    unfold rdCh
    simp only [q1, q2, q3, q4, q5, q6, q7, q8, q9, q10, q11, if_pos hu2]
    unfold chOf
    rw [toN p1.1, toN p2.1, toN p3.1, toN p6.1, toN p7.1, toN p9.1, toN p10.1]
    congr 2
    simp only [List.length_append, putL_length, List.length_cons, List.length_nil]
    omega
  · obtain ⟨x7, x8, x9, x10, x11⟩ := p11 hu
    rw [chB_no r hu] at h ⊢
    simp only [List.append_assoc] at h
    obtain ⟨q1, h1, l1⟩ := cNum (n := 4) h ha (by omega) (by omega)
    obtain ⟨q2, h2, l2⟩ := cNum (n := 1) h1 l1 (by omega) (by omega)
    obtain ⟨q3, h3, l3⟩ := cNum (n := 2) h2 l2 (by omega) (by omega)
    obtain ⟨q4, h4, l4⟩ := cText (most := 512) h3 l3 (by omega) (by omega)
    obtain ⟨q5, h5, l5⟩ := cText (most := 512) h4 l4 (by omega) (by omega)
    obtain ⟨q6, h6, l6⟩ := cNum (n := 1) h5 l5 (by omega) (by omega)
    have hu2 : ¬ ((r.undo.toNat : Nat) : Int) = 2 := by omega
    simp only [nc1, nc2, nc4, nc8] at q1 q2 q3 q6
    unfold rdCh
    simp only [q1, q2, q3, q4, q5, q6, if_neg hu2]
    unfold chOf
    rw [toN p1.1, toN p2.1, toN p3.1, toN p6.1, x7, List.eq_nil_of_length_eq_zero x8, x9, x10, x11]
    congr 2
    simp only [List.length_append, putL_length]
    omega
theorem cSt {L R : List UInt8} {a : Nat} {t : StR} (hp : okSt t ∧ (0 ≤ t.last ∧ t.last ≤ 18446744073709551615) ∧ 0 ≤ t.next ∧ t.next ≤ 18446744073709551615) (h : L.drop a = stB t ++ R) (ha : a ≤ L.length) :
    rdSt L a 0 = (t, a + (stB t).length, 0) ∧ L.drop (a + (stB t).length) = R ∧ a + (stB t).length ≤ L.length := by
  have hd := drop_len h
  have hlen : a + (stB t).length ≤ L.length := by
    have := congrArg List.length h
    rw [List.length_drop, List.length_append] at this
    omega
  refine ⟨?_, hd.1, hlen⟩
  obtain ⟨⟨o1, o2, o3, o4⟩, p1, p2⟩ := hp
  rw [stB_len]
  unfold stB at h
  simp only [List.append_assoc] at h
  obtain ⟨q1, h1, l1⟩ := cNum (n := 4) h ha (by omega) (by omega)
  obtain ⟨q2, h2, l2⟩ := cNum (n := 1) h1 l1 (by omega) (by omega)
  obtain ⟨q3, h3, l3⟩ := cNum (n := 8) h2 l2 (by omega) (by omega)
  obtain ⟨q4, h4, l4⟩ := cNum (n := 8) h3 l3 (by omega) (by omega)
  simp only [nc1, nc2, nc4, nc8] at q1 q2 q3 q4
  unfold rdSt
  simp only [q1, q2, q3, q4]
  rw [toN o1, toN (by omega), toN p1.1, toN p2.1]
theorem cDi {L R : List UInt8} {a : Nat} {t : DiR} (hp : (0 ≤ t.page ∧ t.page ≤ 4294967295) ∧ 0 ≤ t.lsn ∧ t.lsn ≤ 18446744073709551615) (h : L.drop a = diB t ++ R) (ha : a ≤ L.length) :
    rdDi L a 0 = (t, a + (diB t).length, 0) ∧ L.drop (a + (diB t).length) = R ∧ a + (diB t).length ≤ L.length := by
  have hd := drop_len h
  have hlen : a + (diB t).length ≤ L.length := by
    have := congrArg List.length h
    rw [List.length_drop, List.length_append] at this
    omega
  refine ⟨?_, hd.1, hlen⟩
  obtain ⟨p1, p2⟩ := hp
  rw [diB_len]
  unfold diB at h
  simp only [List.append_assoc] at h
  obtain ⟨q1, h1, l1⟩ := cNum (n := 4) h ha (by omega) (by omega)
  obtain ⟨q2, h2, l2⟩ := cNum (n := 8) h1 l1 (by omega) (by omega)
  simp only [nc1, nc2, nc4, nc8] at q1 q2
  unfold rdDi
  simp only [q1, q2]
  rw [toN p1.1, toN p2.1]
theorem cTab {L R : List UInt8} {a : Nat} (r : RecR) (h : L.drop a = tabB r ++ R) (ha : a ≤ L.length) (h1 : r.txs.length ≤ 64) (h2 : r.dirty.length ≤ 256) (h3 : ∀ t ∈ r.txs, okSt t) (hw : RecW r) :
    rdTab L a 0 = (⟨r.txs, r.dirty⟩, a + (tabB r).length, 0) ∧ L.drop (a + (tabB r).length) = R ∧ a + (tabB r).length ≤ L.length := by
  have hd := drop_len h
  have hlen : a + (tabB r).length ≤ L.length := by
    have := congrArg List.length h
    rw [List.length_drop, List.length_append] at this
    omega
  refine ⟨?_, hd.1, hlen⟩
  unfold tabB at h ⊢
  unfold stsB disB at h ⊢
  simp only [List.append_assoc] at h
  obtain ⟨q1, k1, l1⟩ := cNum (n := 2) h ha (by omega) (by omega)
  obtain ⟨q2, k2, l2⟩ := cMany (f := rdSt L) (enc := stB) (P := fun t => okSt t ∧ (0 ≤ t.last ∧ t.last ≤ 18446744073709551615) ∧ 0 ≤ t.next ∧ t.next ≤ 18446744073709551615) (fun a x R hp hh hl => cSt hp hh hl) r.txs [] _ _ (fun t ht => ⟨h3 t ht, hw.sts t ht⟩) k1 l1
  obtain ⟨q3, k3, l3⟩ := cNum (n := 2) k2 l2 (by omega) (by omega)
  obtain ⟨q4, k4, l4⟩ := cMany (f := rdDi L) (enc := diB) (P := fun t => (0 ≤ t.page ∧ t.page ≤ 4294967295) ∧ 0 ≤ t.lsn ∧ t.lsn ≤ 18446744073709551615) (fun a x R hp hh hl => cDi hp hh hl) r.dirty [] _ _ (fun t ht => hw.dis t ht) k3 l3
  simp only [nc1, nc2, nc4, nc8, List.nil_append] at q1 q2 q3 q4
  unfold rdTab
  simp only [q1, q2, q3, q4]
  congr 2
  simp only [List.length_append, putL_length]
  omega
theorem cRec (r : RecR) (hr : recOk r) (hw : RecW r) (q : List UInt8) : rdRec (recB r ++ q) = (r, (recB r).length, 0) := by
  obtain ⟨⟨⟨⟨⟨⟨g1, g2⟩, g3⟩, g4⟩, g5⟩, g6⟩, g7⟩ := hr
  obtain ⟨o1, o2, o3, o4⟩ := g1
  obtain ⟨L, hL⟩ : ∃ L, L = recB r ++ q := ⟨_, rfl⟩
  rw [← hL]
  have hlenL : (recB r).length ≤ L.length := by rw [hL]; simp
  have h0 : L.drop 0 = recB r ++ q := by rw [hL]; rfl
  unfold recB headB at h0
  simp only [List.append_assoc] at h0
  obtain ⟨q1, h1, l1⟩ := cNum (n := 1) h0 (Nat.zero_le _) (by omega) (by omega)
  obtain ⟨q2, h2, l2⟩ := cNum (n := 4) h1 l1 (by omega) (by omega)
  obtain ⟨q3, h3, l3⟩ := cNum (n := 8) h2 l2 (by omega) (by have := hw.prev; omega)
  simp only [nc1, nc2, nc4, nc8] at q1 q2 q3
  have hkk : ((r.kind.toNat : Nat) : Int) = r.kind := toN (by omega)
  have q4 : rdNext L r.kind (0 + 1 + 4 + 8) 0 = (r.next.toNat, 0 + 1 + 4 + 8 + (if isNext r.kind then putL 8 r.next.toNat else []).length, 0) ∧ L.drop (0 + 1 + 4 + 8 + (if isNext r.kind then putL 8 r.next.toNat else []).length) = (if isChange r.kind then chB r else []) ++ ((if r.kind = 8 then tabB r else []) ++ q) ∧ 0 + 1 + 4 + 8 + (if isNext r.kind then putL 8 r.next.toNat else []).length ≤ L.length := by
    unfold rdNext
    by_cases hk : isNext r.kind
    · simp only [if_pos hk] at h3 ⊢
      obtain ⟨x, y, z⟩ := cNum (n := 8) h3 l3 (by omega) (by have := hw.next; omega)
      simp only [nc1, nc2, nc4, nc8] at x
      rw [putL_length]
      exact ⟨x, y, z⟩
    · simp only [if_neg hk] at h3 ⊢
      have hn : r.next = 0 := g5.1.resolve_left hk
      rw [hn]
      exact ⟨rfl, h3, l3⟩
  obtain ⟨q4, h4, l4⟩ := q4
  generalize 0 + 1 + 4 + 8 + (if isNext r.kind then putL 8 r.next.toNat else []).length = a4 at *
  have hkey : (0 ≤ r.index ∧ r.index ≤ 65535) ∧ r.key.length ≤ 64 ∧ (0 ≤ r.rslot ∧ r.rslot ≤ 65535) ∧ (¬ r.undo = 2 → r.index = 0 ∧ r.key.length = 0 ∧ r.rpage = 0 ∧ r.rslot = 0 ∧ r.live = false) := by
    by_cases hu : r.undo = 2
    · have := (okKey_yes hu).1 g4
      exact ⟨by omega, by omega, by omega, fun h => absurd hu h⟩
    · have := (okKey_no hu).1 g4
      exact ⟨by omega, by omega, by omega, fun _ => ⟨this.1, this.2.1.1, this.2.1.2.1, this.2.1.2.2, this.2.2⟩⟩
  obtain ⟨y1, y2, y3, y4⟩ := hkey
  have q5 : rdChIf L r.kind a4 0 = (chOf r, a4 + (if isChange r.kind then chB r else []).length, 0) ∧ L.drop (a4 + (if isChange r.kind then chB r else []).length) = (if r.kind = 8 then tabB r else []) ++ q ∧ a4 + (if isChange r.kind then chB r else []).length ≤ L.length := by
    unfold rdChIf
    by_cases hk : isChange r.kind
    · simp only [if_pos hk] at h4 ⊢
      have ho := ((okOp_yes hk).1 g3).2
      unfold opOk at ho
      exact cCh r h4 l4 hw.page (by omega) (by omega) (by omega) (by omega) g2 y1 y2 hw.rpage y3 y4
    · simp only [if_neg hk] at h4 ⊢
      obtain ⟨z1, ⟨z2, z3, z4, z5⟩, z6⟩ := (okOp_no hk).1 g3
      obtain ⟨z7, z8, z9, z10, z11⟩ := y4 (by omega)
      refine ⟨?_, h4, l4⟩
      unfold chOf zCh
      rw [z1, z2, z3, List.eq_nil_of_length_eq_zero z4, List.eq_nil_of_length_eq_zero z5, z6, z7, List.eq_nil_of_length_eq_zero z8, z9, z10, z11]
      rfl
  obtain ⟨q5, h5, l5⟩ := q5
  have q6 : ∃ a6, rdTabIf L r.kind (a4 + (if isChange r.kind then chB r else []).length) 0 = (⟨r.txs, r.dirty⟩, a6, 0) ∧ L.drop a6 = q ∧ a6 ≤ L.length := by
    unfold rdTabIf
    by_cases hk : r.kind = 8
    · simp only [if_pos hk] at h5 ⊢
      exact ⟨_, cTab r h5 l5 g6.2.1 g6.2.2 g7 hw⟩
    · simp only [if_neg hk] at h5 ⊢
      obtain ⟨z1, z2⟩ := g6.1.resolve_left hk
      exact ⟨_, by rw [List.eq_nil_of_length_eq_zero z1, List.eq_nil_of_length_eq_zero z2], h5, l5⟩
  obtain ⟨a6, q6, h6, l6⟩ := q6
  have ha6 : a6 = (recB r).length := by
    have e1 := congrArg List.length h6
    have e2 := congrArg List.length hL
    rw [List.length_drop] at e1
    rw [List.length_append] at e2
    omega
  unfold rdRec
  simp only [q1, q2, q3, hkk, q4, q5, q6]
  rw [ha6, toN o3, toN hw.prev.1, toN hw.next.1]
  rfl
theorem dec_of_told (r : RecR) (hr : recOk r) (hw : RecW r) : decOk (recB r) ∧ (rdRec (recB r)).1 = r := by
  have h := cRec r hr hw []
  rw [List.append_nil] at h
  unfold decOk
  rw [h]
  refine ⟨⟨?_, hr⟩, rfl⟩
  unfold rEnd
  rw [if_neg (by simp)]
end Go.Gi
end
section
namespace Go.Gi
open Go.RowKit
set_option maxRecDepth 20000
theorem cellIte (w : World) (g i h j : Nat) (v : Value) : (w.setCell ⟨g, i, none⟩ v).cell? ⟨h, j, none⟩ = if g = h ∧ i = j then (w.cell? ⟨h, j, none⟩).map (fun _ => v) else w.cell? ⟨h, j, none⟩ := by
  by_cases hg : g = h
  · subst hg
    by_cases hi : i = j
    · subst hi
      rw [if_pos ⟨rfl, rfl⟩]
      cases hx : w.cell? ⟨g, i, none⟩ with
      | some x => rw [cellSame (by rw [hx]; rfl)]; rfl
      | none =>
        simp [World.cell?] at hx ⊢
        simp [World.setCell, Array.getElem?_modify]
        cases hh : w.heap[g]? with
        | none => simp
        | some o =>
          rw [hh] at hx
          cases o <;> simp_all
    · rw [if_neg (fun h => hi h.2)]
      exact World.cell?_setCell_other w _ _ v (fun h => hi (by injection h))
  · rw [if_neg (fun h => hg h.1)]
    exact World.cell?_setCell_other w _ _ v (fun h => hg (by injection h))
end Go.Gi
end
section
namespace Go.Proofs.Ytebickoieipjpaa
open Go.RowKit Go.Gi
set_option maxRecDepth 20000
theorem get_arg (s : ByteArray) (at_ long : Int) (w : World) (h : long < 0 ∨ 8 < long ∨ at_ < 0 ∨ (s.size : Int) < at_) :
    Calls Try.prog 42 #[.string s, .int .i64 at_, .int .i64 long] w fun e w' => e = .returned (.tuple #[.int .u64 0, .int .i64 1]) ∧ w' = w := by
  go_enter Try.func42, Try.ntmps42
  by_cases h1 : long < 0
  · go_wp2; go_ret2; exact ⟨rfl, rfl⟩
  by_cases h2 : 8 < long
  · go_wp2; go_ret2; exact ⟨rfl, rfl⟩
  by_cases h3 : at_ < 0
  · go_wp2; go_ret2; exact ⟨rfl, rfl⟩
  have h4 : (s.size : Int) < at_ := by omega
  clear h
  go_wp2; go_ret2; exact ⟨rfl, rfl⟩
theorem get_cut (s : ByteArray) (at_ long : Int) (w : World) (h0 : 0 ≤ long) (h1 : long ≤ 8) (h2 : 0 ≤ at_) (h3 : at_ ≤ s.size) (h4 : (s.size : Int) - at_ < long) :
    Calls Try.prog 42 #[.string s, .int .i64 at_, .int .i64 long] w fun e w' => e = .returned (.tuple #[.int .u64 0, .int .i64 4]) ∧ w' = w := by
  go_enter Try.func42, Try.ntmps42
  go_wp2; go_ret2; exact ⟨rfl, rfl⟩
set_option maxHeartbeats 400000 in
theorem get_nat (s : ByteArray) (a n : Nat) (w : World) (hs : s.size ≤ maxLen) (h1 : n ≤ 8) (h4 : a + n ≤ s.size) :
    Calls Try.prog 42 #[.string s, .int .i64 a, .int .i64 n] w fun e w' => e = .returned (.tuple #[.int .u64 (numL ((s.data.toList.drop a).take n) : Nat), .int .i64 0]) ∧ w' = w := by
  unfold maxLen at hs
  have hl : ((s.data.toList.drop a).take n).length = n := by simp; omega
  obtain ⟨l, hleq⟩ : ∃ l, (s.data.toList.drop a).take n = l := ⟨_, rfl⟩
  have Hl := Lib.hid hleq
  rw [hleq] at hl
  rw [hleq]
  clear hleq
  have g1 : decide ((n : Int) < 0) = false := decide_eq_false (by omega)
  have g2 : decide (8 < (n : Int)) = false := decide_eq_false (by omega)
  have g3 : decide ((a : Int) < 0) = false := decide_eq_false (by omega)
  have g4 : decide (s.size < a) = false := decide_eq_false (by omega)
  have g5 : decide ((s.size : Int) - a < n) = false := decide_eq_false (by omega)
  go_enter Try.func42, Try.ntmps42
  go_wp2
  go_loop [8, 9] (fun x i => ∃ k : Nat, k ≤ n ∧ i = .int .i64 ((k : Int) - 1) ∧ x = .int .u64 ((numL (l.drop k) : Nat) : Int))
      (fun _ i => (intOf i + 1).toNat)
  case atStart => exact ⟨n, Nat.le_refl _, rfl, by rw [List.drop_eq_nil_of_le (by omega)]; rfl⟩
  case round =>
    obtain ⟨k, hk, rfl, rfl⟩ := hrel
    by_cases hk0 : k = 0
    · subst hk0
      go_wp2
      go_ret2
      exact ⟨rfl, rfl⟩
    · obtain ⟨j, rfl⟩ : ∃ j, k = j + 1 := ⟨k - 1, by omega⟩
      have hj : a + j < s.size := by omega
      have hjl : j < l.length := by omega
      have hget : l[j] = s[a + j] := by
        have h := Hl.out
        subst h
        simp
        rfl
      have hstep : numL (l.drop j) = s[a + j].toNat + 256 * numL (l.drop (j + 1)) := by
        rw [List.drop_eq_getElem_cons hjl, numL, hget]
      have hlt := numL_lt (l.drop (j + 1))
      have hlt2 : 256 ^ (l.drop (j + 1)).length ≤ 256 ^ 7 := Nat.pow_le_pow_right (by decide) (by simp; omega)
      have hq : numL (l.drop (j + 1)) < 72057594037927936 := Nat.lt_of_lt_of_le hlt hlt2
      have Hst := Lib.hid hstep
      clear hstep hlt hlt2 hget
      generalize numL (l.drop (j + 1)) = q at *
      go_wp2
      go_round
      case rel => exact ⟨j, by omega, by go_num, by rw [Hst.out, wrapu64, or_byte hq]⟩
      case measure => simp [intOf]
end Go.Proofs.Ytebickoieipjpaa
end
section
namespace Go.Proofs.Ytebickoieipjpaa
open Go.RowKit Go.Gi
set_option maxRecDepth 20000
theorem err_any {g : Nat} {s : ByteArray} {a : Nat} {e : Int} {w : World} (h : Rd w 99 g s a e) :
    Calls Try.prog 25 #[.pointer (some ⟨g, 0, none⟩)] w fun e' w' => e' = .returned (.int .i64 e) ∧ w' = w := by
  have hc := h.c2
  go_enter Try.func25, Try.ntmps25
  go_wp2
  go_ret
  exact ⟨rfl, rfl⟩
set_option maxHeartbeats 800000 in
theorem num_any {g : Nat} {s : ByteArray} {a : Nat} {e : Int} {w : World} (h : Rd w 99 g s a e) (long : Int) (hs : s.size ≤ maxLen) (ha : a ≤ s.size) :
    Calls Try.prog 23 #[.pointer (some ⟨g, 0, none⟩), .int .i64 long] w fun e' w' =>
      e' = .returned (.int .u64 ((rNum s.data.toList a e long).1 : Nat)) ∧ Rd w' 99 g s (rNum s.data.toList a e long).2.1 (rNum s.data.toList a e long).2.2 ∧ w.grownBy w' (some g) := by
  have H := Lib.hid h
  have c0 := h.c0
  have c1 := h.c1
  have c2 := h.c2
  have f1 := h.f 1
  have f2 := h.f 2
  have hl : s.data.toList.length = s.size := by simp
  have hs2 : s.size ≤ 9223372036854775807 := hs
  have Hs := Lib.hid hs
  clear h hs
  unfold rNum
  rw [hl]
  by_cases he : e = 0
  · subst he
    by_cases h1 : long < 0 ∨ 8 < long
    · rw [if_neg (by simp), if_pos h1]
      have H1 := Lib.hid (show long < 0 ∨ 8 < long ∨ (a : Int) < 0 ∨ (s.size : Int) < a by omega)
      clear h1 hl
      go_enter Try.func23, Try.ntmps23
      go_wp2_with (go_at_call 25; refine (err_any H.out).mono ?_; rintro e w' ⟨rfl, rfl⟩)
      go_quiet ((go_at_call 42; exact Calls.quiet_of_same (get_arg _ _ _ _ H1.out)))
      go_wp2
      go_ret
      exact ⟨rfl, (H.out.drewN _).set2 1, gset (gdrewN (World.grownBy.refl _ _) _) _ _⟩
    · obtain ⟨m, rfl⟩ := Int.eq_ofNat_of_zero_le (show 0 ≤ long by omega)
      rw [if_neg (by simp), if_neg h1]
      have hm : m ≤ 8 := by omega
      by_cases h2 : (s.size : Int) - a < m
      · rw [if_pos h2]
        have H1 := Lib.hid (show (0 : Int) ≤ m ∧ (m : Int) ≤ 8 ∧ (0 : Int) ≤ a ∧ (a : Int) ≤ s.size ∧ (s.size : Int) - a < m by omega)
        clear h1 hl
        go_enter Try.func23, Try.ntmps23
        go_wp2_with (go_at_call 25; refine (err_any H.out).mono ?_; rintro e w' ⟨rfl, rfl⟩)
        go_quiet ((go_at_call 42; exact Calls.quiet_of_same (get_cut _ _ _ _ H1.out.1 H1.out.2.1 H1.out.2.2.1 H1.out.2.2.2.1 H1.out.2.2.2.2)))
        go_wp2
        go_ret
        exact ⟨rfl, (H.out.drewN _).set2 4, gset (gdrewN (World.grownBy.refl _ _) _) _ _⟩
      · rw [if_neg h2]
        have ham : a + m ≤ s.size := by omega
        clear h1 hl
        go_enter Try.func23, Try.ntmps23
        go_wp2_with (go_at_call 25; refine (err_any H.out).mono ?_; rintro e w' ⟨rfl, rfl⟩)
        go_quiet ((go_at_call 42; exact Calls.quiet_of_same (get_nat _ _ _ _ Hs.out hm ham)))
        go_wp2
        go_ret
        exact ⟨rfl, (H.out.drewN _).set1 (a + m), gset (gdrewN (World.grownBy.refl _ _) _) _ _⟩
  · rw [if_pos he]
    have hb : (e != 0) = true := by simp [he]
    clear he hl
    go_enter Try.func23, Try.ntmps23
    go_wp2_with (go_at_call 25; refine (err_any H.out).mono ?_; rintro e w' ⟨rfl, rfl⟩)
    go_ret
    exact ⟨rfl, H.out, World.grownBy.refl _ _⟩
set_option maxHeartbeats 800000 in
theorem bytes_any {g : Nat} {s : ByteArray} {a : Nat} {e : Int} {w : World} (h : Rd w 99 g s a e) (n : Int) (hs : s.size ≤ maxLen) (ha : a ≤ s.size) :
    Calls Try.prog 54 #[.pointer (some ⟨g, 0, none⟩), .int .i64 n] w fun e' w' =>
      e' = .returned (.string (bs (rTake s.data.toList a e n).1)) ∧ Rd w' 99 g s (rTake s.data.toList a e n).2.1 (rTake s.data.toList a e n).2.2 ∧ w.grownBy w' (some g) := by
  have H := Lib.hid h
  have c0 := h.c0
  have c1 := h.c1
  have c2 := h.c2
  have f1 := h.f 1
  have f2 := h.f 2
  have hl : s.data.toList.length = s.size := by simp
  have hs2 : s.size ≤ 9223372036854775807 := hs
  have Hs := Lib.hid hs
  clear h hs
  unfold rTake
  rw [hl]
  by_cases he : e = 0
  · subst he
    by_cases h1 : n < 0
    · rw [if_neg (by simp), if_pos h1]
      clear hl
      go_enter Try.func54, Try.ntmps54
      go_wp2_with (go_at_call 25; refine (err_any H.out).mono ?_; rintro e w' ⟨rfl, rfl⟩)
      go_ret
      exact ⟨rfl, H.out.set2 1, gset (World.grownBy.refl _ _) _ _⟩
    · obtain ⟨m, rfl⟩ := Int.eq_ofNat_of_zero_le (show 0 ≤ n by omega)
      rw [if_neg (by simp), if_neg h1]
      by_cases h2 : (s.size : Int) - a < m
      · rw [if_pos h2]
        have g1 : decide ((s.size : Int) - a < m) = true := decide_eq_true h2
        clear h1 hl h2
        go_enter Try.func54, Try.ntmps54
        go_wp2_with (go_at_call 25; refine (err_any H.out).mono ?_; rintro e w' ⟨rfl, rfl⟩)
        go_quiet (fail)
        go_wp2
        go_ret
        exact ⟨rfl, (H.out.drewN _).set2 4, gset (gdrewN (World.grownBy.refl _ _) _) _ _⟩
      · rw [if_neg h2]
        have ham : a + m ≤ s.size := by omega
        clear h1 hl
        go_enter Try.func54, Try.ntmps54
        go_wp2_with (go_at_call 25; refine (err_any H.out).mono ?_; rintro e w' ⟨rfl, rfl⟩)
        go_quiet (fail)
        have hw1 : IntKind.i64.wrap (a : Int) = a := IntWalk.i64_in _ (by omega)
        have hw2 : 0 ≤ (a : Int) + m := by omega
        have hw3 : (a : Int) + m ≤ s.size := by omega
        have hw4 : (a : Int) ≤ a + m := by omega
        go_wp2
        go_quiet (fail)
        clear hw1
        go_wp2
        go_ret
        exact ⟨ret_str (by rw [extract_bs]; simp), ((H.out.drewN _).set1 (a + m)).drewN _, gdrewN (gset (gdrewN (World.grownBy.refl _ _) _) _ _) _⟩
  · rw [if_pos he]
    have hb : (e != 0) = true := by simp [he]
    clear he hl
    go_enter Try.func54, Try.ntmps54
    go_wp2_with (go_at_call 25; refine (err_any H.out).mono ?_; rintro e w' ⟨rfl, rfl⟩)
    go_ret
    exact ⟨rfl, H.out, World.grownBy.refl _ _⟩
theorem num_eq {g : Nat} {s : ByteArray} {a : Nat} {e : Int} {w : World} (h : Rd w 99 g s a e) (hs : s.size ≤ maxLen) (ha : a ≤ s.size) (long : Int) (v a1 : Nat) (e1 : Int) (hn : rNum s.data.toList a e long = (v, a1, e1)) :
    Calls Try.prog 23 #[.pointer (some ⟨g, 0, none⟩), .int .i64 long] w fun e' w' => e' = .returned (.int .u64 (v : Nat)) ∧ Rd w' 99 g s a1 e1 ∧ w.grownBy w' (some g) := by
  have := num_any h long hs ha
  rw [hn] at this
  exact this
theorem bytes_eq {g : Nat} {s : ByteArray} {a : Nat} {e : Int} {w : World} (h : Rd w 99 g s a e) (hs : s.size ≤ maxLen) (ha : a ≤ s.size) (n : Int) (l : List UInt8) (a1 : Nat) (e1 : Int) (hn : rTake s.data.toList a e n = (l, a1, e1)) :
    Calls Try.prog 54 #[.pointer (some ⟨g, 0, none⟩), .int .i64 n] w fun e' w' => e' = .returned (.string (bs l)) ∧ Rd w' 99 g s a1 e1 ∧ w.grownBy w' (some g) := by
  have := bytes_any h n hs ha
  rw [hn] at this
  exact this
set_option maxHeartbeats 1600000 in
theorem rtext_any {g : Nat} {s : ByteArray} {a : Nat} {e : Int} {w : World} (h : Rd w 99 g s a e) (most : Int) (hs : s.size ≤ maxLen) (ha : a ≤ s.size) :
    Calls Try.prog 43 #[.pointer (some ⟨g, 0, none⟩), .int .i64 most] w fun e' w' =>
      e' = .returned (.string (bs (rText s.data.toList a e most).1)) ∧ Rd w' 99 g s (rText s.data.toList a e most).2.1 (rText s.data.toList a e most).2.2 ∧ w.grownBy w' (some g) := by
  have H := Lib.hid h
  have c0 := h.c0
  have c1 := h.c1
  have c2 := h.c2
  have f1 := h.f 1
  have f2 := h.f 2
  have hl : s.data.toList.length = s.size := by simp
  have hs2 : s.size ≤ 9223372036854775807 := hs
  have Hs := Lib.hid hs
  clear h hs
  by_cases he : e = 0
  · subst he
    by_cases h2 : (s.size : Int) - a < 2
    · have HN := Lib.hid (show rNum s.data.toList a 0 2 = (0, a, 4) by unfold rNum; rw [hl, if_neg (by simp), if_neg (by omega), if_pos h2])
      have HT := Lib.hid (show rText s.data.toList a 0 most = ([], a, 4) by unfold rText; rw [hl, if_neg (by simp), if_pos h2])
      rw [HT.out]
      clear hl
      go_enter Try.func43, Try.ntmps43
      go_wp2_with (first | (go_at_call 25; refine (err_any H.out).mono ?_; rintro e w' ⟨rfl, rfl⟩) | (go_at_call 23; refine (num_eq H.out Hs.out ha 2 0 a 4 HN.out).mono ?_; rintro e w1 ⟨rfl, h1, hg1⟩; have k0 := h1.c0; have k1 := h1.c1; have k2 := h1.c2; have kf1 := h1.f 1; have kf2 := h1.f 2; have Hk := Lib.hid h1; clear h1) | (go_at_call 54; refine (bytes_eq Hk.out Hs.out ha 0 [] a 4 (by unfold rTake; rw [if_pos (by simp)])).mono ?_; rintro e w2 ⟨rfl, h2', hg2⟩; have j0 := h2'.c0; have j1 := h2'.c1; have j2 := h2'.c2; have jf1 := h2'.f 1; have jf2 := h2'.f 2; have Hj := Lib.hid h2'; clear h2'))
      go_ret
      exact ⟨rfl, Hj.out.set1 a, gset (gstep hg1 hg2) _ _⟩
    · have HN := Lib.hid (show rNum s.data.toList a 0 2 = (numL ((s.data.toList.drop a).take 2), a + 2, 0) by unfold rNum; rw [hl, if_neg (by simp), if_neg (by omega), if_neg h2]; rfl)
      have hn0 := numL_lt ((s.data.toList.drop a).take 2)
      have hn : numL ((s.data.toList.drop a).take 2) < 65536 := Nat.lt_of_lt_of_le hn0 (Nat.pow_le_pow_right (by decide) (List.length_take_le _ _))
      clear hn0
      have ha2 : a + 2 ≤ s.size := by omega
      have hT : rText s.data.toList a 0 most = if most < (numL ((s.data.toList.drop a).take 2) : Nat) then ([], a, 5)
          else if (s.size : Int) - (a + 2 : Nat) < (numL ((s.data.toList.drop a).take 2) : Nat) then ([], a, 4)
          else ((s.data.toList.drop (a + 2)).take (numL ((s.data.toList.drop a).take 2)), a + 2 + numL ((s.data.toList.drop a).take 2), 0) := by
        unfold rText; rw [hl, if_neg (by simp), if_neg h2]
      have HT := Lib.hid hT
      clear hT
      generalize numL ((s.data.toList.drop a).take 2) = n at *
      have hk : IntKind.i64.wrap (n : Int) = n := IntWalk.i64_in _ (by omega)
      rw [HT.out]
      by_cases h3 : most < (n : Int)
      · rw [if_pos h3]
        clear hl
        go_enter Try.func43, Try.ntmps43
        go_wp2_with (first | (go_at_call 25; refine (err_any H.out).mono ?_; rintro e w' ⟨rfl, rfl⟩) | (go_at_call 23; refine (num_eq H.out Hs.out ha 2 n (a + 2) 0 HN.out).mono ?_; rintro e w1 ⟨rfl, h1, hg1⟩; have k0 := h1.c0; have k1 := h1.c1; have k2 := h1.c2; have kf1 := h1.f 1; have kf2 := h1.f 2; have Hk := Lib.hid h1; clear h1) | (go_at_call 54; refine (bytes_eq (Hk.out.set2 5) Hs.out ha2 n [] (a + 2) 5 (by unfold rTake; rw [if_pos (by simp)])).mono ?_; rintro e w2 ⟨rfl, h2', hg2⟩; have j0 := h2'.c0; have j1 := h2'.c1; have j2 := h2'.c2; have jf1 := h2'.f 1; have jf2 := h2'.f 2; have Hj := Lib.hid h2'; clear h2'))
        go_ret
        exact ⟨rfl, Hj.out.set1 a, gset (gstep (gset hg1 _ _) hg2) _ _⟩
      · rw [if_neg h3]
        by_cases h4 : (s.size : Int) - (a + 2 : Nat) < n
        · rw [if_pos h4]
          have h4' := Lib.hid h4
          clear h4 hl
          go_enter Try.func43, Try.ntmps43
          go_wp2_with (first | (go_at_call 25; refine (err_any H.out).mono ?_; rintro e w' ⟨rfl, rfl⟩) | (go_at_call 23; refine (num_eq H.out Hs.out ha 2 n (a + 2) 0 HN.out).mono ?_; rintro e w1 ⟨rfl, h1, hg1⟩; have k0 := h1.c0; have k1 := h1.c1; have k2 := h1.c2; have kf1 := h1.f 1; have kf2 := h1.f 2; have Hk := Lib.hid h1; clear h1) | (go_at_call 54; refine (bytes_eq Hk.out Hs.out ha2 n [] (a + 2) 4 (by unfold rTake; rw [if_neg (by simp), if_neg (by omega), if_pos (by simp; have := h4'.out; omega)])).mono ?_; rintro e w2 ⟨rfl, h2', hg2⟩; have j0 := h2'.c0; have j1 := h2'.c1; have j2 := h2'.c2; have jf1 := h2'.f 1; have jf2 := h2'.f 2; have Hj := Lib.hid h2'; clear h2'))
          go_ret
          exact ⟨rfl, Hj.out.set1 a, gset (gstep hg1 hg2) _ _⟩
        · rw [if_neg h4]
          have h4' := Lib.hid h4
          clear h4 hl
          go_enter Try.func43, Try.ntmps43
          go_wp2_with (first | (go_at_call 25; refine (err_any H.out).mono ?_; rintro e w' ⟨rfl, rfl⟩) | (go_at_call 23; refine (num_eq H.out Hs.out ha 2 n (a + 2) 0 HN.out).mono ?_; rintro e w1 ⟨rfl, h1, hg1⟩; have k0 := h1.c0; have k1 := h1.c1; have k2 := h1.c2; have kf1 := h1.f 1; have kf2 := h1.f 2; have Hk := Lib.hid h1; clear h1) | (go_at_call 54; refine (bytes_eq Hk.out Hs.out ha2 n ((s.data.toList.drop (a + 2)).take n) (a + 2 + n) 0 (by unfold rTake; rw [if_neg (by simp), if_neg (by omega), if_neg (by simp; have := h4'.out; omega)]; rfl)).mono ?_; rintro e w2 ⟨rfl, h2', hg2⟩; have j0 := h2'.c0; have j1 := h2'.c1; have j2 := h2'.c2; have jf1 := h2'.f 1; have jf2 := h2'.f 2; have Hj := Lib.hid h2'; clear h2'))
          go_ret
          exact ⟨rfl, Hj.out, gstep hg1 hg2⟩
  · have HT := Lib.hid (show rText s.data.toList a e most = ([], a, e) by unfold rText; rw [if_pos he])
    rw [HT.out]
    have hb : (e != 0) = true := by simp [he]
    clear he hl
    go_enter Try.func43, Try.ntmps43
    go_wp2_with (go_at_call 25; refine (err_any H.out).mono ?_; rintro e w' ⟨rfl, rfl⟩)
    go_ret
    exact ⟨rfl, H.out, World.grownBy.refl _ _⟩
end Go.Proofs.Ytebickoieipjpaa
end
section
namespace Go.Proofs.Ytebickoieipjpaa
open Go.RowKit Go.Gi
set_option maxRecDepth 20000
theorem numL_one (l : List UInt8) : numL (l.take 1) < 256 := by
  refine Nat.lt_of_lt_of_le (numL_lt _) (Nat.le_trans (Nat.pow_le_pow_right (by decide) (List.length_take_le _ _)) (by decide))
set_option maxHeartbeats 1600000 in
theorem rbool_any {g : Nat} {s : ByteArray} {a : Nat} {e : Int} {w : World} (h : Rd w 99 g s a e) (hs : s.size ≤ maxLen) (ha : a ≤ s.size) :
    Calls Try.prog 44 #[.pointer (some ⟨g, 0, none⟩)] w fun e' w' =>
      e' = .returned (.bool (rBool s.data.toList a e).1) ∧ Rd w' 99 g s (rBool s.data.toList a e).2.1 (rBool s.data.toList a e).2.2 ∧ w.grownBy w' (some g) := by
  have H := Lib.hid h
  have c0 := h.c0
  have c1 := h.c1
  have c2 := h.c2
  have f1 := h.f 1
  have f2 := h.f 2
  have hl : s.data.toList.length = s.size := by simp
  have hs2 : s.size ≤ 9223372036854775807 := hs
  have Hs := Lib.hid hs
  clear h hs
  unfold rBool
  rw [hl]
  by_cases he : e = 0
  · subst he
    rw [if_neg (by simp)]
    by_cases h2 : (s.size : Int) - a < 1
    · rw [if_pos h2]
      have H1 := Lib.hid (show (0 : Int) ≤ 1 ∧ (1 : Int) ≤ 8 ∧ (0 : Int) ≤ a ∧ (a : Int) ≤ s.size ∧ (s.size : Int) - a < 1 by omega)
      clear h2 hl
      go_enter Try.func44, Try.ntmps44
      go_wp2_with (go_at_call 25; refine (err_any H.out).mono ?_; rintro e w' ⟨rfl, rfl⟩)
      go_quiet ((go_at_call 42; exact Calls.quiet_of_same (get_cut _ _ _ _ H1.out.1 H1.out.2.1 H1.out.2.2.1 H1.out.2.2.2.1 H1.out.2.2.2.2)))
      go_wp2
      go_ret
      exact ⟨rfl, (H.out.drewN _).set2 4, gset (gdrewN (World.grownBy.refl _ _) _) _ _⟩
    · rw [if_neg h2]
      have hg := get_nat s a 1 w Hs.out (by decide) (by omega)
      have hn := numL_one (s.data.toList.drop a)
      have hg' : ∀ W, Calls Try.prog 42 #[.string s, .int .i64 a, .int .i64 1] W fun e w' => e = .returned (.tuple #[.int .u64 (numL ((s.data.toList.drop a).take 1) : Nat), .int .i64 0]) ∧ w' = W := fun W => get_nat s a 1 W Hs.out (by decide) (by omega)
      have HG := Lib.hid hg'
      clear hg hg' hl
      generalize numL ((s.data.toList.drop a).take 1) = n at *
      by_cases h3 : 1 < n
      · rw [if_pos h3]
        have h3' : (1 : Int) < n := by omega
        clear h2
        go_enter Try.func44, Try.ntmps44
        go_wp2_with (go_at_call 25; refine (err_any H.out).mono ?_; rintro e w' ⟨rfl, rfl⟩)
        go_quiet ((go_at_call 42; exact Calls.quiet_of_same (HG.out _)))
        go_wp2
        go_ret
        exact ⟨rfl, (H.out.drewN _).set2 6, gset (gdrewN (World.grownBy.refl _ _) _) _ _⟩
      · rw [if_neg h3]
        have h4 : (a : Int) + 1 ≤ 9223372036854775807 := by omega
        clear h2
        obtain rfl | rfl : n = 0 ∨ n = 1 := by omega
        all_goals
          clear h3 hn
          go_enter Try.func44, Try.ntmps44
          go_wp2_with (go_at_call 25; refine (err_any H.out).mono ?_; rintro e w' ⟨rfl, rfl⟩)
          go_quiet ((go_at_call 42; exact Calls.quiet_of_same (HG.out _)))
          go_wp2
          go_ret
          exact ⟨rfl, (H.out.drewN _).set1 (a + 1), gset (gdrewN (World.grownBy.refl _ _) _) _ _⟩
  · rw [if_pos he]
    have hb : (e != 0) = true := by simp [he]
    clear he hl
    go_enter Try.func44, Try.ntmps44
    go_wp2_with (go_at_call 25; refine (err_any H.out).mono ?_; rintro e w' ⟨rfl, rfl⟩)
    go_ret
    exact ⟨rfl, H.out, World.grownBy.refl _ _⟩
theorem fail_any {g : Nat} {s : ByteArray} {a : Nat} {e : Int} {w : World} (h : Rd w 99 g s a e) (x : Int) :
    Calls Try.prog 46 #[.pointer (some ⟨g, 0, none⟩), .int .i64 x] w fun e' w' =>
      e' = .returned (.tuple #[]) ∧ Rd w' 99 g s a (rFail e x) ∧ w.grownBy w' (some g) := by
  have H := Lib.hid h
  have c2 := h.c2
  have f2 := h.f 2
  clear h
  unfold rFail
  by_cases he : e = 0
  · subst he
    rw [if_pos rfl]
    go_enter Try.func46, Try.ntmps46
    go_wp2
    go_end0
    exact ⟨rfl, H.out.set2 x, gset (World.grownBy.refl _ _) _ _⟩
  · rw [if_neg he]
    have hb : (e == 0) = false := by simp [he]
    clear he
    go_enter Try.func46, Try.ntmps46
    go_wp2
    go_end0
    exact ⟨rfl, H.out, World.grownBy.refl _ _⟩
theorem left_any {g : Nat} {s : ByteArray} {a : Nat} {e : Int} {w : World} (h : Rd w 99 g s a e) (hs : s.size ≤ maxLen) (ha : a ≤ s.size) :
    Calls Try.prog 45 #[.pointer (some ⟨g, 0, none⟩)] w fun e' w' => e' = .returned (.int .i64 ((s.size : Int) - a)) ∧ ∃ n, w' = w.drewN n := by
  have c0 := h.c0
  have c1 := h.c1
  have hs2 : s.size ≤ 9223372036854775807 := hs
  clear h hs
  go_enter Try.func45, Try.ntmps45
  go_wp2
  go_quiet (fail)
  go_wp2
  go_ret
  exact ⟨rfl, _, rfl⟩
end Go.Proofs.Ytebickoieipjpaa
end
section
namespace Go.Proofs.Ytebickoieipjpaa
open Go.RowKit Go.Gi
set_option maxRecDepth 20000
attribute [local go_sem] cellIte
set_option linter.unusedSimpArgs false
set_option linter.unusedVariables false
theorem rend_any {g : Nat} {s : ByteArray} {a : Nat} {e : Int} {w : World} (h : Rd w 99 g s a e) (hs : s.size ≤ maxLen) (ha : a ≤ s.size) :
    Calls Try.prog 26 #[.pointer (some ⟨g, 0, none⟩)] w fun e' w' => e' = .returned (.int .i64 (rEnd s.data.toList a e)) ∧ Rd w' 99 g s a (rEnd s.data.toList a e) ∧ w.grownBy w' (some g) := by
  have H := Lib.hid h
  have Hs := Lib.hid hs
  have hl : s.data.toList.length = s.size := by simp
  clear h hs
  unfold rEnd
  rw [hl]
  by_cases h1 : (s.size : Int) - a > 0
  · rw [if_pos h1]
    clear hl
    go_enter Try.func26, Try.ntmps26
    go_wp2_with (first | (go_at_call 45; refine (left_any H.out Hs.out ha).mono ?_; rintro e w' ⟨rfl, n, rfl⟩) | (go_at_call 46; refine (fail_any (H.out.drewN _) 5).mono ?_; rintro e w1 ⟨rfl, h1, hg1⟩; have H1 := Lib.hid h1; clear h1) | (go_at_call 25; refine (err_any H1.out).mono ?_; rintro e w' ⟨rfl, rfl⟩))
    go_ret
    exact ⟨rfl, H1.out, gstep (gdrewN (World.grownBy.refl _ _) _) hg1⟩
  · rw [if_neg h1]
    clear hl
    go_enter Try.func26, Try.ntmps26
    go_wp2_with (first | (go_at_call 45; refine (left_any H.out Hs.out ha).mono ?_; rintro e w' ⟨rfl, n, rfl⟩) | (go_at_call 25; refine (err_any (H.out.drewN _)).mono ?_; rintro e w' ⟨rfl, rfl⟩))
    go_ret
    exact ⟨rfl, H.out.drewN _, gdrewN (World.grownBy.refl _ _) _⟩
theorem newReader_any (s : ByteArray) (w : World) :
    Calls Try.prog 22 #[.string s] w fun e w' => ∃ g, e = .returned (.pointer (some ⟨g, 0, none⟩)) ∧ Rd w' 99 g s 0 0 ∧ g = w.heap.size ∧ Below w.heap.size w w' := by
  go_enter Try.func22, Try.ntmps22
  go_wp2
  go_ret
  exact ⟨_, rfl, (Blk.new w _ _ : Blk _ _ _ _), rfl, balloc (Below.refl _ _) _⟩
theorem Rd.far {w : World} {T g b o : Nat} {s : ByteArray} {a : Nat} {e : Int} {u : Value} (h : Rd w T g s a e) (hne : ¬ b = g) : Rd (w.setCell ⟨b, o, none⟩ u) T g s a e :=
  (Below.heap_setCell w ⟨b, o, none⟩ u g (fun h => hne h.symm)).trans h
theorem rtext_eq {g : Nat} {s : ByteArray} {a : Nat} {e : Int} {w : World} (h : Rd w 99 g s a e) (hs : s.size ≤ maxLen) (ha : a ≤ s.size) (n : Int) (l : List UInt8) (a1 : Nat) (e1 : Int) (hn : rText s.data.toList a e n = (l, a1, e1)) :
    Calls Try.prog 43 #[.pointer (some ⟨g, 0, none⟩), .int .i64 n] w fun e' w' => e' = .returned (.string (bs l)) ∧ Rd w' 99 g s a1 e1 ∧ w.grownBy w' (some g) := by
  have := rtext_any h n hs ha
  rw [hn] at this
  exact this
theorem rbool_eq {g : Nat} {s : ByteArray} {a : Nat} {e : Int} {w : World} (h : Rd w 99 g s a e) (hs : s.size ≤ maxLen) (ha : a ≤ s.size) (v : Bool) (a1 : Nat) (e1 : Int) (hn : rBool s.data.toList a e = (v, a1, e1)) :
    Calls Try.prog 44 #[.pointer (some ⟨g, 0, none⟩)] w fun e' w' => e' = .returned (.bool v) ∧ Rd w' 99 g s a1 e1 ∧ w.grownBy w' (some g) := by
  have := rbool_any h hs ha
  rw [hn] at this
  exact this
end Go.Proofs.Ytebickoieipjpaa
end
section
namespace Go.Proofs.Ytebickoieipjpaa
open Go.RowKit Go.Gi
set_option maxRecDepth 20000
set_option linter.unusedVariables false
theorem num_st {g : Nat} {L : List UInt8} {a : Nat} {e : Int} {w : World} (h : RS w 99 g L a e) (long : Int) (v a1 : Nat) (e1 : Int) (hn : rNum L a e long = (v, a1, e1)) :
    Calls Try.prog 23 #[.pointer (some ⟨g, 0, none⟩), .int .i64 long] w fun e' w' => e' = .returned (.int .u64 (v : Nat)) ∧ RS w' 99 g L a1 e1 ∧ w.grownBy w' (some g) := by
  have hle := rNum_le L a e long h.at_
  rw [hn] at hle
  exact (num_eq h.rd h.long (by rw [bs_size]; exact h.at_) long v a1 e1 (by rw [toList_bs]; exact hn)).mono fun _ _ ⟨x, y, z⟩ => ⟨x, ⟨y, hle, h.long⟩, z⟩
theorem text_st {g : Nat} {L : List UInt8} {a : Nat} {e : Int} {w : World} (h : RS w 99 g L a e) (most : Int) (v : List UInt8) (a1 : Nat) (e1 : Int) (hn : rText L a e most = (v, a1, e1)) :
    Calls Try.prog 43 #[.pointer (some ⟨g, 0, none⟩), .int .i64 most] w fun e' w' => e' = .returned (.string (bs v)) ∧ RS w' 99 g L a1 e1 ∧ w.grownBy w' (some g) := by
  have hle := rText_le L a e most h.at_
  rw [hn] at hle
  exact (rtext_eq h.rd h.long (by rw [bs_size]; exact h.at_) most v a1 e1 (by rw [toList_bs]; exact hn)).mono fun _ _ ⟨x, y, z⟩ => ⟨x, ⟨y, hle, h.long⟩, z⟩
theorem bool_st {g : Nat} {L : List UInt8} {a : Nat} {e : Int} {w : World} (h : RS w 99 g L a e) (v : Bool) (a1 : Nat) (e1 : Int) (hn : rBool L a e = (v, a1, e1)) :
    Calls Try.prog 44 #[.pointer (some ⟨g, 0, none⟩)] w fun e' w' => e' = .returned (.bool v) ∧ RS w' 99 g L a1 e1 ∧ w.grownBy w' (some g) := by
  have hle := rBool_le L a e h.at_
  rw [hn] at hle
  exact (rbool_eq h.rd h.long (by rw [bs_size]; exact h.at_) v a1 e1 (by rw [toList_bs]; exact hn)).mono fun _ _ ⟨x, y, z⟩ => ⟨x, ⟨y, hle, h.long⟩, z⟩
end Go.Proofs.Ytebickoieipjpaa
end
section
namespace Go.Gi
open Go.RowKit
set_option maxRecDepth 20000
theorem append_str_at {P : Program} (w : World) (base : Nat) (t u ty e : TypeId) (i : TypeInfo) (ht : P.underlying t = some (.slice e)) (hu : P.underlying u = some .string) (hi : P.info? e = some i) (hz : i.zero = some (.int .u8 0))
    (hsize : i.size = 1) (hby : i.bytes = 1) (v : Value) (n : Nat) (xs : List Value) (hown : w.ownsRow base e 1 v n xs) (s : ByteArray)
    (h63 : n + s.size ≤ maxLen) (hbytes : n + s.size ≤ 140737488355328) {v' : Value} {w' : World} (hr : (Builtin.append_ #[t, u] ty #[v, .string s]).run P w = .ok v' w') :
    v'.ownBlock = v.ownBlock ∨ v'.ownBlock = some w.heap.size := by
  have hsmall : n + s.size ≤ 9223372036854775807 := by simp only [maxLen] at h63; omega
  have hxl : xs.length = n := by simpa using hown.1
  rcases hown.2 with ⟨rfl, rfl⟩ | ⟨g, cap, cur, rfl, hbg, hg, hnc, hcm, hcs, htake⟩
  · by_cases hm : s.size = 0
    · have hf := Lib.run_firstCells_string (P := P) w 1 s
      rw [hm] at hf
      simp [Builtin.append_, run_underlying ht, run_underlying hu, sizeOf, typeInfo, hi, hsize, Builtin.lenOf, hm, hf] at hr
      exact .inl (by rw [← hr.1])
    · have h2 := run_append_nil_string (P := P) w t u ty e i (.int .u8 0) ht hu hi hz s (by omega) (by omega) (by rw [hby]; omega)
      rw [h2] at hr
      injection hr with e1 _
      exact .inr (by rw [← e1]; rfl)
  · by_cases hroom : n + s.size ≤ cap
    · have hcs' : cur.size = cap := by simpa using hcs
      have h2 := Lib.run_append_room_string (P := P) w t u ty e i ht hu hi hsize g n cap cur hg s hroom (by omega)
      rw [h2] at hr
      injection hr with e1 _
      exact .inl (by rw [← e1]; rfl)
    · have holds : ∀ j u, xs[j]? = some u → w.cell? ((⟨g, 0, none⟩ : Addr).add j) = some u := hown.cells (g := g) rfl
      have h2 := Lib.run_append_grow_string (P := P) w t u ty e i (.int .u8 0) ht hu hi hz ⟨g, 0, none⟩ n cap xs (by rw [hsize]; simpa using hxl) holds s (by omega) (by omega) (by rw [hby]; exact growslice_fits (by omega) (by omega))
      rw [h2] at hr
      injection hr with e1 _
      exact .inr (by rw [← e1]; rfl)
theorem wpList_append_str {P : Program} {w : World} {ops : Array Oper} {rest : List Oper} {o : Oper} {a : Act} {Q : Exit → Act → World → Prop} (hgd : o.guard = none) (sl x : Operand) (t u : TypeId)
    (ho : o.op = .call { callee := .builtin .append, args := #[sl, x], argTypes := #[t, u] })
    (base : Nat) (e : TypeId) (i : TypeInfo) (ht : P.underlying t = some (.slice e)) (hu : P.underlying u = some .string) (hi : P.info? e = some i) (hz : i.zero = some (.int .u8 0))
    (hsize : i.size = 1) (hby : i.bytes = 1)
    (v : Value) (l : List UInt8) (hs : a.eval sl = v) (hown : w.ownsRow base e 1 v l.length (l.map u8V)) (s : ByteArray) (hx : a.eval x = .string s)
    (hbytes : l.length + s.size ≤ 140737488355328) (hbase : base ≤ w.heap.size)
    (h : ∀ v' w', w'.ownsRow base e 1 v' (l ++ s.data.toList).length ((l ++ s.data.toList).map u8V) → w.grownBy w' v.ownBlock → (v'.ownBlock = v.ownBlock ∨ v'.ownBlock = some w.heap.size) → wpList P ops Q rest (a.put o.dst v') w') : wpList P ops Q (o :: rest) a w := by
  refine wpList_plain hgd fun K hK => ?_
  have h63 : l.length + s.size ≤ maxLen := by unfold maxLen; omega
  obtain ⟨v', w', hr, h2, h3, _⟩ := Lib.run_append_own_string (P := P) w base t u o.type e i ht hu hi hz hsize hby v _ _ hown s h63 hbytes hbase
  have h4 := append_str_at w base t u o.type e i ht hu hi hz hsize hby v _ _ hown s h63 hbytes hr
  unfold Oper.wp execOp
  simp only [ho, resolve, invoke, builtin, Sem.run_bind, Sem.run_pure, Result.andThen_ok, List.map_toArray, List.map_cons, List.map_nil, hs, hx, hr]
  refine hK _ _ (h v' w' ?_ h3 h4)
  have e1 : (l ++ s.data.toList).length = l.length + s.size := by simp
  have e2 : (l ++ s.data.toList).map u8V = l.map u8V ++ Lib.strCells s := by rw [List.map_append]; rfl
  rw [e1, e2]
  exact h2
def Wr (w : World) (TW TE base g : Nat) (r : Option Nat) (l : List UInt8) : Prop :=
  base ≤ g ∧ ∃ v, w.heap[g]? = some (.cells #[v] TW (0, 0)) ∧ w.ownsRow base TE 1 v l.length (l.map u8V) ∧ v.ownBlock = r
structure WK (w w' : World) (g : Nat) (r r' : Option Nat) : Prop where
  os : w'.os = w.os
  tape : w'.tape = w.tape
  output : w'.output = w.output
  size : w.heap.size ≤ w'.heap.size
  block : ∀ k, k < w.heap.size → k ≠ g → some k ≠ r → w'.heap[k]? = w.heap[k]?
  next : r' = r ∨ ∃ k, r' = some k ∧ w.heap.size ≤ k
theorem WK.refl (w : World) (g : Nat) (r : Option Nat) : WK w w g r r := ⟨rfl, rfl, rfl, Nat.le_refl _, fun _ _ _ _ => rfl, .inl rfl⟩
theorem WK.trans {a b c : World} {g : Nat} {r r1 r2 : Option Nat} (h : WK a b g r r1) (k : WK b c g r1 r2) : WK a c g r r2 := by
  refine ⟨k.os.trans h.os, k.tape.trans h.tape, k.output.trans h.output, Nat.le_trans h.size k.size, fun i hi hg hr => ?_, ?_⟩
  · refine (k.block i (Nat.lt_of_lt_of_le hi h.size) hg ?_).trans (h.block i hi hg hr)
    rcases h.next with rfl | ⟨j, rfl, hj⟩
    · exact hr
    · intro e; injection e with e; omega
  · rcases k.next with rfl | ⟨j, rfl, hj⟩
    · exact h.next
    · exact .inr ⟨j, rfl, Nat.le_trans h.size hj⟩
theorem WK.pre {a b c : World} {g : Nat} {r r' : Option Nat} (h : Below a.heap.size a b) (k : WK b c g r r') : WK a c g r r' := by
  refine ⟨k.os.trans h.os, k.tape.trans h.tape, k.output.trans h.output, Nat.le_trans h.size k.size, fun i hi hg hr => (k.block i (Nat.lt_of_lt_of_le hi h.size) hg hr).trans (h.block i hi), ?_⟩
  rcases k.next with rfl | ⟨j, rfl, hj⟩
  · exact .inl rfl
  · exact .inr ⟨j, rfl, Nat.le_trans h.size hj⟩
theorem WK.post {a b c : World} {g : Nat} {r r' : Option Nat} (k : WK a b g r r') (h : Below b.heap.size b c) : WK a c g r r' :=
  ⟨h.os.trans k.os, h.tape.trans k.tape, h.output.trans k.output, Nat.le_trans k.size h.size, fun i hi hg hr => (h.block i (Nat.lt_of_lt_of_le hi k.size)).trans (k.block i hi hg hr), k.next⟩
section
variable {w w' : World} {TW TE base g : Nat} {r r' : Option Nat} {l : List UInt8}
theorem Wr.lt (h : Wr w TW TE base g r l) : g < w.heap.size := by
  obtain ⟨_, v, hg, _⟩ := h
  exact (Array.getElem?_eq_some_iff.1 hg).1
theorem Wr.row (h : Wr w TW TE base g r l) : ∀ k, r = some k → base ≤ k ∧ k < w.heap.size := by
  obtain ⟨_, v, hg, ho, rfl⟩ := h
  exact ho.lt
theorem Wr.step (h : Wr w TW TE base g r l) (hb : Below w.heap.size w w') : Wr w' TW TE base g r l := by
  obtain ⟨hg, v, hc, ho, rfl⟩ := h
  refine ⟨hg, v, (hb.block g (Array.getElem?_eq_some_iff.1 hc).1).trans hc, ho.kept (row := none) ⟨hb.os, hb.tape, hb.output, hb.size, fun k hk _ => hb.block k hk⟩ ?_, rfl⟩
  cases hv : v.ownBlock <;> simp
theorem Wr.alloc (h : Wr w TW TE base g r l) (o : Obj) : Wr (w.alloc o) TW TE base g r l := h.step (balloc (Below.refl _ _) o)
theorem Wr.drew (h : Wr w TW TE base g r l) : Wr w.drew TW TE base g r l := h.step (bdrew (Below.refl _ _))
theorem Wr.drewN (h : Wr w TW TE base g r l) (n : Nat) : Wr (w.drewN n) TW TE base g r l := h.step (bdrewN (Below.refl _ _) n)
theorem WK.below {w0 : World} (hB : Below w0.heap.size w0 w) (h : WK w w' g r r') (hg : w0.heap.size ≤ g) (hr : ∀ k, r = some k → w0.heap.size ≤ k) : Below w0.heap.size w0 w' :=
  hB.trans ⟨h.os, h.tape, h.output, h.size, fun k hk => h.block k (Nat.lt_of_lt_of_le hk hB.size) (by omega) (fun e => by have := hr k e.symm; omega)⟩
theorem WK.blk (hw : Wr w TW TE base g r l) (h : WK w w' g r r') {b T : Nat} {cs : Array Value} (hb : Blk w b T cs) (h1 : T ≠ TW) (h2 : T ≠ TE) : Blk w' b T cs := by
  obtain ⟨_, v, hg, ho, rfl⟩ := hw
  refine (h.block b hb.lt ?_ ?_).trans hb
  · rintro rfl
    unfold Blk at hb
    rw [hg] at hb
    injection hb with hb
    injection hb with _ ht
    exact h1 ht.symm
  · intro e
    rcases ho.2 with ⟨rfl, _⟩ | ⟨g', cap, cur, rfl, _, hh, _⟩
    · simp [Value.ownBlock] at e
    · simp [Value.ownBlock] at e
      subst e
      unfold Blk at hb
      rw [hh] at hb
      injection hb with hb
      injection hb with _ ht
      exact h2 ht.symm
end
theorem own_ne_of {w : World} {base TE TW n g : Nat} {v : Value} {xs : List Value} {cs : Array Value} (ho : w.ownsRow base TE 1 v n xs) (hg : w.heap[g]? = some (.cells cs TW (0, 0))) (ht : TW ≠ TE) : some g ≠ v.ownBlock := by
  intro e
  rcases ho.2 with ⟨rfl, _⟩ | ⟨g', cap, cur, rfl, _, hh, _⟩
  · simp [Value.ownBlock] at e
  · simp [Value.ownBlock] at e
    subst e
    rw [hh] at hg
    injection hg with hg
    injection hg with _ h2
    exact ht h2.symm
end Go.Gi
end
section
namespace Go.Proofs.Ytebickoieipjpaa
open Go.RowKit Go.Gi
set_option maxRecDepth 20000
attribute [local go_sem] max2_int min2_int max_two min_two
theorem infoU8 : (Try.prog.info? 5).map (fun i => (i.zero, i.size, i.bytes)) = some (some (.int .u8 0), 1, 1) := by kernel_rfl
theorem u8V_ofNat (n k : Nat) : Value.int .u8 ((n : Int) / 256 ^ k % 256) = u8V (UInt8.ofNat (n / 256 ^ k)) := by
  simp [u8V]
set_option maxHeartbeats 400000 in
theorem put_any (n long : Int) (w : World) (h0 : 0 ≤ n) (h1 : n ≤ 18446744073709551615) :
    Calls Try.prog 39 #[.int .u64 n, .int .i64 long] w fun e w' => e = .returned (.string (bs (putL (clamp8 long) n.toNat))) ∧ Below w.heap.size w w' := by
  obtain ⟨i0, hi, hz0, hz1, hz2⟩ := info_parts infoU8
  obtain ⟨m, hm⟩ : ∃ m : Int, min (max long 0) 8 = m := ⟨_, rfl⟩
  have hm0 : 0 ≤ m := by omega
  have hm8 : m ≤ 8 := by omega
  have hc : clamp8 long = m.toNat := by unfold clamp8; rw [hm]
  rw [hc]
  clear hc
  obtain ⟨n, rfl⟩ := Int.eq_ofNat_of_zero_le h0
  go_enter Try.func39, Try.ntmps39
  go_wp2
  go_loopw [0, 5, 9] (fun x v i wr => ∃ k : Nat, k ≤ m.toNat ∧ x = .int .u64 ((n / 256 ^ k : Nat) : Int) ∧ i = .int .i64 k ∧ wr.ownsRow w.heap.size 5 1 v k ((putL k n).map u8V) ∧ Below w.heap.size w wr)
      (fun _ _ i _ => m.toNat - (intOf i).toNat)
  case atStart => exact ⟨0, Nat.zero_le _, by simp, rfl, World.ownsRow_nil _ _ _ _, Below.refl _ _⟩
  case round =>
    obtain ⟨k, hk, rfl, rfl, hown, hb⟩ := hrel
    have Hb := Lib.hid hb
    clear hb
    by_cases hlt : k < m.toNat
    · go_wp2_with (at_builtin; refine wpList_append_own _ rfl _ _ 92 rfl w.heap.size 5 i0 (.int .u8 0) 1 1 Try.underlying92 hi hz0 hz1 hz2 rfl (by decide) _ _ _ rfl (hown.alloc _) ⟨wr.heap.size, 0, none⟩ 1 1 [.int .u8 ((n : Int) / 256 ^ k % 256)] rfl rfl ?c1 ?c2 ?c3 ?c4 ?c5 ?_)
      case c1 => intro j u hj; match j, hj with | 0, hj => simp at hj; subst hj; simp [Addr.add]
      case c2 => intro u hu; simp at hu; subst hu; rfl
      case c3 => unfold maxLen; omega
      case c4 => omega
      case c5 => have := Hb.out.size; simp; omega
      intro v' w1 hown1 hgrow1 _
      have hb1 : Below w.heap.size w w1 := (Hb.out.alloc Hb.out.size _).grown hgrow1 (by have := Hb.out.size; simp; omega) (fun k hk => (hown.lt k hk).1)
      have Hb1 := Lib.hid hb1
      clear hb1 Hb
      rw [u8V_ofNat, ← List.map_singleton, ← List.map_append, ← putL_snoc] at hown1
      go_wp2
      go_roundw
      case rel => exact ⟨k + 1, by omega, by simp only [Value.int.injEq, true_and]; rw [Nat.pow_succ, ← Nat.div_div_eq_div_mul]; simp, by go_num, hown1, Hb1.out⟩
      case measure => simp [intOf]; omega
    · have hcv := own_string (P := Try.prog) Try.underlying92 Try.underlying5 Try.underlying9 hown
      obtain rfl : k = m.toNat := by omega
      go_wp2
      go_ret
      exact ⟨by simp, Hb.out⟩
theorem put_km (n long : Int) (w : World) (m k : Nat) (hn : n = m) (hk : clamp8 long = k) (hm : m ≤ 18446744073709551615) :
    Calls Try.prog 39 #[.int .u64 n, .int .i64 long] w fun e w' => e = .returned (.string (bs (putL k m))) ∧ Below w.heap.size w w' := by
  subst hn hk
  exact put_any _ _ _ (by omega) (by omega)
end Go.Proofs.Ytebickoieipjpaa
end
section
namespace Go.Proofs.Ytebickoieipjpaa
open Go.RowKit Go.Gi
set_option maxRecDepth 20000
theorem text_ok (s : ByteArray) (w : World) (h : s.size ≤ 65535) :
    Calls Try.prog 53 #[.string s] w fun e w' => e = .returned (.tuple #[.string (bs (putL 2 s.size) ++ s), .int .i64 0]) ∧ Below w.heap.size w w' := by
  have hcat : (bs (putL 2 s.size)).size + s.size ≤ 9223372036854775807 := by rw [bs_size, putL_length]; omega
  go_enter Try.func53, Try.ntmps53
  go_wp2_with (go_at_call 39; refine (put_km _ _ _ s.size 2 rfl rfl (by omega)).mono ?_; rintro e w' ⟨rfl, hb⟩)
  go_ret2
  exact ⟨rfl, hb⟩
end Go.Proofs.Ytebickoieipjpaa
end
section
namespace Go.Proofs.Ytebickoieipjpaa
open Go.RowKit Go.Gi
set_option maxRecDepth 20000
set_option linter.unusedVariables false
theorem newWriter_any (w : World) (base : Nat) (hb : base ≤ w.heap.size) :
    Calls Try.prog 17 #[] w fun e w' => ∃ g, e = .returned (.pointer (some ⟨g, 0, none⟩)) ∧ Wr w' 94 5 base g none [] ∧ g = w.heap.size ∧ Below w.heap.size w w' := by
  go_enter Try.func17, Try.ntmps17
  go_wp2
  go_ret
  exact ⟨_, rfl, ⟨hb, _, Blk.new w _ _, World.ownsRow_nil _ _ _ _, rfl⟩, rfl, balloc (Below.refl _ _) _⟩
theorem own_slice {w : World} {base e size n : Nat} {v : Value} {xs : List Value} (h : w.ownsRow base e size v n xs) : ∃ A c, v = .slice A n c := by
  rcases h.2 with ⟨rfl, rfl⟩ | ⟨g, cap, _, rfl, _⟩
  · exact ⟨_, _, rfl⟩
  · exact ⟨_, _, rfl⟩
set_option maxHeartbeats 800000 in
theorem wbytes_any {w : World} {base g : Nat} {r : Option Nat} {l : List UInt8} (h : Wr w 94 5 base g r l) (s : ByteArray) (hs : l.length + s.size ≤ 140737488355328) :
    Calls Try.prog 38 #[.pointer (some ⟨g, 0, none⟩), .string s] w fun e w' => e = .returned (.tuple #[]) ∧ ∃ r', Wr w' 94 5 base g r' (l ++ s.data.toList) ∧ WK w w' g r r' := by
  obtain ⟨i0, hi, hz0, hz1, hz2⟩ := info_parts infoU8
  have hlt := h.lt
  obtain ⟨hbg, v, hg, hown, rfl⟩ := h
  obtain ⟨A, c, rfl⟩ := own_slice hown
  have c0 : w.cell? ⟨g, 0, none⟩ = some (.slice A l.length c) := by simp [World.cell?, hg]
  have f0 : w.frozen? ⟨g, 0, none⟩ = false := by simp [World.frozen?, hg]
  have HG := Lib.hid hg
  clear hg
  have hbs : base ≤ w.heap.size := by omega
  go_enter Try.func38, Try.ntmps38
  go_wp2_with (at_builtin; refine wpList_append_str rfl _ _ 92 9 rfl base 5 i0 Try.underlying92 Try.underlying9 hi hz0 hz1 hz2 _ l rfl hown s rfl hs hbs ?_; intro v1 w1 hown1 hg1 hat; obtain ⟨A1, c1, rfl⟩ := own_slice hown1; have hne : some g ≠ (Value.slice A l.length c).ownBlock := (own_ne_of hown HG.out (by decide)); have HG1 := Lib.hid ((hg1.block g hlt hne).trans HG.out); have k0 : w1.cell? ⟨g, 0, none⟩ = some (.slice A l.length c) := (by have := HG1.out; simp [World.cell?, this]); have kf : w1.frozen? ⟨g, 0, none⟩ = false := (by have := HG1.out; simp [World.frozen?, this]); have Hown1 := Lib.hid hown1; have Hat := Lib.hid hat; have Hg1 := Lib.hid hg1; clear hown1 hat hg1)
  go_end0
  have hlen : (l ++ s.data.toList).length = l.length + s.size := by simp
  have Hown2 := Hown1.out
  have Hat2 := Hat.out
  have hg2 : w.grownBy w1 (Value.slice A l.length c).ownBlock := Hg1.out
  have hat2 : (Value.slice A1 (l.length + s.size) c1).ownBlock = (Value.slice A l.length c).ownBlock ∨ (Value.slice A1 (l.length + s.size) c1).ownBlock = some w.heap.size := by
    rw [hlen] at Hat2
    exact Hat2
  clear Hat2
  have hown2 : w1.ownsRow base 5 1 (Value.slice A1 (l.length + s.size) c1) (l ++ s.data.toList).length (List.map u8V (l ++ s.data.toList)) := by
    rw [← hlen]; exact Hown2
  clear Hown2
  have hne1 : some g ≠ (Value.slice A1 (l.length + s.size) c1).ownBlock := own_ne_of hown2 HG1.out (by decide)
  have HB : Blk w1 g 94 #[.slice A l.length c] := HG1.out
  have hset := gset (World.grownBy.refl w1 (some g)) 0 (.slice A1 (l.length + s.size) c1)
  refine ⟨rfl, _, ⟨hbg, _, HB.set_ 0 _, hown2.kept hset (.inr (fun e => hne1 e.symm)), rfl⟩, ⟨hset.os.trans hg2.os, hset.tape.trans hg2.tape, hset.output.trans hg2.output, Nat.le_trans hg2.size hset.size, fun k hk hkg hkr => ?_, ?_⟩⟩
  · exact (hset.block k (Nat.lt_of_lt_of_le hk hg2.size) (fun e => hkg (by injection e))).trans (hg2.block k hk hkr)
  · rcases hat2 with h | h
    · exact .inl h
    · exact .inr ⟨_, h, Nat.le_refl _⟩
theorem wnumber_any {w : World} {base g : Nat} {r : Option Nat} {l : List UInt8} (h : Wr w 94 5 base g r l) (n long : Int) (h0 : 0 ≤ n) (h1 : n ≤ 18446744073709551615) (hs : l.length + 8 ≤ 140737488355328) :
    Calls Try.prog 18 #[.pointer (some ⟨g, 0, none⟩), .int .u64 n, .int .i64 long] w fun e w' => e = .returned (.tuple #[]) ∧ ∃ r', Wr w' 94 5 base g r' (l ++ putL (clamp8 long) n.toNat) ∧ WK w w' g r r' := by
  have H := Lib.hid h
  clear h
  have h8 : clamp8 long ≤ 8 := by unfold clamp8; omega
  have hl : l.length + (bs (putL (clamp8 long) n.toNat)).size ≤ 140737488355328 := by rw [bs_size, putL_length]; omega
  go_enter Try.func18, Try.ntmps18
  go_wp2_with (first | (go_at_call 39; refine (put_any _ _ _ h0 h1).mono ?_; rintro e w1 ⟨rfl, hb1⟩; have Hb1 := Lib.hid hb1; clear hb1) | (go_at_call 38; refine (wbytes_any (H.out.step Hb1.out) _ hl).mono ?_; rintro e w2 ⟨rfl, r2, hw2, hk2⟩; have Hw2 := Lib.hid hw2; have Hk2 := Lib.hid hk2; clear hw2 hk2))
  go_end0
  refine ⟨rfl, r2, ?_, WK.pre Hb1.out Hk2.out⟩
  have := Hw2.out
  rw [toList_bs] at this
  exact this
theorem wtext_ok {w : World} {base g : Nat} {r : Option Nat} {l : List UInt8} (h : Wr w 94 5 base g r l) (s : ByteArray) (h1 : s.size ≤ 65535) (hs : l.length + 65537 ≤ 140737488355328) :
    Calls Try.prog 40 #[.pointer (some ⟨g, 0, none⟩), .string s] w fun e w' => e = .returned (.int .i64 0) ∧ ∃ r', Wr w' 94 5 base g r' (l ++ putL 2 s.size ++ s.data.toList) ∧ WK w w' g r r' := by
  have H := Lib.hid h
  clear h
  have hl : l.length + (bs (putL 2 s.size) ++ s).size ≤ 140737488355328 := by rw [ByteArray.size_append, bs_size, putL_length]; omega
  go_enter Try.func40, Try.ntmps40
  go_wp2_with (first | (go_at_call 53; refine (text_ok _ _ h1).mono ?_; rintro e w1 ⟨rfl, hb1⟩; have Hb1 := Lib.hid hb1; clear hb1) | (go_at_call 38; refine (wbytes_any (H.out.step Hb1.out) _ hl).mono ?_; rintro e w2 ⟨rfl, r2, hw2, hk2⟩; have Hw2 := Lib.hid hw2; have Hk2 := Lib.hid hk2; clear hw2 hk2))
  go_ret
  refine ⟨rfl, r2, ?_, WK.pre Hb1.out Hk2.out⟩
  have := Hw2.out
  rw [show (bs (putL 2 s.size) ++ s).data.toList = putL 2 s.size ++ s.data.toList by simp [bs], ← List.append_assoc] at this
  exact this
theorem wbool_any {w : World} {base g : Nat} {r : Option Nat} {l : List UInt8} (h : Wr w 94 5 base g r l) (b : Bool) (hs : l.length + 8 ≤ 140737488355328) :
    Calls Try.prog 41 #[.pointer (some ⟨g, 0, none⟩), .bool b] w fun e w' => e = .returned (.tuple #[]) ∧ ∃ r', Wr w' 94 5 base g r' (l ++ [if b then 1 else 0]) ∧ WK w w' g r r' := by
  have H := Lib.hid h
  clear h
  cases b
  all_goals
    go_enter Try.func41, Try.ntmps41
    go_wp2_with (go_at_call 18; refine (wnumber_any H.out _ 1 (by decide) (by decide) hs).mono ?_; rintro e w2 ⟨rfl, r2, hw2, hk2⟩; have Hw2 := Lib.hid hw2; have Hk2 := Lib.hid hk2; clear hw2 hk2)
    go_end0
    exact ⟨rfl, r2, Hw2.out, Hk2.out⟩
theorem wall_any {w : World} {base g : Nat} {r : Option Nat} {l : List UInt8} (h : Wr w 94 5 base g r l) :
    Calls Try.prog 21 #[.pointer (some ⟨g, 0, none⟩)] w fun e w' => e = .returned (.string (bs l)) ∧ w' = w := by
  obtain ⟨hbg, v, hg, hown, rfl⟩ := h
  have hcv := own_string (P := Try.prog) Try.underlying92 Try.underlying5 Try.underlying9 hown
  obtain ⟨A, c, rfl⟩ := own_slice hown
  have c0 : w.cell? ⟨g, 0, none⟩ = some (.slice A l.length c) := by simp [World.cell?, hg]
  clear hg hown
  go_enter Try.func21, Try.ntmps21
  go_wp2
  go_ret
  exact ⟨rfl, rfl⟩
end Go.Proofs.Ytebickoieipjpaa
end
section
namespace Go.Proofs.Ytebickoieipjpaa
open Go.RowKit Go.Gi
set_option maxRecDepth 20000
set_option linter.unusedSimpArgs false
set_option linter.unusedVariables false
theorem cells17 {w : World} {g T : Nat} {kind tx prev next page ok oa : Int} {os oo : List UInt8} {undo index : Int} {key : List UInt8} {rpage rslot : Int} {live : Bool} {V10 V11 : Value}
    (h : Blk w g T #[.int .i64 kind, .int .i64 tx, .int .u64 prev, .int .u64 next, .int .u32 page, .int .i64 ok, .int .i64 oa, .string (bs os), .string (bs oo), .int .i64 undo, .int .i64 index, .string (bs key), .int .u32 rpage, .int .i64 rslot, .bool live, V10, V11]) :
    w.cell? ⟨g, 4, none⟩ = some (.int .u32 page) ∧ w.cell? ⟨g, 5, none⟩ = some (.int .i64 ok) ∧ w.cell? ⟨g, 6, none⟩ = some (.int .i64 oa) ∧ w.cell? ⟨g, 7, none⟩ = some (.string (bs os)) ∧ w.cell? ⟨g, 8, none⟩ = some (.string (bs oo))
    ∧ w.cell? ⟨g, 9, none⟩ = some (.int .i64 undo) ∧ w.cell? ⟨g, 10, none⟩ = some (.int .i64 index) ∧ w.cell? ⟨g, 11, none⟩ = some (.string (bs key)) ∧ w.cell? ⟨g, 12, none⟩ = some (.int .u32 rpage) ∧ w.cell? ⟨g, 13, none⟩ = some (.int .i64 rslot) ∧ w.cell? ⟨g, 14, none⟩ = some (.bool live) :=
  ⟨h.cell 4, h.cell 5, h.cell 6, h.cell 7, h.cell 8, h.cell 9, h.cell 10, h.cell 11, h.cell 12, h.cell 13, h.cell 14⟩
set_option maxHeartbeats 16000000 in
theorem putChange_any {w : World} {base g : Nat} {ro : Option Nat} {l : List UInt8} (h : Wr w 94 5 base g ro l) (r : RecR) (A : Option Addr) (c : Nat) (B : Option Addr) (d : Nat) (hl : l.length ≤ 1000)
    (hp : 0 ≤ r.page ∧ r.page ≤ 4294967295) (hrp : 0 ≤ r.rpage ∧ r.rpage ≤ 4294967295) (hk : 0 ≤ r.ok ∧ r.ok ≤ 65535) (ha : 0 ≤ r.oa ∧ r.oa ≤ 65535) (hs : r.os.length ≤ 65535) (ho : r.oo.length ≤ 65535) (hu : 0 ≤ r.undo ∧ r.undo ≤ 2) (hi : 0 ≤ r.index ∧ r.index ≤ 65535) (hkk : r.key.length ≤ 65535) (hrs : 0 ≤ r.rslot ∧ r.rslot ≤ 65535) :
    Calls Try.prog 20 #[.pointer (some ⟨g, 0, none⟩), r.val A c B d] w fun e w' => e = .returned (.tuple #[]) ∧ ∃ ro', Wr w' 94 5 base g ro' (l ++ chB r) ∧ WK w w' g ro ro' := by
  obtain ⟨kind, tx, prev, next, page, ok, oa, os, oo, undo, index, key, rpage, rslot, live, txs, dirty⟩ := r
  unfold chB keyB txB
  simp only [] at hp hrp hk ha hs ho hu hi hkk hrs ⊢
  show Calls Try.prog 20 #[.pointer (some ⟨g, 0, none⟩), .agg #[.int .i64 kind, .int .i64 tx, .int .u64 prev, .int .u64 next, .int .u32 page, .int .i64 ok, .int .i64 oa, .string (bs os), .string (bs oo), .int .i64 undo, .int .i64 index, .string (bs key), .int .u32 rpage, .int .i64 rslot, .bool live, .slice A txs.length c, .slice B dirty.length d]] w _
  generalize hL : l ++ (putL 4 page.toNat ++ putL 1 ok.toNat ++ putL 2 oa.toNat ++ (putL 2 os.length ++ os) ++ (putL 2 oo.length ++ oo) ++ putL 1 undo.toNat ++ (if undo = 2 then putL 2 index.toNat ++ (putL 2 key.length ++ key) ++ putL 4 rpage.toNat ++ putL 2 rslot.toNat ++ [if live = true then 1 else 0] else [])) = L
  have HL := Lib.hid hL
  clear hL
  have HW := Lib.hid h
  clear h
  generalize Value.slice A txs.length c = VA
  generalize Value.slice B dirty.length d = VB
  have hs' : (bs os).size ≤ 65535 := by rw [bs_size]; exact hs
  have ho' : (bs oo).size ≤ 65535 := by rw [bs_size]; exact ho
  have hkk' : (bs key).size ≤ 65535 := by rw [bs_size]; exact hkk
  have Hs := Lib.hid hs'
  have Ho := Lib.hid ho'
  have Hk := Lib.hid hkk'
  clear hs' ho' hkk'
  go_enter Try.func20, Try.ntmps20
  go_upto_region 1 with fail
  have hB := Blk.new w 35 #[.int .i64 kind, .int .i64 tx, .int .u64 prev, .int .u64 next, .int .u32 page, .int .i64 ok, .int .i64 oa, .string (bs os), .string (bs oo), .int .i64 undo, .int .i64 index, .string (bs key), .int .u32 rpage, .int .i64 rslot, .bool live, VA, VB]
  have hW := balloc (Below.refl w.heap.size w) (.cells #[.int .i64 kind, .int .i64 tx, .int .u64 prev, .int .u64 next, .int .u32 page, .int .i64 ok, .int .i64 oa, .string (bs os), .string (bs oo), .int .i64 undo, .int .i64 index, .string (bs key), .int .u32 rpage, .int .i64 rslot, .bool live, VA, VB] 35)
  generalize w.alloc (.cells #[.int .i64 kind, .int .i64 tx, .int .u64 prev, .int .u64 next, .int .u32 page, .int .i64 ok, .int .i64 oa, .string (bs os), .string (bs oo), .int .i64 undo, .int .i64 index, .string (bs key), .int .u32 rpage, .int .i64 rslot, .bool live, VA, VB] 35) = w0 at *
  generalize Value.agg #[.int .i64 kind, .int .i64 tx, .int .u64 prev, .int .u64 next, .int .u32 page, .int .i64 ok, .int .i64 oa, .string (bs os), .string (bs oo), .int .i64 undo, .int .i64 index, .string (bs key), .int .u32 rpage, .int .i64 rslot, .bool live, VA, VB] = V0 at *
  generalize hg1 : w.heap.size = g1 at *
  have HG := Lib.hid hg1
  obtain ⟨c4, c5, c6, c7, c8, c9, c10, c11, c12, c13, c14⟩ := cells17 hB
  have HK := Lib.hid (WK.pre (by rw [hg1]; exact hW) (WK.refl w0 g ro))
  have HW0 := Lib.hid (HW.out.step (by rw [hg1]; exact hW))
  have HB := Lib.hid hB
  clear hB hW hg1 HW
  have HW := HW0
  clear HW0
  by_cases hu2 : undo = 2
  · have hub : (undo == 2) = true := by simp [hu2]
    have HU := Lib.hid hu2
    clear hu2
    go_wp2_with (first | (go_at_call 18; refine (wnumber_any HW.out _ _ (by omega) (by omega) (by simp [clamp8, putL_length]; omega)).mono ?_; rintro e w1 ⟨rfl, r1, h1, k1⟩; clear c4 c5 c6 c7 c8 c9 c10 c11 c12 c13 c14; obtain ⟨c4, c5, c6, c7, c8, c9, c10, c11, c12, c13, c14⟩ := cells17 (WK.blk HW.out k1 HB.out (by decide) (by decide)); have HB1 := Lib.hid (WK.blk HW.out k1 HB.out (by decide) (by decide)); have HK1 := Lib.hid (HK.out.trans k1); have HW1 := Lib.hid h1; clear HW HB HK h1 k1; have HW := HW1; have HB := HB1; have HK := HK1; clear HW1 HB1 HK1) | (go_at_call 40; refine (wtext_ok HW.out _ (by first | exact Hs.out | exact Ho.out | exact Hk.out) (by simp [clamp8, putL_length]; omega)).mono ?_; rintro e w1 ⟨rfl, r1, h1, k1⟩; rw [toList_bs, bs_size] at h1; clear c4 c5 c6 c7 c8 c9 c10 c11 c12 c13 c14; obtain ⟨c4, c5, c6, c7, c8, c9, c10, c11, c12, c13, c14⟩ := cells17 (WK.blk HW.out k1 HB.out (by decide) (by decide)); have HB1 := Lib.hid (WK.blk HW.out k1 HB.out (by decide) (by decide)); have HK1 := Lib.hid (HK.out.trans k1); have HW1 := Lib.hid h1; clear HW HB HK h1 k1; have HW := HW1; have HB := HB1; have HK := HK1; clear HW1 HB1 HK1) | (go_at_call 41; refine (wbool_any HW.out _ (by simp [clamp8, putL_length]; omega)).mono ?_; rintro e w1 ⟨rfl, r1, h1, k1⟩; clear c4 c5 c6 c7 c8 c9 c10 c11 c12 c13 c14; obtain ⟨c4, c5, c6, c7, c8, c9, c10, c11, c12, c13, c14⟩ := cells17 (WK.blk HW.out k1 HB.out (by decide) (by decide)); have HB1 := Lib.hid (WK.blk HW.out k1 HB.out (by decide) (by decide)); have HK1 := Lib.hid (HK.out.trans k1); have HW1 := Lib.hid h1; clear HW HB HK h1 k1; have HW := HW1; have HB := HB1; have HK := HK1; clear HW1 HB1 HK1))
    go_end0
    refine ⟨rfl, r1, ?_, HK.out⟩
    rw [← HL.out, if_pos HU.out]
    have := HW.out
    simp only [c8_1, c8_2, c8_4, c8_8, List.append_assoc] at this ⊢
    exact this
  · have hub : (undo == 2) = false := by simp [hu2]
    have HU := Lib.hid hu2
    clear hu2
    go_wp2_with (first | (go_at_call 18; refine (wnumber_any HW.out _ _ (by omega) (by omega) (by simp [clamp8, putL_length]; omega)).mono ?_; rintro e w1 ⟨rfl, r1, h1, k1⟩; clear c4 c5 c6 c7 c8 c9 c10 c11 c12 c13 c14; obtain ⟨c4, c5, c6, c7, c8, c9, c10, c11, c12, c13, c14⟩ := cells17 (WK.blk HW.out k1 HB.out (by decide) (by decide)); have HB1 := Lib.hid (WK.blk HW.out k1 HB.out (by decide) (by decide)); have HK1 := Lib.hid (HK.out.trans k1); have HW1 := Lib.hid h1; clear HW HB HK h1 k1; have HW := HW1; have HB := HB1; have HK := HK1; clear HW1 HB1 HK1) | (go_at_call 40; refine (wtext_ok HW.out _ (by first | exact Hs.out | exact Ho.out | exact Hk.out) (by simp [clamp8, putL_length]; omega)).mono ?_; rintro e w1 ⟨rfl, r1, h1, k1⟩; rw [toList_bs, bs_size] at h1; clear c4 c5 c6 c7 c8 c9 c10 c11 c12 c13 c14; obtain ⟨c4, c5, c6, c7, c8, c9, c10, c11, c12, c13, c14⟩ := cells17 (WK.blk HW.out k1 HB.out (by decide) (by decide)); have HB1 := Lib.hid (WK.blk HW.out k1 HB.out (by decide) (by decide)); have HK1 := Lib.hid (HK.out.trans k1); have HW1 := Lib.hid h1; clear HW HB HK h1 k1; have HW := HW1; have HB := HB1; have HK := HK1; clear HW1 HB1 HK1) | (go_at_call 41; refine (wbool_any HW.out _ (by simp [clamp8, putL_length]; omega)).mono ?_; rintro e w1 ⟨rfl, r1, h1, k1⟩; clear c4 c5 c6 c7 c8 c9 c10 c11 c12 c13 c14; obtain ⟨c4, c5, c6, c7, c8, c9, c10, c11, c12, c13, c14⟩ := cells17 (WK.blk HW.out k1 HB.out (by decide) (by decide)); have HB1 := Lib.hid (WK.blk HW.out k1 HB.out (by decide) (by decide)); have HK1 := Lib.hid (HK.out.trans k1); have HW1 := Lib.hid h1; clear HW HB HK h1 k1; have HW := HW1; have HB := HB1; have HK := HK1; clear HW1 HB1 HK1))
    go_end0
    refine ⟨rfl, r1, ?_, HK.out⟩
    rw [← HL.out, if_neg HU.out]
    have := HW.out
    simp only [c8_1, c8_2, c8_4, c8_8, List.append_assoc, List.append_nil] at this ⊢
    exact this
end Go.Proofs.Ytebickoieipjpaa
end
section
namespace Go.Proofs.Ytebickoieipjpaa
open Go.RowKit Go.Gi
set_option maxRecDepth 20000
set_option linter.unusedSimpArgs false
set_option linter.unusedVariables false
theorem frozX {w : World} {g T : Nat} {cs : Array Value} (h : Blk w g T cs) : w.frozen? ⟨g, 4, none⟩ = false ∧ w.frozen? ⟨g, 5, none⟩ = false ∧ w.frozen? ⟨g, 6, none⟩ = false ∧ w.frozen? ⟨g, 7, none⟩ = false ∧ w.frozen? ⟨g, 8, none⟩ = false ∧ w.frozen? ⟨g, 9, none⟩ = false ∧ w.frozen? ⟨g, 10, none⟩ = false ∧ w.frozen? ⟨g, 11, none⟩ = false ∧ w.frozen? ⟨g, 12, none⟩ = false ∧ w.frozen? ⟨g, 13, none⟩ = false ∧ w.frozen? ⟨g, 14, none⟩ = false :=
  ⟨h.frozen 4, h.frozen 5, h.frozen 6, h.frozen 7, h.frozen 8, h.frozen 9, h.frozen 10, h.frozen 11, h.frozen 12, h.frozen 13, h.frozen 14⟩
set_option maxHeartbeats 16000000 in
theorem takeChange_any {w : World} {g b B : Nat} {L : List UInt8} {a : Nat} {e : Int} (hR : RS w 99 g L a e) {kind tx prev next : Int} {VA VB : Value} (hB : Blk w b 35 #[.int .i64 kind, .int .i64 tx, .int .u64 prev, .int .u64 next, .int .u32 0, .int .i64 0, .int .i64 0, .string (bs []), .string (bs []), .int .i64 0, .int .i64 0, .string (bs []), .int .u32 0, .int .i64 0, .bool false, VA, VB]) (hne : b ≠ g) (hBs : B ≤ w.heap.size) (hBg : B ≤ g) (hBb : B ≤ b) :
    Calls Try.prog 24 #[.pointer (some ⟨g, 0, none⟩), .pointer (some ⟨b, 0, none⟩)] w fun e' w' => e' = .returned (.tuple #[]) ∧ RS w' 99 g L (rdCh L a e).2.1 (rdCh L a e).2.2 ∧
      Blk w' b 35 #[.int .i64 kind, .int .i64 tx, .int .u64 prev, .int .u64 next, .int .u32 (rdCh L a e).1.page, .int .i64 (rdCh L a e).1.ok, .int .i64 (rdCh L a e).1.oa, .string (bs (rdCh L a e).1.os), .string (bs (rdCh L a e).1.oo), .int .i64 (rdCh L a e).1.undo, .int .i64 (rdCh L a e).1.index, .string (bs (rdCh L a e).1.key), .int .u32 (rdCh L a e).1.rpage, .int .i64 (rdCh L a e).1.rslot, .bool (rdCh L a e).1.live, VA, VB] ∧ Below B w w' := by
  obtain ⟨v1, a1, e1, h1⟩ : ∃ v a' e', rNum L a e 4 = (v, a', e') := ⟨_, _, _, rfl⟩
  have b1 : v1 < 4294967296 := by have := rNum_lt L a e 4; rw [show (((4 : Nat) : Int)) = (4 : Int) from rfl, h1] at this; simpa using this
  obtain ⟨v2, a2, e2, h2⟩ : ∃ v a' e', rNum L a1 e1 1 = (v, a', e') := ⟨_, _, _, rfl⟩
  have b2 : v2 < 256 := by have := rNum_lt L a1 e1 1; rw [show (((1 : Nat) : Int)) = (1 : Int) from rfl, h2] at this; simpa using this
  obtain ⟨v3, a3, e3, h3⟩ : ∃ v a' e', rNum L a2 e2 2 = (v, a', e') := ⟨_, _, _, rfl⟩
  have b3 : v3 < 65536 := by have := rNum_lt L a2 e2 2; rw [show (((2 : Nat) : Int)) = (2 : Int) from rfl, h3] at this; simpa using this
  obtain ⟨v4, a4, e4, h4⟩ : ∃ v a' e', rText L a3 e3 512 = (v, a', e') := ⟨_, _, _, rfl⟩
  obtain ⟨v5, a5, e5, h5⟩ : ∃ v a' e', rText L a4 e4 512 = (v, a', e') := ⟨_, _, _, rfl⟩
  obtain ⟨v6, a6, e6, h6⟩ : ∃ v a' e', rNum L a5 e5 1 = (v, a', e') := ⟨_, _, _, rfl⟩
  have b6 : v6 < 256 := by have := rNum_lt L a5 e5 1; rw [show (((1 : Nat) : Int)) = (1 : Int) from rfl, h6] at this; simpa using this
  obtain ⟨v7, a7, e7, h7⟩ : ∃ v a' e', rNum L a6 e6 2 = (v, a', e') := ⟨_, _, _, rfl⟩
  have b7 : v7 < 65536 := by have := rNum_lt L a6 e6 2; rw [show (((2 : Nat) : Int)) = (2 : Int) from rfl, h7] at this; simpa using this
  obtain ⟨v8, a8, e8, h8⟩ : ∃ v a' e', rText L a7 e7 64 = (v, a', e') := ⟨_, _, _, rfl⟩
  obtain ⟨v9, a9, e9, h9⟩ : ∃ v a' e', rNum L a8 e8 4 = (v, a', e') := ⟨_, _, _, rfl⟩
  have b9 : v9 < 4294967296 := by have := rNum_lt L a8 e8 4; rw [show (((4 : Nat) : Int)) = (4 : Int) from rfl, h9] at this; simpa using this
  obtain ⟨v10, a10, e10, h10⟩ : ∃ v a' e', rNum L a9 e9 2 = (v, a', e') := ⟨_, _, _, rfl⟩
  have b10 : v10 < 65536 := by have := rNum_lt L a9 e9 2; rw [show (((2 : Nat) : Int)) = (2 : Int) from rfl, h10] at this; simpa using this
  obtain ⟨v11, a11, e11, h11⟩ : ∃ v a' e', rBool L a10 e10 = (v, a', e') := ⟨_, _, _, rfl⟩
  have H1 := Lib.hid h1
  have H2 := Lib.hid h2
  have H3 := Lib.hid h3
  have H4 := Lib.hid h4
  have H5 := Lib.hid h5
  have H6 := Lib.hid h6
  have H7 := Lib.hid h7
  have H8 := Lib.hid h8
  have H9 := Lib.hid h9
  have H10 := Lib.hid h10
  have H11 := Lib.hid h11
  have HF0 := Lib.hid (show ¬ (v6 : Int) = 2 → rdCh L a e = (⟨v1, v2, v3, v4, v5, v6, 0, [], 0, 0, false⟩, a6, e6) from fun hu => by simp only [rdCh, h1, h2, h3, h4, h5, h6]; rw [if_neg hu])
  have HF1 := Lib.hid (show (v6 : Int) = 2 → rdCh L a e = (⟨v1, v2, v3, v4, v5, v6, v7, v8, v9, v10, v11⟩, a11, e11) from fun hu => by simp only [rdCh, h1, h2, h3, h4, h5, h6, h7, h8, h9, h10, h11]; rw [if_pos hu])
  generalize rdCh L a e = RES at *
  clear h1 h2 h3 h4 h5 h6 h7 h8 h9 h10 h11
  have HR := Lib.hid hR
  have HB := Lib.hid hB
  have HK := Lib.hid (show Below B w w from ⟨rfl, rfl, rfl, Nat.le_refl _, fun _ _ => rfl⟩)
  have Hne := Lib.hid hne
  have Hbs := Lib.hid hBs
  have Hbg := Lib.hid hBg
  have Hbb := Lib.hid hBb
  obtain ⟨f4, f5, f6, f7, f8, f9, f10, f11, f12, f13, f14⟩ := frozX hB
  obtain ⟨c4, c5, c6, c7, c8, c9, c10, c11, c12, c13, c14⟩ := cells17 hB
  clear hR hB hne hBs hBg hBb
  go_enter Try.func24, Try.ntmps24
  go_upto_region 0 with fail
  go_cut [] from 4 to 9 (fun wx => RS wx 99 g L a1 e1 ∧ Blk wx b 35 #[.int .i64 kind, .int .i64 tx, .int .u64 prev, .int .u64 next, .int .u32 v1, .int .i64 0, .int .i64 0, .string (bs []), .string (bs []), .int .i64 0, .int .i64 0, .string (bs []), .int .u32 0, .int .i64 0, .bool false, VA, VB] ∧ Below B w wx)
  case first =>
    go_wp2_with (first | (go_at_call 23; refine (num_st HR.out _ _ _ _ (by first | exact H1.out | exact H2.out | exact H3.out | exact H6.out | exact H7.out | exact H9.out | exact H10.out)).mono ?_; rintro e' w1 ⟨rfl, hr1, hg1⟩; have HR1 := Lib.hid hr1; have HB1 := Lib.hid (HB.out.grown hg1 (by simp [Hne.out])); have HK1 := Lib.hid (bgrownB HK.out hg1 Hbs.out Hbg.out); clear HR HB HK hr1 hg1 f4 f5 f6 f7 f8 f9 f10 f11 f12 f13 f14 c4 c5 c6 c7 c8 c9 c10 c11 c12 c13 c14; have HR := HR1; have HB := HB1; have HK := HK1; clear HR1 HB1 HK1; obtain ⟨f4, f5, f6, f7, f8, f9, f10, f11, f12, f13, f14⟩ := frozX HB.out; obtain ⟨c4, c5, c6, c7, c8, c9, c10, c11, c12, c13, c14⟩ := cells17 HB.out))
    go_meet
    exact ⟨(RS.far HR.out Hne.out), (HB.out.set_ 4 (.int .u32 v1)), (bsetB HK.out Hbb.out (.int .u32 v1))⟩
  case rest =>
  obtain ⟨hr2, hb2, hk2⟩ := hcut
  clear HR HB HK f4 f5 f6 f7 f8 f9 f10 f11 f12 f13 f14 c4 c5 c6 c7 c8 c9 c10 c11 c12 c13 c14
  have HR := Lib.hid hr2
  have HB := Lib.hid hb2
  have HK := Lib.hid hk2
  clear hr2 hb2 hk2
  obtain ⟨f4, f5, f6, f7, f8, f9, f10, f11, f12, f13, f14⟩ := frozX HB.out
  obtain ⟨c4, c5, c6, c7, c8, c9, c10, c11, c12, c13, c14⟩ := cells17 HB.out
  go_upto_region 1 with fail
  go_cut [] from 10 to 19 (fun wx => RS wx 99 g L a3 e3 ∧ Blk wx b 35 #[.int .i64 kind, .int .i64 tx, .int .u64 prev, .int .u64 next, .int .u32 v1, .int .i64 v2, .int .i64 v3, .string (bs []), .string (bs []), .int .i64 0, .int .i64 0, .string (bs []), .int .u32 0, .int .i64 0, .bool false, VA, VB] ∧ Below B w wx)
  case first =>
    go_wp2_with (first | (go_at_call 23; refine (num_st HR.out _ _ _ _ (by first | exact H1.out | exact H2.out | exact H3.out | exact H6.out | exact H7.out | exact H9.out | exact H10.out)).mono ?_; rintro e' w1 ⟨rfl, hr1, hg1⟩; have HR1 := Lib.hid hr1; have HB1 := Lib.hid (HB.out.grown hg1 (by simp [Hne.out])); have HK1 := Lib.hid (bgrownB HK.out hg1 Hbs.out Hbg.out); clear HR HB HK hr1 hg1 f4 f5 f6 f7 f8 f9 f10 f11 f12 f13 f14 c4 c5 c6 c7 c8 c9 c10 c11 c12 c13 c14; have HR := HR1; have HB := HB1; have HK := HK1; clear HR1 HB1 HK1; obtain ⟨f4, f5, f6, f7, f8, f9, f10, f11, f12, f13, f14⟩ := frozX HB.out; obtain ⟨c4, c5, c6, c7, c8, c9, c10, c11, c12, c13, c14⟩ := cells17 HB.out))
    go_meet
    exact ⟨(RS.far (RS.far (RS.far (RS.far HR.out Hne.out) Hne.out) Hne.out) Hne.out), ((((HB.out.set_ 5 (.int .i64 v2)).set_ 6 (.int .i64 v3)).set_ 7 (.string (bs []))).set_ 8 (.string (bs []))), (bsetB (bsetB (bsetB (bsetB HK.out Hbb.out (.int .i64 v2)) Hbb.out (.int .i64 v3)) Hbb.out (.string (bs []))) Hbb.out (.string (bs [])))⟩
  case rest =>
  obtain ⟨hr2, hb2, hk2⟩ := hcut
  clear HR HB HK f4 f5 f6 f7 f8 f9 f10 f11 f12 f13 f14 c4 c5 c6 c7 c8 c9 c10 c11 c12 c13 c14
  have HR := Lib.hid hr2
  have HB := Lib.hid hb2
  have HK := Lib.hid hk2
  clear hr2 hb2 hk2
  obtain ⟨f4, f5, f6, f7, f8, f9, f10, f11, f12, f13, f14⟩ := frozX HB.out
  obtain ⟨c4, c5, c6, c7, c8, c9, c10, c11, c12, c13, c14⟩ := cells17 HB.out
  go_upto_region 2 with fail
  go_cut [] from 20 to 25 (fun wx => RS wx 99 g L a4 e4 ∧ Blk wx b 35 #[.int .i64 kind, .int .i64 tx, .int .u64 prev, .int .u64 next, .int .u32 v1, .int .i64 v2, .int .i64 v3, .string (bs v4), .string (bs []), .int .i64 0, .int .i64 0, .string (bs []), .int .u32 0, .int .i64 0, .bool false, VA, VB] ∧ Below B w wx)
  case first =>
    go_wp2_with (first | (go_at_call 43; refine (text_st HR.out _ _ _ _ (by first | exact H4.out | exact H5.out | exact H8.out)).mono ?_; rintro e' w1 ⟨rfl, hr1, hg1⟩; have HR1 := Lib.hid hr1; have HB1 := Lib.hid (HB.out.grown hg1 (by simp [Hne.out])); have HK1 := Lib.hid (bgrownB HK.out hg1 Hbs.out Hbg.out); clear HR HB HK hr1 hg1 f4 f5 f6 f7 f8 f9 f10 f11 f12 f13 f14 c4 c5 c6 c7 c8 c9 c10 c11 c12 c13 c14; have HR := HR1; have HB := HB1; have HK := HK1; clear HR1 HB1 HK1; obtain ⟨f4, f5, f6, f7, f8, f9, f10, f11, f12, f13, f14⟩ := frozX HB.out; obtain ⟨c4, c5, c6, c7, c8, c9, c10, c11, c12, c13, c14⟩ := cells17 HB.out))
    go_meet
    exact ⟨(RS.far HR.out Hne.out), (HB.out.set_ 7 (.string (bs v4))), (bsetB HK.out Hbb.out (.string (bs v4)))⟩
  case rest =>
  obtain ⟨hr2, hb2, hk2⟩ := hcut
  clear HR HB HK f4 f5 f6 f7 f8 f9 f10 f11 f12 f13 f14 c4 c5 c6 c7 c8 c9 c10 c11 c12 c13 c14
  have HR := Lib.hid hr2
  have HB := Lib.hid hb2
  have HK := Lib.hid hk2
  clear hr2 hb2 hk2
  obtain ⟨f4, f5, f6, f7, f8, f9, f10, f11, f12, f13, f14⟩ := frozX HB.out
  obtain ⟨c4, c5, c6, c7, c8, c9, c10, c11, c12, c13, c14⟩ := cells17 HB.out
  go_upto_region 3 with fail
  go_cut [] from 26 to 31 (fun wx => RS wx 99 g L a5 e5 ∧ Blk wx b 35 #[.int .i64 kind, .int .i64 tx, .int .u64 prev, .int .u64 next, .int .u32 v1, .int .i64 v2, .int .i64 v3, .string (bs v4), .string (bs v5), .int .i64 0, .int .i64 0, .string (bs []), .int .u32 0, .int .i64 0, .bool false, VA, VB] ∧ Below B w wx)
  case first =>
    go_wp2_with (first | (go_at_call 43; refine (text_st HR.out _ _ _ _ (by first | exact H4.out | exact H5.out | exact H8.out)).mono ?_; rintro e' w1 ⟨rfl, hr1, hg1⟩; have HR1 := Lib.hid hr1; have HB1 := Lib.hid (HB.out.grown hg1 (by simp [Hne.out])); have HK1 := Lib.hid (bgrownB HK.out hg1 Hbs.out Hbg.out); clear HR HB HK hr1 hg1 f4 f5 f6 f7 f8 f9 f10 f11 f12 f13 f14 c4 c5 c6 c7 c8 c9 c10 c11 c12 c13 c14; have HR := HR1; have HB := HB1; have HK := HK1; clear HR1 HB1 HK1; obtain ⟨f4, f5, f6, f7, f8, f9, f10, f11, f12, f13, f14⟩ := frozX HB.out; obtain ⟨c4, c5, c6, c7, c8, c9, c10, c11, c12, c13, c14⟩ := cells17 HB.out))
    go_meet
    exact ⟨(RS.far HR.out Hne.out), (HB.out.set_ 8 (.string (bs v5))), (bsetB HK.out Hbb.out (.string (bs v5)))⟩
  case rest =>
  obtain ⟨hr2, hb2, hk2⟩ := hcut
  clear HR HB HK f4 f5 f6 f7 f8 f9 f10 f11 f12 f13 f14 c4 c5 c6 c7 c8 c9 c10 c11 c12 c13 c14
  have HR := Lib.hid hr2
  have HB := Lib.hid hb2
  have HK := Lib.hid hk2
  clear hr2 hb2 hk2
  obtain ⟨f4, f5, f6, f7, f8, f9, f10, f11, f12, f13, f14⟩ := frozX HB.out
  obtain ⟨c4, c5, c6, c7, c8, c9, c10, c11, c12, c13, c14⟩ := cells17 HB.out
  go_upto_region 4 with fail
  go_cut [] from 32 to 37 (fun wx => RS wx 99 g L a6 e6 ∧ Blk wx b 35 #[.int .i64 kind, .int .i64 tx, .int .u64 prev, .int .u64 next, .int .u32 v1, .int .i64 v2, .int .i64 v3, .string (bs v4), .string (bs v5), .int .i64 v6, .int .i64 0, .string (bs []), .int .u32 0, .int .i64 0, .bool false, VA, VB] ∧ Below B w wx)
  case first =>
    go_wp2_with (first | (go_at_call 23; refine (num_st HR.out _ _ _ _ (by first | exact H1.out | exact H2.out | exact H3.out | exact H6.out | exact H7.out | exact H9.out | exact H10.out)).mono ?_; rintro e' w1 ⟨rfl, hr1, hg1⟩; have HR1 := Lib.hid hr1; have HB1 := Lib.hid (HB.out.grown hg1 (by simp [Hne.out])); have HK1 := Lib.hid (bgrownB HK.out hg1 Hbs.out Hbg.out); clear HR HB HK hr1 hg1 f4 f5 f6 f7 f8 f9 f10 f11 f12 f13 f14 c4 c5 c6 c7 c8 c9 c10 c11 c12 c13 c14; have HR := HR1; have HB := HB1; have HK := HK1; clear HR1 HB1 HK1; obtain ⟨f4, f5, f6, f7, f8, f9, f10, f11, f12, f13, f14⟩ := frozX HB.out; obtain ⟨c4, c5, c6, c7, c8, c9, c10, c11, c12, c13, c14⟩ := cells17 HB.out))
    go_meet
    exact ⟨(RS.far HR.out Hne.out), (HB.out.set_ 9 (.int .i64 v6)), (bsetB HK.out Hbb.out (.int .i64 v6))⟩
  case rest =>
  obtain ⟨hr2, hb2, hk2⟩ := hcut
  clear HR HB HK f4 f5 f6 f7 f8 f9 f10 f11 f12 f13 f14 c4 c5 c6 c7 c8 c9 c10 c11 c12 c13 c14
  have HR := Lib.hid hr2
  have HB := Lib.hid hb2
  have HK := Lib.hid hk2
  clear hr2 hb2 hk2
  obtain ⟨f4, f5, f6, f7, f8, f9, f10, f11, f12, f13, f14⟩ := frozX HB.out
  obtain ⟨c4, c5, c6, c7, c8, c9, c10, c11, c12, c13, c14⟩ := cells17 HB.out
  by_cases hu : (v6 : Int) = 2
  · have hub : ((v6 : Int) == 2) = true := by simp [hu]
    have HU := Lib.hid hu
    clear hu
    go_upto_region 6 with fail
    go_cut [] from 43 to 48 (fun wx => RS wx 99 g L a7 e7 ∧ Blk wx b 35 #[.int .i64 kind, .int .i64 tx, .int .u64 prev, .int .u64 next, .int .u32 v1, .int .i64 v2, .int .i64 v3, .string (bs v4), .string (bs v5), .int .i64 v6, .int .i64 v7, .string (bs []), .int .u32 0, .int .i64 0, .bool false, VA, VB] ∧ Below B w wx)
    case first =>
      go_wp2_with (first | (go_at_call 23; refine (num_st HR.out _ _ _ _ (by first | exact H1.out | exact H2.out | exact H3.out | exact H6.out | exact H7.out | exact H9.out | exact H10.out)).mono ?_; rintro e' w1 ⟨rfl, hr1, hg1⟩; have HR1 := Lib.hid hr1; have HB1 := Lib.hid (HB.out.grown hg1 (by simp [Hne.out])); have HK1 := Lib.hid (bgrownB HK.out hg1 Hbs.out Hbg.out); clear HR HB HK hr1 hg1 f4 f5 f6 f7 f8 f9 f10 f11 f12 f13 f14 c4 c5 c6 c7 c8 c9 c10 c11 c12 c13 c14; have HR := HR1; have HB := HB1; have HK := HK1; clear HR1 HB1 HK1; obtain ⟨f4, f5, f6, f7, f8, f9, f10, f11, f12, f13, f14⟩ := frozX HB.out; obtain ⟨c4, c5, c6, c7, c8, c9, c10, c11, c12, c13, c14⟩ := cells17 HB.out))
      go_meet
      exact ⟨(RS.far HR.out Hne.out), (HB.out.set_ 10 (.int .i64 v7)), (bsetB HK.out Hbb.out (.int .i64 v7))⟩
    case rest =>
    obtain ⟨hr2, hb2, hk2⟩ := hcut
    clear HR HB HK f4 f5 f6 f7 f8 f9 f10 f11 f12 f13 f14 c4 c5 c6 c7 c8 c9 c10 c11 c12 c13 c14
    have HR := Lib.hid hr2
    have HB := Lib.hid hb2
    have HK := Lib.hid hk2
    clear hr2 hb2 hk2
    obtain ⟨f4, f5, f6, f7, f8, f9, f10, f11, f12, f13, f14⟩ := frozX HB.out
    obtain ⟨c4, c5, c6, c7, c8, c9, c10, c11, c12, c13, c14⟩ := cells17 HB.out
    go_upto_region 7 with fail
    go_cut [] from 49 to 54 (fun wx => RS wx 99 g L a8 e8 ∧ Blk wx b 35 #[.int .i64 kind, .int .i64 tx, .int .u64 prev, .int .u64 next, .int .u32 v1, .int .i64 v2, .int .i64 v3, .string (bs v4), .string (bs v5), .int .i64 v6, .int .i64 v7, .string (bs v8), .int .u32 0, .int .i64 0, .bool false, VA, VB] ∧ Below B w wx)
    case first =>
      go_wp2_with (first | (go_at_call 43; refine (text_st HR.out _ _ _ _ (by first | exact H4.out | exact H5.out | exact H8.out)).mono ?_; rintro e' w1 ⟨rfl, hr1, hg1⟩; have HR1 := Lib.hid hr1; have HB1 := Lib.hid (HB.out.grown hg1 (by simp [Hne.out])); have HK1 := Lib.hid (bgrownB HK.out hg1 Hbs.out Hbg.out); clear HR HB HK hr1 hg1 f4 f5 f6 f7 f8 f9 f10 f11 f12 f13 f14 c4 c5 c6 c7 c8 c9 c10 c11 c12 c13 c14; have HR := HR1; have HB := HB1; have HK := HK1; clear HR1 HB1 HK1; obtain ⟨f4, f5, f6, f7, f8, f9, f10, f11, f12, f13, f14⟩ := frozX HB.out; obtain ⟨c4, c5, c6, c7, c8, c9, c10, c11, c12, c13, c14⟩ := cells17 HB.out))
      go_meet
      exact ⟨(RS.far HR.out Hne.out), (HB.out.set_ 11 (.string (bs v8))), (bsetB HK.out Hbb.out (.string (bs v8)))⟩
    case rest =>
    obtain ⟨hr2, hb2, hk2⟩ := hcut
    clear HR HB HK f4 f5 f6 f7 f8 f9 f10 f11 f12 f13 f14 c4 c5 c6 c7 c8 c9 c10 c11 c12 c13 c14
    have HR := Lib.hid hr2
    have HB := Lib.hid hb2
    have HK := Lib.hid hk2
    clear hr2 hb2 hk2
    obtain ⟨f4, f5, f6, f7, f8, f9, f10, f11, f12, f13, f14⟩ := frozX HB.out
    obtain ⟨c4, c5, c6, c7, c8, c9, c10, c11, c12, c13, c14⟩ := cells17 HB.out
    go_upto_region 8 with fail
    go_cut [] from 55 to 65 (fun wx => RS wx 99 g L a10 e10 ∧ Blk wx b 35 #[.int .i64 kind, .int .i64 tx, .int .u64 prev, .int .u64 next, .int .u32 v1, .int .i64 v2, .int .i64 v3, .string (bs v4), .string (bs v5), .int .i64 v6, .int .i64 v7, .string (bs v8), .int .u32 v9, .int .i64 v10, .bool false, VA, VB] ∧ Below B w wx)
    case first =>
      go_wp2_with (first | (go_at_call 23; refine (num_st HR.out _ _ _ _ (by first | exact H1.out | exact H2.out | exact H3.out | exact H6.out | exact H7.out | exact H9.out | exact H10.out)).mono ?_; rintro e' w1 ⟨rfl, hr1, hg1⟩; have HR1 := Lib.hid hr1; have HB1 := Lib.hid (HB.out.grown hg1 (by simp [Hne.out])); have HK1 := Lib.hid (bgrownB HK.out hg1 Hbs.out Hbg.out); clear HR HB HK hr1 hg1 f4 f5 f6 f7 f8 f9 f10 f11 f12 f13 f14 c4 c5 c6 c7 c8 c9 c10 c11 c12 c13 c14; have HR := HR1; have HB := HB1; have HK := HK1; clear HR1 HB1 HK1; obtain ⟨f4, f5, f6, f7, f8, f9, f10, f11, f12, f13, f14⟩ := frozX HB.out; obtain ⟨c4, c5, c6, c7, c8, c9, c10, c11, c12, c13, c14⟩ := cells17 HB.out))
      go_meet
      exact ⟨(RS.far (RS.far HR.out Hne.out) Hne.out), ((HB.out.set_ 12 (.int .u32 v9)).set_ 13 (.int .i64 v10)), (bsetB (bsetB HK.out Hbb.out (.int .u32 v9)) Hbb.out (.int .i64 v10))⟩
    case rest =>
    obtain ⟨hr2, hb2, hk2⟩ := hcut
    clear HR HB HK f4 f5 f6 f7 f8 f9 f10 f11 f12 f13 f14 c4 c5 c6 c7 c8 c9 c10 c11 c12 c13 c14
    have HR := Lib.hid hr2
    have HB := Lib.hid hb2
    have HK := Lib.hid hk2
    clear hr2 hb2 hk2
    obtain ⟨f4, f5, f6, f7, f8, f9, f10, f11, f12, f13, f14⟩ := frozX HB.out
    obtain ⟨c4, c5, c6, c7, c8, c9, c10, c11, c12, c13, c14⟩ := cells17 HB.out
    go_wp2_with (first | (go_at_call 44; refine (bool_st HR.out _ _ _ H11.out).mono ?_; rintro e' w1 ⟨rfl, hr1, hg1⟩; have HR1 := Lib.hid hr1; have HB1 := Lib.hid (HB.out.grown hg1 (by simp [Hne.out])); have HK1 := Lib.hid (bgrownB HK.out hg1 Hbs.out Hbg.out); clear HR HB HK hr1 hg1 f4 f5 f6 f7 f8 f9 f10 f11 f12 f13 f14 c4 c5 c6 c7 c8 c9 c10 c11 c12 c13 c14; have HR := HR1; have HB := HB1; have HK := HK1; clear HR1 HB1 HK1; obtain ⟨f4, f5, f6, f7, f8, f9, f10, f11, f12, f13, f14⟩ := frozX HB.out; obtain ⟨c4, c5, c6, c7, c8, c9, c10, c11, c12, c13, c14⟩ := cells17 HB.out))
    go_end0
    rw [HF1.out HU.out]
    exact ⟨rfl, (RS.far HR.out Hne.out), (HB.out.set_ 14 (.bool v11)), (bsetB HK.out Hbb.out (.bool v11))⟩
  · have hub : ((v6 : Int) == 2) = false := by simp [hu]
    have HU := Lib.hid hu
    clear hu
    go_wp2
    go_end0
    rw [HF0.out HU.out]
    exact ⟨rfl, HR.out, HB.out, HK.out⟩
end Go.Proofs.Ytebickoieipjpaa
end
section
namespace Go.Proofs.Ytebickoieipjpaa
open Go.RowKit Go.Gi
set_option maxRecDepth 20000
set_option linter.unusedSimpArgs false
set_option linter.unusedVariables false
attribute [local go_sem] bs_size bs_empty
theorem kindOf_any (s : List UInt8) (w : World) :
    Calls Try.prog 52 #[.string (bs s)] w fun e w' => e = .returned (.bool (decide (1 ≤ s.length ∧ s.length ≤ 33))) ∧ w' = w := by
  go_enter Try.func52, Try.ntmps52
  go_wp2
  all_goals
    go_ret
    refine ⟨ret_bool ?_, rfl⟩
    rw [Bool.eq_iff_iff]
    simp
    try omega
set_option maxHeartbeats 1600000 in
theorem pcheck_any (k a : Int) (s o : List UInt8) (w : World) :
    Calls Try.prog 37 #[.agg #[.int .i64 k, .int .i64 a, .string (bs s), .string (bs o)]] w fun e w' => e = .returned (.int .i64 (opE k a s o)) ∧ Below w.heap.size w w' := by
  go_enter Try.func37, Try.ntmps37
  go_wp2_with (first | (go_at_call 52; refine (kindOf_any _ _).mono ?_; rintro e w' ⟨rfl, rfl⟩))
  all_goals
    go_ret
    refine ⟨ret_int ?_, balloc (Below.refl _ _) _⟩
    simp only [beq_iff_eq, decide_eq_true_eq, decide_eq_false_iff_not, beq_eq_false_iff_ne, ne_eq, Bool.not_eq_true', Bool.not_eq_false', ← List.length_eq_zero_iff] at *
    first
    | exact opE_pos (by unfold opOk; omega)
    | exact opE_neg (by unfold opOk; omega)
end Go.Proofs.Ytebickoieipjpaa
end
