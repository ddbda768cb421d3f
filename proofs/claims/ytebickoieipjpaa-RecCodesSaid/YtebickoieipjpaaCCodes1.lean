import Derived.Test.YtebickoieipjpaaCCodes0
section
namespace Go.Proofs.Ytebickoieipjpaa.PRs
open Go.RowKit Go.Proofs.YtebickoieipjpaaW.PrintWords Go.Proofs.YtebickoieipjpaaW.PrintLast Go.Proofs.YtebickoieipjpaaW.PrintMore
attribute [local go_sem] max2_int min2_int max_two min_two max_three min_three max_four min_four
set_option linter.unusedVariables false
set_option linter.unusedSimpArgs false
attribute [local go_sem high] eqA27 eqA31
def rec_Same.f (k : Nat) (a0_0 : Int) (a0_1 : Int) (a0_2 : Int) (a0_3 : Int) (a0_4 : Int) (a0_5 : Int) (a0_6 : Int) (a0_7 : ByteArray) (a0_8 : ByteArray) (a0_9 : Int) (a0_10 : Int) (a0_11 : ByteArray) (a0_12 : Int) (a0_13 : Int) (a0_14 : Bool) (l0_15 : List (S70)) (l0_16 : List (S72)) (a1_0 : Int) (a1_1 : Int) (a1_2 : Int) (a1_3 : Int) (a1_4 : Int) (a1_5 : Int) (a1_6 : Int) (a1_7 : ByteArray) (a1_8 : ByteArray) (a1_9 : Int) (a1_10 : Int) (a1_11 : ByteArray) (a1_12 : Int) (a1_13 : Int) (a1_14 : Bool) (l1_15 : List (S70)) (l1_16 : List (S72)) : Option (Bool):=(api_TxState.f k l0_15 l1_15).bind fun t107=>(if t107=true then ((api_Dirty.f k l0_16 l1_16).bind fun t108=>(if t108=true then (if a0_0=a1_0 then (if a0_1=a1_1 then (if a0_2=a1_2 then (if a0_3=a1_3 then (if a0_4=a1_4 then (if (a0_5 == a1_5 && (a0_6 == a1_6 && (a0_7.toList == a1_7.toList && (a0_8.toList == a1_8.toList))))=true then (if a0_9=a1_9 then (if a0_10=a1_10 then (if (a0_11.toList == a1_11.toList && ((a0_12 == a1_12 && (a0_13 == a1_13))))=true then (some (a0_14 == a1_14)) else (some false)) else (some false)) else (some false)) else (some false)) else (some false)) else (some false)) else (some false)) else (some false)) else (some false)) else (some false))) else (some false))
set_option maxHeartbeats 8000000 in
set_option maxRecDepth 100000 in
theorem rec_Same.calls (k : Nat) (a0_0 : Int) (a0_1 : Int) (a0_2 : Int) (a0_3 : Int) (a0_4 : Int) (a0_5 : Int) (a0_6 : Int) (a0_7 : ByteArray) (a0_8 : ByteArray) (a0_9 : Int) (a0_10 : Int) (a0_11 : ByteArray) (a0_12 : Int) (a0_13 : Int) (a0_14 : Bool) (A0_15 : Option Addr) (c0_15 : Nat) (l0_15 : List (S70)) (A0_16 : Option Addr) (c0_16 : Nat) (l0_16 : List (S72)) (a1_0 : Int) (a1_1 : Int) (a1_2 : Int) (a1_3 : Int) (a1_4 : Int) (a1_5 : Int) (a1_6 : Int) (a1_7 : ByteArray) (a1_8 : ByteArray) (a1_9 : Int) (a1_10 : Int) (a1_11 : ByteArray) (a1_12 : Int) (a1_13 : Int) (a1_14 : Bool) (A1_15 : Option Addr) (c1_15 : Nat) (l1_15 : List (S70)) (A1_16 : Option Addr) (c1_16 : Nat) (l1_16 : List (S72)) (r : Bool) (w : World) (hr0_15 : Kd.C k70 w A0_15 l0_15.length l0_15) (hc0_15 : l0_15.length≤c0_15) (hr0_16 : Kd.C k72 w A0_16 l0_16.length l0_16) (hc0_16 : l0_16.length≤c0_16) (hr1_15 : Kd.C k70 w A1_15 l1_15.length l1_15) (hc1_15 : l1_15.length≤c1_15) (hr1_16 : Kd.C k72 w A1_16 l1_16.length l1_16) (hc1_16 : l1_16.length≤c1_16) (h : rec_Same.f k a0_0 a0_1 a0_2 a0_3 a0_4 a0_5 a0_6 a0_7 a0_8 a0_9 a0_10 a0_11 a0_12 a0_13 a0_14 l0_15 l0_16 a1_0 a1_1 a1_2 a1_3 a1_4 a1_5 a1_6 a1_7 a1_8 a1_9 a1_10 a1_11 a1_12 a1_13 a1_14 l1_15 l1_16=some r) :
  Calls Try.prog 11 #[.agg #[.int .i64 a0_0,.int .i64 a0_1,.int .u64 a0_2,.int .u64 a0_3,.int .u32 a0_4,.int .i64 a0_5,.int .i64 a0_6,.string a0_7,.string a0_8,.int .i64 a0_9,.int .i64 a0_10,.string a0_11,.int .u32 a0_12,.int .i64 a0_13,.bool a0_14,.slice A0_15 l0_15.length c0_15,.slice A0_16 l0_16.length c0_16],.agg #[.int .i64 a1_0,.int .i64 a1_1,.int .u64 a1_2,.int .u64 a1_3,.int .u32 a1_4,.int .i64 a1_5,.int .i64 a1_6,.string a1_7,.string a1_8,.int .i64 a1_9,.int .i64 a1_10,.string a1_11,.int .u32 a1_12,.int .i64 a1_13,.bool a1_14,.slice A1_15 l1_15.length c1_15,.slice A1_16 l1_16.length c1_16]] w fun e w'=>e=.returned (.bool r)∧Below w.heap.size w w':=by
 have hu35:=Try.underlying35
 have hu27:=Try.underlying27
 have hu31:=Try.underlying31
 have HR0_15:=Aside0.mk hr0_15
 have HC0_15:=Aside0.mk hc0_15
 clear hr0_15 hc0_15
 have HR0_16:=Aside0.mk hr0_16
 have HC0_16:=Aside0.mk hc0_16
 clear hr0_16 hc0_16
 have HR1_15:=Aside0.mk hr1_15
 have HC1_15:=Aside0.mk hc1_15
 clear hr1_15 hc1_15
 have HR1_16:=Aside0.mk hr1_16
 have HC1_16:=Aside0.mk hc1_16
 clear hr1_16 hc1_16
 have HB:=Aside0.mk (Below.refl w.heap.size w)
 have H : ((api_TxState.f k l0_15 l1_15).bind fun t107=>(if t107=true then ((api_Dirty.f k l0_16 l1_16).bind fun t108=>(if t108=true then (if a0_0=a1_0 then (if a0_1=a1_1 then (if a0_2=a1_2 then (if a0_3=a1_3 then (if a0_4=a1_4 then (if (a0_5 == a1_5 && (a0_6 == a1_6 && (a0_7.toList == a1_7.toList && (a0_8.toList == a1_8.toList))))=true then (if a0_9=a1_9 then (if a0_10=a1_10 then (if (a0_11.toList == a1_11.toList && ((a0_12 == a1_12 && (a0_13 == a1_13))))=true then (some (a0_14 == a1_14)) else (some false)) else (some false)) else (some false)) else (some false)) else (some false)) else (some false)) else (some false)) else (some false)) else (some false)) else (some false))) else (some false)))=some r:=h
 clear h
 replace H:=Option.bind_eq_some_iff.mp H
 obtain ⟨t107,A30,H⟩:=H
 replace H : (if t107=true then ((api_Dirty.f k l0_16 l1_16).bind fun t108=>(if t108=true then (if a0_0=a1_0 then (if a0_1=a1_1 then (if a0_2=a1_2 then (if a0_3=a1_3 then (if a0_4=a1_4 then (if (a0_5 == a1_5 && (a0_6 == a1_6 && (a0_7.toList == a1_7.toList && (a0_8.toList == a1_8.toList))))=true then (if a0_9=a1_9 then (if a0_10=a1_10 then (if (a0_11.toList == a1_11.toList && ((a0_12 == a1_12 && (a0_13 == a1_13))))=true then (some (a0_14 == a1_14)) else (some false)) else (some false)) else (some false)) else (some false)) else (some false)) else (some false)) else (some false)) else (some false)) else (some false)) else (some false))) else (some false))=some r:=H
 have A3:=Aside0.mk A30
 clear A30
 by_cases c4 : t107=true
 ·subst c4
  have H1 : ((api_Dirty.f k l0_16 l1_16).bind fun t108=>(if t108=true then (if a0_0=a1_0 then (if a0_1=a1_1 then (if a0_2=a1_2 then (if a0_3=a1_3 then (if a0_4=a1_4 then (if (a0_5 == a1_5 && (a0_6 == a1_6 && (a0_7.toList == a1_7.toList && (a0_8.toList == a1_8.toList))))=true then (if a0_9=a1_9 then (if a0_10=a1_10 then (if (a0_11.toList == a1_11.toList && ((a0_12 == a1_12 && (a0_13 == a1_13))))=true then (some (a0_14 == a1_14)) else (some false)) else (some false)) else (some false)) else (some false)) else (some false)) else (some false)) else (some false)) else (some false)) else (some false)) else (some false)))=some r:=by rw [if_pos rfl] at H;exact H
  clear H
  have H:=H1
  clear H1
  replace H:=Option.bind_eq_some_iff.mp H
  obtain ⟨t108,A50,H⟩:=H
  replace H : (if t108=true then (if a0_0=a1_0 then (if a0_1=a1_1 then (if a0_2=a1_2 then (if a0_3=a1_3 then (if a0_4=a1_4 then (if (a0_5 == a1_5 && (a0_6 == a1_6 && (a0_7.toList == a1_7.toList && (a0_8.toList == a1_8.toList))))=true then (if a0_9=a1_9 then (if a0_10=a1_10 then (if (a0_11.toList == a1_11.toList && ((a0_12 == a1_12 && (a0_13 == a1_13))))=true then (some (a0_14 == a1_14)) else (some false)) else (some false)) else (some false)) else (some false)) else (some false)) else (some false)) else (some false)) else (some false)) else (some false)) else (some false))=some r:=H
  have A5:=Aside0.mk A50
  clear A50
  by_cases c6 : t108=true
  ·subst c6
   have H1 : (if a0_0=a1_0 then (if a0_1=a1_1 then (if a0_2=a1_2 then (if a0_3=a1_3 then (if a0_4=a1_4 then (if (a0_5 == a1_5 && (a0_6 == a1_6 && (a0_7.toList == a1_7.toList && (a0_8.toList == a1_8.toList))))=true then (if a0_9=a1_9 then (if a0_10=a1_10 then (if (a0_11.toList == a1_11.toList && ((a0_12 == a1_12 && (a0_13 == a1_13))))=true then (some (a0_14 == a1_14)) else (some false)) else (some false)) else (some false)) else (some false)) else (some false)) else (some false)) else (some false)) else (some false)) else (some false))=some r:=by rw [if_pos rfl] at H;exact H
   clear H
   have H:=H1
   clear H1
   by_cases c7 : a0_0=a1_0
   ·rw [if_pos c7] at H
    have c7b0 : (a0_0 == a1_0)=true:=beq_iff_eq.mpr c7
    have c7b1 : (a0_0 != a1_0)=false:=bne_eq_false_iff_eq.mpr c7
    clear c7
    by_cases c8 : a0_1=a1_1
    ·rw [if_pos c8] at H
     have c8b0 : (a0_1 == a1_1)=true:=beq_iff_eq.mpr c8
     have c8b1 : (a0_1 != a1_1)=false:=bne_eq_false_iff_eq.mpr c8
     clear c8
     by_cases c9 : a0_2=a1_2
     ·rw [if_pos c9] at H
      have c9b0 : (a0_2 == a1_2)=true:=beq_iff_eq.mpr c9
      have c9b1 : (a0_2 != a1_2)=false:=bne_eq_false_iff_eq.mpr c9
      clear c9
      by_cases c10 : a0_3=a1_3
      ·rw [if_pos c10] at H
       have c10b0 : (a0_3 == a1_3)=true:=beq_iff_eq.mpr c10
       have c10b1 : (a0_3 != a1_3)=false:=bne_eq_false_iff_eq.mpr c10
       clear c10
       by_cases c11 : a0_4=a1_4
       ·rw [if_pos c11] at H
        have c11b0 : (a0_4 == a1_4)=true:=beq_iff_eq.mpr c11
        have c11b1 : (a0_4 != a1_4)=false:=bne_eq_false_iff_eq.mpr c11
        clear c11
        by_cases c12 : (a0_5 == a1_5 && (a0_6 == a1_6 && (a0_7.toList == a1_7.toList && (a0_8.toList == a1_8.toList))))=true
        ·rw [if_pos c12] at H
         have c12b0 : (a0_5 == a1_5 && (a0_6 == a1_6 && (a0_7.toList == a1_7.toList && (a0_8.toList == a1_8.toList))))=true:=c12
         (try (have c12b1 : decide (a0_5=a1_5 && (a0_6 == a1_6 && (a0_7.toList == a1_7.toList && (a0_8.toList == a1_8.toList))))=true:=by simpa using c12))
         (try (have c12b2 : (a0_5 == a1_5 && (a0_6 == a1_6 && (a0_7.toList == a1_7.toList && (a0_8.toList == a1_8.toList))))=true:=by simpa using c12))
         clear c12
         by_cases c13 : a0_9=a1_9
         ·rw [if_pos c13] at H
          have c13b0 : (a0_9 == a1_9)=true:=beq_iff_eq.mpr c13
          have c13b1 : (a0_9 != a1_9)=false:=bne_eq_false_iff_eq.mpr c13
          clear c13
          by_cases c14 : a0_10=a1_10
          ·rw [if_pos c14] at H
           have c14b0 : (a0_10 == a1_10)=true:=beq_iff_eq.mpr c14
           have c14b1 : (a0_10 != a1_10)=false:=bne_eq_false_iff_eq.mpr c14
           clear c14
           by_cases c15 : (a0_11.toList == a1_11.toList && ((a0_12 == a1_12 && (a0_13 == a1_13))))=true
           ·rw [if_pos c15] at H
            have c15b0 : (a0_11.toList == a1_11.toList && ((a0_12 == a1_12 && (a0_13 == a1_13))))=true:=c15
            (try (have c15b1 : decide (a0_11.toList=a1_11.toList && ((a0_12 == a1_12 && (a0_13 == a1_13))))=true:=by simpa using c15))
            (try (have c15b2 : (a0_11.toList == a1_11.toList && ((a0_12 == a1_12 && (a0_13 == a1_13))))=true:=by simpa using c15))
            clear c15
            obtain rfl:=Option.some.inj H
            go_enter Try.func11,Try.ntmps11
            go_wp2_with (first|((with_reducible refine gate_dst (N:=2) rfl ?_);refine box_event ?hg (N:=2) ?hd (cs:=#[.int .i64 a0_0,.int .i64 a0_1,.int .u64 a0_2,.int .u64 a0_3,.int .u32 a0_4,.int .i64 a0_5,.int .i64 a0_6,.string a0_7,.string a0_8,.int .i64 a0_9,.int .i64 a0_10,.string a0_11,.int .u32 a0_12,.int .i64 a0_13,.bool a0_14,.slice A0_15 l0_15.length c0_15,.slice A0_16 l0_16.length c0_16]) (t:=35) ?hr ?_;(case hd=>rfl);(case hg=>rfl);(case hr=>first|(go_simp;done)|(go_simp;rfl));intro gb105 hg w16 hbox hb;have n0_:=Aside0.mk (below_step (by repeat (first|(with_reducible first|exact HB.out|apply below_alloc|apply pw_below_drewN|apply below_drew1)|exact HB.out)) hb);have n1_:=Aside0.mk (hbox);have n2_:=Aside0.mk ((by rw [hg];exact (below_size (by repeat (first|(with_reducible first|exact HB.out|apply below_alloc|apply pw_below_drewN|apply below_drew1)|exact HB.out))) : w.heap.size≤gb105));have n3_:=Aside0.mk ((by rw [hg];exact (below_size (by repeat (first|(with_reducible first|exact HB.out|apply below_alloc|apply pw_below_drewN|apply below_drew1)|exact HB.out))) : w.heap.size≤gb105));clear HB;have HB:=n0_;have BK105:=n1_;have GW105:=n2_;have GE105:=n3_;clear n0_ n1_ n2_ n3_;clear hb hbox hg)|((with_reducible refine gate_dst (N:=3) rfl ?_);refine box_event ?hg (N:=3) ?hd (cs:=#[.int .i64 a1_0,.int .i64 a1_1,.int .u64 a1_2,.int .u64 a1_3,.int .u32 a1_4,.int .i64 a1_5,.int .i64 a1_6,.string a1_7,.string a1_8,.int .i64 a1_9,.int .i64 a1_10,.string a1_11,.int .u32 a1_12,.int .i64 a1_13,.bool a1_14,.slice A1_15 l1_15.length c1_15,.slice A1_16 l1_16.length c1_16]) (t:=35) ?hr ?_;(case hd=>rfl);(case hg=>rfl);(case hr=>first|(go_simp;done)|(go_simp;rfl));intro gb106 hg w17 hbox hb;have n0_:=Aside0.mk (blk_below (g:=gb105) (o:=.cells #[.int .i64 a0_0,.int .i64 a0_1,.int .u64 a0_2,.int .u64 a0_3,.int .u32 a0_4,.int .i64 a0_5,.int .i64 a0_6,.string a0_7,.string a0_8,.int .i64 a0_9,.int .i64 a0_10,.string a0_11,.int .u32 a0_12,.int .i64 a0_13,.bool a0_14,.slice A0_15 l0_15.length c0_15,.slice A0_16 l0_16.length c0_16] 35 (0,0)) (by (with_reducible repeat (first|refine blk_drewN ?_ _|refine blk_drew ?_|refine blk_alloc ?_ _));exact BK105.out) hb);have n1_:=Aside0.mk (below_step (by repeat (first|(with_reducible first|exact HB.out|apply below_alloc|apply pw_below_drewN|apply below_drew1|refine below_set ?_ GE105.out)|exact HB.out)) hb);have n2_:=Aside0.mk (hbox);have n3_:=Aside0.mk ((by rw [hg];exact (below_size (by repeat (first|(with_reducible first|exact HB.out|apply below_alloc|apply pw_below_drewN|apply below_drew1|refine below_set ?_ GE105.out)|exact HB.out))) : w.heap.size≤gb106));have n4_:=Aside0.mk ((by rw [hg];exact (below_size (by repeat (first|(with_reducible first|exact HB.out|apply below_alloc|apply pw_below_drewN|apply below_drew1|refine below_set ?_ GE105.out)|exact HB.out))) : w.heap.size≤gb106));have n5_:=Aside0.mk ((by rw [hg];exact Nat.ne_of_lt (blk_lt (g:=gb105) (o:=.cells #[.int .i64 a0_0,.int .i64 a0_1,.int .u64 a0_2,.int .u64 a0_3,.int .u32 a0_4,.int .i64 a0_5,.int .i64 a0_6,.string a0_7,.string a0_8,.int .i64 a0_9,.int .i64 a0_10,.string a0_11,.int .u32 a0_12,.int .i64 a0_13,.bool a0_14,.slice A0_15 l0_15.length c0_15,.slice A0_16 l0_16.length c0_16] 35 (0,0)) (by (with_reducible repeat (first|refine blk_drewN ?_ _|refine blk_drew ?_|refine blk_alloc ?_ _));exact BK105.out)) : gb105≠gb106));have n6_:=Aside0.mk ((by rw [hg];exact Nat.ne_of_gt (blk_lt (g:=gb105) (o:=.cells #[.int .i64 a0_0,.int .i64 a0_1,.int .u64 a0_2,.int .u64 a0_3,.int .u32 a0_4,.int .i64 a0_5,.int .i64 a0_6,.string a0_7,.string a0_8,.int .i64 a0_9,.int .i64 a0_10,.string a0_11,.int .u32 a0_12,.int .i64 a0_13,.bool a0_14,.slice A0_15 l0_15.length c0_15,.slice A0_16 l0_16.length c0_16] 35 (0,0)) (by (with_reducible repeat (first|refine blk_drewN ?_ _|refine blk_drew ?_|refine blk_alloc ?_ _));exact BK105.out)) : gb106≠gb105));clear BK105;clear HB;have BK105:=n0_;have HB:=n1_;have BK106:=n2_;have GW106:=n3_;have GE106:=n4_;have NB105_106:=n5_;have NB106_105:=n6_;clear n0_ n1_ n2_ n3_ n4_ n5_ n6_;clear hb hbox hg;have hnb18:=NB105_106.out;have hnc18:=NB106_105.out;have hcz19_0 : w17.cell? ⟨gb105,0,none⟩=some (.int .i64 a0_0):=(blk_cell BK105.out 0).trans rfl;have hcz19_1 : w17.cell? ⟨gb105,1,none⟩=some (.int .i64 a0_1):=(blk_cell BK105.out 1).trans rfl;have hcz19_2 : w17.cell? ⟨gb105,2,none⟩=some (.int .u64 a0_2):=(blk_cell BK105.out 2).trans rfl;have hcz19_3 : w17.cell? ⟨gb105,3,none⟩=some (.int .u64 a0_3):=(blk_cell BK105.out 3).trans rfl;have hcz19_4 : w17.cell? ⟨gb105,4,none⟩=some (.int .u32 a0_4):=(blk_cell BK105.out 4).trans rfl;have hcz19_5 : w17.cell? ⟨gb105,5,none⟩=some (.int .i64 a0_5):=(blk_cell BK105.out 5).trans rfl;have hcz19_6 : w17.cell? ⟨gb105,6,none⟩=some (.int .i64 a0_6):=(blk_cell BK105.out 6).trans rfl;have hcz19_7 : w17.cell? ⟨gb105,7,none⟩=some (.string a0_7):=(blk_cell BK105.out 7).trans rfl;have hcz19_8 : w17.cell? ⟨gb105,8,none⟩=some (.string a0_8):=(blk_cell BK105.out 8).trans rfl;have hcz19_9 : w17.cell? ⟨gb105,9,none⟩=some (.int .i64 a0_9):=(blk_cell BK105.out 9).trans rfl;have hcz19_10 : w17.cell? ⟨gb105,10,none⟩=some (.int .i64 a0_10):=(blk_cell BK105.out 10).trans rfl;have hcz19_11 : w17.cell? ⟨gb105,11,none⟩=some (.string a0_11):=(blk_cell BK105.out 11).trans rfl;have hcz19_12 : w17.cell? ⟨gb105,12,none⟩=some (.int .u32 a0_12):=(blk_cell BK105.out 12).trans rfl;have hcz19_13 : w17.cell? ⟨gb105,13,none⟩=some (.int .i64 a0_13):=(blk_cell BK105.out 13).trans rfl;have hcz19_14 : w17.cell? ⟨gb105,14,none⟩=some (.bool a0_14):=(blk_cell BK105.out 14).trans rfl;have hcz19_15 : w17.cell? ⟨gb105,15,none⟩=some (.slice A0_15 l0_15.length c0_15):=(blk_cell BK105.out 15).trans rfl;have hcz19_16 : w17.cell? ⟨gb105,16,none⟩=some (.slice A0_16 l0_16.length c0_16):=(blk_cell BK105.out 16).trans rfl;have hfz19_0:=blk_frozen BK105.out 0;have hfz19_1:=blk_frozen BK105.out 1;have hfz19_2:=blk_frozen BK105.out 2;have hfz19_3:=blk_frozen BK105.out 3;have hfz19_4:=blk_frozen BK105.out 4;have hfz19_5:=blk_frozen BK105.out 5;have hfz19_6:=blk_frozen BK105.out 6;have hfz19_7:=blk_frozen BK105.out 7;have hfz19_8:=blk_frozen BK105.out 8;have hfz19_9:=blk_frozen BK105.out 9;have hfz19_10:=blk_frozen BK105.out 10;have hfz19_11:=blk_frozen BK105.out 11;have hfz19_12:=blk_frozen BK105.out 12;have hfz19_13:=blk_frozen BK105.out 13;have hfz19_14:=blk_frozen BK105.out 14;have hfz19_15:=blk_frozen BK105.out 15;have hfz19_16:=blk_frozen BK105.out 16;have hcz20_0 : w17.cell? ⟨gb106,0,none⟩=some (.int .i64 a1_0):=(blk_cell BK106.out 0).trans rfl;have hcz20_1 : w17.cell? ⟨gb106,1,none⟩=some (.int .i64 a1_1):=(blk_cell BK106.out 1).trans rfl;have hcz20_2 : w17.cell? ⟨gb106,2,none⟩=some (.int .u64 a1_2):=(blk_cell BK106.out 2).trans rfl;have hcz20_3 : w17.cell? ⟨gb106,3,none⟩=some (.int .u64 a1_3):=(blk_cell BK106.out 3).trans rfl;have hcz20_4 : w17.cell? ⟨gb106,4,none⟩=some (.int .u32 a1_4):=(blk_cell BK106.out 4).trans rfl;have hcz20_5 : w17.cell? ⟨gb106,5,none⟩=some (.int .i64 a1_5):=(blk_cell BK106.out 5).trans rfl;have hcz20_6 : w17.cell? ⟨gb106,6,none⟩=some (.int .i64 a1_6):=(blk_cell BK106.out 6).trans rfl;have hcz20_7 : w17.cell? ⟨gb106,7,none⟩=some (.string a1_7):=(blk_cell BK106.out 7).trans rfl;have hcz20_8 : w17.cell? ⟨gb106,8,none⟩=some (.string a1_8):=(blk_cell BK106.out 8).trans rfl;have hcz20_9 : w17.cell? ⟨gb106,9,none⟩=some (.int .i64 a1_9):=(blk_cell BK106.out 9).trans rfl;have hcz20_10 : w17.cell? ⟨gb106,10,none⟩=some (.int .i64 a1_10):=(blk_cell BK106.out 10).trans rfl;have hcz20_11 : w17.cell? ⟨gb106,11,none⟩=some (.string a1_11):=(blk_cell BK106.out 11).trans rfl;have hcz20_12 : w17.cell? ⟨gb106,12,none⟩=some (.int .u32 a1_12):=(blk_cell BK106.out 12).trans rfl;have hcz20_13 : w17.cell? ⟨gb106,13,none⟩=some (.int .i64 a1_13):=(blk_cell BK106.out 13).trans rfl;have hcz20_14 : w17.cell? ⟨gb106,14,none⟩=some (.bool a1_14):=(blk_cell BK106.out 14).trans rfl;have hcz20_15 : w17.cell? ⟨gb106,15,none⟩=some (.slice A1_15 l1_15.length c1_15):=(blk_cell BK106.out 15).trans rfl;have hcz20_16 : w17.cell? ⟨gb106,16,none⟩=some (.slice A1_16 l1_16.length c1_16):=(blk_cell BK106.out 16).trans rfl;have hfz20_0:=blk_frozen BK106.out 0;have hfz20_1:=blk_frozen BK106.out 1;have hfz20_2:=blk_frozen BK106.out 2;have hfz20_3:=blk_frozen BK106.out 3;have hfz20_4:=blk_frozen BK106.out 4;have hfz20_5:=blk_frozen BK106.out 5;have hfz20_6:=blk_frozen BK106.out 6;have hfz20_7:=blk_frozen BK106.out 7;have hfz20_8:=blk_frozen BK106.out 8;have hfz20_9:=blk_frozen BK106.out 9;have hfz20_10:=blk_frozen BK106.out 10;have hfz20_11:=blk_frozen BK106.out 11;have hfz20_12:=blk_frozen BK106.out 12;have hfz20_13:=blk_frozen BK106.out 13;have hfz20_14:=blk_frozen BK106.out 14;have hfz20_15:=blk_frozen BK106.out 15;have hfz20_16:=blk_frozen BK106.out 16)|((with_reducible refine gate_callee (f:=30) rfl ?_);refine goesL_ (some 9) rfl rfl Try.func30 (by kernel_rfl) rfl #[.slice A0_15 l0_15.length c0_15,.slice A1_15 l1_15.length c1_15] rfl (by (try simp only [List.map_toArray,List.map_cons,List.map_nil]);first|done|rfl|(simp only [List.length_drop,List.length_take];rfl)) ?_;(with_reducible refine (api_TxState.calls k _ _ l0_15 _ _ l1_15 true _ ?side1 ?side2 ?side3 ?side4 A3.out).mono ?_);(case side1=>repeat (first|exact (Kd.C_below HR0_15.out HB.out)|(with_reducible refine Kd.C_alloc ?_ _)|(with_reducible refine Kd.C_drewN ?_ _)|(with_reducible refine Kd.C_drew ?_)));(case side2=>exact HC0_15.out);(case side3=>repeat (first|exact (Kd.C_below HR1_15.out HB.out)|(with_reducible refine Kd.C_alloc ?_ _)|(with_reducible refine Kd.C_drewN ?_ _)|(with_reducible refine Kd.C_drew ?_)));(case side4=>exact HC1_15.out);rintro e w' ⟨rfl,⟨nd,rfl⟩⟩;refine ⟨_,rfl,?_⟩)|(go_at_call 31;(with_reducible refine (api_Dirty.calls k _ _ l0_16 _ _ l1_16 true _ ?side1 ?side2 ?side3 ?side4 A5.out).mono ?_);(case side1=>repeat (first|exact (Kd.C_below HR0_16.out (by repeat (first|(with_reducible first|exact HB.out|apply below_alloc|apply pw_below_drewN|apply below_drew1|refine below_set ?_ GE105.out|refine below_set ?_ GE106.out)|exact HB.out)))|(with_reducible refine Kd.C_alloc ?_ _)|(with_reducible refine Kd.C_drewN ?_ _)|(with_reducible refine Kd.C_drew ?_)));(case side2=>exact HC0_16.out);(case side3=>repeat (first|exact (Kd.C_below HR1_16.out (by repeat (first|(with_reducible first|exact HB.out|apply below_alloc|apply pw_below_drewN|apply below_drew1|refine below_set ?_ GE105.out|refine below_set ?_ GE106.out)|exact HB.out)))|(with_reducible refine Kd.C_alloc ?_ _)|(with_reducible refine Kd.C_drewN ?_ _)|(with_reducible refine Kd.C_drew ?_)));(case side4=>exact HC1_16.out);rintro e w' ⟨rfl,⟨nd,rfl⟩⟩))
            go_ret
            exact ⟨by first|rfl|(simp [errW_none,errW_some] <;> rfl)|(simp [*,errW_none,errW_some] <;> rfl),by repeat (first|(with_reducible first|exact HB.out|apply below_alloc|apply pw_below_drewN|apply below_drew1|refine below_set ?_ GE105.out|refine below_set ?_ GE106.out)|exact HB.out)⟩
           ·rw [if_neg c15] at H
            have c15b0 : (a0_11.toList == a1_11.toList && ((a0_12 == a1_12 && (a0_13 == a1_13))))=false:=by simpa using c15
            (try (have c15b1 : decide (a0_11.toList=a1_11.toList && ((a0_12 == a1_12 && (a0_13 == a1_13))))=false:=by simpa using c15))
            (try (have c15b2 : (a0_11.toList == a1_11.toList && ((a0_12 == a1_12 && (a0_13 == a1_13))))=false:=by simpa using c15))
            (try (have c15b3 : ¬ (a0_11.toList=a1_11.toList && ((a0_12 == a1_12 && (a0_13 == a1_13)))):=by simpa using c15))
            clear c15
            obtain rfl:=Option.some.inj H
            go_enter Try.func11,Try.ntmps11
            go_wp2_with (first|((with_reducible refine gate_dst (N:=2) rfl ?_);refine box_event ?hg (N:=2) ?hd (cs:=#[.int .i64 a0_0,.int .i64 a0_1,.int .u64 a0_2,.int .u64 a0_3,.int .u32 a0_4,.int .i64 a0_5,.int .i64 a0_6,.string a0_7,.string a0_8,.int .i64 a0_9,.int .i64 a0_10,.string a0_11,.int .u32 a0_12,.int .i64 a0_13,.bool a0_14,.slice A0_15 l0_15.length c0_15,.slice A0_16 l0_16.length c0_16]) (t:=35) ?hr ?_;(case hd=>rfl);(case hg=>rfl);(case hr=>first|(go_simp;done)|(go_simp;rfl));intro gb105 hg w21 hbox hb;have n0_:=Aside0.mk (below_step (by repeat (first|(with_reducible first|exact HB.out|apply below_alloc|apply pw_below_drewN|apply below_drew1)|exact HB.out)) hb);have n1_:=Aside0.mk (hbox);have n2_:=Aside0.mk ((by rw [hg];exact (below_size (by repeat (first|(with_reducible first|exact HB.out|apply below_alloc|apply pw_below_drewN|apply below_drew1)|exact HB.out))) : w.heap.size≤gb105));have n3_:=Aside0.mk ((by rw [hg];exact (below_size (by repeat (first|(with_reducible first|exact HB.out|apply below_alloc|apply pw_below_drewN|apply below_drew1)|exact HB.out))) : w.heap.size≤gb105));clear HB;have HB:=n0_;have BK105:=n1_;have GW105:=n2_;have GE105:=n3_;clear n0_ n1_ n2_ n3_;clear hb hbox hg)|((with_reducible refine gate_dst (N:=3) rfl ?_);refine box_event ?hg (N:=3) ?hd (cs:=#[.int .i64 a1_0,.int .i64 a1_1,.int .u64 a1_2,.int .u64 a1_3,.int .u32 a1_4,.int .i64 a1_5,.int .i64 a1_6,.string a1_7,.string a1_8,.int .i64 a1_9,.int .i64 a1_10,.string a1_11,.int .u32 a1_12,.int .i64 a1_13,.bool a1_14,.slice A1_15 l1_15.length c1_15,.slice A1_16 l1_16.length c1_16]) (t:=35) ?hr ?_;(case hd=>rfl);(case hg=>rfl);(case hr=>first|(go_simp;done)|(go_simp;rfl));intro gb106 hg w22 hbox hb;have n0_:=Aside0.mk (blk_below (g:=gb105) (o:=.cells #[.int .i64 a0_0,.int .i64 a0_1,.int .u64 a0_2,.int .u64 a0_3,.int .u32 a0_4,.int .i64 a0_5,.int .i64 a0_6,.string a0_7,.string a0_8,.int .i64 a0_9,.int .i64 a0_10,.string a0_11,.int .u32 a0_12,.int .i64 a0_13,.bool a0_14,.slice A0_15 l0_15.length c0_15,.slice A0_16 l0_16.length c0_16] 35 (0,0)) (by (with_reducible repeat (first|refine blk_drewN ?_ _|refine blk_drew ?_|refine blk_alloc ?_ _));exact BK105.out) hb);have n1_:=Aside0.mk (below_step (by repeat (first|(with_reducible first|exact HB.out|apply below_alloc|apply pw_below_drewN|apply below_drew1|refine below_set ?_ GE105.out)|exact HB.out)) hb);have n2_:=Aside0.mk (hbox);have n3_:=Aside0.mk ((by rw [hg];exact (below_size (by repeat (first|(with_reducible first|exact HB.out|apply below_alloc|apply pw_below_drewN|apply below_drew1|refine below_set ?_ GE105.out)|exact HB.out))) : w.heap.size≤gb106));have n4_:=Aside0.mk ((by rw [hg];exact (below_size (by repeat (first|(with_reducible first|exact HB.out|apply below_alloc|apply pw_below_drewN|apply below_drew1|refine below_set ?_ GE105.out)|exact HB.out))) : w.heap.size≤gb106));have n5_:=Aside0.mk ((by rw [hg];exact Nat.ne_of_lt (blk_lt (g:=gb105) (o:=.cells #[.int .i64 a0_0,.int .i64 a0_1,.int .u64 a0_2,.int .u64 a0_3,.int .u32 a0_4,.int .i64 a0_5,.int .i64 a0_6,.string a0_7,.string a0_8,.int .i64 a0_9,.int .i64 a0_10,.string a0_11,.int .u32 a0_12,.int .i64 a0_13,.bool a0_14,.slice A0_15 l0_15.length c0_15,.slice A0_16 l0_16.length c0_16] 35 (0,0)) (by (with_reducible repeat (first|refine blk_drewN ?_ _|refine blk_drew ?_|refine blk_alloc ?_ _));exact BK105.out)) : gb105≠gb106));have n6_:=Aside0.mk ((by rw [hg];exact Nat.ne_of_gt (blk_lt (g:=gb105) (o:=.cells #[.int .i64 a0_0,.int .i64 a0_1,.int .u64 a0_2,.int .u64 a0_3,.int .u32 a0_4,.int .i64 a0_5,.int .i64 a0_6,.string a0_7,.string a0_8,.int .i64 a0_9,.int .i64 a0_10,.string a0_11,.int .u32 a0_12,.int .i64 a0_13,.bool a0_14,.slice A0_15 l0_15.length c0_15,.slice A0_16 l0_16.length c0_16] 35 (0,0)) (by (with_reducible repeat (first|refine blk_drewN ?_ _|refine blk_drew ?_|refine blk_alloc ?_ _));exact BK105.out)) : gb106≠gb105));clear BK105;clear HB;have BK105:=n0_;have HB:=n1_;have BK106:=n2_;have GW106:=n3_;have GE106:=n4_;have NB105_106:=n5_;have NB106_105:=n6_;clear n0_ n1_ n2_ n3_ n4_ n5_ n6_;clear hb hbox hg;have hnb23:=NB105_106.out;have hnc23:=NB106_105.out;have hcz24_0 : w22.cell? ⟨gb105,0,none⟩=some (.int .i64 a0_0):=(blk_cell BK105.out 0).trans rfl;have hcz24_1 : w22.cell? ⟨gb105,1,none⟩=some (.int .i64 a0_1):=(blk_cell BK105.out 1).trans rfl;have hcz24_2 : w22.cell? ⟨gb105,2,none⟩=some (.int .u64 a0_2):=(blk_cell BK105.out 2).trans rfl;have hcz24_3 : w22.cell? ⟨gb105,3,none⟩=some (.int .u64 a0_3):=(blk_cell BK105.out 3).trans rfl;have hcz24_4 : w22.cell? ⟨gb105,4,none⟩=some (.int .u32 a0_4):=(blk_cell BK105.out 4).trans rfl;have hcz24_5 : w22.cell? ⟨gb105,5,none⟩=some (.int .i64 a0_5):=(blk_cell BK105.out 5).trans rfl;have hcz24_6 : w22.cell? ⟨gb105,6,none⟩=some (.int .i64 a0_6):=(blk_cell BK105.out 6).trans rfl;have hcz24_7 : w22.cell? ⟨gb105,7,none⟩=some (.string a0_7):=(blk_cell BK105.out 7).trans rfl;have hcz24_8 : w22.cell? ⟨gb105,8,none⟩=some (.string a0_8):=(blk_cell BK105.out 8).trans rfl;have hcz24_9 : w22.cell? ⟨gb105,9,none⟩=some (.int .i64 a0_9):=(blk_cell BK105.out 9).trans rfl;have hcz24_10 : w22.cell? ⟨gb105,10,none⟩=some (.int .i64 a0_10):=(blk_cell BK105.out 10).trans rfl;have hcz24_11 : w22.cell? ⟨gb105,11,none⟩=some (.string a0_11):=(blk_cell BK105.out 11).trans rfl;have hcz24_12 : w22.cell? ⟨gb105,12,none⟩=some (.int .u32 a0_12):=(blk_cell BK105.out 12).trans rfl;have hcz24_13 : w22.cell? ⟨gb105,13,none⟩=some (.int .i64 a0_13):=(blk_cell BK105.out 13).trans rfl;have hcz24_14 : w22.cell? ⟨gb105,14,none⟩=some (.bool a0_14):=(blk_cell BK105.out 14).trans rfl;have hcz24_15 : w22.cell? ⟨gb105,15,none⟩=some (.slice A0_15 l0_15.length c0_15):=(blk_cell BK105.out 15).trans rfl;have hcz24_16 : w22.cell? ⟨gb105,16,none⟩=some (.slice A0_16 l0_16.length c0_16):=(blk_cell BK105.out 16).trans rfl;have hfz24_0:=blk_frozen BK105.out 0;have hfz24_1:=blk_frozen BK105.out 1;have hfz24_2:=blk_frozen BK105.out 2;have hfz24_3:=blk_frozen BK105.out 3;have hfz24_4:=blk_frozen BK105.out 4;have hfz24_5:=blk_frozen BK105.out 5;have hfz24_6:=blk_frozen BK105.out 6;have hfz24_7:=blk_frozen BK105.out 7;have hfz24_8:=blk_frozen BK105.out 8;have hfz24_9:=blk_frozen BK105.out 9;have hfz24_10:=blk_frozen BK105.out 10;have hfz24_11:=blk_frozen BK105.out 11;have hfz24_12:=blk_frozen BK105.out 12;have hfz24_13:=blk_frozen BK105.out 13;have hfz24_14:=blk_frozen BK105.out 14;have hfz24_15:=blk_frozen BK105.out 15;have hfz24_16:=blk_frozen BK105.out 16;have hcz25_0 : w22.cell? ⟨gb106,0,none⟩=some (.int .i64 a1_0):=(blk_cell BK106.out 0).trans rfl;have hcz25_1 : w22.cell? ⟨gb106,1,none⟩=some (.int .i64 a1_1):=(blk_cell BK106.out 1).trans rfl;have hcz25_2 : w22.cell? ⟨gb106,2,none⟩=some (.int .u64 a1_2):=(blk_cell BK106.out 2).trans rfl;have hcz25_3 : w22.cell? ⟨gb106,3,none⟩=some (.int .u64 a1_3):=(blk_cell BK106.out 3).trans rfl;have hcz25_4 : w22.cell? ⟨gb106,4,none⟩=some (.int .u32 a1_4):=(blk_cell BK106.out 4).trans rfl;have hcz25_5 : w22.cell? ⟨gb106,5,none⟩=some (.int .i64 a1_5):=(blk_cell BK106.out 5).trans rfl;have hcz25_6 : w22.cell? ⟨gb106,6,none⟩=some (.int .i64 a1_6):=(blk_cell BK106.out 6).trans rfl;have hcz25_7 : w22.cell? ⟨gb106,7,none⟩=some (.string a1_7):=(blk_cell BK106.out 7).trans rfl;have hcz25_8 : w22.cell? ⟨gb106,8,none⟩=some (.string a1_8):=(blk_cell BK106.out 8).trans rfl;have hcz25_9 : w22.cell? ⟨gb106,9,none⟩=some (.int .i64 a1_9):=(blk_cell BK106.out 9).trans rfl;have hcz25_10 : w22.cell? ⟨gb106,10,none⟩=some (.int .i64 a1_10):=(blk_cell BK106.out 10).trans rfl;have hcz25_11 : w22.cell? ⟨gb106,11,none⟩=some (.string a1_11):=(blk_cell BK106.out 11).trans rfl;have hcz25_12 : w22.cell? ⟨gb106,12,none⟩=some (.int .u32 a1_12):=(blk_cell BK106.out 12).trans rfl;have hcz25_13 : w22.cell? ⟨gb106,13,none⟩=some (.int .i64 a1_13):=(blk_cell BK106.out 13).trans rfl;have hcz25_14 : w22.cell? ⟨gb106,14,none⟩=some (.bool a1_14):=(blk_cell BK106.out 14).trans rfl;have hcz25_15 : w22.cell? ⟨gb106,15,none⟩=some (.slice A1_15 l1_15.length c1_15):=(blk_cell BK106.out 15).trans rfl;have hcz25_16 : w22.cell? ⟨gb106,16,none⟩=some (.slice A1_16 l1_16.length c1_16):=(blk_cell BK106.out 16).trans rfl;have hfz25_0:=blk_frozen BK106.out 0;have hfz25_1:=blk_frozen BK106.out 1;have hfz25_2:=blk_frozen BK106.out 2;have hfz25_3:=blk_frozen BK106.out 3;have hfz25_4:=blk_frozen BK106.out 4;have hfz25_5:=blk_frozen BK106.out 5;have hfz25_6:=blk_frozen BK106.out 6;have hfz25_7:=blk_frozen BK106.out 7;have hfz25_8:=blk_frozen BK106.out 8;have hfz25_9:=blk_frozen BK106.out 9;have hfz25_10:=blk_frozen BK106.out 10;have hfz25_11:=blk_frozen BK106.out 11;have hfz25_12:=blk_frozen BK106.out 12;have hfz25_13:=blk_frozen BK106.out 13;have hfz25_14:=blk_frozen BK106.out 14;have hfz25_15:=blk_frozen BK106.out 15;have hfz25_16:=blk_frozen BK106.out 16)|((with_reducible refine gate_callee (f:=30) rfl ?_);refine goesL_ (some 9) rfl rfl Try.func30 (by kernel_rfl) rfl #[.slice A0_15 l0_15.length c0_15,.slice A1_15 l1_15.length c1_15] rfl (by (try simp only [List.map_toArray,List.map_cons,List.map_nil]);first|done|rfl|(simp only [List.length_drop,List.length_take];rfl)) ?_;(with_reducible refine (api_TxState.calls k _ _ l0_15 _ _ l1_15 true _ ?side1 ?side2 ?side3 ?side4 A3.out).mono ?_);(case side1=>repeat (first|exact (Kd.C_below HR0_15.out HB.out)|(with_reducible refine Kd.C_alloc ?_ _)|(with_reducible refine Kd.C_drewN ?_ _)|(with_reducible refine Kd.C_drew ?_)));(case side2=>exact HC0_15.out);(case side3=>repeat (first|exact (Kd.C_below HR1_15.out HB.out)|(with_reducible refine Kd.C_alloc ?_ _)|(with_reducible refine Kd.C_drewN ?_ _)|(with_reducible refine Kd.C_drew ?_)));(case side4=>exact HC1_15.out);rintro e w' ⟨rfl,⟨nd,rfl⟩⟩;refine ⟨_,rfl,?_⟩)|(go_at_call 31;(with_reducible refine (api_Dirty.calls k _ _ l0_16 _ _ l1_16 true _ ?side1 ?side2 ?side3 ?side4 A5.out).mono ?_);(case side1=>repeat (first|exact (Kd.C_below HR0_16.out (by repeat (first|(with_reducible first|exact HB.out|apply below_alloc|apply pw_below_drewN|apply below_drew1|refine below_set ?_ GE105.out|refine below_set ?_ GE106.out)|exact HB.out)))|(with_reducible refine Kd.C_alloc ?_ _)|(with_reducible refine Kd.C_drewN ?_ _)|(with_reducible refine Kd.C_drew ?_)));(case side2=>exact HC0_16.out);(case side3=>repeat (first|exact (Kd.C_below HR1_16.out (by repeat (first|(with_reducible first|exact HB.out|apply below_alloc|apply pw_below_drewN|apply below_drew1|refine below_set ?_ GE105.out|refine below_set ?_ GE106.out)|exact HB.out)))|(with_reducible refine Kd.C_alloc ?_ _)|(with_reducible refine Kd.C_drewN ?_ _)|(with_reducible refine Kd.C_drew ?_)));(case side4=>exact HC1_16.out);rintro e w' ⟨rfl,⟨nd,rfl⟩⟩))
            go_ret
            exact ⟨by first|rfl|(simp [errW_none,errW_some] <;> rfl)|(simp [*,errW_none,errW_some] <;> rfl),by repeat (first|(with_reducible first|exact HB.out|apply below_alloc|apply pw_below_drewN|apply below_drew1|refine below_set ?_ GE105.out|refine below_set ?_ GE106.out)|exact HB.out)⟩
          ·rw [if_neg c14] at H
           have c14b0 : (a0_10 == a1_10)=false:=beq_eq_false_iff_ne.mpr c14
           have c14b1 : (a0_10 != a1_10)=true:=bne_iff_ne.mpr c14
           obtain rfl:=Option.some.inj H
           go_enter Try.func11,Try.ntmps11
           go_wp2_with (first|((with_reducible refine gate_dst (N:=2) rfl ?_);refine box_event ?hg (N:=2) ?hd (cs:=#[.int .i64 a0_0,.int .i64 a0_1,.int .u64 a0_2,.int .u64 a0_3,.int .u32 a0_4,.int .i64 a0_5,.int .i64 a0_6,.string a0_7,.string a0_8,.int .i64 a0_9,.int .i64 a0_10,.string a0_11,.int .u32 a0_12,.int .i64 a0_13,.bool a0_14,.slice A0_15 l0_15.length c0_15,.slice A0_16 l0_16.length c0_16]) (t:=35) ?hr ?_;(case hd=>rfl);(case hg=>rfl);(case hr=>first|(go_simp;done)|(go_simp;rfl));intro gb105 hg w26 hbox hb;have n0_:=Aside0.mk (below_step (by repeat (first|(with_reducible first|exact HB.out|apply below_alloc|apply pw_below_drewN|apply below_drew1)|exact HB.out)) hb);have n1_:=Aside0.mk (hbox);have n2_:=Aside0.mk ((by rw [hg];exact (below_size (by repeat (first|(with_reducible first|exact HB.out|apply below_alloc|apply pw_below_drewN|apply below_drew1)|exact HB.out))) : w.heap.size≤gb105));have n3_:=Aside0.mk ((by rw [hg];exact (below_size (by repeat (first|(with_reducible first|exact HB.out|apply below_alloc|apply pw_below_drewN|apply below_drew1)|exact HB.out))) : w.heap.size≤gb105));clear HB;have HB:=n0_;have BK105:=n1_;have GW105:=n2_;have GE105:=n3_;clear n0_ n1_ n2_ n3_;clear hb hbox hg)|((with_reducible refine gate_dst (N:=3) rfl ?_);refine box_event ?hg (N:=3) ?hd (cs:=#[.int .i64 a1_0,.int .i64 a1_1,.int .u64 a1_2,.int .u64 a1_3,.int .u32 a1_4,.int .i64 a1_5,.int .i64 a1_6,.string a1_7,.string a1_8,.int .i64 a1_9,.int .i64 a1_10,.string a1_11,.int .u32 a1_12,.int .i64 a1_13,.bool a1_14,.slice A1_15 l1_15.length c1_15,.slice A1_16 l1_16.length c1_16]) (t:=35) ?hr ?_;(case hd=>rfl);(case hg=>rfl);(case hr=>first|(go_simp;done)|(go_simp;rfl));intro gb106 hg w27 hbox hb;have n0_:=Aside0.mk (blk_below (g:=gb105) (o:=.cells #[.int .i64 a0_0,.int .i64 a0_1,.int .u64 a0_2,.int .u64 a0_3,.int .u32 a0_4,.int .i64 a0_5,.int .i64 a0_6,.string a0_7,.string a0_8,.int .i64 a0_9,.int .i64 a0_10,.string a0_11,.int .u32 a0_12,.int .i64 a0_13,.bool a0_14,.slice A0_15 l0_15.length c0_15,.slice A0_16 l0_16.length c0_16] 35 (0,0)) (by (with_reducible repeat (first|refine blk_drewN ?_ _|refine blk_drew ?_|refine blk_alloc ?_ _));exact BK105.out) hb);have n1_:=Aside0.mk (below_step (by repeat (first|(with_reducible first|exact HB.out|apply below_alloc|apply pw_below_drewN|apply below_drew1|refine below_set ?_ GE105.out)|exact HB.out)) hb);have n2_:=Aside0.mk (hbox);have n3_:=Aside0.mk ((by rw [hg];exact (below_size (by repeat (first|(with_reducible first|exact HB.out|apply below_alloc|apply pw_below_drewN|apply below_drew1|refine below_set ?_ GE105.out)|exact HB.out))) : w.heap.size≤gb106));have n4_:=Aside0.mk ((by rw [hg];exact (below_size (by repeat (first|(with_reducible first|exact HB.out|apply below_alloc|apply pw_below_drewN|apply below_drew1|refine below_set ?_ GE105.out)|exact HB.out))) : w.heap.size≤gb106));have n5_:=Aside0.mk ((by rw [hg];exact Nat.ne_of_lt (blk_lt (g:=gb105) (o:=.cells #[.int .i64 a0_0,.int .i64 a0_1,.int .u64 a0_2,.int .u64 a0_3,.int .u32 a0_4,.int .i64 a0_5,.int .i64 a0_6,.string a0_7,.string a0_8,.int .i64 a0_9,.int .i64 a0_10,.string a0_11,.int .u32 a0_12,.int .i64 a0_13,.bool a0_14,.slice A0_15 l0_15.length c0_15,.slice A0_16 l0_16.length c0_16] 35 (0,0)) (by (with_reducible repeat (first|refine blk_drewN ?_ _|refine blk_drew ?_|refine blk_alloc ?_ _));exact BK105.out)) : gb105≠gb106));have n6_:=Aside0.mk ((by rw [hg];exact Nat.ne_of_gt (blk_lt (g:=gb105) (o:=.cells #[.int .i64 a0_0,.int .i64 a0_1,.int .u64 a0_2,.int .u64 a0_3,.int .u32 a0_4,.int .i64 a0_5,.int .i64 a0_6,.string a0_7,.string a0_8,.int .i64 a0_9,.int .i64 a0_10,.string a0_11,.int .u32 a0_12,.int .i64 a0_13,.bool a0_14,.slice A0_15 l0_15.length c0_15,.slice A0_16 l0_16.length c0_16] 35 (0,0)) (by (with_reducible repeat (first|refine blk_drewN ?_ _|refine blk_drew ?_|refine blk_alloc ?_ _));exact BK105.out)) : gb106≠gb105));clear BK105;clear HB;have BK105:=n0_;have HB:=n1_;have BK106:=n2_;have GW106:=n3_;have GE106:=n4_;have NB105_106:=n5_;have NB106_105:=n6_;clear n0_ n1_ n2_ n3_ n4_ n5_ n6_;clear hb hbox hg;have hnb28:=NB105_106.out;have hnc28:=NB106_105.out;have hcz29_0 : w27.cell? ⟨gb105,0,none⟩=some (.int .i64 a0_0):=(blk_cell BK105.out 0).trans rfl;have hcz29_1 : w27.cell? ⟨gb105,1,none⟩=some (.int .i64 a0_1):=(blk_cell BK105.out 1).trans rfl;have hcz29_2 : w27.cell? ⟨gb105,2,none⟩=some (.int .u64 a0_2):=(blk_cell BK105.out 2).trans rfl;have hcz29_3 : w27.cell? ⟨gb105,3,none⟩=some (.int .u64 a0_3):=(blk_cell BK105.out 3).trans rfl;have hcz29_4 : w27.cell? ⟨gb105,4,none⟩=some (.int .u32 a0_4):=(blk_cell BK105.out 4).trans rfl;have hcz29_5 : w27.cell? ⟨gb105,5,none⟩=some (.int .i64 a0_5):=(blk_cell BK105.out 5).trans rfl;have hcz29_6 : w27.cell? ⟨gb105,6,none⟩=some (.int .i64 a0_6):=(blk_cell BK105.out 6).trans rfl;have hcz29_7 : w27.cell? ⟨gb105,7,none⟩=some (.string a0_7):=(blk_cell BK105.out 7).trans rfl;have hcz29_8 : w27.cell? ⟨gb105,8,none⟩=some (.string a0_8):=(blk_cell BK105.out 8).trans rfl;have hcz29_9 : w27.cell? ⟨gb105,9,none⟩=some (.int .i64 a0_9):=(blk_cell BK105.out 9).trans rfl;have hcz29_10 : w27.cell? ⟨gb105,10,none⟩=some (.int .i64 a0_10):=(blk_cell BK105.out 10).trans rfl;have hcz29_11 : w27.cell? ⟨gb105,11,none⟩=some (.string a0_11):=(blk_cell BK105.out 11).trans rfl;have hcz29_12 : w27.cell? ⟨gb105,12,none⟩=some (.int .u32 a0_12):=(blk_cell BK105.out 12).trans rfl;have hcz29_13 : w27.cell? ⟨gb105,13,none⟩=some (.int .i64 a0_13):=(blk_cell BK105.out 13).trans rfl;have hcz29_14 : w27.cell? ⟨gb105,14,none⟩=some (.bool a0_14):=(blk_cell BK105.out 14).trans rfl;have hcz29_15 : w27.cell? ⟨gb105,15,none⟩=some (.slice A0_15 l0_15.length c0_15):=(blk_cell BK105.out 15).trans rfl;have hcz29_16 : w27.cell? ⟨gb105,16,none⟩=some (.slice A0_16 l0_16.length c0_16):=(blk_cell BK105.out 16).trans rfl;have hfz29_0:=blk_frozen BK105.out 0;have hfz29_1:=blk_frozen BK105.out 1;have hfz29_2:=blk_frozen BK105.out 2;have hfz29_3:=blk_frozen BK105.out 3;have hfz29_4:=blk_frozen BK105.out 4;have hfz29_5:=blk_frozen BK105.out 5;have hfz29_6:=blk_frozen BK105.out 6;have hfz29_7:=blk_frozen BK105.out 7;have hfz29_8:=blk_frozen BK105.out 8;have hfz29_9:=blk_frozen BK105.out 9;have hfz29_10:=blk_frozen BK105.out 10;have hfz29_11:=blk_frozen BK105.out 11;have hfz29_12:=blk_frozen BK105.out 12;have hfz29_13:=blk_frozen BK105.out 13;have hfz29_14:=blk_frozen BK105.out 14;have hfz29_15:=blk_frozen BK105.out 15;have hfz29_16:=blk_frozen BK105.out 16;have hcz30_0 : w27.cell? ⟨gb106,0,none⟩=some (.int .i64 a1_0):=(blk_cell BK106.out 0).trans rfl;have hcz30_1 : w27.cell? ⟨gb106,1,none⟩=some (.int .i64 a1_1):=(blk_cell BK106.out 1).trans rfl;have hcz30_2 : w27.cell? ⟨gb106,2,none⟩=some (.int .u64 a1_2):=(blk_cell BK106.out 2).trans rfl;have hcz30_3 : w27.cell? ⟨gb106,3,none⟩=some (.int .u64 a1_3):=(blk_cell BK106.out 3).trans rfl;have hcz30_4 : w27.cell? ⟨gb106,4,none⟩=some (.int .u32 a1_4):=(blk_cell BK106.out 4).trans rfl;have hcz30_5 : w27.cell? ⟨gb106,5,none⟩=some (.int .i64 a1_5):=(blk_cell BK106.out 5).trans rfl;have hcz30_6 : w27.cell? ⟨gb106,6,none⟩=some (.int .i64 a1_6):=(blk_cell BK106.out 6).trans rfl;have hcz30_7 : w27.cell? ⟨gb106,7,none⟩=some (.string a1_7):=(blk_cell BK106.out 7).trans rfl;have hcz30_8 : w27.cell? ⟨gb106,8,none⟩=some (.string a1_8):=(blk_cell BK106.out 8).trans rfl;have hcz30_9 : w27.cell? ⟨gb106,9,none⟩=some (.int .i64 a1_9):=(blk_cell BK106.out 9).trans rfl;have hcz30_10 : w27.cell? ⟨gb106,10,none⟩=some (.int .i64 a1_10):=(blk_cell BK106.out 10).trans rfl;have hcz30_11 : w27.cell? ⟨gb106,11,none⟩=some (.string a1_11):=(blk_cell BK106.out 11).trans rfl;have hcz30_12 : w27.cell? ⟨gb106,12,none⟩=some (.int .u32 a1_12):=(blk_cell BK106.out 12).trans rfl;have hcz30_13 : w27.cell? ⟨gb106,13,none⟩=some (.int .i64 a1_13):=(blk_cell BK106.out 13).trans rfl;have hcz30_14 : w27.cell? ⟨gb106,14,none⟩=some (.bool a1_14):=(blk_cell BK106.out 14).trans rfl;have hcz30_15 : w27.cell? ⟨gb106,15,none⟩=some (.slice A1_15 l1_15.length c1_15):=(blk_cell BK106.out 15).trans rfl;have hcz30_16 : w27.cell? ⟨gb106,16,none⟩=some (.slice A1_16 l1_16.length c1_16):=(blk_cell BK106.out 16).trans rfl;have hfz30_0:=blk_frozen BK106.out 0;have hfz30_1:=blk_frozen BK106.out 1;have hfz30_2:=blk_frozen BK106.out 2;have hfz30_3:=blk_frozen BK106.out 3;have hfz30_4:=blk_frozen BK106.out 4;have hfz30_5:=blk_frozen BK106.out 5;have hfz30_6:=blk_frozen BK106.out 6;have hfz30_7:=blk_frozen BK106.out 7;have hfz30_8:=blk_frozen BK106.out 8;have hfz30_9:=blk_frozen BK106.out 9;have hfz30_10:=blk_frozen BK106.out 10;have hfz30_11:=blk_frozen BK106.out 11;have hfz30_12:=blk_frozen BK106.out 12;have hfz30_13:=blk_frozen BK106.out 13;have hfz30_14:=blk_frozen BK106.out 14;have hfz30_15:=blk_frozen BK106.out 15;have hfz30_16:=blk_frozen BK106.out 16)|((with_reducible refine gate_callee (f:=30) rfl ?_);refine goesL_ (some 9) rfl rfl Try.func30 (by kernel_rfl) rfl #[.slice A0_15 l0_15.length c0_15,.slice A1_15 l1_15.length c1_15] rfl (by (try simp only [List.map_toArray,List.map_cons,List.map_nil]);first|done|rfl|(simp only [List.length_drop,List.length_take];rfl)) ?_;(with_reducible refine (api_TxState.calls k _ _ l0_15 _ _ l1_15 true _ ?side1 ?side2 ?side3 ?side4 A3.out).mono ?_);(case side1=>repeat (first|exact (Kd.C_below HR0_15.out HB.out)|(with_reducible refine Kd.C_alloc ?_ _)|(with_reducible refine Kd.C_drewN ?_ _)|(with_reducible refine Kd.C_drew ?_)));(case side2=>exact HC0_15.out);(case side3=>repeat (first|exact (Kd.C_below HR1_15.out HB.out)|(with_reducible refine Kd.C_alloc ?_ _)|(with_reducible refine Kd.C_drewN ?_ _)|(with_reducible refine Kd.C_drew ?_)));(case side4=>exact HC1_15.out);rintro e w' ⟨rfl,⟨nd,rfl⟩⟩;refine ⟨_,rfl,?_⟩)|(go_at_call 31;(with_reducible refine (api_Dirty.calls k _ _ l0_16 _ _ l1_16 true _ ?side1 ?side2 ?side3 ?side4 A5.out).mono ?_);(case side1=>repeat (first|exact (Kd.C_below HR0_16.out (by repeat (first|(with_reducible first|exact HB.out|apply below_alloc|apply pw_below_drewN|apply below_drew1|refine below_set ?_ GE105.out|refine below_set ?_ GE106.out)|exact HB.out)))|(with_reducible refine Kd.C_alloc ?_ _)|(with_reducible refine Kd.C_drewN ?_ _)|(with_reducible refine Kd.C_drew ?_)));(case side2=>exact HC0_16.out);(case side3=>repeat (first|exact (Kd.C_below HR1_16.out (by repeat (first|(with_reducible first|exact HB.out|apply below_alloc|apply pw_below_drewN|apply below_drew1|refine below_set ?_ GE105.out|refine below_set ?_ GE106.out)|exact HB.out)))|(with_reducible refine Kd.C_alloc ?_ _)|(with_reducible refine Kd.C_drewN ?_ _)|(with_reducible refine Kd.C_drew ?_)));(case side4=>exact HC1_16.out);rintro e w' ⟨rfl,⟨nd,rfl⟩⟩))
           go_ret
           exact ⟨by first|rfl|(simp [errW_none,errW_some] <;> rfl)|(simp [*,errW_none,errW_some] <;> rfl),by repeat (first|(with_reducible first|exact HB.out|apply below_alloc|apply pw_below_drewN|apply below_drew1|refine below_set ?_ GE105.out|refine below_set ?_ GE106.out)|exact HB.out)⟩
         ·rw [if_neg c13] at H
          have c13b0 : (a0_9 == a1_9)=false:=beq_eq_false_iff_ne.mpr c13
          have c13b1 : (a0_9 != a1_9)=true:=bne_iff_ne.mpr c13
          obtain rfl:=Option.some.inj H
          go_enter Try.func11,Try.ntmps11
          go_wp2_with (first|((with_reducible refine gate_dst (N:=2) rfl ?_);refine box_event ?hg (N:=2) ?hd (cs:=#[.int .i64 a0_0,.int .i64 a0_1,.int .u64 a0_2,.int .u64 a0_3,.int .u32 a0_4,.int .i64 a0_5,.int .i64 a0_6,.string a0_7,.string a0_8,.int .i64 a0_9,.int .i64 a0_10,.string a0_11,.int .u32 a0_12,.int .i64 a0_13,.bool a0_14,.slice A0_15 l0_15.length c0_15,.slice A0_16 l0_16.length c0_16]) (t:=35) ?hr ?_;(case hd=>rfl);(case hg=>rfl);(case hr=>first|(go_simp;done)|(go_simp;rfl));intro gb105 hg w31 hbox hb;have n0_:=Aside0.mk (below_step (by repeat (first|(with_reducible first|exact HB.out|apply below_alloc|apply pw_below_drewN|apply below_drew1)|exact HB.out)) hb);have n1_:=Aside0.mk (hbox);have n2_:=Aside0.mk ((by rw [hg];exact (below_size (by repeat (first|(with_reducible first|exact HB.out|apply below_alloc|apply pw_below_drewN|apply below_drew1)|exact HB.out))) : w.heap.size≤gb105));have n3_:=Aside0.mk ((by rw [hg];exact (below_size (by repeat (first|(with_reducible first|exact HB.out|apply below_alloc|apply pw_below_drewN|apply below_drew1)|exact HB.out))) : w.heap.size≤gb105));clear HB;have HB:=n0_;have BK105:=n1_;have GW105:=n2_;have GE105:=n3_;clear n0_ n1_ n2_ n3_;clear hb hbox hg)|((with_reducible refine gate_dst (N:=3) rfl ?_);refine box_event ?hg (N:=3) ?hd (cs:=#[.int .i64 a1_0,.int .i64 a1_1,.int .u64 a1_2,.int .u64 a1_3,.int .u32 a1_4,.int .i64 a1_5,.int .i64 a1_6,.string a1_7,.string a1_8,.int .i64 a1_9,.int .i64 a1_10,.string a1_11,.int .u32 a1_12,.int .i64 a1_13,.bool a1_14,.slice A1_15 l1_15.length c1_15,.slice A1_16 l1_16.length c1_16]) (t:=35) ?hr ?_;(case hd=>rfl);(case hg=>rfl);(case hr=>first|(go_simp;done)|(go_simp;rfl));intro gb106 hg w32 hbox hb;have n0_:=Aside0.mk (blk_below (g:=gb105) (o:=.cells #[.int .i64 a0_0,.int .i64 a0_1,.int .u64 a0_2,.int .u64 a0_3,.int .u32 a0_4,.int .i64 a0_5,.int .i64 a0_6,.string a0_7,.string a0_8,.int .i64 a0_9,.int .i64 a0_10,.string a0_11,.int .u32 a0_12,.int .i64 a0_13,.bool a0_14,.slice A0_15 l0_15.length c0_15,.slice A0_16 l0_16.length c0_16] 35 (0,0)) (by (with_reducible repeat (first|refine blk_drewN ?_ _|refine blk_drew ?_|refine blk_alloc ?_ _));exact BK105.out) hb);have n1_:=Aside0.mk (below_step (by repeat (first|(with_reducible first|exact HB.out|apply below_alloc|apply pw_below_drewN|apply below_drew1|refine below_set ?_ GE105.out)|exact HB.out)) hb);have n2_:=Aside0.mk (hbox);have n3_:=Aside0.mk ((by rw [hg];exact (below_size (by repeat (first|(with_reducible first|exact HB.out|apply below_alloc|apply pw_below_drewN|apply below_drew1|refine below_set ?_ GE105.out)|exact HB.out))) : w.heap.size≤gb106));have n4_:=Aside0.mk ((by rw [hg];exact (below_size (by repeat (first|(with_reducible first|exact HB.out|apply below_alloc|apply pw_below_drewN|apply below_drew1|refine below_set ?_ GE105.out)|exact HB.out))) : w.heap.size≤gb106));have n5_:=Aside0.mk ((by rw [hg];exact Nat.ne_of_lt (blk_lt (g:=gb105) (o:=.cells #[.int .i64 a0_0,.int .i64 a0_1,.int .u64 a0_2,.int .u64 a0_3,.int .u32 a0_4,.int .i64 a0_5,.int .i64 a0_6,.string a0_7,.string a0_8,.int .i64 a0_9,.int .i64 a0_10,.string a0_11,.int .u32 a0_12,.int .i64 a0_13,.bool a0_14,.slice A0_15 l0_15.length c0_15,.slice A0_16 l0_16.length c0_16] 35 (0,0)) (by (with_reducible repeat (first|refine blk_drewN ?_ _|refine blk_drew ?_|refine blk_alloc ?_ _));exact BK105.out)) : gb105≠gb106));have n6_:=Aside0.mk ((by rw [hg];exact Nat.ne_of_gt (blk_lt (g:=gb105) (o:=.cells #[.int .i64 a0_0,.int .i64 a0_1,.int .u64 a0_2,.int .u64 a0_3,.int .u32 a0_4,.int .i64 a0_5,.int .i64 a0_6,.string a0_7,.string a0_8,.int .i64 a0_9,.int .i64 a0_10,.string a0_11,.int .u32 a0_12,.int .i64 a0_13,.bool a0_14,.slice A0_15 l0_15.length c0_15,.slice A0_16 l0_16.length c0_16] 35 (0,0)) (by (with_reducible repeat (first|refine blk_drewN ?_ _|refine blk_drew ?_|refine blk_alloc ?_ _));exact BK105.out)) : gb106≠gb105));clear BK105;clear HB;have BK105:=n0_;have HB:=n1_;have BK106:=n2_;have GW106:=n3_;have GE106:=n4_;have NB105_106:=n5_;have NB106_105:=n6_;clear n0_ n1_ n2_ n3_ n4_ n5_ n6_;clear hb hbox hg;have hnb33:=NB105_106.out;have hnc33:=NB106_105.out;have hcz34_0 : w32.cell? ⟨gb105,0,none⟩=some (.int .i64 a0_0):=(blk_cell BK105.out 0).trans rfl;have hcz34_1 : w32.cell? ⟨gb105,1,none⟩=some (.int .i64 a0_1):=(blk_cell BK105.out 1).trans rfl;have hcz34_2 : w32.cell? ⟨gb105,2,none⟩=some (.int .u64 a0_2):=(blk_cell BK105.out 2).trans rfl;have hcz34_3 : w32.cell? ⟨gb105,3,none⟩=some (.int .u64 a0_3):=(blk_cell BK105.out 3).trans rfl;have hcz34_4 : w32.cell? ⟨gb105,4,none⟩=some (.int .u32 a0_4):=(blk_cell BK105.out 4).trans rfl;have hcz34_5 : w32.cell? ⟨gb105,5,none⟩=some (.int .i64 a0_5):=(blk_cell BK105.out 5).trans rfl;have hcz34_6 : w32.cell? ⟨gb105,6,none⟩=some (.int .i64 a0_6):=(blk_cell BK105.out 6).trans rfl;have hcz34_7 : w32.cell? ⟨gb105,7,none⟩=some (.string a0_7):=(blk_cell BK105.out 7).trans rfl;have hcz34_8 : w32.cell? ⟨gb105,8,none⟩=some (.string a0_8):=(blk_cell BK105.out 8).trans rfl;have hcz34_9 : w32.cell? ⟨gb105,9,none⟩=some (.int .i64 a0_9):=(blk_cell BK105.out 9).trans rfl;have hcz34_10 : w32.cell? ⟨gb105,10,none⟩=some (.int .i64 a0_10):=(blk_cell BK105.out 10).trans rfl;have hcz34_11 : w32.cell? ⟨gb105,11,none⟩=some (.string a0_11):=(blk_cell BK105.out 11).trans rfl;have hcz34_12 : w32.cell? ⟨gb105,12,none⟩=some (.int .u32 a0_12):=(blk_cell BK105.out 12).trans rfl;have hcz34_13 : w32.cell? ⟨gb105,13,none⟩=some (.int .i64 a0_13):=(blk_cell BK105.out 13).trans rfl;have hcz34_14 : w32.cell? ⟨gb105,14,none⟩=some (.bool a0_14):=(blk_cell BK105.out 14).trans rfl;have hcz34_15 : w32.cell? ⟨gb105,15,none⟩=some (.slice A0_15 l0_15.length c0_15):=(blk_cell BK105.out 15).trans rfl;have hcz34_16 : w32.cell? ⟨gb105,16,none⟩=some (.slice A0_16 l0_16.length c0_16):=(blk_cell BK105.out 16).trans rfl;have hfz34_0:=blk_frozen BK105.out 0;have hfz34_1:=blk_frozen BK105.out 1;have hfz34_2:=blk_frozen BK105.out 2;have hfz34_3:=blk_frozen BK105.out 3;have hfz34_4:=blk_frozen BK105.out 4;have hfz34_5:=blk_frozen BK105.out 5;have hfz34_6:=blk_frozen BK105.out 6;have hfz34_7:=blk_frozen BK105.out 7;have hfz34_8:=blk_frozen BK105.out 8;have hfz34_9:=blk_frozen BK105.out 9;have hfz34_10:=blk_frozen BK105.out 10;have hfz34_11:=blk_frozen BK105.out 11;have hfz34_12:=blk_frozen BK105.out 12;have hfz34_13:=blk_frozen BK105.out 13;have hfz34_14:=blk_frozen BK105.out 14;have hfz34_15:=blk_frozen BK105.out 15;have hfz34_16:=blk_frozen BK105.out 16;have hcz35_0 : w32.cell? ⟨gb106,0,none⟩=some (.int .i64 a1_0):=(blk_cell BK106.out 0).trans rfl;have hcz35_1 : w32.cell? ⟨gb106,1,none⟩=some (.int .i64 a1_1):=(blk_cell BK106.out 1).trans rfl;have hcz35_2 : w32.cell? ⟨gb106,2,none⟩=some (.int .u64 a1_2):=(blk_cell BK106.out 2).trans rfl;have hcz35_3 : w32.cell? ⟨gb106,3,none⟩=some (.int .u64 a1_3):=(blk_cell BK106.out 3).trans rfl;have hcz35_4 : w32.cell? ⟨gb106,4,none⟩=some (.int .u32 a1_4):=(blk_cell BK106.out 4).trans rfl;have hcz35_5 : w32.cell? ⟨gb106,5,none⟩=some (.int .i64 a1_5):=(blk_cell BK106.out 5).trans rfl;have hcz35_6 : w32.cell? ⟨gb106,6,none⟩=some (.int .i64 a1_6):=(blk_cell BK106.out 6).trans rfl;have hcz35_7 : w32.cell? ⟨gb106,7,none⟩=some (.string a1_7):=(blk_cell BK106.out 7).trans rfl;have hcz35_8 : w32.cell? ⟨gb106,8,none⟩=some (.string a1_8):=(blk_cell BK106.out 8).trans rfl;have hcz35_9 : w32.cell? ⟨gb106,9,none⟩=some (.int .i64 a1_9):=(blk_cell BK106.out 9).trans rfl;have hcz35_10 : w32.cell? ⟨gb106,10,none⟩=some (.int .i64 a1_10):=(blk_cell BK106.out 10).trans rfl;have hcz35_11 : w32.cell? ⟨gb106,11,none⟩=some (.string a1_11):=(blk_cell BK106.out 11).trans rfl;have hcz35_12 : w32.cell? ⟨gb106,12,none⟩=some (.int .u32 a1_12):=(blk_cell BK106.out 12).trans rfl;have hcz35_13 : w32.cell? ⟨gb106,13,none⟩=some (.int .i64 a1_13):=(blk_cell BK106.out 13).trans rfl;have hcz35_14 : w32.cell? ⟨gb106,14,none⟩=some (.bool a1_14):=(blk_cell BK106.out 14).trans rfl;have hcz35_15 : w32.cell? ⟨gb106,15,none⟩=some (.slice A1_15 l1_15.length c1_15):=(blk_cell BK106.out 15).trans rfl;have hcz35_16 : w32.cell? ⟨gb106,16,none⟩=some (.slice A1_16 l1_16.length c1_16):=(blk_cell BK106.out 16).trans rfl;have hfz35_0:=blk_frozen BK106.out 0;have hfz35_1:=blk_frozen BK106.out 1;have hfz35_2:=blk_frozen BK106.out 2;have hfz35_3:=blk_frozen BK106.out 3;have hfz35_4:=blk_frozen BK106.out 4;have hfz35_5:=blk_frozen BK106.out 5;have hfz35_6:=blk_frozen BK106.out 6;have hfz35_7:=blk_frozen BK106.out 7;have hfz35_8:=blk_frozen BK106.out 8;have hfz35_9:=blk_frozen BK106.out 9;have hfz35_10:=blk_frozen BK106.out 10;have hfz35_11:=blk_frozen BK106.out 11;have hfz35_12:=blk_frozen BK106.out 12;have hfz35_13:=blk_frozen BK106.out 13;have hfz35_14:=blk_frozen BK106.out 14;have hfz35_15:=blk_frozen BK106.out 15;have hfz35_16:=blk_frozen BK106.out 16)|((with_reducible refine gate_callee (f:=30) rfl ?_);refine goesL_ (some 9) rfl rfl Try.func30 (by kernel_rfl) rfl #[.slice A0_15 l0_15.length c0_15,.slice A1_15 l1_15.length c1_15] rfl (by (try simp only [List.map_toArray,List.map_cons,List.map_nil]);first|done|rfl|(simp only [List.length_drop,List.length_take];rfl)) ?_;(with_reducible refine (api_TxState.calls k _ _ l0_15 _ _ l1_15 true _ ?side1 ?side2 ?side3 ?side4 A3.out).mono ?_);(case side1=>repeat (first|exact (Kd.C_below HR0_15.out HB.out)|(with_reducible refine Kd.C_alloc ?_ _)|(with_reducible refine Kd.C_drewN ?_ _)|(with_reducible refine Kd.C_drew ?_)));(case side2=>exact HC0_15.out);(case side3=>repeat (first|exact (Kd.C_below HR1_15.out HB.out)|(with_reducible refine Kd.C_alloc ?_ _)|(with_reducible refine Kd.C_drewN ?_ _)|(with_reducible refine Kd.C_drew ?_)));(case side4=>exact HC1_15.out);rintro e w' ⟨rfl,⟨nd,rfl⟩⟩;refine ⟨_,rfl,?_⟩)|(go_at_call 31;(with_reducible refine (api_Dirty.calls k _ _ l0_16 _ _ l1_16 true _ ?side1 ?side2 ?side3 ?side4 A5.out).mono ?_);(case side1=>repeat (first|exact (Kd.C_below HR0_16.out (by repeat (first|(with_reducible first|exact HB.out|apply below_alloc|apply pw_below_drewN|apply below_drew1|refine below_set ?_ GE105.out|refine below_set ?_ GE106.out)|exact HB.out)))|(with_reducible refine Kd.C_alloc ?_ _)|(with_reducible refine Kd.C_drewN ?_ _)|(with_reducible refine Kd.C_drew ?_)));(case side2=>exact HC0_16.out);(case side3=>repeat (first|exact (Kd.C_below HR1_16.out (by repeat (first|(with_reducible first|exact HB.out|apply below_alloc|apply pw_below_drewN|apply below_drew1|refine below_set ?_ GE105.out|refine below_set ?_ GE106.out)|exact HB.out)))|(with_reducible refine Kd.C_alloc ?_ _)|(with_reducible refine Kd.C_drewN ?_ _)|(with_reducible refine Kd.C_drew ?_)));(case side4=>exact HC1_16.out);rintro e w' ⟨rfl,⟨nd,rfl⟩⟩))
          go_ret
          exact ⟨by first|rfl|(simp [errW_none,errW_some] <;> rfl)|(simp [*,errW_none,errW_some] <;> rfl),by repeat (first|(with_reducible first|exact HB.out|apply below_alloc|apply pw_below_drewN|apply below_drew1|refine below_set ?_ GE105.out|refine below_set ?_ GE106.out)|exact HB.out)⟩
        ·rw [if_neg c12] at H
         have c12b0 : (a0_5 == a1_5 && (a0_6 == a1_6 && (a0_7.toList == a1_7.toList && (a0_8.toList == a1_8.toList))))=false:=by simpa using c12
         (try (have c12b1 : decide (a0_5=a1_5 && (a0_6 == a1_6 && (a0_7.toList == a1_7.toList && (a0_8.toList == a1_8.toList))))=false:=by simpa using c12))
         (try (have c12b2 : (a0_5 == a1_5 && (a0_6 == a1_6 && (a0_7.toList == a1_7.toList && (a0_8.toList == a1_8.toList))))=false:=by simpa using c12))
         (try (have c12b3 : ¬ (a0_5=a1_5 && (a0_6 == a1_6 && (a0_7.toList == a1_7.toList && (a0_8.toList == a1_8.toList)))):=by simpa using c12))
         clear c12
         obtain rfl:=Option.some.inj H
         go_enter Try.func11,Try.ntmps11
         go_wp2_with (first|((with_reducible refine gate_dst (N:=2) rfl ?_);refine box_event ?hg (N:=2) ?hd (cs:=#[.int .i64 a0_0,.int .i64 a0_1,.int .u64 a0_2,.int .u64 a0_3,.int .u32 a0_4,.int .i64 a0_5,.int .i64 a0_6,.string a0_7,.string a0_8,.int .i64 a0_9,.int .i64 a0_10,.string a0_11,.int .u32 a0_12,.int .i64 a0_13,.bool a0_14,.slice A0_15 l0_15.length c0_15,.slice A0_16 l0_16.length c0_16]) (t:=35) ?hr ?_;(case hd=>rfl);(case hg=>rfl);(case hr=>first|(go_simp;done)|(go_simp;rfl));intro gb105 hg w36 hbox hb;have n0_:=Aside0.mk (below_step (by repeat (first|(with_reducible first|exact HB.out|apply below_alloc|apply pw_below_drewN|apply below_drew1)|exact HB.out)) hb);have n1_:=Aside0.mk (hbox);have n2_:=Aside0.mk ((by rw [hg];exact (below_size (by repeat (first|(with_reducible first|exact HB.out|apply below_alloc|apply pw_below_drewN|apply below_drew1)|exact HB.out))) : w.heap.size≤gb105));have n3_:=Aside0.mk ((by rw [hg];exact (below_size (by repeat (first|(with_reducible first|exact HB.out|apply below_alloc|apply pw_below_drewN|apply below_drew1)|exact HB.out))) : w.heap.size≤gb105));clear HB;have HB:=n0_;have BK105:=n1_;have GW105:=n2_;have GE105:=n3_;clear n0_ n1_ n2_ n3_;clear hb hbox hg)|((with_reducible refine gate_dst (N:=3) rfl ?_);refine box_event ?hg (N:=3) ?hd (cs:=#[.int .i64 a1_0,.int .i64 a1_1,.int .u64 a1_2,.int .u64 a1_3,.int .u32 a1_4,.int .i64 a1_5,.int .i64 a1_6,.string a1_7,.string a1_8,.int .i64 a1_9,.int .i64 a1_10,.string a1_11,.int .u32 a1_12,.int .i64 a1_13,.bool a1_14,.slice A1_15 l1_15.length c1_15,.slice A1_16 l1_16.length c1_16]) (t:=35) ?hr ?_;(case hd=>rfl);(case hg=>rfl);(case hr=>first|(go_simp;done)|(go_simp;rfl));intro gb106 hg w37 hbox hb;have n0_:=Aside0.mk (blk_below (g:=gb105) (o:=.cells #[.int .i64 a0_0,.int .i64 a0_1,.int .u64 a0_2,.int .u64 a0_3,.int .u32 a0_4,.int .i64 a0_5,.int .i64 a0_6,.string a0_7,.string a0_8,.int .i64 a0_9,.int .i64 a0_10,.string a0_11,.int .u32 a0_12,.int .i64 a0_13,.bool a0_14,.slice A0_15 l0_15.length c0_15,.slice A0_16 l0_16.length c0_16] 35 (0,0)) (by (with_reducible repeat (first|refine blk_drewN ?_ _|refine blk_drew ?_|refine blk_alloc ?_ _));exact BK105.out) hb);have n1_:=Aside0.mk (below_step (by repeat (first|(with_reducible first|exact HB.out|apply below_alloc|apply pw_below_drewN|apply below_drew1|refine below_set ?_ GE105.out)|exact HB.out)) hb);have n2_:=Aside0.mk (hbox);have n3_:=Aside0.mk ((by rw [hg];exact (below_size (by repeat (first|(with_reducible first|exact HB.out|apply below_alloc|apply pw_below_drewN|apply below_drew1|refine below_set ?_ GE105.out)|exact HB.out))) : w.heap.size≤gb106));have n4_:=Aside0.mk ((by rw [hg];exact (below_size (by repeat (first|(with_reducible first|exact HB.out|apply below_alloc|apply pw_below_drewN|apply below_drew1|refine below_set ?_ GE105.out)|exact HB.out))) : w.heap.size≤gb106));have n5_:=Aside0.mk ((by rw [hg];exact Nat.ne_of_lt (blk_lt (g:=gb105) (o:=.cells #[.int .i64 a0_0,.int .i64 a0_1,.int .u64 a0_2,.int .u64 a0_3,.int .u32 a0_4,.int .i64 a0_5,.int .i64 a0_6,.string a0_7,.string a0_8,.int .i64 a0_9,.int .i64 a0_10,.string a0_11,.int .u32 a0_12,.int .i64 a0_13,.bool a0_14,.slice A0_15 l0_15.length c0_15,.slice A0_16 l0_16.length c0_16] 35 (0,0)) (by (with_reducible repeat (first|refine blk_drewN ?_ _|refine blk_drew ?_|refine blk_alloc ?_ _));exact BK105.out)) : gb105≠gb106));have n6_:=Aside0.mk ((by rw [hg];exact Nat.ne_of_gt (blk_lt (g:=gb105) (o:=.cells #[.int .i64 a0_0,.int .i64 a0_1,.int .u64 a0_2,.int .u64 a0_3,.int .u32 a0_4,.int .i64 a0_5,.int .i64 a0_6,.string a0_7,.string a0_8,.int .i64 a0_9,.int .i64 a0_10,.string a0_11,.int .u32 a0_12,.int .i64 a0_13,.bool a0_14,.slice A0_15 l0_15.length c0_15,.slice A0_16 l0_16.length c0_16] 35 (0,0)) (by (with_reducible repeat (first|refine blk_drewN ?_ _|refine blk_drew ?_|refine blk_alloc ?_ _));exact BK105.out)) : gb106≠gb105));clear BK105;clear HB;have BK105:=n0_;have HB:=n1_;have BK106:=n2_;have GW106:=n3_;have GE106:=n4_;have NB105_106:=n5_;have NB106_105:=n6_;clear n0_ n1_ n2_ n3_ n4_ n5_ n6_;clear hb hbox hg;have hnb38:=NB105_106.out;have hnc38:=NB106_105.out;have hcz39_0 : w37.cell? ⟨gb105,0,none⟩=some (.int .i64 a0_0):=(blk_cell BK105.out 0).trans rfl;have hcz39_1 : w37.cell? ⟨gb105,1,none⟩=some (.int .i64 a0_1):=(blk_cell BK105.out 1).trans rfl;have hcz39_2 : w37.cell? ⟨gb105,2,none⟩=some (.int .u64 a0_2):=(blk_cell BK105.out 2).trans rfl;have hcz39_3 : w37.cell? ⟨gb105,3,none⟩=some (.int .u64 a0_3):=(blk_cell BK105.out 3).trans rfl;have hcz39_4 : w37.cell? ⟨gb105,4,none⟩=some (.int .u32 a0_4):=(blk_cell BK105.out 4).trans rfl;have hcz39_5 : w37.cell? ⟨gb105,5,none⟩=some (.int .i64 a0_5):=(blk_cell BK105.out 5).trans rfl;have hcz39_6 : w37.cell? ⟨gb105,6,none⟩=some (.int .i64 a0_6):=(blk_cell BK105.out 6).trans rfl;have hcz39_7 : w37.cell? ⟨gb105,7,none⟩=some (.string a0_7):=(blk_cell BK105.out 7).trans rfl;have hcz39_8 : w37.cell? ⟨gb105,8,none⟩=some (.string a0_8):=(blk_cell BK105.out 8).trans rfl;have hcz39_9 : w37.cell? ⟨gb105,9,none⟩=some (.int .i64 a0_9):=(blk_cell BK105.out 9).trans rfl;have hcz39_10 : w37.cell? ⟨gb105,10,none⟩=some (.int .i64 a0_10):=(blk_cell BK105.out 10).trans rfl;have hcz39_11 : w37.cell? ⟨gb105,11,none⟩=some (.string a0_11):=(blk_cell BK105.out 11).trans rfl;have hcz39_12 : w37.cell? ⟨gb105,12,none⟩=some (.int .u32 a0_12):=(blk_cell BK105.out 12).trans rfl;have hcz39_13 : w37.cell? ⟨gb105,13,none⟩=some (.int .i64 a0_13):=(blk_cell BK105.out 13).trans rfl;have hcz39_14 : w37.cell? ⟨gb105,14,none⟩=some (.bool a0_14):=(blk_cell BK105.out 14).trans rfl;have hcz39_15 : w37.cell? ⟨gb105,15,none⟩=some (.slice A0_15 l0_15.length c0_15):=(blk_cell BK105.out 15).trans rfl;have hcz39_16 : w37.cell? ⟨gb105,16,none⟩=some (.slice A0_16 l0_16.length c0_16):=(blk_cell BK105.out 16).trans rfl;have hfz39_0:=blk_frozen BK105.out 0;have hfz39_1:=blk_frozen BK105.out 1;have hfz39_2:=blk_frozen BK105.out 2;have hfz39_3:=blk_frozen BK105.out 3;have hfz39_4:=blk_frozen BK105.out 4;have hfz39_5:=blk_frozen BK105.out 5;have hfz39_6:=blk_frozen BK105.out 6;have hfz39_7:=blk_frozen BK105.out 7;have hfz39_8:=blk_frozen BK105.out 8;have hfz39_9:=blk_frozen BK105.out 9;have hfz39_10:=blk_frozen BK105.out 10;have hfz39_11:=blk_frozen BK105.out 11;have hfz39_12:=blk_frozen BK105.out 12;have hfz39_13:=blk_frozen BK105.out 13;have hfz39_14:=blk_frozen BK105.out 14;have hfz39_15:=blk_frozen BK105.out 15;have hfz39_16:=blk_frozen BK105.out 16;have hcz40_0 : w37.cell? ⟨gb106,0,none⟩=some (.int .i64 a1_0):=(blk_cell BK106.out 0).trans rfl;have hcz40_1 : w37.cell? ⟨gb106,1,none⟩=some (.int .i64 a1_1):=(blk_cell BK106.out 1).trans rfl;have hcz40_2 : w37.cell? ⟨gb106,2,none⟩=some (.int .u64 a1_2):=(blk_cell BK106.out 2).trans rfl;have hcz40_3 : w37.cell? ⟨gb106,3,none⟩=some (.int .u64 a1_3):=(blk_cell BK106.out 3).trans rfl;have hcz40_4 : w37.cell? ⟨gb106,4,none⟩=some (.int .u32 a1_4):=(blk_cell BK106.out 4).trans rfl;have hcz40_5 : w37.cell? ⟨gb106,5,none⟩=some (.int .i64 a1_5):=(blk_cell BK106.out 5).trans rfl;have hcz40_6 : w37.cell? ⟨gb106,6,none⟩=some (.int .i64 a1_6):=(blk_cell BK106.out 6).trans rfl;have hcz40_7 : w37.cell? ⟨gb106,7,none⟩=some (.string a1_7):=(blk_cell BK106.out 7).trans rfl;have hcz40_8 : w37.cell? ⟨gb106,8,none⟩=some (.string a1_8):=(blk_cell BK106.out 8).trans rfl;have hcz40_9 : w37.cell? ⟨gb106,9,none⟩=some (.int .i64 a1_9):=(blk_cell BK106.out 9).trans rfl;have hcz40_10 : w37.cell? ⟨gb106,10,none⟩=some (.int .i64 a1_10):=(blk_cell BK106.out 10).trans rfl;have hcz40_11 : w37.cell? ⟨gb106,11,none⟩=some (.string a1_11):=(blk_cell BK106.out 11).trans rfl;have hcz40_12 : w37.cell? ⟨gb106,12,none⟩=some (.int .u32 a1_12):=(blk_cell BK106.out 12).trans rfl;have hcz40_13 : w37.cell? ⟨gb106,13,none⟩=some (.int .i64 a1_13):=(blk_cell BK106.out 13).trans rfl;have hcz40_14 : w37.cell? ⟨gb106,14,none⟩=some (.bool a1_14):=(blk_cell BK106.out 14).trans rfl;have hcz40_15 : w37.cell? ⟨gb106,15,none⟩=some (.slice A1_15 l1_15.length c1_15):=(blk_cell BK106.out 15).trans rfl;have hcz40_16 : w37.cell? ⟨gb106,16,none⟩=some (.slice A1_16 l1_16.length c1_16):=(blk_cell BK106.out 16).trans rfl;have hfz40_0:=blk_frozen BK106.out 0;have hfz40_1:=blk_frozen BK106.out 1;have hfz40_2:=blk_frozen BK106.out 2;have hfz40_3:=blk_frozen BK106.out 3;have hfz40_4:=blk_frozen BK106.out 4;have hfz40_5:=blk_frozen BK106.out 5;have hfz40_6:=blk_frozen BK106.out 6;have hfz40_7:=blk_frozen BK106.out 7;have hfz40_8:=blk_frozen BK106.out 8;have hfz40_9:=blk_frozen BK106.out 9;have hfz40_10:=blk_frozen BK106.out 10;have hfz40_11:=blk_frozen BK106.out 11;have hfz40_12:=blk_frozen BK106.out 12;have hfz40_13:=blk_frozen BK106.out 13;have hfz40_14:=blk_frozen BK106.out 14;have hfz40_15:=blk_frozen BK106.out 15;have hfz40_16:=blk_frozen BK106.out 16)|((with_reducible refine gate_callee (f:=30) rfl ?_);refine goesL_ (some 9) rfl rfl Try.func30 (by kernel_rfl) rfl #[.slice A0_15 l0_15.length c0_15,.slice A1_15 l1_15.length c1_15] rfl (by (try simp only [List.map_toArray,List.map_cons,List.map_nil]);first|done|rfl|(simp only [List.length_drop,List.length_take];rfl)) ?_;(with_reducible refine (api_TxState.calls k _ _ l0_15 _ _ l1_15 true _ ?side1 ?side2 ?side3 ?side4 A3.out).mono ?_);(case side1=>repeat (first|exact (Kd.C_below HR0_15.out HB.out)|(with_reducible refine Kd.C_alloc ?_ _)|(with_reducible refine Kd.C_drewN ?_ _)|(with_reducible refine Kd.C_drew ?_)));(case side2=>exact HC0_15.out);(case side3=>repeat (first|exact (Kd.C_below HR1_15.out HB.out)|(with_reducible refine Kd.C_alloc ?_ _)|(with_reducible refine Kd.C_drewN ?_ _)|(with_reducible refine Kd.C_drew ?_)));(case side4=>exact HC1_15.out);rintro e w' ⟨rfl,⟨nd,rfl⟩⟩;refine ⟨_,rfl,?_⟩)|(go_at_call 31;(with_reducible refine (api_Dirty.calls k _ _ l0_16 _ _ l1_16 true _ ?side1 ?side2 ?side3 ?side4 A5.out).mono ?_);(case side1=>repeat (first|exact (Kd.C_below HR0_16.out (by repeat (first|(with_reducible first|exact HB.out|apply below_alloc|apply pw_below_drewN|apply below_drew1|refine below_set ?_ GE105.out|refine below_set ?_ GE106.out)|exact HB.out)))|(with_reducible refine Kd.C_alloc ?_ _)|(with_reducible refine Kd.C_drewN ?_ _)|(with_reducible refine Kd.C_drew ?_)));(case side2=>exact HC0_16.out);(case side3=>repeat (first|exact (Kd.C_below HR1_16.out (by repeat (first|(with_reducible first|exact HB.out|apply below_alloc|apply pw_below_drewN|apply below_drew1|refine below_set ?_ GE105.out|refine below_set ?_ GE106.out)|exact HB.out)))|(with_reducible refine Kd.C_alloc ?_ _)|(with_reducible refine Kd.C_drewN ?_ _)|(with_reducible refine Kd.C_drew ?_)));(case side4=>exact HC1_16.out);rintro e w' ⟨rfl,⟨nd,rfl⟩⟩))
         go_ret
         exact ⟨by first|rfl|(simp [errW_none,errW_some] <;> rfl)|(simp [*,errW_none,errW_some] <;> rfl),by repeat (first|(with_reducible first|exact HB.out|apply below_alloc|apply pw_below_drewN|apply below_drew1|refine below_set ?_ GE105.out|refine below_set ?_ GE106.out)|exact HB.out)⟩
       ·rw [if_neg c11] at H
        have c11b0 : (a0_4 == a1_4)=false:=beq_eq_false_iff_ne.mpr c11
        have c11b1 : (a0_4 != a1_4)=true:=bne_iff_ne.mpr c11
        obtain rfl:=Option.some.inj H
        go_enter Try.func11,Try.ntmps11
        go_wp2_with (first|((with_reducible refine gate_dst (N:=2) rfl ?_);refine box_event ?hg (N:=2) ?hd (cs:=#[.int .i64 a0_0,.int .i64 a0_1,.int .u64 a0_2,.int .u64 a0_3,.int .u32 a0_4,.int .i64 a0_5,.int .i64 a0_6,.string a0_7,.string a0_8,.int .i64 a0_9,.int .i64 a0_10,.string a0_11,.int .u32 a0_12,.int .i64 a0_13,.bool a0_14,.slice A0_15 l0_15.length c0_15,.slice A0_16 l0_16.length c0_16]) (t:=35) ?hr ?_;(case hd=>rfl);(case hg=>rfl);(case hr=>first|(go_simp;done)|(go_simp;rfl));intro gb105 hg w41 hbox hb;have n0_:=Aside0.mk (below_step (by repeat (first|(with_reducible first|exact HB.out|apply below_alloc|apply pw_below_drewN|apply below_drew1)|exact HB.out)) hb);have n1_:=Aside0.mk (hbox);have n2_:=Aside0.mk ((by rw [hg];exact (below_size (by repeat (first|(with_reducible first|exact HB.out|apply below_alloc|apply pw_below_drewN|apply below_drew1)|exact HB.out))) : w.heap.size≤gb105));have n3_:=Aside0.mk ((by rw [hg];exact (below_size (by repeat (first|(with_reducible first|exact HB.out|apply below_alloc|apply pw_below_drewN|apply below_drew1)|exact HB.out))) : w.heap.size≤gb105));clear HB;have HB:=n0_;have BK105:=n1_;have GW105:=n2_;have GE105:=n3_;clear n0_ n1_ n2_ n3_;clear hb hbox hg)|((with_reducible refine gate_dst (N:=3) rfl ?_);refine box_event ?hg (N:=3) ?hd (cs:=#[.int .i64 a1_0,.int .i64 a1_1,.int .u64 a1_2,.int .u64 a1_3,.int .u32 a1_4,.int .i64 a1_5,.int .i64 a1_6,.string a1_7,.string a1_8,.int .i64 a1_9,.int .i64 a1_10,.string a1_11,.int .u32 a1_12,.int .i64 a1_13,.bool a1_14,.slice A1_15 l1_15.length c1_15,.slice A1_16 l1_16.length c1_16]) (t:=35) ?hr ?_;(case hd=>rfl);(case hg=>rfl);(case hr=>first|(go_simp;done)|(go_simp;rfl));intro gb106 hg w42 hbox hb;have n0_:=Aside0.mk (blk_below (g:=gb105) (o:=.cells #[.int .i64 a0_0,.int .i64 a0_1,.int .u64 a0_2,.int .u64 a0_3,.int .u32 a0_4,.int .i64 a0_5,.int .i64 a0_6,.string a0_7,.string a0_8,.int .i64 a0_9,.int .i64 a0_10,.string a0_11,.int .u32 a0_12,.int .i64 a0_13,.bool a0_14,.slice A0_15 l0_15.length c0_15,.slice A0_16 l0_16.length c0_16] 35 (0,0)) (by (with_reducible repeat (first|refine blk_drewN ?_ _|refine blk_drew ?_|refine blk_alloc ?_ _));exact BK105.out) hb);have n1_:=Aside0.mk (below_step (by repeat (first|(with_reducible first|exact HB.out|apply below_alloc|apply pw_below_drewN|apply below_drew1|refine below_set ?_ GE105.out)|exact HB.out)) hb);have n2_:=Aside0.mk (hbox);have n3_:=Aside0.mk ((by rw [hg];exact (below_size (by repeat (first|(with_reducible first|exact HB.out|apply below_alloc|apply pw_below_drewN|apply below_drew1|refine below_set ?_ GE105.out)|exact HB.out))) : w.heap.size≤gb106));have n4_:=Aside0.mk ((by rw [hg];exact (below_size (by repeat (first|(with_reducible first|exact HB.out|apply below_alloc|apply pw_below_drewN|apply below_drew1|refine below_set ?_ GE105.out)|exact HB.out))) : w.heap.size≤gb106));have n5_:=Aside0.mk ((by rw [hg];exact Nat.ne_of_lt (blk_lt (g:=gb105) (o:=.cells #[.int .i64 a0_0,.int .i64 a0_1,.int .u64 a0_2,.int .u64 a0_3,.int .u32 a0_4,.int .i64 a0_5,.int .i64 a0_6,.string a0_7,.string a0_8,.int .i64 a0_9,.int .i64 a0_10,.string a0_11,.int .u32 a0_12,.int .i64 a0_13,.bool a0_14,.slice A0_15 l0_15.length c0_15,.slice A0_16 l0_16.length c0_16] 35 (0,0)) (by (with_reducible repeat (first|refine blk_drewN ?_ _|refine blk_drew ?_|refine blk_alloc ?_ _));exact BK105.out)) : gb105≠gb106));have n6_:=Aside0.mk ((by rw [hg];exact Nat.ne_of_gt (blk_lt (g:=gb105) (o:=.cells #[.int .i64 a0_0,.int .i64 a0_1,.int .u64 a0_2,.int .u64 a0_3,.int .u32 a0_4,.int .i64 a0_5,.int .i64 a0_6,.string a0_7,.string a0_8,.int .i64 a0_9,.int .i64 a0_10,.string a0_11,.int .u32 a0_12,.int .i64 a0_13,.bool a0_14,.slice A0_15 l0_15.length c0_15,.slice A0_16 l0_16.length c0_16] 35 (0,0)) (by (with_reducible repeat (first|refine blk_drewN ?_ _|refine blk_drew ?_|refine blk_alloc ?_ _));exact BK105.out)) : gb106≠gb105));clear BK105;clear HB;have BK105:=n0_;have HB:=n1_;have BK106:=n2_;have GW106:=n3_;have GE106:=n4_;have NB105_106:=n5_;have NB106_105:=n6_;clear n0_ n1_ n2_ n3_ n4_ n5_ n6_;clear hb hbox hg;have hnb43:=NB105_106.out;have hnc43:=NB106_105.out;have hcz44_0 : w42.cell? ⟨gb105,0,none⟩=some (.int .i64 a0_0):=(blk_cell BK105.out 0).trans rfl;have hcz44_1 : w42.cell? ⟨gb105,1,none⟩=some (.int .i64 a0_1):=(blk_cell BK105.out 1).trans rfl;have hcz44_2 : w42.cell? ⟨gb105,2,none⟩=some (.int .u64 a0_2):=(blk_cell BK105.out 2).trans rfl;have hcz44_3 : w42.cell? ⟨gb105,3,none⟩=some (.int .u64 a0_3):=(blk_cell BK105.out 3).trans rfl;have hcz44_4 : w42.cell? ⟨gb105,4,none⟩=some (.int .u32 a0_4):=(blk_cell BK105.out 4).trans rfl;have hcz44_5 : w42.cell? ⟨gb105,5,none⟩=some (.int .i64 a0_5):=(blk_cell BK105.out 5).trans rfl;have hcz44_6 : w42.cell? ⟨gb105,6,none⟩=some (.int .i64 a0_6):=(blk_cell BK105.out 6).trans rfl;have hcz44_7 : w42.cell? ⟨gb105,7,none⟩=some (.string a0_7):=(blk_cell BK105.out 7).trans rfl;have hcz44_8 : w42.cell? ⟨gb105,8,none⟩=some (.string a0_8):=(blk_cell BK105.out 8).trans rfl;have hcz44_9 : w42.cell? ⟨gb105,9,none⟩=some (.int .i64 a0_9):=(blk_cell BK105.out 9).trans rfl;have hcz44_10 : w42.cell? ⟨gb105,10,none⟩=some (.int .i64 a0_10):=(blk_cell BK105.out 10).trans rfl;have hcz44_11 : w42.cell? ⟨gb105,11,none⟩=some (.string a0_11):=(blk_cell BK105.out 11).trans rfl;have hcz44_12 : w42.cell? ⟨gb105,12,none⟩=some (.int .u32 a0_12):=(blk_cell BK105.out 12).trans rfl;have hcz44_13 : w42.cell? ⟨gb105,13,none⟩=some (.int .i64 a0_13):=(blk_cell BK105.out 13).trans rfl;have hcz44_14 : w42.cell? ⟨gb105,14,none⟩=some (.bool a0_14):=(blk_cell BK105.out 14).trans rfl;have hcz44_15 : w42.cell? ⟨gb105,15,none⟩=some (.slice A0_15 l0_15.length c0_15):=(blk_cell BK105.out 15).trans rfl;have hcz44_16 : w42.cell? ⟨gb105,16,none⟩=some (.slice A0_16 l0_16.length c0_16):=(blk_cell BK105.out 16).trans rfl;have hfz44_0:=blk_frozen BK105.out 0;have hfz44_1:=blk_frozen BK105.out 1;have hfz44_2:=blk_frozen BK105.out 2;have hfz44_3:=blk_frozen BK105.out 3;have hfz44_4:=blk_frozen BK105.out 4;have hfz44_5:=blk_frozen BK105.out 5;have hfz44_6:=blk_frozen BK105.out 6;have hfz44_7:=blk_frozen BK105.out 7;have hfz44_8:=blk_frozen BK105.out 8;have hfz44_9:=blk_frozen BK105.out 9;have hfz44_10:=blk_frozen BK105.out 10;have hfz44_11:=blk_frozen BK105.out 11;have hfz44_12:=blk_frozen BK105.out 12;have hfz44_13:=blk_frozen BK105.out 13;have hfz44_14:=blk_frozen BK105.out 14;have hfz44_15:=blk_frozen BK105.out 15;have hfz44_16:=blk_frozen BK105.out 16;have hcz45_0 : w42.cell? ⟨gb106,0,none⟩=some (.int .i64 a1_0):=(blk_cell BK106.out 0).trans rfl;have hcz45_1 : w42.cell? ⟨gb106,1,none⟩=some (.int .i64 a1_1):=(blk_cell BK106.out 1).trans rfl;have hcz45_2 : w42.cell? ⟨gb106,2,none⟩=some (.int .u64 a1_2):=(blk_cell BK106.out 2).trans rfl;have hcz45_3 : w42.cell? ⟨gb106,3,none⟩=some (.int .u64 a1_3):=(blk_cell BK106.out 3).trans rfl;have hcz45_4 : w42.cell? ⟨gb106,4,none⟩=some (.int .u32 a1_4):=(blk_cell BK106.out 4).trans rfl;have hcz45_5 : w42.cell? ⟨gb106,5,none⟩=some (.int .i64 a1_5):=(blk_cell BK106.out 5).trans rfl;have hcz45_6 : w42.cell? ⟨gb106,6,none⟩=some (.int .i64 a1_6):=(blk_cell BK106.out 6).trans rfl;have hcz45_7 : w42.cell? ⟨gb106,7,none⟩=some (.string a1_7):=(blk_cell BK106.out 7).trans rfl;have hcz45_8 : w42.cell? ⟨gb106,8,none⟩=some (.string a1_8):=(blk_cell BK106.out 8).trans rfl;have hcz45_9 : w42.cell? ⟨gb106,9,none⟩=some (.int .i64 a1_9):=(blk_cell BK106.out 9).trans rfl;have hcz45_10 : w42.cell? ⟨gb106,10,none⟩=some (.int .i64 a1_10):=(blk_cell BK106.out 10).trans rfl;have hcz45_11 : w42.cell? ⟨gb106,11,none⟩=some (.string a1_11):=(blk_cell BK106.out 11).trans rfl;have hcz45_12 : w42.cell? ⟨gb106,12,none⟩=some (.int .u32 a1_12):=(blk_cell BK106.out 12).trans rfl;have hcz45_13 : w42.cell? ⟨gb106,13,none⟩=some (.int .i64 a1_13):=(blk_cell BK106.out 13).trans rfl;have hcz45_14 : w42.cell? ⟨gb106,14,none⟩=some (.bool a1_14):=(blk_cell BK106.out 14).trans rfl;have hcz45_15 : w42.cell? ⟨gb106,15,none⟩=some (.slice A1_15 l1_15.length c1_15):=(blk_cell BK106.out 15).trans rfl;have hcz45_16 : w42.cell? ⟨gb106,16,none⟩=some (.slice A1_16 l1_16.length c1_16):=(blk_cell BK106.out 16).trans rfl;have hfz45_0:=blk_frozen BK106.out 0;have hfz45_1:=blk_frozen BK106.out 1;have hfz45_2:=blk_frozen BK106.out 2;have hfz45_3:=blk_frozen BK106.out 3;have hfz45_4:=blk_frozen BK106.out 4;have hfz45_5:=blk_frozen BK106.out 5;have hfz45_6:=blk_frozen BK106.out 6;have hfz45_7:=blk_frozen BK106.out 7;have hfz45_8:=blk_frozen BK106.out 8;have hfz45_9:=blk_frozen BK106.out 9;have hfz45_10:=blk_frozen BK106.out 10;have hfz45_11:=blk_frozen BK106.out 11;have hfz45_12:=blk_frozen BK106.out 12;have hfz45_13:=blk_frozen BK106.out 13;have hfz45_14:=blk_frozen BK106.out 14;have hfz45_15:=blk_frozen BK106.out 15;have hfz45_16:=blk_frozen BK106.out 16)|((with_reducible refine gate_callee (f:=30) rfl ?_);refine goesL_ (some 9) rfl rfl Try.func30 (by kernel_rfl) rfl #[.slice A0_15 l0_15.length c0_15,.slice A1_15 l1_15.length c1_15] rfl (by (try simp only [List.map_toArray,List.map_cons,List.map_nil]);first|done|rfl|(simp only [List.length_drop,List.length_take];rfl)) ?_;(with_reducible refine (api_TxState.calls k _ _ l0_15 _ _ l1_15 true _ ?side1 ?side2 ?side3 ?side4 A3.out).mono ?_);(case side1=>repeat (first|exact (Kd.C_below HR0_15.out HB.out)|(with_reducible refine Kd.C_alloc ?_ _)|(with_reducible refine Kd.C_drewN ?_ _)|(with_reducible refine Kd.C_drew ?_)));(case side2=>exact HC0_15.out);(case side3=>repeat (first|exact (Kd.C_below HR1_15.out HB.out)|(with_reducible refine Kd.C_alloc ?_ _)|(with_reducible refine Kd.C_drewN ?_ _)|(with_reducible refine Kd.C_drew ?_)));(case side4=>exact HC1_15.out);rintro e w' ⟨rfl,⟨nd,rfl⟩⟩;refine ⟨_,rfl,?_⟩)|(go_at_call 31;(with_reducible refine (api_Dirty.calls k _ _ l0_16 _ _ l1_16 true _ ?side1 ?side2 ?side3 ?side4 A5.out).mono ?_);(case side1=>repeat (first|exact (Kd.C_below HR0_16.out (by repeat (first|(with_reducible first|exact HB.out|apply below_alloc|apply pw_below_drewN|apply below_drew1|refine below_set ?_ GE105.out|refine below_set ?_ GE106.out)|exact HB.out)))|(with_reducible refine Kd.C_alloc ?_ _)|(with_reducible refine Kd.C_drewN ?_ _)|(with_reducible refine Kd.C_drew ?_)));(case side2=>exact HC0_16.out);(case side3=>repeat (first|exact (Kd.C_below HR1_16.out (by repeat (first|(with_reducible first|exact HB.out|apply below_alloc|apply pw_below_drewN|apply below_drew1|refine below_set ?_ GE105.out|refine below_set ?_ GE106.out)|exact HB.out)))|(with_reducible refine Kd.C_alloc ?_ _)|(with_reducible refine Kd.C_drewN ?_ _)|(with_reducible refine Kd.C_drew ?_)));(case side4=>exact HC1_16.out);rintro e w' ⟨rfl,⟨nd,rfl⟩⟩))
        go_ret
        exact ⟨by first|rfl|(simp [errW_none,errW_some] <;> rfl)|(simp [*,errW_none,errW_some] <;> rfl),by repeat (first|(with_reducible first|exact HB.out|apply below_alloc|apply pw_below_drewN|apply below_drew1|refine below_set ?_ GE105.out|refine below_set ?_ GE106.out)|exact HB.out)⟩
      ·rw [if_neg c10] at H
       have c10b0 : (a0_3 == a1_3)=false:=beq_eq_false_iff_ne.mpr c10
       have c10b1 : (a0_3 != a1_3)=true:=bne_iff_ne.mpr c10
       obtain rfl:=Option.some.inj H
       go_enter Try.func11,Try.ntmps11
       go_wp2_with (first|((with_reducible refine gate_dst (N:=2) rfl ?_);refine box_event ?hg (N:=2) ?hd (cs:=#[.int .i64 a0_0,.int .i64 a0_1,.int .u64 a0_2,.int .u64 a0_3,.int .u32 a0_4,.int .i64 a0_5,.int .i64 a0_6,.string a0_7,.string a0_8,.int .i64 a0_9,.int .i64 a0_10,.string a0_11,.int .u32 a0_12,.int .i64 a0_13,.bool a0_14,.slice A0_15 l0_15.length c0_15,.slice A0_16 l0_16.length c0_16]) (t:=35) ?hr ?_;(case hd=>rfl);(case hg=>rfl);(case hr=>first|(go_simp;done)|(go_simp;rfl));intro gb105 hg w46 hbox hb;have n0_:=Aside0.mk (below_step (by repeat (first|(with_reducible first|exact HB.out|apply below_alloc|apply pw_below_drewN|apply below_drew1)|exact HB.out)) hb);have n1_:=Aside0.mk (hbox);have n2_:=Aside0.mk ((by rw [hg];exact (below_size (by repeat (first|(with_reducible first|exact HB.out|apply below_alloc|apply pw_below_drewN|apply below_drew1)|exact HB.out))) : w.heap.size≤gb105));have n3_:=Aside0.mk ((by rw [hg];exact (below_size (by repeat (first|(with_reducible first|exact HB.out|apply below_alloc|apply pw_below_drewN|apply below_drew1)|exact HB.out))) : w.heap.size≤gb105));clear HB;have HB:=n0_;have BK105:=n1_;have GW105:=n2_;have GE105:=n3_;clear n0_ n1_ n2_ n3_;clear hb hbox hg)|((with_reducible refine gate_dst (N:=3) rfl ?_);refine box_event ?hg (N:=3) ?hd (cs:=#[.int .i64 a1_0,.int .i64 a1_1,.int .u64 a1_2,.int .u64 a1_3,.int .u32 a1_4,.int .i64 a1_5,.int .i64 a1_6,.string a1_7,.string a1_8,.int .i64 a1_9,.int .i64 a1_10,.string a1_11,.int .u32 a1_12,.int .i64 a1_13,.bool a1_14,.slice A1_15 l1_15.length c1_15,.slice A1_16 l1_16.length c1_16]) (t:=35) ?hr ?_;(case hd=>rfl);(case hg=>rfl);(case hr=>first|(go_simp;done)|(go_simp;rfl));intro gb106 hg w47 hbox hb;have n0_:=Aside0.mk (blk_below (g:=gb105) (o:=.cells #[.int .i64 a0_0,.int .i64 a0_1,.int .u64 a0_2,.int .u64 a0_3,.int .u32 a0_4,.int .i64 a0_5,.int .i64 a0_6,.string a0_7,.string a0_8,.int .i64 a0_9,.int .i64 a0_10,.string a0_11,.int .u32 a0_12,.int .i64 a0_13,.bool a0_14,.slice A0_15 l0_15.length c0_15,.slice A0_16 l0_16.length c0_16] 35 (0,0)) (by (with_reducible repeat (first|refine blk_drewN ?_ _|refine blk_drew ?_|refine blk_alloc ?_ _));exact BK105.out) hb);have n1_:=Aside0.mk (below_step (by repeat (first|(with_reducible first|exact HB.out|apply below_alloc|apply pw_below_drewN|apply below_drew1|refine below_set ?_ GE105.out)|exact HB.out)) hb);have n2_:=Aside0.mk (hbox);have n3_:=Aside0.mk ((by rw [hg];exact (below_size (by repeat (first|(with_reducible first|exact HB.out|apply below_alloc|apply pw_below_drewN|apply below_drew1|refine below_set ?_ GE105.out)|exact HB.out))) : w.heap.size≤gb106));have n4_:=Aside0.mk ((by rw [hg];exact (below_size (by repeat (first|(with_reducible first|exact HB.out|apply below_alloc|apply pw_below_drewN|apply below_drew1|refine below_set ?_ GE105.out)|exact HB.out))) : w.heap.size≤gb106));have n5_:=Aside0.mk ((by rw [hg];exact Nat.ne_of_lt (blk_lt (g:=gb105) (o:=.cells #[.int .i64 a0_0,.int .i64 a0_1,.int .u64 a0_2,.int .u64 a0_3,.int .u32 a0_4,.int .i64 a0_5,.int .i64 a0_6,.string a0_7,.string a0_8,.int .i64 a0_9,.int .i64 a0_10,.string a0_11,.int .u32 a0_12,.int .i64 a0_13,.bool a0_14,.slice A0_15 l0_15.length c0_15,.slice A0_16 l0_16.length c0_16] 35 (0,0)) (by (with_reducible repeat (first|refine blk_drewN ?_ _|refine blk_drew ?_|refine blk_alloc ?_ _));exact BK105.out)) : gb105≠gb106));have n6_:=Aside0.mk ((by rw [hg];exact Nat.ne_of_gt (blk_lt (g:=gb105) (o:=.cells #[.int .i64 a0_0,.int .i64 a0_1,.int .u64 a0_2,.int .u64 a0_3,.int .u32 a0_4,.int .i64 a0_5,.int .i64 a0_6,.string a0_7,.string a0_8,.int .i64 a0_9,.int .i64 a0_10,.string a0_11,.int .u32 a0_12,.int .i64 a0_13,.bool a0_14,.slice A0_15 l0_15.length c0_15,.slice A0_16 l0_16.length c0_16] 35 (0,0)) (by (with_reducible repeat (first|refine blk_drewN ?_ _|refine blk_drew ?_|refine blk_alloc ?_ _));exact BK105.out)) : gb106≠gb105));clear BK105;clear HB;have BK105:=n0_;have HB:=n1_;have BK106:=n2_;have GW106:=n3_;have GE106:=n4_;have NB105_106:=n5_;have NB106_105:=n6_;clear n0_ n1_ n2_ n3_ n4_ n5_ n6_;clear hb hbox hg;have hnb48:=NB105_106.out;have hnc48:=NB106_105.out;have hcz49_0 : w47.cell? ⟨gb105,0,none⟩=some (.int .i64 a0_0):=(blk_cell BK105.out 0).trans rfl;have hcz49_1 : w47.cell? ⟨gb105,1,none⟩=some (.int .i64 a0_1):=(blk_cell BK105.out 1).trans rfl;have hcz49_2 : w47.cell? ⟨gb105,2,none⟩=some (.int .u64 a0_2):=(blk_cell BK105.out 2).trans rfl;have hcz49_3 : w47.cell? ⟨gb105,3,none⟩=some (.int .u64 a0_3):=(blk_cell BK105.out 3).trans rfl;have hcz49_4 : w47.cell? ⟨gb105,4,none⟩=some (.int .u32 a0_4):=(blk_cell BK105.out 4).trans rfl;have hcz49_5 : w47.cell? ⟨gb105,5,none⟩=some (.int .i64 a0_5):=(blk_cell BK105.out 5).trans rfl;have hcz49_6 : w47.cell? ⟨gb105,6,none⟩=some (.int .i64 a0_6):=(blk_cell BK105.out 6).trans rfl;have hcz49_7 : w47.cell? ⟨gb105,7,none⟩=some (.string a0_7):=(blk_cell BK105.out 7).trans rfl;have hcz49_8 : w47.cell? ⟨gb105,8,none⟩=some (.string a0_8):=(blk_cell BK105.out 8).trans rfl;have hcz49_9 : w47.cell? ⟨gb105,9,none⟩=some (.int .i64 a0_9):=(blk_cell BK105.out 9).trans rfl;have hcz49_10 : w47.cell? ⟨gb105,10,none⟩=some (.int .i64 a0_10):=(blk_cell BK105.out 10).trans rfl;have hcz49_11 : w47.cell? ⟨gb105,11,none⟩=some (.string a0_11):=(blk_cell BK105.out 11).trans rfl;have hcz49_12 : w47.cell? ⟨gb105,12,none⟩=some (.int .u32 a0_12):=(blk_cell BK105.out 12).trans rfl;have hcz49_13 : w47.cell? ⟨gb105,13,none⟩=some (.int .i64 a0_13):=(blk_cell BK105.out 13).trans rfl;have hcz49_14 : w47.cell? ⟨gb105,14,none⟩=some (.bool a0_14):=(blk_cell BK105.out 14).trans rfl;have hcz49_15 : w47.cell? ⟨gb105,15,none⟩=some (.slice A0_15 l0_15.length c0_15):=(blk_cell BK105.out 15).trans rfl;have hcz49_16 : w47.cell? ⟨gb105,16,none⟩=some (.slice A0_16 l0_16.length c0_16):=(blk_cell BK105.out 16).trans rfl;have hfz49_0:=blk_frozen BK105.out 0;have hfz49_1:=blk_frozen BK105.out 1;have hfz49_2:=blk_frozen BK105.out 2;have hfz49_3:=blk_frozen BK105.out 3;have hfz49_4:=blk_frozen BK105.out 4;have hfz49_5:=blk_frozen BK105.out 5;have hfz49_6:=blk_frozen BK105.out 6;have hfz49_7:=blk_frozen BK105.out 7;have hfz49_8:=blk_frozen BK105.out 8;have hfz49_9:=blk_frozen BK105.out 9;have hfz49_10:=blk_frozen BK105.out 10;have hfz49_11:=blk_frozen BK105.out 11;have hfz49_12:=blk_frozen BK105.out 12;have hfz49_13:=blk_frozen BK105.out 13;have hfz49_14:=blk_frozen BK105.out 14;have hfz49_15:=blk_frozen BK105.out 15;have hfz49_16:=blk_frozen BK105.out 16;have hcz50_0 : w47.cell? ⟨gb106,0,none⟩=some (.int .i64 a1_0):=(blk_cell BK106.out 0).trans rfl;have hcz50_1 : w47.cell? ⟨gb106,1,none⟩=some (.int .i64 a1_1):=(blk_cell BK106.out 1).trans rfl;have hcz50_2 : w47.cell? ⟨gb106,2,none⟩=some (.int .u64 a1_2):=(blk_cell BK106.out 2).trans rfl;have hcz50_3 : w47.cell? ⟨gb106,3,none⟩=some (.int .u64 a1_3):=(blk_cell BK106.out 3).trans rfl;have hcz50_4 : w47.cell? ⟨gb106,4,none⟩=some (.int .u32 a1_4):=(blk_cell BK106.out 4).trans rfl;have hcz50_5 : w47.cell? ⟨gb106,5,none⟩=some (.int .i64 a1_5):=(blk_cell BK106.out 5).trans rfl;have hcz50_6 : w47.cell? ⟨gb106,6,none⟩=some (.int .i64 a1_6):=(blk_cell BK106.out 6).trans rfl;have hcz50_7 : w47.cell? ⟨gb106,7,none⟩=some (.string a1_7):=(blk_cell BK106.out 7).trans rfl;have hcz50_8 : w47.cell? ⟨gb106,8,none⟩=some (.string a1_8):=(blk_cell BK106.out 8).trans rfl;have hcz50_9 : w47.cell? ⟨gb106,9,none⟩=some (.int .i64 a1_9):=(blk_cell BK106.out 9).trans rfl;have hcz50_10 : w47.cell? ⟨gb106,10,none⟩=some (.int .i64 a1_10):=(blk_cell BK106.out 10).trans rfl;have hcz50_11 : w47.cell? ⟨gb106,11,none⟩=some (.string a1_11):=(blk_cell BK106.out 11).trans rfl;have hcz50_12 : w47.cell? ⟨gb106,12,none⟩=some (.int .u32 a1_12):=(blk_cell BK106.out 12).trans rfl;have hcz50_13 : w47.cell? ⟨gb106,13,none⟩=some (.int .i64 a1_13):=(blk_cell BK106.out 13).trans rfl;have hcz50_14 : w47.cell? ⟨gb106,14,none⟩=some (.bool a1_14):=(blk_cell BK106.out 14).trans rfl;have hcz50_15 : w47.cell? ⟨gb106,15,none⟩=some (.slice A1_15 l1_15.length c1_15):=(blk_cell BK106.out 15).trans rfl;have hcz50_16 : w47.cell? ⟨gb106,16,none⟩=some (.slice A1_16 l1_16.length c1_16):=(blk_cell BK106.out 16).trans rfl;have hfz50_0:=blk_frozen BK106.out 0;have hfz50_1:=blk_frozen BK106.out 1;have hfz50_2:=blk_frozen BK106.out 2;have hfz50_3:=blk_frozen BK106.out 3;have hfz50_4:=blk_frozen BK106.out 4;have hfz50_5:=blk_frozen BK106.out 5;have hfz50_6:=blk_frozen BK106.out 6;have hfz50_7:=blk_frozen BK106.out 7;have hfz50_8:=blk_frozen BK106.out 8;have hfz50_9:=blk_frozen BK106.out 9;have hfz50_10:=blk_frozen BK106.out 10;have hfz50_11:=blk_frozen BK106.out 11;have hfz50_12:=blk_frozen BK106.out 12;have hfz50_13:=blk_frozen BK106.out 13;have hfz50_14:=blk_frozen BK106.out 14;have hfz50_15:=blk_frozen BK106.out 15;have hfz50_16:=blk_frozen BK106.out 16)|((with_reducible refine gate_callee (f:=30) rfl ?_);refine goesL_ (some 9) rfl rfl Try.func30 (by kernel_rfl) rfl #[.slice A0_15 l0_15.length c0_15,.slice A1_15 l1_15.length c1_15] rfl (by (try simp only [List.map_toArray,List.map_cons,List.map_nil]);first|done|rfl|(simp only [List.length_drop,List.length_take];rfl)) ?_;(with_reducible refine (api_TxState.calls k _ _ l0_15 _ _ l1_15 true _ ?side1 ?side2 ?side3 ?side4 A3.out).mono ?_);(case side1=>repeat (first|exact (Kd.C_below HR0_15.out HB.out)|(with_reducible refine Kd.C_alloc ?_ _)|(with_reducible refine Kd.C_drewN ?_ _)|(with_reducible refine Kd.C_drew ?_)));(case side2=>exact HC0_15.out);(case side3=>repeat (first|exact (Kd.C_below HR1_15.out HB.out)|(with_reducible refine Kd.C_alloc ?_ _)|(with_reducible refine Kd.C_drewN ?_ _)|(with_reducible refine Kd.C_drew ?_)));(case side4=>exact HC1_15.out);rintro e w' ⟨rfl,⟨nd,rfl⟩⟩;refine ⟨_,rfl,?_⟩)|(go_at_call 31;(with_reducible refine (api_Dirty.calls k _ _ l0_16 _ _ l1_16 true _ ?side1 ?side2 ?side3 ?side4 A5.out).mono ?_);(case side1=>repeat (first|exact (Kd.C_below HR0_16.out (by repeat (first|(with_reducible first|exact HB.out|apply below_alloc|apply pw_below_drewN|apply below_drew1|refine below_set ?_ GE105.out|refine below_set ?_ GE106.out)|exact HB.out)))|(with_reducible refine Kd.C_alloc ?_ _)|(with_reducible refine Kd.C_drewN ?_ _)|(with_reducible refine Kd.C_drew ?_)));(case side2=>exact HC0_16.out);(case side3=>repeat (first|exact (Kd.C_below HR1_16.out (by repeat (first|(with_reducible first|exact HB.out|apply below_alloc|apply pw_below_drewN|apply below_drew1|refine below_set ?_ GE105.out|refine below_set ?_ GE106.out)|exact HB.out)))|(with_reducible refine Kd.C_alloc ?_ _)|(with_reducible refine Kd.C_drewN ?_ _)|(with_reducible refine Kd.C_drew ?_)));(case side4=>exact HC1_16.out);rintro e w' ⟨rfl,⟨nd,rfl⟩⟩))
       go_ret
       exact ⟨by first|rfl|(simp [errW_none,errW_some] <;> rfl)|(simp [*,errW_none,errW_some] <;> rfl),by repeat (first|(with_reducible first|exact HB.out|apply below_alloc|apply pw_below_drewN|apply below_drew1|refine below_set ?_ GE105.out|refine below_set ?_ GE106.out)|exact HB.out)⟩
     ·rw [if_neg c9] at H
      have c9b0 : (a0_2 == a1_2)=false:=beq_eq_false_iff_ne.mpr c9
      have c9b1 : (a0_2 != a1_2)=true:=bne_iff_ne.mpr c9
      obtain rfl:=Option.some.inj H
      go_enter Try.func11,Try.ntmps11
      go_wp2_with (first|((with_reducible refine gate_dst (N:=2) rfl ?_);refine box_event ?hg (N:=2) ?hd (cs:=#[.int .i64 a0_0,.int .i64 a0_1,.int .u64 a0_2,.int .u64 a0_3,.int .u32 a0_4,.int .i64 a0_5,.int .i64 a0_6,.string a0_7,.string a0_8,.int .i64 a0_9,.int .i64 a0_10,.string a0_11,.int .u32 a0_12,.int .i64 a0_13,.bool a0_14,.slice A0_15 l0_15.length c0_15,.slice A0_16 l0_16.length c0_16]) (t:=35) ?hr ?_;(case hd=>rfl);(case hg=>rfl);(case hr=>first|(go_simp;done)|(go_simp;rfl));intro gb105 hg w51 hbox hb;have n0_:=Aside0.mk (below_step (by repeat (first|(with_reducible first|exact HB.out|apply below_alloc|apply pw_below_drewN|apply below_drew1)|exact HB.out)) hb);have n1_:=Aside0.mk (hbox);have n2_:=Aside0.mk ((by rw [hg];exact (below_size (by repeat (first|(with_reducible first|exact HB.out|apply below_alloc|apply pw_below_drewN|apply below_drew1)|exact HB.out))) : w.heap.size≤gb105));have n3_:=Aside0.mk ((by rw [hg];exact (below_size (by repeat (first|(with_reducible first|exact HB.out|apply below_alloc|apply pw_below_drewN|apply below_drew1)|exact HB.out))) : w.heap.size≤gb105));clear HB;have HB:=n0_;have BK105:=n1_;have GW105:=n2_;have GE105:=n3_;clear n0_ n1_ n2_ n3_;clear hb hbox hg)|((with_reducible refine gate_dst (N:=3) rfl ?_);refine box_event ?hg (N:=3) ?hd (cs:=#[.int .i64 a1_0,.int .i64 a1_1,.int .u64 a1_2,.int .u64 a1_3,.int .u32 a1_4,.int .i64 a1_5,.int .i64 a1_6,.string a1_7,.string a1_8,.int .i64 a1_9,.int .i64 a1_10,.string a1_11,.int .u32 a1_12,.int .i64 a1_13,.bool a1_14,.slice A1_15 l1_15.length c1_15,.slice A1_16 l1_16.length c1_16]) (t:=35) ?hr ?_;(case hd=>rfl);(case hg=>rfl);(case hr=>first|(go_simp;done)|(go_simp;rfl));intro gb106 hg w52 hbox hb;have n0_:=Aside0.mk (blk_below (g:=gb105) (o:=.cells #[.int .i64 a0_0,.int .i64 a0_1,.int .u64 a0_2,.int .u64 a0_3,.int .u32 a0_4,.int .i64 a0_5,.int .i64 a0_6,.string a0_7,.string a0_8,.int .i64 a0_9,.int .i64 a0_10,.string a0_11,.int .u32 a0_12,.int .i64 a0_13,.bool a0_14,.slice A0_15 l0_15.length c0_15,.slice A0_16 l0_16.length c0_16] 35 (0,0)) (by (with_reducible repeat (first|refine blk_drewN ?_ _|refine blk_drew ?_|refine blk_alloc ?_ _));exact BK105.out) hb);have n1_:=Aside0.mk (below_step (by repeat (first|(with_reducible first|exact HB.out|apply below_alloc|apply pw_below_drewN|apply below_drew1|refine below_set ?_ GE105.out)|exact HB.out)) hb);have n2_:=Aside0.mk (hbox);have n3_:=Aside0.mk ((by rw [hg];exact (below_size (by repeat (first|(with_reducible first|exact HB.out|apply below_alloc|apply pw_below_drewN|apply below_drew1|refine below_set ?_ GE105.out)|exact HB.out))) : w.heap.size≤gb106));have n4_:=Aside0.mk ((by rw [hg];exact (below_size (by repeat (first|(with_reducible first|exact HB.out|apply below_alloc|apply pw_below_drewN|apply below_drew1|refine below_set ?_ GE105.out)|exact HB.out))) : w.heap.size≤gb106));have n5_:=Aside0.mk ((by rw [hg];exact Nat.ne_of_lt (blk_lt (g:=gb105) (o:=.cells #[.int .i64 a0_0,.int .i64 a0_1,.int .u64 a0_2,.int .u64 a0_3,.int .u32 a0_4,.int .i64 a0_5,.int .i64 a0_6,.string a0_7,.string a0_8,.int .i64 a0_9,.int .i64 a0_10,.string a0_11,.int .u32 a0_12,.int .i64 a0_13,.bool a0_14,.slice A0_15 l0_15.length c0_15,.slice A0_16 l0_16.length c0_16] 35 (0,0)) (by (with_reducible repeat (first|refine blk_drewN ?_ _|refine blk_drew ?_|refine blk_alloc ?_ _));exact BK105.out)) : gb105≠gb106));have n6_:=Aside0.mk ((by rw [hg];exact Nat.ne_of_gt (blk_lt (g:=gb105) (o:=.cells #[.int .i64 a0_0,.int .i64 a0_1,.int .u64 a0_2,.int .u64 a0_3,.int .u32 a0_4,.int .i64 a0_5,.int .i64 a0_6,.string a0_7,.string a0_8,.int .i64 a0_9,.int .i64 a0_10,.string a0_11,.int .u32 a0_12,.int .i64 a0_13,.bool a0_14,.slice A0_15 l0_15.length c0_15,.slice A0_16 l0_16.length c0_16] 35 (0,0)) (by (with_reducible repeat (first|refine blk_drewN ?_ _|refine blk_drew ?_|refine blk_alloc ?_ _));exact BK105.out)) : gb106≠gb105));clear BK105;clear HB;have BK105:=n0_;have HB:=n1_;have BK106:=n2_;have GW106:=n3_;have GE106:=n4_;have NB105_106:=n5_;have NB106_105:=n6_;clear n0_ n1_ n2_ n3_ n4_ n5_ n6_;clear hb hbox hg;have hnb53:=NB105_106.out;have hnc53:=NB106_105.out;have hcz54_0 : w52.cell? ⟨gb105,0,none⟩=some (.int .i64 a0_0):=(blk_cell BK105.out 0).trans rfl;have hcz54_1 : w52.cell? ⟨gb105,1,none⟩=some (.int .i64 a0_1):=(blk_cell BK105.out 1).trans rfl;have hcz54_2 : w52.cell? ⟨gb105,2,none⟩=some (.int .u64 a0_2):=(blk_cell BK105.out 2).trans rfl;have hcz54_3 : w52.cell? ⟨gb105,3,none⟩=some (.int .u64 a0_3):=(blk_cell BK105.out 3).trans rfl;have hcz54_4 : w52.cell? ⟨gb105,4,none⟩=some (.int .u32 a0_4):=(blk_cell BK105.out 4).trans rfl;have hcz54_5 : w52.cell? ⟨gb105,5,none⟩=some (.int .i64 a0_5):=(blk_cell BK105.out 5).trans rfl;have hcz54_6 : w52.cell? ⟨gb105,6,none⟩=some (.int .i64 a0_6):=(blk_cell BK105.out 6).trans rfl;have hcz54_7 : w52.cell? ⟨gb105,7,none⟩=some (.string a0_7):=(blk_cell BK105.out 7).trans rfl;have hcz54_8 : w52.cell? ⟨gb105,8,none⟩=some (.string a0_8):=(blk_cell BK105.out 8).trans rfl;have hcz54_9 : w52.cell? ⟨gb105,9,none⟩=some (.int .i64 a0_9):=(blk_cell BK105.out 9).trans rfl;have hcz54_10 : w52.cell? ⟨gb105,10,none⟩=some (.int .i64 a0_10):=(blk_cell BK105.out 10).trans rfl;have hcz54_11 : w52.cell? ⟨gb105,11,none⟩=some (.string a0_11):=(blk_cell BK105.out 11).trans rfl;have hcz54_12 : w52.cell? ⟨gb105,12,none⟩=some (.int .u32 a0_12):=(blk_cell BK105.out 12).trans rfl;have hcz54_13 : w52.cell? ⟨gb105,13,none⟩=some (.int .i64 a0_13):=(blk_cell BK105.out 13).trans rfl;have hcz54_14 : w52.cell? ⟨gb105,14,none⟩=some (.bool a0_14):=(blk_cell BK105.out 14).trans rfl;have hcz54_15 : w52.cell? ⟨gb105,15,none⟩=some (.slice A0_15 l0_15.length c0_15):=(blk_cell BK105.out 15).trans rfl;have hcz54_16 : w52.cell? ⟨gb105,16,none⟩=some (.slice A0_16 l0_16.length c0_16):=(blk_cell BK105.out 16).trans rfl;have hfz54_0:=blk_frozen BK105.out 0;have hfz54_1:=blk_frozen BK105.out 1;have hfz54_2:=blk_frozen BK105.out 2;have hfz54_3:=blk_frozen BK105.out 3;have hfz54_4:=blk_frozen BK105.out 4;have hfz54_5:=blk_frozen BK105.out 5;have hfz54_6:=blk_frozen BK105.out 6;have hfz54_7:=blk_frozen BK105.out 7;have hfz54_8:=blk_frozen BK105.out 8;have hfz54_9:=blk_frozen BK105.out 9;have hfz54_10:=blk_frozen BK105.out 10;have hfz54_11:=blk_frozen BK105.out 11;have hfz54_12:=blk_frozen BK105.out 12;have hfz54_13:=blk_frozen BK105.out 13;have hfz54_14:=blk_frozen BK105.out 14;have hfz54_15:=blk_frozen BK105.out 15;have hfz54_16:=blk_frozen BK105.out 16;have hcz55_0 : w52.cell? ⟨gb106,0,none⟩=some (.int .i64 a1_0):=(blk_cell BK106.out 0).trans rfl;have hcz55_1 : w52.cell? ⟨gb106,1,none⟩=some (.int .i64 a1_1):=(blk_cell BK106.out 1).trans rfl;have hcz55_2 : w52.cell? ⟨gb106,2,none⟩=some (.int .u64 a1_2):=(blk_cell BK106.out 2).trans rfl;have hcz55_3 : w52.cell? ⟨gb106,3,none⟩=some (.int .u64 a1_3):=(blk_cell BK106.out 3).trans rfl;have hcz55_4 : w52.cell? ⟨gb106,4,none⟩=some (.int .u32 a1_4):=(blk_cell BK106.out 4).trans rfl;have hcz55_5 : w52.cell? ⟨gb106,5,none⟩=some (.int .i64 a1_5):=(blk_cell BK106.out 5).trans rfl;have hcz55_6 : w52.cell? ⟨gb106,6,none⟩=some (.int .i64 a1_6):=(blk_cell BK106.out 6).trans rfl;have hcz55_7 : w52.cell? ⟨gb106,7,none⟩=some (.string a1_7):=(blk_cell BK106.out 7).trans rfl;have hcz55_8 : w52.cell? ⟨gb106,8,none⟩=some (.string a1_8):=(blk_cell BK106.out 8).trans rfl;have hcz55_9 : w52.cell? ⟨gb106,9,none⟩=some (.int .i64 a1_9):=(blk_cell BK106.out 9).trans rfl;have hcz55_10 : w52.cell? ⟨gb106,10,none⟩=some (.int .i64 a1_10):=(blk_cell BK106.out 10).trans rfl;have hcz55_11 : w52.cell? ⟨gb106,11,none⟩=some (.string a1_11):=(blk_cell BK106.out 11).trans rfl;have hcz55_12 : w52.cell? ⟨gb106,12,none⟩=some (.int .u32 a1_12):=(blk_cell BK106.out 12).trans rfl;have hcz55_13 : w52.cell? ⟨gb106,13,none⟩=some (.int .i64 a1_13):=(blk_cell BK106.out 13).trans rfl;have hcz55_14 : w52.cell? ⟨gb106,14,none⟩=some (.bool a1_14):=(blk_cell BK106.out 14).trans rfl;have hcz55_15 : w52.cell? ⟨gb106,15,none⟩=some (.slice A1_15 l1_15.length c1_15):=(blk_cell BK106.out 15).trans rfl;have hcz55_16 : w52.cell? ⟨gb106,16,none⟩=some (.slice A1_16 l1_16.length c1_16):=(blk_cell BK106.out 16).trans rfl;have hfz55_0:=blk_frozen BK106.out 0;have hfz55_1:=blk_frozen BK106.out 1;have hfz55_2:=blk_frozen BK106.out 2;have hfz55_3:=blk_frozen BK106.out 3;have hfz55_4:=blk_frozen BK106.out 4;have hfz55_5:=blk_frozen BK106.out 5;have hfz55_6:=blk_frozen BK106.out 6;have hfz55_7:=blk_frozen BK106.out 7;have hfz55_8:=blk_frozen BK106.out 8;have hfz55_9:=blk_frozen BK106.out 9;have hfz55_10:=blk_frozen BK106.out 10;have hfz55_11:=blk_frozen BK106.out 11;have hfz55_12:=blk_frozen BK106.out 12;have hfz55_13:=blk_frozen BK106.out 13;have hfz55_14:=blk_frozen BK106.out 14;have hfz55_15:=blk_frozen BK106.out 15;have hfz55_16:=blk_frozen BK106.out 16)|((with_reducible refine gate_callee (f:=30) rfl ?_);refine goesL_ (some 9) rfl rfl Try.func30 (by kernel_rfl) rfl #[.slice A0_15 l0_15.length c0_15,.slice A1_15 l1_15.length c1_15] rfl (by (try simp only [List.map_toArray,List.map_cons,List.map_nil]);first|done|rfl|(simp only [List.length_drop,List.length_take];rfl)) ?_;(with_reducible refine (api_TxState.calls k _ _ l0_15 _ _ l1_15 true _ ?side1 ?side2 ?side3 ?side4 A3.out).mono ?_);(case side1=>repeat (first|exact (Kd.C_below HR0_15.out HB.out)|(with_reducible refine Kd.C_alloc ?_ _)|(with_reducible refine Kd.C_drewN ?_ _)|(with_reducible refine Kd.C_drew ?_)));(case side2=>exact HC0_15.out);(case side3=>repeat (first|exact (Kd.C_below HR1_15.out HB.out)|(with_reducible refine Kd.C_alloc ?_ _)|(with_reducible refine Kd.C_drewN ?_ _)|(with_reducible refine Kd.C_drew ?_)));(case side4=>exact HC1_15.out);rintro e w' ⟨rfl,⟨nd,rfl⟩⟩;refine ⟨_,rfl,?_⟩)|(go_at_call 31;(with_reducible refine (api_Dirty.calls k _ _ l0_16 _ _ l1_16 true _ ?side1 ?side2 ?side3 ?side4 A5.out).mono ?_);(case side1=>repeat (first|exact (Kd.C_below HR0_16.out (by repeat (first|(with_reducible first|exact HB.out|apply below_alloc|apply pw_below_drewN|apply below_drew1|refine below_set ?_ GE105.out|refine below_set ?_ GE106.out)|exact HB.out)))|(with_reducible refine Kd.C_alloc ?_ _)|(with_reducible refine Kd.C_drewN ?_ _)|(with_reducible refine Kd.C_drew ?_)));(case side2=>exact HC0_16.out);(case side3=>repeat (first|exact (Kd.C_below HR1_16.out (by repeat (first|(with_reducible first|exact HB.out|apply below_alloc|apply pw_below_drewN|apply below_drew1|refine below_set ?_ GE105.out|refine below_set ?_ GE106.out)|exact HB.out)))|(with_reducible refine Kd.C_alloc ?_ _)|(with_reducible refine Kd.C_drewN ?_ _)|(with_reducible refine Kd.C_drew ?_)));(case side4=>exact HC1_16.out);rintro e w' ⟨rfl,⟨nd,rfl⟩⟩))
      go_ret
      exact ⟨by first|rfl|(simp [errW_none,errW_some] <;> rfl)|(simp [*,errW_none,errW_some] <;> rfl),by repeat (first|(with_reducible first|exact HB.out|apply below_alloc|apply pw_below_drewN|apply below_drew1|refine below_set ?_ GE105.out|refine below_set ?_ GE106.out)|exact HB.out)⟩
    ·rw [if_neg c8] at H
     have c8b0 : (a0_1 == a1_1)=false:=beq_eq_false_iff_ne.mpr c8
     have c8b1 : (a0_1 != a1_1)=true:=bne_iff_ne.mpr c8
     obtain rfl:=Option.some.inj H
     go_enter Try.func11,Try.ntmps11
     go_wp2_with (first|((with_reducible refine gate_dst (N:=2) rfl ?_);refine box_event ?hg (N:=2) ?hd (cs:=#[.int .i64 a0_0,.int .i64 a0_1,.int .u64 a0_2,.int .u64 a0_3,.int .u32 a0_4,.int .i64 a0_5,.int .i64 a0_6,.string a0_7,.string a0_8,.int .i64 a0_9,.int .i64 a0_10,.string a0_11,.int .u32 a0_12,.int .i64 a0_13,.bool a0_14,.slice A0_15 l0_15.length c0_15,.slice A0_16 l0_16.length c0_16]) (t:=35) ?hr ?_;(case hd=>rfl);(case hg=>rfl);(case hr=>first|(go_simp;done)|(go_simp;rfl));intro gb105 hg w56 hbox hb;have n0_:=Aside0.mk (below_step (by repeat (first|(with_reducible first|exact HB.out|apply below_alloc|apply pw_below_drewN|apply below_drew1)|exact HB.out)) hb);have n1_:=Aside0.mk (hbox);have n2_:=Aside0.mk ((by rw [hg];exact (below_size (by repeat (first|(with_reducible first|exact HB.out|apply below_alloc|apply pw_below_drewN|apply below_drew1)|exact HB.out))) : w.heap.size≤gb105));have n3_:=Aside0.mk ((by rw [hg];exact (below_size (by repeat (first|(with_reducible first|exact HB.out|apply below_alloc|apply pw_below_drewN|apply below_drew1)|exact HB.out))) : w.heap.size≤gb105));clear HB;have HB:=n0_;have BK105:=n1_;have GW105:=n2_;have GE105:=n3_;clear n0_ n1_ n2_ n3_;clear hb hbox hg)|((with_reducible refine gate_dst (N:=3) rfl ?_);refine box_event ?hg (N:=3) ?hd (cs:=#[.int .i64 a1_0,.int .i64 a1_1,.int .u64 a1_2,.int .u64 a1_3,.int .u32 a1_4,.int .i64 a1_5,.int .i64 a1_6,.string a1_7,.string a1_8,.int .i64 a1_9,.int .i64 a1_10,.string a1_11,.int .u32 a1_12,.int .i64 a1_13,.bool a1_14,.slice A1_15 l1_15.length c1_15,.slice A1_16 l1_16.length c1_16]) (t:=35) ?hr ?_;(case hd=>rfl);(case hg=>rfl);(case hr=>first|(go_simp;done)|(go_simp;rfl));intro gb106 hg w57 hbox hb;have n0_:=Aside0.mk (blk_below (g:=gb105) (o:=.cells #[.int .i64 a0_0,.int .i64 a0_1,.int .u64 a0_2,.int .u64 a0_3,.int .u32 a0_4,.int .i64 a0_5,.int .i64 a0_6,.string a0_7,.string a0_8,.int .i64 a0_9,.int .i64 a0_10,.string a0_11,.int .u32 a0_12,.int .i64 a0_13,.bool a0_14,.slice A0_15 l0_15.length c0_15,.slice A0_16 l0_16.length c0_16] 35 (0,0)) (by (with_reducible repeat (first|refine blk_drewN ?_ _|refine blk_drew ?_|refine blk_alloc ?_ _));exact BK105.out) hb);have n1_:=Aside0.mk (below_step (by repeat (first|(with_reducible first|exact HB.out|apply below_alloc|apply pw_below_drewN|apply below_drew1|refine below_set ?_ GE105.out)|exact HB.out)) hb);have n2_:=Aside0.mk (hbox);have n3_:=Aside0.mk ((by rw [hg];exact (below_size (by repeat (first|(with_reducible first|exact HB.out|apply below_alloc|apply pw_below_drewN|apply below_drew1|refine below_set ?_ GE105.out)|exact HB.out))) : w.heap.size≤gb106));have n4_:=Aside0.mk ((by rw [hg];exact (below_size (by repeat (first|(with_reducible first|exact HB.out|apply below_alloc|apply pw_below_drewN|apply below_drew1|refine below_set ?_ GE105.out)|exact HB.out))) : w.heap.size≤gb106));have n5_:=Aside0.mk ((by rw [hg];exact Nat.ne_of_lt (blk_lt (g:=gb105) (o:=.cells #[.int .i64 a0_0,.int .i64 a0_1,.int .u64 a0_2,.int .u64 a0_3,.int .u32 a0_4,.int .i64 a0_5,.int .i64 a0_6,.string a0_7,.string a0_8,.int .i64 a0_9,.int .i64 a0_10,.string a0_11,.int .u32 a0_12,.int .i64 a0_13,.bool a0_14,.slice A0_15 l0_15.length c0_15,.slice A0_16 l0_16.length c0_16] 35 (0,0)) (by (with_reducible repeat (first|refine blk_drewN ?_ _|refine blk_drew ?_|refine blk_alloc ?_ _));exact BK105.out)) : gb105≠gb106));have n6_:=Aside0.mk ((by rw [hg];exact Nat.ne_of_gt (blk_lt (g:=gb105) (o:=.cells #[.int .i64 a0_0,.int .i64 a0_1,.int .u64 a0_2,.int .u64 a0_3,.int .u32 a0_4,.int .i64 a0_5,.int .i64 a0_6,.string a0_7,.string a0_8,.int .i64 a0_9,.int .i64 a0_10,.string a0_11,.int .u32 a0_12,.int .i64 a0_13,.bool a0_14,.slice A0_15 l0_15.length c0_15,.slice A0_16 l0_16.length c0_16] 35 (0,0)) (by (with_reducible repeat (first|refine blk_drewN ?_ _|refine blk_drew ?_|refine blk_alloc ?_ _));exact BK105.out)) : gb106≠gb105));clear BK105;clear HB;have BK105:=n0_;have HB:=n1_;have BK106:=n2_;have GW106:=n3_;have GE106:=n4_;have NB105_106:=n5_;have NB106_105:=n6_;clear n0_ n1_ n2_ n3_ n4_ n5_ n6_;clear hb hbox hg;have hnb58:=NB105_106.out;have hnc58:=NB106_105.out;have hcz59_0 : w57.cell? ⟨gb105,0,none⟩=some (.int .i64 a0_0):=(blk_cell BK105.out 0).trans rfl;have hcz59_1 : w57.cell? ⟨gb105,1,none⟩=some (.int .i64 a0_1):=(blk_cell BK105.out 1).trans rfl;have hcz59_2 : w57.cell? ⟨gb105,2,none⟩=some (.int .u64 a0_2):=(blk_cell BK105.out 2).trans rfl;have hcz59_3 : w57.cell? ⟨gb105,3,none⟩=some (.int .u64 a0_3):=(blk_cell BK105.out 3).trans rfl;have hcz59_4 : w57.cell? ⟨gb105,4,none⟩=some (.int .u32 a0_4):=(blk_cell BK105.out 4).trans rfl;have hcz59_5 : w57.cell? ⟨gb105,5,none⟩=some (.int .i64 a0_5):=(blk_cell BK105.out 5).trans rfl;have hcz59_6 : w57.cell? ⟨gb105,6,none⟩=some (.int .i64 a0_6):=(blk_cell BK105.out 6).trans rfl;have hcz59_7 : w57.cell? ⟨gb105,7,none⟩=some (.string a0_7):=(blk_cell BK105.out 7).trans rfl;have hcz59_8 : w57.cell? ⟨gb105,8,none⟩=some (.string a0_8):=(blk_cell BK105.out 8).trans rfl;have hcz59_9 : w57.cell? ⟨gb105,9,none⟩=some (.int .i64 a0_9):=(blk_cell BK105.out 9).trans rfl;have hcz59_10 : w57.cell? ⟨gb105,10,none⟩=some (.int .i64 a0_10):=(blk_cell BK105.out 10).trans rfl;have hcz59_11 : w57.cell? ⟨gb105,11,none⟩=some (.string a0_11):=(blk_cell BK105.out 11).trans rfl;have hcz59_12 : w57.cell? ⟨gb105,12,none⟩=some (.int .u32 a0_12):=(blk_cell BK105.out 12).trans rfl;have hcz59_13 : w57.cell? ⟨gb105,13,none⟩=some (.int .i64 a0_13):=(blk_cell BK105.out 13).trans rfl;have hcz59_14 : w57.cell? ⟨gb105,14,none⟩=some (.bool a0_14):=(blk_cell BK105.out 14).trans rfl;have hcz59_15 : w57.cell? ⟨gb105,15,none⟩=some (.slice A0_15 l0_15.length c0_15):=(blk_cell BK105.out 15).trans rfl;have hcz59_16 : w57.cell? ⟨gb105,16,none⟩=some (.slice A0_16 l0_16.length c0_16):=(blk_cell BK105.out 16).trans rfl;have hfz59_0:=blk_frozen BK105.out 0;have hfz59_1:=blk_frozen BK105.out 1;have hfz59_2:=blk_frozen BK105.out 2;have hfz59_3:=blk_frozen BK105.out 3;have hfz59_4:=blk_frozen BK105.out 4;have hfz59_5:=blk_frozen BK105.out 5;have hfz59_6:=blk_frozen BK105.out 6;have hfz59_7:=blk_frozen BK105.out 7;have hfz59_8:=blk_frozen BK105.out 8;have hfz59_9:=blk_frozen BK105.out 9;have hfz59_10:=blk_frozen BK105.out 10;have hfz59_11:=blk_frozen BK105.out 11;have hfz59_12:=blk_frozen BK105.out 12;have hfz59_13:=blk_frozen BK105.out 13;have hfz59_14:=blk_frozen BK105.out 14;have hfz59_15:=blk_frozen BK105.out 15;have hfz59_16:=blk_frozen BK105.out 16;have hcz60_0 : w57.cell? ⟨gb106,0,none⟩=some (.int .i64 a1_0):=(blk_cell BK106.out 0).trans rfl;have hcz60_1 : w57.cell? ⟨gb106,1,none⟩=some (.int .i64 a1_1):=(blk_cell BK106.out 1).trans rfl;have hcz60_2 : w57.cell? ⟨gb106,2,none⟩=some (.int .u64 a1_2):=(blk_cell BK106.out 2).trans rfl;have hcz60_3 : w57.cell? ⟨gb106,3,none⟩=some (.int .u64 a1_3):=(blk_cell BK106.out 3).trans rfl;have hcz60_4 : w57.cell? ⟨gb106,4,none⟩=some (.int .u32 a1_4):=(blk_cell BK106.out 4).trans rfl;have hcz60_5 : w57.cell? ⟨gb106,5,none⟩=some (.int .i64 a1_5):=(blk_cell BK106.out 5).trans rfl;have hcz60_6 : w57.cell? ⟨gb106,6,none⟩=some (.int .i64 a1_6):=(blk_cell BK106.out 6).trans rfl;have hcz60_7 : w57.cell? ⟨gb106,7,none⟩=some (.string a1_7):=(blk_cell BK106.out 7).trans rfl;have hcz60_8 : w57.cell? ⟨gb106,8,none⟩=some (.string a1_8):=(blk_cell BK106.out 8).trans rfl;have hcz60_9 : w57.cell? ⟨gb106,9,none⟩=some (.int .i64 a1_9):=(blk_cell BK106.out 9).trans rfl;have hcz60_10 : w57.cell? ⟨gb106,10,none⟩=some (.int .i64 a1_10):=(blk_cell BK106.out 10).trans rfl;have hcz60_11 : w57.cell? ⟨gb106,11,none⟩=some (.string a1_11):=(blk_cell BK106.out 11).trans rfl;have hcz60_12 : w57.cell? ⟨gb106,12,none⟩=some (.int .u32 a1_12):=(blk_cell BK106.out 12).trans rfl;have hcz60_13 : w57.cell? ⟨gb106,13,none⟩=some (.int .i64 a1_13):=(blk_cell BK106.out 13).trans rfl;have hcz60_14 : w57.cell? ⟨gb106,14,none⟩=some (.bool a1_14):=(blk_cell BK106.out 14).trans rfl;have hcz60_15 : w57.cell? ⟨gb106,15,none⟩=some (.slice A1_15 l1_15.length c1_15):=(blk_cell BK106.out 15).trans rfl;have hcz60_16 : w57.cell? ⟨gb106,16,none⟩=some (.slice A1_16 l1_16.length c1_16):=(blk_cell BK106.out 16).trans rfl;have hfz60_0:=blk_frozen BK106.out 0;have hfz60_1:=blk_frozen BK106.out 1;have hfz60_2:=blk_frozen BK106.out 2;have hfz60_3:=blk_frozen BK106.out 3;have hfz60_4:=blk_frozen BK106.out 4;have hfz60_5:=blk_frozen BK106.out 5;have hfz60_6:=blk_frozen BK106.out 6;have hfz60_7:=blk_frozen BK106.out 7;have hfz60_8:=blk_frozen BK106.out 8;have hfz60_9:=blk_frozen BK106.out 9;have hfz60_10:=blk_frozen BK106.out 10;have hfz60_11:=blk_frozen BK106.out 11;have hfz60_12:=blk_frozen BK106.out 12;have hfz60_13:=blk_frozen BK106.out 13;have hfz60_14:=blk_frozen BK106.out 14;have hfz60_15:=blk_frozen BK106.out 15;have hfz60_16:=blk_frozen BK106.out 16)|((with_reducible refine gate_callee (f:=30) rfl ?_);refine goesL_ (some 9) rfl rfl Try.func30 (by kernel_rfl) rfl #[.slice A0_15 l0_15.length c0_15,.slice A1_15 l1_15.length c1_15] rfl (by (try simp only [List.map_toArray,List.map_cons,List.map_nil]);first|done|rfl|(simp only [List.length_drop,List.length_take];rfl)) ?_;(with_reducible refine (api_TxState.calls k _ _ l0_15 _ _ l1_15 true _ ?side1 ?side2 ?side3 ?side4 A3.out).mono ?_);(case side1=>repeat (first|exact (Kd.C_below HR0_15.out HB.out)|(with_reducible refine Kd.C_alloc ?_ _)|(with_reducible refine Kd.C_drewN ?_ _)|(with_reducible refine Kd.C_drew ?_)));(case side2=>exact HC0_15.out);(case side3=>repeat (first|exact (Kd.C_below HR1_15.out HB.out)|(with_reducible refine Kd.C_alloc ?_ _)|(with_reducible refine Kd.C_drewN ?_ _)|(with_reducible refine Kd.C_drew ?_)));(case side4=>exact HC1_15.out);rintro e w' ⟨rfl,⟨nd,rfl⟩⟩;refine ⟨_,rfl,?_⟩)|(go_at_call 31;(with_reducible refine (api_Dirty.calls k _ _ l0_16 _ _ l1_16 true _ ?side1 ?side2 ?side3 ?side4 A5.out).mono ?_);(case side1=>repeat (first|exact (Kd.C_below HR0_16.out (by repeat (first|(with_reducible first|exact HB.out|apply below_alloc|apply pw_below_drewN|apply below_drew1|refine below_set ?_ GE105.out|refine below_set ?_ GE106.out)|exact HB.out)))|(with_reducible refine Kd.C_alloc ?_ _)|(with_reducible refine Kd.C_drewN ?_ _)|(with_reducible refine Kd.C_drew ?_)));(case side2=>exact HC0_16.out);(case side3=>repeat (first|exact (Kd.C_below HR1_16.out (by repeat (first|(with_reducible first|exact HB.out|apply below_alloc|apply pw_below_drewN|apply below_drew1|refine below_set ?_ GE105.out|refine below_set ?_ GE106.out)|exact HB.out)))|(with_reducible refine Kd.C_alloc ?_ _)|(with_reducible refine Kd.C_drewN ?_ _)|(with_reducible refine Kd.C_drew ?_)));(case side4=>exact HC1_16.out);rintro e w' ⟨rfl,⟨nd,rfl⟩⟩))
     go_ret
     exact ⟨by first|rfl|(simp [errW_none,errW_some] <;> rfl)|(simp [*,errW_none,errW_some] <;> rfl),by repeat (first|(with_reducible first|exact HB.out|apply below_alloc|apply pw_below_drewN|apply below_drew1|refine below_set ?_ GE105.out|refine below_set ?_ GE106.out)|exact HB.out)⟩
   ·rw [if_neg c7] at H
    have c7b0 : (a0_0 == a1_0)=false:=beq_eq_false_iff_ne.mpr c7
    have c7b1 : (a0_0 != a1_0)=true:=bne_iff_ne.mpr c7
    obtain rfl:=Option.some.inj H
    go_enter Try.func11,Try.ntmps11
    go_wp2_with (first|((with_reducible refine gate_dst (N:=2) rfl ?_);refine box_event ?hg (N:=2) ?hd (cs:=#[.int .i64 a0_0,.int .i64 a0_1,.int .u64 a0_2,.int .u64 a0_3,.int .u32 a0_4,.int .i64 a0_5,.int .i64 a0_6,.string a0_7,.string a0_8,.int .i64 a0_9,.int .i64 a0_10,.string a0_11,.int .u32 a0_12,.int .i64 a0_13,.bool a0_14,.slice A0_15 l0_15.length c0_15,.slice A0_16 l0_16.length c0_16]) (t:=35) ?hr ?_;(case hd=>rfl);(case hg=>rfl);(case hr=>first|(go_simp;done)|(go_simp;rfl));intro gb105 hg w61 hbox hb;have n0_:=Aside0.mk (below_step (by repeat (first|(with_reducible first|exact HB.out|apply below_alloc|apply pw_below_drewN|apply below_drew1)|exact HB.out)) hb);have n1_:=Aside0.mk (hbox);have n2_:=Aside0.mk ((by rw [hg];exact (below_size (by repeat (first|(with_reducible first|exact HB.out|apply below_alloc|apply pw_below_drewN|apply below_drew1)|exact HB.out))) : w.heap.size≤gb105));have n3_:=Aside0.mk ((by rw [hg];exact (below_size (by repeat (first|(with_reducible first|exact HB.out|apply below_alloc|apply pw_below_drewN|apply below_drew1)|exact HB.out))) : w.heap.size≤gb105));clear HB;have HB:=n0_;have BK105:=n1_;have GW105:=n2_;have GE105:=n3_;clear n0_ n1_ n2_ n3_;clear hb hbox hg)|((with_reducible refine gate_dst (N:=3) rfl ?_);refine box_event ?hg (N:=3) ?hd (cs:=#[.int .i64 a1_0,.int .i64 a1_1,.int .u64 a1_2,.int .u64 a1_3,.int .u32 a1_4,.int .i64 a1_5,.int .i64 a1_6,.string a1_7,.string a1_8,.int .i64 a1_9,.int .i64 a1_10,.string a1_11,.int .u32 a1_12,.int .i64 a1_13,.bool a1_14,.slice A1_15 l1_15.length c1_15,.slice A1_16 l1_16.length c1_16]) (t:=35) ?hr ?_;(case hd=>rfl);(case hg=>rfl);(case hr=>first|(go_simp;done)|(go_simp;rfl));intro gb106 hg w62 hbox hb;have n0_:=Aside0.mk (blk_below (g:=gb105) (o:=.cells #[.int .i64 a0_0,.int .i64 a0_1,.int .u64 a0_2,.int .u64 a0_3,.int .u32 a0_4,.int .i64 a0_5,.int .i64 a0_6,.string a0_7,.string a0_8,.int .i64 a0_9,.int .i64 a0_10,.string a0_11,.int .u32 a0_12,.int .i64 a0_13,.bool a0_14,.slice A0_15 l0_15.length c0_15,.slice A0_16 l0_16.length c0_16] 35 (0,0)) (by (with_reducible repeat (first|refine blk_drewN ?_ _|refine blk_drew ?_|refine blk_alloc ?_ _));exact BK105.out) hb);have n1_:=Aside0.mk (below_step (by repeat (first|(with_reducible first|exact HB.out|apply below_alloc|apply pw_below_drewN|apply below_drew1|refine below_set ?_ GE105.out)|exact HB.out)) hb);have n2_:=Aside0.mk (hbox);have n3_:=Aside0.mk ((by rw [hg];exact (below_size (by repeat (first|(with_reducible first|exact HB.out|apply below_alloc|apply pw_below_drewN|apply below_drew1|refine below_set ?_ GE105.out)|exact HB.out))) : w.heap.size≤gb106));have n4_:=Aside0.mk ((by rw [hg];exact (below_size (by repeat (first|(with_reducible first|exact HB.out|apply below_alloc|apply pw_below_drewN|apply below_drew1|refine below_set ?_ GE105.out)|exact HB.out))) : w.heap.size≤gb106));have n5_:=Aside0.mk ((by rw [hg];exact Nat.ne_of_lt (blk_lt (g:=gb105) (o:=.cells #[.int .i64 a0_0,.int .i64 a0_1,.int .u64 a0_2,.int .u64 a0_3,.int .u32 a0_4,.int .i64 a0_5,.int .i64 a0_6,.string a0_7,.string a0_8,.int .i64 a0_9,.int .i64 a0_10,.string a0_11,.int .u32 a0_12,.int .i64 a0_13,.bool a0_14,.slice A0_15 l0_15.length c0_15,.slice A0_16 l0_16.length c0_16] 35 (0,0)) (by (with_reducible repeat (first|refine blk_drewN ?_ _|refine blk_drew ?_|refine blk_alloc ?_ _));exact BK105.out)) : gb105≠gb106));have n6_:=Aside0.mk ((by rw [hg];exact Nat.ne_of_gt (blk_lt (g:=gb105) (o:=.cells #[.int .i64 a0_0,.int .i64 a0_1,.int .u64 a0_2,.int .u64 a0_3,.int .u32 a0_4,.int .i64 a0_5,.int .i64 a0_6,.string a0_7,.string a0_8,.int .i64 a0_9,.int .i64 a0_10,.string a0_11,.int .u32 a0_12,.int .i64 a0_13,.bool a0_14,.slice A0_15 l0_15.length c0_15,.slice A0_16 l0_16.length c0_16] 35 (0,0)) (by (with_reducible repeat (first|refine blk_drewN ?_ _|refine blk_drew ?_|refine blk_alloc ?_ _));exact BK105.out)) : gb106≠gb105));clear BK105;clear HB;have BK105:=n0_;have HB:=n1_;have BK106:=n2_;have GW106:=n3_;have GE106:=n4_;have NB105_106:=n5_;have NB106_105:=n6_;clear n0_ n1_ n2_ n3_ n4_ n5_ n6_;clear hb hbox hg;have hnb63:=NB105_106.out;have hnc63:=NB106_105.out;have hcz64_0 : w62.cell? ⟨gb105,0,none⟩=some (.int .i64 a0_0):=(blk_cell BK105.out 0).trans rfl;have hcz64_1 : w62.cell? ⟨gb105,1,none⟩=some (.int .i64 a0_1):=(blk_cell BK105.out 1).trans rfl;have hcz64_2 : w62.cell? ⟨gb105,2,none⟩=some (.int .u64 a0_2):=(blk_cell BK105.out 2).trans rfl;have hcz64_3 : w62.cell? ⟨gb105,3,none⟩=some (.int .u64 a0_3):=(blk_cell BK105.out 3).trans rfl;have hcz64_4 : w62.cell? ⟨gb105,4,none⟩=some (.int .u32 a0_4):=(blk_cell BK105.out 4).trans rfl;have hcz64_5 : w62.cell? ⟨gb105,5,none⟩=some (.int .i64 a0_5):=(blk_cell BK105.out 5).trans rfl;have hcz64_6 : w62.cell? ⟨gb105,6,none⟩=some (.int .i64 a0_6):=(blk_cell BK105.out 6).trans rfl;have hcz64_7 : w62.cell? ⟨gb105,7,none⟩=some (.string a0_7):=(blk_cell BK105.out 7).trans rfl;have hcz64_8 : w62.cell? ⟨gb105,8,none⟩=some (.string a0_8):=(blk_cell BK105.out 8).trans rfl;have hcz64_9 : w62.cell? ⟨gb105,9,none⟩=some (.int .i64 a0_9):=(blk_cell BK105.out 9).trans rfl;have hcz64_10 : w62.cell? ⟨gb105,10,none⟩=some (.int .i64 a0_10):=(blk_cell BK105.out 10).trans rfl;have hcz64_11 : w62.cell? ⟨gb105,11,none⟩=some (.string a0_11):=(blk_cell BK105.out 11).trans rfl;have hcz64_12 : w62.cell? ⟨gb105,12,none⟩=some (.int .u32 a0_12):=(blk_cell BK105.out 12).trans rfl;have hcz64_13 : w62.cell? ⟨gb105,13,none⟩=some (.int .i64 a0_13):=(blk_cell BK105.out 13).trans rfl;have hcz64_14 : w62.cell? ⟨gb105,14,none⟩=some (.bool a0_14):=(blk_cell BK105.out 14).trans rfl;have hcz64_15 : w62.cell? ⟨gb105,15,none⟩=some (.slice A0_15 l0_15.length c0_15):=(blk_cell BK105.out 15).trans rfl;have hcz64_16 : w62.cell? ⟨gb105,16,none⟩=some (.slice A0_16 l0_16.length c0_16):=(blk_cell BK105.out 16).trans rfl;have hfz64_0:=blk_frozen BK105.out 0;have hfz64_1:=blk_frozen BK105.out 1;have hfz64_2:=blk_frozen BK105.out 2;have hfz64_3:=blk_frozen BK105.out 3;have hfz64_4:=blk_frozen BK105.out 4;have hfz64_5:=blk_frozen BK105.out 5;have hfz64_6:=blk_frozen BK105.out 6;have hfz64_7:=blk_frozen BK105.out 7;have hfz64_8:=blk_frozen BK105.out 8;have hfz64_9:=blk_frozen BK105.out 9;have hfz64_10:=blk_frozen BK105.out 10;have hfz64_11:=blk_frozen BK105.out 11;have hfz64_12:=blk_frozen BK105.out 12;have hfz64_13:=blk_frozen BK105.out 13;have hfz64_14:=blk_frozen BK105.out 14;have hfz64_15:=blk_frozen BK105.out 15;have hfz64_16:=blk_frozen BK105.out 16;have hcz65_0 : w62.cell? ⟨gb106,0,none⟩=some (.int .i64 a1_0):=(blk_cell BK106.out 0).trans rfl;have hcz65_1 : w62.cell? ⟨gb106,1,none⟩=some (.int .i64 a1_1):=(blk_cell BK106.out 1).trans rfl;have hcz65_2 : w62.cell? ⟨gb106,2,none⟩=some (.int .u64 a1_2):=(blk_cell BK106.out 2).trans rfl;have hcz65_3 : w62.cell? ⟨gb106,3,none⟩=some (.int .u64 a1_3):=(blk_cell BK106.out 3).trans rfl;have hcz65_4 : w62.cell? ⟨gb106,4,none⟩=some (.int .u32 a1_4):=(blk_cell BK106.out 4).trans rfl;have hcz65_5 : w62.cell? ⟨gb106,5,none⟩=some (.int .i64 a1_5):=(blk_cell BK106.out 5).trans rfl;have hcz65_6 : w62.cell? ⟨gb106,6,none⟩=some (.int .i64 a1_6):=(blk_cell BK106.out 6).trans rfl;have hcz65_7 : w62.cell? ⟨gb106,7,none⟩=some (.string a1_7):=(blk_cell BK106.out 7).trans rfl;have hcz65_8 : w62.cell? ⟨gb106,8,none⟩=some (.string a1_8):=(blk_cell BK106.out 8).trans rfl;have hcz65_9 : w62.cell? ⟨gb106,9,none⟩=some (.int .i64 a1_9):=(blk_cell BK106.out 9).trans rfl;have hcz65_10 : w62.cell? ⟨gb106,10,none⟩=some (.int .i64 a1_10):=(blk_cell BK106.out 10).trans rfl;have hcz65_11 : w62.cell? ⟨gb106,11,none⟩=some (.string a1_11):=(blk_cell BK106.out 11).trans rfl;have hcz65_12 : w62.cell? ⟨gb106,12,none⟩=some (.int .u32 a1_12):=(blk_cell BK106.out 12).trans rfl;have hcz65_13 : w62.cell? ⟨gb106,13,none⟩=some (.int .i64 a1_13):=(blk_cell BK106.out 13).trans rfl;have hcz65_14 : w62.cell? ⟨gb106,14,none⟩=some (.bool a1_14):=(blk_cell BK106.out 14).trans rfl;have hcz65_15 : w62.cell? ⟨gb106,15,none⟩=some (.slice A1_15 l1_15.length c1_15):=(blk_cell BK106.out 15).trans rfl;have hcz65_16 : w62.cell? ⟨gb106,16,none⟩=some (.slice A1_16 l1_16.length c1_16):=(blk_cell BK106.out 16).trans rfl;have hfz65_0:=blk_frozen BK106.out 0;have hfz65_1:=blk_frozen BK106.out 1;have hfz65_2:=blk_frozen BK106.out 2;have hfz65_3:=blk_frozen BK106.out 3;have hfz65_4:=blk_frozen BK106.out 4;have hfz65_5:=blk_frozen BK106.out 5;have hfz65_6:=blk_frozen BK106.out 6;have hfz65_7:=blk_frozen BK106.out 7;have hfz65_8:=blk_frozen BK106.out 8;have hfz65_9:=blk_frozen BK106.out 9;have hfz65_10:=blk_frozen BK106.out 10;have hfz65_11:=blk_frozen BK106.out 11;have hfz65_12:=blk_frozen BK106.out 12;have hfz65_13:=blk_frozen BK106.out 13;have hfz65_14:=blk_frozen BK106.out 14;have hfz65_15:=blk_frozen BK106.out 15;have hfz65_16:=blk_frozen BK106.out 16)|((with_reducible refine gate_callee (f:=30) rfl ?_);refine goesL_ (some 9) rfl rfl Try.func30 (by kernel_rfl) rfl #[.slice A0_15 l0_15.length c0_15,.slice A1_15 l1_15.length c1_15] rfl (by (try simp only [List.map_toArray,List.map_cons,List.map_nil]);first|done|rfl|(simp only [List.length_drop,List.length_take];rfl)) ?_;(with_reducible refine (api_TxState.calls k _ _ l0_15 _ _ l1_15 true _ ?side1 ?side2 ?side3 ?side4 A3.out).mono ?_);(case side1=>repeat (first|exact (Kd.C_below HR0_15.out HB.out)|(with_reducible refine Kd.C_alloc ?_ _)|(with_reducible refine Kd.C_drewN ?_ _)|(with_reducible refine Kd.C_drew ?_)));(case side2=>exact HC0_15.out);(case side3=>repeat (first|exact (Kd.C_below HR1_15.out HB.out)|(with_reducible refine Kd.C_alloc ?_ _)|(with_reducible refine Kd.C_drewN ?_ _)|(with_reducible refine Kd.C_drew ?_)));(case side4=>exact HC1_15.out);rintro e w' ⟨rfl,⟨nd,rfl⟩⟩;refine ⟨_,rfl,?_⟩)|(go_at_call 31;(with_reducible refine (api_Dirty.calls k _ _ l0_16 _ _ l1_16 true _ ?side1 ?side2 ?side3 ?side4 A5.out).mono ?_);(case side1=>repeat (first|exact (Kd.C_below HR0_16.out (by repeat (first|(with_reducible first|exact HB.out|apply below_alloc|apply pw_below_drewN|apply below_drew1|refine below_set ?_ GE105.out|refine below_set ?_ GE106.out)|exact HB.out)))|(with_reducible refine Kd.C_alloc ?_ _)|(with_reducible refine Kd.C_drewN ?_ _)|(with_reducible refine Kd.C_drew ?_)));(case side2=>exact HC0_16.out);(case side3=>repeat (first|exact (Kd.C_below HR1_16.out (by repeat (first|(with_reducible first|exact HB.out|apply below_alloc|apply pw_below_drewN|apply below_drew1|refine below_set ?_ GE105.out|refine below_set ?_ GE106.out)|exact HB.out)))|(with_reducible refine Kd.C_alloc ?_ _)|(with_reducible refine Kd.C_drewN ?_ _)|(with_reducible refine Kd.C_drew ?_)));(case side4=>exact HC1_16.out);rintro e w' ⟨rfl,⟨nd,rfl⟩⟩))
    go_ret
    exact ⟨by first|rfl|(simp [errW_none,errW_some] <;> rfl)|(simp [*,errW_none,errW_some] <;> rfl),by repeat (first|(with_reducible first|exact HB.out|apply below_alloc|apply pw_below_drewN|apply below_drew1|refine below_set ?_ GE105.out|refine below_set ?_ GE106.out)|exact HB.out)⟩
  ·replace c6:=Bool.eq_false_iff.mpr c6
   subst c6
   have H1 : (some false)=some r:=by rw [if_neg (show ¬ (false=true) by decide)] at H;exact H
   clear H
   have H:=H1
   clear H1
   obtain rfl:=Option.some.inj H
   go_enter Try.func11,Try.ntmps11
   go_wp2_with (first|((with_reducible refine gate_dst (N:=2) rfl ?_);refine box_event ?hg (N:=2) ?hd (cs:=#[.int .i64 a0_0,.int .i64 a0_1,.int .u64 a0_2,.int .u64 a0_3,.int .u32 a0_4,.int .i64 a0_5,.int .i64 a0_6,.string a0_7,.string a0_8,.int .i64 a0_9,.int .i64 a0_10,.string a0_11,.int .u32 a0_12,.int .i64 a0_13,.bool a0_14,.slice A0_15 l0_15.length c0_15,.slice A0_16 l0_16.length c0_16]) (t:=35) ?hr ?_;(case hd=>rfl);(case hg=>rfl);(case hr=>first|(go_simp;done)|(go_simp;rfl));intro gb105 hg w66 hbox hb;have n0_:=Aside0.mk (below_step (by repeat (first|(with_reducible first|exact HB.out|apply below_alloc|apply pw_below_drewN|apply below_drew1)|exact HB.out)) hb);have n1_:=Aside0.mk (hbox);have n2_:=Aside0.mk ((by rw [hg];exact (below_size (by repeat (first|(with_reducible first|exact HB.out|apply below_alloc|apply pw_below_drewN|apply below_drew1)|exact HB.out))) : w.heap.size≤gb105));have n3_:=Aside0.mk ((by rw [hg];exact (below_size (by repeat (first|(with_reducible first|exact HB.out|apply below_alloc|apply pw_below_drewN|apply below_drew1)|exact HB.out))) : w.heap.size≤gb105));clear HB;have HB:=n0_;have BK105:=n1_;have GW105:=n2_;have GE105:=n3_;clear n0_ n1_ n2_ n3_;clear hb hbox hg)|((with_reducible refine gate_dst (N:=3) rfl ?_);refine box_event ?hg (N:=3) ?hd (cs:=#[.int .i64 a1_0,.int .i64 a1_1,.int .u64 a1_2,.int .u64 a1_3,.int .u32 a1_4,.int .i64 a1_5,.int .i64 a1_6,.string a1_7,.string a1_8,.int .i64 a1_9,.int .i64 a1_10,.string a1_11,.int .u32 a1_12,.int .i64 a1_13,.bool a1_14,.slice A1_15 l1_15.length c1_15,.slice A1_16 l1_16.length c1_16]) (t:=35) ?hr ?_;(case hd=>rfl);(case hg=>rfl);(case hr=>first|(go_simp;done)|(go_simp;rfl));intro gb106 hg w67 hbox hb;have n0_:=Aside0.mk (blk_below (g:=gb105) (o:=.cells #[.int .i64 a0_0,.int .i64 a0_1,.int .u64 a0_2,.int .u64 a0_3,.int .u32 a0_4,.int .i64 a0_5,.int .i64 a0_6,.string a0_7,.string a0_8,.int .i64 a0_9,.int .i64 a0_10,.string a0_11,.int .u32 a0_12,.int .i64 a0_13,.bool a0_14,.slice A0_15 l0_15.length c0_15,.slice A0_16 l0_16.length c0_16] 35 (0,0)) (by (with_reducible repeat (first|refine blk_drewN ?_ _|refine blk_drew ?_|refine blk_alloc ?_ _));exact BK105.out) hb);have n1_:=Aside0.mk (below_step (by repeat (first|(with_reducible first|exact HB.out|apply below_alloc|apply pw_below_drewN|apply below_drew1|refine below_set ?_ GE105.out)|exact HB.out)) hb);have n2_:=Aside0.mk (hbox);have n3_:=Aside0.mk ((by rw [hg];exact (below_size (by repeat (first|(with_reducible first|exact HB.out|apply below_alloc|apply pw_below_drewN|apply below_drew1|refine below_set ?_ GE105.out)|exact HB.out))) : w.heap.size≤gb106));have n4_:=Aside0.mk ((by rw [hg];exact (below_size (by repeat (first|(with_reducible first|exact HB.out|apply below_alloc|apply pw_below_drewN|apply below_drew1|refine below_set ?_ GE105.out)|exact HB.out))) : w.heap.size≤gb106));have n5_:=Aside0.mk ((by rw [hg];exact Nat.ne_of_lt (blk_lt (g:=gb105) (o:=.cells #[.int .i64 a0_0,.int .i64 a0_1,.int .u64 a0_2,.int .u64 a0_3,.int .u32 a0_4,.int .i64 a0_5,.int .i64 a0_6,.string a0_7,.string a0_8,.int .i64 a0_9,.int .i64 a0_10,.string a0_11,.int .u32 a0_12,.int .i64 a0_13,.bool a0_14,.slice A0_15 l0_15.length c0_15,.slice A0_16 l0_16.length c0_16] 35 (0,0)) (by (with_reducible repeat (first|refine blk_drewN ?_ _|refine blk_drew ?_|refine blk_alloc ?_ _));exact BK105.out)) : gb105≠gb106));have n6_:=Aside0.mk ((by rw [hg];exact Nat.ne_of_gt (blk_lt (g:=gb105) (o:=.cells #[.int .i64 a0_0,.int .i64 a0_1,.int .u64 a0_2,.int .u64 a0_3,.int .u32 a0_4,.int .i64 a0_5,.int .i64 a0_6,.string a0_7,.string a0_8,.int .i64 a0_9,.int .i64 a0_10,.string a0_11,.int .u32 a0_12,.int .i64 a0_13,.bool a0_14,.slice A0_15 l0_15.length c0_15,.slice A0_16 l0_16.length c0_16] 35 (0,0)) (by (with_reducible repeat (first|refine blk_drewN ?_ _|refine blk_drew ?_|refine blk_alloc ?_ _));exact BK105.out)) : gb106≠gb105));clear BK105;clear HB;have BK105:=n0_;have HB:=n1_;have BK106:=n2_;have GW106:=n3_;have GE106:=n4_;have NB105_106:=n5_;have NB106_105:=n6_;clear n0_ n1_ n2_ n3_ n4_ n5_ n6_;clear hb hbox hg;have hnb68:=NB105_106.out;have hnc68:=NB106_105.out;have hcz69_0 : w67.cell? ⟨gb105,0,none⟩=some (.int .i64 a0_0):=(blk_cell BK105.out 0).trans rfl;have hcz69_1 : w67.cell? ⟨gb105,1,none⟩=some (.int .i64 a0_1):=(blk_cell BK105.out 1).trans rfl;have hcz69_2 : w67.cell? ⟨gb105,2,none⟩=some (.int .u64 a0_2):=(blk_cell BK105.out 2).trans rfl;have hcz69_3 : w67.cell? ⟨gb105,3,none⟩=some (.int .u64 a0_3):=(blk_cell BK105.out 3).trans rfl;have hcz69_4 : w67.cell? ⟨gb105,4,none⟩=some (.int .u32 a0_4):=(blk_cell BK105.out 4).trans rfl;have hcz69_5 : w67.cell? ⟨gb105,5,none⟩=some (.int .i64 a0_5):=(blk_cell BK105.out 5).trans rfl;have hcz69_6 : w67.cell? ⟨gb105,6,none⟩=some (.int .i64 a0_6):=(blk_cell BK105.out 6).trans rfl;have hcz69_7 : w67.cell? ⟨gb105,7,none⟩=some (.string a0_7):=(blk_cell BK105.out 7).trans rfl;have hcz69_8 : w67.cell? ⟨gb105,8,none⟩=some (.string a0_8):=(blk_cell BK105.out 8).trans rfl;have hcz69_9 : w67.cell? ⟨gb105,9,none⟩=some (.int .i64 a0_9):=(blk_cell BK105.out 9).trans rfl;have hcz69_10 : w67.cell? ⟨gb105,10,none⟩=some (.int .i64 a0_10):=(blk_cell BK105.out 10).trans rfl;have hcz69_11 : w67.cell? ⟨gb105,11,none⟩=some (.string a0_11):=(blk_cell BK105.out 11).trans rfl;have hcz69_12 : w67.cell? ⟨gb105,12,none⟩=some (.int .u32 a0_12):=(blk_cell BK105.out 12).trans rfl;have hcz69_13 : w67.cell? ⟨gb105,13,none⟩=some (.int .i64 a0_13):=(blk_cell BK105.out 13).trans rfl;have hcz69_14 : w67.cell? ⟨gb105,14,none⟩=some (.bool a0_14):=(blk_cell BK105.out 14).trans rfl;have hcz69_15 : w67.cell? ⟨gb105,15,none⟩=some (.slice A0_15 l0_15.length c0_15):=(blk_cell BK105.out 15).trans rfl;have hcz69_16 : w67.cell? ⟨gb105,16,none⟩=some (.slice A0_16 l0_16.length c0_16):=(blk_cell BK105.out 16).trans rfl;have hfz69_0:=blk_frozen BK105.out 0;have hfz69_1:=blk_frozen BK105.out 1;have hfz69_2:=blk_frozen BK105.out 2;have hfz69_3:=blk_frozen BK105.out 3;have hfz69_4:=blk_frozen BK105.out 4;have hfz69_5:=blk_frozen BK105.out 5;have hfz69_6:=blk_frozen BK105.out 6;have hfz69_7:=blk_frozen BK105.out 7;have hfz69_8:=blk_frozen BK105.out 8;have hfz69_9:=blk_frozen BK105.out 9;have hfz69_10:=blk_frozen BK105.out 10;have hfz69_11:=blk_frozen BK105.out 11;have hfz69_12:=blk_frozen BK105.out 12;have hfz69_13:=blk_frozen BK105.out 13;have hfz69_14:=blk_frozen BK105.out 14;have hfz69_15:=blk_frozen BK105.out 15;have hfz69_16:=blk_frozen BK105.out 16;have hcz70_0 : w67.cell? ⟨gb106,0,none⟩=some (.int .i64 a1_0):=(blk_cell BK106.out 0).trans rfl;have hcz70_1 : w67.cell? ⟨gb106,1,none⟩=some (.int .i64 a1_1):=(blk_cell BK106.out 1).trans rfl;have hcz70_2 : w67.cell? ⟨gb106,2,none⟩=some (.int .u64 a1_2):=(blk_cell BK106.out 2).trans rfl;have hcz70_3 : w67.cell? ⟨gb106,3,none⟩=some (.int .u64 a1_3):=(blk_cell BK106.out 3).trans rfl;have hcz70_4 : w67.cell? ⟨gb106,4,none⟩=some (.int .u32 a1_4):=(blk_cell BK106.out 4).trans rfl;have hcz70_5 : w67.cell? ⟨gb106,5,none⟩=some (.int .i64 a1_5):=(blk_cell BK106.out 5).trans rfl;have hcz70_6 : w67.cell? ⟨gb106,6,none⟩=some (.int .i64 a1_6):=(blk_cell BK106.out 6).trans rfl;have hcz70_7 : w67.cell? ⟨gb106,7,none⟩=some (.string a1_7):=(blk_cell BK106.out 7).trans rfl;have hcz70_8 : w67.cell? ⟨gb106,8,none⟩=some (.string a1_8):=(blk_cell BK106.out 8).trans rfl;have hcz70_9 : w67.cell? ⟨gb106,9,none⟩=some (.int .i64 a1_9):=(blk_cell BK106.out 9).trans rfl;have hcz70_10 : w67.cell? ⟨gb106,10,none⟩=some (.int .i64 a1_10):=(blk_cell BK106.out 10).trans rfl;have hcz70_11 : w67.cell? ⟨gb106,11,none⟩=some (.string a1_11):=(blk_cell BK106.out 11).trans rfl;have hcz70_12 : w67.cell? ⟨gb106,12,none⟩=some (.int .u32 a1_12):=(blk_cell BK106.out 12).trans rfl;have hcz70_13 : w67.cell? ⟨gb106,13,none⟩=some (.int .i64 a1_13):=(blk_cell BK106.out 13).trans rfl;have hcz70_14 : w67.cell? ⟨gb106,14,none⟩=some (.bool a1_14):=(blk_cell BK106.out 14).trans rfl;have hcz70_15 : w67.cell? ⟨gb106,15,none⟩=some (.slice A1_15 l1_15.length c1_15):=(blk_cell BK106.out 15).trans rfl;have hcz70_16 : w67.cell? ⟨gb106,16,none⟩=some (.slice A1_16 l1_16.length c1_16):=(blk_cell BK106.out 16).trans rfl;have hfz70_0:=blk_frozen BK106.out 0;have hfz70_1:=blk_frozen BK106.out 1;have hfz70_2:=blk_frozen BK106.out 2;have hfz70_3:=blk_frozen BK106.out 3;have hfz70_4:=blk_frozen BK106.out 4;have hfz70_5:=blk_frozen BK106.out 5;have hfz70_6:=blk_frozen BK106.out 6;have hfz70_7:=blk_frozen BK106.out 7;have hfz70_8:=blk_frozen BK106.out 8;have hfz70_9:=blk_frozen BK106.out 9;have hfz70_10:=blk_frozen BK106.out 10;have hfz70_11:=blk_frozen BK106.out 11;have hfz70_12:=blk_frozen BK106.out 12;have hfz70_13:=blk_frozen BK106.out 13;have hfz70_14:=blk_frozen BK106.out 14;have hfz70_15:=blk_frozen BK106.out 15;have hfz70_16:=blk_frozen BK106.out 16)|((with_reducible refine gate_callee (f:=30) rfl ?_);refine goesL_ (some 9) rfl rfl Try.func30 (by kernel_rfl) rfl #[.slice A0_15 l0_15.length c0_15,.slice A1_15 l1_15.length c1_15] rfl (by (try simp only [List.map_toArray,List.map_cons,List.map_nil]);first|done|rfl|(simp only [List.length_drop,List.length_take];rfl)) ?_;(with_reducible refine (api_TxState.calls k _ _ l0_15 _ _ l1_15 true _ ?side1 ?side2 ?side3 ?side4 A3.out).mono ?_);(case side1=>repeat (first|exact (Kd.C_below HR0_15.out HB.out)|(with_reducible refine Kd.C_alloc ?_ _)|(with_reducible refine Kd.C_drewN ?_ _)|(with_reducible refine Kd.C_drew ?_)));(case side2=>exact HC0_15.out);(case side3=>repeat (first|exact (Kd.C_below HR1_15.out HB.out)|(with_reducible refine Kd.C_alloc ?_ _)|(with_reducible refine Kd.C_drewN ?_ _)|(with_reducible refine Kd.C_drew ?_)));(case side4=>exact HC1_15.out);rintro e w' ⟨rfl,⟨nd,rfl⟩⟩;refine ⟨_,rfl,?_⟩)|(go_at_call 31;(with_reducible refine (api_Dirty.calls k _ _ l0_16 _ _ l1_16 false _ ?side1 ?side2 ?side3 ?side4 A5.out).mono ?_);(case side1=>repeat (first|exact (Kd.C_below HR0_16.out (by repeat (first|(with_reducible first|exact HB.out|apply below_alloc|apply pw_below_drewN|apply below_drew1|refine below_set ?_ GE105.out|refine below_set ?_ GE106.out)|exact HB.out)))|(with_reducible refine Kd.C_alloc ?_ _)|(with_reducible refine Kd.C_drewN ?_ _)|(with_reducible refine Kd.C_drew ?_)));(case side2=>exact HC0_16.out);(case side3=>repeat (first|exact (Kd.C_below HR1_16.out (by repeat (first|(with_reducible first|exact HB.out|apply below_alloc|apply pw_below_drewN|apply below_drew1|refine below_set ?_ GE105.out|refine below_set ?_ GE106.out)|exact HB.out)))|(with_reducible refine Kd.C_alloc ?_ _)|(with_reducible refine Kd.C_drewN ?_ _)|(with_reducible refine Kd.C_drew ?_)));(case side4=>exact HC1_16.out);rintro e w' ⟨rfl,⟨nd,rfl⟩⟩))
   go_ret
   exact ⟨by first|rfl|(simp [errW_none,errW_some] <;> rfl)|(simp [*,errW_none,errW_some] <;> rfl),by repeat (first|(with_reducible first|exact HB.out|apply below_alloc|apply pw_below_drewN|apply below_drew1|refine below_set ?_ GE105.out|refine below_set ?_ GE106.out)|exact HB.out)⟩
 ·replace c4:=Bool.eq_false_iff.mpr c4
  subst c4
  have H1 : (some false)=some r:=by rw [if_neg (show ¬ (false=true) by decide)] at H;exact H
  clear H
  have H:=H1
  clear H1
  obtain rfl:=Option.some.inj H
  go_enter Try.func11,Try.ntmps11
  go_wp2_with (first|((with_reducible refine gate_dst (N:=2) rfl ?_);refine box_event ?hg (N:=2) ?hd (cs:=#[.int .i64 a0_0,.int .i64 a0_1,.int .u64 a0_2,.int .u64 a0_3,.int .u32 a0_4,.int .i64 a0_5,.int .i64 a0_6,.string a0_7,.string a0_8,.int .i64 a0_9,.int .i64 a0_10,.string a0_11,.int .u32 a0_12,.int .i64 a0_13,.bool a0_14,.slice A0_15 l0_15.length c0_15,.slice A0_16 l0_16.length c0_16]) (t:=35) ?hr ?_;(case hd=>rfl);(case hg=>rfl);(case hr=>first|(go_simp;done)|(go_simp;rfl));intro gb105 hg w71 hbox hb;have n0_:=Aside0.mk (below_step (by repeat (first|(with_reducible first|exact HB.out|apply below_alloc|apply pw_below_drewN|apply below_drew1)|exact HB.out)) hb);have n1_:=Aside0.mk (hbox);have n2_:=Aside0.mk ((by rw [hg];exact (below_size (by repeat (first|(with_reducible first|exact HB.out|apply below_alloc|apply pw_below_drewN|apply below_drew1)|exact HB.out))) : w.heap.size≤gb105));have n3_:=Aside0.mk ((by rw [hg];exact (below_size (by repeat (first|(with_reducible first|exact HB.out|apply below_alloc|apply pw_below_drewN|apply below_drew1)|exact HB.out))) : w.heap.size≤gb105));clear HB;have HB:=n0_;have BK105:=n1_;have GW105:=n2_;have GE105:=n3_;clear n0_ n1_ n2_ n3_;clear hb hbox hg)|((with_reducible refine gate_dst (N:=3) rfl ?_);refine box_event ?hg (N:=3) ?hd (cs:=#[.int .i64 a1_0,.int .i64 a1_1,.int .u64 a1_2,.int .u64 a1_3,.int .u32 a1_4,.int .i64 a1_5,.int .i64 a1_6,.string a1_7,.string a1_8,.int .i64 a1_9,.int .i64 a1_10,.string a1_11,.int .u32 a1_12,.int .i64 a1_13,.bool a1_14,.slice A1_15 l1_15.length c1_15,.slice A1_16 l1_16.length c1_16]) (t:=35) ?hr ?_;(case hd=>rfl);(case hg=>rfl);(case hr=>first|(go_simp;done)|(go_simp;rfl));intro gb106 hg w72 hbox hb;have n0_:=Aside0.mk (blk_below (g:=gb105) (o:=.cells #[.int .i64 a0_0,.int .i64 a0_1,.int .u64 a0_2,.int .u64 a0_3,.int .u32 a0_4,.int .i64 a0_5,.int .i64 a0_6,.string a0_7,.string a0_8,.int .i64 a0_9,.int .i64 a0_10,.string a0_11,.int .u32 a0_12,.int .i64 a0_13,.bool a0_14,.slice A0_15 l0_15.length c0_15,.slice A0_16 l0_16.length c0_16] 35 (0,0)) (by (with_reducible repeat (first|refine blk_drewN ?_ _|refine blk_drew ?_|refine blk_alloc ?_ _));exact BK105.out) hb);have n1_:=Aside0.mk (below_step (by repeat (first|(with_reducible first|exact HB.out|apply below_alloc|apply pw_below_drewN|apply below_drew1|refine below_set ?_ GE105.out)|exact HB.out)) hb);have n2_:=Aside0.mk (hbox);have n3_:=Aside0.mk ((by rw [hg];exact (below_size (by repeat (first|(with_reducible first|exact HB.out|apply below_alloc|apply pw_below_drewN|apply below_drew1|refine below_set ?_ GE105.out)|exact HB.out))) : w.heap.size≤gb106));have n4_:=Aside0.mk ((by rw [hg];exact (below_size (by repeat (first|(with_reducible first|exact HB.out|apply below_alloc|apply pw_below_drewN|apply below_drew1|refine below_set ?_ GE105.out)|exact HB.out))) : w.heap.size≤gb106));have n5_:=Aside0.mk ((by rw [hg];exact Nat.ne_of_lt (blk_lt (g:=gb105) (o:=.cells #[.int .i64 a0_0,.int .i64 a0_1,.int .u64 a0_2,.int .u64 a0_3,.int .u32 a0_4,.int .i64 a0_5,.int .i64 a0_6,.string a0_7,.string a0_8,.int .i64 a0_9,.int .i64 a0_10,.string a0_11,.int .u32 a0_12,.int .i64 a0_13,.bool a0_14,.slice A0_15 l0_15.length c0_15,.slice A0_16 l0_16.length c0_16] 35 (0,0)) (by (with_reducible repeat (first|refine blk_drewN ?_ _|refine blk_drew ?_|refine blk_alloc ?_ _));exact BK105.out)) : gb105≠gb106));have n6_:=Aside0.mk ((by rw [hg];exact Nat.ne_of_gt (blk_lt (g:=gb105) (o:=.cells #[.int .i64 a0_0,.int .i64 a0_1,.int .u64 a0_2,.int .u64 a0_3,.int .u32 a0_4,.int .i64 a0_5,.int .i64 a0_6,.string a0_7,.string a0_8,.int .i64 a0_9,.int .i64 a0_10,.string a0_11,.int .u32 a0_12,.int .i64 a0_13,.bool a0_14,.slice A0_15 l0_15.length c0_15,.slice A0_16 l0_16.length c0_16] 35 (0,0)) (by (with_reducible repeat (first|refine blk_drewN ?_ _|refine blk_drew ?_|refine blk_alloc ?_ _));exact BK105.out)) : gb106≠gb105));clear BK105;clear HB;have BK105:=n0_;have HB:=n1_;have BK106:=n2_;have GW106:=n3_;have GE106:=n4_;have NB105_106:=n5_;have NB106_105:=n6_;clear n0_ n1_ n2_ n3_ n4_ n5_ n6_;clear hb hbox hg;have hnb73:=NB105_106.out;have hnc73:=NB106_105.out;have hcz74_0 : w72.cell? ⟨gb105,0,none⟩=some (.int .i64 a0_0):=(blk_cell BK105.out 0).trans rfl;have hcz74_1 : w72.cell? ⟨gb105,1,none⟩=some (.int .i64 a0_1):=(blk_cell BK105.out 1).trans rfl;have hcz74_2 : w72.cell? ⟨gb105,2,none⟩=some (.int .u64 a0_2):=(blk_cell BK105.out 2).trans rfl;have hcz74_3 : w72.cell? ⟨gb105,3,none⟩=some (.int .u64 a0_3):=(blk_cell BK105.out 3).trans rfl;have hcz74_4 : w72.cell? ⟨gb105,4,none⟩=some (.int .u32 a0_4):=(blk_cell BK105.out 4).trans rfl;have hcz74_5 : w72.cell? ⟨gb105,5,none⟩=some (.int .i64 a0_5):=(blk_cell BK105.out 5).trans rfl;have hcz74_6 : w72.cell? ⟨gb105,6,none⟩=some (.int .i64 a0_6):=(blk_cell BK105.out 6).trans rfl;have hcz74_7 : w72.cell? ⟨gb105,7,none⟩=some (.string a0_7):=(blk_cell BK105.out 7).trans rfl;have hcz74_8 : w72.cell? ⟨gb105,8,none⟩=some (.string a0_8):=(blk_cell BK105.out 8).trans rfl;have hcz74_9 : w72.cell? ⟨gb105,9,none⟩=some (.int .i64 a0_9):=(blk_cell BK105.out 9).trans rfl;have hcz74_10 : w72.cell? ⟨gb105,10,none⟩=some (.int .i64 a0_10):=(blk_cell BK105.out 10).trans rfl;have hcz74_11 : w72.cell? ⟨gb105,11,none⟩=some (.string a0_11):=(blk_cell BK105.out 11).trans rfl;have hcz74_12 : w72.cell? ⟨gb105,12,none⟩=some (.int .u32 a0_12):=(blk_cell BK105.out 12).trans rfl;have hcz74_13 : w72.cell? ⟨gb105,13,none⟩=some (.int .i64 a0_13):=(blk_cell BK105.out 13).trans rfl;have hcz74_14 : w72.cell? ⟨gb105,14,none⟩=some (.bool a0_14):=(blk_cell BK105.out 14).trans rfl;have hcz74_15 : w72.cell? ⟨gb105,15,none⟩=some (.slice A0_15 l0_15.length c0_15):=(blk_cell BK105.out 15).trans rfl;have hcz74_16 : w72.cell? ⟨gb105,16,none⟩=some (.slice A0_16 l0_16.length c0_16):=(blk_cell BK105.out 16).trans rfl;have hfz74_0:=blk_frozen BK105.out 0;have hfz74_1:=blk_frozen BK105.out 1;have hfz74_2:=blk_frozen BK105.out 2;have hfz74_3:=blk_frozen BK105.out 3;have hfz74_4:=blk_frozen BK105.out 4;have hfz74_5:=blk_frozen BK105.out 5;have hfz74_6:=blk_frozen BK105.out 6;have hfz74_7:=blk_frozen BK105.out 7;have hfz74_8:=blk_frozen BK105.out 8;have hfz74_9:=blk_frozen BK105.out 9;have hfz74_10:=blk_frozen BK105.out 10;have hfz74_11:=blk_frozen BK105.out 11;have hfz74_12:=blk_frozen BK105.out 12;have hfz74_13:=blk_frozen BK105.out 13;have hfz74_14:=blk_frozen BK105.out 14;have hfz74_15:=blk_frozen BK105.out 15;have hfz74_16:=blk_frozen BK105.out 16;have hcz75_0 : w72.cell? ⟨gb106,0,none⟩=some (.int .i64 a1_0):=(blk_cell BK106.out 0).trans rfl;have hcz75_1 : w72.cell? ⟨gb106,1,none⟩=some (.int .i64 a1_1):=(blk_cell BK106.out 1).trans rfl;have hcz75_2 : w72.cell? ⟨gb106,2,none⟩=some (.int .u64 a1_2):=(blk_cell BK106.out 2).trans rfl;have hcz75_3 : w72.cell? ⟨gb106,3,none⟩=some (.int .u64 a1_3):=(blk_cell BK106.out 3).trans rfl;have hcz75_4 : w72.cell? ⟨gb106,4,none⟩=some (.int .u32 a1_4):=(blk_cell BK106.out 4).trans rfl;have hcz75_5 : w72.cell? ⟨gb106,5,none⟩=some (.int .i64 a1_5):=(blk_cell BK106.out 5).trans rfl;have hcz75_6 : w72.cell? ⟨gb106,6,none⟩=some (.int .i64 a1_6):=(blk_cell BK106.out 6).trans rfl;have hcz75_7 : w72.cell? ⟨gb106,7,none⟩=some (.string a1_7):=(blk_cell BK106.out 7).trans rfl;have hcz75_8 : w72.cell? ⟨gb106,8,none⟩=some (.string a1_8):=(blk_cell BK106.out 8).trans rfl;have hcz75_9 : w72.cell? ⟨gb106,9,none⟩=some (.int .i64 a1_9):=(blk_cell BK106.out 9).trans rfl;have hcz75_10 : w72.cell? ⟨gb106,10,none⟩=some (.int .i64 a1_10):=(blk_cell BK106.out 10).trans rfl;have hcz75_11 : w72.cell? ⟨gb106,11,none⟩=some (.string a1_11):=(blk_cell BK106.out 11).trans rfl;have hcz75_12 : w72.cell? ⟨gb106,12,none⟩=some (.int .u32 a1_12):=(blk_cell BK106.out 12).trans rfl;have hcz75_13 : w72.cell? ⟨gb106,13,none⟩=some (.int .i64 a1_13):=(blk_cell BK106.out 13).trans rfl;have hcz75_14 : w72.cell? ⟨gb106,14,none⟩=some (.bool a1_14):=(blk_cell BK106.out 14).trans rfl;have hcz75_15 : w72.cell? ⟨gb106,15,none⟩=some (.slice A1_15 l1_15.length c1_15):=(blk_cell BK106.out 15).trans rfl;have hcz75_16 : w72.cell? ⟨gb106,16,none⟩=some (.slice A1_16 l1_16.length c1_16):=(blk_cell BK106.out 16).trans rfl;have hfz75_0:=blk_frozen BK106.out 0;have hfz75_1:=blk_frozen BK106.out 1;have hfz75_2:=blk_frozen BK106.out 2;have hfz75_3:=blk_frozen BK106.out 3;have hfz75_4:=blk_frozen BK106.out 4;have hfz75_5:=blk_frozen BK106.out 5;have hfz75_6:=blk_frozen BK106.out 6;have hfz75_7:=blk_frozen BK106.out 7;have hfz75_8:=blk_frozen BK106.out 8;have hfz75_9:=blk_frozen BK106.out 9;have hfz75_10:=blk_frozen BK106.out 10;have hfz75_11:=blk_frozen BK106.out 11;have hfz75_12:=blk_frozen BK106.out 12;have hfz75_13:=blk_frozen BK106.out 13;have hfz75_14:=blk_frozen BK106.out 14;have hfz75_15:=blk_frozen BK106.out 15;have hfz75_16:=blk_frozen BK106.out 16)|((with_reducible refine gate_callee (f:=30) rfl ?_);refine goesL_ (some 9) rfl rfl Try.func30 (by kernel_rfl) rfl #[.slice A0_15 l0_15.length c0_15,.slice A1_15 l1_15.length c1_15] rfl (by (try simp only [List.map_toArray,List.map_cons,List.map_nil]);first|done|rfl|(simp only [List.length_drop,List.length_take];rfl)) ?_;(with_reducible refine (api_TxState.calls k _ _ l0_15 _ _ l1_15 false _ ?side1 ?side2 ?side3 ?side4 A3.out).mono ?_);(case side1=>repeat (first|exact (Kd.C_below HR0_15.out HB.out)|(with_reducible refine Kd.C_alloc ?_ _)|(with_reducible refine Kd.C_drewN ?_ _)|(with_reducible refine Kd.C_drew ?_)));(case side2=>exact HC0_15.out);(case side3=>repeat (first|exact (Kd.C_below HR1_15.out HB.out)|(with_reducible refine Kd.C_alloc ?_ _)|(with_reducible refine Kd.C_drewN ?_ _)|(with_reducible refine Kd.C_drew ?_)));(case side4=>exact HC1_15.out);rintro e w' ⟨rfl,⟨nd,rfl⟩⟩;refine ⟨_,rfl,?_⟩))
  go_ret
  exact ⟨by first|rfl|(simp [errW_none,errW_some] <;> rfl)|(simp [*,errW_none,errW_some] <;> rfl),by repeat (first|(with_reducible first|exact HB.out|apply below_alloc|apply pw_below_drewN|apply below_drew1|refine below_set ?_ GE105.out|refine below_set ?_ GE106.out)|exact HB.out)⟩
end Go.Proofs.Ytebickoieipjpaa.PRs
end
section
namespace Go.Proofs.Ytebickoieipjpaa
open Go.RowKit Go.Gi Go.GiRow Go.Proofs.YtebickoieipjpaaW.PrintWords Go.Proofs.YtebickoieipjpaaW.PrintLast Go.Proofs.YtebickoieipjpaaW.PrintMore PRs
set_option maxRecDepth 20000
set_option linter.unusedSimpArgs false
set_option linter.unusedVariables false
def ofSt (t : StR) : S70 := ⟨t.tx, t.st, t.last, t.next⟩
def ofDi (t : DiR) : S72 := ⟨t.page, t.lsn⟩
structure RowsR (w : World) (r : RecR) (A : Option Addr) (c : Nat) (B : Option Addr) (d : Nat) : Prop where
  hA : Kd.C k70 w A r.txs.length (r.txs.map ofSt)
  hc : r.txs.length ≤ c
  hB : Kd.C k72 w B r.dirty.length (r.dirty.map ofDi)
  hd : r.dirty.length ≤ d
  bA : r.txs.length * 32 ≤ 140737488351232
  bB : r.dirty.length * 16 ≤ 140737488351232
theorem RowsR.below {w w' : World} {r : RecR} {A : Option Addr} {c : Nat} {B : Option Addr} {d : Nat} (h : RowsR w r A c B d) (hb : Below w.heap.size w w') : RowsR w' r A c B d :=
  ⟨Kd.C_below h.hA hb, h.hc, Kd.C_below h.hB hb, h.hd, h.bA, h.bB⟩
theorem rd_of_C {α β : Type} {k : Kd β} {of : α → β} {cells : α → List Value} {n : Nat} (hsz : k.sz = n) (hn : 0 < n) (hk : ∀ w a cs, k.K w (of a) cs → cs = cells a) (hlen : ∀ a, (cells a).length = n) {w : World} {A : Option Addr} {l : List α}
    (h : Kd.C k w A l.length (l.map of)) : RdRows cells n w A l := fun j hj => by
  obtain ⟨h1, h2, h3⟩ := h
  obtain ⟨ad, rfl, hc⟩ := h3 (by omega)
  have hat : ∀ i (hi : i < l.length) x u, (cells l[i])[x]? = some u → w.cell? (ad.add (i * n + x)) = some u := by
    intro i hi x u hu
    obtain ⟨c, hcl, hK, hcell⟩ := hc i (of l[i]) (by simp [hi])
    have e := hk _ _ _ hK
    subst e
    rw [hsz] at hcell
    exact hcell x u hu
  have hc0 := hat 0 (by omega) 0 _ (List.getElem?_eq_getElem (by rw [hlen]; exact hn))
  rw [show ad.add (0 * n + 0) = ad by unfold Addr.add; simp] at hc0
  have hsp : ad.spot = none := by
    unfold World.cell? at hc0
    cases hs : ad.spot with
    | none => rfl
    | some y =>
      simp [hs] at hc0
      split at hc0 <;> simp_all
  obtain ⟨b, off, sp⟩ := ad
  simp only at hsp
  subst hsp
  refine ⟨b, off, rfl, World.block_lt_of_cell? w _ hc0, fun x u hu => ?_⟩
  have := hat j hj x u hu
  rw [show (⟨b, off, none⟩ : Addr).add (j * n + x) = ⟨b, off + j * n + x, none⟩ by unfold Addr.add; split <;> simp_all [Nat.add_assoc]] at this
  exact this
theorem RowsR.rdA {w : World} {r : RecR} {A : Option Addr} {c : Nat} {B : Option Addr} {d : Nat} (h : RowsR w r A c B d) : RdRows StR.cells 4 w A r.txs :=
  rd_of_C rfl (by decide) (fun _ _ _ h => k70_open h) (fun _ => rfl) h.hA
theorem RowsR.rdB {w : World} {r : RecR} {A : Option Addr} {c : Nat} {B : Option Addr} {d : Nat} (h : RowsR w r A c B d) : RdRows DiR.cells 2 w B r.dirty :=
  rd_of_C rfl (by decide) (fun _ _ _ h => k72_open h) (fun _ => rfl) h.hB
theorem cond_st (x y : S70) : (!((x.f0) == (y.f0)) || (!((x.f1) == (y.f1)) || (!((x.f2) == (y.f2)) || (!((x.f3) == (y.f3)))))) = true ↔ x ≠ y := by
  obtain ⟨a, b, c, d⟩ := x
  obtain ⟨a', b', c', d'⟩ := y
  by_cases h1 : a = a' <;> by_cases h2 : b = b' <;> by_cases h3 : c = c' <;> by_cases h4 : d = d' <;> simp [h1, h2, h3, h4]
theorem cond_di (x y : S72) : (!((x.f0) == (y.f0)) || (!((x.f1) == (y.f1)))) = true ↔ x ≠ y := by
  obtain ⟨a, b⟩ := x
  obtain ⟨a', b'⟩ := y
  by_cases h1 : a = a' <;> by_cases h2 : b = b' <;> simp [h1, h2]
theorem take_step {α : Type} {l m : List α} {k : Nat} (h1 : k < l.length) (h2 : k < m.length) (h : l.take k = m.take k) (e : l[k] = m[k]) : l.take (k + 1) = m.take (k + 1) := by
  rw [List.take_succ_eq_append_getElem h1, List.take_succ_eq_append_getElem h2, h, e]
theorem st_law (l m : List S70) (he : l.length = m.length) (hm : l.length ≤ 9223372036854775806) : ∀ k j : Nat, l.length < j + k → j ≤ l.length → l.take j = m.take j → ∃ b, api_TxState.l0 k l m (l.length : Int) (j : Int) = some b ∧ (b = true ↔ l = m)
  | 0, j, h, hj, _ => by omega
  | k + 1, j, h, hj, ht => by
    unfold api_TxState.l0
    by_cases hlt : j < l.length
    · have r1 : rd_T70 l (j : Int) = l[j] := by simp [rd_T70, List.getD_eq_getElem?_getD, List.getElem?_eq_getElem hlt]
      have r2 : rd_T70 m (j : Int) = m[j]'(by omega) := by simp [rd_T70, List.getD_eq_getElem?_getD, List.getElem?_eq_getElem (show j < m.length by omega)]
      rw [if_pos (by omega), if_pos (by omega), if_pos (by omega), if_pos (by omega), r1, r2]
      by_cases hx : l[j] = m[j]'(by omega)
      · rw [if_neg (by rw [cond_st]; exact fun h => h hx), show wrap64 ((j : Int) + 1) = ((j + 1 : Nat) : Int) by unfold wrap64; omega]
        exact st_law l m he hm k (j + 1) (by omega) (by omega) (take_step hlt (by omega) ht hx)
      · rw [if_pos ((cond_st _ _).2 hx)]
        refine ⟨false, rfl, by simp, fun e => absurd (by subst e; rfl) hx⟩
    · rw [if_neg (by omega)]
      have hj' : j = l.length := by omega
      refine ⟨true, rfl, fun _ => ?_, fun _ => rfl⟩
      rw [hj', List.take_length, he, List.take_length] at ht
      exact ht
theorem di_law (l m : List S72) (he : l.length = m.length) (hm : l.length ≤ 9223372036854775806) : ∀ k j : Nat, l.length < j + k → j ≤ l.length → l.take j = m.take j → ∃ b, api_Dirty.l0 k l m (l.length : Int) (j : Int) = some b ∧ (b = true ↔ l = m)
  | 0, j, h, hj, _ => by omega
  | k + 1, j, h, hj, ht => by
    unfold api_Dirty.l0
    by_cases hlt : j < l.length
    · have r1 : rd_T72 l (j : Int) = l[j] := by simp [rd_T72, List.getD_eq_getElem?_getD, List.getElem?_eq_getElem hlt]
      have r2 : rd_T72 m (j : Int) = m[j]'(by omega) := by simp [rd_T72, List.getD_eq_getElem?_getD, List.getElem?_eq_getElem (show j < m.length by omega)]
      rw [if_pos (by omega), if_pos (by omega), if_pos (by omega), if_pos (by omega), r1, r2]
      by_cases hx : l[j] = m[j]'(by omega)
      · rw [if_neg (by rw [cond_di]; exact fun h => h hx), show wrap64 ((j : Int) + 1) = ((j + 1 : Nat) : Int) by unfold wrap64; omega]
        exact di_law l m he hm k (j + 1) (by omega) (by omega) (take_step hlt (by omega) ht hx)
      · rw [if_pos ((cond_di _ _).2 hx)]
        refine ⟨false, rfl, by simp, fun e => absurd (by subst e; rfl) hx⟩
    · rw [if_neg (by omega)]
      have hj' : j = l.length := by omega
      refine ⟨true, rfl, fun _ => ?_, fun _ => rfl⟩
      rw [hj', List.take_length, he, List.take_length] at ht
      exact ht
theorem ofSt_inj : ∀ l m : List StR, l.map ofSt = m.map ofSt → l = m
  | [], [], _ => rfl
  | [], _ :: _, h => by simp at h
  | _ :: _, [], h => by simp at h
  | ⟨a, b, c, d⟩ :: l, ⟨a', b', c', d'⟩ :: m, h => by
    simp only [List.map_cons, List.cons.injEq, ofSt, S70.mk.injEq] at h
    obtain ⟨⟨rfl, rfl, rfl, rfl⟩, h⟩ := h
    rw [ofSt_inj l m h]
theorem ofDi_inj : ∀ l m : List DiR, l.map ofDi = m.map ofDi → l = m
  | [], [], _ => rfl
  | [], _ :: _, h => by simp at h
  | _ :: _, [], h => by simp at h
  | ⟨a, b⟩ :: l, ⟨a', b'⟩ :: m, h => by
    simp only [List.map_cons, List.cons.injEq, ofDi, S72.mk.injEq] at h
    obtain ⟨⟨rfl, rfl⟩, h⟩ := h
    rw [ofDi_inj l m h]
theorem st_f (l m : List StR) (k : Nat) (hk : l.length < k) (hm : l.length ≤ 9223372036854775806) : ∃ b, api_TxState.f k (l.map ofSt) (m.map ofSt) = some b ∧ (b = true ↔ l = m) := by
  unfold api_TxState.f
  by_cases he : l.length = m.length
  · rw [if_pos (by simp [he])]
    obtain ⟨b, h1, h2⟩ := st_law (l.map ofSt) (m.map ofSt) (by simp [he]) (by simp; omega) k 0 (by simp; omega) (by omega) rfl
    exact ⟨b, h1, h2.trans ⟨ofSt_inj l m, fun h => by rw [h]⟩⟩
  · rw [if_neg (by simp; omega)]
    exact ⟨false, rfl, by simp, fun h => absurd (by rw [h]) he⟩
theorem di_f (l m : List DiR) (k : Nat) (hk : l.length < k) (hm : l.length ≤ 9223372036854775806) : ∃ b, api_Dirty.f k (l.map ofDi) (m.map ofDi) = some b ∧ (b = true ↔ l = m) := by
  unfold api_Dirty.f
  by_cases he : l.length = m.length
  · rw [if_pos (by simp [he])]
    obtain ⟨b, h1, h2⟩ := di_law (l.map ofDi) (m.map ofDi) (by simp [he]) (by simp; omega) k 0 (by simp; omega) (by omega) rfl
    exact ⟨b, h1, h2.trans ⟨ofDi_inj l m, fun h => by rw [h]⟩⟩
  · rw [if_neg (by simp; omega)]
    exact ⟨false, rfl, by simp, fun h => absurd (by rw [h]) he⟩
theorem ite_b {c : Prop} [Decidable c] {p q : Prop} {x : Option Bool} (hx : c → ∃ b, x = some b ∧ (b = true ↔ q)) (hp : p ↔ c ∧ q) : ∃ b, (if c then x else some false) = some b ∧ (b = true ↔ p) := by
  by_cases hc : c
  · obtain ⟨b, h1, h2⟩ := hx hc
    exact ⟨b, by rw [if_pos hc, h1], h2.trans ⟨fun h => hp.2 ⟨hc, h⟩, fun h => (hp.1 h).2⟩⟩
  · exact ⟨false, by rw [if_neg hc], by simp, fun h => absurd (hp.1 h).1 hc⟩
theorem same_law (r s : RecR) (k : Nat) (h1 : r.txs.length < k) (h2 : r.dirty.length < k) (m1 : r.txs.length ≤ 9223372036854775806) (m2 : r.dirty.length ≤ 9223372036854775806) :
    ∃ b, rec_Same.f k r.kind r.tx r.prev r.next r.page r.ok r.oa (bs r.os) (bs r.oo) r.undo r.index (bs r.key) r.rpage r.rslot r.live (r.txs.map ofSt) (r.dirty.map ofDi) s.kind s.tx s.prev s.next s.page s.ok s.oa (bs s.os) (bs s.oo) s.undo s.index (bs s.key) s.rpage s.rslot s.live (s.txs.map ofSt) (s.dirty.map ofDi) = some b ∧ (b = true ↔ r = s) := by
  obtain ⟨kind, tx, prev, next, page, ok, oa, os, oo, undo, index, key, rpage, rslot, live, txs, dirty⟩ := r
  obtain ⟨kind', tx', prev', next', page', ok', oa', os', oo', undo', index', key', rpage', rslot', live', txs', dirty'⟩ := s
  simp only at h1 h2 m1 m2 ⊢
  unfold rec_Same.f
  obtain ⟨b1, e1, i1⟩ := st_f txs txs' k h1 m1
  obtain ⟨b2, e2, i2⟩ := di_f dirty dirty' k h2 m2
  rw [e1, e2, Option.bind_some, Option.bind_some]
  simp only [bs_tl]
  refine ite_b (q := dirty = dirty' ∧ kind = kind' ∧ tx = tx' ∧ prev = prev' ∧ next = next' ∧ page = page' ∧ (ok = ok' ∧ oa = oa' ∧ os = os' ∧ oo = oo') ∧ undo = undo' ∧ index = index' ∧ (key = key' ∧ rpage = rpage' ∧ rslot = rslot') ∧ live = live') (fun _ => ?_) ?_
  · refine ite_b (fun _ => ?_) (by rw [i2])
    refine ite_b (fun _ => ?_) Iff.rfl
    refine ite_b (fun _ => ?_) Iff.rfl
    refine ite_b (fun _ => ?_) Iff.rfl
    refine ite_b (fun _ => ?_) Iff.rfl
    refine ite_b (fun _ => ?_) Iff.rfl
    refine ite_b (q := undo = undo' ∧ index = index' ∧ (key = key' ∧ rpage = rpage' ∧ rslot = rslot') ∧ live = live') (fun _ => ?_) (by simp)
    refine ite_b (fun _ => ?_) Iff.rfl
    refine ite_b (fun _ => ?_) Iff.rfl
    refine ite_b (q := live = live') (fun _ => ?_) (by simp)
    exact ⟨_, rfl, by simp⟩
  · rw [i1]
    simp only [RecR.mk.injEq]
    constructor
    · rintro ⟨h0, h1, h2, h3, h4, h5, h6, h7, h8, h9, h10, h11, h12, h13, h14, h15, h16⟩
      exact ⟨h15, h16, h0, h1, h2, h3, h4, ⟨h5, h6, h7, h8⟩, h9, h10, ⟨h11, h12, h13⟩, h14⟩
    · rintro ⟨h15, h16, h0, h1, h2, h3, h4, ⟨h5, h6, h7, h8⟩, h9, h10, ⟨h11, h12, h13⟩, h14⟩
      exact ⟨h0, h1, h2, h3, h4, h5, h6, h7, h8, h9, h10, h11, h12, h13, h14, h15, h16⟩
theorem rsame_any (r s : RecR) {A : Option Addr} {c : Nat} {B : Option Addr} {d : Nat} {A' : Option Addr} {c' : Nat} {B' : Option Addr} {d' : Nat} {w : World} (hr : RowsR w r A c B d) (hs : RowsR w s A' c' B' d') :
    Calls Try.prog 11 #[r.val A c B d, s.val A' c' B' d'] w fun e w' => (∃ b, e = .returned (.bool b) ∧ (b = true ↔ r = s)) ∧ Below w.heap.size w w' := by
  have b1 := hr.bA
  have b2 := hr.bB
  obtain ⟨b, hf, hi⟩ := same_law r s (r.txs.length + r.dirty.length + 1) (by omega) (by omega) (by omega) (by omega)
  have e1 : (r.txs.map ofSt).length = r.txs.length := by simp
  have e2 : (r.dirty.map ofDi).length = r.dirty.length := by simp
  have e3 : (s.txs.map ofSt).length = s.txs.length := by simp
  have e4 : (s.dirty.map ofDi).length = s.dirty.length := by simp
  have H := rec_Same.calls (r.txs.length + r.dirty.length + 1) r.kind r.tx r.prev r.next r.page r.ok r.oa (bs r.os) (bs r.oo) r.undo r.index (bs r.key) r.rpage r.rslot r.live A c (r.txs.map ofSt) B d (r.dirty.map ofDi) s.kind s.tx s.prev s.next s.page s.ok s.oa (bs s.os) (bs s.oo) s.undo s.index (bs s.key) s.rpage s.rslot s.live A' c' (s.txs.map ofSt) B' d' (s.dirty.map ofDi) b w (by rw [e1]; exact hr.hA) (by rw [e1]; exact hr.hc) (by rw [e2]; exact hr.hB) (by rw [e2]; exact hr.hd) (by rw [e3]; exact hs.hA) (by rw [e3]; exact hs.hc) (by rw [e4]; exact hs.hB) (by rw [e4]; exact hs.hd) hf
  rw [e1, e2, e3, e4] at H
  exact H.mono fun e w' ⟨he, hb⟩ => ⟨⟨b, he, hi⟩, hb⟩
end Go.Proofs.Ytebickoieipjpaa
end
section
namespace Go.Gi
def txB (s : List UInt8) : List UInt8 := putL 2 s.length ++ s
def keyB (r : RecR) : List UInt8 := putL 2 r.index.toNat ++ txB r.key ++ putL 4 r.rpage.toNat ++ putL 2 r.rslot.toNat ++ [if r.live then 1 else 0]
def chB (r : RecR) : List UInt8 := putL 4 r.page.toNat ++ putL 1 r.ok.toNat ++ putL 2 r.oa.toNat ++ txB r.os ++ txB r.oo ++ putL 1 r.undo.toNat ++ (if r.undo = 2 then keyB r else [])
def stB (t : StR) : List UInt8 := putL 4 t.tx.toNat ++ putL 1 t.st.toNat ++ putL 8 t.last.toNat ++ putL 8 t.next.toNat
def diB (t : DiR) : List UInt8 := putL 4 t.page.toNat ++ putL 8 t.lsn.toNat
def stsB (l : List StR) : List UInt8 := (l.map stB).flatten
def disB (l : List DiR) : List UInt8 := (l.map diB).flatten
def tabB (r : RecR) : List UInt8 := putL 2 r.txs.length ++ stsB r.txs ++ putL 2 r.dirty.length ++ disB r.dirty
def headB (r : RecR) : List UInt8 := putL 1 r.kind.toNat ++ putL 4 r.tx.toNat ++ putL 8 r.prev.toNat
def recB (r : RecR) : List UInt8 := headB r ++ (if isNext r.kind then putL 8 r.next.toNat else []) ++ (if isChange r.kind then chB r else []) ++ (if r.kind = 8 then tabB r else [])
structure RecW (r : RecR) : Prop where
  prev : 0 ≤ r.prev ∧ r.prev ≤ 18446744073709551615
  next : 0 ≤ r.next ∧ r.next ≤ 18446744073709551615
  page : 0 ≤ r.page ∧ r.page ≤ 4294967295
  rpage : 0 ≤ r.rpage ∧ r.rpage ≤ 4294967295
  sts : ∀ t ∈ r.txs, (0 ≤ t.last ∧ t.last ≤ 18446744073709551615) ∧ 0 ≤ t.next ∧ t.next ≤ 18446744073709551615
  dis : ∀ t ∈ r.dirty, (0 ≤ t.page ∧ t.page ≤ 4294967295) ∧ 0 ≤ t.lsn ∧ t.lsn ≤ 18446744073709551615
theorem c8_1 : clamp8 1 = 1 := rfl
theorem c8_2 : clamp8 2 = 2 := rfl
theorem c8_4 : clamp8 4 = 4 := rfl
theorem c8_8 : clamp8 8 = 8 := rfl
theorem stB_len (t : StR) : (stB t).length = 21 := by simp [stB, putL_length]
theorem diB_len (t : DiR) : (diB t).length = 12 := by simp [diB, putL_length]
theorem stsB_len (l : List StR) : (stsB l).length = 21 * l.length := by
  induction l with
  | nil => rfl
  | cons a l ih => simp [stsB, stB_len] at ih ⊢; omega
theorem disB_len (l : List DiR) : (disB l).length = 12 * l.length := by
  induction l with
  | nil => rfl
  | cons a l ih => simp [disB, diB_len] at ih ⊢; omega
theorem stsB_take (l : List StR) (k : Nat) (h : k < l.length) : stsB (l.take (k + 1)) = stsB (l.take k) ++ stB l[k] := by
  unfold stsB
  rw [List.take_succ_eq_append_getElem h, List.map_append, List.flatten_append]
  simp
theorem disB_take (l : List DiR) (k : Nat) (h : k < l.length) : disB (l.take (k + 1)) = disB (l.take k) ++ diB l[k] := by
  unfold disB
  rw [List.take_succ_eq_append_getElem h, List.map_append, List.flatten_append]
  simp
theorem chB_len (r : RecR) (h1 : r.os.length ≤ 512) (h2 : r.oo.length ≤ 512) (h3 : r.key.length ≤ 64) : (chB r).length ≤ 2000 := by
  unfold chB keyB txB
  split <;> simp [putL_length] <;> omega
def sel (b : Bool) (l : List UInt8) : List UInt8 := if b then l else []
theorem sel_len (b : Bool) (l : List UInt8) : (sel b l).length ≤ l.length := by unfold sel; split <;> simp
theorem sel_true (l : List UInt8) : sel true l = l := rfl
theorem sel_false (l : List UInt8) : sel false l = [] := rfl
theorem sel_eq {b : Bool} {p : Prop} [Decidable p] (h : Says b p) (l : List UInt8) : sel b l = if p then l else [] := by
  cases b
  · rw [if_neg (h.not rfl)]; rfl
  · rw [if_pos (h.1 rfl)]; rfl
end Go.Gi
end
section
namespace Go.Proofs.Ytebickoieipjpaa
open Go.ChangeShapes Go.WideShapes Go.RowKit Go.Gi Go.Proofs.YtebickoieipjpaaW.PrintWords OpenK PRs
set_option linter.unusedVariables false
set_option maxRecDepth 20000
theorem opens_weak {α : Type} {P : Program} {t : TypeId} {k : Kd α} {B B' : α → Prop} (h : Opens P t k B) (hB : ∀ a, B a → B' a) : Opens P t k B' := fun H enc W spare held fuel cs x hx hl => by
  obtain ⟨a, h1, h2⟩ := h H enc W spare held fuel cs x hx hl
  exact ⟨a, h1, hB a h2⟩
def WU (ik : IntKind) (n : Int) : Prop := (Lit.int ik n).wf = true
def kOpT : Kd (Int × Int × ByteArray × ByteArray) := Kd.iso (Kd.pair (Kd.int .i64) (Kd.pair (Kd.int .i64) (Kd.pair Kd.string Kd.string))) (fun x => x)
theorem opens_opT : Opens Try.prog 27 kOpT (fun _ => True) :=
  opens_weak (opens_struct Try.underlying27 (opens_cons (opens_int Try.underlying3) rfl (by kernel_rfl) (opens_cons (opens_int Try.underlying3) rfl (by kernel_rfl) (opens_cons (opens_string Try.underlying9) rfl (by kernel_rfl) (opens_one (opens_string Try.underlying9) rfl (by kernel_rfl))))) (by kernel_rfl) (fun a => a) (fun _ => rfl)) (fun _ _ => trivial)
def kRidT : Kd (Int × Int) := Kd.iso (Kd.pair (Kd.int .u32) (Kd.int .i64)) (fun x => x)
theorem opens_ridT : Opens Try.prog 29 kRidT (fun x => WU .u32 x.1 ∧ WU .i64 x.2) :=
  opens_struct Try.underlying29 (opens_cons (opens_int Try.underlying25) rfl (by kernel_rfl) (opens_one (opens_int Try.underlying3) rfl (by kernel_rfl))) (by kernel_rfl) (fun a => a) (fun _ => rfl)
def kEntT : Kd (ByteArray × (Int × Int)) := Kd.iso (Kd.pair Kd.string kRidT) (fun x => x)
theorem opens_entT : Opens Try.prog 31 kEntT (fun x => WU .u32 x.2.1 ∧ WU .i64 x.2.2) :=
  opens_weak (opens_struct Try.underlying31 (opens_cons (opens_string Try.underlying9) rfl (by kernel_rfl) (opens_one opens_ridT rfl (by kernel_rfl))) (by kernel_rfl) (fun a => a) (fun _ => rfl)) (fun _ h => ⟨h.2.1, h.2.2⟩)
theorem opens_stT : Opens Try.prog 70 k70 (fun x => WU .u64 x.f2 ∧ WU .u64 x.f3) :=
  opens_weak (opens_struct Try.underlying70 (opens_cons (opens_int Try.underlying3) rfl (by kernel_rfl) (opens_cons (opens_int Try.underlying3) rfl (by kernel_rfl) (opens_cons (opens_int Try.underlying23) rfl (by kernel_rfl) (opens_one (opens_int Try.underlying23) rfl (by kernel_rfl))))) (by kernel_rfl) (fun a => ⟨a.1, a.2.1, a.2.2.1, a.2.2.2⟩) (fun _ => rfl)) (fun _ h => ⟨h.2.2.1, h.2.2.2⟩)
theorem opens_diT : Opens Try.prog 72 k72 (fun x => WU .u32 x.f0 ∧ WU .u64 x.f1) :=
  opens_struct Try.underlying72 (opens_cons (opens_int Try.underlying25) rfl (by kernel_rfl) (opens_one (opens_int Try.underlying23) rfl (by kernel_rfl))) (by kernel_rfl) (fun a => ⟨a.1, a.2⟩) (fun _ => rfl)
theorem opens_stsT : Opens Try.prog 32 (Kd.slice 70 k70) (fun l => l.length * 32 ≤ 140737488351232 ∧ ∀ x ∈ l, WU .u64 x.f2 ∧ WU .u64 x.f3) :=
  opens_slice Try.underlying32 (by kernel_rfl) (by decide) (by kernel_rfl) opens_stT
theorem opens_disT : Opens Try.prog 33 (Kd.slice 72 k72) (fun l => l.length * 16 ≤ 140737488351232 ∧ ∀ x ∈ l, WU .u32 x.f0 ∧ WU .u64 x.f1) :=
  opens_slice Try.underlying33 (by kernel_rfl) (by decide) (by kernel_rfl) opens_diT
abbrev RecT := Int × Int × Int × Int × Int × (Int × Int × ByteArray × ByteArray) × Int × Int × (ByteArray × (Int × Int)) × Bool × List S70 × List S72
def kRecT : Kd RecT := Kd.iso (Kd.pair (Kd.int .i64) (Kd.pair (Kd.int .i64) (Kd.pair (Kd.int .u64) (Kd.pair (Kd.int .u64) (Kd.pair (Kd.int .u32) (Kd.pair kOpT (Kd.pair (Kd.int .i64) (Kd.pair (Kd.int .i64) (Kd.pair kEntT (Kd.pair Kd.bool (Kd.pair (Kd.slice 70 k70) (Kd.slice 72 k72)))))))))))) (fun x => x)
def RecT.ok : RecT → Prop := fun (_, _, prev, next, page, _, _, _, (_, (rp, _)), _, sts, dis) => WU .u64 prev ∧ WU .u64 next ∧ WU .u32 page ∧ WU .u32 rp ∧ (sts.length * 32 ≤ 140737488351232 ∧ ∀ x ∈ sts, WU .u64 x.f2 ∧ WU .u64 x.f3) ∧ (dis.length * 16 ≤ 140737488351232 ∧ ∀ x ∈ dis, WU .u32 x.f0 ∧ WU .u64 x.f1)
theorem opens_recT : Opens Try.prog 35 kRecT RecT.ok :=
  opens_weak (opens_struct Try.underlying35 (opens_cons (opens_int Try.underlying3) rfl (by kernel_rfl) (opens_cons (opens_int Try.underlying3) rfl (by kernel_rfl) (opens_cons (opens_int Try.underlying23) rfl (by kernel_rfl) (opens_cons (opens_int Try.underlying23) rfl (by kernel_rfl) (opens_cons (opens_int Try.underlying25) rfl (by kernel_rfl)
    (opens_cons opens_opT rfl (by kernel_rfl) (opens_cons (opens_int Try.underlying3) rfl (by kernel_rfl) (opens_cons (opens_int Try.underlying3) rfl (by kernel_rfl) (opens_cons opens_entT rfl (by kernel_rfl) (opens_cons (opens_bool Try.underlying4) rfl (by kernel_rfl) (opens_cons opens_stsT rfl (by kernel_rfl) (opens_one opens_disT rfl (by kernel_rfl)))))))))))))
    (by kernel_rfl) (fun a => a) (fun _ => rfl)) (fun _ ⟨_, _, h3, h4, h5, _, _, _, h9, _, h11, h12⟩ => ⟨h3, h4, h5, h9.1, h11, h12⟩)
def stOf' (s : S70) : StR := ⟨s.f0, s.f1, s.f2, s.f3⟩
def diOf' (s : S72) : DiR := ⟨s.f0, s.f1⟩
theorem map_st (l : List S70) : (l.map stOf').map ofSt = l := by rw [List.map_map]; exact List.map_id l
theorem map_di (l : List S72) : (l.map diOf').map ofDi = l := by rw [List.map_map]; exact List.map_id l
theorem rec_cells {W : World} {x : RecT} {cs : List Value} (h : kRecT.K W x cs) (hx : x.ok) : ∃ (r : RecR) (A : Option Addr) (c : Nat) (B : Option Addr) (d : Nat), cs = (r.cells A c B d).toList ∧ RowsR W r A c B d ∧ RecW r := by
  obtain ⟨x0, x1, x2, x3, x4, ⟨y0, y1, y2, y3⟩, x6, x7, ⟨z0, z1, z2⟩, x9, sts, dis⟩ := x
  obtain ⟨_, _, rfl, rfl, ⟨_, _, rfl, rfl, ⟨_, _, rfl, rfl, ⟨_, _, rfl, rfl, ⟨_, _, rfl, rfl, ⟨_, _, rfl, ⟨_, _, rfl, rfl, ⟨_, _, rfl, rfl, ⟨_, _, rfl, rfl, rfl⟩⟩⟩, ⟨_, _, rfl, rfl, ⟨_, _, rfl, rfl, ⟨_, _, rfl, ⟨_, _, rfl, rfl, ⟨_, _, rfl, rfl, rfl⟩⟩, ⟨_, _, rfl, rfl, ⟨_, _, rfl, ⟨A, c, rfl, hlA, hgA⟩, ⟨B, d, rfl, hlB, hgB⟩⟩⟩⟩⟩⟩⟩⟩⟩⟩⟩⟩ := h
  obtain ⟨k1, k2, k3, k4, ⟨k5, k6⟩, k7, k8⟩ := hx
  refine ⟨⟨x0, x1, x2, x3, x4, y0, y1, y2.data.toList, y3.data.toList, x6, x7, z0.data.toList, z1, z2, x9, sts.map stOf', dis.map diOf'⟩, A, c, B, d, ?_, ?_, ?_⟩
  · unfold RecR.cells
    simp only [bs_toList, List.length_map]
    rfl
  · constructor
    · show Kd.C _ W A (sts.map stOf').length ((sts.map stOf').map ofSt)
      rw [map_st, List.length_map]; exact hgA
    · show (sts.map stOf').length ≤ c
      rw [List.length_map]; exact hlA
    · show Kd.C _ W B (dis.map diOf').length ((dis.map diOf').map ofDi)
      rw [map_di, List.length_map]; exact hgB
    · show (dis.map diOf').length ≤ d
      rw [List.length_map]; exact hlB
    · show (sts.map stOf').length * 32 ≤ _
      rw [List.length_map]; exact k5
    · show (dis.map diOf').length * 16 ≤ _
      rw [List.length_map]; exact k7
  · constructor
    · exact bounds_u64 k1
    · exact bounds_u64 k2
    · exact bounds_u32 k3
    · exact bounds_u32 k4
    · intro t ht
      obtain ⟨u, hu, rfl⟩ := List.mem_map.1 ht
      exact ⟨bounds_u64 (k6 u hu).1, bounds_u64 (k6 u hu).2⟩
    · intro t ht
      obtain ⟨u, hu, rfl⟩ := List.mem_map.1 ht
      exact ⟨bounds_u32 (k8 u hu).1, bounds_u64 (k8 u hu).2⟩
set_option maxRecDepth 100000 in
theorem rec_open3 {H : Type} {enc : TypeId × Value → H} {W : World} {spare : Nat → Bool} {held : Bool} {rr : Reach} {b0 : Nat} {v : Value} {dd : DataW H} {p : List MemPlace} (hv : Value.okWide Try.prog W rr b0 35 v)
    (h : DataW.Trod enc Try.prog W 0 spare held 35 v dd p) (hl : Light Try.prog 35 dd) :
    ∃ (r : RecR) (A : Option Addr) (c : Nat) (B : Option Addr) (d : Nat), v = r.val A c B d ∧ RowsR W r A c B d ∧ RecW r := by
  obtain ⟨cs, rfl, hsz⟩ := okWide_struct Try.underlying35 hv
  obtain ⟨fuel, hf⟩ := h
  obtain ⟨x, hk, hB⟩ := opens_recT H enc W spare held fuel _ _ hf hl
  obtain ⟨r, A, c, B, d, e, h1, h2⟩ := rec_cells hk hB
  obtain ⟨l⟩ := cs
  simp only [Value.cells] at e
  refine ⟨r, A, c, B, d, ?_, h1, h2⟩
  unfold RecR.val
  congr 1
  apply Array.toList_inj.1
  exact e
end Go.Proofs.Ytebickoieipjpaa
end
section
namespace Go.Proofs.Ytebickoieipjpaa
open Go.RowKit Go.Gi
set_option maxRecDepth 20000
attribute [local go_sem] max2_int min2_int max_two min_two
theorem infoU8 : (Try.prog.info? 5).map (fun i => (i.zero, i.size, i.bytes)) = some (some (.int .u8 0), 1, 1) := by kernel_rfl
theorem u8V_ofNat (n k : Nat) : Value.int .u8 ((n : Int) / 256 ^ k % 256) = u8V (UInt8.ofNat (n / 256 ^ k)) := by
  simp [u8V]
set_option maxHeartbeats 400000 in
theorem put_any (n long : Int) (w : World) (h0 : 0 ≤ n) (h1 : n ≤ 18446744073709551615) :
    Calls Try.prog 39 #[.int .u64 n, .int .i64 long] w fun e w' => e = .returned (.string (bs (putL (clamp8 long) n.toNat))) ∧ Below w.heap.size w w' := by
  obtain ⟨i0, hi, hz0, hz1, hz2⟩ := info_parts infoU8
  obtain ⟨m, hm⟩ : ∃ m : Int, min (max long 0) 8 = m := ⟨_, rfl⟩
  have hm0 : 0 ≤ m := by omega
  have hm8 : m ≤ 8 := by omega
  have hc : clamp8 long = m.toNat := by unfold clamp8; rw [hm]
  rw [hc]
  clear hc
  obtain ⟨n, rfl⟩ := Int.eq_ofNat_of_zero_le h0
  go_enter Try.func39, Try.ntmps39
  go_wp2
  go_loopw [0, 5, 9] (fun x v i wr => ∃ k : Nat, k ≤ m.toNat ∧ x = .int .u64 ((n / 256 ^ k : Nat) : Int) ∧ i = .int .i64 k ∧ wr.ownsRow w.heap.size 5 1 v k ((putL k n).map u8V) ∧ Below w.heap.size w wr)
      (fun _ _ i _ => m.toNat - (intOf i).toNat)
  case atStart => exact ⟨0, Nat.zero_le _, by simp, rfl, World.ownsRow_nil _ _ _ _, Below.refl _ _⟩
  case round =>
    obtain ⟨k, hk, rfl, rfl, hown, hb⟩ := hrel
    have Hb := Lib.hid hb
    clear hb
    by_cases hlt : k < m.toNat
    · go_wp2_with (at_builtin; refine wpList_append_own _ rfl _ _ 92 rfl w.heap.size 5 i0 (.int .u8 0) 1 1 Try.underlying92 hi hz0 hz1 hz2 rfl (by decide) _ _ _ rfl (hown.alloc _) ⟨wr.heap.size, 0, none⟩ 1 1 [.int .u8 ((n : Int) / 256 ^ k % 256)] rfl rfl ?c1 ?c2 ?c3 ?c4 ?c5 ?_)
      case c1 => intro j u hj; match j, hj with | 0, hj => simp at hj; subst hj; simp [Addr.add]
      case c2 => intro u hu; simp at hu; subst hu; rfl
      case c3 => unfold maxLen; omega
      case c4 => omega
      case c5 => have := Hb.out.size; simp; omega
      intro v' w1 hown1 hgrow1 _
      have hb1 : Below w.heap.size w w1 := (Hb.out.alloc Hb.out.size _).grown hgrow1 (by have := Hb.out.size; simp; omega) (fun k hk => (hown.lt k hk).1)
      have Hb1 := Lib.hid hb1
      clear hb1 Hb
      rw [u8V_ofNat, ← List.map_singleton, ← List.map_append, ← putL_snoc] at hown1
      go_wp2
      go_roundw
      case rel => exact ⟨k + 1, by omega, by simp only [Value.int.injEq, true_and]; rw [Nat.pow_succ, ← Nat.div_div_eq_div_mul]; simp, by go_num, hown1, Hb1.out⟩
      case measure => simp [intOf]; omega
    · have hcv := own_string (P := Try.prog) Try.underlying92 Try.underlying5 Try.underlying9 hown
      obtain rfl : k = m.toNat := by omega
      go_wp2
      go_ret
      exact ⟨by simp, Hb.out⟩
theorem put_km (n long : Int) (w : World) (m k : Nat) (hn : n = m) (hk : clamp8 long = k) (hm : m ≤ 18446744073709551615) :
    Calls Try.prog 39 #[.int .u64 n, .int .i64 long] w fun e w' => e = .returned (.string (bs (putL k m))) ∧ Below w.heap.size w w' := by
  subst hn hk
  exact put_any _ _ _ (by omega) (by omega)
end Go.Proofs.Ytebickoieipjpaa
end
section
namespace Go.Proofs.Ytebickoieipjpaa
open Go.RowKit Go.Gi
set_option maxRecDepth 20000
theorem text_ok (s : ByteArray) (w : World) (h : s.size ≤ 65535) :
    Calls Try.prog 53 #[.string s] w fun e w' => e = .returned (.tuple #[.string (bs (putL 2 s.size) ++ s), .int .i64 0]) ∧ Below w.heap.size w w' := by
  have hcat : (bs (putL 2 s.size)).size + s.size ≤ 9223372036854775807 := by rw [bs_size, putL_length]; omega
  go_enter Try.func53, Try.ntmps53
  go_wp2_with (go_at_call 39; refine (put_km _ _ _ s.size 2 rfl rfl (by omega)).mono ?_; rintro e w' ⟨rfl, hb⟩)
  go_ret2
  exact ⟨rfl, hb⟩
set_option maxHeartbeats 400000 in
theorem rput_any (n : Nat) (long : Int) (w : World) (h1 : n ≤ 18446744073709551615) :
    Calls Try.prog 32 #[.int .u64 n, .int .i64 long] w fun e w' => e = .returned (.string (bs (putL (clamp8 long) n))) ∧ Below w.heap.size w w' := by
  obtain ⟨m, hm⟩ : ∃ m : Int, min (max long 0) 8 = m := ⟨_, rfl⟩
  have hc : clamp8 long = m.toNat := by unfold clamp8; rw [hm]
  rw [hc]
  clear hc
  have hm1 : m ≤ 8 := by omega
  have hm2 : 0 ≤ m := by omega
  have Hm : Hid (min (max long 0) 8 = m) := hm
  clear hm
  go_enter Try.func32, Try.ntmps32
  go_wp2
  go_loopw [0, 5, 6] (fun x v i wr => ∃ k : Nat, k ≤ m.toNat ∧ x = .int .u64 ((n / 256 ^ k : Nat) : Int) ∧ i = .int .i64 k ∧ v = .string (bs (putL k n)) ∧ Below w.heap.size w wr)
      (fun _ _ i _ => m.toNat - (intOf i).toNat)
  case atStart => exact ⟨0, Nat.zero_le _, by simp, rfl, rfl, Below.refl _ _⟩
  case round =>
    obtain ⟨k, hk, rfl, rfl, rfl, hb⟩ := hrel
    have Hb := Lib.hid hb
    clear hb
    have hlen : (bs (putL k n)).size = k := by rw [bs_size, putL_length]
    by_cases hlt : k < m.toNat
    · have hl1 : (k : Int) < long := by have := Hm.out; omega
      have hl2 : (k : Int) < 8 := by omega
      have hq : n / 256 ^ k ≤ 18446744073709551615 := Nat.le_trans (Nat.div_le_self _ _) h1
      have Hs := Lib.hid (show bs (putL k n) ++ bs [UInt8.ofNat (n / 256 ^ k)] = bs (putL (k + 1) n) by rw [putL_snoc k n, bs_append])
      have Hq := Lib.hid (show n / 256 ^ (k + 1) = n / 256 ^ k / 256 by rw [Nat.pow_succ, Nat.div_div_eq_div_mul])
      have hcv := fun W => conv_lit1 (P := Try.prog) Try.underlying92 Try.underlying5 Try.underlying9 W (UInt8.ofNat (n / 256 ^ k)) ((n / 256 ^ k : Nat) % 256 : Int) (by simp)
      have hcat : (bs (putL k n)).size + (bs [UInt8.ofNat (n / 256 ^ k)]).size ≤ 9223372036854775807 := by rw [bs_size, putL_length, bs_size]; simp; omega
      generalize n / 256 ^ k = q at *
      go_wp2
      go_roundw
      case rel => exact ⟨k + 1, by omega, by rw [Hq.out]; simp, by go_num, by rw [Hs.out], Hb.out.alloc Hb.out.size _⟩
      case measure => simp [intOf]; omega
    · obtain rfl : k = m.toNat := by omega
      by_cases h8 : (m.toNat : Int) < long
      · have h9 : ¬ (m.toNat : Int) < 8 := by have := Hm.out; omega
        go_wp2
        go_ret
        exact ⟨rfl, Hb.out⟩
      · go_wp2
        go_ret
        exact ⟨rfl, Hb.out⟩
end Go.Proofs.Ytebickoieipjpaa
end
section
namespace Go.Gi
open Go.RowKit
set_option maxRecDepth 20000
theorem cellIte (w : World) (g i h j : Nat) (v : Value) : (w.setCell ⟨g, i, none⟩ v).cell? ⟨h, j, none⟩ = if g = h ∧ i = j then (w.cell? ⟨h, j, none⟩).map (fun _ => v) else w.cell? ⟨h, j, none⟩ := by
  by_cases hg : g = h
  · subst hg
    by_cases hi : i = j
    · subst hi
      rw [if_pos ⟨rfl, rfl⟩]
      cases hx : w.cell? ⟨g, i, none⟩ with
      | some x => rw [cellSame (by rw [hx]; rfl)]; rfl
      | none =>
        simp [World.cell?] at hx ⊢
        simp [World.setCell, Array.getElem?_modify]
        cases hh : w.heap[g]? with
        | none => simp
        | some o =>
          rw [hh] at hx
          cases o <;> simp_all
    · rw [if_neg (fun h => hi h.2)]
      exact World.cell?_setCell_other w _ _ v (fun h => hi (by injection h))
  · rw [if_neg (fun h => hg h.1)]
    exact World.cell?_setCell_other w _ _ v (fun h => hg (by injection h))
end Go.Gi
end
section
namespace Go.Proofs.Ytebickoieipjpaa
open Go.RowKit Go.Gi
set_option maxRecDepth 20000
set_option linter.unusedSimpArgs false
set_option linter.unusedVariables false
theorem text04_any (s : ByteArray) (w : World) (hs : s.size ≤ 9000000000000000000) :
    Calls Try.prog 33 #[.string s] w fun e w' => e = .returned (.string (bs (putL 2 s.size ++ s.data.toList))) ∧ Below w.heap.size w w' := by
  have hw1 : IntKind.u64.wrap (s.size : Int) = s.size := by rw [IntKind.wrap_u64]; omega
  have hw2 : (s.size : Int) % 18446744073709551616 = s.size := by omega
  have hb : bs (putL 2 s.size ++ s.data.toList) = bs (putL 2 s.size) ++ s := by
    have := bs_toList s
    conv => rhs; rw [← this]
    exact bs_append _ _
  have hcat : (bs (putL 2 s.size)).size + s.size ≤ 9223372036854775807 := by rw [bs_size, putL_length]; omega
  have hc2 := Lib.hid (show clamp8 2 = 2 from rfl)
  have HB := Lib.hid hb
  clear hb
  go_enter Try.func33, Try.ntmps33
  go_wp2_with (go_at_call 32; refine (rput_any s.size 2 _ (by omega)).mono ?_; rintro e w1 ⟨he, hb5⟩; rw [hc2.out] at he; subst he)
  go_ret
  exact ⟨by rw [HB.out]; rfl, hb5⟩
end Go.Proofs.Ytebickoieipjpaa
end
section
namespace Go.Proofs.Ytebickoieipjpaa.PRr
open Go.RowKit Go.Proofs.YtebickoieipjpaaW.PrintWords Go.Proofs.YtebickoieipjpaaW.PrintLast Go.Proofs.YtebickoieipjpaaW.PrintMore
attribute [local go_sem] max2_int min2_int max_two min_two max_three min_three max_four min_four
set_option linter.unusedVariables false
set_option linter.unusedSimpArgs false
def errW : Option Int → Value
 | none=>.nilIface
 | some c=>.iface 0 (.int .i64 c)
theorem errW_none : errW none=.nilIface:=rfl
theorem errW_some (c : Int) : errW (some c)=.iface 0 (.int .i64 c):=rfl
structure S56 where
 f0 : Int
 f1 : Int
 f2 : Int
 f3 : Int
def z56 : S56:=⟨(0 : Int),(0 : Int),(0 : Int),(0 : Int)⟩
def k56 : Kd S56:=Kd.iso (Kd.pair (Kd.int .i64) (Kd.pair (Kd.int .i64) (Kd.pair (Kd.int .u64) (Kd.int .u64)))) (fun x : S56=>(x.f0,x.f1,x.f2,x.f3))
theorem k56_open {w : World} {x : S56} {cs : List Value} (h : k56.K w x cs) : cs=[.int .i64 x.f0,.int .i64 x.f1,.int .u64 x.f2,.int .u64 x.f3]:=by
 obtain ⟨_,_,rfl,rfl,⟨_,_,rfl,rfl,⟨_,_,rfl,rfl,rfl⟩⟩⟩:=h
 exact rfl
theorem k56_mk (w : World) (x : S56)  : k56.K w x [.int .i64 x.f0,.int .i64 x.f1,.int .u64 x.f2,.int .u64 x.f3]:=⟨[.int .i64 x.f0],[.int .i64 x.f1,.int .u64 x.f2,.int .u64 x.f3],rfl,rfl,⟨[.int .i64 x.f1],[.int .u64 x.f2,.int .u64 x.f3],rfl,rfl,⟨[.int .u64 x.f2],[.int .u64 x.f3],rfl,rfl,rfl⟩⟩⟩
def rd_T56 (xs : List S56) (i : Int) : S56:=xs.getD i.toNat z56
theorem at_T56 {w : World} {A : Option Addr} {n : Nat} {xs : List S56} (h : Kd.C k56 w A n xs) (i : Int) (h0 : 0≤i) (h1 : i < n) : ∃ ad ,A=some ad∧w.cell? (ad.add (i.toNat * 4))=some (.int .i64 (rd_T56 xs i).f0)∧w.cell? ⟨(ad.add (i.toNat * 4)).block,(ad.add (i.toNat * 4)).off + 1,none⟩=some (.int .i64 (rd_T56 xs i).f1)∧w.cell? ⟨(ad.add (i.toNat * 4)).block,(ad.add (i.toNat * 4)).off + 2,none⟩=some (.int .u64 (rd_T56 xs i).f2)∧w.cell? ⟨(ad.add (i.toNat * 4)).block,(ad.add (i.toNat * 4)).off + 3,none⟩=some (.int .u64 (rd_T56 xs i).f3):=by
 obtain ⟨ad,c,e,_,hK,hc0⟩:=Kd.C_get h z56 i h0 h1
 have hc : ∀ j u,c[j]?=some u → w.cell? (ad.add (i.toNat * 4 + j))=some u:=hc0
 obtain rfl:=k56_open hK
 exact ⟨ad,e,hc 0 _ rfl,by rw [← add_field _ _ 1 (by omega)];exact hc 1 _ rfl,by rw [← add_field _ _ 2 (by omega)];exact hc 2 _ rfl,by rw [← add_field _ _ 3 (by omega)];exact hc 3 _ rfl⟩
structure S58 where
 f0 : Int
 f1 : Int
def z58 : S58:=⟨(0 : Int),(0 : Int)⟩
def k58 : Kd S58:=Kd.iso (Kd.pair (Kd.int .u32) (Kd.int .u64)) (fun x : S58=>(x.f0,x.f1))
theorem k58_open {w : World} {x : S58} {cs : List Value} (h : k58.K w x cs) : cs=[.int .u32 x.f0,.int .u64 x.f1]:=by
 obtain ⟨_,_,rfl,rfl,rfl⟩:=h
 exact rfl
theorem k58_mk (w : World) (x : S58)  : k58.K w x [.int .u32 x.f0,.int .u64 x.f1]:=⟨[.int .u32 x.f0],[.int .u64 x.f1],rfl,rfl,rfl⟩
def rd_T58 (xs : List S58) (i : Int) : S58:=xs.getD i.toNat z58
theorem at_T58 {w : World} {A : Option Addr} {n : Nat} {xs : List S58} (h : Kd.C k58 w A n xs) (i : Int) (h0 : 0≤i) (h1 : i < n) : ∃ ad ,A=some ad∧w.cell? (ad.add (i.toNat * 2))=some (.int .u32 (rd_T58 xs i).f0)∧w.cell? ⟨(ad.add (i.toNat * 2)).block,(ad.add (i.toNat * 2)).off + 1,none⟩=some (.int .u64 (rd_T58 xs i).f1):=by
 obtain ⟨ad,c,e,_,hK,hc0⟩:=Kd.C_get h z58 i h0 h1
 have hc : ∀ j u,c[j]?=some u → w.cell? (ad.add (i.toNat * 2 + j))=some u:=hc0
 obtain rfl:=k58_open hK
 exact ⟨ad,e,hc 0 _ rfl,by rw [← add_field _ _ 1 (by omega)];exact hc 1 _ rfl⟩
end Go.Proofs.Ytebickoieipjpaa.PRr
end
section
namespace Go.Gi
open Go.RowKit
structure ChR where
  page : Int
  ok : Int
  oa : Int
  os : List UInt8
  oo : List UInt8
  undo : Int
  index : Int
  key : List UInt8
  rpage : Int
  rslot : Int
  live : Bool
def rdCh (L : List UInt8) (a : Nat) (e : Int) : ChR × Nat × Int :=
  let q1 := rNum L a e 4
  let q2 := rNum L q1.2.1 q1.2.2 1
  let q3 := rNum L q2.2.1 q2.2.2 2
  let q4 := rText L q3.2.1 q3.2.2 512
  let q5 := rText L q4.2.1 q4.2.2 512
  let q6 := rNum L q5.2.1 q5.2.2 1
  if (q6.1 : Int) = 2 then
    let q7 := rNum L q6.2.1 q6.2.2 2
    let q8 := rText L q7.2.1 q7.2.2 64
    let q9 := rNum L q8.2.1 q8.2.2 4
    let q10 := rNum L q9.2.1 q9.2.2 2
    let q11 := rBool L q10.2.1 q10.2.2
    (⟨q1.1, q2.1, q3.1, q4.1, q5.1, q6.1, q7.1, q8.1, q9.1, q10.1, q11.1⟩, q11.2.1, q11.2.2)
  else (⟨q1.1, q2.1, q3.1, q4.1, q5.1, q6.1, 0, [], 0, 0, false⟩, q6.2.1, q6.2.2)
theorem numL_take (L : List UInt8) (n : Nat) : numL (L.take n) < 256 ^ n :=
  Nat.lt_of_lt_of_le (numL_lt _) (Nat.pow_le_pow_right (by decide) (List.length_take_le _ _))
theorem rNum_lt (L : List UInt8) (a : Nat) (e : Int) (n : Nat) : (rNum L a e n).1 < 256 ^ n := by
  have h0 : 0 < 256 ^ n := Nat.pow_pos (by decide)
  unfold rNum
  split
  · exact h0
  split
  · exact h0
  split
  · exact h0
  · simp only [Int.toNat_natCast]
    exact numL_take _ _
theorem rText_le (l : List UInt8) (a : Nat) (e most : Int) (ha : a ≤ l.length) : (rText l a e most).2.1 ≤ l.length := by
  unfold rText
  split
  · exact ha
  split
  · exact ha
  split
  · exact ha
  split
  · exact ha
  · simp only []; omega
theorem rBool_le (l : List UInt8) (a : Nat) (e : Int) (ha : a ≤ l.length) : (rBool l a e).2.1 ≤ l.length := by
  unfold rBool
  split
  · exact ha
  split
  · exact ha
  split
  · exact ha
  · simp only []; omega
structure RS (w : World) (T g : Nat) (L : List UInt8) (a : Nat) (e : Int) : Prop where
  rd : Rd w T g (bs L) a e
  at_ : a ≤ L.length
  long : (bs L).size ≤ maxLen
theorem RS.far {w : World} {T g b o : Nat} {L : List UInt8} {a : Nat} {e : Int} {u : Value} (h : RS w T g L a e) (hne : b ≠ g) : RS (w.setCell ⟨b, o, none⟩ u) T g L a e :=
  ⟨(Below.heap_setCell w ⟨b, o, none⟩ u g (fun h => hne h.symm)).trans h.rd, h.at_, h.long⟩
theorem RS.step {w w' : World} {T g : Nat} {L : List UInt8} {a : Nat} {e : Int} (h : RS w T g L a e) (hb : Below w.heap.size w w') : RS w' T g L a e := ⟨h.rd.step hb, h.at_, h.long⟩
theorem bsetB {B : Nat} {w a : World} {b o : Nat} (h : Below B w a) (hp : B ≤ b) (u : Value) : Below B w (a.setCell ⟨b, o, none⟩ u) := h.setCell hp u
theorem bgrownB {B : Nat} {w a b : World} {g : Nat} (h : Below B w a) (hg : a.grownBy b (some g)) (hB : B ≤ w.heap.size) (hr : B ≤ g) : Below B w b :=
  h.grown hg (Nat.le_trans hB h.size) (fun k hk => by injection hk; omega)
end Go.Gi
end
section
namespace Go.Gi
open Go.RowKit
def rdSt (L : List UInt8) (a : Nat) (e : Int) : StR × Nat × Int :=
  let q1 := rNum L a e 4
  let q2 := rNum L q1.2.1 q1.2.2 1
  let q3 := rNum L q2.2.1 q2.2.2 8
  let q4 := rNum L q3.2.1 q3.2.2 8
  (⟨q1.1, q2.1, q3.1, q4.1⟩, q4.2.1, q4.2.2)
def rdDi (L : List UInt8) (a : Nat) (e : Int) : DiR × Nat × Int :=
  let q1 := rNum L a e 4
  let q2 := rNum L q1.2.1 q1.2.2 8
  (⟨q1.1, q2.1⟩, q2.2.1, q2.2.2)
def rdMany {α : Type} (f : Nat → Int → α × Nat × Int) : Nat → List α → Nat → Int → List α × Nat × Int
  | 0, acc, a, e => (acc, a, e)
  | n + 1, acc, a, e => if e = 0 then rdMany f n (acc ++ [(f a e).1]) (f a e).2.1 (f a e).2.2 else (acc, a, e)
structure TabR where
  txs : List StR
  dirty : List DiR
def rdTab (L : List UInt8) (a : Nat) (e : Int) : TabR × Nat × Int :=
  let q1 := rNum L a e 2
  let q2 := rdMany (rdSt L) q1.1 [] q1.2.1 q1.2.2
  let q3 := rNum L q2.2.1 q2.2.2 2
  let q4 := rdMany (rdDi L) q3.1 [] q3.2.1 q3.2.2
  (⟨q2.1, q4.1⟩, q4.2.1, q4.2.2)
def zCh : ChR := ⟨0, 0, 0, [], [], 0, 0, [], 0, 0, false⟩
def mkRec (kind tx prev next : Int) (c : ChR) (t : TabR) : RecR := ⟨kind, tx, prev, next, c.page, c.ok, c.oa, c.os, c.oo, c.undo, c.index, c.key, c.rpage, c.rslot, c.live, t.txs, t.dirty⟩
def rdNext (L : List UInt8) (kind : Int) (a : Nat) (e : Int) : Nat × Nat × Int := if isNext kind then rNum L a e 8 else (0, a, e)
def rdChIf (L : List UInt8) (kind : Int) (a : Nat) (e : Int) : ChR × Nat × Int := if isChange kind then rdCh L a e else (zCh, a, e)
def rdTabIf (L : List UInt8) (kind : Int) (a : Nat) (e : Int) : TabR × Nat × Int := if kind = 8 then rdTab L a e else (⟨[], []⟩, a, e)
def rdRec (L : List UInt8) : RecR × Nat × Int :=
  let q1 := rNum L 0 0 1
  let q2 := rNum L q1.2.1 q1.2.2 4
  let q3 := rNum L q2.2.1 q2.2.2 8
  let q4 := rdNext L q1.1 q3.2.1 q3.2.2
  let q5 := rdChIf L q1.1 q4.2.1 q4.2.2
  let q6 := rdTabIf L q1.1 q5.2.1 q5.2.2
  (mkRec q1.1 q2.1 q3.1 q4.1 q5.1 q6.1, q6.2.1, q6.2.2)
def decOk (L : List UInt8) : Prop := rEnd L (rdRec L).2.1 (rdRec L).2.2 = 0 ∧ recOk (rdRec L).1
theorem rdMany_len {α : Type} (f : Nat → Int → α × Nat × Int) : ∀ n acc a e, (rdMany f n acc a e).1.length ≤ acc.length + n
  | 0, acc, a, e => by simp [rdMany]
  | n + 1, acc, a, e => by
    unfold rdMany
    split
    · have := rdMany_len f n (acc ++ [(f a e).1]) (f a e).2.1 (f a e).2.2
      rw [List.length_append] at this
      simp only [List.length_cons, List.length_nil] at this
      omega
    · simp only []; omega
theorem rdMany_stop {α : Type} {f : Nat → Int → α × Nat × Int} {k : Nat} {acc ts : List α} {a b : Nat} {e e' : Int} (h : rdMany f k acc a e = (ts, b, e')) (hx : ¬ (0 < k ∧ e = 0)) : ts = acc ∧ b = a ∧ e' = e := by
  cases k with
  | zero => unfold rdMany at h; injection h with h1 h2; injection h2 with h2 h3; exact ⟨h1.symm, h2.symm, h3.symm⟩
  | succ k =>
    unfold rdMany at h
    rw [if_neg (fun he => hx ⟨Nat.succ_pos k, he⟩)] at h
    injection h with h1 h2; injection h2 with h2 h3; exact ⟨h1.symm, h2.symm, h3.symm⟩
theorem rdMany_go {α : Type} {f : Nat → Int → α × Nat × Int} {k : Nat} {acc ts : List α} {a b : Nat} {e' : Int} {x : α} {a1 : Nat} {e1 : Int} (h : rdMany f (k + 1) acc a 0 = (ts, b, e')) (hf : f a 0 = (x, a1, e1)) : rdMany f k (acc ++ [x]) a1 e1 = (ts, b, e') := by
  unfold rdMany at h
  rw [if_pos rfl, hf] at h
  exact h
theorem flat_snoc {α : Type} (enc : α → List Value) (acc : List α) (x : α) : ((acc ++ [x]).map enc).flatten = (acc.map enc).flatten ++ enc x := by simp
theorem tab_len {L : List UInt8} {k : Int} {a : Nat} {e : Int} {t : TabR} {a' : Nat} {e' : Int} (h : rdTabIf L k a e = (t, a', e')) : t.txs.length ≤ 65535 ∧ t.dirty.length ≤ 65535 := by
  unfold rdTabIf at h
  split at h
  · unfold rdTab at h
    simp only at h
    injection h with h1 h2
    subst h1
    have x1 := rNum_lt L a e 2
    have x2 : ∀ a e, (rNum L a e 2).1 < 65536 := fun a e => rNum_lt L a e 2
    constructor
    · refine Nat.le_trans (rdMany_len _ _ _ _ _) ?_
      have := x2 a e
      simp only [List.length_nil]
      omega
    · refine Nat.le_trans (rdMany_len _ _ _ _ _) ?_
      have := x2 (rdMany (rdSt L) (rNum L a e 2).1 [] (rNum L a e 2).2.1 (rNum L a e 2).2.2).2.1 (rdMany (rdSt L) (rNum L a e 2).1 [] (rNum L a e 2).2.1 (rNum L a e 2).2.2).2.2
      simp only [List.length_nil]
      omega
  · injection h with h1 h2
    subst h1
    simp
end Go.Gi
end
section
namespace Go.Gi
set_option linter.unusedSimpArgs false
set_option linter.unusedVariables false
theorem drop_len {L P R : List UInt8} {a : Nat} (h : L.drop a = P ++ R) : L.drop (a + P.length) = R ∧ (a + P.length ≤ L.length ∨ P = [] ∧ R = []) := by
  constructor
  · rw [← List.drop_drop, h, List.drop_left]
  · have := congrArg List.length h
    rw [List.length_drop, List.length_append] at this
    by_cases ha : a ≤ L.length
    · left; omega
    · right
      constructor <;> (apply List.eq_nil_of_length_eq_zero; omega)
theorem cNum {L R : List UInt8} {a n v : Nat} (h : L.drop a = putL n v ++ R) (ha : a ≤ L.length) (hn : n ≤ 8) (hv : v < 256 ^ n) : rNum L a 0 n = (v, a + n, 0) ∧ L.drop (a + n) = R ∧ a + n ≤ L.length := by
  have hl := congrArg List.length h
  rw [List.length_drop, List.length_append, putL_length] at hl
  obtain ⟨h1, _⟩ := drop_len h
  rw [putL_length] at h1
  refine ⟨?_, h1, by omega⟩
  unfold rNum
  rw [if_neg (by simp), if_neg (by omega), if_neg (by omega)]
  have ht : (L.drop a).take n = putL n v := by rw [h]; exact List.take_left' (putL_length n v)
  rw [Int.toNat_natCast, ht, numL_putL, Nat.mod_eq_of_lt hv]
theorem cText {L R : List UInt8} {a : Nat} {s : List UInt8} {most : Int} (h : L.drop a = txB s ++ R) (ha : a ≤ L.length) (hs : s.length ≤ 65535) (hm : (s.length : Int) ≤ most) : rText L a 0 most = (s, a + (txB s).length, 0) ∧ L.drop (a + (txB s).length) = R ∧ a + (txB s).length ≤ L.length := by
  unfold txB at h ⊢
  have hl := congrArg List.length h
  rw [List.length_drop, List.length_append, List.length_append, putL_length] at hl
  obtain ⟨h1, _⟩ := drop_len h
  refine ⟨?_, h1, by rw [List.length_append, putL_length]; omega⟩
  rw [List.length_append, putL_length]
  have ht : (L.drop a).take 2 = putL 2 s.length := by rw [h, List.append_assoc]; exact List.take_left' (putL_length 2 _)
  have hn : numL ((L.drop a).take 2) = s.length := by rw [ht, numL_putL]; omega
  have hd : L.drop (a + 2) = s ++ R := by
    rw [← List.drop_drop, h, List.append_assoc]
    exact List.drop_left' (putL_length 2 _)
  unfold rText
  rw [if_neg (by simp), if_neg (by omega), hn, if_neg (by omega), if_neg (by omega), hd, List.take_left]
  congr 2
  omega
theorem cBool {L R : List UInt8} {a : Nat} {b : Bool} (h : L.drop a = [if b then 1 else 0] ++ R) (ha : a ≤ L.length) : rBool L a 0 = (b, a + 1, 0) ∧ L.drop (a + 1) = R ∧ a + 1 ≤ L.length := by
  have hl := congrArg List.length h
  rw [List.length_drop, List.length_append] at hl
  simp only [List.length_cons, List.length_nil] at hl
  obtain ⟨h1, _⟩ := drop_len h
  refine ⟨?_, h1, by omega⟩
  have ht : numL ((L.drop a).take 1) = if b then 1 else 0 := by rw [h]; cases b <;> rfl
  unfold rBool
  rw [if_neg (by simp), if_neg (by omega), ht]
  cases b <;> rfl
theorem sNum {L : List UInt8} {a n v a' : Nat} {e : Int} (h : rNum L a e n = (v, a', 0)) (ha : a ≤ L.length) : e = 0 ∧ L.drop a = putL n v ++ L.drop a' ∧ a' ≤ L.length := by
  unfold rNum at h
  split at h
  · rename_i he; injection h with _ h; injection h with _ h; exact absurd h he
  rename_i he
  split at h
  · injection h with _ h; injection h with _ h; cases h
  rename_i h1
  split at h
  · injection h with _ h; injection h with _ h; cases h
  rename_i h2
  injection h with hv h
  injection h with h3 _
  rw [Int.toNat_natCast] at hv h3
  have hlen : ((L.drop a).take n).length = n := by rw [List.length_take, List.length_drop]; omega
  refine ⟨by simpa using he, ?_, by omega⟩
  rw [← hv, ← h3]
  have := putL_numL ((L.drop a).take n)
  rw [hlen] at this
  rw [this, ← List.drop_drop, List.take_append_drop]
theorem cMany {α : Type} {L : List UInt8} {f : Nat → Int → α × Nat × Int} {enc : α → List UInt8} {P : α → Prop} (hf : ∀ a x R, P x → L.drop a = enc x ++ R → a ≤ L.length → f a 0 = (x, a + (enc x).length, 0) ∧ L.drop (a + (enc x).length) = R ∧ a + (enc x).length ≤ L.length) :
    ∀ (items acc : List α) (a : Nat) (R : List UInt8), (∀ x ∈ items, P x) → L.drop a = (items.map enc).flatten ++ R → a ≤ L.length →
      rdMany f items.length acc a 0 = (acc ++ items, a + (items.map enc).flatten.length, 0) ∧ L.drop (a + (items.map enc).flatten.length) = R ∧ a + (items.map enc).flatten.length ≤ L.length
  | [], acc, a, R, _, h, ha => by simpa [rdMany] using ⟨h, ha⟩
  | x :: items, acc, a, R, hp, h, ha => by
    rw [List.map_cons, List.flatten_cons, List.append_assoc] at h
    obtain ⟨h1, h2, h3⟩ := hf a x _ (hp x (by simp)) h ha
    obtain ⟨k1, k2, k3⟩ := cMany hf items (acc ++ [x]) _ R (fun y hy => hp y (by simp [hy])) h2 h3
    rw [List.length_cons, rdMany, if_pos rfl, h1]
    simp only [List.map_cons, List.flatten_cons, List.length_append]
    rw [← Nat.add_assoc]
    exact ⟨by rw [k1]; simp, k2, k3⟩
end Go.Gi
end
section
namespace Go.Gi
set_option linter.unusedSimpArgs false
set_option linter.unusedVariables false
theorem chB_no (r : RecR) (h : ¬ r.undo = 2) : chB r = putL 4 r.page.toNat ++ putL 1 r.ok.toNat ++ putL 2 r.oa.toNat ++ txB r.os ++ txB r.oo ++ putL 1 r.undo.toNat := by unfold chB; rw [if_neg h, List.append_nil]
theorem chB_yes (r : RecR) (h : r.undo = 2) : chB r = putL 4 r.page.toNat ++ putL 1 r.ok.toNat ++ putL 2 r.oa.toNat ++ txB r.os ++ txB r.oo ++ putL 1 r.undo.toNat ++ keyB r := by unfold chB; rw [if_pos h]
theorem sSt {L : List UInt8} {a a' : Nat} {c : StR} (h : rdSt L a 0 = (c, a', 0)) (ha : a ≤ L.length) : L.drop a = stB c ++ L.drop a' ∧ a' ≤ L.length := by
  obtain ⟨v1, a1, e1, h1⟩ : ∃ v a' e', rNum L a 0 4 = (v, a', e') := ⟨_, _, _, rfl⟩
  obtain ⟨v2, a2, e2, h2⟩ : ∃ v a' e', rNum L a1 e1 1 = (v, a', e') := ⟨_, _, _, rfl⟩
  obtain ⟨v3, a3, e3, h3⟩ : ∃ v a' e', rNum L a2 e2 8 = (v, a', e') := ⟨_, _, _, rfl⟩
  obtain ⟨v4, a4, e4, h4⟩ : ∃ v a' e', rNum L a3 e3 8 = (v, a', e') := ⟨_, _, _, rfl⟩
  have l1 : a1 ≤ L.length := by have := rNum_le L a 0 4 ha; rw [h1] at this; exact this
  have l2 : a2 ≤ L.length := by have := rNum_le L a1 e1 1 l1; rw [h2] at this; exact this
  have l3 : a3 ≤ L.length := by have := rNum_le L a2 e2 8 l2; rw [h3] at this; exact this
  simp only [rdSt, h1, h2, h3, h4] at h
  injection h with k1 k2
  injection k2 with k2 k3
  subst k3
  obtain ⟨z4, d4, l4⟩ := sNum (n := 8) h4 l3
  subst z4
  obtain ⟨z3, d3, _⟩ := sNum (n := 8) h3 l2
  subst z3
  obtain ⟨z2, d2, _⟩ := sNum (n := 1) h2 l1
  subst z2
  obtain ⟨z1, d1, _⟩ := sNum (n := 4) h1 ha
  refine ⟨?_, by rw [← k2]; exact l4⟩
  rw [d1, d2, d3, d4, ← k1, ← k2]
  simp only [stB, Int.toNat_natCast, List.append_assoc]
theorem sDi {L : List UInt8} {a a' : Nat} {c : DiR} (h : rdDi L a 0 = (c, a', 0)) (ha : a ≤ L.length) : L.drop a = diB c ++ L.drop a' ∧ a' ≤ L.length := by
  obtain ⟨v1, a1, e1, h1⟩ : ∃ v a' e', rNum L a 0 4 = (v, a', e') := ⟨_, _, _, rfl⟩
  obtain ⟨v2, a2, e2, h2⟩ : ∃ v a' e', rNum L a1 e1 8 = (v, a', e') := ⟨_, _, _, rfl⟩
  have l1 : a1 ≤ L.length := by have := rNum_le L a 0 4 ha; rw [h1] at this; exact this
  simp only [rdDi, h1, h2] at h
  injection h with k1 k2
  injection k2 with k2 k3
  subst k3
  obtain ⟨z2, d2, l2⟩ := sNum (n := 8) h2 l1
  subst z2
  obtain ⟨z1, d1, _⟩ := sNum (n := 4) h1 ha
  refine ⟨?_, by rw [← k2]; exact l2⟩
  rw [d1, d2, ← k1, ← k2]
  simp only [diB, Int.toNat_natCast, List.append_assoc]
end Go.Gi
end
section
namespace Go.Gi
set_option linter.unusedSimpArgs false
set_option linter.unusedVariables false
theorem nc1 : ((1 : Nat) : Int) = 1 := rfl
theorem nc2 : ((2 : Nat) : Int) = 2 := rfl
theorem nc4 : ((4 : Nat) : Int) = 4 := rfl
theorem nc8 : ((8 : Nat) : Int) = 8 := rfl
def chOf (r : RecR) : ChR := ⟨r.page, r.ok, r.oa, r.os, r.oo, r.undo, r.index, r.key, r.rpage, r.rslot, r.live⟩
theorem toN {x : Int} (h : 0 ≤ x) : ((x.toNat : Nat) : Int) = x := Int.toNat_of_nonneg h
theorem cCh {L R : List UInt8} {a : Nat} (r : RecR) (h : L.drop a = chB r ++ R) (ha : a ≤ L.length) (p1 : 0 ≤ r.page ∧ r.page ≤ 4294967295) (p2 : 0 ≤ r.ok ∧ r.ok ≤ 255) (p3 : 0 ≤ r.oa ∧ r.oa ≤ 65535) (p4 : r.os.length ≤ 512) (p5 : r.oo.length ≤ 512) (p6 : 0 ≤ r.undo ∧ r.undo ≤ 2)
    (p7 : 0 ≤ r.index ∧ r.index ≤ 65535) (p8 : r.key.length ≤ 64) (p9 : 0 ≤ r.rpage ∧ r.rpage ≤ 4294967295) (p10 : 0 ≤ r.rslot ∧ r.rslot ≤ 65535) (p11 : ¬ r.undo = 2 → r.index = 0 ∧ r.key.length = 0 ∧ r.rpage = 0 ∧ r.rslot = 0 ∧ r.live = false) :
    rdCh L a 0 = (chOf r, a + (chB r).length, 0) ∧ L.drop (a + (chB r).length) = R ∧ a + (chB r).length ≤ L.length := by
  have hd := drop_len h
  have hlen : a + (chB r).length ≤ L.length := by
    have := congrArg List.length h
    rw [List.length_drop, List.length_append] at this
    omega
  refine ⟨?_, hd.1, hlen⟩
  by_cases hu : r.undo = 2
  · rw [chB_yes r hu] at h ⊢
    unfold keyB at h ⊢
    simp only [List.append_assoc] at h
    obtain ⟨q1, h1, l1⟩ := cNum (n := 4) h ha (by omega) (by omega)
    obtain ⟨q2, h2, l2⟩ := cNum (n := 1) h1 l1 (by omega) (by omega)
    obtain ⟨q3, h3, l3⟩ := cNum (n := 2) h2 l2 (by omega) (by omega)
    obtain ⟨q4, h4, l4⟩ := cText (most := 512) h3 l3 (by omega) (by omega)
    obtain ⟨q5, h5, l5⟩ := cText (most := 512) h4 l4 (by omega) (by omega)
    obtain ⟨q6, h6, l6⟩ := cNum (n := 1) h5 l5 (by omega) (by omega)
    obtain ⟨q7, h7, l7⟩ := cNum (n := 2) h6 l6 (by omega) (by omega)
    obtain ⟨q8, h8, l8⟩ := cText (most := 64) h7 l7 (by omega) (by omega)
    obtain ⟨q9, h9, l9⟩ := cNum (n := 4) h8 l8 (by omega) (by omega)
    obtain ⟨q10, h10, l10⟩ := cNum (n := 2) h9 l9 (by omega) (by omega)
    obtain ⟨q11, h11, l11⟩ := cBool h10 l10
    have hu2 : ((r.undo.toNat : Nat) : Int) = 2 := by omega
    simp only [nc1, nc2, nc4, nc8] at q1 q2 q3 q6 q7 q9 q10
    unfold rdCh
    simp only [q1, q2, q3, q4, q5, q6, q7, q8, q9, q10, q11, if_pos hu2]
    unfold chOf
    rw [toN p1.1, toN p2.1, toN p3.1, toN p6.1, toN p7.1, toN p9.1, toN p10.1]
    congr 2
    simp only [List.length_append, putL_length, List.length_cons, List.length_nil]
    omega
  · obtain ⟨x7, x8, x9, x10, x11⟩ := p11 hu
    rw [chB_no r hu] at h ⊢
    simp only [List.append_assoc] at h
    obtain ⟨q1, h1, l1⟩ := cNum (n := 4) h ha (by omega) (by omega)
    obtain ⟨q2, h2, l2⟩ := cNum (n := 1) h1 l1 (by omega) (by omega)
    obtain ⟨q3, h3, l3⟩ := cNum (n := 2) h2 l2 (by omega) (by omega)
    obtain ⟨q4, h4, l4⟩ := cText (most := 512) h3 l3 (by omega) (by omega)
    obtain ⟨q5, h5, l5⟩ := cText (most := 512) h4 l4 (by omega) (by omega)
    obtain ⟨q6, h6, l6⟩ := cNum (n := 1) h5 l5 (by omega) (by omega)
    have hu2 : ¬ ((r.undo.toNat : Nat) : Int) = 2 := by omega
    simp only [nc1, nc2, nc4, nc8] at q1 q2 q3 q6
    unfold rdCh
    simp only [q1, q2, q3, q4, q5, q6, if_neg hu2]
    unfold chOf
    rw [toN p1.1, toN p2.1, toN p3.1, toN p6.1, x7, List.eq_nil_of_length_eq_zero x8, x9, x10, x11]
    congr 2
    simp only [List.length_append, putL_length]
    omega
theorem cSt {L R : List UInt8} {a : Nat} {t : StR} (hp : okSt t ∧ (0 ≤ t.last ∧ t.last ≤ 18446744073709551615) ∧ 0 ≤ t.next ∧ t.next ≤ 18446744073709551615) (h : L.drop a = stB t ++ R) (ha : a ≤ L.length) :
    rdSt L a 0 = (t, a + (stB t).length, 0) ∧ L.drop (a + (stB t).length) = R ∧ a + (stB t).length ≤ L.length := by
  have hd := drop_len h
  have hlen : a + (stB t).length ≤ L.length := by
    have := congrArg List.length h
    rw [List.length_drop, List.length_append] at this
    omega
  refine ⟨?_, hd.1, hlen⟩
  obtain ⟨⟨o1, o2, o3, o4⟩, p1, p2⟩ := hp
  rw [stB_len]
  unfold stB at h
  simp only [List.append_assoc] at h
  obtain ⟨q1, h1, l1⟩ := cNum (n := 4) h ha (by omega) (by omega)
  obtain ⟨q2, h2, l2⟩ := cNum (n := 1) h1 l1 (by omega) (by omega)
  obtain ⟨q3, h3, l3⟩ := cNum (n := 8) h2 l2 (by omega) (by omega)
  obtain ⟨q4, h4, l4⟩ := cNum (n := 8) h3 l3 (by omega) (by omega)
  simp only [nc1, nc2, nc4, nc8] at q1 q2 q3 q4
  unfold rdSt
  simp only [q1, q2, q3, q4]
  rw [toN o1, toN (by omega), toN p1.1, toN p2.1]
theorem cDi {L R : List UInt8} {a : Nat} {t : DiR} (hp : (0 ≤ t.page ∧ t.page ≤ 4294967295) ∧ 0 ≤ t.lsn ∧ t.lsn ≤ 18446744073709551615) (h : L.drop a = diB t ++ R) (ha : a ≤ L.length) :
    rdDi L a 0 = (t, a + (diB t).length, 0) ∧ L.drop (a + (diB t).length) = R ∧ a + (diB t).length ≤ L.length := by
  have hd := drop_len h
  have hlen : a + (diB t).length ≤ L.length := by
    have := congrArg List.length h
    rw [List.length_drop, List.length_append] at this
    omega
  refine ⟨?_, hd.1, hlen⟩
  obtain ⟨p1, p2⟩ := hp
  rw [diB_len]
  unfold diB at h
  simp only [List.append_assoc] at h
  obtain ⟨q1, h1, l1⟩ := cNum (n := 4) h ha (by omega) (by omega)
  obtain ⟨q2, h2, l2⟩ := cNum (n := 8) h1 l1 (by omega) (by omega)
  simp only [nc1, nc2, nc4, nc8] at q1 q2
  unfold rdDi
  simp only [q1, q2]
  rw [toN p1.1, toN p2.1]
theorem cTab {L R : List UInt8} {a : Nat} (r : RecR) (h : L.drop a = tabB r ++ R) (ha : a ≤ L.length) (h1 : r.txs.length ≤ 64) (h2 : r.dirty.length ≤ 256) (h3 : ∀ t ∈ r.txs, okSt t) (hw : RecW r) :
    rdTab L a 0 = (⟨r.txs, r.dirty⟩, a + (tabB r).length, 0) ∧ L.drop (a + (tabB r).length) = R ∧ a + (tabB r).length ≤ L.length := by
  have hd := drop_len h
  have hlen : a + (tabB r).length ≤ L.length := by
    have := congrArg List.length h
    rw [List.length_drop, List.length_append] at this
    omega
  refine ⟨?_, hd.1, hlen⟩
  unfold tabB at h ⊢
  unfold stsB disB at h ⊢
  simp only [List.append_assoc] at h
  obtain ⟨q1, k1, l1⟩ := cNum (n := 2) h ha (by omega) (by omega)
  obtain ⟨q2, k2, l2⟩ := cMany (f := rdSt L) (enc := stB) (P := fun t => okSt t ∧ (0 ≤ t.last ∧ t.last ≤ 18446744073709551615) ∧ 0 ≤ t.next ∧ t.next ≤ 18446744073709551615) (fun a x R hp hh hl => cSt hp hh hl) r.txs [] _ _ (fun t ht => ⟨h3 t ht, hw.sts t ht⟩) k1 l1
  obtain ⟨q3, k3, l3⟩ := cNum (n := 2) k2 l2 (by omega) (by omega)
  obtain ⟨q4, k4, l4⟩ := cMany (f := rdDi L) (enc := diB) (P := fun t => (0 ≤ t.page ∧ t.page ≤ 4294967295) ∧ 0 ≤ t.lsn ∧ t.lsn ≤ 18446744073709551615) (fun a x R hp hh hl => cDi hp hh hl) r.dirty [] _ _ (fun t ht => hw.dis t ht) k3 l3
  simp only [nc1, nc2, nc4, nc8, List.nil_append] at q1 q2 q3 q4
  unfold rdTab
  simp only [q1, q2, q3, q4]
  congr 2
  simp only [List.length_append, putL_length]
  omega
theorem cRec (r : RecR) (hr : recOk r) (hw : RecW r) (q : List UInt8) : rdRec (recB r ++ q) = (r, (recB r).length, 0) := by
  obtain ⟨⟨⟨⟨⟨⟨g1, g2⟩, g3⟩, g4⟩, g5⟩, g6⟩, g7⟩ := hr
  obtain ⟨o1, o2, o3, o4⟩ := g1
  obtain ⟨L, hL⟩ : ∃ L, L = recB r ++ q := ⟨_, rfl⟩
  rw [← hL]
  have hlenL : (recB r).length ≤ L.length := by rw [hL]; simp
  have h0 : L.drop 0 = recB r ++ q := by rw [hL]; rfl
  unfold recB headB at h0
  simp only [List.append_assoc] at h0
  obtain ⟨q1, h1, l1⟩ := cNum (n := 1) h0 (Nat.zero_le _) (by omega) (by omega)
  obtain ⟨q2, h2, l2⟩ := cNum (n := 4) h1 l1 (by omega) (by omega)
  obtain ⟨q3, h3, l3⟩ := cNum (n := 8) h2 l2 (by omega) (by have := hw.prev; omega)
  simp only [nc1, nc2, nc4, nc8] at q1 q2 q3
  have hkk : ((r.kind.toNat : Nat) : Int) = r.kind := toN (by omega)
  have q4 : rdNext L r.kind (0 + 1 + 4 + 8) 0 = (r.next.toNat, 0 + 1 + 4 + 8 + (if isNext r.kind then putL 8 r.next.toNat else []).length, 0) ∧ L.drop (0 + 1 + 4 + 8 + (if isNext r.kind then putL 8 r.next.toNat else []).length) = (if isChange r.kind then chB r else []) ++ ((if r.kind = 8 then tabB r else []) ++ q) ∧ 0 + 1 + 4 + 8 + (if isNext r.kind then putL 8 r.next.toNat else []).length ≤ L.length := by
    unfold rdNext
    by_cases hk : isNext r.kind
    · simp only [if_pos hk] at h3 ⊢
      obtain ⟨x, y, z⟩ := cNum (n := 8) h3 l3 (by omega) (by have := hw.next; omega)
      simp only [nc1, nc2, nc4, nc8] at x
      rw [putL_length]
      exact ⟨x, y, z⟩
    · simp only [if_neg hk] at h3 ⊢
      have hn : r.next = 0 := g5.1.resolve_left hk
      rw [hn]
      exact ⟨rfl, h3, l3⟩
  obtain ⟨q4, h4, l4⟩ := q4
  generalize 0 + 1 + 4 + 8 + (if isNext r.kind then putL 8 r.next.toNat else []).length = a4 at *
  have hkey : (0 ≤ r.index ∧ r.index ≤ 65535) ∧ r.key.length ≤ 64 ∧ (0 ≤ r.rslot ∧ r.rslot ≤ 65535) ∧ (¬ r.undo = 2 → r.index = 0 ∧ r.key.length = 0 ∧ r.rpage = 0 ∧ r.rslot = 0 ∧ r.live = false) := by
    by_cases hu : r.undo = 2
    · have := (okKey_yes hu).1 g4
      exact ⟨by omega, by omega, by omega, fun h => absurd hu h⟩
    · have := (okKey_no hu).1 g4
      exact ⟨by omega, by omega, by omega, fun _ => ⟨this.1, this.2.1.1, this.2.1.2.1, this.2.1.2.2, this.2.2⟩⟩
  obtain ⟨y1, y2, y3, y4⟩ := hkey
  have q5 : rdChIf L r.kind a4 0 = (chOf r, a4 + (if isChange r.kind then chB r else []).length, 0) ∧ L.drop (a4 + (if isChange r.kind then chB r else []).length) = (if r.kind = 8 then tabB r else []) ++ q ∧ a4 + (if isChange r.kind then chB r else []).length ≤ L.length := by
    unfold rdChIf
    by_cases hk : isChange r.kind
    · simp only [if_pos hk] at h4 ⊢
      have ho := ((okOp_yes hk).1 g3).2
      unfold opOk at ho
      exact cCh r h4 l4 hw.page (by omega) (by omega) (by omega) (by omega) g2 y1 y2 hw.rpage y3 y4
    · simp only [if_neg hk] at h4 ⊢
      obtain ⟨z1, ⟨z2, z3, z4, z5⟩, z6⟩ := (okOp_no hk).1 g3
      obtain ⟨z7, z8, z9, z10, z11⟩ := y4 (by omega)
      refine ⟨?_, h4, l4⟩
      unfold chOf zCh
      rw [z1, z2, z3, List.eq_nil_of_length_eq_zero z4, List.eq_nil_of_length_eq_zero z5, z6, z7, List.eq_nil_of_length_eq_zero z8, z9, z10, z11]
      rfl
  obtain ⟨q5, h5, l5⟩ := q5
  have q6 : ∃ a6, rdTabIf L r.kind (a4 + (if isChange r.kind then chB r else []).length) 0 = (⟨r.txs, r.dirty⟩, a6, 0) ∧ L.drop a6 = q ∧ a6 ≤ L.length := by
    unfold rdTabIf
    by_cases hk : r.kind = 8
    · simp only [if_pos hk] at h5 ⊢
      exact ⟨_, cTab r h5 l5 g6.2.1 g6.2.2 g7 hw⟩
    · simp only [if_neg hk] at h5 ⊢
      obtain ⟨z1, z2⟩ := g6.1.resolve_left hk
      exact ⟨_, by rw [List.eq_nil_of_length_eq_zero z1, List.eq_nil_of_length_eq_zero z2], h5, l5⟩
  obtain ⟨a6, q6, h6, l6⟩ := q6
  have ha6 : a6 = (recB r).length := by
    have e1 := congrArg List.length h6
    have e2 := congrArg List.length hL
    rw [List.length_drop] at e1
    rw [List.length_append] at e2
    omega
  unfold rdRec
  simp only [q1, q2, q3, hkk, q4, q5, q6]
  rw [ha6, toN o3, toN hw.prev.1, toN hw.next.1]
  rfl
theorem dec_of_told (r : RecR) (hr : recOk r) (hw : RecW r) : decOk (recB r) ∧ (rdRec (recB r)).1 = r := by
  have h := cRec r hr hw []
  rw [List.append_nil] at h
  unfold decOk
  rw [h]
  refine ⟨⟨?_, hr⟩, rfl⟩
  unfold rEnd
  rw [if_neg (by simp)]
end Go.Gi
end
section
namespace Go.Gi
theorem isLoadN {P : Program} {ops : Array Oper} {Q : Exit → Act → World → Prop} {l : List Oper} {a : Act} {w : World} {dst : Option Tmp} {tp : TypeId} {pos : String} {aft : Array Edge} (ty : TypeId) (x : Operand)
    (h : wpList P ops Q ({ dst := dst, op := .load ty x, type := tp, pos := pos, after := aft, guard := none } :: l) a w) : wpList P ops Q ({ dst := dst, op := .load ty x, type := tp, pos := pos, after := aft, guard := none } :: l) a w := h
theorem isLoadG {P : Program} {ops : Array Oper} {Q : Exit → Act → World → Prop} {l : List Oper} {a : Act} {w : World} {dst : Option Tmp} {tp : TypeId} {pos : String} {aft : Array Edge} {g : Nat × Bool} (ty : TypeId) (x : Operand)
    (h : wpList P ops Q ({ dst := dst, op := .load ty x, type := tp, pos := pos, after := aft, guard := some g } :: l) a w) : wpList P ops Q ({ dst := dst, op := .load ty x, type := tp, pos := pos, after := aft, guard := some g } :: l) a w := h
theorem isStoreN {P : Program} {ops : Array Oper} {Q : Exit → Act → World → Prop} {l : List Oper} {a : Act} {w : World} {dst : Option Tmp} {tp : TypeId} {pos : String} {aft : Array Edge} (ty : TypeId) (x y : Operand)
    (h : wpList P ops Q ({ dst := dst, op := .store ty x y, type := tp, pos := pos, after := aft, guard := none } :: l) a w) : wpList P ops Q ({ dst := dst, op := .store ty x y, type := tp, pos := pos, after := aft, guard := none } :: l) a w := h
theorem isGuarded {P : Program} {ops : Array Oper} {Q : Exit → Act → World → Prop} {l : List Oper} {a : Act} {w : World} {dst : Option Tmp} {op : Op} {tp : TypeId} {pos : String} {aft : Array Edge} {g : Nat × Bool}
    (h : wpList P ops Q ({ dst := dst, op := op, type := tp, pos := pos, after := aft, guard := some g } :: l) a w) : wpList P ops Q ({ dst := dst, op := op, type := tp, pos := pos, after := aft, guard := some g } :: l) a w := h
theorem guardOn {P : Program} {ops : Array Oper} {Q : Exit → Act → World → Prop} {l : List Oper} {o : Oper} {a : Act} {w : World} (hw : Region.wanted o (yielded ops a.tmps) = true)
    (h : ∀ K : Act → World → Prop, (∀ a w, wpList P ops Q l a w → K a w) → Oper.wp P o a w K Q) : wpList P ops Q (o :: l) a w :=
  wpList_step fun K hK => by rw [if_pos hw]; exact h K hK
end Go.Gi
end
section
namespace Go.Proofs.Ytebickoieipjpaa.PRr
open Go.RowKit Go.Proofs.YtebickoieipjpaaW.PrintWords Go.Proofs.YtebickoieipjpaaW.PrintLast Go.Proofs.YtebickoieipjpaaW.PrintMore
attribute [local go_sem] max2_int min2_int max_two min_two max_three min_three max_four min_four
set_option linter.unusedVariables false
set_option linter.unusedSimpArgs false
def girderref01_Put.f (a0 : Int) (a1 : Int) : Option (ByteArray):=if 0≤a0∧a0≤18446744073709551615 then some (Go.Gi.bs (Go.Gi.putL (Go.Gi.clamp8 a1) a0.toNat)) else none
set_option maxHeartbeats 8000000 in
set_option maxRecDepth 100000 in
theorem girderref01_Put.calls (a0 : Int) (a1 : Int) (r : ByteArray) (w : World) (h : girderref01_Put.f a0 a1=some r) :
  Calls Try.prog 32 #[.int .u64 a0,.int .i64 a1] w fun e w'=>e=.returned (.string r)∧Below w.heap.size w w':=by
 unfold girderref01_Put.f at h
 split at h
 ·rename_i hc
  obtain ⟨h1,h2⟩:=hc
  obtain rfl:=Option.some.inj h
  obtain ⟨n,rfl⟩:=Int.eq_ofNat_of_zero_le h1
  rw [Int.toNat_natCast]
  exact rput_any n a1 w (by omega)
 ·cases h
end Go.Proofs.Ytebickoieipjpaa.PRr
end
section
namespace Go.Proofs.Ytebickoieipjpaa.PRr
open Go.RowKit Go.Proofs.YtebickoieipjpaaW.PrintWords Go.Proofs.YtebickoieipjpaaW.PrintLast Go.Proofs.YtebickoieipjpaaW.PrintMore
attribute [local go_sem] max2_int min2_int max_two min_two max_three min_three max_four min_four
set_option linter.unusedVariables false
set_option linter.unusedSimpArgs false
def girderref04_text.f (a0 : ByteArray) : Option (ByteArray):=if a0.size≤9000000000000000000 then some (Go.Gi.bs (Go.Gi.putL 2 a0.size ++ a0.data.toList)) else none
set_option maxHeartbeats 8000000 in
set_option maxRecDepth 100000 in
theorem girderref04_text.calls (a0 : ByteArray) (r : ByteArray) (w : World) (h : girderref04_text.f a0=some r) :
  Calls Try.prog 33 #[.string a0] w fun e w'=>e=.returned (.string r)∧Below w.heap.size w w':=by
 unfold girderref04_text.f at h
 split at h
 ·rename_i hc
  obtain rfl:=Option.some.inj h
  exact text04_any a0 w hc
 ·cases h
end Go.Proofs.Ytebickoieipjpaa.PRr
end
