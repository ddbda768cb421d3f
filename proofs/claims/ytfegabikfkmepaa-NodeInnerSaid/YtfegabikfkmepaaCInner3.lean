import Derived.Test.YtfegabikfkmepaaCInner2
section
namespace Go.Proofs.Ytfegabikfkmepaa.PNe
open Go.RowKit Go.Proofs.YtfegabikfkmepaaW.PrintWords Go.Proofs.YtfegabikfkmepaaW.PrintLast Go.Proofs.YtfegabikfkmepaaW.PrintMore
attribute [local go_sem] max2_int min2_int max_two min_two max_three min_three max_four min_four
set_option linter.unusedVariables false
set_option linter.unusedSimpArgs false
def node_SetFrom.f (k : Nat) (a0_0 : Int) (a0_1 : Int) (a0_2 : Int) (a0_3 : ByteArray) (l0_4 : List ByteArray) (a1 : Int) (a2_0 : ByteArray) (a2_1 : Int) (a2_2 : Int) : Option (Int × Int × ByteArray × ByteArray × Int):=(node_Inner.f k a0_0 a0_1 a0_2 a0_3 l0_4).bind fun bt366=>(if bt366.2=0 then (if a1 < 0 then (some (0,0,(⟨#[]⟩ : ByteArray),(⟨#[]⟩ : ByteArray),2)) else (if a1 ≥ (bt366.1.length : Int) then (some (0,0,(⟨#[]⟩ : ByteArray),(⟨#[]⟩ : ByteArray),2)) else (if 0≤a1 then (if a1 < (bt366.1.length : Int) then ((node_innerSlot.f ((rd_T66 bt366.1 a1).f0) a2_0 a2_1 a2_2).bind fun t371=>(if a1 < (l0_4.length : Int) then (some (4,a1,t371,rdOf ByteArray.empty l0_4 a1,0)) else (none))) else (none)) else (none)))) else (some (0,0,(⟨#[]⟩ : ByteArray),(⟨#[]⟩ : ByteArray),bt366.2)))
def node_SetFrom.T6 : Bool × List (List Nat × List Nat):=(true,[([],[]),([],[]),([],[]),([1,2],[1,2]),([3],[3]),([4],[4]),([],[]),([5,6],[5,6]),([7],[7]),([],[]),([9],[9]),([],[]),([10,11],[10,11]),([12],[12]),([0,8,13],[0,8,13]),([14,8,0,1,2,3,4,5,6,7,8,9,10,11,12,13,14],[14]),([15,0,1,2,3,4,5,6,7,8,9,10,11,12,13,14,15],[])])
def node_SetFrom.B6 : List Nat:=[0,0,0,6,14,30,0,126,254,0,512,0,3584,7680,16383,32767,65535]
theorem node_SetFrom.tab6 : rtab .any (opsOf Try.f29 6)=node_SetFrom.T6:=by kernel_rfl
theorem node_SetFrom.bits6 : waitsOk node_SetFrom.T6.2 node_SetFrom.B6=true:=by kernel_rfl
set_option maxHeartbeats 8000000 in
set_option maxRecDepth 100000 in
theorem node_SetFrom.calls (k : Nat) (a0_0 : Int) (a0_1 : Int) (a0_2 : Int) (a0_3 : ByteArray) (A0_4 : Option Addr) (c0_4 : Nat) (l0_4 : List ByteArray) (a1 : Int) (a2_0 : ByteArray) (a2_1 : Int) (a2_2 : Int) (r1 : Int) (r2 : Int) (r3 : ByteArray) (r4 : ByteArray) (r5 : Int) (w : World) (hr0_4 : Kd.C Kd.string w A0_4 l0_4.length l0_4) (hc0_4 : l0_4.length≤c0_4) (h : node_SetFrom.f k a0_0 a0_1 a0_2 a0_3 l0_4 a1 a2_0 a2_1 a2_2=some (r1,r2,r3,r4,r5)) :
  Calls Try.prog 29 #[.agg #[.int .u32 a0_0,.int .u64 a0_1,.int .i64 a0_2,.string a0_3,.slice A0_4 l0_4.length c0_4],.int .i64 a1,.agg #[.string a2_0,.int .u32 a2_1,.int .i64 a2_2]] w fun e w'=>e=.returned (.tuple #[.agg #[.int .i64 r1,.int .i64 r2,.string r3,.string r4],.int .i64 r5])∧Below w.heap.size w w':=by
 have hu28:=Try.underlying28
 have hu43:=Try.underlying43
 have hu38:=Try.underlying38
 have hu66:=Try.underlying66
 have HR0_4:=Aside0.mk hr0_4
 have HC0_4:=Aside0.mk hc0_4
 clear hr0_4 hc0_4
 have HB:=Aside0.mk (Below.refl w.heap.size w)
 have H : ((node_Inner.f k a0_0 a0_1 a0_2 a0_3 l0_4).bind fun bt366=>(if bt366.2=0 then (if a1 < 0 then (some (0,0,(⟨#[]⟩ : ByteArray),(⟨#[]⟩ : ByteArray),2)) else (if a1 ≥ (bt366.1.length : Int) then (some (0,0,(⟨#[]⟩ : ByteArray),(⟨#[]⟩ : ByteArray),2)) else (if 0≤a1 then (if a1 < (bt366.1.length : Int) then ((node_innerSlot.f ((rd_T66 bt366.1 a1).f0) a2_0 a2_1 a2_2).bind fun t371=>(if a1 < (l0_4.length : Int) then (some (4,a1,t371,rdOf ByteArray.empty l0_4 a1,0)) else (none))) else (none)) else (none)))) else (some (0,0,(⟨#[]⟩ : ByteArray),(⟨#[]⟩ : ByteArray),bt366.2))))=some (r1,r2,r3,r4,r5):=h
 clear h
 replace H:=Option.bind_eq_some_iff.mp H
 obtain ⟨⟨t366,t369⟩,A40,H⟩:=H
 replace H : (if t369=0 then (if a1 < 0 then (some (0,0,(⟨#[]⟩ : ByteArray),(⟨#[]⟩ : ByteArray),2)) else (if a1 ≥ (t366.length : Int) then (some (0,0,(⟨#[]⟩ : ByteArray),(⟨#[]⟩ : ByteArray),2)) else (if 0≤a1 then (if a1 < (t366.length : Int) then ((node_innerSlot.f ((rd_T66 t366 a1).f0) a2_0 a2_1 a2_2).bind fun t371=>(if a1 < (l0_4.length : Int) then (some (4,a1,t371,rdOf ByteArray.empty l0_4 a1,0)) else (none))) else (none)) else (none)))) else (some (0,0,(⟨#[]⟩ : ByteArray),(⟨#[]⟩ : ByteArray),t369)))=some (r1,r2,r3,r4,r5):=H
 have A4:=Aside0.mk A40
 clear A40
 by_cases c5 : t369=0
 ·rw [if_pos c5] at H
  have c5b0 : (t369 == 0)=true:=beq_iff_eq.mpr c5
  have c5b1 : (t369 != 0)=false:=bne_eq_false_iff_eq.mpr c5
  clear c5
  by_cases c6 : a1 < 0
  ·rw [if_pos c6] at H
   have c6b0 : decide (a1 < 0)=true:=decide_eq_true c6
   clear c6
   simp only [Option.some.injEq,Prod.mk.injEq] at H
   obtain ⟨rfl,rfl,rfl,rfl,rfl⟩:=H
   go_enter Try.func29,Try.ntmps29
   go_wp2_with (first|((with_reducible refine gate_dst (N:=3) rfl ?_);(try (refine gate_guard (by rfl) ?_;dsimp only));refine box_event ?hg (N:=3) ?hd (cs:=#[.int .u32 a0_0,.int .u64 a0_1,.int .i64 a0_2,.string a0_3,.slice A0_4 l0_4.length c0_4]) (t:=28) ?hr ?_;(case hd=>rfl);(case hg=>rfl);(case hr=>first|(go_simp;done)|(go_simp;rfl));intro gb363 hg w7 hbox hb;have n0_:=Aside0.mk (below_step (by repeat (first|(with_reducible first|exact HB.out|apply below_alloc|apply pw_below_drewN|apply below_drew1)|exact HB.out)) hb);have n1_:=Aside0.mk (hbox);have n2_:=Aside0.mk ((by rw [hg];exact (below_size (by repeat (first|(with_reducible first|exact HB.out|apply below_alloc|apply pw_below_drewN|apply below_drew1)|exact HB.out))) : w.heap.size≤gb363));have n3_:=Aside0.mk ((by rw [hg];exact (below_size (by repeat (first|(with_reducible first|exact HB.out|apply below_alloc|apply pw_below_drewN|apply below_drew1)|exact HB.out))) : w.heap.size≤gb363));clear HB;have HB:=n0_;have BK363:=n1_;have GW363:=n2_;have GE363:=n3_;clear n0_ n1_ n2_ n3_;clear hb hbox hg)|((with_reducible refine gate_dst (N:=5) rfl ?_);(try (refine gate_guard (by rfl) ?_;dsimp only));refine box_event ?hg (N:=5) ?hd (cs:=#[.string a2_0,.int .u32 a2_1,.int .i64 a2_2]) (t:=43) ?hr ?_;(case hd=>rfl);(case hg=>rfl);(case hr=>first|(go_simp;done)|(go_simp;rfl));intro gb364 hg w8 hbox hb;have n0_:=Aside0.mk (blk_below (g:=gb363) (o:=.cells #[.int .u32 a0_0,.int .u64 a0_1,.int .i64 a0_2,.string a0_3,.slice A0_4 l0_4.length c0_4] 28 (0,0)) (by (with_reducible repeat (first|refine blk_drewN ?_ _|refine blk_drew ?_|refine blk_alloc ?_ _));exact BK363.out) hb);have n1_:=Aside0.mk (below_step (by repeat (first|(with_reducible first|exact HB.out|apply below_alloc|apply pw_below_drewN|apply below_drew1|refine below_set ?_ GE363.out)|exact HB.out)) hb);have n2_:=Aside0.mk (hbox);have n3_:=Aside0.mk ((by rw [hg];exact (below_size (by repeat (first|(with_reducible first|exact HB.out|apply below_alloc|apply pw_below_drewN|apply below_drew1|refine below_set ?_ GE363.out)|exact HB.out))) : w.heap.size≤gb364));have n4_:=Aside0.mk ((by rw [hg];exact (below_size (by repeat (first|(with_reducible first|exact HB.out|apply below_alloc|apply pw_below_drewN|apply below_drew1|refine below_set ?_ GE363.out)|exact HB.out))) : w.heap.size≤gb364));have n5_:=Aside0.mk ((by rw [hg];exact Nat.ne_of_lt (blk_lt (g:=gb363) (o:=.cells #[.int .u32 a0_0,.int .u64 a0_1,.int .i64 a0_2,.string a0_3,.slice A0_4 l0_4.length c0_4] 28 (0,0)) (by (with_reducible repeat (first|refine blk_drewN ?_ _|refine blk_drew ?_|refine blk_alloc ?_ _));exact BK363.out)) : gb363≠gb364));have n6_:=Aside0.mk ((by rw [hg];exact Nat.ne_of_gt (blk_lt (g:=gb363) (o:=.cells #[.int .u32 a0_0,.int .u64 a0_1,.int .i64 a0_2,.string a0_3,.slice A0_4 l0_4.length c0_4] 28 (0,0)) (by (with_reducible repeat (first|refine blk_drewN ?_ _|refine blk_drew ?_|refine blk_alloc ?_ _));exact BK363.out)) : gb364≠gb363));clear BK363;clear HB;have BK363:=n0_;have HB:=n1_;have BK364:=n2_;have GW364:=n3_;have GE364:=n4_;have NB363_364:=n5_;have NB364_363:=n6_;clear n0_ n1_ n2_ n3_ n4_ n5_ n6_;clear hb hbox hg)|((with_reducible refine gate_dst (N:=6) rfl ?_);(try (refine gate_guard (by rfl) ?_;dsimp only));refine box_event ?hg (N:=6) ?hd (cs:=#[.int .i64 0,.int .i64 0,.string (⟨#[]⟩ : ByteArray),.string (⟨#[]⟩ : ByteArray)]) (t:=38) ?hr ?_;(case hd=>rfl);(case hg=>rfl);(case hr=>first|(go_simp;done)|(go_simp;rfl));intro gb365 hg w9 hbox hb;have n0_:=Aside0.mk (blk_below (g:=gb363) (o:=.cells #[.int .u32 a0_0,.int .u64 a0_1,.int .i64 a0_2,.string a0_3,.slice A0_4 l0_4.length c0_4] 28 (0,0)) (by (with_reducible repeat (first|refine blk_drewN ?_ _|refine blk_drew ?_|refine blk_alloc ?_ _));exact BK363.out) hb);have n1_:=Aside0.mk (blk_below (g:=gb364) (o:=.cells #[.string a2_0,.int .u32 a2_1,.int .i64 a2_2] 43 (0,0)) (by (with_reducible repeat (first|refine blk_drewN ?_ _|refine blk_drew ?_|refine blk_alloc ?_ _));exact BK364.out) hb);have n2_:=Aside0.mk (below_step (by repeat (first|(with_reducible first|exact HB.out|apply below_alloc|apply pw_below_drewN|apply below_drew1|refine below_set ?_ GE363.out|refine below_set ?_ GE364.out)|exact HB.out)) hb);have n3_:=Aside0.mk (hbox);have n4_:=Aside0.mk ((by rw [hg];exact (below_size (by repeat (first|(with_reducible first|exact HB.out|apply below_alloc|apply pw_below_drewN|apply below_drew1|refine below_set ?_ GE363.out|refine below_set ?_ GE364.out)|exact HB.out))) : w.heap.size≤gb365));have n5_:=Aside0.mk ((by rw [hg];exact (below_size (by repeat (first|(with_reducible first|exact HB.out|apply below_alloc|apply pw_below_drewN|apply below_drew1|refine below_set ?_ GE363.out|refine below_set ?_ GE364.out)|exact HB.out))) : w.heap.size≤gb365));have n6_:=Aside0.mk ((by rw [hg];exact Nat.ne_of_lt (blk_lt (g:=gb363) (o:=.cells #[.int .u32 a0_0,.int .u64 a0_1,.int .i64 a0_2,.string a0_3,.slice A0_4 l0_4.length c0_4] 28 (0,0)) (by (with_reducible repeat (first|refine blk_drewN ?_ _|refine blk_drew ?_|refine blk_alloc ?_ _));exact BK363.out)) : gb363≠gb365));have n7_:=Aside0.mk ((by rw [hg];exact Nat.ne_of_gt (blk_lt (g:=gb363) (o:=.cells #[.int .u32 a0_0,.int .u64 a0_1,.int .i64 a0_2,.string a0_3,.slice A0_4 l0_4.length c0_4] 28 (0,0)) (by (with_reducible repeat (first|refine blk_drewN ?_ _|refine blk_drew ?_|refine blk_alloc ?_ _));exact BK363.out)) : gb365≠gb363));have n8_:=Aside0.mk ((by rw [hg];exact Nat.ne_of_lt (blk_lt (g:=gb364) (o:=.cells #[.string a2_0,.int .u32 a2_1,.int .i64 a2_2] 43 (0,0)) (by (with_reducible repeat (first|refine blk_drewN ?_ _|refine blk_drew ?_|refine blk_alloc ?_ _));exact BK364.out)) : gb364≠gb365));have n9_:=Aside0.mk ((by rw [hg];exact Nat.ne_of_gt (blk_lt (g:=gb364) (o:=.cells #[.string a2_0,.int .u32 a2_1,.int .i64 a2_2] 43 (0,0)) (by (with_reducible repeat (first|refine blk_drewN ?_ _|refine blk_drew ?_|refine blk_alloc ?_ _));exact BK364.out)) : gb365≠gb364));clear BK363;clear BK364;clear HB;have BK363:=n0_;have BK364:=n1_;have HB:=n2_;have BK365:=n3_;have GW365:=n4_;have GE365:=n5_;have NB363_365:=n6_;have NB365_363:=n7_;have NB364_365:=n8_;have NB365_364:=n9_;clear n0_ n1_ n2_ n3_ n4_ n5_ n6_ n7_ n8_ n9_;clear hb hbox hg;have hnb10:=NB363_364.out;have hnc10:=NB364_363.out;have hnb11:=NB363_365.out;have hnc11:=NB365_363.out;have hcz12_0 : w9.cell? ⟨gb363,0,none⟩=some (.int .u32 a0_0):=(blk_cell BK363.out 0).trans rfl;have hcz12_1 : w9.cell? ⟨gb363,1,none⟩=some (.int .u64 a0_1):=(blk_cell BK363.out 1).trans rfl;have hcz12_2 : w9.cell? ⟨gb363,2,none⟩=some (.int .i64 a0_2):=(blk_cell BK363.out 2).trans rfl;have hcz12_3 : w9.cell? ⟨gb363,3,none⟩=some (.string a0_3):=(blk_cell BK363.out 3).trans rfl;have hcz12_4 : w9.cell? ⟨gb363,4,none⟩=some (.slice A0_4 l0_4.length c0_4):=(blk_cell BK363.out 4).trans rfl;have hfz12_0:=blk_frozen BK363.out 0;have hfz12_1:=blk_frozen BK363.out 1;have hfz12_2:=blk_frozen BK363.out 2;have hfz12_3:=blk_frozen BK363.out 3;have hfz12_4:=blk_frozen BK363.out 4)|((with_reducible refine gate_callee (f:=28) rfl ?_);refine goesL_ (some 12) rfl rfl Try.func28 (by kernel_rfl) rfl #[.agg #[.int .u32 a0_0,.int .u64 a0_1,.int .i64 a0_2,.string a0_3,.slice A0_4 l0_4.length c0_4]] rfl (by (try simp only [List.map_toArray,List.map_cons,List.map_nil]);first|done|rfl|(simp only [List.length_drop,List.length_take];rfl)) ?_;(with_reducible refine (node_Inner.calls k a0_0 a0_1 a0_2 a0_3 _ _ l0_4 t366 t369 _ ?side1 ?side2 A4.out).mono ?_);(case side1=>repeat (first|exact (Kd.C_below HR0_4.out HB.out)|(with_reducible refine Kd.C_alloc ?_ _)|(with_reducible refine Kd.C_drewN ?_ _)|(with_reducible refine Kd.C_drew ?_)));(case side2=>exact HC0_4.out);rintro e w13 ⟨v367,rfl,ho0,hb⟩;refine ⟨_,rfl,?_⟩;have n0_:=Aside0.mk (Kd.R_lower ho0 (below_size (by repeat (first|(with_reducible first|exact HB.out|apply below_alloc|apply pw_below_drewN|apply below_drew1|refine below_set ?_ GE363.out|refine below_set ?_ GE364.out|refine below_set ?_ GE365.out)|exact HB.out))));have n1_:=Aside0.mk (blk_below (g:=gb363) (o:=.cells #[.int .u32 a0_0,.int .u64 a0_1,.int .i64 a0_2,.string a0_3,.slice A0_4 l0_4.length c0_4] 28 (0,0)) (by (with_reducible repeat (first|refine blk_drewN ?_ _|refine blk_drew ?_|refine blk_alloc ?_ _));exact BK363.out) hb);have n2_:=Aside0.mk (blk_below (g:=gb364) (o:=.cells #[.string a2_0,.int .u32 a2_1,.int .i64 a2_2] 43 (0,0)) (by (with_reducible repeat (first|refine blk_drewN ?_ _|refine blk_drew ?_|refine blk_alloc ?_ _));exact BK364.out) hb);have n3_:=Aside0.mk (blk_below (g:=gb365) (o:=.cells #[.int .i64 0,.int .i64 0,.string (⟨#[]⟩ : ByteArray),.string (⟨#[]⟩ : ByteArray)] 38 (0,0)) (by (with_reducible repeat (first|refine blk_drewN ?_ _|refine blk_drew ?_|refine blk_alloc ?_ _));exact BK365.out) hb);have n4_:=Aside0.mk (below_step (by repeat (first|(with_reducible first|exact HB.out|apply below_alloc|apply pw_below_drewN|apply below_drew1|refine below_set ?_ GE363.out|refine below_set ?_ GE364.out|refine below_set ?_ GE365.out)|exact HB.out)) hb);clear BK363;clear BK364;clear BK365;clear HB;have HO368:=n0_;have BK363:=n1_;have BK364:=n2_;have BK365:=n3_;have HB:=n4_;clear n0_ n1_ n2_ n3_ n4_;(try clear hb);(try clear hb2);(try clear hk);(try clear hi);(try clear ho0);have hnb14:=NB365_364.out;have hnc14:=NB364_365.out;have hcz15_0 : w13.cell? ⟨gb365,0,none⟩=some (.int .i64 0):=(blk_cell BK365.out 0).trans rfl;have hcz15_1 : w13.cell? ⟨gb365,1,none⟩=some (.int .i64 0):=(blk_cell BK365.out 1).trans rfl;have hcz15_2 : w13.cell? ⟨gb365,2,none⟩=some (.string (⟨#[]⟩ : ByteArray)):=(blk_cell BK365.out 2).trans rfl;have hcz15_3 : w13.cell? ⟨gb365,3,none⟩=some (.string (⟨#[]⟩ : ByteArray)):=(blk_cell BK365.out 3).trans rfl;have hfz15_0:=blk_frozen BK365.out 0;have hfz15_1:=blk_frozen BK365.out 1;have hfz15_2:=blk_frozen BK365.out 2;have hfz15_3:=blk_frozen BK365.out 3))
   refine bodyPost_ret (results_ct rfl _ _ gb365 38 #[.int .i64 0,.int .i64 0,.string (⟨#[]⟩ : ByteArray),.string (⟨#[]⟩ : ByteArray)] (0,0) _ rfl (by (with_reducible repeat (first|refine blk_drewN ?_ _|refine blk_drew ?_|refine blk_alloc ?_ _));refine blk_put (cs:=#[.int .i64 0,.int .i64 0,.string (⟨#[]⟩ : ByteArray),.string (⟨#[]⟩ : ByteArray)]) ?_ 3 _ rfl;(with_reducible repeat (first|refine blk_drewN ?_ _|refine blk_drew ?_|refine blk_alloc ?_ _));refine blk_put (cs:=#[.int .i64 0,.int .i64 0,.string (⟨#[]⟩ : ByteArray),.string (⟨#[]⟩ : ByteArray)]) ?_ 2 _ rfl;(with_reducible repeat (first|refine blk_drewN ?_ _|refine blk_drew ?_|refine blk_alloc ?_ _));refine blk_put (cs:=#[.int .i64 0,.int .i64 0,.string (⟨#[]⟩ : ByteArray),.string (⟨#[]⟩ : ByteArray)]) ?_ 1 _ rfl;(with_reducible repeat (first|refine blk_drewN ?_ _|refine blk_drew ?_|refine blk_alloc ?_ _));refine blk_put (cs:=#[.int .i64 0,.int .i64 0,.string (⟨#[]⟩ : ByteArray),.string (⟨#[]⟩ : ByteArray)]) ?_ 0 _ rfl;(with_reducible repeat (first|refine blk_drewN ?_ _|refine blk_drew ?_|refine blk_alloc ?_ _));exact BK365.out) Try.underlying38 rfl (by kernel_rfl)) rfl ?_
   exact ⟨by first|rfl|(simp [errW_none,errW_some] <;> rfl)|(simp [*,errW_none,errW_some] <;> rfl),by repeat (first|(with_reducible first|exact HB.out|apply below_alloc|apply pw_below_drewN|apply below_drew1|refine below_set ?_ GE363.out|refine below_set ?_ GE364.out|refine below_set ?_ GE365.out)|exact HB.out)⟩
  ·rw [if_neg c6] at H
   have c6b0 : decide (a1 < 0)=false:=decide_eq_false c6
   clear c6
   by_cases c16 : a1 ≥ (t366.length : Int)
   ·rw [if_pos c16] at H
    have c16b0 : decide ((t366.length : Int)≤a1)=true:=decide_eq_true c16
    clear c16
    simp only [Option.some.injEq,Prod.mk.injEq] at H
    obtain ⟨rfl,rfl,rfl,rfl,rfl⟩:=H
    go_enter Try.func29,Try.ntmps29
    go_wp2_with (first|((with_reducible refine gate_dst (N:=3) rfl ?_);(try (refine gate_guard (by rfl) ?_;dsimp only));refine box_event ?hg (N:=3) ?hd (cs:=#[.int .u32 a0_0,.int .u64 a0_1,.int .i64 a0_2,.string a0_3,.slice A0_4 l0_4.length c0_4]) (t:=28) ?hr ?_;(case hd=>rfl);(case hg=>rfl);(case hr=>first|(go_simp;done)|(go_simp;rfl));intro gb363 hg w17 hbox hb;have n0_:=Aside0.mk (below_step (by repeat (first|(with_reducible first|exact HB.out|apply below_alloc|apply pw_below_drewN|apply below_drew1)|exact HB.out)) hb);have n1_:=Aside0.mk (hbox);have n2_:=Aside0.mk ((by rw [hg];exact (below_size (by repeat (first|(with_reducible first|exact HB.out|apply below_alloc|apply pw_below_drewN|apply below_drew1)|exact HB.out))) : w.heap.size≤gb363));have n3_:=Aside0.mk ((by rw [hg];exact (below_size (by repeat (first|(with_reducible first|exact HB.out|apply below_alloc|apply pw_below_drewN|apply below_drew1)|exact HB.out))) : w.heap.size≤gb363));clear HB;have HB:=n0_;have BK363:=n1_;have GW363:=n2_;have GE363:=n3_;clear n0_ n1_ n2_ n3_;clear hb hbox hg)|((with_reducible refine gate_dst (N:=5) rfl ?_);(try (refine gate_guard (by rfl) ?_;dsimp only));refine box_event ?hg (N:=5) ?hd (cs:=#[.string a2_0,.int .u32 a2_1,.int .i64 a2_2]) (t:=43) ?hr ?_;(case hd=>rfl);(case hg=>rfl);(case hr=>first|(go_simp;done)|(go_simp;rfl));intro gb364 hg w18 hbox hb;have n0_:=Aside0.mk (blk_below (g:=gb363) (o:=.cells #[.int .u32 a0_0,.int .u64 a0_1,.int .i64 a0_2,.string a0_3,.slice A0_4 l0_4.length c0_4] 28 (0,0)) (by (with_reducible repeat (first|refine blk_drewN ?_ _|refine blk_drew ?_|refine blk_alloc ?_ _));exact BK363.out) hb);have n1_:=Aside0.mk (below_step (by repeat (first|(with_reducible first|exact HB.out|apply below_alloc|apply pw_below_drewN|apply below_drew1|refine below_set ?_ GE363.out)|exact HB.out)) hb);have n2_:=Aside0.mk (hbox);have n3_:=Aside0.mk ((by rw [hg];exact (below_size (by repeat (first|(with_reducible first|exact HB.out|apply below_alloc|apply pw_below_drewN|apply below_drew1|refine below_set ?_ GE363.out)|exact HB.out))) : w.heap.size≤gb364));have n4_:=Aside0.mk ((by rw [hg];exact (below_size (by repeat (first|(with_reducible first|exact HB.out|apply below_alloc|apply pw_below_drewN|apply below_drew1|refine below_set ?_ GE363.out)|exact HB.out))) : w.heap.size≤gb364));have n5_:=Aside0.mk ((by rw [hg];exact Nat.ne_of_lt (blk_lt (g:=gb363) (o:=.cells #[.int .u32 a0_0,.int .u64 a0_1,.int .i64 a0_2,.string a0_3,.slice A0_4 l0_4.length c0_4] 28 (0,0)) (by (with_reducible repeat (first|refine blk_drewN ?_ _|refine blk_drew ?_|refine blk_alloc ?_ _));exact BK363.out)) : gb363≠gb364));have n6_:=Aside0.mk ((by rw [hg];exact Nat.ne_of_gt (blk_lt (g:=gb363) (o:=.cells #[.int .u32 a0_0,.int .u64 a0_1,.int .i64 a0_2,.string a0_3,.slice A0_4 l0_4.length c0_4] 28 (0,0)) (by (with_reducible repeat (first|refine blk_drewN ?_ _|refine blk_drew ?_|refine blk_alloc ?_ _));exact BK363.out)) : gb364≠gb363));clear BK363;clear HB;have BK363:=n0_;have HB:=n1_;have BK364:=n2_;have GW364:=n3_;have GE364:=n4_;have NB363_364:=n5_;have NB364_363:=n6_;clear n0_ n1_ n2_ n3_ n4_ n5_ n6_;clear hb hbox hg)|((with_reducible refine gate_dst (N:=6) rfl ?_);(try (refine gate_guard (by rfl) ?_;dsimp only));refine box_event ?hg (N:=6) ?hd (cs:=#[.int .i64 0,.int .i64 0,.string (⟨#[]⟩ : ByteArray),.string (⟨#[]⟩ : ByteArray)]) (t:=38) ?hr ?_;(case hd=>rfl);(case hg=>rfl);(case hr=>first|(go_simp;done)|(go_simp;rfl));intro gb365 hg w19 hbox hb;have n0_:=Aside0.mk (blk_below (g:=gb363) (o:=.cells #[.int .u32 a0_0,.int .u64 a0_1,.int .i64 a0_2,.string a0_3,.slice A0_4 l0_4.length c0_4] 28 (0,0)) (by (with_reducible repeat (first|refine blk_drewN ?_ _|refine blk_drew ?_|refine blk_alloc ?_ _));exact BK363.out) hb);have n1_:=Aside0.mk (blk_below (g:=gb364) (o:=.cells #[.string a2_0,.int .u32 a2_1,.int .i64 a2_2] 43 (0,0)) (by (with_reducible repeat (first|refine blk_drewN ?_ _|refine blk_drew ?_|refine blk_alloc ?_ _));exact BK364.out) hb);have n2_:=Aside0.mk (below_step (by repeat (first|(with_reducible first|exact HB.out|apply below_alloc|apply pw_below_drewN|apply below_drew1|refine below_set ?_ GE363.out|refine below_set ?_ GE364.out)|exact HB.out)) hb);have n3_:=Aside0.mk (hbox);have n4_:=Aside0.mk ((by rw [hg];exact (below_size (by repeat (first|(with_reducible first|exact HB.out|apply below_alloc|apply pw_below_drewN|apply below_drew1|refine below_set ?_ GE363.out|refine below_set ?_ GE364.out)|exact HB.out))) : w.heap.size≤gb365));have n5_:=Aside0.mk ((by rw [hg];exact (below_size (by repeat (first|(with_reducible first|exact HB.out|apply below_alloc|apply pw_below_drewN|apply below_drew1|refine below_set ?_ GE363.out|refine below_set ?_ GE364.out)|exact HB.out))) : w.heap.size≤gb365));have n6_:=Aside0.mk ((by rw [hg];exact Nat.ne_of_lt (blk_lt (g:=gb363) (o:=.cells #[.int .u32 a0_0,.int .u64 a0_1,.int .i64 a0_2,.string a0_3,.slice A0_4 l0_4.length c0_4] 28 (0,0)) (by (with_reducible repeat (first|refine blk_drewN ?_ _|refine blk_drew ?_|refine blk_alloc ?_ _));exact BK363.out)) : gb363≠gb365));have n7_:=Aside0.mk ((by rw [hg];exact Nat.ne_of_gt (blk_lt (g:=gb363) (o:=.cells #[.int .u32 a0_0,.int .u64 a0_1,.int .i64 a0_2,.string a0_3,.slice A0_4 l0_4.length c0_4] 28 (0,0)) (by (with_reducible repeat (first|refine blk_drewN ?_ _|refine blk_drew ?_|refine blk_alloc ?_ _));exact BK363.out)) : gb365≠gb363));have n8_:=Aside0.mk ((by rw [hg];exact Nat.ne_of_lt (blk_lt (g:=gb364) (o:=.cells #[.string a2_0,.int .u32 a2_1,.int .i64 a2_2] 43 (0,0)) (by (with_reducible repeat (first|refine blk_drewN ?_ _|refine blk_drew ?_|refine blk_alloc ?_ _));exact BK364.out)) : gb364≠gb365));have n9_:=Aside0.mk ((by rw [hg];exact Nat.ne_of_gt (blk_lt (g:=gb364) (o:=.cells #[.string a2_0,.int .u32 a2_1,.int .i64 a2_2] 43 (0,0)) (by (with_reducible repeat (first|refine blk_drewN ?_ _|refine blk_drew ?_|refine blk_alloc ?_ _));exact BK364.out)) : gb365≠gb364));clear BK363;clear BK364;clear HB;have BK363:=n0_;have BK364:=n1_;have HB:=n2_;have BK365:=n3_;have GW365:=n4_;have GE365:=n5_;have NB363_365:=n6_;have NB365_363:=n7_;have NB364_365:=n8_;have NB365_364:=n9_;clear n0_ n1_ n2_ n3_ n4_ n5_ n6_ n7_ n8_ n9_;clear hb hbox hg;have hnb20:=NB363_364.out;have hnc20:=NB364_363.out;have hnb21:=NB363_365.out;have hnc21:=NB365_363.out;have hcz22_0 : w19.cell? ⟨gb363,0,none⟩=some (.int .u32 a0_0):=(blk_cell BK363.out 0).trans rfl;have hcz22_1 : w19.cell? ⟨gb363,1,none⟩=some (.int .u64 a0_1):=(blk_cell BK363.out 1).trans rfl;have hcz22_2 : w19.cell? ⟨gb363,2,none⟩=some (.int .i64 a0_2):=(blk_cell BK363.out 2).trans rfl;have hcz22_3 : w19.cell? ⟨gb363,3,none⟩=some (.string a0_3):=(blk_cell BK363.out 3).trans rfl;have hcz22_4 : w19.cell? ⟨gb363,4,none⟩=some (.slice A0_4 l0_4.length c0_4):=(blk_cell BK363.out 4).trans rfl;have hfz22_0:=blk_frozen BK363.out 0;have hfz22_1:=blk_frozen BK363.out 1;have hfz22_2:=blk_frozen BK363.out 2;have hfz22_3:=blk_frozen BK363.out 3;have hfz22_4:=blk_frozen BK363.out 4)|((with_reducible refine gate_callee (f:=28) rfl ?_);refine goesL_ (some 12) rfl rfl Try.func28 (by kernel_rfl) rfl #[.agg #[.int .u32 a0_0,.int .u64 a0_1,.int .i64 a0_2,.string a0_3,.slice A0_4 l0_4.length c0_4]] rfl (by (try simp only [List.map_toArray,List.map_cons,List.map_nil]);first|done|rfl|(simp only [List.length_drop,List.length_take];rfl)) ?_;(with_reducible refine (node_Inner.calls k a0_0 a0_1 a0_2 a0_3 _ _ l0_4 t366 t369 _ ?side1 ?side2 A4.out).mono ?_);(case side1=>repeat (first|exact (Kd.C_below HR0_4.out HB.out)|(with_reducible refine Kd.C_alloc ?_ _)|(with_reducible refine Kd.C_drewN ?_ _)|(with_reducible refine Kd.C_drew ?_)));(case side2=>exact HC0_4.out);rintro e w23 ⟨v367,rfl,ho0,hb⟩;refine ⟨_,rfl,?_⟩;have n0_:=Aside0.mk (Kd.R_lower ho0 (below_size (by repeat (first|(with_reducible first|exact HB.out|apply below_alloc|apply pw_below_drewN|apply below_drew1|refine below_set ?_ GE363.out|refine below_set ?_ GE364.out|refine below_set ?_ GE365.out)|exact HB.out))));have n1_:=Aside0.mk (blk_below (g:=gb363) (o:=.cells #[.int .u32 a0_0,.int .u64 a0_1,.int .i64 a0_2,.string a0_3,.slice A0_4 l0_4.length c0_4] 28 (0,0)) (by (with_reducible repeat (first|refine blk_drewN ?_ _|refine blk_drew ?_|refine blk_alloc ?_ _));exact BK363.out) hb);have n2_:=Aside0.mk (blk_below (g:=gb364) (o:=.cells #[.string a2_0,.int .u32 a2_1,.int .i64 a2_2] 43 (0,0)) (by (with_reducible repeat (first|refine blk_drewN ?_ _|refine blk_drew ?_|refine blk_alloc ?_ _));exact BK364.out) hb);have n3_:=Aside0.mk (blk_below (g:=gb365) (o:=.cells #[.int .i64 0,.int .i64 0,.string (⟨#[]⟩ : ByteArray),.string (⟨#[]⟩ : ByteArray)] 38 (0,0)) (by (with_reducible repeat (first|refine blk_drewN ?_ _|refine blk_drew ?_|refine blk_alloc ?_ _));exact BK365.out) hb);have n4_:=Aside0.mk (below_step (by repeat (first|(with_reducible first|exact HB.out|apply below_alloc|apply pw_below_drewN|apply below_drew1|refine below_set ?_ GE363.out|refine below_set ?_ GE364.out|refine below_set ?_ GE365.out)|exact HB.out)) hb);clear BK363;clear BK364;clear BK365;clear HB;have HO368:=n0_;have BK363:=n1_;have BK364:=n2_;have BK365:=n3_;have HB:=n4_;clear n0_ n1_ n2_ n3_ n4_;(try clear hb);(try clear hb2);(try clear hk);(try clear hi);(try clear ho0);obtain ⟨Ao24,co24,eo24⟩:=Kd.R_slice HO368.out;subst eo24;have hnb25:=NB365_364.out;have hnc25:=NB364_365.out;have hcz26_0 : w23.cell? ⟨gb365,0,none⟩=some (.int .i64 0):=(blk_cell BK365.out 0).trans rfl;have hcz26_1 : w23.cell? ⟨gb365,1,none⟩=some (.int .i64 0):=(blk_cell BK365.out 1).trans rfl;have hcz26_2 : w23.cell? ⟨gb365,2,none⟩=some (.string (⟨#[]⟩ : ByteArray)):=(blk_cell BK365.out 2).trans rfl;have hcz26_3 : w23.cell? ⟨gb365,3,none⟩=some (.string (⟨#[]⟩ : ByteArray)):=(blk_cell BK365.out 3).trans rfl;have hfz26_0:=blk_frozen BK365.out 0;have hfz26_1:=blk_frozen BK365.out 1;have hfz26_2:=blk_frozen BK365.out 2;have hfz26_3:=blk_frozen BK365.out 3))
    refine bodyPost_ret (results_ct rfl _ _ gb365 38 #[.int .i64 0,.int .i64 0,.string (⟨#[]⟩ : ByteArray),.string (⟨#[]⟩ : ByteArray)] (0,0) _ rfl (by (with_reducible repeat (first|refine blk_drewN ?_ _|refine blk_drew ?_|refine blk_alloc ?_ _));refine blk_put (cs:=#[.int .i64 0,.int .i64 0,.string (⟨#[]⟩ : ByteArray),.string (⟨#[]⟩ : ByteArray)]) ?_ 3 _ rfl;(with_reducible repeat (first|refine blk_drewN ?_ _|refine blk_drew ?_|refine blk_alloc ?_ _));refine blk_put (cs:=#[.int .i64 0,.int .i64 0,.string (⟨#[]⟩ : ByteArray),.string (⟨#[]⟩ : ByteArray)]) ?_ 2 _ rfl;(with_reducible repeat (first|refine blk_drewN ?_ _|refine blk_drew ?_|refine blk_alloc ?_ _));refine blk_put (cs:=#[.int .i64 0,.int .i64 0,.string (⟨#[]⟩ : ByteArray),.string (⟨#[]⟩ : ByteArray)]) ?_ 1 _ rfl;(with_reducible repeat (first|refine blk_drewN ?_ _|refine blk_drew ?_|refine blk_alloc ?_ _));refine blk_put (cs:=#[.int .i64 0,.int .i64 0,.string (⟨#[]⟩ : ByteArray),.string (⟨#[]⟩ : ByteArray)]) ?_ 0 _ rfl;(with_reducible repeat (first|refine blk_drewN ?_ _|refine blk_drew ?_|refine blk_alloc ?_ _));exact BK365.out) Try.underlying38 rfl (by kernel_rfl)) rfl ?_
    exact ⟨by first|rfl|(simp [errW_none,errW_some] <;> rfl)|(simp [*,errW_none,errW_some] <;> rfl),by repeat (first|(with_reducible first|exact HB.out|apply below_alloc|apply pw_below_drewN|apply below_drew1|refine below_set ?_ GE363.out|refine below_set ?_ GE364.out|refine below_set ?_ GE365.out)|exact HB.out)⟩
   ·rw [if_neg c16] at H
    have c16b0 : decide ((t366.length : Int)≤a1)=false:=decide_eq_false c16
    clear c16
    by_cases c27 : 0≤a1
    ·rw [if_pos c27] at H
     have c27b0 : decide (0≤a1)=true:=decide_eq_true c27
     clear c27
     by_cases c28 : a1 < (t366.length : Int)
     ·rw [if_pos c28] at H
      have c28b0 : decide (a1 < (t366.length : Int))=true:=decide_eq_true c28
      clear c28
      replace H:=Option.bind_eq_some_iff.mp H
      obtain ⟨t371,A290,H⟩:=H
      replace H : (if a1 < (l0_4.length : Int) then (some (4,a1,t371,rdOf ByteArray.empty l0_4 a1,0)) else (none))=some (r1,r2,r3,r4,r5):=H
      have A29:=Aside0.mk A290
      clear A290
      by_cases c30 : a1 < (l0_4.length : Int)
      ·rw [if_pos c30] at H
       have c30b0 : decide (a1 < (l0_4.length : Int))=true:=decide_eq_true c30
       clear c30
       simp only [Option.some.injEq,Prod.mk.injEq] at H
       obtain ⟨rfl,rfl,rfl,rfl,rfl⟩:=H
       go_enter Try.func29,Try.ntmps29
       try go_wp2_with (first|((with_reducible refine gate_dst (N:=3) rfl ?_);(try (refine gate_guard (by rfl) ?_;dsimp only));refine box_event ?hg (N:=3) ?hd (cs:=#[.int .u32 a0_0,.int .u64 a0_1,.int .i64 a0_2,.string a0_3,.slice A0_4 l0_4.length c0_4]) (t:=28) ?hr ?_;(case hd=>rfl);(case hg=>rfl);(case hr=>first|(go_simp;done)|(go_simp;rfl));intro gb363 hg w31 hbox hb;have n0_:=Aside0.mk (below_step (by repeat (first|(with_reducible first|exact HB.out|apply below_alloc|apply pw_below_drewN|apply below_drew1)|exact HB.out)) hb);have n1_:=Aside0.mk (hbox);have n2_:=Aside0.mk ((by rw [hg];exact (below_size (by repeat (first|(with_reducible first|exact HB.out|apply below_alloc|apply pw_below_drewN|apply below_drew1)|exact HB.out))) : w.heap.size≤gb363));have n3_:=Aside0.mk ((by rw [hg];exact (below_size (by repeat (first|(with_reducible first|exact HB.out|apply below_alloc|apply pw_below_drewN|apply below_drew1)|exact HB.out))) : w.heap.size≤gb363));clear HB;have HB:=n0_;have BK363:=n1_;have GW363:=n2_;have GE363:=n3_;clear n0_ n1_ n2_ n3_;clear hb hbox hg)|((with_reducible refine gate_dst (N:=5) rfl ?_);(try (refine gate_guard (by rfl) ?_;dsimp only));refine box_event ?hg (N:=5) ?hd (cs:=#[.string a2_0,.int .u32 a2_1,.int .i64 a2_2]) (t:=43) ?hr ?_;(case hd=>rfl);(case hg=>rfl);(case hr=>first|(go_simp;done)|(go_simp;rfl));intro gb364 hg w32 hbox hb;have n0_:=Aside0.mk (blk_below (g:=gb363) (o:=.cells #[.int .u32 a0_0,.int .u64 a0_1,.int .i64 a0_2,.string a0_3,.slice A0_4 l0_4.length c0_4] 28 (0,0)) (by (with_reducible repeat (first|refine blk_drewN ?_ _|refine blk_drew ?_|refine blk_alloc ?_ _));exact BK363.out) hb);have n1_:=Aside0.mk (below_step (by repeat (first|(with_reducible first|exact HB.out|apply below_alloc|apply pw_below_drewN|apply below_drew1|refine below_set ?_ GE363.out)|exact HB.out)) hb);have n2_:=Aside0.mk (hbox);have n3_:=Aside0.mk ((by rw [hg];exact (below_size (by repeat (first|(with_reducible first|exact HB.out|apply below_alloc|apply pw_below_drewN|apply below_drew1|refine below_set ?_ GE363.out)|exact HB.out))) : w.heap.size≤gb364));have n4_:=Aside0.mk ((by rw [hg];exact (below_size (by repeat (first|(with_reducible first|exact HB.out|apply below_alloc|apply pw_below_drewN|apply below_drew1|refine below_set ?_ GE363.out)|exact HB.out))) : w.heap.size≤gb364));have n5_:=Aside0.mk ((by rw [hg];exact Nat.ne_of_lt (blk_lt (g:=gb363) (o:=.cells #[.int .u32 a0_0,.int .u64 a0_1,.int .i64 a0_2,.string a0_3,.slice A0_4 l0_4.length c0_4] 28 (0,0)) (by (with_reducible repeat (first|refine blk_drewN ?_ _|refine blk_drew ?_|refine blk_alloc ?_ _));exact BK363.out)) : gb363≠gb364));have n6_:=Aside0.mk ((by rw [hg];exact Nat.ne_of_gt (blk_lt (g:=gb363) (o:=.cells #[.int .u32 a0_0,.int .u64 a0_1,.int .i64 a0_2,.string a0_3,.slice A0_4 l0_4.length c0_4] 28 (0,0)) (by (with_reducible repeat (first|refine blk_drewN ?_ _|refine blk_drew ?_|refine blk_alloc ?_ _));exact BK363.out)) : gb364≠gb363));clear BK363;clear HB;have BK363:=n0_;have HB:=n1_;have BK364:=n2_;have GW364:=n3_;have GE364:=n4_;have NB363_364:=n5_;have NB364_363:=n6_;clear n0_ n1_ n2_ n3_ n4_ n5_ n6_;clear hb hbox hg)|((with_reducible refine gate_dst (N:=6) rfl ?_);(try (refine gate_guard (by rfl) ?_;dsimp only));refine box_event ?hg (N:=6) ?hd (cs:=#[.int .i64 0,.int .i64 0,.string (⟨#[]⟩ : ByteArray),.string (⟨#[]⟩ : ByteArray)]) (t:=38) ?hr ?_;(case hd=>rfl);(case hg=>rfl);(case hr=>first|(go_simp;done)|(go_simp;rfl));intro gb365 hg w33 hbox hb;have n0_:=Aside0.mk (blk_below (g:=gb363) (o:=.cells #[.int .u32 a0_0,.int .u64 a0_1,.int .i64 a0_2,.string a0_3,.slice A0_4 l0_4.length c0_4] 28 (0,0)) (by (with_reducible repeat (first|refine blk_drewN ?_ _|refine blk_drew ?_|refine blk_alloc ?_ _));exact BK363.out) hb);have n1_:=Aside0.mk (blk_below (g:=gb364) (o:=.cells #[.string a2_0,.int .u32 a2_1,.int .i64 a2_2] 43 (0,0)) (by (with_reducible repeat (first|refine blk_drewN ?_ _|refine blk_drew ?_|refine blk_alloc ?_ _));exact BK364.out) hb);have n2_:=Aside0.mk (below_step (by repeat (first|(with_reducible first|exact HB.out|apply below_alloc|apply pw_below_drewN|apply below_drew1|refine below_set ?_ GE363.out|refine below_set ?_ GE364.out)|exact HB.out)) hb);have n3_:=Aside0.mk (hbox);have n4_:=Aside0.mk ((by rw [hg];exact (below_size (by repeat (first|(with_reducible first|exact HB.out|apply below_alloc|apply pw_below_drewN|apply below_drew1|refine below_set ?_ GE363.out|refine below_set ?_ GE364.out)|exact HB.out))) : w.heap.size≤gb365));have n5_:=Aside0.mk ((by rw [hg];exact (below_size (by repeat (first|(with_reducible first|exact HB.out|apply below_alloc|apply pw_below_drewN|apply below_drew1|refine below_set ?_ GE363.out|refine below_set ?_ GE364.out)|exact HB.out))) : w.heap.size≤gb365));have n6_:=Aside0.mk ((by rw [hg];exact Nat.ne_of_lt (blk_lt (g:=gb363) (o:=.cells #[.int .u32 a0_0,.int .u64 a0_1,.int .i64 a0_2,.string a0_3,.slice A0_4 l0_4.length c0_4] 28 (0,0)) (by (with_reducible repeat (first|refine blk_drewN ?_ _|refine blk_drew ?_|refine blk_alloc ?_ _));exact BK363.out)) : gb363≠gb365));have n7_:=Aside0.mk ((by rw [hg];exact Nat.ne_of_gt (blk_lt (g:=gb363) (o:=.cells #[.int .u32 a0_0,.int .u64 a0_1,.int .i64 a0_2,.string a0_3,.slice A0_4 l0_4.length c0_4] 28 (0,0)) (by (with_reducible repeat (first|refine blk_drewN ?_ _|refine blk_drew ?_|refine blk_alloc ?_ _));exact BK363.out)) : gb365≠gb363));have n8_:=Aside0.mk ((by rw [hg];exact Nat.ne_of_lt (blk_lt (g:=gb364) (o:=.cells #[.string a2_0,.int .u32 a2_1,.int .i64 a2_2] 43 (0,0)) (by (with_reducible repeat (first|refine blk_drewN ?_ _|refine blk_drew ?_|refine blk_alloc ?_ _));exact BK364.out)) : gb364≠gb365));have n9_:=Aside0.mk ((by rw [hg];exact Nat.ne_of_gt (blk_lt (g:=gb364) (o:=.cells #[.string a2_0,.int .u32 a2_1,.int .i64 a2_2] 43 (0,0)) (by (with_reducible repeat (first|refine blk_drewN ?_ _|refine blk_drew ?_|refine blk_alloc ?_ _));exact BK364.out)) : gb365≠gb364));clear BK363;clear BK364;clear HB;have BK363:=n0_;have BK364:=n1_;have HB:=n2_;have BK365:=n3_;have GW365:=n4_;have GE365:=n5_;have NB363_365:=n6_;have NB365_363:=n7_;have NB364_365:=n8_;have NB365_364:=n9_;clear n0_ n1_ n2_ n3_ n4_ n5_ n6_ n7_ n8_ n9_;clear hb hbox hg;have hnb34:=NB363_364.out;have hnc34:=NB364_363.out;have hnb35:=NB363_365.out;have hnc35:=NB365_363.out;have hcz36_0 : w33.cell? ⟨gb363,0,none⟩=some (.int .u32 a0_0):=(blk_cell BK363.out 0).trans rfl;have hcz36_1 : w33.cell? ⟨gb363,1,none⟩=some (.int .u64 a0_1):=(blk_cell BK363.out 1).trans rfl;have hcz36_2 : w33.cell? ⟨gb363,2,none⟩=some (.int .i64 a0_2):=(blk_cell BK363.out 2).trans rfl;have hcz36_3 : w33.cell? ⟨gb363,3,none⟩=some (.string a0_3):=(blk_cell BK363.out 3).trans rfl;have hcz36_4 : w33.cell? ⟨gb363,4,none⟩=some (.slice A0_4 l0_4.length c0_4):=(blk_cell BK363.out 4).trans rfl;have hfz36_0:=blk_frozen BK363.out 0;have hfz36_1:=blk_frozen BK363.out 1;have hfz36_2:=blk_frozen BK363.out 2;have hfz36_3:=blk_frozen BK363.out 3;have hfz36_4:=blk_frozen BK363.out 4)|((with_reducible refine gate_callee (f:=28) rfl ?_);refine goesL_ (some 12) rfl rfl Try.func28 (by kernel_rfl) rfl #[.agg #[.int .u32 a0_0,.int .u64 a0_1,.int .i64 a0_2,.string a0_3,.slice A0_4 l0_4.length c0_4]] rfl (by (try simp only [List.map_toArray,List.map_cons,List.map_nil]);first|done|rfl|(simp only [List.length_drop,List.length_take];rfl)) ?_;(with_reducible refine (node_Inner.calls k a0_0 a0_1 a0_2 a0_3 _ _ l0_4 t366 t369 _ ?side1 ?side2 A4.out).mono ?_);(case side1=>repeat (first|exact (Kd.C_below HR0_4.out HB.out)|(with_reducible refine Kd.C_alloc ?_ _)|(with_reducible refine Kd.C_drewN ?_ _)|(with_reducible refine Kd.C_drew ?_)));(case side2=>exact HC0_4.out);rintro e w37 ⟨v367,rfl,ho0,hb⟩;refine ⟨_,rfl,?_⟩;have n0_:=Aside0.mk (Kd.R_lower ho0 (below_size (by repeat (first|(with_reducible first|exact HB.out|apply below_alloc|apply pw_below_drewN|apply below_drew1|refine below_set ?_ GE363.out|refine below_set ?_ GE364.out|refine below_set ?_ GE365.out)|exact HB.out))));have n1_:=Aside0.mk (blk_below (g:=gb363) (o:=.cells #[.int .u32 a0_0,.int .u64 a0_1,.int .i64 a0_2,.string a0_3,.slice A0_4 l0_4.length c0_4] 28 (0,0)) (by (with_reducible repeat (first|refine blk_drewN ?_ _|refine blk_drew ?_|refine blk_alloc ?_ _));exact BK363.out) hb);have n2_:=Aside0.mk (blk_below (g:=gb364) (o:=.cells #[.string a2_0,.int .u32 a2_1,.int .i64 a2_2] 43 (0,0)) (by (with_reducible repeat (first|refine blk_drewN ?_ _|refine blk_drew ?_|refine blk_alloc ?_ _));exact BK364.out) hb);have n3_:=Aside0.mk (blk_below (g:=gb365) (o:=.cells #[.int .i64 0,.int .i64 0,.string (⟨#[]⟩ : ByteArray),.string (⟨#[]⟩ : ByteArray)] 38 (0,0)) (by (with_reducible repeat (first|refine blk_drewN ?_ _|refine blk_drew ?_|refine blk_alloc ?_ _));exact BK365.out) hb);have n4_:=Aside0.mk (below_step (by repeat (first|(with_reducible first|exact HB.out|apply below_alloc|apply pw_below_drewN|apply below_drew1|refine below_set ?_ GE363.out|refine below_set ?_ GE364.out|refine below_set ?_ GE365.out)|exact HB.out)) hb);clear BK363;clear BK364;clear BK365;clear HB;have HO368:=n0_;have BK363:=n1_;have BK364:=n2_;have BK365:=n3_;have HB:=n4_;clear n0_ n1_ n2_ n3_ n4_;(try clear hb);(try clear hb2);(try clear hk);(try clear hi);(try clear ho0);obtain ⟨Ao38,co38,eo38⟩:=Kd.R_slice HO368.out;subst eo38))
       have n0_:=Aside0.mk (Kd.R_drew HO368.out)
       have n1_:=Aside0.mk (blk_drew BK363.out)
       have n2_:=Aside0.mk (blk_drew BK364.out)
       have n3_:=Aside0.mk (blk_drew BK365.out)
       have n4_:=Aside0.mk (below_drew1 HB.out)
       clear HO368
       clear BK363
       clear BK364
       clear BK365
       clear HB
       have HO368:=n0_
       have BK363:=n1_
       have BK364:=n2_
       have BK365:=n3_
       have HB:=n4_
       clear n0_ n1_ n2_ n3_ n4_
       have p370 : 0≤(a1 : Int):=of_decide_eq_true (by first|(with_reducible assumption)|assumption)
       have q370 : a1 < (t366.length : Int):=of_decide_eq_true (by first|(with_reducible assumption)|assumption)
       obtain ⟨ad370,e370,hx370_0,hx370_1,hx370_2,hx370_3⟩:=at_T66 (Kd.R_reads' HO368.out).2.2 a1 p370 q370
       cases e370
       replace p370:=eq_true p370
       replace q370:=eq_true q370
       have p372 : 0≤(a1 : Int):=of_decide_eq_true (by first|(with_reducible assumption)|assumption)
       have q372 : a1 < (l0_4.length : Int):=of_decide_eq_true (by first|(with_reducible assumption)|assumption)
       obtain ⟨ad372,e372,hx372_0⟩:=Kd.at_string HR0_4.out a1 p372 q372
       have hw372_0:=hx372_0
       cases e372
       replace hx372_0:=(HB.out.cell (World.block_lt_of_cell? w _ hx372_0)).trans hx372_0
       replace p372:=eq_true p372
       replace q372:=eq_true q372
       refine start_ (n:=17) (S:=fun w'=>w'.cell? ⟨gb364,0,none⟩=some (.string a2_0)∧w'.cell? ⟨gb364,1,none⟩=some (.int .u32 a2_1)∧w'.cell? ⟨gb364,2,none⟩=some (.int .i64 a2_2)∧w'.cell? ⟨gb363,0,none⟩=some (.int .u32 a0_0)∧w'.cell? ⟨gb363,1,none⟩=some (.int .u64 a0_1)∧w'.cell? ⟨gb363,2,none⟩=some (.int .i64 a0_2)∧w'.cell? ⟨gb363,3,none⟩=some (.string a0_3)∧w'.cell? ⟨gb363,4,none⟩=some (.slice (some ad372) l0_4.length c0_4)∧w'.cell? (ad370.add ((a1).toNat * 4))=some (.int .u32 ((rd_T66 t366 a1).f0))∧w'.cell? ⟨(ad370.add ((a1).toNat * 4)).block,(ad370.add ((a1).toNat * 4)).off + 1,none⟩=some (.string ((rd_T66 t366 a1).f1.f0))∧w'.cell? ⟨(ad370.add ((a1).toNat * 4)).block,(ad370.add ((a1).toNat * 4)).off + 2,none⟩=some (.int .u32 ((rd_T66 t366 a1).f1.f1.f0))∧w'.cell? ⟨(ad370.add ((a1).toNat * 4)).block,(ad370.add ((a1).toNat * 4)).off + 3,none⟩=some (.int .i64 ((rd_T66 t366 a1).f1.f1.f1))∧w'.cell? (ad372.add (a1).toNat)=some (.string (rdOf ByteArray.empty l0_4 a1))) (ds:=[]) #[false,false,false,false,false,false,false,false,false,false,false,false,false,false,false,false,false] (by kernel_rfl) rfl rfl ⟨(blk_cell BK364.out 0).trans rfl,(blk_cell BK364.out 1).trans rfl,(blk_cell BK364.out 2).trans rfl,(blk_cell BK363.out 0).trans rfl,(blk_cell BK363.out 1).trans rfl,(blk_cell BK363.out 2).trans rfl,(blk_cell BK363.out 3).trans rfl,(blk_cell BK363.out 4).trans rfl,hx370_0,hx370_1,hx370_2,hx370_3,((HB.out.cell (World.block_lt_of_cell? w _ hw372_0)).trans hw372_0)⟩ (fun hHeld=>?_);refine with_tabW node_SetFrom.tab6 node_SetFrom.bits6 (fun HT_ HW_=>?_)
       generalize w37.drew=w39 at HO368 BK363 BK364 BK365 HB hx370_0 hx370_1 hx370_2 hx370_3 hx372_0 hHeld ⊢
       refine pure_ (i:=0) (N:=some 30) (v:=?_) (a':=?_) #[true,false,false,false,false,false,false,false,false,false,false,false,false,false,false,false,false] rfl rfl (any_of HT_.out (by kernel_rfl)) (fun _ _ _ h=>h) (Or.inl ⟨by rfl,?_⟩) ?_ ?_;rotate_left;(focus (intro w';go_simp;with_reducible rfl));rotate_left;(focus (simp only [Act.put,sA_,sB_,sC_,i64_w,i32_w];rfl))
       refine pure_ (i:=1) (N:=some 31) (v:=?_) (a':=?_) #[true,true,false,false,false,false,false,false,false,false,false,false,false,false,false,false,false] rfl rfl (any_of HT_.out (by kernel_rfl)) (fun _ _ _ h=>h) (Or.inl ⟨by rfl,?_⟩) ?_ ?_;rotate_left;(focus (intro w';go_simp;with_reducible rfl));rotate_left;(focus (simp only [Act.put,sA_,sB_,sC_,i64_w,i32_w];rfl))
       refine pure_ (i:=2) (N:=some 32) (v:=?_) (a':=?_) #[true,true,true,false,false,false,false,false,false,false,false,false,false,false,false,false,false] rfl rfl (any_of HT_.out (by kernel_rfl)) (fun _ _ _ h=>h) (Or.inl ⟨by rfl,?_⟩) ?_ ?_;rotate_left;(focus (intro w';go_simp;with_reducible rfl));rotate_left;(focus (simp only [Act.put,sA_,sB_,sC_,i64_w,i32_w];rfl))
       refine pure_ (i:=3) (N:=some 33) (v:=?_) (a':=?_) #[true,true,true,true,false,false,false,false,false,false,false,false,false,false,false,false,false] rfl rfl (any_of HT_.out (by kernel_rfl)) (fun _ _ _ h=>h) (Or.inl ⟨by rfl,?_⟩) ?_ ?_;rotate_left;(focus (intro w';go_simp;with_reducible rfl));rotate_left;(focus (simp only [Act.put,sA_,sB_,sC_,i64_w,i32_w];rfl))
       refine pure_ (i:=4) (N:=some 34) (v:=?_) (a':=?_) #[true,true,true,true,true,false,false,false,false,false,false,false,false,false,false,false,false] rfl rfl (any_of HT_.out (by kernel_rfl)) (fun _ _ _ h=>h) (Or.inl ⟨by rfl,?_⟩) ?_ ?_;rotate_left;(focus (intro w';go_simp;with_reducible rfl));rotate_left;(focus (simp only [Act.put,sA_,sB_,sC_,i64_w,i32_w];rfl))
       refine pure_ (i:=9) (N:=some 39) (v:=?_) (a':=?_) #[true,true,true,true,true,false,false,false,false,true,false,false,false,false,false,false,false] rfl rfl (any_of HT_.out (by kernel_rfl)) (fun _ _ _ h=>h) (Or.inl ⟨by rfl,?_⟩) ?_ ?_;rotate_left;(focus (intro w';go_simp;with_reducible rfl));rotate_left;(focus (simp only [Act.put,sA_,sB_,sC_,i64_w,i32_w];rfl))
       refine pure_ (i:=11) (N:=some 41) (v:=?_) (a':=?_) #[true,true,true,true,true,false,false,false,false,true,false,true,false,false,false,false,false] rfl rfl (any_of HT_.out (by kernel_rfl)) (fun _ _ _ h=>h) (Or.inl ⟨by rfl,?_⟩) ?_ ?_;rotate_left;(focus (intro w';go_simp;with_reducible rfl));rotate_left;(focus (simp only [Act.put,sA_,sB_,sC_,i64_w,i32_w];rfl))
       refine take_ (i:=5) (N:=some 35) (v:=?_) (a':=?_) #[true,true,true,true,true,true,false,false,false,true,false,true,false,false,false,false,false] rfl rfl (take_ofW HT_.out HW_.out (by kernel_rfl)) (fun _ _ _ h=>h) (Or.inl ⟨by rfl,?_⟩) hHeld ?_ ?_;rotate_left;(focus (rintro w' ⟨s0,s1,s2,s3,s4,s5,s6,s7,s8,s9,s10,s11,s12⟩;go_simp;with_reducible rfl));rotate_left;(focus (simp only [Act.put,sA_,sB_,sC_,i64_w,i32_w];rfl))
       refine take_ (i:=6) (N:=some 36) (v:=?_) (a':=?_) #[true,true,true,true,true,true,true,false,false,true,false,true,false,false,false,false,false] rfl rfl (take_ofW HT_.out HW_.out (by kernel_rfl)) (fun _ _ _ h=>h) (Or.inl ⟨by rfl,?_⟩) hHeld ?_ ?_;rotate_left;(focus (rintro w' ⟨s0,s1,s2,s3,s4,s5,s6,s7,s8,s9,s10,s11,s12⟩;go_simp;with_reducible rfl));rotate_left;(focus (simp only [Act.put,sA_,sB_,sC_,i64_w,i32_w];rfl))
       refine pure_ (i:=7) (N:=some 37) (v:=?_) (a':=?_) #[true,true,true,true,true,true,true,true,false,true,false,true,false,false,false,false,false] rfl rfl (any_of HT_.out (by kernel_rfl)) (fun _ _ _ h=>h) (Or.inl ⟨by rfl,?_⟩) ?_ ?_;rotate_left;(focus (intro w';go_simp;with_reducible rfl));rotate_left;(focus (simp only [Act.put,sA_,sB_,sC_,i64_w,i32_w];rfl))
       refine take_ (i:=10) (N:=some 40) (v:=?_) (a':=?_) #[true,true,true,true,true,true,true,true,false,true,true,true,false,false,false,false,false] rfl rfl (take_ofW HT_.out HW_.out (by kernel_rfl)) (fun _ _ _ h=>h) (Or.inl ⟨by rfl,?_⟩) hHeld ?_ ?_;rotate_left;(focus (rintro w' ⟨s0,s1,s2,s3,s4,s5,s6,s7,s8,s9,s10,s11,s12⟩;go_simp;with_reducible rfl));rotate_left;(focus (simp only [Act.put,sA_,sB_,sC_,i64_w,i32_w];rfl))
       refine pure_ (i:=12) (N:=some 42) (v:=?_) (a':=?_) #[true,true,true,true,true,true,true,true,false,true,true,true,true,false,false,false,false] rfl rfl (any_of HT_.out (by kernel_rfl)) (fun _ _ _ h=>h) (Or.inl ⟨by rfl,?_⟩) ?_ ?_;rotate_left;(focus (intro w';go_simp;with_reducible rfl));rotate_left;(focus (simp only [Act.put,sA_,sB_,sC_,i64_w,i32_w];rfl))
       refine take_ (i:=13) (N:=some 43) (v:=?_) (a':=?_) #[true,true,true,true,true,true,true,true,false,true,true,true,true,true,false,false,false] rfl rfl (take_ofW HT_.out HW_.out (by kernel_rfl)) (fun _ _ _ h=>h) (Or.inl ⟨by rfl,?_⟩) hHeld ?_ ?_;rotate_left;(focus (rintro w' ⟨s0,s1,s2,s3,s4,s5,s6,s7,s8,s9,s10,s11,s12⟩;go_simp;with_reducible rfl));rotate_left;(focus (simp only [Act.put,sA_,sB_,sC_,i64_w,i32_w];rfl))
       refine one_ (i:=8) (N:=some 38) #[true,true,true,true,true,true,true,true,true,true,true,true,true,true,false,false,false] rfl rfl (one_of HT_.out (by kernel_rfl)) (by decide) (fun K hK=>?_)
       refine goes_ Try.func43 (by kernel_rfl) rfl #[.agg #[.int .u32 ((rd_T66 t366 a1).f0),.string a2_0,.int .u32 a2_1,.int .i64 a2_2]] (by rfl) rfl rfl (by (try simp only [List.map_toArray,List.map_cons,List.map_nil]);first|done|rfl|(simp only [List.length_drop,List.length_take];rfl)) ?_
       with_reducible refine (node_innerSlot.calls ((rd_T66 t366 a1).f0) a2_0 a2_1 a2_2 t371 _ A29.out).mono ?_
       rintro e w40 ⟨rfl,hb⟩
       have HS8_:=(hb.cell (World.block_lt_of_cell? _ _ (hHeld.2.2.2.2.2.2.2.2.1))).trans (hHeld.2.2.2.2.2.2.2.2.1)
       have HS9_:=(hb.cell (World.block_lt_of_cell? _ _ (hHeld.2.2.2.2.2.2.2.2.2.1))).trans (hHeld.2.2.2.2.2.2.2.2.2.1)
       have HS10_:=(hb.cell (World.block_lt_of_cell? _ _ (hHeld.2.2.2.2.2.2.2.2.2.2.1))).trans (hHeld.2.2.2.2.2.2.2.2.2.2.1)
       have HS11_:=(hb.cell (World.block_lt_of_cell? _ _ (hHeld.2.2.2.2.2.2.2.2.2.2.2.1))).trans (hHeld.2.2.2.2.2.2.2.2.2.2.2.1)
       refine ⟨_,rfl,?_⟩
       have n0_:=Aside0.mk (Kd.R_below (by (with_reducible repeat (first|apply Kd.R_alloc|apply Kd.R_drewN|apply Kd.R_drew));exact HO368.out) hb)
       have n1_:=Aside0.mk (blk_below (g:=gb363) (o:=.cells #[.int .u32 a0_0,.int .u64 a0_1,.int .i64 a0_2,.string a0_3,.slice (some ad372) l0_4.length c0_4] 28 (0,0)) (by (with_reducible repeat (first|refine blk_drewN ?_ _|refine blk_drew ?_|refine blk_alloc ?_ _));exact BK363.out) hb)
       have n2_:=Aside0.mk (blk_below (g:=gb364) (o:=.cells #[.string a2_0,.int .u32 a2_1,.int .i64 a2_2] 43 (0,0)) (by (with_reducible repeat (first|refine blk_drewN ?_ _|refine blk_drew ?_|refine blk_alloc ?_ _));exact BK364.out) hb)
       have n3_:=Aside0.mk (blk_below (g:=gb365) (o:=.cells #[.int .i64 0,.int .i64 0,.string (⟨#[]⟩ : ByteArray),.string (⟨#[]⟩ : ByteArray)] 38 (0,0)) (by (with_reducible repeat (first|refine blk_drewN ?_ _|refine blk_drew ?_|refine blk_alloc ?_ _));exact BK365.out) hb)
       have n4_:=Aside0.mk (below_step (by repeat (first|(with_reducible first|exact HB.out|apply below_alloc|apply pw_below_drewN|apply below_drew1|refine below_set ?_ GE363.out|refine below_set ?_ GE364.out|refine below_set ?_ GE365.out)|exact HB.out)) hb)
       clear HO368
       clear BK363
       clear BK364
       clear BK365
       clear HB
       have HO368:=n0_
       have BK363:=n1_
       have BK364:=n2_
       have BK365:=n3_
       have HB:=n4_
       clear n0_ n1_ n2_ n3_ n4_
       (try clear hb)
       (try clear hb2)
       (try clear hk)
       (try clear hi)
       refine hK.out _ _ ⟨(blk_cell BK364.out 0).trans rfl,(blk_cell BK364.out 1).trans rfl,(blk_cell BK364.out 2).trans rfl,(blk_cell BK363.out 0).trans rfl,(blk_cell BK363.out 1).trans rfl,(blk_cell BK363.out 2).trans rfl,(blk_cell BK363.out 3).trans rfl,(blk_cell BK363.out 4).trans rfl,HS8_,HS9_,HS10_,HS11_,((HB.out.cell (World.block_lt_of_cell? w _ hw372_0)).trans hw372_0)⟩ (fun hHeld=>?_)
       clear hK K
       refine norm_ (a':=?_) ?_ ?_
       rotate_left
       ·show Act.put _ (some 38) _=_
        simp only [Act.put,sA_,sB_,sC_,i64_w,i32_w]
        rfl
       refine pure_ (i:=14) (N:=some 44) (v:=?_) (a':=?_) #[true,true,true,true,true,true,true,true,true,true,true,true,true,true,true,false,false] rfl rfl (any_of HT_.out (by kernel_rfl)) (fun _ _ _ h=>h) (Or.inl ⟨by rfl,?_⟩) ?_ ?_;rotate_left;(focus (intro w';go_simp;with_reducible rfl));rotate_left;(focus (simp only [Act.put,sA_,sB_,sC_,i64_w,i32_w];rfl))
       refine one_ (i:=15) (N:=none) #[true,true,true,true,true,true,true,true,true,true,true,true,true,true,true,true,false] rfl rfl (one_of HT_.out (by kernel_rfl)) (by decide) (fun K hK=>?_)
       have hs41 : w40.cell? ⟨gb365,0,none⟩=some (.int .i64 0):=(blk_cell BK365.out 0).trans rfl
       have hfs41:=blk_frozen BK365.out 0
       have hns41_0:=NB363_365.out
       have hns41_1:=NB364_365.out
       have hms41_0:=NB365_363.out
       have hms41_1:=NB365_364.out
       have hs42 : w40.cell? ⟨gb365,1,none⟩=some (.int .i64 0):=(blk_cell BK365.out 1).trans rfl
       have hfs42:=blk_frozen BK365.out 1
       have hns42_0:=NB363_365.out
       have hns42_1:=NB364_365.out
       have hms42_0:=NB365_363.out
       have hms42_1:=NB365_364.out
       have hs43 : w40.cell? ⟨gb365,2,none⟩=some (.string (⟨#[]⟩ : ByteArray)):=(blk_cell BK365.out 2).trans rfl
       have hfs43:=blk_frozen BK365.out 2
       have hns43_0:=NB363_365.out
       have hns43_1:=NB364_365.out
       have hms43_0:=NB365_363.out
       have hms43_1:=NB365_364.out
       have hs44 : w40.cell? ⟨gb365,3,none⟩=some (.string (⟨#[]⟩ : ByteArray)):=(blk_cell BK365.out 3).trans rfl
       have hfs44:=blk_frozen BK365.out 3
       have hns44_0:=NB363_365.out
       have hns44_1:=NB364_365.out
       have hms44_0:=NB365_363.out
       have hms44_1:=NB365_364.out
       refine skip_ (w1:=?_) (by rfl) rfl ?_ ?_
       rotate_left
       ·go_simp
        rfl
       refine hK.out _ _ ⟨((cell_far (p:=⟨gb365,_,none⟩) NB364_365.out _).trans (((cell_far (p:=⟨gb365,_,none⟩) NB364_365.out _).trans (((cell_far (p:=⟨gb365,_,none⟩) NB364_365.out _).trans (((cell_far (p:=⟨gb365,_,none⟩) NB364_365.out _).trans (hHeld.1)))))))),((cell_far (p:=⟨gb365,_,none⟩) NB364_365.out _).trans (((cell_far (p:=⟨gb365,_,none⟩) NB364_365.out _).trans (((cell_far (p:=⟨gb365,_,none⟩) NB364_365.out _).trans (((cell_far (p:=⟨gb365,_,none⟩) NB364_365.out _).trans (hHeld.2.1)))))))),((cell_far (p:=⟨gb365,_,none⟩) NB364_365.out _).trans (((cell_far (p:=⟨gb365,_,none⟩) NB364_365.out _).trans (((cell_far (p:=⟨gb365,_,none⟩) NB364_365.out _).trans (((cell_far (p:=⟨gb365,_,none⟩) NB364_365.out _).trans (hHeld.2.2.1)))))))),((cell_far (p:=⟨gb365,_,none⟩) NB363_365.out _).trans (((cell_far (p:=⟨gb365,_,none⟩) NB363_365.out _).trans (((cell_far (p:=⟨gb365,_,none⟩) NB363_365.out _).trans (((cell_far (p:=⟨gb365,_,none⟩) NB363_365.out _).trans (hHeld.2.2.2.1)))))))),((cell_far (p:=⟨gb365,_,none⟩) NB363_365.out _).trans (((cell_far (p:=⟨gb365,_,none⟩) NB363_365.out _).trans (((cell_far (p:=⟨gb365,_,none⟩) NB363_365.out _).trans (((cell_far (p:=⟨gb365,_,none⟩) NB363_365.out _).trans (hHeld.2.2.2.2.1)))))))),((cell_far (p:=⟨gb365,_,none⟩) NB363_365.out _).trans (((cell_far (p:=⟨gb365,_,none⟩) NB363_365.out _).trans (((cell_far (p:=⟨gb365,_,none⟩) NB363_365.out _).trans (((cell_far (p:=⟨gb365,_,none⟩) NB363_365.out _).trans (hHeld.2.2.2.2.2.1)))))))),((cell_far (p:=⟨gb365,_,none⟩) NB363_365.out _).trans (((cell_far (p:=⟨gb365,_,none⟩) NB363_365.out _).trans (((cell_far (p:=⟨gb365,_,none⟩) NB363_365.out _).trans (((cell_far (p:=⟨gb365,_,none⟩) NB363_365.out _).trans (hHeld.2.2.2.2.2.2.1)))))))),((cell_far (p:=⟨gb365,_,none⟩) NB363_365.out _).trans (((cell_far (p:=⟨gb365,_,none⟩) NB363_365.out _).trans (((cell_far (p:=⟨gb365,_,none⟩) NB363_365.out _).trans (((cell_far (p:=⟨gb365,_,none⟩) NB363_365.out _).trans (hHeld.2.2.2.2.2.2.2.1)))))))),((cell_far (p:=⟨gb365,_,none⟩) (by first|exact Kd.own_blk (Kd.R_ne HO368.out BK365.out (by decide))|(rw [add_block];exact Kd.own_blk (Kd.R_ne HO368.out BK365.out (by decide)))|(show (Addr.add _ _).block≠_;rw [add_block];exact Kd.own_blk (Kd.R_ne HO368.out BK365.out (by decide)))|(dsimp only;exact Kd.own_blk (Kd.R_ne HO368.out BK365.out (by decide)))) _).trans (((cell_far (p:=⟨gb365,_,none⟩) (by first|exact Kd.own_blk (Kd.R_ne HO368.out BK365.out (by decide))|(rw [add_block];exact Kd.own_blk (Kd.R_ne HO368.out BK365.out (by decide)))|(show (Addr.add _ _).block≠_;rw [add_block];exact Kd.own_blk (Kd.R_ne HO368.out BK365.out (by decide)))|(dsimp only;exact Kd.own_blk (Kd.R_ne HO368.out BK365.out (by decide)))) _).trans (((cell_far (p:=⟨gb365,_,none⟩) (by first|exact Kd.own_blk (Kd.R_ne HO368.out BK365.out (by decide))|(rw [add_block];exact Kd.own_blk (Kd.R_ne HO368.out BK365.out (by decide)))|(show (Addr.add _ _).block≠_;rw [add_block];exact Kd.own_blk (Kd.R_ne HO368.out BK365.out (by decide)))|(dsimp only;exact Kd.own_blk (Kd.R_ne HO368.out BK365.out (by decide)))) _).trans (((cell_far (p:=⟨gb365,_,none⟩) (by first|exact Kd.own_blk (Kd.R_ne HO368.out BK365.out (by decide))|(rw [add_block];exact Kd.own_blk (Kd.R_ne HO368.out BK365.out (by decide)))|(show (Addr.add _ _).block≠_;rw [add_block];exact Kd.own_blk (Kd.R_ne HO368.out BK365.out (by decide)))|(dsimp only;exact Kd.own_blk (Kd.R_ne HO368.out BK365.out (by decide)))) _).trans (hHeld.2.2.2.2.2.2.2.2.1)))))))),((cell_far (p:=⟨gb365,_,none⟩) (by first|exact Kd.own_blk (Kd.R_ne HO368.out BK365.out (by decide))|(rw [add_block];exact Kd.own_blk (Kd.R_ne HO368.out BK365.out (by decide)))|(show (Addr.add _ _).block≠_;rw [add_block];exact Kd.own_blk (Kd.R_ne HO368.out BK365.out (by decide)))|(dsimp only;exact Kd.own_blk (Kd.R_ne HO368.out BK365.out (by decide)))) _).trans (((cell_far (p:=⟨gb365,_,none⟩) (by first|exact Kd.own_blk (Kd.R_ne HO368.out BK365.out (by decide))|(rw [add_block];exact Kd.own_blk (Kd.R_ne HO368.out BK365.out (by decide)))|(show (Addr.add _ _).block≠_;rw [add_block];exact Kd.own_blk (Kd.R_ne HO368.out BK365.out (by decide)))|(dsimp only;exact Kd.own_blk (Kd.R_ne HO368.out BK365.out (by decide)))) _).trans (((cell_far (p:=⟨gb365,_,none⟩) (by first|exact Kd.own_blk (Kd.R_ne HO368.out BK365.out (by decide))|(rw [add_block];exact Kd.own_blk (Kd.R_ne HO368.out BK365.out (by decide)))|(show (Addr.add _ _).block≠_;rw [add_block];exact Kd.own_blk (Kd.R_ne HO368.out BK365.out (by decide)))|(dsimp only;exact Kd.own_blk (Kd.R_ne HO368.out BK365.out (by decide)))) _).trans (((cell_far (p:=⟨gb365,_,none⟩) (by first|exact Kd.own_blk (Kd.R_ne HO368.out BK365.out (by decide))|(rw [add_block];exact Kd.own_blk (Kd.R_ne HO368.out BK365.out (by decide)))|(show (Addr.add _ _).block≠_;rw [add_block];exact Kd.own_blk (Kd.R_ne HO368.out BK365.out (by decide)))|(dsimp only;exact Kd.own_blk (Kd.R_ne HO368.out BK365.out (by decide)))) _).trans (hHeld.2.2.2.2.2.2.2.2.2.1)))))))),((cell_far (p:=⟨gb365,_,none⟩) (by first|exact Kd.own_blk (Kd.R_ne HO368.out BK365.out (by decide))|(rw [add_block];exact Kd.own_blk (Kd.R_ne HO368.out BK365.out (by decide)))|(show (Addr.add _ _).block≠_;rw [add_block];exact Kd.own_blk (Kd.R_ne HO368.out BK365.out (by decide)))|(dsimp only;exact Kd.own_blk (Kd.R_ne HO368.out BK365.out (by decide)))) _).trans (((cell_far (p:=⟨gb365,_,none⟩) (by first|exact Kd.own_blk (Kd.R_ne HO368.out BK365.out (by decide))|(rw [add_block];exact Kd.own_blk (Kd.R_ne HO368.out BK365.out (by decide)))|(show (Addr.add _ _).block≠_;rw [add_block];exact Kd.own_blk (Kd.R_ne HO368.out BK365.out (by decide)))|(dsimp only;exact Kd.own_blk (Kd.R_ne HO368.out BK365.out (by decide)))) _).trans (((cell_far (p:=⟨gb365,_,none⟩) (by first|exact Kd.own_blk (Kd.R_ne HO368.out BK365.out (by decide))|(rw [add_block];exact Kd.own_blk (Kd.R_ne HO368.out BK365.out (by decide)))|(show (Addr.add _ _).block≠_;rw [add_block];exact Kd.own_blk (Kd.R_ne HO368.out BK365.out (by decide)))|(dsimp only;exact Kd.own_blk (Kd.R_ne HO368.out BK365.out (by decide)))) _).trans (((cell_far (p:=⟨gb365,_,none⟩) (by first|exact Kd.own_blk (Kd.R_ne HO368.out BK365.out (by decide))|(rw [add_block];exact Kd.own_blk (Kd.R_ne HO368.out BK365.out (by decide)))|(show (Addr.add _ _).block≠_;rw [add_block];exact Kd.own_blk (Kd.R_ne HO368.out BK365.out (by decide)))|(dsimp only;exact Kd.own_blk (Kd.R_ne HO368.out BK365.out (by decide)))) _).trans (hHeld.2.2.2.2.2.2.2.2.2.2.1)))))))),((cell_far (p:=⟨gb365,_,none⟩) (by first|exact Kd.own_blk (Kd.R_ne HO368.out BK365.out (by decide))|(rw [add_block];exact Kd.own_blk (Kd.R_ne HO368.out BK365.out (by decide)))|(show (Addr.add _ _).block≠_;rw [add_block];exact Kd.own_blk (Kd.R_ne HO368.out BK365.out (by decide)))|(dsimp only;exact Kd.own_blk (Kd.R_ne HO368.out BK365.out (by decide)))) _).trans (((cell_far (p:=⟨gb365,_,none⟩) (by first|exact Kd.own_blk (Kd.R_ne HO368.out BK365.out (by decide))|(rw [add_block];exact Kd.own_blk (Kd.R_ne HO368.out BK365.out (by decide)))|(show (Addr.add _ _).block≠_;rw [add_block];exact Kd.own_blk (Kd.R_ne HO368.out BK365.out (by decide)))|(dsimp only;exact Kd.own_blk (Kd.R_ne HO368.out BK365.out (by decide)))) _).trans (((cell_far (p:=⟨gb365,_,none⟩) (by first|exact Kd.own_blk (Kd.R_ne HO368.out BK365.out (by decide))|(rw [add_block];exact Kd.own_blk (Kd.R_ne HO368.out BK365.out (by decide)))|(show (Addr.add _ _).block≠_;rw [add_block];exact Kd.own_blk (Kd.R_ne HO368.out BK365.out (by decide)))|(dsimp only;exact Kd.own_blk (Kd.R_ne HO368.out BK365.out (by decide)))) _).trans (((cell_far (p:=⟨gb365,_,none⟩) (by first|exact Kd.own_blk (Kd.R_ne HO368.out BK365.out (by decide))|(rw [add_block];exact Kd.own_blk (Kd.R_ne HO368.out BK365.out (by decide)))|(show (Addr.add _ _).block≠_;rw [add_block];exact Kd.own_blk (Kd.R_ne HO368.out BK365.out (by decide)))|(dsimp only;exact Kd.own_blk (Kd.R_ne HO368.out BK365.out (by decide)))) _).trans (hHeld.2.2.2.2.2.2.2.2.2.2.2.1)))))))),((cell_far (p:=⟨gb365,_,none⟩) (by first|exact Nat.ne_of_lt (Nat.lt_of_lt_of_le (by have:=World.block_lt_of_cell? _ _ hw372_0;first|rwa [add_block] at this|exact this) GW365.out)|(rw [add_block];exact Nat.ne_of_lt (Nat.lt_of_lt_of_le (by have:=World.block_lt_of_cell? _ _ hw372_0;first|rwa [add_block] at this|exact this) GW365.out))|(show (Addr.add _ _).block≠_;rw [add_block];exact Nat.ne_of_lt (Nat.lt_of_lt_of_le (by have:=World.block_lt_of_cell? _ _ hw372_0;first|rwa [add_block] at this|exact this) GW365.out))|(dsimp only;exact Nat.ne_of_lt (Nat.lt_of_lt_of_le (by have:=World.block_lt_of_cell? _ _ hw372_0;first|rwa [add_block] at this|exact this) GW365.out))) _).trans (((cell_far (p:=⟨gb365,_,none⟩) (by first|exact Nat.ne_of_lt (Nat.lt_of_lt_of_le (by have:=World.block_lt_of_cell? _ _ hw372_0;first|rwa [add_block] at this|exact this) GW365.out)|(rw [add_block];exact Nat.ne_of_lt (Nat.lt_of_lt_of_le (by have:=World.block_lt_of_cell? _ _ hw372_0;first|rwa [add_block] at this|exact this) GW365.out))|(show (Addr.add _ _).block≠_;rw [add_block];exact Nat.ne_of_lt (Nat.lt_of_lt_of_le (by have:=World.block_lt_of_cell? _ _ hw372_0;first|rwa [add_block] at this|exact this) GW365.out))|(dsimp only;exact Nat.ne_of_lt (Nat.lt_of_lt_of_le (by have:=World.block_lt_of_cell? _ _ hw372_0;first|rwa [add_block] at this|exact this) GW365.out))) _).trans (((cell_far (p:=⟨gb365,_,none⟩) (by first|exact Nat.ne_of_lt (Nat.lt_of_lt_of_le (by have:=World.block_lt_of_cell? _ _ hw372_0;first|rwa [add_block] at this|exact this) GW365.out)|(rw [add_block];exact Nat.ne_of_lt (Nat.lt_of_lt_of_le (by have:=World.block_lt_of_cell? _ _ hw372_0;first|rwa [add_block] at this|exact this) GW365.out))|(show (Addr.add _ _).block≠_;rw [add_block];exact Nat.ne_of_lt (Nat.lt_of_lt_of_le (by have:=World.block_lt_of_cell? _ _ hw372_0;first|rwa [add_block] at this|exact this) GW365.out))|(dsimp only;exact Nat.ne_of_lt (Nat.lt_of_lt_of_le (by have:=World.block_lt_of_cell? _ _ hw372_0;first|rwa [add_block] at this|exact this) GW365.out))) _).trans (((cell_far (p:=⟨gb365,_,none⟩) (by first|exact Nat.ne_of_lt (Nat.lt_of_lt_of_le (by have:=World.block_lt_of_cell? _ _ hw372_0;first|rwa [add_block] at this|exact this) GW365.out)|(rw [add_block];exact Nat.ne_of_lt (Nat.lt_of_lt_of_le (by have:=World.block_lt_of_cell? _ _ hw372_0;first|rwa [add_block] at this|exact this) GW365.out))|(show (Addr.add _ _).block≠_;rw [add_block];exact Nat.ne_of_lt (Nat.lt_of_lt_of_le (by have:=World.block_lt_of_cell? _ _ hw372_0;first|rwa [add_block] at this|exact this) GW365.out))|(dsimp only;exact Nat.ne_of_lt (Nat.lt_of_lt_of_le (by have:=World.block_lt_of_cell? _ _ hw372_0;first|rwa [add_block] at this|exact this) GW365.out))) _).trans (hHeld.2.2.2.2.2.2.2.2.2.2.2.2))))))))⟩ (fun hHeld=>?_)
       clear hK K
       refine pure_ (i:=16) (N:=some 7) (v:=?_) (a':=?_) #[true,true,true,true,true,true,true,true,true,true,true,true,true,true,true,true,true] rfl rfl (any_of HT_.out (by kernel_rfl)) (fun _ _ _ h=>h) (Or.inl ⟨by rfl,?_⟩) ?_ ?_;rotate_left;(focus (intro w';go_simp;with_reducible rfl));rotate_left;(focus (simp only [Act.put,sA_,sB_,sC_,i64_w,i32_w];rfl))
       refine done_ (done_of HT_.out (by kernel_rfl)) ?_
       try go_wp2
       refine bodyPost_ret (results_ct rfl _ _ gb365 38 #[.int .i64 4,.int .i64 a1,.string t371,.string (rdOf ByteArray.empty l0_4 a1)] (0,0) _ rfl (by (with_reducible repeat (first|refine blk_drewN ?_ _|refine blk_drew ?_|refine blk_alloc ?_ _));refine blk_put (cs:=#[.int .i64 4,.int .i64 a1,.string t371,.string (⟨#[]⟩ : ByteArray)]) ?_ 3 _ rfl;(with_reducible repeat (first|refine blk_drewN ?_ _|refine blk_drew ?_|refine blk_alloc ?_ _));refine blk_put (cs:=#[.int .i64 4,.int .i64 a1,.string (⟨#[]⟩ : ByteArray),.string (⟨#[]⟩ : ByteArray)]) ?_ 2 _ rfl;(with_reducible repeat (first|refine blk_drewN ?_ _|refine blk_drew ?_|refine blk_alloc ?_ _));refine blk_put (cs:=#[.int .i64 4,.int .i64 0,.string (⟨#[]⟩ : ByteArray),.string (⟨#[]⟩ : ByteArray)]) ?_ 1 _ rfl;(with_reducible repeat (first|refine blk_drewN ?_ _|refine blk_drew ?_|refine blk_alloc ?_ _));refine blk_put (cs:=#[.int .i64 0,.int .i64 0,.string (⟨#[]⟩ : ByteArray),.string (⟨#[]⟩ : ByteArray)]) ?_ 0 _ rfl;(with_reducible repeat (first|refine blk_drewN ?_ _|refine blk_drew ?_|refine blk_alloc ?_ _));exact BK365.out) Try.underlying38 rfl (by kernel_rfl)) rfl ?_
       exact ⟨by first|rfl|(simp [errW_none,errW_some] <;> rfl)|(simp [*,errW_none,errW_some] <;> rfl),by repeat (first|(with_reducible first|exact HB.out|apply below_alloc|apply pw_below_drewN|apply below_drew1|refine below_set ?_ GE363.out|refine below_set ?_ GE364.out|refine below_set ?_ GE365.out)|exact HB.out)⟩
      ·rw [if_neg c30] at H
       exact absurd H (by simp)
     ·rw [if_neg c28] at H
      exact absurd H (by simp)
    ·rw [if_neg c27] at H
     exact absurd H (by simp)
 ·rw [if_neg c5] at H
  have c5b0 : (t369 == 0)=false:=beq_eq_false_iff_ne.mpr c5
  have c5b1 : (t369 != 0)=true:=bne_iff_ne.mpr c5
  simp only [Option.some.injEq,Prod.mk.injEq] at H
  obtain ⟨rfl,rfl,rfl,rfl,rfl⟩:=H
  go_enter Try.func29,Try.ntmps29
  go_wp2_with (first|((with_reducible refine gate_dst (N:=3) rfl ?_);(try (refine gate_guard (by rfl) ?_;dsimp only));refine box_event ?hg (N:=3) ?hd (cs:=#[.int .u32 a0_0,.int .u64 a0_1,.int .i64 a0_2,.string a0_3,.slice A0_4 l0_4.length c0_4]) (t:=28) ?hr ?_;(case hd=>rfl);(case hg=>rfl);(case hr=>first|(go_simp;done)|(go_simp;rfl));intro gb363 hg w45 hbox hb;have n0_:=Aside0.mk (below_step (by repeat (first|(with_reducible first|exact HB.out|apply below_alloc|apply pw_below_drewN|apply below_drew1)|exact HB.out)) hb);have n1_:=Aside0.mk (hbox);have n2_:=Aside0.mk ((by rw [hg];exact (below_size (by repeat (first|(with_reducible first|exact HB.out|apply below_alloc|apply pw_below_drewN|apply below_drew1)|exact HB.out))) : w.heap.size≤gb363));have n3_:=Aside0.mk ((by rw [hg];exact (below_size (by repeat (first|(with_reducible first|exact HB.out|apply below_alloc|apply pw_below_drewN|apply below_drew1)|exact HB.out))) : w.heap.size≤gb363));clear HB;have HB:=n0_;have BK363:=n1_;have GW363:=n2_;have GE363:=n3_;clear n0_ n1_ n2_ n3_;clear hb hbox hg)|((with_reducible refine gate_dst (N:=5) rfl ?_);(try (refine gate_guard (by rfl) ?_;dsimp only));refine box_event ?hg (N:=5) ?hd (cs:=#[.string a2_0,.int .u32 a2_1,.int .i64 a2_2]) (t:=43) ?hr ?_;(case hd=>rfl);(case hg=>rfl);(case hr=>first|(go_simp;done)|(go_simp;rfl));intro gb364 hg w46 hbox hb;have n0_:=Aside0.mk (blk_below (g:=gb363) (o:=.cells #[.int .u32 a0_0,.int .u64 a0_1,.int .i64 a0_2,.string a0_3,.slice A0_4 l0_4.length c0_4] 28 (0,0)) (by (with_reducible repeat (first|refine blk_drewN ?_ _|refine blk_drew ?_|refine blk_alloc ?_ _));exact BK363.out) hb);have n1_:=Aside0.mk (below_step (by repeat (first|(with_reducible first|exact HB.out|apply below_alloc|apply pw_below_drewN|apply below_drew1|refine below_set ?_ GE363.out)|exact HB.out)) hb);have n2_:=Aside0.mk (hbox);have n3_:=Aside0.mk ((by rw [hg];exact (below_size (by repeat (first|(with_reducible first|exact HB.out|apply below_alloc|apply pw_below_drewN|apply below_drew1|refine below_set ?_ GE363.out)|exact HB.out))) : w.heap.size≤gb364));have n4_:=Aside0.mk ((by rw [hg];exact (below_size (by repeat (first|(with_reducible first|exact HB.out|apply below_alloc|apply pw_below_drewN|apply below_drew1|refine below_set ?_ GE363.out)|exact HB.out))) : w.heap.size≤gb364));have n5_:=Aside0.mk ((by rw [hg];exact Nat.ne_of_lt (blk_lt (g:=gb363) (o:=.cells #[.int .u32 a0_0,.int .u64 a0_1,.int .i64 a0_2,.string a0_3,.slice A0_4 l0_4.length c0_4] 28 (0,0)) (by (with_reducible repeat (first|refine blk_drewN ?_ _|refine blk_drew ?_|refine blk_alloc ?_ _));exact BK363.out)) : gb363≠gb364));have n6_:=Aside0.mk ((by rw [hg];exact Nat.ne_of_gt (blk_lt (g:=gb363) (o:=.cells #[.int .u32 a0_0,.int .u64 a0_1,.int .i64 a0_2,.string a0_3,.slice A0_4 l0_4.length c0_4] 28 (0,0)) (by (with_reducible repeat (first|refine blk_drewN ?_ _|refine blk_drew ?_|refine blk_alloc ?_ _));exact BK363.out)) : gb364≠gb363));clear BK363;clear HB;have BK363:=n0_;have HB:=n1_;have BK364:=n2_;have GW364:=n3_;have GE364:=n4_;have NB363_364:=n5_;have NB364_363:=n6_;clear n0_ n1_ n2_ n3_ n4_ n5_ n6_;clear hb hbox hg)|((with_reducible refine gate_dst (N:=6) rfl ?_);(try (refine gate_guard (by rfl) ?_;dsimp only));refine box_event ?hg (N:=6) ?hd (cs:=#[.int .i64 0,.int .i64 0,.string (⟨#[]⟩ : ByteArray),.string (⟨#[]⟩ : ByteArray)]) (t:=38) ?hr ?_;(case hd=>rfl);(case hg=>rfl);(case hr=>first|(go_simp;done)|(go_simp;rfl));intro gb365 hg w47 hbox hb;have n0_:=Aside0.mk (blk_below (g:=gb363) (o:=.cells #[.int .u32 a0_0,.int .u64 a0_1,.int .i64 a0_2,.string a0_3,.slice A0_4 l0_4.length c0_4] 28 (0,0)) (by (with_reducible repeat (first|refine blk_drewN ?_ _|refine blk_drew ?_|refine blk_alloc ?_ _));exact BK363.out) hb);have n1_:=Aside0.mk (blk_below (g:=gb364) (o:=.cells #[.string a2_0,.int .u32 a2_1,.int .i64 a2_2] 43 (0,0)) (by (with_reducible repeat (first|refine blk_drewN ?_ _|refine blk_drew ?_|refine blk_alloc ?_ _));exact BK364.out) hb);have n2_:=Aside0.mk (below_step (by repeat (first|(with_reducible first|exact HB.out|apply below_alloc|apply pw_below_drewN|apply below_drew1|refine below_set ?_ GE363.out|refine below_set ?_ GE364.out)|exact HB.out)) hb);have n3_:=Aside0.mk (hbox);have n4_:=Aside0.mk ((by rw [hg];exact (below_size (by repeat (first|(with_reducible first|exact HB.out|apply below_alloc|apply pw_below_drewN|apply below_drew1|refine below_set ?_ GE363.out|refine below_set ?_ GE364.out)|exact HB.out))) : w.heap.size≤gb365));have n5_:=Aside0.mk ((by rw [hg];exact (below_size (by repeat (first|(with_reducible first|exact HB.out|apply below_alloc|apply pw_below_drewN|apply below_drew1|refine below_set ?_ GE363.out|refine below_set ?_ GE364.out)|exact HB.out))) : w.heap.size≤gb365));have n6_:=Aside0.mk ((by rw [hg];exact Nat.ne_of_lt (blk_lt (g:=gb363) (o:=.cells #[.int .u32 a0_0,.int .u64 a0_1,.int .i64 a0_2,.string a0_3,.slice A0_4 l0_4.length c0_4] 28 (0,0)) (by (with_reducible repeat (first|refine blk_drewN ?_ _|refine blk_drew ?_|refine blk_alloc ?_ _));exact BK363.out)) : gb363≠gb365));have n7_:=Aside0.mk ((by rw [hg];exact Nat.ne_of_gt (blk_lt (g:=gb363) (o:=.cells #[.int .u32 a0_0,.int .u64 a0_1,.int .i64 a0_2,.string a0_3,.slice A0_4 l0_4.length c0_4] 28 (0,0)) (by (with_reducible repeat (first|refine blk_drewN ?_ _|refine blk_drew ?_|refine blk_alloc ?_ _));exact BK363.out)) : gb365≠gb363));have n8_:=Aside0.mk ((by rw [hg];exact Nat.ne_of_lt (blk_lt (g:=gb364) (o:=.cells #[.string a2_0,.int .u32 a2_1,.int .i64 a2_2] 43 (0,0)) (by (with_reducible repeat (first|refine blk_drewN ?_ _|refine blk_drew ?_|refine blk_alloc ?_ _));exact BK364.out)) : gb364≠gb365));have n9_:=Aside0.mk ((by rw [hg];exact Nat.ne_of_gt (blk_lt (g:=gb364) (o:=.cells #[.string a2_0,.int .u32 a2_1,.int .i64 a2_2] 43 (0,0)) (by (with_reducible repeat (first|refine blk_drewN ?_ _|refine blk_drew ?_|refine blk_alloc ?_ _));exact BK364.out)) : gb365≠gb364));clear BK363;clear BK364;clear HB;have BK363:=n0_;have BK364:=n1_;have HB:=n2_;have BK365:=n3_;have GW365:=n4_;have GE365:=n5_;have NB363_365:=n6_;have NB365_363:=n7_;have NB364_365:=n8_;have NB365_364:=n9_;clear n0_ n1_ n2_ n3_ n4_ n5_ n6_ n7_ n8_ n9_;clear hb hbox hg;have hnb48:=NB363_364.out;have hnc48:=NB364_363.out;have hnb49:=NB363_365.out;have hnc49:=NB365_363.out;have hcz50_0 : w47.cell? ⟨gb363,0,none⟩=some (.int .u32 a0_0):=(blk_cell BK363.out 0).trans rfl;have hcz50_1 : w47.cell? ⟨gb363,1,none⟩=some (.int .u64 a0_1):=(blk_cell BK363.out 1).trans rfl;have hcz50_2 : w47.cell? ⟨gb363,2,none⟩=some (.int .i64 a0_2):=(blk_cell BK363.out 2).trans rfl;have hcz50_3 : w47.cell? ⟨gb363,3,none⟩=some (.string a0_3):=(blk_cell BK363.out 3).trans rfl;have hcz50_4 : w47.cell? ⟨gb363,4,none⟩=some (.slice A0_4 l0_4.length c0_4):=(blk_cell BK363.out 4).trans rfl;have hfz50_0:=blk_frozen BK363.out 0;have hfz50_1:=blk_frozen BK363.out 1;have hfz50_2:=blk_frozen BK363.out 2;have hfz50_3:=blk_frozen BK363.out 3;have hfz50_4:=blk_frozen BK363.out 4)|((with_reducible refine gate_callee (f:=28) rfl ?_);refine goesL_ (some 12) rfl rfl Try.func28 (by kernel_rfl) rfl #[.agg #[.int .u32 a0_0,.int .u64 a0_1,.int .i64 a0_2,.string a0_3,.slice A0_4 l0_4.length c0_4]] rfl (by (try simp only [List.map_toArray,List.map_cons,List.map_nil]);first|done|rfl|(simp only [List.length_drop,List.length_take];rfl)) ?_;(with_reducible refine (node_Inner.calls k a0_0 a0_1 a0_2 a0_3 _ _ l0_4 t366 t369 _ ?side1 ?side2 A4.out).mono ?_);(case side1=>repeat (first|exact (Kd.C_below HR0_4.out HB.out)|(with_reducible refine Kd.C_alloc ?_ _)|(with_reducible refine Kd.C_drewN ?_ _)|(with_reducible refine Kd.C_drew ?_)));(case side2=>exact HC0_4.out);rintro e w51 ⟨v367,rfl,ho0,hb⟩;refine ⟨_,rfl,?_⟩;have n0_:=Aside0.mk (Kd.R_lower ho0 (below_size (by repeat (first|(with_reducible first|exact HB.out|apply below_alloc|apply pw_below_drewN|apply below_drew1|refine below_set ?_ GE363.out|refine below_set ?_ GE364.out|refine below_set ?_ GE365.out)|exact HB.out))));have n1_:=Aside0.mk (blk_below (g:=gb363) (o:=.cells #[.int .u32 a0_0,.int .u64 a0_1,.int .i64 a0_2,.string a0_3,.slice A0_4 l0_4.length c0_4] 28 (0,0)) (by (with_reducible repeat (first|refine blk_drewN ?_ _|refine blk_drew ?_|refine blk_alloc ?_ _));exact BK363.out) hb);have n2_:=Aside0.mk (blk_below (g:=gb364) (o:=.cells #[.string a2_0,.int .u32 a2_1,.int .i64 a2_2] 43 (0,0)) (by (with_reducible repeat (first|refine blk_drewN ?_ _|refine blk_drew ?_|refine blk_alloc ?_ _));exact BK364.out) hb);have n3_:=Aside0.mk (blk_below (g:=gb365) (o:=.cells #[.int .i64 0,.int .i64 0,.string (⟨#[]⟩ : ByteArray),.string (⟨#[]⟩ : ByteArray)] 38 (0,0)) (by (with_reducible repeat (first|refine blk_drewN ?_ _|refine blk_drew ?_|refine blk_alloc ?_ _));exact BK365.out) hb);have n4_:=Aside0.mk (below_step (by repeat (first|(with_reducible first|exact HB.out|apply below_alloc|apply pw_below_drewN|apply below_drew1|refine below_set ?_ GE363.out|refine below_set ?_ GE364.out|refine below_set ?_ GE365.out)|exact HB.out)) hb);clear BK363;clear BK364;clear BK365;clear HB;have HO368:=n0_;have BK363:=n1_;have BK364:=n2_;have BK365:=n3_;have HB:=n4_;clear n0_ n1_ n2_ n3_ n4_;(try clear hb);(try clear hb2);(try clear hk);(try clear hi);(try clear ho0);have hnb52:=NB365_364.out;have hnc52:=NB364_365.out;have hcz53_0 : w51.cell? ⟨gb365,0,none⟩=some (.int .i64 0):=(blk_cell BK365.out 0).trans rfl;have hcz53_1 : w51.cell? ⟨gb365,1,none⟩=some (.int .i64 0):=(blk_cell BK365.out 1).trans rfl;have hcz53_2 : w51.cell? ⟨gb365,2,none⟩=some (.string (⟨#[]⟩ : ByteArray)):=(blk_cell BK365.out 2).trans rfl;have hcz53_3 : w51.cell? ⟨gb365,3,none⟩=some (.string (⟨#[]⟩ : ByteArray)):=(blk_cell BK365.out 3).trans rfl;have hfz53_0:=blk_frozen BK365.out 0;have hfz53_1:=blk_frozen BK365.out 1;have hfz53_2:=blk_frozen BK365.out 2;have hfz53_3:=blk_frozen BK365.out 3))
  refine bodyPost_ret (results_ct rfl _ _ gb365 38 #[.int .i64 0,.int .i64 0,.string (⟨#[]⟩ : ByteArray),.string (⟨#[]⟩ : ByteArray)] (0,0) _ rfl (by (with_reducible repeat (first|refine blk_drewN ?_ _|refine blk_drew ?_|refine blk_alloc ?_ _));refine blk_put (cs:=#[.int .i64 0,.int .i64 0,.string (⟨#[]⟩ : ByteArray),.string (⟨#[]⟩ : ByteArray)]) ?_ 3 _ rfl;(with_reducible repeat (first|refine blk_drewN ?_ _|refine blk_drew ?_|refine blk_alloc ?_ _));refine blk_put (cs:=#[.int .i64 0,.int .i64 0,.string (⟨#[]⟩ : ByteArray),.string (⟨#[]⟩ : ByteArray)]) ?_ 2 _ rfl;(with_reducible repeat (first|refine blk_drewN ?_ _|refine blk_drew ?_|refine blk_alloc ?_ _));refine blk_put (cs:=#[.int .i64 0,.int .i64 0,.string (⟨#[]⟩ : ByteArray),.string (⟨#[]⟩ : ByteArray)]) ?_ 1 _ rfl;(with_reducible repeat (first|refine blk_drewN ?_ _|refine blk_drew ?_|refine blk_alloc ?_ _));refine blk_put (cs:=#[.int .i64 0,.int .i64 0,.string (⟨#[]⟩ : ByteArray),.string (⟨#[]⟩ : ByteArray)]) ?_ 0 _ rfl;(with_reducible repeat (first|refine blk_drewN ?_ _|refine blk_drew ?_|refine blk_alloc ?_ _));exact BK365.out) Try.underlying38 rfl (by kernel_rfl)) rfl ?_
  exact ⟨by first|rfl|(simp [errW_none,errW_some] <;> rfl)|(simp [*,errW_none,errW_some] <;> rfl),by repeat (first|(with_reducible first|exact HB.out|apply below_alloc|apply pw_below_drewN|apply below_drew1|refine below_set ?_ GE363.out|refine below_set ?_ GE364.out|refine below_set ?_ GE365.out)|exact HB.out)⟩
end Go.Proofs.Ytfegabikfkmepaa.PNe
end
section
namespace Go.Proofs.Ytfegabikfkmepaa.PNe
open Go.RowKit Go.Proofs.YtfegabikfkmepaaW.PrintWords Go.Proofs.YtfegabikfkmepaaW.PrintLast Go.Proofs.YtfegabikfkmepaaW.PrintMore
attribute [local go_sem] max2_int min2_int max_two min_two max_three min_three max_four min_four
set_option linter.unusedVariables false
set_option linter.unusedSimpArgs false
def cmp_Or_int.l0 : Nat → Int → List Int → Int → Int → Option (Int)
 | 0,_,_,_,_=>none
 | k + 1,x3,x6,x7,x8=>if x8 < x7 then (if 0≤x8 then (if x8 < (x6.length : Int) then (if (rd x6 x8)=x3 then (cmp_Or_int.l0 k x3 x6 x7 (wrap64 (x8 + 1))) else (some (rd x6 x8))) else (none)) else (none)) else (some x3)
def cmp_Or_int.f (k : Nat) (l0 : List Int) : Option (Int):=cmp_Or_int.l0 k 0 l0 (l0.length : Int) 0
theorem cmp_Or_int.mono_l : ∀ k,(∀ y0 y1 y2 y3,LeO (cmp_Or_int.l0 k y0 y1 y2 y3) (cmp_Or_int.l0 (k + 1) y0 y1 y2 y3))
 | 0=>fun _ _ _ _ r h=>by simp [cmp_Or_int.l0] at h
 | k + 1=>by
  have ih0:=cmp_Or_int.mono_l k
  ·intro y0 y1 y2 y3
   unfold cmp_Or_int.l0
   repeat' first
   | (with_reducible exact ih0 _ _ _ _)
   | (with_reducible exact LeO.refl _)
   | (with_reducible exact LeO.none _)
   | (with_reducible refine LeO.ite ?_ ?_)
   | (with_reducible refine LeO.bind ?_ (fun _=>?_))
   | exact ih0 _ _ _ _
   | exact LeO.none _
   | refine LeO.ite ?_ ?_
   | refine LeO.bind ?_ (fun _=>?_)
theorem cmp_Or_int.mono : ∀ a0 k,LeO (cmp_Or_int.f k a0) (cmp_Or_int.f (k + 1) a0):=by
 intro a0 k
 have ih0:=cmp_Or_int.mono_l k
 unfold cmp_Or_int.f
 repeat' first
   | (with_reducible exact ih0 _ _ _ _)
   | (with_reducible exact LeO.refl _)
   | (with_reducible exact LeO.none _)
   | (with_reducible refine LeO.ite ?_ ?_)
   | (with_reducible refine LeO.bind ?_ (fun _=>?_))
   | exact ih0 _ _ _ _
   | exact LeO.none _
   | refine LeO.ite ?_ ?_
   | refine LeO.bind ?_ (fun _=>?_)
set_option maxHeartbeats 8000000 in
set_option maxRecDepth 100000 in
theorem cmp_Or_int.calls (k : Nat) (A0 : Option Addr) (c0 : Nat) (l0 : List Int) (r : Int) (w : World) (hr0 : Kd.C (Kd.int .i64) w A0 l0.length l0) (hc0 : l0.length≤c0) (h : cmp_Or_int.f k l0=some r) :
  Calls Try.prog 56 #[.slice A0 l0.length c0] w fun e w'=>e=.returned (.int .i64 r)∧Drawn0 w w':=by
 have HR0:=Aside0.mk hr0
 have HC0:=Aside0.mk hc0
 clear hr0 hc0
 have H : (cmp_Or_int.l0 k 0 l0 (l0.length : Int) 0)=some r:=h
 clear h
 have H':=Aside0.mk H
 clear H
 go_enter Try.func56,Try.ntmps56
 go_wp2
 go_loopg [8] k (fun kq v8 w'=>∃ (x8_1 : Int),v8=.int .i64 x8_1∧Aside0 (cmp_Or_int.l0 kq 0 l0 (l0.length : Int) x8_1=some r)∧Aside0 (kq≤k)∧Drawn0 w w')
 case atStart=>exact ⟨(0),(by first|rfl|(simp;done)|(simp [*];done)),H',⟨Nat.le_refl _⟩,by repeat (first|exact Drawn0.refl _|apply Drawn0.step)⟩
 case round =>
  clear H'
  obtain ⟨x8_1,rfl,HA,HK1,⟨m1,rfl⟩⟩:=hrel
  cases gk with
  | zero=>exact absurd HA.out (by simp [cmp_Or_int.l0])
  | succ k1 =>
   have H:=HA.out
   clear HA
   simp only [cmp_Or_int.l0] at H
   by_cases c2 : x8_1 < (l0.length : Int)
   ·rw [if_pos c2] at H
    have c2b0 : decide (x8_1 < (l0.length : Int))=true:=decide_eq_true c2
    clear c2
    by_cases c3 : 0≤x8_1
    ·rw [if_pos c3] at H
     have c3b0 : decide (0≤x8_1)=true:=decide_eq_true c3
     clear c3
     by_cases c4 : x8_1 < (l0.length : Int)
     ·rw [if_pos c4] at H
      have c4b0 : decide (x8_1 < (l0.length : Int))=true:=decide_eq_true c4
      clear c4
      by_cases c5 : (rd l0 x8_1)=0
      ·rw [if_pos c5] at H
       have c5b0 : ((rd l0 x8_1) == 0)=true:=beq_iff_eq.mpr c5
       have c5b1 : ((rd l0 x8_1) != 0)=false:=bne_eq_false_iff_eq.mpr c5
       clear c5
       have H':=Aside0.mk H
       clear H
       have p373 : 0≤(x8_1 : Int):=of_decide_eq_true (by first|(with_reducible assumption)|assumption)
       have q373 : x8_1 < (l0.length : Int):=of_decide_eq_true (by first|(with_reducible assumption)|assumption)
       obtain ⟨ad373,e373,hx373_0⟩:=Kd.at_int HR0.out x8_1 p373 q373
       cases e373
       replace p373:=eq_true p373
       replace q373:=eq_true q373
       go_wp2
       go_roundg k1
       case measure=>have:=HK1.out;omega
       case rel=>exact ⟨(wrap64 (x8_1 + 1)),(by first|rfl|(simp;done)|(simp [*];done)),H',⟨by have:=HK1.out;omega⟩,by repeat (first|exact Drawn0.refl _|apply Drawn0.step)⟩
      ·rw [if_neg c5] at H
       have c5b0 : ((rd l0 x8_1) == 0)=false:=beq_eq_false_iff_ne.mpr c5
       have c5b1 : ((rd l0 x8_1) != 0)=true:=bne_iff_ne.mpr c5
       obtain rfl:=Option.some.inj H
       have p373 : 0≤(x8_1 : Int):=of_decide_eq_true (by first|(with_reducible assumption)|assumption)
       have q373 : x8_1 < (l0.length : Int):=of_decide_eq_true (by first|(with_reducible assumption)|assumption)
       obtain ⟨ad373,e373,hx373_0⟩:=Kd.at_int HR0.out x8_1 p373 q373
       cases e373
       replace p373:=eq_true p373
       replace q373:=eq_true q373
       go_wp2
       go_ret
       exact ⟨by first|rfl|(simp;done)|(simp [*];done),by repeat (first|exact Drawn0.refl _|apply Drawn0.step)⟩
     ·rw [if_neg c4] at H
      exact absurd H (by simp)
    ·rw [if_neg c3] at H
     exact absurd H (by simp)
   ·rw [if_neg c2] at H
    have c2b0 : decide (x8_1 < (l0.length : Int))=false:=decide_eq_false c2
    clear c2
    obtain rfl:=Option.some.inj H
    go_wp2
    go_ret
    exact ⟨by first|rfl|(simp;done)|(simp [*];done),by repeat (first|exact Drawn0.refl _|apply Drawn0.step)⟩
end Go.Proofs.Ytfegabikfkmepaa.PNe
end
section
namespace Go.Proofs.Ytfegabikfkmepaa.PNe
open Go.RowKit Go.Proofs.YtfegabikfkmepaaW.PrintWords Go.Proofs.YtfegabikfkmepaaW.PrintLast Go.Proofs.YtfegabikfkmepaaW.PrintMore
attribute [local go_sem] max2_int min2_int max_two min_two max_three min_three max_four min_four
set_option linter.unusedVariables false
set_option linter.unusedSimpArgs false
def cmp_Compare_string.f (a0 : ByteArray) (a1 : ByteArray) : Option (Int):=some (if Op.bytesLess a0.toList a1.toList=true then -1 else if a0.toList=a1.toList then 0 else 1)
set_option maxHeartbeats 8000000 in
set_option maxRecDepth 100000 in
theorem cmp_Compare_string.calls (a0 : ByteArray) (a1 : ByteArray) (r : Int) (w : World) (h : cmp_Compare_string.f a0 a1=some r) :
  Calls Try.prog 57 #[.string a0,.string a1] w fun e w'=>e=.returned (.int .i64 r)∧Drawn0 w w':=by
 unfold cmp_Compare_string.f at h
 obtain rfl:=Option.some.inj h
 exact (cmpS_any a0 a1 w).mono fun e w' ⟨x,y⟩=>⟨x,y ▸ Drawn0.refl _⟩
end Go.Proofs.Ytfegabikfkmepaa.PNe
end
section
namespace Go.Proofs.Ytfegabikfkmepaa.PNe
open Go.RowKit Go.Proofs.YtfegabikfkmepaaW.PrintWords Go.Proofs.YtfegabikfkmepaaW.PrintLast Go.Proofs.YtfegabikfkmepaaW.PrintMore
attribute [local go_sem] max2_int min2_int max_two min_two max_three min_three max_four min_four
set_option linter.unusedVariables false
set_option linter.unusedSimpArgs false
def api_Page_67.f (a0 : Int) : Option (Bool):=some (a0 != a0)
set_option maxHeartbeats 8000000 in
set_option maxRecDepth 100000 in
theorem api_Page_67.calls (a0 : Int) (r : Bool) (w : World) (h : api_Page_67.f a0=some r) :
  Calls Try.prog 67 #[.int .u32 a0] w fun e w'=>e=.returned (.bool r)∧Drawn0 w w':=by
 have H : (some (a0 != a0))=some r:=h
 clear h
 obtain rfl:=Option.some.inj H
 go_enter Try.func67,Try.ntmps67
 go_wp2
 go_ret
 exact ⟨by first|rfl|(simp;done)|(simp [*];done),by repeat (first|exact Drawn0.refl _|apply Drawn0.step)⟩
end Go.Proofs.Ytfegabikfkmepaa.PNe
end
section
namespace Go.Proofs.Ytfegabikfkmepaa.PNe
open Go.RowKit Go.Proofs.YtfegabikfkmepaaW.PrintWords Go.Proofs.YtfegabikfkmepaaW.PrintLast Go.Proofs.YtfegabikfkmepaaW.PrintMore
attribute [local go_sem] max2_int min2_int max_two min_two max_three min_three max_four min_four
set_option linter.unusedVariables false
set_option linter.unusedSimpArgs false
def api_Page_58.f (a0 : Int) (a1 : Int) : Option (Int):=(api_Page_67.f a0).bind fun t374=>((api_Page_67.f a1).bind fun t375=>(if t374=true then (if t375=true then (some 0) else (some (-1))) else (if t375=true then (some 1) else (if a0 < a1 then (some (-1)) else (if a0 > a1 then (some 1) else (some 0))))))
set_option maxHeartbeats 8000000 in
set_option maxRecDepth 100000 in
theorem api_Page_58.calls (a0 : Int) (a1 : Int) (r : Int) (w : World) (h : api_Page_58.f a0 a1=some r) :
  Calls Try.prog 58 #[.int .u32 a0,.int .u32 a1] w fun e w'=>e=.returned (.int .i64 r)∧Drawn0 w w':=by
 have H : ((api_Page_67.f a0).bind fun t374=>((api_Page_67.f a1).bind fun t375=>(if t374=true then (if t375=true then (some 0) else (some (-1))) else (if t375=true then (some 1) else (if a0 < a1 then (some (-1)) else (if a0 > a1 then (some 1) else (some 0)))))))=some r:=h
 clear h
 replace H:=Option.bind_eq_some_iff.mp H
 obtain ⟨t374,A30,H⟩:=H
 replace H : ((api_Page_67.f a1).bind fun t375=>(if t374=true then (if t375=true then (some 0) else (some (-1))) else (if t375=true then (some 1) else (if a0 < a1 then (some (-1)) else (if a0 > a1 then (some 1) else (some 0))))))=some r:=H
 have A3:=Aside0.mk A30
 clear A30
 replace H:=Option.bind_eq_some_iff.mp H
 obtain ⟨t375,A40,H⟩:=H
 replace H : (if t374=true then (if t375=true then (some 0) else (some (-1))) else (if t375=true then (some 1) else (if a0 < a1 then (some (-1)) else (if a0 > a1 then (some 1) else (some 0)))))=some r:=H
 have A4:=Aside0.mk A40
 clear A40
 by_cases c5 : t374=true
 ·subst c5
  have H1 : (if t375=true then (some 0) else (some (-1)))=some r:=by rw [if_pos rfl] at H;exact H
  clear H
  have H:=H1
  clear H1
  by_cases c6 : t375=true
  ·subst c6
   have H1 : (some 0)=some r:=by rw [if_pos rfl] at H;exact H
   clear H
   have H:=H1
   clear H1
   obtain rfl:=Option.some.inj H
   go_enter Try.func58,Try.ntmps58
   go_wp2_with (first|((with_reducible refine gate_callee (f:=67) rfl ?_);refine goesL_ (some 8) rfl rfl Try.func67 (by kernel_rfl) rfl #[.int .u32 a0] rfl (by (try simp only [List.map_toArray,List.map_cons,List.map_nil]);first|done|rfl|(simp only [List.length_drop,List.length_take];rfl)) ?_;(with_reducible refine (api_Page_67.calls a0 true _ A3.out).mono ?_);rintro e w' ⟨rfl,⟨nd,rfl⟩⟩;refine ⟨_,rfl,?_⟩)|((with_reducible refine gate_callee (f:=67) rfl ?_);refine goesL_ (some 10) rfl rfl Try.func67 (by kernel_rfl) rfl #[.int .u32 a1] rfl (by (try simp only [List.map_toArray,List.map_cons,List.map_nil]);first|done|rfl|(simp only [List.length_drop,List.length_take];rfl)) ?_;(with_reducible refine (api_Page_67.calls a1 true _ A4.out).mono ?_);rintro e w' ⟨rfl,⟨nd,rfl⟩⟩;refine ⟨_,rfl,?_⟩))
   go_ret
   exact ⟨by first|rfl|(simp;done)|(simp [*];done),by repeat (first|exact Drawn0.refl _|apply Drawn0.step)⟩
  ·replace c6:=Bool.eq_false_iff.mpr c6
   subst c6
   have H1 : (some (-1))=some r:=by rw [if_neg (show ¬ (false=true) by decide)] at H;exact H
   clear H
   have H:=H1
   clear H1
   obtain rfl:=Option.some.inj H
   go_enter Try.func58,Try.ntmps58
   go_wp2_with (first|((with_reducible refine gate_callee (f:=67) rfl ?_);refine goesL_ (some 8) rfl rfl Try.func67 (by kernel_rfl) rfl #[.int .u32 a0] rfl (by (try simp only [List.map_toArray,List.map_cons,List.map_nil]);first|done|rfl|(simp only [List.length_drop,List.length_take];rfl)) ?_;(with_reducible refine (api_Page_67.calls a0 true _ A3.out).mono ?_);rintro e w' ⟨rfl,⟨nd,rfl⟩⟩;refine ⟨_,rfl,?_⟩)|((with_reducible refine gate_callee (f:=67) rfl ?_);refine goesL_ (some 10) rfl rfl Try.func67 (by kernel_rfl) rfl #[.int .u32 a1] rfl (by (try simp only [List.map_toArray,List.map_cons,List.map_nil]);first|done|rfl|(simp only [List.length_drop,List.length_take];rfl)) ?_;(with_reducible refine (api_Page_67.calls a1 false _ A4.out).mono ?_);rintro e w' ⟨rfl,⟨nd,rfl⟩⟩;refine ⟨_,rfl,?_⟩))
   go_ret
   exact ⟨by first|rfl|(simp;done)|(simp [*];done),by repeat (first|exact Drawn0.refl _|apply Drawn0.step)⟩
 ·replace c5:=Bool.eq_false_iff.mpr c5
  subst c5
  have H1 : (if t375=true then (some 1) else (if a0 < a1 then (some (-1)) else (if a0 > a1 then (some 1) else (some 0))))=some r:=by rw [if_neg (show ¬ (false=true) by decide)] at H;exact H
  clear H
  have H:=H1
  clear H1
  by_cases c7 : t375=true
  ·subst c7
   have H1 : (some 1)=some r:=by rw [if_pos rfl] at H;exact H
   clear H
   have H:=H1
   clear H1
   obtain rfl:=Option.some.inj H
   go_enter Try.func58,Try.ntmps58
   go_wp2_with (first|((with_reducible refine gate_callee (f:=67) rfl ?_);refine goesL_ (some 8) rfl rfl Try.func67 (by kernel_rfl) rfl #[.int .u32 a0] rfl (by (try simp only [List.map_toArray,List.map_cons,List.map_nil]);first|done|rfl|(simp only [List.length_drop,List.length_take];rfl)) ?_;(with_reducible refine (api_Page_67.calls a0 false _ A3.out).mono ?_);rintro e w' ⟨rfl,⟨nd,rfl⟩⟩;refine ⟨_,rfl,?_⟩)|((with_reducible refine gate_callee (f:=67) rfl ?_);refine goesL_ (some 10) rfl rfl Try.func67 (by kernel_rfl) rfl #[.int .u32 a1] rfl (by (try simp only [List.map_toArray,List.map_cons,List.map_nil]);first|done|rfl|(simp only [List.length_drop,List.length_take];rfl)) ?_;(with_reducible refine (api_Page_67.calls a1 true _ A4.out).mono ?_);rintro e w' ⟨rfl,⟨nd,rfl⟩⟩;refine ⟨_,rfl,?_⟩))
   go_ret
   exact ⟨by first|rfl|(simp;done)|(simp [*];done),by repeat (first|exact Drawn0.refl _|apply Drawn0.step)⟩
  ·replace c7:=Bool.eq_false_iff.mpr c7
   subst c7
   have H1 : (if a0 < a1 then (some (-1)) else (if a0 > a1 then (some 1) else (some 0)))=some r:=by rw [if_neg (show ¬ (false=true) by decide)] at H;exact H
   clear H
   have H:=H1
   clear H1
   by_cases c8 : a0 < a1
   ·rw [if_pos c8] at H
    have c8b0 : decide (a0 < a1)=true:=decide_eq_true c8
    clear c8
    obtain rfl:=Option.some.inj H
    go_enter Try.func58,Try.ntmps58
    go_wp2_with (first|((with_reducible refine gate_callee (f:=67) rfl ?_);refine goesL_ (some 8) rfl rfl Try.func67 (by kernel_rfl) rfl #[.int .u32 a0] rfl (by (try simp only [List.map_toArray,List.map_cons,List.map_nil]);first|done|rfl|(simp only [List.length_drop,List.length_take];rfl)) ?_;(with_reducible refine (api_Page_67.calls a0 false _ A3.out).mono ?_);rintro e w' ⟨rfl,⟨nd,rfl⟩⟩;refine ⟨_,rfl,?_⟩)|((with_reducible refine gate_callee (f:=67) rfl ?_);refine goesL_ (some 10) rfl rfl Try.func67 (by kernel_rfl) rfl #[.int .u32 a1] rfl (by (try simp only [List.map_toArray,List.map_cons,List.map_nil]);first|done|rfl|(simp only [List.length_drop,List.length_take];rfl)) ?_;(with_reducible refine (api_Page_67.calls a1 false _ A4.out).mono ?_);rintro e w' ⟨rfl,⟨nd,rfl⟩⟩;refine ⟨_,rfl,?_⟩))
    go_ret
    exact ⟨by first|rfl|(simp;done)|(simp [*];done),by repeat (first|exact Drawn0.refl _|apply Drawn0.step)⟩
   ·rw [if_neg c8] at H
    have c8b0 : decide (a0 < a1)=false:=decide_eq_false c8
    clear c8
    by_cases c9 : a0 > a1
    ·rw [if_pos c9] at H
     have c9b0 : decide (a1 < a0)=true:=decide_eq_true c9
     clear c9
     obtain rfl:=Option.some.inj H
     go_enter Try.func58,Try.ntmps58
     go_wp2_with (first|((with_reducible refine gate_callee (f:=67) rfl ?_);refine goesL_ (some 8) rfl rfl Try.func67 (by kernel_rfl) rfl #[.int .u32 a0] rfl (by (try simp only [List.map_toArray,List.map_cons,List.map_nil]);first|done|rfl|(simp only [List.length_drop,List.length_take];rfl)) ?_;(with_reducible refine (api_Page_67.calls a0 false _ A3.out).mono ?_);rintro e w' ⟨rfl,⟨nd,rfl⟩⟩;refine ⟨_,rfl,?_⟩)|((with_reducible refine gate_callee (f:=67) rfl ?_);refine goesL_ (some 10) rfl rfl Try.func67 (by kernel_rfl) rfl #[.int .u32 a1] rfl (by (try simp only [List.map_toArray,List.map_cons,List.map_nil]);first|done|rfl|(simp only [List.length_drop,List.length_take];rfl)) ?_;(with_reducible refine (api_Page_67.calls a1 false _ A4.out).mono ?_);rintro e w' ⟨rfl,⟨nd,rfl⟩⟩;refine ⟨_,rfl,?_⟩))
     go_ret
     exact ⟨by first|rfl|(simp;done)|(simp [*];done),by repeat (first|exact Drawn0.refl _|apply Drawn0.step)⟩
    ·rw [if_neg c9] at H
     have c9b0 : decide (a1 < a0)=false:=decide_eq_false c9
     clear c9
     obtain rfl:=Option.some.inj H
     go_enter Try.func58,Try.ntmps58
     go_wp2_with (first|((with_reducible refine gate_callee (f:=67) rfl ?_);refine goesL_ (some 8) rfl rfl Try.func67 (by kernel_rfl) rfl #[.int .u32 a0] rfl (by (try simp only [List.map_toArray,List.map_cons,List.map_nil]);first|done|rfl|(simp only [List.length_drop,List.length_take];rfl)) ?_;(with_reducible refine (api_Page_67.calls a0 false _ A3.out).mono ?_);rintro e w' ⟨rfl,⟨nd,rfl⟩⟩;refine ⟨_,rfl,?_⟩)|((with_reducible refine gate_callee (f:=67) rfl ?_);refine goesL_ (some 10) rfl rfl Try.func67 (by kernel_rfl) rfl #[.int .u32 a1] rfl (by (try simp only [List.map_toArray,List.map_cons,List.map_nil]);first|done|rfl|(simp only [List.length_drop,List.length_take];rfl)) ?_;(with_reducible refine (api_Page_67.calls a1 false _ A4.out).mono ?_);rintro e w' ⟨rfl,⟨nd,rfl⟩⟩;refine ⟨_,rfl,?_⟩))
     go_ret
     exact ⟨by first|rfl|(simp;done)|(simp [*];done),by repeat (first|exact Drawn0.refl _|apply Drawn0.step)⟩
end Go.Proofs.Ytfegabikfkmepaa.PNe
end
section
namespace Go.Proofs.Ytfegabikfkmepaa.PNe
open Go.RowKit Go.Proofs.YtfegabikfkmepaaW.PrintWords Go.Proofs.YtfegabikfkmepaaW.PrintLast Go.Proofs.YtfegabikfkmepaaW.PrintMore
attribute [local go_sem] max2_int min2_int max_two min_two max_three min_three max_four min_four
set_option linter.unusedVariables false
set_option linter.unusedSimpArgs false
def cmp_isNaN_int.f (a0 : Int) : Option (Bool):=some (a0 != a0)
set_option maxHeartbeats 8000000 in
set_option maxRecDepth 100000 in
theorem cmp_isNaN_int.calls (a0 : Int) (r : Bool) (w : World) (h : cmp_isNaN_int.f a0=some r) :
  Calls Try.prog 68 #[.int .i64 a0] w fun e w'=>e=.returned (.bool r)∧Drawn0 w w':=by
 have H : (some (a0 != a0))=some r:=h
 clear h
 obtain rfl:=Option.some.inj H
 go_enter Try.func68,Try.ntmps68
 go_wp2
 go_ret
 exact ⟨by first|rfl|(simp;done)|(simp [*];done),by repeat (first|exact Drawn0.refl _|apply Drawn0.step)⟩
end Go.Proofs.Ytfegabikfkmepaa.PNe
end
section
namespace Go.Proofs.Ytfegabikfkmepaa.PNe
open Go.RowKit Go.Proofs.YtfegabikfkmepaaW.PrintWords Go.Proofs.YtfegabikfkmepaaW.PrintLast Go.Proofs.YtfegabikfkmepaaW.PrintMore
attribute [local go_sem] max2_int min2_int max_two min_two max_three min_three max_four min_four
set_option linter.unusedVariables false
set_option linter.unusedSimpArgs false
def cmp_Compare_int.f (a0 : Int) (a1 : Int) : Option (Int):=(cmp_isNaN_int.f a0).bind fun t376=>((cmp_isNaN_int.f a1).bind fun t377=>(if t376=true then (if t377=true then (some 0) else (some (-1))) else (if t377=true then (some 1) else (if a0 < a1 then (some (-1)) else (if a0 > a1 then (some 1) else (some 0))))))
set_option maxHeartbeats 8000000 in
set_option maxRecDepth 100000 in
theorem cmp_Compare_int.calls (a0 : Int) (a1 : Int) (r : Int) (w : World) (h : cmp_Compare_int.f a0 a1=some r) :
  Calls Try.prog 59 #[.int .i64 a0,.int .i64 a1] w fun e w'=>e=.returned (.int .i64 r)∧Drawn0 w w':=by
 have H : ((cmp_isNaN_int.f a0).bind fun t376=>((cmp_isNaN_int.f a1).bind fun t377=>(if t376=true then (if t377=true then (some 0) else (some (-1))) else (if t377=true then (some 1) else (if a0 < a1 then (some (-1)) else (if a0 > a1 then (some 1) else (some 0)))))))=some r:=h
 clear h
 replace H:=Option.bind_eq_some_iff.mp H
 obtain ⟨t376,A30,H⟩:=H
 replace H : ((cmp_isNaN_int.f a1).bind fun t377=>(if t376=true then (if t377=true then (some 0) else (some (-1))) else (if t377=true then (some 1) else (if a0 < a1 then (some (-1)) else (if a0 > a1 then (some 1) else (some 0))))))=some r:=H
 have A3:=Aside0.mk A30
 clear A30
 replace H:=Option.bind_eq_some_iff.mp H
 obtain ⟨t377,A40,H⟩:=H
 replace H : (if t376=true then (if t377=true then (some 0) else (some (-1))) else (if t377=true then (some 1) else (if a0 < a1 then (some (-1)) else (if a0 > a1 then (some 1) else (some 0)))))=some r:=H
 have A4:=Aside0.mk A40
 clear A40
 by_cases c5 : t376=true
 ·subst c5
  have H1 : (if t377=true then (some 0) else (some (-1)))=some r:=by rw [if_pos rfl] at H;exact H
  clear H
  have H:=H1
  clear H1
  by_cases c6 : t377=true
  ·subst c6
   have H1 : (some 0)=some r:=by rw [if_pos rfl] at H;exact H
   clear H
   have H:=H1
   clear H1
   obtain rfl:=Option.some.inj H
   go_enter Try.func59,Try.ntmps59
   go_wp2_with (first|((with_reducible refine gate_callee (f:=68) rfl ?_);refine goesL_ (some 8) rfl rfl Try.func68 (by kernel_rfl) rfl #[.int .i64 a0] rfl (by (try simp only [List.map_toArray,List.map_cons,List.map_nil]);first|done|rfl|(simp only [List.length_drop,List.length_take];rfl)) ?_;(with_reducible refine (cmp_isNaN_int.calls a0 true _ A3.out).mono ?_);rintro e w' ⟨rfl,⟨nd,rfl⟩⟩;refine ⟨_,rfl,?_⟩)|((with_reducible refine gate_callee (f:=68) rfl ?_);refine goesL_ (some 10) rfl rfl Try.func68 (by kernel_rfl) rfl #[.int .i64 a1] rfl (by (try simp only [List.map_toArray,List.map_cons,List.map_nil]);first|done|rfl|(simp only [List.length_drop,List.length_take];rfl)) ?_;(with_reducible refine (cmp_isNaN_int.calls a1 true _ A4.out).mono ?_);rintro e w' ⟨rfl,⟨nd,rfl⟩⟩;refine ⟨_,rfl,?_⟩))
   go_ret
   exact ⟨by first|rfl|(simp;done)|(simp [*];done),by repeat (first|exact Drawn0.refl _|apply Drawn0.step)⟩
  ·replace c6:=Bool.eq_false_iff.mpr c6
   subst c6
   have H1 : (some (-1))=some r:=by rw [if_neg (show ¬ (false=true) by decide)] at H;exact H
   clear H
   have H:=H1
   clear H1
   obtain rfl:=Option.some.inj H
   go_enter Try.func59,Try.ntmps59
   go_wp2_with (first|((with_reducible refine gate_callee (f:=68) rfl ?_);refine goesL_ (some 8) rfl rfl Try.func68 (by kernel_rfl) rfl #[.int .i64 a0] rfl (by (try simp only [List.map_toArray,List.map_cons,List.map_nil]);first|done|rfl|(simp only [List.length_drop,List.length_take];rfl)) ?_;(with_reducible refine (cmp_isNaN_int.calls a0 true _ A3.out).mono ?_);rintro e w' ⟨rfl,⟨nd,rfl⟩⟩;refine ⟨_,rfl,?_⟩)|((with_reducible refine gate_callee (f:=68) rfl ?_);refine goesL_ (some 10) rfl rfl Try.func68 (by kernel_rfl) rfl #[.int .i64 a1] rfl (by (try simp only [List.map_toArray,List.map_cons,List.map_nil]);first|done|rfl|(simp only [List.length_drop,List.length_take];rfl)) ?_;(with_reducible refine (cmp_isNaN_int.calls a1 false _ A4.out).mono ?_);rintro e w' ⟨rfl,⟨nd,rfl⟩⟩;refine ⟨_,rfl,?_⟩))
   go_ret
   exact ⟨by first|rfl|(simp;done)|(simp [*];done),by repeat (first|exact Drawn0.refl _|apply Drawn0.step)⟩
 ·replace c5:=Bool.eq_false_iff.mpr c5
  subst c5
  have H1 : (if t377=true then (some 1) else (if a0 < a1 then (some (-1)) else (if a0 > a1 then (some 1) else (some 0))))=some r:=by rw [if_neg (show ¬ (false=true) by decide)] at H;exact H
  clear H
  have H:=H1
  clear H1
  by_cases c7 : t377=true
  ·subst c7
   have H1 : (some 1)=some r:=by rw [if_pos rfl] at H;exact H
   clear H
   have H:=H1
   clear H1
   obtain rfl:=Option.some.inj H
   go_enter Try.func59,Try.ntmps59
   go_wp2_with (first|((with_reducible refine gate_callee (f:=68) rfl ?_);refine goesL_ (some 8) rfl rfl Try.func68 (by kernel_rfl) rfl #[.int .i64 a0] rfl (by (try simp only [List.map_toArray,List.map_cons,List.map_nil]);first|done|rfl|(simp only [List.length_drop,List.length_take];rfl)) ?_;(with_reducible refine (cmp_isNaN_int.calls a0 false _ A3.out).mono ?_);rintro e w' ⟨rfl,⟨nd,rfl⟩⟩;refine ⟨_,rfl,?_⟩)|((with_reducible refine gate_callee (f:=68) rfl ?_);refine goesL_ (some 10) rfl rfl Try.func68 (by kernel_rfl) rfl #[.int .i64 a1] rfl (by (try simp only [List.map_toArray,List.map_cons,List.map_nil]);first|done|rfl|(simp only [List.length_drop,List.length_take];rfl)) ?_;(with_reducible refine (cmp_isNaN_int.calls a1 true _ A4.out).mono ?_);rintro e w' ⟨rfl,⟨nd,rfl⟩⟩;refine ⟨_,rfl,?_⟩))
   go_ret
   exact ⟨by first|rfl|(simp;done)|(simp [*];done),by repeat (first|exact Drawn0.refl _|apply Drawn0.step)⟩
  ·replace c7:=Bool.eq_false_iff.mpr c7
   subst c7
   have H1 : (if a0 < a1 then (some (-1)) else (if a0 > a1 then (some 1) else (some 0)))=some r:=by rw [if_neg (show ¬ (false=true) by decide)] at H;exact H
   clear H
   have H:=H1
   clear H1
   by_cases c8 : a0 < a1
   ·rw [if_pos c8] at H
    have c8b0 : decide (a0 < a1)=true:=decide_eq_true c8
    clear c8
    obtain rfl:=Option.some.inj H
    go_enter Try.func59,Try.ntmps59
    go_wp2_with (first|((with_reducible refine gate_callee (f:=68) rfl ?_);refine goesL_ (some 8) rfl rfl Try.func68 (by kernel_rfl) rfl #[.int .i64 a0] rfl (by (try simp only [List.map_toArray,List.map_cons,List.map_nil]);first|done|rfl|(simp only [List.length_drop,List.length_take];rfl)) ?_;(with_reducible refine (cmp_isNaN_int.calls a0 false _ A3.out).mono ?_);rintro e w' ⟨rfl,⟨nd,rfl⟩⟩;refine ⟨_,rfl,?_⟩)|((with_reducible refine gate_callee (f:=68) rfl ?_);refine goesL_ (some 10) rfl rfl Try.func68 (by kernel_rfl) rfl #[.int .i64 a1] rfl (by (try simp only [List.map_toArray,List.map_cons,List.map_nil]);first|done|rfl|(simp only [List.length_drop,List.length_take];rfl)) ?_;(with_reducible refine (cmp_isNaN_int.calls a1 false _ A4.out).mono ?_);rintro e w' ⟨rfl,⟨nd,rfl⟩⟩;refine ⟨_,rfl,?_⟩))
    go_ret
    exact ⟨by first|rfl|(simp;done)|(simp [*];done),by repeat (first|exact Drawn0.refl _|apply Drawn0.step)⟩
   ·rw [if_neg c8] at H
    have c8b0 : decide (a0 < a1)=false:=decide_eq_false c8
    clear c8
    by_cases c9 : a0 > a1
    ·rw [if_pos c9] at H
     have c9b0 : decide (a1 < a0)=true:=decide_eq_true c9
     clear c9
     obtain rfl:=Option.some.inj H
     go_enter Try.func59,Try.ntmps59
     go_wp2_with (first|((with_reducible refine gate_callee (f:=68) rfl ?_);refine goesL_ (some 8) rfl rfl Try.func68 (by kernel_rfl) rfl #[.int .i64 a0] rfl (by (try simp only [List.map_toArray,List.map_cons,List.map_nil]);first|done|rfl|(simp only [List.length_drop,List.length_take];rfl)) ?_;(with_reducible refine (cmp_isNaN_int.calls a0 false _ A3.out).mono ?_);rintro e w' ⟨rfl,⟨nd,rfl⟩⟩;refine ⟨_,rfl,?_⟩)|((with_reducible refine gate_callee (f:=68) rfl ?_);refine goesL_ (some 10) rfl rfl Try.func68 (by kernel_rfl) rfl #[.int .i64 a1] rfl (by (try simp only [List.map_toArray,List.map_cons,List.map_nil]);first|done|rfl|(simp only [List.length_drop,List.length_take];rfl)) ?_;(with_reducible refine (cmp_isNaN_int.calls a1 false _ A4.out).mono ?_);rintro e w' ⟨rfl,⟨nd,rfl⟩⟩;refine ⟨_,rfl,?_⟩))
     go_ret
     exact ⟨by first|rfl|(simp;done)|(simp [*];done),by repeat (first|exact Drawn0.refl _|apply Drawn0.step)⟩
    ·rw [if_neg c9] at H
     have c9b0 : decide (a1 < a0)=false:=decide_eq_false c9
     clear c9
     obtain rfl:=Option.some.inj H
     go_enter Try.func59,Try.ntmps59
     go_wp2_with (first|((with_reducible refine gate_callee (f:=68) rfl ?_);refine goesL_ (some 8) rfl rfl Try.func68 (by kernel_rfl) rfl #[.int .i64 a0] rfl (by (try simp only [List.map_toArray,List.map_cons,List.map_nil]);first|done|rfl|(simp only [List.length_drop,List.length_take];rfl)) ?_;(with_reducible refine (cmp_isNaN_int.calls a0 false _ A3.out).mono ?_);rintro e w' ⟨rfl,⟨nd,rfl⟩⟩;refine ⟨_,rfl,?_⟩)|((with_reducible refine gate_callee (f:=68) rfl ?_);refine goesL_ (some 10) rfl rfl Try.func68 (by kernel_rfl) rfl #[.int .i64 a1] rfl (by (try simp only [List.map_toArray,List.map_cons,List.map_nil]);first|done|rfl|(simp only [List.length_drop,List.length_take];rfl)) ?_;(with_reducible refine (cmp_isNaN_int.calls a1 false _ A4.out).mono ?_);rintro e w' ⟨rfl,⟨nd,rfl⟩⟩;refine ⟨_,rfl,?_⟩))
     go_ret
     exact ⟨by first|rfl|(simp;done)|(simp [*];done),by repeat (first|exact Drawn0.refl _|apply Drawn0.step)⟩
end Go.Proofs.Ytfegabikfkmepaa.PNe
end
section
namespace Go.Proofs.Ytfegabikfkmepaa.PNe
open Go.RowKit Go.Proofs.YtfegabikfkmepaaW.PrintWords Go.Proofs.YtfegabikfkmepaaW.PrintLast Go.Proofs.YtfegabikfkmepaaW.PrintMore
attribute [local go_sem] max2_int min2_int max_two min_two max_three min_three max_four min_four
set_option linter.unusedVariables false
set_option linter.unusedSimpArgs false
def key_Entries.f (k : Nat) (a0_0 : ByteArray) (a0_1 : Int) (a0_2 : Int) (a1_0 : ByteArray) (a1_1 : Int) (a1_2 : Int) : Option (Int):=(cmp_Compare_string.f a0_0 a1_0).bind fun t380=>((api_Page_58.f a0_1 a1_1).bind fun t381=>((cmp_Compare_int.f a0_2 a1_2).bind fun t382=>((cmp_Or_int.f k (([t380,t381,t382] : List Int))).bind fun t386=>(some t386))))
theorem key_Entries.mono : ∀ a0 a1 a2 a3 a4 a5 k,LeO (key_Entries.f k a0 a1 a2 a3 a4 a5) (key_Entries.f (k + 1) a0 a1 a2 a3 a4 a5):=by
 intro a0 a1 a2 a3 a4 a5 k
 unfold key_Entries.f
 repeat' first
   | (with_reducible exact cmp_Or_int.mono _ _)
   | (with_reducible exact LeO.refl _)
   | (with_reducible exact LeO.none _)
   | (with_reducible refine LeO.ite ?_ ?_)
   | (with_reducible refine LeO.bind ?_ (fun _=>?_))
   | exact cmp_Or_int.mono _ _
   | exact LeO.none _
   | refine LeO.ite ?_ ?_
   | refine LeO.bind ?_ (fun _=>?_)
def key_Entries.T1 : Bool × List (List Nat × List Nat):=(true,[([],[]),([0],[0]),([],[]),([2],[2]),([1,3],[1,3]),([],[]),([5],[5]),([6],[6]),([],[]),([8],[8]),([9],[9]),([7,10,4],[7,10]),([],[]),([12],[12]),([13],[13]),([],[]),([15],[15]),([16],[16]),([14,17,11],[14,17]),([4,11,18],[4,11,18]),([19,18],[19]),([20,20,0,1,2,3,4,5,6,7,8,9,10,11,12,13,14,15,16,17,18,19,20],[20])])
def key_Entries.B1 : List Nat:=[0,1,0,4,15,0,32,96,0,256,768,2047,0,4096,12288,0,32768,98304,262143,524287,1048575,2097151]
theorem key_Entries.tab1 : rtab .any (opsOf Try.f42 1)=key_Entries.T1:=by kernel_rfl
theorem key_Entries.bits1 : waitsOk key_Entries.T1.2 key_Entries.B1=true:=by kernel_rfl
set_option maxHeartbeats 8000000 in
set_option maxRecDepth 100000 in
theorem key_Entries.calls (k : Nat) (a0_0 : ByteArray) (a0_1 : Int) (a0_2 : Int) (a1_0 : ByteArray) (a1_1 : Int) (a1_2 : Int) (r : Int) (w : World) (h : key_Entries.f k a0_0 a0_1 a0_2 a1_0 a1_1 a1_2=some r) :
  Calls Try.prog 42 #[.agg #[.string a0_0,.int .u32 a0_1,.int .i64 a0_2],.agg #[.string a1_0,.int .u32 a1_1,.int .i64 a1_2]] w fun e w'=>e=.returned (.int .i64 r)∧Below w.heap.size w w':=by
 have hu43:=Try.underlying43
 have HB:=Aside0.mk (Below.refl w.heap.size w)
 have H : ((cmp_Compare_string.f a0_0 a1_0).bind fun t380=>((api_Page_58.f a0_1 a1_1).bind fun t381=>((cmp_Compare_int.f a0_2 a1_2).bind fun t382=>((cmp_Or_int.f k (([t380,t381,t382] : List Int))).bind fun t386=>(some t386)))))=some r:=h
 clear h
 replace H:=Option.bind_eq_some_iff.mp H
 obtain ⟨t380,A30,H⟩:=H
 replace H : ((api_Page_58.f a0_1 a1_1).bind fun t381=>((cmp_Compare_int.f a0_2 a1_2).bind fun t382=>((cmp_Or_int.f k (([t380,t381,t382] : List Int))).bind fun t386=>(some t386))))=some r:=H
 have A3:=Aside0.mk A30
 clear A30
 replace H:=Option.bind_eq_some_iff.mp H
 obtain ⟨t381,A40,H⟩:=H
 replace H : ((cmp_Compare_int.f a0_2 a1_2).bind fun t382=>((cmp_Or_int.f k (([t380,t381,t382] : List Int))).bind fun t386=>(some t386)))=some r:=H
 have A4:=Aside0.mk A40
 clear A40
 replace H:=Option.bind_eq_some_iff.mp H
 obtain ⟨t382,A50,H⟩:=H
 replace H : ((cmp_Or_int.f k (([t380,t381,t382] : List Int))).bind fun t386=>(some t386))=some r:=H
 have A5:=Aside0.mk A50
 clear A50
 obtain ⟨y383,hy383⟩ : ∃ y_ : List Int,y_=(([t380,t381,t382] : List Int)):=⟨_,rfl⟩
 replace H : ((cmp_Or_int.f k y383).bind fun t386=>(some t386))=some r:=by first|(rw [hy383];with_reducible exact H)|(have H2_:=(Option.bind_some _ _).symm.trans H;rw [hy383];with_reducible exact H2_)|(have H2_:=(Option.bind_some _ _).symm.trans H;with_reducible exact H2_)|with_reducible exact H|(rw [hy383];exact H)|exact H
 have Ny383:=Aside0.mk hy383
 clear hy383
 replace H:=Option.bind_eq_some_iff.mp H
 obtain ⟨t386,A60,H⟩:=H
 replace H : (some t386)=some r:=H
 have A6:=Aside0.mk A60
 clear A60
 obtain rfl:=Option.some.inj H
 go_enter Try.func42,Try.ntmps42
 try go_wp2_with (first|((with_reducible refine gate_dst (N:=2) rfl ?_);refine box_event ?hg (N:=2) ?hd (cs:=#[.string a0_0,.int .u32 a0_1,.int .i64 a0_2]) (t:=43) ?hr ?_;(case hd=>rfl);(case hg=>rfl);(case hr=>first|(go_simp;done)|(go_simp;rfl));intro gb378 hg w7 hbox hb;have n0_:=Aside0.mk (below_step (by repeat (first|(with_reducible first|exact HB.out|apply below_alloc|apply pw_below_drewN|apply below_drew1)|exact HB.out)) hb);have n1_:=Aside0.mk (hbox);have n2_:=Aside0.mk ((by rw [hg];exact (below_size (by repeat (first|(with_reducible first|exact HB.out|apply below_alloc|apply pw_below_drewN|apply below_drew1)|exact HB.out))) : w.heap.size≤gb378));have n3_:=Aside0.mk ((by rw [hg];exact (below_size (by repeat (first|(with_reducible first|exact HB.out|apply below_alloc|apply pw_below_drewN|apply below_drew1)|exact HB.out))) : w.heap.size≤gb378));clear HB;have HB:=n0_;have BK378:=n1_;have GW378:=n2_;have GE378:=n3_;clear n0_ n1_ n2_ n3_;clear hb hbox hg)|((with_reducible refine gate_dst (N:=3) rfl ?_);refine box_event ?hg (N:=3) ?hd (cs:=#[.string a1_0,.int .u32 a1_1,.int .i64 a1_2]) (t:=43) ?hr ?_;(case hd=>rfl);(case hg=>rfl);(case hr=>first|(go_simp;done)|(go_simp;rfl));intro gb379 hg w8 hbox hb;have n0_:=Aside0.mk (blk_below (g:=gb378) (o:=.cells #[.string a0_0,.int .u32 a0_1,.int .i64 a0_2] 43 (0,0)) (by (with_reducible repeat (first|refine blk_drewN ?_ _|refine blk_drew ?_|refine blk_alloc ?_ _));exact BK378.out) hb);have n1_:=Aside0.mk (below_step (by repeat (first|(with_reducible first|exact HB.out|apply below_alloc|apply pw_below_drewN|apply below_drew1|refine below_set ?_ GE378.out)|exact HB.out)) hb);have n2_:=Aside0.mk (hbox);have n3_:=Aside0.mk ((by rw [hg];exact (below_size (by repeat (first|(with_reducible first|exact HB.out|apply below_alloc|apply pw_below_drewN|apply below_drew1|refine below_set ?_ GE378.out)|exact HB.out))) : w.heap.size≤gb379));have n4_:=Aside0.mk ((by rw [hg];exact (below_size (by repeat (first|(with_reducible first|exact HB.out|apply below_alloc|apply pw_below_drewN|apply below_drew1|refine below_set ?_ GE378.out)|exact HB.out))) : w.heap.size≤gb379));have n5_:=Aside0.mk ((by rw [hg];exact Nat.ne_of_lt (blk_lt (g:=gb378) (o:=.cells #[.string a0_0,.int .u32 a0_1,.int .i64 a0_2] 43 (0,0)) (by (with_reducible repeat (first|refine blk_drewN ?_ _|refine blk_drew ?_|refine blk_alloc ?_ _));exact BK378.out)) : gb378≠gb379));have n6_:=Aside0.mk ((by rw [hg];exact Nat.ne_of_gt (blk_lt (g:=gb378) (o:=.cells #[.string a0_0,.int .u32 a0_1,.int .i64 a0_2] 43 (0,0)) (by (with_reducible repeat (first|refine blk_drewN ?_ _|refine blk_drew ?_|refine blk_alloc ?_ _));exact BK378.out)) : gb379≠gb378));clear BK378;clear HB;have BK378:=n0_;have HB:=n1_;have BK379:=n2_;have GW379:=n3_;have GE379:=n4_;have NB378_379:=n5_;have NB379_378:=n6_;clear n0_ n1_ n2_ n3_ n4_ n5_ n6_;clear hb hbox hg))
 have n0_:=Aside0.mk (blk_drew BK378.out)
 have n1_:=Aside0.mk (blk_drew BK379.out)
 have n2_:=Aside0.mk (below_drew1 HB.out)
 clear BK378
 clear BK379
 clear HB
 have BK378:=n0_
 have BK379:=n1_
 have HB:=n2_
 clear n0_ n1_ n2_
 refine start_ (n:=22) (S:=fun w'=>w'.cell? ⟨gb378,0,none⟩=some (.string a0_0)∧w'.cell? ⟨gb378,1,none⟩=some (.int .u32 a0_1)∧w'.cell? ⟨gb378,2,none⟩=some (.int .i64 a0_2)∧w'.cell? ⟨gb379,0,none⟩=some (.string a1_0)∧w'.cell? ⟨gb379,1,none⟩=some (.int .u32 a1_1)∧w'.cell? ⟨gb379,2,none⟩=some (.int .i64 a1_2)) (ds:=[]) #[false,false,false,false,false,false,false,false,false,false,false,false,false,false,false,false,false,false,false,false,false,false] (by kernel_rfl) rfl rfl ⟨(blk_cell BK378.out 0).trans rfl,(blk_cell BK378.out 1).trans rfl,(blk_cell BK378.out 2).trans rfl,(blk_cell BK379.out 0).trans rfl,(blk_cell BK379.out 1).trans rfl,(blk_cell BK379.out 2).trans rfl⟩ (fun hHeld=>?_);refine with_tabW key_Entries.tab1 key_Entries.bits1 (fun HT_ HW_=>?_)
 generalize w8.drew=w9 at BK378 BK379 HB hHeld ⊢
 refine pure_ (i:=0) (N:=some 5) (v:=?_) (a':=?_) #[true,false,false,false,false,false,false,false,false,false,false,false,false,false,false,false,false,false,false,false,false,false] rfl rfl (any_of HT_.out (by kernel_rfl)) (fun _ _ _ h=>h) (Or.inl ⟨by rfl,?_⟩) ?_ ?_;rotate_left;(focus (intro w';go_simp;with_reducible rfl));rotate_left;(focus (simp only [Act.put,sA_,sB_,sC_,i64_w,i32_w];rfl))
 refine pure_ (i:=2) (N:=some 7) (v:=?_) (a':=?_) #[true,false,true,false,false,false,false,false,false,false,false,false,false,false,false,false,false,false,false,false,false,false] rfl rfl (any_of HT_.out (by kernel_rfl)) (fun _ _ _ h=>h) (Or.inl ⟨by rfl,?_⟩) ?_ ?_;rotate_left;(focus (intro w';go_simp;with_reducible rfl));rotate_left;(focus (simp only [Act.put,sA_,sB_,sC_,i64_w,i32_w];rfl))
 refine pure_ (i:=5) (N:=some 10) (v:=?_) (a':=?_) #[true,false,true,false,false,true,false,false,false,false,false,false,false,false,false,false,false,false,false,false,false,false] rfl rfl (any_of HT_.out (by kernel_rfl)) (fun _ _ _ h=>h) (Or.inl ⟨by rfl,?_⟩) ?_ ?_;rotate_left;(focus (intro w';go_simp;with_reducible rfl));rotate_left;(focus (simp only [Act.put,sA_,sB_,sC_,i64_w,i32_w];rfl))
 refine pure_ (i:=6) (N:=some 11) (v:=?_) (a':=?_) #[true,false,true,false,false,true,true,false,false,false,false,false,false,false,false,false,false,false,false,false,false,false] rfl rfl (any_of HT_.out (by kernel_rfl)) (fun _ _ _ h=>h) (Or.inl ⟨by rfl,?_⟩) ?_ ?_;rotate_left;(focus (intro w';go_simp;with_reducible rfl));rotate_left;(focus (simp only [Act.put,sA_,sB_,sC_,i64_w,i32_w];rfl))
 refine pure_ (i:=8) (N:=some 13) (v:=?_) (a':=?_) #[true,false,true,false,false,true,true,false,true,false,false,false,false,false,false,false,false,false,false,false,false,false] rfl rfl (any_of HT_.out (by kernel_rfl)) (fun _ _ _ h=>h) (Or.inl ⟨by rfl,?_⟩) ?_ ?_;rotate_left;(focus (intro w';go_simp;with_reducible rfl));rotate_left;(focus (simp only [Act.put,sA_,sB_,sC_,i64_w,i32_w];rfl))
 refine pure_ (i:=9) (N:=some 14) (v:=?_) (a':=?_) #[true,false,true,false,false,true,true,false,true,true,false,false,false,false,false,false,false,false,false,false,false,false] rfl rfl (any_of HT_.out (by kernel_rfl)) (fun _ _ _ h=>h) (Or.inl ⟨by rfl,?_⟩) ?_ ?_;rotate_left;(focus (intro w';go_simp;with_reducible rfl));rotate_left;(focus (simp only [Act.put,sA_,sB_,sC_,i64_w,i32_w];rfl))
 refine pure_ (i:=12) (N:=some 17) (v:=?_) (a':=?_) #[true,false,true,false,false,true,true,false,true,true,false,false,true,false,false,false,false,false,false,false,false,false] rfl rfl (any_of HT_.out (by kernel_rfl)) (fun _ _ _ h=>h) (Or.inl ⟨by rfl,?_⟩) ?_ ?_;rotate_left;(focus (intro w';go_simp;with_reducible rfl));rotate_left;(focus (simp only [Act.put,sA_,sB_,sC_,i64_w,i32_w];rfl))
 refine pure_ (i:=13) (N:=some 18) (v:=?_) (a':=?_) #[true,false,true,false,false,true,true,false,true,true,false,false,true,true,false,false,false,false,false,false,false,false] rfl rfl (any_of HT_.out (by kernel_rfl)) (fun _ _ _ h=>h) (Or.inl ⟨by rfl,?_⟩) ?_ ?_;rotate_left;(focus (intro w';go_simp;with_reducible rfl));rotate_left;(focus (simp only [Act.put,sA_,sB_,sC_,i64_w,i32_w];rfl))
 refine pure_ (i:=15) (N:=some 20) (v:=?_) (a':=?_) #[true,false,true,false,false,true,true,false,true,true,false,false,true,true,false,true,false,false,false,false,false,false] rfl rfl (any_of HT_.out (by kernel_rfl)) (fun _ _ _ h=>h) (Or.inl ⟨by rfl,?_⟩) ?_ ?_;rotate_left;(focus (intro w';go_simp;with_reducible rfl));rotate_left;(focus (simp only [Act.put,sA_,sB_,sC_,i64_w,i32_w];rfl))
 refine pure_ (i:=16) (N:=some 21) (v:=?_) (a':=?_) #[true,false,true,false,false,true,true,false,true,true,false,false,true,true,false,true,true,false,false,false,false,false] rfl rfl (any_of HT_.out (by kernel_rfl)) (fun _ _ _ h=>h) (Or.inl ⟨by rfl,?_⟩) ?_ ?_;rotate_left;(focus (intro w';go_simp;with_reducible rfl));rotate_left;(focus (simp only [Act.put,sA_,sB_,sC_,i64_w,i32_w];rfl))
 refine take_ (i:=1) (N:=some 6) (v:=?_) (a':=?_) #[true,true,true,false,false,true,true,false,true,true,false,false,true,true,false,true,true,false,false,false,false,false] rfl rfl (take_ofW HT_.out HW_.out (by kernel_rfl)) (fun _ _ _ h=>h) (Or.inl ⟨by rfl,?_⟩) hHeld ?_ ?_;rotate_left;(focus (rintro w' ⟨s0,s1,s2,s3,s4,s5⟩;go_simp;with_reducible rfl));rotate_left;(focus (simp only [Act.put,sA_,sB_,sC_,i64_w,i32_w];rfl))
 refine take_ (i:=3) (N:=some 8) (v:=?_) (a':=?_) #[true,true,true,true,false,true,true,false,true,true,false,false,true,true,false,true,true,false,false,false,false,false] rfl rfl (take_ofW HT_.out HW_.out (by kernel_rfl)) (fun _ _ _ h=>h) (Or.inl ⟨by rfl,?_⟩) hHeld ?_ ?_;rotate_left;(focus (rintro w' ⟨s0,s1,s2,s3,s4,s5⟩;go_simp;with_reducible rfl));rotate_left;(focus (simp only [Act.put,sA_,sB_,sC_,i64_w,i32_w];rfl))
 refine take_ (i:=7) (N:=some 12) (v:=?_) (a':=?_) #[true,true,true,true,false,true,true,true,true,true,false,false,true,true,false,true,true,false,false,false,false,false] rfl rfl (take_ofW HT_.out HW_.out (by kernel_rfl)) (fun _ _ _ h=>h) (Or.inl ⟨by rfl,?_⟩) hHeld ?_ ?_;rotate_left;(focus (rintro w' ⟨s0,s1,s2,s3,s4,s5⟩;go_simp;with_reducible rfl));rotate_left;(focus (simp only [Act.put,sA_,sB_,sC_,i64_w,i32_w];rfl))
 refine take_ (i:=10) (N:=some 15) (v:=?_) (a':=?_) #[true,true,true,true,false,true,true,true,true,true,true,false,true,true,false,true,true,false,false,false,false,false] rfl rfl (take_ofW HT_.out HW_.out (by kernel_rfl)) (fun _ _ _ h=>h) (Or.inl ⟨by rfl,?_⟩) hHeld ?_ ?_;rotate_left;(focus (rintro w' ⟨s0,s1,s2,s3,s4,s5⟩;go_simp;with_reducible rfl));rotate_left;(focus (simp only [Act.put,sA_,sB_,sC_,i64_w,i32_w];rfl))
 refine take_ (i:=14) (N:=some 19) (v:=?_) (a':=?_) #[true,true,true,true,false,true,true,true,true,true,true,false,true,true,true,true,true,false,false,false,false,false] rfl rfl (take_ofW HT_.out HW_.out (by kernel_rfl)) (fun _ _ _ h=>h) (Or.inl ⟨by rfl,?_⟩) hHeld ?_ ?_;rotate_left;(focus (rintro w' ⟨s0,s1,s2,s3,s4,s5⟩;go_simp;with_reducible rfl));rotate_left;(focus (simp only [Act.put,sA_,sB_,sC_,i64_w,i32_w];rfl))
 refine take_ (i:=17) (N:=some 22) (v:=?_) (a':=?_) #[true,true,true,true,false,true,true,true,true,true,true,false,true,true,true,true,true,true,false,false,false,false] rfl rfl (take_ofW HT_.out HW_.out (by kernel_rfl)) (fun _ _ _ h=>h) (Or.inl ⟨by rfl,?_⟩) hHeld ?_ ?_;rotate_left;(focus (rintro w' ⟨s0,s1,s2,s3,s4,s5⟩;go_simp;with_reducible rfl));rotate_left;(focus (simp only [Act.put,sA_,sB_,sC_,i64_w,i32_w];rfl))
 refine one_ (i:=4) (N:=some 9) #[true,true,true,true,true,true,true,true,true,true,true,false,true,true,true,true,true,true,false,false,false,false] rfl rfl (one_of HT_.out (by kernel_rfl)) (by decide) (fun K hK=>?_)
 refine goes_ Try.func57 (by kernel_rfl) rfl #[.string a0_0,.string a1_0] (by rfl) rfl rfl (by (try simp only [List.map_toArray,List.map_cons,List.map_nil]);first|done|rfl|(simp only [List.length_drop,List.length_take];rfl)) ?_
 with_reducible refine (cmp_Compare_string.calls a0_0 a1_0 t380 _ A3.out).mono ?_
 rintro e w' ⟨rfl,⟨nd,rfl⟩⟩
 refine ⟨_,rfl,?_⟩
 refine hK.out _ _ ⟨(blk_cell BK378.out 0).trans rfl,(blk_cell BK378.out 1).trans rfl,(blk_cell BK378.out 2).trans rfl,(blk_cell BK379.out 0).trans rfl,(blk_cell BK379.out 1).trans rfl,(blk_cell BK379.out 2).trans rfl⟩ (fun hHeld=>?_)
 clear hK K
 refine norm_ (a':=?_) ?_ ?_
 rotate_left
 ·show Act.put _ (some 9) _=_
  simp only [Act.put,sA_,sB_,sC_,i64_w,i32_w]
  rfl
 refine one_ (i:=11) (N:=some 16) #[true,true,true,true,true,true,true,true,true,true,true,true,true,true,true,true,true,true,false,false,false,false] rfl rfl (one_of HT_.out (by kernel_rfl)) (by decide) (fun K hK=>?_)
 refine goes_ Try.func58 (by kernel_rfl) rfl #[.int .u32 a0_1,.int .u32 a1_1] (by rfl) rfl rfl (by (try simp only [List.map_toArray,List.map_cons,List.map_nil]);first|done|rfl|(simp only [List.length_drop,List.length_take];rfl)) ?_
 with_reducible refine (api_Page_58.calls a0_1 a1_1 t381 _ A4.out).mono ?_
 rintro e w' ⟨rfl,⟨nd,rfl⟩⟩
 refine ⟨_,rfl,?_⟩
 refine hK.out _ _ ⟨(blk_cell BK378.out 0).trans rfl,(blk_cell BK378.out 1).trans rfl,(blk_cell BK378.out 2).trans rfl,(blk_cell BK379.out 0).trans rfl,(blk_cell BK379.out 1).trans rfl,(blk_cell BK379.out 2).trans rfl⟩ (fun hHeld=>?_)
 clear hK K
 refine norm_ (a':=?_) ?_ ?_
 rotate_left
 ·show Act.put _ (some 16) _=_
  simp only [Act.put,sA_,sB_,sC_,i64_w,i32_w]
  rfl
 refine one_ (i:=18) (N:=some 23) #[true,true,true,true,true,true,true,true,true,true,true,true,true,true,true,true,true,true,true,false,false,false] rfl rfl (one_of HT_.out (by kernel_rfl)) (by decide) (fun K hK=>?_)
 refine goes_ Try.func59 (by kernel_rfl) rfl #[.int .i64 a0_2,.int .i64 a1_2] (by rfl) rfl rfl (by (try simp only [List.map_toArray,List.map_cons,List.map_nil]);first|done|rfl|(simp only [List.length_drop,List.length_take];rfl)) ?_
 with_reducible refine (cmp_Compare_int.calls a0_2 a1_2 t382 _ A5.out).mono ?_
 rintro e w' ⟨rfl,⟨nd,rfl⟩⟩
 refine ⟨_,rfl,?_⟩
 refine hK.out _ _ ⟨(blk_cell BK378.out 0).trans rfl,(blk_cell BK378.out 1).trans rfl,(blk_cell BK378.out 2).trans rfl,(blk_cell BK379.out 0).trans rfl,(blk_cell BK379.out 1).trans rfl,(blk_cell BK379.out 2).trans rfl⟩ (fun hHeld=>?_)
 clear hK K
 refine norm_ (a':=?_) ?_ ?_
 rotate_left
 ·show Act.put _ (some 23) _=_
  simp only [Act.put,sA_,sB_,sC_,i64_w,i32_w]
  rfl
 refine one_ (i:=19) (N:=some 24) #[true,true,true,true,true,true,true,true,true,true,true,true,true,true,true,true,true,true,true,true,false,false] rfl rfl (one_of HT_.out (by kernel_rfl)) (by decide) (fun K hK=>?_)
 refine Kd.R_lit_step (Kd.int .i64) _ 3 ?hg (N:=24) ?hd (xs:=([t380,t381,t382] : List Int)) (inner:=[.int .i64 t380,.int .i64 t381,.int .i64 t382]) (ok:=fun _=>True) (okp:=fun _=>True) ?hr ?hp (fun _ hk=>hk) trivial (Below.refl _ _) (Nat.le_refl _) (by simp) ?_;(case hd=>rfl);(case hg=>rfl);(case hr=>first|(go_simp;done)|(go_simp;rfl));(case hp=>exact (Reps.one (show Kd.M (Kd.int .i64) _ _ _ t380 [.int .i64 t380] from rfl) (Reps.one (show Kd.M (Kd.int .i64) _ _ _ t381 [.int .i64 t381] from rfl) (Reps.one (show Kd.M (Kd.int .i64) _ _ _ t382 [.int .i64 t382] from rfl) (Reps.none _ _)))))
 intro v384 w10 ho11 hb hg_ hnew_
 clear hg_ hnew_
 (first|rw [← Ny383.out] at ho11|(simp only [Int.reduceToNat] at ho11;rw [← Ny383.out] at ho11))
 have n0_:=Aside0.mk (Kd.R_lower ho11 (below_size (by repeat (first|(with_reducible first|exact HB.out|apply below_alloc|apply pw_below_drewN|apply below_drew1|refine below_set ?_ GE378.out|refine below_set ?_ GE379.out)|exact HB.out))))
 have n1_:=Aside0.mk (blk_below (g:=gb378) (o:=.cells #[.string a0_0,.int .u32 a0_1,.int .i64 a0_2] 43 (0,0)) (by (with_reducible repeat (first|refine blk_drewN ?_ _|refine blk_drew ?_|refine blk_alloc ?_ _));exact BK378.out) hb)
 have n2_:=Aside0.mk (blk_below (g:=gb379) (o:=.cells #[.string a1_0,.int .u32 a1_1,.int .i64 a1_2] 43 (0,0)) (by (with_reducible repeat (first|refine blk_drewN ?_ _|refine blk_drew ?_|refine blk_alloc ?_ _));exact BK379.out) hb)
 have n3_:=Aside0.mk (below_step (by repeat (first|(with_reducible first|exact HB.out|apply below_alloc|apply pw_below_drewN|apply below_drew1|refine below_set ?_ GE378.out|refine below_set ?_ GE379.out)|exact HB.out)) hb)
 clear BK378
 clear BK379
 clear HB
 have HO385:=n0_
 have BK378:=n1_
 have BK379:=n2_
 have HB:=n3_
 clear n0_ n1_ n2_ n3_
 clear hb ho11
 obtain ⟨Ao12,co12,eo12⟩:=Kd.R_slice HO385.out
 (first|subst eo12|(injection eo12 with f1_ f2_ f3_;have f4_:=f1_.symm;have f5_:=f3_.symm;clear f1_ f2_ f3_;subst f4_;subst f5_))
 refine hK.out _ _ ⟨(blk_cell BK378.out 0).trans rfl,(blk_cell BK378.out 1).trans rfl,(blk_cell BK378.out 2).trans rfl,(blk_cell BK379.out 0).trans rfl,(blk_cell BK379.out 1).trans rfl,(blk_cell BK379.out 2).trans rfl⟩ (fun hHeld=>?_)
 clear hK K
 refine norm_ (a':=?_) ?_ ?_
 rotate_left
 ·show Act.put _ (some 24) _=_
  simp only [Act.put,sA_,sB_,sC_,i64_w,i32_w]
  rfl
 refine one_ (i:=20) (N:=some 25) #[true,true,true,true,true,true,true,true,true,true,true,true,true,true,true,true,true,true,true,true,true,false] rfl rfl (one_of HT_.out (by kernel_rfl)) (by decide) (fun K hK=>?_)
 refine goes_ Try.func56 (by kernel_rfl) rfl #[.slice Ao12 y383.length co12] (by rfl) rfl rfl (by (try simp only [List.map_toArray,List.map_cons,List.map_nil]);first|done|rfl|(simp only [List.length_drop,List.length_take];rfl)) ?_
 with_reducible refine (cmp_Or_int.calls k _ _ y383 t386 _ ?side1 ?side2 A6.out).mono ?_
 (case side1=>repeat (first|exact (Kd.R_reads' HO385.out).2.2|(with_reducible refine Kd.C_alloc ?_ _)|(with_reducible refine Kd.C_drewN ?_ _)|(with_reducible refine Kd.C_drew ?_)))
 (case side2=>exact (Kd.R_reads' HO385.out).2.1)
 rintro e w' ⟨rfl,⟨nd,rfl⟩⟩
 refine ⟨_,rfl,?_⟩
 refine hK.out _ _ ⟨(blk_cell BK378.out 0).trans rfl,(blk_cell BK378.out 1).trans rfl,(blk_cell BK378.out 2).trans rfl,(blk_cell BK379.out 0).trans rfl,(blk_cell BK379.out 1).trans rfl,(blk_cell BK379.out 2).trans rfl⟩ (fun hHeld=>?_)
 clear hK K
 refine norm_ (a':=?_) ?_ ?_
 rotate_left
 ·show Act.put _ (some 25) _=_
  simp only [Act.put,sA_,sB_,sC_,i64_w,i32_w]
  rfl
 refine pure_ (i:=21) (N:=some 4) (v:=?_) (a':=?_) #[true,true,true,true,true,true,true,true,true,true,true,true,true,true,true,true,true,true,true,true,true,true] rfl rfl (any_of HT_.out (by kernel_rfl)) (fun _ _ _ h=>h) (Or.inl ⟨by rfl,?_⟩) ?_ ?_;rotate_left;(focus (intro w';go_simp;with_reducible rfl));rotate_left;(focus (simp only [Act.put,sA_,sB_,sC_,i64_w,i32_w];rfl))
 refine done_ (done_of HT_.out (by kernel_rfl)) ?_
 try go_wp2
 go_ret
 exact ⟨by first|rfl|(simp [errW_none,errW_some] <;> rfl)|(simp [*,errW_none,errW_some] <;> rfl),by repeat (first|(with_reducible first|exact HB.out|apply below_alloc|apply pw_below_drewN|apply below_drew1|refine below_set ?_ GE378.out|refine below_set ?_ GE379.out)|exact HB.out)⟩
end Go.Proofs.Ytfegabikfkmepaa.PNe
end
section
namespace Go.Proofs.Ytfegabikfkmepaa.PNe
open Go.RowKit Go.Proofs.YtfegabikfkmepaaW.PrintWords Go.Proofs.YtfegabikfkmepaaW.PrintLast Go.Proofs.YtfegabikfkmepaaW.PrintMore
attribute [local go_sem] max2_int min2_int max_two min_two max_three min_three max_four min_four
set_option linter.unusedVariables false
set_option linter.unusedSimpArgs false
def node_Down.l0 : Nat → Int → List (S66) → Int → Int → ByteArray → Int → Int → Option (Int)
 | 0,_,_,_,_,_,_,_=>none
 | k + 1,x5,x8,x9,x10,x388000,x388001,x388002=>if x10 < x9 then (if 0≤x10 then (if x10 < (x8.length : Int) then (if x10 > 0 then ((key_Entries.f k ((rd_T66 x8 x10).f1.f0) ((rd_T66 x8 x10).f1.f1.f0) ((rd_T66 x8 x10).f1.f1.f1) x388000 x388001 x388002).bind fun t390=>(if t390≤0 then (node_Down.l0 k x10 x8 x9 (wrap64 (x10 + 1)) x388000 x388001 x388002) else (node_Down.l0 k x5 x8 x9 (wrap64 (x10 + 1)) x388000 x388001 x388002))) else (node_Down.l0 k x5 x8 x9 (wrap64 (x10 + 1)) x388000 x388001 x388002)) else (none)) else (none)) else (some x5)
def node_Down.f (k : Nat) (l0 : List (S66)) (a1_0 : ByteArray) (a1_1 : Int) (a1_2 : Int) : Option (Int):=node_Down.l0 k 0 l0 (l0.length : Int) 0 a1_0 a1_1 a1_2
set_option maxHeartbeats 8000000 in
set_option maxRecDepth 100000 in
theorem node_Down.calls (k : Nat) (A0 : Option Addr) (c0 : Nat) (l0 : List (S66)) (a1_0 : ByteArray) (a1_1 : Int) (a1_2 : Int) (r : Int) (w : World) (hr0 : Kd.C k66 w A0 l0.length l0) (hc0 : l0.length≤c0) (h : node_Down.f k l0 a1_0 a1_1 a1_2=some r) :
  Calls Try.prog 30 #[.slice A0 l0.length c0,.agg #[.string a1_0,.int .u32 a1_1,.int .i64 a1_2]] w fun e w'=>e=.returned (.int .i64 r)∧Below w.heap.size w w':=by
 have hu43:=Try.underlying43
 have hu66:=Try.underlying66
 have HR0:=Aside0.mk hr0
 have HC0:=Aside0.mk hc0
 clear hr0 hc0
 have HB:=Aside0.mk (Below.refl w.heap.size w)
 have H : (node_Down.l0 k 0 l0 (l0.length : Int) 0 a1_0 a1_1 a1_2)=some r:=h
 clear h
 have H':=Aside0.mk H
 clear H
 go_enter Try.func30,Try.ntmps30
 go_wp2_with (first|((with_reducible refine gate_dst (N:=3) rfl ?_);refine box_event ?hg (N:=3) ?hd (cs:=#[.string a1_0,.int .u32 a1_1,.int .i64 a1_2]) (t:=43) ?hr ?_;(case hd=>rfl);(case hg=>rfl);(case hr=>first|(go_simp;done)|(go_simp;rfl));intro gb387 hg w3 hbox hb;have n0_:=Aside0.mk (below_step (by repeat (first|(with_reducible first|exact HB.out|apply below_alloc|apply pw_below_drewN|apply below_drew1)|exact HB.out)) hb);have n1_:=Aside0.mk (hbox);have n2_:=Aside0.mk ((by rw [hg];exact (below_size (by repeat (first|(with_reducible first|exact HB.out|apply below_alloc|apply pw_below_drewN|apply below_drew1)|exact HB.out))) : w.heap.size≤gb387));have n3_:=Aside0.mk ((by rw [hg];exact (below_size (by repeat (first|(with_reducible first|exact HB.out|apply below_alloc|apply pw_below_drewN|apply below_drew1)|exact HB.out))) : w.heap.size≤gb387));clear HB;have HB:=n0_;have BK387:=n1_;have GW387:=n2_;have GE387:=n3_;clear n0_ n1_ n2_ n3_;clear hb hbox hg))
 go_loopg [5,10] k (fun kq v5 v10 w'=>∃ (x5_1 : Int) (x10_1 : Int),v5=.int .i64 x5_1∧v10=.int .i64 x10_1∧Aside0 (node_Down.l0 kq x5_1 l0 (l0.length : Int) x10_1 a1_0 a1_1 a1_2=some r)∧Aside0 (kq≤k)∧Aside0 (w'.heap[gb387]?=some (.cells #[.string a1_0,.int .u32 a1_1,.int .i64 a1_2] 43 (0,0)))∧Aside0 (Below w.heap.size w w'))
 case atStart=>exact ⟨(0),(0),(by first|rfl|(simp;done)|(simp [*];done)),(by first|rfl|(simp;done)|(simp [*];done)),H',⟨Nat.le_refl _⟩,⟨by (with_reducible repeat (first|refine blk_drewN ?_ _|refine blk_drew ?_|refine blk_alloc ?_ _));exact BK387.out⟩,⟨by repeat (first|(with_reducible first|exact HB.out|apply below_alloc|apply pw_below_drewN|apply below_drew1|refine below_set ?_ GE387.out)|exact HB.out)⟩⟩
 case round =>
  clear H'
  try clear p2
  try clear c3
  obtain ⟨x5_1,x10_1,rfl,rfl,HA,HK1,BK387,HB⟩:=hrel
  cases gk with
  | zero=>exact absurd HA.out (by simp [node_Down.l0])
  | succ k1 =>
   have H:=HA.out
   clear HA
   simp only [node_Down.l0] at H
   by_cases c4 : x10_1 < (l0.length : Int)
   ·rw [if_pos c4] at H
    have c4b0 : decide (x10_1 < (l0.length : Int))=true:=decide_eq_true c4
    clear c4
    by_cases c5 : 0≤x10_1
    ·rw [if_pos c5] at H
     have c5b0 : decide (0≤x10_1)=true:=decide_eq_true c5
     clear c5
     by_cases c6 : x10_1 < (l0.length : Int)
     ·rw [if_pos c6] at H
      have c6b0 : decide (x10_1 < (l0.length : Int))=true:=decide_eq_true c6
      clear c6
      by_cases c7 : x10_1 > 0
      ·rw [if_pos c7] at H
       have c7b0 : decide (0 < x10_1)=true:=decide_eq_true c7
       clear c7
       replace H:=Option.bind_eq_some_iff.mp H
       obtain ⟨t390,A80,H⟩:=H
       replace H : (if t390≤0 then (node_Down.l0 k1 x10_1 l0 (l0.length : Int) (wrap64 (x10_1 + 1)) a1_0 a1_1 a1_2) else (node_Down.l0 k1 x5_1 l0 (l0.length : Int) (wrap64 (x10_1 + 1)) a1_0 a1_1 a1_2))=some r:=H
       have A8:=Aside0.mk A80
       clear A80
       by_cases c9 : t390≤0
       ·rw [if_pos c9] at H
        have c9b0 : decide (t390≤0)=true:=decide_eq_true c9
        clear c9
        have H':=Aside0.mk H
        clear H
        have p388 : 0≤(x10_1 : Int):=of_decide_eq_true (by first|(with_reducible assumption)|assumption)
        have q388 : x10_1 < (l0.length : Int):=of_decide_eq_true (by first|(with_reducible assumption)|assumption)
        obtain ⟨ad388,e388,hx388_0,hx388_1,hx388_2,hx388_3⟩:=at_T66 HR0.out x10_1 p388 q388
        cases e388
        replace hx388_0:=(HB.out.cell (World.block_lt_of_cell? w _ hx388_0)).trans hx388_0
        replace hx388_1:=(HB.out.cell (World.block_lt_of_cell? w _ hx388_1)).trans hx388_1
        replace hx388_2:=(HB.out.cell (World.block_lt_of_cell? w _ hx388_2)).trans hx388_2
        replace hx388_3:=(HB.out.cell (World.block_lt_of_cell? w _ hx388_3)).trans hx388_3
        replace p388:=eq_true p388
        replace q388:=eq_true q388
        go_wp2_with (first|((with_reducible refine gate_dst (N:=7) rfl ?_);refine box_event ?hg (N:=7) ?hd (cs:=#[.int .u32 0,.string (⟨#[]⟩ : ByteArray),.int .u32 0,.int .i64 0]) (t:=66) ?hr ?_;(case hd=>rfl);(case hg=>rfl);(case hr=>first|(go_simp;done)|(go_simp;rfl));intro gb389 hg w10 hbox hb;have n0_:=Aside0.mk (blk_below (g:=gb387) (o:=.cells #[.string a1_0,.int .u32 a1_1,.int .i64 a1_2] 43 (0,0)) (by (with_reducible repeat (first|refine blk_drewN ?_ _|refine blk_drew ?_|refine blk_alloc ?_ _));exact BK387.out) hb);have n1_:=Aside0.mk (below_step (by repeat (first|(with_reducible first|exact HB.out|apply below_alloc|apply pw_below_drewN|apply below_drew1|refine below_set ?_ GE387.out)|exact HB.out)) hb);have n2_:=Aside0.mk (hbox);have n3_:=Aside0.mk ((by rw [hg];exact (below_size (by repeat (first|(with_reducible first|exact HB.out|apply below_alloc|apply pw_below_drewN|apply below_drew1|refine below_set ?_ GE387.out)|exact HB.out))) : w.heap.size≤gb389));have n4_:=Aside0.mk ((by rw [hg];exact (below_size (by repeat (first|(with_reducible first|exact HB.out|apply below_alloc|apply pw_below_drewN|apply below_drew1|refine below_set ?_ GE387.out)|exact HB.out))) : w.heap.size≤gb389));have n5_:=Aside0.mk ((by rw [hg];exact Nat.ne_of_lt (blk_lt (g:=gb387) (o:=.cells #[.string a1_0,.int .u32 a1_1,.int .i64 a1_2] 43 (0,0)) (by (with_reducible repeat (first|refine blk_drewN ?_ _|refine blk_drew ?_|refine blk_alloc ?_ _));exact BK387.out)) : gb387≠gb389));have n6_:=Aside0.mk ((by rw [hg];exact Nat.ne_of_gt (blk_lt (g:=gb387) (o:=.cells #[.string a1_0,.int .u32 a1_1,.int .i64 a1_2] 43 (0,0)) (by (with_reducible repeat (first|refine blk_drewN ?_ _|refine blk_drew ?_|refine blk_alloc ?_ _));exact BK387.out)) : gb389≠gb387));clear BK387;clear HB;have BK387:=n0_;have HB:=n1_;have BK389:=n2_;have GW389:=n3_;have GE389:=n4_;have NB387_389:=n5_;have NB389_387:=n6_;clear n0_ n1_ n2_ n3_ n4_ n5_ n6_;clear hb hbox hg;have hnb11:=NB389_387.out;have hnc11:=NB387_389.out;have hcz12_0 : w10.cell? ⟨gb389,0,none⟩=some (.int .u32 0):=(blk_cell BK389.out 0).trans rfl;have hcz12_1 : w10.cell? ⟨gb389,1,none⟩=some (.string (⟨#[]⟩ : ByteArray)):=(blk_cell BK389.out 1).trans rfl;have hcz12_2 : w10.cell? ⟨gb389,2,none⟩=some (.int .u32 0):=(blk_cell BK389.out 2).trans rfl;have hcz12_3 : w10.cell? ⟨gb389,3,none⟩=some (.int .i64 0):=(blk_cell BK389.out 3).trans rfl;have hfz12_0:=blk_frozen BK389.out 0;have hfz12_1:=blk_frozen BK389.out 1;have hfz12_2:=blk_frozen BK389.out 2;have hfz12_3:=blk_frozen BK389.out 3;have hcz13_0 : w10.cell? ⟨gb387,0,none⟩=some (.string a1_0):=(blk_cell BK387.out 0).trans rfl;have hcz13_1 : w10.cell? ⟨gb387,1,none⟩=some (.int .u32 a1_1):=(blk_cell BK387.out 1).trans rfl;have hcz13_2 : w10.cell? ⟨gb387,2,none⟩=some (.int .i64 a1_2):=(blk_cell BK387.out 2).trans rfl;have hfz13_0:=blk_frozen BK387.out 0;have hfz13_1:=blk_frozen BK387.out 1;have hfz13_2:=blk_frozen BK387.out 2)|(go_at_call 42;(with_reducible refine (key_Entries.calls k1 ((rd_T66 l0 x10_1).f1.f0) ((rd_T66 l0 x10_1).f1.f1.f0) ((rd_T66 l0 x10_1).f1.f1.f1) a1_0 a1_1 a1_2 t390 _ A8.out).mono ?_);rintro e w14 ⟨rfl,hb⟩;have n0_:=Aside0.mk (blk_below (g:=gb387) (o:=.cells #[.string a1_0,.int .u32 a1_1,.int .i64 a1_2] 43 (0,0)) (by (with_reducible repeat (first|refine blk_drewN ?_ _|refine blk_drew ?_|refine blk_alloc ?_ _));refine blk_far ?_ NB387_389.out _;(with_reducible repeat (first|refine blk_drewN ?_ _|refine blk_drew ?_|refine blk_alloc ?_ _));refine blk_far ?_ NB387_389.out _;(with_reducible repeat (first|refine blk_drewN ?_ _|refine blk_drew ?_|refine blk_alloc ?_ _));refine blk_far ?_ NB387_389.out _;(with_reducible repeat (first|refine blk_drewN ?_ _|refine blk_drew ?_|refine blk_alloc ?_ _));refine blk_far ?_ NB387_389.out _;(with_reducible repeat (first|refine blk_drewN ?_ _|refine blk_drew ?_|refine blk_alloc ?_ _));exact BK387.out) hb);have n1_:=Aside0.mk (blk_below (g:=gb389) (o:=.cells #[.int .u32 ((rd_T66 l0 x10_1).f0),.string ((rd_T66 l0 x10_1).f1.f0),.int .u32 ((rd_T66 l0 x10_1).f1.f1.f0),.int .i64 ((rd_T66 l0 x10_1).f1.f1.f1)] 66 (0,0)) (by (with_reducible repeat (first|refine blk_drewN ?_ _|refine blk_drew ?_|refine blk_alloc ?_ _));refine blk_put (cs:=#[.int .u32 ((rd_T66 l0 x10_1).f0),.string ((rd_T66 l0 x10_1).f1.f0),.int .u32 ((rd_T66 l0 x10_1).f1.f1.f0),.int .i64 0]) ?_ 3 _ rfl;(with_reducible repeat (first|refine blk_drewN ?_ _|refine blk_drew ?_|refine blk_alloc ?_ _));refine blk_put (cs:=#[.int .u32 ((rd_T66 l0 x10_1).f0),.string ((rd_T66 l0 x10_1).f1.f0),.int .u32 0,.int .i64 0]) ?_ 2 _ rfl;(with_reducible repeat (first|refine blk_drewN ?_ _|refine blk_drew ?_|refine blk_alloc ?_ _));refine blk_put (cs:=#[.int .u32 ((rd_T66 l0 x10_1).f0),.string (⟨#[]⟩ : ByteArray),.int .u32 0,.int .i64 0]) ?_ 1 _ rfl;(with_reducible repeat (first|refine blk_drewN ?_ _|refine blk_drew ?_|refine blk_alloc ?_ _));refine blk_put (cs:=#[.int .u32 0,.string (⟨#[]⟩ : ByteArray),.int .u32 0,.int .i64 0]) ?_ 0 _ rfl;(with_reducible repeat (first|refine blk_drewN ?_ _|refine blk_drew ?_|refine blk_alloc ?_ _));exact BK389.out) hb);have n2_:=Aside0.mk (below_step (by repeat (first|(with_reducible first|exact HB.out|apply below_alloc|apply pw_below_drewN|apply below_drew1|refine below_set ?_ GE387.out|refine below_set ?_ GE389.out)|exact HB.out)) hb);clear BK387;clear BK389;clear HB;have BK387:=n0_;have BK389:=n1_;have HB:=n2_;clear n0_ n1_ n2_;(try clear hb);(try clear hb2);(try clear hk);(try clear hi)))
        go_roundg k1
        case measure=>have:=HK1.out;omega
        case rel=>exact ⟨(x10_1),(wrap64 (x10_1 + 1)),(by first|rfl|(simp;done)|(simp [*];done)),(by first|rfl|(simp;done)|(simp [*];done)),H',⟨by have:=HK1.out;omega⟩,⟨by (with_reducible repeat (first|refine blk_drewN ?_ _|refine blk_drew ?_|refine blk_alloc ?_ _));exact BK387.out⟩,⟨by repeat (first|(with_reducible first|exact HB.out|apply below_alloc|apply pw_below_drewN|apply below_drew1|refine below_set ?_ GE387.out|refine below_set ?_ GE389.out)|exact HB.out)⟩⟩
       ·rw [if_neg c9] at H
        have c9b0 : decide (t390≤0)=false:=decide_eq_false c9
        clear c9
        have H':=Aside0.mk H
        clear H
        have p388 : 0≤(x10_1 : Int):=of_decide_eq_true (by first|(with_reducible assumption)|assumption)
        have q388 : x10_1 < (l0.length : Int):=of_decide_eq_true (by first|(with_reducible assumption)|assumption)
        obtain ⟨ad388,e388,hx388_0,hx388_1,hx388_2,hx388_3⟩:=at_T66 HR0.out x10_1 p388 q388
        cases e388
        replace hx388_0:=(HB.out.cell (World.block_lt_of_cell? w _ hx388_0)).trans hx388_0
        replace hx388_1:=(HB.out.cell (World.block_lt_of_cell? w _ hx388_1)).trans hx388_1
        replace hx388_2:=(HB.out.cell (World.block_lt_of_cell? w _ hx388_2)).trans hx388_2
        replace hx388_3:=(HB.out.cell (World.block_lt_of_cell? w _ hx388_3)).trans hx388_3
        replace p388:=eq_true p388
        replace q388:=eq_true q388
        go_wp2_with (first|((with_reducible refine gate_dst (N:=7) rfl ?_);refine box_event ?hg (N:=7) ?hd (cs:=#[.int .u32 0,.string (⟨#[]⟩ : ByteArray),.int .u32 0,.int .i64 0]) (t:=66) ?hr ?_;(case hd=>rfl);(case hg=>rfl);(case hr=>first|(go_simp;done)|(go_simp;rfl));intro gb389 hg w15 hbox hb;have n0_:=Aside0.mk (blk_below (g:=gb387) (o:=.cells #[.string a1_0,.int .u32 a1_1,.int .i64 a1_2] 43 (0,0)) (by (with_reducible repeat (first|refine blk_drewN ?_ _|refine blk_drew ?_|refine blk_alloc ?_ _));exact BK387.out) hb);have n1_:=Aside0.mk (below_step (by repeat (first|(with_reducible first|exact HB.out|apply below_alloc|apply pw_below_drewN|apply below_drew1|refine below_set ?_ GE387.out)|exact HB.out)) hb);have n2_:=Aside0.mk (hbox);have n3_:=Aside0.mk ((by rw [hg];exact (below_size (by repeat (first|(with_reducible first|exact HB.out|apply below_alloc|apply pw_below_drewN|apply below_drew1|refine below_set ?_ GE387.out)|exact HB.out))) : w.heap.size≤gb389));have n4_:=Aside0.mk ((by rw [hg];exact (below_size (by repeat (first|(with_reducible first|exact HB.out|apply below_alloc|apply pw_below_drewN|apply below_drew1|refine below_set ?_ GE387.out)|exact HB.out))) : w.heap.size≤gb389));have n5_:=Aside0.mk ((by rw [hg];exact Nat.ne_of_lt (blk_lt (g:=gb387) (o:=.cells #[.string a1_0,.int .u32 a1_1,.int .i64 a1_2] 43 (0,0)) (by (with_reducible repeat (first|refine blk_drewN ?_ _|refine blk_drew ?_|refine blk_alloc ?_ _));exact BK387.out)) : gb387≠gb389));have n6_:=Aside0.mk ((by rw [hg];exact Nat.ne_of_gt (blk_lt (g:=gb387) (o:=.cells #[.string a1_0,.int .u32 a1_1,.int .i64 a1_2] 43 (0,0)) (by (with_reducible repeat (first|refine blk_drewN ?_ _|refine blk_drew ?_|refine blk_alloc ?_ _));exact BK387.out)) : gb389≠gb387));clear BK387;clear HB;have BK387:=n0_;have HB:=n1_;have BK389:=n2_;have GW389:=n3_;have GE389:=n4_;have NB387_389:=n5_;have NB389_387:=n6_;clear n0_ n1_ n2_ n3_ n4_ n5_ n6_;clear hb hbox hg;have hnb16:=NB389_387.out;have hnc16:=NB387_389.out;have hcz17_0 : w15.cell? ⟨gb389,0,none⟩=some (.int .u32 0):=(blk_cell BK389.out 0).trans rfl;have hcz17_1 : w15.cell? ⟨gb389,1,none⟩=some (.string (⟨#[]⟩ : ByteArray)):=(blk_cell BK389.out 1).trans rfl;have hcz17_2 : w15.cell? ⟨gb389,2,none⟩=some (.int .u32 0):=(blk_cell BK389.out 2).trans rfl;have hcz17_3 : w15.cell? ⟨gb389,3,none⟩=some (.int .i64 0):=(blk_cell BK389.out 3).trans rfl;have hfz17_0:=blk_frozen BK389.out 0;have hfz17_1:=blk_frozen BK389.out 1;have hfz17_2:=blk_frozen BK389.out 2;have hfz17_3:=blk_frozen BK389.out 3;have hcz18_0 : w15.cell? ⟨gb387,0,none⟩=some (.string a1_0):=(blk_cell BK387.out 0).trans rfl;have hcz18_1 : w15.cell? ⟨gb387,1,none⟩=some (.int .u32 a1_1):=(blk_cell BK387.out 1).trans rfl;have hcz18_2 : w15.cell? ⟨gb387,2,none⟩=some (.int .i64 a1_2):=(blk_cell BK387.out 2).trans rfl;have hfz18_0:=blk_frozen BK387.out 0;have hfz18_1:=blk_frozen BK387.out 1;have hfz18_2:=blk_frozen BK387.out 2)|(go_at_call 42;(with_reducible refine (key_Entries.calls k1 ((rd_T66 l0 x10_1).f1.f0) ((rd_T66 l0 x10_1).f1.f1.f0) ((rd_T66 l0 x10_1).f1.f1.f1) a1_0 a1_1 a1_2 t390 _ A8.out).mono ?_);rintro e w19 ⟨rfl,hb⟩;have n0_:=Aside0.mk (blk_below (g:=gb387) (o:=.cells #[.string a1_0,.int .u32 a1_1,.int .i64 a1_2] 43 (0,0)) (by (with_reducible repeat (first|refine blk_drewN ?_ _|refine blk_drew ?_|refine blk_alloc ?_ _));refine blk_far ?_ NB387_389.out _;(with_reducible repeat (first|refine blk_drewN ?_ _|refine blk_drew ?_|refine blk_alloc ?_ _));refine blk_far ?_ NB387_389.out _;(with_reducible repeat (first|refine blk_drewN ?_ _|refine blk_drew ?_|refine blk_alloc ?_ _));refine blk_far ?_ NB387_389.out _;(with_reducible repeat (first|refine blk_drewN ?_ _|refine blk_drew ?_|refine blk_alloc ?_ _));refine blk_far ?_ NB387_389.out _;(with_reducible repeat (first|refine blk_drewN ?_ _|refine blk_drew ?_|refine blk_alloc ?_ _));exact BK387.out) hb);have n1_:=Aside0.mk (blk_below (g:=gb389) (o:=.cells #[.int .u32 ((rd_T66 l0 x10_1).f0),.string ((rd_T66 l0 x10_1).f1.f0),.int .u32 ((rd_T66 l0 x10_1).f1.f1.f0),.int .i64 ((rd_T66 l0 x10_1).f1.f1.f1)] 66 (0,0)) (by (with_reducible repeat (first|refine blk_drewN ?_ _|refine blk_drew ?_|refine blk_alloc ?_ _));refine blk_put (cs:=#[.int .u32 ((rd_T66 l0 x10_1).f0),.string ((rd_T66 l0 x10_1).f1.f0),.int .u32 ((rd_T66 l0 x10_1).f1.f1.f0),.int .i64 0]) ?_ 3 _ rfl;(with_reducible repeat (first|refine blk_drewN ?_ _|refine blk_drew ?_|refine blk_alloc ?_ _));refine blk_put (cs:=#[.int .u32 ((rd_T66 l0 x10_1).f0),.string ((rd_T66 l0 x10_1).f1.f0),.int .u32 0,.int .i64 0]) ?_ 2 _ rfl;(with_reducible repeat (first|refine blk_drewN ?_ _|refine blk_drew ?_|refine blk_alloc ?_ _));refine blk_put (cs:=#[.int .u32 ((rd_T66 l0 x10_1).f0),.string (⟨#[]⟩ : ByteArray),.int .u32 0,.int .i64 0]) ?_ 1 _ rfl;(with_reducible repeat (first|refine blk_drewN ?_ _|refine blk_drew ?_|refine blk_alloc ?_ _));refine blk_put (cs:=#[.int .u32 0,.string (⟨#[]⟩ : ByteArray),.int .u32 0,.int .i64 0]) ?_ 0 _ rfl;(with_reducible repeat (first|refine blk_drewN ?_ _|refine blk_drew ?_|refine blk_alloc ?_ _));exact BK389.out) hb);have n2_:=Aside0.mk (below_step (by repeat (first|(with_reducible first|exact HB.out|apply below_alloc|apply pw_below_drewN|apply below_drew1|refine below_set ?_ GE387.out|refine below_set ?_ GE389.out)|exact HB.out)) hb);clear BK387;clear BK389;clear HB;have BK387:=n0_;have BK389:=n1_;have HB:=n2_;clear n0_ n1_ n2_;(try clear hb);(try clear hb2);(try clear hk);(try clear hi)))
        go_roundg k1
        case measure=>have:=HK1.out;omega
        case rel=>exact ⟨(x5_1),(wrap64 (x10_1 + 1)),(by first|rfl|(simp;done)|(simp [*];done)),(by first|rfl|(simp;done)|(simp [*];done)),H',⟨by have:=HK1.out;omega⟩,⟨by (with_reducible repeat (first|refine blk_drewN ?_ _|refine blk_drew ?_|refine blk_alloc ?_ _));exact BK387.out⟩,⟨by repeat (first|(with_reducible first|exact HB.out|apply below_alloc|apply pw_below_drewN|apply below_drew1|refine below_set ?_ GE387.out|refine below_set ?_ GE389.out)|exact HB.out)⟩⟩
      ·rw [if_neg c7] at H
       have c7b0 : decide (0 < x10_1)=false:=decide_eq_false c7
       clear c7
       have H':=Aside0.mk H
       clear H
       have p388 : 0≤(x10_1 : Int):=of_decide_eq_true (by first|(with_reducible assumption)|assumption)
       have q388 : x10_1 < (l0.length : Int):=of_decide_eq_true (by first|(with_reducible assumption)|assumption)
       obtain ⟨ad388,e388,hx388_0,hx388_1,hx388_2,hx388_3⟩:=at_T66 HR0.out x10_1 p388 q388
       cases e388
       replace hx388_0:=(HB.out.cell (World.block_lt_of_cell? w _ hx388_0)).trans hx388_0
       replace hx388_1:=(HB.out.cell (World.block_lt_of_cell? w _ hx388_1)).trans hx388_1
       replace hx388_2:=(HB.out.cell (World.block_lt_of_cell? w _ hx388_2)).trans hx388_2
       replace hx388_3:=(HB.out.cell (World.block_lt_of_cell? w _ hx388_3)).trans hx388_3
       replace p388:=eq_true p388
       replace q388:=eq_true q388
       go_wp2_with (first|((with_reducible refine gate_dst (N:=7) rfl ?_);refine box_event ?hg (N:=7) ?hd (cs:=#[.int .u32 0,.string (⟨#[]⟩ : ByteArray),.int .u32 0,.int .i64 0]) (t:=66) ?hr ?_;(case hd=>rfl);(case hg=>rfl);(case hr=>first|(go_simp;done)|(go_simp;rfl));intro gb389 hg w20 hbox hb;have n0_:=Aside0.mk (blk_below (g:=gb387) (o:=.cells #[.string a1_0,.int .u32 a1_1,.int .i64 a1_2] 43 (0,0)) (by (with_reducible repeat (first|refine blk_drewN ?_ _|refine blk_drew ?_|refine blk_alloc ?_ _));exact BK387.out) hb);have n1_:=Aside0.mk (below_step (by repeat (first|(with_reducible first|exact HB.out|apply below_alloc|apply pw_below_drewN|apply below_drew1|refine below_set ?_ GE387.out)|exact HB.out)) hb);have n2_:=Aside0.mk (hbox);have n3_:=Aside0.mk ((by rw [hg];exact (below_size (by repeat (first|(with_reducible first|exact HB.out|apply below_alloc|apply pw_below_drewN|apply below_drew1|refine below_set ?_ GE387.out)|exact HB.out))) : w.heap.size≤gb389));have n4_:=Aside0.mk ((by rw [hg];exact (below_size (by repeat (first|(with_reducible first|exact HB.out|apply below_alloc|apply pw_below_drewN|apply below_drew1|refine below_set ?_ GE387.out)|exact HB.out))) : w.heap.size≤gb389));have n5_:=Aside0.mk ((by rw [hg];exact Nat.ne_of_lt (blk_lt (g:=gb387) (o:=.cells #[.string a1_0,.int .u32 a1_1,.int .i64 a1_2] 43 (0,0)) (by (with_reducible repeat (first|refine blk_drewN ?_ _|refine blk_drew ?_|refine blk_alloc ?_ _));exact BK387.out)) : gb387≠gb389));have n6_:=Aside0.mk ((by rw [hg];exact Nat.ne_of_gt (blk_lt (g:=gb387) (o:=.cells #[.string a1_0,.int .u32 a1_1,.int .i64 a1_2] 43 (0,0)) (by (with_reducible repeat (first|refine blk_drewN ?_ _|refine blk_drew ?_|refine blk_alloc ?_ _));exact BK387.out)) : gb389≠gb387));clear BK387;clear HB;have BK387:=n0_;have HB:=n1_;have BK389:=n2_;have GW389:=n3_;have GE389:=n4_;have NB387_389:=n5_;have NB389_387:=n6_;clear n0_ n1_ n2_ n3_ n4_ n5_ n6_;clear hb hbox hg;have hnb21:=NB389_387.out;have hnc21:=NB387_389.out;have hcz22_0 : w20.cell? ⟨gb389,0,none⟩=some (.int .u32 0):=(blk_cell BK389.out 0).trans rfl;have hcz22_1 : w20.cell? ⟨gb389,1,none⟩=some (.string (⟨#[]⟩ : ByteArray)):=(blk_cell BK389.out 1).trans rfl;have hcz22_2 : w20.cell? ⟨gb389,2,none⟩=some (.int .u32 0):=(blk_cell BK389.out 2).trans rfl;have hcz22_3 : w20.cell? ⟨gb389,3,none⟩=some (.int .i64 0):=(blk_cell BK389.out 3).trans rfl;have hfz22_0:=blk_frozen BK389.out 0;have hfz22_1:=blk_frozen BK389.out 1;have hfz22_2:=blk_frozen BK389.out 2;have hfz22_3:=blk_frozen BK389.out 3))
       go_roundg k1
       case measure=>have:=HK1.out;omega
       case rel=>exact ⟨(x5_1),(wrap64 (x10_1 + 1)),(by first|rfl|(simp;done)|(simp [*];done)),(by first|rfl|(simp;done)|(simp [*];done)),H',⟨by have:=HK1.out;omega⟩,⟨by (with_reducible repeat (first|refine blk_drewN ?_ _|refine blk_drew ?_|refine blk_alloc ?_ _));refine blk_far ?_ NB387_389.out _;(with_reducible repeat (first|refine blk_drewN ?_ _|refine blk_drew ?_|refine blk_alloc ?_ _));refine blk_far ?_ NB387_389.out _;(with_reducible repeat (first|refine blk_drewN ?_ _|refine blk_drew ?_|refine blk_alloc ?_ _));refine blk_far ?_ NB387_389.out _;(with_reducible repeat (first|refine blk_drewN ?_ _|refine blk_drew ?_|refine blk_alloc ?_ _));refine blk_far ?_ NB387_389.out _;(with_reducible repeat (first|refine blk_drewN ?_ _|refine blk_drew ?_|refine blk_alloc ?_ _));exact BK387.out⟩,⟨by repeat (first|(with_reducible first|exact HB.out|apply below_alloc|apply pw_below_drewN|apply below_drew1|refine below_set ?_ GE387.out|refine below_set ?_ GE389.out)|exact HB.out)⟩⟩
     ·rw [if_neg c6] at H
      exact absurd H (by simp)
    ·rw [if_neg c5] at H
     exact absurd H (by simp)
   ·rw [if_neg c4] at H
    have c4b0 : decide (x10_1 < (l0.length : Int))=false:=decide_eq_false c4
    clear c4
    obtain rfl:=Option.some.inj H
    go_wp2
    go_ret
    exact ⟨by first|rfl|(simp [errW_none,errW_some] <;> rfl)|(simp [*,errW_none,errW_some] <;> rfl),by repeat (first|(with_reducible first|exact HB.out|apply below_alloc|apply pw_below_drewN|apply below_drew1|refine below_set ?_ GE387.out)|exact HB.out)⟩
end Go.Proofs.Ytfegabikfkmepaa.PNe
end
section
namespace Go.Proofs.Ytfegabikfkmepaa.PNe
open Go.RowKit Go.Proofs.YtfegabikfkmepaaW.PrintWords Go.Proofs.YtfegabikfkmepaaW.PrintLast Go.Proofs.YtfegabikfkmepaaW.PrintMore
attribute [local go_sem] max2_int min2_int max_two min_two max_three min_three max_four min_four
set_option linter.unusedVariables false
set_option linter.unusedSimpArgs false
def girderlaw12_entry.f (a0_0 : ByteArray) (a0_1 : Int) (a0_2 : Int) : Option (ByteArray × Int × Int):=if (a0_0.size : Int) > 12 then (if 12≤(a0_0.size : Int) then (some (a0_0.extract 0 12,a0_1,Go.bits .and .i64 a0_2 65535)) else (none)) else (some (a0_0,a0_1,Go.bits .and .i64 a0_2 65535))
set_option maxHeartbeats 8000000 in
set_option maxRecDepth 100000 in
theorem girderlaw12_entry.calls (a0_0 : ByteArray) (a0_1 : Int) (a0_2 : Int) (r1 : ByteArray) (r2 : Int) (r3 : Int) (w : World) (h : girderlaw12_entry.f a0_0 a0_1 a0_2=some (r1,r2,r3)) :
  Calls Try.prog 16 #[.agg #[.string a0_0,.int .u32 a0_1,.int .i64 a0_2]] w fun e w'=>e=.returned (.agg #[.string r1,.int .u32 r2,.int .i64 r3])∧Below w.heap.size w w':=by
 have hu43:=Try.underlying43
 have HB:=Aside0.mk (Below.refl w.heap.size w)
 have H : (if (a0_0.size : Int) > 12 then (if 12≤(a0_0.size : Int) then (some (a0_0.extract 0 12,a0_1,Go.bits .and .i64 a0_2 65535)) else (none)) else (some (a0_0,a0_1,Go.bits .and .i64 a0_2 65535)))=some (r1,r2,r3):=h
 clear h
 by_cases c2 : (a0_0.size : Int) > 12
 ·rw [if_pos c2] at H
  have c2b0 : decide (12 < (a0_0.size : Int))=true:=decide_eq_true c2
  have c2b1 : decide (12 < a0_0.size)=true:=decide_eq_true (by omega)
  clear c2
  by_cases c3 : 12≤(a0_0.size : Int)
  ·rw [if_pos c3] at H
   have c3b0:=eq_true c3
   have c3b1 : decide (12≤(a0_0.size : Int))=true:=decide_eq_true c3
   clear c3
   simp only [Option.some.injEq,Prod.mk.injEq] at H
   obtain ⟨rfl,rfl,rfl⟩:=H
   go_enter Try.func16,Try.ntmps16
   go_wp2_with (first|((with_reducible refine gate_dst (N:=1) rfl ?_);refine box_event ?hg (N:=1) ?hd (cs:=#[.string a0_0,.int .u32 a0_1,.int .i64 a0_2]) (t:=43) ?hr ?_;(case hd=>rfl);(case hg=>rfl);(case hr=>first|(go_simp;done)|(go_simp;rfl));intro gb172 hg w4 hbox hb;have n0_:=Aside0.mk (below_step (by repeat (first|(with_reducible first|exact HB.out|apply below_alloc|apply pw_below_drewN|apply below_drew1)|exact HB.out)) hb);have n1_:=Aside0.mk (hbox);have n2_:=Aside0.mk ((by rw [hg];exact (below_size (by repeat (first|(with_reducible first|exact HB.out|apply below_alloc|apply pw_below_drewN|apply below_drew1)|exact HB.out))) : w.heap.size≤gb172));have n3_:=Aside0.mk ((by rw [hg];exact (below_size (by repeat (first|(with_reducible first|exact HB.out|apply below_alloc|apply pw_below_drewN|apply below_drew1)|exact HB.out))) : w.heap.size≤gb172));clear HB;have HB:=n0_;have BK172:=n1_;have GW172:=n2_;have GE172:=n3_;clear n0_ n1_ n2_ n3_;clear hb hbox hg)|((with_reducible refine gate_dst (N:=2) rfl ?_);refine box_event ?hg (N:=2) ?hd (cs:=#[.string (⟨#[]⟩ : ByteArray),.int .u32 0,.int .i64 0]) (t:=43) ?hr ?_;(case hd=>rfl);(case hg=>rfl);(case hr=>first|(go_simp;done)|(go_simp;rfl));intro gb173 hg w5 hbox hb;have n0_:=Aside0.mk (blk_below (g:=gb172) (o:=.cells #[.string a0_0,.int .u32 a0_1,.int .i64 a0_2] 43 (0,0)) (by (with_reducible repeat (first|refine blk_drewN ?_ _|refine blk_drew ?_|refine blk_alloc ?_ _));exact BK172.out) hb);have n1_:=Aside0.mk (below_step (by repeat (first|(with_reducible first|exact HB.out|apply below_alloc|apply pw_below_drewN|apply below_drew1|refine below_set ?_ GE172.out)|exact HB.out)) hb);have n2_:=Aside0.mk (hbox);have n3_:=Aside0.mk ((by rw [hg];exact (below_size (by repeat (first|(with_reducible first|exact HB.out|apply below_alloc|apply pw_below_drewN|apply below_drew1|refine below_set ?_ GE172.out)|exact HB.out))) : w.heap.size≤gb173));have n4_:=Aside0.mk ((by rw [hg];exact (below_size (by repeat (first|(with_reducible first|exact HB.out|apply below_alloc|apply pw_below_drewN|apply below_drew1|refine below_set ?_ GE172.out)|exact HB.out))) : w.heap.size≤gb173));have n5_:=Aside0.mk ((by rw [hg];exact Nat.ne_of_lt (blk_lt (g:=gb172) (o:=.cells #[.string a0_0,.int .u32 a0_1,.int .i64 a0_2] 43 (0,0)) (by (with_reducible repeat (first|refine blk_drewN ?_ _|refine blk_drew ?_|refine blk_alloc ?_ _));exact BK172.out)) : gb172≠gb173));have n6_:=Aside0.mk ((by rw [hg];exact Nat.ne_of_gt (blk_lt (g:=gb172) (o:=.cells #[.string a0_0,.int .u32 a0_1,.int .i64 a0_2] 43 (0,0)) (by (with_reducible repeat (first|refine blk_drewN ?_ _|refine blk_drew ?_|refine blk_alloc ?_ _));exact BK172.out)) : gb173≠gb172));clear BK172;clear HB;have BK172:=n0_;have HB:=n1_;have BK173:=n2_;have GW173:=n3_;have GE173:=n4_;have NB172_173:=n5_;have NB173_172:=n6_;clear n0_ n1_ n2_ n3_ n4_ n5_ n6_;clear hb hbox hg;have hnb6:=NB172_173.out;have hnc6:=NB173_172.out;have hcz7_0 : w5.cell? ⟨gb172,0,none⟩=some (.string a0_0):=(blk_cell BK172.out 0).trans rfl;have hcz7_1 : w5.cell? ⟨gb172,1,none⟩=some (.int .u32 a0_1):=(blk_cell BK172.out 1).trans rfl;have hcz7_2 : w5.cell? ⟨gb172,2,none⟩=some (.int .i64 a0_2):=(blk_cell BK172.out 2).trans rfl;have hfz7_0:=blk_frozen BK172.out 0;have hfz7_1:=blk_frozen BK172.out 1;have hfz7_2:=blk_frozen BK172.out 2;have hcz8_0 : w5.cell? ⟨gb173,0,none⟩=some (.string (⟨#[]⟩ : ByteArray)):=(blk_cell BK173.out 0).trans rfl;have hcz8_1 : w5.cell? ⟨gb173,1,none⟩=some (.int .u32 0):=(blk_cell BK173.out 1).trans rfl;have hcz8_2 : w5.cell? ⟨gb173,2,none⟩=some (.int .i64 0):=(blk_cell BK173.out 2).trans rfl;have hfz8_0:=blk_frozen BK173.out 0;have hfz8_1:=blk_frozen BK173.out 1;have hfz8_2:=blk_frozen BK173.out 2))
   refine bodyPost_ret (results_cell_row rfl _ _ gb173 43 #[.string (a0_0.extract 0 12),.int .u32 a0_1,.int .i64 (Go.bits .and .i64 a0_2 65535)] (0,0) _ rfl (by (with_reducible repeat (first|refine blk_drewN ?_ _|refine blk_drew ?_|refine blk_alloc ?_ _));refine blk_put (cs:=#[.string (a0_0.extract 0 12),.int .u32 a0_1,.int .i64 0]) ?_ 2 _ rfl;(with_reducible repeat (first|refine blk_drewN ?_ _|refine blk_drew ?_|refine blk_alloc ?_ _));refine blk_put (cs:=#[.string (a0_0.extract 0 12),.int .u32 0,.int .i64 0]) ?_ 1 _ rfl;(with_reducible repeat (first|refine blk_drewN ?_ _|refine blk_drew ?_|refine blk_alloc ?_ _));refine blk_put (cs:=#[.string (⟨#[]⟩ : ByteArray),.int .u32 0,.int .i64 0]) ?_ 0 _ rfl;(with_reducible repeat (first|refine blk_drewN ?_ _|refine blk_drew ?_|refine blk_alloc ?_ _));refine blk_far ?_ NB173_172.out _;(with_reducible repeat (first|refine blk_drewN ?_ _|refine blk_drew ?_|refine blk_alloc ?_ _));refine blk_far ?_ NB173_172.out _;(with_reducible repeat (first|refine blk_drewN ?_ _|refine blk_drew ?_|refine blk_alloc ?_ _));exact BK173.out) Try.underlying43 rfl (by kernel_rfl)) rfl ?_
   exact ⟨by first|rfl|(simp [errW_none,errW_some] <;> rfl)|(simp [*,errW_none,errW_some] <;> rfl),by repeat (first|(with_reducible first|exact HB.out|apply below_alloc|apply pw_below_drewN|apply below_drew1|refine below_set ?_ GE172.out|refine below_set ?_ GE173.out)|exact HB.out)⟩
  ·rw [if_neg c3] at H
   exact absurd H (by simp)
 ·rw [if_neg c2] at H
  have c2b0 : decide (12 < (a0_0.size : Int))=false:=decide_eq_false c2
  have c2b1 : decide (12 < a0_0.size)=false:=decide_eq_false (by omega)
  clear c2
  simp only [Option.some.injEq,Prod.mk.injEq] at H
  obtain ⟨rfl,rfl,rfl⟩:=H
  go_enter Try.func16,Try.ntmps16
  go_wp2_with (first|((with_reducible refine gate_dst (N:=1) rfl ?_);refine box_event ?hg (N:=1) ?hd (cs:=#[.string a0_0,.int .u32 a0_1,.int .i64 a0_2]) (t:=43) ?hr ?_;(case hd=>rfl);(case hg=>rfl);(case hr=>first|(go_simp;done)|(go_simp;rfl));intro gb172 hg w9 hbox hb;have n0_:=Aside0.mk (below_step (by repeat (first|(with_reducible first|exact HB.out|apply below_alloc|apply pw_below_drewN|apply below_drew1)|exact HB.out)) hb);have n1_:=Aside0.mk (hbox);have n2_:=Aside0.mk ((by rw [hg];exact (below_size (by repeat (first|(with_reducible first|exact HB.out|apply below_alloc|apply pw_below_drewN|apply below_drew1)|exact HB.out))) : w.heap.size≤gb172));have n3_:=Aside0.mk ((by rw [hg];exact (below_size (by repeat (first|(with_reducible first|exact HB.out|apply below_alloc|apply pw_below_drewN|apply below_drew1)|exact HB.out))) : w.heap.size≤gb172));clear HB;have HB:=n0_;have BK172:=n1_;have GW172:=n2_;have GE172:=n3_;clear n0_ n1_ n2_ n3_;clear hb hbox hg)|((with_reducible refine gate_dst (N:=2) rfl ?_);refine box_event ?hg (N:=2) ?hd (cs:=#[.string (⟨#[]⟩ : ByteArray),.int .u32 0,.int .i64 0]) (t:=43) ?hr ?_;(case hd=>rfl);(case hg=>rfl);(case hr=>first|(go_simp;done)|(go_simp;rfl));intro gb173 hg w10 hbox hb;have n0_:=Aside0.mk (blk_below (g:=gb172) (o:=.cells #[.string a0_0,.int .u32 a0_1,.int .i64 a0_2] 43 (0,0)) (by (with_reducible repeat (first|refine blk_drewN ?_ _|refine blk_drew ?_|refine blk_alloc ?_ _));exact BK172.out) hb);have n1_:=Aside0.mk (below_step (by repeat (first|(with_reducible first|exact HB.out|apply below_alloc|apply pw_below_drewN|apply below_drew1|refine below_set ?_ GE172.out)|exact HB.out)) hb);have n2_:=Aside0.mk (hbox);have n3_:=Aside0.mk ((by rw [hg];exact (below_size (by repeat (first|(with_reducible first|exact HB.out|apply below_alloc|apply pw_below_drewN|apply below_drew1|refine below_set ?_ GE172.out)|exact HB.out))) : w.heap.size≤gb173));have n4_:=Aside0.mk ((by rw [hg];exact (below_size (by repeat (first|(with_reducible first|exact HB.out|apply below_alloc|apply pw_below_drewN|apply below_drew1|refine below_set ?_ GE172.out)|exact HB.out))) : w.heap.size≤gb173));have n5_:=Aside0.mk ((by rw [hg];exact Nat.ne_of_lt (blk_lt (g:=gb172) (o:=.cells #[.string a0_0,.int .u32 a0_1,.int .i64 a0_2] 43 (0,0)) (by (with_reducible repeat (first|refine blk_drewN ?_ _|refine blk_drew ?_|refine blk_alloc ?_ _));exact BK172.out)) : gb172≠gb173));have n6_:=Aside0.mk ((by rw [hg];exact Nat.ne_of_gt (blk_lt (g:=gb172) (o:=.cells #[.string a0_0,.int .u32 a0_1,.int .i64 a0_2] 43 (0,0)) (by (with_reducible repeat (first|refine blk_drewN ?_ _|refine blk_drew ?_|refine blk_alloc ?_ _));exact BK172.out)) : gb173≠gb172));clear BK172;clear HB;have BK172:=n0_;have HB:=n1_;have BK173:=n2_;have GW173:=n3_;have GE173:=n4_;have NB172_173:=n5_;have NB173_172:=n6_;clear n0_ n1_ n2_ n3_ n4_ n5_ n6_;clear hb hbox hg;have hnb11:=NB172_173.out;have hnc11:=NB173_172.out;have hcz12_0 : w10.cell? ⟨gb172,0,none⟩=some (.string a0_0):=(blk_cell BK172.out 0).trans rfl;have hcz12_1 : w10.cell? ⟨gb172,1,none⟩=some (.int .u32 a0_1):=(blk_cell BK172.out 1).trans rfl;have hcz12_2 : w10.cell? ⟨gb172,2,none⟩=some (.int .i64 a0_2):=(blk_cell BK172.out 2).trans rfl;have hfz12_0:=blk_frozen BK172.out 0;have hfz12_1:=blk_frozen BK172.out 1;have hfz12_2:=blk_frozen BK172.out 2;have hcz13_0 : w10.cell? ⟨gb173,0,none⟩=some (.string (⟨#[]⟩ : ByteArray)):=(blk_cell BK173.out 0).trans rfl;have hcz13_1 : w10.cell? ⟨gb173,1,none⟩=some (.int .u32 0):=(blk_cell BK173.out 1).trans rfl;have hcz13_2 : w10.cell? ⟨gb173,2,none⟩=some (.int .i64 0):=(blk_cell BK173.out 2).trans rfl;have hfz13_0:=blk_frozen BK173.out 0;have hfz13_1:=blk_frozen BK173.out 1;have hfz13_2:=blk_frozen BK173.out 2))
  refine bodyPost_ret (results_cell_row rfl _ _ gb173 43 #[.string a0_0,.int .u32 a0_1,.int .i64 (Go.bits .and .i64 a0_2 65535)] (0,0) _ rfl (by (with_reducible repeat (first|refine blk_drewN ?_ _|refine blk_drew ?_|refine blk_alloc ?_ _));refine blk_put (cs:=#[.string a0_0,.int .u32 a0_1,.int .i64 0]) ?_ 2 _ rfl;(with_reducible repeat (first|refine blk_drewN ?_ _|refine blk_drew ?_|refine blk_alloc ?_ _));refine blk_put (cs:=#[.string a0_0,.int .u32 0,.int .i64 0]) ?_ 1 _ rfl;(with_reducible repeat (first|refine blk_drewN ?_ _|refine blk_drew ?_|refine blk_alloc ?_ _));refine blk_put (cs:=#[.string (⟨#[]⟩ : ByteArray),.int .u32 0,.int .i64 0]) ?_ 0 _ rfl;(with_reducible repeat (first|refine blk_drewN ?_ _|refine blk_drew ?_|refine blk_alloc ?_ _));refine blk_far ?_ NB173_172.out _;(with_reducible repeat (first|refine blk_drewN ?_ _|refine blk_drew ?_|refine blk_alloc ?_ _));exact BK173.out) Try.underlying43 rfl (by kernel_rfl)) rfl ?_
  exact ⟨by first|rfl|(simp [errW_none,errW_some] <;> rfl)|(simp [*,errW_none,errW_some] <;> rfl),by repeat (first|(with_reducible first|exact HB.out|apply below_alloc|apply pw_below_drewN|apply below_drew1|refine below_set ?_ GE172.out|refine below_set ?_ GE173.out)|exact HB.out)⟩
end Go.Proofs.Ytfegabikfkmepaa.PNe
end
section
namespace Go.Proofs.Ytfegabikfkmepaa.PNe
open Go.RowKit Go.Proofs.YtfegabikfkmepaaW.PrintWords Go.Proofs.YtfegabikfkmepaaW.PrintLast Go.Proofs.YtfegabikfkmepaaW.PrintMore
attribute [local go_sem] max2_int min2_int max_two min_two max_three min_three max_four min_four
set_option linter.unusedVariables false
set_option linter.unusedSimpArgs false
def girderlaw12_before.f (a0_0 : ByteArray) (a0_1 : Int) (a0_2 : Int) (a1_0 : ByteArray) (a1_1 : Int) (a1_2 : Int) : Option (Bool):=if a0_0.toList=a1_0.toList then (if a0_1=a1_1 then (some (decide (a0_2 < a1_2))) else (some (decide (a0_1 < a1_1)))) else (some (Op.bytesLess a0_0.toList a1_0.toList))
set_option maxHeartbeats 8000000 in
set_option maxRecDepth 100000 in
theorem girderlaw12_before.calls (a0_0 : ByteArray) (a0_1 : Int) (a0_2 : Int) (a1_0 : ByteArray) (a1_1 : Int) (a1_2 : Int) (r : Bool) (w : World) (h : girderlaw12_before.f a0_0 a0_1 a0_2 a1_0 a1_1 a1_2=some r) :
  Calls Try.prog 17 #[.agg #[.string a0_0,.int .u32 a0_1,.int .i64 a0_2],.agg #[.string a1_0,.int .u32 a1_1,.int .i64 a1_2]] w fun e w'=>e=.returned (.bool r)∧Below w.heap.size w w':=by
 have hu43:=Try.underlying43
 have HB:=Aside0.mk (Below.refl w.heap.size w)
 have H : (if a0_0.toList=a1_0.toList then (if a0_1=a1_1 then (some (decide (a0_2 < a1_2))) else (some (decide (a0_1 < a1_1)))) else (some (Op.bytesLess a0_0.toList a1_0.toList)))=some r:=h
 clear h
 by_cases c3 : a0_0.toList=a1_0.toList
 ·rw [if_pos c3] at H
  have c3b0 : (a0_0.toList == a1_0.toList)=true:=beq_iff_eq.mpr c3
  have c3b1 : (a0_0.toList != a1_0.toList)=false:=bne_eq_false_iff_eq.mpr c3
  clear c3
  by_cases c4 : a0_1=a1_1
  ·rw [if_pos c4] at H
   have c4b0 : (a0_1 == a1_1)=true:=beq_iff_eq.mpr c4
   have c4b1 : (a0_1 != a1_1)=false:=bne_eq_false_iff_eq.mpr c4
   clear c4
   obtain rfl:=Option.some.inj H
   go_enter Try.func17,Try.ntmps17
   go_wp2_with (first|((with_reducible refine gate_dst (N:=2) rfl ?_);refine box_event ?hg (N:=2) ?hd (cs:=#[.string a0_0,.int .u32 a0_1,.int .i64 a0_2]) (t:=43) ?hr ?_;(case hd=>rfl);(case hg=>rfl);(case hr=>first|(go_simp;done)|(go_simp;rfl));intro gb174 hg w5 hbox hb;have n0_:=Aside0.mk (below_step (by repeat (first|(with_reducible first|exact HB.out|apply below_alloc|apply pw_below_drewN|apply below_drew1)|exact HB.out)) hb);have n1_:=Aside0.mk (hbox);have n2_:=Aside0.mk ((by rw [hg];exact (below_size (by repeat (first|(with_reducible first|exact HB.out|apply below_alloc|apply pw_below_drewN|apply below_drew1)|exact HB.out))) : w.heap.size≤gb174));have n3_:=Aside0.mk ((by rw [hg];exact (below_size (by repeat (first|(with_reducible first|exact HB.out|apply below_alloc|apply pw_below_drewN|apply below_drew1)|exact HB.out))) : w.heap.size≤gb174));clear HB;have HB:=n0_;have BK174:=n1_;have GW174:=n2_;have GE174:=n3_;clear n0_ n1_ n2_ n3_;clear hb hbox hg)|((with_reducible refine gate_dst (N:=3) rfl ?_);refine box_event ?hg (N:=3) ?hd (cs:=#[.string a1_0,.int .u32 a1_1,.int .i64 a1_2]) (t:=43) ?hr ?_;(case hd=>rfl);(case hg=>rfl);(case hr=>first|(go_simp;done)|(go_simp;rfl));intro gb175 hg w6 hbox hb;have n0_:=Aside0.mk (blk_below (g:=gb174) (o:=.cells #[.string a0_0,.int .u32 a0_1,.int .i64 a0_2] 43 (0,0)) (by (with_reducible repeat (first|refine blk_drewN ?_ _|refine blk_drew ?_|refine blk_alloc ?_ _));exact BK174.out) hb);have n1_:=Aside0.mk (below_step (by repeat (first|(with_reducible first|exact HB.out|apply below_alloc|apply pw_below_drewN|apply below_drew1|refine below_set ?_ GE174.out)|exact HB.out)) hb);have n2_:=Aside0.mk (hbox);have n3_:=Aside0.mk ((by rw [hg];exact (below_size (by repeat (first|(with_reducible first|exact HB.out|apply below_alloc|apply pw_below_drewN|apply below_drew1|refine below_set ?_ GE174.out)|exact HB.out))) : w.heap.size≤gb175));have n4_:=Aside0.mk ((by rw [hg];exact (below_size (by repeat (first|(with_reducible first|exact HB.out|apply below_alloc|apply pw_below_drewN|apply below_drew1|refine below_set ?_ GE174.out)|exact HB.out))) : w.heap.size≤gb175));have n5_:=Aside0.mk ((by rw [hg];exact Nat.ne_of_lt (blk_lt (g:=gb174) (o:=.cells #[.string a0_0,.int .u32 a0_1,.int .i64 a0_2] 43 (0,0)) (by (with_reducible repeat (first|refine blk_drewN ?_ _|refine blk_drew ?_|refine blk_alloc ?_ _));exact BK174.out)) : gb174≠gb175));have n6_:=Aside0.mk ((by rw [hg];exact Nat.ne_of_gt (blk_lt (g:=gb174) (o:=.cells #[.string a0_0,.int .u32 a0_1,.int .i64 a0_2] 43 (0,0)) (by (with_reducible repeat (first|refine blk_drewN ?_ _|refine blk_drew ?_|refine blk_alloc ?_ _));exact BK174.out)) : gb175≠gb174));clear BK174;clear HB;have BK174:=n0_;have HB:=n1_;have BK175:=n2_;have GW175:=n3_;have GE175:=n4_;have NB174_175:=n5_;have NB175_174:=n6_;clear n0_ n1_ n2_ n3_ n4_ n5_ n6_;clear hb hbox hg;have hnb7:=NB174_175.out;have hnc7:=NB175_174.out;have hcz8_0 : w6.cell? ⟨gb174,0,none⟩=some (.string a0_0):=(blk_cell BK174.out 0).trans rfl;have hcz8_1 : w6.cell? ⟨gb174,1,none⟩=some (.int .u32 a0_1):=(blk_cell BK174.out 1).trans rfl;have hcz8_2 : w6.cell? ⟨gb174,2,none⟩=some (.int .i64 a0_2):=(blk_cell BK174.out 2).trans rfl;have hfz8_0:=blk_frozen BK174.out 0;have hfz8_1:=blk_frozen BK174.out 1;have hfz8_2:=blk_frozen BK174.out 2;have hcz9_0 : w6.cell? ⟨gb175,0,none⟩=some (.string a1_0):=(blk_cell BK175.out 0).trans rfl;have hcz9_1 : w6.cell? ⟨gb175,1,none⟩=some (.int .u32 a1_1):=(blk_cell BK175.out 1).trans rfl;have hcz9_2 : w6.cell? ⟨gb175,2,none⟩=some (.int .i64 a1_2):=(blk_cell BK175.out 2).trans rfl;have hfz9_0:=blk_frozen BK175.out 0;have hfz9_1:=blk_frozen BK175.out 1;have hfz9_2:=blk_frozen BK175.out 2))
   go_ret
   exact ⟨by first|rfl|(simp [errW_none,errW_some] <;> rfl)|(simp [*,errW_none,errW_some] <;> rfl),by repeat (first|(with_reducible first|exact HB.out|apply below_alloc|apply pw_below_drewN|apply below_drew1|refine below_set ?_ GE174.out|refine below_set ?_ GE175.out)|exact HB.out)⟩
  ·rw [if_neg c4] at H
   have c4b0 : (a0_1 == a1_1)=false:=beq_eq_false_iff_ne.mpr c4
   have c4b1 : (a0_1 != a1_1)=true:=bne_iff_ne.mpr c4
   obtain rfl:=Option.some.inj H
   go_enter Try.func17,Try.ntmps17
   go_wp2_with (first|((with_reducible refine gate_dst (N:=2) rfl ?_);refine box_event ?hg (N:=2) ?hd (cs:=#[.string a0_0,.int .u32 a0_1,.int .i64 a0_2]) (t:=43) ?hr ?_;(case hd=>rfl);(case hg=>rfl);(case hr=>first|(go_simp;done)|(go_simp;rfl));intro gb174 hg w10 hbox hb;have n0_:=Aside0.mk (below_step (by repeat (first|(with_reducible first|exact HB.out|apply below_alloc|apply pw_below_drewN|apply below_drew1)|exact HB.out)) hb);have n1_:=Aside0.mk (hbox);have n2_:=Aside0.mk ((by rw [hg];exact (below_size (by repeat (first|(with_reducible first|exact HB.out|apply below_alloc|apply pw_below_drewN|apply below_drew1)|exact HB.out))) : w.heap.size≤gb174));have n3_:=Aside0.mk ((by rw [hg];exact (below_size (by repeat (first|(with_reducible first|exact HB.out|apply below_alloc|apply pw_below_drewN|apply below_drew1)|exact HB.out))) : w.heap.size≤gb174));clear HB;have HB:=n0_;have BK174:=n1_;have GW174:=n2_;have GE174:=n3_;clear n0_ n1_ n2_ n3_;clear hb hbox hg)|((with_reducible refine gate_dst (N:=3) rfl ?_);refine box_event ?hg (N:=3) ?hd (cs:=#[.string a1_0,.int .u32 a1_1,.int .i64 a1_2]) (t:=43) ?hr ?_;(case hd=>rfl);(case hg=>rfl);(case hr=>first|(go_simp;done)|(go_simp;rfl));intro gb175 hg w11 hbox hb;have n0_:=Aside0.mk (blk_below (g:=gb174) (o:=.cells #[.string a0_0,.int .u32 a0_1,.int .i64 a0_2] 43 (0,0)) (by (with_reducible repeat (first|refine blk_drewN ?_ _|refine blk_drew ?_|refine blk_alloc ?_ _));exact BK174.out) hb);have n1_:=Aside0.mk (below_step (by repeat (first|(with_reducible first|exact HB.out|apply below_alloc|apply pw_below_drewN|apply below_drew1|refine below_set ?_ GE174.out)|exact HB.out)) hb);have n2_:=Aside0.mk (hbox);have n3_:=Aside0.mk ((by rw [hg];exact (below_size (by repeat (first|(with_reducible first|exact HB.out|apply below_alloc|apply pw_below_drewN|apply below_drew1|refine below_set ?_ GE174.out)|exact HB.out))) : w.heap.size≤gb175));have n4_:=Aside0.mk ((by rw [hg];exact (below_size (by repeat (first|(with_reducible first|exact HB.out|apply below_alloc|apply pw_below_drewN|apply below_drew1|refine below_set ?_ GE174.out)|exact HB.out))) : w.heap.size≤gb175));have n5_:=Aside0.mk ((by rw [hg];exact Nat.ne_of_lt (blk_lt (g:=gb174) (o:=.cells #[.string a0_0,.int .u32 a0_1,.int .i64 a0_2] 43 (0,0)) (by (with_reducible repeat (first|refine blk_drewN ?_ _|refine blk_drew ?_|refine blk_alloc ?_ _));exact BK174.out)) : gb174≠gb175));have n6_:=Aside0.mk ((by rw [hg];exact Nat.ne_of_gt (blk_lt (g:=gb174) (o:=.cells #[.string a0_0,.int .u32 a0_1,.int .i64 a0_2] 43 (0,0)) (by (with_reducible repeat (first|refine blk_drewN ?_ _|refine blk_drew ?_|refine blk_alloc ?_ _));exact BK174.out)) : gb175≠gb174));clear BK174;clear HB;have BK174:=n0_;have HB:=n1_;have BK175:=n2_;have GW175:=n3_;have GE175:=n4_;have NB174_175:=n5_;have NB175_174:=n6_;clear n0_ n1_ n2_ n3_ n4_ n5_ n6_;clear hb hbox hg;have hnb12:=NB174_175.out;have hnc12:=NB175_174.out;have hcz13_0 : w11.cell? ⟨gb174,0,none⟩=some (.string a0_0):=(blk_cell BK174.out 0).trans rfl;have hcz13_1 : w11.cell? ⟨gb174,1,none⟩=some (.int .u32 a0_1):=(blk_cell BK174.out 1).trans rfl;have hcz13_2 : w11.cell? ⟨gb174,2,none⟩=some (.int .i64 a0_2):=(blk_cell BK174.out 2).trans rfl;have hfz13_0:=blk_frozen BK174.out 0;have hfz13_1:=blk_frozen BK174.out 1;have hfz13_2:=blk_frozen BK174.out 2;have hcz14_0 : w11.cell? ⟨gb175,0,none⟩=some (.string a1_0):=(blk_cell BK175.out 0).trans rfl;have hcz14_1 : w11.cell? ⟨gb175,1,none⟩=some (.int .u32 a1_1):=(blk_cell BK175.out 1).trans rfl;have hcz14_2 : w11.cell? ⟨gb175,2,none⟩=some (.int .i64 a1_2):=(blk_cell BK175.out 2).trans rfl;have hfz14_0:=blk_frozen BK175.out 0;have hfz14_1:=blk_frozen BK175.out 1;have hfz14_2:=blk_frozen BK175.out 2))
   go_ret
   exact ⟨by first|rfl|(simp [errW_none,errW_some] <;> rfl)|(simp [*,errW_none,errW_some] <;> rfl),by repeat (first|(with_reducible first|exact HB.out|apply below_alloc|apply pw_below_drewN|apply below_drew1|refine below_set ?_ GE174.out|refine below_set ?_ GE175.out)|exact HB.out)⟩
 ·rw [if_neg c3] at H
  have c3b0 : (a0_0.toList == a1_0.toList)=false:=beq_eq_false_iff_ne.mpr c3
  have c3b1 : (a0_0.toList != a1_0.toList)=true:=bne_iff_ne.mpr c3
  obtain rfl:=Option.some.inj H
  go_enter Try.func17,Try.ntmps17
  go_wp2_with (first|((with_reducible refine gate_dst (N:=2) rfl ?_);refine box_event ?hg (N:=2) ?hd (cs:=#[.string a0_0,.int .u32 a0_1,.int .i64 a0_2]) (t:=43) ?hr ?_;(case hd=>rfl);(case hg=>rfl);(case hr=>first|(go_simp;done)|(go_simp;rfl));intro gb174 hg w15 hbox hb;have n0_:=Aside0.mk (below_step (by repeat (first|(with_reducible first|exact HB.out|apply below_alloc|apply pw_below_drewN|apply below_drew1)|exact HB.out)) hb);have n1_:=Aside0.mk (hbox);have n2_:=Aside0.mk ((by rw [hg];exact (below_size (by repeat (first|(with_reducible first|exact HB.out|apply below_alloc|apply pw_below_drewN|apply below_drew1)|exact HB.out))) : w.heap.size≤gb174));have n3_:=Aside0.mk ((by rw [hg];exact (below_size (by repeat (first|(with_reducible first|exact HB.out|apply below_alloc|apply pw_below_drewN|apply below_drew1)|exact HB.out))) : w.heap.size≤gb174));clear HB;have HB:=n0_;have BK174:=n1_;have GW174:=n2_;have GE174:=n3_;clear n0_ n1_ n2_ n3_;clear hb hbox hg)|((with_reducible refine gate_dst (N:=3) rfl ?_);refine box_event ?hg (N:=3) ?hd (cs:=#[.string a1_0,.int .u32 a1_1,.int .i64 a1_2]) (t:=43) ?hr ?_;(case hd=>rfl);(case hg=>rfl);(case hr=>first|(go_simp;done)|(go_simp;rfl));intro gb175 hg w16 hbox hb;have n0_:=Aside0.mk (blk_below (g:=gb174) (o:=.cells #[.string a0_0,.int .u32 a0_1,.int .i64 a0_2] 43 (0,0)) (by (with_reducible repeat (first|refine blk_drewN ?_ _|refine blk_drew ?_|refine blk_alloc ?_ _));exact BK174.out) hb);have n1_:=Aside0.mk (below_step (by repeat (first|(with_reducible first|exact HB.out|apply below_alloc|apply pw_below_drewN|apply below_drew1|refine below_set ?_ GE174.out)|exact HB.out)) hb);have n2_:=Aside0.mk (hbox);have n3_:=Aside0.mk ((by rw [hg];exact (below_size (by repeat (first|(with_reducible first|exact HB.out|apply below_alloc|apply pw_below_drewN|apply below_drew1|refine below_set ?_ GE174.out)|exact HB.out))) : w.heap.size≤gb175));have n4_:=Aside0.mk ((by rw [hg];exact (below_size (by repeat (first|(with_reducible first|exact HB.out|apply below_alloc|apply pw_below_drewN|apply below_drew1|refine below_set ?_ GE174.out)|exact HB.out))) : w.heap.size≤gb175));have n5_:=Aside0.mk ((by rw [hg];exact Nat.ne_of_lt (blk_lt (g:=gb174) (o:=.cells #[.string a0_0,.int .u32 a0_1,.int .i64 a0_2] 43 (0,0)) (by (with_reducible repeat (first|refine blk_drewN ?_ _|refine blk_drew ?_|refine blk_alloc ?_ _));exact BK174.out)) : gb174≠gb175));have n6_:=Aside0.mk ((by rw [hg];exact Nat.ne_of_gt (blk_lt (g:=gb174) (o:=.cells #[.string a0_0,.int .u32 a0_1,.int .i64 a0_2] 43 (0,0)) (by (with_reducible repeat (first|refine blk_drewN ?_ _|refine blk_drew ?_|refine blk_alloc ?_ _));exact BK174.out)) : gb175≠gb174));clear BK174;clear HB;have BK174:=n0_;have HB:=n1_;have BK175:=n2_;have GW175:=n3_;have GE175:=n4_;have NB174_175:=n5_;have NB175_174:=n6_;clear n0_ n1_ n2_ n3_ n4_ n5_ n6_;clear hb hbox hg;have hnb17:=NB174_175.out;have hnc17:=NB175_174.out;have hcz18_0 : w16.cell? ⟨gb174,0,none⟩=some (.string a0_0):=(blk_cell BK174.out 0).trans rfl;have hcz18_1 : w16.cell? ⟨gb174,1,none⟩=some (.int .u32 a0_1):=(blk_cell BK174.out 1).trans rfl;have hcz18_2 : w16.cell? ⟨gb174,2,none⟩=some (.int .i64 a0_2):=(blk_cell BK174.out 2).trans rfl;have hfz18_0:=blk_frozen BK174.out 0;have hfz18_1:=blk_frozen BK174.out 1;have hfz18_2:=blk_frozen BK174.out 2;have hcz19_0 : w16.cell? ⟨gb175,0,none⟩=some (.string a1_0):=(blk_cell BK175.out 0).trans rfl;have hcz19_1 : w16.cell? ⟨gb175,1,none⟩=some (.int .u32 a1_1):=(blk_cell BK175.out 1).trans rfl;have hcz19_2 : w16.cell? ⟨gb175,2,none⟩=some (.int .i64 a1_2):=(blk_cell BK175.out 2).trans rfl;have hfz19_0:=blk_frozen BK175.out 0;have hfz19_1:=blk_frozen BK175.out 1;have hfz19_2:=blk_frozen BK175.out 2))
  go_ret
  exact ⟨by first|rfl|(simp [errW_none,errW_some] <;> rfl)|(simp [*,errW_none,errW_some] <;> rfl),by repeat (first|(with_reducible first|exact HB.out|apply below_alloc|apply pw_below_drewN|apply below_drew1|refine below_set ?_ GE174.out|refine below_set ?_ GE175.out)|exact HB.out)⟩
end Go.Proofs.Ytfegabikfkmepaa.PNe
end
section
namespace Go.Proofs.Ytfegabikfkmepaa.PNe
open Go.RowKit Go.Proofs.YtfegabikfkmepaaW.PrintWords Go.Proofs.YtfegabikfkmepaaW.PrintLast Go.Proofs.YtfegabikfkmepaaW.PrintMore
attribute [local go_sem] max2_int min2_int max_two min_two max_three min_three max_four min_four
set_option linter.unusedVariables false
set_option linter.unusedSimpArgs false
def girderref01_Put.f (a0 : Int) (a1 : Int) : Option (ByteArray):=if 0≤a0∧a0≤18446744073709551615 then some (Go.Gi.bs (Go.Gi.putL (Go.Gi.clamp8 a1) a0.toNat)) else none
set_option maxHeartbeats 8000000 in
set_option maxRecDepth 100000 in
theorem girderref01_Put.calls (a0 : Int) (a1 : Int) (r : ByteArray) (w : World) (h : girderref01_Put.f a0 a1=some r) :
  Calls Try.prog 26 #[.int .u64 a0,.int .i64 a1] w fun e w'=>e=.returned (.string r)∧Below w.heap.size w w':=by
 unfold girderref01_Put.f at h
 split at h
 ·rename_i hs
  obtain rfl:=Option.some.inj h
  obtain ⟨m,rfl⟩:=Int.eq_ofNat_of_zero_le hs.1
  exact rput_any m a1 w (by omega)
 ·cases h
end Go.Proofs.Ytfegabikfkmepaa.PNe
end
section
namespace Go.Proofs.Ytfegabikfkmepaa.PNe
open Go.RowKit Go.Proofs.YtfegabikfkmepaaW.PrintWords Go.Proofs.YtfegabikfkmepaaW.PrintLast Go.Proofs.YtfegabikfkmepaaW.PrintMore
attribute [local go_sem] max2_int min2_int max_two min_two max_three min_three max_four min_four
set_option linter.unusedVariables false
set_option linter.unusedSimpArgs false
def girderlaw12_slot.f (a0_0 : ByteArray) (a0_1 : Int) (a0_2 : Int) : Option (ByteArray):=(girderref01_Put.f (IntKind.u64.wrap (a0_1)) 4).bind fun t194=>((girderref01_Put.f (IntKind.u64.wrap (a0_2)) 2).bind fun t195=>(if t194.size + t195.size≤9223372036854775807 then (if (t194 ++ t195).size + a0_0.size≤9223372036854775807 then (some ((t194 ++ t195) ++ a0_0)) else (none)) else (none)))
def girderlaw12_slot.T1 : Bool × List (List Nat × List Nat):=(true,[([],[]),([0],[0]),([1],[1]),([2],[2]),([3],[3]),([],[]),([5],[5]),([6],[6]),([7],[7]),([8,4],[8]),([4,9],[4,9]),([],[]),([11],[11]),([10,12],[10,12]),([13,9,0,1,2,3,4,5,6,7,8,9,10,11,12,13],[13])])
def girderlaw12_slot.B1 : List Nat:=[0,1,3,7,15,0,32,96,224,511,1023,0,2048,8191,16383]
theorem girderlaw12_slot.tab1 : rtab .any (opsOf Try.f27 1)=girderlaw12_slot.T1:=by kernel_rfl
theorem girderlaw12_slot.bits1 : waitsOk girderlaw12_slot.T1.2 girderlaw12_slot.B1=true:=by kernel_rfl
set_option maxHeartbeats 8000000 in
set_option maxRecDepth 100000 in
theorem girderlaw12_slot.calls (a0_0 : ByteArray) (a0_1 : Int) (a0_2 : Int) (r : ByteArray) (w : World) (h : girderlaw12_slot.f a0_0 a0_1 a0_2=some r) :
  Calls Try.prog 27 #[.agg #[.string a0_0,.int .u32 a0_1,.int .i64 a0_2]] w fun e w'=>e=.returned (.string r)∧Below w.heap.size w w':=by
 have hu43:=Try.underlying43
 have HB:=Aside0.mk (Below.refl w.heap.size w)
 have H : ((girderref01_Put.f (IntKind.u64.wrap (a0_1)) 4).bind fun t194=>((girderref01_Put.f (IntKind.u64.wrap (a0_2)) 2).bind fun t195=>(if t194.size + t195.size≤9223372036854775807 then (if (t194 ++ t195).size + a0_0.size≤9223372036854775807 then (some ((t194 ++ t195) ++ a0_0)) else (none)) else (none))))=some r:=h
 clear h
 replace H:=Option.bind_eq_some_iff.mp H
 obtain ⟨t194,A20,H⟩:=H
 replace H : ((girderref01_Put.f (IntKind.u64.wrap (a0_2)) 2).bind fun t195=>(if t194.size + t195.size≤9223372036854775807 then (if (t194 ++ t195).size + a0_0.size≤9223372036854775807 then (some ((t194 ++ t195) ++ a0_0)) else (none)) else (none)))=some r:=H
 have A2:=Aside0.mk A20
 clear A20
 replace H:=Option.bind_eq_some_iff.mp H
 obtain ⟨t195,A30,H⟩:=H
 replace H : (if t194.size + t195.size≤9223372036854775807 then (if (t194 ++ t195).size + a0_0.size≤9223372036854775807 then (some ((t194 ++ t195) ++ a0_0)) else (none)) else (none))=some r:=H
 have A3:=Aside0.mk A30
 clear A30
 by_cases c4 : t194.size + t195.size≤9223372036854775807
 ·rw [if_pos c4] at H
  have c4b0:=eq_true c4
  have c4b1 : decide (t194.size + t195.size≤9223372036854775807)=true:=decide_eq_true c4
  try have c4b2 : (9223372036854775807 < t194.size + t195.size)=False:=eq_false (Nat.not_lt.2 c4)
  by_cases c5 : (t194 ++ t195).size + a0_0.size≤9223372036854775807
  ·rw [if_pos c5] at H
   have c5b0:=eq_true c5
   have c5b1 : decide ((t194 ++ t195).size + a0_0.size≤9223372036854775807)=true:=decide_eq_true c5
   try have c5b2 : (9223372036854775807 < (t194 ++ t195).size + a0_0.size)=False:=eq_false (Nat.not_lt.2 c5)
   try have c5b3:=c5b2
   try simp only [ByteArray.size_append] at c5b3
   obtain rfl:=Option.some.inj H
   go_enter Try.func27,Try.ntmps27
   try go_wp2_with (first|((with_reducible refine gate_dst (N:=1) rfl ?_);refine box_event ?hg (N:=1) ?hd (cs:=#[.string a0_0,.int .u32 a0_1,.int .i64 a0_2]) (t:=43) ?hr ?_;(case hd=>rfl);(case hg=>rfl);(case hr=>first|(go_simp;done)|(go_simp;rfl));intro gb193 hg w6 hbox hb;have n0_:=Aside0.mk (below_step (by repeat (first|(with_reducible first|exact HB.out|apply below_alloc|apply pw_below_drewN|apply below_drew1)|exact HB.out)) hb);have n1_:=Aside0.mk (hbox);have n2_:=Aside0.mk ((by rw [hg];exact (below_size (by repeat (first|(with_reducible first|exact HB.out|apply below_alloc|apply pw_below_drewN|apply below_drew1)|exact HB.out))) : w.heap.size≤gb193));have n3_:=Aside0.mk ((by rw [hg];exact (below_size (by repeat (first|(with_reducible first|exact HB.out|apply below_alloc|apply pw_below_drewN|apply below_drew1)|exact HB.out))) : w.heap.size≤gb193));clear HB;have HB:=n0_;have BK193:=n1_;have GW193:=n2_;have GE193:=n3_;clear n0_ n1_ n2_ n3_;clear hb hbox hg))
   have n0_:=Aside0.mk (blk_drew BK193.out)
   have n1_:=Aside0.mk (below_drew1 HB.out)
   clear BK193
   clear HB
   have BK193:=n0_
   have HB:=n1_
   clear n0_ n1_
   refine start_ (n:=15) (S:=fun w'=>w'.cell? ⟨gb193,0,none⟩=some (.string a0_0)∧w'.cell? ⟨gb193,1,none⟩=some (.int .u32 a0_1)∧w'.cell? ⟨gb193,2,none⟩=some (.int .i64 a0_2)) (ds:=[]) #[false,false,false,false,false,false,false,false,false,false,false,false,false,false,false] (by kernel_rfl) rfl rfl ⟨(blk_cell BK193.out 0).trans rfl,(blk_cell BK193.out 1).trans rfl,(blk_cell BK193.out 2).trans rfl⟩ (fun hHeld=>?_);refine with_tabW girderlaw12_slot.tab1 girderlaw12_slot.bits1 (fun HT_ HW_=>?_)
   generalize w6.drew=w7 at BK193 HB hHeld ⊢
   refine pure_ (i:=0) (N:=some 3) (v:=?_) (a':=?_) #[true,false,false,false,false,false,false,false,false,false,false,false,false,false,false] rfl rfl (any_of HT_.out (by kernel_rfl)) (fun _ _ _ h=>h) (Or.inl ⟨by rfl,?_⟩) ?_ ?_;rotate_left;(focus (intro w';go_simp;with_reducible rfl));rotate_left;(focus (simp only [Act.put,sA_,sB_,sC_,i64_w,i32_w];rfl))
   refine pure_ (i:=1) (N:=some 4) (v:=?_) (a':=?_) #[true,true,false,false,false,false,false,false,false,false,false,false,false,false,false] rfl rfl (any_of HT_.out (by kernel_rfl)) (fun _ _ _ h=>h) (Or.inl ⟨by rfl,?_⟩) ?_ ?_;rotate_left;(focus (intro w';go_simp;with_reducible rfl));rotate_left;(focus (simp only [Act.put,sA_,sB_,sC_,i64_w,i32_w];rfl))
   refine pure_ (i:=5) (N:=some 8) (v:=?_) (a':=?_) #[true,true,false,false,false,true,false,false,false,false,false,false,false,false,false] rfl rfl (any_of HT_.out (by kernel_rfl)) (fun _ _ _ h=>h) (Or.inl ⟨by rfl,?_⟩) ?_ ?_;rotate_left;(focus (intro w';go_simp;with_reducible rfl));rotate_left;(focus (simp only [Act.put,sA_,sB_,sC_,i64_w,i32_w];rfl))
   refine pure_ (i:=6) (N:=some 9) (v:=?_) (a':=?_) #[true,true,false,false,false,true,true,false,false,false,false,false,false,false,false] rfl rfl (any_of HT_.out (by kernel_rfl)) (fun _ _ _ h=>h) (Or.inl ⟨by rfl,?_⟩) ?_ ?_;rotate_left;(focus (intro w';go_simp;with_reducible rfl));rotate_left;(focus (simp only [Act.put,sA_,sB_,sC_,i64_w,i32_w];rfl))
   refine pure_ (i:=11) (N:=some 14) (v:=?_) (a':=?_) #[true,true,false,false,false,true,true,false,false,false,false,true,false,false,false] rfl rfl (any_of HT_.out (by kernel_rfl)) (fun _ _ _ h=>h) (Or.inl ⟨by rfl,?_⟩) ?_ ?_;rotate_left;(focus (intro w';go_simp;with_reducible rfl));rotate_left;(focus (simp only [Act.put,sA_,sB_,sC_,i64_w,i32_w];rfl))
   refine take_ (i:=2) (N:=some 5) (v:=?_) (a':=?_) #[true,true,true,false,false,true,true,false,false,false,false,true,false,false,false] rfl rfl (take_ofW HT_.out HW_.out (by kernel_rfl)) (fun _ _ _ h=>h) (Or.inl ⟨by rfl,?_⟩) hHeld ?_ ?_;rotate_left;(focus (rintro w' ⟨s0,s1,s2⟩;go_simp;with_reducible rfl));rotate_left;(focus (simp only [Act.put,sA_,sB_,sC_,i64_w,i32_w];rfl))
   refine pure_ (i:=3) (N:=some 6) (v:=?_) (a':=?_) #[true,true,true,true,false,true,true,false,false,false,false,true,false,false,false] rfl rfl (any_of HT_.out (by kernel_rfl)) (fun _ _ _ h=>h) (Or.inl ⟨by rfl,?_⟩) ?_ ?_;rotate_left;(focus (intro w';go_simp;with_reducible rfl));rotate_left;(focus (simp only [Act.put,sA_,sB_,sC_,i64_w,i32_w];rfl))
   refine take_ (i:=7) (N:=some 10) (v:=?_) (a':=?_) #[true,true,true,true,false,true,true,true,false,false,false,true,false,false,false] rfl rfl (take_ofW HT_.out HW_.out (by kernel_rfl)) (fun _ _ _ h=>h) (Or.inl ⟨by rfl,?_⟩) hHeld ?_ ?_;rotate_left;(focus (rintro w' ⟨s0,s1,s2⟩;go_simp;with_reducible rfl));rotate_left;(focus (simp only [Act.put,sA_,sB_,sC_,i64_w,i32_w];rfl))
   refine pure_ (i:=8) (N:=some 11) (v:=?_) (a':=?_) #[true,true,true,true,false,true,true,true,true,false,false,true,false,false,false] rfl rfl (any_of HT_.out (by kernel_rfl)) (fun _ _ _ h=>h) (Or.inl ⟨by rfl,?_⟩) ?_ ?_;rotate_left;(focus (intro w';go_simp;with_reducible rfl));rotate_left;(focus (simp only [Act.put,sA_,sB_,sC_,i64_w,i32_w];rfl))
   refine take_ (i:=12) (N:=some 15) (v:=?_) (a':=?_) #[true,true,true,true,false,true,true,true,true,false,false,true,true,false,false] rfl rfl (take_ofW HT_.out HW_.out (by kernel_rfl)) (fun _ _ _ h=>h) (Or.inl ⟨by rfl,?_⟩) hHeld ?_ ?_;rotate_left;(focus (rintro w' ⟨s0,s1,s2⟩;go_simp;with_reducible rfl));rotate_left;(focus (simp only [Act.put,sA_,sB_,sC_,i64_w,i32_w];rfl))
   refine one_ (i:=4) (N:=some 7) #[true,true,true,true,true,true,true,true,true,false,false,true,true,false,false] rfl rfl (one_of HT_.out (by kernel_rfl)) (by decide) (fun K hK=>?_)
   refine goes_ Try.func26 (by kernel_rfl) rfl #[.int .u64 (IntKind.u64.wrap (a0_1)),.int .i64 4] (by rfl) rfl rfl (by (try simp only [List.map_toArray,List.map_cons,List.map_nil]);first|done|rfl|(simp only [List.length_drop,List.length_take];rfl)) ?_
   with_reducible refine (girderref01_Put.calls (IntKind.u64.wrap (a0_1)) 4 t194 _ A2.out).mono ?_
   rintro e w8 ⟨rfl,hb⟩
   refine ⟨_,rfl,?_⟩
   have n0_:=Aside0.mk (blk_below (g:=gb193) (o:=.cells #[.string a0_0,.int .u32 a0_1,.int .i64 a0_2] 43 (0,0)) (by (with_reducible repeat (first|refine blk_drewN ?_ _|refine blk_drew ?_|refine blk_alloc ?_ _));exact BK193.out) hb)
   have n1_:=Aside0.mk (below_step (by repeat (first|(with_reducible first|exact HB.out|apply below_alloc|apply pw_below_drewN|apply below_drew1|refine below_set ?_ GE193.out)|exact HB.out)) hb)
   clear BK193
   clear HB
   have BK193:=n0_
   have HB:=n1_
   clear n0_ n1_
   (try clear hb)
   (try clear hb2)
   (try clear hk)
   (try clear hi)
   refine hK.out _ _ ⟨(blk_cell BK193.out 0).trans rfl,(blk_cell BK193.out 1).trans rfl,(blk_cell BK193.out 2).trans rfl⟩ (fun hHeld=>?_)
   clear hK K
   refine norm_ (a':=?_) ?_ ?_
   rotate_left
   ·show Act.put _ (some 7) _=_
    simp only [Act.put,sA_,sB_,sC_,i64_w,i32_w]
    rfl
   refine one_ (i:=9) (N:=some 12) #[true,true,true,true,true,true,true,true,true,true,false,true,true,false,false] rfl rfl (one_of HT_.out (by kernel_rfl)) (by decide) (fun K hK=>?_)
   refine goes_ Try.func26 (by kernel_rfl) rfl #[.int .u64 (IntKind.u64.wrap (a0_2)),.int .i64 2] (by rfl) rfl rfl (by (try simp only [List.map_toArray,List.map_cons,List.map_nil]);first|done|rfl|(simp only [List.length_drop,List.length_take];rfl)) ?_
   with_reducible refine (girderref01_Put.calls (IntKind.u64.wrap (a0_2)) 2 t195 _ A3.out).mono ?_
   rintro e w9 ⟨rfl,hb⟩
   refine ⟨_,rfl,?_⟩
   have n0_:=Aside0.mk (blk_below (g:=gb193) (o:=.cells #[.string a0_0,.int .u32 a0_1,.int .i64 a0_2] 43 (0,0)) (by (with_reducible repeat (first|refine blk_drewN ?_ _|refine blk_drew ?_|refine blk_alloc ?_ _));exact BK193.out) hb)
   have n1_:=Aside0.mk (below_step (by repeat (first|(with_reducible first|exact HB.out|apply below_alloc|apply pw_below_drewN|apply below_drew1|refine below_set ?_ GE193.out)|exact HB.out)) hb)
   clear BK193
   clear HB
   have BK193:=n0_
   have HB:=n1_
   clear n0_ n1_
   (try clear hb)
   (try clear hb2)
   (try clear hk)
   (try clear hi)
   refine hK.out _ _ ⟨(blk_cell BK193.out 0).trans rfl,(blk_cell BK193.out 1).trans rfl,(blk_cell BK193.out 2).trans rfl⟩ (fun hHeld=>?_)
   clear hK K
   refine norm_ (a':=?_) ?_ ?_
   rotate_left
   ·show Act.put _ (some 12) _=_
    simp only [Act.put,sA_,sB_,sC_,i64_w,i32_w]
    rfl
   refine pure_ (i:=10) (N:=some 13) (v:=?_) (a':=?_) #[true,true,true,true,true,true,true,true,true,true,true,true,true,false,false] rfl rfl (any_of HT_.out (by kernel_rfl)) (fun _ _ _ h=>h) (Or.inl ⟨by rfl,?_⟩) ?_ ?_;rotate_left;(focus (intro w';go_simp;with_reducible rfl));rotate_left;(focus (simp only [Act.put,sA_,sB_,sC_,i64_w,i32_w];rfl))
   refine pure_ (i:=13) (N:=some 16) (v:=?_) (a':=?_) #[true,true,true,true,true,true,true,true,true,true,true,true,true,true,false] rfl rfl (any_of HT_.out (by kernel_rfl)) (fun _ _ _ h=>h) (Or.inl ⟨by rfl,?_⟩) ?_ ?_;rotate_left;(focus (intro w';go_simp;with_reducible rfl));rotate_left;(focus (simp only [Act.put,sA_,sB_,sC_,i64_w,i32_w];rfl))
   refine pure_ (i:=14) (N:=some 2) (v:=?_) (a':=?_) #[true,true,true,true,true,true,true,true,true,true,true,true,true,true,true] rfl rfl (any_of HT_.out (by kernel_rfl)) (fun _ _ _ h=>h) (Or.inl ⟨by rfl,?_⟩) ?_ ?_;rotate_left;(focus (intro w';go_simp;with_reducible rfl));rotate_left;(focus (simp only [Act.put,sA_,sB_,sC_,i64_w,i32_w];rfl))
   refine done_ (done_of HT_.out (by kernel_rfl)) ?_
   try go_wp2
   go_ret
   exact ⟨by first|rfl|(simp [errW_none,errW_some] <;> rfl)|(simp [*,errW_none,errW_some] <;> rfl),by repeat (first|(with_reducible first|exact HB.out|apply below_alloc|apply pw_below_drewN|apply below_drew1|refine below_set ?_ GE193.out)|exact HB.out)⟩
  ·rw [if_neg c5] at H
   exact absurd H (by simp)
 ·rw [if_neg c4] at H
  exact absurd H (by simp)
end Go.Proofs.Ytfegabikfkmepaa.PNe
end
section
namespace Go.Proofs.Ytfegabikfkmepaa.PNe
open Go.RowKit Go.Proofs.YtfegabikfkmepaaW.PrintWords Go.Proofs.YtfegabikfkmepaaW.PrintLast Go.Proofs.YtfegabikfkmepaaW.PrintMore
attribute [local go_sem] max2_int min2_int max_two min_two max_three min_three max_four min_four
set_option linter.unusedVariables false
set_option linter.unusedSimpArgs false
def node_FormatInner.f (a0 : Int) : Option (Int × Int × ByteArray × ByteArray):=(raw_Put.f (IntKind.u64.wrap (a0)) 1).bind fun t338=>(some (1,4,t338,(⟨#[]⟩ : ByteArray)))
set_option maxHeartbeats 8000000 in
set_option maxRecDepth 100000 in
theorem node_FormatInner.calls (a0 : Int) (r1 : Int) (r2 : Int) (r3 : ByteArray) (r4 : ByteArray) (w : World) (h : node_FormatInner.f a0=some (r1,r2,r3,r4)) :
  Calls Try.prog 23 #[.int .i64 a0] w fun e w'=>e=.returned (.agg #[.int .i64 r1,.int .i64 r2,.string r3,.string r4])∧Below w.heap.size w w':=by
 have hu38:=Try.underlying38
 have HB:=Aside0.mk (Below.refl w.heap.size w)
 have H : ((raw_Put.f (IntKind.u64.wrap (a0)) 1).bind fun t338=>(some (1,4,t338,(⟨#[]⟩ : ByteArray))))=some (r1,r2,r3,r4):=h
 clear h
 replace H:=Option.bind_eq_some_iff.mp H
 obtain ⟨t338,A20,H⟩:=H
 replace H : (some (1,4,t338,(⟨#[]⟩ : ByteArray)))=some (r1,r2,r3,r4):=H
 have A2:=Aside0.mk A20
 clear A20
 simp only [Option.some.injEq,Prod.mk.injEq] at H
 obtain ⟨rfl,rfl,rfl,rfl⟩:=H
 go_enter Try.func23,Try.ntmps23
 go_wp2_with (first|((with_reducible refine gate_dst (N:=2) rfl ?_);refine box_event ?hg (N:=2) ?hd (cs:=#[.int .i64 0,.int .i64 0,.string (⟨#[]⟩ : ByteArray),.string (⟨#[]⟩ : ByteArray)]) (t:=38) ?hr ?_;(case hd=>rfl);(case hg=>rfl);(case hr=>first|(go_simp;done)|(go_simp;rfl));intro gb337 hg w3 hbox hb;have n0_:=Aside0.mk (below_step (by repeat (first|(with_reducible first|exact HB.out|apply below_alloc|apply pw_below_drewN|apply below_drew1)|exact HB.out)) hb);have n1_:=Aside0.mk (hbox);have n2_:=Aside0.mk ((by rw [hg];exact (below_size (by repeat (first|(with_reducible first|exact HB.out|apply below_alloc|apply pw_below_drewN|apply below_drew1)|exact HB.out))) : w.heap.size≤gb337));have n3_:=Aside0.mk ((by rw [hg];exact (below_size (by repeat (first|(with_reducible first|exact HB.out|apply below_alloc|apply pw_below_drewN|apply below_drew1)|exact HB.out))) : w.heap.size≤gb337));clear HB;have HB:=n0_;have BK337:=n1_;have GW337:=n2_;have GE337:=n3_;clear n0_ n1_ n2_ n3_;clear hb hbox hg)|((with_reducible refine gate_callee (f:=37) rfl ?_);refine goesL_ (some 5) rfl rfl Try.func37 (by kernel_rfl) rfl #[.int .u64 (IntKind.u64.wrap (a0)),.int .i64 1] rfl (by (try simp only [List.map_toArray,List.map_cons,List.map_nil]);first|done|rfl|(simp only [List.length_drop,List.length_take];rfl)) ?_;(with_reducible refine (raw_Put.calls (IntKind.u64.wrap (a0)) 1 t338 _ A2.out).mono ?_);rintro e w4 ⟨rfl,hb⟩;refine ⟨_,rfl,?_⟩;have n0_:=Aside0.mk (blk_below (g:=gb337) (o:=.cells #[.int .i64 0,.int .i64 0,.string (⟨#[]⟩ : ByteArray),.string (⟨#[]⟩ : ByteArray)] 38 (0,0)) (by (with_reducible repeat (first|refine blk_drewN ?_ _|refine blk_drew ?_|refine blk_alloc ?_ _));exact BK337.out) hb);have n1_:=Aside0.mk (below_step (by repeat (first|(with_reducible first|exact HB.out|apply below_alloc|apply pw_below_drewN|apply below_drew1|refine below_set ?_ GE337.out)|exact HB.out)) hb);clear BK337;clear HB;have BK337:=n0_;have HB:=n1_;clear n0_ n1_;(try clear hb);(try clear hb2);(try clear hk);(try clear hi);have hcz5_0 : w4.cell? ⟨gb337,0,none⟩=some (.int .i64 0):=(blk_cell BK337.out 0).trans rfl;have hcz5_1 : w4.cell? ⟨gb337,1,none⟩=some (.int .i64 0):=(blk_cell BK337.out 1).trans rfl;have hcz5_2 : w4.cell? ⟨gb337,2,none⟩=some (.string (⟨#[]⟩ : ByteArray)):=(blk_cell BK337.out 2).trans rfl;have hcz5_3 : w4.cell? ⟨gb337,3,none⟩=some (.string (⟨#[]⟩ : ByteArray)):=(blk_cell BK337.out 3).trans rfl;have hfz5_0:=blk_frozen BK337.out 0;have hfz5_1:=blk_frozen BK337.out 1;have hfz5_2:=blk_frozen BK337.out 2;have hfz5_3:=blk_frozen BK337.out 3))
 refine bodyPost_ret (results_cell_row rfl _ _ gb337 38 #[.int .i64 1,.int .i64 4,.string t338,.string (⟨#[]⟩ : ByteArray)] (0,0) _ rfl (by (with_reducible repeat (first|refine blk_drewN ?_ _|refine blk_drew ?_|refine blk_alloc ?_ _));refine blk_put (cs:=#[.int .i64 1,.int .i64 4,.string t338,.string (⟨#[]⟩ : ByteArray)]) ?_ 3 _ rfl;(with_reducible repeat (first|refine blk_drewN ?_ _|refine blk_drew ?_|refine blk_alloc ?_ _));refine blk_put (cs:=#[.int .i64 1,.int .i64 4,.string (⟨#[]⟩ : ByteArray),.string (⟨#[]⟩ : ByteArray)]) ?_ 2 _ rfl;(with_reducible repeat (first|refine blk_drewN ?_ _|refine blk_drew ?_|refine blk_alloc ?_ _));refine blk_put (cs:=#[.int .i64 1,.int .i64 0,.string (⟨#[]⟩ : ByteArray),.string (⟨#[]⟩ : ByteArray)]) ?_ 1 _ rfl;(with_reducible repeat (first|refine blk_drewN ?_ _|refine blk_drew ?_|refine blk_alloc ?_ _));refine blk_put (cs:=#[.int .i64 0,.int .i64 0,.string (⟨#[]⟩ : ByteArray),.string (⟨#[]⟩ : ByteArray)]) ?_ 0 _ rfl;(with_reducible repeat (first|refine blk_drewN ?_ _|refine blk_drew ?_|refine blk_alloc ?_ _));exact BK337.out) Try.underlying38 rfl (by kernel_rfl)) rfl ?_
 exact ⟨by first|rfl|(simp [errW_none,errW_some] <;> rfl)|(simp [*,errW_none,errW_some] <;> rfl),by repeat (first|(with_reducible first|exact HB.out|apply below_alloc|apply pw_below_drewN|apply below_drew1|refine below_set ?_ GE337.out)|exact HB.out)⟩
end Go.Proofs.Ytfegabikfkmepaa.PNe
end
section
namespace Go.Proofs.Ytfegabikfkmepaa.PNe
open Go.RowKit Go.Proofs.YtfegabikfkmepaaW.PrintWords Go.Proofs.YtfegabikfkmepaaW.PrintLast Go.Proofs.YtfegabikfkmepaaW.PrintMore
attribute [local go_sem] max2_int min2_int max_two min_two max_three min_three max_four min_four
set_option linter.unusedVariables false
set_option linter.unusedSimpArgs false
def node_Level.f (a0_0 : Int) (a0_1 : Int) (a0_2 : Int) (a0_3 : ByteArray) (l0_4 : List ByteArray) : Option (Int):=if a0_2=4 then (if (a0_3.size : Int)=1 then (if 0 < (a0_3.size : Int) then (some (wrap64 (bt a0_3 0))) else (none)) else (some 0)) else (some 0)
set_option maxHeartbeats 8000000 in
set_option maxRecDepth 100000 in
theorem node_Level.calls (a0_0 : Int) (a0_1 : Int) (a0_2 : Int) (a0_3 : ByteArray) (A0_4 : Option Addr) (c0_4 : Nat) (l0_4 : List ByteArray) (r : Int) (w : World) (hr0_4 : Kd.C Kd.string w A0_4 l0_4.length l0_4) (hc0_4 : l0_4.length≤c0_4) (h : node_Level.f a0_0 a0_1 a0_2 a0_3 l0_4=some r) :
  Calls Try.prog 24 #[.agg #[.int .u32 a0_0,.int .u64 a0_1,.int .i64 a0_2,.string a0_3,.slice A0_4 l0_4.length c0_4]] w fun e w'=>e=.returned (.int .i64 r)∧Below w.heap.size w w':=by
 have hu28:=Try.underlying28
 have HR0_4:=Aside0.mk hr0_4
 have HC0_4:=Aside0.mk hc0_4
 clear hr0_4 hc0_4
 have HB:=Aside0.mk (Below.refl w.heap.size w)
 have H : (if a0_2=4 then (if (a0_3.size : Int)=1 then (if 0 < (a0_3.size : Int) then (some (wrap64 (bt a0_3 0))) else (none)) else (some 0)) else (some 0))=some r:=h
 clear h
 by_cases c2 : a0_2=4
 ·rw [if_pos c2] at H
  have c2b0 : (a0_2 == 4)=true:=beq_iff_eq.mpr c2
  have c2b1 : (a0_2 != 4)=false:=bne_eq_false_iff_eq.mpr c2
  clear c2
  by_cases c3 : (a0_3.size : Int)=1
  ·rw [if_pos c3] at H
   have c3b0 : ((a0_3.size : Int) == 1)=true:=beq_iff_eq.mpr c3
   have c3b1 : ((a0_3.size : Int) != 1)=false:=bne_eq_false_iff_eq.mpr c3
   clear c3
   by_cases c4 : 0 < (a0_3.size : Int)
   ·rw [if_pos c4] at H
    have c4b0 : decide (0 < (a0_3.size : Int))=true:=decide_eq_true c4
    have c4b1 : decide (0 < a0_3.size)=true:=decide_eq_true (by omega)
    clear c4
    obtain rfl:=Option.some.inj H
    go_enter Try.func24,Try.ntmps24
    go_wp2_with (first|((with_reducible refine gate_dst (N:=1) rfl ?_);(try (refine gate_guard (by rfl) ?_;dsimp only));refine box_event ?hg (N:=1) ?hd (cs:=#[.int .u32 a0_0,.int .u64 a0_1,.int .i64 a0_2,.string a0_3,.slice A0_4 l0_4.length c0_4]) (t:=28) ?hr ?_;(case hd=>rfl);(case hg=>rfl);(case hr=>first|(go_simp;done)|(go_simp;rfl));intro gb339 hg w6 hbox hb;have n0_:=Aside0.mk (below_step (by repeat (first|(with_reducible first|exact HB.out|apply below_alloc|apply pw_below_drewN|apply below_drew1)|exact HB.out)) hb);have n1_:=Aside0.mk (hbox);have n2_:=Aside0.mk ((by rw [hg];exact (below_size (by repeat (first|(with_reducible first|exact HB.out|apply below_alloc|apply pw_below_drewN|apply below_drew1)|exact HB.out))) : w.heap.size≤gb339));have n3_:=Aside0.mk ((by rw [hg];exact (below_size (by repeat (first|(with_reducible first|exact HB.out|apply below_alloc|apply pw_below_drewN|apply below_drew1)|exact HB.out))) : w.heap.size≤gb339));clear HB;have HB:=n0_;have BK339:=n1_;have GW339:=n2_;have GE339:=n3_;clear n0_ n1_ n2_ n3_;clear hb hbox hg;have hcz7_0 : w6.cell? ⟨gb339,0,none⟩=some (.int .u32 a0_0):=(blk_cell BK339.out 0).trans rfl;have hcz7_1 : w6.cell? ⟨gb339,1,none⟩=some (.int .u64 a0_1):=(blk_cell BK339.out 1).trans rfl;have hcz7_2 : w6.cell? ⟨gb339,2,none⟩=some (.int .i64 a0_2):=(blk_cell BK339.out 2).trans rfl;have hcz7_3 : w6.cell? ⟨gb339,3,none⟩=some (.string a0_3):=(blk_cell BK339.out 3).trans rfl;have hcz7_4 : w6.cell? ⟨gb339,4,none⟩=some (.slice A0_4 l0_4.length c0_4):=(blk_cell BK339.out 4).trans rfl;have hfz7_0:=blk_frozen BK339.out 0;have hfz7_1:=blk_frozen BK339.out 1;have hfz7_2:=blk_frozen BK339.out 2;have hfz7_3:=blk_frozen BK339.out 3;have hfz7_4:=blk_frozen BK339.out 4;have p5 : 0≤(0 : Int):=(by omega);have q5 : 0 < a0_3.size:=(by have : (0 : Int) < (a0_3.size : Int):=of_decide_eq_true (by first|(with_reducible assumption)|assumption);omega);have hx5 : ∀ h : 0 < a0_3.size,((a0_3[0]'h).toNat : Int)=bt a0_3 0:=bt_at a0_3 0;clear p5;have qi5 : (0 < (a0_3.size : Int))=True:=eq_true (of_decide_eq_true (by first|(with_reducible assumption)|assumption));replace q5:=eq_true q5))
    go_ret
    exact ⟨by first|rfl|(simp [errW_none,errW_some] <;> rfl)|(simp [*,errW_none,errW_some] <;> rfl),by repeat (first|(with_reducible first|exact HB.out|apply below_alloc|apply pw_below_drewN|apply below_drew1|refine below_set ?_ GE339.out)|exact HB.out)⟩
   ·rw [if_neg c4] at H
    exact absurd H (by simp)
  ·rw [if_neg c3] at H
   have c3b0 : ((a0_3.size : Int) == 1)=false:=beq_eq_false_iff_ne.mpr c3
   have c3b1 : ((a0_3.size : Int) != 1)=true:=bne_iff_ne.mpr c3
   obtain rfl:=Option.some.inj H
   go_enter Try.func24,Try.ntmps24
   go_wp2_with (first|((with_reducible refine gate_dst (N:=1) rfl ?_);(try (refine gate_guard (by rfl) ?_;dsimp only));refine box_event ?hg (N:=1) ?hd (cs:=#[.int .u32 a0_0,.int .u64 a0_1,.int .i64 a0_2,.string a0_3,.slice A0_4 l0_4.length c0_4]) (t:=28) ?hr ?_;(case hd=>rfl);(case hg=>rfl);(case hr=>first|(go_simp;done)|(go_simp;rfl));intro gb339 hg w8 hbox hb;have n0_:=Aside0.mk (below_step (by repeat (first|(with_reducible first|exact HB.out|apply below_alloc|apply pw_below_drewN|apply below_drew1)|exact HB.out)) hb);have n1_:=Aside0.mk (hbox);have n2_:=Aside0.mk ((by rw [hg];exact (below_size (by repeat (first|(with_reducible first|exact HB.out|apply below_alloc|apply pw_below_drewN|apply below_drew1)|exact HB.out))) : w.heap.size≤gb339));have n3_:=Aside0.mk ((by rw [hg];exact (below_size (by repeat (first|(with_reducible first|exact HB.out|apply below_alloc|apply pw_below_drewN|apply below_drew1)|exact HB.out))) : w.heap.size≤gb339));clear HB;have HB:=n0_;have BK339:=n1_;have GW339:=n2_;have GE339:=n3_;clear n0_ n1_ n2_ n3_;clear hb hbox hg;have hcz9_0 : w8.cell? ⟨gb339,0,none⟩=some (.int .u32 a0_0):=(blk_cell BK339.out 0).trans rfl;have hcz9_1 : w8.cell? ⟨gb339,1,none⟩=some (.int .u64 a0_1):=(blk_cell BK339.out 1).trans rfl;have hcz9_2 : w8.cell? ⟨gb339,2,none⟩=some (.int .i64 a0_2):=(blk_cell BK339.out 2).trans rfl;have hcz9_3 : w8.cell? ⟨gb339,3,none⟩=some (.string a0_3):=(blk_cell BK339.out 3).trans rfl;have hcz9_4 : w8.cell? ⟨gb339,4,none⟩=some (.slice A0_4 l0_4.length c0_4):=(blk_cell BK339.out 4).trans rfl;have hfz9_0:=blk_frozen BK339.out 0;have hfz9_1:=blk_frozen BK339.out 1;have hfz9_2:=blk_frozen BK339.out 2;have hfz9_3:=blk_frozen BK339.out 3;have hfz9_4:=blk_frozen BK339.out 4))
   go_ret
   exact ⟨by first|rfl|(simp [errW_none,errW_some] <;> rfl)|(simp [*,errW_none,errW_some] <;> rfl),by repeat (first|(with_reducible first|exact HB.out|apply below_alloc|apply pw_below_drewN|apply below_drew1|refine below_set ?_ GE339.out)|exact HB.out)⟩
 ·rw [if_neg c2] at H
  have c2b0 : (a0_2 == 4)=false:=beq_eq_false_iff_ne.mpr c2
  have c2b1 : (a0_2 != 4)=true:=bne_iff_ne.mpr c2
  obtain rfl:=Option.some.inj H
  go_enter Try.func24,Try.ntmps24
  go_wp2_with (first|((with_reducible refine gate_dst (N:=1) rfl ?_);(try (refine gate_guard (by rfl) ?_;dsimp only));refine box_event ?hg (N:=1) ?hd (cs:=#[.int .u32 a0_0,.int .u64 a0_1,.int .i64 a0_2,.string a0_3,.slice A0_4 l0_4.length c0_4]) (t:=28) ?hr ?_;(case hd=>rfl);(case hg=>rfl);(case hr=>first|(go_simp;done)|(go_simp;rfl));intro gb339 hg w10 hbox hb;have n0_:=Aside0.mk (below_step (by repeat (first|(with_reducible first|exact HB.out|apply below_alloc|apply pw_below_drewN|apply below_drew1)|exact HB.out)) hb);have n1_:=Aside0.mk (hbox);have n2_:=Aside0.mk ((by rw [hg];exact (below_size (by repeat (first|(with_reducible first|exact HB.out|apply below_alloc|apply pw_below_drewN|apply below_drew1)|exact HB.out))) : w.heap.size≤gb339));have n3_:=Aside0.mk ((by rw [hg];exact (below_size (by repeat (first|(with_reducible first|exact HB.out|apply below_alloc|apply pw_below_drewN|apply below_drew1)|exact HB.out))) : w.heap.size≤gb339));clear HB;have HB:=n0_;have BK339:=n1_;have GW339:=n2_;have GE339:=n3_;clear n0_ n1_ n2_ n3_;clear hb hbox hg;have hcz11_0 : w10.cell? ⟨gb339,0,none⟩=some (.int .u32 a0_0):=(blk_cell BK339.out 0).trans rfl;have hcz11_1 : w10.cell? ⟨gb339,1,none⟩=some (.int .u64 a0_1):=(blk_cell BK339.out 1).trans rfl;have hcz11_2 : w10.cell? ⟨gb339,2,none⟩=some (.int .i64 a0_2):=(blk_cell BK339.out 2).trans rfl;have hcz11_3 : w10.cell? ⟨gb339,3,none⟩=some (.string a0_3):=(blk_cell BK339.out 3).trans rfl;have hcz11_4 : w10.cell? ⟨gb339,4,none⟩=some (.slice A0_4 l0_4.length c0_4):=(blk_cell BK339.out 4).trans rfl;have hfz11_0:=blk_frozen BK339.out 0;have hfz11_1:=blk_frozen BK339.out 1;have hfz11_2:=blk_frozen BK339.out 2;have hfz11_3:=blk_frozen BK339.out 3;have hfz11_4:=blk_frozen BK339.out 4))
  go_ret
  exact ⟨by first|rfl|(simp [errW_none,errW_some] <;> rfl)|(simp [*,errW_none,errW_some] <;> rfl),by repeat (first|(with_reducible first|exact HB.out|apply below_alloc|apply pw_below_drewN|apply below_drew1|refine below_set ?_ GE339.out)|exact HB.out)⟩
end Go.Proofs.Ytfegabikfkmepaa.PNe
end
section
namespace Go.Proofs.Ytfegabikfkmepaa.PNe
open Go.RowKit Go.Gi Go.GiRow Go.Proofs.Ytfegabikfkmepaa Go.Proofs.YtfegabikfkmepaaW.PrintWords Go.Proofs.YtfegabikfkmepaaW.PrintMore
set_option maxRecDepth 20000
set_option linter.unusedSimpArgs false
set_option linter.unusedVariables false
structure ChN where
  page : Int
  key : ByteArray
  rp : Int
  rs : Int
def ChN.cells (x : ChN) : List Value := [.int .u32 x.page, .string x.key, .int .u32 x.rp, .int .i64 x.rs]
def ChN.Good (x : ChN) : Prop := (0 ≤ x.page ∧ x.page ≤ 4294967295) ∧ (0 ≤ x.rp ∧ x.rp ≤ 4294967295) ∧ (0 ≤ x.rs ∧ x.rs ≤ 65535) ∧ x.key.size ≤ 12
def cslot (x : ChN) : ByteArray := bs (innerB x.page x.key x.rp x.rs)
def ofCh (x : ChN) : S66 := ⟨x.page, ⟨x.key, ⟨x.rp, x.rs⟩⟩⟩
theorem cslot_size (x : ChN) : (cslot x).size = 10 + x.key.size := by
  unfold cslot innerB
  rw [bs_size]
  simp [putL_length]
  omega
theorem cslot_data (x : ChN) : (cslot x).data.toList = putL 4 x.page.toNat ++ (putL 4 x.rp.toNat ++ putL 2 x.rs.toNat ++ x.key.data.toList) := toList_bs _
theorem ctake_in (x : ChN) (hx : ChN.Good x) : node_take.f (cslot x) 4 0 = some (x.key, x.rp, x.rs, cslot x, ((cslot x).size : Int), 0) := by
  obtain ⟨⟨h1, h2⟩, ⟨h3, h4⟩, ⟨h6, h7⟩, h5⟩ := hx
  have hz := cslot_size x
  have hd := cslot_data x
  have e1 := number_in (cslot x) (putL 4 x.page.toNat) (putL 4 x.rp.toNat) (putL 2 x.rs.toNat ++ x.key.data.toList) 4 (by rw [hd]; simp) (putL_length _ _) (by omega) (by omega)
  have e2 := number_in (cslot x) (putL 4 x.page.toNat ++ putL 4 x.rp.toNat) (putL 2 x.rs.toNat) x.key.data.toList 2 (by rw [hd]; simp) (putL_length _ _) (by omega) (by omega)
  rw [numL_putL] at e1 e2
  rw [putL_length] at e1
  rw [List.length_append, putL_length, putL_length] at e2
  have f1 : ((x.rp.toNat % 256 ^ 4 : Nat) : Int) = x.rp := by omega
  have f2 : ((x.rs.toNat % 256 ^ 2 : Nat) : Int) = x.rs := by omega
  rw [f1] at e1
  rw [f2] at e2
  have e1' : raw_Reader_Number.f (cslot x) 4 0 4 = some (x.rp, cslot x, 8, 0) := e1
  have e2' : raw_Reader_Number.f (cslot x) 8 0 2 = some (x.rs, cslot x, 10, 0) := e2
  have hk : (cslot x).extract (10 : Int).toNat ((cslot x).size : Int).toNat = x.key := by
    rw [Int.toNat_natCast, extract_bs, hd, show (10 : Int).toNat = 10 from rfl]
    have hdrop : ((putL 4 x.page.toNat ++ (putL 4 x.rp.toNat ++ putL 2 x.rs.toNat ++ x.key.data.toList)).drop 10) = x.key.data.toList := by
      rw [show putL 4 x.page.toNat ++ (putL 4 x.rp.toNat ++ putL 2 x.rs.toNat ++ x.key.data.toList) = (putL 4 x.page.toNat ++ putL 4 x.rp.toNat ++ putL 2 x.rs.toNat) ++ x.key.data.toList by simp]
      exact List.drop_left' (by simp [putL_length])
    rw [hdrop, List.take_of_length_le (by simp; omega), bs_toList]
  unfold node_take.f raw_Reader_Left.f raw_Reader_Bytes.f raw_Reader_Err.f
  rw [e1', Option.bind_some]
  simp only
  rw [e2', Option.bind_some]
  simp only
  rw [Option.bind_some]
  simp only
  rw [Option.bind_some]
  simp only
  rw [w64 (x := ((cslot x).size : Int) - 10) (by omega) (by omega), if_pos trivial, if_neg (by omega), if_neg (by omega), w64 (x := 10 + (((cslot x).size : Int) - 10)) (by omega) (by omega), show (10 : Int) + (((cslot x).size : Int) - 10) = ((cslot x).size : Int) by omega,
    w64 (x := ((cslot x).size : Int) - (((cslot x).size : Int) - 10)) (by omega) (by omega), show ((cslot x).size : Int) - (((cslot x).size : Int) - 10) = 10 by omega, if_pos (by omega), if_pos (by omega), if_pos (by omega), Option.bind_some, hk, Int.emod_eq_of_lt h3 (by omega), w64 (by omega) (by omega)]
theorem inner_l0 (l : List ChN) (hg : ∀ x ∈ l, ChN.Good x) (hn : l.length ≤ 1000000) : ∀ d i k, i + d = l.length → d + 1 ≤ k → node_Inner.l0 k ((l.take i).map ofCh) (l.map cslot) (l.length : Int) i = some (l.map ofCh, 0) := by
  intro d
  induction d with
  | zero =>
    intro i k h hk
    obtain ⟨k, rfl⟩ : ∃ m, k = m + 1 := ⟨k - 1, by omega⟩
    rw [node_Inner.l0, if_neg (by omega), List.take_of_length_le (by omega)]
  | succ d ih =>
    intro i k h hk
    obtain ⟨k, rfl⟩ : ∃ m, k = m + 1 := ⟨k - 1, by omega⟩
    have hi : i < l.length := by omega
    have hi' : i < (l.map cslot).length := by simpa using hi
    have e := rd_at hi'
    rw [List.getElem_map] at e
    have hgd := hg _ (List.getElem_mem hi)
    have hz := cslot_size l[i]
    have hd := cslot_data l[i]
    have hkz := hgd.2.2.2
    have hp := hgd.1
    rw [node_Inner.l0, if_pos (by omega), if_pos (by omega), if_pos (by omega), e, if_neg (by omega)]
    unfold raw_NewReader.f
    rw [Option.bind_some]
    simp only
    have e1 := number_in (cslot l[i]) [] (putL 4 l[i].page.toNat) (putL 4 l[i].rp.toNat ++ putL 2 l[i].rs.toNat ++ l[i].key.data.toList) 4 (by rw [hd]; simp) (putL_length _ _) (by omega) (by omega)
    rw [numL_putL, show ((l[i].page.toNat % 256 ^ 4 : Nat) : Int) = l[i].page by omega] at e1
    have e1' : raw_Reader_Number.f (cslot l[i]) 0 0 4 = some (l[i].page, cslot l[i], 4, 0) := e1
    rw [e1', Option.bind_some]
    simp only
    rw [ctake_in l[i] hgd, Option.bind_some, if_pos (by simp; omega), w64 (by omega) (by omega), Int.emod_eq_of_lt hp.1 (by omega)]
    have := ih (i + 1) k (by omega) (by omega)
    rw [List.take_succ_eq_append_getElem hi, List.map_append] at this
    exact this
theorem inner_f (l : List ChN) (hg : ∀ x ∈ l, ChN.Good x) (hn : l.length ≤ 1000000) (num lsn : Int) (head : ByteArray) (hh : head.size = 1) (k : Nat) (hk : l.length + 2 ≤ k) : node_Inner.f k num lsn 4 head (l.map cslot) = some (l.map ofCh, 0) := by
  obtain ⟨k, rfl⟩ : ∃ m, k = m + 1 := ⟨k - 1, by omega⟩
  unfold node_Inner.f
  have hb : ((head.size : Int) != 1) = false := by rw [hh]; rfl
  rw [if_pos rfl, hb, node_Inner.j0, if_neg (by simp)]
  have := inner_l0 l hg hn l.length 0 k (by omega) (by omega)
  rw [List.length_map]
  exact this
theorem innerSlot_f (x : ChN) (hx : ChN.Good x) : node_innerSlot.f x.page x.key x.rp x.rs = some (cslot x) := by
  obtain ⟨⟨h1, h2⟩, ⟨h3, h4⟩, ⟨h6, h7⟩, h5⟩ := hx
  unfold node_innerSlot.f
  rw [if_pos ⟨h1, h2, h3, h4, h6, h7, by omega⟩]
  rfl
theorem putChild_f (i : Int) (x : ChN) (hx : ChN.Good x) : node_PutChild.f i x.page x.key x.rp x.rs = some (2, i, cslot x, ⟨#[]⟩) := by
  unfold node_PutChild.f
  rw [innerSlot_f x hx]
  rfl
theorem ch_at {l : List ChN} {i : Nat} (h : i < l.length) : rd_T66 (l.map ofCh) (i : Int) = ofCh l[i] := by
  unfold rd_T66; simp [List.getD_eq_getElem?_getD, List.getElem?_eq_getElem h]
theorem setFrom_no (l : List ChN) (hg : ∀ x ∈ l, ChN.Good x) (hn : l.length ≤ 1000) (num lsn : Int) (head : ByteArray) (hh : head.size = 1) (at_ : Int) (hat : at_ < 0 ∨ (l.length : Int) ≤ at_) (key : ByteArray) (rp rs : Int) :
    node_SetFrom.f 1010 num lsn 4 head (l.map cslot) at_ key rp rs = some (0, 0, ⟨#[]⟩, ⟨#[]⟩, 2) := by
  unfold node_SetFrom.f
  rw [inner_f l hg (by omega) num lsn head hh 1010 (by omega), Option.bind_some]
  simp only
  rw [if_pos trivial]
  by_cases h : at_ < 0
  · rw [if_pos h]
  · rw [if_neg h, if_pos (by rw [List.length_map]; omega)]
theorem setFrom_yes (l : List ChN) (hg : ∀ x ∈ l, ChN.Good x) (hn : l.length ≤ 1000) (num lsn : Int) (head : ByteArray) (hh : head.size = 1) (at_ : Nat) (hat : at_ < l.length) (x : ChN) (hx : ChN.Good x) (hp : x.page = l[at_].page) :
    node_SetFrom.f 1010 num lsn 4 head (l.map cslot) at_ x.key x.rp x.rs = some ((4 : Int), (at_ : Int), cslot x, cslot l[at_], (0 : Int)) := by
  unfold node_SetFrom.f
  rw [inner_f l hg (by omega) num lsn head hh 1010 (by omega), Option.bind_some]
  simp only
  rw [if_pos trivial, if_neg (by omega), if_neg (by rw [List.length_map]; omega), if_pos (by omega), if_pos (by rw [List.length_map]; omega), ch_at hat]
  have hi' : at_ < (l.map cslot).length := by simpa using hat
  have e := rd_at hi'
  rw [List.getElem_map] at e
  rw [show (ofCh l[at_]).f0 = x.page from hp.symm, innerSlot_f x hx, Option.bind_some, if_pos (by rw [List.length_map]; omega), e]
theorem bs_cat (a : List UInt8) (s : ByteArray) : bs a ++ s = bs (a ++ s.data.toList) := by
  conv => lhs; rw [← bs_toList s]
  exact bs_append _ _
theorem u64_w {x : Int} (h0 : 0 ≤ x) (h1 : x ≤ 9223372036854775807) : IntKind.u64.wrap x = x := by rw [IntKind.wrap_u64]; omega
theorem slot_f (x : ChN) (hx : ChN.Good x) : girderlaw12_slot.f x.key x.rp x.rs = some (bs (putL 4 x.rp.toNat ++ putL 2 x.rs.toNat ++ x.key.data.toList)) := by
  obtain ⟨⟨h1, h2⟩, ⟨h3, h4⟩, ⟨h6, h7⟩, h5⟩ := hx
  unfold girderlaw12_slot.f girderref01_Put.f
  rw [u64_w h3 (by omega), u64_w h6 (by omega), if_pos (by omega), if_pos (by omega), Option.bind_some, Option.bind_some]
  have c4 : clamp8 4 = 4 := rfl
  have c2 : clamp8 2 = 2 := rfl
  rw [c4, c2, bs_append]
  simp only [bs_size, putL_length, List.length_append]
  rw [if_pos (by omega), if_pos (by omega), bs_cat]
theorem refput_f {p : Int} (h0 : 0 ≤ p) (h1 : p ≤ 4294967295) : girderref01_Put.f p 4 = some (bs (putL 4 p.toNat)) := by
  unfold girderref01_Put.f
  rw [if_pos (by omega)]
  rfl
theorem cslot_cat (x : ChN) : bs (putL 4 x.page.toNat) ++ bs (putL 4 x.rp.toNat ++ putL 2 x.rs.toNat ++ x.key.data.toList) = cslot x := bs_append _ _
theorem less_tri : ∀ a b : List UInt8, Op.bytesLess a b = true ∨ a = b ∨ Op.bytesLess b a = true
  | [], [] => .inr (.inl rfl)
  | [], _ :: _ => .inl rfl
  | _ :: _, [] => .inr (.inr rfl)
  | x :: a, y :: b => by
    rcases less_tri a b with h | h | h
    · by_cases e : x = y
      · subst e; left; simp [Op.bytesLess, h]
      · rcases (show x < y ∨ y < x from by rcases UInt8.lt_or_lt_of_ne e with h | h <;> simp [h]) with g | g
        · left; simp [Op.bytesLess, g]
        · right; right; simp [Op.bytesLess, g]
    · subst h
      by_cases e : x = y
      · subst e; right; left; rfl
      · rcases (show x < y ∨ y < x from by rcases UInt8.lt_or_lt_of_ne e with h | h <;> simp [h]) with g | g
        · left; simp [Op.bytesLess, g]
        · right; right; simp [Op.bytesLess, g]
    · by_cases e : x = y
      · subst e; right; right; simp [Op.bytesLess, h]
      · rcases (show x < y ∨ y < x from by rcases UInt8.lt_or_lt_of_ne e with h | h <;> simp [h]) with g | g
        · left; simp [Op.bytesLess, g]
        · right; right; simp [Op.bytesLess, g]
theorem less_irr : ∀ a : List UInt8, Op.bytesLess a a = false
  | [] => rfl
  | x :: a => by simp [Op.bytesLess, less_irr a]
theorem less_asym : ∀ a b : List UInt8, Op.bytesLess a b = true → Op.bytesLess b a = false
  | [], [], h => rfl
  | [], _ :: _, h => rfl
  | _ :: _, [], h => by simp [Op.bytesLess] at h
  | x :: a, y :: b, h => by
    by_cases e : x = y
    · subst e
      have := less_asym a b (by simpa [Op.bytesLess] using h)
      simp [Op.bytesLess, this]
    · have hxy : x < y := by
        simp [Op.bytesLess, e] at h
        exact h
      have h2 : ¬ y < x := fun h2 => absurd (UInt8.lt_trans hxy h2) (UInt8.lt_irrefl _)
      simp [Op.bytesLess, h2, Ne.symm e]
def bef (k1 : ByteArray) (p1 s1 : Int) (k2 : ByteArray) (p2 s2 : Int) : Bool := if k1.toList = k2.toList then (if p1 = p2 then decide (s1 < s2) else decide (p1 < p2)) else Op.bytesLess k1.toList k2.toList
theorem before_f (k1 : ByteArray) (p1 s1 : Int) (k2 : ByteArray) (p2 s2 : Int) : girderlaw12_before.f k1 p1 s1 k2 p2 s2 = some (bef k1 p1 s1 k2 p2 s2) := by
  unfold girderlaw12_before.f bef
  split
  · split <;> rfl
  · rfl
theorem entC_bef (k1 : ByteArray) (p1 s1 : Int) (k2 : ByteArray) (p2 s2 : Int) : entC k2 p2 s2 k1 p1 s1 ≤ 0 ↔ bef k1 p1 s1 k2 p2 s2 = false := by
  unfold entC bef cmpS cmpI
  by_cases h : k1.toList = k2.toList
  · rw [if_pos h, ← h, less_irr]
    simp only [Bool.false_eq_true, if_false, if_true, ne_eq, not_true_eq_false]
    by_cases hp : p1 = p2
    · subst hp
      simp only [Int.lt_irrefl, if_false, if_true, ne_eq, not_true_eq_false, gt_iff_lt, decide_eq_false_iff_not]
      split
      · simp; omega
      · split <;> simp <;> omega
    · rw [if_neg hp]
      simp only [decide_eq_false_iff_not]
      by_cases h1 : p2 < p1
      · simp [h1]; omega
      · have h2 : p2 > p1 := by omega
        simp [h1, h2]
  · rw [if_neg h]
    have hn : ¬ k2.toList = k1.toList := fun e => h e.symm
    rcases less_tri k1.toList k2.toList with h1 | h1 | h1
    · rw [less_asym _ _ h1, h1]
      simp [hn]
    · exact absurd h1 h
    · rw [less_asym _ _ h1, h1]
      simp
def dnN (l : List ChN) (k1 : ByteArray) (p1 s1 : Int) : Nat → Nat
  | 0 => 0
  | n + 1 => if 0 < n ∧ ∃ h : n < l.length, bef k1 p1 s1 l[n].key l[n].rp l[n].rs = false then n else dnN l k1 p1 s1 n
theorem ent_f (k : Nat) (k1 : ByteArray) (p1 s1 : Int) (k2 : ByteArray) (p2 s2 : Int) (hk : 4 ≤ k) : key_Entries.f k k1 p1 s1 k2 p2 s2 = some (entC k1 p1 s1 k2 p2 s2) := by
  have h4 : key_Entries.f 4 k1 p1 s1 k2 p2 s2 = some (entC k1 p1 s1 k2 p2 s2) := by
    have := entries_f k1 p1 s1 k2 p2 s2
    exact this
  obtain ⟨d, rfl⟩ : ∃ d, k = 4 + d := ⟨k - 4, by omega⟩
  clear hk
  induction d with
  | zero => exact h4
  | succ d ih => exact key_Entries.mono _ _ _ _ _ _ (4 + d) _ ih
theorem down_l0 (l : List ChN) (hn : l.length ≤ 1000) (k1 : ByteArray) (p1 s1 : Int) : ∀ d i k, i + d = l.length → d + 5 ≤ k → node_Down.l0 k (dnN l k1 p1 s1 i : Nat) (l.map ofCh) (l.length : Int) i k1 p1 s1 = some ((dnN l k1 p1 s1 l.length : Nat) : Int) := by
  intro d
  induction d with
  | zero =>
    intro i k h hk
    obtain ⟨k, rfl⟩ : ∃ m, k = m + 1 := ⟨k - 1, by omega⟩
    obtain rfl : i = l.length := by omega
    rw [node_Down.l0, if_neg (by omega)]
  | succ d ih =>
    intro i k h hk
    obtain ⟨k, rfl⟩ : ∃ m, k = m + 1 := ⟨k - 1, by omega⟩
    have hi : i < l.length := by omega
    rw [node_Down.l0, if_pos (by omega), if_pos (by omega), if_pos (by rw [List.length_map]; omega), w64 (by omega) (by omega)]
    have hs := ih (i + 1) k (by omega) (by omega)
    rw [dnN] at hs
    by_cases h0 : 0 < i
    · rw [if_pos (by omega), ch_at hi, ent_f k _ _ _ _ _ _ (by omega), Option.bind_some]
      show (if entC l[i].key l[i].rp l[i].rs k1 p1 s1 ≤ 0 then _ else _) = _
      by_cases hb : bef k1 p1 s1 l[i].key l[i].rp l[i].rs = false
      · rw [if_pos ((entC_bef ..).2 hb)]
        rw [if_pos ⟨h0, hi, hb⟩] at hs
        exact hs
      · rw [if_neg (fun h => hb ((entC_bef ..).1 h))]
        rw [if_neg (fun h => hb h.2.2)] at hs
        exact hs
    · rw [if_neg (by omega)]
      rw [if_neg (fun h => h0 h.1)] at hs
      exact hs
theorem down_f (l : List ChN) (hn : l.length ≤ 1000) (k1 : ByteArray) (p1 s1 : Int) : node_Down.f 1010 (l.map ofCh) k1 p1 s1 = some ((dnN l k1 p1 s1 l.length : Nat) : Int) := by
  unfold node_Down.f
  rw [List.length_map]
  exact down_l0 l hn k1 p1 s1 l.length 0 1010 (by omega) (by omega)
def H1 (lv : Nat) : ByteArray := bs (putL 1 lv)
theorem H1_size (lv : Nat) : (H1 lv).size = 1 := by unfold H1; rw [bs_size, putL_length]
theorem es_ (s : ByteArray) : s.data.toList.length = s.size := by simp
theorem formI_f (lv : Nat) (h : lv ≤ 255) : node_FormatInner.f lv = some (1, 4, H1 lv, ⟨#[]⟩) := by
  unfold node_FormatInner.f raw_Put.f
  rw [u64_w (by omega) (by omega), if_pos (by omega)]
  rfl
theorem level_f (num lsn : Int) (lv : Nat) (h : lv ≤ 255) (l : List ByteArray) : node_Level.f num lsn 4 (H1 lv) l = some (lv : Int) := by
  unfold node_Level.f
  rw [if_pos rfl, if_pos (by rw [H1_size]; rfl), if_pos (by rw [H1_size]; decide)]
  have e : bt (H1 lv) 0 = lv := by
    unfold bt
    rw [dif_pos (by show 0 < _; rw [H1_size]; decide)]
    have hd : (H1 lv).data.toList = [UInt8.ofNat lv] := by unfold H1; rw [toList_bs]; rfl
    have : (H1 lv)[(0 : Int).toNat]'(by show 0 < _; rw [H1_size]; decide) = UInt8.ofNat lv := by
      show (H1 lv).data[0]'(by show 0 < (H1 lv).size; rw [H1_size]; decide) = _
      have h2 : (H1 lv).data.toList[0]? = some (UInt8.ofNat lv) := by rw [hd]; rfl
      rw [Array.getElem?_toList] at h2
      rw [Array.getElem?_eq_some_iff] at h2
      exact h2.2
    rw [this, UInt8.toNat_ofNat']
    omega
  rw [e, w64 (by omega) (by omega)]
theorem ap_fmtI (lv : Nat) : apR 3 0 0 ⟨#[]⟩ [] 1 4 (H1 lv) ⟨#[]⟩ 1 = (3, 1, 4, H1 lv, [], 0) := by
  have hz := H1_size lv
  have hE : opEs 1 4 (H1 lv) (⟨#[]⟩ : ByteArray) = 0 := (opE_pos (by
    unfold opOk
    rw [es_, hz]
    refine ⟨by omega, by simp, .inl ⟨rfl, by omega, by omega, by omega, by simp⟩⟩)).symm
  unfold apR
  rw [if_neg (by rw [hE]; simp), if_neg (by unfold stE; simp), if_pos rfl]
  unfold finR
  rw [hz, if_neg (by simp [slotsN_nil])]
theorem cslots_n (l : List ChN) (hg : ∀ x ∈ l, ChN.Good x) : slotsN (l.map cslot) ≤ 24 * l.length := by
  induction l with
  | nil => simp [slotsN_nil]
  | cons x l ih =>
    have h1 := ih (fun y hy => hg y (by simp [hy]))
    have h2 := (hg x (by simp)).2.2.2
    rw [List.map_cons, slotsN_cons, cslot_size, List.length_cons]
    omega
theorem ap_insI (l : List ChN) (hg : ∀ x ∈ l, ChN.Good x) (hl : l.length < 12) (x : ChN) (hx : ChN.Good x) (lsn : Int) (lv : Nat) :
    apR 3 lsn 4 (H1 lv) (l.map cslot) 2 l.length (cslot x) ⟨#[]⟩ 2 = (3, 2, 4, H1 lv, (l ++ [x]).map cslot, 0) := by
  have hz := cslot_size x
  have hk := hx.2.2.2
  have hE : opEs 2 l.length (cslot x) (⟨#[]⟩ : ByteArray) = 0 := (opE_pos (by
    unfold opOk
    rw [es_]
    refine ⟨by omega, by simp, .inr (.inl ⟨rfl, by omega, by omega, by simp⟩)⟩)).symm
  have hS : stE 4 (H1 lv) (l.map cslot) 2 l.length (cslot x) (⟨#[]⟩ : ByteArray) = 0 := by
    unfold stE
    rw [if_pos rfl, if_neg (by rw [List.length_map]; omega), if_neg (by rw [List.length_map]; omega)]
  have hi : insL (l.map cslot) l.length (cslot x) = (l ++ [x]).map cslot := by
    unfold insL
    rw [List.take_of_length_le (by simp), List.drop_of_length_le (by simp), List.map_append]
    rfl
  have hg2 : ∀ y ∈ l ++ [x], ChN.Good y := fun y hy => by
    rcases List.mem_append.1 hy with h | h
    · exact hg y h
    · rw [List.mem_singleton.1 h]; exact hx
  have hn := cslots_n (l ++ [x]) hg2
  rw [List.length_append] at hn
  simp only [List.length_cons, List.length_nil] at hn
  unfold apR
  rw [if_neg (by rw [hE]; simp), if_neg (by rw [hS]; simp), if_neg (by decide), if_pos rfl, Int.toNat_natCast, hi]
  unfold finR
  rw [if_neg (by rw [H1_size]; omega)]
theorem ap_setI (l : List ChN) (hg : ∀ x ∈ l, ChN.Good x) (hl : l.length ≤ 12) (at_ : Nat) (hat : at_ < l.length) (x : ChN) (hx : ChN.Good x) (lsn : Int) (lv : Nat) :
    apR 3 lsn 4 (H1 lv) (l.map cslot) 4 at_ (cslot x) (cslot l[at_]) 3 = (3, 3, 4, H1 lv, (l.set at_ x).map cslot, 0) := by
  have hz := cslot_size x
  have hk := hx.2.2.2
  have hz2 := cslot_size l[at_]
  have hk2 := (hg _ (List.getElem_mem hat)).2.2.2
  have hE : opEs 4 at_ (cslot x) (cslot l[at_]) = 0 := (opE_pos (by
    unfold opOk
    rw [es_, es_]
    refine ⟨by omega, by omega, .inr (.inr (.inr (.inl ⟨rfl, by omega, by omega⟩)))⟩)).symm
  have hi' : at_ < (l.map cslot).length := by simpa using hat
  have e := rd_at hi'
  rw [List.getElem_map] at e
  have hS : stE 4 (H1 lv) (l.map cslot) 4 at_ (cslot x) (cslot l[at_]) = 0 := by
    unfold stE
    rw [if_neg (by decide), if_pos (.inr rfl), if_neg (by rw [List.length_map]; omega), e, if_pos rfl]
  have hg2 : ∀ y ∈ l.set at_ x, ChN.Good y := fun y hy => by
    rcases List.mem_or_eq_of_mem_set hy with h | h
    · exact hg y h
    · rw [h]; exact hx
  have hn := cslots_n (l.set at_ x) hg2
  rw [List.length_set] at hn
  unfold apR
  rw [if_neg (by rw [hE]; simp), if_neg (by rw [hS]; simp), if_neg (by decide), if_neg (by decide), if_neg (by decide), if_pos rfl, Int.toNat_natCast, ← List.map_set]
  unfold finR
  rw [if_neg (by rw [H1_size]; omega)]
end Go.Proofs.Ytfegabikfkmepaa.PNe
end
section
namespace Go.Proofs.Ytfegabikfkmepaa
open Go.RowKit Go.Gi Go.GiRow Go.Proofs.YtfegabikfkmepaaW.PrintWords Go.Proofs.YtfegabikfkmepaaW.PrintLast Go.Proofs.YtfegabikfkmepaaW.PrintMore
set_option maxRecDepth 20000
set_option linter.unusedSimpArgs false
set_option linter.unusedVariables false
theorem own_of_blk {w : World} {g T size n base : Nat} {cs : Array Value} (h : w.heap[g]? = some (.cells cs T (0, 0))) (hb : base ≤ g) (hs : cs.size = n * size) (hn : n ≤ maxLen) : w.ownsRow base T size (.slice (some ⟨g, 0, none⟩) n n) n cs.toList := by
  refine ⟨by simpa using hs, .inr ⟨g, n, cs, rfl, hb, h, Nat.le_refl _, hn, hs, ?_⟩⟩
  rw [List.take_of_length_le (by simp; omega)]
theorem own_at_ {w : World} {base gv n c : Nat} {slots : List ByteArray} (h : OwnP w base (.slice (some ⟨gv, 0, none⟩) n c) slots) (j : Nat) (hj : j < slots.length) : w.cell? ⟨gv, j, none⟩ = (strV slots)[j]? := by
  rcases h.2 with ⟨e, h0⟩ | ⟨g, cap, cur, e, h1, h2, h3, h4, _⟩
  · omega
  · injection e with e1 e2 e3
    subst e2
    have := World.ownsRow.cellAt h j (by omega)
    exact this
theorem OwnP.grown {w w' : World} {base : Nat} {v : Value} {slots : List ByteArray} {row : Option Nat} (h : OwnP w base v slots) (hg : w.grownBy w' row) (hne : v.ownBlock = none ∨ v.ownBlock ≠ row) : OwnP w' base v slots := World.ownsRow.kept h hg hne
end Go.Proofs.Ytfegabikfkmepaa
end
section
namespace Go.Gi
theorem isLoadN {P : Program} {ops : Array Oper} {Q : Exit → Act → World → Prop} {l : List Oper} {a : Act} {w : World} {dst : Option Tmp} {tp : TypeId} {pos : String} {aft : Array Edge} (ty : TypeId) (x : Operand)
    (h : wpList P ops Q ({ dst := dst, op := .load ty x, type := tp, pos := pos, after := aft, guard := none } :: l) a w) : wpList P ops Q ({ dst := dst, op := .load ty x, type := tp, pos := pos, after := aft, guard := none } :: l) a w := h
theorem isLoadG {P : Program} {ops : Array Oper} {Q : Exit → Act → World → Prop} {l : List Oper} {a : Act} {w : World} {dst : Option Tmp} {tp : TypeId} {pos : String} {aft : Array Edge} {g : Nat × Bool} (ty : TypeId) (x : Operand)
    (h : wpList P ops Q ({ dst := dst, op := .load ty x, type := tp, pos := pos, after := aft, guard := some g } :: l) a w) : wpList P ops Q ({ dst := dst, op := .load ty x, type := tp, pos := pos, after := aft, guard := some g } :: l) a w := h
theorem isStoreN {P : Program} {ops : Array Oper} {Q : Exit → Act → World → Prop} {l : List Oper} {a : Act} {w : World} {dst : Option Tmp} {tp : TypeId} {pos : String} {aft : Array Edge} (ty : TypeId) (x y : Operand)
    (h : wpList P ops Q ({ dst := dst, op := .store ty x y, type := tp, pos := pos, after := aft, guard := none } :: l) a w) : wpList P ops Q ({ dst := dst, op := .store ty x y, type := tp, pos := pos, after := aft, guard := none } :: l) a w := h
theorem isGuarded {P : Program} {ops : Array Oper} {Q : Exit → Act → World → Prop} {l : List Oper} {a : Act} {w : World} {dst : Option Tmp} {op : Op} {tp : TypeId} {pos : String} {aft : Array Edge} {g : Nat × Bool}
    (h : wpList P ops Q ({ dst := dst, op := op, type := tp, pos := pos, after := aft, guard := some g } :: l) a w) : wpList P ops Q ({ dst := dst, op := op, type := tp, pos := pos, after := aft, guard := some g } :: l) a w := h
theorem guardOn {P : Program} {ops : Array Oper} {Q : Exit → Act → World → Prop} {l : List Oper} {o : Oper} {a : Act} {w : World} (hw : Region.wanted o (yielded ops a.tmps) = true)
    (h : ∀ K : Act → World → Prop, (∀ a w, wpList P ops Q l a w → K a w) → Oper.wp P o a w K Q) : wpList P ops Q (o :: l) a w :=
  wpList_step fun K hK => by rw [if_pos hw]; exact h K hK
theorem guardOff {P : Program} {ops : Array Oper} {Q : Exit → Act → World → Prop} {l : List Oper} {o : Oper} {a : Act} {w : World} {d : Tmp} (hw : Region.wanted o (yielded ops a.tmps) = false) (hd : o.dst = some d)
    (h : wpList P ops Q l (a.put (some d) undef) w) : wpList P ops Q (o :: l) a w :=
  wpList_step fun K hK => by rw [hw, hd]; simp only [Bool.false_eq_true, if_false]; exact hK _ _ h
end Go.Gi
end
section
namespace Go.Proofs.Ytfegabikfkmepaa
open Go.RowKit Go.Gi Go.GiRow Go.Proofs.YtfegabikfkmepaaW.PrintWords Go.Proofs.YtfegabikfkmepaaW.PrintLast Go.Proofs.YtfegabikfkmepaaW.PrintMore PNe
set_option maxRecDepth 20000
set_option linter.unusedSimpArgs false
set_option linter.unusedVariables false
def H0a : ByteArray := bs (putL 4 0)
def X0a : It := ⟨⟨#[97]⟩, 0, 0, true⟩
theorem X0a_good : It.Good X0a := by refine ⟨by decide, by decide, by decide, by decide, by decide⟩
theorem apA1 : apR 3 0 0 ⟨#[]⟩ [] 1 3 H0a ⟨#[]⟩ 1 = (3, 1, 3, H0a, [], 0) := by kernel_rfl
theorem apA2 : apR 3 1 3 H0a [] 2 0 (slotOf X0a) ⟨#[]⟩ 2 = (3, 2, 3, H0a, [slotOf X0a], 0) := by kernel_rfl
theorem formA : node_FormatLeaf.f 0 = some (1, 3, H0a, ⟨#[]⟩) := by kernel_rfl
theorem leaf_own {w : World} {base : Nat} {v : Value} {l : List It} (num lsn : Int) (head : ByteArray) (hh : head.size = 4) (hg : ∀ x ∈ l, It.Good x) (hn : l.length ≤ 1000) (h : OwnP w base v (l.map slotOf)) :
    Calls Try.prog 31 #[.agg #[.int .u32 num, .int .u64 lsn, .int .i64 3, .string head, v]] w fun e w' => ∃ A c, e = .returned (.tuple #[.slice A l.length c, .int .i64 0]) ∧ Kd.C k47 w' A l.length (l.map ofIt) ∧ l.length ≤ c ∧ Below w.heap.size w w' := by
  obtain ⟨A, c, rfl, hc, hC⟩ := own_C h
  refine (node_Leaf.calls 2010 num lsn 3 head A c (l.map slotOf) _ _ w hC hc (leaf_f l hg (by omega) num lsn head hh 2010 (by omega))).mono ?_
  rintro e w' ⟨vk, rfl, hR, hb⟩
  obtain ⟨A1, c1, rfl, hc1, hC1⟩ := Kd.R_reads hR
  rw [List.length_map] at hc1 hC1
  refine ⟨A1, c1, ?_, hC1, hc1, hb⟩
  rw [List.length_map]
theorem sh_oneA (lsn : Int) (A : Option Addr) (n c : Nat) : (#[Value.int .u32 3, .int .u64 lsn, .int .i64 3, .string H0a, .slice A n c]).all (·.oneCell') = true := by simp [Value.oneCell']
set_option maxHeartbeats 16000000 in
theorem awake_h (w : World) : Calls Try.prog 7 #[] w fun e w' => e = .returned (.bool true) ∧ Below w.heap.size w w' := by
  go_enter Try.func7, Try.ntmps7
  go_upto_region 2 with (first | (go_at_call 12; refine (page_Blank.calls 3 3 0 0 ⟨#[]⟩ [] _ rfl).mono ?_; rintro e w1 ⟨v1, rfl, hR1, hb5⟩; obtain ⟨A1, m1, rfl⟩ := Kd.R_slice hR1; have hRR := Kd.R_reads' hR1; have HC := Lib.hid hRR.2.2; have HN := Lib.hid hRR.2.1; have HK := Lib.hid hb5; clear hR1 hb5 hRR) | (go_at_call 13; refine (node_FormatLeaf.calls 0 1 3 H0a ⟨#[]⟩ _ formA).mono ?_; rintro e w2 ⟨rfl, hb5⟩; have n_C := Lib.hid (Kd.C_below HC.out hb5); have n_K := Lib.hid (bstep HK.out hb5); clear hb5 HK HC; have HC := n_C; have HK := n_K; clear n_K n_C) | (go_at_call 11; refine (apply_any 3 0 0 ⟨#[]⟩ [] A1 m1 1 3 H0a ⟨#[]⟩ 1 _ HC.out HN.out (by simp) (by simp) (by decide)).mono ?_; rintro e w3 ⟨v3, he, ho, hb5⟩; rw [apA1] at he ho; subst he; obtain ⟨A3, m3, hv3⟩ := own_sl ho; subst hv3; have HV := Lib.hid (OwnP.lower (show OwnP w3 w2.heap.size (.slice A3 ([] : List ByteArray).length m3) (([] : List It).map slotOf) from ho) HK.out.size); have n_K := Lib.hid (bstep HK.out hb5); clear ho hb5 HC HK HN; have HK := n_K; clear n_K) | (with_reducible refine isStoreN 28 (.tmp 1) (.tmp 13) ?_; with_unfolding_all refine wpList_store_row rfl 28 (.tmp 1) (.tmp 13) rfl w3.heap.size #[.int .u32 3, .int .u64 1, .int .i64 3, .string H0a, (.slice A3 0 m3)] (by kernel_rfl) (by kernel_rfl) 28 #[.int .u32 0, .int .u64 0, .int .i64 0, .string ⟨#[]⟩, .slice none 0 0] (Blk.new w3 28 #[.int .u32 0, .int .u64 0, .int .i64 0, .string ⟨#[]⟩, .slice none 0 0]) (by kernel_rfl) rfl (sh_oneA _ _ _ _) ?_))
  have hB := Lib.hid (blk_setRow (cs' := #[.int .u32 3, .int .u64 1, .int .i64 3, .string H0a, (.slice A3 0 m3)]) (Blk.new w3 28 #[.int .u32 0, .int .u64 0, .int .i64 0, .string ⟨#[]⟩, .slice none 0 0]))
  have hb5 := setRow_below (balloc (Below.refl w3.heap.size w3) (.cells #[.int .u32 0, .int .u64 0, .int .i64 0, .string ⟨#[]⟩, .slice none 0 0] 28)) (Nat.le_refl w3.heap.size) #[.int .u32 3, .int .u64 1, .int .i64 3, .string H0a, (.slice A3 0 m3)]
  have n_HV := Lib.hid (HV.out.below hb5)
  have n_HK := Lib.hid (bstep HK.out hb5)
  clear hb5 HV HK
  have HV := n_HV
  have HK := n_HK
  clear n_HV n_HK
  generalize ((w3.alloc (.cells #[.int .u32 0, .int .u64 0, .int .i64 0, .string ⟨#[]⟩, .slice none 0 0] 28)).setRow w3.heap.size #[.int .u32 3, .int .u64 1, .int .i64 3, .string H0a, (.slice A3 0 m3)]) = w4 at *
  generalize w3.heap.size = g1 at *
  have H1 := hB
  clear hB
  go_upto_region 3 with (first | (with_reducible refine isLoadN 28 (.tmp 1) ?_; with_unfolding_all refine wpList_load_row rfl 28 (.tmp 1) rfl g1 (by kernel_rfl) 28 #[.int .u32 3, .int .u64 1, .int .i64 3, .string H0a, (.slice A3 0 m3)] (0, 0) _ H1.out Try.underlying28 rfl (by kernel_rfl) ?_) | (go_at_call 14; refine (put_own 3 1 H0a [] (fun x hx => absurd hx (by simp)) (by simp) rfl X0a X0a_good HV.out 2 0 (slotOf X0a) 0 (by rfl)).mono ?_; rintro e w5 ⟨rfl, hb5⟩; have n_H1 := Lib.hid (H1.out.step hb5); have n_HV := Lib.hid (HV.out.below hb5); have n_HK := Lib.hid (bstep HK.out hb5); clear hb5 H1 HV HK; have H1 := n_H1; have HV := n_HV; have HK := n_HK; clear n_H1 n_HV n_HK) | (with_reducible refine isStoreN 38 (.tmp 3) (.tmp 20) ?_; with_unfolding_all refine wpList_store_row rfl 38 (.tmp 3) (.tmp 20) rfl w5.heap.size #[.int .i64 2, .int .i64 0, .string (slotOf X0a), .string ⟨#[]⟩] (by kernel_rfl) (by kernel_rfl) 38 #[.int .i64 0, .int .i64 0, .string ⟨#[]⟩, .string ⟨#[]⟩] (Blk.new w5 38 #[.int .i64 0, .int .i64 0, .string ⟨#[]⟩, .string ⟨#[]⟩]) (by kernel_rfl) rfl (by simp [Value.oneCell']) ?_))
  have hB := Lib.hid (blk_setRow (cs' := #[.int .i64 2, .int .i64 0, .string (slotOf X0a), .string ⟨#[]⟩]) (Blk.new w5 38 #[.int .i64 0, .int .i64 0, .string ⟨#[]⟩, .string ⟨#[]⟩]))
  have hb5 := setRow_below (balloc (Below.refl w5.heap.size w5) (.cells #[.int .i64 0, .int .i64 0, .string ⟨#[]⟩, .string ⟨#[]⟩] 38)) (Nat.le_refl w5.heap.size) #[.int .i64 2, .int .i64 0, .string (slotOf X0a), .string ⟨#[]⟩]
  have n_H1 := Lib.hid (H1.out.step hb5)
  have n_HV := Lib.hid (HV.out.below hb5)
  have n_HK := Lib.hid (bstep HK.out hb5)
  clear hb5 H1 HV HK
  have H1 := n_H1
  have HV := n_HV
  have HK := n_HK
  clear n_H1 n_HV n_HK
  generalize ((w5.alloc (.cells #[.int .i64 0, .int .i64 0, .string ⟨#[]⟩, .string ⟨#[]⟩] 38)).setRow w5.heap.size #[.int .i64 2, .int .i64 0, .string (slotOf X0a), .string ⟨#[]⟩]) = w6 at *
  generalize w5.heap.size = g3 at *
  have H3 := hB
  clear hB
  go_upto_region 4 with (first | (with_reducible refine isLoadN 28 (.tmp 1) ?_; with_unfolding_all refine wpList_load_row rfl 28 (.tmp 1) rfl g1 (by kernel_rfl) 28 #[.int .u32 3, .int .u64 1, .int .i64 3, .string H0a, (.slice A3 0 m3)] (0, 0) _ H1.out Try.underlying28 rfl (by kernel_rfl) ?_) | (with_reducible refine isLoadN 38 (.tmp 3) ?_; with_unfolding_all refine wpList_load_row rfl 38 (.tmp 3) rfl g3 (by kernel_rfl) 38 #[.int .i64 2, .int .i64 0, .string (slotOf X0a), .string ⟨#[]⟩] (0, 0) _ H3.out Try.underlying38 rfl (by kernel_rfl) ?_) | (go_at_call 11; refine (ap_own 3 1 3 H0a 2 0 (slotOf X0a) ⟨#[]⟩ 2 HV.out (by simp) (fun x hx => absurd hx (by simp)) (by decide)).mono ?_; rintro e w7 ⟨vq, he_, ho_, hb5⟩; rw [show apR 3 1 3 H0a (([] : List It).map slotOf) 2 0 (slotOf X0a) ⟨#[]⟩ 2 = _ from apA2] at he_ ho_; subst he_; have HQ := Lib.hid (OwnP.lower (show OwnP w7 _ vq ([X0a].map slotOf) from ho_) HK.out.size); clear ho_; obtain ⟨Aq, cq, hVq⟩ : ∃ A c, vq = .slice A 1 c := own_sl HQ.out; subst hVq; have n_H1 := Lib.hid (H1.out.step hb5); have n_HV := Lib.hid (HV.out.below hb5); have n_HK := Lib.hid (bstep HK.out hb5); have n_H3 := Lib.hid (H3.out.step hb5); clear hb5 H1 HV HK H3; have H1 := n_H1; have HV := n_HV; have HK := n_HK; have H3 := n_H3; clear n_H1 n_HV n_HK n_H3) | (with_reducible refine isStoreN 28 (.tmp 5) (.tmp 26) ?_; with_unfolding_all refine wpList_store_row rfl 28 (.tmp 5) (.tmp 26) rfl w7.heap.size #[.int .u32 3, .int .u64 2, .int .i64 3, .string H0a, (.slice Aq 1 cq)] (by kernel_rfl) (by kernel_rfl) 28 #[.int .u32 0, .int .u64 0, .int .i64 0, .string ⟨#[]⟩, .slice none 0 0] (Blk.new w7 28 #[.int .u32 0, .int .u64 0, .int .i64 0, .string ⟨#[]⟩, .slice none 0 0]) (by kernel_rfl) rfl (sh_oneA _ _ _ _) ?_))
  have hB := Lib.hid (blk_setRow (cs' := #[.int .u32 3, .int .u64 2, .int .i64 3, .string H0a, (.slice Aq 1 cq)]) (Blk.new w7 28 #[.int .u32 0, .int .u64 0, .int .i64 0, .string ⟨#[]⟩, .slice none 0 0]))
  have hb5 := setRow_below (balloc (Below.refl w7.heap.size w7) (.cells #[.int .u32 0, .int .u64 0, .int .i64 0, .string ⟨#[]⟩, .slice none 0 0] 28)) (Nat.le_refl w7.heap.size) #[.int .u32 3, .int .u64 2, .int .i64 3, .string H0a, (.slice Aq 1 cq)]
  have n_H1 := Lib.hid (H1.out.step hb5)
  have n_HV := Lib.hid (HV.out.below hb5)
  have n_HK := Lib.hid (bstep HK.out hb5)
  have n_H3 := Lib.hid (H3.out.step hb5)
  have n_HQ := Lib.hid (HQ.out.below hb5)
  clear hb5 H1 HV HK H3 HQ
  have H1 := n_H1
  have HV := n_HV
  have HK := n_HK
  have H3 := n_H3
  have HQ := n_HQ
  clear n_H1 n_HV n_HK n_H3 n_HQ
  generalize ((w7.alloc (.cells #[.int .u32 0, .int .u64 0, .int .i64 0, .string ⟨#[]⟩, .slice none 0 0] 28)).setRow w7.heap.size #[.int .u32 3, .int .u64 2, .int .i64 3, .string H0a, (.slice Aq 1 cq)]) = w8 at *
  generalize w7.heap.size = g5 at *
  have H5 := hB
  clear hB
  go_upto_region 5 with (first | (with_reducible refine isLoadN 28 (.tmp 5) ?_; with_unfolding_all refine wpList_load_row rfl 28 (.tmp 5) rfl g5 (by kernel_rfl) 28 #[.int .u32 3, .int .u64 2, .int .i64 3, .string H0a, (.slice Aq 1 cq)] (0, 0) _ H5.out Try.underlying28 rfl (by kernel_rfl) ?_) | (go_at_call 31; refine (leaf_own 3 2 H0a rfl (l := [X0a]) (fun x hx => by rw [List.mem_singleton.1 hx]; exact X0a_good) (by simp) HQ.out).mono ?_; rintro e w9 ⟨Ak, ck, rfl, hC_, hcl_, hb5⟩; have HC := Lib.hid hC_; clear hC_ hcl_; have n_H5 := Lib.hid (H5.out.step hb5); have n_HQ := Lib.hid (HQ.out.below hb5); have n_HK := Lib.hid (bstep HK.out hb5); clear hb5 H5 HQ HK; have H5 := n_H5; have HQ := n_HQ; have HK := n_HK; clear n_H5 n_HQ n_HK))
  have hit := itrows_of_C (l := [ofIt X0a]) HC.out
  obtain ⟨kb, ko, hAk, _, hcl⟩ := hit 0 (by simp)
  subst hAk
  have y0 : w9.cell? ⟨kb, ko, none⟩ = some (.string ⟨#[97]⟩) := by have h_ := hcl 0 _ rfl; rw [Nat.zero_mul, Nat.add_zero] at h_; exact h_
  have y3 : w9.cell? ⟨kb, ko + 3, none⟩ = some (.bool true) := by have h_ := hcl 3 _ rfl; rw [Nat.zero_mul, Nat.add_zero] at h_; exact h_
  clear hit hcl
  go_wp2_with (first | (with_reducible refine isGuarded ?_; refine guardOn (by with_unfolding_all rfl) ?_; intro _ _))
  go_ret
  exact ⟨rfl, HK.out⟩
end Go.Proofs.Ytfegabikfkmepaa
end
section
namespace Go.Proofs.Ytfegabikfkmepaa
open Go.RowKit Go.Gi Go.GiRow Go.Proofs.YtfegabikfkmepaaW.PrintWords Go.Proofs.YtfegabikfkmepaaW.PrintLast Go.Proofs.YtfegabikfkmepaaW.PrintMore PNe
set_option maxRecDepth 20000
set_option linter.unusedSimpArgs false
set_option linter.unusedVariables false
theorem rd_of_Cn {α β : Type} {k : Kd β} {of : α → β} {cells : α → List Value} {n : Nat} (hsz : k.sz = n) (hn : 0 < n) (hk : ∀ w a cs, k.K w (of a) cs → cs = cells a) (hlen : ∀ a, (cells a).length = n) {w : World} {A : Option Addr} {l : List α}
    (h : Kd.C k w A l.length (l.map of)) : RdRows cells n w A l := fun j hj => by
  obtain ⟨h1, h2, h3⟩ := h
  obtain ⟨ad, rfl, hc⟩ := h3 (by omega)
  have hat : ∀ i (hi : i < l.length) x u, (cells l[i])[x]? = some u → w.cell? (ad.add (i * n + x)) = some u := by
    intro i hi x u hu
    obtain ⟨c, hcl, hK, hcell⟩ := hc i (of l[i]) (by simp [hi])
    have e := hk _ _ _ hK
    subst e
    rw [hsz] at hcell
    exact hcell x u hu
  have hc0 := hat 0 (by omega) 0 _ (List.getElem?_eq_getElem (by rw [hlen]; exact hn))
  rw [show ad.add (0 * n + 0) = ad by unfold Addr.add; simp] at hc0
  have hsp : ad.spot = none := by
    unfold World.cell? at hc0
    cases hs : ad.spot with
    | none => rfl
    | some y =>
      simp [hs] at hc0
      split at hc0 <;> simp_all
  obtain ⟨b, off, sp⟩ := ad
  simp only at hsp
  subst hsp
  refine ⟨b, off, rfl, World.block_lt_of_cell? w _ hc0, fun x u hu => ?_⟩
  have := hat j hj x u hu
  rw [show (⟨b, off, none⟩ : Addr).add (j * n + x) = ⟨b, off + j * n + x, none⟩ by unfold Addr.add; split <;> simp_all [Nat.add_assoc]] at this
  exact this
def ek12 (k : ByteArray) : ByteArray := if (k.size : Int) > 12 then k.extract 0 12 else k
theorem ek12_size (k : ByteArray) : (ek12 k).size ≤ 12 := by
  unfold ek12
  split
  · simp [ByteArray.size_extract]; omega
  · omega
def es16 (s : Int) : Int := Go.bits .and .i64 s 65535
theorem es16_le (s : Int) : 0 ≤ es16 s ∧ es16 s ≤ 65535 := by
  obtain ⟨m, h, hm⟩ := and16 s
  unfold es16
  omega
theorem entry_any (k : ByteArray) (p s : Int) (w : World) : Calls Try.prog 16 #[.agg #[.string k, .int .u32 p, .int .i64 s]] w fun e w' => e = .returned (.agg #[.string (ek12 k), .int .u32 p, .int .i64 (es16 s)]) ∧ Below w.heap.size w w' := by
  refine girderlaw12_entry.calls k p s _ _ _ w ?_
  unfold girderlaw12_entry.f ek12 es16
  by_cases h : (k.size : Int) > 12
  · rw [if_pos h, if_pos h, if_pos (by omega)]
  · rw [if_neg h, if_neg h]
theorem before_any (k1 : ByteArray) (p1 s1 : Int) (k2 : ByteArray) (p2 s2 : Int) (w : World) : Calls Try.prog 17 #[.agg #[.string k1, .int .u32 p1, .int .i64 s1], .agg #[.string k2, .int .u32 p2, .int .i64 s2]] w fun e w' => e = .returned (.bool (bef k1 p1 s1 k2 p2 s2)) ∧ Below w.heap.size w w' :=
  girderlaw12_before.calls _ _ _ _ _ _ _ w (before_f ..)
theorem slotc_any (x : ChN) (hx : ChN.Good x) (w : World) : Calls Try.prog 27 #[.agg #[.string x.key, .int .u32 x.rp, .int .i64 x.rs]] w fun e w' => e = .returned (.string (bs (putL 4 x.rp.toNat ++ putL 2 x.rs.toNat ++ x.key.data.toList))) ∧ Below w.heap.size w w' :=
  girderlaw12_slot.calls _ _ _ _ w (slot_f x hx)
theorem put4_any {p : Int} (h0 : 0 ≤ p) (h1 : p ≤ 4294967295) (w : World) : Calls Try.prog 26 #[.int .u64 p, .int .i64 4] w fun e w' => e = .returned (.string (bs (putL 4 p.toNat))) ∧ Below w.heap.size w w' :=
  girderref01_Put.calls _ _ _ w (refput_f h0 h1)
theorem putChild_any (i : Int) (x : ChN) (hx : ChN.Good x) (w : World) : Calls Try.prog 25 #[.int .i64 i, .agg #[.int .u32 x.page, .string x.key, .int .u32 x.rp, .int .i64 x.rs]] w fun e w' => e = .returned (.agg #[.int .i64 2, .int .i64 i, .string (cslot x), .string ⟨#[]⟩]) ∧ Below w.heap.size w w' :=
  node_PutChild.calls _ _ _ _ _ _ _ _ _ w (putChild_f i x hx)
theorem formI_any (lv : Nat) (h : lv ≤ 255) (w : World) : Calls Try.prog 23 #[.int .i64 lv] w fun e w' => e = .returned (.agg #[.int .i64 1, .int .i64 4, .string (H1 lv), .string ⟨#[]⟩]) ∧ Below w.heap.size w w' :=
  node_FormatInner.calls _ _ _ _ _ w (formI_f lv h)
theorem level_own {w : World} {base : Nat} {v : Value} {slots : List ByteArray} (num lsn : Int) (lv : Nat) (hl : lv ≤ 255) (h : OwnP w base v slots) :
    Calls Try.prog 24 #[.agg #[.int .u32 num, .int .u64 lsn, .int .i64 4, .string (H1 lv), v]] w fun e w' => e = .returned (.int .i64 lv) ∧ Below w.heap.size w w' := by
  obtain ⟨A, c, rfl, hc, hC⟩ := own_C h
  exact node_Level.calls num lsn 4 (H1 lv) A c slots _ w hC hc (level_f num lsn lv hl slots)
structure RowsC (w : World) (A : Option Addr) (c : Nat) (l : List ChN) : Prop where
  h : Kd.C k66 w A l.length (l.map ofCh)
  hc : l.length ≤ c
theorem RowsC.below {w w' : World} {A : Option Addr} {c : Nat} {l : List ChN} (h : RowsC w A c l) (hb : Below w.heap.size w w') : RowsC w' A c l := ⟨Kd.C_below h.h hb, h.hc⟩
theorem RowsC.rd {w : World} {A : Option Addr} {c : Nat} {l : List ChN} (h : RowsC w A c l) : RdRows ChN.cells 4 w A l :=
  rd_of_Cn (k := k66) (of := ofCh) rfl (by decide) (fun _ _ _ h => k66_open h) (fun _ => rfl) h.h
theorem inner_own {w : World} {base : Nat} {v : Value} {l : List ChN} (num lsn : Int) (lv : Nat) (hg : ∀ x ∈ l, ChN.Good x) (hn : l.length ≤ 1000) (h : OwnP w base v (l.map cslot)) :
    Calls Try.prog 28 #[.agg #[.int .u32 num, .int .u64 lsn, .int .i64 4, .string (H1 lv), v]] w fun e w' => ∃ A c, e = .returned (.tuple #[.slice A l.length c, .int .i64 0]) ∧ RowsC w' A c l ∧ Below w.heap.size w w' := by
  obtain ⟨A, c, rfl, hc, hC⟩ := own_C h
  refine (node_Inner.calls 1010 num lsn 4 (H1 lv) A c (l.map cslot) _ _ w hC hc (inner_f l hg (by omega) num lsn (H1 lv) (H1_size lv) 1010 (by omega))).mono ?_
  rintro e w' ⟨vk, rfl, hR, hb⟩
  obtain ⟨A1, c1, rfl, hc1, hC1⟩ := Kd.R_reads hR
  rw [List.length_map] at hc1 hC1
  refine ⟨A1, c1, ?_, ⟨hC1, hc1⟩, hb⟩
  rw [List.length_map]
theorem setFrom_own_no {w : World} {base : Nat} {v : Value} {l : List ChN} (num lsn : Int) (lv : Nat) (hg : ∀ x ∈ l, ChN.Good x) (hn : l.length ≤ 1000) (h : OwnP w base v (l.map cslot)) (at_ : Int) (hat : at_ < 0 ∨ (l.length : Int) ≤ at_) (key : ByteArray) (rp rs : Int) :
    Calls Try.prog 29 #[.agg #[.int .u32 num, .int .u64 lsn, .int .i64 4, .string (H1 lv), v], .int .i64 at_, .agg #[.string key, .int .u32 rp, .int .i64 rs]] w fun e w' => e = .returned (.tuple #[.agg #[.int .i64 0, .int .i64 0, .string ⟨#[]⟩, .string ⟨#[]⟩], .int .i64 2]) ∧ Below w.heap.size w w' := by
  obtain ⟨A, c, rfl, hc, hC⟩ := own_C h
  exact node_SetFrom.calls 1010 num lsn 4 (H1 lv) A c (l.map cslot) at_ key rp rs _ _ _ _ _ w hC hc (setFrom_no l hg hn num lsn (H1 lv) (H1_size lv) at_ hat key rp rs)
theorem setFrom_own_yes {w : World} {base : Nat} {v : Value} {l : List ChN} (num lsn : Int) (lv : Nat) (hg : ∀ x ∈ l, ChN.Good x) (hn : l.length ≤ 1000) (h : OwnP w base v (l.map cslot)) (at_ : Nat) (hat : at_ < l.length) (x : ChN) (hx : ChN.Good x) (hp : x.page = l[at_].page) :
    Calls Try.prog 29 #[.agg #[.int .u32 num, .int .u64 lsn, .int .i64 4, .string (H1 lv), v], .int .i64 at_, .agg #[.string x.key, .int .u32 x.rp, .int .i64 x.rs]] w fun e w' => e = .returned (.tuple #[.agg #[.int .i64 4, .int .i64 at_, .string (cslot x), .string (cslot l[at_])], .int .i64 0]) ∧ Below w.heap.size w w' := by
  obtain ⟨A, c, rfl, hc, hC⟩ := own_C h
  exact node_SetFrom.calls 1010 num lsn 4 (H1 lv) A c (l.map cslot) at_ x.key x.rp x.rs _ _ _ _ _ w hC hc (setFrom_yes l hg hn num lsn (H1 lv) (H1_size lv) at_ hat x hx hp)
theorem down_own {w : World} {A : Option Addr} {c : Nat} {l : List ChN} (h : RowsC w A c l) (hn : l.length ≤ 1000) (k1 : ByteArray) (p1 s1 : Int) :
    Calls Try.prog 30 #[.slice A l.length c, .agg #[.string k1, .int .u32 p1, .int .i64 s1]] w fun e w' => e = .returned (.int .i64 (dnN l k1 p1 s1 l.length : Nat)) ∧ Below w.heap.size w w' := by
  have := node_Down.calls 1010 A c (l.map ofCh) k1 p1 s1 _ w (by rw [List.length_map]; exact h.h) (by rw [List.length_map]; exact h.hc) (down_f l hn k1 p1 s1)
  rw [List.length_map] at this
  exact this
theorem and15 (x : Int) : ∃ m : Nat, Go.bits .and .i64 x 15 = (m : Int) ∧ m ≤ 15 := by
  have h : ((BitVec.ofInt 64 x) &&& (BitVec.ofInt 64 15)).toNat ≤ 15 := by
    rw [BitVec.toNat_and]
    exact Nat.le_trans Nat.and_le_right (by decide)
  refine ⟨_, ?_, h⟩
  have e : Go.bits .and .i64 x 15 = IntKind.i64.wrap (((BitVec.ofInt 64 x) &&& (BitVec.ofInt 64 15)).toNat : Int) := rfl
  rw [e, IntKind.wrap_i64]
  omega
theorem yields_row {P : Program} {ops : Array Oper} {S : World → Prop} {o : Oper} {a : Act} (ty : TypeId) (x : Operand) (ho : o.op = .load ty x) (hw : Region.wanted o (yielded ops a.tmps) = true)
    (g : Nat) (hx : a.eval x = .pointer (some ⟨g, 0, none⟩)) (t : TypeId) (cs : Array Value) (fr : Nat × Nat) (d : TypeDesc) (hg : ∀ w : World, S w → w.heap[g]? = some (.cells cs t fr))
    (hu : P.underlying ty = some d) (hd : (match d with | .struct _ | .array _ _ => true | _ => false) = true) (hi : (P.info? ty).map (·.size) = some cs.size) : YieldsIf P ops S o (.agg cs) a :=
  Or.inl ⟨hw, fun w hs => by
    unfold execOp
    simp only [ho, hx, Instr.loadAt, Instr.sureAddr, Sem.run_bind, Sem.run_pure, Result.andThen_ok, run_loadVar_row w g t ty cs fr d (hg w hs) hu hd hi]⟩
theorem run_store_rowI {P : Program} {o : Oper} {a : Act} {w : World} (ty : TypeId) (x y : Operand) (ho : o.op = .store ty x y)
    (g : Nat) (cells : Array Value) (hx : a.eval x = .pointer (some ⟨g, 0, none⟩)) (hy : a.eval y = .agg cells)
    (t : TypeId) (old : Array Value) (hg : w.heap[g]? = some (.cells old t (0, 0))) (hi : (P.info? ty).map (·.size) = some cells.size)
    (hold : old.size = cells.size) (h1 : cells.all (·.oneCell') = true) : (execOp a.eval o).run P w = .ok .skip (w.setRow g cells) := by
  unfold execOp
  simp only [ho, hx, hy, Instr.storeAt, Instr.sureAddr, Sem.run_bind, Sem.run_pure, Result.andThen_ok, run_storeVar_row w g t ty old cells hg hi hold h1]
theorem info_partsI {P : Program} {t : TypeId} {z : Value} {n b : Nat} (h : (P.info? t).map (fun i => (i.zero, i.size, i.bytes)) = some (some z, n, b)) : ∃ i, P.info? t = some i ∧ i.zero = some z ∧ i.size = n ∧ i.bytes = b := by
  obtain ⟨i, h1, h2⟩ := Option.map_eq_some_iff.1 h
  injection h2 with h2 h3
  injection h3 with h3 h4
  exact ⟨i, h1, h2, h3, h4⟩
theorem cellsB {w : World} {g T : Nat} {cs : List Value} (h : Blk w g T cs.toArray) : ∀ j u, cs[j]? = some u → w.cell? ((⟨g, 0, none⟩ : Addr).add j) = some u := by
  intro j u hj
  have hadd : (⟨g, 0, none⟩ : Addr).add j = ⟨g, j, none⟩ := by unfold Addr.add; split <;> simp_all
  rw [hadd, h.cell j]
  simpa using hj
theorem slot_at {w : World} {base n c : Nat} {A : Option Addr} {slots : List ByteArray} (h : OwnP w base (.slice A n c) slots) (k : Nat) (hk : k < slots.length) : ∃ b, A = some ⟨b, 0, none⟩ ∧ ∀ W : World, OwnP W base (.slice (some ⟨b, 0, none⟩) n c) slots → W.cell? ⟨b, k, none⟩ = some (.string slots[k]) := by
  have hf : ∃ g, A = some ⟨g, 0, none⟩ := by
    rcases h.2 with ⟨e, h0⟩ | ⟨g, cap, cur, e, h1, h2, h3, h4, _⟩
    · omega
    · injection e with e1 e2 e3
      exact ⟨g, e1⟩
  obtain ⟨g, rfl⟩ := hf
  exact ⟨g, rfl, fun W hW => by rw [own_at_ hW k hk]; exact strV_at slots k hk⟩
theorem rowM_at {w : World} {base n c : Nat} {A : Option Addr} {l : List ChN} (h : w.ownsRow base 66 4 (.slice A n c) l.length (l.map ChN.cells).flatten) (hn : n = l.length) (i : Nat) (hi : i < l.length) :
    ∃ b, A = some ⟨b, 0, none⟩ ∧ ∀ W : World, W.ownsRow base 66 4 (.slice (some ⟨b, 0, none⟩) n c) l.length (l.map ChN.cells).flatten → ∀ j u, (ChN.cells (l[i]'hi))[j]? = some u → W.cell? ⟨b, 0 + i * 4 + j, none⟩ = some u := by
  have hf : ∃ g, A = some ⟨g, 0, none⟩ := by
    rcases h.2 with ⟨e, h0⟩ | ⟨g, cap, cur, e, _⟩
    · omega
    · injection e with e1
      exact ⟨g, e1⟩
  obtain ⟨g, rfl⟩ := hf
  refine ⟨g, rfl, fun W hW j u hu => ?_⟩
  obtain ⟨A', c', e, hr⟩ := own_rows (enc := ChN.cells) (fun _ => rfl) hW
  obtain ⟨b, off, e2, _, _, hc⟩ := hr i hi
  injection e with e1 _ _
  subst e1
  injection e2 with e2
  injection e2 with e3 e4 _
  subst e3 e4
  exact hc j u hu
theorem rowC_at {w : World} {A : Option Addr} {c : Nat} {l : List ChN} (h : RowsC w A c l) (i : Nat) (hi : i < l.length) :
    ∃ b off, A = some ⟨b, off, none⟩ ∧ ∀ W : World, RowsC W (some ⟨b, off, none⟩) c l → ∀ j u, (ChN.cells (l[i]'hi))[j]? = some u → W.cell? ⟨b, off + i * 4 + j, none⟩ = some u := by
  obtain ⟨b, off, rfl, _, _⟩ := h.rd i hi
  refine ⟨b, off, rfl, fun W hW j u hu => ?_⟩
  obtain ⟨b2, off2, e2, _, hc⟩ := hW.rd i hi
  injection e2 with e2
  injection e2 with e3 e4 _
  subst e3 e4
  exact hc j u hu
theorem dn_yes {l : List ChN} {k1 : ByteArray} {p1 s1 : Int} {i : Nat} (h : i < l.length) {x : ChN} (hx : l[i] = x) (h0 : 0 < i) (hb : bef k1 p1 s1 x.key x.rp x.rs = false) : dnN l k1 p1 s1 (i + 1) = i := by
  subst hx
  rw [dnN, if_pos ⟨h0, h, hb⟩]
theorem dn_no {l : List ChN} {k1 : ByteArray} {p1 s1 : Int} {i : Nat} (h : i < l.length) {x : ChN} (hx : l[i] = x) (hb : ¬ (0 < i ∧ bef k1 p1 s1 x.key x.rp x.rs = false)) : dnN l k1 p1 s1 (i + 1) = dnN l k1 p1 s1 i := by
  subst hx
  rw [dnN, if_neg (fun h_ => hb ⟨h_.1, h_.2.2⟩)]
theorem RowsC.far {w : World} {g c : Nat} {A : Option Addr} {l : List ChN} {cs' : Array Value} (h : RowsC w A c l) (hne : ∀ a, A = some a → l ≠ [] → a.block ≠ g) : RowsC (w.setRow g cs') A c l := by
  refine ⟨⟨h.h.1, h.h.2.1, fun h0 => ?_⟩, h.hc⟩
  obtain ⟨ad, rfl, hc⟩ := h.h.2.2 h0
  refine ⟨ad, rfl, fun j p hp => ?_⟩
  obtain ⟨cl, h1, h2, h3⟩ := hc j p hp
  refine ⟨cl, h1, ?_, fun i u hu => ?_⟩
  · rw [k66_open h2]
    exact k66_mk _ _
  · rw [cell_setRow_other w g cs' _ (by have h_ := hne ad rfl (fun e_ => by rw [e_] at h0; simp at h0); unfold Addr.add; split <;> exact h_)]
    exact h3 i u hu
theorem rowsC_new {w : World} {c : Nat} {A : Option Addr} {l : List ChN} (h : RowsC w A c l) : ∀ a, A = some a → l ≠ [] → a.block ≠ w.heap.size := fun a ha hl e => by
  obtain ⟨b, off, e2, hb, _⟩ := h.rd 0 (List.length_pos_iff.2 hl)
  rw [ha] at e2
  injection e2 with e2
  rw [e2] at e
  simp only at e
  omega
end Go.Proofs.Ytfegabikfkmepaa
end
