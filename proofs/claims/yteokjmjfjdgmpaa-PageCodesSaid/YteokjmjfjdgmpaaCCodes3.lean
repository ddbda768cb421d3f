import Derived.Test.YteokjmjfjdgmpaaCCodes2
section
namespace Go.Proofs.Yteokjmjfjdgmpaa.PPg
open Go.RowKit Go.Proofs.YteokjmjfjdgmpaaW.PrintWords Go.Proofs.YteokjmjfjdgmpaaW.PrintLast Go.Proofs.YteokjmjfjdgmpaaW.PrintMore
attribute [local go_sem] max2_int min2_int max_two min_two max_three min_three max_four min_four
set_option linter.unusedVariables false
set_option linter.unusedSimpArgs false
mutual
def girderref03_Same.j0 : Nat → Bool → Int → Int → Int → ByteArray → List ByteArray → Int → Int → Int → ByteArray → List ByteArray → Option (Bool)
 | 0,_,_,_,_,_,_,_,_,_,_,_=>none
 | k + 1,x33,x245000,x245001,x245002,x245003,x245004,x246000,x246001,x246002,x246003,x246004=>if x33=true then (some false) else (girderref03_Same.l0 k 0 x245000 x245001 x245002 x245003 x245004 x246000 x246001 x246002 x246003 x246004)
def girderref03_Same.l0 : Nat → Int → Int → Int → Int → ByteArray → List ByteArray → Int → Int → Int → ByteArray → List ByteArray → Option (Bool)
 | 0,_,_,_,_,_,_,_,_,_,_,_=>none
 | k + 1,x5,x245000,x245001,x245002,x245003,x245004,x246000,x246001,x246002,x246003,x246004=>if x5 < (x245004.length : Int) then (if 0≤x5 then (if x5 < (x246004.length : Int) then (if (rdOf ByteArray.empty x245004 x5).toList=(rdOf ByteArray.empty x246004 x5).toList then (girderref03_Same.l0 k (wrap64 (x5 + 1)) x245000 x245001 x245002 x245003 x245004 x246000 x246001 x246002 x246003 x246004) else (some false)) else (none)) else (none)) else (some true)
end
def girderref03_Same.f (k : Nat) (a0_0 : Int) (a0_1 : Int) (a0_2 : Int) (a0_3 : ByteArray) (l0_4 : List ByteArray) (a1_0 : Int) (a1_1 : Int) (a1_2 : Int) (a1_3 : ByteArray) (l1_4 : List ByteArray) : Option (Bool):=if a0_0=a1_0 then (if a0_2=a1_2 then (if a0_3.toList=a1_3.toList then (girderref03_Same.j0 k ((l0_4.length : Int) != (l1_4.length : Int)) a0_0 a0_1 a0_2 a0_3 l0_4 a1_0 a1_1 a1_2 a1_3 l1_4) else (girderref03_Same.j0 k true a0_0 a0_1 a0_2 a0_3 l0_4 a1_0 a1_1 a1_2 a1_3 l1_4)) else (girderref03_Same.j0 k true a0_0 a0_1 a0_2 a0_3 l0_4 a1_0 a1_1 a1_2 a1_3 l1_4)) else (girderref03_Same.j0 k true a0_0 a0_1 a0_2 a0_3 l0_4 a1_0 a1_1 a1_2 a1_3 l1_4)
set_option maxHeartbeats 8000000 in
set_option maxRecDepth 100000 in
theorem girderref03_Same.calls (k : Nat) (a0_0 : Int) (a0_1 : Int) (a0_2 : Int) (a0_3 : ByteArray) (A0_4 : Option Addr) (c0_4 : Nat) (l0_4 : List ByteArray) (a1_0 : Int) (a1_1 : Int) (a1_2 : Int) (a1_3 : ByteArray) (A1_4 : Option Addr) (c1_4 : Nat) (l1_4 : List ByteArray) (r : Bool) (w : World) (hr0_4 : Kd.C Kd.string w A0_4 l0_4.length l0_4) (hc0_4 : l0_4.length≤c0_4) (hr1_4 : Kd.C Kd.string w A1_4 l1_4.length l1_4) (hc1_4 : l1_4.length≤c1_4) (h : girderref03_Same.f k a0_0 a0_1 a0_2 a0_3 l0_4 a1_0 a1_1 a1_2 a1_3 l1_4=some r) :
  Calls Try.prog 21 #[.agg #[.int .u32 a0_0,.int .u64 a0_1,.int .i64 a0_2,.string a0_3,.slice A0_4 l0_4.length c0_4],.agg #[.int .u32 a1_0,.int .u64 a1_1,.int .i64 a1_2,.string a1_3,.slice A1_4 l1_4.length c1_4]] w fun e w'=>e=.returned (.bool r)∧Below w.heap.size w w':=by
 have hu35:=Try.underlying35
 have HR0_4:=Aside0.mk hr0_4
 have HC0_4:=Aside0.mk hc0_4
 clear hr0_4 hc0_4
 have HR1_4:=Aside0.mk hr1_4
 have HC1_4:=Aside0.mk hc1_4
 clear hr1_4 hc1_4
 have HB:=Aside0.mk (Below.refl w.heap.size w)
 have H : (if a0_0=a1_0 then (if a0_2=a1_2 then (if a0_3.toList=a1_3.toList then (girderref03_Same.j0 k ((l0_4.length : Int) != (l1_4.length : Int)) a0_0 a0_1 a0_2 a0_3 l0_4 a1_0 a1_1 a1_2 a1_3 l1_4) else (girderref03_Same.j0 k true a0_0 a0_1 a0_2 a0_3 l0_4 a1_0 a1_1 a1_2 a1_3 l1_4)) else (girderref03_Same.j0 k true a0_0 a0_1 a0_2 a0_3 l0_4 a1_0 a1_1 a1_2 a1_3 l1_4)) else (girderref03_Same.j0 k true a0_0 a0_1 a0_2 a0_3 l0_4 a1_0 a1_1 a1_2 a1_3 l1_4))=some r:=h
 clear h
 have HC3:=Aside0.mk H
 clear H
 go_enter Try.func21,Try.ntmps21
 go_upto_region 1 with (first|((with_reducible refine gate_dst (N:=2) rfl ?_);(try (refine gate_guard (by rfl) ?_;dsimp only));refine box_event ?hg (N:=2) ?hd (cs:=#[.int .u32 a0_0,.int .u64 a0_1,.int .i64 a0_2,.string a0_3,.slice A0_4 l0_4.length c0_4]) (t:=35) ?hr ?_;(case hd=>rfl);(case hg=>rfl);(case hr=>first|(go_simp;done)|(go_simp;rfl));intro gb244 hg w4 hbox hb;have n0_:=Aside0.mk (below_step (by repeat (first|(with_reducible first|exact HB.out|apply below_alloc|apply pw_below_drewN|apply below_drew1)|exact HB.out)) hb);have n1_:=Aside0.mk (hbox);have n2_:=Aside0.mk ((by rw [hg];exact (below_size (by repeat (first|(with_reducible first|exact HB.out|apply below_alloc|apply pw_below_drewN|apply below_drew1)|exact HB.out))) : w.heap.size≤gb244));have n3_:=Aside0.mk ((by rw [hg];exact (below_size (by repeat (first|(with_reducible first|exact HB.out|apply below_alloc|apply pw_below_drewN|apply below_drew1)|exact HB.out))) : w.heap.size≤gb244));clear HB;have HB:=n0_;have BK244:=n1_;have GW244:=n2_;have GE244:=n3_;clear n0_ n1_ n2_ n3_;clear hb hbox hg)|((with_reducible refine gate_dst (N:=3) rfl ?_);(try (refine gate_guard (by rfl) ?_;dsimp only));refine box_event ?hg (N:=3) ?hd (cs:=#[.int .u32 a1_0,.int .u64 a1_1,.int .i64 a1_2,.string a1_3,.slice A1_4 l1_4.length c1_4]) (t:=35) ?hr ?_;(case hd=>rfl);(case hg=>rfl);(case hr=>first|(go_simp;done)|(go_simp;rfl));intro gb245 hg w5 hbox hb;have n0_:=Aside0.mk (blk_below (g:=gb244) (o:=.cells #[.int .u32 a0_0,.int .u64 a0_1,.int .i64 a0_2,.string a0_3,.slice A0_4 l0_4.length c0_4] 35 (0,0)) (by (with_reducible repeat (first|refine blk_drewN ?_ _|refine blk_drew ?_|refine blk_alloc ?_ _));exact BK244.out) hb);have n1_:=Aside0.mk (below_step (by repeat (first|(with_reducible first|exact HB.out|apply below_alloc|apply pw_below_drewN|apply below_drew1|refine below_set ?_ GE244.out)|exact HB.out)) hb);have n2_:=Aside0.mk (hbox);have n3_:=Aside0.mk ((by rw [hg];exact (below_size (by repeat (first|(with_reducible first|exact HB.out|apply below_alloc|apply pw_below_drewN|apply below_drew1|refine below_set ?_ GE244.out)|exact HB.out))) : w.heap.size≤gb245));have n4_:=Aside0.mk ((by rw [hg];exact (below_size (by repeat (first|(with_reducible first|exact HB.out|apply below_alloc|apply pw_below_drewN|apply below_drew1|refine below_set ?_ GE244.out)|exact HB.out))) : w.heap.size≤gb245));have n5_:=Aside0.mk ((by rw [hg];exact Nat.ne_of_lt (blk_lt (g:=gb244) (o:=.cells #[.int .u32 a0_0,.int .u64 a0_1,.int .i64 a0_2,.string a0_3,.slice A0_4 l0_4.length c0_4] 35 (0,0)) (by (with_reducible repeat (first|refine blk_drewN ?_ _|refine blk_drew ?_|refine blk_alloc ?_ _));exact BK244.out)) : gb244≠gb245));have n6_:=Aside0.mk ((by rw [hg];exact Nat.ne_of_gt (blk_lt (g:=gb244) (o:=.cells #[.int .u32 a0_0,.int .u64 a0_1,.int .i64 a0_2,.string a0_3,.slice A0_4 l0_4.length c0_4] 35 (0,0)) (by (with_reducible repeat (first|refine blk_drewN ?_ _|refine blk_drew ?_|refine blk_alloc ?_ _));exact BK244.out)) : gb245≠gb244));clear BK244;clear HB;have BK244:=n0_;have HB:=n1_;have BK245:=n2_;have GW245:=n3_;have GE245:=n4_;have NB244_245:=n5_;have NB245_244:=n6_;clear n0_ n1_ n2_ n3_ n4_ n5_ n6_;clear hb hbox hg))
 repeat (go_quiet (first|((with_reducible refine gate_dst (N:=2) rfl ?_);(try (refine gate_guard (by rfl) ?_;dsimp only));refine box_event ?hg (N:=2) ?hd (cs:=#[.int .u32 a0_0,.int .u64 a0_1,.int .i64 a0_2,.string a0_3,.slice A0_4 l0_4.length c0_4]) (t:=35) ?hr ?_;(case hd=>rfl);(case hg=>rfl);(case hr=>first|(go_simp;done)|(go_simp;rfl));intro gb244 hg w4 hbox hb;have n0_:=Aside0.mk (below_step (by repeat (first|(with_reducible first|exact HB.out|apply below_alloc|apply pw_below_drewN|apply below_drew1)|exact HB.out)) hb);have n1_:=Aside0.mk (hbox);have n2_:=Aside0.mk ((by rw [hg];exact (below_size (by repeat (first|(with_reducible first|exact HB.out|apply below_alloc|apply pw_below_drewN|apply below_drew1)|exact HB.out))) : w.heap.size≤gb244));have n3_:=Aside0.mk ((by rw [hg];exact (below_size (by repeat (first|(with_reducible first|exact HB.out|apply below_alloc|apply pw_below_drewN|apply below_drew1)|exact HB.out))) : w.heap.size≤gb244));clear HB;have HB:=n0_;have BK244:=n1_;have GW244:=n2_;have GE244:=n3_;clear n0_ n1_ n2_ n3_;clear hb hbox hg)|((with_reducible refine gate_dst (N:=3) rfl ?_);(try (refine gate_guard (by rfl) ?_;dsimp only));refine box_event ?hg (N:=3) ?hd (cs:=#[.int .u32 a1_0,.int .u64 a1_1,.int .i64 a1_2,.string a1_3,.slice A1_4 l1_4.length c1_4]) (t:=35) ?hr ?_;(case hd=>rfl);(case hg=>rfl);(case hr=>first|(go_simp;done)|(go_simp;rfl));intro gb245 hg w5 hbox hb;have n0_:=Aside0.mk (blk_below (g:=gb244) (o:=.cells #[.int .u32 a0_0,.int .u64 a0_1,.int .i64 a0_2,.string a0_3,.slice A0_4 l0_4.length c0_4] 35 (0,0)) (by (with_reducible repeat (first|refine blk_drewN ?_ _|refine blk_drew ?_|refine blk_alloc ?_ _));exact BK244.out) hb);have n1_:=Aside0.mk (below_step (by repeat (first|(with_reducible first|exact HB.out|apply below_alloc|apply pw_below_drewN|apply below_drew1|refine below_set ?_ GE244.out)|exact HB.out)) hb);have n2_:=Aside0.mk (hbox);have n3_:=Aside0.mk ((by rw [hg];exact (below_size (by repeat (first|(with_reducible first|exact HB.out|apply below_alloc|apply pw_below_drewN|apply below_drew1|refine below_set ?_ GE244.out)|exact HB.out))) : w.heap.size≤gb245));have n4_:=Aside0.mk ((by rw [hg];exact (below_size (by repeat (first|(with_reducible first|exact HB.out|apply below_alloc|apply pw_below_drewN|apply below_drew1|refine below_set ?_ GE244.out)|exact HB.out))) : w.heap.size≤gb245));have n5_:=Aside0.mk ((by rw [hg];exact Nat.ne_of_lt (blk_lt (g:=gb244) (o:=.cells #[.int .u32 a0_0,.int .u64 a0_1,.int .i64 a0_2,.string a0_3,.slice A0_4 l0_4.length c0_4] 35 (0,0)) (by (with_reducible repeat (first|refine blk_drewN ?_ _|refine blk_drew ?_|refine blk_alloc ?_ _));exact BK244.out)) : gb244≠gb245));have n6_:=Aside0.mk ((by rw [hg];exact Nat.ne_of_gt (blk_lt (g:=gb244) (o:=.cells #[.int .u32 a0_0,.int .u64 a0_1,.int .i64 a0_2,.string a0_3,.slice A0_4 l0_4.length c0_4] 35 (0,0)) (by (with_reducible repeat (first|refine blk_drewN ?_ _|refine blk_drew ?_|refine blk_alloc ?_ _));exact BK244.out)) : gb245≠gb244));clear BK244;clear HB;have BK244:=n0_;have HB:=n1_;have BK245:=n2_;have GW245:=n3_;have GE245:=n4_;have NB244_245:=n5_;have NB245_244:=n6_;clear n0_ n1_ n2_ n3_ n4_ n5_ n6_;clear hb hbox hg));go_upto_region 1 with (first|((with_reducible refine gate_dst (N:=2) rfl ?_);(try (refine gate_guard (by rfl) ?_;dsimp only));refine box_event ?hg (N:=2) ?hd (cs:=#[.int .u32 a0_0,.int .u64 a0_1,.int .i64 a0_2,.string a0_3,.slice A0_4 l0_4.length c0_4]) (t:=35) ?hr ?_;(case hd=>rfl);(case hg=>rfl);(case hr=>first|(go_simp;done)|(go_simp;rfl));intro gb244 hg w4 hbox hb;have n0_:=Aside0.mk (below_step (by repeat (first|(with_reducible first|exact HB.out|apply below_alloc|apply pw_below_drewN|apply below_drew1)|exact HB.out)) hb);have n1_:=Aside0.mk (hbox);have n2_:=Aside0.mk ((by rw [hg];exact (below_size (by repeat (first|(with_reducible first|exact HB.out|apply below_alloc|apply pw_below_drewN|apply below_drew1)|exact HB.out))) : w.heap.size≤gb244));have n3_:=Aside0.mk ((by rw [hg];exact (below_size (by repeat (first|(with_reducible first|exact HB.out|apply below_alloc|apply pw_below_drewN|apply below_drew1)|exact HB.out))) : w.heap.size≤gb244));clear HB;have HB:=n0_;have BK244:=n1_;have GW244:=n2_;have GE244:=n3_;clear n0_ n1_ n2_ n3_;clear hb hbox hg)|((with_reducible refine gate_dst (N:=3) rfl ?_);(try (refine gate_guard (by rfl) ?_;dsimp only));refine box_event ?hg (N:=3) ?hd (cs:=#[.int .u32 a1_0,.int .u64 a1_1,.int .i64 a1_2,.string a1_3,.slice A1_4 l1_4.length c1_4]) (t:=35) ?hr ?_;(case hd=>rfl);(case hg=>rfl);(case hr=>first|(go_simp;done)|(go_simp;rfl));intro gb245 hg w5 hbox hb;have n0_:=Aside0.mk (blk_below (g:=gb244) (o:=.cells #[.int .u32 a0_0,.int .u64 a0_1,.int .i64 a0_2,.string a0_3,.slice A0_4 l0_4.length c0_4] 35 (0,0)) (by (with_reducible repeat (first|refine blk_drewN ?_ _|refine blk_drew ?_|refine blk_alloc ?_ _));exact BK244.out) hb);have n1_:=Aside0.mk (below_step (by repeat (first|(with_reducible first|exact HB.out|apply below_alloc|apply pw_below_drewN|apply below_drew1|refine below_set ?_ GE244.out)|exact HB.out)) hb);have n2_:=Aside0.mk (hbox);have n3_:=Aside0.mk ((by rw [hg];exact (below_size (by repeat (first|(with_reducible first|exact HB.out|apply below_alloc|apply pw_below_drewN|apply below_drew1|refine below_set ?_ GE244.out)|exact HB.out))) : w.heap.size≤gb245));have n4_:=Aside0.mk ((by rw [hg];exact (below_size (by repeat (first|(with_reducible first|exact HB.out|apply below_alloc|apply pw_below_drewN|apply below_drew1|refine below_set ?_ GE244.out)|exact HB.out))) : w.heap.size≤gb245));have n5_:=Aside0.mk ((by rw [hg];exact Nat.ne_of_lt (blk_lt (g:=gb244) (o:=.cells #[.int .u32 a0_0,.int .u64 a0_1,.int .i64 a0_2,.string a0_3,.slice A0_4 l0_4.length c0_4] 35 (0,0)) (by (with_reducible repeat (first|refine blk_drewN ?_ _|refine blk_drew ?_|refine blk_alloc ?_ _));exact BK244.out)) : gb244≠gb245));have n6_:=Aside0.mk ((by rw [hg];exact Nat.ne_of_gt (blk_lt (g:=gb244) (o:=.cells #[.int .u32 a0_0,.int .u64 a0_1,.int .i64 a0_2,.string a0_3,.slice A0_4 l0_4.length c0_4] 35 (0,0)) (by (with_reducible repeat (first|refine blk_drewN ?_ _|refine blk_drew ?_|refine blk_alloc ?_ _));exact BK244.out)) : gb245≠gb244));clear BK244;clear HB;have BK244:=n0_;have HB:=n1_;have BK245:=n2_;have GW245:=n3_;have GE245:=n4_;have NB244_245:=n5_;have NB245_244:=n6_;clear n0_ n1_ n2_ n3_ n4_ n5_ n6_;clear hb hbox hg)))
 (try simp only [Act.put,sA_,sB_,sC_])
 go_cut [33] (fun v33 wc=>∃ (kq : Nat) (x33_2 : Bool),v33=.bool x33_2∧Aside0 (girderref03_Same.j0 kq x33_2 a0_0 a0_1 a0_2 a0_3 l0_4 a1_0 a1_1 a1_2 a1_3 l1_4=some r)∧Aside0 (kq≤k)∧Aside0 (wc.heap[gb244]?=some (.cells #[.int .u32 a0_0,.int .u64 a0_1,.int .i64 a0_2,.string a0_3,(.slice A0_4 l0_4.length c0_4)] 35 (0,0)))∧Aside0 (wc.heap[gb245]?=some (.cells #[.int .u32 a1_0,.int .u64 a1_1,.int .i64 a1_2,.string a1_3,(.slice A1_4 l1_4.length c1_4)] 35 (0,0)))∧Aside0 (Below w.heap.size w wc))
 case first =>
  have H:=HC3.out
  clear HC3
  by_cases c6 : a0_0=a1_0
  ·rw [if_pos c6] at H
   have c6b0 : (a0_0 == a1_0)=true:=beq_iff_eq.mpr c6
   have c6b1 : (a0_0 != a1_0)=false:=bne_eq_false_iff_eq.mpr c6
   clear c6
   (first|rw [c6b0]|(simp only [i64_w,i32_w];rw [c6b0])|skip)
   by_cases c7 : a0_2=a1_2
   ·rw [if_pos c7] at H
    have c7b0 : (a0_2 == a1_2)=true:=beq_iff_eq.mpr c7
    have c7b1 : (a0_2 != a1_2)=false:=bne_eq_false_iff_eq.mpr c7
    clear c7
    by_cases c8 : a0_3.toList=a1_3.toList
    ·rw [if_pos c8] at H
     have c8b0 : (a0_3.toList == a1_3.toList)=true:=beq_iff_eq.mpr c8
     have c8b1 : (a0_3.toList != a1_3.toList)=false:=bne_eq_false_iff_eq.mpr c8
     clear c8
     have H':=Aside0.mk H
     clear H
     have hnb9:=NB244_245.out
     have hnc9:=NB245_244.out
     have hcz10_0 : w5.cell? ⟨gb244,0,none⟩=some (.int .u32 a0_0):=(blk_cell BK244.out 0).trans rfl
     have hcz10_1 : w5.cell? ⟨gb244,1,none⟩=some (.int .u64 a0_1):=(blk_cell BK244.out 1).trans rfl
     have hcz10_2 : w5.cell? ⟨gb244,2,none⟩=some (.int .i64 a0_2):=(blk_cell BK244.out 2).trans rfl
     have hcz10_3 : w5.cell? ⟨gb244,3,none⟩=some (.string a0_3):=(blk_cell BK244.out 3).trans rfl
     have hcz10_4 : w5.cell? ⟨gb244,4,none⟩=some (.slice A0_4 l0_4.length c0_4):=(blk_cell BK244.out 4).trans rfl
     have hfz10_0:=blk_frozen BK244.out 0
     have hfz10_1:=blk_frozen BK244.out 1
     have hfz10_2:=blk_frozen BK244.out 2
     have hfz10_3:=blk_frozen BK244.out 3
     have hfz10_4:=blk_frozen BK244.out 4
     have hcz11_0 : w5.cell? ⟨gb245,0,none⟩=some (.int .u32 a1_0):=(blk_cell BK245.out 0).trans rfl
     have hcz11_1 : w5.cell? ⟨gb245,1,none⟩=some (.int .u64 a1_1):=(blk_cell BK245.out 1).trans rfl
     have hcz11_2 : w5.cell? ⟨gb245,2,none⟩=some (.int .i64 a1_2):=(blk_cell BK245.out 2).trans rfl
     have hcz11_3 : w5.cell? ⟨gb245,3,none⟩=some (.string a1_3):=(blk_cell BK245.out 3).trans rfl
     have hcz11_4 : w5.cell? ⟨gb245,4,none⟩=some (.slice A1_4 l1_4.length c1_4):=(blk_cell BK245.out 4).trans rfl
     have hfz11_0:=blk_frozen BK245.out 0
     have hfz11_1:=blk_frozen BK245.out 1
     have hfz11_2:=blk_frozen BK245.out 2
     have hfz11_3:=blk_frozen BK245.out 3
     have hfz11_4:=blk_frozen BK245.out 4
     go_wp2
     repeat (go_quiet (fail);try go_wp2)
     go_meet
     case rel=>exact ⟨_,(((l0_4.length : Int) != (l1_4.length : Int))),(by first|rfl|(simp;done)|(simp [*];done)),H',⟨by first|omega|exact Nat.le_refl _⟩,⟨by (with_reducible repeat (first|refine blk_drewN ?_ _|refine blk_drew ?_|refine blk_alloc ?_ _));exact BK244.out⟩,⟨by (with_reducible repeat (first|refine blk_drewN ?_ _|refine blk_drew ?_|refine blk_alloc ?_ _));exact BK245.out⟩,⟨by repeat (first|(with_reducible first|exact HB.out|apply below_alloc|apply pw_below_drewN|apply below_drew1|refine below_set ?_ GE244.out|refine below_set ?_ GE245.out)|exact HB.out)⟩⟩
    ·rw [if_neg c8] at H
     have c8b0 : (a0_3.toList == a1_3.toList)=false:=beq_eq_false_iff_ne.mpr c8
     have c8b1 : (a0_3.toList != a1_3.toList)=true:=bne_iff_ne.mpr c8
     have H':=Aside0.mk H
     clear H
     have hnb12:=NB244_245.out
     have hnc12:=NB245_244.out
     have hcz13_0 : w5.cell? ⟨gb244,0,none⟩=some (.int .u32 a0_0):=(blk_cell BK244.out 0).trans rfl
     have hcz13_1 : w5.cell? ⟨gb244,1,none⟩=some (.int .u64 a0_1):=(blk_cell BK244.out 1).trans rfl
     have hcz13_2 : w5.cell? ⟨gb244,2,none⟩=some (.int .i64 a0_2):=(blk_cell BK244.out 2).trans rfl
     have hcz13_3 : w5.cell? ⟨gb244,3,none⟩=some (.string a0_3):=(blk_cell BK244.out 3).trans rfl
     have hcz13_4 : w5.cell? ⟨gb244,4,none⟩=some (.slice A0_4 l0_4.length c0_4):=(blk_cell BK244.out 4).trans rfl
     have hfz13_0:=blk_frozen BK244.out 0
     have hfz13_1:=blk_frozen BK244.out 1
     have hfz13_2:=blk_frozen BK244.out 2
     have hfz13_3:=blk_frozen BK244.out 3
     have hfz13_4:=blk_frozen BK244.out 4
     have hcz14_0 : w5.cell? ⟨gb245,0,none⟩=some (.int .u32 a1_0):=(blk_cell BK245.out 0).trans rfl
     have hcz14_1 : w5.cell? ⟨gb245,1,none⟩=some (.int .u64 a1_1):=(blk_cell BK245.out 1).trans rfl
     have hcz14_2 : w5.cell? ⟨gb245,2,none⟩=some (.int .i64 a1_2):=(blk_cell BK245.out 2).trans rfl
     have hcz14_3 : w5.cell? ⟨gb245,3,none⟩=some (.string a1_3):=(blk_cell BK245.out 3).trans rfl
     have hcz14_4 : w5.cell? ⟨gb245,4,none⟩=some (.slice A1_4 l1_4.length c1_4):=(blk_cell BK245.out 4).trans rfl
     have hfz14_0:=blk_frozen BK245.out 0
     have hfz14_1:=blk_frozen BK245.out 1
     have hfz14_2:=blk_frozen BK245.out 2
     have hfz14_3:=blk_frozen BK245.out 3
     have hfz14_4:=blk_frozen BK245.out 4
     go_wp2
     repeat (go_quiet (fail);try go_wp2)
     go_meet
     case rel=>exact ⟨_,(true),(by first|rfl|(simp;done)|(simp [*];done)),H',⟨by first|omega|exact Nat.le_refl _⟩,⟨by (with_reducible repeat (first|refine blk_drewN ?_ _|refine blk_drew ?_|refine blk_alloc ?_ _));exact BK244.out⟩,⟨by (with_reducible repeat (first|refine blk_drewN ?_ _|refine blk_drew ?_|refine blk_alloc ?_ _));exact BK245.out⟩,⟨by repeat (first|(with_reducible first|exact HB.out|apply below_alloc|apply pw_below_drewN|apply below_drew1|refine below_set ?_ GE244.out|refine below_set ?_ GE245.out)|exact HB.out)⟩⟩
   ·rw [if_neg c7] at H
    have c7b0 : (a0_2 == a1_2)=false:=beq_eq_false_iff_ne.mpr c7
    have c7b1 : (a0_2 != a1_2)=true:=bne_iff_ne.mpr c7
    have H':=Aside0.mk H
    clear H
    have hnb15:=NB244_245.out
    have hnc15:=NB245_244.out
    have hcz16_0 : w5.cell? ⟨gb244,0,none⟩=some (.int .u32 a0_0):=(blk_cell BK244.out 0).trans rfl
    have hcz16_1 : w5.cell? ⟨gb244,1,none⟩=some (.int .u64 a0_1):=(blk_cell BK244.out 1).trans rfl
    have hcz16_2 : w5.cell? ⟨gb244,2,none⟩=some (.int .i64 a0_2):=(blk_cell BK244.out 2).trans rfl
    have hcz16_3 : w5.cell? ⟨gb244,3,none⟩=some (.string a0_3):=(blk_cell BK244.out 3).trans rfl
    have hcz16_4 : w5.cell? ⟨gb244,4,none⟩=some (.slice A0_4 l0_4.length c0_4):=(blk_cell BK244.out 4).trans rfl
    have hfz16_0:=blk_frozen BK244.out 0
    have hfz16_1:=blk_frozen BK244.out 1
    have hfz16_2:=blk_frozen BK244.out 2
    have hfz16_3:=blk_frozen BK244.out 3
    have hfz16_4:=blk_frozen BK244.out 4
    have hcz17_0 : w5.cell? ⟨gb245,0,none⟩=some (.int .u32 a1_0):=(blk_cell BK245.out 0).trans rfl
    have hcz17_1 : w5.cell? ⟨gb245,1,none⟩=some (.int .u64 a1_1):=(blk_cell BK245.out 1).trans rfl
    have hcz17_2 : w5.cell? ⟨gb245,2,none⟩=some (.int .i64 a1_2):=(blk_cell BK245.out 2).trans rfl
    have hcz17_3 : w5.cell? ⟨gb245,3,none⟩=some (.string a1_3):=(blk_cell BK245.out 3).trans rfl
    have hcz17_4 : w5.cell? ⟨gb245,4,none⟩=some (.slice A1_4 l1_4.length c1_4):=(blk_cell BK245.out 4).trans rfl
    have hfz17_0:=blk_frozen BK245.out 0
    have hfz17_1:=blk_frozen BK245.out 1
    have hfz17_2:=blk_frozen BK245.out 2
    have hfz17_3:=blk_frozen BK245.out 3
    have hfz17_4:=blk_frozen BK245.out 4
    go_wp2
    repeat (go_quiet (fail);try go_wp2)
    go_meet
    case rel=>exact ⟨_,(true),(by first|rfl|(simp;done)|(simp [*];done)),H',⟨by first|omega|exact Nat.le_refl _⟩,⟨by (with_reducible repeat (first|refine blk_drewN ?_ _|refine blk_drew ?_|refine blk_alloc ?_ _));exact BK244.out⟩,⟨by (with_reducible repeat (first|refine blk_drewN ?_ _|refine blk_drew ?_|refine blk_alloc ?_ _));exact BK245.out⟩,⟨by repeat (first|(with_reducible first|exact HB.out|apply below_alloc|apply pw_below_drewN|apply below_drew1|refine below_set ?_ GE244.out|refine below_set ?_ GE245.out)|exact HB.out)⟩⟩
  ·rw [if_neg c6] at H
   have c6b0 : (a0_0 == a1_0)=false:=beq_eq_false_iff_ne.mpr c6
   have c6b1 : (a0_0 != a1_0)=true:=bne_iff_ne.mpr c6
   (first|rw [c6b0]|(simp only [i64_w,i32_w];rw [c6b0])|skip)
   have H':=Aside0.mk H
   clear H
   have hnb18:=NB244_245.out
   have hnc18:=NB245_244.out
   have hcz19_0 : w5.cell? ⟨gb244,0,none⟩=some (.int .u32 a0_0):=(blk_cell BK244.out 0).trans rfl
   have hcz19_1 : w5.cell? ⟨gb244,1,none⟩=some (.int .u64 a0_1):=(blk_cell BK244.out 1).trans rfl
   have hcz19_2 : w5.cell? ⟨gb244,2,none⟩=some (.int .i64 a0_2):=(blk_cell BK244.out 2).trans rfl
   have hcz19_3 : w5.cell? ⟨gb244,3,none⟩=some (.string a0_3):=(blk_cell BK244.out 3).trans rfl
   have hcz19_4 : w5.cell? ⟨gb244,4,none⟩=some (.slice A0_4 l0_4.length c0_4):=(blk_cell BK244.out 4).trans rfl
   have hfz19_0:=blk_frozen BK244.out 0
   have hfz19_1:=blk_frozen BK244.out 1
   have hfz19_2:=blk_frozen BK244.out 2
   have hfz19_3:=blk_frozen BK244.out 3
   have hfz19_4:=blk_frozen BK244.out 4
   have hcz20_0 : w5.cell? ⟨gb245,0,none⟩=some (.int .u32 a1_0):=(blk_cell BK245.out 0).trans rfl
   have hcz20_1 : w5.cell? ⟨gb245,1,none⟩=some (.int .u64 a1_1):=(blk_cell BK245.out 1).trans rfl
   have hcz20_2 : w5.cell? ⟨gb245,2,none⟩=some (.int .i64 a1_2):=(blk_cell BK245.out 2).trans rfl
   have hcz20_3 : w5.cell? ⟨gb245,3,none⟩=some (.string a1_3):=(blk_cell BK245.out 3).trans rfl
   have hcz20_4 : w5.cell? ⟨gb245,4,none⟩=some (.slice A1_4 l1_4.length c1_4):=(blk_cell BK245.out 4).trans rfl
   have hfz20_0:=blk_frozen BK245.out 0
   have hfz20_1:=blk_frozen BK245.out 1
   have hfz20_2:=blk_frozen BK245.out 2
   have hfz20_3:=blk_frozen BK245.out 3
   have hfz20_4:=blk_frozen BK245.out 4
   go_wp2
   repeat (go_quiet (fail);try go_wp2)
   go_meet
   case rel=>exact ⟨_,(true),(by first|rfl|(simp;done)|(simp [*];done)),H',⟨by first|omega|exact Nat.le_refl _⟩,⟨by (with_reducible repeat (first|refine blk_drewN ?_ _|refine blk_drew ?_|refine blk_alloc ?_ _));exact BK244.out⟩,⟨by (with_reducible repeat (first|refine blk_drewN ?_ _|refine blk_drew ?_|refine blk_alloc ?_ _));exact BK245.out⟩,⟨by repeat (first|(with_reducible first|exact HB.out|apply below_alloc|apply pw_below_drewN|apply below_drew1|refine below_set ?_ GE244.out|refine below_set ?_ GE245.out)|exact HB.out)⟩⟩
 case rest =>
  clear HC3
  try clear c1
  try clear c2
  try clear p2
  try clear c6
  try clear c6b0
  try clear c6b1
  try clear c7
  try clear c7b0
  try clear c7b1
  try clear c8
  try clear c8b0
  try clear c8b1
  try clear c9
  try clear c12
  try clear c15
  try clear c18
  try clear hcz10_0
  try clear hcz10_1
  try clear hcz10_2
  try clear hcz10_3
  try clear hcz10_4
  try clear hcz11_0
  try clear hcz11_1
  try clear hcz11_2
  try clear hcz11_3
  try clear hcz11_4
  try clear hcz13_0
  try clear hcz13_1
  try clear hcz13_2
  try clear hcz13_3
  try clear hcz13_4
  try clear hcz14_0
  try clear hcz14_1
  try clear hcz14_2
  try clear hcz14_3
  try clear hcz14_4
  try clear hcz16_0
  try clear hcz16_1
  try clear hcz16_2
  try clear hcz16_3
  try clear hcz16_4
  try clear hcz17_0
  try clear hcz17_1
  try clear hcz17_2
  try clear hcz17_3
  try clear hcz17_4
  try clear hcz19_0
  try clear hcz19_1
  try clear hcz19_2
  try clear hcz19_3
  try clear hcz19_4
  try clear hcz20_0
  try clear hcz20_1
  try clear hcz20_2
  try clear hcz20_3
  try clear hcz20_4
  try clear hfz10_0
  try clear hfz10_1
  try clear hfz10_2
  try clear hfz10_3
  try clear hfz10_4
  try clear hfz11_0
  try clear hfz11_1
  try clear hfz11_2
  try clear hfz11_3
  try clear hfz11_4
  try clear hfz13_0
  try clear hfz13_1
  try clear hfz13_2
  try clear hfz13_3
  try clear hfz13_4
  try clear hfz14_0
  try clear hfz14_1
  try clear hfz14_2
  try clear hfz14_3
  try clear hfz14_4
  try clear hfz16_0
  try clear hfz16_1
  try clear hfz16_2
  try clear hfz16_3
  try clear hfz16_4
  try clear hfz17_0
  try clear hfz17_1
  try clear hfz17_2
  try clear hfz17_3
  try clear hfz17_4
  try clear hfz19_0
  try clear hfz19_1
  try clear hfz19_2
  try clear hfz19_3
  try clear hfz19_4
  try clear hfz20_0
  try clear hfz20_1
  try clear hfz20_2
  try clear hfz20_3
  try clear hfz20_4
  obtain ⟨kq,x33_2,rfl,HA,HJ2,BK244,BK245,HB⟩:=hcut
  cases kq with
  | zero=>exact absurd HA.out (by simp [girderref03_Same.j0])
  | succ kj2 =>
   have H:=HA.out
   clear HA
   simp only [girderref03_Same.j0] at H
   by_cases c21 : x33_2=true
   ·subst c21
    have H1 : (some false)=some r:=by rw [if_pos rfl] at H;exact H
    clear H
    have H:=H1
    clear H1
    obtain rfl:=Option.some.inj H
    go_wp2
    repeat (go_quiet (fail);try go_wp2)
    go_ret
    exact ⟨by first|rfl|(simp [errW_none,errW_some] <;> rfl)|(simp [*,errW_none,errW_some] <;> rfl),by repeat (first|(with_reducible first|exact HB.out|apply below_alloc|apply pw_below_drewN|apply below_drew1|refine below_set ?_ GE244.out|refine below_set ?_ GE245.out)|exact HB.out)⟩
   ·replace c21:=Bool.eq_false_iff.mpr c21
    subst c21
    have H1 : (girderref03_Same.l0 kj2 0 a0_0 a0_1 a0_2 a0_3 l0_4 a1_0 a1_1 a1_2 a1_3 l1_4)=some r:=by rw [if_neg (show ¬ (false=true) by decide)] at H;exact H
    clear H
    have H:=H1
    clear H1
    have H':=Aside0.mk H
    clear H
    go_wp2
    repeat (go_quiet (fail);try go_wp2)
    go_loopg [5] kj2 (fun kq v5 w'=>∃ (x5_2 : Int),v5=.int .i64 x5_2∧Aside0 (girderref03_Same.l0 kq x5_2 a0_0 a0_1 a0_2 a0_3 l0_4 a1_0 a1_1 a1_2 a1_3 l1_4=some r)∧Aside0 (kq≤kj2)∧Aside0 (w'.heap[gb244]?=some (.cells #[.int .u32 a0_0,.int .u64 a0_1,.int .i64 a0_2,.string a0_3,(.slice A0_4 l0_4.length c0_4)] 35 (0,0)))∧Aside0 (w'.heap[gb245]?=some (.cells #[.int .u32 a1_0,.int .u64 a1_1,.int .i64 a1_2,.string a1_3,(.slice A1_4 l1_4.length c1_4)] 35 (0,0)))∧Aside0 (Below w.heap.size w w'))
    case atStart=>exact ⟨(0),(by first|rfl|(simp;done)|(simp [*];done)),H',⟨Nat.le_refl _⟩,⟨by (with_reducible repeat (first|refine blk_drewN ?_ _|refine blk_drew ?_|refine blk_alloc ?_ _));exact BK244.out⟩,⟨by (with_reducible repeat (first|refine blk_drewN ?_ _|refine blk_drew ?_|refine blk_alloc ?_ _));exact BK245.out⟩,⟨by repeat (first|(with_reducible first|exact HB.out|apply below_alloc|apply pw_below_drewN|apply below_drew1|refine below_set ?_ GE244.out|refine below_set ?_ GE245.out)|exact HB.out)⟩⟩
    case round =>
     clear H'
     try clear c1
     try clear c2
     try clear p2
     try clear c6
     try clear c6b0
     try clear c6b1
     try clear c7
     try clear c7b0
     try clear c7b1
     try clear c8
     try clear c8b0
     try clear c8b1
     try clear c9
     try clear c12
     try clear c15
     try clear c18
     try clear c21
     try clear hcz10_0
     try clear hcz10_1
     try clear hcz10_2
     try clear hcz10_3
     try clear hcz10_4
     try clear hcz11_0
     try clear hcz11_1
     try clear hcz11_2
     try clear hcz11_3
     try clear hcz11_4
     try clear hcz13_0
     try clear hcz13_1
     try clear hcz13_2
     try clear hcz13_3
     try clear hcz13_4
     try clear hcz14_0
     try clear hcz14_1
     try clear hcz14_2
     try clear hcz14_3
     try clear hcz14_4
     try clear hcz16_0
     try clear hcz16_1
     try clear hcz16_2
     try clear hcz16_3
     try clear hcz16_4
     try clear hcz17_0
     try clear hcz17_1
     try clear hcz17_2
     try clear hcz17_3
     try clear hcz17_4
     try clear hcz19_0
     try clear hcz19_1
     try clear hcz19_2
     try clear hcz19_3
     try clear hcz19_4
     try clear hcz20_0
     try clear hcz20_1
     try clear hcz20_2
     try clear hcz20_3
     try clear hcz20_4
     try clear hfz10_0
     try clear hfz10_1
     try clear hfz10_2
     try clear hfz10_3
     try clear hfz10_4
     try clear hfz11_0
     try clear hfz11_1
     try clear hfz11_2
     try clear hfz11_3
     try clear hfz11_4
     try clear hfz13_0
     try clear hfz13_1
     try clear hfz13_2
     try clear hfz13_3
     try clear hfz13_4
     try clear hfz14_0
     try clear hfz14_1
     try clear hfz14_2
     try clear hfz14_3
     try clear hfz14_4
     try clear hfz16_0
     try clear hfz16_1
     try clear hfz16_2
     try clear hfz16_3
     try clear hfz16_4
     try clear hfz17_0
     try clear hfz17_1
     try clear hfz17_2
     try clear hfz17_3
     try clear hfz17_4
     try clear hfz19_0
     try clear hfz19_1
     try clear hfz19_2
     try clear hfz19_3
     try clear hfz19_4
     try clear hfz20_0
     try clear hfz20_1
     try clear hfz20_2
     try clear hfz20_3
     try clear hfz20_4
     try clear p2
     obtain ⟨x5_2,rfl,HA,HK2,BK244,BK245,HB⟩:=hrel
     cases gk with
     | zero=>exact absurd HA.out (by simp [girderref03_Same.l0])
     | succ k2 =>
      have H:=HA.out
      clear HA
      simp only [girderref03_Same.l0] at H
      by_cases c22 : x5_2 < (l0_4.length : Int)
      ·rw [if_pos c22] at H
       have c22b0 : decide (x5_2 < (l0_4.length : Int))=true:=decide_eq_true c22
       clear c22
       by_cases c23 : 0≤x5_2
       ·rw [if_pos c23] at H
        have c23b0 : decide (0≤x5_2)=true:=decide_eq_true c23
        clear c23
        by_cases c24 : x5_2 < (l1_4.length : Int)
        ·rw [if_pos c24] at H
         have c24b0 : decide (x5_2 < (l1_4.length : Int))=true:=decide_eq_true c24
         clear c24
         by_cases c25 : (rdOf ByteArray.empty l0_4 x5_2).toList=(rdOf ByteArray.empty l1_4 x5_2).toList
         ·rw [if_pos c25] at H
          have c25b0 : ((rdOf ByteArray.empty l0_4 x5_2).toList == (rdOf ByteArray.empty l1_4 x5_2).toList)=true:=beq_iff_eq.mpr c25
          have c25b1 : ((rdOf ByteArray.empty l0_4 x5_2).toList != (rdOf ByteArray.empty l1_4 x5_2).toList)=false:=bne_eq_false_iff_eq.mpr c25
          clear c25
          have H':=Aside0.mk H
          clear H
          have hnb26:=NB244_245.out
          have hnc26:=NB245_244.out
          have hcz27_0 : wr.cell? ⟨gb244,0,none⟩=some (.int .u32 a0_0):=(blk_cell BK244.out 0).trans rfl
          have hcz27_1 : wr.cell? ⟨gb244,1,none⟩=some (.int .u64 a0_1):=(blk_cell BK244.out 1).trans rfl
          have hcz27_2 : wr.cell? ⟨gb244,2,none⟩=some (.int .i64 a0_2):=(blk_cell BK244.out 2).trans rfl
          have hcz27_3 : wr.cell? ⟨gb244,3,none⟩=some (.string a0_3):=(blk_cell BK244.out 3).trans rfl
          have hcz27_4 : wr.cell? ⟨gb244,4,none⟩=some (.slice A0_4 l0_4.length c0_4):=(blk_cell BK244.out 4).trans rfl
          have hfz27_0:=blk_frozen BK244.out 0
          have hfz27_1:=blk_frozen BK244.out 1
          have hfz27_2:=blk_frozen BK244.out 2
          have hfz27_3:=blk_frozen BK244.out 3
          have hfz27_4:=blk_frozen BK244.out 4
          have p246 : 0≤(x5_2 : Int):=of_decide_eq_true (by first|(with_reducible assumption)|assumption)
          have q246 : x5_2 < (l0_4.length : Int):=of_decide_eq_true (by first|(with_reducible assumption)|assumption)
          obtain ⟨ad246,e246,hx246_0⟩:=Kd.at_string HR0_4.out x5_2 p246 q246
          cases e246
          replace hx246_0:=(HB.out.cell (World.block_lt_of_cell? w _ hx246_0)).trans hx246_0
          replace p246:=eq_true p246
          replace q246:=eq_true q246
          have hcz28_0 : wr.cell? ⟨gb245,0,none⟩=some (.int .u32 a1_0):=(blk_cell BK245.out 0).trans rfl
          have hcz28_1 : wr.cell? ⟨gb245,1,none⟩=some (.int .u64 a1_1):=(blk_cell BK245.out 1).trans rfl
          have hcz28_2 : wr.cell? ⟨gb245,2,none⟩=some (.int .i64 a1_2):=(blk_cell BK245.out 2).trans rfl
          have hcz28_3 : wr.cell? ⟨gb245,3,none⟩=some (.string a1_3):=(blk_cell BK245.out 3).trans rfl
          have hcz28_4 : wr.cell? ⟨gb245,4,none⟩=some (.slice A1_4 l1_4.length c1_4):=(blk_cell BK245.out 4).trans rfl
          have hfz28_0:=blk_frozen BK245.out 0
          have hfz28_1:=blk_frozen BK245.out 1
          have hfz28_2:=blk_frozen BK245.out 2
          have hfz28_3:=blk_frozen BK245.out 3
          have hfz28_4:=blk_frozen BK245.out 4
          have p247 : 0≤(x5_2 : Int):=of_decide_eq_true (by first|(with_reducible assumption)|assumption)
          have q247 : x5_2 < (l1_4.length : Int):=of_decide_eq_true (by first|(with_reducible assumption)|assumption)
          obtain ⟨ad247,e247,hx247_0⟩:=Kd.at_string HR1_4.out x5_2 p247 q247
          cases e247
          replace hx247_0:=(HB.out.cell (World.block_lt_of_cell? w _ hx247_0)).trans hx247_0
          replace p247:=eq_true p247
          replace q247:=eq_true q247
          go_wp2
          repeat (go_quiet (fail);try go_wp2)
          go_roundg k2
          case measure=>have:=HJ2.out;have:=HK2.out;omega
          case rel=>exact ⟨(wrap64 (x5_2 + 1)),(by first|rfl|(simp;done)|(simp [*];done)),H',⟨by have:=HJ2.out;have:=HK2.out;omega⟩,⟨by (with_reducible repeat (first|refine blk_drewN ?_ _|refine blk_drew ?_|refine blk_alloc ?_ _));exact BK244.out⟩,⟨by (with_reducible repeat (first|refine blk_drewN ?_ _|refine blk_drew ?_|refine blk_alloc ?_ _));exact BK245.out⟩,⟨by repeat (first|(with_reducible first|exact HB.out|apply below_alloc|apply pw_below_drewN|apply below_drew1|refine below_set ?_ GE244.out|refine below_set ?_ GE245.out)|exact HB.out)⟩⟩
         ·rw [if_neg c25] at H
          have c25b0 : ((rdOf ByteArray.empty l0_4 x5_2).toList == (rdOf ByteArray.empty l1_4 x5_2).toList)=false:=beq_eq_false_iff_ne.mpr c25
          have c25b1 : ((rdOf ByteArray.empty l0_4 x5_2).toList != (rdOf ByteArray.empty l1_4 x5_2).toList)=true:=bne_iff_ne.mpr c25
          obtain rfl:=Option.some.inj H
          have hnb29:=NB244_245.out
          have hnc29:=NB245_244.out
          have hcz30_0 : wr.cell? ⟨gb244,0,none⟩=some (.int .u32 a0_0):=(blk_cell BK244.out 0).trans rfl
          have hcz30_1 : wr.cell? ⟨gb244,1,none⟩=some (.int .u64 a0_1):=(blk_cell BK244.out 1).trans rfl
          have hcz30_2 : wr.cell? ⟨gb244,2,none⟩=some (.int .i64 a0_2):=(blk_cell BK244.out 2).trans rfl
          have hcz30_3 : wr.cell? ⟨gb244,3,none⟩=some (.string a0_3):=(blk_cell BK244.out 3).trans rfl
          have hcz30_4 : wr.cell? ⟨gb244,4,none⟩=some (.slice A0_4 l0_4.length c0_4):=(blk_cell BK244.out 4).trans rfl
          have hfz30_0:=blk_frozen BK244.out 0
          have hfz30_1:=blk_frozen BK244.out 1
          have hfz30_2:=blk_frozen BK244.out 2
          have hfz30_3:=blk_frozen BK244.out 3
          have hfz30_4:=blk_frozen BK244.out 4
          have p246 : 0≤(x5_2 : Int):=of_decide_eq_true (by first|(with_reducible assumption)|assumption)
          have q246 : x5_2 < (l0_4.length : Int):=of_decide_eq_true (by first|(with_reducible assumption)|assumption)
          obtain ⟨ad246,e246,hx246_0⟩:=Kd.at_string HR0_4.out x5_2 p246 q246
          cases e246
          replace hx246_0:=(HB.out.cell (World.block_lt_of_cell? w _ hx246_0)).trans hx246_0
          replace p246:=eq_true p246
          replace q246:=eq_true q246
          have hcz31_0 : wr.cell? ⟨gb245,0,none⟩=some (.int .u32 a1_0):=(blk_cell BK245.out 0).trans rfl
          have hcz31_1 : wr.cell? ⟨gb245,1,none⟩=some (.int .u64 a1_1):=(blk_cell BK245.out 1).trans rfl
          have hcz31_2 : wr.cell? ⟨gb245,2,none⟩=some (.int .i64 a1_2):=(blk_cell BK245.out 2).trans rfl
          have hcz31_3 : wr.cell? ⟨gb245,3,none⟩=some (.string a1_3):=(blk_cell BK245.out 3).trans rfl
          have hcz31_4 : wr.cell? ⟨gb245,4,none⟩=some (.slice A1_4 l1_4.length c1_4):=(blk_cell BK245.out 4).trans rfl
          have hfz31_0:=blk_frozen BK245.out 0
          have hfz31_1:=blk_frozen BK245.out 1
          have hfz31_2:=blk_frozen BK245.out 2
          have hfz31_3:=blk_frozen BK245.out 3
          have hfz31_4:=blk_frozen BK245.out 4
          have p247 : 0≤(x5_2 : Int):=of_decide_eq_true (by first|(with_reducible assumption)|assumption)
          have q247 : x5_2 < (l1_4.length : Int):=of_decide_eq_true (by first|(with_reducible assumption)|assumption)
          obtain ⟨ad247,e247,hx247_0⟩:=Kd.at_string HR1_4.out x5_2 p247 q247
          cases e247
          replace hx247_0:=(HB.out.cell (World.block_lt_of_cell? w _ hx247_0)).trans hx247_0
          replace p247:=eq_true p247
          replace q247:=eq_true q247
          go_wp2
          repeat (go_quiet (fail);try go_wp2)
          go_ret
          exact ⟨by first|rfl|(simp [errW_none,errW_some] <;> rfl)|(simp [*,errW_none,errW_some] <;> rfl),by repeat (first|(with_reducible first|exact HB.out|apply below_alloc|apply pw_below_drewN|apply below_drew1|refine below_set ?_ GE244.out|refine below_set ?_ GE245.out)|exact HB.out)⟩
        ·rw [if_neg c24] at H
         exact absurd H (by simp)
       ·rw [if_neg c23] at H
        exact absurd H (by simp)
      ·rw [if_neg c22] at H
       have c22b0 : decide (x5_2 < (l0_4.length : Int))=false:=decide_eq_false c22
       clear c22
       obtain rfl:=Option.some.inj H
       have hnb32:=NB244_245.out
       have hnc32:=NB245_244.out
       have hcz33_0 : wr.cell? ⟨gb244,0,none⟩=some (.int .u32 a0_0):=(blk_cell BK244.out 0).trans rfl
       have hcz33_1 : wr.cell? ⟨gb244,1,none⟩=some (.int .u64 a0_1):=(blk_cell BK244.out 1).trans rfl
       have hcz33_2 : wr.cell? ⟨gb244,2,none⟩=some (.int .i64 a0_2):=(blk_cell BK244.out 2).trans rfl
       have hcz33_3 : wr.cell? ⟨gb244,3,none⟩=some (.string a0_3):=(blk_cell BK244.out 3).trans rfl
       have hcz33_4 : wr.cell? ⟨gb244,4,none⟩=some (.slice A0_4 l0_4.length c0_4):=(blk_cell BK244.out 4).trans rfl
       have hfz33_0:=blk_frozen BK244.out 0
       have hfz33_1:=blk_frozen BK244.out 1
       have hfz33_2:=blk_frozen BK244.out 2
       have hfz33_3:=blk_frozen BK244.out 3
       have hfz33_4:=blk_frozen BK244.out 4
       go_wp2
       repeat (go_quiet (fail);try go_wp2)
       go_ret
       exact ⟨by first|rfl|(simp [errW_none,errW_some] <;> rfl)|(simp [*,errW_none,errW_some] <;> rfl),by repeat (first|(with_reducible first|exact HB.out|apply below_alloc|apply pw_below_drewN|apply below_drew1|refine below_set ?_ GE244.out|refine below_set ?_ GE245.out)|exact HB.out)⟩
end Go.Proofs.Yteokjmjfjdgmpaa.PPg
end
section
namespace Go.Proofs.Yteokjmjfjdgmpaa.PPg
open Go.RowKit Go.Proofs.YteokjmjfjdgmpaaW.PrintWords Go.Proofs.YteokjmjfjdgmpaaW.PrintLast Go.Proofs.YteokjmjfjdgmpaaW.PrintMore
attribute [local go_sem] max2_int min2_int max_two min_two max_three min_three max_four min_four
set_option linter.unusedVariables false
set_option linter.unusedSimpArgs false
def page_Room.l0 : Nat → Int → List ByteArray → Int → Int → Option (Int)
 | 0,_,_,_,_=>none
 | k + 1,x3,x11,x12,x13=>if x13 < x12 then (if 0≤x13 then (if x13 < (x11.length : Int) then (page_Room.l0 k (wrap64 (x3 - (wrap64 (2 + ((rdOf ByteArray.empty x11 x13).size : Int))))) x11 x12 (wrap64 (x13 + 1))) else (none)) else (none)) else (some x3)
def page_Room.f (k : Nat) (a0_0 : Int) (a0_1 : Int) (a0_2 : Int) (a0_3 : ByteArray) (l0_4 : List ByteArray) : Option (Int):=page_Room.l0 k (wrap64 (485 - (a0_3.size : Int))) l0_4 (l0_4.length : Int) 0
set_option maxHeartbeats 8000000 in
set_option maxRecDepth 100000 in
theorem page_Room.calls (k : Nat) (a0_0 : Int) (a0_1 : Int) (a0_2 : Int) (a0_3 : ByteArray) (A0_4 : Option Addr) (c0_4 : Nat) (l0_4 : List ByteArray) (r : Int) (w : World) (hr0_4 : Kd.C Kd.string w A0_4 l0_4.length l0_4) (hc0_4 : l0_4.length≤c0_4) (h : page_Room.f k a0_0 a0_1 a0_2 a0_3 l0_4=some r) :
  Calls Try.prog 14 #[.agg #[.int .u32 a0_0,.int .u64 a0_1,.int .i64 a0_2,.string a0_3,.slice A0_4 l0_4.length c0_4]] w fun e w'=>e=.returned (.int .i64 r)∧Below w.heap.size w w':=by
 have hu28:=Try.underlying28
 have HR0_4:=Aside0.mk hr0_4
 have HC0_4:=Aside0.mk hc0_4
 clear hr0_4 hc0_4
 have HB:=Aside0.mk (Below.refl w.heap.size w)
 have H : (page_Room.l0 k (wrap64 (485 - (a0_3.size : Int))) l0_4 (l0_4.length : Int) 0)=some r:=h
 clear h
 have H':=Aside0.mk H
 clear H
 go_enter Try.func14,Try.ntmps14
 go_wp2_with (first|((with_reducible refine gate_dst (N:=1) rfl ?_);refine box_event ?hg (N:=1) ?hd (cs:=#[.int .u32 a0_0,.int .u64 a0_1,.int .i64 a0_2,.string a0_3,.slice A0_4 l0_4.length c0_4]) (t:=28) ?hr ?_;(case hd=>rfl);(case hg=>rfl);(case hr=>first|(go_simp;done)|(go_simp;rfl));intro gb259 hg w2 hbox hb;have n0_:=Aside0.mk (below_step (by repeat (first|(with_reducible first|exact HB.out|apply below_alloc|apply pw_below_drewN|apply below_drew1)|exact HB.out)) hb);have n1_:=Aside0.mk (hbox);have n2_:=Aside0.mk ((by rw [hg];exact (below_size (by repeat (first|(with_reducible first|exact HB.out|apply below_alloc|apply pw_below_drewN|apply below_drew1)|exact HB.out))) : w.heap.size≤gb259));have n3_:=Aside0.mk ((by rw [hg];exact (below_size (by repeat (first|(with_reducible first|exact HB.out|apply below_alloc|apply pw_below_drewN|apply below_drew1)|exact HB.out))) : w.heap.size≤gb259));clear HB;have HB:=n0_;have BK259:=n1_;have GW259:=n2_;have GE259:=n3_;clear n0_ n1_ n2_ n3_;clear hb hbox hg;have hcz3_0 : w2.cell? ⟨gb259,0,none⟩=some (.int .u32 a0_0):=(blk_cell BK259.out 0).trans rfl;have hcz3_1 : w2.cell? ⟨gb259,1,none⟩=some (.int .u64 a0_1):=(blk_cell BK259.out 1).trans rfl;have hcz3_2 : w2.cell? ⟨gb259,2,none⟩=some (.int .i64 a0_2):=(blk_cell BK259.out 2).trans rfl;have hcz3_3 : w2.cell? ⟨gb259,3,none⟩=some (.string a0_3):=(blk_cell BK259.out 3).trans rfl;have hcz3_4 : w2.cell? ⟨gb259,4,none⟩=some (.slice A0_4 l0_4.length c0_4):=(blk_cell BK259.out 4).trans rfl;have hfz3_0:=blk_frozen BK259.out 0;have hfz3_1:=blk_frozen BK259.out 1;have hfz3_2:=blk_frozen BK259.out 2;have hfz3_3:=blk_frozen BK259.out 3;have hfz3_4:=blk_frozen BK259.out 4))
 go_loopg [3,13] k (fun kq v3 v13 w'=>∃ (x3_1 : Int) (x13_1 : Int),v3=.int .i64 x3_1∧v13=.int .i64 x13_1∧Aside0 (page_Room.l0 kq x3_1 l0_4 (l0_4.length : Int) x13_1=some r)∧Aside0 (kq≤k)∧Aside0 (w'.heap[gb259]?=some (.cells #[.int .u32 a0_0,.int .u64 a0_1,.int .i64 a0_2,.string a0_3,(.slice A0_4 l0_4.length c0_4)] 28 (0,0)))∧Aside0 (Below w.heap.size w w'))
 case atStart=>exact ⟨(wrap64 (485 - (a0_3.size : Int))),(0),(by first|rfl|(simp;done)|(simp [*];done)),(by first|rfl|(simp;done)|(simp [*];done)),H',⟨Nat.le_refl _⟩,⟨by (with_reducible repeat (first|refine blk_drewN ?_ _|refine blk_drew ?_|refine blk_alloc ?_ _));exact BK259.out⟩,⟨by repeat (first|(with_reducible first|exact HB.out|apply below_alloc|apply pw_below_drewN|apply below_drew1|refine below_set ?_ GE259.out)|exact HB.out)⟩⟩
 case round =>
  clear H'
  try clear c1
  try clear p2
  try clear hcz3_0
  try clear hcz3_1
  try clear hcz3_2
  try clear hcz3_3
  try clear hcz3_4
  try clear hfz3_0
  try clear hfz3_1
  try clear hfz3_2
  try clear hfz3_3
  try clear hfz3_4
  obtain ⟨x3_1,x13_1,rfl,rfl,HA,HK1,BK259,HB⟩:=hrel
  cases gk with
  | zero=>exact absurd HA.out (by simp [page_Room.l0])
  | succ k1 =>
   have H:=HA.out
   clear HA
   simp only [page_Room.l0] at H
   by_cases c4 : x13_1 < (l0_4.length : Int)
   ·rw [if_pos c4] at H
    have c4b0 : decide (x13_1 < (l0_4.length : Int))=true:=decide_eq_true c4
    clear c4
    by_cases c5 : 0≤x13_1
    ·rw [if_pos c5] at H
     have c5b0 : decide (0≤x13_1)=true:=decide_eq_true c5
     clear c5
     by_cases c6 : x13_1 < (l0_4.length : Int)
     ·rw [if_pos c6] at H
      have c6b0 : decide (x13_1 < (l0_4.length : Int))=true:=decide_eq_true c6
      clear c6
      have H':=Aside0.mk H
      clear H
      have p260 : 0≤(x13_1 : Int):=of_decide_eq_true (by first|(with_reducible assumption)|assumption)
      have q260 : x13_1 < (l0_4.length : Int):=of_decide_eq_true (by first|(with_reducible assumption)|assumption)
      obtain ⟨ad260,e260,hx260_0⟩:=Kd.at_string HR0_4.out x13_1 p260 q260
      cases e260
      replace hx260_0:=(HB.out.cell (World.block_lt_of_cell? w _ hx260_0)).trans hx260_0
      replace p260:=eq_true p260
      replace q260:=eq_true q260
      go_wp2
      go_roundg k1
      case measure=>have:=HK1.out;omega
      case rel=>exact ⟨(wrap64 (x3_1 - (wrap64 (2 + ((rdOf ByteArray.empty l0_4 x13_1).size : Int))))),(wrap64 (x13_1 + 1)),(by first|rfl|(simp;done)|(simp [*];done)),(by first|rfl|(simp;done)|(simp [*];done)),H',⟨by have:=HK1.out;omega⟩,⟨by (with_reducible repeat (first|refine blk_drewN ?_ _|refine blk_drew ?_|refine blk_alloc ?_ _));exact BK259.out⟩,⟨by repeat (first|(with_reducible first|exact HB.out|apply below_alloc|apply pw_below_drewN|apply below_drew1|refine below_set ?_ GE259.out)|exact HB.out)⟩⟩
     ·rw [if_neg c6] at H
      exact absurd H (by simp)
    ·rw [if_neg c5] at H
     exact absurd H (by simp)
   ·rw [if_neg c4] at H
    have c4b0 : decide (x13_1 < (l0_4.length : Int))=false:=decide_eq_false c4
    clear c4
    obtain rfl:=Option.some.inj H
    go_wp2
    go_ret
    exact ⟨by first|rfl|(simp [errW_none,errW_some] <;> rfl)|(simp [*,errW_none,errW_some] <;> rfl),by repeat (first|(with_reducible first|exact HB.out|apply below_alloc|apply pw_below_drewN|apply below_drew1|refine below_set ?_ GE259.out)|exact HB.out)⟩
end Go.Proofs.Yteokjmjfjdgmpaa.PPg
end
section
namespace Go.Proofs.Yteokjmjfjdgmpaa.PPg
open Go.RowKit Go.Proofs.YteokjmjfjdgmpaaW.PrintWords Go.Proofs.YteokjmjfjdgmpaaW.PrintLast Go.Proofs.YteokjmjfjdgmpaaW.PrintMore
attribute [local go_sem] max2_int min2_int max_two min_two max_three min_three max_four min_four
set_option linter.unusedVariables false
set_option linter.unusedSimpArgs false
def girderlaw03_awake.f (k : Nat)  : Option (Bool):=(some (([(⟨#[97]⟩ : ByteArray)] : List ByteArray) : List ByteArray)).bind fun y261=>((page_Encode.f 3 0 2 (⟨#[]⟩ : ByteArray) y261).bind fun bt265=>((page_Decode.f k bt265.1).bind fun bt267=>(if bt265.2=0 then (if bt267.2.2.2.2.2=0 then ((page_Same.f k 3 0 2 (⟨#[]⟩ : ByteArray) y261 bt267.1 bt267.2.1 bt267.2.2.1 bt267.2.2.2.1 bt267.2.2.2.2.1).bind fun t276=>(if t276=true then (some ((bt265.1.size : Int) == 512)) else (some false))) else (some false)) else (some false))))
set_option maxHeartbeats 8000000 in
set_option maxRecDepth 100000 in
theorem girderlaw03_awake.calls (k : Nat)  (r : Bool) (w : World) (h : girderlaw03_awake.f k =some r) :
  Calls Try.prog 13 #[] w fun e w'=>e=.returned (.bool r)∧Below w.heap.size w w':=by
 have hu28:=Try.underlying28
 have HB:=Aside0.mk (Below.refl w.heap.size w)
 have H : ((some (([(⟨#[97]⟩ : ByteArray)] : List ByteArray) : List ByteArray)).bind fun y261=>((page_Encode.f 3 0 2 (⟨#[]⟩ : ByteArray) y261).bind fun bt265=>((page_Decode.f k bt265.1).bind fun bt267=>(if bt265.2=0 then (if bt267.2.2.2.2.2=0 then ((page_Same.f k 3 0 2 (⟨#[]⟩ : ByteArray) y261 bt267.1 bt267.2.1 bt267.2.2.1 bt267.2.2.2.1 bt267.2.2.2.2.1).bind fun t276=>(if t276=true then (some ((bt265.1.size : Int) == 512)) else (some false))) else (some false)) else (some false)))))=some r:=h
 clear h
 obtain ⟨y261,hy261⟩ : ∃ y_ : List ByteArray,y_=(([(⟨#[97]⟩ : ByteArray)] : List ByteArray)):=⟨_,rfl⟩
 replace H : ((page_Encode.f 3 0 2 (⟨#[]⟩ : ByteArray) y261).bind fun bt265=>((page_Decode.f k bt265.1).bind fun bt267=>(if bt265.2=0 then (if bt267.2.2.2.2.2=0 then ((page_Same.f k 3 0 2 (⟨#[]⟩ : ByteArray) y261 bt267.1 bt267.2.1 bt267.2.2.1 bt267.2.2.2.1 bt267.2.2.2.2.1).bind fun t276=>(if t276=true then (some ((bt265.1.size : Int) == 512)) else (some false))) else (some false)) else (some false))))=some r:=by first|(rw [hy261];with_reducible exact H)|(have H2_:=(Option.bind_some _ _).symm.trans H;rw [hy261];with_reducible exact H2_)|(have H2_:=(Option.bind_some _ _).symm.trans H;with_reducible exact H2_)|with_reducible exact H|(rw [hy261];exact H)|exact H
 have Ny261:=Aside0.mk hy261
 clear hy261
 replace H:=Option.bind_eq_some_iff.mp H
 obtain ⟨⟨t265,t266⟩,A10,H⟩:=H
 replace H : ((page_Decode.f k t265).bind fun bt267=>(if t266=0 then (if bt267.2.2.2.2.2=0 then ((page_Same.f k 3 0 2 (⟨#[]⟩ : ByteArray) y261 bt267.1 bt267.2.1 bt267.2.2.1 bt267.2.2.2.1 bt267.2.2.2.2.1).bind fun t276=>(if t276=true then (some ((t265.size : Int) == 512)) else (some false))) else (some false)) else (some false)))=some r:=H
 have A1:=Aside0.mk A10
 clear A10
 replace H:=Option.bind_eq_some_iff.mp H
 obtain ⟨⟨t267,t268,t269,t270,t271,t274⟩,A20,H⟩:=H
 replace H : (if t266=0 then (if t274=0 then ((page_Same.f k 3 0 2 (⟨#[]⟩ : ByteArray) y261 t267 t268 t269 t270 t271).bind fun t276=>(if t276=true then (some ((t265.size : Int) == 512)) else (some false))) else (some false)) else (some false))=some r:=H
 have A2:=Aside0.mk A20
 clear A20
 by_cases c3 : t266=0
 ·rw [if_pos c3] at H
  have c3b0 : (t266 == 0)=true:=beq_iff_eq.mpr c3
  have c3b1 : (t266 != 0)=false:=bne_eq_false_iff_eq.mpr c3
  clear c3
  by_cases c4 : t274=0
  ·rw [if_pos c4] at H
   have c4b0 : (t274 == 0)=true:=beq_iff_eq.mpr c4
   have c4b1 : (t274 != 0)=false:=bne_eq_false_iff_eq.mpr c4
   clear c4
   replace H:=Option.bind_eq_some_iff.mp H
   obtain ⟨t276,A50,H⟩:=H
   replace H : (if t276=true then (some ((t265.size : Int) == 512)) else (some false))=some r:=H
   have A5:=Aside0.mk A50
   clear A50
   by_cases c6 : t276=true
   ·subst c6
    have H1 : (some ((t265.size : Int) == 512))=some r:=by rw [if_pos rfl] at H;exact H
    clear H
    have H:=H1
    clear H1
    obtain rfl:=Option.some.inj H
    go_enter Try.func13,Try.ntmps13
    go_wp2_with (first|((with_reducible refine gate_dst (N:=6) rfl ?_);(try (refine gate_guard (by rfl) ?_;dsimp only));refine Kd.R_lit Kd.string _ 9 ?hg (N:=6) ?hd (xs:=([(⟨#[97]⟩ : ByteArray)] : List ByteArray)) (inner:=[.string (⟨#[97]⟩ : ByteArray)]) (ok:=fun _=>True) (okp:=fun _=>True) ?hr ?hp (fun _ hk=>hk) trivial (Below.refl _ _) (Nat.le_refl _) (by simp) ?_;(case hd=>rfl);(case hg=>rfl);(case hr=>first|(go_simp;done)|(go_simp;rfl));(case hp=>exact (Reps.one (show Kd.M Kd.string _ _ _ (⟨#[97]⟩ : ByteArray) [.string (⟨#[97]⟩ : ByteArray)] from rfl) (Reps.none _ _)));intro v262 w7 ho8 hb hg_ hnew_;clear hg_ hnew_;(first|rw [← Ny261.out] at ho8|(simp only [Int.reduceToNat] at ho8;rw [← Ny261.out] at ho8));have n0_:=Aside0.mk (Kd.R_lower ho8 (below_size (by repeat (first|(with_reducible first|exact HB.out|apply below_alloc|apply pw_below_drewN|apply below_drew1)|exact HB.out))));have n1_:=Aside0.mk (below_step (by repeat (first|(with_reducible first|exact HB.out|apply below_alloc|apply pw_below_drewN|apply below_drew1)|exact HB.out)) hb);clear HB;have HO263:=n0_;have HB:=n1_;clear n0_ n1_;clear hb ho8;obtain ⟨Ao9,co9,eo9⟩:=Kd.R_slice HO263.out;subst eo9)|((with_reducible refine gate_dst (N:=1) rfl ?_);(try (refine gate_guard (by rfl) ?_;dsimp only));refine box_event ?hg (N:=1) ?hd (cs:=#[.int .u32 0,.int .u64 0,.int .i64 0,.string (⟨#[]⟩ : ByteArray),.slice none 0 0]) (t:=28) ?hr ?_;(case hd=>rfl);(case hg=>rfl);(case hr=>first|(go_simp;done)|(go_simp;rfl));intro gb264 hg w10 hbox hb;have n0_:=Aside0.mk (Kd.R_below (by (with_reducible repeat (first|apply Kd.R_alloc|apply Kd.R_drewN|apply Kd.R_drew));exact HO263.out) hb);have n1_:=Aside0.mk (below_step (by repeat (first|(with_reducible first|exact HB.out|apply below_alloc|apply pw_below_drewN|apply below_drew1)|exact HB.out)) hb);have n2_:=Aside0.mk (hbox);have n3_:=Aside0.mk ((by rw [hg];exact (below_size (by repeat (first|(with_reducible first|exact HB.out|apply below_alloc|apply pw_below_drewN|apply below_drew1)|exact HB.out))) : w.heap.size≤gb264));have n4_:=Aside0.mk ((by rw [hg];exact (below_size (by repeat (first|(with_reducible first|exact HB.out|apply below_alloc|apply pw_below_drewN|apply below_drew1)|exact HB.out))) : w.heap.size≤gb264));clear HO263;clear HB;have HO263:=n0_;have HB:=n1_;have BK264:=n2_;have GW264:=n3_;have GE264:=n4_;clear n0_ n1_ n2_ n3_ n4_;clear hb hbox hg;have hcz11_0 : w10.cell? ⟨gb264,0,none⟩=some (.int .u32 0):=(blk_cell BK264.out 0).trans rfl;have hcz11_1 : w10.cell? ⟨gb264,1,none⟩=some (.int .u64 0):=(blk_cell BK264.out 1).trans rfl;have hcz11_2 : w10.cell? ⟨gb264,2,none⟩=some (.int .i64 0):=(blk_cell BK264.out 2).trans rfl;have hcz11_3 : w10.cell? ⟨gb264,3,none⟩=some (.string (⟨#[]⟩ : ByteArray)):=(blk_cell BK264.out 3).trans rfl;have hcz11_4 : w10.cell? ⟨gb264,4,none⟩=some (.slice none 0 0):=(blk_cell BK264.out 4).trans rfl;have hfz11_0:=blk_frozen BK264.out 0;have hfz11_1:=blk_frozen BK264.out 1;have hfz11_2:=blk_frozen BK264.out 2;have hfz11_3:=blk_frozen BK264.out 3;have hfz11_4:=blk_frozen BK264.out 4)|((with_reducible refine gate_callee (f:=8) rfl ?_);refine goesL_ (some 10) rfl rfl Try.func8 (by kernel_rfl) rfl #[.agg #[.int .u32 3,.int .u64 0,.int .i64 2,.string (⟨#[]⟩ : ByteArray),.slice Ao9 y261.length co9]] rfl (by (try simp only [List.map_toArray,List.map_cons,List.map_nil]);first|done|rfl|(simp only [List.length_drop,List.length_take];rfl)) ?_;(with_reducible refine (page_Encode.calls 3 0 2 (⟨#[]⟩ : ByteArray) _ _ y261 t265 t266 _ ?side1 ?side2 A1.out).mono ?_);(case side1=>refine (Kd.R_reads' (e:=9) (base:=w.heap.size) (ok:=fun k_=>True) (n:=y261.length) (c:=co9) ?_).2.2;exact (by (with_reducible repeat (first|apply Kd.R_alloc|apply Kd.R_drewN|apply Kd.R_drew));exact (Kd.R_mono (Kd.R_far (p:=⟨gb264,4,none⟩) (Kd.R_far (p:=⟨gb264,3,none⟩) (Kd.R_far (p:=⟨gb264,2,none⟩) (Kd.R_far (p:=⟨gb264,1,none⟩) (Kd.R_far (p:=⟨gb264,0,none⟩) (Kd.R_types HO263.out BK264.out (by decide)) (fun _ hk=>hk.2) (.int .u32 3)) (fun _ hk=>hk.2) (.int .u64 0)) (fun _ hk=>hk.2) (.int .i64 2)) (fun _ hk=>hk.2) (.string (⟨#[]⟩ : ByteArray))) (fun _ hk=>hk.2) (.slice Ao9 y261.length co9)) (fun _ h_=>h_.1))));(case side2=>exact (Kd.R_reads' HO263.out).2.1);rintro e w12 ⟨rfl,hb⟩;refine ⟨_,rfl,?_⟩;have n0_:=Aside0.mk (Kd.R_below (by (with_reducible repeat (first|apply Kd.R_alloc|apply Kd.R_drewN|apply Kd.R_drew));exact (Kd.R_mono (Kd.R_far (p:=⟨gb264,4,none⟩) (Kd.R_far (p:=⟨gb264,3,none⟩) (Kd.R_far (p:=⟨gb264,2,none⟩) (Kd.R_far (p:=⟨gb264,1,none⟩) (Kd.R_far (p:=⟨gb264,0,none⟩) (Kd.R_types HO263.out BK264.out (by decide)) (fun _ hk=>hk.2) (.int .u32 3)) (fun _ hk=>hk.2) (.int .u64 0)) (fun _ hk=>hk.2) (.int .i64 2)) (fun _ hk=>hk.2) (.string (⟨#[]⟩ : ByteArray))) (fun _ hk=>hk.2) (.slice Ao9 y261.length co9)) (fun _ h_=>h_.1))) hb);have n1_:=Aside0.mk (blk_below (g:=gb264) (o:=.cells #[.int .u32 3,.int .u64 0,.int .i64 2,.string (⟨#[]⟩ : ByteArray),.slice Ao9 y261.length co9] 28 (0,0)) (by (with_reducible repeat (first|refine blk_drewN ?_ _|refine blk_drew ?_|refine blk_alloc ?_ _));refine blk_put (cs:=#[.int .u32 3,.int .u64 0,.int .i64 2,.string (⟨#[]⟩ : ByteArray),.slice none 0 0]) ?_ 4 _ rfl;(with_reducible repeat (first|refine blk_drewN ?_ _|refine blk_drew ?_|refine blk_alloc ?_ _));refine blk_put (cs:=#[.int .u32 3,.int .u64 0,.int .i64 2,.string (⟨#[]⟩ : ByteArray),.slice none 0 0]) ?_ 3 _ rfl;(with_reducible repeat (first|refine blk_drewN ?_ _|refine blk_drew ?_|refine blk_alloc ?_ _));refine blk_put (cs:=#[.int .u32 3,.int .u64 0,.int .i64 0,.string (⟨#[]⟩ : ByteArray),.slice none 0 0]) ?_ 2 _ rfl;(with_reducible repeat (first|refine blk_drewN ?_ _|refine blk_drew ?_|refine blk_alloc ?_ _));refine blk_put (cs:=#[.int .u32 3,.int .u64 0,.int .i64 0,.string (⟨#[]⟩ : ByteArray),.slice none 0 0]) ?_ 1 _ rfl;(with_reducible repeat (first|refine blk_drewN ?_ _|refine blk_drew ?_|refine blk_alloc ?_ _));refine blk_put (cs:=#[.int .u32 0,.int .u64 0,.int .i64 0,.string (⟨#[]⟩ : ByteArray),.slice none 0 0]) ?_ 0 _ rfl;(with_reducible repeat (first|refine blk_drewN ?_ _|refine blk_drew ?_|refine blk_alloc ?_ _));exact BK264.out) hb);have n2_:=Aside0.mk (below_step (by repeat (first|(with_reducible first|exact HB.out|apply below_alloc|apply pw_below_drewN|apply below_drew1|refine below_set ?_ GE264.out)|exact HB.out)) hb);clear HO263;clear BK264;clear HB;have HO263:=n0_;have BK264:=n1_;have HB:=n2_;clear n0_ n1_ n2_;(try clear hb);(try clear hb2);(try clear hk);(try clear hi))|((with_reducible refine gate_callee (f:=11) rfl ?_);refine goesL_ (some 15) rfl rfl Try.func11 (by kernel_rfl) rfl #[.string t265] rfl (by (try simp only [List.map_toArray,List.map_cons,List.map_nil]);first|done|rfl|(simp only [List.length_drop,List.length_take];rfl)) ?_;(with_reducible refine (page_Decode.calls k t265 t267 t268 t269 t270 t271 t274 _ A2.out).mono ?_);rintro e w13 ⟨v272,rfl,ho0,hb⟩;refine ⟨_,rfl,?_⟩;have n0_:=Aside0.mk (Kd.R_elder' (by (with_reducible repeat (first|apply Kd.R_alloc|apply Kd.R_drewN|apply Kd.R_drew));exact HO263.out) (Kd.R_base ho0) hb);have n1_:=Aside0.mk (Kd.R_lower (Kd.R_new' ho0 (Kd.R_lt (by (with_reducible repeat (first|apply Kd.R_alloc|apply Kd.R_drewN|apply Kd.R_drew));exact HO263.out))) (below_size (by repeat (first|(with_reducible first|exact HB.out|apply below_alloc|apply pw_below_drewN|apply below_drew1|refine below_set ?_ GE264.out)|exact HB.out))));have n2_:=Aside0.mk (blk_below (g:=gb264) (o:=.cells #[.int .u32 3,.int .u64 0,.int .i64 2,.string (⟨#[]⟩ : ByteArray),.slice Ao9 y261.length co9] 28 (0,0)) (by (with_reducible repeat (first|refine blk_drewN ?_ _|refine blk_drew ?_|refine blk_alloc ?_ _));exact BK264.out) hb);have n3_:=Aside0.mk (below_step (by repeat (first|(with_reducible first|exact HB.out|apply below_alloc|apply pw_below_drewN|apply below_drew1|refine below_set ?_ GE264.out)|exact HB.out)) hb);clear HO263;clear BK264;clear HB;have HO263:=n0_;have HO273:=n1_;have BK264:=n2_;have HB:=n3_;clear n0_ n1_ n2_ n3_;(try clear hb);(try clear hb2);(try clear hk);(try clear hi);(try clear ho0))|((with_reducible refine gate_dst (N:=4) rfl ?_);(try (refine gate_guard (by rfl) ?_;dsimp only));refine box_event ?hg (N:=4) ?hd (cs:=#[.int .u32 0,.int .u64 0,.int .i64 0,.string (⟨#[]⟩ : ByteArray),.slice none 0 0]) (t:=28) ?hr ?_;(case hd=>rfl);(case hg=>rfl);(case hr=>first|(go_simp;done)|(go_simp;rfl));intro gb275 hg w14 hbox hb;have n0_:=Aside0.mk (Kd.R_below (by (with_reducible repeat (first|apply Kd.R_alloc|apply Kd.R_drewN|apply Kd.R_drew));exact HO263.out) hb);have n1_:=Aside0.mk (Kd.R_below (by (with_reducible repeat (first|apply Kd.R_alloc|apply Kd.R_drewN|apply Kd.R_drew));exact HO273.out) hb);have n2_:=Aside0.mk (blk_below (g:=gb264) (o:=.cells #[.int .u32 3,.int .u64 0,.int .i64 2,.string (⟨#[]⟩ : ByteArray),.slice Ao9 y261.length co9] 28 (0,0)) (by (with_reducible repeat (first|refine blk_drewN ?_ _|refine blk_drew ?_|refine blk_alloc ?_ _));exact BK264.out) hb);have n3_:=Aside0.mk (below_step (by repeat (first|(with_reducible first|exact HB.out|apply below_alloc|apply pw_below_drewN|apply below_drew1|refine below_set ?_ GE264.out)|exact HB.out)) hb);have n4_:=Aside0.mk (hbox);have n5_:=Aside0.mk ((by rw [hg];exact (below_size (by repeat (first|(with_reducible first|exact HB.out|apply below_alloc|apply pw_below_drewN|apply below_drew1|refine below_set ?_ GE264.out)|exact HB.out))) : w.heap.size≤gb275));have n6_:=Aside0.mk ((by rw [hg];exact (below_size (by repeat (first|(with_reducible first|exact HB.out|apply below_alloc|apply pw_below_drewN|apply below_drew1|refine below_set ?_ GE264.out)|exact HB.out))) : w.heap.size≤gb275));have n7_:=Aside0.mk ((by rw [hg];exact Nat.ne_of_lt (blk_lt (g:=gb264) (o:=.cells #[.int .u32 3,.int .u64 0,.int .i64 2,.string (⟨#[]⟩ : ByteArray),.slice Ao9 y261.length co9] 28 (0,0)) (by (with_reducible repeat (first|refine blk_drewN ?_ _|refine blk_drew ?_|refine blk_alloc ?_ _));exact BK264.out)) : gb264≠gb275));have n8_:=Aside0.mk ((by rw [hg];exact Nat.ne_of_gt (blk_lt (g:=gb264) (o:=.cells #[.int .u32 3,.int .u64 0,.int .i64 2,.string (⟨#[]⟩ : ByteArray),.slice Ao9 y261.length co9] 28 (0,0)) (by (with_reducible repeat (first|refine blk_drewN ?_ _|refine blk_drew ?_|refine blk_alloc ?_ _));exact BK264.out)) : gb275≠gb264));clear HO263;clear HO273;clear BK264;clear HB;have HO263:=n0_;have HO273:=n1_;have BK264:=n2_;have HB:=n3_;have BK275:=n4_;have GW275:=n5_;have GE275:=n6_;have NB264_275:=n7_;have NB275_264:=n8_;clear n0_ n1_ n2_ n3_ n4_ n5_ n6_ n7_ n8_;clear hb hbox hg;have hnb15:=NB275_264.out;have hnc15:=NB264_275.out;have hcz16_0 : w14.cell? ⟨gb275,0,none⟩=some (.int .u32 0):=(blk_cell BK275.out 0).trans rfl;have hcz16_1 : w14.cell? ⟨gb275,1,none⟩=some (.int .u64 0):=(blk_cell BK275.out 1).trans rfl;have hcz16_2 : w14.cell? ⟨gb275,2,none⟩=some (.int .i64 0):=(blk_cell BK275.out 2).trans rfl;have hcz16_3 : w14.cell? ⟨gb275,3,none⟩=some (.string (⟨#[]⟩ : ByteArray)):=(blk_cell BK275.out 3).trans rfl;have hcz16_4 : w14.cell? ⟨gb275,4,none⟩=some (.slice none 0 0):=(blk_cell BK275.out 4).trans rfl;have hfz16_0:=blk_frozen BK275.out 0;have hfz16_1:=blk_frozen BK275.out 1;have hfz16_2:=blk_frozen BK275.out 2;have hfz16_3:=blk_frozen BK275.out 3;have hfz16_4:=blk_frozen BK275.out 4;obtain ⟨Ao17,co17,eo17⟩:=Kd.R_slice HO273.out;subst eo17;have hcz18_0 : w14.cell? ⟨gb264,0,none⟩=some (.int .u32 3):=(blk_cell BK264.out 0).trans rfl;have hcz18_1 : w14.cell? ⟨gb264,1,none⟩=some (.int .u64 0):=(blk_cell BK264.out 1).trans rfl;have hcz18_2 : w14.cell? ⟨gb264,2,none⟩=some (.int .i64 2):=(blk_cell BK264.out 2).trans rfl;have hcz18_3 : w14.cell? ⟨gb264,3,none⟩=some (.string (⟨#[]⟩ : ByteArray)):=(blk_cell BK264.out 3).trans rfl;have hcz18_4 : w14.cell? ⟨gb264,4,none⟩=some (.slice Ao9 y261.length co9):=(blk_cell BK264.out 4).trans rfl;have hfz18_0:=blk_frozen BK264.out 0;have hfz18_1:=blk_frozen BK264.out 1;have hfz18_2:=blk_frozen BK264.out 2;have hfz18_3:=blk_frozen BK264.out 3;have hfz18_4:=blk_frozen BK264.out 4)|(go_at_call 17;(with_reducible refine (page_Same.calls k 3 0 2 (⟨#[]⟩ : ByteArray) _ _ y261 t267 t268 t269 t270 _ _ t271 true _ ?side1 ?side2 ?side3 ?side4 A5.out).mono ?_);(case side1=>refine (Kd.R_reads' (e:=9) (base:=w.heap.size) (ok:=fun k_=>(True∧some k_≠(.slice Ao17 t271.length co17 : Value).ownBlock)) (n:=y261.length) (c:=co9) ?_).2.2;exact (by (with_reducible repeat (first|apply Kd.R_alloc|apply Kd.R_drewN|apply Kd.R_drew));exact (Kd.R_mono (Kd.R_far (p:=⟨gb275,4,none⟩) (Kd.R_far (p:=⟨gb275,3,none⟩) (Kd.R_far (p:=⟨gb275,2,none⟩) (Kd.R_far (p:=⟨gb275,1,none⟩) (Kd.R_far (p:=⟨gb275,0,none⟩) (Kd.R_types HO263.out BK275.out (by decide)) (fun _ hk=>hk.2) (.int .u32 t267)) (fun _ hk=>hk.2) (.int .u64 t268)) (fun _ hk=>hk.2) (.int .i64 t269)) (fun _ hk=>hk.2) (.string t270)) (fun _ hk=>hk.2) (.slice Ao17 t271.length co17)) (fun _ h_=>h_.1))));(case side2=>exact (Kd.R_reads' HO263.out).2.1);(case side3=>refine (Kd.R_reads' (e:=9) (base:=w.heap.size) (ok:=fun k_=>(True∧some k_≠(.slice Ao9 y261.length co9 : Value).ownBlock)) (n:=t271.length) (c:=co17) ?_).2.2;exact (by (with_reducible repeat (first|apply Kd.R_alloc|apply Kd.R_drewN|apply Kd.R_drew));exact (Kd.R_mono (Kd.R_far (p:=⟨gb275,4,none⟩) (Kd.R_far (p:=⟨gb275,3,none⟩) (Kd.R_far (p:=⟨gb275,2,none⟩) (Kd.R_far (p:=⟨gb275,1,none⟩) (Kd.R_far (p:=⟨gb275,0,none⟩) (Kd.R_types HO273.out BK275.out (by decide)) (fun _ hk=>hk.2) (.int .u32 t267)) (fun _ hk=>hk.2) (.int .u64 t268)) (fun _ hk=>hk.2) (.int .i64 t269)) (fun _ hk=>hk.2) (.string t270)) (fun _ hk=>hk.2) (.slice Ao17 t271.length co17)) (fun _ h_=>h_.1))));(case side4=>exact (Kd.R_reads' HO273.out).2.1);rintro e w19 ⟨rfl,hb⟩;have n0_:=Aside0.mk (Kd.R_below (by (with_reducible repeat (first|apply Kd.R_alloc|apply Kd.R_drewN|apply Kd.R_drew));exact (Kd.R_mono (Kd.R_far (p:=⟨gb275,4,none⟩) (Kd.R_far (p:=⟨gb275,3,none⟩) (Kd.R_far (p:=⟨gb275,2,none⟩) (Kd.R_far (p:=⟨gb275,1,none⟩) (Kd.R_far (p:=⟨gb275,0,none⟩) (Kd.R_types HO263.out BK275.out (by decide)) (fun _ hk=>hk.2) (.int .u32 t267)) (fun _ hk=>hk.2) (.int .u64 t268)) (fun _ hk=>hk.2) (.int .i64 t269)) (fun _ hk=>hk.2) (.string t270)) (fun _ hk=>hk.2) (.slice Ao17 t271.length co17)) (fun _ h_=>h_.1))) hb);have n1_:=Aside0.mk (Kd.R_below (by (with_reducible repeat (first|apply Kd.R_alloc|apply Kd.R_drewN|apply Kd.R_drew));exact (Kd.R_mono (Kd.R_far (p:=⟨gb275,4,none⟩) (Kd.R_far (p:=⟨gb275,3,none⟩) (Kd.R_far (p:=⟨gb275,2,none⟩) (Kd.R_far (p:=⟨gb275,1,none⟩) (Kd.R_far (p:=⟨gb275,0,none⟩) (Kd.R_types HO273.out BK275.out (by decide)) (fun _ hk=>hk.2) (.int .u32 t267)) (fun _ hk=>hk.2) (.int .u64 t268)) (fun _ hk=>hk.2) (.int .i64 t269)) (fun _ hk=>hk.2) (.string t270)) (fun _ hk=>hk.2) (.slice Ao17 t271.length co17)) (fun _ h_=>h_.1))) hb);have n2_:=Aside0.mk (blk_below (g:=gb264) (o:=.cells #[.int .u32 3,.int .u64 0,.int .i64 2,.string (⟨#[]⟩ : ByteArray),.slice Ao9 y261.length co9] 28 (0,0)) (by (with_reducible repeat (first|refine blk_drewN ?_ _|refine blk_drew ?_|refine blk_alloc ?_ _));refine blk_far ?_ NB264_275.out _;(with_reducible repeat (first|refine blk_drewN ?_ _|refine blk_drew ?_|refine blk_alloc ?_ _));refine blk_far ?_ NB264_275.out _;(with_reducible repeat (first|refine blk_drewN ?_ _|refine blk_drew ?_|refine blk_alloc ?_ _));refine blk_far ?_ NB264_275.out _;(with_reducible repeat (first|refine blk_drewN ?_ _|refine blk_drew ?_|refine blk_alloc ?_ _));refine blk_far ?_ NB264_275.out _;(with_reducible repeat (first|refine blk_drewN ?_ _|refine blk_drew ?_|refine blk_alloc ?_ _));refine blk_far ?_ NB264_275.out _;(with_reducible repeat (first|refine blk_drewN ?_ _|refine blk_drew ?_|refine blk_alloc ?_ _));exact BK264.out) hb);have n3_:=Aside0.mk (blk_below (g:=gb275) (o:=.cells #[.int .u32 t267,.int .u64 t268,.int .i64 t269,.string t270,.slice Ao17 t271.length co17] 28 (0,0)) (by (with_reducible repeat (first|refine blk_drewN ?_ _|refine blk_drew ?_|refine blk_alloc ?_ _));refine blk_put (cs:=#[.int .u32 t267,.int .u64 t268,.int .i64 t269,.string t270,.slice none 0 0]) ?_ 4 _ rfl;(with_reducible repeat (first|refine blk_drewN ?_ _|refine blk_drew ?_|refine blk_alloc ?_ _));refine blk_put (cs:=#[.int .u32 t267,.int .u64 t268,.int .i64 t269,.string (⟨#[]⟩ : ByteArray),.slice none 0 0]) ?_ 3 _ rfl;(with_reducible repeat (first|refine blk_drewN ?_ _|refine blk_drew ?_|refine blk_alloc ?_ _));refine blk_put (cs:=#[.int .u32 t267,.int .u64 t268,.int .i64 0,.string (⟨#[]⟩ : ByteArray),.slice none 0 0]) ?_ 2 _ rfl;(with_reducible repeat (first|refine blk_drewN ?_ _|refine blk_drew ?_|refine blk_alloc ?_ _));refine blk_put (cs:=#[.int .u32 t267,.int .u64 0,.int .i64 0,.string (⟨#[]⟩ : ByteArray),.slice none 0 0]) ?_ 1 _ rfl;(with_reducible repeat (first|refine blk_drewN ?_ _|refine blk_drew ?_|refine blk_alloc ?_ _));refine blk_put (cs:=#[.int .u32 0,.int .u64 0,.int .i64 0,.string (⟨#[]⟩ : ByteArray),.slice none 0 0]) ?_ 0 _ rfl;(with_reducible repeat (first|refine blk_drewN ?_ _|refine blk_drew ?_|refine blk_alloc ?_ _));exact BK275.out) hb);have n4_:=Aside0.mk (below_step (by repeat (first|(with_reducible first|exact HB.out|apply below_alloc|apply pw_below_drewN|apply below_drew1|refine below_set ?_ GE264.out|refine below_set ?_ GE275.out)|exact HB.out)) hb);clear HO263;clear HO273;clear BK264;clear BK275;clear HB;have HO263:=n0_;have HO273:=n1_;have BK264:=n2_;have BK275:=n3_;have HB:=n4_;clear n0_ n1_ n2_ n3_ n4_;(try clear hb);(try clear hb2);(try clear hk);(try clear hi)))
    go_ret
    exact ⟨by first|rfl|(simp [errW_none,errW_some] <;> rfl)|(simp [*,errW_none,errW_some] <;> rfl),by repeat (first|(with_reducible first|exact HB.out|apply below_alloc|apply pw_below_drewN|apply below_drew1|refine below_set ?_ GE264.out|refine below_set ?_ GE275.out)|exact HB.out)⟩
   ·replace c6:=Bool.eq_false_iff.mpr c6
    subst c6
    have H1 : (some false)=some r:=by rw [if_neg (show ¬ (false=true) by decide)] at H;exact H
    clear H
    have H:=H1
    clear H1
    obtain rfl:=Option.some.inj H
    go_enter Try.func13,Try.ntmps13
    go_wp2_with (first|((with_reducible refine gate_dst (N:=6) rfl ?_);(try (refine gate_guard (by rfl) ?_;dsimp only));refine Kd.R_lit Kd.string _ 9 ?hg (N:=6) ?hd (xs:=([(⟨#[97]⟩ : ByteArray)] : List ByteArray)) (inner:=[.string (⟨#[97]⟩ : ByteArray)]) (ok:=fun _=>True) (okp:=fun _=>True) ?hr ?hp (fun _ hk=>hk) trivial (Below.refl _ _) (Nat.le_refl _) (by simp) ?_;(case hd=>rfl);(case hg=>rfl);(case hr=>first|(go_simp;done)|(go_simp;rfl));(case hp=>exact (Reps.one (show Kd.M Kd.string _ _ _ (⟨#[97]⟩ : ByteArray) [.string (⟨#[97]⟩ : ByteArray)] from rfl) (Reps.none _ _)));intro v262 w20 ho21 hb hg_ hnew_;clear hg_ hnew_;(first|rw [← Ny261.out] at ho21|(simp only [Int.reduceToNat] at ho21;rw [← Ny261.out] at ho21));have n0_:=Aside0.mk (Kd.R_lower ho21 (below_size (by repeat (first|(with_reducible first|exact HB.out|apply below_alloc|apply pw_below_drewN|apply below_drew1)|exact HB.out))));have n1_:=Aside0.mk (below_step (by repeat (first|(with_reducible first|exact HB.out|apply below_alloc|apply pw_below_drewN|apply below_drew1)|exact HB.out)) hb);clear HB;have HO263:=n0_;have HB:=n1_;clear n0_ n1_;clear hb ho21;obtain ⟨Ao22,co22,eo22⟩:=Kd.R_slice HO263.out;subst eo22)|((with_reducible refine gate_dst (N:=1) rfl ?_);(try (refine gate_guard (by rfl) ?_;dsimp only));refine box_event ?hg (N:=1) ?hd (cs:=#[.int .u32 0,.int .u64 0,.int .i64 0,.string (⟨#[]⟩ : ByteArray),.slice none 0 0]) (t:=28) ?hr ?_;(case hd=>rfl);(case hg=>rfl);(case hr=>first|(go_simp;done)|(go_simp;rfl));intro gb264 hg w23 hbox hb;have n0_:=Aside0.mk (Kd.R_below (by (with_reducible repeat (first|apply Kd.R_alloc|apply Kd.R_drewN|apply Kd.R_drew));exact HO263.out) hb);have n1_:=Aside0.mk (below_step (by repeat (first|(with_reducible first|exact HB.out|apply below_alloc|apply pw_below_drewN|apply below_drew1)|exact HB.out)) hb);have n2_:=Aside0.mk (hbox);have n3_:=Aside0.mk ((by rw [hg];exact (below_size (by repeat (first|(with_reducible first|exact HB.out|apply below_alloc|apply pw_below_drewN|apply below_drew1)|exact HB.out))) : w.heap.size≤gb264));have n4_:=Aside0.mk ((by rw [hg];exact (below_size (by repeat (first|(with_reducible first|exact HB.out|apply below_alloc|apply pw_below_drewN|apply below_drew1)|exact HB.out))) : w.heap.size≤gb264));clear HO263;clear HB;have HO263:=n0_;have HB:=n1_;have BK264:=n2_;have GW264:=n3_;have GE264:=n4_;clear n0_ n1_ n2_ n3_ n4_;clear hb hbox hg;have hcz24_0 : w23.cell? ⟨gb264,0,none⟩=some (.int .u32 0):=(blk_cell BK264.out 0).trans rfl;have hcz24_1 : w23.cell? ⟨gb264,1,none⟩=some (.int .u64 0):=(blk_cell BK264.out 1).trans rfl;have hcz24_2 : w23.cell? ⟨gb264,2,none⟩=some (.int .i64 0):=(blk_cell BK264.out 2).trans rfl;have hcz24_3 : w23.cell? ⟨gb264,3,none⟩=some (.string (⟨#[]⟩ : ByteArray)):=(blk_cell BK264.out 3).trans rfl;have hcz24_4 : w23.cell? ⟨gb264,4,none⟩=some (.slice none 0 0):=(blk_cell BK264.out 4).trans rfl;have hfz24_0:=blk_frozen BK264.out 0;have hfz24_1:=blk_frozen BK264.out 1;have hfz24_2:=blk_frozen BK264.out 2;have hfz24_3:=blk_frozen BK264.out 3;have hfz24_4:=blk_frozen BK264.out 4)|((with_reducible refine gate_callee (f:=8) rfl ?_);refine goesL_ (some 10) rfl rfl Try.func8 (by kernel_rfl) rfl #[.agg #[.int .u32 3,.int .u64 0,.int .i64 2,.string (⟨#[]⟩ : ByteArray),.slice Ao22 y261.length co22]] rfl (by (try simp only [List.map_toArray,List.map_cons,List.map_nil]);first|done|rfl|(simp only [List.length_drop,List.length_take];rfl)) ?_;(with_reducible refine (page_Encode.calls 3 0 2 (⟨#[]⟩ : ByteArray) _ _ y261 t265 t266 _ ?side1 ?side2 A1.out).mono ?_);(case side1=>refine (Kd.R_reads' (e:=9) (base:=w.heap.size) (ok:=fun k_=>True) (n:=y261.length) (c:=co22) ?_).2.2;exact (by (with_reducible repeat (first|apply Kd.R_alloc|apply Kd.R_drewN|apply Kd.R_drew));exact (Kd.R_mono (Kd.R_far (p:=⟨gb264,4,none⟩) (Kd.R_far (p:=⟨gb264,3,none⟩) (Kd.R_far (p:=⟨gb264,2,none⟩) (Kd.R_far (p:=⟨gb264,1,none⟩) (Kd.R_far (p:=⟨gb264,0,none⟩) (Kd.R_types HO263.out BK264.out (by decide)) (fun _ hk=>hk.2) (.int .u32 3)) (fun _ hk=>hk.2) (.int .u64 0)) (fun _ hk=>hk.2) (.int .i64 2)) (fun _ hk=>hk.2) (.string (⟨#[]⟩ : ByteArray))) (fun _ hk=>hk.2) (.slice Ao22 y261.length co22)) (fun _ h_=>h_.1))));(case side2=>exact (Kd.R_reads' HO263.out).2.1);rintro e w25 ⟨rfl,hb⟩;refine ⟨_,rfl,?_⟩;have n0_:=Aside0.mk (Kd.R_below (by (with_reducible repeat (first|apply Kd.R_alloc|apply Kd.R_drewN|apply Kd.R_drew));exact (Kd.R_mono (Kd.R_far (p:=⟨gb264,4,none⟩) (Kd.R_far (p:=⟨gb264,3,none⟩) (Kd.R_far (p:=⟨gb264,2,none⟩) (Kd.R_far (p:=⟨gb264,1,none⟩) (Kd.R_far (p:=⟨gb264,0,none⟩) (Kd.R_types HO263.out BK264.out (by decide)) (fun _ hk=>hk.2) (.int .u32 3)) (fun _ hk=>hk.2) (.int .u64 0)) (fun _ hk=>hk.2) (.int .i64 2)) (fun _ hk=>hk.2) (.string (⟨#[]⟩ : ByteArray))) (fun _ hk=>hk.2) (.slice Ao22 y261.length co22)) (fun _ h_=>h_.1))) hb);have n1_:=Aside0.mk (blk_below (g:=gb264) (o:=.cells #[.int .u32 3,.int .u64 0,.int .i64 2,.string (⟨#[]⟩ : ByteArray),.slice Ao22 y261.length co22] 28 (0,0)) (by (with_reducible repeat (first|refine blk_drewN ?_ _|refine blk_drew ?_|refine blk_alloc ?_ _));refine blk_put (cs:=#[.int .u32 3,.int .u64 0,.int .i64 2,.string (⟨#[]⟩ : ByteArray),.slice none 0 0]) ?_ 4 _ rfl;(with_reducible repeat (first|refine blk_drewN ?_ _|refine blk_drew ?_|refine blk_alloc ?_ _));refine blk_put (cs:=#[.int .u32 3,.int .u64 0,.int .i64 2,.string (⟨#[]⟩ : ByteArray),.slice none 0 0]) ?_ 3 _ rfl;(with_reducible repeat (first|refine blk_drewN ?_ _|refine blk_drew ?_|refine blk_alloc ?_ _));refine blk_put (cs:=#[.int .u32 3,.int .u64 0,.int .i64 0,.string (⟨#[]⟩ : ByteArray),.slice none 0 0]) ?_ 2 _ rfl;(with_reducible repeat (first|refine blk_drewN ?_ _|refine blk_drew ?_|refine blk_alloc ?_ _));refine blk_put (cs:=#[.int .u32 3,.int .u64 0,.int .i64 0,.string (⟨#[]⟩ : ByteArray),.slice none 0 0]) ?_ 1 _ rfl;(with_reducible repeat (first|refine blk_drewN ?_ _|refine blk_drew ?_|refine blk_alloc ?_ _));refine blk_put (cs:=#[.int .u32 0,.int .u64 0,.int .i64 0,.string (⟨#[]⟩ : ByteArray),.slice none 0 0]) ?_ 0 _ rfl;(with_reducible repeat (first|refine blk_drewN ?_ _|refine blk_drew ?_|refine blk_alloc ?_ _));exact BK264.out) hb);have n2_:=Aside0.mk (below_step (by repeat (first|(with_reducible first|exact HB.out|apply below_alloc|apply pw_below_drewN|apply below_drew1|refine below_set ?_ GE264.out)|exact HB.out)) hb);clear HO263;clear BK264;clear HB;have HO263:=n0_;have BK264:=n1_;have HB:=n2_;clear n0_ n1_ n2_;(try clear hb);(try clear hb2);(try clear hk);(try clear hi))|((with_reducible refine gate_callee (f:=11) rfl ?_);refine goesL_ (some 15) rfl rfl Try.func11 (by kernel_rfl) rfl #[.string t265] rfl (by (try simp only [List.map_toArray,List.map_cons,List.map_nil]);first|done|rfl|(simp only [List.length_drop,List.length_take];rfl)) ?_;(with_reducible refine (page_Decode.calls k t265 t267 t268 t269 t270 t271 t274 _ A2.out).mono ?_);rintro e w26 ⟨v272,rfl,ho0,hb⟩;refine ⟨_,rfl,?_⟩;have n0_:=Aside0.mk (Kd.R_elder' (by (with_reducible repeat (first|apply Kd.R_alloc|apply Kd.R_drewN|apply Kd.R_drew));exact HO263.out) (Kd.R_base ho0) hb);have n1_:=Aside0.mk (Kd.R_lower (Kd.R_new' ho0 (Kd.R_lt (by (with_reducible repeat (first|apply Kd.R_alloc|apply Kd.R_drewN|apply Kd.R_drew));exact HO263.out))) (below_size (by repeat (first|(with_reducible first|exact HB.out|apply below_alloc|apply pw_below_drewN|apply below_drew1|refine below_set ?_ GE264.out)|exact HB.out))));have n2_:=Aside0.mk (blk_below (g:=gb264) (o:=.cells #[.int .u32 3,.int .u64 0,.int .i64 2,.string (⟨#[]⟩ : ByteArray),.slice Ao22 y261.length co22] 28 (0,0)) (by (with_reducible repeat (first|refine blk_drewN ?_ _|refine blk_drew ?_|refine blk_alloc ?_ _));exact BK264.out) hb);have n3_:=Aside0.mk (below_step (by repeat (first|(with_reducible first|exact HB.out|apply below_alloc|apply pw_below_drewN|apply below_drew1|refine below_set ?_ GE264.out)|exact HB.out)) hb);clear HO263;clear BK264;clear HB;have HO263:=n0_;have HO273:=n1_;have BK264:=n2_;have HB:=n3_;clear n0_ n1_ n2_ n3_;(try clear hb);(try clear hb2);(try clear hk);(try clear hi);(try clear ho0))|((with_reducible refine gate_dst (N:=4) rfl ?_);(try (refine gate_guard (by rfl) ?_;dsimp only));refine box_event ?hg (N:=4) ?hd (cs:=#[.int .u32 0,.int .u64 0,.int .i64 0,.string (⟨#[]⟩ : ByteArray),.slice none 0 0]) (t:=28) ?hr ?_;(case hd=>rfl);(case hg=>rfl);(case hr=>first|(go_simp;done)|(go_simp;rfl));intro gb275 hg w27 hbox hb;have n0_:=Aside0.mk (Kd.R_below (by (with_reducible repeat (first|apply Kd.R_alloc|apply Kd.R_drewN|apply Kd.R_drew));exact HO263.out) hb);have n1_:=Aside0.mk (Kd.R_below (by (with_reducible repeat (first|apply Kd.R_alloc|apply Kd.R_drewN|apply Kd.R_drew));exact HO273.out) hb);have n2_:=Aside0.mk (blk_below (g:=gb264) (o:=.cells #[.int .u32 3,.int .u64 0,.int .i64 2,.string (⟨#[]⟩ : ByteArray),.slice Ao22 y261.length co22] 28 (0,0)) (by (with_reducible repeat (first|refine blk_drewN ?_ _|refine blk_drew ?_|refine blk_alloc ?_ _));exact BK264.out) hb);have n3_:=Aside0.mk (below_step (by repeat (first|(with_reducible first|exact HB.out|apply below_alloc|apply pw_below_drewN|apply below_drew1|refine below_set ?_ GE264.out)|exact HB.out)) hb);have n4_:=Aside0.mk (hbox);have n5_:=Aside0.mk ((by rw [hg];exact (below_size (by repeat (first|(with_reducible first|exact HB.out|apply below_alloc|apply pw_below_drewN|apply below_drew1|refine below_set ?_ GE264.out)|exact HB.out))) : w.heap.size≤gb275));have n6_:=Aside0.mk ((by rw [hg];exact (below_size (by repeat (first|(with_reducible first|exact HB.out|apply below_alloc|apply pw_below_drewN|apply below_drew1|refine below_set ?_ GE264.out)|exact HB.out))) : w.heap.size≤gb275));have n7_:=Aside0.mk ((by rw [hg];exact Nat.ne_of_lt (blk_lt (g:=gb264) (o:=.cells #[.int .u32 3,.int .u64 0,.int .i64 2,.string (⟨#[]⟩ : ByteArray),.slice Ao22 y261.length co22] 28 (0,0)) (by (with_reducible repeat (first|refine blk_drewN ?_ _|refine blk_drew ?_|refine blk_alloc ?_ _));exact BK264.out)) : gb264≠gb275));have n8_:=Aside0.mk ((by rw [hg];exact Nat.ne_of_gt (blk_lt (g:=gb264) (o:=.cells #[.int .u32 3,.int .u64 0,.int .i64 2,.string (⟨#[]⟩ : ByteArray),.slice Ao22 y261.length co22] 28 (0,0)) (by (with_reducible repeat (first|refine blk_drewN ?_ _|refine blk_drew ?_|refine blk_alloc ?_ _));exact BK264.out)) : gb275≠gb264));clear HO263;clear HO273;clear BK264;clear HB;have HO263:=n0_;have HO273:=n1_;have BK264:=n2_;have HB:=n3_;have BK275:=n4_;have GW275:=n5_;have GE275:=n6_;have NB264_275:=n7_;have NB275_264:=n8_;clear n0_ n1_ n2_ n3_ n4_ n5_ n6_ n7_ n8_;clear hb hbox hg;have hnb28:=NB275_264.out;have hnc28:=NB264_275.out;have hcz29_0 : w27.cell? ⟨gb275,0,none⟩=some (.int .u32 0):=(blk_cell BK275.out 0).trans rfl;have hcz29_1 : w27.cell? ⟨gb275,1,none⟩=some (.int .u64 0):=(blk_cell BK275.out 1).trans rfl;have hcz29_2 : w27.cell? ⟨gb275,2,none⟩=some (.int .i64 0):=(blk_cell BK275.out 2).trans rfl;have hcz29_3 : w27.cell? ⟨gb275,3,none⟩=some (.string (⟨#[]⟩ : ByteArray)):=(blk_cell BK275.out 3).trans rfl;have hcz29_4 : w27.cell? ⟨gb275,4,none⟩=some (.slice none 0 0):=(blk_cell BK275.out 4).trans rfl;have hfz29_0:=blk_frozen BK275.out 0;have hfz29_1:=blk_frozen BK275.out 1;have hfz29_2:=blk_frozen BK275.out 2;have hfz29_3:=blk_frozen BK275.out 3;have hfz29_4:=blk_frozen BK275.out 4;obtain ⟨Ao30,co30,eo30⟩:=Kd.R_slice HO273.out;subst eo30;have hcz31_0 : w27.cell? ⟨gb264,0,none⟩=some (.int .u32 3):=(blk_cell BK264.out 0).trans rfl;have hcz31_1 : w27.cell? ⟨gb264,1,none⟩=some (.int .u64 0):=(blk_cell BK264.out 1).trans rfl;have hcz31_2 : w27.cell? ⟨gb264,2,none⟩=some (.int .i64 2):=(blk_cell BK264.out 2).trans rfl;have hcz31_3 : w27.cell? ⟨gb264,3,none⟩=some (.string (⟨#[]⟩ : ByteArray)):=(blk_cell BK264.out 3).trans rfl;have hcz31_4 : w27.cell? ⟨gb264,4,none⟩=some (.slice Ao22 y261.length co22):=(blk_cell BK264.out 4).trans rfl;have hfz31_0:=blk_frozen BK264.out 0;have hfz31_1:=blk_frozen BK264.out 1;have hfz31_2:=blk_frozen BK264.out 2;have hfz31_3:=blk_frozen BK264.out 3;have hfz31_4:=blk_frozen BK264.out 4)|(go_at_call 17;(with_reducible refine (page_Same.calls k 3 0 2 (⟨#[]⟩ : ByteArray) _ _ y261 t267 t268 t269 t270 _ _ t271 false _ ?side1 ?side2 ?side3 ?side4 A5.out).mono ?_);(case side1=>refine (Kd.R_reads' (e:=9) (base:=w.heap.size) (ok:=fun k_=>(True∧some k_≠(.slice Ao30 t271.length co30 : Value).ownBlock)) (n:=y261.length) (c:=co22) ?_).2.2;exact (by (with_reducible repeat (first|apply Kd.R_alloc|apply Kd.R_drewN|apply Kd.R_drew));exact (Kd.R_mono (Kd.R_far (p:=⟨gb275,4,none⟩) (Kd.R_far (p:=⟨gb275,3,none⟩) (Kd.R_far (p:=⟨gb275,2,none⟩) (Kd.R_far (p:=⟨gb275,1,none⟩) (Kd.R_far (p:=⟨gb275,0,none⟩) (Kd.R_types HO263.out BK275.out (by decide)) (fun _ hk=>hk.2) (.int .u32 t267)) (fun _ hk=>hk.2) (.int .u64 t268)) (fun _ hk=>hk.2) (.int .i64 t269)) (fun _ hk=>hk.2) (.string t270)) (fun _ hk=>hk.2) (.slice Ao30 t271.length co30)) (fun _ h_=>h_.1))));(case side2=>exact (Kd.R_reads' HO263.out).2.1);(case side3=>refine (Kd.R_reads' (e:=9) (base:=w.heap.size) (ok:=fun k_=>(True∧some k_≠(.slice Ao22 y261.length co22 : Value).ownBlock)) (n:=t271.length) (c:=co30) ?_).2.2;exact (by (with_reducible repeat (first|apply Kd.R_alloc|apply Kd.R_drewN|apply Kd.R_drew));exact (Kd.R_mono (Kd.R_far (p:=⟨gb275,4,none⟩) (Kd.R_far (p:=⟨gb275,3,none⟩) (Kd.R_far (p:=⟨gb275,2,none⟩) (Kd.R_far (p:=⟨gb275,1,none⟩) (Kd.R_far (p:=⟨gb275,0,none⟩) (Kd.R_types HO273.out BK275.out (by decide)) (fun _ hk=>hk.2) (.int .u32 t267)) (fun _ hk=>hk.2) (.int .u64 t268)) (fun _ hk=>hk.2) (.int .i64 t269)) (fun _ hk=>hk.2) (.string t270)) (fun _ hk=>hk.2) (.slice Ao30 t271.length co30)) (fun _ h_=>h_.1))));(case side4=>exact (Kd.R_reads' HO273.out).2.1);rintro e w32 ⟨rfl,hb⟩;have n0_:=Aside0.mk (Kd.R_below (by (with_reducible repeat (first|apply Kd.R_alloc|apply Kd.R_drewN|apply Kd.R_drew));exact (Kd.R_mono (Kd.R_far (p:=⟨gb275,4,none⟩) (Kd.R_far (p:=⟨gb275,3,none⟩) (Kd.R_far (p:=⟨gb275,2,none⟩) (Kd.R_far (p:=⟨gb275,1,none⟩) (Kd.R_far (p:=⟨gb275,0,none⟩) (Kd.R_types HO263.out BK275.out (by decide)) (fun _ hk=>hk.2) (.int .u32 t267)) (fun _ hk=>hk.2) (.int .u64 t268)) (fun _ hk=>hk.2) (.int .i64 t269)) (fun _ hk=>hk.2) (.string t270)) (fun _ hk=>hk.2) (.slice Ao30 t271.length co30)) (fun _ h_=>h_.1))) hb);have n1_:=Aside0.mk (Kd.R_below (by (with_reducible repeat (first|apply Kd.R_alloc|apply Kd.R_drewN|apply Kd.R_drew));exact (Kd.R_mono (Kd.R_far (p:=⟨gb275,4,none⟩) (Kd.R_far (p:=⟨gb275,3,none⟩) (Kd.R_far (p:=⟨gb275,2,none⟩) (Kd.R_far (p:=⟨gb275,1,none⟩) (Kd.R_far (p:=⟨gb275,0,none⟩) (Kd.R_types HO273.out BK275.out (by decide)) (fun _ hk=>hk.2) (.int .u32 t267)) (fun _ hk=>hk.2) (.int .u64 t268)) (fun _ hk=>hk.2) (.int .i64 t269)) (fun _ hk=>hk.2) (.string t270)) (fun _ hk=>hk.2) (.slice Ao30 t271.length co30)) (fun _ h_=>h_.1))) hb);have n2_:=Aside0.mk (blk_below (g:=gb264) (o:=.cells #[.int .u32 3,.int .u64 0,.int .i64 2,.string (⟨#[]⟩ : ByteArray),.slice Ao22 y261.length co22] 28 (0,0)) (by (with_reducible repeat (first|refine blk_drewN ?_ _|refine blk_drew ?_|refine blk_alloc ?_ _));refine blk_far ?_ NB264_275.out _;(with_reducible repeat (first|refine blk_drewN ?_ _|refine blk_drew ?_|refine blk_alloc ?_ _));refine blk_far ?_ NB264_275.out _;(with_reducible repeat (first|refine blk_drewN ?_ _|refine blk_drew ?_|refine blk_alloc ?_ _));refine blk_far ?_ NB264_275.out _;(with_reducible repeat (first|refine blk_drewN ?_ _|refine blk_drew ?_|refine blk_alloc ?_ _));refine blk_far ?_ NB264_275.out _;(with_reducible repeat (first|refine blk_drewN ?_ _|refine blk_drew ?_|refine blk_alloc ?_ _));refine blk_far ?_ NB264_275.out _;(with_reducible repeat (first|refine blk_drewN ?_ _|refine blk_drew ?_|refine blk_alloc ?_ _));exact BK264.out) hb);have n3_:=Aside0.mk (blk_below (g:=gb275) (o:=.cells #[.int .u32 t267,.int .u64 t268,.int .i64 t269,.string t270,.slice Ao30 t271.length co30] 28 (0,0)) (by (with_reducible repeat (first|refine blk_drewN ?_ _|refine blk_drew ?_|refine blk_alloc ?_ _));refine blk_put (cs:=#[.int .u32 t267,.int .u64 t268,.int .i64 t269,.string t270,.slice none 0 0]) ?_ 4 _ rfl;(with_reducible repeat (first|refine blk_drewN ?_ _|refine blk_drew ?_|refine blk_alloc ?_ _));refine blk_put (cs:=#[.int .u32 t267,.int .u64 t268,.int .i64 t269,.string (⟨#[]⟩ : ByteArray),.slice none 0 0]) ?_ 3 _ rfl;(with_reducible repeat (first|refine blk_drewN ?_ _|refine blk_drew ?_|refine blk_alloc ?_ _));refine blk_put (cs:=#[.int .u32 t267,.int .u64 t268,.int .i64 0,.string (⟨#[]⟩ : ByteArray),.slice none 0 0]) ?_ 2 _ rfl;(with_reducible repeat (first|refine blk_drewN ?_ _|refine blk_drew ?_|refine blk_alloc ?_ _));refine blk_put (cs:=#[.int .u32 t267,.int .u64 0,.int .i64 0,.string (⟨#[]⟩ : ByteArray),.slice none 0 0]) ?_ 1 _ rfl;(with_reducible repeat (first|refine blk_drewN ?_ _|refine blk_drew ?_|refine blk_alloc ?_ _));refine blk_put (cs:=#[.int .u32 0,.int .u64 0,.int .i64 0,.string (⟨#[]⟩ : ByteArray),.slice none 0 0]) ?_ 0 _ rfl;(with_reducible repeat (first|refine blk_drewN ?_ _|refine blk_drew ?_|refine blk_alloc ?_ _));exact BK275.out) hb);have n4_:=Aside0.mk (below_step (by repeat (first|(with_reducible first|exact HB.out|apply below_alloc|apply pw_below_drewN|apply below_drew1|refine below_set ?_ GE264.out|refine below_set ?_ GE275.out)|exact HB.out)) hb);clear HO263;clear HO273;clear BK264;clear BK275;clear HB;have HO263:=n0_;have HO273:=n1_;have BK264:=n2_;have BK275:=n3_;have HB:=n4_;clear n0_ n1_ n2_ n3_ n4_;(try clear hb);(try clear hb2);(try clear hk);(try clear hi)))
    go_ret
    exact ⟨by first|rfl|(simp [errW_none,errW_some] <;> rfl)|(simp [*,errW_none,errW_some] <;> rfl),by repeat (first|(with_reducible first|exact HB.out|apply below_alloc|apply pw_below_drewN|apply below_drew1|refine below_set ?_ GE264.out|refine below_set ?_ GE275.out)|exact HB.out)⟩
  ·rw [if_neg c4] at H
   have c4b0 : (t274 == 0)=false:=beq_eq_false_iff_ne.mpr c4
   have c4b1 : (t274 != 0)=true:=bne_iff_ne.mpr c4
   obtain rfl:=Option.some.inj H
   go_enter Try.func13,Try.ntmps13
   go_wp2_with (first|((with_reducible refine gate_dst (N:=6) rfl ?_);(try (refine gate_guard (by rfl) ?_;dsimp only));refine Kd.R_lit Kd.string _ 9 ?hg (N:=6) ?hd (xs:=([(⟨#[97]⟩ : ByteArray)] : List ByteArray)) (inner:=[.string (⟨#[97]⟩ : ByteArray)]) (ok:=fun _=>True) (okp:=fun _=>True) ?hr ?hp (fun _ hk=>hk) trivial (Below.refl _ _) (Nat.le_refl _) (by simp) ?_;(case hd=>rfl);(case hg=>rfl);(case hr=>first|(go_simp;done)|(go_simp;rfl));(case hp=>exact (Reps.one (show Kd.M Kd.string _ _ _ (⟨#[97]⟩ : ByteArray) [.string (⟨#[97]⟩ : ByteArray)] from rfl) (Reps.none _ _)));intro v262 w33 ho34 hb hg_ hnew_;clear hg_ hnew_;(first|rw [← Ny261.out] at ho34|(simp only [Int.reduceToNat] at ho34;rw [← Ny261.out] at ho34));have n0_:=Aside0.mk (Kd.R_lower ho34 (below_size (by repeat (first|(with_reducible first|exact HB.out|apply below_alloc|apply pw_below_drewN|apply below_drew1)|exact HB.out))));have n1_:=Aside0.mk (below_step (by repeat (first|(with_reducible first|exact HB.out|apply below_alloc|apply pw_below_drewN|apply below_drew1)|exact HB.out)) hb);clear HB;have HO263:=n0_;have HB:=n1_;clear n0_ n1_;clear hb ho34;obtain ⟨Ao35,co35,eo35⟩:=Kd.R_slice HO263.out;subst eo35)|((with_reducible refine gate_dst (N:=1) rfl ?_);(try (refine gate_guard (by rfl) ?_;dsimp only));refine box_event ?hg (N:=1) ?hd (cs:=#[.int .u32 0,.int .u64 0,.int .i64 0,.string (⟨#[]⟩ : ByteArray),.slice none 0 0]) (t:=28) ?hr ?_;(case hd=>rfl);(case hg=>rfl);(case hr=>first|(go_simp;done)|(go_simp;rfl));intro gb264 hg w36 hbox hb;have n0_:=Aside0.mk (Kd.R_below (by (with_reducible repeat (first|apply Kd.R_alloc|apply Kd.R_drewN|apply Kd.R_drew));exact HO263.out) hb);have n1_:=Aside0.mk (below_step (by repeat (first|(with_reducible first|exact HB.out|apply below_alloc|apply pw_below_drewN|apply below_drew1)|exact HB.out)) hb);have n2_:=Aside0.mk (hbox);have n3_:=Aside0.mk ((by rw [hg];exact (below_size (by repeat (first|(with_reducible first|exact HB.out|apply below_alloc|apply pw_below_drewN|apply below_drew1)|exact HB.out))) : w.heap.size≤gb264));have n4_:=Aside0.mk ((by rw [hg];exact (below_size (by repeat (first|(with_reducible first|exact HB.out|apply below_alloc|apply pw_below_drewN|apply below_drew1)|exact HB.out))) : w.heap.size≤gb264));clear HO263;clear HB;have HO263:=n0_;have HB:=n1_;have BK264:=n2_;have GW264:=n3_;have GE264:=n4_;clear n0_ n1_ n2_ n3_ n4_;clear hb hbox hg;have hcz37_0 : w36.cell? ⟨gb264,0,none⟩=some (.int .u32 0):=(blk_cell BK264.out 0).trans rfl;have hcz37_1 : w36.cell? ⟨gb264,1,none⟩=some (.int .u64 0):=(blk_cell BK264.out 1).trans rfl;have hcz37_2 : w36.cell? ⟨gb264,2,none⟩=some (.int .i64 0):=(blk_cell BK264.out 2).trans rfl;have hcz37_3 : w36.cell? ⟨gb264,3,none⟩=some (.string (⟨#[]⟩ : ByteArray)):=(blk_cell BK264.out 3).trans rfl;have hcz37_4 : w36.cell? ⟨gb264,4,none⟩=some (.slice none 0 0):=(blk_cell BK264.out 4).trans rfl;have hfz37_0:=blk_frozen BK264.out 0;have hfz37_1:=blk_frozen BK264.out 1;have hfz37_2:=blk_frozen BK264.out 2;have hfz37_3:=blk_frozen BK264.out 3;have hfz37_4:=blk_frozen BK264.out 4)|((with_reducible refine gate_callee (f:=8) rfl ?_);refine goesL_ (some 10) rfl rfl Try.func8 (by kernel_rfl) rfl #[.agg #[.int .u32 3,.int .u64 0,.int .i64 2,.string (⟨#[]⟩ : ByteArray),.slice Ao35 y261.length co35]] rfl (by (try simp only [List.map_toArray,List.map_cons,List.map_nil]);first|done|rfl|(simp only [List.length_drop,List.length_take];rfl)) ?_;(with_reducible refine (page_Encode.calls 3 0 2 (⟨#[]⟩ : ByteArray) _ _ y261 t265 t266 _ ?side1 ?side2 A1.out).mono ?_);(case side1=>refine (Kd.R_reads' (e:=9) (base:=w.heap.size) (ok:=fun k_=>True) (n:=y261.length) (c:=co35) ?_).2.2;exact (by (with_reducible repeat (first|apply Kd.R_alloc|apply Kd.R_drewN|apply Kd.R_drew));exact (Kd.R_mono (Kd.R_far (p:=⟨gb264,4,none⟩) (Kd.R_far (p:=⟨gb264,3,none⟩) (Kd.R_far (p:=⟨gb264,2,none⟩) (Kd.R_far (p:=⟨gb264,1,none⟩) (Kd.R_far (p:=⟨gb264,0,none⟩) (Kd.R_types HO263.out BK264.out (by decide)) (fun _ hk=>hk.2) (.int .u32 3)) (fun _ hk=>hk.2) (.int .u64 0)) (fun _ hk=>hk.2) (.int .i64 2)) (fun _ hk=>hk.2) (.string (⟨#[]⟩ : ByteArray))) (fun _ hk=>hk.2) (.slice Ao35 y261.length co35)) (fun _ h_=>h_.1))));(case side2=>exact (Kd.R_reads' HO263.out).2.1);rintro e w38 ⟨rfl,hb⟩;refine ⟨_,rfl,?_⟩;have n0_:=Aside0.mk (Kd.R_below (by (with_reducible repeat (first|apply Kd.R_alloc|apply Kd.R_drewN|apply Kd.R_drew));exact (Kd.R_mono (Kd.R_far (p:=⟨gb264,4,none⟩) (Kd.R_far (p:=⟨gb264,3,none⟩) (Kd.R_far (p:=⟨gb264,2,none⟩) (Kd.R_far (p:=⟨gb264,1,none⟩) (Kd.R_far (p:=⟨gb264,0,none⟩) (Kd.R_types HO263.out BK264.out (by decide)) (fun _ hk=>hk.2) (.int .u32 3)) (fun _ hk=>hk.2) (.int .u64 0)) (fun _ hk=>hk.2) (.int .i64 2)) (fun _ hk=>hk.2) (.string (⟨#[]⟩ : ByteArray))) (fun _ hk=>hk.2) (.slice Ao35 y261.length co35)) (fun _ h_=>h_.1))) hb);have n1_:=Aside0.mk (blk_below (g:=gb264) (o:=.cells #[.int .u32 3,.int .u64 0,.int .i64 2,.string (⟨#[]⟩ : ByteArray),.slice Ao35 y261.length co35] 28 (0,0)) (by (with_reducible repeat (first|refine blk_drewN ?_ _|refine blk_drew ?_|refine blk_alloc ?_ _));refine blk_put (cs:=#[.int .u32 3,.int .u64 0,.int .i64 2,.string (⟨#[]⟩ : ByteArray),.slice none 0 0]) ?_ 4 _ rfl;(with_reducible repeat (first|refine blk_drewN ?_ _|refine blk_drew ?_|refine blk_alloc ?_ _));refine blk_put (cs:=#[.int .u32 3,.int .u64 0,.int .i64 2,.string (⟨#[]⟩ : ByteArray),.slice none 0 0]) ?_ 3 _ rfl;(with_reducible repeat (first|refine blk_drewN ?_ _|refine blk_drew ?_|refine blk_alloc ?_ _));refine blk_put (cs:=#[.int .u32 3,.int .u64 0,.int .i64 0,.string (⟨#[]⟩ : ByteArray),.slice none 0 0]) ?_ 2 _ rfl;(with_reducible repeat (first|refine blk_drewN ?_ _|refine blk_drew ?_|refine blk_alloc ?_ _));refine blk_put (cs:=#[.int .u32 3,.int .u64 0,.int .i64 0,.string (⟨#[]⟩ : ByteArray),.slice none 0 0]) ?_ 1 _ rfl;(with_reducible repeat (first|refine blk_drewN ?_ _|refine blk_drew ?_|refine blk_alloc ?_ _));refine blk_put (cs:=#[.int .u32 0,.int .u64 0,.int .i64 0,.string (⟨#[]⟩ : ByteArray),.slice none 0 0]) ?_ 0 _ rfl;(with_reducible repeat (first|refine blk_drewN ?_ _|refine blk_drew ?_|refine blk_alloc ?_ _));exact BK264.out) hb);have n2_:=Aside0.mk (below_step (by repeat (first|(with_reducible first|exact HB.out|apply below_alloc|apply pw_below_drewN|apply below_drew1|refine below_set ?_ GE264.out)|exact HB.out)) hb);clear HO263;clear BK264;clear HB;have HO263:=n0_;have BK264:=n1_;have HB:=n2_;clear n0_ n1_ n2_;(try clear hb);(try clear hb2);(try clear hk);(try clear hi))|((with_reducible refine gate_callee (f:=11) rfl ?_);refine goesL_ (some 15) rfl rfl Try.func11 (by kernel_rfl) rfl #[.string t265] rfl (by (try simp only [List.map_toArray,List.map_cons,List.map_nil]);first|done|rfl|(simp only [List.length_drop,List.length_take];rfl)) ?_;(with_reducible refine (page_Decode.calls k t265 t267 t268 t269 t270 t271 t274 _ A2.out).mono ?_);rintro e w39 ⟨v272,rfl,ho0,hb⟩;refine ⟨_,rfl,?_⟩;have n0_:=Aside0.mk (Kd.R_elder' (by (with_reducible repeat (first|apply Kd.R_alloc|apply Kd.R_drewN|apply Kd.R_drew));exact HO263.out) (Kd.R_base ho0) hb);have n1_:=Aside0.mk (Kd.R_lower (Kd.R_new' ho0 (Kd.R_lt (by (with_reducible repeat (first|apply Kd.R_alloc|apply Kd.R_drewN|apply Kd.R_drew));exact HO263.out))) (below_size (by repeat (first|(with_reducible first|exact HB.out|apply below_alloc|apply pw_below_drewN|apply below_drew1|refine below_set ?_ GE264.out)|exact HB.out))));have n2_:=Aside0.mk (blk_below (g:=gb264) (o:=.cells #[.int .u32 3,.int .u64 0,.int .i64 2,.string (⟨#[]⟩ : ByteArray),.slice Ao35 y261.length co35] 28 (0,0)) (by (with_reducible repeat (first|refine blk_drewN ?_ _|refine blk_drew ?_|refine blk_alloc ?_ _));exact BK264.out) hb);have n3_:=Aside0.mk (below_step (by repeat (first|(with_reducible first|exact HB.out|apply below_alloc|apply pw_below_drewN|apply below_drew1|refine below_set ?_ GE264.out)|exact HB.out)) hb);clear HO263;clear BK264;clear HB;have HO263:=n0_;have HO273:=n1_;have BK264:=n2_;have HB:=n3_;clear n0_ n1_ n2_ n3_;(try clear hb);(try clear hb2);(try clear hk);(try clear hi);(try clear ho0))|((with_reducible refine gate_dst (N:=4) rfl ?_);(try (refine gate_guard (by rfl) ?_;dsimp only));refine box_event ?hg (N:=4) ?hd (cs:=#[.int .u32 0,.int .u64 0,.int .i64 0,.string (⟨#[]⟩ : ByteArray),.slice none 0 0]) (t:=28) ?hr ?_;(case hd=>rfl);(case hg=>rfl);(case hr=>first|(go_simp;done)|(go_simp;rfl));intro gb275 hg w40 hbox hb;have n0_:=Aside0.mk (Kd.R_below (by (with_reducible repeat (first|apply Kd.R_alloc|apply Kd.R_drewN|apply Kd.R_drew));exact HO263.out) hb);have n1_:=Aside0.mk (Kd.R_below (by (with_reducible repeat (first|apply Kd.R_alloc|apply Kd.R_drewN|apply Kd.R_drew));exact HO273.out) hb);have n2_:=Aside0.mk (blk_below (g:=gb264) (o:=.cells #[.int .u32 3,.int .u64 0,.int .i64 2,.string (⟨#[]⟩ : ByteArray),.slice Ao35 y261.length co35] 28 (0,0)) (by (with_reducible repeat (first|refine blk_drewN ?_ _|refine blk_drew ?_|refine blk_alloc ?_ _));exact BK264.out) hb);have n3_:=Aside0.mk (below_step (by repeat (first|(with_reducible first|exact HB.out|apply below_alloc|apply pw_below_drewN|apply below_drew1|refine below_set ?_ GE264.out)|exact HB.out)) hb);have n4_:=Aside0.mk (hbox);have n5_:=Aside0.mk ((by rw [hg];exact (below_size (by repeat (first|(with_reducible first|exact HB.out|apply below_alloc|apply pw_below_drewN|apply below_drew1|refine below_set ?_ GE264.out)|exact HB.out))) : w.heap.size≤gb275));have n6_:=Aside0.mk ((by rw [hg];exact (below_size (by repeat (first|(with_reducible first|exact HB.out|apply below_alloc|apply pw_below_drewN|apply below_drew1|refine below_set ?_ GE264.out)|exact HB.out))) : w.heap.size≤gb275));have n7_:=Aside0.mk ((by rw [hg];exact Nat.ne_of_lt (blk_lt (g:=gb264) (o:=.cells #[.int .u32 3,.int .u64 0,.int .i64 2,.string (⟨#[]⟩ : ByteArray),.slice Ao35 y261.length co35] 28 (0,0)) (by (with_reducible repeat (first|refine blk_drewN ?_ _|refine blk_drew ?_|refine blk_alloc ?_ _));exact BK264.out)) : gb264≠gb275));have n8_:=Aside0.mk ((by rw [hg];exact Nat.ne_of_gt (blk_lt (g:=gb264) (o:=.cells #[.int .u32 3,.int .u64 0,.int .i64 2,.string (⟨#[]⟩ : ByteArray),.slice Ao35 y261.length co35] 28 (0,0)) (by (with_reducible repeat (first|refine blk_drewN ?_ _|refine blk_drew ?_|refine blk_alloc ?_ _));exact BK264.out)) : gb275≠gb264));clear HO263;clear HO273;clear BK264;clear HB;have HO263:=n0_;have HO273:=n1_;have BK264:=n2_;have HB:=n3_;have BK275:=n4_;have GW275:=n5_;have GE275:=n6_;have NB264_275:=n7_;have NB275_264:=n8_;clear n0_ n1_ n2_ n3_ n4_ n5_ n6_ n7_ n8_;clear hb hbox hg;have hnb41:=NB275_264.out;have hnc41:=NB264_275.out;have hcz42_0 : w40.cell? ⟨gb275,0,none⟩=some (.int .u32 0):=(blk_cell BK275.out 0).trans rfl;have hcz42_1 : w40.cell? ⟨gb275,1,none⟩=some (.int .u64 0):=(blk_cell BK275.out 1).trans rfl;have hcz42_2 : w40.cell? ⟨gb275,2,none⟩=some (.int .i64 0):=(blk_cell BK275.out 2).trans rfl;have hcz42_3 : w40.cell? ⟨gb275,3,none⟩=some (.string (⟨#[]⟩ : ByteArray)):=(blk_cell BK275.out 3).trans rfl;have hcz42_4 : w40.cell? ⟨gb275,4,none⟩=some (.slice none 0 0):=(blk_cell BK275.out 4).trans rfl;have hfz42_0:=blk_frozen BK275.out 0;have hfz42_1:=blk_frozen BK275.out 1;have hfz42_2:=blk_frozen BK275.out 2;have hfz42_3:=blk_frozen BK275.out 3;have hfz42_4:=blk_frozen BK275.out 4;obtain ⟨Ao43,co43,eo43⟩:=Kd.R_slice HO273.out;subst eo43))
   go_ret
   exact ⟨by first|rfl|(simp [errW_none,errW_some] <;> rfl)|(simp [*,errW_none,errW_some] <;> rfl),by repeat (first|(with_reducible first|exact HB.out|apply below_alloc|apply pw_below_drewN|apply below_drew1|refine below_set ?_ GE264.out|refine below_set ?_ GE275.out)|exact HB.out)⟩
 ·rw [if_neg c3] at H
  have c3b0 : (t266 == 0)=false:=beq_eq_false_iff_ne.mpr c3
  have c3b1 : (t266 != 0)=true:=bne_iff_ne.mpr c3
  obtain rfl:=Option.some.inj H
  go_enter Try.func13,Try.ntmps13
  go_wp2_with (first|((with_reducible refine gate_dst (N:=6) rfl ?_);(try (refine gate_guard (by rfl) ?_;dsimp only));refine Kd.R_lit Kd.string _ 9 ?hg (N:=6) ?hd (xs:=([(⟨#[97]⟩ : ByteArray)] : List ByteArray)) (inner:=[.string (⟨#[97]⟩ : ByteArray)]) (ok:=fun _=>True) (okp:=fun _=>True) ?hr ?hp (fun _ hk=>hk) trivial (Below.refl _ _) (Nat.le_refl _) (by simp) ?_;(case hd=>rfl);(case hg=>rfl);(case hr=>first|(go_simp;done)|(go_simp;rfl));(case hp=>exact (Reps.one (show Kd.M Kd.string _ _ _ (⟨#[97]⟩ : ByteArray) [.string (⟨#[97]⟩ : ByteArray)] from rfl) (Reps.none _ _)));intro v262 w44 ho45 hb hg_ hnew_;clear hg_ hnew_;(first|rw [← Ny261.out] at ho45|(simp only [Int.reduceToNat] at ho45;rw [← Ny261.out] at ho45));have n0_:=Aside0.mk (Kd.R_lower ho45 (below_size (by repeat (first|(with_reducible first|exact HB.out|apply below_alloc|apply pw_below_drewN|apply below_drew1)|exact HB.out))));have n1_:=Aside0.mk (below_step (by repeat (first|(with_reducible first|exact HB.out|apply below_alloc|apply pw_below_drewN|apply below_drew1)|exact HB.out)) hb);clear HB;have HO263:=n0_;have HB:=n1_;clear n0_ n1_;clear hb ho45;obtain ⟨Ao46,co46,eo46⟩:=Kd.R_slice HO263.out;subst eo46)|((with_reducible refine gate_dst (N:=1) rfl ?_);(try (refine gate_guard (by rfl) ?_;dsimp only));refine box_event ?hg (N:=1) ?hd (cs:=#[.int .u32 0,.int .u64 0,.int .i64 0,.string (⟨#[]⟩ : ByteArray),.slice none 0 0]) (t:=28) ?hr ?_;(case hd=>rfl);(case hg=>rfl);(case hr=>first|(go_simp;done)|(go_simp;rfl));intro gb264 hg w47 hbox hb;have n0_:=Aside0.mk (Kd.R_below (by (with_reducible repeat (first|apply Kd.R_alloc|apply Kd.R_drewN|apply Kd.R_drew));exact HO263.out) hb);have n1_:=Aside0.mk (below_step (by repeat (first|(with_reducible first|exact HB.out|apply below_alloc|apply pw_below_drewN|apply below_drew1)|exact HB.out)) hb);have n2_:=Aside0.mk (hbox);have n3_:=Aside0.mk ((by rw [hg];exact (below_size (by repeat (first|(with_reducible first|exact HB.out|apply below_alloc|apply pw_below_drewN|apply below_drew1)|exact HB.out))) : w.heap.size≤gb264));have n4_:=Aside0.mk ((by rw [hg];exact (below_size (by repeat (first|(with_reducible first|exact HB.out|apply below_alloc|apply pw_below_drewN|apply below_drew1)|exact HB.out))) : w.heap.size≤gb264));clear HO263;clear HB;have HO263:=n0_;have HB:=n1_;have BK264:=n2_;have GW264:=n3_;have GE264:=n4_;clear n0_ n1_ n2_ n3_ n4_;clear hb hbox hg;have hcz48_0 : w47.cell? ⟨gb264,0,none⟩=some (.int .u32 0):=(blk_cell BK264.out 0).trans rfl;have hcz48_1 : w47.cell? ⟨gb264,1,none⟩=some (.int .u64 0):=(blk_cell BK264.out 1).trans rfl;have hcz48_2 : w47.cell? ⟨gb264,2,none⟩=some (.int .i64 0):=(blk_cell BK264.out 2).trans rfl;have hcz48_3 : w47.cell? ⟨gb264,3,none⟩=some (.string (⟨#[]⟩ : ByteArray)):=(blk_cell BK264.out 3).trans rfl;have hcz48_4 : w47.cell? ⟨gb264,4,none⟩=some (.slice none 0 0):=(blk_cell BK264.out 4).trans rfl;have hfz48_0:=blk_frozen BK264.out 0;have hfz48_1:=blk_frozen BK264.out 1;have hfz48_2:=blk_frozen BK264.out 2;have hfz48_3:=blk_frozen BK264.out 3;have hfz48_4:=blk_frozen BK264.out 4)|((with_reducible refine gate_callee (f:=8) rfl ?_);refine goesL_ (some 10) rfl rfl Try.func8 (by kernel_rfl) rfl #[.agg #[.int .u32 3,.int .u64 0,.int .i64 2,.string (⟨#[]⟩ : ByteArray),.slice Ao46 y261.length co46]] rfl (by (try simp only [List.map_toArray,List.map_cons,List.map_nil]);first|done|rfl|(simp only [List.length_drop,List.length_take];rfl)) ?_;(with_reducible refine (page_Encode.calls 3 0 2 (⟨#[]⟩ : ByteArray) _ _ y261 t265 t266 _ ?side1 ?side2 A1.out).mono ?_);(case side1=>refine (Kd.R_reads' (e:=9) (base:=w.heap.size) (ok:=fun k_=>True) (n:=y261.length) (c:=co46) ?_).2.2;exact (by (with_reducible repeat (first|apply Kd.R_alloc|apply Kd.R_drewN|apply Kd.R_drew));exact (Kd.R_mono (Kd.R_far (p:=⟨gb264,4,none⟩) (Kd.R_far (p:=⟨gb264,3,none⟩) (Kd.R_far (p:=⟨gb264,2,none⟩) (Kd.R_far (p:=⟨gb264,1,none⟩) (Kd.R_far (p:=⟨gb264,0,none⟩) (Kd.R_types HO263.out BK264.out (by decide)) (fun _ hk=>hk.2) (.int .u32 3)) (fun _ hk=>hk.2) (.int .u64 0)) (fun _ hk=>hk.2) (.int .i64 2)) (fun _ hk=>hk.2) (.string (⟨#[]⟩ : ByteArray))) (fun _ hk=>hk.2) (.slice Ao46 y261.length co46)) (fun _ h_=>h_.1))));(case side2=>exact (Kd.R_reads' HO263.out).2.1);rintro e w49 ⟨rfl,hb⟩;refine ⟨_,rfl,?_⟩;have n0_:=Aside0.mk (Kd.R_below (by (with_reducible repeat (first|apply Kd.R_alloc|apply Kd.R_drewN|apply Kd.R_drew));exact (Kd.R_mono (Kd.R_far (p:=⟨gb264,4,none⟩) (Kd.R_far (p:=⟨gb264,3,none⟩) (Kd.R_far (p:=⟨gb264,2,none⟩) (Kd.R_far (p:=⟨gb264,1,none⟩) (Kd.R_far (p:=⟨gb264,0,none⟩) (Kd.R_types HO263.out BK264.out (by decide)) (fun _ hk=>hk.2) (.int .u32 3)) (fun _ hk=>hk.2) (.int .u64 0)) (fun _ hk=>hk.2) (.int .i64 2)) (fun _ hk=>hk.2) (.string (⟨#[]⟩ : ByteArray))) (fun _ hk=>hk.2) (.slice Ao46 y261.length co46)) (fun _ h_=>h_.1))) hb);have n1_:=Aside0.mk (blk_below (g:=gb264) (o:=.cells #[.int .u32 3,.int .u64 0,.int .i64 2,.string (⟨#[]⟩ : ByteArray),.slice Ao46 y261.length co46] 28 (0,0)) (by (with_reducible repeat (first|refine blk_drewN ?_ _|refine blk_drew ?_|refine blk_alloc ?_ _));refine blk_put (cs:=#[.int .u32 3,.int .u64 0,.int .i64 2,.string (⟨#[]⟩ : ByteArray),.slice none 0 0]) ?_ 4 _ rfl;(with_reducible repeat (first|refine blk_drewN ?_ _|refine blk_drew ?_|refine blk_alloc ?_ _));refine blk_put (cs:=#[.int .u32 3,.int .u64 0,.int .i64 2,.string (⟨#[]⟩ : ByteArray),.slice none 0 0]) ?_ 3 _ rfl;(with_reducible repeat (first|refine blk_drewN ?_ _|refine blk_drew ?_|refine blk_alloc ?_ _));refine blk_put (cs:=#[.int .u32 3,.int .u64 0,.int .i64 0,.string (⟨#[]⟩ : ByteArray),.slice none 0 0]) ?_ 2 _ rfl;(with_reducible repeat (first|refine blk_drewN ?_ _|refine blk_drew ?_|refine blk_alloc ?_ _));refine blk_put (cs:=#[.int .u32 3,.int .u64 0,.int .i64 0,.string (⟨#[]⟩ : ByteArray),.slice none 0 0]) ?_ 1 _ rfl;(with_reducible repeat (first|refine blk_drewN ?_ _|refine blk_drew ?_|refine blk_alloc ?_ _));refine blk_put (cs:=#[.int .u32 0,.int .u64 0,.int .i64 0,.string (⟨#[]⟩ : ByteArray),.slice none 0 0]) ?_ 0 _ rfl;(with_reducible repeat (first|refine blk_drewN ?_ _|refine blk_drew ?_|refine blk_alloc ?_ _));exact BK264.out) hb);have n2_:=Aside0.mk (below_step (by repeat (first|(with_reducible first|exact HB.out|apply below_alloc|apply pw_below_drewN|apply below_drew1|refine below_set ?_ GE264.out)|exact HB.out)) hb);clear HO263;clear BK264;clear HB;have HO263:=n0_;have BK264:=n1_;have HB:=n2_;clear n0_ n1_ n2_;(try clear hb);(try clear hb2);(try clear hk);(try clear hi))|((with_reducible refine gate_callee (f:=11) rfl ?_);refine goesL_ (some 15) rfl rfl Try.func11 (by kernel_rfl) rfl #[.string t265] rfl (by (try simp only [List.map_toArray,List.map_cons,List.map_nil]);first|done|rfl|(simp only [List.length_drop,List.length_take];rfl)) ?_;(with_reducible refine (page_Decode.calls k t265 t267 t268 t269 t270 t271 t274 _ A2.out).mono ?_);rintro e w50 ⟨v272,rfl,ho0,hb⟩;refine ⟨_,rfl,?_⟩;have n0_:=Aside0.mk (Kd.R_elder' (by (with_reducible repeat (first|apply Kd.R_alloc|apply Kd.R_drewN|apply Kd.R_drew));exact HO263.out) (Kd.R_base ho0) hb);have n1_:=Aside0.mk (Kd.R_lower (Kd.R_new' ho0 (Kd.R_lt (by (with_reducible repeat (first|apply Kd.R_alloc|apply Kd.R_drewN|apply Kd.R_drew));exact HO263.out))) (below_size (by repeat (first|(with_reducible first|exact HB.out|apply below_alloc|apply pw_below_drewN|apply below_drew1|refine below_set ?_ GE264.out)|exact HB.out))));have n2_:=Aside0.mk (blk_below (g:=gb264) (o:=.cells #[.int .u32 3,.int .u64 0,.int .i64 2,.string (⟨#[]⟩ : ByteArray),.slice Ao46 y261.length co46] 28 (0,0)) (by (with_reducible repeat (first|refine blk_drewN ?_ _|refine blk_drew ?_|refine blk_alloc ?_ _));exact BK264.out) hb);have n3_:=Aside0.mk (below_step (by repeat (first|(with_reducible first|exact HB.out|apply below_alloc|apply pw_below_drewN|apply below_drew1|refine below_set ?_ GE264.out)|exact HB.out)) hb);clear HO263;clear BK264;clear HB;have HO263:=n0_;have HO273:=n1_;have BK264:=n2_;have HB:=n3_;clear n0_ n1_ n2_ n3_;(try clear hb);(try clear hb2);(try clear hk);(try clear hi);(try clear ho0))|((with_reducible refine gate_dst (N:=4) rfl ?_);(try (refine gate_guard (by rfl) ?_;dsimp only));refine box_event ?hg (N:=4) ?hd (cs:=#[.int .u32 0,.int .u64 0,.int .i64 0,.string (⟨#[]⟩ : ByteArray),.slice none 0 0]) (t:=28) ?hr ?_;(case hd=>rfl);(case hg=>rfl);(case hr=>first|(go_simp;done)|(go_simp;rfl));intro gb275 hg w51 hbox hb;have n0_:=Aside0.mk (Kd.R_below (by (with_reducible repeat (first|apply Kd.R_alloc|apply Kd.R_drewN|apply Kd.R_drew));exact HO263.out) hb);have n1_:=Aside0.mk (Kd.R_below (by (with_reducible repeat (first|apply Kd.R_alloc|apply Kd.R_drewN|apply Kd.R_drew));exact HO273.out) hb);have n2_:=Aside0.mk (blk_below (g:=gb264) (o:=.cells #[.int .u32 3,.int .u64 0,.int .i64 2,.string (⟨#[]⟩ : ByteArray),.slice Ao46 y261.length co46] 28 (0,0)) (by (with_reducible repeat (first|refine blk_drewN ?_ _|refine blk_drew ?_|refine blk_alloc ?_ _));exact BK264.out) hb);have n3_:=Aside0.mk (below_step (by repeat (first|(with_reducible first|exact HB.out|apply below_alloc|apply pw_below_drewN|apply below_drew1|refine below_set ?_ GE264.out)|exact HB.out)) hb);have n4_:=Aside0.mk (hbox);have n5_:=Aside0.mk ((by rw [hg];exact (below_size (by repeat (first|(with_reducible first|exact HB.out|apply below_alloc|apply pw_below_drewN|apply below_drew1|refine below_set ?_ GE264.out)|exact HB.out))) : w.heap.size≤gb275));have n6_:=Aside0.mk ((by rw [hg];exact (below_size (by repeat (first|(with_reducible first|exact HB.out|apply below_alloc|apply pw_below_drewN|apply below_drew1|refine below_set ?_ GE264.out)|exact HB.out))) : w.heap.size≤gb275));have n7_:=Aside0.mk ((by rw [hg];exact Nat.ne_of_lt (blk_lt (g:=gb264) (o:=.cells #[.int .u32 3,.int .u64 0,.int .i64 2,.string (⟨#[]⟩ : ByteArray),.slice Ao46 y261.length co46] 28 (0,0)) (by (with_reducible repeat (first|refine blk_drewN ?_ _|refine blk_drew ?_|refine blk_alloc ?_ _));exact BK264.out)) : gb264≠gb275));have n8_:=Aside0.mk ((by rw [hg];exact Nat.ne_of_gt (blk_lt (g:=gb264) (o:=.cells #[.int .u32 3,.int .u64 0,.int .i64 2,.string (⟨#[]⟩ : ByteArray),.slice Ao46 y261.length co46] 28 (0,0)) (by (with_reducible repeat (first|refine blk_drewN ?_ _|refine blk_drew ?_|refine blk_alloc ?_ _));exact BK264.out)) : gb275≠gb264));clear HO263;clear HO273;clear BK264;clear HB;have HO263:=n0_;have HO273:=n1_;have BK264:=n2_;have HB:=n3_;have BK275:=n4_;have GW275:=n5_;have GE275:=n6_;have NB264_275:=n7_;have NB275_264:=n8_;clear n0_ n1_ n2_ n3_ n4_ n5_ n6_ n7_ n8_;clear hb hbox hg;have hnb52:=NB275_264.out;have hnc52:=NB264_275.out;have hcz53_0 : w51.cell? ⟨gb275,0,none⟩=some (.int .u32 0):=(blk_cell BK275.out 0).trans rfl;have hcz53_1 : w51.cell? ⟨gb275,1,none⟩=some (.int .u64 0):=(blk_cell BK275.out 1).trans rfl;have hcz53_2 : w51.cell? ⟨gb275,2,none⟩=some (.int .i64 0):=(blk_cell BK275.out 2).trans rfl;have hcz53_3 : w51.cell? ⟨gb275,3,none⟩=some (.string (⟨#[]⟩ : ByteArray)):=(blk_cell BK275.out 3).trans rfl;have hcz53_4 : w51.cell? ⟨gb275,4,none⟩=some (.slice none 0 0):=(blk_cell BK275.out 4).trans rfl;have hfz53_0:=blk_frozen BK275.out 0;have hfz53_1:=blk_frozen BK275.out 1;have hfz53_2:=blk_frozen BK275.out 2;have hfz53_3:=blk_frozen BK275.out 3;have hfz53_4:=blk_frozen BK275.out 4;obtain ⟨Ao54,co54,eo54⟩:=Kd.R_slice HO273.out;subst eo54))
  go_ret
  exact ⟨by first|rfl|(simp [errW_none,errW_some] <;> rfl)|(simp [*,errW_none,errW_some] <;> rfl),by repeat (first|(with_reducible first|exact HB.out|apply below_alloc|apply pw_below_drewN|apply below_drew1|refine below_set ?_ GE264.out|refine below_set ?_ GE275.out)|exact HB.out)⟩
end Go.Proofs.Yteokjmjfjdgmpaa.PPg
end
section
namespace Go.Proofs.Yteokjmjfjdgmpaa.PPg
open Go.RowKit Go.Proofs.YteokjmjfjdgmpaaW.PrintWords Go.Proofs.YteokjmjfjdgmpaaW.PrintLast Go.Proofs.YteokjmjfjdgmpaaW.PrintMore
attribute [local go_sem] max2_int min2_int max_two min_two max_three min_three max_four min_four
set_option linter.unusedVariables false
set_option linter.unusedSimpArgs false
def girderlaw03_ref.f (a0_0 : Int) (a0_1 : Int) (a0_2 : Int) (a0_3 : ByteArray) (l0_4 : List ByteArray) : Option (Int × Int × Int × ByteArray × List ByteArray):=some (a0_0,a0_1,a0_2,a0_3,l0_4)
set_option maxHeartbeats 8000000 in
set_option maxRecDepth 100000 in
theorem girderlaw03_ref.calls (a0_0 : Int) (a0_1 : Int) (a0_2 : Int) (a0_3 : ByteArray) (P0_4_ : Nat → Prop) (A0_4 : Option Addr) (c0_4 : Nat) (l0_4 : List ByteArray) (r1 : Int) (r2 : Int) (r3 : Int) (r4 : ByteArray) (r5 : List ByteArray) (w : World) (hs0_4 : Kd.V Kd.string 9 w w.heap.size (fun k_=>P0_4_ k_) (.slice A0_4 l0_4.length c0_4) l0_4) (h : girderlaw03_ref.f a0_0 a0_1 a0_2 a0_3 l0_4=some (r1,r2,r3,r4,r5)) :
  Calls Try.prog 10 #[.agg #[.int .u32 a0_0,.int .u64 a0_1,.int .i64 a0_2,.string a0_3,.slice A0_4 l0_4.length c0_4]] w fun e w'=>∃ v4_ : Value,e=.returned (.agg #[.int .u32 r1,.int .u64 r2,.int .i64 r3,.string r4,v4_])∧Kd.V Kd.string 9 w' w.heap.size (fun k_=>(P0_4_ k_ ∨ w.heap.size≤k_)) v4_ r5∧Below w.heap.size w w':=by
 have hu28:=Try.underlying28
 have hu35:=Try.underlying35
 have HO0_4:=Aside0.mk (show Kd.V Kd.string 9 w w.heap.size (fun k_=>(P0_4_ k_ ∨ w.heap.size≤k_)) (.slice A0_4 l0_4.length c0_4) l0_4 from Kd.V_mono hs0_4 (fun k_ hk=>.inl hk))
 have HB:=Aside0.mk (Below.refl w.heap.size w)
 have H : (some (a0_0,a0_1,a0_2,a0_3,l0_4))=some (r1,r2,r3,r4,r5):=h
 clear h
 simp only [Option.some.injEq,Prod.mk.injEq] at H
 obtain ⟨rfl,rfl,rfl,rfl,rfl⟩:=H
 go_enter Try.func10,Try.ntmps10
 go_wp2_with (first|((with_reducible refine gate_dst (N:=1) rfl ?_);refine box_event ?hg (N:=1) ?hd (cs:=#[.int .u32 a0_0,.int .u64 a0_1,.int .i64 a0_2,.string a0_3,.slice A0_4 l0_4.length c0_4]) (t:=28) ?hr ?_;(case hd=>rfl);(case hg=>rfl);(case hr=>first|(go_simp;done)|(go_simp;rfl));intro gb294 hg w2 hbox hb;have n0_:=Aside0.mk (Kd.V_below (Kd.V_elderB (by (with_reducible repeat (first|apply Kd.V_alloc|apply Kd.V_drewN|apply Kd.V_drew));exact HO0_4.out) gb294 (Nat.le_of_eq hg.symm)) hb);have n1_:=Aside0.mk (below_step (by repeat (first|(with_reducible first|exact HB.out|apply below_alloc|apply pw_below_drewN|apply below_drew1)|exact HB.out)) hb);have n2_:=Aside0.mk (hbox);have n3_:=Aside0.mk ((by rw [hg];exact (below_size (by repeat (first|(with_reducible first|exact HB.out|apply below_alloc|apply pw_below_drewN|apply below_drew1)|exact HB.out))) : w.heap.size≤gb294));have n4_:=Aside0.mk ((by rw [hg];exact (below_size (by repeat (first|(with_reducible first|exact HB.out|apply below_alloc|apply pw_below_drewN|apply below_drew1)|exact HB.out))) : w.heap.size≤gb294));clear HO0_4;clear HB;have HO0_4:=n0_;have HB:=n1_;have BK294:=n2_;have GW294:=n3_;have GE294:=n4_;clear n0_ n1_ n2_ n3_ n4_;clear hb hbox hg)|((with_reducible refine gate_dst (N:=2) rfl ?_);refine box_event ?hg (N:=2) ?hd (cs:=#[.int .u32 0,.int .u64 0,.int .i64 0,.string (⟨#[]⟩ : ByteArray),.slice none 0 0]) (t:=35) ?hr ?_;(case hd=>rfl);(case hg=>rfl);(case hr=>first|(go_simp;done)|(go_simp;rfl));intro gb295 hg w3 hbox hb;have n0_:=Aside0.mk (Kd.V_below (Kd.V_elderB (by (with_reducible repeat (first|apply Kd.V_alloc|apply Kd.V_drewN|apply Kd.V_drew));exact HO0_4.out) gb295 (Nat.le_of_eq hg.symm)) hb);have n1_:=Aside0.mk (blk_below (g:=gb294) (o:=.cells #[.int .u32 a0_0,.int .u64 a0_1,.int .i64 a0_2,.string a0_3,.slice A0_4 l0_4.length c0_4] 28 (0,0)) (by (with_reducible repeat (first|refine blk_drewN ?_ _|refine blk_drew ?_|refine blk_alloc ?_ _));exact BK294.out) hb);have n2_:=Aside0.mk (below_step (by repeat (first|(with_reducible first|exact HB.out|apply below_alloc|apply pw_below_drewN|apply below_drew1|refine below_set ?_ GE294.out)|exact HB.out)) hb);have n3_:=Aside0.mk (hbox);have n4_:=Aside0.mk ((by rw [hg];exact (below_size (by repeat (first|(with_reducible first|exact HB.out|apply below_alloc|apply pw_below_drewN|apply below_drew1|refine below_set ?_ GE294.out)|exact HB.out))) : w.heap.size≤gb295));have n5_:=Aside0.mk ((by rw [hg];exact (below_size (by repeat (first|(with_reducible first|exact HB.out|apply below_alloc|apply pw_below_drewN|apply below_drew1|refine below_set ?_ GE294.out)|exact HB.out))) : w.heap.size≤gb295));have n6_:=Aside0.mk ((by rw [hg];exact Nat.ne_of_lt (blk_lt (g:=gb294) (o:=.cells #[.int .u32 a0_0,.int .u64 a0_1,.int .i64 a0_2,.string a0_3,.slice A0_4 l0_4.length c0_4] 28 (0,0)) (by (with_reducible repeat (first|refine blk_drewN ?_ _|refine blk_drew ?_|refine blk_alloc ?_ _));exact BK294.out)) : gb294≠gb295));have n7_:=Aside0.mk ((by rw [hg];exact Nat.ne_of_gt (blk_lt (g:=gb294) (o:=.cells #[.int .u32 a0_0,.int .u64 a0_1,.int .i64 a0_2,.string a0_3,.slice A0_4 l0_4.length c0_4] 28 (0,0)) (by (with_reducible repeat (first|refine blk_drewN ?_ _|refine blk_drew ?_|refine blk_alloc ?_ _));exact BK294.out)) : gb295≠gb294));clear HO0_4;clear BK294;clear HB;have HO0_4:=n0_;have BK294:=n1_;have HB:=n2_;have BK295:=n3_;have GW295:=n4_;have GE295:=n5_;have NB294_295:=n6_;have NB295_294:=n7_;clear n0_ n1_ n2_ n3_ n4_ n5_ n6_ n7_;clear hb hbox hg;have hnb4:=NB294_295.out;have hnc4:=NB295_294.out;have hcz5_0 : w3.cell? ⟨gb294,0,none⟩=some (.int .u32 a0_0):=(blk_cell BK294.out 0).trans rfl;have hcz5_1 : w3.cell? ⟨gb294,1,none⟩=some (.int .u64 a0_1):=(blk_cell BK294.out 1).trans rfl;have hcz5_2 : w3.cell? ⟨gb294,2,none⟩=some (.int .i64 a0_2):=(blk_cell BK294.out 2).trans rfl;have hcz5_3 : w3.cell? ⟨gb294,3,none⟩=some (.string a0_3):=(blk_cell BK294.out 3).trans rfl;have hcz5_4 : w3.cell? ⟨gb294,4,none⟩=some (.slice A0_4 l0_4.length c0_4):=(blk_cell BK294.out 4).trans rfl;have hfz5_0:=blk_frozen BK294.out 0;have hfz5_1:=blk_frozen BK294.out 1;have hfz5_2:=blk_frozen BK294.out 2;have hfz5_3:=blk_frozen BK294.out 3;have hfz5_4:=blk_frozen BK294.out 4;have hcz6_0 : w3.cell? ⟨gb295,0,none⟩=some (.int .u32 0):=(blk_cell BK295.out 0).trans rfl;have hcz6_1 : w3.cell? ⟨gb295,1,none⟩=some (.int .u64 0):=(blk_cell BK295.out 1).trans rfl;have hcz6_2 : w3.cell? ⟨gb295,2,none⟩=some (.int .i64 0):=(blk_cell BK295.out 2).trans rfl;have hcz6_3 : w3.cell? ⟨gb295,3,none⟩=some (.string (⟨#[]⟩ : ByteArray)):=(blk_cell BK295.out 3).trans rfl;have hcz6_4 : w3.cell? ⟨gb295,4,none⟩=some (.slice none 0 0):=(blk_cell BK295.out 4).trans rfl;have hfz6_0:=blk_frozen BK295.out 0;have hfz6_1:=blk_frozen BK295.out 1;have hfz6_2:=blk_frozen BK295.out 2;have hfz6_3:=blk_frozen BK295.out 3;have hfz6_4:=blk_frozen BK295.out 4))
 refine bodyPost_ret (results_cell_row rfl _ _ gb295 35 #[.int .u32 a0_0,.int .u64 a0_1,.int .i64 a0_2,.string a0_3,.slice A0_4 l0_4.length c0_4] (0,0) _ rfl (by (with_reducible repeat (first|refine blk_drewN ?_ _|refine blk_drew ?_|refine blk_alloc ?_ _));refine blk_put (cs:=#[.int .u32 a0_0,.int .u64 a0_1,.int .i64 a0_2,.string a0_3,.slice none 0 0]) ?_ 4 _ rfl;(with_reducible repeat (first|refine blk_drewN ?_ _|refine blk_drew ?_|refine blk_alloc ?_ _));refine blk_put (cs:=#[.int .u32 a0_0,.int .u64 a0_1,.int .i64 a0_2,.string (⟨#[]⟩ : ByteArray),.slice none 0 0]) ?_ 3 _ rfl;(with_reducible repeat (first|refine blk_drewN ?_ _|refine blk_drew ?_|refine blk_alloc ?_ _));refine blk_put (cs:=#[.int .u32 a0_0,.int .u64 a0_1,.int .i64 0,.string (⟨#[]⟩ : ByteArray),.slice none 0 0]) ?_ 2 _ rfl;(with_reducible repeat (first|refine blk_drewN ?_ _|refine blk_drew ?_|refine blk_alloc ?_ _));refine blk_put (cs:=#[.int .u32 a0_0,.int .u64 0,.int .i64 0,.string (⟨#[]⟩ : ByteArray),.slice none 0 0]) ?_ 1 _ rfl;(with_reducible repeat (first|refine blk_drewN ?_ _|refine blk_drew ?_|refine blk_alloc ?_ _));refine blk_put (cs:=#[.int .u32 0,.int .u64 0,.int .i64 0,.string (⟨#[]⟩ : ByteArray),.slice none 0 0]) ?_ 0 _ rfl;(with_reducible repeat (first|refine blk_drewN ?_ _|refine blk_drew ?_|refine blk_alloc ?_ _));exact BK295.out) Try.underlying35 rfl (by kernel_rfl)) rfl ?_
 exact ⟨_,by first|rfl|(simp [errW_none,errW_some] <;> rfl)|(simp [*,errW_none,errW_some] <;> rfl),by (with_reducible repeat (first|apply Kd.V_alloc|apply Kd.V_drewN|apply Kd.V_drew));exact Kd.V_mono (Kd.V_far (p:=⟨gb295,4,none⟩) (Kd.V_far (p:=⟨gb295,3,none⟩) (Kd.V_far (p:=⟨gb295,2,none⟩) (Kd.V_far (p:=⟨gb295,1,none⟩) (Kd.V_far (p:=⟨gb295,0,none⟩) (Kd.V_mono HO0_4.out (fun k_ hk=>(⟨hk,hk.2⟩ : _∧k_≠gb295))) (fun _ hk=>hk.2) (.int .u32 a0_0)) (fun _ hk=>hk.2) (.int .u64 a0_1)) (fun _ hk=>hk.2) (.int .i64 a0_2)) (fun _ hk=>hk.2) (.string a0_3)) (fun _ hk=>hk.2) (.slice A0_4 l0_4.length c0_4)) (fun _ hk=>hk.1.1.1),by repeat (first|(with_reducible first|exact HB.out|apply below_alloc|apply pw_below_drewN|apply below_drew1|refine below_set ?_ GE294.out|refine below_set ?_ GE295.out)|exact HB.out)⟩
end Go.Proofs.Yteokjmjfjdgmpaa.PPg
end
section
namespace Go.Proofs.Yteokjmjfjdgmpaa.PPg
open Go.RowKit Go.Proofs.YteokjmjfjdgmpaaW.PrintWords Go.Proofs.YteokjmjfjdgmpaaW.PrintLast Go.Proofs.YteokjmjfjdgmpaaW.PrintMore
attribute [local go_sem] max2_int min2_int max_two min_two max_three min_three max_four min_four
set_option linter.unusedVariables false
set_option linter.unusedSimpArgs false
def girderlaw03_same.f (k : Nat) (a0_0 : Int) (a0_1 : Int) (a0_2 : Int) (a0_3 : ByteArray) (l0_4 : List ByteArray) (a1_0 : Int) (a1_1 : Int) (a1_2 : Int) (a1_3 : ByteArray) (l1_4 : List ByteArray) : Option (Bool):=if a0_1=a1_1 then ((girderlaw03_ref.f a0_0 a0_1 a0_2 a0_3 l0_4).bind fun bt298=>((girderref03_Same.f k bt298.1 bt298.2.1 bt298.2.2.1 bt298.2.2.2.1 bt298.2.2.2.2 a1_0 a1_1 a1_2 a1_3 l1_4).bind fun t305=>(some t305))) else (some false)
def girderlaw03_same.T1 : Bool × List (List Nat × List Nat):=(true,[([],[]),([0],[0]),([],[]),([2],[2]),([1,3],[1,3]),([4],[4]),([5],[5]),([6,5,5],[5,6]),([5],[5]),([7,8,7,5],[5,7,8]),([5,9],[5,9]),([10,9,0,1,2,3,4,5,6,7,8,9,10],[10])])
def girderlaw03_same.B1 : List Nat:=[0,1,0,4,15,31,63,127,63,511,1023,2047]
theorem girderlaw03_same.tab1 : rtab .any (opsOf Try.f16 1)=girderlaw03_same.T1:=by kernel_rfl
theorem girderlaw03_same.bits1 : waitsOk girderlaw03_same.T1.2 girderlaw03_same.B1=true:=by kernel_rfl
set_option maxHeartbeats 8000000 in
set_option maxRecDepth 100000 in
theorem girderlaw03_same.calls (k : Nat) (a0_0 : Int) (a0_1 : Int) (a0_2 : Int) (a0_3 : ByteArray) (A0_4 : Option Addr) (c0_4 : Nat) (l0_4 : List ByteArray) (a1_0 : Int) (a1_1 : Int) (a1_2 : Int) (a1_3 : ByteArray) (A1_4 : Option Addr) (c1_4 : Nat) (l1_4 : List ByteArray) (r : Bool) (w : World) (hr0_4 : Kd.C Kd.string w A0_4 l0_4.length l0_4) (hc0_4 : l0_4.length≤c0_4) (hr1_4 : Kd.C Kd.string w A1_4 l1_4.length l1_4) (hc1_4 : l1_4.length≤c1_4) (h : girderlaw03_same.f k a0_0 a0_1 a0_2 a0_3 l0_4 a1_0 a1_1 a1_2 a1_3 l1_4=some r) :
  Calls Try.prog 16 #[.agg #[.int .u32 a0_0,.int .u64 a0_1,.int .i64 a0_2,.string a0_3,.slice A0_4 l0_4.length c0_4],.agg #[.int .u32 a1_0,.int .u64 a1_1,.int .i64 a1_2,.string a1_3,.slice A1_4 l1_4.length c1_4]] w fun e w'=>e=.returned (.bool r)∧Below w.heap.size w w':=by
 have hu28:=Try.underlying28
 have hu35:=Try.underlying35
 have HR0_4:=Aside0.mk hr0_4
 have HC0_4:=Aside0.mk hc0_4
 clear hr0_4 hc0_4
 have HR1_4:=Aside0.mk hr1_4
 have HC1_4:=Aside0.mk hc1_4
 clear hr1_4 hc1_4
 have HB:=Aside0.mk (Below.refl w.heap.size w)
 have H : (if a0_1=a1_1 then ((girderlaw03_ref.f a0_0 a0_1 a0_2 a0_3 l0_4).bind fun bt298=>((girderref03_Same.f k bt298.1 bt298.2.1 bt298.2.2.1 bt298.2.2.2.1 bt298.2.2.2.2 a1_0 a1_1 a1_2 a1_3 l1_4).bind fun t305=>(some t305))) else (some false))=some r:=h
 clear h
 by_cases c3 : a0_1=a1_1
 ·rw [if_pos c3] at H
  have c3b0 : (a0_1 == a1_1)=true:=beq_iff_eq.mpr c3
  have c3b1 : (a0_1 != a1_1)=false:=bne_eq_false_iff_eq.mpr c3
  clear c3
  replace H:=Option.bind_eq_some_iff.mp H
  obtain ⟨⟨t298,t299,t300,t301,t302⟩,A40,H⟩:=H
  replace H : ((girderref03_Same.f k t298 t299 t300 t301 t302 a1_0 a1_1 a1_2 a1_3 l1_4).bind fun t305=>(some t305))=some r:=H
  have A4:=Aside0.mk A40
  clear A40
  replace H:=Option.bind_eq_some_iff.mp H
  obtain ⟨t305,A50,H⟩:=H
  replace H : (some t305)=some r:=H
  have A5:=Aside0.mk A50
  clear A50
  obtain rfl:=Option.some.inj H
  go_enter Try.func16,Try.ntmps16
  try go_wp2_with (first|((with_reducible refine gate_dst (N:=2) rfl ?_);refine box_event ?hg (N:=2) ?hd (cs:=#[.int .u32 a0_0,.int .u64 a0_1,.int .i64 a0_2,.string a0_3,.slice A0_4 l0_4.length c0_4]) (t:=28) ?hr ?_;(case hd=>rfl);(case hg=>rfl);(case hr=>first|(go_simp;done)|(go_simp;rfl));intro gb296 hg w6 hbox hb;have n0_:=Aside0.mk (below_step (by repeat (first|(with_reducible first|exact HB.out|apply below_alloc|apply pw_below_drewN|apply below_drew1)|exact HB.out)) hb);have n1_:=Aside0.mk (hbox);have n2_:=Aside0.mk ((by rw [hg];exact (below_size (by repeat (first|(with_reducible first|exact HB.out|apply below_alloc|apply pw_below_drewN|apply below_drew1)|exact HB.out))) : w.heap.size≤gb296));have n3_:=Aside0.mk ((by rw [hg];exact (below_size (by repeat (first|(with_reducible first|exact HB.out|apply below_alloc|apply pw_below_drewN|apply below_drew1)|exact HB.out))) : w.heap.size≤gb296));clear HB;have HB:=n0_;have BK296:=n1_;have GW296:=n2_;have GE296:=n3_;clear n0_ n1_ n2_ n3_;clear hb hbox hg)|((with_reducible refine gate_dst (N:=3) rfl ?_);refine box_event ?hg (N:=3) ?hd (cs:=#[.int .u32 a1_0,.int .u64 a1_1,.int .i64 a1_2,.string a1_3,.slice A1_4 l1_4.length c1_4]) (t:=35) ?hr ?_;(case hd=>rfl);(case hg=>rfl);(case hr=>first|(go_simp;done)|(go_simp;rfl));intro gb297 hg w7 hbox hb;have n0_:=Aside0.mk (blk_below (g:=gb296) (o:=.cells #[.int .u32 a0_0,.int .u64 a0_1,.int .i64 a0_2,.string a0_3,.slice A0_4 l0_4.length c0_4] 28 (0,0)) (by (with_reducible repeat (first|refine blk_drewN ?_ _|refine blk_drew ?_|refine blk_alloc ?_ _));exact BK296.out) hb);have n1_:=Aside0.mk (below_step (by repeat (first|(with_reducible first|exact HB.out|apply below_alloc|apply pw_below_drewN|apply below_drew1|refine below_set ?_ GE296.out)|exact HB.out)) hb);have n2_:=Aside0.mk (hbox);have n3_:=Aside0.mk ((by rw [hg];exact (below_size (by repeat (first|(with_reducible first|exact HB.out|apply below_alloc|apply pw_below_drewN|apply below_drew1|refine below_set ?_ GE296.out)|exact HB.out))) : w.heap.size≤gb297));have n4_:=Aside0.mk ((by rw [hg];exact (below_size (by repeat (first|(with_reducible first|exact HB.out|apply below_alloc|apply pw_below_drewN|apply below_drew1|refine below_set ?_ GE296.out)|exact HB.out))) : w.heap.size≤gb297));have n5_:=Aside0.mk ((by rw [hg];exact Nat.ne_of_lt (blk_lt (g:=gb296) (o:=.cells #[.int .u32 a0_0,.int .u64 a0_1,.int .i64 a0_2,.string a0_3,.slice A0_4 l0_4.length c0_4] 28 (0,0)) (by (with_reducible repeat (first|refine blk_drewN ?_ _|refine blk_drew ?_|refine blk_alloc ?_ _));exact BK296.out)) : gb296≠gb297));have n6_:=Aside0.mk ((by rw [hg];exact Nat.ne_of_gt (blk_lt (g:=gb296) (o:=.cells #[.int .u32 a0_0,.int .u64 a0_1,.int .i64 a0_2,.string a0_3,.slice A0_4 l0_4.length c0_4] 28 (0,0)) (by (with_reducible repeat (first|refine blk_drewN ?_ _|refine blk_drew ?_|refine blk_alloc ?_ _));exact BK296.out)) : gb297≠gb296));clear BK296;clear HB;have BK296:=n0_;have HB:=n1_;have BK297:=n2_;have GW297:=n3_;have GE297:=n4_;have NB296_297:=n5_;have NB297_296:=n6_;clear n0_ n1_ n2_ n3_ n4_ n5_ n6_;clear hb hbox hg))
  have n0_:=Aside0.mk (blk_drew BK296.out)
  have n1_:=Aside0.mk (blk_drew BK297.out)
  have n2_:=Aside0.mk (below_drew1 HB.out)
  clear BK296
  clear BK297
  clear HB
  have BK296:=n0_
  have BK297:=n1_
  have HB:=n2_
  clear n0_ n1_ n2_
  refine start_ (n:=12) (S:=fun w'=>w'.cell? ⟨gb296,0,none⟩=some (.int .u32 a0_0)∧w'.cell? ⟨gb296,1,none⟩=some (.int .u64 a0_1)∧w'.cell? ⟨gb296,2,none⟩=some (.int .i64 a0_2)∧w'.cell? ⟨gb296,3,none⟩=some (.string a0_3)∧w'.cell? ⟨gb296,4,none⟩=some (.slice A0_4 l0_4.length c0_4)∧w'.cell? ⟨gb297,0,none⟩=some (.int .u32 a1_0)∧w'.cell? ⟨gb297,1,none⟩=some (.int .u64 a1_1)∧w'.cell? ⟨gb297,2,none⟩=some (.int .i64 a1_2)∧w'.cell? ⟨gb297,3,none⟩=some (.string a1_3)∧w'.cell? ⟨gb297,4,none⟩=some (.slice A1_4 l1_4.length c1_4)) (ds:=[]) #[false,false,false,false,false,false,false,false,false,false,false,false] (by kernel_rfl) rfl rfl ⟨(blk_cell BK296.out 0).trans rfl,(blk_cell BK296.out 1).trans rfl,(blk_cell BK296.out 2).trans rfl,(blk_cell BK296.out 3).trans rfl,(blk_cell BK296.out 4).trans rfl,(blk_cell BK297.out 0).trans rfl,(blk_cell BK297.out 1).trans rfl,(blk_cell BK297.out 2).trans rfl,(blk_cell BK297.out 3).trans rfl,(blk_cell BK297.out 4).trans rfl⟩ (fun hHeld=>?_);refine with_tabW girderlaw03_same.tab1 girderlaw03_same.bits1 (fun HT_ HW_=>?_)
  generalize w7.drew=w8 at BK296 BK297 HB hHeld ⊢
  refine pure_ (i:=0) (N:=some 5) (v:=?_) (a':=?_) #[true,false,false,false,false,false,false,false,false,false,false,false] rfl rfl (any_of HT_.out (by kernel_rfl)) (fun _ _ _ h=>h) (Or.inl ⟨by rfl,?_⟩) ?_ ?_
  rotate_left
  ·intro w'
   go_simp
   with_reducible rfl
  rotate_left
  ·simp only [Act.put,sA_,sB_,sC_,i64_w,i32_w]
   rfl
  refine pure_ (i:=2) (N:=some 7) (v:=?_) (a':=?_) #[true,false,true,false,false,false,false,false,false,false,false,false] rfl rfl (any_of HT_.out (by kernel_rfl)) (fun _ _ _ h=>h) (Or.inl ⟨by rfl,?_⟩) ?_ ?_
  rotate_left
  ·intro w'
   go_simp
   with_reducible rfl
  rotate_left
  ·simp only [Act.put,sA_,sB_,sC_,i64_w,i32_w]
   rfl
  refine take_ (i:=1) (N:=some 6) (v:=?_) (a':=?_) #[true,true,true,false,false,false,false,false,false,false,false,false] rfl rfl (take_ofW HT_.out HW_.out (by kernel_rfl)) (fun _ _ _ h=>h) (Or.inl ⟨by rfl,?_⟩) hHeld ?_ ?_
  rotate_left
  ·rintro w' ⟨s0,s1,s2,s3,s4,s5,s6,s7,s8,s9⟩
   go_simp
   with_reducible rfl
  rotate_left
  ·simp only [Act.put,sA_,sB_,sC_,i64_w,i32_w]
   rfl
  refine take_ (i:=3) (N:=some 8) (v:=?_) (a':=?_) #[true,true,true,true,false,false,false,false,false,false,false,false] rfl rfl (take_ofW HT_.out HW_.out (by kernel_rfl)) (fun _ _ _ h=>h) (Or.inl ⟨by rfl,?_⟩) hHeld ?_ ?_
  rotate_left
  ·rintro w' ⟨s0,s1,s2,s3,s4,s5,s6,s7,s8,s9⟩
   go_simp
   with_reducible rfl
  rotate_left
  ·simp only [Act.put,sA_,sB_,sC_,i64_w,i32_w]
   rfl
  refine pure_ (i:=4) (N:=some 9) (v:=?_) (a':=?_) #[true,true,true,true,true,false,false,false,false,false,false,false] rfl rfl (any_of HT_.out (by kernel_rfl)) (fun _ _ _ h=>h) (Or.inl ⟨by rfl,?_⟩) ?_ ?_
  rotate_left
  ·intro w'
   go_simp
   with_reducible rfl
  rotate_left
  ·simp only [Act.put,sA_,sB_,sC_,i64_w,i32_w]
   rfl
  refine pure_ (i:=5) (N:=some 10) (v:=?_) (a':=?_) #[true,true,true,true,true,true,false,false,false,false,false,false] rfl rfl (any_of HT_.out (by kernel_rfl)) (fun _ _ _ h=>h) (Or.inl ⟨by rfl,?_⟩) ?_ ?_
  rotate_left
  ·intro w'
   go_simp
   with_reducible rfl
  rotate_left
  ·simp only [Act.put,sA_,sB_,sC_,i64_w,i32_w]
   rfl
  refine take_ (i:=6) (N:=some 11) (v:=?_) (a':=?_) #[true,true,true,true,true,true,true,false,false,false,false,false] rfl rfl (take_ofW HT_.out HW_.out (by kernel_rfl)) (fun _ _ _ h=>h) (Or.inl ⟨by rfl,?_⟩) hHeld ?_ ?_
  rotate_left
  ·rintro w' ⟨s0,s1,s2,s3,s4,s5,s6,s7,s8,s9⟩
   go_simp
   with_reducible rfl
  rotate_left
  ·simp only [Act.put,sA_,sB_,sC_,i64_w,i32_w]
   rfl
  refine take_ (i:=8) (N:=some 13) (v:=?_) (a':=?_) #[true,true,true,true,true,true,true,false,true,false,false,false] rfl rfl (take_ofW HT_.out HW_.out (by kernel_rfl)) (fun _ _ _ h=>h) (Or.inl ⟨by rfl,?_⟩) hHeld ?_ ?_
  rotate_left
  ·rintro w' ⟨s0,s1,s2,s3,s4,s5,s6,s7,s8,s9⟩
   go_simp
   with_reducible rfl
  rotate_left
  ·simp only [Act.put,sA_,sB_,sC_,i64_w,i32_w]
   rfl
  refine one_ (i:=7) (N:=some 12) #[true,true,true,true,true,true,true,true,true,false,false,false] rfl rfl (one_of HT_.out (by kernel_rfl)) (by decide) (fun K hK=>?_)
  refine goes_ Try.func10 (by kernel_rfl) rfl #[.agg #[.int .u32 a0_0,.int .u64 a0_1,.int .i64 a0_2,.string a0_3,.slice A0_4 l0_4.length c0_4]] (by rfl) rfl rfl (by (try simp only [List.map_toArray,List.map_cons,List.map_nil]);first|done|rfl|(simp only [List.length_drop,List.length_take];rfl)) ?_
  with_reducible refine (girderlaw03_ref.calls a0_0 a0_1 a0_2 a0_3 (fun k_=>k_ < w.heap.size) _ _ l0_4 t298 t299 t300 t301 t302 _ ?side1 A4.out).mono ?_
  (case side1=>exact Kd.V_mk HC0_4.out (Kd.F_below (Kd.C_F Kd.heap_string HR0_4.out) (by repeat (first|(with_reducible first|exact HB.out|apply below_alloc|apply pw_below_drewN|apply below_drew1|refine below_set ?_ GE296.out|refine below_set ?_ GE297.out)|exact HB.out))))
  rintro e w9 ⟨v303,rfl,ho0,hb⟩
  refine ⟨_,rfl,?_⟩
  have n0_:=Aside0.mk (Kd.V_lower (Kd.V_mono (ok':=fun k_=>k_≠gb296∧k_≠gb297) ho0 (fun k_ hk_=>⟨Or.elim hk_ (fun hs_=>fun e_=>Nat.not_le.2 hs_ (by rw [e_];exact GW296.out)) (fun hn_=>(Kd.freshB (g:=gb296) (o:=.cells #[.int .u32 a0_0,.int .u64 a0_1,.int .i64 a0_2,.string a0_3,.slice A0_4 l0_4.length c0_4] 28 (0,0)) (by (with_reducible repeat (first|refine blk_drewN ?_ _|refine blk_drew ?_|refine blk_alloc ?_ _));exact BK296.out) k_ hn_)),Or.elim hk_ (fun hs_=>fun e_=>Nat.not_le.2 hs_ (by rw [e_];exact GW297.out)) (fun hn_=>(Kd.freshB (g:=gb297) (o:=.cells #[.int .u32 a1_0,.int .u64 a1_1,.int .i64 a1_2,.string a1_3,.slice A1_4 l1_4.length c1_4] 35 (0,0)) (by (with_reducible repeat (first|refine blk_drewN ?_ _|refine blk_drew ?_|refine blk_alloc ?_ _));exact BK297.out) k_ hn_))⟩)) (below_size (by repeat (first|(with_reducible first|exact HB.out|apply below_alloc|apply pw_below_drewN|apply below_drew1|refine below_set ?_ GE296.out|refine below_set ?_ GE297.out)|exact HB.out))))
  have n1_:=Aside0.mk (blk_below (g:=gb296) (o:=.cells #[.int .u32 a0_0,.int .u64 a0_1,.int .i64 a0_2,.string a0_3,.slice A0_4 l0_4.length c0_4] 28 (0,0)) (by (with_reducible repeat (first|refine blk_drewN ?_ _|refine blk_drew ?_|refine blk_alloc ?_ _));exact BK296.out) hb)
  have n2_:=Aside0.mk (blk_below (g:=gb297) (o:=.cells #[.int .u32 a1_0,.int .u64 a1_1,.int .i64 a1_2,.string a1_3,.slice A1_4 l1_4.length c1_4] 35 (0,0)) (by (with_reducible repeat (first|refine blk_drewN ?_ _|refine blk_drew ?_|refine blk_alloc ?_ _));exact BK297.out) hb)
  have n3_:=Aside0.mk (below_step (by repeat (first|(with_reducible first|exact HB.out|apply below_alloc|apply pw_below_drewN|apply below_drew1|refine below_set ?_ GE296.out|refine below_set ?_ GE297.out)|exact HB.out)) hb)
  clear BK296
  clear BK297
  clear HB
  have HO304:=n0_
  have BK296:=n1_
  have BK297:=n2_
  have HB:=n3_
  clear n0_ n1_ n2_ n3_
  (try clear hb)
  (try clear hb2)
  (try clear hk)
  (try clear hi)
  (try clear ho0)
  obtain ⟨Ao10,co10,eo10⟩:=Kd.V_slice HO304.out
  (first|subst eo10|(injection eo10 with f1_ f2_ f3_;have f4_:=f1_.symm;have f5_:=f3_.symm;clear f1_ f2_ f3_;subst f4_;subst f5_))
  refine hK.out _ _ ⟨(blk_cell BK296.out 0).trans rfl,(blk_cell BK296.out 1).trans rfl,(blk_cell BK296.out 2).trans rfl,(blk_cell BK296.out 3).trans rfl,(blk_cell BK296.out 4).trans rfl,(blk_cell BK297.out 0).trans rfl,(blk_cell BK297.out 1).trans rfl,(blk_cell BK297.out 2).trans rfl,(blk_cell BK297.out 3).trans rfl,(blk_cell BK297.out 4).trans rfl⟩ (fun hHeld=>?_)
  clear hK K
  refine norm_ (a':=?_) ?_ ?_
  rotate_left
  ·show Act.put _ (some 12) _=_
   simp only [Act.put,sA_,sB_,sC_,i64_w,i32_w]
   rfl
  refine one_ (i:=9) (N:=some 14) #[true,true,true,true,true,true,true,true,true,true,false,false] rfl rfl (one_of HT_.out (by kernel_rfl)) (by decide) (fun K hK=>?_)
  refine goes_ Try.func21 (by kernel_rfl) rfl #[.agg #[.int .u32 t298,.int .u64 t299,.int .i64 t300,.string t301,.slice Ao10 t302.length co10],.agg #[.int .u32 a1_0,.int .u64 a1_1,.int .i64 a1_2,.string a1_3,.slice A1_4 l1_4.length c1_4]] (by rfl) rfl rfl (by (try simp only [List.map_toArray,List.map_cons,List.map_nil]);first|done|rfl|(simp only [List.length_drop,List.length_take];rfl)) ?_
  with_reducible refine (girderref03_Same.calls k t298 t299 t300 t301 _ _ t302 a1_0 a1_1 a1_2 a1_3 _ _ l1_4 t305 _ ?side1 ?side2 ?side3 ?side4 A5.out).mono ?_
  (case side1=>repeat (first|exact (Kd.V_reads' HO304.out).2.2|(with_reducible refine Kd.C_alloc ?_ _)|(with_reducible refine Kd.C_drewN ?_ _)|(with_reducible refine Kd.C_drew ?_)))
  (case side2=>exact (Kd.V_reads' HO304.out).2.1)
  (case side3=>repeat (first|exact (Kd.C_below HR1_4.out HB.out)|(with_reducible refine Kd.C_alloc ?_ _)|(with_reducible refine Kd.C_drewN ?_ _)|(with_reducible refine Kd.C_drew ?_)))
  (case side4=>exact HC1_4.out)
  rintro e w11 ⟨rfl,hb⟩
  refine ⟨_,rfl,?_⟩
  have n0_:=Aside0.mk (Kd.V_below (by (with_reducible repeat (first|apply Kd.V_alloc|apply Kd.V_drewN|apply Kd.V_drew));exact HO304.out) hb)
  have n1_:=Aside0.mk (blk_below (g:=gb296) (o:=.cells #[.int .u32 a0_0,.int .u64 a0_1,.int .i64 a0_2,.string a0_3,.slice A0_4 l0_4.length c0_4] 28 (0,0)) (by (with_reducible repeat (first|refine blk_drewN ?_ _|refine blk_drew ?_|refine blk_alloc ?_ _));exact BK296.out) hb)
  have n2_:=Aside0.mk (blk_below (g:=gb297) (o:=.cells #[.int .u32 a1_0,.int .u64 a1_1,.int .i64 a1_2,.string a1_3,.slice A1_4 l1_4.length c1_4] 35 (0,0)) (by (with_reducible repeat (first|refine blk_drewN ?_ _|refine blk_drew ?_|refine blk_alloc ?_ _));exact BK297.out) hb)
  have n3_:=Aside0.mk (below_step (by repeat (first|(with_reducible first|exact HB.out|apply below_alloc|apply pw_below_drewN|apply below_drew1|refine below_set ?_ GE296.out|refine below_set ?_ GE297.out)|exact HB.out)) hb)
  clear HO304
  clear BK296
  clear BK297
  clear HB
  have HO304:=n0_
  have BK296:=n1_
  have BK297:=n2_
  have HB:=n3_
  clear n0_ n1_ n2_ n3_
  (try clear hb)
  (try clear hb2)
  (try clear hk)
  (try clear hi)
  refine hK.out _ _ ⟨(blk_cell BK296.out 0).trans rfl,(blk_cell BK296.out 1).trans rfl,(blk_cell BK296.out 2).trans rfl,(blk_cell BK296.out 3).trans rfl,(blk_cell BK296.out 4).trans rfl,(blk_cell BK297.out 0).trans rfl,(blk_cell BK297.out 1).trans rfl,(blk_cell BK297.out 2).trans rfl,(blk_cell BK297.out 3).trans rfl,(blk_cell BK297.out 4).trans rfl⟩ (fun hHeld=>?_)
  clear hK K
  refine norm_ (a':=?_) ?_ ?_
  rotate_left
  ·show Act.put _ (some 14) _=_
   simp only [Act.put,sA_,sB_,sC_,i64_w,i32_w]
   rfl
  refine pure_ (i:=10) (N:=some 15) (v:=?_) (a':=?_) #[true,true,true,true,true,true,true,true,true,true,true,false] rfl rfl (any_of HT_.out (by kernel_rfl)) (fun _ _ _ h=>h) (Or.inl ⟨by rfl,?_⟩) ?_ ?_
  rotate_left
  ·intro w'
   go_simp
   with_reducible rfl
  rotate_left
  ·simp only [Act.put,sA_,sB_,sC_,i64_w,i32_w]
   rfl
  refine pure_ (i:=11) (N:=some 4) (v:=?_) (a':=?_) #[true,true,true,true,true,true,true,true,true,true,true,true] rfl rfl (any_of HT_.out (by kernel_rfl)) (fun _ _ _ h=>h) (Or.inl ⟨by rfl,?_⟩) ?_ ?_
  rotate_left
  ·intro w'
   go_simp
   with_reducible rfl
  rotate_left
  ·simp only [Act.put,sA_,sB_,sC_,i64_w,i32_w]
   rfl
  refine done_ (done_of HT_.out (by kernel_rfl)) ?_
  try go_wp2
  go_ret
  exact ⟨by first|rfl|(simp [errW_none,errW_some] <;> rfl)|(simp [*,errW_none,errW_some] <;> rfl),by repeat (first|(with_reducible first|exact HB.out|apply below_alloc|apply pw_below_drewN|apply below_drew1|refine below_set ?_ GE296.out|refine below_set ?_ GE297.out)|exact HB.out)⟩
 ·rw [if_neg c3] at H
  have c3b0 : (a0_1 == a1_1)=false:=beq_eq_false_iff_ne.mpr c3
  have c3b1 : (a0_1 != a1_1)=true:=bne_iff_ne.mpr c3
  obtain rfl:=Option.some.inj H
  go_enter Try.func16,Try.ntmps16
  try go_wp2_with (first|((with_reducible refine gate_dst (N:=2) rfl ?_);refine box_event ?hg (N:=2) ?hd (cs:=#[.int .u32 a0_0,.int .u64 a0_1,.int .i64 a0_2,.string a0_3,.slice A0_4 l0_4.length c0_4]) (t:=28) ?hr ?_;(case hd=>rfl);(case hg=>rfl);(case hr=>first|(go_simp;done)|(go_simp;rfl));intro gb296 hg w12 hbox hb;have n0_:=Aside0.mk (below_step (by repeat (first|(with_reducible first|exact HB.out|apply below_alloc|apply pw_below_drewN|apply below_drew1)|exact HB.out)) hb);have n1_:=Aside0.mk (hbox);have n2_:=Aside0.mk ((by rw [hg];exact (below_size (by repeat (first|(with_reducible first|exact HB.out|apply below_alloc|apply pw_below_drewN|apply below_drew1)|exact HB.out))) : w.heap.size≤gb296));have n3_:=Aside0.mk ((by rw [hg];exact (below_size (by repeat (first|(with_reducible first|exact HB.out|apply below_alloc|apply pw_below_drewN|apply below_drew1)|exact HB.out))) : w.heap.size≤gb296));clear HB;have HB:=n0_;have BK296:=n1_;have GW296:=n2_;have GE296:=n3_;clear n0_ n1_ n2_ n3_;clear hb hbox hg)|((with_reducible refine gate_dst (N:=3) rfl ?_);refine box_event ?hg (N:=3) ?hd (cs:=#[.int .u32 a1_0,.int .u64 a1_1,.int .i64 a1_2,.string a1_3,.slice A1_4 l1_4.length c1_4]) (t:=35) ?hr ?_;(case hd=>rfl);(case hg=>rfl);(case hr=>first|(go_simp;done)|(go_simp;rfl));intro gb297 hg w13 hbox hb;have n0_:=Aside0.mk (blk_below (g:=gb296) (o:=.cells #[.int .u32 a0_0,.int .u64 a0_1,.int .i64 a0_2,.string a0_3,.slice A0_4 l0_4.length c0_4] 28 (0,0)) (by (with_reducible repeat (first|refine blk_drewN ?_ _|refine blk_drew ?_|refine blk_alloc ?_ _));exact BK296.out) hb);have n1_:=Aside0.mk (below_step (by repeat (first|(with_reducible first|exact HB.out|apply below_alloc|apply pw_below_drewN|apply below_drew1|refine below_set ?_ GE296.out)|exact HB.out)) hb);have n2_:=Aside0.mk (hbox);have n3_:=Aside0.mk ((by rw [hg];exact (below_size (by repeat (first|(with_reducible first|exact HB.out|apply below_alloc|apply pw_below_drewN|apply below_drew1|refine below_set ?_ GE296.out)|exact HB.out))) : w.heap.size≤gb297));have n4_:=Aside0.mk ((by rw [hg];exact (below_size (by repeat (first|(with_reducible first|exact HB.out|apply below_alloc|apply pw_below_drewN|apply below_drew1|refine below_set ?_ GE296.out)|exact HB.out))) : w.heap.size≤gb297));have n5_:=Aside0.mk ((by rw [hg];exact Nat.ne_of_lt (blk_lt (g:=gb296) (o:=.cells #[.int .u32 a0_0,.int .u64 a0_1,.int .i64 a0_2,.string a0_3,.slice A0_4 l0_4.length c0_4] 28 (0,0)) (by (with_reducible repeat (first|refine blk_drewN ?_ _|refine blk_drew ?_|refine blk_alloc ?_ _));exact BK296.out)) : gb296≠gb297));have n6_:=Aside0.mk ((by rw [hg];exact Nat.ne_of_gt (blk_lt (g:=gb296) (o:=.cells #[.int .u32 a0_0,.int .u64 a0_1,.int .i64 a0_2,.string a0_3,.slice A0_4 l0_4.length c0_4] 28 (0,0)) (by (with_reducible repeat (first|refine blk_drewN ?_ _|refine blk_drew ?_|refine blk_alloc ?_ _));exact BK296.out)) : gb297≠gb296));clear BK296;clear HB;have BK296:=n0_;have HB:=n1_;have BK297:=n2_;have GW297:=n3_;have GE297:=n4_;have NB296_297:=n5_;have NB297_296:=n6_;clear n0_ n1_ n2_ n3_ n4_ n5_ n6_;clear hb hbox hg))
  have n0_:=Aside0.mk (blk_drew BK296.out)
  have n1_:=Aside0.mk (blk_drew BK297.out)
  have n2_:=Aside0.mk (below_drew1 HB.out)
  clear BK296
  clear BK297
  clear HB
  have BK296:=n0_
  have BK297:=n1_
  have HB:=n2_
  clear n0_ n1_ n2_
  refine start_ (n:=12) (S:=fun w'=>w'.cell? ⟨gb296,0,none⟩=some (.int .u32 a0_0)∧w'.cell? ⟨gb296,1,none⟩=some (.int .u64 a0_1)∧w'.cell? ⟨gb296,2,none⟩=some (.int .i64 a0_2)∧w'.cell? ⟨gb296,3,none⟩=some (.string a0_3)∧w'.cell? ⟨gb296,4,none⟩=some (.slice A0_4 l0_4.length c0_4)∧w'.cell? ⟨gb297,0,none⟩=some (.int .u32 a1_0)∧w'.cell? ⟨gb297,1,none⟩=some (.int .u64 a1_1)∧w'.cell? ⟨gb297,2,none⟩=some (.int .i64 a1_2)∧w'.cell? ⟨gb297,3,none⟩=some (.string a1_3)∧w'.cell? ⟨gb297,4,none⟩=some (.slice A1_4 l1_4.length c1_4)) (ds:=[]) #[false,false,false,false,false,false,false,false,false,false,false,false] (by kernel_rfl) rfl rfl ⟨(blk_cell BK296.out 0).trans rfl,(blk_cell BK296.out 1).trans rfl,(blk_cell BK296.out 2).trans rfl,(blk_cell BK296.out 3).trans rfl,(blk_cell BK296.out 4).trans rfl,(blk_cell BK297.out 0).trans rfl,(blk_cell BK297.out 1).trans rfl,(blk_cell BK297.out 2).trans rfl,(blk_cell BK297.out 3).trans rfl,(blk_cell BK297.out 4).trans rfl⟩ (fun hHeld=>?_);refine with_tabW girderlaw03_same.tab1 girderlaw03_same.bits1 (fun HT_ HW_=>?_)
  generalize w13.drew=w14 at BK296 BK297 HB hHeld ⊢
  refine pure_ (i:=0) (N:=some 5) (v:=?_) (a':=?_) #[true,false,false,false,false,false,false,false,false,false,false,false] rfl rfl (any_of HT_.out (by kernel_rfl)) (fun _ _ _ h=>h) (Or.inl ⟨by rfl,?_⟩) ?_ ?_
  rotate_left
  ·intro w'
   go_simp
   with_reducible rfl
  rotate_left
  ·simp only [Act.put,sA_,sB_,sC_,i64_w,i32_w]
   rfl
  refine pure_ (i:=2) (N:=some 7) (v:=?_) (a':=?_) #[true,false,true,false,false,false,false,false,false,false,false,false] rfl rfl (any_of HT_.out (by kernel_rfl)) (fun _ _ _ h=>h) (Or.inl ⟨by rfl,?_⟩) ?_ ?_
  rotate_left
  ·intro w'
   go_simp
   with_reducible rfl
  rotate_left
  ·simp only [Act.put,sA_,sB_,sC_,i64_w,i32_w]
   rfl
  refine take_ (i:=1) (N:=some 6) (v:=?_) (a':=?_) #[true,true,true,false,false,false,false,false,false,false,false,false] rfl rfl (take_ofW HT_.out HW_.out (by kernel_rfl)) (fun _ _ _ h=>h) (Or.inl ⟨by rfl,?_⟩) hHeld ?_ ?_
  rotate_left
  ·rintro w' ⟨s0,s1,s2,s3,s4,s5,s6,s7,s8,s9⟩
   go_simp
   with_reducible rfl
  rotate_left
  ·simp only [Act.put,sA_,sB_,sC_,i64_w,i32_w]
   rfl
  refine take_ (i:=3) (N:=some 8) (v:=?_) (a':=?_) #[true,true,true,true,false,false,false,false,false,false,false,false] rfl rfl (take_ofW HT_.out HW_.out (by kernel_rfl)) (fun _ _ _ h=>h) (Or.inl ⟨by rfl,?_⟩) hHeld ?_ ?_
  rotate_left
  ·rintro w' ⟨s0,s1,s2,s3,s4,s5,s6,s7,s8,s9⟩
   go_simp
   with_reducible rfl
  rotate_left
  ·simp only [Act.put,sA_,sB_,sC_,i64_w,i32_w]
   rfl
  refine pure_ (i:=4) (N:=some 9) (v:=?_) (a':=?_) #[true,true,true,true,true,false,false,false,false,false,false,false] rfl rfl (any_of HT_.out (by kernel_rfl)) (fun _ _ _ h=>h) (Or.inl ⟨by rfl,?_⟩) ?_ ?_
  rotate_left
  ·intro w'
   go_simp
   with_reducible rfl
  rotate_left
  ·simp only [Act.put,sA_,sB_,sC_,i64_w,i32_w]
   rfl
  refine pure_ (i:=5) (N:=some 10) (v:=?_) (a':=?_) #[true,true,true,true,true,true,false,false,false,false,false,false] rfl rfl (any_of HT_.out (by kernel_rfl)) (fun _ _ _ h=>h) (Or.inl ⟨by rfl,?_⟩) ?_ ?_
  rotate_left
  ·intro w'
   go_simp
   with_reducible rfl
  rotate_left
  ·simp only [Act.put,sA_,sB_,sC_,i64_w,i32_w]
   rfl
  refine pure_ (i:=6) (N:=some 11) (v:=undef) (a':=?_) #[true,true,true,true,true,true,true,false,false,false,false,false] rfl rfl (any_of HT_.out (by kernel_rfl)) (fun _ _ _ h=>h) (Or.inr ⟨by rfl,rfl⟩) ?_ ?_
  rotate_left
  ·simp only [Act.put,sA_,sB_,sC_,i64_w,i32_w]
   rfl
  refine pure_ (i:=7) (N:=some 12) (v:=undef) (a':=?_) #[true,true,true,true,true,true,true,true,false,false,false,false] rfl rfl (any_of HT_.out (by kernel_rfl)) (fun _ _ _ h=>h) (Or.inr ⟨by rfl,rfl⟩) ?_ ?_
  rotate_left
  ·simp only [Act.put,sA_,sB_,sC_,i64_w,i32_w]
   rfl
  refine pure_ (i:=8) (N:=some 13) (v:=undef) (a':=?_) #[true,true,true,true,true,true,true,true,true,false,false,false] rfl rfl (any_of HT_.out (by kernel_rfl)) (fun _ _ _ h=>h) (Or.inr ⟨by rfl,rfl⟩) ?_ ?_
  rotate_left
  ·simp only [Act.put,sA_,sB_,sC_,i64_w,i32_w]
   rfl
  refine pure_ (i:=9) (N:=some 14) (v:=undef) (a':=?_) #[true,true,true,true,true,true,true,true,true,true,false,false] rfl rfl (any_of HT_.out (by kernel_rfl)) (fun _ _ _ h=>h) (Or.inr ⟨by rfl,rfl⟩) ?_ ?_
  rotate_left
  ·simp only [Act.put,sA_,sB_,sC_,i64_w,i32_w]
   rfl
  refine pure_ (i:=10) (N:=some 15) (v:=?_) (a':=?_) #[true,true,true,true,true,true,true,true,true,true,true,false] rfl rfl (any_of HT_.out (by kernel_rfl)) (fun _ _ _ h=>h) (Or.inl ⟨by rfl,?_⟩) ?_ ?_
  rotate_left
  ·intro w'
   go_simp
   with_reducible rfl
  rotate_left
  ·simp only [Act.put,sA_,sB_,sC_,i64_w,i32_w]
   rfl
  refine pure_ (i:=11) (N:=some 4) (v:=?_) (a':=?_) #[true,true,true,true,true,true,true,true,true,true,true,true] rfl rfl (any_of HT_.out (by kernel_rfl)) (fun _ _ _ h=>h) (Or.inl ⟨by rfl,?_⟩) ?_ ?_
  rotate_left
  ·intro w'
   go_simp
   with_reducible rfl
  rotate_left
  ·simp only [Act.put,sA_,sB_,sC_,i64_w,i32_w]
   rfl
  refine done_ (done_of HT_.out (by kernel_rfl)) ?_
  try go_wp2
  go_ret
  exact ⟨by first|rfl|(simp [errW_none,errW_some] <;> rfl)|(simp [*,errW_none,errW_some] <;> rfl),by repeat (first|(with_reducible first|exact HB.out|apply below_alloc|apply pw_below_drewN|apply below_drew1|refine below_set ?_ GE296.out|refine below_set ?_ GE297.out)|exact HB.out)⟩
end Go.Proofs.Yteokjmjfjdgmpaa.PPg
end
