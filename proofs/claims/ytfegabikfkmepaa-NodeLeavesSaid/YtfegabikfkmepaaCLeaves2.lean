import Derived.Test.YtfegabikfkmepaaCLeaves1
section
namespace Go.Proofs.Ytfegabikfkmepaa.PAp
open Go.RowKit Go.Proofs.YtfegabikfkmepaaW.PrintWords Go.Proofs.YtfegabikfkmepaaW.PrintLast Go.Proofs.YtfegabikfkmepaaW.PrintMore
attribute [local go_sem] max2_int min2_int max_two min_two max_three min_three max_four min_four
set_option linter.unusedVariables false
set_option linter.unusedSimpArgs false
mutual
def page_stands.j0 : Nat → Int → Bool → Int → Int → Int → ByteArray → List ByteArray → Int → Int → ByteArray → ByteArray → Option (Int)
 | 0,_,_,_,_,_,_,_,_,_,_,_=>none
 | k + 1,x6,x19,x105000,x105001,x105002,x105003,x105004,x106000,x106001,x106002,x106003=>if x19=true then (if x106001 ≥ (x105004.length : Int) then (some 1) else (if 0≤x106001 then (if x106001 < (x105004.length : Int) then (if (rdOf ByteArray.empty x105004 x106001).toList=x106003.toList then (some 0) else (some 31)) else (none)) else (none))) else (if x6=5 then (if x105003.toList=x106003.toList then (some 0) else (some 31)) else (if x6=7 then (if (x105004.length : Int)=0 then ((page_Kind.f x105002 x105003).bind fun t107=>(if t107.toList=x106003.toList then (some 0) else (some 31))) else (some 1)) else (if x6=6 then (if (x105004.length : Int)=0 then (page_stands.j1 k true x105000 x105001 x105002 x105003 x105004 x106000 x106001 x106002 x106003) else (if 0 < (x105004.length : Int) then (page_stands.j1 k (decide ((wrap64 (((rdOf ByteArray.empty x105004 0).size : Int) - x106001)) < (x106002.size : Int))) x105000 x105001 x105002 x105003 x105004 x106000 x106001 x106002 x106003) else (none))) else (some 0))))
def page_stands.j1 : Nat → Bool → Int → Int → Int → ByteArray → List ByteArray → Int → Int → ByteArray → ByteArray → Option (Int)
 | 0,_,_,_,_,_,_,_,_,_,_=>none
 | k + 1,x77,x105000,x105001,x105002,x105003,x105004,x106000,x106001,x106002,x106003=>if x77=true then (some 1) else (if 0 < (x105004.length : Int) then (if 0≤x106001 then (if x106001≤(wrap64 (x106001 + (x106002.size : Int))) then (if (wrap64 (x106001 + (x106002.size : Int)))≤((rdOf ByteArray.empty x105004 0).size : Int) then (if ((rdOf ByteArray.empty x105004 0).extract (x106001 : Int).toNat ((wrap64 (x106001 + (x106002.size : Int))) : Int).toNat).toList=x106003.toList then (some 0) else (some 31)) else (none)) else (none)) else (none)) else (none))
end
def page_stands.f (k : Nat) (a0_0 : Int) (a0_1 : Int) (a0_2 : Int) (a0_3 : ByteArray) (l0_4 : List ByteArray) (a1_0 : Int) (a1_1 : Int) (a1_2 : ByteArray) (a1_3 : ByteArray) : Option (Int):=if a1_0=2 then (if a1_1 > (l0_4.length : Int) then (some 1) else (if (l0_4.length : Int) ≥ 64 then (some 3) else (some 0))) else (if a1_0=3 then (page_stands.j0 k a1_0 (a1_0 == 3) a0_0 a0_1 a0_2 a0_3 l0_4 a1_0 a1_1 a1_2 a1_3) else (page_stands.j0 k a1_0 (a1_0 == 4) a0_0 a0_1 a0_2 a0_3 l0_4 a1_0 a1_1 a1_2 a1_3))
def page_stands.T11 : Bool × List (List Nat × List Nat):=(true,[([],[]),([0],[0]),([],[]),([2],[2]),([1,3],[1,3]),([4],[4]),([],[]),([6],[6]),([5,7],[5,7])])
def page_stands.B11 : List Nat:=[0,1,0,4,15,31,0,64,255]
theorem page_stands.tab11 : rtab .any (opsOf Try.f33 11)=page_stands.T11:=by kernel_rfl
theorem page_stands.bits11 : waitsOk page_stands.T11.2 page_stands.B11=true:=by kernel_rfl
def page_stands.T19 : Bool × List (List Nat × List Nat):=(true,[([],[]),([0],[0]),([],[]),([2],[2]),([1,3],[1,3]),([],[]),([5],[5]),([4,6],[4,6])])
def page_stands.B19 : List Nat:=[0,1,0,4,15,0,32,127]
theorem page_stands.tab19 : rtab .any (opsOf Try.f33 19)=page_stands.T19:=by kernel_rfl
theorem page_stands.bits19 : waitsOk page_stands.T19.2 page_stands.B19=true:=by kernel_rfl
def page_stands.T22 : Bool × List (List Nat × List Nat):=(true,[([],[]),([0],[0]),([1],[1]),([2],[2]),([3],[3]),([4],[4]),([5,4],[4,5]),([6,4],[4,6]),([7,4],[4,7]),([8,4],[4,8]),([4],[4]),([10,4],[4,10]),([9,11,4],[4,9,11]),([4],[4]),([13,4],[4,13]),([14,4],[4,14]),([12,15,4],[4,12,15]),([4,16],[4,16])])
def page_stands.B22 : List Nat:=[0,1,3,7,15,31,63,127,255,511,31,1055,4095,31,8223,24607,65535,131071]
theorem page_stands.tab22 : rtab .any (opsOf Try.f33 22)=page_stands.T22:=by kernel_rfl
theorem page_stands.bits22 : waitsOk page_stands.T22.2 page_stands.B22=true:=by kernel_rfl
def page_stands.T24 : Bool × List (List Nat × List Nat):=(true,[([],[]),([0],[0]),([1],[1]),([2],[2]),([],[]),([4],[4]),([],[]),([6],[6]),([],[]),([8],[8]),([9],[9]),([7,10],[7,10]),([3,5,11],[3,5,11]),([],[]),([13],[13]),([12,14],[12,14])])
def page_stands.B24 : List Nat:=[0,1,3,7,0,16,0,64,0,256,768,1984,4095,0,8192,32767]
theorem page_stands.tab24 : rtab .any (opsOf Try.f33 24)=page_stands.T24:=by kernel_rfl
theorem page_stands.bits24 : waitsOk page_stands.T24.2 page_stands.B24=true:=by kernel_rfl
set_option maxHeartbeats 8000000 in
set_option maxRecDepth 100000 in
theorem page_stands.calls (k : Nat) (a0_0 : Int) (a0_1 : Int) (a0_2 : Int) (a0_3 : ByteArray) (A0_4 : Option Addr) (c0_4 : Nat) (l0_4 : List ByteArray) (a1_0 : Int) (a1_1 : Int) (a1_2 : ByteArray) (a1_3 : ByteArray) (r : Int) (w : World) (hr0_4 : Kd.C Kd.string w A0_4 l0_4.length l0_4) (hc0_4 : l0_4.length≤c0_4) (h : page_stands.f k a0_0 a0_1 a0_2 a0_3 l0_4 a1_0 a1_1 a1_2 a1_3=some r) :
  Calls Try.prog 33 #[.agg #[.int .u32 a0_0,.int .u64 a0_1,.int .i64 a0_2,.string a0_3,.slice A0_4 l0_4.length c0_4],.agg #[.int .i64 a1_0,.int .i64 a1_1,.string a1_2,.string a1_3]] w fun e w'=>e=.returned (.int .i64 r)∧Below w.heap.size w w':=by
 have hu28:=Try.underlying28
 have hu38:=Try.underlying38
 have HR0_4:=Aside0.mk hr0_4
 have HC0_4:=Aside0.mk hc0_4
 clear hr0_4 hc0_4
 have HB:=Aside0.mk (Below.refl w.heap.size w)
 have H : (if a1_0=2 then (if a1_1 > (l0_4.length : Int) then (some 1) else (if (l0_4.length : Int) ≥ 64 then (some 3) else (some 0))) else (if a1_0=3 then (page_stands.j0 k a1_0 (a1_0 == 3) a0_0 a0_1 a0_2 a0_3 l0_4 a1_0 a1_1 a1_2 a1_3) else (page_stands.j0 k a1_0 (a1_0 == 4) a0_0 a0_1 a0_2 a0_3 l0_4 a1_0 a1_1 a1_2 a1_3)))=some r:=h
 clear h
 by_cases c3 : a1_0=2
 ·rw [if_pos c3] at H
  have c3b0 : (a1_0 == 2)=true:=beq_iff_eq.mpr c3
  have c3b1 : (a1_0 != 2)=false:=bne_eq_false_iff_eq.mpr c3
  clear c3
  by_cases c4 : a1_1 > (l0_4.length : Int)
  ·rw [if_pos c4] at H
   have c4b0 : decide ((l0_4.length : Int) < a1_1)=true:=decide_eq_true c4
   clear c4
   obtain rfl:=Option.some.inj H
   go_enter Try.func33,Try.ntmps33
   go_wp2_with (first|((with_reducible refine gate_dst (N:=2) rfl ?_);(try (refine gate_guard (by rfl) ?_;dsimp only));refine box_event ?hg (N:=2) ?hd (cs:=#[.int .u32 a0_0,.int .u64 a0_1,.int .i64 a0_2,.string a0_3,.slice A0_4 l0_4.length c0_4]) (t:=28) ?hr ?_;(case hd=>rfl);(case hg=>rfl);(case hr=>first|(go_simp;done)|(go_simp;rfl));intro gb104 hg w5 hbox hb;have n0_:=Aside0.mk (below_step (by repeat (first|(with_reducible first|exact HB.out|apply below_alloc|apply pw_below_drewN|apply below_drew1)|exact HB.out)) hb);have n1_:=Aside0.mk (hbox);have n2_:=Aside0.mk ((by rw [hg];exact (below_size (by repeat (first|(with_reducible first|exact HB.out|apply below_alloc|apply pw_below_drewN|apply below_drew1)|exact HB.out))) : w.heap.size≤gb104));have n3_:=Aside0.mk ((by rw [hg];exact (below_size (by repeat (first|(with_reducible first|exact HB.out|apply below_alloc|apply pw_below_drewN|apply below_drew1)|exact HB.out))) : w.heap.size≤gb104));clear HB;have HB:=n0_;have BK104:=n1_;have GW104:=n2_;have GE104:=n3_;clear n0_ n1_ n2_ n3_;clear hb hbox hg)|((with_reducible refine gate_dst (N:=3) rfl ?_);(try (refine gate_guard (by rfl) ?_;dsimp only));refine box_event ?hg (N:=3) ?hd (cs:=#[.int .i64 a1_0,.int .i64 a1_1,.string a1_2,.string a1_3]) (t:=38) ?hr ?_;(case hd=>rfl);(case hg=>rfl);(case hr=>first|(go_simp;done)|(go_simp;rfl));intro gb105 hg w6 hbox hb;have n0_:=Aside0.mk (blk_below (g:=gb104) (o:=.cells #[.int .u32 a0_0,.int .u64 a0_1,.int .i64 a0_2,.string a0_3,.slice A0_4 l0_4.length c0_4] 28 (0,0)) (by (with_reducible repeat (first|refine blk_drewN ?_ _|refine blk_drew ?_|refine blk_alloc ?_ _));exact BK104.out) hb);have n1_:=Aside0.mk (below_step (by repeat (first|(with_reducible first|exact HB.out|apply below_alloc|apply pw_below_drewN|apply below_drew1|refine below_set ?_ GE104.out)|exact HB.out)) hb);have n2_:=Aside0.mk (hbox);have n3_:=Aside0.mk ((by rw [hg];exact (below_size (by repeat (first|(with_reducible first|exact HB.out|apply below_alloc|apply pw_below_drewN|apply below_drew1|refine below_set ?_ GE104.out)|exact HB.out))) : w.heap.size≤gb105));have n4_:=Aside0.mk ((by rw [hg];exact (below_size (by repeat (first|(with_reducible first|exact HB.out|apply below_alloc|apply pw_below_drewN|apply below_drew1|refine below_set ?_ GE104.out)|exact HB.out))) : w.heap.size≤gb105));have n5_:=Aside0.mk ((by rw [hg];exact Nat.ne_of_lt (blk_lt (g:=gb104) (o:=.cells #[.int .u32 a0_0,.int .u64 a0_1,.int .i64 a0_2,.string a0_3,.slice A0_4 l0_4.length c0_4] 28 (0,0)) (by (with_reducible repeat (first|refine blk_drewN ?_ _|refine blk_drew ?_|refine blk_alloc ?_ _));exact BK104.out)) : gb104≠gb105));have n6_:=Aside0.mk ((by rw [hg];exact Nat.ne_of_gt (blk_lt (g:=gb104) (o:=.cells #[.int .u32 a0_0,.int .u64 a0_1,.int .i64 a0_2,.string a0_3,.slice A0_4 l0_4.length c0_4] 28 (0,0)) (by (with_reducible repeat (first|refine blk_drewN ?_ _|refine blk_drew ?_|refine blk_alloc ?_ _));exact BK104.out)) : gb105≠gb104));clear BK104;clear HB;have BK104:=n0_;have HB:=n1_;have BK105:=n2_;have GW105:=n3_;have GE105:=n4_;have NB104_105:=n5_;have NB105_104:=n6_;clear n0_ n1_ n2_ n3_ n4_ n5_ n6_;clear hb hbox hg;have hnb7:=NB105_104.out;have hnc7:=NB104_105.out;have hcz8_0 : w6.cell? ⟨gb105,0,none⟩=some (.int .i64 a1_0):=(blk_cell BK105.out 0).trans rfl;have hcz8_1 : w6.cell? ⟨gb105,1,none⟩=some (.int .i64 a1_1):=(blk_cell BK105.out 1).trans rfl;have hcz8_2 : w6.cell? ⟨gb105,2,none⟩=some (.string a1_2):=(blk_cell BK105.out 2).trans rfl;have hcz8_3 : w6.cell? ⟨gb105,3,none⟩=some (.string a1_3):=(blk_cell BK105.out 3).trans rfl;have hfz8_0:=blk_frozen BK105.out 0;have hfz8_1:=blk_frozen BK105.out 1;have hfz8_2:=blk_frozen BK105.out 2;have hfz8_3:=blk_frozen BK105.out 3;have hcz9_0 : w6.cell? ⟨gb104,0,none⟩=some (.int .u32 a0_0):=(blk_cell BK104.out 0).trans rfl;have hcz9_1 : w6.cell? ⟨gb104,1,none⟩=some (.int .u64 a0_1):=(blk_cell BK104.out 1).trans rfl;have hcz9_2 : w6.cell? ⟨gb104,2,none⟩=some (.int .i64 a0_2):=(blk_cell BK104.out 2).trans rfl;have hcz9_3 : w6.cell? ⟨gb104,3,none⟩=some (.string a0_3):=(blk_cell BK104.out 3).trans rfl;have hcz9_4 : w6.cell? ⟨gb104,4,none⟩=some (.slice A0_4 l0_4.length c0_4):=(blk_cell BK104.out 4).trans rfl;have hfz9_0:=blk_frozen BK104.out 0;have hfz9_1:=blk_frozen BK104.out 1;have hfz9_2:=blk_frozen BK104.out 2;have hfz9_3:=blk_frozen BK104.out 3;have hfz9_4:=blk_frozen BK104.out 4))
   go_ret
   exact ⟨by first|rfl|(simp [errW_none,errW_some] <;> rfl)|(simp [*,errW_none,errW_some] <;> rfl),by repeat (first|(with_reducible first|exact HB.out|apply below_alloc|apply pw_below_drewN|apply below_drew1|refine below_set ?_ GE104.out|refine below_set ?_ GE105.out)|exact HB.out)⟩
  ·rw [if_neg c4] at H
   have c4b0 : decide ((l0_4.length : Int) < a1_1)=false:=decide_eq_false c4
   clear c4
   by_cases c10 : (l0_4.length : Int) ≥ 64
   ·rw [if_pos c10] at H
    have c10b0 : decide (64≤(l0_4.length : Int))=true:=decide_eq_true c10
    have c10b1 : decide (64≤l0_4.length)=true:=decide_eq_true (by omega)
    clear c10
    obtain rfl:=Option.some.inj H
    go_enter Try.func33,Try.ntmps33
    go_wp2_with (first|((with_reducible refine gate_dst (N:=2) rfl ?_);(try (refine gate_guard (by rfl) ?_;dsimp only));refine box_event ?hg (N:=2) ?hd (cs:=#[.int .u32 a0_0,.int .u64 a0_1,.int .i64 a0_2,.string a0_3,.slice A0_4 l0_4.length c0_4]) (t:=28) ?hr ?_;(case hd=>rfl);(case hg=>rfl);(case hr=>first|(go_simp;done)|(go_simp;rfl));intro gb104 hg w11 hbox hb;have n0_:=Aside0.mk (below_step (by repeat (first|(with_reducible first|exact HB.out|apply below_alloc|apply pw_below_drewN|apply below_drew1)|exact HB.out)) hb);have n1_:=Aside0.mk (hbox);have n2_:=Aside0.mk ((by rw [hg];exact (below_size (by repeat (first|(with_reducible first|exact HB.out|apply below_alloc|apply pw_below_drewN|apply below_drew1)|exact HB.out))) : w.heap.size≤gb104));have n3_:=Aside0.mk ((by rw [hg];exact (below_size (by repeat (first|(with_reducible first|exact HB.out|apply below_alloc|apply pw_below_drewN|apply below_drew1)|exact HB.out))) : w.heap.size≤gb104));clear HB;have HB:=n0_;have BK104:=n1_;have GW104:=n2_;have GE104:=n3_;clear n0_ n1_ n2_ n3_;clear hb hbox hg)|((with_reducible refine gate_dst (N:=3) rfl ?_);(try (refine gate_guard (by rfl) ?_;dsimp only));refine box_event ?hg (N:=3) ?hd (cs:=#[.int .i64 a1_0,.int .i64 a1_1,.string a1_2,.string a1_3]) (t:=38) ?hr ?_;(case hd=>rfl);(case hg=>rfl);(case hr=>first|(go_simp;done)|(go_simp;rfl));intro gb105 hg w12 hbox hb;have n0_:=Aside0.mk (blk_below (g:=gb104) (o:=.cells #[.int .u32 a0_0,.int .u64 a0_1,.int .i64 a0_2,.string a0_3,.slice A0_4 l0_4.length c0_4] 28 (0,0)) (by (with_reducible repeat (first|refine blk_drewN ?_ _|refine blk_drew ?_|refine blk_alloc ?_ _));exact BK104.out) hb);have n1_:=Aside0.mk (below_step (by repeat (first|(with_reducible first|exact HB.out|apply below_alloc|apply pw_below_drewN|apply below_drew1|refine below_set ?_ GE104.out)|exact HB.out)) hb);have n2_:=Aside0.mk (hbox);have n3_:=Aside0.mk ((by rw [hg];exact (below_size (by repeat (first|(with_reducible first|exact HB.out|apply below_alloc|apply pw_below_drewN|apply below_drew1|refine below_set ?_ GE104.out)|exact HB.out))) : w.heap.size≤gb105));have n4_:=Aside0.mk ((by rw [hg];exact (below_size (by repeat (first|(with_reducible first|exact HB.out|apply below_alloc|apply pw_below_drewN|apply below_drew1|refine below_set ?_ GE104.out)|exact HB.out))) : w.heap.size≤gb105));have n5_:=Aside0.mk ((by rw [hg];exact Nat.ne_of_lt (blk_lt (g:=gb104) (o:=.cells #[.int .u32 a0_0,.int .u64 a0_1,.int .i64 a0_2,.string a0_3,.slice A0_4 l0_4.length c0_4] 28 (0,0)) (by (with_reducible repeat (first|refine blk_drewN ?_ _|refine blk_drew ?_|refine blk_alloc ?_ _));exact BK104.out)) : gb104≠gb105));have n6_:=Aside0.mk ((by rw [hg];exact Nat.ne_of_gt (blk_lt (g:=gb104) (o:=.cells #[.int .u32 a0_0,.int .u64 a0_1,.int .i64 a0_2,.string a0_3,.slice A0_4 l0_4.length c0_4] 28 (0,0)) (by (with_reducible repeat (first|refine blk_drewN ?_ _|refine blk_drew ?_|refine blk_alloc ?_ _));exact BK104.out)) : gb105≠gb104));clear BK104;clear HB;have BK104:=n0_;have HB:=n1_;have BK105:=n2_;have GW105:=n3_;have GE105:=n4_;have NB104_105:=n5_;have NB105_104:=n6_;clear n0_ n1_ n2_ n3_ n4_ n5_ n6_;clear hb hbox hg;have hnb13:=NB105_104.out;have hnc13:=NB104_105.out;have hcz14_0 : w12.cell? ⟨gb105,0,none⟩=some (.int .i64 a1_0):=(blk_cell BK105.out 0).trans rfl;have hcz14_1 : w12.cell? ⟨gb105,1,none⟩=some (.int .i64 a1_1):=(blk_cell BK105.out 1).trans rfl;have hcz14_2 : w12.cell? ⟨gb105,2,none⟩=some (.string a1_2):=(blk_cell BK105.out 2).trans rfl;have hcz14_3 : w12.cell? ⟨gb105,3,none⟩=some (.string a1_3):=(blk_cell BK105.out 3).trans rfl;have hfz14_0:=blk_frozen BK105.out 0;have hfz14_1:=blk_frozen BK105.out 1;have hfz14_2:=blk_frozen BK105.out 2;have hfz14_3:=blk_frozen BK105.out 3;have hcz15_0 : w12.cell? ⟨gb104,0,none⟩=some (.int .u32 a0_0):=(blk_cell BK104.out 0).trans rfl;have hcz15_1 : w12.cell? ⟨gb104,1,none⟩=some (.int .u64 a0_1):=(blk_cell BK104.out 1).trans rfl;have hcz15_2 : w12.cell? ⟨gb104,2,none⟩=some (.int .i64 a0_2):=(blk_cell BK104.out 2).trans rfl;have hcz15_3 : w12.cell? ⟨gb104,3,none⟩=some (.string a0_3):=(blk_cell BK104.out 3).trans rfl;have hcz15_4 : w12.cell? ⟨gb104,4,none⟩=some (.slice A0_4 l0_4.length c0_4):=(blk_cell BK104.out 4).trans rfl;have hfz15_0:=blk_frozen BK104.out 0;have hfz15_1:=blk_frozen BK104.out 1;have hfz15_2:=blk_frozen BK104.out 2;have hfz15_3:=blk_frozen BK104.out 3;have hfz15_4:=blk_frozen BK104.out 4))
    go_ret
    exact ⟨by first|rfl|(simp [errW_none,errW_some] <;> rfl)|(simp [*,errW_none,errW_some] <;> rfl),by repeat (first|(with_reducible first|exact HB.out|apply below_alloc|apply pw_below_drewN|apply below_drew1|refine below_set ?_ GE104.out|refine below_set ?_ GE105.out)|exact HB.out)⟩
   ·rw [if_neg c10] at H
    have c10b0 : decide (64≤(l0_4.length : Int))=false:=decide_eq_false c10
    have c10b1 : decide (64≤l0_4.length)=false:=decide_eq_false (by omega)
    clear c10
    obtain rfl:=Option.some.inj H
    go_enter Try.func33,Try.ntmps33
    go_wp2_with (first|((with_reducible refine gate_dst (N:=2) rfl ?_);(try (refine gate_guard (by rfl) ?_;dsimp only));refine box_event ?hg (N:=2) ?hd (cs:=#[.int .u32 a0_0,.int .u64 a0_1,.int .i64 a0_2,.string a0_3,.slice A0_4 l0_4.length c0_4]) (t:=28) ?hr ?_;(case hd=>rfl);(case hg=>rfl);(case hr=>first|(go_simp;done)|(go_simp;rfl));intro gb104 hg w16 hbox hb;have n0_:=Aside0.mk (below_step (by repeat (first|(with_reducible first|exact HB.out|apply below_alloc|apply pw_below_drewN|apply below_drew1)|exact HB.out)) hb);have n1_:=Aside0.mk (hbox);have n2_:=Aside0.mk ((by rw [hg];exact (below_size (by repeat (first|(with_reducible first|exact HB.out|apply below_alloc|apply pw_below_drewN|apply below_drew1)|exact HB.out))) : w.heap.size≤gb104));have n3_:=Aside0.mk ((by rw [hg];exact (below_size (by repeat (first|(with_reducible first|exact HB.out|apply below_alloc|apply pw_below_drewN|apply below_drew1)|exact HB.out))) : w.heap.size≤gb104));clear HB;have HB:=n0_;have BK104:=n1_;have GW104:=n2_;have GE104:=n3_;clear n0_ n1_ n2_ n3_;clear hb hbox hg)|((with_reducible refine gate_dst (N:=3) rfl ?_);(try (refine gate_guard (by rfl) ?_;dsimp only));refine box_event ?hg (N:=3) ?hd (cs:=#[.int .i64 a1_0,.int .i64 a1_1,.string a1_2,.string a1_3]) (t:=38) ?hr ?_;(case hd=>rfl);(case hg=>rfl);(case hr=>first|(go_simp;done)|(go_simp;rfl));intro gb105 hg w17 hbox hb;have n0_:=Aside0.mk (blk_below (g:=gb104) (o:=.cells #[.int .u32 a0_0,.int .u64 a0_1,.int .i64 a0_2,.string a0_3,.slice A0_4 l0_4.length c0_4] 28 (0,0)) (by (with_reducible repeat (first|refine blk_drewN ?_ _|refine blk_drew ?_|refine blk_alloc ?_ _));exact BK104.out) hb);have n1_:=Aside0.mk (below_step (by repeat (first|(with_reducible first|exact HB.out|apply below_alloc|apply pw_below_drewN|apply below_drew1|refine below_set ?_ GE104.out)|exact HB.out)) hb);have n2_:=Aside0.mk (hbox);have n3_:=Aside0.mk ((by rw [hg];exact (below_size (by repeat (first|(with_reducible first|exact HB.out|apply below_alloc|apply pw_below_drewN|apply below_drew1|refine below_set ?_ GE104.out)|exact HB.out))) : w.heap.size≤gb105));have n4_:=Aside0.mk ((by rw [hg];exact (below_size (by repeat (first|(with_reducible first|exact HB.out|apply below_alloc|apply pw_below_drewN|apply below_drew1|refine below_set ?_ GE104.out)|exact HB.out))) : w.heap.size≤gb105));have n5_:=Aside0.mk ((by rw [hg];exact Nat.ne_of_lt (blk_lt (g:=gb104) (o:=.cells #[.int .u32 a0_0,.int .u64 a0_1,.int .i64 a0_2,.string a0_3,.slice A0_4 l0_4.length c0_4] 28 (0,0)) (by (with_reducible repeat (first|refine blk_drewN ?_ _|refine blk_drew ?_|refine blk_alloc ?_ _));exact BK104.out)) : gb104≠gb105));have n6_:=Aside0.mk ((by rw [hg];exact Nat.ne_of_gt (blk_lt (g:=gb104) (o:=.cells #[.int .u32 a0_0,.int .u64 a0_1,.int .i64 a0_2,.string a0_3,.slice A0_4 l0_4.length c0_4] 28 (0,0)) (by (with_reducible repeat (first|refine blk_drewN ?_ _|refine blk_drew ?_|refine blk_alloc ?_ _));exact BK104.out)) : gb105≠gb104));clear BK104;clear HB;have BK104:=n0_;have HB:=n1_;have BK105:=n2_;have GW105:=n3_;have GE105:=n4_;have NB104_105:=n5_;have NB105_104:=n6_;clear n0_ n1_ n2_ n3_ n4_ n5_ n6_;clear hb hbox hg;have hnb18:=NB105_104.out;have hnc18:=NB104_105.out;have hcz19_0 : w17.cell? ⟨gb105,0,none⟩=some (.int .i64 a1_0):=(blk_cell BK105.out 0).trans rfl;have hcz19_1 : w17.cell? ⟨gb105,1,none⟩=some (.int .i64 a1_1):=(blk_cell BK105.out 1).trans rfl;have hcz19_2 : w17.cell? ⟨gb105,2,none⟩=some (.string a1_2):=(blk_cell BK105.out 2).trans rfl;have hcz19_3 : w17.cell? ⟨gb105,3,none⟩=some (.string a1_3):=(blk_cell BK105.out 3).trans rfl;have hfz19_0:=blk_frozen BK105.out 0;have hfz19_1:=blk_frozen BK105.out 1;have hfz19_2:=blk_frozen BK105.out 2;have hfz19_3:=blk_frozen BK105.out 3;have hcz20_0 : w17.cell? ⟨gb104,0,none⟩=some (.int .u32 a0_0):=(blk_cell BK104.out 0).trans rfl;have hcz20_1 : w17.cell? ⟨gb104,1,none⟩=some (.int .u64 a0_1):=(blk_cell BK104.out 1).trans rfl;have hcz20_2 : w17.cell? ⟨gb104,2,none⟩=some (.int .i64 a0_2):=(blk_cell BK104.out 2).trans rfl;have hcz20_3 : w17.cell? ⟨gb104,3,none⟩=some (.string a0_3):=(blk_cell BK104.out 3).trans rfl;have hcz20_4 : w17.cell? ⟨gb104,4,none⟩=some (.slice A0_4 l0_4.length c0_4):=(blk_cell BK104.out 4).trans rfl;have hfz20_0:=blk_frozen BK104.out 0;have hfz20_1:=blk_frozen BK104.out 1;have hfz20_2:=blk_frozen BK104.out 2;have hfz20_3:=blk_frozen BK104.out 3;have hfz20_4:=blk_frozen BK104.out 4))
    go_ret
    exact ⟨by first|rfl|(simp [errW_none,errW_some] <;> rfl)|(simp [*,errW_none,errW_some] <;> rfl),by repeat (first|(with_reducible first|exact HB.out|apply below_alloc|apply pw_below_drewN|apply below_drew1|refine below_set ?_ GE104.out|refine below_set ?_ GE105.out)|exact HB.out)⟩
 ·rw [if_neg c3] at H
  have c3b0 : (a1_0 == 2)=false:=beq_eq_false_iff_ne.mpr c3
  have c3b1 : (a1_0 != 2)=true:=bne_iff_ne.mpr c3
  have HC21:=Aside0.mk H
  clear H
  go_enter Try.func33,Try.ntmps33
  go_upto_if 19 with (first|((with_reducible refine gate_dst (N:=2) rfl ?_);(try (refine gate_guard (by rfl) ?_;dsimp only));refine box_event ?hg (N:=2) ?hd (cs:=#[.int .u32 a0_0,.int .u64 a0_1,.int .i64 a0_2,.string a0_3,.slice A0_4 l0_4.length c0_4]) (t:=28) ?hr ?_;(case hd=>rfl);(case hg=>rfl);(case hr=>first|(go_simp;done)|(go_simp;rfl));intro gb104 hg w22 hbox hb;have n0_:=Aside0.mk (below_step (by repeat (first|(with_reducible first|exact HB.out|apply below_alloc|apply pw_below_drewN|apply below_drew1)|exact HB.out)) hb);have n1_:=Aside0.mk (hbox);have n2_:=Aside0.mk ((by rw [hg];exact (below_size (by repeat (first|(with_reducible first|exact HB.out|apply below_alloc|apply pw_below_drewN|apply below_drew1)|exact HB.out))) : w.heap.size≤gb104));have n3_:=Aside0.mk ((by rw [hg];exact (below_size (by repeat (first|(with_reducible first|exact HB.out|apply below_alloc|apply pw_below_drewN|apply below_drew1)|exact HB.out))) : w.heap.size≤gb104));clear HB;have HB:=n0_;have BK104:=n1_;have GW104:=n2_;have GE104:=n3_;clear n0_ n1_ n2_ n3_;clear hb hbox hg)|((with_reducible refine gate_dst (N:=3) rfl ?_);(try (refine gate_guard (by rfl) ?_;dsimp only));refine box_event ?hg (N:=3) ?hd (cs:=#[.int .i64 a1_0,.int .i64 a1_1,.string a1_2,.string a1_3]) (t:=38) ?hr ?_;(case hd=>rfl);(case hg=>rfl);(case hr=>first|(go_simp;done)|(go_simp;rfl));intro gb105 hg w23 hbox hb;have n0_:=Aside0.mk (blk_below (g:=gb104) (o:=.cells #[.int .u32 a0_0,.int .u64 a0_1,.int .i64 a0_2,.string a0_3,.slice A0_4 l0_4.length c0_4] 28 (0,0)) (by (with_reducible repeat (first|refine blk_drewN ?_ _|refine blk_drew ?_|refine blk_alloc ?_ _));exact BK104.out) hb);have n1_:=Aside0.mk (below_step (by repeat (first|(with_reducible first|exact HB.out|apply below_alloc|apply pw_below_drewN|apply below_drew1|refine below_set ?_ GE104.out)|exact HB.out)) hb);have n2_:=Aside0.mk (hbox);have n3_:=Aside0.mk ((by rw [hg];exact (below_size (by repeat (first|(with_reducible first|exact HB.out|apply below_alloc|apply pw_below_drewN|apply below_drew1|refine below_set ?_ GE104.out)|exact HB.out))) : w.heap.size≤gb105));have n4_:=Aside0.mk ((by rw [hg];exact (below_size (by repeat (first|(with_reducible first|exact HB.out|apply below_alloc|apply pw_below_drewN|apply below_drew1|refine below_set ?_ GE104.out)|exact HB.out))) : w.heap.size≤gb105));have n5_:=Aside0.mk ((by rw [hg];exact Nat.ne_of_lt (blk_lt (g:=gb104) (o:=.cells #[.int .u32 a0_0,.int .u64 a0_1,.int .i64 a0_2,.string a0_3,.slice A0_4 l0_4.length c0_4] 28 (0,0)) (by (with_reducible repeat (first|refine blk_drewN ?_ _|refine blk_drew ?_|refine blk_alloc ?_ _));exact BK104.out)) : gb104≠gb105));have n6_:=Aside0.mk ((by rw [hg];exact Nat.ne_of_gt (blk_lt (g:=gb104) (o:=.cells #[.int .u32 a0_0,.int .u64 a0_1,.int .i64 a0_2,.string a0_3,.slice A0_4 l0_4.length c0_4] 28 (0,0)) (by (with_reducible repeat (first|refine blk_drewN ?_ _|refine blk_drew ?_|refine blk_alloc ?_ _));exact BK104.out)) : gb105≠gb104));clear BK104;clear HB;have BK104:=n0_;have HB:=n1_;have BK105:=n2_;have GW105:=n3_;have GE105:=n4_;have NB104_105:=n5_;have NB105_104:=n6_;clear n0_ n1_ n2_ n3_ n4_ n5_ n6_;clear hb hbox hg;have hnb24:=NB105_104.out;have hnc24:=NB104_105.out;have hcz25_0 : w23.cell? ⟨gb105,0,none⟩=some (.int .i64 a1_0):=(blk_cell BK105.out 0).trans rfl;have hcz25_1 : w23.cell? ⟨gb105,1,none⟩=some (.int .i64 a1_1):=(blk_cell BK105.out 1).trans rfl;have hcz25_2 : w23.cell? ⟨gb105,2,none⟩=some (.string a1_2):=(blk_cell BK105.out 2).trans rfl;have hcz25_3 : w23.cell? ⟨gb105,3,none⟩=some (.string a1_3):=(blk_cell BK105.out 3).trans rfl;have hfz25_0:=blk_frozen BK105.out 0;have hfz25_1:=blk_frozen BK105.out 1;have hfz25_2:=blk_frozen BK105.out 2;have hfz25_3:=blk_frozen BK105.out 3))
  (try simp only [Act.put,sA_,sB_,sC_])
  go_cut [19] (fun v19 wc=>∃ (kq : Nat) (x19_20 : Bool),v19=.bool x19_20∧Aside0 (page_stands.j0 kq a1_0 x19_20 a0_0 a0_1 a0_2 a0_3 l0_4 a1_0 a1_1 a1_2 a1_3=some r)∧Aside0 (kq≤k)∧Aside0 (wc.heap[gb104]?=some (.cells #[.int .u32 a0_0,.int .u64 a0_1,.int .i64 a0_2,.string a0_3,(.slice A0_4 l0_4.length c0_4)] 28 (0,0)))∧Aside0 (wc.heap[gb105]?=some (.cells #[.int .i64 a1_0,.int .i64 a1_1,.string a1_2,.string a1_3] 38 (0,0)))∧Aside0 (Below w.heap.size w wc))
  case first =>
   have H:=HC21.out
   clear HC21
   by_cases c26 : a1_0=3
   ·rw [if_pos c26] at H
    have c26b0 : (a1_0 == 3)=true:=beq_iff_eq.mpr c26
    have c26b1 : (a1_0 != 3)=false:=bne_eq_false_iff_eq.mpr c26
    clear c26
    (first|rw [c26b0]|(simp only [i64_w,i32_w];rw [c26b0])|skip)
    have H':=Aside0.mk H
    clear H
    go_wp2
    go_meet
    case rel=>exact ⟨_,((a1_0 == 3)),(by first|rfl|(simp;done)|(simp [*];done)),H',⟨by first|omega|exact Nat.le_refl _⟩,⟨by (with_reducible repeat (first|refine blk_drewN ?_ _|refine blk_drew ?_|refine blk_alloc ?_ _));exact BK104.out⟩,⟨by (with_reducible repeat (first|refine blk_drewN ?_ _|refine blk_drew ?_|refine blk_alloc ?_ _));exact BK105.out⟩,⟨by repeat (first|(with_reducible first|exact HB.out|apply below_alloc|apply pw_below_drewN|apply below_drew1|refine below_set ?_ GE104.out|refine below_set ?_ GE105.out)|exact HB.out)⟩⟩
   ·rw [if_neg c26] at H
    have c26b0 : (a1_0 == 3)=false:=beq_eq_false_iff_ne.mpr c26
    have c26b1 : (a1_0 != 3)=true:=bne_iff_ne.mpr c26
    (first|rw [c26b0]|(simp only [i64_w,i32_w];rw [c26b0])|skip)
    have H':=Aside0.mk H
    clear H
    go_wp2
    go_meet
    case rel=>exact ⟨_,((a1_0 == 4)),(by first|rfl|(simp;done)|(simp [*];done)),H',⟨by first|omega|exact Nat.le_refl _⟩,⟨by (with_reducible repeat (first|refine blk_drewN ?_ _|refine blk_drew ?_|refine blk_alloc ?_ _));exact BK104.out⟩,⟨by (with_reducible repeat (first|refine blk_drewN ?_ _|refine blk_drew ?_|refine blk_alloc ?_ _));exact BK105.out⟩,⟨by repeat (first|(with_reducible first|exact HB.out|apply below_alloc|apply pw_below_drewN|apply below_drew1|refine below_set ?_ GE104.out|refine below_set ?_ GE105.out)|exact HB.out)⟩⟩
  case rest =>
   clear HC21
   try clear c1
   try clear c2
   try clear p2
   try clear c3
   try clear c3b0
   try clear c3b1
   try clear c4
   try clear c4b0
   try clear c7
   try clear c10
   try clear c10b0
   try clear c10b1
   try clear c13
   try clear c18
   try clear c24
   try clear c26
   try clear c26b0
   try clear c26b1
   try clear hcz14_0
   try clear hcz14_1
   try clear hcz14_2
   try clear hcz14_3
   try clear hcz15_0
   try clear hcz15_1
   try clear hcz15_2
   try clear hcz15_3
   try clear hcz15_4
   try clear hcz19_0
   try clear hcz19_1
   try clear hcz19_2
   try clear hcz19_3
   try clear hcz20_0
   try clear hcz20_1
   try clear hcz20_2
   try clear hcz20_3
   try clear hcz20_4
   try clear hcz25_0
   try clear hcz25_1
   try clear hcz25_2
   try clear hcz25_3
   try clear hcz8_0
   try clear hcz8_1
   try clear hcz8_2
   try clear hcz8_3
   try clear hcz9_0
   try clear hcz9_1
   try clear hcz9_2
   try clear hcz9_3
   try clear hcz9_4
   try clear hfz14_0
   try clear hfz14_1
   try clear hfz14_2
   try clear hfz14_3
   try clear hfz15_0
   try clear hfz15_1
   try clear hfz15_2
   try clear hfz15_3
   try clear hfz15_4
   try clear hfz19_0
   try clear hfz19_1
   try clear hfz19_2
   try clear hfz19_3
   try clear hfz20_0
   try clear hfz20_1
   try clear hfz20_2
   try clear hfz20_3
   try clear hfz20_4
   try clear hfz25_0
   try clear hfz25_1
   try clear hfz25_2
   try clear hfz25_3
   try clear hfz8_0
   try clear hfz8_1
   try clear hfz8_2
   try clear hfz8_3
   try clear hfz9_0
   try clear hfz9_1
   try clear hfz9_2
   try clear hfz9_3
   try clear hfz9_4
   obtain ⟨kq,x19_20,rfl,HA,HJ20,BK104,BK105,HB⟩:=hcut
   cases kq with
   | zero=>exact absurd HA.out (by simp [page_stands.j0])
   | succ kj20 =>
    have H:=HA.out
    clear HA
    simp only [page_stands.j0] at H
    by_cases c27 : x19_20=true
    ·subst c27
     have H1 : (if a1_1 ≥ (l0_4.length : Int) then (some 1) else (if 0≤a1_1 then (if a1_1 < (l0_4.length : Int) then (if (rdOf ByteArray.empty l0_4 a1_1).toList=a1_3.toList then (some 0) else (some 31)) else (none)) else (none)))=some r:=by rw [if_pos rfl] at H;exact H
     clear H
     have H:=H1
     clear H1
     by_cases c28 : a1_1 ≥ (l0_4.length : Int)
     ·rw [if_pos c28] at H
      have c28b0 : decide ((l0_4.length : Int)≤a1_1)=true:=decide_eq_true c28
      clear c28
      obtain rfl:=Option.some.inj H
      have hnb29:=NB105_104.out
      have hnc29:=NB104_105.out
      have hcz30_0 : wc.cell? ⟨gb105,0,none⟩=some (.int .i64 a1_0):=(blk_cell BK105.out 0).trans rfl
      have hcz30_1 : wc.cell? ⟨gb105,1,none⟩=some (.int .i64 a1_1):=(blk_cell BK105.out 1).trans rfl
      have hcz30_2 : wc.cell? ⟨gb105,2,none⟩=some (.string a1_2):=(blk_cell BK105.out 2).trans rfl
      have hcz30_3 : wc.cell? ⟨gb105,3,none⟩=some (.string a1_3):=(blk_cell BK105.out 3).trans rfl
      have hfz30_0:=blk_frozen BK105.out 0
      have hfz30_1:=blk_frozen BK105.out 1
      have hfz30_2:=blk_frozen BK105.out 2
      have hfz30_3:=blk_frozen BK105.out 3
      have hcz31_0 : wc.cell? ⟨gb104,0,none⟩=some (.int .u32 a0_0):=(blk_cell BK104.out 0).trans rfl
      have hcz31_1 : wc.cell? ⟨gb104,1,none⟩=some (.int .u64 a0_1):=(blk_cell BK104.out 1).trans rfl
      have hcz31_2 : wc.cell? ⟨gb104,2,none⟩=some (.int .i64 a0_2):=(blk_cell BK104.out 2).trans rfl
      have hcz31_3 : wc.cell? ⟨gb104,3,none⟩=some (.string a0_3):=(blk_cell BK104.out 3).trans rfl
      have hcz31_4 : wc.cell? ⟨gb104,4,none⟩=some (.slice A0_4 l0_4.length c0_4):=(blk_cell BK104.out 4).trans rfl
      have hfz31_0:=blk_frozen BK104.out 0
      have hfz31_1:=blk_frozen BK104.out 1
      have hfz31_2:=blk_frozen BK104.out 2
      have hfz31_3:=blk_frozen BK104.out 3
      have hfz31_4:=blk_frozen BK104.out 4
      go_wp2
      go_ret
      exact ⟨by first|rfl|(simp [errW_none,errW_some] <;> rfl)|(simp [*,errW_none,errW_some] <;> rfl),by repeat (first|(with_reducible first|exact HB.out|apply below_alloc|apply pw_below_drewN|apply below_drew1|refine below_set ?_ GE104.out|refine below_set ?_ GE105.out)|exact HB.out)⟩
     ·rw [if_neg c28] at H
      have c28b0 : decide ((l0_4.length : Int)≤a1_1)=false:=decide_eq_false c28
      clear c28
      by_cases c32 : 0≤a1_1
      ·rw [if_pos c32] at H
       have c32b0 : decide (0≤a1_1)=true:=decide_eq_true c32
       clear c32
       by_cases c33 : a1_1 < (l0_4.length : Int)
       ·rw [if_pos c33] at H
        have c33b0 : decide (a1_1 < (l0_4.length : Int))=true:=decide_eq_true c33
        clear c33
        by_cases c34 : (rdOf ByteArray.empty l0_4 a1_1).toList=a1_3.toList
        ·rw [if_pos c34] at H
         have c34b0 : ((rdOf ByteArray.empty l0_4 a1_1).toList == a1_3.toList)=true:=beq_iff_eq.mpr c34
         have c34b1 : ((rdOf ByteArray.empty l0_4 a1_1).toList != a1_3.toList)=false:=bne_eq_false_iff_eq.mpr c34
         clear c34
         obtain rfl:=Option.some.inj H
         have hnb35:=NB105_104.out
         have hnc35:=NB104_105.out
         have hcz36_0 : wc.cell? ⟨gb105,0,none⟩=some (.int .i64 a1_0):=(blk_cell BK105.out 0).trans rfl
         have hcz36_1 : wc.cell? ⟨gb105,1,none⟩=some (.int .i64 a1_1):=(blk_cell BK105.out 1).trans rfl
         have hcz36_2 : wc.cell? ⟨gb105,2,none⟩=some (.string a1_2):=(blk_cell BK105.out 2).trans rfl
         have hcz36_3 : wc.cell? ⟨gb105,3,none⟩=some (.string a1_3):=(blk_cell BK105.out 3).trans rfl
         have hfz36_0:=blk_frozen BK105.out 0
         have hfz36_1:=blk_frozen BK105.out 1
         have hfz36_2:=blk_frozen BK105.out 2
         have hfz36_3:=blk_frozen BK105.out 3
         have hcz37_0 : wc.cell? ⟨gb104,0,none⟩=some (.int .u32 a0_0):=(blk_cell BK104.out 0).trans rfl
         have hcz37_1 : wc.cell? ⟨gb104,1,none⟩=some (.int .u64 a0_1):=(blk_cell BK104.out 1).trans rfl
         have hcz37_2 : wc.cell? ⟨gb104,2,none⟩=some (.int .i64 a0_2):=(blk_cell BK104.out 2).trans rfl
         have hcz37_3 : wc.cell? ⟨gb104,3,none⟩=some (.string a0_3):=(blk_cell BK104.out 3).trans rfl
         have hcz37_4 : wc.cell? ⟨gb104,4,none⟩=some (.slice A0_4 l0_4.length c0_4):=(blk_cell BK104.out 4).trans rfl
         have hfz37_0:=blk_frozen BK104.out 0
         have hfz37_1:=blk_frozen BK104.out 1
         have hfz37_2:=blk_frozen BK104.out 2
         have hfz37_3:=blk_frozen BK104.out 3
         have hfz37_4:=blk_frozen BK104.out 4
         try go_wp2
         have n0_:=Aside0.mk (blk_drew BK104.out)
         have n1_:=Aside0.mk (blk_drew BK105.out)
         have n2_:=Aside0.mk (below_drew1 HB.out)
         clear BK104
         clear BK105
         clear HB
         have BK104:=n0_
         have BK105:=n1_
         have HB:=n2_
         clear n0_ n1_ n2_
         have p106 : 0≤(a1_1 : Int):=of_decide_eq_true (by first|(with_reducible assumption)|assumption)
         have q106 : a1_1 < (l0_4.length : Int):=of_decide_eq_true (by first|(with_reducible assumption)|assumption)
         obtain ⟨ad106,e106,hx106_0⟩:=Kd.at_string HR0_4.out a1_1 p106 q106
         have hw106_0:=hx106_0
         cases e106
         replace hx106_0:=(HB.out.cell (World.block_lt_of_cell? w _ hx106_0)).trans hx106_0
         replace p106:=eq_true p106
         replace q106:=eq_true q106
         refine start_ (n:=9) (S:=fun w'=>w'.cell? ⟨gb104,0,none⟩=some (.int .u32 a0_0)∧w'.cell? ⟨gb104,1,none⟩=some (.int .u64 a0_1)∧w'.cell? ⟨gb104,2,none⟩=some (.int .i64 a0_2)∧w'.cell? ⟨gb104,3,none⟩=some (.string a0_3)∧w'.cell? ⟨gb104,4,none⟩=some (.slice (some ad106) l0_4.length c0_4)∧w'.cell? ⟨gb105,0,none⟩=some (.int .i64 a1_0)∧w'.cell? ⟨gb105,1,none⟩=some (.int .i64 a1_1)∧w'.cell? ⟨gb105,2,none⟩=some (.string a1_2)∧w'.cell? ⟨gb105,3,none⟩=some (.string a1_3)∧w'.cell? (ad106.add (a1_1).toNat)=some (.string (rdOf ByteArray.empty l0_4 a1_1))) (ds:=[]) #[false,false,false,false,false,false,false,false,false] (by kernel_rfl) rfl rfl ⟨(blk_cell BK104.out 0).trans rfl,(blk_cell BK104.out 1).trans rfl,(blk_cell BK104.out 2).trans rfl,(blk_cell BK104.out 3).trans rfl,(blk_cell BK104.out 4).trans rfl,(blk_cell BK105.out 0).trans rfl,(blk_cell BK105.out 1).trans rfl,(blk_cell BK105.out 2).trans rfl,(blk_cell BK105.out 3).trans rfl,((HB.out.cell (World.block_lt_of_cell? w _ hw106_0)).trans hw106_0)⟩ (fun hHeld=>?_);refine with_tabW page_stands.tab11 page_stands.bits11 (fun HT_ HW_=>?_)
         generalize wc.drew=w38 at BK104 BK105 HB hx106_0 hHeld ⊢
         refine pure_ (i:=0) (N:=some 28) (v:=?_) (a':=?_) #[true,false,false,false,false,false,false,false,false] rfl rfl (any_of HT_.out (by kernel_rfl)) (fun _ _ _ h=>h) (Or.inl ⟨by rfl,?_⟩) ?_ ?_;rotate_left;(focus (intro w';go_simp;with_reducible rfl));rotate_left;(focus (simp only [Act.put,sA_,sB_,sC_,i64_w,i32_w];rfl))
         refine pure_ (i:=2) (N:=some 30) (v:=?_) (a':=?_) #[true,false,true,false,false,false,false,false,false] rfl rfl (any_of HT_.out (by kernel_rfl)) (fun _ _ _ h=>h) (Or.inl ⟨by rfl,?_⟩) ?_ ?_;rotate_left;(focus (intro w';go_simp;with_reducible rfl));rotate_left;(focus (simp only [Act.put,sA_,sB_,sC_,i64_w,i32_w];rfl))
         refine pure_ (i:=6) (N:=some 34) (v:=?_) (a':=?_) #[true,false,true,false,false,false,true,false,false] rfl rfl (any_of HT_.out (by kernel_rfl)) (fun _ _ _ h=>h) (Or.inl ⟨by rfl,?_⟩) ?_ ?_;rotate_left;(focus (intro w';go_simp;with_reducible rfl));rotate_left;(focus (simp only [Act.put,sA_,sB_,sC_,i64_w,i32_w];rfl))
         refine take_ (i:=1) (N:=some 29) (v:=?_) (a':=?_) #[true,true,true,false,false,false,true,false,false] rfl rfl (take_ofW HT_.out HW_.out (by kernel_rfl)) (fun _ _ _ h=>h) (Or.inl ⟨by rfl,?_⟩) hHeld ?_ ?_;rotate_left;(focus (rintro w' ⟨s0,s1,s2,s3,s4,s5,s6,s7,s8,s9⟩;go_simp;with_reducible rfl));rotate_left;(focus (simp only [Act.put,sA_,sB_,sC_,i64_w,i32_w];rfl))
         refine take_ (i:=3) (N:=some 31) (v:=?_) (a':=?_) #[true,true,true,true,false,false,true,false,false] rfl rfl (take_ofW HT_.out HW_.out (by kernel_rfl)) (fun _ _ _ h=>h) (Or.inl ⟨by rfl,?_⟩) hHeld ?_ ?_;rotate_left;(focus (rintro w' ⟨s0,s1,s2,s3,s4,s5,s6,s7,s8,s9⟩;go_simp;with_reducible rfl));rotate_left;(focus (simp only [Act.put,sA_,sB_,sC_,i64_w,i32_w];rfl))
         refine pure_ (i:=4) (N:=some 32) (v:=?_) (a':=?_) #[true,true,true,true,true,false,true,false,false] rfl rfl (any_of HT_.out (by kernel_rfl)) (fun _ _ _ h=>h) (Or.inl ⟨by rfl,?_⟩) ?_ ?_;rotate_left;(focus (intro w';go_simp;with_reducible rfl));rotate_left;(focus (simp only [Act.put,sA_,sB_,sC_,i64_w,i32_w];rfl))
         refine take_ (i:=5) (N:=some 33) (v:=?_) (a':=?_) #[true,true,true,true,true,true,true,false,false] rfl rfl (take_ofW HT_.out HW_.out (by kernel_rfl)) (fun _ _ _ h=>h) (Or.inl ⟨by rfl,?_⟩) hHeld ?_ ?_;rotate_left;(focus (rintro w' ⟨s0,s1,s2,s3,s4,s5,s6,s7,s8,s9⟩;go_simp;with_reducible rfl));rotate_left;(focus (simp only [Act.put,sA_,sB_,sC_,i64_w,i32_w];rfl))
         refine take_ (i:=7) (N:=some 35) (v:=?_) (a':=?_) #[true,true,true,true,true,true,true,true,false] rfl rfl (take_ofW HT_.out HW_.out (by kernel_rfl)) (fun _ _ _ h=>h) (Or.inl ⟨by rfl,?_⟩) hHeld ?_ ?_;rotate_left;(focus (rintro w' ⟨s0,s1,s2,s3,s4,s5,s6,s7,s8,s9⟩;go_simp;with_reducible rfl));rotate_left;(focus (simp only [Act.put,sA_,sB_,sC_,i64_w,i32_w];rfl))
         refine pure_ (i:=8) (N:=some 36) (v:=?_) (a':=?_) #[true,true,true,true,true,true,true,true,true] rfl rfl (any_of HT_.out (by kernel_rfl)) (fun _ _ _ h=>h) (Or.inl ⟨by rfl,?_⟩) ?_ ?_;rotate_left;(focus (intro w';go_simp;with_reducible rfl));rotate_left;(focus (simp only [Act.put,sA_,sB_,sC_,i64_w,i32_w];rfl))
         refine done_ (done_of HT_.out (by kernel_rfl)) ?_
         try go_wp2
         go_ret
         exact ⟨by first|rfl|(simp [errW_none,errW_some] <;> rfl)|(simp [*,errW_none,errW_some] <;> rfl),by repeat (first|(with_reducible first|exact HB.out|apply below_alloc|apply pw_below_drewN|apply below_drew1|refine below_set ?_ GE104.out|refine below_set ?_ GE105.out)|exact HB.out)⟩
        ·rw [if_neg c34] at H
         have c34b0 : ((rdOf ByteArray.empty l0_4 a1_1).toList == a1_3.toList)=false:=beq_eq_false_iff_ne.mpr c34
         have c34b1 : ((rdOf ByteArray.empty l0_4 a1_1).toList != a1_3.toList)=true:=bne_iff_ne.mpr c34
         obtain rfl:=Option.some.inj H
         have hnb39:=NB105_104.out
         have hnc39:=NB104_105.out
         have hcz40_0 : wc.cell? ⟨gb105,0,none⟩=some (.int .i64 a1_0):=(blk_cell BK105.out 0).trans rfl
         have hcz40_1 : wc.cell? ⟨gb105,1,none⟩=some (.int .i64 a1_1):=(blk_cell BK105.out 1).trans rfl
         have hcz40_2 : wc.cell? ⟨gb105,2,none⟩=some (.string a1_2):=(blk_cell BK105.out 2).trans rfl
         have hcz40_3 : wc.cell? ⟨gb105,3,none⟩=some (.string a1_3):=(blk_cell BK105.out 3).trans rfl
         have hfz40_0:=blk_frozen BK105.out 0
         have hfz40_1:=blk_frozen BK105.out 1
         have hfz40_2:=blk_frozen BK105.out 2
         have hfz40_3:=blk_frozen BK105.out 3
         have hcz41_0 : wc.cell? ⟨gb104,0,none⟩=some (.int .u32 a0_0):=(blk_cell BK104.out 0).trans rfl
         have hcz41_1 : wc.cell? ⟨gb104,1,none⟩=some (.int .u64 a0_1):=(blk_cell BK104.out 1).trans rfl
         have hcz41_2 : wc.cell? ⟨gb104,2,none⟩=some (.int .i64 a0_2):=(blk_cell BK104.out 2).trans rfl
         have hcz41_3 : wc.cell? ⟨gb104,3,none⟩=some (.string a0_3):=(blk_cell BK104.out 3).trans rfl
         have hcz41_4 : wc.cell? ⟨gb104,4,none⟩=some (.slice A0_4 l0_4.length c0_4):=(blk_cell BK104.out 4).trans rfl
         have hfz41_0:=blk_frozen BK104.out 0
         have hfz41_1:=blk_frozen BK104.out 1
         have hfz41_2:=blk_frozen BK104.out 2
         have hfz41_3:=blk_frozen BK104.out 3
         have hfz41_4:=blk_frozen BK104.out 4
         try go_wp2
         have n0_:=Aside0.mk (blk_drew BK104.out)
         have n1_:=Aside0.mk (blk_drew BK105.out)
         have n2_:=Aside0.mk (below_drew1 HB.out)
         clear BK104
         clear BK105
         clear HB
         have BK104:=n0_
         have BK105:=n1_
         have HB:=n2_
         clear n0_ n1_ n2_
         have p106 : 0≤(a1_1 : Int):=of_decide_eq_true (by first|(with_reducible assumption)|assumption)
         have q106 : a1_1 < (l0_4.length : Int):=of_decide_eq_true (by first|(with_reducible assumption)|assumption)
         obtain ⟨ad106,e106,hx106_0⟩:=Kd.at_string HR0_4.out a1_1 p106 q106
         have hw106_0:=hx106_0
         cases e106
         replace hx106_0:=(HB.out.cell (World.block_lt_of_cell? w _ hx106_0)).trans hx106_0
         replace p106:=eq_true p106
         replace q106:=eq_true q106
         refine start_ (n:=9) (S:=fun w'=>w'.cell? ⟨gb104,0,none⟩=some (.int .u32 a0_0)∧w'.cell? ⟨gb104,1,none⟩=some (.int .u64 a0_1)∧w'.cell? ⟨gb104,2,none⟩=some (.int .i64 a0_2)∧w'.cell? ⟨gb104,3,none⟩=some (.string a0_3)∧w'.cell? ⟨gb104,4,none⟩=some (.slice (some ad106) l0_4.length c0_4)∧w'.cell? ⟨gb105,0,none⟩=some (.int .i64 a1_0)∧w'.cell? ⟨gb105,1,none⟩=some (.int .i64 a1_1)∧w'.cell? ⟨gb105,2,none⟩=some (.string a1_2)∧w'.cell? ⟨gb105,3,none⟩=some (.string a1_3)∧w'.cell? (ad106.add (a1_1).toNat)=some (.string (rdOf ByteArray.empty l0_4 a1_1))) (ds:=[]) #[false,false,false,false,false,false,false,false,false] (by kernel_rfl) rfl rfl ⟨(blk_cell BK104.out 0).trans rfl,(blk_cell BK104.out 1).trans rfl,(blk_cell BK104.out 2).trans rfl,(blk_cell BK104.out 3).trans rfl,(blk_cell BK104.out 4).trans rfl,(blk_cell BK105.out 0).trans rfl,(blk_cell BK105.out 1).trans rfl,(blk_cell BK105.out 2).trans rfl,(blk_cell BK105.out 3).trans rfl,((HB.out.cell (World.block_lt_of_cell? w _ hw106_0)).trans hw106_0)⟩ (fun hHeld=>?_);refine with_tabW page_stands.tab11 page_stands.bits11 (fun HT_ HW_=>?_)
         generalize wc.drew=w42 at BK104 BK105 HB hx106_0 hHeld ⊢
         refine pure_ (i:=0) (N:=some 28) (v:=?_) (a':=?_) #[true,false,false,false,false,false,false,false,false] rfl rfl (any_of HT_.out (by kernel_rfl)) (fun _ _ _ h=>h) (Or.inl ⟨by rfl,?_⟩) ?_ ?_;rotate_left;(focus (intro w';go_simp;with_reducible rfl));rotate_left;(focus (simp only [Act.put,sA_,sB_,sC_,i64_w,i32_w];rfl))
         refine pure_ (i:=2) (N:=some 30) (v:=?_) (a':=?_) #[true,false,true,false,false,false,false,false,false] rfl rfl (any_of HT_.out (by kernel_rfl)) (fun _ _ _ h=>h) (Or.inl ⟨by rfl,?_⟩) ?_ ?_;rotate_left;(focus (intro w';go_simp;with_reducible rfl));rotate_left;(focus (simp only [Act.put,sA_,sB_,sC_,i64_w,i32_w];rfl))
         refine pure_ (i:=6) (N:=some 34) (v:=?_) (a':=?_) #[true,false,true,false,false,false,true,false,false] rfl rfl (any_of HT_.out (by kernel_rfl)) (fun _ _ _ h=>h) (Or.inl ⟨by rfl,?_⟩) ?_ ?_;rotate_left;(focus (intro w';go_simp;with_reducible rfl));rotate_left;(focus (simp only [Act.put,sA_,sB_,sC_,i64_w,i32_w];rfl))
         refine take_ (i:=1) (N:=some 29) (v:=?_) (a':=?_) #[true,true,true,false,false,false,true,false,false] rfl rfl (take_ofW HT_.out HW_.out (by kernel_rfl)) (fun _ _ _ h=>h) (Or.inl ⟨by rfl,?_⟩) hHeld ?_ ?_;rotate_left;(focus (rintro w' ⟨s0,s1,s2,s3,s4,s5,s6,s7,s8,s9⟩;go_simp;with_reducible rfl));rotate_left;(focus (simp only [Act.put,sA_,sB_,sC_,i64_w,i32_w];rfl))
         refine take_ (i:=3) (N:=some 31) (v:=?_) (a':=?_) #[true,true,true,true,false,false,true,false,false] rfl rfl (take_ofW HT_.out HW_.out (by kernel_rfl)) (fun _ _ _ h=>h) (Or.inl ⟨by rfl,?_⟩) hHeld ?_ ?_;rotate_left;(focus (rintro w' ⟨s0,s1,s2,s3,s4,s5,s6,s7,s8,s9⟩;go_simp;with_reducible rfl));rotate_left;(focus (simp only [Act.put,sA_,sB_,sC_,i64_w,i32_w];rfl))
         refine pure_ (i:=4) (N:=some 32) (v:=?_) (a':=?_) #[true,true,true,true,true,false,true,false,false] rfl rfl (any_of HT_.out (by kernel_rfl)) (fun _ _ _ h=>h) (Or.inl ⟨by rfl,?_⟩) ?_ ?_;rotate_left;(focus (intro w';go_simp;with_reducible rfl));rotate_left;(focus (simp only [Act.put,sA_,sB_,sC_,i64_w,i32_w];rfl))
         refine take_ (i:=5) (N:=some 33) (v:=?_) (a':=?_) #[true,true,true,true,true,true,true,false,false] rfl rfl (take_ofW HT_.out HW_.out (by kernel_rfl)) (fun _ _ _ h=>h) (Or.inl ⟨by rfl,?_⟩) hHeld ?_ ?_;rotate_left;(focus (rintro w' ⟨s0,s1,s2,s3,s4,s5,s6,s7,s8,s9⟩;go_simp;with_reducible rfl));rotate_left;(focus (simp only [Act.put,sA_,sB_,sC_,i64_w,i32_w];rfl))
         refine take_ (i:=7) (N:=some 35) (v:=?_) (a':=?_) #[true,true,true,true,true,true,true,true,false] rfl rfl (take_ofW HT_.out HW_.out (by kernel_rfl)) (fun _ _ _ h=>h) (Or.inl ⟨by rfl,?_⟩) hHeld ?_ ?_;rotate_left;(focus (rintro w' ⟨s0,s1,s2,s3,s4,s5,s6,s7,s8,s9⟩;go_simp;with_reducible rfl));rotate_left;(focus (simp only [Act.put,sA_,sB_,sC_,i64_w,i32_w];rfl))
         refine pure_ (i:=8) (N:=some 36) (v:=?_) (a':=?_) #[true,true,true,true,true,true,true,true,true] rfl rfl (any_of HT_.out (by kernel_rfl)) (fun _ _ _ h=>h) (Or.inl ⟨by rfl,?_⟩) ?_ ?_;rotate_left;(focus (intro w';go_simp;with_reducible rfl));rotate_left;(focus (simp only [Act.put,sA_,sB_,sC_,i64_w,i32_w];rfl))
         refine done_ (done_of HT_.out (by kernel_rfl)) ?_
         try go_wp2
         go_ret
         exact ⟨by first|rfl|(simp [errW_none,errW_some] <;> rfl)|(simp [*,errW_none,errW_some] <;> rfl),by repeat (first|(with_reducible first|exact HB.out|apply below_alloc|apply pw_below_drewN|apply below_drew1|refine below_set ?_ GE104.out|refine below_set ?_ GE105.out)|exact HB.out)⟩
       ·rw [if_neg c33] at H
        exact absurd H (by simp)
      ·rw [if_neg c32] at H
       exact absurd H (by simp)
    ·replace c27:=Bool.eq_false_iff.mpr c27
     subst c27
     have H1 : (if a1_0=5 then (if a0_3.toList=a1_3.toList then (some 0) else (some 31)) else (if a1_0=7 then (if (l0_4.length : Int)=0 then ((page_Kind.f a0_2 a0_3).bind fun t107=>(if t107.toList=a1_3.toList then (some 0) else (some 31))) else (some 1)) else (if a1_0=6 then (if (l0_4.length : Int)=0 then (page_stands.j1 kj20 true a0_0 a0_1 a0_2 a0_3 l0_4 a1_0 a1_1 a1_2 a1_3) else (if 0 < (l0_4.length : Int) then (page_stands.j1 kj20 (decide ((wrap64 (((rdOf ByteArray.empty l0_4 0).size : Int) - a1_1)) < (a1_2.size : Int))) a0_0 a0_1 a0_2 a0_3 l0_4 a1_0 a1_1 a1_2 a1_3) else (none))) else (some 0))))=some r:=by rw [if_neg (show ¬ (false=true) by decide)] at H;exact H
     clear H
     have H:=H1
     clear H1
     by_cases c43 : a1_0=5
     ·rw [if_pos c43] at H
      have c43b0 : (a1_0 == 5)=true:=beq_iff_eq.mpr c43
      have c43b1 : (a1_0 != 5)=false:=bne_eq_false_iff_eq.mpr c43
      clear c43
      by_cases c44 : a0_3.toList=a1_3.toList
      ·rw [if_pos c44] at H
       have c44b0 : (a0_3.toList == a1_3.toList)=true:=beq_iff_eq.mpr c44
       have c44b1 : (a0_3.toList != a1_3.toList)=false:=bne_eq_false_iff_eq.mpr c44
       clear c44
       obtain rfl:=Option.some.inj H
       have hnb45:=NB104_105.out
       have hnc45:=NB105_104.out
       have hcz46_0 : wc.cell? ⟨gb104,0,none⟩=some (.int .u32 a0_0):=(blk_cell BK104.out 0).trans rfl
       have hcz46_1 : wc.cell? ⟨gb104,1,none⟩=some (.int .u64 a0_1):=(blk_cell BK104.out 1).trans rfl
       have hcz46_2 : wc.cell? ⟨gb104,2,none⟩=some (.int .i64 a0_2):=(blk_cell BK104.out 2).trans rfl
       have hcz46_3 : wc.cell? ⟨gb104,3,none⟩=some (.string a0_3):=(blk_cell BK104.out 3).trans rfl
       have hcz46_4 : wc.cell? ⟨gb104,4,none⟩=some (.slice A0_4 l0_4.length c0_4):=(blk_cell BK104.out 4).trans rfl
       have hfz46_0:=blk_frozen BK104.out 0
       have hfz46_1:=blk_frozen BK104.out 1
       have hfz46_2:=blk_frozen BK104.out 2
       have hfz46_3:=blk_frozen BK104.out 3
       have hfz46_4:=blk_frozen BK104.out 4
       have hcz47_0 : wc.cell? ⟨gb105,0,none⟩=some (.int .i64 a1_0):=(blk_cell BK105.out 0).trans rfl
       have hcz47_1 : wc.cell? ⟨gb105,1,none⟩=some (.int .i64 a1_1):=(blk_cell BK105.out 1).trans rfl
       have hcz47_2 : wc.cell? ⟨gb105,2,none⟩=some (.string a1_2):=(blk_cell BK105.out 2).trans rfl
       have hcz47_3 : wc.cell? ⟨gb105,3,none⟩=some (.string a1_3):=(blk_cell BK105.out 3).trans rfl
       have hfz47_0:=blk_frozen BK105.out 0
       have hfz47_1:=blk_frozen BK105.out 1
       have hfz47_2:=blk_frozen BK105.out 2
       have hfz47_3:=blk_frozen BK105.out 3
       go_wp2
       go_ret
       exact ⟨by first|rfl|(simp [errW_none,errW_some] <;> rfl)|(simp [*,errW_none,errW_some] <;> rfl),by repeat (first|(with_reducible first|exact HB.out|apply below_alloc|apply pw_below_drewN|apply below_drew1|refine below_set ?_ GE104.out|refine below_set ?_ GE105.out)|exact HB.out)⟩
      ·rw [if_neg c44] at H
       have c44b0 : (a0_3.toList == a1_3.toList)=false:=beq_eq_false_iff_ne.mpr c44
       have c44b1 : (a0_3.toList != a1_3.toList)=true:=bne_iff_ne.mpr c44
       obtain rfl:=Option.some.inj H
       have hnb48:=NB104_105.out
       have hnc48:=NB105_104.out
       have hcz49_0 : wc.cell? ⟨gb104,0,none⟩=some (.int .u32 a0_0):=(blk_cell BK104.out 0).trans rfl
       have hcz49_1 : wc.cell? ⟨gb104,1,none⟩=some (.int .u64 a0_1):=(blk_cell BK104.out 1).trans rfl
       have hcz49_2 : wc.cell? ⟨gb104,2,none⟩=some (.int .i64 a0_2):=(blk_cell BK104.out 2).trans rfl
       have hcz49_3 : wc.cell? ⟨gb104,3,none⟩=some (.string a0_3):=(blk_cell BK104.out 3).trans rfl
       have hcz49_4 : wc.cell? ⟨gb104,4,none⟩=some (.slice A0_4 l0_4.length c0_4):=(blk_cell BK104.out 4).trans rfl
       have hfz49_0:=blk_frozen BK104.out 0
       have hfz49_1:=blk_frozen BK104.out 1
       have hfz49_2:=blk_frozen BK104.out 2
       have hfz49_3:=blk_frozen BK104.out 3
       have hfz49_4:=blk_frozen BK104.out 4
       have hcz50_0 : wc.cell? ⟨gb105,0,none⟩=some (.int .i64 a1_0):=(blk_cell BK105.out 0).trans rfl
       have hcz50_1 : wc.cell? ⟨gb105,1,none⟩=some (.int .i64 a1_1):=(blk_cell BK105.out 1).trans rfl
       have hcz50_2 : wc.cell? ⟨gb105,2,none⟩=some (.string a1_2):=(blk_cell BK105.out 2).trans rfl
       have hcz50_3 : wc.cell? ⟨gb105,3,none⟩=some (.string a1_3):=(blk_cell BK105.out 3).trans rfl
       have hfz50_0:=blk_frozen BK105.out 0
       have hfz50_1:=blk_frozen BK105.out 1
       have hfz50_2:=blk_frozen BK105.out 2
       have hfz50_3:=blk_frozen BK105.out 3
       go_wp2
       go_ret
       exact ⟨by first|rfl|(simp [errW_none,errW_some] <;> rfl)|(simp [*,errW_none,errW_some] <;> rfl),by repeat (first|(with_reducible first|exact HB.out|apply below_alloc|apply pw_below_drewN|apply below_drew1|refine below_set ?_ GE104.out|refine below_set ?_ GE105.out)|exact HB.out)⟩
     ·rw [if_neg c43] at H
      have c43b0 : (a1_0 == 5)=false:=beq_eq_false_iff_ne.mpr c43
      have c43b1 : (a1_0 != 5)=true:=bne_iff_ne.mpr c43
      by_cases c51 : a1_0=7
      ·rw [if_pos c51] at H
       have c51b0 : (a1_0 == 7)=true:=beq_iff_eq.mpr c51
       have c51b1 : (a1_0 != 7)=false:=bne_eq_false_iff_eq.mpr c51
       clear c51
       by_cases c52 : (l0_4.length : Int)=0
       ·rw [if_pos c52] at H
        have c52b0 : ((l0_4.length : Int) == 0)=true:=beq_iff_eq.mpr c52
        have c52b1 : ((l0_4.length : Int) != 0)=false:=bne_eq_false_iff_eq.mpr c52
        clear c52
        replace H:=Option.bind_eq_some_iff.mp H
        obtain ⟨t107,A530,H⟩:=H
        replace H : (if t107.toList=a1_3.toList then (some 0) else (some 31))=some r:=H
        have A53:=Aside0.mk A530
        clear A530
        by_cases c54 : t107.toList=a1_3.toList
        ·rw [if_pos c54] at H
         have c54b0 : (t107.toList == a1_3.toList)=true:=beq_iff_eq.mpr c54
         have c54b1 : (t107.toList != a1_3.toList)=false:=bne_eq_false_iff_eq.mpr c54
         clear c54
         obtain rfl:=Option.some.inj H
         have hnb55:=NB104_105.out
         have hnc55:=NB105_104.out
         have hcz56_0 : wc.cell? ⟨gb104,0,none⟩=some (.int .u32 a0_0):=(blk_cell BK104.out 0).trans rfl
         have hcz56_1 : wc.cell? ⟨gb104,1,none⟩=some (.int .u64 a0_1):=(blk_cell BK104.out 1).trans rfl
         have hcz56_2 : wc.cell? ⟨gb104,2,none⟩=some (.int .i64 a0_2):=(blk_cell BK104.out 2).trans rfl
         have hcz56_3 : wc.cell? ⟨gb104,3,none⟩=some (.string a0_3):=(blk_cell BK104.out 3).trans rfl
         have hcz56_4 : wc.cell? ⟨gb104,4,none⟩=some (.slice A0_4 l0_4.length c0_4):=(blk_cell BK104.out 4).trans rfl
         have hfz56_0:=blk_frozen BK104.out 0
         have hfz56_1:=blk_frozen BK104.out 1
         have hfz56_2:=blk_frozen BK104.out 2
         have hfz56_3:=blk_frozen BK104.out 3
         have hfz56_4:=blk_frozen BK104.out 4
         try go_wp2
         have n0_:=Aside0.mk (blk_drew BK104.out)
         have n1_:=Aside0.mk (blk_drew BK105.out)
         have n2_:=Aside0.mk (below_drew1 HB.out)
         clear BK104
         clear BK105
         clear HB
         have BK104:=n0_
         have BK105:=n1_
         have HB:=n2_
         clear n0_ n1_ n2_
         refine start_ (n:=8) (S:=fun w'=>w'.cell? ⟨gb104,0,none⟩=some (.int .u32 a0_0)∧w'.cell? ⟨gb104,1,none⟩=some (.int .u64 a0_1)∧w'.cell? ⟨gb104,2,none⟩=some (.int .i64 a0_2)∧w'.cell? ⟨gb104,3,none⟩=some (.string a0_3)∧w'.cell? ⟨gb104,4,none⟩=some (.slice A0_4 l0_4.length c0_4)∧w'.cell? ⟨gb105,0,none⟩=some (.int .i64 a1_0)∧w'.cell? ⟨gb105,1,none⟩=some (.int .i64 a1_1)∧w'.cell? ⟨gb105,2,none⟩=some (.string a1_2)∧w'.cell? ⟨gb105,3,none⟩=some (.string a1_3)) (ds:=[]) #[false,false,false,false,false,false,false,false] (by kernel_rfl) rfl rfl ⟨(blk_cell BK104.out 0).trans rfl,(blk_cell BK104.out 1).trans rfl,(blk_cell BK104.out 2).trans rfl,(blk_cell BK104.out 3).trans rfl,(blk_cell BK104.out 4).trans rfl,(blk_cell BK105.out 0).trans rfl,(blk_cell BK105.out 1).trans rfl,(blk_cell BK105.out 2).trans rfl,(blk_cell BK105.out 3).trans rfl⟩ (fun hHeld=>?_);refine with_tabW page_stands.tab19 page_stands.bits19 (fun HT_ HW_=>?_)
         generalize wc.drew=w57 at BK104 BK105 HB hHeld ⊢
         refine pure_ (i:=0) (N:=some 50) (v:=?_) (a':=?_) #[true,false,false,false,false,false,false,false] rfl rfl (any_of HT_.out (by kernel_rfl)) (fun _ _ _ h=>h) (Or.inl ⟨by rfl,?_⟩) ?_ ?_;rotate_left;(focus (intro w';go_simp;with_reducible rfl));rotate_left;(focus (simp only [Act.put,sA_,sB_,sC_,i64_w,i32_w];rfl))
         refine pure_ (i:=2) (N:=some 52) (v:=?_) (a':=?_) #[true,false,true,false,false,false,false,false] rfl rfl (any_of HT_.out (by kernel_rfl)) (fun _ _ _ h=>h) (Or.inl ⟨by rfl,?_⟩) ?_ ?_;rotate_left;(focus (intro w';go_simp;with_reducible rfl));rotate_left;(focus (simp only [Act.put,sA_,sB_,sC_,i64_w,i32_w];rfl))
         refine pure_ (i:=5) (N:=some 55) (v:=?_) (a':=?_) #[true,false,true,false,false,true,false,false] rfl rfl (any_of HT_.out (by kernel_rfl)) (fun _ _ _ h=>h) (Or.inl ⟨by rfl,?_⟩) ?_ ?_;rotate_left;(focus (intro w';go_simp;with_reducible rfl));rotate_left;(focus (simp only [Act.put,sA_,sB_,sC_,i64_w,i32_w];rfl))
         refine take_ (i:=1) (N:=some 51) (v:=?_) (a':=?_) #[true,true,true,false,false,true,false,false] rfl rfl (take_ofW HT_.out HW_.out (by kernel_rfl)) (fun _ _ _ h=>h) (Or.inl ⟨by rfl,?_⟩) hHeld ?_ ?_;rotate_left;(focus (rintro w' ⟨s0,s1,s2,s3,s4,s5,s6,s7,s8⟩;go_simp;with_reducible rfl));rotate_left;(focus (simp only [Act.put,sA_,sB_,sC_,i64_w,i32_w];rfl))
         refine take_ (i:=3) (N:=some 53) (v:=?_) (a':=?_) #[true,true,true,true,false,true,false,false] rfl rfl (take_ofW HT_.out HW_.out (by kernel_rfl)) (fun _ _ _ h=>h) (Or.inl ⟨by rfl,?_⟩) hHeld ?_ ?_;rotate_left;(focus (rintro w' ⟨s0,s1,s2,s3,s4,s5,s6,s7,s8⟩;go_simp;with_reducible rfl));rotate_left;(focus (simp only [Act.put,sA_,sB_,sC_,i64_w,i32_w];rfl))
         refine take_ (i:=6) (N:=some 56) (v:=?_) (a':=?_) #[true,true,true,true,false,true,true,false] rfl rfl (take_ofW HT_.out HW_.out (by kernel_rfl)) (fun _ _ _ h=>h) (Or.inl ⟨by rfl,?_⟩) hHeld ?_ ?_;rotate_left;(focus (rintro w' ⟨s0,s1,s2,s3,s4,s5,s6,s7,s8⟩;go_simp;with_reducible rfl));rotate_left;(focus (simp only [Act.put,sA_,sB_,sC_,i64_w,i32_w];rfl))
         refine one_ (i:=4) (N:=some 54) #[true,true,true,true,true,true,true,false] rfl rfl (one_of HT_.out (by kernel_rfl)) (by decide) (fun K hK=>?_)
         refine goes_ Try.func49 (by kernel_rfl) rfl #[.int .i64 a0_2,.string a0_3] (by rfl) rfl rfl (by (try simp only [List.map_toArray,List.map_cons,List.map_nil]);first|done|rfl|(simp only [List.length_drop,List.length_take];rfl)) ?_
         with_reducible refine (page_Kind.calls a0_2 a0_3 t107 _ A53.out).mono ?_
         rintro e w58 ⟨rfl,hb⟩
         refine ⟨_,rfl,?_⟩
         have n0_:=Aside0.mk (blk_below (g:=gb104) (o:=.cells #[.int .u32 a0_0,.int .u64 a0_1,.int .i64 a0_2,.string a0_3,.slice A0_4 l0_4.length c0_4] 28 (0,0)) (by (with_reducible repeat (first|refine blk_drewN ?_ _|refine blk_drew ?_|refine blk_alloc ?_ _));exact BK104.out) hb)
         have n1_:=Aside0.mk (blk_below (g:=gb105) (o:=.cells #[.int .i64 a1_0,.int .i64 a1_1,.string a1_2,.string a1_3] 38 (0,0)) (by (with_reducible repeat (first|refine blk_drewN ?_ _|refine blk_drew ?_|refine blk_alloc ?_ _));exact BK105.out) hb)
         have n2_:=Aside0.mk (below_step (by repeat (first|(with_reducible first|exact HB.out|apply below_alloc|apply pw_below_drewN|apply below_drew1|refine below_set ?_ GE104.out|refine below_set ?_ GE105.out)|exact HB.out)) hb)
         clear BK104
         clear BK105
         clear HB
         have BK104:=n0_
         have BK105:=n1_
         have HB:=n2_
         clear n0_ n1_ n2_
         (try clear hb)
         (try clear hb2)
         (try clear hk)
         (try clear hi)
         refine hK.out _ _ ⟨(blk_cell BK104.out 0).trans rfl,(blk_cell BK104.out 1).trans rfl,(blk_cell BK104.out 2).trans rfl,(blk_cell BK104.out 3).trans rfl,(blk_cell BK104.out 4).trans rfl,(blk_cell BK105.out 0).trans rfl,(blk_cell BK105.out 1).trans rfl,(blk_cell BK105.out 2).trans rfl,(blk_cell BK105.out 3).trans rfl⟩ (fun hHeld=>?_)
         clear hK K
         refine norm_ (a':=?_) ?_ ?_
         rotate_left
         ·show Act.put _ (some 54) _=_
          simp only [Act.put,sA_,sB_,sC_,i64_w,i32_w]
          rfl
         refine pure_ (i:=7) (N:=some 57) (v:=?_) (a':=?_) #[true,true,true,true,true,true,true,true] rfl rfl (any_of HT_.out (by kernel_rfl)) (fun _ _ _ h=>h) (Or.inl ⟨by rfl,?_⟩) ?_ ?_;rotate_left;(focus (intro w';go_simp;with_reducible rfl));rotate_left;(focus (simp only [Act.put,sA_,sB_,sC_,i64_w,i32_w];rfl))
         refine done_ (done_of HT_.out (by kernel_rfl)) ?_
         try go_wp2
         go_ret
         exact ⟨by first|rfl|(simp [errW_none,errW_some] <;> rfl)|(simp [*,errW_none,errW_some] <;> rfl),by repeat (first|(with_reducible first|exact HB.out|apply below_alloc|apply pw_below_drewN|apply below_drew1|refine below_set ?_ GE104.out|refine below_set ?_ GE105.out)|exact HB.out)⟩
        ·rw [if_neg c54] at H
         have c54b0 : (t107.toList == a1_3.toList)=false:=beq_eq_false_iff_ne.mpr c54
         have c54b1 : (t107.toList != a1_3.toList)=true:=bne_iff_ne.mpr c54
         obtain rfl:=Option.some.inj H
         have hnb59:=NB104_105.out
         have hnc59:=NB105_104.out
         have hcz60_0 : wc.cell? ⟨gb104,0,none⟩=some (.int .u32 a0_0):=(blk_cell BK104.out 0).trans rfl
         have hcz60_1 : wc.cell? ⟨gb104,1,none⟩=some (.int .u64 a0_1):=(blk_cell BK104.out 1).trans rfl
         have hcz60_2 : wc.cell? ⟨gb104,2,none⟩=some (.int .i64 a0_2):=(blk_cell BK104.out 2).trans rfl
         have hcz60_3 : wc.cell? ⟨gb104,3,none⟩=some (.string a0_3):=(blk_cell BK104.out 3).trans rfl
         have hcz60_4 : wc.cell? ⟨gb104,4,none⟩=some (.slice A0_4 l0_4.length c0_4):=(blk_cell BK104.out 4).trans rfl
         have hfz60_0:=blk_frozen BK104.out 0
         have hfz60_1:=blk_frozen BK104.out 1
         have hfz60_2:=blk_frozen BK104.out 2
         have hfz60_3:=blk_frozen BK104.out 3
         have hfz60_4:=blk_frozen BK104.out 4
         try go_wp2
         have n0_:=Aside0.mk (blk_drew BK104.out)
         have n1_:=Aside0.mk (blk_drew BK105.out)
         have n2_:=Aside0.mk (below_drew1 HB.out)
         clear BK104
         clear BK105
         clear HB
         have BK104:=n0_
         have BK105:=n1_
         have HB:=n2_
         clear n0_ n1_ n2_
         refine start_ (n:=8) (S:=fun w'=>w'.cell? ⟨gb104,0,none⟩=some (.int .u32 a0_0)∧w'.cell? ⟨gb104,1,none⟩=some (.int .u64 a0_1)∧w'.cell? ⟨gb104,2,none⟩=some (.int .i64 a0_2)∧w'.cell? ⟨gb104,3,none⟩=some (.string a0_3)∧w'.cell? ⟨gb104,4,none⟩=some (.slice A0_4 l0_4.length c0_4)∧w'.cell? ⟨gb105,0,none⟩=some (.int .i64 a1_0)∧w'.cell? ⟨gb105,1,none⟩=some (.int .i64 a1_1)∧w'.cell? ⟨gb105,2,none⟩=some (.string a1_2)∧w'.cell? ⟨gb105,3,none⟩=some (.string a1_3)) (ds:=[]) #[false,false,false,false,false,false,false,false] (by kernel_rfl) rfl rfl ⟨(blk_cell BK104.out 0).trans rfl,(blk_cell BK104.out 1).trans rfl,(blk_cell BK104.out 2).trans rfl,(blk_cell BK104.out 3).trans rfl,(blk_cell BK104.out 4).trans rfl,(blk_cell BK105.out 0).trans rfl,(blk_cell BK105.out 1).trans rfl,(blk_cell BK105.out 2).trans rfl,(blk_cell BK105.out 3).trans rfl⟩ (fun hHeld=>?_);refine with_tabW page_stands.tab19 page_stands.bits19 (fun HT_ HW_=>?_)
         generalize wc.drew=w61 at BK104 BK105 HB hHeld ⊢
         refine pure_ (i:=0) (N:=some 50) (v:=?_) (a':=?_) #[true,false,false,false,false,false,false,false] rfl rfl (any_of HT_.out (by kernel_rfl)) (fun _ _ _ h=>h) (Or.inl ⟨by rfl,?_⟩) ?_ ?_;rotate_left;(focus (intro w';go_simp;with_reducible rfl));rotate_left;(focus (simp only [Act.put,sA_,sB_,sC_,i64_w,i32_w];rfl))
         refine pure_ (i:=2) (N:=some 52) (v:=?_) (a':=?_) #[true,false,true,false,false,false,false,false] rfl rfl (any_of HT_.out (by kernel_rfl)) (fun _ _ _ h=>h) (Or.inl ⟨by rfl,?_⟩) ?_ ?_;rotate_left;(focus (intro w';go_simp;with_reducible rfl));rotate_left;(focus (simp only [Act.put,sA_,sB_,sC_,i64_w,i32_w];rfl))
         refine pure_ (i:=5) (N:=some 55) (v:=?_) (a':=?_) #[true,false,true,false,false,true,false,false] rfl rfl (any_of HT_.out (by kernel_rfl)) (fun _ _ _ h=>h) (Or.inl ⟨by rfl,?_⟩) ?_ ?_;rotate_left;(focus (intro w';go_simp;with_reducible rfl));rotate_left;(focus (simp only [Act.put,sA_,sB_,sC_,i64_w,i32_w];rfl))
         refine take_ (i:=1) (N:=some 51) (v:=?_) (a':=?_) #[true,true,true,false,false,true,false,false] rfl rfl (take_ofW HT_.out HW_.out (by kernel_rfl)) (fun _ _ _ h=>h) (Or.inl ⟨by rfl,?_⟩) hHeld ?_ ?_;rotate_left;(focus (rintro w' ⟨s0,s1,s2,s3,s4,s5,s6,s7,s8⟩;go_simp;with_reducible rfl));rotate_left;(focus (simp only [Act.put,sA_,sB_,sC_,i64_w,i32_w];rfl))
         refine take_ (i:=3) (N:=some 53) (v:=?_) (a':=?_) #[true,true,true,true,false,true,false,false] rfl rfl (take_ofW HT_.out HW_.out (by kernel_rfl)) (fun _ _ _ h=>h) (Or.inl ⟨by rfl,?_⟩) hHeld ?_ ?_;rotate_left;(focus (rintro w' ⟨s0,s1,s2,s3,s4,s5,s6,s7,s8⟩;go_simp;with_reducible rfl));rotate_left;(focus (simp only [Act.put,sA_,sB_,sC_,i64_w,i32_w];rfl))
         refine take_ (i:=6) (N:=some 56) (v:=?_) (a':=?_) #[true,true,true,true,false,true,true,false] rfl rfl (take_ofW HT_.out HW_.out (by kernel_rfl)) (fun _ _ _ h=>h) (Or.inl ⟨by rfl,?_⟩) hHeld ?_ ?_;rotate_left;(focus (rintro w' ⟨s0,s1,s2,s3,s4,s5,s6,s7,s8⟩;go_simp;with_reducible rfl));rotate_left;(focus (simp only [Act.put,sA_,sB_,sC_,i64_w,i32_w];rfl))
         refine one_ (i:=4) (N:=some 54) #[true,true,true,true,true,true,true,false] rfl rfl (one_of HT_.out (by kernel_rfl)) (by decide) (fun K hK=>?_)
         refine goes_ Try.func49 (by kernel_rfl) rfl #[.int .i64 a0_2,.string a0_3] (by rfl) rfl rfl (by (try simp only [List.map_toArray,List.map_cons,List.map_nil]);first|done|rfl|(simp only [List.length_drop,List.length_take];rfl)) ?_
         with_reducible refine (page_Kind.calls a0_2 a0_3 t107 _ A53.out).mono ?_
         rintro e w62 ⟨rfl,hb⟩
         refine ⟨_,rfl,?_⟩
         have n0_:=Aside0.mk (blk_below (g:=gb104) (o:=.cells #[.int .u32 a0_0,.int .u64 a0_1,.int .i64 a0_2,.string a0_3,.slice A0_4 l0_4.length c0_4] 28 (0,0)) (by (with_reducible repeat (first|refine blk_drewN ?_ _|refine blk_drew ?_|refine blk_alloc ?_ _));exact BK104.out) hb)
         have n1_:=Aside0.mk (blk_below (g:=gb105) (o:=.cells #[.int .i64 a1_0,.int .i64 a1_1,.string a1_2,.string a1_3] 38 (0,0)) (by (with_reducible repeat (first|refine blk_drewN ?_ _|refine blk_drew ?_|refine blk_alloc ?_ _));exact BK105.out) hb)
         have n2_:=Aside0.mk (below_step (by repeat (first|(with_reducible first|exact HB.out|apply below_alloc|apply pw_below_drewN|apply below_drew1|refine below_set ?_ GE104.out|refine below_set ?_ GE105.out)|exact HB.out)) hb)
         clear BK104
         clear BK105
         clear HB
         have BK104:=n0_
         have BK105:=n1_
         have HB:=n2_
         clear n0_ n1_ n2_
         (try clear hb)
         (try clear hb2)
         (try clear hk)
         (try clear hi)
         refine hK.out _ _ ⟨(blk_cell BK104.out 0).trans rfl,(blk_cell BK104.out 1).trans rfl,(blk_cell BK104.out 2).trans rfl,(blk_cell BK104.out 3).trans rfl,(blk_cell BK104.out 4).trans rfl,(blk_cell BK105.out 0).trans rfl,(blk_cell BK105.out 1).trans rfl,(blk_cell BK105.out 2).trans rfl,(blk_cell BK105.out 3).trans rfl⟩ (fun hHeld=>?_)
         clear hK K
         refine norm_ (a':=?_) ?_ ?_
         rotate_left
         ·show Act.put _ (some 54) _=_
          simp only [Act.put,sA_,sB_,sC_,i64_w,i32_w]
          rfl
         refine pure_ (i:=7) (N:=some 57) (v:=?_) (a':=?_) #[true,true,true,true,true,true,true,true] rfl rfl (any_of HT_.out (by kernel_rfl)) (fun _ _ _ h=>h) (Or.inl ⟨by rfl,?_⟩) ?_ ?_;rotate_left;(focus (intro w';go_simp;with_reducible rfl));rotate_left;(focus (simp only [Act.put,sA_,sB_,sC_,i64_w,i32_w];rfl))
         refine done_ (done_of HT_.out (by kernel_rfl)) ?_
         try go_wp2
         go_ret
         exact ⟨by first|rfl|(simp [errW_none,errW_some] <;> rfl)|(simp [*,errW_none,errW_some] <;> rfl),by repeat (first|(with_reducible first|exact HB.out|apply below_alloc|apply pw_below_drewN|apply below_drew1|refine below_set ?_ GE104.out|refine below_set ?_ GE105.out)|exact HB.out)⟩
       ·rw [if_neg c52] at H
        have c52b0 : ((l0_4.length : Int) == 0)=false:=beq_eq_false_iff_ne.mpr c52
        have c52b1 : ((l0_4.length : Int) != 0)=true:=bne_iff_ne.mpr c52
        have c52b2 : ¬ (l0_4=[]):=fun h_=>c52 (by rw [h_];rfl)
        obtain rfl:=Option.some.inj H
        have hnb63:=NB104_105.out
        have hnc63:=NB105_104.out
        have hcz64_0 : wc.cell? ⟨gb104,0,none⟩=some (.int .u32 a0_0):=(blk_cell BK104.out 0).trans rfl
        have hcz64_1 : wc.cell? ⟨gb104,1,none⟩=some (.int .u64 a0_1):=(blk_cell BK104.out 1).trans rfl
        have hcz64_2 : wc.cell? ⟨gb104,2,none⟩=some (.int .i64 a0_2):=(blk_cell BK104.out 2).trans rfl
        have hcz64_3 : wc.cell? ⟨gb104,3,none⟩=some (.string a0_3):=(blk_cell BK104.out 3).trans rfl
        have hcz64_4 : wc.cell? ⟨gb104,4,none⟩=some (.slice A0_4 l0_4.length c0_4):=(blk_cell BK104.out 4).trans rfl
        have hfz64_0:=blk_frozen BK104.out 0
        have hfz64_1:=blk_frozen BK104.out 1
        have hfz64_2:=blk_frozen BK104.out 2
        have hfz64_3:=blk_frozen BK104.out 3
        have hfz64_4:=blk_frozen BK104.out 4
        go_wp2
        go_ret
        exact ⟨by first|rfl|(simp [errW_none,errW_some] <;> rfl)|(simp [*,errW_none,errW_some] <;> rfl),by repeat (first|(with_reducible first|exact HB.out|apply below_alloc|apply pw_below_drewN|apply below_drew1|refine below_set ?_ GE104.out|refine below_set ?_ GE105.out)|exact HB.out)⟩
      ·rw [if_neg c51] at H
       have c51b0 : (a1_0 == 7)=false:=beq_eq_false_iff_ne.mpr c51
       have c51b1 : (a1_0 != 7)=true:=bne_iff_ne.mpr c51
       by_cases c65 : a1_0=6
       ·rw [if_pos c65] at H
        have c65b0 : (a1_0 == 6)=true:=beq_iff_eq.mpr c65
        have c65b1 : (a1_0 != 6)=false:=bne_eq_false_iff_eq.mpr c65
        clear c65
        have HC66:=Aside0.mk H
        clear H
        go_upto_region 22 with (fail)
        go_cut [77] (fun v77 wc=>∃ (kq : Nat) (x77_65 : Bool),v77=.bool x77_65∧Aside0 (page_stands.j1 kq x77_65 a0_0 a0_1 a0_2 a0_3 l0_4 a1_0 a1_1 a1_2 a1_3=some r)∧Aside0 (kq≤kj20)∧Aside0 (wc.heap[gb104]?=some (.cells #[.int .u32 a0_0,.int .u64 a0_1,.int .i64 a0_2,.string a0_3,(.slice A0_4 l0_4.length c0_4)] 28 (0,0)))∧Aside0 (wc.heap[gb105]?=some (.cells #[.int .i64 a1_0,.int .i64 a1_1,.string a1_2,.string a1_3] 38 (0,0)))∧Aside0 (Below w.heap.size w wc))
        case first =>
         have H:=HC66.out
         clear HC66
         by_cases c67 : (l0_4.length : Int)=0
         ·rw [if_pos c67] at H
          have c67b0 : ((l0_4.length : Int) == 0)=true:=beq_iff_eq.mpr c67
          have c67b1 : ((l0_4.length : Int) != 0)=false:=bne_eq_false_iff_eq.mpr c67
          clear c67
          (first|rw [c67b0]|(simp only [i64_w,i32_w];rw [c67b0])|skip)
          have H':=Aside0.mk H
          clear H
          try go_wp2
          have n0_:=Aside0.mk (blk_drew BK104.out)
          have n1_:=Aside0.mk (blk_drew BK105.out)
          have n2_:=Aside0.mk (below_drew1 HB.out)
          clear BK104
          clear BK105
          clear HB
          have BK104:=n0_
          have BK105:=n1_
          have HB:=n2_
          clear n0_ n1_ n2_
          refine start_ (n:=18) (S:=fun w'=>w'.cell? ⟨gb104,0,none⟩=some (.int .u32 a0_0)∧w'.cell? ⟨gb104,1,none⟩=some (.int .u64 a0_1)∧w'.cell? ⟨gb104,2,none⟩=some (.int .i64 a0_2)∧w'.cell? ⟨gb104,3,none⟩=some (.string a0_3)∧w'.cell? ⟨gb104,4,none⟩=some (.slice A0_4 l0_4.length c0_4)) (ds:=[]) #[false,false,false,false,false,false,false,false,false,false,false,false,false,false,false,false,false,false] (by kernel_rfl) rfl rfl ⟨(blk_cell BK104.out 0).trans rfl,(blk_cell BK104.out 1).trans rfl,(blk_cell BK104.out 2).trans rfl,(blk_cell BK104.out 3).trans rfl,(blk_cell BK104.out 4).trans rfl⟩ (fun hHeld=>?_);refine with_tabW page_stands.tab22 page_stands.bits22 (fun HT_ HW_=>?_)
          generalize wc.drew=w68 at BK104 BK105 HB hHeld ⊢
          refine pure_ (i:=0) (N:=some 60) (v:=?_) (a':=?_) #[true,false,false,false,false,false,false,false,false,false,false,false,false,false,false,false,false,false] rfl rfl (any_of HT_.out (by kernel_rfl)) (fun _ _ _ h=>h) (Or.inl ⟨by rfl,?_⟩) ?_ ?_;rotate_left;(focus (intro w';go_simp;with_reducible rfl));rotate_left;(focus (simp only [Act.put,sA_,sB_,sC_,i64_w,i32_w];rfl))
          refine take_ (i:=1) (N:=some 61) (v:=?_) (a':=?_) #[true,true,false,false,false,false,false,false,false,false,false,false,false,false,false,false,false,false] rfl rfl (take_ofW HT_.out HW_.out (by kernel_rfl)) (fun _ _ _ h=>h) (Or.inl ⟨by rfl,?_⟩) hHeld ?_ ?_;rotate_left;(focus (rintro w' ⟨s0,s1,s2,s3,s4⟩;go_simp;with_reducible rfl));rotate_left;(focus (simp only [Act.put,sA_,sB_,sC_,i64_w,i32_w];rfl))
          refine pure_ (i:=2) (N:=some 62) (v:=?_) (a':=?_) #[true,true,true,false,false,false,false,false,false,false,false,false,false,false,false,false,false,false] rfl rfl (any_of HT_.out (by kernel_rfl)) (fun _ _ _ h=>h) (Or.inl ⟨by rfl,?_⟩) ?_ ?_;rotate_left;(focus (intro w';go_simp;with_reducible rfl));rotate_left;(focus (simp only [Act.put,sA_,sB_,sC_,i64_w,i32_w];rfl))
          refine pure_ (i:=3) (N:=some 63) (v:=?_) (a':=?_) #[true,true,true,true,false,false,false,false,false,false,false,false,false,false,false,false,false,false] rfl rfl (any_of HT_.out (by kernel_rfl)) (fun _ _ _ h=>h) (Or.inl ⟨by rfl,?_⟩) ?_ ?_;rotate_left;(focus (intro w';go_simp;with_reducible rfl));rotate_left;(focus (simp only [Act.put,sA_,sB_,sC_,i64_w,i32_w];rfl))
          refine pure_ (i:=4) (N:=some 64) (v:=?_) (a':=?_) #[true,true,true,true,true,false,false,false,false,false,false,false,false,false,false,false,false,false] rfl rfl (any_of HT_.out (by kernel_rfl)) (fun _ _ _ h=>h) (Or.inl ⟨by rfl,?_⟩) ?_ ?_;rotate_left;(focus (intro w';go_simp;with_reducible rfl));rotate_left;(focus (simp only [Act.put,sA_,sB_,sC_,i64_w,i32_w];rfl))
          refine pure_ (i:=5) (N:=some 65) (v:=undef) (a':=?_) #[true,true,true,true,true,true,false,false,false,false,false,false,false,false,false,false,false,false] rfl rfl (any_of HT_.out (by kernel_rfl)) (fun _ _ _ h=>h) (Or.inr ⟨by rfl,rfl⟩) ?_ ?_
          rotate_left
          ·simp only [Act.put,sA_,sB_,sC_,i64_w,i32_w]
           rfl
          refine pure_ (i:=6) (N:=some 66) (v:=undef) (a':=?_) #[true,true,true,true,true,true,true,false,false,false,false,false,false,false,false,false,false,false] rfl rfl (any_of HT_.out (by kernel_rfl)) (fun _ _ _ h=>h) (Or.inr ⟨by rfl,rfl⟩) ?_ ?_
          rotate_left
          ·simp only [Act.put,sA_,sB_,sC_,i64_w,i32_w]
           rfl
          refine pure_ (i:=7) (N:=some 67) (v:=undef) (a':=?_) #[true,true,true,true,true,true,true,true,false,false,false,false,false,false,false,false,false,false] rfl rfl (any_of HT_.out (by kernel_rfl)) (fun _ _ _ h=>h) (Or.inr ⟨by rfl,rfl⟩) ?_ ?_
          rotate_left
          ·simp only [Act.put,sA_,sB_,sC_,i64_w,i32_w]
           rfl
          refine pure_ (i:=8) (N:=some 68) (v:=undef) (a':=?_) #[true,true,true,true,true,true,true,true,true,false,false,false,false,false,false,false,false,false] rfl rfl (any_of HT_.out (by kernel_rfl)) (fun _ _ _ h=>h) (Or.inr ⟨by rfl,rfl⟩) ?_ ?_
          rotate_left
          ·simp only [Act.put,sA_,sB_,sC_,i64_w,i32_w]
           rfl
          refine pure_ (i:=9) (N:=some 69) (v:=undef) (a':=?_) #[true,true,true,true,true,true,true,true,true,true,false,false,false,false,false,false,false,false] rfl rfl (any_of HT_.out (by kernel_rfl)) (fun _ _ _ h=>h) (Or.inr ⟨by rfl,rfl⟩) ?_ ?_
          rotate_left
          ·simp only [Act.put,sA_,sB_,sC_,i64_w,i32_w]
           rfl
          refine pure_ (i:=10) (N:=some 70) (v:=undef) (a':=?_) #[true,true,true,true,true,true,true,true,true,true,true,false,false,false,false,false,false,false] rfl rfl (any_of HT_.out (by kernel_rfl)) (fun _ _ _ h=>h) (Or.inr ⟨by rfl,rfl⟩) ?_ ?_
          rotate_left
          ·simp only [Act.put,sA_,sB_,sC_,i64_w,i32_w]
           rfl
          refine pure_ (i:=11) (N:=some 71) (v:=undef) (a':=?_) #[true,true,true,true,true,true,true,true,true,true,true,true,false,false,false,false,false,false] rfl rfl (any_of HT_.out (by kernel_rfl)) (fun _ _ _ h=>h) (Or.inr ⟨by rfl,rfl⟩) ?_ ?_
          rotate_left
          ·simp only [Act.put,sA_,sB_,sC_,i64_w,i32_w]
           rfl
          refine pure_ (i:=12) (N:=some 72) (v:=undef) (a':=?_) #[true,true,true,true,true,true,true,true,true,true,true,true,true,false,false,false,false,false] rfl rfl (any_of HT_.out (by kernel_rfl)) (fun _ _ _ h=>h) (Or.inr ⟨by rfl,rfl⟩) ?_ ?_
          rotate_left
          ·simp only [Act.put,sA_,sB_,sC_,i64_w,i32_w]
           rfl
          refine pure_ (i:=13) (N:=some 73) (v:=undef) (a':=?_) #[true,true,true,true,true,true,true,true,true,true,true,true,true,true,false,false,false,false] rfl rfl (any_of HT_.out (by kernel_rfl)) (fun _ _ _ h=>h) (Or.inr ⟨by rfl,rfl⟩) ?_ ?_
          rotate_left
          ·simp only [Act.put,sA_,sB_,sC_,i64_w,i32_w]
           rfl
          refine pure_ (i:=14) (N:=some 74) (v:=undef) (a':=?_) #[true,true,true,true,true,true,true,true,true,true,true,true,true,true,true,false,false,false] rfl rfl (any_of HT_.out (by kernel_rfl)) (fun _ _ _ h=>h) (Or.inr ⟨by rfl,rfl⟩) ?_ ?_
          rotate_left
          ·simp only [Act.put,sA_,sB_,sC_,i64_w,i32_w]
           rfl
          refine pure_ (i:=15) (N:=some 75) (v:=undef) (a':=?_) #[true,true,true,true,true,true,true,true,true,true,true,true,true,true,true,true,false,false] rfl rfl (any_of HT_.out (by kernel_rfl)) (fun _ _ _ h=>h) (Or.inr ⟨by rfl,rfl⟩) ?_ ?_
          rotate_left
          ·simp only [Act.put,sA_,sB_,sC_,i64_w,i32_w]
           rfl
          refine pure_ (i:=16) (N:=some 76) (v:=undef) (a':=?_) #[true,true,true,true,true,true,true,true,true,true,true,true,true,true,true,true,true,false] rfl rfl (any_of HT_.out (by kernel_rfl)) (fun _ _ _ h=>h) (Or.inr ⟨by rfl,rfl⟩) ?_ ?_
          rotate_left
          ·simp only [Act.put,sA_,sB_,sC_,i64_w,i32_w]
           rfl
          refine pure_ (i:=17) (N:=some 77) (v:=?_) (a':=?_) #[true,true,true,true,true,true,true,true,true,true,true,true,true,true,true,true,true,true] rfl rfl (any_of HT_.out (by kernel_rfl)) (fun _ _ _ h=>h) (Or.inl ⟨by rfl,?_⟩) ?_ ?_;rotate_left;(focus (intro w';go_simp;with_reducible rfl));rotate_left;(focus (simp only [Act.put,sA_,sB_,sC_,i64_w,i32_w];rfl))
          refine done_ (done_of HT_.out (by kernel_rfl)) ?_
          try go_wp2
          go_meet
          case rel=>exact ⟨_,(true),(by first|rfl|(simp;done)|(simp [*];done)),H',⟨by have:=HJ20.out;first|omega|exact Nat.le_refl _⟩,⟨by (with_reducible repeat (first|refine blk_drewN ?_ _|refine blk_drew ?_|refine blk_alloc ?_ _));exact BK104.out⟩,⟨by (with_reducible repeat (first|refine blk_drewN ?_ _|refine blk_drew ?_|refine blk_alloc ?_ _));exact BK105.out⟩,⟨by repeat (first|(with_reducible first|exact HB.out|apply below_alloc|apply pw_below_drewN|apply below_drew1|refine below_set ?_ GE104.out|refine below_set ?_ GE105.out)|exact HB.out)⟩⟩
         ·rw [if_neg c67] at H
          have c67b0 : ((l0_4.length : Int) == 0)=false:=beq_eq_false_iff_ne.mpr c67
          have c67b1 : ((l0_4.length : Int) != 0)=true:=bne_iff_ne.mpr c67
          have c67b2 : ¬ (l0_4=[]):=fun h_=>c67 (by rw [h_];rfl)
          (first|rw [c67b0]|(simp only [i64_w,i32_w];rw [c67b0])|skip)
          by_cases c69 : 0 < (l0_4.length : Int)
          ·rw [if_pos c69] at H
           have c69b0 : decide (0 < (l0_4.length : Int))=true:=decide_eq_true c69
           have c69b1 : decide (0 < l0_4.length)=true:=decide_eq_true (by omega)
           clear c69
           have H':=Aside0.mk H
           clear H
           try go_wp2
           have n0_:=Aside0.mk (blk_drew BK104.out)
           have n1_:=Aside0.mk (blk_drew BK105.out)
           have n2_:=Aside0.mk (below_drew1 HB.out)
           clear BK104
           clear BK105
           clear HB
           have BK104:=n0_
           have BK105:=n1_
           have HB:=n2_
           clear n0_ n1_ n2_
           have p108 : 0≤(0 : Int):=(by omega)
           have q108 : 0 < (l0_4.length : Int):=of_decide_eq_true (by first|(with_reducible assumption)|assumption)
           obtain ⟨ad108,e108,hx108_0⟩:=Kd.at_string HR0_4.out 0 p108 q108
           have hw108_0:=hx108_0
           (try rw [show ((0 : Int)).toNat=0 from rfl] at hw108_0)
           (try rw [show 0 * 1=0 from rfl] at hw108_0)
           (try rw [Addr.add_zero'] at hw108_0)
           cases e108
           have qi108 : (0 < l0_4.length)=True:=eq_true (by omega)
           (try rw [show ((0 : Int)).toNat=0 from rfl] at hx108_0)
           (try rw [Addr.add_zero'] at hx108_0)
           replace hx108_0:=(HB.out.cell (World.block_lt_of_cell? w _ hx108_0)).trans hx108_0
           replace p108:=eq_true p108
           replace q108:=eq_true q108
           refine start_ (n:=18) (S:=fun w'=>w'.cell? ⟨gb104,0,none⟩=some (.int .u32 a0_0)∧w'.cell? ⟨gb104,1,none⟩=some (.int .u64 a0_1)∧w'.cell? ⟨gb104,2,none⟩=some (.int .i64 a0_2)∧w'.cell? ⟨gb104,3,none⟩=some (.string a0_3)∧w'.cell? ⟨gb104,4,none⟩=some (.slice (some ad108) l0_4.length c0_4)∧w'.cell? ⟨gb105,0,none⟩=some (.int .i64 a1_0)∧w'.cell? ⟨gb105,1,none⟩=some (.int .i64 a1_1)∧w'.cell? ⟨gb105,2,none⟩=some (.string a1_2)∧w'.cell? ⟨gb105,3,none⟩=some (.string a1_3)∧w'.cell? ad108=some (.string (rdOf ByteArray.empty l0_4 0))) (ds:=[]) #[false,false,false,false,false,false,false,false,false,false,false,false,false,false,false,false,false,false] (by kernel_rfl) rfl rfl ⟨(blk_cell BK104.out 0).trans rfl,(blk_cell BK104.out 1).trans rfl,(blk_cell BK104.out 2).trans rfl,(blk_cell BK104.out 3).trans rfl,(blk_cell BK104.out 4).trans rfl,(blk_cell BK105.out 0).trans rfl,(blk_cell BK105.out 1).trans rfl,(blk_cell BK105.out 2).trans rfl,(blk_cell BK105.out 3).trans rfl,((HB.out.cell (World.block_lt_of_cell? w _ hw108_0)).trans hw108_0)⟩ (fun hHeld=>?_);refine with_tabW page_stands.tab22 page_stands.bits22 (fun HT_ HW_=>?_)
           generalize wc.drew=w70 at BK104 BK105 HB hx108_0 hHeld ⊢
           refine pure_ (i:=0) (N:=some 60) (v:=?_) (a':=?_) #[true,false,false,false,false,false,false,false,false,false,false,false,false,false,false,false,false,false] rfl rfl (any_of HT_.out (by kernel_rfl)) (fun _ _ _ h=>h) (Or.inl ⟨by rfl,?_⟩) ?_ ?_;rotate_left;(focus (intro w';go_simp;with_reducible rfl));rotate_left;(focus (simp only [Act.put,sA_,sB_,sC_,i64_w,i32_w];rfl))
           refine take_ (i:=1) (N:=some 61) (v:=?_) (a':=?_) #[true,true,false,false,false,false,false,false,false,false,false,false,false,false,false,false,false,false] rfl rfl (take_ofW HT_.out HW_.out (by kernel_rfl)) (fun _ _ _ h=>h) (Or.inl ⟨by rfl,?_⟩) hHeld ?_ ?_;rotate_left;(focus (rintro w' ⟨s0,s1,s2,s3,s4,s5,s6,s7,s8,s9⟩;go_simp;with_reducible rfl));rotate_left;(focus (simp only [Act.put,sA_,sB_,sC_,i64_w,i32_w];rfl))
           refine pure_ (i:=2) (N:=some 62) (v:=?_) (a':=?_) #[true,true,true,false,false,false,false,false,false,false,false,false,false,false,false,false,false,false] rfl rfl (any_of HT_.out (by kernel_rfl)) (fun _ _ _ h=>h) (Or.inl ⟨by rfl,?_⟩) ?_ ?_;rotate_left;(focus (intro w';go_simp;with_reducible rfl));rotate_left;(focus (simp only [Act.put,sA_,sB_,sC_,i64_w,i32_w];rfl))
           refine pure_ (i:=3) (N:=some 63) (v:=?_) (a':=?_) #[true,true,true,true,false,false,false,false,false,false,false,false,false,false,false,false,false,false] rfl rfl (any_of HT_.out (by kernel_rfl)) (fun _ _ _ h=>h) (Or.inl ⟨by rfl,?_⟩) ?_ ?_;rotate_left;(focus (intro w';go_simp;with_reducible rfl));rotate_left;(focus (simp only [Act.put,sA_,sB_,sC_,i64_w,i32_w];rfl))
           refine pure_ (i:=4) (N:=some 64) (v:=?_) (a':=?_) #[true,true,true,true,true,false,false,false,false,false,false,false,false,false,false,false,false,false] rfl rfl (any_of HT_.out (by kernel_rfl)) (fun _ _ _ h=>h) (Or.inl ⟨by rfl,?_⟩) ?_ ?_;rotate_left;(focus (intro w';go_simp;with_reducible rfl));rotate_left;(focus (simp only [Act.put,sA_,sB_,sC_,i64_w,i32_w];rfl))
           refine pure_ (i:=5) (N:=some 65) (v:=?_) (a':=?_) #[true,true,true,true,true,true,false,false,false,false,false,false,false,false,false,false,false,false] rfl rfl (any_of HT_.out (by kernel_rfl)) (fun _ _ _ h=>h) (Or.inl ⟨by rfl,?_⟩) ?_ ?_;rotate_left;(focus (intro w';go_simp;with_reducible rfl));rotate_left;(focus (simp only [Act.put,sA_,sB_,sC_,i64_w,i32_w];rfl))
           refine pure_ (i:=10) (N:=some 70) (v:=?_) (a':=?_) #[true,true,true,true,true,true,false,false,false,false,true,false,false,false,false,false,false,false] rfl rfl (any_of HT_.out (by kernel_rfl)) (fun _ _ _ h=>h) (Or.inl ⟨by rfl,?_⟩) ?_ ?_;rotate_left;(focus (intro w';go_simp;with_reducible rfl));rotate_left;(focus (simp only [Act.put,sA_,sB_,sC_,i64_w,i32_w];rfl))
           refine pure_ (i:=13) (N:=some 73) (v:=?_) (a':=?_) #[true,true,true,true,true,true,false,false,false,false,true,false,false,true,false,false,false,false] rfl rfl (any_of HT_.out (by kernel_rfl)) (fun _ _ _ h=>h) (Or.inl ⟨by rfl,?_⟩) ?_ ?_;rotate_left;(focus (intro w';go_simp;with_reducible rfl));rotate_left;(focus (simp only [Act.put,sA_,sB_,sC_,i64_w,i32_w];rfl))
           refine take_ (i:=6) (N:=some 66) (v:=?_) (a':=?_) #[true,true,true,true,true,true,true,false,false,false,true,false,false,true,false,false,false,false] rfl rfl (take_ofW HT_.out HW_.out (by kernel_rfl)) (fun _ _ _ h=>h) (Or.inl ⟨by rfl,?_⟩) hHeld ?_ ?_;rotate_left;(focus (rintro w' ⟨s0,s1,s2,s3,s4,s5,s6,s7,s8,s9⟩;go_simp;with_reducible rfl));rotate_left;(focus (simp only [Act.put,sA_,sB_,sC_,i64_w,i32_w];rfl))
           refine pure_ (i:=7) (N:=some 67) (v:=?_) (a':=?_) #[true,true,true,true,true,true,true,true,false,false,true,false,false,true,false,false,false,false] rfl rfl (any_of HT_.out (by kernel_rfl)) (fun _ _ _ h=>h) (Or.inl ⟨by rfl,?_⟩) ?_ ?_;rotate_left;(focus (intro w';go_simp;with_reducible rfl));rotate_left;(focus (simp only [Act.put,sA_,sB_,sC_,i64_w,i32_w];rfl))
           refine take_ (i:=8) (N:=some 68) (v:=?_) (a':=?_) #[true,true,true,true,true,true,true,true,true,false,true,false,false,true,false,false,false,false] rfl rfl (take_ofW HT_.out HW_.out (by kernel_rfl)) (fun _ _ _ h=>h) (Or.inl ⟨by rfl,?_⟩) hHeld ?_ ?_;rotate_left;(focus (rintro w' ⟨s0,s1,s2,s3,s4,s5,s6,s7,s8,s9⟩;go_simp;with_reducible rfl));rotate_left;(focus (simp only [Act.put,sA_,sB_,sC_,i64_w,i32_w];rfl))
           refine pure_ (i:=9) (N:=some 69) (v:=?_) (a':=?_) #[true,true,true,true,true,true,true,true,true,true,true,false,false,true,false,false,false,false] rfl rfl (any_of HT_.out (by kernel_rfl)) (fun _ _ _ h=>h) (Or.inl ⟨by rfl,?_⟩) ?_ ?_;rotate_left;(focus (intro w';go_simp;with_reducible rfl));rotate_left;(focus (simp only [Act.put,sA_,sB_,sC_,i64_w,i32_w];rfl))
           refine take_ (i:=11) (N:=some 71) (v:=?_) (a':=?_) #[true,true,true,true,true,true,true,true,true,true,true,true,false,true,false,false,false,false] rfl rfl (take_ofW HT_.out HW_.out (by kernel_rfl)) (fun _ _ _ h=>h) (Or.inl ⟨by rfl,?_⟩) hHeld ?_ ?_;rotate_left;(focus (rintro w' ⟨s0,s1,s2,s3,s4,s5,s6,s7,s8,s9⟩;go_simp;with_reducible rfl));rotate_left;(focus (simp only [Act.put,sA_,sB_,sC_,i64_w,i32_w];rfl))
           refine pure_ (i:=12) (N:=some 72) (v:=?_) (a':=?_) #[true,true,true,true,true,true,true,true,true,true,true,true,true,true,false,false,false,false] rfl rfl (any_of HT_.out (by kernel_rfl)) (fun _ _ _ h=>h) (Or.inl ⟨by rfl,?_⟩) ?_ ?_;rotate_left;(focus (intro w';go_simp;with_reducible rfl));rotate_left;(focus (simp only [Act.put,sA_,sB_,sC_,i64_w,i32_w];rfl))
           refine take_ (i:=14) (N:=some 74) (v:=?_) (a':=?_) #[true,true,true,true,true,true,true,true,true,true,true,true,true,true,true,false,false,false] rfl rfl (take_ofW HT_.out HW_.out (by kernel_rfl)) (fun _ _ _ h=>h) (Or.inl ⟨by rfl,?_⟩) hHeld ?_ ?_;rotate_left;(focus (rintro w' ⟨s0,s1,s2,s3,s4,s5,s6,s7,s8,s9⟩;go_simp;with_reducible rfl));rotate_left;(focus (simp only [Act.put,sA_,sB_,sC_,i64_w,i32_w];rfl))
           refine pure_ (i:=15) (N:=some 75) (v:=?_) (a':=?_) #[true,true,true,true,true,true,true,true,true,true,true,true,true,true,true,true,false,false] rfl rfl (any_of HT_.out (by kernel_rfl)) (fun _ _ _ h=>h) (Or.inl ⟨by rfl,?_⟩) ?_ ?_;rotate_left;(focus (intro w';go_simp;with_reducible rfl));rotate_left;(focus (simp only [Act.put,sA_,sB_,sC_,i64_w,i32_w];rfl))
           refine pure_ (i:=16) (N:=some 76) (v:=?_) (a':=?_) #[true,true,true,true,true,true,true,true,true,true,true,true,true,true,true,true,true,false] rfl rfl (any_of HT_.out (by kernel_rfl)) (fun _ _ _ h=>h) (Or.inl ⟨by rfl,?_⟩) ?_ ?_;rotate_left;(focus (intro w';go_simp;with_reducible rfl));rotate_left;(focus (simp only [Act.put,sA_,sB_,sC_,i64_w,i32_w];rfl))
           refine pure_ (i:=17) (N:=some 77) (v:=?_) (a':=?_) #[true,true,true,true,true,true,true,true,true,true,true,true,true,true,true,true,true,true] rfl rfl (any_of HT_.out (by kernel_rfl)) (fun _ _ _ h=>h) (Or.inl ⟨by rfl,?_⟩) ?_ ?_;rotate_left;(focus (intro w';go_simp;with_reducible rfl));rotate_left;(focus (simp only [Act.put,sA_,sB_,sC_,i64_w,i32_w];rfl))
           refine done_ (done_of HT_.out (by kernel_rfl)) ?_
           try go_wp2
           go_meet
           case rel=>exact ⟨_,(decide ((wrap64 (((rdOf ByteArray.empty l0_4 0).size : Int) - a1_1)) < (a1_2.size : Int))),(by first|rfl|(simp;done)|(simp [*];done)),H',⟨by have:=HJ20.out;first|omega|exact Nat.le_refl _⟩,⟨by (with_reducible repeat (first|refine blk_drewN ?_ _|refine blk_drew ?_|refine blk_alloc ?_ _));exact BK104.out⟩,⟨by (with_reducible repeat (first|refine blk_drewN ?_ _|refine blk_drew ?_|refine blk_alloc ?_ _));exact BK105.out⟩,⟨by repeat (first|(with_reducible first|exact HB.out|apply below_alloc|apply pw_below_drewN|apply below_drew1|refine below_set ?_ GE104.out|refine below_set ?_ GE105.out)|exact HB.out)⟩⟩
          ·rw [if_neg c69] at H
           exact absurd H (by simp)
        case rest =>
         clear HC66
         try clear p1
         try clear q1
         try clear hx1
         try clear qi1
         try clear p2
         try clear c4
         try clear c5
         try clear c6
         try clear p6
         try clear p10
         try clear q10
         try clear hx10
         try clear qi10
         try clear c43
         try clear c43b0
         try clear c43b1
         try clear c49
         try clear c51
         try clear c51b0
         try clear c51b1
         try clear c52
         try clear c52b0
         try clear c52b1
         try clear c52b2
         try clear c54
         try clear c54b0
         try clear c54b1
         try clear c55
         try clear c59
         try clear c63
         try clear p64
         try clear c65
         try clear c65b0
         try clear c65b1
         try clear c67
         try clear c67b0
         try clear c67b1
         try clear c67b2
         try clear c69
         try clear c69b0
         try clear c69b1
         try clear hcz56_0
         try clear hcz56_1
         try clear hcz56_2
         try clear hcz56_3
         try clear hcz56_4
         try clear hcz60_0
         try clear hcz60_1
         try clear hcz60_2
         try clear hcz60_3
         try clear hcz60_4
         try clear hcz64_0
         try clear hcz64_1
         try clear hcz64_2
         try clear hcz64_3
         try clear hcz64_4
         try clear hfz56_0
         try clear hfz56_1
         try clear hfz56_2
         try clear hfz56_3
         try clear hfz56_4
         try clear hfz60_0
         try clear hfz60_1
         try clear hfz60_2
         try clear hfz60_3
         try clear hfz60_4
         try clear hfz64_0
         try clear hfz64_1
         try clear hfz64_2
         try clear hfz64_3
         try clear hfz64_4
         try clear hx108_0
         try clear p108
         try clear q108
         obtain ⟨kq,x77_65,rfl,HA,HJ65,BK104,BK105,HB⟩:=hcut
         cases kq with
         | zero=>exact absurd HA.out (by simp [page_stands.j1])
         | succ kj65 =>
          have H:=HA.out
          clear HA
          simp only [page_stands.j1] at H
          by_cases c71 : x77_65=true
          ·subst c71
           have H1 : (some 1)=some r:=by rw [if_pos rfl] at H;exact H
           clear H
           have H:=H1
           clear H1
           obtain rfl:=Option.some.inj H
           go_wp2
           go_ret
           exact ⟨by first|rfl|(simp [errW_none,errW_some] <;> rfl)|(simp [*,errW_none,errW_some] <;> rfl),by repeat (first|(with_reducible first|exact HB.out|apply below_alloc|apply pw_below_drewN|apply below_drew1|refine below_set ?_ GE104.out|refine below_set ?_ GE105.out)|exact HB.out)⟩
          ·replace c71:=Bool.eq_false_iff.mpr c71
           subst c71
           have H1 : (if 0 < (l0_4.length : Int) then (if 0≤a1_1 then (if a1_1≤(wrap64 (a1_1 + (a1_2.size : Int))) then (if (wrap64 (a1_1 + (a1_2.size : Int)))≤((rdOf ByteArray.empty l0_4 0).size : Int) then (if ((rdOf ByteArray.empty l0_4 0).extract (a1_1 : Int).toNat ((wrap64 (a1_1 + (a1_2.size : Int))) : Int).toNat).toList=a1_3.toList then (some 0) else (some 31)) else (none)) else (none)) else (none)) else (none))=some r:=by rw [if_neg (show ¬ (false=true) by decide)] at H;exact H
           clear H
           have H:=H1
           clear H1
           by_cases c72 : 0 < (l0_4.length : Int)
           ·rw [if_pos c72] at H
            have c72b0 : decide (0 < (l0_4.length : Int))=true:=decide_eq_true c72
            have c72b1 : decide (0 < l0_4.length)=true:=decide_eq_true (by omega)
            clear c72
            by_cases c73 : 0≤a1_1
            ·rw [if_pos c73] at H
             have c73b0:=eq_true c73
             have c73b1 : decide (0≤a1_1)=true:=decide_eq_true c73
             clear c73
             by_cases c74 : a1_1≤(wrap64 (a1_1 + (a1_2.size : Int)))
             ·rw [if_pos c74] at H
              have c74b0:=eq_true c74
              have c74b1 : decide (a1_1≤(wrap64 (a1_1 + (a1_2.size : Int))))=true:=decide_eq_true c74
              by_cases c75 : (wrap64 (a1_1 + (a1_2.size : Int)))≤((rdOf ByteArray.empty l0_4 0).size : Int)
              ·rw [if_pos c75] at H
               have c75b0:=eq_true c75
               have c75b1 : decide ((wrap64 (a1_1 + (a1_2.size : Int)))≤((rdOf ByteArray.empty l0_4 0).size : Int))=true:=decide_eq_true c75
               by_cases c76 : ((rdOf ByteArray.empty l0_4 0).extract (a1_1 : Int).toNat ((wrap64 (a1_1 + (a1_2.size : Int))) : Int).toNat).toList=a1_3.toList
               ·rw [if_pos c76] at H
                have c76b0 : (((rdOf ByteArray.empty l0_4 0).extract (a1_1 : Int).toNat ((wrap64 (a1_1 + (a1_2.size : Int))) : Int).toNat).toList == a1_3.toList)=true:=beq_iff_eq.mpr c76
                have c76b1 : (((rdOf ByteArray.empty l0_4 0).extract (a1_1 : Int).toNat ((wrap64 (a1_1 + (a1_2.size : Int))) : Int).toNat).toList != a1_3.toList)=false:=bne_eq_false_iff_eq.mpr c76
                clear c76
                obtain rfl:=Option.some.inj H
                try go_wp2
                have n0_:=Aside0.mk (blk_drew BK104.out)
                have n1_:=Aside0.mk (blk_drew BK105.out)
                have n2_:=Aside0.mk (below_drew1 HB.out)
                clear BK104
                clear BK105
                clear HB
                have BK104:=n0_
                have BK105:=n1_
                have HB:=n2_
                clear n0_ n1_ n2_
                have p109 : 0≤(0 : Int):=(by omega)
                have q109 : 0 < (l0_4.length : Int):=of_decide_eq_true (by first|(with_reducible assumption)|assumption)
                obtain ⟨ad109,e109,hx109_0⟩:=Kd.at_string HR0_4.out 0 p109 q109
                have hw109_0:=hx109_0
                (try rw [show ((0 : Int)).toNat=0 from rfl] at hw109_0)
                (try rw [show 0 * 1=0 from rfl] at hw109_0)
                (try rw [Addr.add_zero'] at hw109_0)
                cases e109
                have qi109 : (0 < l0_4.length)=True:=eq_true (by omega)
                (try rw [show ((0 : Int)).toNat=0 from rfl] at hx109_0)
                (try rw [Addr.add_zero'] at hx109_0)
                replace hx109_0:=(HB.out.cell (World.block_lt_of_cell? w _ hx109_0)).trans hx109_0
                replace p109:=eq_true p109
                replace q109:=eq_true q109
                refine start_ (n:=16) (S:=fun w'=>w'.cell? ⟨gb104,0,none⟩=some (.int .u32 a0_0)∧w'.cell? ⟨gb104,1,none⟩=some (.int .u64 a0_1)∧w'.cell? ⟨gb104,2,none⟩=some (.int .i64 a0_2)∧w'.cell? ⟨gb104,3,none⟩=some (.string a0_3)∧w'.cell? ⟨gb104,4,none⟩=some (.slice (some ad109) l0_4.length c0_4)∧w'.cell? ⟨gb105,0,none⟩=some (.int .i64 a1_0)∧w'.cell? ⟨gb105,1,none⟩=some (.int .i64 a1_1)∧w'.cell? ⟨gb105,2,none⟩=some (.string a1_2)∧w'.cell? ⟨gb105,3,none⟩=some (.string a1_3)∧w'.cell? ad109=some (.string (rdOf ByteArray.empty l0_4 0))) (ds:=[]) #[false,false,false,false,false,false,false,false,false,false,false,false,false,false,false,false] (by kernel_rfl) rfl rfl ⟨(blk_cell BK104.out 0).trans rfl,(blk_cell BK104.out 1).trans rfl,(blk_cell BK104.out 2).trans rfl,(blk_cell BK104.out 3).trans rfl,(blk_cell BK104.out 4).trans rfl,(blk_cell BK105.out 0).trans rfl,(blk_cell BK105.out 1).trans rfl,(blk_cell BK105.out 2).trans rfl,(blk_cell BK105.out 3).trans rfl,((HB.out.cell (World.block_lt_of_cell? w _ hw109_0)).trans hw109_0)⟩ (fun hHeld=>?_);refine with_tabW page_stands.tab24 page_stands.bits24 (fun HT_ HW_=>?_)
                generalize wc.drew=w77 at BK104 BK105 HB hx109_0 hHeld ⊢
                refine pure_ (i:=0) (N:=some 78) (v:=?_) (a':=?_) #[true,false,false,false,false,false,false,false,false,false,false,false,false,false,false,false] rfl rfl (any_of HT_.out (by kernel_rfl)) (fun _ _ _ h=>h) (Or.inl ⟨by rfl,?_⟩) ?_ ?_;rotate_left;(focus (intro w';go_simp;with_reducible rfl));rotate_left;(focus (simp only [Act.put,sA_,sB_,sC_,i64_w,i32_w];rfl))
                refine pure_ (i:=4) (N:=some 82) (v:=?_) (a':=?_) #[true,false,false,false,true,false,false,false,false,false,false,false,false,false,false,false] rfl rfl (any_of HT_.out (by kernel_rfl)) (fun _ _ _ h=>h) (Or.inl ⟨by rfl,?_⟩) ?_ ?_;rotate_left;(focus (intro w';go_simp;with_reducible rfl));rotate_left;(focus (simp only [Act.put,sA_,sB_,sC_,i64_w,i32_w];rfl))
                refine pure_ (i:=6) (N:=some 84) (v:=?_) (a':=?_) #[true,false,false,false,true,false,true,false,false,false,false,false,false,false,false,false] rfl rfl (any_of HT_.out (by kernel_rfl)) (fun _ _ _ h=>h) (Or.inl ⟨by rfl,?_⟩) ?_ ?_;rotate_left;(focus (intro w';go_simp;with_reducible rfl));rotate_left;(focus (simp only [Act.put,sA_,sB_,sC_,i64_w,i32_w];rfl))
                refine pure_ (i:=8) (N:=some 86) (v:=?_) (a':=?_) #[true,false,false,false,true,false,true,false,true,false,false,false,false,false,false,false] rfl rfl (any_of HT_.out (by kernel_rfl)) (fun _ _ _ h=>h) (Or.inl ⟨by rfl,?_⟩) ?_ ?_;rotate_left;(focus (intro w';go_simp;with_reducible rfl));rotate_left;(focus (simp only [Act.put,sA_,sB_,sC_,i64_w,i32_w];rfl))
                refine pure_ (i:=13) (N:=some 91) (v:=?_) (a':=?_) #[true,false,false,false,true,false,true,false,true,false,false,false,false,true,false,false] rfl rfl (any_of HT_.out (by kernel_rfl)) (fun _ _ _ h=>h) (Or.inl ⟨by rfl,?_⟩) ?_ ?_;rotate_left;(focus (intro w';go_simp;with_reducible rfl));rotate_left;(focus (simp only [Act.put,sA_,sB_,sC_,i64_w,i32_w];rfl))
                refine take_ (i:=1) (N:=some 79) (v:=?_) (a':=?_) #[true,true,false,false,true,false,true,false,true,false,false,false,false,true,false,false] rfl rfl (take_ofW HT_.out HW_.out (by kernel_rfl)) (fun _ _ _ h=>h) (Or.inl ⟨by rfl,?_⟩) hHeld ?_ ?_;rotate_left;(focus (rintro w' ⟨s0,s1,s2,s3,s4,s5,s6,s7,s8,s9⟩;go_simp;with_reducible rfl));rotate_left;(focus (simp only [Act.put,sA_,sB_,sC_,i64_w,i32_w];rfl))
                refine pure_ (i:=2) (N:=some 80) (v:=?_) (a':=?_) #[true,true,true,false,true,false,true,false,true,false,false,false,false,true,false,false] rfl rfl (any_of HT_.out (by kernel_rfl)) (fun _ _ _ h=>h) (Or.inl ⟨by rfl,?_⟩) ?_ ?_;rotate_left;(focus (intro w';go_simp;with_reducible rfl));rotate_left;(focus (simp only [Act.put,sA_,sB_,sC_,i64_w,i32_w];rfl))
                refine take_ (i:=3) (N:=some 81) (v:=?_) (a':=?_) #[true,true,true,true,true,false,true,false,true,false,false,false,false,true,false,false] rfl rfl (take_ofW HT_.out HW_.out (by kernel_rfl)) (fun _ _ _ h=>h) (Or.inl ⟨by rfl,?_⟩) hHeld ?_ ?_;rotate_left;(focus (rintro w' ⟨s0,s1,s2,s3,s4,s5,s6,s7,s8,s9⟩;go_simp;with_reducible rfl));rotate_left;(focus (simp only [Act.put,sA_,sB_,sC_,i64_w,i32_w];rfl))
                refine take_ (i:=5) (N:=some 83) (v:=?_) (a':=?_) #[true,true,true,true,true,true,true,false,true,false,false,false,false,true,false,false] rfl rfl (take_ofW HT_.out HW_.out (by kernel_rfl)) (fun _ _ _ h=>h) (Or.inl ⟨by rfl,?_⟩) hHeld ?_ ?_;rotate_left;(focus (rintro w' ⟨s0,s1,s2,s3,s4,s5,s6,s7,s8,s9⟩;go_simp;with_reducible rfl));rotate_left;(focus (simp only [Act.put,sA_,sB_,sC_,i64_w,i32_w];rfl))
                refine take_ (i:=7) (N:=some 85) (v:=?_) (a':=?_) #[true,true,true,true,true,true,true,true,true,false,false,false,false,true,false,false] rfl rfl (take_ofW HT_.out HW_.out (by kernel_rfl)) (fun _ _ _ h=>h) (Or.inl ⟨by rfl,?_⟩) hHeld ?_ ?_;rotate_left;(focus (rintro w' ⟨s0,s1,s2,s3,s4,s5,s6,s7,s8,s9⟩;go_simp;with_reducible rfl));rotate_left;(focus (simp only [Act.put,sA_,sB_,sC_,i64_w,i32_w];rfl))
                refine take_ (i:=9) (N:=some 87) (v:=?_) (a':=?_) #[true,true,true,true,true,true,true,true,true,true,false,false,false,true,false,false] rfl rfl (take_ofW HT_.out HW_.out (by kernel_rfl)) (fun _ _ _ h=>h) (Or.inl ⟨by rfl,?_⟩) hHeld ?_ ?_;rotate_left;(focus (rintro w' ⟨s0,s1,s2,s3,s4,s5,s6,s7,s8,s9⟩;go_simp;with_reducible rfl));rotate_left;(focus (simp only [Act.put,sA_,sB_,sC_,i64_w,i32_w];rfl))
                refine pure_ (i:=10) (N:=some 88) (v:=?_) (a':=?_) #[true,true,true,true,true,true,true,true,true,true,true,false,false,true,false,false] rfl rfl (any_of HT_.out (by kernel_rfl)) (fun _ _ _ h=>h) (Or.inl ⟨by rfl,?_⟩) ?_ ?_;rotate_left;(focus (intro w';go_simp;with_reducible rfl));rotate_left;(focus (simp only [Act.put,sA_,sB_,sC_,i64_w,i32_w];rfl))
                refine pure_ (i:=11) (N:=some 89) (v:=?_) (a':=?_) #[true,true,true,true,true,true,true,true,true,true,true,true,false,true,false,false] rfl rfl (any_of HT_.out (by kernel_rfl)) (fun _ _ _ h=>h) (Or.inl ⟨by rfl,?_⟩) ?_ ?_;rotate_left;(focus (intro w';go_simp;with_reducible rfl));rotate_left;(focus (simp only [Act.put,sA_,sB_,sC_,i64_w,i32_w];rfl))
                refine pure_ (i:=12) (N:=some 90) (v:=?_) (a':=?_) #[true,true,true,true,true,true,true,true,true,true,true,true,true,true,false,false] rfl rfl (any_of HT_.out (by kernel_rfl)) (fun _ _ _ h=>h) (Or.inl ⟨by rfl,?_⟩) ?_ ?_;rotate_left;(focus (intro w';go_simp;with_reducible rfl));rotate_left;(focus (simp only [Act.put,sA_,sB_,sC_,i64_w,i32_w];rfl))
                refine take_ (i:=14) (N:=some 92) (v:=?_) (a':=?_) #[true,true,true,true,true,true,true,true,true,true,true,true,true,true,true,false] rfl rfl (take_ofW HT_.out HW_.out (by kernel_rfl)) (fun _ _ _ h=>h) (Or.inl ⟨by rfl,?_⟩) hHeld ?_ ?_;rotate_left;(focus (rintro w' ⟨s0,s1,s2,s3,s4,s5,s6,s7,s8,s9⟩;go_simp;with_reducible rfl));rotate_left;(focus (simp only [Act.put,sA_,sB_,sC_,i64_w,i32_w];rfl))
                refine pure_ (i:=15) (N:=some 93) (v:=?_) (a':=?_) #[true,true,true,true,true,true,true,true,true,true,true,true,true,true,true,true] rfl rfl (any_of HT_.out (by kernel_rfl)) (fun _ _ _ h=>h) (Or.inl ⟨by rfl,?_⟩) ?_ ?_;rotate_left;(focus (intro w';go_simp;with_reducible rfl));rotate_left;(focus (simp only [Act.put,sA_,sB_,sC_,i64_w,i32_w];rfl))
                refine done_ (done_of HT_.out (by kernel_rfl)) ?_
                try go_wp2
                go_ret
                exact ⟨by first|rfl|(simp [errW_none,errW_some] <;> rfl)|(simp [*,errW_none,errW_some] <;> rfl),by repeat (first|(with_reducible first|exact HB.out|apply below_alloc|apply pw_below_drewN|apply below_drew1|refine below_set ?_ GE104.out|refine below_set ?_ GE105.out)|exact HB.out)⟩
               ·rw [if_neg c76] at H
                have c76b0 : (((rdOf ByteArray.empty l0_4 0).extract (a1_1 : Int).toNat ((wrap64 (a1_1 + (a1_2.size : Int))) : Int).toNat).toList == a1_3.toList)=false:=beq_eq_false_iff_ne.mpr c76
                have c76b1 : (((rdOf ByteArray.empty l0_4 0).extract (a1_1 : Int).toNat ((wrap64 (a1_1 + (a1_2.size : Int))) : Int).toNat).toList != a1_3.toList)=true:=bne_iff_ne.mpr c76
                obtain rfl:=Option.some.inj H
                try go_wp2
                have n0_:=Aside0.mk (blk_drew BK104.out)
                have n1_:=Aside0.mk (blk_drew BK105.out)
                have n2_:=Aside0.mk (below_drew1 HB.out)
                clear BK104
                clear BK105
                clear HB
                have BK104:=n0_
                have BK105:=n1_
                have HB:=n2_
                clear n0_ n1_ n2_
                have p109 : 0≤(0 : Int):=(by omega)
                have q109 : 0 < (l0_4.length : Int):=of_decide_eq_true (by first|(with_reducible assumption)|assumption)
                obtain ⟨ad109,e109,hx109_0⟩:=Kd.at_string HR0_4.out 0 p109 q109
                have hw109_0:=hx109_0
                (try rw [show ((0 : Int)).toNat=0 from rfl] at hw109_0)
                (try rw [show 0 * 1=0 from rfl] at hw109_0)
                (try rw [Addr.add_zero'] at hw109_0)
                cases e109
                have qi109 : (0 < l0_4.length)=True:=eq_true (by omega)
                (try rw [show ((0 : Int)).toNat=0 from rfl] at hx109_0)
                (try rw [Addr.add_zero'] at hx109_0)
                replace hx109_0:=(HB.out.cell (World.block_lt_of_cell? w _ hx109_0)).trans hx109_0
                replace p109:=eq_true p109
                replace q109:=eq_true q109
                refine start_ (n:=16) (S:=fun w'=>w'.cell? ⟨gb104,0,none⟩=some (.int .u32 a0_0)∧w'.cell? ⟨gb104,1,none⟩=some (.int .u64 a0_1)∧w'.cell? ⟨gb104,2,none⟩=some (.int .i64 a0_2)∧w'.cell? ⟨gb104,3,none⟩=some (.string a0_3)∧w'.cell? ⟨gb104,4,none⟩=some (.slice (some ad109) l0_4.length c0_4)∧w'.cell? ⟨gb105,0,none⟩=some (.int .i64 a1_0)∧w'.cell? ⟨gb105,1,none⟩=some (.int .i64 a1_1)∧w'.cell? ⟨gb105,2,none⟩=some (.string a1_2)∧w'.cell? ⟨gb105,3,none⟩=some (.string a1_3)∧w'.cell? ad109=some (.string (rdOf ByteArray.empty l0_4 0))) (ds:=[]) #[false,false,false,false,false,false,false,false,false,false,false,false,false,false,false,false] (by kernel_rfl) rfl rfl ⟨(blk_cell BK104.out 0).trans rfl,(blk_cell BK104.out 1).trans rfl,(blk_cell BK104.out 2).trans rfl,(blk_cell BK104.out 3).trans rfl,(blk_cell BK104.out 4).trans rfl,(blk_cell BK105.out 0).trans rfl,(blk_cell BK105.out 1).trans rfl,(blk_cell BK105.out 2).trans rfl,(blk_cell BK105.out 3).trans rfl,((HB.out.cell (World.block_lt_of_cell? w _ hw109_0)).trans hw109_0)⟩ (fun hHeld=>?_);refine with_tabW page_stands.tab24 page_stands.bits24 (fun HT_ HW_=>?_)
                generalize wc.drew=w78 at BK104 BK105 HB hx109_0 hHeld ⊢
                refine pure_ (i:=0) (N:=some 78) (v:=?_) (a':=?_) #[true,false,false,false,false,false,false,false,false,false,false,false,false,false,false,false] rfl rfl (any_of HT_.out (by kernel_rfl)) (fun _ _ _ h=>h) (Or.inl ⟨by rfl,?_⟩) ?_ ?_;rotate_left;(focus (intro w';go_simp;with_reducible rfl));rotate_left;(focus (simp only [Act.put,sA_,sB_,sC_,i64_w,i32_w];rfl))
                refine pure_ (i:=4) (N:=some 82) (v:=?_) (a':=?_) #[true,false,false,false,true,false,false,false,false,false,false,false,false,false,false,false] rfl rfl (any_of HT_.out (by kernel_rfl)) (fun _ _ _ h=>h) (Or.inl ⟨by rfl,?_⟩) ?_ ?_;rotate_left;(focus (intro w';go_simp;with_reducible rfl));rotate_left;(focus (simp only [Act.put,sA_,sB_,sC_,i64_w,i32_w];rfl))
                refine pure_ (i:=6) (N:=some 84) (v:=?_) (a':=?_) #[true,false,false,false,true,false,true,false,false,false,false,false,false,false,false,false] rfl rfl (any_of HT_.out (by kernel_rfl)) (fun _ _ _ h=>h) (Or.inl ⟨by rfl,?_⟩) ?_ ?_;rotate_left;(focus (intro w';go_simp;with_reducible rfl));rotate_left;(focus (simp only [Act.put,sA_,sB_,sC_,i64_w,i32_w];rfl))
                refine pure_ (i:=8) (N:=some 86) (v:=?_) (a':=?_) #[true,false,false,false,true,false,true,false,true,false,false,false,false,false,false,false] rfl rfl (any_of HT_.out (by kernel_rfl)) (fun _ _ _ h=>h) (Or.inl ⟨by rfl,?_⟩) ?_ ?_;rotate_left;(focus (intro w';go_simp;with_reducible rfl));rotate_left;(focus (simp only [Act.put,sA_,sB_,sC_,i64_w,i32_w];rfl))
                refine pure_ (i:=13) (N:=some 91) (v:=?_) (a':=?_) #[true,false,false,false,true,false,true,false,true,false,false,false,false,true,false,false] rfl rfl (any_of HT_.out (by kernel_rfl)) (fun _ _ _ h=>h) (Or.inl ⟨by rfl,?_⟩) ?_ ?_;rotate_left;(focus (intro w';go_simp;with_reducible rfl));rotate_left;(focus (simp only [Act.put,sA_,sB_,sC_,i64_w,i32_w];rfl))
                refine take_ (i:=1) (N:=some 79) (v:=?_) (a':=?_) #[true,true,false,false,true,false,true,false,true,false,false,false,false,true,false,false] rfl rfl (take_ofW HT_.out HW_.out (by kernel_rfl)) (fun _ _ _ h=>h) (Or.inl ⟨by rfl,?_⟩) hHeld ?_ ?_;rotate_left;(focus (rintro w' ⟨s0,s1,s2,s3,s4,s5,s6,s7,s8,s9⟩;go_simp;with_reducible rfl));rotate_left;(focus (simp only [Act.put,sA_,sB_,sC_,i64_w,i32_w];rfl))
                refine pure_ (i:=2) (N:=some 80) (v:=?_) (a':=?_) #[true,true,true,false,true,false,true,false,true,false,false,false,false,true,false,false] rfl rfl (any_of HT_.out (by kernel_rfl)) (fun _ _ _ h=>h) (Or.inl ⟨by rfl,?_⟩) ?_ ?_;rotate_left;(focus (intro w';go_simp;with_reducible rfl));rotate_left;(focus (simp only [Act.put,sA_,sB_,sC_,i64_w,i32_w];rfl))
                refine take_ (i:=3) (N:=some 81) (v:=?_) (a':=?_) #[true,true,true,true,true,false,true,false,true,false,false,false,false,true,false,false] rfl rfl (take_ofW HT_.out HW_.out (by kernel_rfl)) (fun _ _ _ h=>h) (Or.inl ⟨by rfl,?_⟩) hHeld ?_ ?_;rotate_left;(focus (rintro w' ⟨s0,s1,s2,s3,s4,s5,s6,s7,s8,s9⟩;go_simp;with_reducible rfl));rotate_left;(focus (simp only [Act.put,sA_,sB_,sC_,i64_w,i32_w];rfl))
                refine take_ (i:=5) (N:=some 83) (v:=?_) (a':=?_) #[true,true,true,true,true,true,true,false,true,false,false,false,false,true,false,false] rfl rfl (take_ofW HT_.out HW_.out (by kernel_rfl)) (fun _ _ _ h=>h) (Or.inl ⟨by rfl,?_⟩) hHeld ?_ ?_;rotate_left;(focus (rintro w' ⟨s0,s1,s2,s3,s4,s5,s6,s7,s8,s9⟩;go_simp;with_reducible rfl));rotate_left;(focus (simp only [Act.put,sA_,sB_,sC_,i64_w,i32_w];rfl))
                refine take_ (i:=7) (N:=some 85) (v:=?_) (a':=?_) #[true,true,true,true,true,true,true,true,true,false,false,false,false,true,false,false] rfl rfl (take_ofW HT_.out HW_.out (by kernel_rfl)) (fun _ _ _ h=>h) (Or.inl ⟨by rfl,?_⟩) hHeld ?_ ?_;rotate_left;(focus (rintro w' ⟨s0,s1,s2,s3,s4,s5,s6,s7,s8,s9⟩;go_simp;with_reducible rfl));rotate_left;(focus (simp only [Act.put,sA_,sB_,sC_,i64_w,i32_w];rfl))
                refine take_ (i:=9) (N:=some 87) (v:=?_) (a':=?_) #[true,true,true,true,true,true,true,true,true,true,false,false,false,true,false,false] rfl rfl (take_ofW HT_.out HW_.out (by kernel_rfl)) (fun _ _ _ h=>h) (Or.inl ⟨by rfl,?_⟩) hHeld ?_ ?_;rotate_left;(focus (rintro w' ⟨s0,s1,s2,s3,s4,s5,s6,s7,s8,s9⟩;go_simp;with_reducible rfl));rotate_left;(focus (simp only [Act.put,sA_,sB_,sC_,i64_w,i32_w];rfl))
                refine pure_ (i:=10) (N:=some 88) (v:=?_) (a':=?_) #[true,true,true,true,true,true,true,true,true,true,true,false,false,true,false,false] rfl rfl (any_of HT_.out (by kernel_rfl)) (fun _ _ _ h=>h) (Or.inl ⟨by rfl,?_⟩) ?_ ?_;rotate_left;(focus (intro w';go_simp;with_reducible rfl));rotate_left;(focus (simp only [Act.put,sA_,sB_,sC_,i64_w,i32_w];rfl))
                refine pure_ (i:=11) (N:=some 89) (v:=?_) (a':=?_) #[true,true,true,true,true,true,true,true,true,true,true,true,false,true,false,false] rfl rfl (any_of HT_.out (by kernel_rfl)) (fun _ _ _ h=>h) (Or.inl ⟨by rfl,?_⟩) ?_ ?_;rotate_left;(focus (intro w';go_simp;with_reducible rfl));rotate_left;(focus (simp only [Act.put,sA_,sB_,sC_,i64_w,i32_w];rfl))
                refine pure_ (i:=12) (N:=some 90) (v:=?_) (a':=?_) #[true,true,true,true,true,true,true,true,true,true,true,true,true,true,false,false] rfl rfl (any_of HT_.out (by kernel_rfl)) (fun _ _ _ h=>h) (Or.inl ⟨by rfl,?_⟩) ?_ ?_;rotate_left;(focus (intro w';go_simp;with_reducible rfl));rotate_left;(focus (simp only [Act.put,sA_,sB_,sC_,i64_w,i32_w];rfl))
                refine take_ (i:=14) (N:=some 92) (v:=?_) (a':=?_) #[true,true,true,true,true,true,true,true,true,true,true,true,true,true,true,false] rfl rfl (take_ofW HT_.out HW_.out (by kernel_rfl)) (fun _ _ _ h=>h) (Or.inl ⟨by rfl,?_⟩) hHeld ?_ ?_;rotate_left;(focus (rintro w' ⟨s0,s1,s2,s3,s4,s5,s6,s7,s8,s9⟩;go_simp;with_reducible rfl));rotate_left;(focus (simp only [Act.put,sA_,sB_,sC_,i64_w,i32_w];rfl))
                refine pure_ (i:=15) (N:=some 93) (v:=?_) (a':=?_) #[true,true,true,true,true,true,true,true,true,true,true,true,true,true,true,true] rfl rfl (any_of HT_.out (by kernel_rfl)) (fun _ _ _ h=>h) (Or.inl ⟨by rfl,?_⟩) ?_ ?_;rotate_left;(focus (intro w';go_simp;with_reducible rfl));rotate_left;(focus (simp only [Act.put,sA_,sB_,sC_,i64_w,i32_w];rfl))
                refine done_ (done_of HT_.out (by kernel_rfl)) ?_
                try go_wp2
                go_ret
                exact ⟨by first|rfl|(simp [errW_none,errW_some] <;> rfl)|(simp [*,errW_none,errW_some] <;> rfl),by repeat (first|(with_reducible first|exact HB.out|apply below_alloc|apply pw_below_drewN|apply below_drew1|refine below_set ?_ GE104.out|refine below_set ?_ GE105.out)|exact HB.out)⟩
              ·rw [if_neg c75] at H
               exact absurd H (by simp)
             ·rw [if_neg c74] at H
              exact absurd H (by simp)
            ·rw [if_neg c73] at H
             exact absurd H (by simp)
           ·rw [if_neg c72] at H
            exact absurd H (by simp)
       ·rw [if_neg c65] at H
        have c65b0 : (a1_0 == 6)=false:=beq_eq_false_iff_ne.mpr c65
        have c65b1 : (a1_0 != 6)=true:=bne_iff_ne.mpr c65
        obtain rfl:=Option.some.inj H
        go_wp2
        go_ret
        exact ⟨by first|rfl|(simp [errW_none,errW_some] <;> rfl)|(simp [*,errW_none,errW_some] <;> rfl),by repeat (first|(with_reducible first|exact HB.out|apply below_alloc|apply pw_below_drewN|apply below_drew1|refine below_set ?_ GE104.out|refine below_set ?_ GE105.out)|exact HB.out)⟩
end Go.Proofs.Ytfegabikfkmepaa.PAp
end
section
namespace Go.Proofs.Ytfegabikfkmepaa
open Go.RowKit Go.Gi Go.GiRow Go.Proofs.YtfegabikfkmepaaW.PrintWords PAp
set_option maxRecDepth 20000
set_option linter.unusedSimpArgs false
set_option linter.unusedVariables false
def kindB (kind : Int) (head : ByteArray) : ByteArray := strOfNums [kind % 256] ++ head
def stE (kind : Int) (head : ByteArray) (slots : List ByteArray) (k a : Int) (s o : ByteArray) : Int :=
  if k = 2 then (if a > (slots.length : Int) then 1 else if (slots.length : Int) ≥ 64 then 3 else 0)
  else if k = 3 ∨ k = 4 then (if a ≥ (slots.length : Int) then 1 else if (rdOf ByteArray.empty slots a).toList = o.toList then 0 else 31)
  else if k = 5 then (if head.toList = o.toList then 0 else 31)
  else if k = 7 then (if (slots.length : Int) = 0 then (if (kindB kind head).toList = o.toList then 0 else 31) else 1)
  else if k = 6 then (if (slots.length : Int) = 0 then 1 else if ((rdOf ByteArray.empty slots 0).size : Int) - a < s.size then 1
    else if ((rdOf ByteArray.empty slots 0).extract a.toNat (a + s.size).toNat).toList = o.toList then 0 else 31)
  else 0
theorem opEs_ok {k a : Int} {s o : ByteArray} (h : opEs k a s o = 0) : opOk k a s.data.toList o.data.toList := by
  unfold opEs opE at h
  split at h
  · assumption
  · cases h
theorem w64s {x : Int} (h0 : -9223372036854775808 ≤ x) (h1 : x ≤ 9223372036854775807) : wrap64 x = x := by
  unfold wrap64; omega
theorem kindB_size (kind : Int) (head : ByteArray) : (kindB kind head).size = 1 + head.size := by
  unfold kindB
  rw [ByteArray.size_append]
  rfl
theorem st_f (num lsn kind : Int) (head : ByteArray) (slots : List ByteArray) (k a : Int) (s o : ByteArray) (hE : opEs k a s o = 0) (h64 : slots.length ≤ 64) (hs : ∀ x ∈ slots, x.size ≤ 140737488350000) (hh : head.size ≤ 140737488350000) :
    page_stands.f 3 num lsn kind head slots k a s o = some (stE kind head slots k a s o) := by
  obtain ⟨hs1, ho1, hk⟩ := opEs_ok hE
  have es : s.data.toList.length = s.size := by simp
  have eo : o.data.toList.length = o.size := by simp
  rw [es] at hs1 hk
  rw [eo] at ho1 hk
  have hz : (rdOf ByteArray.empty slots 0).size ≤ 140737488350000 := by
    unfold rdOf
    cases slots with
    | nil => exact Nat.zero_le _
    | cons x l => exact hs x (by simp)
  unfold page_stands.f stE
  rcases hk with h | h | h | h | h | h | h
  · obtain ⟨rfl, h⟩ := h
    simp [page_stands.j0]
  · obtain ⟨rfl, h⟩ := h
    simp only [if_true]
    split
    · rfl
    · split <;> rfl
  · obtain ⟨rfl, h⟩ := h
    simp [page_stands.j0]
    split
    · rfl
    · rw [if_pos (by omega), if_pos (by omega)]
      split <;> rfl
  · obtain ⟨rfl, h⟩ := h
    simp [page_stands.j0]
    split
    · rfl
    · rw [if_pos (by omega), if_pos (by omega)]
      split <;> rfl
  · obtain ⟨rfl, h⟩ := h
    simp [page_stands.j0]
    split <;> rfl
  · obtain ⟨rfl, h⟩ := h
    have w1 := w64s (x := ((rdOf ByteArray.empty slots 0).size : Int) - a) (by omega) (by omega)
    have w2 := w64s (x := a + (s.size : Int)) (by omega) (by omega)
    simp [page_stands.j0, page_stands.j1, w1, w2]
    by_cases h0 : slots = []
    · simp [h0]
    · have hp : 0 < slots.length := by
        cases slots with
        | nil => exact absurd rfl h0
        | cons _ _ => simp
      simp only [h0, if_false, if_pos hp]
      by_cases h1 : ((rdOf ByteArray.empty slots 0).size : Int) - a < s.size
      · simp [h1]
      · simp only [h1, if_false]
        rw [if_pos (by omega), if_pos (by omega), if_pos (by omega)]
        split <;> rfl
  · obtain ⟨rfl, h⟩ := h
    have e1 : page_Kind.f kind head = some (kindB kind head) := by
      unfold page_Kind.f
      have := kindB_size kind head
      unfold kindB at this
      rw [ByteArray.size_append] at this
      rw [Option.bind_some, if_pos (by omega)]
      rfl
    simp [page_stands.j0, e1]
    by_cases h0 : slots = []
    · simp [h0]
      split <;> rfl
    · simp [h0]
end Go.Proofs.Ytfegabikfkmepaa
end
section
namespace Go.Proofs.Ytfegabikfkmepaa
open Go.RowKit Go.Gi Go.GiRow Go.Proofs.YtfegabikfkmepaaW.PrintWords PAp
set_option maxRecDepth 20000
set_option linter.unusedSimpArgs false
set_option linter.unusedVariables false
theorem rdrows_of_C {w : World} {A : Option Addr} {l : List ByteArray} (h : Kd.C Kd.string w A l.length l) : RdRows strC 1 w A l := by
  intro k hk
  obtain ⟨ad, rfl, hc⟩ := h.2.2 (by omega)
  obtain ⟨c, hl, hr, hcell⟩ := hc k _ (List.getElem?_eq_getElem hk)
  have hr' : c = [Value.string l[k]] := hr
  rw [hr'] at hcell
  have h0 := hcell 0 _ rfl
  obtain ⟨c1, _, hr1, hcell1⟩ := hc 0 _ (List.getElem?_eq_getElem (show 0 < l.length by omega))
  have hr1' : c1 = [Value.string l[0]] := hr1
  have h01 := hcell1 0 (Value.string l[0]) (by rw [hr1']; rfl)
  have e0 : ad.add 0 = ad := by unfold Addr.add; simp
  rw [Nat.zero_mul, show ad.add (0 + 0) = ad from e0] at h01
  have hsp : ad.spot = none := by
    unfold World.cell? at h01
    cases hs : ad.spot with
    | none => rfl
    | some y =>
      simp [hs] at h01
      split at h01 <;> simp_all
  obtain ⟨b, off, sp⟩ := ad
  simp only at hsp
  subst hsp
  have ha : ∀ i, (⟨b, off, none⟩ : Addr).add i = ⟨b, off + i, none⟩ := fun i => by unfold Addr.add; split <;> simp_all
  refine ⟨b, off, rfl, ?_, ?_⟩
  · have := World.block_lt_of_cell? w _ h0
    rw [ha] at this
    exact this
  · intro j u hu
    have := hcell j u hu
    rw [ha] at this
    have e : off + k * 1 + j = off + (k * Kd.string.sz + j) := by show off + k * 1 + j = off + (k * 1 + j); omega
    rw [e]
    exact this
def putB (p s : ByteArray) (i : Nat) : ByteArray := p.extract 0 i ++ s ++ p.extract (i + s.size) p.size
def apR (num lsn kind : Int) (head : ByteArray) (slots : List ByteArray) (k a : Int) (s o : ByteArray) (l : Int) : Int × Int × Int × ByteArray × List ByteArray × Int :=
  if opEs k a s o ≠ 0 then (0, 0, 0, ⟨#[]⟩, [], 33)
  else if stE kind head slots k a s o ≠ 0 then (0, 0, 0, ⟨#[]⟩, [], stE kind head slots k a s o)
  else if k = 1 then finR num l a s []
  else if k = 2 then finR num l kind head (insL slots a.toNat s)
  else if k = 3 then finR num l kind head (slots.eraseIdx a.toNat)
  else if k = 4 then finR num l kind head (slots.set a.toNat s)
  else if k = 5 then finR num l kind s slots
  else if k = 7 then finR num l (bt s 0) (s.extract 1 s.size) slots
  else finR num l kind head (slots.set 0 (putB (rdOf ByteArray.empty slots 0) s a.toNat))
theorem mem_ins {l : List ByteArray} {i : Nat} {s x : ByteArray} (h : x ∈ insL l i s) : x = s ∨ x ∈ l := by
  unfold insL at h
  rcases List.mem_append.1 h with h | h
  · exact .inr (List.mem_of_mem_take h)
  · rcases List.mem_cons.1 h with h | h
    · exact .inl h
    · exact .inr (List.mem_of_mem_drop h)
theorem apply_any (num lsn kind : Int) (head : ByteArray) (slots : List ByteArray) (AA : Option Addr) (cc : Nat) (k a : Int) (s o : ByteArray) (l : Int) (w : World) (hr : Kd.C Kd.string w AA slots.length slots) (hc : slots.length ≤ cc)
    (h64 : slots.length ≤ 64) (hs : ∀ x ∈ slots, x.size ≤ 140737488350000) (hh : head.size ≤ 140737488350000) :
    Calls Try.prog 11 #[.agg #[.int .u32 num, .int .u64 lsn, .int .i64 kind, .string head, .slice AA slots.length cc], .agg #[.int .i64 k, .int .i64 a, .string s, .string o], .int .u64 l] w (apPost w (apR num lsn kind head slots k a s o l)) := by
  have hA := rdrows_of_C hr
  by_cases hE : opEs k a s o = 0
  · have hst : ∀ w', Below w.heap.size w w' → _ := fun w' hb => page_stands.calls 3 num lsn kind head AA cc slots k a s o _ w' (Kd.C_below hr hb) hc (st_f num lsn kind head slots k a s o hE h64 hs hh)
    unfold apR
    rw [if_neg (by simpa using hE)]
    by_cases hS : stE kind head slots k a s o = 0
    · rw [if_neg (by simpa using hS)]
      rw [hS] at hst
      obtain ⟨hs1, ho1, hk⟩ := opEs_ok hE
      have es : s.data.toList.length = s.size := by simp
      rw [es] at hs1 hk
      unfold stE at hS
      rcases hk with h | h | h | h | h | h | h
      · obtain ⟨rfl, h⟩ := h
        exact apply_k1 num lsn kind head slots AA cc a s o l w hA h64 hE hst (by simp) (by omega)
      · obtain ⟨rfl, h⟩ := h
        obtain ⟨i, rfl⟩ := Int.eq_ofNat_of_zero_le h.1
        simp at hS
        have h1 : i ≤ slots.length := by
          apply Nat.le_of_not_lt
          intro hlt
          rw [if_pos (by omega)] at hS
          cases hS
        rw [if_neg (by omega)] at hS
        have h2 : slots.length < 64 := by
          apply Nat.lt_of_not_le
          intro hlt
          rw [if_pos (by omega)] at hS
          cases hS
        exact apply_k2 num lsn kind head slots AA cc i s o l w hA h64 hE hst h1 h2 (fun x hx => by rcases mem_ins hx with rfl | hx; omega; have := hs x hx; omega) (by omega)
      · obtain ⟨rfl, h⟩ := h
        obtain ⟨i, rfl⟩ := Int.eq_ofNat_of_zero_le h.1
        simp at hS
        have h1 : i < slots.length := by
          apply Nat.lt_of_not_le
          intro hlt
          rw [if_pos (by omega)] at hS
          cases hS
        exact apply_k3 num lsn kind head slots AA cc i s o l w hA h64 hE hst h1 (fun x hx => by have := hs x (List.mem_of_mem_eraseIdx hx); omega) (by omega)
      · obtain ⟨rfl, h⟩ := h
        obtain ⟨i, rfl⟩ := Int.eq_ofNat_of_zero_le h.1
        simp at hS
        have h1 : i < slots.length := by
          apply Nat.lt_of_not_le
          intro hlt
          rw [if_pos (by omega)] at hS
          cases hS
        exact apply_k4 num lsn kind head slots AA cc i s o l w hA h64 hE hst _ rfl h1 (fun x hx => by rcases List.mem_or_eq_of_mem_set hx with hx | rfl; have := hs x hx; omega; omega) (by omega)
      · obtain ⟨rfl, h⟩ := h
        exact apply_k5 num lsn kind head slots AA cc a s o l w hA h64 hE hst (fun x hx => by have := hs x hx; omega) (by omega)
      · obtain ⟨rfl, h⟩ := h
        obtain ⟨i, rfl⟩ := Int.eq_ofNat_of_zero_le h.1
        simp at hS
        have hp : 0 < slots.length := by
          cases slots with
          | nil => simp at hS
          | cons _ _ => simp
        have hne : ¬ slots = [] := by intro e; rw [e] at hp; cases hp
        rw [if_neg hne] at hS
        have e0 : rdOf ByteArray.empty slots 0 = slots[0] := by unfold rdOf; simp [List.getD_eq_getElem?_getD, List.getElem?_eq_getElem hp]
        have hz := hs _ (List.getElem_mem hp)
        rw [e0] at hS
        have h1 : i + s.size ≤ slots[0].size := by
          apply Nat.le_of_not_lt
          intro hlt
          rw [if_pos (by omega)] at hS
          cases hS
        rw [e0]
        have hps : (putB slots[0] s i).size = slots[0].size := by
          unfold putB
          rw [ByteArray.size_append, ByteArray.size_append, ByteArray.size_extract, ByteArray.size_extract]
          omega
        exact apply_k6 num lsn kind head slots AA cc i s o l w hA h64 hE hst slots[0] (putB slots[0] s i) _ hp (fun _ => rfl) rfl h1 (by omega) rfl (fun x hx => by rcases List.mem_or_eq_of_mem_set hx with hx | rfl; have := hs x hx; omega; rw [Int.toNat_natCast, hps]; omega) (by omega)
      · obtain ⟨rfl, h⟩ := h
        have hb := bt_range s 0
        exact apply_k7 num lsn kind head slots AA cc a s o l w hA h64 hE hst (bt s 0) (s.extract 1 s.size) (by omega) (fun h => by
          have e := bt_at s 0 h
          have e' : ((s[0]'h).toNat : Int) = bt s 0 := e
          rw [e', w64s (by omega) (by omega)]) rfl (fun x hx => by have := hs x hx; omega) (by rw [ByteArray.size_extract]; omega)
    · rw [if_pos hS]
      exact apply_st num lsn kind head slots AA cc k a s o l w hA h64 _ hS hE hst
  · unfold apR
    rw [if_pos hE]
    exact apply_bad num lsn kind head slots AA cc k a s o l w hA h64 (by unfold opEs opE at *; split at hE <;> simp_all) trivial
end Go.Proofs.Ytfegabikfkmepaa
end
section
namespace Go.Gi
open Go.RowKit
set_option maxRecDepth 20000
theorem append_str_at {P : Program} (w : World) (base : Nat) (t u ty e : TypeId) (i : TypeInfo) (ht : P.underlying t = some (.slice e)) (hu : P.underlying u = some .string) (hi : P.info? e = some i) (hz : i.zero = some (.int .u8 0))
    (hsize : i.size = 1) (hby : i.bytes = 1) (v : Value) (n : Nat) (xs : List Value) (hown : w.ownsRow base e 1 v n xs) (s : ByteArray)
    (h63 : n + s.size ≤ maxLen) (hbytes : n + s.size ≤ 140737488355328) {v' : Value} {w' : World} (hr : (Builtin.append_ #[t, u] ty #[v, .string s]).run P w = .ok v' w') :
    v'.ownBlock = v.ownBlock ∨ v'.ownBlock = some w.heap.size := by
  have hsmall : n + s.size ≤ 9223372036854775807 := by simp only [maxLen] at h63; omega
  have hxl : xs.length = n := by simpa using hown.1
  rcases hown.2 with ⟨rfl, rfl⟩ | ⟨g, cap, cur, rfl, hbg, hg, hnc, hcm, hcs, htake⟩
  · by_cases hm : s.size = 0
    · have hf := Lib.run_firstCells_string (P := P) w 1 s
      rw [hm] at hf
      simp [Builtin.append_, run_underlying ht, run_underlying hu, sizeOf, typeInfo, hi, hsize, Builtin.lenOf, hm, hf] at hr
      exact .inl (by rw [← hr.1])
    · have h2 := run_append_nil_string (P := P) w t u ty e i (.int .u8 0) ht hu hi hz s (by omega) (by omega) (by rw [hby]; omega)
      rw [h2] at hr
      injection hr with e1 _
      exact .inr (by rw [← e1]; rfl)
  · by_cases hroom : n + s.size ≤ cap
    · have hcs' : cur.size = cap := by simpa using hcs
      have h2 := Lib.run_append_room_string (P := P) w t u ty e i ht hu hi hsize g n cap cur hg s hroom (by omega)
      rw [h2] at hr
      injection hr with e1 _
      exact .inl (by rw [← e1]; rfl)
    · have holds : ∀ j u, xs[j]? = some u → w.cell? ((⟨g, 0, none⟩ : Addr).add j) = some u := hown.cells (g := g) rfl
      have h2 := Lib.run_append_grow_string (P := P) w t u ty e i (.int .u8 0) ht hu hi hz ⟨g, 0, none⟩ n cap xs (by rw [hsize]; simpa using hxl) holds s (by omega) (by omega) (by rw [hby]; exact growslice_fits (by omega) (by omega))
      rw [h2] at hr
      injection hr with e1 _
      exact .inr (by rw [← e1]; rfl)
theorem wpList_append_str {P : Program} {w : World} {ops : Array Oper} {rest : List Oper} {o : Oper} {a : Act} {Q : Exit → Act → World → Prop} (hgd : o.guard = none) (sl x : Operand) (t u : TypeId)
    (ho : o.op = .call { callee := .builtin .append, args := #[sl, x], argTypes := #[t, u] })
    (base : Nat) (e : TypeId) (i : TypeInfo) (ht : P.underlying t = some (.slice e)) (hu : P.underlying u = some .string) (hi : P.info? e = some i) (hz : i.zero = some (.int .u8 0))
    (hsize : i.size = 1) (hby : i.bytes = 1)
    (v : Value) (l : List UInt8) (hs : a.eval sl = v) (hown : w.ownsRow base e 1 v l.length (l.map u8V)) (s : ByteArray) (hx : a.eval x = .string s)
    (hbytes : l.length + s.size ≤ 140737488355328) (hbase : base ≤ w.heap.size)
    (h : ∀ v' w', w'.ownsRow base e 1 v' (l ++ s.data.toList).length ((l ++ s.data.toList).map u8V) → w.grownBy w' v.ownBlock → (v'.ownBlock = v.ownBlock ∨ v'.ownBlock = some w.heap.size) → wpList P ops Q rest (a.put o.dst v') w') : wpList P ops Q (o :: rest) a w := by
  refine wpList_plain hgd fun K hK => ?_
  have h63 : l.length + s.size ≤ maxLen := by unfold maxLen; omega
  obtain ⟨v', w', hr, h2, h3, _⟩ := Lib.run_append_own_string (P := P) w base t u o.type e i ht hu hi hz hsize hby v _ _ hown s h63 hbytes hbase
  have h4 := append_str_at w base t u o.type e i ht hu hi hz hsize hby v _ _ hown s h63 hbytes hr
  unfold Oper.wp execOp
  simp only [ho, resolve, invoke, builtin, Sem.run_bind, Sem.run_pure, Result.andThen_ok, List.map_toArray, List.map_cons, List.map_nil, hs, hx, hr]
  refine hK _ _ (h v' w' ?_ h3 h4)
  have e1 : (l ++ s.data.toList).length = l.length + s.size := by simp
  have e2 : (l ++ s.data.toList).map u8V = l.map u8V ++ Lib.strCells s := by rw [List.map_append]; rfl
  rw [e1, e2]
  exact h2
def Wr (w : World) (TW TE base g : Nat) (r : Option Nat) (l : List UInt8) : Prop :=
  base ≤ g ∧ ∃ v, w.heap[g]? = some (.cells #[v] TW (0, 0)) ∧ w.ownsRow base TE 1 v l.length (l.map u8V) ∧ v.ownBlock = r
structure WK (w w' : World) (g : Nat) (r r' : Option Nat) : Prop where
  os : w'.os = w.os
  tape : w'.tape = w.tape
  output : w'.output = w.output
  size : w.heap.size ≤ w'.heap.size
  block : ∀ k, k < w.heap.size → k ≠ g → some k ≠ r → w'.heap[k]? = w.heap[k]?
  next : r' = r ∨ ∃ k, r' = some k ∧ w.heap.size ≤ k
theorem WK.refl (w : World) (g : Nat) (r : Option Nat) : WK w w g r r := ⟨rfl, rfl, rfl, Nat.le_refl _, fun _ _ _ _ => rfl, .inl rfl⟩
theorem WK.trans {a b c : World} {g : Nat} {r r1 r2 : Option Nat} (h : WK a b g r r1) (k : WK b c g r1 r2) : WK a c g r r2 := by
  refine ⟨k.os.trans h.os, k.tape.trans h.tape, k.output.trans h.output, Nat.le_trans h.size k.size, fun i hi hg hr => ?_, ?_⟩
  · refine (k.block i (Nat.lt_of_lt_of_le hi h.size) hg ?_).trans (h.block i hi hg hr)
    rcases h.next with rfl | ⟨j, rfl, hj⟩
    · exact hr
    · intro e; injection e with e; omega
  · rcases k.next with rfl | ⟨j, rfl, hj⟩
    · exact h.next
    · exact .inr ⟨j, rfl, Nat.le_trans h.size hj⟩
theorem WK.pre {a b c : World} {g : Nat} {r r' : Option Nat} (h : Below a.heap.size a b) (k : WK b c g r r') : WK a c g r r' := by
  refine ⟨k.os.trans h.os, k.tape.trans h.tape, k.output.trans h.output, Nat.le_trans h.size k.size, fun i hi hg hr => (k.block i (Nat.lt_of_lt_of_le hi h.size) hg hr).trans (h.block i hi), ?_⟩
  rcases k.next with rfl | ⟨j, rfl, hj⟩
  · exact .inl rfl
  · exact .inr ⟨j, rfl, Nat.le_trans h.size hj⟩
theorem WK.post {a b c : World} {g : Nat} {r r' : Option Nat} (k : WK a b g r r') (h : Below b.heap.size b c) : WK a c g r r' :=
  ⟨h.os.trans k.os, h.tape.trans k.tape, h.output.trans k.output, Nat.le_trans k.size h.size, fun i hi hg hr => (h.block i (Nat.lt_of_lt_of_le hi k.size)).trans (k.block i hi hg hr), k.next⟩
section
variable {w w' : World} {TW TE base g : Nat} {r r' : Option Nat} {l : List UInt8}
theorem Wr.lt (h : Wr w TW TE base g r l) : g < w.heap.size := by
  obtain ⟨_, v, hg, _⟩ := h
  exact (Array.getElem?_eq_some_iff.1 hg).1
theorem Wr.row (h : Wr w TW TE base g r l) : ∀ k, r = some k → base ≤ k ∧ k < w.heap.size := by
  obtain ⟨_, v, hg, ho, rfl⟩ := h
  exact ho.lt
theorem Wr.step (h : Wr w TW TE base g r l) (hb : Below w.heap.size w w') : Wr w' TW TE base g r l := by
  obtain ⟨hg, v, hc, ho, rfl⟩ := h
  refine ⟨hg, v, (hb.block g (Array.getElem?_eq_some_iff.1 hc).1).trans hc, ho.kept (row := none) ⟨hb.os, hb.tape, hb.output, hb.size, fun k hk _ => hb.block k hk⟩ ?_, rfl⟩
  cases hv : v.ownBlock <;> simp
theorem Wr.alloc (h : Wr w TW TE base g r l) (o : Obj) : Wr (w.alloc o) TW TE base g r l := h.step (balloc (Below.refl _ _) o)
theorem Wr.drew (h : Wr w TW TE base g r l) : Wr w.drew TW TE base g r l := h.step (bdrew (Below.refl _ _))
theorem Wr.drewN (h : Wr w TW TE base g r l) (n : Nat) : Wr (w.drewN n) TW TE base g r l := h.step (bdrewN (Below.refl _ _) n)
theorem WK.below {w0 : World} (hB : Below w0.heap.size w0 w) (h : WK w w' g r r') (hg : w0.heap.size ≤ g) (hr : ∀ k, r = some k → w0.heap.size ≤ k) : Below w0.heap.size w0 w' :=
  hB.trans ⟨h.os, h.tape, h.output, h.size, fun k hk => h.block k (Nat.lt_of_lt_of_le hk hB.size) (by omega) (fun e => by have := hr k e.symm; omega)⟩
theorem WK.blk (hw : Wr w TW TE base g r l) (h : WK w w' g r r') {b T : Nat} {cs : Array Value} (hb : Blk w b T cs) (h1 : T ≠ TW) (h2 : T ≠ TE) : Blk w' b T cs := by
  obtain ⟨_, v, hg, ho, rfl⟩ := hw
  refine (h.block b hb.lt ?_ ?_).trans hb
  · rintro rfl
    unfold Blk at hb
    rw [hg] at hb
    injection hb with hb
    injection hb with _ ht
    exact h1 ht.symm
  · intro e
    rcases ho.2 with ⟨rfl, _⟩ | ⟨g', cap, cur, rfl, _, hh, _⟩
    · simp [Value.ownBlock] at e
    · simp [Value.ownBlock] at e
      subst e
      unfold Blk at hb
      rw [hh] at hb
      injection hb with hb
      injection hb with _ ht
      exact h2 ht.symm
end
theorem own_ne_of {w : World} {base TE TW n g : Nat} {v : Value} {xs : List Value} {cs : Array Value} (ho : w.ownsRow base TE 1 v n xs) (hg : w.heap[g]? = some (.cells cs TW (0, 0))) (ht : TW ≠ TE) : some g ≠ v.ownBlock := by
  intro e
  rcases ho.2 with ⟨rfl, _⟩ | ⟨g', cap, cur, rfl, _, hh, _⟩
  · simp [Value.ownBlock] at e
  · simp [Value.ownBlock] at e
    subst e
    rw [hh] at hg
    injection hg with hg
    injection hg with _ h2
    exact ht h2.symm
end Go.Gi
end
section
namespace Go.Proofs.Ytfegabikfkmepaa
open Go.RowKit Go.Gi
set_option maxRecDepth 20000
attribute [local go_sem] max2_int min2_int max_two min_two
theorem infoU8 : (Try.prog.info? 5).map (fun i => (i.zero, i.size, i.bytes)) = some (some (.int .u8 0), 1, 1) := by kernel_rfl
theorem u8V_ofNat (n k : Nat) : Value.int .u8 ((n : Int) / 256 ^ k % 256) = u8V (UInt8.ofNat (n / 256 ^ k)) := by
  simp [u8V]
set_option maxHeartbeats 400000 in
theorem put_any (n long : Int) (w : World) (h0 : 0 ≤ n) (h1 : n ≤ 18446744073709551615) :
    Calls Try.prog 37 #[.int .u64 n, .int .i64 long] w fun e w' => e = .returned (.string (bs (putL (clamp8 long) n.toNat))) ∧ Below w.heap.size w w' := by
  obtain ⟨i0, hi, hz0, hz1, hz2⟩ := info_parts infoU8
  obtain ⟨m, hm⟩ : ∃ m : Int, min (max long 0) 8 = m := ⟨_, rfl⟩
  have hm0 : 0 ≤ m := by omega
  have hm8 : m ≤ 8 := by omega
  have hc : clamp8 long = m.toNat := by unfold clamp8; rw [hm]
  rw [hc]
  clear hc
  obtain ⟨n, rfl⟩ := Int.eq_ofNat_of_zero_le h0
  go_enter Try.func37, Try.ntmps37
  go_wp2
  go_loopw [0, 5, 9] (fun x v i wr => ∃ k : Nat, k ≤ m.toNat ∧ x = .int .u64 ((n / 256 ^ k : Nat) : Int) ∧ i = .int .i64 k ∧ wr.ownsRow w.heap.size 5 1 v k ((putL k n).map u8V) ∧ Below w.heap.size w wr)
      (fun _ _ i _ => m.toNat - (intOf i).toNat)
  case atStart => exact ⟨0, Nat.zero_le _, by simp, rfl, World.ownsRow_nil _ _ _ _, Below.refl _ _⟩
  case round =>
    obtain ⟨k, hk, rfl, rfl, hown, hb⟩ := hrel
    have Hb := Lib.hid hb
    clear hb
    by_cases hlt : k < m.toNat
    · go_wp2_with (at_builtin; refine wpList_append_own _ rfl _ _ 89 rfl w.heap.size 5 i0 (.int .u8 0) 1 1 Try.underlying89 hi hz0 hz1 hz2 rfl (by decide) _ _ _ rfl (hown.alloc _) ⟨wr.heap.size, 0, none⟩ 1 1 [.int .u8 ((n : Int) / 256 ^ k % 256)] rfl rfl ?c1 ?c2 ?c3 ?c4 ?c5 ?_)
      case c1 => intro j u hj; match j, hj with | 0, hj => simp at hj; subst hj; simp [Addr.add]
      case c2 => intro u hu; simp at hu; subst hu; rfl
      case c3 => unfold maxLen; omega
      case c4 => omega
      case c5 => have := Hb.out.size; simp; omega
      intro v' w1 hown1 hgrow1 _
      have hb1 : Below w.heap.size w w1 := (Hb.out.alloc Hb.out.size _).grown hgrow1 (by have := Hb.out.size; simp; omega) (fun k hk => (hown.lt k hk).1)
      have Hb1 := Lib.hid hb1
      clear hb1 Hb
      rw [u8V_ofNat, ← List.map_singleton, ← List.map_append, ← putL_snoc] at hown1
      go_wp2
      go_roundw
      case rel => exact ⟨k + 1, by omega, by simp only [Value.int.injEq, true_and]; rw [Nat.pow_succ, ← Nat.div_div_eq_div_mul]; simp, by go_num, hown1, Hb1.out⟩
      case measure => simp [intOf]; omega
    · have hcv := own_string (P := Try.prog) Try.underlying89 Try.underlying5 Try.underlying9 hown
      obtain rfl : k = m.toNat := by omega
      go_wp2
      go_ret
      exact ⟨by simp, Hb.out⟩
end Go.Proofs.Ytfegabikfkmepaa
end
section
namespace Go.Proofs.Ytfegabikfkmepaa
open Go.RowKit Go.Gi
set_option maxRecDepth 20000
set_option maxHeartbeats 400000 in
theorem rput_any (n : Nat) (long : Int) (w : World) (h1 : n ≤ 18446744073709551615) :
    Calls Try.prog 26 #[.int .u64 n, .int .i64 long] w fun e w' => e = .returned (.string (bs (putL (clamp8 long) n))) ∧ Below w.heap.size w w' := by
  obtain ⟨m, hm⟩ : ∃ m : Int, min (max long 0) 8 = m := ⟨_, rfl⟩
  have hc : clamp8 long = m.toNat := by unfold clamp8; rw [hm]
  rw [hc]
  clear hc
  have hm1 : m ≤ 8 := by omega
  have hm2 : 0 ≤ m := by omega
  have Hm : Hid (min (max long 0) 8 = m) := hm
  clear hm
  go_enter Try.func26, Try.ntmps26
  go_wp2
  go_loopw [0, 5, 6] (fun x v i wr => ∃ k : Nat, k ≤ m.toNat ∧ x = .int .u64 ((n / 256 ^ k : Nat) : Int) ∧ i = .int .i64 k ∧ v = .string (bs (putL k n)) ∧ Below w.heap.size w wr)
      (fun _ _ i _ => m.toNat - (intOf i).toNat)
  case atStart => exact ⟨0, Nat.zero_le _, by simp, rfl, rfl, Below.refl _ _⟩
  case round =>
    obtain ⟨k, hk, rfl, rfl, rfl, hb⟩ := hrel
    have Hb := Lib.hid hb
    clear hb
    have hlen : (bs (putL k n)).size = k := by rw [bs_size, putL_length]
    by_cases hlt : k < m.toNat
    · have hl1 : (k : Int) < long := by have := Hm.out; omega
      have hl2 : (k : Int) < 8 := by omega
      have hq : n / 256 ^ k ≤ 18446744073709551615 := Nat.le_trans (Nat.div_le_self _ _) h1
      have Hs := Lib.hid (show bs (putL k n) ++ bs [UInt8.ofNat (n / 256 ^ k)] = bs (putL (k + 1) n) by rw [putL_snoc k n, bs_append])
      have Hq := Lib.hid (show n / 256 ^ (k + 1) = n / 256 ^ k / 256 by rw [Nat.pow_succ, Nat.div_div_eq_div_mul])
      have hcv := fun W => conv_lit1 (P := Try.prog) Try.underlying89 Try.underlying5 Try.underlying9 W (UInt8.ofNat (n / 256 ^ k)) ((n / 256 ^ k : Nat) % 256 : Int) (by simp)
      have hcat : (bs (putL k n)).size + (bs [UInt8.ofNat (n / 256 ^ k)]).size ≤ 9223372036854775807 := by rw [bs_size, putL_length, bs_size]; simp; omega
      generalize n / 256 ^ k = q at *
      go_wp2
      go_roundw
      case rel => exact ⟨k + 1, by omega, by rw [Hq.out]; simp, by go_num, by rw [Hs.out], Hb.out.alloc Hb.out.size _⟩
      case measure => simp [intOf]; omega
    · obtain rfl : k = m.toNat := by omega
      by_cases h8 : (m.toNat : Int) < long
      · have h9 : ¬ (m.toNat : Int) < 8 := by have := Hm.out; omega
        go_wp2
        go_ret
        exact ⟨rfl, Hb.out⟩
      · go_wp2
        go_ret
        exact ⟨rfl, Hb.out⟩
end Go.Proofs.Ytfegabikfkmepaa
end
section
namespace Go.Proofs.Ytfegabikfkmepaa
open Go.RowKit Go.Gi
set_option maxRecDepth 20000
set_option linter.unusedVariables false
theorem newWriter_any (w : World) (base : Nat) (hb : base ≤ w.heap.size) :
    Calls Try.prog 52 #[] w fun e w' => ∃ g, e = .returned (.pointer (some ⟨g, 0, none⟩)) ∧ Wr w' 115 5 base g none [] ∧ g = w.heap.size ∧ Below w.heap.size w w' := by
  go_enter Try.func52, Try.ntmps52
  go_wp2
  go_ret
  exact ⟨_, rfl, ⟨hb, _, Blk.new w _ _, World.ownsRow_nil _ _ _ _, rfl⟩, rfl, balloc (Below.refl _ _) _⟩
theorem own_slice {w : World} {base e size n : Nat} {v : Value} {xs : List Value} (h : w.ownsRow base e size v n xs) : ∃ A c, v = .slice A n c := by
  rcases h.2 with ⟨rfl, rfl⟩ | ⟨g, cap, _, rfl, _⟩
  · exact ⟨_, _, rfl⟩
  · exact ⟨_, _, rfl⟩
set_option maxHeartbeats 800000 in
theorem wbytes_any {w : World} {base g : Nat} {r : Option Nat} {l : List UInt8} (h : Wr w 115 5 base g r l) (s : ByteArray) (hs : l.length + s.size ≤ 140737488355328) :
    Calls Try.prog 65 #[.pointer (some ⟨g, 0, none⟩), .string s] w fun e w' => e = .returned (.tuple #[]) ∧ ∃ r', Wr w' 115 5 base g r' (l ++ s.data.toList) ∧ WK w w' g r r' := by
  obtain ⟨i0, hi, hz0, hz1, hz2⟩ := info_parts infoU8
  have hlt := h.lt
  obtain ⟨hbg, v, hg, hown, rfl⟩ := h
  obtain ⟨A, c, rfl⟩ := own_slice hown
  have c0 : w.cell? ⟨g, 0, none⟩ = some (.slice A l.length c) := by simp [World.cell?, hg]
  have f0 : w.frozen? ⟨g, 0, none⟩ = false := by simp [World.frozen?, hg]
  have HG := Lib.hid hg
  clear hg
  have hbs : base ≤ w.heap.size := by omega
  go_enter Try.func65, Try.ntmps65
  go_wp2_with (at_builtin; refine wpList_append_str rfl _ _ 89 9 rfl base 5 i0 Try.underlying89 Try.underlying9 hi hz0 hz1 hz2 _ l rfl hown s rfl hs hbs ?_; intro v1 w1 hown1 hg1 hat; obtain ⟨A1, c1, rfl⟩ := own_slice hown1; have hne : some g ≠ (Value.slice A l.length c).ownBlock := (own_ne_of hown HG.out (by decide)); have HG1 := Lib.hid ((hg1.block g hlt hne).trans HG.out); have k0 : w1.cell? ⟨g, 0, none⟩ = some (.slice A l.length c) := (by have := HG1.out; simp [World.cell?, this]); have kf : w1.frozen? ⟨g, 0, none⟩ = false := (by have := HG1.out; simp [World.frozen?, this]); have Hown1 := Lib.hid hown1; have Hat := Lib.hid hat; have Hg1 := Lib.hid hg1; clear hown1 hat hg1)
  go_end0
  have hlen : (l ++ s.data.toList).length = l.length + s.size := by simp
  have Hown2 := Hown1.out
  have Hat2 := Hat.out
  have hg2 : w.grownBy w1 (Value.slice A l.length c).ownBlock := Hg1.out
  have hat2 : (Value.slice A1 (l.length + s.size) c1).ownBlock = (Value.slice A l.length c).ownBlock ∨ (Value.slice A1 (l.length + s.size) c1).ownBlock = some w.heap.size := by
    rw [hlen] at Hat2
    exact Hat2
  clear Hat2
  have hown2 : w1.ownsRow base 5 1 (Value.slice A1 (l.length + s.size) c1) (l ++ s.data.toList).length (List.map u8V (l ++ s.data.toList)) := by
    rw [← hlen]; exact Hown2
  clear Hown2
  have hne1 : some g ≠ (Value.slice A1 (l.length + s.size) c1).ownBlock := own_ne_of hown2 HG1.out (by decide)
  have HB : Blk w1 g 115 #[.slice A l.length c] := HG1.out
  have hset := gset (World.grownBy.refl w1 (some g)) 0 (.slice A1 (l.length + s.size) c1)
  refine ⟨rfl, _, ⟨hbg, _, HB.set_ 0 _, hown2.kept hset (.inr (fun e => hne1 e.symm)), rfl⟩, ⟨hset.os.trans hg2.os, hset.tape.trans hg2.tape, hset.output.trans hg2.output, Nat.le_trans hg2.size hset.size, fun k hk hkg hkr => ?_, ?_⟩⟩
  · exact (hset.block k (Nat.lt_of_lt_of_le hk hg2.size) (fun e => hkg (by injection e))).trans (hg2.block k hk hkr)
  · rcases hat2 with h | h
    · exact .inl h
    · exact .inr ⟨_, h, Nat.le_refl _⟩
theorem wnumber_any {w : World} {base g : Nat} {r : Option Nat} {l : List UInt8} (h : Wr w 115 5 base g r l) (n long : Int) (h0 : 0 ≤ n) (h1 : n ≤ 18446744073709551615) (hs : l.length + 8 ≤ 140737488355328) :
    Calls Try.prog 60 #[.pointer (some ⟨g, 0, none⟩), .int .u64 n, .int .i64 long] w fun e w' => e = .returned (.tuple #[]) ∧ ∃ r', Wr w' 115 5 base g r' (l ++ putL (clamp8 long) n.toNat) ∧ WK w w' g r r' := by
  have H := Lib.hid h
  clear h
  have h8 : clamp8 long ≤ 8 := by unfold clamp8; omega
  have hl : l.length + (bs (putL (clamp8 long) n.toNat)).size ≤ 140737488355328 := by rw [bs_size, putL_length]; omega
  go_enter Try.func60, Try.ntmps60
  go_wp2_with (first | (go_at_call 37; refine (put_any _ _ _ h0 h1).mono ?_; rintro e w1 ⟨rfl, hb1⟩; have Hb1 := Lib.hid hb1; clear hb1) | (go_at_call 65; refine (wbytes_any (H.out.step Hb1.out) _ hl).mono ?_; rintro e w2 ⟨rfl, r2, hw2, hk2⟩; have Hw2 := Lib.hid hw2; have Hk2 := Lib.hid hk2; clear hw2 hk2))
  go_end0
  refine ⟨rfl, r2, ?_, WK.pre Hb1.out Hk2.out⟩
  have := Hw2.out
  rw [toList_bs] at this
  exact this
theorem wbool_any {w : World} {base g : Nat} {r : Option Nat} {l : List UInt8} (h : Wr w 115 5 base g r l) (b : Bool) (hs : l.length + 8 ≤ 140737488355328) :
    Calls Try.prog 53 #[.pointer (some ⟨g, 0, none⟩), .bool b] w fun e w' => e = .returned (.tuple #[]) ∧ ∃ r', Wr w' 115 5 base g r' (l ++ [if b then 1 else 0]) ∧ WK w w' g r r' := by
  have H := Lib.hid h
  clear h
  cases b
  all_goals
    go_enter Try.func53, Try.ntmps53
    go_wp2_with (go_at_call 60; refine (wnumber_any H.out _ 1 (by decide) (by decide) hs).mono ?_; rintro e w2 ⟨rfl, r2, hw2, hk2⟩; have Hw2 := Lib.hid hw2; have Hk2 := Lib.hid hk2; clear hw2 hk2)
    go_end0
    exact ⟨rfl, r2, Hw2.out, Hk2.out⟩
theorem wall_any {w : World} {base g : Nat} {r : Option Nat} {l : List UInt8} (h : Wr w 115 5 base g r l) :
    Calls Try.prog 55 #[.pointer (some ⟨g, 0, none⟩)] w fun e w' => e = .returned (.string (bs l)) ∧ w' = w := by
  obtain ⟨hbg, v, hg, hown, rfl⟩ := h
  have hcv := own_string (P := Try.prog) Try.underlying89 Try.underlying5 Try.underlying9 hown
  obtain ⟨A, c, rfl⟩ := own_slice hown
  have c0 : w.cell? ⟨g, 0, none⟩ = some (.slice A l.length c) := by simp [World.cell?, hg]
  clear hg hown
  go_enter Try.func55, Try.ntmps55
  go_wp2
  go_ret
  exact ⟨rfl, rfl⟩
end Go.Proofs.Ytfegabikfkmepaa
end
section
namespace Go.Proofs.Ytfegabikfkmepaa
open Go.RowKit Go.Gi
set_option maxRecDepth 20000
set_option linter.unusedSimpArgs false
set_option linter.unusedVariables false
theorem enCells {w : World} {g T : Nat} {page slot : Int} {key : ByteArray} (h : Blk w g T #[.string key, .int .u32 page, .int .i64 slot]) :
    w.cell? ⟨g, 0, none⟩ = some (.string key) ∧ w.cell? ⟨g, 1, none⟩ = some (.int .u32 page) ∧ w.cell? ⟨g, 2, none⟩ = some (.int .i64 slot) := ⟨h.cell 0, h.cell 1, h.cell 2⟩
theorem c8_2n : clamp8 2 = 2 := rfl
theorem c8_4n : clamp8 4 = 4 := rfl
set_option maxHeartbeats 3000000 in
theorem nput_any {w : World} {base g : Nat} {ro : Option Nat} {l : List UInt8} (h : Wr w 115 5 base g ro l) (key : ByteArray) (page slot : Int) (hl : l.length ≤ 1000)
    (hp : 0 ≤ page ∧ page ≤ 4294967295) (hs : 0 ≤ slot ∧ slot ≤ 65535) (hk : key.size ≤ 140737488350000) :
    Calls Try.prog 54 #[.pointer (some ⟨g, 0, none⟩), .agg #[.string key, .int .u32 page, .int .i64 slot]] w fun e w' => e = .returned (.tuple #[]) ∧ ∃ ro', Wr w' 115 5 base g ro' (l ++ (putL 4 page.toNat ++ putL 2 slot.toNat ++ key.data.toList)) ∧ WK w w' g ro ro' := by
  have HW := Lib.hid h
  clear h
  go_enter Try.func54, Try.ntmps54
  go_upto_region 1 with fail
  have hB := Blk.new w 43 #[.string key, .int .u32 page, .int .i64 slot]
  have hW := balloc (Below.refl w.heap.size w) (.cells #[.string key, .int .u32 page, .int .i64 slot] 43)
  generalize w.alloc (.cells #[.string key, .int .u32 page, .int .i64 slot] 43) = w0 at *
  generalize hg1 : w.heap.size = g1 at *
  obtain ⟨c0, c1, c2⟩ := enCells hB
  have HK := Lib.hid (WK.pre (by rw [hg1]; exact hW) (WK.refl w0 g ro))
  have HW0 := Lib.hid (HW.out.step (by rw [hg1]; exact hW))
  have HB := Lib.hid hB
  clear hB hW hg1 HW
  have HW := HW0
  clear HW0
  go_wp2_with (first | (go_at_call 60; refine (wnumber_any HW.out _ _ (by omega) (by omega) (by simp [clamp8, putL_length]; omega)).mono ?_; rintro e w1 ⟨rfl, r1, h1, k1⟩; clear c0 c1 c2; obtain ⟨c0, c1, c2⟩ := enCells (WK.blk HW.out k1 HB.out (by decide) (by decide)); have HB1 := Lib.hid (WK.blk HW.out k1 HB.out (by decide) (by decide)); have HK1 := Lib.hid (HK.out.trans k1); have HW1 := Lib.hid h1; clear HW HB HK h1 k1; have HW := HW1; have HB := HB1; have HK := HK1; clear HW1 HB1 HK1) | (go_at_call 65; refine (wbytes_any HW.out _ (by simp [clamp8, putL_length]; omega)).mono ?_; rintro e w1 ⟨rfl, r1, h1, k1⟩; clear c0 c1 c2; have HK1 := Lib.hid (HK.out.trans k1); have HW1 := Lib.hid h1; clear HW HB HK h1 k1; have HW := HW1; have HK := HK1; clear HW1 HK1))
  go_end0
  refine ⟨rfl, r1, ?_, HK.out⟩
  have := HW.out
  simp only [c8_2n, c8_4n, List.append_assoc] at this ⊢
  exact this
end Go.Proofs.Ytfegabikfkmepaa
end
section
namespace Go.Proofs.Ytfegabikfkmepaa
open Go.RowKit Go.Gi
set_option maxRecDepth 20000
set_option linter.unusedSimpArgs false
set_option linter.unusedVariables false
theorem itCells {w : World} {g T : Nat} {page slot : Int} {key : ByteArray} {live : Bool} (h : Blk w g T #[.string key, .int .u32 page, .int .i64 slot, .bool live]) :
    w.cell? ⟨g, 0, none⟩ = some (.string key) ∧ w.cell? ⟨g, 1, none⟩ = some (.int .u32 page) ∧ w.cell? ⟨g, 2, none⟩ = some (.int .i64 slot) ∧ w.cell? ⟨g, 3, none⟩ = some (.bool live) := ⟨h.cell 0, h.cell 1, h.cell 2, h.cell 3⟩
def leafB (key : ByteArray) (page slot : Int) (live : Bool) : List UInt8 := [if live then 1 else 0] ++ (putL 4 page.toNat ++ putL 2 slot.toNat ++ key.data.toList)
set_option maxHeartbeats 3000000 in
theorem leafSlot_any (key : ByteArray) (page slot : Int) (live : Bool) (w : World) (hp : 0 ≤ page ∧ page ≤ 4294967295) (hs : 0 ≤ slot ∧ slot ≤ 65535) (hk : key.size ≤ 140737488350000) :
    Calls Try.prog 38 #[.agg #[.string key, .int .u32 page, .int .i64 slot, .bool live]] w fun e w' => e = .returned (.string (bs (leafB key page slot live))) ∧ Below w.heap.size w w' := by
  go_enter Try.func38, Try.ntmps38
  go_upto_region 1 with fail
  have hB := Blk.new w 47 #[.string key, .int .u32 page, .int .i64 slot, .bool live]
  have hW := balloc (Below.refl w.heap.size w) (.cells #[.string key, .int .u32 page, .int .i64 slot, .bool live] 47)
  generalize w.alloc (.cells #[.string key, .int .u32 page, .int .i64 slot, .bool live] 47) = w0 at *
  obtain ⟨c0, c1, c2, c3⟩ := itCells hB
  have HB := Lib.hid hB
  have HK := Lib.hid hW
  clear hB hW
  go_wp2_with (first | (go_at_call 52; refine (newWriter_any _ w.heap.size HK.out.size).mono ?_; rintro e w1 ⟨g1, rfl, hw1, hge, hb1⟩; clear c0 c1 c2 c3; obtain ⟨c0, c1, c2, c3⟩ := itCells (HB.out.step hb1); have HB1 := Lib.hid (HB.out.step hb1); have HK1 := Lib.hid (bstep HK.out hb1); have HW := Lib.hid hw1; clear HB HK hw1 hb1 hge; have HB := HB1; have HK := HK1; clear HB1 HK1) | (go_at_call 53; refine (wbool_any HW.out _ (by decide)).mono ?_; rintro e w1 ⟨rfl, r1, h1, k1⟩; clear c0 c1 c2 c3; obtain ⟨c0, c1, c2, c3⟩ := itCells (WK.blk HW.out k1 HB.out (by decide) (by decide)); have HB1 := Lib.hid (WK.blk HW.out k1 HB.out (by decide) (by decide)); have HK1 := Lib.hid (k1.below HK.out HW.out.1 (fun j e => (HW.out.row j e).1)); have HW1 := Lib.hid h1; clear HW HB HK h1 k1; have HW := HW1; have HB := HB1; have HK := HK1; clear HW1 HB1 HK1) | (go_at_call 54; refine (nput_any HW.out _ _ _ (by simp) hp hs hk).mono ?_; rintro e w1 ⟨rfl, r1, h1, k1⟩; clear c0 c1 c2 c3; obtain ⟨c0, c1, c2, c3⟩ := itCells (WK.blk HW.out k1 HB.out (by decide) (by decide)); have HB1 := Lib.hid (WK.blk HW.out k1 HB.out (by decide) (by decide)); have HK1 := Lib.hid (k1.below HK.out HW.out.1 (fun j e => (HW.out.row j e).1)); have HW1 := Lib.hid h1; clear HW HB HK h1 k1; have HW := HW1; have HB := HB1; have HK := HK1; clear HW1 HB1 HK1) | (go_at_call 55; refine (wall_any HW.out).mono ?_; rintro e w1 ⟨rfl, rfl⟩))
  all_goals
    go_ret
    exact ⟨rfl, HK.out⟩
end Go.Proofs.Ytfegabikfkmepaa
end
section
namespace Go.Proofs.Ytfegabikfkmepaa
open Go.RowKit Go.Gi
set_option maxRecDepth 20000
set_option linter.unusedSimpArgs false
set_option linter.unusedVariables false
theorem nanS_any (a : ByteArray) (w : World) : Calls Try.prog 66 #[.string a] w fun e w' => e = .returned (.bool false) ∧ w' = w := by
  go_enter Try.func66, Try.ntmps66
  go_wp2
  go_ret
  exact ⟨by simp, rfl⟩
theorem gtrS (a b : ByteArray) (w : World) : (binOp .gtr 9 (.string a) (.string b)).run Try.prog w = .ok (.bool (!Op.bytesLess a.toList b.toList && !(a.toList == b.toList))) w := by
  simp [binOp, Op.stringOp]
attribute [local go_sem] gtrS
theorem cmpS_any (a b : ByteArray) (w : World) : Calls Try.prog 57 #[.string a, .string b] w fun e w' => e = .returned (.int .i64 (if Op.bytesLess a.toList b.toList = true then -1 else if a.toList = b.toList then 0 else 1)) ∧ w' = w := by
  go_enter Try.func57, Try.ntmps57
  go_wp2_with (go_at_call 66; refine (nanS_any _ _).mono ?_; rintro e w1 ⟨rfl, rfl⟩)
  all_goals
    go_ret
    exact ⟨by simp_all, rfl⟩
end Go.Proofs.Ytfegabikfkmepaa
end
section
namespace Go.Proofs.Ytfegabikfkmepaa.PKe
open Go.RowKit Go.Proofs.YtfegabikfkmepaaW.PrintWords Go.Proofs.YtfegabikfkmepaaW.PrintLast Go.Proofs.YtfegabikfkmepaaW.PrintMore
attribute [local go_sem] max2_int min2_int max_two min_two max_three min_three max_four min_four
set_option linter.unusedVariables false
set_option linter.unusedSimpArgs false
def errW : Option Int → Value
 | none=>.nilIface
 | some c=>.iface 0 (.int .i64 c)
theorem errW_none : errW none=.nilIface:=rfl
theorem errW_some (c : Int) : errW (some c)=.iface 0 (.int .i64 c):=rfl
end Go.Proofs.Ytfegabikfkmepaa.PKe
end
section
namespace Go.Proofs.Ytfegabikfkmepaa.PKe
open Go.RowKit Go.Proofs.YtfegabikfkmepaaW.PrintWords Go.Proofs.YtfegabikfkmepaaW.PrintLast Go.Proofs.YtfegabikfkmepaaW.PrintMore
attribute [local go_sem] max2_int min2_int max_two min_two max_three min_three max_four min_four
set_option linter.unusedVariables false
set_option linter.unusedSimpArgs false
def cmp_Or_int.l0 : Nat → Int → List Int → Int → Int → Option (Int)
 | 0,_,_,_,_=>none
 | k + 1,x3,x6,x7,x8=>if x8 < x7 then (if 0≤x8 then (if x8 < (x6.length : Int) then (if (rd x6 x8)=x3 then (cmp_Or_int.l0 k x3 x6 x7 (wrap64 (x8 + 1))) else (some (rd x6 x8))) else (none)) else (none)) else (some x3)
def cmp_Or_int.f (k : Nat) (l0 : List Int) : Option (Int):=cmp_Or_int.l0 k 0 l0 (l0.length : Int) 0
set_option maxHeartbeats 8000000 in
set_option maxRecDepth 100000 in
theorem cmp_Or_int.calls (k : Nat) (A0 : Option Addr) (c0 : Nat) (l0 : List Int) (r : Int) (w : World) (hr0 : Kd.C (Kd.int .i64) w A0 l0.length l0) (hc0 : l0.length≤c0) (h : cmp_Or_int.f k l0=some r) :
  Calls Try.prog 56 #[.slice A0 l0.length c0] w fun e w'=>e=.returned (.int .i64 r)∧Drawn0 w w':=by
 have HR0:=Aside0.mk hr0
 have HC0:=Aside0.mk hc0
 clear hr0 hc0
 have H : (cmp_Or_int.l0 k 0 l0 (l0.length : Int) 0)=some r:=h
 clear h
 have H':=Aside0.mk H
 clear H
 go_enter Try.func56,Try.ntmps56
 go_wp2
 go_loopg [8] k (fun kq v8 w'=>∃ (x8_1 : Int),v8=.int .i64 x8_1∧Aside0 (cmp_Or_int.l0 kq 0 l0 (l0.length : Int) x8_1=some r)∧Aside0 (kq≤k)∧Drawn0 w w')
 case atStart=>exact ⟨(0),(by first|rfl|(simp;done)|(simp [*];done)),H',⟨Nat.le_refl _⟩,by repeat (first|exact Drawn0.refl _|apply Drawn0.step)⟩
 case round =>
  clear H'
  obtain ⟨x8_1,rfl,HA,HK1,⟨m1,rfl⟩⟩:=hrel
  cases gk with
  | zero=>exact absurd HA.out (by simp [cmp_Or_int.l0])
  | succ k1 =>
   have H:=HA.out
   clear HA
   simp only [cmp_Or_int.l0] at H
   by_cases c2 : x8_1 < (l0.length : Int)
   ·rw [if_pos c2] at H
    have c2b0 : decide (x8_1 < (l0.length : Int))=true:=decide_eq_true c2
    clear c2
    by_cases c3 : 0≤x8_1
    ·rw [if_pos c3] at H
     have c3b0 : decide (0≤x8_1)=true:=decide_eq_true c3
     clear c3
     by_cases c4 : x8_1 < (l0.length : Int)
     ·rw [if_pos c4] at H
      have c4b0 : decide (x8_1 < (l0.length : Int))=true:=decide_eq_true c4
      clear c4
      by_cases c5 : (rd l0 x8_1)=0
      ·rw [if_pos c5] at H
       have c5b0 : ((rd l0 x8_1) == 0)=true:=beq_iff_eq.mpr c5
       have c5b1 : ((rd l0 x8_1) != 0)=false:=bne_eq_false_iff_eq.mpr c5
       clear c5
       have H':=Aside0.mk H
       clear H
       have p101 : 0≤(x8_1 : Int):=of_decide_eq_true (by first|(with_reducible assumption)|assumption)
       have q101 : x8_1 < (l0.length : Int):=of_decide_eq_true (by first|(with_reducible assumption)|assumption)
       obtain ⟨ad101,e101,hx101_0⟩:=Kd.at_int HR0.out x8_1 p101 q101
       cases e101
       replace p101:=eq_true p101
       replace q101:=eq_true q101
       go_wp2
       go_roundg k1
       case measure=>have:=HK1.out;omega
       case rel=>exact ⟨(wrap64 (x8_1 + 1)),(by first|rfl|(simp;done)|(simp [*];done)),H',⟨by have:=HK1.out;omega⟩,by repeat (first|exact Drawn0.refl _|apply Drawn0.step)⟩
      ·rw [if_neg c5] at H
       have c5b0 : ((rd l0 x8_1) == 0)=false:=beq_eq_false_iff_ne.mpr c5
       have c5b1 : ((rd l0 x8_1) != 0)=true:=bne_iff_ne.mpr c5
       obtain rfl:=Option.some.inj H
       have p101 : 0≤(x8_1 : Int):=of_decide_eq_true (by first|(with_reducible assumption)|assumption)
       have q101 : x8_1 < (l0.length : Int):=of_decide_eq_true (by first|(with_reducible assumption)|assumption)
       obtain ⟨ad101,e101,hx101_0⟩:=Kd.at_int HR0.out x8_1 p101 q101
       cases e101
       replace p101:=eq_true p101
       replace q101:=eq_true q101
       go_wp2
       go_ret
       exact ⟨by first|rfl|(simp;done)|(simp [*];done),by repeat (first|exact Drawn0.refl _|apply Drawn0.step)⟩
     ·rw [if_neg c4] at H
      exact absurd H (by simp)
    ·rw [if_neg c3] at H
     exact absurd H (by simp)
   ·rw [if_neg c2] at H
    have c2b0 : decide (x8_1 < (l0.length : Int))=false:=decide_eq_false c2
    clear c2
    obtain rfl:=Option.some.inj H
    go_wp2
    go_ret
    exact ⟨by first|rfl|(simp;done)|(simp [*];done),by repeat (first|exact Drawn0.refl _|apply Drawn0.step)⟩
end Go.Proofs.Ytfegabikfkmepaa.PKe
end
section
namespace Go.Proofs.Ytfegabikfkmepaa.PKe
open Go.RowKit Go.Proofs.YtfegabikfkmepaaW.PrintWords Go.Proofs.YtfegabikfkmepaaW.PrintLast Go.Proofs.YtfegabikfkmepaaW.PrintMore
attribute [local go_sem] max2_int min2_int max_two min_two max_three min_three max_four min_four
set_option linter.unusedVariables false
set_option linter.unusedSimpArgs false
def cmp_Compare_string.f (a0 : ByteArray) (a1 : ByteArray) : Option (Int):=some (if Op.bytesLess a0.toList a1.toList=true then -1 else if a0.toList=a1.toList then 0 else 1)
set_option maxHeartbeats 8000000 in
set_option maxRecDepth 100000 in
theorem cmp_Compare_string.calls (a0 : ByteArray) (a1 : ByteArray) (r : Int) (w : World) (h : cmp_Compare_string.f a0 a1=some r) :
  Calls Try.prog 57 #[.string a0,.string a1] w fun e w'=>e=.returned (.int .i64 r)∧Drawn0 w w':=by
 unfold cmp_Compare_string.f at h
 obtain rfl:=Option.some.inj h
 exact (cmpS_any a0 a1 w).mono fun e w' ⟨x,y⟩=>⟨x,y ▸ Drawn0.refl _⟩
end Go.Proofs.Ytfegabikfkmepaa.PKe
end
section
namespace Go.Proofs.Ytfegabikfkmepaa.PKe
open Go.RowKit Go.Proofs.YtfegabikfkmepaaW.PrintWords Go.Proofs.YtfegabikfkmepaaW.PrintLast Go.Proofs.YtfegabikfkmepaaW.PrintMore
attribute [local go_sem] max2_int min2_int max_two min_two max_three min_three max_four min_four
set_option linter.unusedVariables false
set_option linter.unusedSimpArgs false
def api_Page_67.f (a0 : Int) : Option (Bool):=some (a0 != a0)
set_option maxHeartbeats 8000000 in
set_option maxRecDepth 100000 in
theorem api_Page_67.calls (a0 : Int) (r : Bool) (w : World) (h : api_Page_67.f a0=some r) :
  Calls Try.prog 67 #[.int .u32 a0] w fun e w'=>e=.returned (.bool r)∧Drawn0 w w':=by
 have H : (some (a0 != a0))=some r:=h
 clear h
 obtain rfl:=Option.some.inj H
 go_enter Try.func67,Try.ntmps67
 go_wp2
 go_ret
 exact ⟨by first|rfl|(simp;done)|(simp [*];done),by repeat (first|exact Drawn0.refl _|apply Drawn0.step)⟩
end Go.Proofs.Ytfegabikfkmepaa.PKe
end
section
namespace Go.Proofs.Ytfegabikfkmepaa.PKe
open Go.RowKit Go.Proofs.YtfegabikfkmepaaW.PrintWords Go.Proofs.YtfegabikfkmepaaW.PrintLast Go.Proofs.YtfegabikfkmepaaW.PrintMore
attribute [local go_sem] max2_int min2_int max_two min_two max_three min_three max_four min_four
set_option linter.unusedVariables false
set_option linter.unusedSimpArgs false
def api_Page_58.f (a0 : Int) (a1 : Int) : Option (Int):=(api_Page_67.f a0).bind fun t102=>((api_Page_67.f a1).bind fun t103=>(if t102=true then (if t103=true then (some 0) else (some (-1))) else (if t103=true then (some 1) else (if a0 < a1 then (some (-1)) else (if a0 > a1 then (some 1) else (some 0))))))
set_option maxHeartbeats 8000000 in
set_option maxRecDepth 100000 in
theorem api_Page_58.calls (a0 : Int) (a1 : Int) (r : Int) (w : World) (h : api_Page_58.f a0 a1=some r) :
  Calls Try.prog 58 #[.int .u32 a0,.int .u32 a1] w fun e w'=>e=.returned (.int .i64 r)∧Drawn0 w w':=by
 have H : ((api_Page_67.f a0).bind fun t102=>((api_Page_67.f a1).bind fun t103=>(if t102=true then (if t103=true then (some 0) else (some (-1))) else (if t103=true then (some 1) else (if a0 < a1 then (some (-1)) else (if a0 > a1 then (some 1) else (some 0)))))))=some r:=h
 clear h
 replace H:=Option.bind_eq_some_iff.mp H
 obtain ⟨t102,A30,H⟩:=H
 replace H : ((api_Page_67.f a1).bind fun t103=>(if t102=true then (if t103=true then (some 0) else (some (-1))) else (if t103=true then (some 1) else (if a0 < a1 then (some (-1)) else (if a0 > a1 then (some 1) else (some 0))))))=some r:=H
 have A3:=Aside0.mk A30
 clear A30
 replace H:=Option.bind_eq_some_iff.mp H
 obtain ⟨t103,A40,H⟩:=H
 replace H : (if t102=true then (if t103=true then (some 0) else (some (-1))) else (if t103=true then (some 1) else (if a0 < a1 then (some (-1)) else (if a0 > a1 then (some 1) else (some 0)))))=some r:=H
 have A4:=Aside0.mk A40
 clear A40
 by_cases c5 : t102=true
 ·subst c5
  have H1 : (if t103=true then (some 0) else (some (-1)))=some r:=by rw [if_pos rfl] at H;exact H
  clear H
  have H:=H1
  clear H1
  by_cases c6 : t103=true
  ·subst c6
   have H1 : (some 0)=some r:=by rw [if_pos rfl] at H;exact H
   clear H
   have H:=H1
   clear H1
   obtain rfl:=Option.some.inj H
   go_enter Try.func58,Try.ntmps58
   go_wp2_with (first|((with_reducible refine gate_callee (f:=67) rfl ?_);refine goesL_ (some 8) rfl rfl Try.func67 (by kernel_rfl) rfl #[.int .u32 a0] rfl (by (try simp only [List.map_toArray,List.map_cons,List.map_nil]);first|done|rfl|(simp only [List.length_drop,List.length_take];rfl)) ?_;(with_reducible refine (api_Page_67.calls a0 true _ A3.out).mono ?_);rintro e w' ⟨rfl,⟨nd,rfl⟩⟩;refine ⟨_,rfl,?_⟩)|((with_reducible refine gate_callee (f:=67) rfl ?_);refine goesL_ (some 10) rfl rfl Try.func67 (by kernel_rfl) rfl #[.int .u32 a1] rfl (by (try simp only [List.map_toArray,List.map_cons,List.map_nil]);first|done|rfl|(simp only [List.length_drop,List.length_take];rfl)) ?_;(with_reducible refine (api_Page_67.calls a1 true _ A4.out).mono ?_);rintro e w' ⟨rfl,⟨nd,rfl⟩⟩;refine ⟨_,rfl,?_⟩))
   go_ret
   exact ⟨by first|rfl|(simp;done)|(simp [*];done),by repeat (first|exact Drawn0.refl _|apply Drawn0.step)⟩
  ·replace c6:=Bool.eq_false_iff.mpr c6
   subst c6
   have H1 : (some (-1))=some r:=by rw [if_neg (show ¬ (false=true) by decide)] at H;exact H
   clear H
   have H:=H1
   clear H1
   obtain rfl:=Option.some.inj H
   go_enter Try.func58,Try.ntmps58
   go_wp2_with (first|((with_reducible refine gate_callee (f:=67) rfl ?_);refine goesL_ (some 8) rfl rfl Try.func67 (by kernel_rfl) rfl #[.int .u32 a0] rfl (by (try simp only [List.map_toArray,List.map_cons,List.map_nil]);first|done|rfl|(simp only [List.length_drop,List.length_take];rfl)) ?_;(with_reducible refine (api_Page_67.calls a0 true _ A3.out).mono ?_);rintro e w' ⟨rfl,⟨nd,rfl⟩⟩;refine ⟨_,rfl,?_⟩)|((with_reducible refine gate_callee (f:=67) rfl ?_);refine goesL_ (some 10) rfl rfl Try.func67 (by kernel_rfl) rfl #[.int .u32 a1] rfl (by (try simp only [List.map_toArray,List.map_cons,List.map_nil]);first|done|rfl|(simp only [List.length_drop,List.length_take];rfl)) ?_;(with_reducible refine (api_Page_67.calls a1 false _ A4.out).mono ?_);rintro e w' ⟨rfl,⟨nd,rfl⟩⟩;refine ⟨_,rfl,?_⟩))
   go_ret
   exact ⟨by first|rfl|(simp;done)|(simp [*];done),by repeat (first|exact Drawn0.refl _|apply Drawn0.step)⟩
 ·replace c5:=Bool.eq_false_iff.mpr c5
  subst c5
  have H1 : (if t103=true then (some 1) else (if a0 < a1 then (some (-1)) else (if a0 > a1 then (some 1) else (some 0))))=some r:=by rw [if_neg (show ¬ (false=true) by decide)] at H;exact H
  clear H
  have H:=H1
  clear H1
  by_cases c7 : t103=true
  ·subst c7
   have H1 : (some 1)=some r:=by rw [if_pos rfl] at H;exact H
   clear H
   have H:=H1
   clear H1
   obtain rfl:=Option.some.inj H
   go_enter Try.func58,Try.ntmps58
   go_wp2_with (first|((with_reducible refine gate_callee (f:=67) rfl ?_);refine goesL_ (some 8) rfl rfl Try.func67 (by kernel_rfl) rfl #[.int .u32 a0] rfl (by (try simp only [List.map_toArray,List.map_cons,List.map_nil]);first|done|rfl|(simp only [List.length_drop,List.length_take];rfl)) ?_;(with_reducible refine (api_Page_67.calls a0 false _ A3.out).mono ?_);rintro e w' ⟨rfl,⟨nd,rfl⟩⟩;refine ⟨_,rfl,?_⟩)|((with_reducible refine gate_callee (f:=67) rfl ?_);refine goesL_ (some 10) rfl rfl Try.func67 (by kernel_rfl) rfl #[.int .u32 a1] rfl (by (try simp only [List.map_toArray,List.map_cons,List.map_nil]);first|done|rfl|(simp only [List.length_drop,List.length_take];rfl)) ?_;(with_reducible refine (api_Page_67.calls a1 true _ A4.out).mono ?_);rintro e w' ⟨rfl,⟨nd,rfl⟩⟩;refine ⟨_,rfl,?_⟩))
   go_ret
   exact ⟨by first|rfl|(simp;done)|(simp [*];done),by repeat (first|exact Drawn0.refl _|apply Drawn0.step)⟩
  ·replace c7:=Bool.eq_false_iff.mpr c7
   subst c7
   have H1 : (if a0 < a1 then (some (-1)) else (if a0 > a1 then (some 1) else (some 0)))=some r:=by rw [if_neg (show ¬ (false=true) by decide)] at H;exact H
   clear H
   have H:=H1
   clear H1
   by_cases c8 : a0 < a1
   ·rw [if_pos c8] at H
    have c8b0 : decide (a0 < a1)=true:=decide_eq_true c8
    clear c8
    obtain rfl:=Option.some.inj H
    go_enter Try.func58,Try.ntmps58
    go_wp2_with (first|((with_reducible refine gate_callee (f:=67) rfl ?_);refine goesL_ (some 8) rfl rfl Try.func67 (by kernel_rfl) rfl #[.int .u32 a0] rfl (by (try simp only [List.map_toArray,List.map_cons,List.map_nil]);first|done|rfl|(simp only [List.length_drop,List.length_take];rfl)) ?_;(with_reducible refine (api_Page_67.calls a0 false _ A3.out).mono ?_);rintro e w' ⟨rfl,⟨nd,rfl⟩⟩;refine ⟨_,rfl,?_⟩)|((with_reducible refine gate_callee (f:=67) rfl ?_);refine goesL_ (some 10) rfl rfl Try.func67 (by kernel_rfl) rfl #[.int .u32 a1] rfl (by (try simp only [List.map_toArray,List.map_cons,List.map_nil]);first|done|rfl|(simp only [List.length_drop,List.length_take];rfl)) ?_;(with_reducible refine (api_Page_67.calls a1 false _ A4.out).mono ?_);rintro e w' ⟨rfl,⟨nd,rfl⟩⟩;refine ⟨_,rfl,?_⟩))
    go_ret
    exact ⟨by first|rfl|(simp;done)|(simp [*];done),by repeat (first|exact Drawn0.refl _|apply Drawn0.step)⟩
   ·rw [if_neg c8] at H
    have c8b0 : decide (a0 < a1)=false:=decide_eq_false c8
    clear c8
    by_cases c9 : a0 > a1
    ·rw [if_pos c9] at H
     have c9b0 : decide (a1 < a0)=true:=decide_eq_true c9
     clear c9
     obtain rfl:=Option.some.inj H
     go_enter Try.func58,Try.ntmps58
     go_wp2_with (first|((with_reducible refine gate_callee (f:=67) rfl ?_);refine goesL_ (some 8) rfl rfl Try.func67 (by kernel_rfl) rfl #[.int .u32 a0] rfl (by (try simp only [List.map_toArray,List.map_cons,List.map_nil]);first|done|rfl|(simp only [List.length_drop,List.length_take];rfl)) ?_;(with_reducible refine (api_Page_67.calls a0 false _ A3.out).mono ?_);rintro e w' ⟨rfl,⟨nd,rfl⟩⟩;refine ⟨_,rfl,?_⟩)|((with_reducible refine gate_callee (f:=67) rfl ?_);refine goesL_ (some 10) rfl rfl Try.func67 (by kernel_rfl) rfl #[.int .u32 a1] rfl (by (try simp only [List.map_toArray,List.map_cons,List.map_nil]);first|done|rfl|(simp only [List.length_drop,List.length_take];rfl)) ?_;(with_reducible refine (api_Page_67.calls a1 false _ A4.out).mono ?_);rintro e w' ⟨rfl,⟨nd,rfl⟩⟩;refine ⟨_,rfl,?_⟩))
     go_ret
     exact ⟨by first|rfl|(simp;done)|(simp [*];done),by repeat (first|exact Drawn0.refl _|apply Drawn0.step)⟩
    ·rw [if_neg c9] at H
     have c9b0 : decide (a1 < a0)=false:=decide_eq_false c9
     clear c9
     obtain rfl:=Option.some.inj H
     go_enter Try.func58,Try.ntmps58
     go_wp2_with (first|((with_reducible refine gate_callee (f:=67) rfl ?_);refine goesL_ (some 8) rfl rfl Try.func67 (by kernel_rfl) rfl #[.int .u32 a0] rfl (by (try simp only [List.map_toArray,List.map_cons,List.map_nil]);first|done|rfl|(simp only [List.length_drop,List.length_take];rfl)) ?_;(with_reducible refine (api_Page_67.calls a0 false _ A3.out).mono ?_);rintro e w' ⟨rfl,⟨nd,rfl⟩⟩;refine ⟨_,rfl,?_⟩)|((with_reducible refine gate_callee (f:=67) rfl ?_);refine goesL_ (some 10) rfl rfl Try.func67 (by kernel_rfl) rfl #[.int .u32 a1] rfl (by (try simp only [List.map_toArray,List.map_cons,List.map_nil]);first|done|rfl|(simp only [List.length_drop,List.length_take];rfl)) ?_;(with_reducible refine (api_Page_67.calls a1 false _ A4.out).mono ?_);rintro e w' ⟨rfl,⟨nd,rfl⟩⟩;refine ⟨_,rfl,?_⟩))
     go_ret
     exact ⟨by first|rfl|(simp;done)|(simp [*];done),by repeat (first|exact Drawn0.refl _|apply Drawn0.step)⟩
end Go.Proofs.Ytfegabikfkmepaa.PKe
end
section
namespace Go.Proofs.Ytfegabikfkmepaa.PKe
open Go.RowKit Go.Proofs.YtfegabikfkmepaaW.PrintWords Go.Proofs.YtfegabikfkmepaaW.PrintLast Go.Proofs.YtfegabikfkmepaaW.PrintMore
attribute [local go_sem] max2_int min2_int max_two min_two max_three min_three max_four min_four
set_option linter.unusedVariables false
set_option linter.unusedSimpArgs false
def cmp_isNaN_int.f (a0 : Int) : Option (Bool):=some (a0 != a0)
set_option maxHeartbeats 8000000 in
set_option maxRecDepth 100000 in
theorem cmp_isNaN_int.calls (a0 : Int) (r : Bool) (w : World) (h : cmp_isNaN_int.f a0=some r) :
  Calls Try.prog 68 #[.int .i64 a0] w fun e w'=>e=.returned (.bool r)∧Drawn0 w w':=by
 have H : (some (a0 != a0))=some r:=h
 clear h
 obtain rfl:=Option.some.inj H
 go_enter Try.func68,Try.ntmps68
 go_wp2
 go_ret
 exact ⟨by first|rfl|(simp;done)|(simp [*];done),by repeat (first|exact Drawn0.refl _|apply Drawn0.step)⟩
end Go.Proofs.Ytfegabikfkmepaa.PKe
end
section
namespace Go.Proofs.Ytfegabikfkmepaa.PKe
open Go.RowKit Go.Proofs.YtfegabikfkmepaaW.PrintWords Go.Proofs.YtfegabikfkmepaaW.PrintLast Go.Proofs.YtfegabikfkmepaaW.PrintMore
attribute [local go_sem] max2_int min2_int max_two min_two max_three min_three max_four min_four
set_option linter.unusedVariables false
set_option linter.unusedSimpArgs false
def cmp_Compare_int.f (a0 : Int) (a1 : Int) : Option (Int):=(cmp_isNaN_int.f a0).bind fun t104=>((cmp_isNaN_int.f a1).bind fun t105=>(if t104=true then (if t105=true then (some 0) else (some (-1))) else (if t105=true then (some 1) else (if a0 < a1 then (some (-1)) else (if a0 > a1 then (some 1) else (some 0))))))
set_option maxHeartbeats 8000000 in
set_option maxRecDepth 100000 in
theorem cmp_Compare_int.calls (a0 : Int) (a1 : Int) (r : Int) (w : World) (h : cmp_Compare_int.f a0 a1=some r) :
  Calls Try.prog 59 #[.int .i64 a0,.int .i64 a1] w fun e w'=>e=.returned (.int .i64 r)∧Drawn0 w w':=by
 have H : ((cmp_isNaN_int.f a0).bind fun t104=>((cmp_isNaN_int.f a1).bind fun t105=>(if t104=true then (if t105=true then (some 0) else (some (-1))) else (if t105=true then (some 1) else (if a0 < a1 then (some (-1)) else (if a0 > a1 then (some 1) else (some 0)))))))=some r:=h
 clear h
 replace H:=Option.bind_eq_some_iff.mp H
 obtain ⟨t104,A30,H⟩:=H
 replace H : ((cmp_isNaN_int.f a1).bind fun t105=>(if t104=true then (if t105=true then (some 0) else (some (-1))) else (if t105=true then (some 1) else (if a0 < a1 then (some (-1)) else (if a0 > a1 then (some 1) else (some 0))))))=some r:=H
 have A3:=Aside0.mk A30
 clear A30
 replace H:=Option.bind_eq_some_iff.mp H
 obtain ⟨t105,A40,H⟩:=H
 replace H : (if t104=true then (if t105=true then (some 0) else (some (-1))) else (if t105=true then (some 1) else (if a0 < a1 then (some (-1)) else (if a0 > a1 then (some 1) else (some 0)))))=some r:=H
 have A4:=Aside0.mk A40
 clear A40
 by_cases c5 : t104=true
 ·subst c5
  have H1 : (if t105=true then (some 0) else (some (-1)))=some r:=by rw [if_pos rfl] at H;exact H
  clear H
  have H:=H1
  clear H1
  by_cases c6 : t105=true
  ·subst c6
   have H1 : (some 0)=some r:=by rw [if_pos rfl] at H;exact H
   clear H
   have H:=H1
   clear H1
   obtain rfl:=Option.some.inj H
   go_enter Try.func59,Try.ntmps59
   go_wp2_with (first|((with_reducible refine gate_callee (f:=68) rfl ?_);refine goesL_ (some 8) rfl rfl Try.func68 (by kernel_rfl) rfl #[.int .i64 a0] rfl (by (try simp only [List.map_toArray,List.map_cons,List.map_nil]);first|done|rfl|(simp only [List.length_drop,List.length_take];rfl)) ?_;(with_reducible refine (cmp_isNaN_int.calls a0 true _ A3.out).mono ?_);rintro e w' ⟨rfl,⟨nd,rfl⟩⟩;refine ⟨_,rfl,?_⟩)|((with_reducible refine gate_callee (f:=68) rfl ?_);refine goesL_ (some 10) rfl rfl Try.func68 (by kernel_rfl) rfl #[.int .i64 a1] rfl (by (try simp only [List.map_toArray,List.map_cons,List.map_nil]);first|done|rfl|(simp only [List.length_drop,List.length_take];rfl)) ?_;(with_reducible refine (cmp_isNaN_int.calls a1 true _ A4.out).mono ?_);rintro e w' ⟨rfl,⟨nd,rfl⟩⟩;refine ⟨_,rfl,?_⟩))
   go_ret
   exact ⟨by first|rfl|(simp;done)|(simp [*];done),by repeat (first|exact Drawn0.refl _|apply Drawn0.step)⟩
  ·replace c6:=Bool.eq_false_iff.mpr c6
   subst c6
   have H1 : (some (-1))=some r:=by rw [if_neg (show ¬ (false=true) by decide)] at H;exact H
   clear H
   have H:=H1
   clear H1
   obtain rfl:=Option.some.inj H
   go_enter Try.func59,Try.ntmps59
   go_wp2_with (first|((with_reducible refine gate_callee (f:=68) rfl ?_);refine goesL_ (some 8) rfl rfl Try.func68 (by kernel_rfl) rfl #[.int .i64 a0] rfl (by (try simp only [List.map_toArray,List.map_cons,List.map_nil]);first|done|rfl|(simp only [List.length_drop,List.length_take];rfl)) ?_;(with_reducible refine (cmp_isNaN_int.calls a0 true _ A3.out).mono ?_);rintro e w' ⟨rfl,⟨nd,rfl⟩⟩;refine ⟨_,rfl,?_⟩)|((with_reducible refine gate_callee (f:=68) rfl ?_);refine goesL_ (some 10) rfl rfl Try.func68 (by kernel_rfl) rfl #[.int .i64 a1] rfl (by (try simp only [List.map_toArray,List.map_cons,List.map_nil]);first|done|rfl|(simp only [List.length_drop,List.length_take];rfl)) ?_;(with_reducible refine (cmp_isNaN_int.calls a1 false _ A4.out).mono ?_);rintro e w' ⟨rfl,⟨nd,rfl⟩⟩;refine ⟨_,rfl,?_⟩))
   go_ret
   exact ⟨by first|rfl|(simp;done)|(simp [*];done),by repeat (first|exact Drawn0.refl _|apply Drawn0.step)⟩
 ·replace c5:=Bool.eq_false_iff.mpr c5
  subst c5
  have H1 : (if t105=true then (some 1) else (if a0 < a1 then (some (-1)) else (if a0 > a1 then (some 1) else (some 0))))=some r:=by rw [if_neg (show ¬ (false=true) by decide)] at H;exact H
  clear H
  have H:=H1
  clear H1
  by_cases c7 : t105=true
  ·subst c7
   have H1 : (some 1)=some r:=by rw [if_pos rfl] at H;exact H
   clear H
   have H:=H1
   clear H1
   obtain rfl:=Option.some.inj H
   go_enter Try.func59,Try.ntmps59
   go_wp2_with (first|((with_reducible refine gate_callee (f:=68) rfl ?_);refine goesL_ (some 8) rfl rfl Try.func68 (by kernel_rfl) rfl #[.int .i64 a0] rfl (by (try simp only [List.map_toArray,List.map_cons,List.map_nil]);first|done|rfl|(simp only [List.length_drop,List.length_take];rfl)) ?_;(with_reducible refine (cmp_isNaN_int.calls a0 false _ A3.out).mono ?_);rintro e w' ⟨rfl,⟨nd,rfl⟩⟩;refine ⟨_,rfl,?_⟩)|((with_reducible refine gate_callee (f:=68) rfl ?_);refine goesL_ (some 10) rfl rfl Try.func68 (by kernel_rfl) rfl #[.int .i64 a1] rfl (by (try simp only [List.map_toArray,List.map_cons,List.map_nil]);first|done|rfl|(simp only [List.length_drop,List.length_take];rfl)) ?_;(with_reducible refine (cmp_isNaN_int.calls a1 true _ A4.out).mono ?_);rintro e w' ⟨rfl,⟨nd,rfl⟩⟩;refine ⟨_,rfl,?_⟩))
   go_ret
   exact ⟨by first|rfl|(simp;done)|(simp [*];done),by repeat (first|exact Drawn0.refl _|apply Drawn0.step)⟩
  ·replace c7:=Bool.eq_false_iff.mpr c7
   subst c7
   have H1 : (if a0 < a1 then (some (-1)) else (if a0 > a1 then (some 1) else (some 0)))=some r:=by rw [if_neg (show ¬ (false=true) by decide)] at H;exact H
   clear H
   have H:=H1
   clear H1
   by_cases c8 : a0 < a1
   ·rw [if_pos c8] at H
    have c8b0 : decide (a0 < a1)=true:=decide_eq_true c8
    clear c8
    obtain rfl:=Option.some.inj H
    go_enter Try.func59,Try.ntmps59
    go_wp2_with (first|((with_reducible refine gate_callee (f:=68) rfl ?_);refine goesL_ (some 8) rfl rfl Try.func68 (by kernel_rfl) rfl #[.int .i64 a0] rfl (by (try simp only [List.map_toArray,List.map_cons,List.map_nil]);first|done|rfl|(simp only [List.length_drop,List.length_take];rfl)) ?_;(with_reducible refine (cmp_isNaN_int.calls a0 false _ A3.out).mono ?_);rintro e w' ⟨rfl,⟨nd,rfl⟩⟩;refine ⟨_,rfl,?_⟩)|((with_reducible refine gate_callee (f:=68) rfl ?_);refine goesL_ (some 10) rfl rfl Try.func68 (by kernel_rfl) rfl #[.int .i64 a1] rfl (by (try simp only [List.map_toArray,List.map_cons,List.map_nil]);first|done|rfl|(simp only [List.length_drop,List.length_take];rfl)) ?_;(with_reducible refine (cmp_isNaN_int.calls a1 false _ A4.out).mono ?_);rintro e w' ⟨rfl,⟨nd,rfl⟩⟩;refine ⟨_,rfl,?_⟩))
    go_ret
    exact ⟨by first|rfl|(simp;done)|(simp [*];done),by repeat (first|exact Drawn0.refl _|apply Drawn0.step)⟩
   ·rw [if_neg c8] at H
    have c8b0 : decide (a0 < a1)=false:=decide_eq_false c8
    clear c8
    by_cases c9 : a0 > a1
    ·rw [if_pos c9] at H
     have c9b0 : decide (a1 < a0)=true:=decide_eq_true c9
     clear c9
     obtain rfl:=Option.some.inj H
     go_enter Try.func59,Try.ntmps59
     go_wp2_with (first|((with_reducible refine gate_callee (f:=68) rfl ?_);refine goesL_ (some 8) rfl rfl Try.func68 (by kernel_rfl) rfl #[.int .i64 a0] rfl (by (try simp only [List.map_toArray,List.map_cons,List.map_nil]);first|done|rfl|(simp only [List.length_drop,List.length_take];rfl)) ?_;(with_reducible refine (cmp_isNaN_int.calls a0 false _ A3.out).mono ?_);rintro e w' ⟨rfl,⟨nd,rfl⟩⟩;refine ⟨_,rfl,?_⟩)|((with_reducible refine gate_callee (f:=68) rfl ?_);refine goesL_ (some 10) rfl rfl Try.func68 (by kernel_rfl) rfl #[.int .i64 a1] rfl (by (try simp only [List.map_toArray,List.map_cons,List.map_nil]);first|done|rfl|(simp only [List.length_drop,List.length_take];rfl)) ?_;(with_reducible refine (cmp_isNaN_int.calls a1 false _ A4.out).mono ?_);rintro e w' ⟨rfl,⟨nd,rfl⟩⟩;refine ⟨_,rfl,?_⟩))
     go_ret
     exact ⟨by first|rfl|(simp;done)|(simp [*];done),by repeat (first|exact Drawn0.refl _|apply Drawn0.step)⟩
    ·rw [if_neg c9] at H
     have c9b0 : decide (a1 < a0)=false:=decide_eq_false c9
     clear c9
     obtain rfl:=Option.some.inj H
     go_enter Try.func59,Try.ntmps59
     go_wp2_with (first|((with_reducible refine gate_callee (f:=68) rfl ?_);refine goesL_ (some 8) rfl rfl Try.func68 (by kernel_rfl) rfl #[.int .i64 a0] rfl (by (try simp only [List.map_toArray,List.map_cons,List.map_nil]);first|done|rfl|(simp only [List.length_drop,List.length_take];rfl)) ?_;(with_reducible refine (cmp_isNaN_int.calls a0 false _ A3.out).mono ?_);rintro e w' ⟨rfl,⟨nd,rfl⟩⟩;refine ⟨_,rfl,?_⟩)|((with_reducible refine gate_callee (f:=68) rfl ?_);refine goesL_ (some 10) rfl rfl Try.func68 (by kernel_rfl) rfl #[.int .i64 a1] rfl (by (try simp only [List.map_toArray,List.map_cons,List.map_nil]);first|done|rfl|(simp only [List.length_drop,List.length_take];rfl)) ?_;(with_reducible refine (cmp_isNaN_int.calls a1 false _ A4.out).mono ?_);rintro e w' ⟨rfl,⟨nd,rfl⟩⟩;refine ⟨_,rfl,?_⟩))
     go_ret
     exact ⟨by first|rfl|(simp;done)|(simp [*];done),by repeat (first|exact Drawn0.refl _|apply Drawn0.step)⟩
end Go.Proofs.Ytfegabikfkmepaa.PKe
end
section
namespace Go.Proofs.Ytfegabikfkmepaa.PKe
open Go.RowKit Go.Proofs.YtfegabikfkmepaaW.PrintWords Go.Proofs.YtfegabikfkmepaaW.PrintLast Go.Proofs.YtfegabikfkmepaaW.PrintMore
attribute [local go_sem] max2_int min2_int max_two min_two max_three min_three max_four min_four
set_option linter.unusedVariables false
set_option linter.unusedSimpArgs false
def key_Entries.f (k : Nat) (a0_0 : ByteArray) (a0_1 : Int) (a0_2 : Int) (a1_0 : ByteArray) (a1_1 : Int) (a1_2 : Int) : Option (Int):=(cmp_Compare_string.f a0_0 a1_0).bind fun t108=>((api_Page_58.f a0_1 a1_1).bind fun t109=>((cmp_Compare_int.f a0_2 a1_2).bind fun t110=>((cmp_Or_int.f k (([t108,t109,t110] : List Int))).bind fun t114=>(some t114))))
def key_Entries.T1 : Bool × List (List Nat × List Nat):=(true,[([],[]),([0],[0]),([],[]),([2],[2]),([1,3],[1,3]),([],[]),([5],[5]),([6],[6]),([],[]),([8],[8]),([9],[9]),([7,10,4],[7,10]),([],[]),([12],[12]),([13],[13]),([],[]),([15],[15]),([16],[16]),([14,17,11],[14,17]),([4,11,18],[4,11,18]),([19,18],[19]),([20,20,0,1,2,3,4,5,6,7,8,9,10,11,12,13,14,15,16,17,18,19,20],[20])])
def key_Entries.B1 : List Nat:=[0,1,0,4,15,0,32,96,0,256,768,2047,0,4096,12288,0,32768,98304,262143,524287,1048575,2097151]
theorem key_Entries.tab1 : rtab .any (opsOf Try.f42 1)=key_Entries.T1:=by kernel_rfl
theorem key_Entries.bits1 : waitsOk key_Entries.T1.2 key_Entries.B1=true:=by kernel_rfl
set_option maxHeartbeats 8000000 in
set_option maxRecDepth 100000 in
theorem key_Entries.calls (k : Nat) (a0_0 : ByteArray) (a0_1 : Int) (a0_2 : Int) (a1_0 : ByteArray) (a1_1 : Int) (a1_2 : Int) (r : Int) (w : World) (h : key_Entries.f k a0_0 a0_1 a0_2 a1_0 a1_1 a1_2=some r) :
  Calls Try.prog 42 #[.agg #[.string a0_0,.int .u32 a0_1,.int .i64 a0_2],.agg #[.string a1_0,.int .u32 a1_1,.int .i64 a1_2]] w fun e w'=>e=.returned (.int .i64 r)∧Below w.heap.size w w':=by
 have hu43:=Try.underlying43
 have HB:=Aside0.mk (Below.refl w.heap.size w)
 have H : ((cmp_Compare_string.f a0_0 a1_0).bind fun t108=>((api_Page_58.f a0_1 a1_1).bind fun t109=>((cmp_Compare_int.f a0_2 a1_2).bind fun t110=>((cmp_Or_int.f k (([t108,t109,t110] : List Int))).bind fun t114=>(some t114)))))=some r:=h
 clear h
 replace H:=Option.bind_eq_some_iff.mp H
 obtain ⟨t108,A30,H⟩:=H
 replace H : ((api_Page_58.f a0_1 a1_1).bind fun t109=>((cmp_Compare_int.f a0_2 a1_2).bind fun t110=>((cmp_Or_int.f k (([t108,t109,t110] : List Int))).bind fun t114=>(some t114))))=some r:=H
 have A3:=Aside0.mk A30
 clear A30
 replace H:=Option.bind_eq_some_iff.mp H
 obtain ⟨t109,A40,H⟩:=H
 replace H : ((cmp_Compare_int.f a0_2 a1_2).bind fun t110=>((cmp_Or_int.f k (([t108,t109,t110] : List Int))).bind fun t114=>(some t114)))=some r:=H
 have A4:=Aside0.mk A40
 clear A40
 replace H:=Option.bind_eq_some_iff.mp H
 obtain ⟨t110,A50,H⟩:=H
 replace H : ((cmp_Or_int.f k (([t108,t109,t110] : List Int))).bind fun t114=>(some t114))=some r:=H
 have A5:=Aside0.mk A50
 clear A50
 obtain ⟨y111,hy111⟩ : ∃ y_ : List Int,y_=(([t108,t109,t110] : List Int)):=⟨_,rfl⟩
 replace H : ((cmp_Or_int.f k y111).bind fun t114=>(some t114))=some r:=by first|(rw [hy111];with_reducible exact H)|(have H2_:=(Option.bind_some _ _).symm.trans H;rw [hy111];with_reducible exact H2_)|(have H2_:=(Option.bind_some _ _).symm.trans H;with_reducible exact H2_)|with_reducible exact H|(rw [hy111];exact H)|exact H
 have Ny111:=Aside0.mk hy111
 clear hy111
 replace H:=Option.bind_eq_some_iff.mp H
 obtain ⟨t114,A60,H⟩:=H
 replace H : (some t114)=some r:=H
 have A6:=Aside0.mk A60
 clear A60
 obtain rfl:=Option.some.inj H
 go_enter Try.func42,Try.ntmps42
 try go_wp2_with (first|((with_reducible refine gate_dst (N:=2) rfl ?_);refine box_event ?hg (N:=2) ?hd (cs:=#[.string a0_0,.int .u32 a0_1,.int .i64 a0_2]) (t:=43) ?hr ?_;(case hd=>rfl);(case hg=>rfl);(case hr=>first|(go_simp;done)|(go_simp;rfl));intro gb106 hg w7 hbox hb;have n0_:=Aside0.mk (below_step (by repeat (first|(with_reducible first|exact HB.out|apply below_alloc|apply pw_below_drewN|apply below_drew1)|exact HB.out)) hb);have n1_:=Aside0.mk (hbox);have n2_:=Aside0.mk ((by rw [hg];exact (below_size (by repeat (first|(with_reducible first|exact HB.out|apply below_alloc|apply pw_below_drewN|apply below_drew1)|exact HB.out))) : w.heap.size≤gb106));have n3_:=Aside0.mk ((by rw [hg];exact (below_size (by repeat (first|(with_reducible first|exact HB.out|apply below_alloc|apply pw_below_drewN|apply below_drew1)|exact HB.out))) : w.heap.size≤gb106));clear HB;have HB:=n0_;have BK106:=n1_;have GW106:=n2_;have GE106:=n3_;clear n0_ n1_ n2_ n3_;clear hb hbox hg)|((with_reducible refine gate_dst (N:=3) rfl ?_);refine box_event ?hg (N:=3) ?hd (cs:=#[.string a1_0,.int .u32 a1_1,.int .i64 a1_2]) (t:=43) ?hr ?_;(case hd=>rfl);(case hg=>rfl);(case hr=>first|(go_simp;done)|(go_simp;rfl));intro gb107 hg w8 hbox hb;have n0_:=Aside0.mk (blk_below (g:=gb106) (o:=.cells #[.string a0_0,.int .u32 a0_1,.int .i64 a0_2] 43 (0,0)) (by (with_reducible repeat (first|refine blk_drewN ?_ _|refine blk_drew ?_|refine blk_alloc ?_ _));exact BK106.out) hb);have n1_:=Aside0.mk (below_step (by repeat (first|(with_reducible first|exact HB.out|apply below_alloc|apply pw_below_drewN|apply below_drew1|refine below_set ?_ GE106.out)|exact HB.out)) hb);have n2_:=Aside0.mk (hbox);have n3_:=Aside0.mk ((by rw [hg];exact (below_size (by repeat (first|(with_reducible first|exact HB.out|apply below_alloc|apply pw_below_drewN|apply below_drew1|refine below_set ?_ GE106.out)|exact HB.out))) : w.heap.size≤gb107));have n4_:=Aside0.mk ((by rw [hg];exact (below_size (by repeat (first|(with_reducible first|exact HB.out|apply below_alloc|apply pw_below_drewN|apply below_drew1|refine below_set ?_ GE106.out)|exact HB.out))) : w.heap.size≤gb107));have n5_:=Aside0.mk ((by rw [hg];exact Nat.ne_of_lt (blk_lt (g:=gb106) (o:=.cells #[.string a0_0,.int .u32 a0_1,.int .i64 a0_2] 43 (0,0)) (by (with_reducible repeat (first|refine blk_drewN ?_ _|refine blk_drew ?_|refine blk_alloc ?_ _));exact BK106.out)) : gb106≠gb107));have n6_:=Aside0.mk ((by rw [hg];exact Nat.ne_of_gt (blk_lt (g:=gb106) (o:=.cells #[.string a0_0,.int .u32 a0_1,.int .i64 a0_2] 43 (0,0)) (by (with_reducible repeat (first|refine blk_drewN ?_ _|refine blk_drew ?_|refine blk_alloc ?_ _));exact BK106.out)) : gb107≠gb106));clear BK106;clear HB;have BK106:=n0_;have HB:=n1_;have BK107:=n2_;have GW107:=n3_;have GE107:=n4_;have NB106_107:=n5_;have NB107_106:=n6_;clear n0_ n1_ n2_ n3_ n4_ n5_ n6_;clear hb hbox hg))
 have n0_:=Aside0.mk (blk_drew BK106.out)
 have n1_:=Aside0.mk (blk_drew BK107.out)
 have n2_:=Aside0.mk (below_drew1 HB.out)
 clear BK106
 clear BK107
 clear HB
 have BK106:=n0_
 have BK107:=n1_
 have HB:=n2_
 clear n0_ n1_ n2_
 refine start_ (n:=22) (S:=fun w'=>w'.cell? ⟨gb106,0,none⟩=some (.string a0_0)∧w'.cell? ⟨gb106,1,none⟩=some (.int .u32 a0_1)∧w'.cell? ⟨gb106,2,none⟩=some (.int .i64 a0_2)∧w'.cell? ⟨gb107,0,none⟩=some (.string a1_0)∧w'.cell? ⟨gb107,1,none⟩=some (.int .u32 a1_1)∧w'.cell? ⟨gb107,2,none⟩=some (.int .i64 a1_2)) (ds:=[]) #[false,false,false,false,false,false,false,false,false,false,false,false,false,false,false,false,false,false,false,false,false,false] (by kernel_rfl) rfl rfl ⟨(blk_cell BK106.out 0).trans rfl,(blk_cell BK106.out 1).trans rfl,(blk_cell BK106.out 2).trans rfl,(blk_cell BK107.out 0).trans rfl,(blk_cell BK107.out 1).trans rfl,(blk_cell BK107.out 2).trans rfl⟩ (fun hHeld=>?_);refine with_tabW key_Entries.tab1 key_Entries.bits1 (fun HT_ HW_=>?_)
 generalize w8.drew=w9 at BK106 BK107 HB hHeld ⊢
 refine pure_ (i:=0) (N:=some 5) (v:=?_) (a':=?_) #[true,false,false,false,false,false,false,false,false,false,false,false,false,false,false,false,false,false,false,false,false,false] rfl rfl (any_of HT_.out (by kernel_rfl)) (fun _ _ _ h=>h) (Or.inl ⟨by rfl,?_⟩) ?_ ?_;rotate_left;(focus (intro w';go_simp;with_reducible rfl));rotate_left;(focus (simp only [Act.put,sA_,sB_,sC_,i64_w,i32_w];rfl))
 refine pure_ (i:=2) (N:=some 7) (v:=?_) (a':=?_) #[true,false,true,false,false,false,false,false,false,false,false,false,false,false,false,false,false,false,false,false,false,false] rfl rfl (any_of HT_.out (by kernel_rfl)) (fun _ _ _ h=>h) (Or.inl ⟨by rfl,?_⟩) ?_ ?_;rotate_left;(focus (intro w';go_simp;with_reducible rfl));rotate_left;(focus (simp only [Act.put,sA_,sB_,sC_,i64_w,i32_w];rfl))
 refine pure_ (i:=5) (N:=some 10) (v:=?_) (a':=?_) #[true,false,true,false,false,true,false,false,false,false,false,false,false,false,false,false,false,false,false,false,false,false] rfl rfl (any_of HT_.out (by kernel_rfl)) (fun _ _ _ h=>h) (Or.inl ⟨by rfl,?_⟩) ?_ ?_;rotate_left;(focus (intro w';go_simp;with_reducible rfl));rotate_left;(focus (simp only [Act.put,sA_,sB_,sC_,i64_w,i32_w];rfl))
 refine pure_ (i:=6) (N:=some 11) (v:=?_) (a':=?_) #[true,false,true,false,false,true,true,false,false,false,false,false,false,false,false,false,false,false,false,false,false,false] rfl rfl (any_of HT_.out (by kernel_rfl)) (fun _ _ _ h=>h) (Or.inl ⟨by rfl,?_⟩) ?_ ?_;rotate_left;(focus (intro w';go_simp;with_reducible rfl));rotate_left;(focus (simp only [Act.put,sA_,sB_,sC_,i64_w,i32_w];rfl))
 refine pure_ (i:=8) (N:=some 13) (v:=?_) (a':=?_) #[true,false,true,false,false,true,true,false,true,false,false,false,false,false,false,false,false,false,false,false,false,false] rfl rfl (any_of HT_.out (by kernel_rfl)) (fun _ _ _ h=>h) (Or.inl ⟨by rfl,?_⟩) ?_ ?_;rotate_left;(focus (intro w';go_simp;with_reducible rfl));rotate_left;(focus (simp only [Act.put,sA_,sB_,sC_,i64_w,i32_w];rfl))
 refine pure_ (i:=9) (N:=some 14) (v:=?_) (a':=?_) #[true,false,true,false,false,true,true,false,true,true,false,false,false,false,false,false,false,false,false,false,false,false] rfl rfl (any_of HT_.out (by kernel_rfl)) (fun _ _ _ h=>h) (Or.inl ⟨by rfl,?_⟩) ?_ ?_;rotate_left;(focus (intro w';go_simp;with_reducible rfl));rotate_left;(focus (simp only [Act.put,sA_,sB_,sC_,i64_w,i32_w];rfl))
 refine pure_ (i:=12) (N:=some 17) (v:=?_) (a':=?_) #[true,false,true,false,false,true,true,false,true,true,false,false,true,false,false,false,false,false,false,false,false,false] rfl rfl (any_of HT_.out (by kernel_rfl)) (fun _ _ _ h=>h) (Or.inl ⟨by rfl,?_⟩) ?_ ?_;rotate_left;(focus (intro w';go_simp;with_reducible rfl));rotate_left;(focus (simp only [Act.put,sA_,sB_,sC_,i64_w,i32_w];rfl))
 refine pure_ (i:=13) (N:=some 18) (v:=?_) (a':=?_) #[true,false,true,false,false,true,true,false,true,true,false,false,true,true,false,false,false,false,false,false,false,false] rfl rfl (any_of HT_.out (by kernel_rfl)) (fun _ _ _ h=>h) (Or.inl ⟨by rfl,?_⟩) ?_ ?_;rotate_left;(focus (intro w';go_simp;with_reducible rfl));rotate_left;(focus (simp only [Act.put,sA_,sB_,sC_,i64_w,i32_w];rfl))
 refine pure_ (i:=15) (N:=some 20) (v:=?_) (a':=?_) #[true,false,true,false,false,true,true,false,true,true,false,false,true,true,false,true,false,false,false,false,false,false] rfl rfl (any_of HT_.out (by kernel_rfl)) (fun _ _ _ h=>h) (Or.inl ⟨by rfl,?_⟩) ?_ ?_;rotate_left;(focus (intro w';go_simp;with_reducible rfl));rotate_left;(focus (simp only [Act.put,sA_,sB_,sC_,i64_w,i32_w];rfl))
 refine pure_ (i:=16) (N:=some 21) (v:=?_) (a':=?_) #[true,false,true,false,false,true,true,false,true,true,false,false,true,true,false,true,true,false,false,false,false,false] rfl rfl (any_of HT_.out (by kernel_rfl)) (fun _ _ _ h=>h) (Or.inl ⟨by rfl,?_⟩) ?_ ?_;rotate_left;(focus (intro w';go_simp;with_reducible rfl));rotate_left;(focus (simp only [Act.put,sA_,sB_,sC_,i64_w,i32_w];rfl))
 refine take_ (i:=1) (N:=some 6) (v:=?_) (a':=?_) #[true,true,true,false,false,true,true,false,true,true,false,false,true,true,false,true,true,false,false,false,false,false] rfl rfl (take_ofW HT_.out HW_.out (by kernel_rfl)) (fun _ _ _ h=>h) (Or.inl ⟨by rfl,?_⟩) hHeld ?_ ?_;rotate_left;(focus (rintro w' ⟨s0,s1,s2,s3,s4,s5⟩;go_simp;with_reducible rfl));rotate_left;(focus (simp only [Act.put,sA_,sB_,sC_,i64_w,i32_w];rfl))
 refine take_ (i:=3) (N:=some 8) (v:=?_) (a':=?_) #[true,true,true,true,false,true,true,false,true,true,false,false,true,true,false,true,true,false,false,false,false,false] rfl rfl (take_ofW HT_.out HW_.out (by kernel_rfl)) (fun _ _ _ h=>h) (Or.inl ⟨by rfl,?_⟩) hHeld ?_ ?_;rotate_left;(focus (rintro w' ⟨s0,s1,s2,s3,s4,s5⟩;go_simp;with_reducible rfl));rotate_left;(focus (simp only [Act.put,sA_,sB_,sC_,i64_w,i32_w];rfl))
 refine take_ (i:=7) (N:=some 12) (v:=?_) (a':=?_) #[true,true,true,true,false,true,true,true,true,true,false,false,true,true,false,true,true,false,false,false,false,false] rfl rfl (take_ofW HT_.out HW_.out (by kernel_rfl)) (fun _ _ _ h=>h) (Or.inl ⟨by rfl,?_⟩) hHeld ?_ ?_;rotate_left;(focus (rintro w' ⟨s0,s1,s2,s3,s4,s5⟩;go_simp;with_reducible rfl));rotate_left;(focus (simp only [Act.put,sA_,sB_,sC_,i64_w,i32_w];rfl))
 refine take_ (i:=10) (N:=some 15) (v:=?_) (a':=?_) #[true,true,true,true,false,true,true,true,true,true,true,false,true,true,false,true,true,false,false,false,false,false] rfl rfl (take_ofW HT_.out HW_.out (by kernel_rfl)) (fun _ _ _ h=>h) (Or.inl ⟨by rfl,?_⟩) hHeld ?_ ?_;rotate_left;(focus (rintro w' ⟨s0,s1,s2,s3,s4,s5⟩;go_simp;with_reducible rfl));rotate_left;(focus (simp only [Act.put,sA_,sB_,sC_,i64_w,i32_w];rfl))
 refine take_ (i:=14) (N:=some 19) (v:=?_) (a':=?_) #[true,true,true,true,false,true,true,true,true,true,true,false,true,true,true,true,true,false,false,false,false,false] rfl rfl (take_ofW HT_.out HW_.out (by kernel_rfl)) (fun _ _ _ h=>h) (Or.inl ⟨by rfl,?_⟩) hHeld ?_ ?_;rotate_left;(focus (rintro w' ⟨s0,s1,s2,s3,s4,s5⟩;go_simp;with_reducible rfl));rotate_left;(focus (simp only [Act.put,sA_,sB_,sC_,i64_w,i32_w];rfl))
 refine take_ (i:=17) (N:=some 22) (v:=?_) (a':=?_) #[true,true,true,true,false,true,true,true,true,true,true,false,true,true,true,true,true,true,false,false,false,false] rfl rfl (take_ofW HT_.out HW_.out (by kernel_rfl)) (fun _ _ _ h=>h) (Or.inl ⟨by rfl,?_⟩) hHeld ?_ ?_;rotate_left;(focus (rintro w' ⟨s0,s1,s2,s3,s4,s5⟩;go_simp;with_reducible rfl));rotate_left;(focus (simp only [Act.put,sA_,sB_,sC_,i64_w,i32_w];rfl))
 refine one_ (i:=4) (N:=some 9) #[true,true,true,true,true,true,true,true,true,true,true,false,true,true,true,true,true,true,false,false,false,false] rfl rfl (one_of HT_.out (by kernel_rfl)) (by decide) (fun K hK=>?_)
 refine goes_ Try.func57 (by kernel_rfl) rfl #[.string a0_0,.string a1_0] (by rfl) rfl rfl (by (try simp only [List.map_toArray,List.map_cons,List.map_nil]);first|done|rfl|(simp only [List.length_drop,List.length_take];rfl)) ?_
 with_reducible refine (cmp_Compare_string.calls a0_0 a1_0 t108 _ A3.out).mono ?_
 rintro e w' ⟨rfl,⟨nd,rfl⟩⟩
 refine ⟨_,rfl,?_⟩
 refine hK.out _ _ ⟨(blk_cell BK106.out 0).trans rfl,(blk_cell BK106.out 1).trans rfl,(blk_cell BK106.out 2).trans rfl,(blk_cell BK107.out 0).trans rfl,(blk_cell BK107.out 1).trans rfl,(blk_cell BK107.out 2).trans rfl⟩ (fun hHeld=>?_)
 clear hK K
 refine norm_ (a':=?_) ?_ ?_
 rotate_left
 ·show Act.put _ (some 9) _=_
  simp only [Act.put,sA_,sB_,sC_,i64_w,i32_w]
  rfl
 refine one_ (i:=11) (N:=some 16) #[true,true,true,true,true,true,true,true,true,true,true,true,true,true,true,true,true,true,false,false,false,false] rfl rfl (one_of HT_.out (by kernel_rfl)) (by decide) (fun K hK=>?_)
 refine goes_ Try.func58 (by kernel_rfl) rfl #[.int .u32 a0_1,.int .u32 a1_1] (by rfl) rfl rfl (by (try simp only [List.map_toArray,List.map_cons,List.map_nil]);first|done|rfl|(simp only [List.length_drop,List.length_take];rfl)) ?_
 with_reducible refine (api_Page_58.calls a0_1 a1_1 t109 _ A4.out).mono ?_
 rintro e w' ⟨rfl,⟨nd,rfl⟩⟩
 refine ⟨_,rfl,?_⟩
 refine hK.out _ _ ⟨(blk_cell BK106.out 0).trans rfl,(blk_cell BK106.out 1).trans rfl,(blk_cell BK106.out 2).trans rfl,(blk_cell BK107.out 0).trans rfl,(blk_cell BK107.out 1).trans rfl,(blk_cell BK107.out 2).trans rfl⟩ (fun hHeld=>?_)
 clear hK K
 refine norm_ (a':=?_) ?_ ?_
 rotate_left
 ·show Act.put _ (some 16) _=_
  simp only [Act.put,sA_,sB_,sC_,i64_w,i32_w]
  rfl
 refine one_ (i:=18) (N:=some 23) #[true,true,true,true,true,true,true,true,true,true,true,true,true,true,true,true,true,true,true,false,false,false] rfl rfl (one_of HT_.out (by kernel_rfl)) (by decide) (fun K hK=>?_)
 refine goes_ Try.func59 (by kernel_rfl) rfl #[.int .i64 a0_2,.int .i64 a1_2] (by rfl) rfl rfl (by (try simp only [List.map_toArray,List.map_cons,List.map_nil]);first|done|rfl|(simp only [List.length_drop,List.length_take];rfl)) ?_
 with_reducible refine (cmp_Compare_int.calls a0_2 a1_2 t110 _ A5.out).mono ?_
 rintro e w' ⟨rfl,⟨nd,rfl⟩⟩
 refine ⟨_,rfl,?_⟩
 refine hK.out _ _ ⟨(blk_cell BK106.out 0).trans rfl,(blk_cell BK106.out 1).trans rfl,(blk_cell BK106.out 2).trans rfl,(blk_cell BK107.out 0).trans rfl,(blk_cell BK107.out 1).trans rfl,(blk_cell BK107.out 2).trans rfl⟩ (fun hHeld=>?_)
 clear hK K
 refine norm_ (a':=?_) ?_ ?_
 rotate_left
 ·show Act.put _ (some 23) _=_
  simp only [Act.put,sA_,sB_,sC_,i64_w,i32_w]
  rfl
 refine one_ (i:=19) (N:=some 24) #[true,true,true,true,true,true,true,true,true,true,true,true,true,true,true,true,true,true,true,true,false,false] rfl rfl (one_of HT_.out (by kernel_rfl)) (by decide) (fun K hK=>?_)
 refine Kd.R_lit_step (Kd.int .i64) _ 3 ?hg (N:=24) ?hd (xs:=([t108,t109,t110] : List Int)) (inner:=[.int .i64 t108,.int .i64 t109,.int .i64 t110]) (ok:=fun _=>True) (okp:=fun _=>True) ?hr ?hp (fun _ hk=>hk) trivial (Below.refl _ _) (Nat.le_refl _) (by simp) ?_;(case hd=>rfl);(case hg=>rfl);(case hr=>first|(go_simp;done)|(go_simp;rfl));(case hp=>exact (Reps.one (show Kd.M (Kd.int .i64) _ _ _ t108 [.int .i64 t108] from rfl) (Reps.one (show Kd.M (Kd.int .i64) _ _ _ t109 [.int .i64 t109] from rfl) (Reps.one (show Kd.M (Kd.int .i64) _ _ _ t110 [.int .i64 t110] from rfl) (Reps.none _ _)))))
 intro v112 w10 ho11 hb hg_ hnew_
 clear hg_ hnew_
 (first|rw [← Ny111.out] at ho11|(simp only [Int.reduceToNat] at ho11;rw [← Ny111.out] at ho11))
 have n0_:=Aside0.mk (Kd.R_lower ho11 (below_size (by repeat (first|(with_reducible first|exact HB.out|apply below_alloc|apply pw_below_drewN|apply below_drew1|refine below_set ?_ GE106.out|refine below_set ?_ GE107.out)|exact HB.out))))
 have n1_:=Aside0.mk (blk_below (g:=gb106) (o:=.cells #[.string a0_0,.int .u32 a0_1,.int .i64 a0_2] 43 (0,0)) (by (with_reducible repeat (first|refine blk_drewN ?_ _|refine blk_drew ?_|refine blk_alloc ?_ _));exact BK106.out) hb)
 have n2_:=Aside0.mk (blk_below (g:=gb107) (o:=.cells #[.string a1_0,.int .u32 a1_1,.int .i64 a1_2] 43 (0,0)) (by (with_reducible repeat (first|refine blk_drewN ?_ _|refine blk_drew ?_|refine blk_alloc ?_ _));exact BK107.out) hb)
 have n3_:=Aside0.mk (below_step (by repeat (first|(with_reducible first|exact HB.out|apply below_alloc|apply pw_below_drewN|apply below_drew1|refine below_set ?_ GE106.out|refine below_set ?_ GE107.out)|exact HB.out)) hb)
 clear BK106
 clear BK107
 clear HB
 have HO113:=n0_
 have BK106:=n1_
 have BK107:=n2_
 have HB:=n3_
 clear n0_ n1_ n2_ n3_
 clear hb ho11
 obtain ⟨Ao12,co12,eo12⟩:=Kd.R_slice HO113.out
 (first|subst eo12|(injection eo12 with f1_ f2_ f3_;have f4_:=f1_.symm;have f5_:=f3_.symm;clear f1_ f2_ f3_;subst f4_;subst f5_))
 refine hK.out _ _ ⟨(blk_cell BK106.out 0).trans rfl,(blk_cell BK106.out 1).trans rfl,(blk_cell BK106.out 2).trans rfl,(blk_cell BK107.out 0).trans rfl,(blk_cell BK107.out 1).trans rfl,(blk_cell BK107.out 2).trans rfl⟩ (fun hHeld=>?_)
 clear hK K
 refine norm_ (a':=?_) ?_ ?_
 rotate_left
 ·show Act.put _ (some 24) _=_
  simp only [Act.put,sA_,sB_,sC_,i64_w,i32_w]
  rfl
 refine one_ (i:=20) (N:=some 25) #[true,true,true,true,true,true,true,true,true,true,true,true,true,true,true,true,true,true,true,true,true,false] rfl rfl (one_of HT_.out (by kernel_rfl)) (by decide) (fun K hK=>?_)
 refine goes_ Try.func56 (by kernel_rfl) rfl #[.slice Ao12 y111.length co12] (by rfl) rfl rfl (by (try simp only [List.map_toArray,List.map_cons,List.map_nil]);first|done|rfl|(simp only [List.length_drop,List.length_take];rfl)) ?_
 with_reducible refine (cmp_Or_int.calls k _ _ y111 t114 _ ?side1 ?side2 A6.out).mono ?_
 (case side1=>repeat (first|exact (Kd.R_reads' HO113.out).2.2|(with_reducible refine Kd.C_alloc ?_ _)|(with_reducible refine Kd.C_drewN ?_ _)|(with_reducible refine Kd.C_drew ?_)))
 (case side2=>exact (Kd.R_reads' HO113.out).2.1)
 rintro e w' ⟨rfl,⟨nd,rfl⟩⟩
 refine ⟨_,rfl,?_⟩
 refine hK.out _ _ ⟨(blk_cell BK106.out 0).trans rfl,(blk_cell BK106.out 1).trans rfl,(blk_cell BK106.out 2).trans rfl,(blk_cell BK107.out 0).trans rfl,(blk_cell BK107.out 1).trans rfl,(blk_cell BK107.out 2).trans rfl⟩ (fun hHeld=>?_)
 clear hK K
 refine norm_ (a':=?_) ?_ ?_
 rotate_left
 ·show Act.put _ (some 25) _=_
  simp only [Act.put,sA_,sB_,sC_,i64_w,i32_w]
  rfl
 refine pure_ (i:=21) (N:=some 4) (v:=?_) (a':=?_) #[true,true,true,true,true,true,true,true,true,true,true,true,true,true,true,true,true,true,true,true,true,true] rfl rfl (any_of HT_.out (by kernel_rfl)) (fun _ _ _ h=>h) (Or.inl ⟨by rfl,?_⟩) ?_ ?_;rotate_left;(focus (intro w';go_simp;with_reducible rfl));rotate_left;(focus (simp only [Act.put,sA_,sB_,sC_,i64_w,i32_w];rfl))
 refine done_ (done_of HT_.out (by kernel_rfl)) ?_
 try go_wp2
 go_ret
 exact ⟨by first|rfl|(simp [errW_none,errW_some] <;> rfl)|(simp [*,errW_none,errW_some] <;> rfl),by repeat (first|(with_reducible first|exact HB.out|apply below_alloc|apply pw_below_drewN|apply below_drew1|refine below_set ?_ GE106.out|refine below_set ?_ GE107.out)|exact HB.out)⟩
end Go.Proofs.Ytfegabikfkmepaa.PKe
end
section
namespace Go.Proofs.Ytfegabikfkmepaa
open Go.RowKit Go.Gi Go.GiRow PKe Go.Proofs.YtfegabikfkmepaaW.PrintWords
set_option maxRecDepth 20000
set_option linter.unusedSimpArgs false
set_option linter.unusedVariables false
def cmpS (a b : ByteArray) : Int := if Op.bytesLess a.toList b.toList = true then -1 else if a.toList = b.toList then 0 else 1
def cmpI (x y : Int) : Int := if x < y then -1 else if x > y then 1 else 0
def entC (k1 : ByteArray) (p1 s1 : Int) (k2 : ByteArray) (p2 s2 : Int) : Int := if cmpS k1 k2 ≠ 0 then cmpS k1 k2 else if cmpI p1 p2 ≠ 0 then cmpI p1 p2 else cmpI s1 s2
theorem entries_f (k1 : ByteArray) (p1 s1 : Int) (k2 : ByteArray) (p2 s2 : Int) : key_Entries.f 4 k1 p1 s1 k2 p2 s2 = some (entC k1 p1 s1 k2 p2 s2) := by
  have e1 : cmp_Compare_string.f k1 k2 = some (cmpS k1 k2) := rfl
  have e2 : api_Page_58.f p1 p2 = some (cmpI p1 p2) := by
    unfold api_Page_58.f api_Page_67.f cmpI
    simp
    split
    · rfl
    · split <;> rfl
  have e3 : cmp_Compare_int.f s1 s2 = some (cmpI s1 s2) := by
    unfold cmp_Compare_int.f cmp_isNaN_int.f cmpI
    simp
    split
    · rfl
    · split <;> rfl
  unfold key_Entries.f entC
  rw [e1, e2, e3]
  simp only [Option.bind_some]
  generalize cmpS k1 k2 = x
  generalize cmpI p1 p2 = y
  generalize cmpI s1 s2 = z
  unfold cmp_Or_int.f
  simp only [cmp_Or_int.l0, List.length_cons, List.length_nil, rd]
  by_cases hx : x = 0
  · by_cases hy : y = 0
    · by_cases hz : z = 0
      · subst hx hy hz; simp [wrap64]
      · subst hx hy; simp [wrap64, hz]
    · subst hx; simp [wrap64, hy]
  · simp [hx]
theorem entries_any (k1 : ByteArray) (p1 s1 : Int) (k2 : ByteArray) (p2 s2 : Int) (w : World) :
    Calls Try.prog 42 #[.agg #[.string k1, .int .u32 p1, .int .i64 s1], .agg #[.string k2, .int .u32 p2, .int .i64 s2]] w fun e w' => e = .returned (.int .i64 (entC k1 p1 s1 k2 p2 s2)) ∧ Below w.heap.size w w' :=
  key_Entries.calls 4 k1 p1 s1 k2 p2 s2 _ w (entries_f ..)
end Go.Proofs.Ytfegabikfkmepaa
end
section
namespace Go.Proofs.Ytfegabikfkmepaa
open Go.RowKit Go.Gi Go.GiRow
set_option maxRecDepth 20000
set_option linter.unusedSimpArgs false
set_option linter.unusedVariables false
structure It where
  key : ByteArray
  page : Int
  slot : Int
  live : Bool
def It.cells (x : It) : List Value := [.string x.key, .int .u32 x.page, .int .i64 x.slot, .bool x.live]
set_option maxHeartbeats 3000000 in
theorem find1_any (x : It) (k : ByteArray) (p s : Int) (w : World) :
    Calls Try.prog 41 #[.agg #[.string x.key, .int .u32 x.page, .int .i64 x.slot, .bool x.live], .agg #[.string k, .int .u32 p, .int .i64 s]] w fun e w' => e = .returned (.int .i64 (entC x.key x.page x.slot k p s)) ∧ Below w.heap.size w w' := by
  obtain ⟨key, page, slot, live⟩ := x
  go_enter Try.func41, Try.ntmps41
  go_wp2_with (go_at_call 42; refine (entries_any _ _ _ _ _ _ _).mono ?_; rintro e w1 ⟨rfl, h1⟩)
  all_goals
    go_ret
    exact ⟨rfl, bstep (balloc (balloc (Below.refl _ _) _) _) h1⟩
def bsr (c : Nat → Int) : Nat → Nat → Nat → Nat
  | 0, lo, _ => lo
  | n + 1, lo, hi => if lo < hi then (if c ((lo + hi) / 2) < 0 then bsr c n ((lo + hi) / 2 + 1) hi else bsr c n lo ((lo + hi) / 2)) else lo
theorem bsr_done (c : Nat → Int) : ∀ n lo, bsr c n lo lo = lo
  | 0, _ => rfl
  | n + 1, lo => by rw [bsr, if_neg (by omega)]
theorem bsr_more (c : Nat → Int) : ∀ n m lo hi, hi - lo ≤ n → hi - lo ≤ m → bsr c n lo hi = bsr c m lo hi
  | 0, m, lo, hi, h, _ => by
    cases m with
    | zero => rfl
    | succ m => rw [bsr, bsr, if_neg (by omega)]
  | n + 1, 0, lo, hi, _, h => by rw [bsr, bsr, if_neg (by omega)]
  | n + 1, m + 1, lo, hi, h, h' => by
    rw [bsr, bsr]
    split
    · split
      · exact bsr_more c n m _ _ (by omega) (by omega)
      · exact bsr_more c n m _ _ (by omega) (by omega)
    · rfl
theorem bsr_le (c : Nat → Int) : ∀ n lo hi, lo ≤ hi → lo ≤ bsr c n lo hi ∧ bsr c n lo hi ≤ hi
  | 0, lo, hi, h => ⟨Nat.le_refl _, h⟩
  | n + 1, lo, hi, h => by
    rw [bsr]
    split
    · split
      · have := bsr_le c n ((lo + hi) / 2 + 1) hi (by omega); omega
      · have := bsr_le c n lo ((lo + hi) / 2) (by omega); omega
    · omega
def cAt (l : List It) (k : ByteArray) (p s : Int) (i : Nat) : Int := match l[i]? with | some x => entC x.key x.page x.slot k p s | none => 0
def findAt (l : List It) (k : ByteArray) (p s : Int) : Nat := bsr (cAt l k p s) l.length 0 l.length
def findIs (l : List It) (k : ByteArray) (p s : Int) : Bool := decide (findAt l k p s < l.length) && decide (cAt l k p s (findAt l k p s) = 0)
theorem it_load (w w' : World) (A : Option Addr) (l : List It) (h : RdRows It.cells 4 w A l) (hb : Below w.heap.size w w') (k : Nat) (hk : k < l.length) : ∃ b off, A = some ⟨b, off, none⟩ ∧
    w'.cell? ⟨b, off + k * 4, none⟩ = some (.string l[k].key) ∧ w'.cell? ⟨b, off + k * 4 + 1, none⟩ = some (.int .u32 l[k].page) ∧ w'.cell? ⟨b, off + k * 4 + 2, none⟩ = some (.int .i64 l[k].slot) ∧ w'.cell? ⟨b, off + k * 4 + 3, none⟩ = some (.bool l[k].live) := by
  obtain ⟨b, off, e, h1, h2⟩ := h k hk
  refine ⟨b, off, e, ?_, ?_, ?_, ?_⟩
  · exact (hb.cell (p := ⟨b, off + k * 4 + 0, none⟩) h1).trans (h2 0 _ rfl)
  · exact (hb.cell (p := ⟨b, off + k * 4 + 1, none⟩) h1).trans (h2 1 _ rfl)
  · exact (hb.cell (p := ⟨b, off + k * 4 + 2, none⟩) h1).trans (h2 2 _ rfl)
  · exact (hb.cell (p := ⟨b, off + k * 4 + 3, none⟩) h1).trans (h2 3 _ rfl)
theorem enters_find (args : Array Value) (w : World) : (callFunc 41 args).run Try.prog w = .ok (.enter 41 args) w := by
  simp [callFunc]
  rfl
end Go.Proofs.Ytfegabikfkmepaa
end
