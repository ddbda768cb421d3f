import Derived.Test.YteokjmjfjdgmpaaCCodes3
section
namespace Go.Proofs.Yteokjmjfjdgmpaa.PPg
open Go.RowKit Go.Proofs.YteokjmjfjdgmpaaW.PrintWords Go.Proofs.YteokjmjfjdgmpaaW.PrintLast Go.Proofs.YteokjmjfjdgmpaaW.PrintMore
attribute [local go_sem] max2_int min2_int max_two min_two max_three min_three max_four min_four
set_option linter.unusedVariables false
set_option linter.unusedSimpArgs false
def girderlaw03_PageCodes.j0 : Nat → ByteArray → Int → Bool → Int → Int → Int → ByteArray → List ByteArray → Option (Bool)
 | 0,_,_,_,_,_,_,_,_=>none
 | k + 1,x5,x8,x66,x338000,x338001,x338002,x338003,x338004=>if x66=true then (some false) else (if x8=0 then ((page_Decode.f k x5).bind fun bt378=>(if bt378.2.2.2.2.2=0 then ((page_Same.f k bt378.1 bt378.2.1 bt378.2.2.1 bt378.2.2.2.1 bt378.2.2.2.2.1 x338000 x338001 x338002 x338003 x338004).bind fun t387=>(if t387=true then (some (bt378.2.1 == x338001)) else (some false))) else (some false))) else (some true))
def girderlaw03_PageCodes.f (k : Nat) (a0_0 : Int) (a0_1 : Int) (a0_2 : Int) (a0_3 : ByteArray) (l0_4 : List ByteArray) (a1 : ByteArray) : Option (Bool):=(page_Encode.f a0_0 a0_1 a0_2 a0_3 l0_4).bind fun bt338=>((girderlaw03_ref.f a0_0 a0_1 a0_2 a0_3 l0_4).bind fun bt340=>((girderref03_Encode.f k bt340.1 bt340.2.1 bt340.2.2.1 bt340.2.2.2.1 bt340.2.2.2.2).bind fun bt347=>((page_Decode.f k a1).bind fun bt349=>((girderref03_Decode.f k a1).bind fun bt358=>((girderlaw03_awake.f k).bind fun t367=>(if t367=true then (if bt338.1.toList=bt347.1.toList then (if bt338.2=bt347.2 then ((page_Room.f k a0_0 a0_1 a0_2 a0_3 l0_4).bind fun t368=>((girderlaw03_ref.f a0_0 a0_1 a0_2 a0_3 l0_4).bind fun bt369=>((girderref03_Room.f k bt369.1 bt369.2.1 bt369.2.2.1 bt369.2.2.2.1 bt369.2.2.2.2).bind fun t376=>(if t368=t376 then ((girderlaw03_same.f k bt349.1 bt349.2.1 bt349.2.2.1 bt349.2.2.2.1 bt349.2.2.2.2.1 bt358.1 bt358.2.1 bt358.2.2.1 bt358.2.2.2.1 bt358.2.2.2.2.1).bind fun t377=>(if t377=true then (girderlaw03_PageCodes.j0 k bt338.1 bt347.2 (bt349.2.2.2.2.2 != bt358.2.2.2.2.2) a0_0 a0_1 a0_2 a0_3 l0_4) else (girderlaw03_PageCodes.j0 k bt338.1 bt347.2 true a0_0 a0_1 a0_2 a0_3 l0_4))) else (girderlaw03_PageCodes.j0 k bt338.1 bt347.2 true a0_0 a0_1 a0_2 a0_3 l0_4))))) else (girderlaw03_PageCodes.j0 k bt338.1 bt347.2 true a0_0 a0_1 a0_2 a0_3 l0_4)) else (girderlaw03_PageCodes.j0 k bt338.1 bt347.2 true a0_0 a0_1 a0_2 a0_3 l0_4)) else (girderlaw03_PageCodes.j0 k bt338.1 bt347.2 true a0_0 a0_1 a0_2 a0_3 l0_4)))))))
def girderlaw03_PageCodes.T5 : Bool × List (List Nat × List Nat):=(true,[([],[]),([0],[0]),([1,0],[1]),([2],[2]),([2],[2]),([3,4,2],[2,3,4]),([2,5],[2,5]),([6,2],[6]),([7],[7]),([7],[7]),([8,9,7],[7,8,9]),([7,10],[7,10]),([11,7],[11]),([12],[12]),([13,12,12],[12,13]),([12],[12]),([15,14,12],[12,15]),([16,16,12],[12,16]),([14,17,12],[12,14,17]),([12,18],[12,18]),([19,17],[19]),([20],[20]),([20],[20]),([21,22,20,20],[20,21,22]),([23,20],[20,23]),([20,24],[20,24]),([25,23],[25]),([26],[26]),([26],[26]),([27,28,26],[26,27,28]),([26,29],[26,29])])
def girderlaw03_PageCodes.B5 : List Nat:=[0,1,3,7,7,31,63,127,255,255,1023,2047,4095,8191,16383,8191,65535,131071,262143,524287,1048575,2097151,2097151,8388607,16777215,33554431,67108863,134217727,134217727,536870911,1073741823]
theorem girderlaw03_PageCodes.tab5 : rtab .any (opsOf Try.f3 5)=girderlaw03_PageCodes.T5:=by kernel_rfl
theorem girderlaw03_PageCodes.bits5 : waitsOk girderlaw03_PageCodes.T5.2 girderlaw03_PageCodes.B5=true:=by kernel_rfl
set_option maxHeartbeats 8000000 in
set_option maxRecDepth 100000 in
theorem girderlaw03_PageCodes.calls (k : Nat) (a0_0 : Int) (a0_1 : Int) (a0_2 : Int) (a0_3 : ByteArray) (A0_4 : Option Addr) (c0_4 : Nat) (l0_4 : List ByteArray) (a1 : ByteArray) (r : Bool) (w : World) (hr0_4 : Kd.C Kd.string w A0_4 l0_4.length l0_4) (hc0_4 : l0_4.length≤c0_4) (h : girderlaw03_PageCodes.f k a0_0 a0_1 a0_2 a0_3 l0_4 a1=some r) :
  Calls Try.prog 3 #[.agg #[.int .u32 a0_0,.int .u64 a0_1,.int .i64 a0_2,.string a0_3,.slice A0_4 l0_4.length c0_4],.string a1] w fun e w'=>e=.returned (.bool r)∧Below w.heap.size w w':=by
 have hu28:=Try.underlying28
 have hu35:=Try.underlying35
 have HR0_4:=Aside0.mk hr0_4
 have HC0_4:=Aside0.mk hc0_4
 clear hr0_4 hc0_4
 have HB:=Aside0.mk (Below.refl w.heap.size w)
 have H : ((page_Encode.f a0_0 a0_1 a0_2 a0_3 l0_4).bind fun bt338=>((girderlaw03_ref.f a0_0 a0_1 a0_2 a0_3 l0_4).bind fun bt340=>((girderref03_Encode.f k bt340.1 bt340.2.1 bt340.2.2.1 bt340.2.2.2.1 bt340.2.2.2.2).bind fun bt347=>((page_Decode.f k a1).bind fun bt349=>((girderref03_Decode.f k a1).bind fun bt358=>((girderlaw03_awake.f k).bind fun t367=>(if t367=true then (if bt338.1.toList=bt347.1.toList then (if bt338.2=bt347.2 then ((page_Room.f k a0_0 a0_1 a0_2 a0_3 l0_4).bind fun t368=>((girderlaw03_ref.f a0_0 a0_1 a0_2 a0_3 l0_4).bind fun bt369=>((girderref03_Room.f k bt369.1 bt369.2.1 bt369.2.2.1 bt369.2.2.2.1 bt369.2.2.2.2).bind fun t376=>(if t368=t376 then ((girderlaw03_same.f k bt349.1 bt349.2.1 bt349.2.2.1 bt349.2.2.2.1 bt349.2.2.2.2.1 bt358.1 bt358.2.1 bt358.2.2.1 bt358.2.2.2.1 bt358.2.2.2.2.1).bind fun t377=>(if t377=true then (girderlaw03_PageCodes.j0 k bt338.1 bt347.2 (bt349.2.2.2.2.2 != bt358.2.2.2.2.2) a0_0 a0_1 a0_2 a0_3 l0_4) else (girderlaw03_PageCodes.j0 k bt338.1 bt347.2 true a0_0 a0_1 a0_2 a0_3 l0_4))) else (girderlaw03_PageCodes.j0 k bt338.1 bt347.2 true a0_0 a0_1 a0_2 a0_3 l0_4))))) else (girderlaw03_PageCodes.j0 k bt338.1 bt347.2 true a0_0 a0_1 a0_2 a0_3 l0_4)) else (girderlaw03_PageCodes.j0 k bt338.1 bt347.2 true a0_0 a0_1 a0_2 a0_3 l0_4)) else (girderlaw03_PageCodes.j0 k bt338.1 bt347.2 true a0_0 a0_1 a0_2 a0_3 l0_4))))))))=some r:=h
 clear h
 replace H:=Option.bind_eq_some_iff.mp H
 obtain ⟨⟨t338,t339⟩,A30,H⟩:=H
 replace H : ((girderlaw03_ref.f a0_0 a0_1 a0_2 a0_3 l0_4).bind fun bt340=>((girderref03_Encode.f k bt340.1 bt340.2.1 bt340.2.2.1 bt340.2.2.2.1 bt340.2.2.2.2).bind fun bt347=>((page_Decode.f k a1).bind fun bt349=>((girderref03_Decode.f k a1).bind fun bt358=>((girderlaw03_awake.f k).bind fun t367=>(if t367=true then (if t338.toList=bt347.1.toList then (if t339=bt347.2 then ((page_Room.f k a0_0 a0_1 a0_2 a0_3 l0_4).bind fun t368=>((girderlaw03_ref.f a0_0 a0_1 a0_2 a0_3 l0_4).bind fun bt369=>((girderref03_Room.f k bt369.1 bt369.2.1 bt369.2.2.1 bt369.2.2.2.1 bt369.2.2.2.2).bind fun t376=>(if t368=t376 then ((girderlaw03_same.f k bt349.1 bt349.2.1 bt349.2.2.1 bt349.2.2.2.1 bt349.2.2.2.2.1 bt358.1 bt358.2.1 bt358.2.2.1 bt358.2.2.2.1 bt358.2.2.2.2.1).bind fun t377=>(if t377=true then (girderlaw03_PageCodes.j0 k t338 bt347.2 (bt349.2.2.2.2.2 != bt358.2.2.2.2.2) a0_0 a0_1 a0_2 a0_3 l0_4) else (girderlaw03_PageCodes.j0 k t338 bt347.2 true a0_0 a0_1 a0_2 a0_3 l0_4))) else (girderlaw03_PageCodes.j0 k t338 bt347.2 true a0_0 a0_1 a0_2 a0_3 l0_4))))) else (girderlaw03_PageCodes.j0 k t338 bt347.2 true a0_0 a0_1 a0_2 a0_3 l0_4)) else (girderlaw03_PageCodes.j0 k t338 bt347.2 true a0_0 a0_1 a0_2 a0_3 l0_4)) else (girderlaw03_PageCodes.j0 k t338 bt347.2 true a0_0 a0_1 a0_2 a0_3 l0_4)))))))=some r:=H
 have A3:=Aside0.mk A30
 clear A30
 replace H:=Option.bind_eq_some_iff.mp H
 obtain ⟨⟨t340,t341,t342,t343,t344⟩,A40,H⟩:=H
 replace H : ((girderref03_Encode.f k t340 t341 t342 t343 t344).bind fun bt347=>((page_Decode.f k a1).bind fun bt349=>((girderref03_Decode.f k a1).bind fun bt358=>((girderlaw03_awake.f k).bind fun t367=>(if t367=true then (if t338.toList=bt347.1.toList then (if t339=bt347.2 then ((page_Room.f k a0_0 a0_1 a0_2 a0_3 l0_4).bind fun t368=>((girderlaw03_ref.f a0_0 a0_1 a0_2 a0_3 l0_4).bind fun bt369=>((girderref03_Room.f k bt369.1 bt369.2.1 bt369.2.2.1 bt369.2.2.2.1 bt369.2.2.2.2).bind fun t376=>(if t368=t376 then ((girderlaw03_same.f k bt349.1 bt349.2.1 bt349.2.2.1 bt349.2.2.2.1 bt349.2.2.2.2.1 bt358.1 bt358.2.1 bt358.2.2.1 bt358.2.2.2.1 bt358.2.2.2.2.1).bind fun t377=>(if t377=true then (girderlaw03_PageCodes.j0 k t338 bt347.2 (bt349.2.2.2.2.2 != bt358.2.2.2.2.2) a0_0 a0_1 a0_2 a0_3 l0_4) else (girderlaw03_PageCodes.j0 k t338 bt347.2 true a0_0 a0_1 a0_2 a0_3 l0_4))) else (girderlaw03_PageCodes.j0 k t338 bt347.2 true a0_0 a0_1 a0_2 a0_3 l0_4))))) else (girderlaw03_PageCodes.j0 k t338 bt347.2 true a0_0 a0_1 a0_2 a0_3 l0_4)) else (girderlaw03_PageCodes.j0 k t338 bt347.2 true a0_0 a0_1 a0_2 a0_3 l0_4)) else (girderlaw03_PageCodes.j0 k t338 bt347.2 true a0_0 a0_1 a0_2 a0_3 l0_4))))))=some r:=H
 have A4:=Aside0.mk A40
 clear A40
 replace H:=Option.bind_eq_some_iff.mp H
 obtain ⟨⟨t347,t348⟩,A50,H⟩:=H
 replace H : ((page_Decode.f k a1).bind fun bt349=>((girderref03_Decode.f k a1).bind fun bt358=>((girderlaw03_awake.f k).bind fun t367=>(if t367=true then (if t338.toList=t347.toList then (if t339=t348 then ((page_Room.f k a0_0 a0_1 a0_2 a0_3 l0_4).bind fun t368=>((girderlaw03_ref.f a0_0 a0_1 a0_2 a0_3 l0_4).bind fun bt369=>((girderref03_Room.f k bt369.1 bt369.2.1 bt369.2.2.1 bt369.2.2.2.1 bt369.2.2.2.2).bind fun t376=>(if t368=t376 then ((girderlaw03_same.f k bt349.1 bt349.2.1 bt349.2.2.1 bt349.2.2.2.1 bt349.2.2.2.2.1 bt358.1 bt358.2.1 bt358.2.2.1 bt358.2.2.2.1 bt358.2.2.2.2.1).bind fun t377=>(if t377=true then (girderlaw03_PageCodes.j0 k t338 t348 (bt349.2.2.2.2.2 != bt358.2.2.2.2.2) a0_0 a0_1 a0_2 a0_3 l0_4) else (girderlaw03_PageCodes.j0 k t338 t348 true a0_0 a0_1 a0_2 a0_3 l0_4))) else (girderlaw03_PageCodes.j0 k t338 t348 true a0_0 a0_1 a0_2 a0_3 l0_4))))) else (girderlaw03_PageCodes.j0 k t338 t348 true a0_0 a0_1 a0_2 a0_3 l0_4)) else (girderlaw03_PageCodes.j0 k t338 t348 true a0_0 a0_1 a0_2 a0_3 l0_4)) else (girderlaw03_PageCodes.j0 k t338 t348 true a0_0 a0_1 a0_2 a0_3 l0_4)))))=some r:=H
 have A5:=Aside0.mk A50
 clear A50
 replace H:=Option.bind_eq_some_iff.mp H
 obtain ⟨⟨t349,t350,t351,t352,t353,t356⟩,A60,H⟩:=H
 replace H : ((girderref03_Decode.f k a1).bind fun bt358=>((girderlaw03_awake.f k).bind fun t367=>(if t367=true then (if t338.toList=t347.toList then (if t339=t348 then ((page_Room.f k a0_0 a0_1 a0_2 a0_3 l0_4).bind fun t368=>((girderlaw03_ref.f a0_0 a0_1 a0_2 a0_3 l0_4).bind fun bt369=>((girderref03_Room.f k bt369.1 bt369.2.1 bt369.2.2.1 bt369.2.2.2.1 bt369.2.2.2.2).bind fun t376=>(if t368=t376 then ((girderlaw03_same.f k t349 t350 t351 t352 t353 bt358.1 bt358.2.1 bt358.2.2.1 bt358.2.2.2.1 bt358.2.2.2.2.1).bind fun t377=>(if t377=true then (girderlaw03_PageCodes.j0 k t338 t348 (t356 != bt358.2.2.2.2.2) a0_0 a0_1 a0_2 a0_3 l0_4) else (girderlaw03_PageCodes.j0 k t338 t348 true a0_0 a0_1 a0_2 a0_3 l0_4))) else (girderlaw03_PageCodes.j0 k t338 t348 true a0_0 a0_1 a0_2 a0_3 l0_4))))) else (girderlaw03_PageCodes.j0 k t338 t348 true a0_0 a0_1 a0_2 a0_3 l0_4)) else (girderlaw03_PageCodes.j0 k t338 t348 true a0_0 a0_1 a0_2 a0_3 l0_4)) else (girderlaw03_PageCodes.j0 k t338 t348 true a0_0 a0_1 a0_2 a0_3 l0_4))))=some r:=H
 have A6:=Aside0.mk A60
 clear A60
 replace H:=Option.bind_eq_some_iff.mp H
 obtain ⟨⟨t358,t359,t360,t361,t362,t365⟩,A70,H⟩:=H
 replace H : ((girderlaw03_awake.f k).bind fun t367=>(if t367=true then (if t338.toList=t347.toList then (if t339=t348 then ((page_Room.f k a0_0 a0_1 a0_2 a0_3 l0_4).bind fun t368=>((girderlaw03_ref.f a0_0 a0_1 a0_2 a0_3 l0_4).bind fun bt369=>((girderref03_Room.f k bt369.1 bt369.2.1 bt369.2.2.1 bt369.2.2.2.1 bt369.2.2.2.2).bind fun t376=>(if t368=t376 then ((girderlaw03_same.f k t349 t350 t351 t352 t353 t358 t359 t360 t361 t362).bind fun t377=>(if t377=true then (girderlaw03_PageCodes.j0 k t338 t348 (t356 != t365) a0_0 a0_1 a0_2 a0_3 l0_4) else (girderlaw03_PageCodes.j0 k t338 t348 true a0_0 a0_1 a0_2 a0_3 l0_4))) else (girderlaw03_PageCodes.j0 k t338 t348 true a0_0 a0_1 a0_2 a0_3 l0_4))))) else (girderlaw03_PageCodes.j0 k t338 t348 true a0_0 a0_1 a0_2 a0_3 l0_4)) else (girderlaw03_PageCodes.j0 k t338 t348 true a0_0 a0_1 a0_2 a0_3 l0_4)) else (girderlaw03_PageCodes.j0 k t338 t348 true a0_0 a0_1 a0_2 a0_3 l0_4)))=some r:=H
 have A7:=Aside0.mk A70
 clear A70
 have HC8:=Aside0.mk H
 clear H
 go_enter Try.func3,Try.ntmps3
 go_upto_region 5 with (first|((with_reducible refine gate_dst (N:=2) rfl ?_);refine box_event ?hg (N:=2) ?hd (cs:=#[.int .u32 a0_0,.int .u64 a0_1,.int .i64 a0_2,.string a0_3,.slice A0_4 l0_4.length c0_4]) (t:=28) ?hr ?_;(case hd=>rfl);(case hg=>rfl);(case hr=>first|(go_simp;done)|(go_simp;rfl));intro gb337 hg w9 hbox hb;have n0_:=Aside0.mk (below_step (by repeat (first|(with_reducible first|exact HB.out|apply below_alloc|apply pw_below_drewN|apply below_drew1)|exact HB.out)) hb);have n1_:=Aside0.mk (hbox);have n2_:=Aside0.mk ((by rw [hg];exact (below_size (by repeat (first|(with_reducible first|exact HB.out|apply below_alloc|apply pw_below_drewN|apply below_drew1)|exact HB.out))) : w.heap.size≤gb337));have n3_:=Aside0.mk ((by rw [hg];exact (below_size (by repeat (first|(with_reducible first|exact HB.out|apply below_alloc|apply pw_below_drewN|apply below_drew1)|exact HB.out))) : w.heap.size≤gb337));clear HB;have HB:=n0_;have BK337:=n1_;have GW337:=n2_;have GE337:=n3_;clear n0_ n1_ n2_ n3_;clear hb hbox hg;have hcz10_0 : w9.cell? ⟨gb337,0,none⟩=some (.int .u32 a0_0):=(blk_cell BK337.out 0).trans rfl;have hcz10_1 : w9.cell? ⟨gb337,1,none⟩=some (.int .u64 a0_1):=(blk_cell BK337.out 1).trans rfl;have hcz10_2 : w9.cell? ⟨gb337,2,none⟩=some (.int .i64 a0_2):=(blk_cell BK337.out 2).trans rfl;have hcz10_3 : w9.cell? ⟨gb337,3,none⟩=some (.string a0_3):=(blk_cell BK337.out 3).trans rfl;have hcz10_4 : w9.cell? ⟨gb337,4,none⟩=some (.slice A0_4 l0_4.length c0_4):=(blk_cell BK337.out 4).trans rfl;have hfz10_0:=blk_frozen BK337.out 0;have hfz10_1:=blk_frozen BK337.out 1;have hfz10_2:=blk_frozen BK337.out 2;have hfz10_3:=blk_frozen BK337.out 3;have hfz10_4:=blk_frozen BK337.out 4)|((with_reducible refine gate_callee (f:=8) rfl ?_);refine goesL_ (some 17) rfl rfl Try.func8 (by kernel_rfl) rfl #[.agg #[.int .u32 a0_0,.int .u64 a0_1,.int .i64 a0_2,.string a0_3,.slice A0_4 l0_4.length c0_4]] rfl (by (try simp only [List.map_toArray,List.map_cons,List.map_nil]);first|done|rfl|(simp only [List.length_drop,List.length_take];rfl)) ?_;(with_reducible refine (page_Encode.calls a0_0 a0_1 a0_2 a0_3 _ _ l0_4 t338 t339 _ ?side1 ?side2 A3.out).mono ?_);(case side1=>repeat (first|exact (Kd.C_below HR0_4.out HB.out)|(with_reducible refine Kd.C_alloc ?_ _)|(with_reducible refine Kd.C_drewN ?_ _)|(with_reducible refine Kd.C_drew ?_)));(case side2=>exact HC0_4.out);rintro e w11 ⟨rfl,hb⟩;refine ⟨_,rfl,?_⟩;have n0_:=Aside0.mk (blk_below (g:=gb337) (o:=.cells #[.int .u32 a0_0,.int .u64 a0_1,.int .i64 a0_2,.string a0_3,.slice A0_4 l0_4.length c0_4] 28 (0,0)) (by (with_reducible repeat (first|refine blk_drewN ?_ _|refine blk_drew ?_|refine blk_alloc ?_ _));exact BK337.out) hb);have n1_:=Aside0.mk (below_step (by repeat (first|(with_reducible first|exact HB.out|apply below_alloc|apply pw_below_drewN|apply below_drew1|refine below_set ?_ GE337.out)|exact HB.out)) hb);clear BK337;clear HB;have BK337:=n0_;have HB:=n1_;clear n0_ n1_;(try clear hb);(try clear hb2);(try clear hk);(try clear hi);have hcz12_0 : w11.cell? ⟨gb337,0,none⟩=some (.int .u32 a0_0):=(blk_cell BK337.out 0).trans rfl;have hcz12_1 : w11.cell? ⟨gb337,1,none⟩=some (.int .u64 a0_1):=(blk_cell BK337.out 1).trans rfl;have hcz12_2 : w11.cell? ⟨gb337,2,none⟩=some (.int .i64 a0_2):=(blk_cell BK337.out 2).trans rfl;have hcz12_3 : w11.cell? ⟨gb337,3,none⟩=some (.string a0_3):=(blk_cell BK337.out 3).trans rfl;have hcz12_4 : w11.cell? ⟨gb337,4,none⟩=some (.slice A0_4 l0_4.length c0_4):=(blk_cell BK337.out 4).trans rfl;have hfz12_0:=blk_frozen BK337.out 0;have hfz12_1:=blk_frozen BK337.out 1;have hfz12_2:=blk_frozen BK337.out 2;have hfz12_3:=blk_frozen BK337.out 3;have hfz12_4:=blk_frozen BK337.out 4)|((with_reducible refine gate_callee (f:=10) rfl ?_);refine goesL_ (some 22) rfl rfl Try.func10 (by kernel_rfl) rfl #[.agg #[.int .u32 a0_0,.int .u64 a0_1,.int .i64 a0_2,.string a0_3,.slice A0_4 l0_4.length c0_4]] rfl (by (try simp only [List.map_toArray,List.map_cons,List.map_nil]);first|done|rfl|(simp only [List.length_drop,List.length_take];rfl)) ?_;(with_reducible refine (girderlaw03_ref.calls a0_0 a0_1 a0_2 a0_3 (fun k_=>k_ < w.heap.size) _ _ l0_4 t340 t341 t342 t343 t344 _ ?side1 A4.out).mono ?_);(case side1=>exact Kd.V_mk HC0_4.out (Kd.F_below (Kd.C_F Kd.heap_string HR0_4.out) (by repeat (first|(with_reducible first|exact HB.out|apply below_alloc|apply pw_below_drewN|apply below_drew1|refine below_set ?_ GE337.out)|exact HB.out))));rintro e w13 ⟨v345,rfl,ho0,hb⟩;refine ⟨_,rfl,?_⟩;have n0_:=Aside0.mk (Kd.V_lower (Kd.V_mono (ok':=fun k_=>k_≠gb337) ho0 (fun k_ hk_=>Or.elim hk_ (fun hs_=>fun e_=>Nat.not_le.2 hs_ (by rw [e_];exact GW337.out)) (fun hn_=>(Kd.freshB (g:=gb337) (o:=.cells #[.int .u32 a0_0,.int .u64 a0_1,.int .i64 a0_2,.string a0_3,.slice A0_4 l0_4.length c0_4] 28 (0,0)) (by (with_reducible repeat (first|refine blk_drewN ?_ _|refine blk_drew ?_|refine blk_alloc ?_ _));exact BK337.out) k_ hn_)))) (below_size (by repeat (first|(with_reducible first|exact HB.out|apply below_alloc|apply pw_below_drewN|apply below_drew1|refine below_set ?_ GE337.out)|exact HB.out))));have n1_:=Aside0.mk (blk_below (g:=gb337) (o:=.cells #[.int .u32 a0_0,.int .u64 a0_1,.int .i64 a0_2,.string a0_3,.slice A0_4 l0_4.length c0_4] 28 (0,0)) (by (with_reducible repeat (first|refine blk_drewN ?_ _|refine blk_drew ?_|refine blk_alloc ?_ _));exact BK337.out) hb);have n2_:=Aside0.mk (below_step (by repeat (first|(with_reducible first|exact HB.out|apply below_alloc|apply pw_below_drewN|apply below_drew1|refine below_set ?_ GE337.out)|exact HB.out)) hb);clear BK337;clear HB;have HO346:=n0_;have BK337:=n1_;have HB:=n2_;clear n0_ n1_ n2_;(try clear hb);(try clear hb2);(try clear hk);(try clear hi);(try clear ho0);obtain ⟨Ao14,co14,eo14⟩:=Kd.V_slice HO346.out;subst eo14)|((with_reducible refine gate_callee (f:=9) rfl ?_);refine goesL_ (some 23) rfl rfl Try.func9 (by kernel_rfl) rfl #[.agg #[.int .u32 t340,.int .u64 t341,.int .i64 t342,.string t343,.slice Ao14 t344.length co14]] rfl (by (try simp only [List.map_toArray,List.map_cons,List.map_nil]);first|done|rfl|(simp only [List.length_drop,List.length_take];rfl)) ?_;(with_reducible refine (girderref03_Encode.calls k t340 t341 t342 t343 _ _ t344 t347 t348 _ ?side1 ?side2 A5.out).mono ?_);(case side1=>repeat (first|exact (Kd.V_reads' HO346.out).2.2|(with_reducible refine Kd.C_alloc ?_ _)|(with_reducible refine Kd.C_drewN ?_ _)|(with_reducible refine Kd.C_drew ?_)));(case side2=>exact (Kd.V_reads' HO346.out).2.1);rintro e w15 ⟨rfl,hb⟩;refine ⟨_,rfl,?_⟩;have n0_:=Aside0.mk (Kd.V_below (by (with_reducible repeat (first|apply Kd.V_alloc|apply Kd.V_drewN|apply Kd.V_drew));exact HO346.out) hb);have n1_:=Aside0.mk (blk_below (g:=gb337) (o:=.cells #[.int .u32 a0_0,.int .u64 a0_1,.int .i64 a0_2,.string a0_3,.slice A0_4 l0_4.length c0_4] 28 (0,0)) (by (with_reducible repeat (first|refine blk_drewN ?_ _|refine blk_drew ?_|refine blk_alloc ?_ _));exact BK337.out) hb);have n2_:=Aside0.mk (below_step (by repeat (first|(with_reducible first|exact HB.out|apply below_alloc|apply pw_below_drewN|apply below_drew1|refine below_set ?_ GE337.out)|exact HB.out)) hb);clear HO346;clear BK337;clear HB;have HO346:=n0_;have BK337:=n1_;have HB:=n2_;clear n0_ n1_ n2_;(try clear hb);(try clear hb2);(try clear hk);(try clear hi))|((with_reducible refine gate_callee (f:=11) rfl ?_);refine goesL_ (some 28) rfl rfl Try.func11 (by kernel_rfl) rfl #[.string a1] rfl (by (try simp only [List.map_toArray,List.map_cons,List.map_nil]);first|done|rfl|(simp only [List.length_drop,List.length_take];rfl)) ?_;(with_reducible refine (page_Decode.calls k a1 t349 t350 t351 t352 t353 t356 _ A6.out).mono ?_);rintro e w16 ⟨v354,rfl,ho0,hb⟩;refine ⟨_,rfl,?_⟩;have n0_:=Aside0.mk (Kd.V_elder' (by (with_reducible repeat (first|apply Kd.V_alloc|apply Kd.V_drewN|apply Kd.V_drew));exact HO346.out) (Kd.R_base ho0) hb);have n1_:=Aside0.mk (Kd.R_lower ho0 (below_size (by repeat (first|(with_reducible first|exact HB.out|apply below_alloc|apply pw_below_drewN|apply below_drew1|refine below_set ?_ GE337.out)|exact HB.out))));have n2_:=Aside0.mk (blk_below (g:=gb337) (o:=.cells #[.int .u32 a0_0,.int .u64 a0_1,.int .i64 a0_2,.string a0_3,.slice A0_4 l0_4.length c0_4] 28 (0,0)) (by (with_reducible repeat (first|refine blk_drewN ?_ _|refine blk_drew ?_|refine blk_alloc ?_ _));exact BK337.out) hb);have n3_:=Aside0.mk (below_step (by repeat (first|(with_reducible first|exact HB.out|apply below_alloc|apply pw_below_drewN|apply below_drew1|refine below_set ?_ GE337.out)|exact HB.out)) hb);clear HO346;clear BK337;clear HB;have HO346:=n0_;have HO355:=n1_;have BK337:=n2_;have HB:=n3_;clear n0_ n1_ n2_ n3_;(try clear hb);(try clear hb2);(try clear hk);(try clear hi);(try clear ho0))|((with_reducible refine gate_dst (N:=9) rfl ?_);refine box_event ?hg (N:=9) ?hd (cs:=#[.int .u32 0,.int .u64 0,.int .i64 0,.string (⟨#[]⟩ : ByteArray),.slice none 0 0]) (t:=28) ?hr ?_;(case hd=>rfl);(case hg=>rfl);(case hr=>first|(go_simp;done)|(go_simp;rfl));intro gb357 hg w17 hbox hb;have n0_:=Aside0.mk (Kd.V_below (Kd.V_elderB (by (with_reducible repeat (first|apply Kd.V_alloc|apply Kd.V_drewN|apply Kd.V_drew));exact HO346.out) gb357 (Nat.le_of_eq hg.symm)) hb);have n1_:=Aside0.mk (Kd.R_below (by (with_reducible repeat (first|apply Kd.R_alloc|apply Kd.R_drewN|apply Kd.R_drew));exact HO355.out) hb);have n2_:=Aside0.mk (blk_below (g:=gb337) (o:=.cells #[.int .u32 a0_0,.int .u64 a0_1,.int .i64 a0_2,.string a0_3,.slice A0_4 l0_4.length c0_4] 28 (0,0)) (by (with_reducible repeat (first|refine blk_drewN ?_ _|refine blk_drew ?_|refine blk_alloc ?_ _));exact BK337.out) hb);have n3_:=Aside0.mk (below_step (by repeat (first|(with_reducible first|exact HB.out|apply below_alloc|apply pw_below_drewN|apply below_drew1|refine below_set ?_ GE337.out)|exact HB.out)) hb);have n4_:=Aside0.mk (hbox);have n5_:=Aside0.mk ((by rw [hg];exact (below_size (by repeat (first|(with_reducible first|exact HB.out|apply below_alloc|apply pw_below_drewN|apply below_drew1|refine below_set ?_ GE337.out)|exact HB.out))) : w.heap.size≤gb357));have n6_:=Aside0.mk ((by rw [hg];exact (below_size (by repeat (first|(with_reducible first|exact HB.out|apply below_alloc|apply pw_below_drewN|apply below_drew1|refine below_set ?_ GE337.out)|exact HB.out))) : w.heap.size≤gb357));have n7_:=Aside0.mk ((by rw [hg];exact Nat.ne_of_lt (blk_lt (g:=gb337) (o:=.cells #[.int .u32 a0_0,.int .u64 a0_1,.int .i64 a0_2,.string a0_3,.slice A0_4 l0_4.length c0_4] 28 (0,0)) (by (with_reducible repeat (first|refine blk_drewN ?_ _|refine blk_drew ?_|refine blk_alloc ?_ _));exact BK337.out)) : gb337≠gb357));have n8_:=Aside0.mk ((by rw [hg];exact Nat.ne_of_gt (blk_lt (g:=gb337) (o:=.cells #[.int .u32 a0_0,.int .u64 a0_1,.int .i64 a0_2,.string a0_3,.slice A0_4 l0_4.length c0_4] 28 (0,0)) (by (with_reducible repeat (first|refine blk_drewN ?_ _|refine blk_drew ?_|refine blk_alloc ?_ _));exact BK337.out)) : gb357≠gb337));clear HO346;clear HO355;clear BK337;clear HB;have HO346:=n0_;have HO355:=n1_;have BK337:=n2_;have HB:=n3_;have BK357:=n4_;have GW357:=n5_;have GE357:=n6_;have NB337_357:=n7_;have NB357_337:=n8_;clear n0_ n1_ n2_ n3_ n4_ n5_ n6_ n7_ n8_;clear hb hbox hg;have hnb18:=NB357_337.out;have hnc18:=NB337_357.out;have hcz19_0 : w17.cell? ⟨gb357,0,none⟩=some (.int .u32 0):=(blk_cell BK357.out 0).trans rfl;have hcz19_1 : w17.cell? ⟨gb357,1,none⟩=some (.int .u64 0):=(blk_cell BK357.out 1).trans rfl;have hcz19_2 : w17.cell? ⟨gb357,2,none⟩=some (.int .i64 0):=(blk_cell BK357.out 2).trans rfl;have hcz19_3 : w17.cell? ⟨gb357,3,none⟩=some (.string (⟨#[]⟩ : ByteArray)):=(blk_cell BK357.out 3).trans rfl;have hcz19_4 : w17.cell? ⟨gb357,4,none⟩=some (.slice none 0 0):=(blk_cell BK357.out 4).trans rfl;have hfz19_0:=blk_frozen BK357.out 0;have hfz19_1:=blk_frozen BK357.out 1;have hfz19_2:=blk_frozen BK357.out 2;have hfz19_3:=blk_frozen BK357.out 3;have hfz19_4:=blk_frozen BK357.out 4;obtain ⟨Ao20,co20,eo20⟩:=Kd.R_slice HO355.out;subst eo20)|((with_reducible refine gate_callee (f:=12) rfl ?_);refine goesL_ (some 33) rfl rfl Try.func12 (by kernel_rfl) rfl #[.string a1] rfl (by (try simp only [List.map_toArray,List.map_cons,List.map_nil]);first|done|rfl|(simp only [List.length_drop,List.length_take];rfl)) ?_;(with_reducible refine (girderref03_Decode.calls k a1 t358 t359 t360 t361 t362 t365 _ A7.out).mono ?_);rintro e w21 ⟨v363,rfl,ho0,hb⟩;refine ⟨_,rfl,?_⟩;have n0_:=Aside0.mk (Kd.V_elder' (by (with_reducible repeat (first|apply Kd.V_alloc|apply Kd.V_drewN|apply Kd.V_drew));exact (Kd.V_mono (Kd.V_far (p:=⟨gb357,4,none⟩) (Kd.V_far (p:=⟨gb357,3,none⟩) (Kd.V_far (p:=⟨gb357,2,none⟩) (Kd.V_far (p:=⟨gb357,1,none⟩) (Kd.V_far (p:=⟨gb357,0,none⟩) (Kd.V_mono HO346.out (fun k_ hk=>(⟨hk,hk.2⟩ : _∧k_≠gb357))) (fun _ hk=>hk.2) (.int .u32 t349)) (fun _ hk=>hk.2) (.int .u64 t350)) (fun _ hk=>hk.2) (.int .i64 t351)) (fun _ hk=>hk.2) (.string t352)) (fun _ hk=>hk.2) (.slice Ao20 t353.length co20)) (fun _ h_=>h_.1))) (Kd.R_base ho0) hb);have n1_:=Aside0.mk (Kd.R_elder' (by (with_reducible repeat (first|apply Kd.R_alloc|apply Kd.R_drewN|apply Kd.R_drew));exact (Kd.R_mono (Kd.R_far (p:=⟨gb357,4,none⟩) (Kd.R_far (p:=⟨gb357,3,none⟩) (Kd.R_far (p:=⟨gb357,2,none⟩) (Kd.R_far (p:=⟨gb357,1,none⟩) (Kd.R_far (p:=⟨gb357,0,none⟩) (Kd.R_types HO355.out BK357.out (by decide)) (fun _ hk=>hk.2) (.int .u32 t349)) (fun _ hk=>hk.2) (.int .u64 t350)) (fun _ hk=>hk.2) (.int .i64 t351)) (fun _ hk=>hk.2) (.string t352)) (fun _ hk=>hk.2) (.slice Ao20 t353.length co20)) (fun _ h_=>h_.1))) (Kd.R_base ho0) hb);have n2_:=Aside0.mk (Kd.R_lower (Kd.R_new' ho0 (Kd.R_lt (by (with_reducible repeat (first|apply Kd.R_alloc|apply Kd.R_drewN|apply Kd.R_drew));exact (Kd.R_mono (Kd.R_far (p:=⟨gb357,4,none⟩) (Kd.R_far (p:=⟨gb357,3,none⟩) (Kd.R_far (p:=⟨gb357,2,none⟩) (Kd.R_far (p:=⟨gb357,1,none⟩) (Kd.R_far (p:=⟨gb357,0,none⟩) (Kd.R_types HO355.out BK357.out (by decide)) (fun _ hk=>hk.2) (.int .u32 t349)) (fun _ hk=>hk.2) (.int .u64 t350)) (fun _ hk=>hk.2) (.int .i64 t351)) (fun _ hk=>hk.2) (.string t352)) (fun _ hk=>hk.2) (.slice Ao20 t353.length co20)) (fun _ h_=>h_.1))))) (below_size (by repeat (first|(with_reducible first|exact HB.out|apply below_alloc|apply pw_below_drewN|apply below_drew1|refine below_set ?_ GE337.out|refine below_set ?_ GE357.out)|exact HB.out))));have n3_:=Aside0.mk (blk_below (g:=gb337) (o:=.cells #[.int .u32 a0_0,.int .u64 a0_1,.int .i64 a0_2,.string a0_3,.slice A0_4 l0_4.length c0_4] 28 (0,0)) (by (with_reducible repeat (first|refine blk_drewN ?_ _|refine blk_drew ?_|refine blk_alloc ?_ _));refine blk_far ?_ NB337_357.out _;(with_reducible repeat (first|refine blk_drewN ?_ _|refine blk_drew ?_|refine blk_alloc ?_ _));refine blk_far ?_ NB337_357.out _;(with_reducible repeat (first|refine blk_drewN ?_ _|refine blk_drew ?_|refine blk_alloc ?_ _));refine blk_far ?_ NB337_357.out _;(with_reducible repeat (first|refine blk_drewN ?_ _|refine blk_drew ?_|refine blk_alloc ?_ _));refine blk_far ?_ NB337_357.out _;(with_reducible repeat (first|refine blk_drewN ?_ _|refine blk_drew ?_|refine blk_alloc ?_ _));refine blk_far ?_ NB337_357.out _;(with_reducible repeat (first|refine blk_drewN ?_ _|refine blk_drew ?_|refine blk_alloc ?_ _));exact BK337.out) hb);have n4_:=Aside0.mk (blk_below (g:=gb357) (o:=.cells #[.int .u32 t349,.int .u64 t350,.int .i64 t351,.string t352,.slice Ao20 t353.length co20] 28 (0,0)) (by (with_reducible repeat (first|refine blk_drewN ?_ _|refine blk_drew ?_|refine blk_alloc ?_ _));refine blk_put (cs:=#[.int .u32 t349,.int .u64 t350,.int .i64 t351,.string t352,.slice none 0 0]) ?_ 4 _ rfl;(with_reducible repeat (first|refine blk_drewN ?_ _|refine blk_drew ?_|refine blk_alloc ?_ _));refine blk_put (cs:=#[.int .u32 t349,.int .u64 t350,.int .i64 t351,.string (⟨#[]⟩ : ByteArray),.slice none 0 0]) ?_ 3 _ rfl;(with_reducible repeat (first|refine blk_drewN ?_ _|refine blk_drew ?_|refine blk_alloc ?_ _));refine blk_put (cs:=#[.int .u32 t349,.int .u64 t350,.int .i64 0,.string (⟨#[]⟩ : ByteArray),.slice none 0 0]) ?_ 2 _ rfl;(with_reducible repeat (first|refine blk_drewN ?_ _|refine blk_drew ?_|refine blk_alloc ?_ _));refine blk_put (cs:=#[.int .u32 t349,.int .u64 0,.int .i64 0,.string (⟨#[]⟩ : ByteArray),.slice none 0 0]) ?_ 1 _ rfl;(with_reducible repeat (first|refine blk_drewN ?_ _|refine blk_drew ?_|refine blk_alloc ?_ _));refine blk_put (cs:=#[.int .u32 0,.int .u64 0,.int .i64 0,.string (⟨#[]⟩ : ByteArray),.slice none 0 0]) ?_ 0 _ rfl;(with_reducible repeat (first|refine blk_drewN ?_ _|refine blk_drew ?_|refine blk_alloc ?_ _));exact BK357.out) hb);have n5_:=Aside0.mk (below_step (by repeat (first|(with_reducible first|exact HB.out|apply below_alloc|apply pw_below_drewN|apply below_drew1|refine below_set ?_ GE337.out|refine below_set ?_ GE357.out)|exact HB.out)) hb);clear HO346;clear HO355;clear BK337;clear BK357;clear HB;have HO346:=n0_;have HO355:=n1_;have HO364:=n2_;have BK337:=n3_;have BK357:=n4_;have HB:=n5_;clear n0_ n1_ n2_ n3_ n4_ n5_;(try clear hb);(try clear hb2);(try clear hk);(try clear hi);(try clear ho0))|((with_reducible refine gate_dst (N:=11) rfl ?_);refine box_event ?hg (N:=11) ?hd (cs:=#[.int .u32 0,.int .u64 0,.int .i64 0,.string (⟨#[]⟩ : ByteArray),.slice none 0 0]) (t:=35) ?hr ?_;(case hd=>rfl);(case hg=>rfl);(case hr=>first|(go_simp;done)|(go_simp;rfl));intro gb366 hg w22 hbox hb;have n0_:=Aside0.mk (Kd.V_below (Kd.V_elderB (by (with_reducible repeat (first|apply Kd.V_alloc|apply Kd.V_drewN|apply Kd.V_drew));exact HO346.out) gb366 (Nat.le_of_eq hg.symm)) hb);have n1_:=Aside0.mk (Kd.R_below (by (with_reducible repeat (first|apply Kd.R_alloc|apply Kd.R_drewN|apply Kd.R_drew));exact HO355.out) hb);have n2_:=Aside0.mk (Kd.R_below (by (with_reducible repeat (first|apply Kd.R_alloc|apply Kd.R_drewN|apply Kd.R_drew));exact HO364.out) hb);have n3_:=Aside0.mk (blk_below (g:=gb337) (o:=.cells #[.int .u32 a0_0,.int .u64 a0_1,.int .i64 a0_2,.string a0_3,.slice A0_4 l0_4.length c0_4] 28 (0,0)) (by (with_reducible repeat (first|refine blk_drewN ?_ _|refine blk_drew ?_|refine blk_alloc ?_ _));exact BK337.out) hb);have n4_:=Aside0.mk (blk_below (g:=gb357) (o:=.cells #[.int .u32 t349,.int .u64 t350,.int .i64 t351,.string t352,.slice Ao20 t353.length co20] 28 (0,0)) (by (with_reducible repeat (first|refine blk_drewN ?_ _|refine blk_drew ?_|refine blk_alloc ?_ _));exact BK357.out) hb);have n5_:=Aside0.mk (below_step (by repeat (first|(with_reducible first|exact HB.out|apply below_alloc|apply pw_below_drewN|apply below_drew1|refine below_set ?_ GE337.out|refine below_set ?_ GE357.out)|exact HB.out)) hb);have n6_:=Aside0.mk (hbox);have n7_:=Aside0.mk ((by rw [hg];exact (below_size (by repeat (first|(with_reducible first|exact HB.out|apply below_alloc|apply pw_below_drewN|apply below_drew1|refine below_set ?_ GE337.out|refine below_set ?_ GE357.out)|exact HB.out))) : w.heap.size≤gb366));have n8_:=Aside0.mk ((by rw [hg];exact (below_size (by repeat (first|(with_reducible first|exact HB.out|apply below_alloc|apply pw_below_drewN|apply below_drew1|refine below_set ?_ GE337.out|refine below_set ?_ GE357.out)|exact HB.out))) : w.heap.size≤gb366));have n9_:=Aside0.mk ((by rw [hg];exact Nat.ne_of_lt (blk_lt (g:=gb337) (o:=.cells #[.int .u32 a0_0,.int .u64 a0_1,.int .i64 a0_2,.string a0_3,.slice A0_4 l0_4.length c0_4] 28 (0,0)) (by (with_reducible repeat (first|refine blk_drewN ?_ _|refine blk_drew ?_|refine blk_alloc ?_ _));exact BK337.out)) : gb337≠gb366));have n10_:=Aside0.mk ((by rw [hg];exact Nat.ne_of_gt (blk_lt (g:=gb337) (o:=.cells #[.int .u32 a0_0,.int .u64 a0_1,.int .i64 a0_2,.string a0_3,.slice A0_4 l0_4.length c0_4] 28 (0,0)) (by (with_reducible repeat (first|refine blk_drewN ?_ _|refine blk_drew ?_|refine blk_alloc ?_ _));exact BK337.out)) : gb366≠gb337));have n11_:=Aside0.mk ((by rw [hg];exact Nat.ne_of_lt (blk_lt (g:=gb357) (o:=.cells #[.int .u32 t349,.int .u64 t350,.int .i64 t351,.string t352,.slice Ao20 t353.length co20] 28 (0,0)) (by (with_reducible repeat (first|refine blk_drewN ?_ _|refine blk_drew ?_|refine blk_alloc ?_ _));exact BK357.out)) : gb357≠gb366));have n12_:=Aside0.mk ((by rw [hg];exact Nat.ne_of_gt (blk_lt (g:=gb357) (o:=.cells #[.int .u32 t349,.int .u64 t350,.int .i64 t351,.string t352,.slice Ao20 t353.length co20] 28 (0,0)) (by (with_reducible repeat (first|refine blk_drewN ?_ _|refine blk_drew ?_|refine blk_alloc ?_ _));exact BK357.out)) : gb366≠gb357));clear HO346;clear HO355;clear HO364;clear BK337;clear BK357;clear HB;have HO346:=n0_;have HO355:=n1_;have HO364:=n2_;have BK337:=n3_;have BK357:=n4_;have HB:=n5_;have BK366:=n6_;have GW366:=n7_;have GE366:=n8_;have NB337_366:=n9_;have NB366_337:=n10_;have NB357_366:=n11_;have NB366_357:=n12_;clear n0_ n1_ n2_ n3_ n4_ n5_ n6_ n7_ n8_ n9_ n10_ n11_ n12_;clear hb hbox hg;have hnb23:=NB366_337.out;have hnc23:=NB337_366.out;have hnb24:=NB366_357.out;have hnc24:=NB357_366.out;have hcz25_0 : w22.cell? ⟨gb366,0,none⟩=some (.int .u32 0):=(blk_cell BK366.out 0).trans rfl;have hcz25_1 : w22.cell? ⟨gb366,1,none⟩=some (.int .u64 0):=(blk_cell BK366.out 1).trans rfl;have hcz25_2 : w22.cell? ⟨gb366,2,none⟩=some (.int .i64 0):=(blk_cell BK366.out 2).trans rfl;have hcz25_3 : w22.cell? ⟨gb366,3,none⟩=some (.string (⟨#[]⟩ : ByteArray)):=(blk_cell BK366.out 3).trans rfl;have hcz25_4 : w22.cell? ⟨gb366,4,none⟩=some (.slice none 0 0):=(blk_cell BK366.out 4).trans rfl;have hfz25_0:=blk_frozen BK366.out 0;have hfz25_1:=blk_frozen BK366.out 1;have hfz25_2:=blk_frozen BK366.out 2;have hfz25_3:=blk_frozen BK366.out 3;have hfz25_4:=blk_frozen BK366.out 4;obtain ⟨Ao26,co26,eo26⟩:=Kd.R_slice HO364.out;subst eo26))
 (try simp only [Act.put,sA_,sB_,sC_])
 go_cut [66] (fun v66 wc=>∃ (kq : Nat) (x66_7 : Bool),v66=.bool x66_7∧Aside0 (girderlaw03_PageCodes.j0 kq t338 t348 x66_7 a0_0 a0_1 a0_2 a0_3 l0_4=some r)∧Aside0 (kq≤k)∧Aside0 (Kd.R Kd.string 9 wc w.heap.size (fun k_=>some k_≠((.slice Ao26 t362.length co26) : Value).ownBlock) (.slice Ao20 t353.length co20) t353)∧Aside0 (Kd.R Kd.string 9 wc w.heap.size (fun k_=>some k_≠((.slice Ao20 t353.length co20) : Value).ownBlock) (.slice Ao26 t362.length co26) t362)∧Aside0 (wc.heap[gb337]?=some (.cells #[.int .u32 a0_0,.int .u64 a0_1,.int .i64 a0_2,.string a0_3,(.slice A0_4 l0_4.length c0_4)] 28 (0,0)))∧Aside0 (wc.heap[gb357]?=some (.cells #[.int .u32 t349,.int .u64 t350,.int .i64 t351,.string t352,(.slice Ao20 t353.length co20)] 28 (0,0)))∧Aside0 (wc.heap[gb366]?=some (.cells #[.int .u32 t358,.int .u64 t359,.int .i64 t360,.string t361,(.slice Ao26 t362.length co26)] 35 (0,0)))∧Aside0 (Below w.heap.size w wc))
 case first =>
  have H:=HC8.out
  clear HC8
  replace H:=Option.bind_eq_some_iff.mp H
  obtain ⟨t367,A270,H⟩:=H
  replace H : (if t367=true then (if t338.toList=t347.toList then (if t339=t348 then ((page_Room.f k a0_0 a0_1 a0_2 a0_3 l0_4).bind fun t368=>((girderlaw03_ref.f a0_0 a0_1 a0_2 a0_3 l0_4).bind fun bt369=>((girderref03_Room.f k bt369.1 bt369.2.1 bt369.2.2.1 bt369.2.2.2.1 bt369.2.2.2.2).bind fun t376=>(if t368=t376 then ((girderlaw03_same.f k t349 t350 t351 t352 t353 t358 t359 t360 t361 t362).bind fun t377=>(if t377=true then (girderlaw03_PageCodes.j0 k t338 t348 (t356 != t365) a0_0 a0_1 a0_2 a0_3 l0_4) else (girderlaw03_PageCodes.j0 k t338 t348 true a0_0 a0_1 a0_2 a0_3 l0_4))) else (girderlaw03_PageCodes.j0 k t338 t348 true a0_0 a0_1 a0_2 a0_3 l0_4))))) else (girderlaw03_PageCodes.j0 k t338 t348 true a0_0 a0_1 a0_2 a0_3 l0_4)) else (girderlaw03_PageCodes.j0 k t338 t348 true a0_0 a0_1 a0_2 a0_3 l0_4)) else (girderlaw03_PageCodes.j0 k t338 t348 true a0_0 a0_1 a0_2 a0_3 l0_4))=some r:=H
  have A27:=Aside0.mk A270
  clear A270
  by_cases c28 : t367=true
  ·subst c28
   have H1 : (if t338.toList=t347.toList then (if t339=t348 then ((page_Room.f k a0_0 a0_1 a0_2 a0_3 l0_4).bind fun t368=>((girderlaw03_ref.f a0_0 a0_1 a0_2 a0_3 l0_4).bind fun bt369=>((girderref03_Room.f k bt369.1 bt369.2.1 bt369.2.2.1 bt369.2.2.2.1 bt369.2.2.2.2).bind fun t376=>(if t368=t376 then ((girderlaw03_same.f k t349 t350 t351 t352 t353 t358 t359 t360 t361 t362).bind fun t377=>(if t377=true then (girderlaw03_PageCodes.j0 k t338 t348 (t356 != t365) a0_0 a0_1 a0_2 a0_3 l0_4) else (girderlaw03_PageCodes.j0 k t338 t348 true a0_0 a0_1 a0_2 a0_3 l0_4))) else (girderlaw03_PageCodes.j0 k t338 t348 true a0_0 a0_1 a0_2 a0_3 l0_4))))) else (girderlaw03_PageCodes.j0 k t338 t348 true a0_0 a0_1 a0_2 a0_3 l0_4)) else (girderlaw03_PageCodes.j0 k t338 t348 true a0_0 a0_1 a0_2 a0_3 l0_4))=some r:=by rw [if_pos rfl] at H;exact H
   clear H
   have H:=H1
   clear H1
   by_cases c29 : t338.toList=t347.toList
   ·rw [if_pos c29] at H
    have c29b0 : (t338.toList == t347.toList)=true:=beq_iff_eq.mpr c29
    have c29b1 : (t338.toList != t347.toList)=false:=bne_eq_false_iff_eq.mpr c29
    clear c29
    (first|rw [c29b0]|(simp only [i64_w,i32_w];rw [c29b0])|skip)
    by_cases c30 : t339=t348
    ·rw [if_pos c30] at H
     have c30b0 : (t339 == t348)=true:=beq_iff_eq.mpr c30
     have c30b1 : (t339 != t348)=false:=bne_eq_false_iff_eq.mpr c30
     clear c30
     replace H:=Option.bind_eq_some_iff.mp H
     obtain ⟨t368,A310,H⟩:=H
     replace H : ((girderlaw03_ref.f a0_0 a0_1 a0_2 a0_3 l0_4).bind fun bt369=>((girderref03_Room.f k bt369.1 bt369.2.1 bt369.2.2.1 bt369.2.2.2.1 bt369.2.2.2.2).bind fun t376=>(if t368=t376 then ((girderlaw03_same.f k t349 t350 t351 t352 t353 t358 t359 t360 t361 t362).bind fun t377=>(if t377=true then (girderlaw03_PageCodes.j0 k t338 t348 (t356 != t365) a0_0 a0_1 a0_2 a0_3 l0_4) else (girderlaw03_PageCodes.j0 k t338 t348 true a0_0 a0_1 a0_2 a0_3 l0_4))) else (girderlaw03_PageCodes.j0 k t338 t348 true a0_0 a0_1 a0_2 a0_3 l0_4))))=some r:=H
     have A31:=Aside0.mk A310
     clear A310
     replace H:=Option.bind_eq_some_iff.mp H
     obtain ⟨⟨t369,t370,t371,t372,t373⟩,A320,H⟩:=H
     replace H : ((girderref03_Room.f k t369 t370 t371 t372 t373).bind fun t376=>(if t368=t376 then ((girderlaw03_same.f k t349 t350 t351 t352 t353 t358 t359 t360 t361 t362).bind fun t377=>(if t377=true then (girderlaw03_PageCodes.j0 k t338 t348 (t356 != t365) a0_0 a0_1 a0_2 a0_3 l0_4) else (girderlaw03_PageCodes.j0 k t338 t348 true a0_0 a0_1 a0_2 a0_3 l0_4))) else (girderlaw03_PageCodes.j0 k t338 t348 true a0_0 a0_1 a0_2 a0_3 l0_4)))=some r:=H
     have A32:=Aside0.mk A320
     clear A320
     replace H:=Option.bind_eq_some_iff.mp H
     obtain ⟨t376,A330,H⟩:=H
     replace H : (if t368=t376 then ((girderlaw03_same.f k t349 t350 t351 t352 t353 t358 t359 t360 t361 t362).bind fun t377=>(if t377=true then (girderlaw03_PageCodes.j0 k t338 t348 (t356 != t365) a0_0 a0_1 a0_2 a0_3 l0_4) else (girderlaw03_PageCodes.j0 k t338 t348 true a0_0 a0_1 a0_2 a0_3 l0_4))) else (girderlaw03_PageCodes.j0 k t338 t348 true a0_0 a0_1 a0_2 a0_3 l0_4))=some r:=H
     have A33:=Aside0.mk A330
     clear A330
     by_cases c34 : t368=t376
     ·rw [if_pos c34] at H
      have c34b0 : (t368 == t376)=true:=beq_iff_eq.mpr c34
      have c34b1 : (t368 != t376)=false:=bne_eq_false_iff_eq.mpr c34
      clear c34
      replace H:=Option.bind_eq_some_iff.mp H
      obtain ⟨t377,A350,H⟩:=H
      replace H : (if t377=true then (girderlaw03_PageCodes.j0 k t338 t348 (t356 != t365) a0_0 a0_1 a0_2 a0_3 l0_4) else (girderlaw03_PageCodes.j0 k t338 t348 true a0_0 a0_1 a0_2 a0_3 l0_4))=some r:=H
      have A35:=Aside0.mk A350
      clear A350
      by_cases c36 : t377=true
      ·subst c36
       have H1 : (girderlaw03_PageCodes.j0 k t338 t348 (t356 != t365) a0_0 a0_1 a0_2 a0_3 l0_4)=some r:=by rw [if_pos rfl] at H;exact H
       clear H
       have H:=H1
       clear H1
       have H':=Aside0.mk H
       clear H
       try go_wp2
       have n0_ : Aside0 (Kd.V Kd.string 9 (((((w22.setCell ⟨gb366,0,none⟩ (.int .u32 t358)).setCell ⟨gb366,1,none⟩ (.int .u64 t359)).setCell ⟨gb366,2,none⟩ (.int .i64 t360)).setCell ⟨gb366,3,none⟩ (.string t361)).setCell ⟨gb366,4,none⟩ (.slice Ao26 t362.length co26)) w.heap.size (fun k_=>some k_≠(.slice Ao20 t353.length co20 : Value).ownBlock∧some k_≠(.slice Ao26 t362.length co26 : Value).ownBlock∧k_≠gb337∧k_≠gb357∧k_≠gb366) (.slice Ao14 t344.length co14) t344):=⟨by (with_reducible repeat (first|apply Kd.V_alloc|apply Kd.V_drewN|apply Kd.V_drew));exact Kd.V_mono (Kd.V_far (p:=⟨gb366,4,none⟩) (Kd.V_far (p:=⟨gb366,3,none⟩) (Kd.V_far (p:=⟨gb366,2,none⟩) (Kd.V_far (p:=⟨gb366,1,none⟩) (Kd.V_far (p:=⟨gb366,0,none⟩) (Kd.V_mono HO346.out (fun k_ hk=>(⟨hk,hk.2⟩ : _∧k_≠gb366))) (fun _ hk=>hk.2) (.int .u32 t358)) (fun _ hk=>hk.2) (.int .u64 t359)) (fun _ hk=>hk.2) (.int .i64 t360)) (fun _ hk=>hk.2) (.string t361)) (fun _ hk=>hk.2) (.slice Ao26 t362.length co26)) (fun _ hk=>⟨hk.1.1.1.1.2,⟨hk.1.1.2,⟨hk.1.1.1.1.1,⟨hk.1.1.1.2,hk.1.2⟩⟩⟩⟩)⟩
       have n1_ : Aside0 (Kd.R Kd.string 9 (((((w22.setCell ⟨gb366,0,none⟩ (.int .u32 t358)).setCell ⟨gb366,1,none⟩ (.int .u64 t359)).setCell ⟨gb366,2,none⟩ (.int .i64 t360)).setCell ⟨gb366,3,none⟩ (.string t361)).setCell ⟨gb366,4,none⟩ (.slice Ao26 t362.length co26)) w.heap.size (fun k_=>some k_≠(.slice Ao26 t362.length co26 : Value).ownBlock) (.slice Ao20 t353.length co20) t353):=⟨by (with_reducible repeat (first|apply Kd.R_alloc|apply Kd.R_drewN|apply Kd.R_drew));exact Kd.R_mono (Kd.R_far (p:=⟨gb366,4,none⟩) (Kd.R_far (p:=⟨gb366,3,none⟩) (Kd.R_far (p:=⟨gb366,2,none⟩) (Kd.R_far (p:=⟨gb366,1,none⟩) (Kd.R_far (p:=⟨gb366,0,none⟩) (Kd.R_types HO355.out BK366.out (by decide)) (fun _ hk=>hk.2) (.int .u32 t358)) (fun _ hk=>hk.2) (.int .u64 t359)) (fun _ hk=>hk.2) (.int .i64 t360)) (fun _ hk=>hk.2) (.string t361)) (fun _ hk=>hk.2) (.slice Ao26 t362.length co26)) (fun _ hk=>hk.1.2)⟩
       have n2_ : Aside0 (Kd.R Kd.string 9 (((((w22.setCell ⟨gb366,0,none⟩ (.int .u32 t358)).setCell ⟨gb366,1,none⟩ (.int .u64 t359)).setCell ⟨gb366,2,none⟩ (.int .i64 t360)).setCell ⟨gb366,3,none⟩ (.string t361)).setCell ⟨gb366,4,none⟩ (.slice Ao26 t362.length co26)) w.heap.size (fun k_=>some k_≠(.slice Ao20 t353.length co20 : Value).ownBlock) (.slice Ao26 t362.length co26) t362):=⟨by (with_reducible repeat (first|apply Kd.R_alloc|apply Kd.R_drewN|apply Kd.R_drew));exact Kd.R_mono (Kd.R_far (p:=⟨gb366,4,none⟩) (Kd.R_far (p:=⟨gb366,3,none⟩) (Kd.R_far (p:=⟨gb366,2,none⟩) (Kd.R_far (p:=⟨gb366,1,none⟩) (Kd.R_far (p:=⟨gb366,0,none⟩) (Kd.R_types HO364.out BK366.out (by decide)) (fun _ hk=>hk.2) (.int .u32 t358)) (fun _ hk=>hk.2) (.int .u64 t359)) (fun _ hk=>hk.2) (.int .i64 t360)) (fun _ hk=>hk.2) (.string t361)) (fun _ hk=>hk.2) (.slice Ao26 t362.length co26)) (fun _ hk=>hk.1.2)⟩
       have n3_ : Aside0 ((((((w22.setCell ⟨gb366,0,none⟩ (.int .u32 t358)).setCell ⟨gb366,1,none⟩ (.int .u64 t359)).setCell ⟨gb366,2,none⟩ (.int .i64 t360)).setCell ⟨gb366,3,none⟩ (.string t361)).setCell ⟨gb366,4,none⟩ (.slice Ao26 t362.length co26)).heap[gb337]?=some (.cells #[.int .u32 a0_0,.int .u64 a0_1,.int .i64 a0_2,.string a0_3,.slice A0_4 l0_4.length c0_4] 28 (0,0))):=⟨by (with_reducible repeat (first|refine blk_drewN ?_ _|refine blk_drew ?_|refine blk_alloc ?_ _));refine blk_far ?_ NB337_366.out _;(with_reducible repeat (first|refine blk_drewN ?_ _|refine blk_drew ?_|refine blk_alloc ?_ _));refine blk_far ?_ NB337_366.out _;(with_reducible repeat (first|refine blk_drewN ?_ _|refine blk_drew ?_|refine blk_alloc ?_ _));refine blk_far ?_ NB337_366.out _;(with_reducible repeat (first|refine blk_drewN ?_ _|refine blk_drew ?_|refine blk_alloc ?_ _));refine blk_far ?_ NB337_366.out _;(with_reducible repeat (first|refine blk_drewN ?_ _|refine blk_drew ?_|refine blk_alloc ?_ _));refine blk_far ?_ NB337_366.out _;(with_reducible repeat (first|refine blk_drewN ?_ _|refine blk_drew ?_|refine blk_alloc ?_ _));exact BK337.out⟩
       have n4_ : Aside0 ((((((w22.setCell ⟨gb366,0,none⟩ (.int .u32 t358)).setCell ⟨gb366,1,none⟩ (.int .u64 t359)).setCell ⟨gb366,2,none⟩ (.int .i64 t360)).setCell ⟨gb366,3,none⟩ (.string t361)).setCell ⟨gb366,4,none⟩ (.slice Ao26 t362.length co26)).heap[gb357]?=some (.cells #[.int .u32 t349,.int .u64 t350,.int .i64 t351,.string t352,.slice Ao20 t353.length co20] 28 (0,0))):=⟨by (with_reducible repeat (first|refine blk_drewN ?_ _|refine blk_drew ?_|refine blk_alloc ?_ _));refine blk_far ?_ NB357_366.out _;(with_reducible repeat (first|refine blk_drewN ?_ _|refine blk_drew ?_|refine blk_alloc ?_ _));refine blk_far ?_ NB357_366.out _;(with_reducible repeat (first|refine blk_drewN ?_ _|refine blk_drew ?_|refine blk_alloc ?_ _));refine blk_far ?_ NB357_366.out _;(with_reducible repeat (first|refine blk_drewN ?_ _|refine blk_drew ?_|refine blk_alloc ?_ _));refine blk_far ?_ NB357_366.out _;(with_reducible repeat (first|refine blk_drewN ?_ _|refine blk_drew ?_|refine blk_alloc ?_ _));refine blk_far ?_ NB357_366.out _;(with_reducible repeat (first|refine blk_drewN ?_ _|refine blk_drew ?_|refine blk_alloc ?_ _));exact BK357.out⟩
       have n5_ : Aside0 ((((((w22.setCell ⟨gb366,0,none⟩ (.int .u32 t358)).setCell ⟨gb366,1,none⟩ (.int .u64 t359)).setCell ⟨gb366,2,none⟩ (.int .i64 t360)).setCell ⟨gb366,3,none⟩ (.string t361)).setCell ⟨gb366,4,none⟩ (.slice Ao26 t362.length co26)).heap[gb366]?=some (.cells #[.int .u32 t358,.int .u64 t359,.int .i64 t360,.string t361,.slice Ao26 t362.length co26] 35 (0,0))):=⟨by (with_reducible repeat (first|refine blk_drewN ?_ _|refine blk_drew ?_|refine blk_alloc ?_ _));refine blk_put (cs:=#[.int .u32 t358,.int .u64 t359,.int .i64 t360,.string t361,.slice none 0 0]) ?_ 4 _ rfl;(with_reducible repeat (first|refine blk_drewN ?_ _|refine blk_drew ?_|refine blk_alloc ?_ _));refine blk_put (cs:=#[.int .u32 t358,.int .u64 t359,.int .i64 t360,.string (⟨#[]⟩ : ByteArray),.slice none 0 0]) ?_ 3 _ rfl;(with_reducible repeat (first|refine blk_drewN ?_ _|refine blk_drew ?_|refine blk_alloc ?_ _));refine blk_put (cs:=#[.int .u32 t358,.int .u64 t359,.int .i64 0,.string (⟨#[]⟩ : ByteArray),.slice none 0 0]) ?_ 2 _ rfl;(with_reducible repeat (first|refine blk_drewN ?_ _|refine blk_drew ?_|refine blk_alloc ?_ _));refine blk_put (cs:=#[.int .u32 t358,.int .u64 0,.int .i64 0,.string (⟨#[]⟩ : ByteArray),.slice none 0 0]) ?_ 1 _ rfl;(with_reducible repeat (first|refine blk_drewN ?_ _|refine blk_drew ?_|refine blk_alloc ?_ _));refine blk_put (cs:=#[.int .u32 0,.int .u64 0,.int .i64 0,.string (⟨#[]⟩ : ByteArray),.slice none 0 0]) ?_ 0 _ rfl;(with_reducible repeat (first|refine blk_drewN ?_ _|refine blk_drew ?_|refine blk_alloc ?_ _));exact BK366.out⟩
       have n6_ : Aside0 (Below w.heap.size w (((((w22.setCell ⟨gb366,0,none⟩ (.int .u32 t358)).setCell ⟨gb366,1,none⟩ (.int .u64 t359)).setCell ⟨gb366,2,none⟩ (.int .i64 t360)).setCell ⟨gb366,3,none⟩ (.string t361)).setCell ⟨gb366,4,none⟩ (.slice Ao26 t362.length co26))):=⟨by repeat (first|(with_reducible first|exact HB.out|apply below_alloc|apply pw_below_drewN|apply below_drew1|refine below_set ?_ GE337.out|refine below_set ?_ GE357.out|refine below_set ?_ GE366.out)|exact HB.out)⟩
       (try clear HO346)
       (try clear HO355)
       (try clear HO364)
       (try clear BK337)
       (try clear BK357)
       (try clear BK366)
       (try clear HB)
       generalize (((((w22.setCell ⟨gb366,0,none⟩ (.int .u32 t358)).setCell ⟨gb366,1,none⟩ (.int .u64 t359)).setCell ⟨gb366,2,none⟩ (.int .i64 t360)).setCell ⟨gb366,3,none⟩ (.string t361)).setCell ⟨gb366,4,none⟩ (.slice Ao26 t362.length co26))=w37 at n0_ n1_ n2_ n3_ n4_ n5_ n6_ ⊢
       have HO346:=n0_
       have HO355:=n1_
       have HO364:=n2_
       have BK337:=n3_
       have BK357:=n4_
       have BK366:=n5_
       have HB:=n6_
       clear n0_ n1_ n2_ n3_ n4_ n5_ n6_
       have n0_:=Aside0.mk (Kd.V_drew HO346.out)
       have n1_:=Aside0.mk (Kd.R_drew HO355.out)
       have n2_:=Aside0.mk (Kd.R_drew HO364.out)
       have n3_:=Aside0.mk (blk_drew BK337.out)
       have n4_:=Aside0.mk (blk_drew BK357.out)
       have n5_:=Aside0.mk (blk_drew BK366.out)
       have n6_:=Aside0.mk (below_drew1 HB.out)
       clear HO346
       clear HO355
       clear HO364
       clear BK337
       clear BK357
       clear BK366
       clear HB
       have HO346:=n0_
       have HO355:=n1_
       have HO364:=n2_
       have BK337:=n3_
       have BK357:=n4_
       have BK366:=n5_
       have HB:=n6_
       clear n0_ n1_ n2_ n3_ n4_ n5_ n6_
       refine start_ (n:=31) (S:=fun w'=>w'.cell? ⟨gb337,0,none⟩=some (.int .u32 a0_0)∧w'.cell? ⟨gb337,1,none⟩=some (.int .u64 a0_1)∧w'.cell? ⟨gb337,2,none⟩=some (.int .i64 a0_2)∧w'.cell? ⟨gb337,3,none⟩=some (.string a0_3)∧w'.cell? ⟨gb337,4,none⟩=some (.slice A0_4 l0_4.length c0_4)∧w'.cell? ⟨gb357,0,none⟩=some (.int .u32 t349)∧w'.cell? ⟨gb357,1,none⟩=some (.int .u64 t350)∧w'.cell? ⟨gb357,2,none⟩=some (.int .i64 t351)∧w'.cell? ⟨gb357,3,none⟩=some (.string t352)∧w'.cell? ⟨gb357,4,none⟩=some (.slice Ao20 t353.length co20)∧w'.cell? ⟨gb366,0,none⟩=some (.int .u32 t358)∧w'.cell? ⟨gb366,1,none⟩=some (.int .u64 t359)∧w'.cell? ⟨gb366,2,none⟩=some (.int .i64 t360)∧w'.cell? ⟨gb366,3,none⟩=some (.string t361)∧w'.cell? ⟨gb366,4,none⟩=some (.slice Ao26 t362.length co26)) (ds:=[]) #[false,false,false,false,false,false,false,false,false,false,false,false,false,false,false,false,false,false,false,false,false,false,false,false,false,false,false,false,false,false,false] (by kernel_rfl) rfl rfl ⟨(blk_cell BK337.out 0).trans rfl,(blk_cell BK337.out 1).trans rfl,(blk_cell BK337.out 2).trans rfl,(blk_cell BK337.out 3).trans rfl,(blk_cell BK337.out 4).trans rfl,(blk_cell BK357.out 0).trans rfl,(blk_cell BK357.out 1).trans rfl,(blk_cell BK357.out 2).trans rfl,(blk_cell BK357.out 3).trans rfl,(blk_cell BK357.out 4).trans rfl,(blk_cell BK366.out 0).trans rfl,(blk_cell BK366.out 1).trans rfl,(blk_cell BK366.out 2).trans rfl,(blk_cell BK366.out 3).trans rfl,(blk_cell BK366.out 4).trans rfl⟩ (fun hHeld=>?_);refine with_tabW girderlaw03_PageCodes.tab5 girderlaw03_PageCodes.bits5 (fun HT_ HW_=>?_)
       generalize w37.drew=w38 at HO346 HO355 HO364 BK337 BK357 BK366 HB hHeld ⊢
       refine one_ (i:=0) (N:=some 36) #[true,false,false,false,false,false,false,false,false,false,false,false,false,false,false,false,false,false,false,false,false,false,false,false,false,false,false,false,false,false,false] rfl rfl (one_of HT_.out (by kernel_rfl)) (by decide) (fun K hK=>?_)
       refine goes_ Try.func13 (by kernel_rfl) rfl #[] (by rfl) rfl rfl (by (try simp only [List.map_toArray,List.map_cons,List.map_nil]);first|done|rfl|(simp only [List.length_drop,List.length_take];rfl)) ?_
       with_reducible refine (girderlaw03_awake.calls k  true _ A27.out).mono ?_
       rintro e w39 ⟨rfl,hb⟩
       refine ⟨_,rfl,?_⟩
       have n0_:=Aside0.mk (Kd.V_below (by (with_reducible repeat (first|apply Kd.V_alloc|apply Kd.V_drewN|apply Kd.V_drew));exact HO346.out) hb)
       have n1_:=Aside0.mk (Kd.R_below (by (with_reducible repeat (first|apply Kd.R_alloc|apply Kd.R_drewN|apply Kd.R_drew));exact HO355.out) hb)
       have n2_:=Aside0.mk (Kd.R_below (by (with_reducible repeat (first|apply Kd.R_alloc|apply Kd.R_drewN|apply Kd.R_drew));exact HO364.out) hb)
       have n3_:=Aside0.mk (blk_below (g:=gb337) (o:=.cells #[.int .u32 a0_0,.int .u64 a0_1,.int .i64 a0_2,.string a0_3,.slice A0_4 l0_4.length c0_4] 28 (0,0)) (by (with_reducible repeat (first|refine blk_drewN ?_ _|refine blk_drew ?_|refine blk_alloc ?_ _));exact BK337.out) hb)
       have n4_:=Aside0.mk (blk_below (g:=gb357) (o:=.cells #[.int .u32 t349,.int .u64 t350,.int .i64 t351,.string t352,.slice Ao20 t353.length co20] 28 (0,0)) (by (with_reducible repeat (first|refine blk_drewN ?_ _|refine blk_drew ?_|refine blk_alloc ?_ _));exact BK357.out) hb)
       have n5_:=Aside0.mk (blk_below (g:=gb366) (o:=.cells #[.int .u32 t358,.int .u64 t359,.int .i64 t360,.string t361,.slice Ao26 t362.length co26] 35 (0,0)) (by (with_reducible repeat (first|refine blk_drewN ?_ _|refine blk_drew ?_|refine blk_alloc ?_ _));exact BK366.out) hb)
       have n6_:=Aside0.mk (below_step (by repeat (first|(with_reducible first|exact HB.out|apply below_alloc|apply pw_below_drewN|apply below_drew1|refine below_set ?_ GE337.out|refine below_set ?_ GE357.out|refine below_set ?_ GE366.out)|exact HB.out)) hb)
       clear HO346
       clear HO355
       clear HO364
       clear BK337
       clear BK357
       clear BK366
       clear HB
       have HO346:=n0_
       have HO355:=n1_
       have HO364:=n2_
       have BK337:=n3_
       have BK357:=n4_
       have BK366:=n5_
       have HB:=n6_
       clear n0_ n1_ n2_ n3_ n4_ n5_ n6_
       (try clear hb)
       (try clear hb2)
       (try clear hk)
       (try clear hi)
       refine hK.out _ _ ⟨(blk_cell BK337.out 0).trans rfl,(blk_cell BK337.out 1).trans rfl,(blk_cell BK337.out 2).trans rfl,(blk_cell BK337.out 3).trans rfl,(blk_cell BK337.out 4).trans rfl,(blk_cell BK357.out 0).trans rfl,(blk_cell BK357.out 1).trans rfl,(blk_cell BK357.out 2).trans rfl,(blk_cell BK357.out 3).trans rfl,(blk_cell BK357.out 4).trans rfl,(blk_cell BK366.out 0).trans rfl,(blk_cell BK366.out 1).trans rfl,(blk_cell BK366.out 2).trans rfl,(blk_cell BK366.out 3).trans rfl,(blk_cell BK366.out 4).trans rfl⟩ (fun hHeld=>?_)
       clear hK K
       refine norm_ (a':=?_) ?_ ?_
       rotate_left
       ·show Act.put _ (some 36) _=_
        simp only [Act.put,sA_,sB_,sC_,i64_w,i32_w]
        rfl
       refine pure_ (i:=1) (N:=some 37) (v:=?_) (a':=?_) #[true,true,false,false,false,false,false,false,false,false,false,false,false,false,false,false,false,false,false,false,false,false,false,false,false,false,false,false,false,false,false] rfl rfl (any_of HT_.out (by kernel_rfl)) (fun _ _ _ h=>h) (Or.inl ⟨by rfl,?_⟩) ?_ ?_
       rotate_left
       ·intro w'
        go_simp
        with_reducible rfl
       rotate_left
       ·simp only [Act.put,sA_,sB_,sC_,i64_w,i32_w]
        rfl
       refine pure_ (i:=2) (N:=some 38) (v:=?_) (a':=?_) #[true,true,true,false,false,false,false,false,false,false,false,false,false,false,false,false,false,false,false,false,false,false,false,false,false,false,false,false,false,false,false] rfl rfl (any_of HT_.out (by kernel_rfl)) (fun _ _ _ h=>h) (Or.inl ⟨by rfl,?_⟩) ?_ ?_
       rotate_left
       ·intro w'
        go_simp
        with_reducible rfl
       rotate_left
       ·simp only [Act.put,sA_,sB_,sC_,i64_w,i32_w]
        rfl
       refine pure_ (i:=3) (N:=some 39) (v:=?_) (a':=?_) #[true,true,true,true,false,false,false,false,false,false,false,false,false,false,false,false,false,false,false,false,false,false,false,false,false,false,false,false,false,false,false] rfl rfl (any_of HT_.out (by kernel_rfl)) (fun _ _ _ h=>h) (Or.inl ⟨by rfl,?_⟩) ?_ ?_
       rotate_left
       ·intro w'
        go_simp
        with_reducible rfl
       rotate_left
       ·simp only [Act.put,sA_,sB_,sC_,i64_w,i32_w]
        rfl
       refine pure_ (i:=4) (N:=some 40) (v:=?_) (a':=?_) #[true,true,true,true,true,false,false,false,false,false,false,false,false,false,false,false,false,false,false,false,false,false,false,false,false,false,false,false,false,false,false] rfl rfl (any_of HT_.out (by kernel_rfl)) (fun _ _ _ h=>h) (Or.inl ⟨by rfl,?_⟩) ?_ ?_
       rotate_left
       ·intro w'
        go_simp
        with_reducible rfl
       rotate_left
       ·simp only [Act.put,sA_,sB_,sC_,i64_w,i32_w]
        rfl
       refine pure_ (i:=5) (N:=some 41) (v:=?_) (a':=?_) #[true,true,true,true,true,true,false,false,false,false,false,false,false,false,false,false,false,false,false,false,false,false,false,false,false,false,false,false,false,false,false] rfl rfl (any_of HT_.out (by kernel_rfl)) (fun _ _ _ h=>h) (Or.inl ⟨by rfl,?_⟩) ?_ ?_
       rotate_left
       ·intro w'
        go_simp
        with_reducible rfl
       rotate_left
       ·simp only [Act.put,sA_,sB_,sC_,i64_w,i32_w]
        rfl
       refine pure_ (i:=6) (N:=some 42) (v:=?_) (a':=?_) #[true,true,true,true,true,true,true,false,false,false,false,false,false,false,false,false,false,false,false,false,false,false,false,false,false,false,false,false,false,false,false] rfl rfl (any_of HT_.out (by kernel_rfl)) (fun _ _ _ h=>h) (Or.inl ⟨by rfl,?_⟩) ?_ ?_
       rotate_left
       ·intro w'
        go_simp
        with_reducible rfl
       rotate_left
       ·simp only [Act.put,sA_,sB_,sC_,i64_w,i32_w]
        rfl
       refine pure_ (i:=7) (N:=some 43) (v:=?_) (a':=?_) #[true,true,true,true,true,true,true,true,false,false,false,false,false,false,false,false,false,false,false,false,false,false,false,false,false,false,false,false,false,false,false] rfl rfl (any_of HT_.out (by kernel_rfl)) (fun _ _ _ h=>h) (Or.inl ⟨by rfl,?_⟩) ?_ ?_
       rotate_left
       ·intro w'
        go_simp
        with_reducible rfl
       rotate_left
       ·simp only [Act.put,sA_,sB_,sC_,i64_w,i32_w]
        rfl
       refine pure_ (i:=8) (N:=some 44) (v:=?_) (a':=?_) #[true,true,true,true,true,true,true,true,true,false,false,false,false,false,false,false,false,false,false,false,false,false,false,false,false,false,false,false,false,false,false] rfl rfl (any_of HT_.out (by kernel_rfl)) (fun _ _ _ h=>h) (Or.inl ⟨by rfl,?_⟩) ?_ ?_
       rotate_left
       ·intro w'
        go_simp
        with_reducible rfl
       rotate_left
       ·simp only [Act.put,sA_,sB_,sC_,i64_w,i32_w]
        rfl
       refine pure_ (i:=9) (N:=some 45) (v:=?_) (a':=?_) #[true,true,true,true,true,true,true,true,true,true,false,false,false,false,false,false,false,false,false,false,false,false,false,false,false,false,false,false,false,false,false] rfl rfl (any_of HT_.out (by kernel_rfl)) (fun _ _ _ h=>h) (Or.inl ⟨by rfl,?_⟩) ?_ ?_
       rotate_left
       ·intro w'
        go_simp
        with_reducible rfl
       rotate_left
       ·simp only [Act.put,sA_,sB_,sC_,i64_w,i32_w]
        rfl
       refine pure_ (i:=10) (N:=some 46) (v:=?_) (a':=?_) #[true,true,true,true,true,true,true,true,true,true,true,false,false,false,false,false,false,false,false,false,false,false,false,false,false,false,false,false,false,false,false] rfl rfl (any_of HT_.out (by kernel_rfl)) (fun _ _ _ h=>h) (Or.inl ⟨by rfl,?_⟩) ?_ ?_
       rotate_left
       ·intro w'
        go_simp
        with_reducible rfl
       rotate_left
       ·simp only [Act.put,sA_,sB_,sC_,i64_w,i32_w]
        rfl
       refine pure_ (i:=11) (N:=some 47) (v:=?_) (a':=?_) #[true,true,true,true,true,true,true,true,true,true,true,true,false,false,false,false,false,false,false,false,false,false,false,false,false,false,false,false,false,false,false] rfl rfl (any_of HT_.out (by kernel_rfl)) (fun _ _ _ h=>h) (Or.inl ⟨by rfl,?_⟩) ?_ ?_
       rotate_left
       ·intro w'
        go_simp
        with_reducible rfl
       rotate_left
       ·simp only [Act.put,sA_,sB_,sC_,i64_w,i32_w]
        rfl
       refine pure_ (i:=12) (N:=some 48) (v:=?_) (a':=?_) #[true,true,true,true,true,true,true,true,true,true,true,true,true,false,false,false,false,false,false,false,false,false,false,false,false,false,false,false,false,false,false] rfl rfl (any_of HT_.out (by kernel_rfl)) (fun _ _ _ h=>h) (Or.inl ⟨by rfl,?_⟩) ?_ ?_
       rotate_left
       ·intro w'
        go_simp
        with_reducible rfl
       rotate_left
       ·simp only [Act.put,sA_,sB_,sC_,i64_w,i32_w]
        rfl
       refine take_ (i:=13) (N:=some 49) (v:=?_) (a':=?_) #[true,true,true,true,true,true,true,true,true,true,true,true,true,true,false,false,false,false,false,false,false,false,false,false,false,false,false,false,false,false,false] rfl rfl (take_ofW HT_.out HW_.out (by kernel_rfl)) (fun _ _ _ h=>h) (Or.inl ⟨by rfl,?_⟩) hHeld ?_ ?_
       rotate_left
       ·rintro w' ⟨s0,s1,s2,s3,s4,s5,s6,s7,s8,s9,s10,s11,s12,s13,s14⟩
        go_simp
        with_reducible rfl
       rotate_left
       ·simp only [Act.put,sA_,sB_,sC_,i64_w,i32_w]
        rfl
       refine take_ (i:=15) (N:=some 51) (v:=?_) (a':=?_) #[true,true,true,true,true,true,true,true,true,true,true,true,true,true,false,true,false,false,false,false,false,false,false,false,false,false,false,false,false,false,false] rfl rfl (take_ofW HT_.out HW_.out (by kernel_rfl)) (fun _ _ _ h=>h) (Or.inl ⟨by rfl,?_⟩) hHeld ?_ ?_
       rotate_left
       ·rintro w' ⟨s0,s1,s2,s3,s4,s5,s6,s7,s8,s9,s10,s11,s12,s13,s14⟩
        go_simp
        with_reducible rfl
       rotate_left
       ·simp only [Act.put,sA_,sB_,sC_,i64_w,i32_w]
        rfl
       refine one_ (i:=14) (N:=some 50) #[true,true,true,true,true,true,true,true,true,true,true,true,true,true,true,true,false,false,false,false,false,false,false,false,false,false,false,false,false,false,false] rfl rfl (one_of HT_.out (by kernel_rfl)) (by decide) (fun K hK=>?_)
       refine goes_ Try.func14 (by kernel_rfl) rfl #[.agg #[.int .u32 a0_0,.int .u64 a0_1,.int .i64 a0_2,.string a0_3,.slice A0_4 l0_4.length c0_4]] (by rfl) rfl rfl (by (try simp only [List.map_toArray,List.map_cons,List.map_nil]);first|done|rfl|(simp only [List.length_drop,List.length_take];rfl)) ?_
       with_reducible refine (page_Room.calls k a0_0 a0_1 a0_2 a0_3 _ _ l0_4 t368 _ ?side1 ?side2 A31.out).mono ?_
       (case side1=>repeat (first|exact (Kd.C_below HR0_4.out HB.out)|(with_reducible refine Kd.C_alloc ?_ _)|(with_reducible refine Kd.C_drewN ?_ _)|(with_reducible refine Kd.C_drew ?_)))
       (case side2=>exact HC0_4.out)
       rintro e w40 ⟨rfl,hb⟩
       refine ⟨_,rfl,?_⟩
       have n0_:=Aside0.mk (Kd.V_below (by (with_reducible repeat (first|apply Kd.V_alloc|apply Kd.V_drewN|apply Kd.V_drew));exact HO346.out) hb)
       have n1_:=Aside0.mk (Kd.R_below (by (with_reducible repeat (first|apply Kd.R_alloc|apply Kd.R_drewN|apply Kd.R_drew));exact HO355.out) hb)
       have n2_:=Aside0.mk (Kd.R_below (by (with_reducible repeat (first|apply Kd.R_alloc|apply Kd.R_drewN|apply Kd.R_drew));exact HO364.out) hb)
       have n3_:=Aside0.mk (blk_below (g:=gb337) (o:=.cells #[.int .u32 a0_0,.int .u64 a0_1,.int .i64 a0_2,.string a0_3,.slice A0_4 l0_4.length c0_4] 28 (0,0)) (by (with_reducible repeat (first|refine blk_drewN ?_ _|refine blk_drew ?_|refine blk_alloc ?_ _));exact BK337.out) hb)
       have n4_:=Aside0.mk (blk_below (g:=gb357) (o:=.cells #[.int .u32 t349,.int .u64 t350,.int .i64 t351,.string t352,.slice Ao20 t353.length co20] 28 (0,0)) (by (with_reducible repeat (first|refine blk_drewN ?_ _|refine blk_drew ?_|refine blk_alloc ?_ _));exact BK357.out) hb)
       have n5_:=Aside0.mk (blk_below (g:=gb366) (o:=.cells #[.int .u32 t358,.int .u64 t359,.int .i64 t360,.string t361,.slice Ao26 t362.length co26] 35 (0,0)) (by (with_reducible repeat (first|refine blk_drewN ?_ _|refine blk_drew ?_|refine blk_alloc ?_ _));exact BK366.out) hb)
       have n6_:=Aside0.mk (below_step (by repeat (first|(with_reducible first|exact HB.out|apply below_alloc|apply pw_below_drewN|apply below_drew1|refine below_set ?_ GE337.out|refine below_set ?_ GE357.out|refine below_set ?_ GE366.out)|exact HB.out)) hb)
       clear HO346
       clear HO355
       clear HO364
       clear BK337
       clear BK357
       clear BK366
       clear HB
       have HO346:=n0_
       have HO355:=n1_
       have HO364:=n2_
       have BK337:=n3_
       have BK357:=n4_
       have BK366:=n5_
       have HB:=n6_
       clear n0_ n1_ n2_ n3_ n4_ n5_ n6_
       (try clear hb)
       (try clear hb2)
       (try clear hk)
       (try clear hi)
       refine hK.out _ _ ⟨(blk_cell BK337.out 0).trans rfl,(blk_cell BK337.out 1).trans rfl,(blk_cell BK337.out 2).trans rfl,(blk_cell BK337.out 3).trans rfl,(blk_cell BK337.out 4).trans rfl,(blk_cell BK357.out 0).trans rfl,(blk_cell BK357.out 1).trans rfl,(blk_cell BK357.out 2).trans rfl,(blk_cell BK357.out 3).trans rfl,(blk_cell BK357.out 4).trans rfl,(blk_cell BK366.out 0).trans rfl,(blk_cell BK366.out 1).trans rfl,(blk_cell BK366.out 2).trans rfl,(blk_cell BK366.out 3).trans rfl,(blk_cell BK366.out 4).trans rfl⟩ (fun hHeld=>?_)
       clear hK K
       refine norm_ (a':=?_) ?_ ?_
       rotate_left
       ·show Act.put _ (some 50) _=_
        simp only [Act.put,sA_,sB_,sC_,i64_w,i32_w]
        rfl
       refine one_ (i:=16) (N:=some 52) #[true,true,true,true,true,true,true,true,true,true,true,true,true,true,true,true,true,false,false,false,false,false,false,false,false,false,false,false,false,false,false] rfl rfl (one_of HT_.out (by kernel_rfl)) (by decide) (fun K hK=>?_)
       refine goes_ Try.func10 (by kernel_rfl) rfl #[.agg #[.int .u32 a0_0,.int .u64 a0_1,.int .i64 a0_2,.string a0_3,.slice A0_4 l0_4.length c0_4]] (by rfl) rfl rfl (by (try simp only [List.map_toArray,List.map_cons,List.map_nil]);first|done|rfl|(simp only [List.length_drop,List.length_take];rfl)) ?_
       with_reducible refine (girderlaw03_ref.calls a0_0 a0_1 a0_2 a0_3 (fun k_=>k_ < w.heap.size) _ _ l0_4 t369 t370 t371 t372 t373 _ ?side1 A32.out).mono ?_
       (case side1=>exact Kd.V_mk HC0_4.out (Kd.F_below (Kd.C_F Kd.heap_string HR0_4.out) (by repeat (first|(with_reducible first|exact HB.out|apply below_alloc|apply pw_below_drewN|apply below_drew1|refine below_set ?_ GE337.out|refine below_set ?_ GE357.out|refine below_set ?_ GE366.out)|exact HB.out))))
       rintro e w41 ⟨v374,rfl,ho0,hb⟩
       refine ⟨_,rfl,?_⟩
       have n0_:=Aside0.mk (Kd.V_below (by (with_reducible repeat (first|apply Kd.V_alloc|apply Kd.V_drewN|apply Kd.V_drew));exact HO346.out) hb)
       have n1_:=Aside0.mk (Kd.R_below (by (with_reducible repeat (first|apply Kd.R_alloc|apply Kd.R_drewN|apply Kd.R_drew));exact HO355.out) hb)
       have n2_:=Aside0.mk (Kd.R_below (by (with_reducible repeat (first|apply Kd.R_alloc|apply Kd.R_drewN|apply Kd.R_drew));exact HO364.out) hb)
       have n3_:=Aside0.mk (Kd.V_lower (Kd.V_mono (ok':=fun k_=>some k_≠(.slice Ao20 t353.length co20 : Value).ownBlock∧some k_≠(.slice Ao26 t362.length co26 : Value).ownBlock∧k_≠gb337∧k_≠gb357∧k_≠gb366) ho0 (fun k_ hk_=>⟨Or.elim hk_ (fun hs_=>fun e_=>Nat.not_le.2 hs_ (Kd.R_base HO355.out k_ e_.symm)) (fun hn_=>(Kd.fresh' (Kd.R_lt (by (with_reducible repeat (first|apply Kd.R_alloc|apply Kd.R_drewN|apply Kd.R_drew));exact HO355.out)) k_ hn_)),Or.elim hk_ (fun hs_=>fun e_=>Nat.not_le.2 hs_ (Kd.R_base HO364.out k_ e_.symm)) (fun hn_=>(Kd.fresh' (Kd.R_lt (by (with_reducible repeat (first|apply Kd.R_alloc|apply Kd.R_drewN|apply Kd.R_drew));exact HO364.out)) k_ hn_)),Or.elim hk_ (fun hs_=>fun e_=>Nat.not_le.2 hs_ (by rw [e_];exact GW337.out)) (fun hn_=>(Kd.freshB (g:=gb337) (o:=.cells #[.int .u32 a0_0,.int .u64 a0_1,.int .i64 a0_2,.string a0_3,.slice A0_4 l0_4.length c0_4] 28 (0,0)) (by (with_reducible repeat (first|refine blk_drewN ?_ _|refine blk_drew ?_|refine blk_alloc ?_ _));exact BK337.out) k_ hn_)),Or.elim hk_ (fun hs_=>fun e_=>Nat.not_le.2 hs_ (by rw [e_];exact GW357.out)) (fun hn_=>(Kd.freshB (g:=gb357) (o:=.cells #[.int .u32 t349,.int .u64 t350,.int .i64 t351,.string t352,.slice Ao20 t353.length co20] 28 (0,0)) (by (with_reducible repeat (first|refine blk_drewN ?_ _|refine blk_drew ?_|refine blk_alloc ?_ _));exact BK357.out) k_ hn_)),Or.elim hk_ (fun hs_=>fun e_=>Nat.not_le.2 hs_ (by rw [e_];exact GW366.out)) (fun hn_=>(Kd.freshB (g:=gb366) (o:=.cells #[.int .u32 t358,.int .u64 t359,.int .i64 t360,.string t361,.slice Ao26 t362.length co26] 35 (0,0)) (by (with_reducible repeat (first|refine blk_drewN ?_ _|refine blk_drew ?_|refine blk_alloc ?_ _));exact BK366.out) k_ hn_))⟩)) (below_size (by repeat (first|(with_reducible first|exact HB.out|apply below_alloc|apply pw_below_drewN|apply below_drew1|refine below_set ?_ GE337.out|refine below_set ?_ GE357.out|refine below_set ?_ GE366.out)|exact HB.out))))
       have n4_:=Aside0.mk (blk_below (g:=gb337) (o:=.cells #[.int .u32 a0_0,.int .u64 a0_1,.int .i64 a0_2,.string a0_3,.slice A0_4 l0_4.length c0_4] 28 (0,0)) (by (with_reducible repeat (first|refine blk_drewN ?_ _|refine blk_drew ?_|refine blk_alloc ?_ _));exact BK337.out) hb)
       have n5_:=Aside0.mk (blk_below (g:=gb357) (o:=.cells #[.int .u32 t349,.int .u64 t350,.int .i64 t351,.string t352,.slice Ao20 t353.length co20] 28 (0,0)) (by (with_reducible repeat (first|refine blk_drewN ?_ _|refine blk_drew ?_|refine blk_alloc ?_ _));exact BK357.out) hb)
       have n6_:=Aside0.mk (blk_below (g:=gb366) (o:=.cells #[.int .u32 t358,.int .u64 t359,.int .i64 t360,.string t361,.slice Ao26 t362.length co26] 35 (0,0)) (by (with_reducible repeat (first|refine blk_drewN ?_ _|refine blk_drew ?_|refine blk_alloc ?_ _));exact BK366.out) hb)
       have n7_:=Aside0.mk (below_step (by repeat (first|(with_reducible first|exact HB.out|apply below_alloc|apply pw_below_drewN|apply below_drew1|refine below_set ?_ GE337.out|refine below_set ?_ GE357.out|refine below_set ?_ GE366.out)|exact HB.out)) hb)
       clear HO346
       clear HO355
       clear HO364
       clear BK337
       clear BK357
       clear BK366
       clear HB
       have HO346:=n0_
       have HO355:=n1_
       have HO364:=n2_
       have HO375:=n3_
       have BK337:=n4_
       have BK357:=n5_
       have BK366:=n6_
       have HB:=n7_
       clear n0_ n1_ n2_ n3_ n4_ n5_ n6_ n7_
       (try clear hb)
       (try clear hb2)
       (try clear hk)
       (try clear hi)
       (try clear ho0)
       obtain ⟨Ao42,co42,eo42⟩:=Kd.V_slice HO375.out
       (first|subst eo42|(injection eo42 with f1_ f2_ f3_;have f4_:=f1_.symm;have f5_:=f3_.symm;clear f1_ f2_ f3_;subst f4_;subst f5_))
       refine hK.out _ _ ⟨(blk_cell BK337.out 0).trans rfl,(blk_cell BK337.out 1).trans rfl,(blk_cell BK337.out 2).trans rfl,(blk_cell BK337.out 3).trans rfl,(blk_cell BK337.out 4).trans rfl,(blk_cell BK357.out 0).trans rfl,(blk_cell BK357.out 1).trans rfl,(blk_cell BK357.out 2).trans rfl,(blk_cell BK357.out 3).trans rfl,(blk_cell BK357.out 4).trans rfl,(blk_cell BK366.out 0).trans rfl,(blk_cell BK366.out 1).trans rfl,(blk_cell BK366.out 2).trans rfl,(blk_cell BK366.out 3).trans rfl,(blk_cell BK366.out 4).trans rfl⟩ (fun hHeld=>?_)
       clear hK K
       refine norm_ (a':=?_) ?_ ?_
       rotate_left
       ·show Act.put _ (some 52) _=_
        simp only [Act.put,sA_,sB_,sC_,i64_w,i32_w]
        rfl
       refine one_ (i:=17) (N:=some 53) #[true,true,true,true,true,true,true,true,true,true,true,true,true,true,true,true,true,true,false,false,false,false,false,false,false,false,false,false,false,false,false] rfl rfl (one_of HT_.out (by kernel_rfl)) (by decide) (fun K hK=>?_)
       refine goes_ Try.func15 (by kernel_rfl) rfl #[.agg #[.int .u32 t369,.int .u64 t370,.int .i64 t371,.string t372,.slice Ao42 t373.length co42]] (by rfl) rfl rfl (by (try simp only [List.map_toArray,List.map_cons,List.map_nil]);first|done|rfl|(simp only [List.length_drop,List.length_take];rfl)) ?_
       with_reducible refine (girderref03_Room.calls k t369 t370 t371 t372 _ _ t373 t376 _ ?side1 ?side2 A33.out).mono ?_
       (case side1=>repeat (first|exact (Kd.V_reads' HO375.out).2.2|(with_reducible refine Kd.C_alloc ?_ _)|(with_reducible refine Kd.C_drewN ?_ _)|(with_reducible refine Kd.C_drew ?_)))
       (case side2=>exact (Kd.V_reads' HO375.out).2.1)
       rintro e w43 ⟨rfl,hb⟩
       refine ⟨_,rfl,?_⟩
       have n0_:=Aside0.mk (Kd.V_below (by (with_reducible repeat (first|apply Kd.V_alloc|apply Kd.V_drewN|apply Kd.V_drew));exact HO346.out) hb)
       have n1_:=Aside0.mk (Kd.R_below (by (with_reducible repeat (first|apply Kd.R_alloc|apply Kd.R_drewN|apply Kd.R_drew));exact HO355.out) hb)
       have n2_:=Aside0.mk (Kd.R_below (by (with_reducible repeat (first|apply Kd.R_alloc|apply Kd.R_drewN|apply Kd.R_drew));exact HO364.out) hb)
       have n3_:=Aside0.mk (Kd.V_below (by (with_reducible repeat (first|apply Kd.V_alloc|apply Kd.V_drewN|apply Kd.V_drew));exact HO375.out) hb)
       have n4_:=Aside0.mk (blk_below (g:=gb337) (o:=.cells #[.int .u32 a0_0,.int .u64 a0_1,.int .i64 a0_2,.string a0_3,.slice A0_4 l0_4.length c0_4] 28 (0,0)) (by (with_reducible repeat (first|refine blk_drewN ?_ _|refine blk_drew ?_|refine blk_alloc ?_ _));exact BK337.out) hb)
       have n5_:=Aside0.mk (blk_below (g:=gb357) (o:=.cells #[.int .u32 t349,.int .u64 t350,.int .i64 t351,.string t352,.slice Ao20 t353.length co20] 28 (0,0)) (by (with_reducible repeat (first|refine blk_drewN ?_ _|refine blk_drew ?_|refine blk_alloc ?_ _));exact BK357.out) hb)
       have n6_:=Aside0.mk (blk_below (g:=gb366) (o:=.cells #[.int .u32 t358,.int .u64 t359,.int .i64 t360,.string t361,.slice Ao26 t362.length co26] 35 (0,0)) (by (with_reducible repeat (first|refine blk_drewN ?_ _|refine blk_drew ?_|refine blk_alloc ?_ _));exact BK366.out) hb)
       have n7_:=Aside0.mk (below_step (by repeat (first|(with_reducible first|exact HB.out|apply below_alloc|apply pw_below_drewN|apply below_drew1|refine below_set ?_ GE337.out|refine below_set ?_ GE357.out|refine below_set ?_ GE366.out)|exact HB.out)) hb)
       clear HO346
       clear HO355
       clear HO364
       clear HO375
       clear BK337
       clear BK357
       clear BK366
       clear HB
       have HO346:=n0_
       have HO355:=n1_
       have HO364:=n2_
       have HO375:=n3_
       have BK337:=n4_
       have BK357:=n5_
       have BK366:=n6_
       have HB:=n7_
       clear n0_ n1_ n2_ n3_ n4_ n5_ n6_ n7_
       (try clear hb)
       (try clear hb2)
       (try clear hk)
       (try clear hi)
       refine hK.out _ _ ⟨(blk_cell BK337.out 0).trans rfl,(blk_cell BK337.out 1).trans rfl,(blk_cell BK337.out 2).trans rfl,(blk_cell BK337.out 3).trans rfl,(blk_cell BK337.out 4).trans rfl,(blk_cell BK357.out 0).trans rfl,(blk_cell BK357.out 1).trans rfl,(blk_cell BK357.out 2).trans rfl,(blk_cell BK357.out 3).trans rfl,(blk_cell BK357.out 4).trans rfl,(blk_cell BK366.out 0).trans rfl,(blk_cell BK366.out 1).trans rfl,(blk_cell BK366.out 2).trans rfl,(blk_cell BK366.out 3).trans rfl,(blk_cell BK366.out 4).trans rfl⟩ (fun hHeld=>?_)
       clear hK K
       refine norm_ (a':=?_) ?_ ?_
       rotate_left
       ·show Act.put _ (some 53) _=_
        simp only [Act.put,sA_,sB_,sC_,i64_w,i32_w]
        rfl
       refine pure_ (i:=18) (N:=some 54) (v:=?_) (a':=?_) #[true,true,true,true,true,true,true,true,true,true,true,true,true,true,true,true,true,true,true,false,false,false,false,false,false,false,false,false,false,false,false] rfl rfl (any_of HT_.out (by kernel_rfl)) (fun _ _ _ h=>h) (Or.inl ⟨by rfl,?_⟩) ?_ ?_
       rotate_left
       ·intro w'
        go_simp
        with_reducible rfl
       rotate_left
       ·simp only [Act.put,sA_,sB_,sC_,i64_w,i32_w]
        rfl
       refine pure_ (i:=19) (N:=some 55) (v:=?_) (a':=?_) #[true,true,true,true,true,true,true,true,true,true,true,true,true,true,true,true,true,true,true,true,false,false,false,false,false,false,false,false,false,false,false] rfl rfl (any_of HT_.out (by kernel_rfl)) (fun _ _ _ h=>h) (Or.inl ⟨by rfl,?_⟩) ?_ ?_
       rotate_left
       ·intro w'
        go_simp
        with_reducible rfl
       rotate_left
       ·simp only [Act.put,sA_,sB_,sC_,i64_w,i32_w]
        rfl
       refine pure_ (i:=20) (N:=some 56) (v:=?_) (a':=?_) #[true,true,true,true,true,true,true,true,true,true,true,true,true,true,true,true,true,true,true,true,true,false,false,false,false,false,false,false,false,false,false] rfl rfl (any_of HT_.out (by kernel_rfl)) (fun _ _ _ h=>h) (Or.inl ⟨by rfl,?_⟩) ?_ ?_
       rotate_left
       ·intro w'
        go_simp
        with_reducible rfl
       rotate_left
       ·simp only [Act.put,sA_,sB_,sC_,i64_w,i32_w]
        rfl
       refine take_ (i:=21) (N:=some 57) (v:=?_) (a':=?_) #[true,true,true,true,true,true,true,true,true,true,true,true,true,true,true,true,true,true,true,true,true,true,false,false,false,false,false,false,false,false,false] rfl rfl (take_ofW HT_.out HW_.out (by kernel_rfl)) (fun _ _ _ h=>h) (Or.inl ⟨by rfl,?_⟩) hHeld ?_ ?_
       rotate_left
       ·rintro w' ⟨s0,s1,s2,s3,s4,s5,s6,s7,s8,s9,s10,s11,s12,s13,s14⟩
        go_simp
        with_reducible rfl
       rotate_left
       ·simp only [Act.put,sA_,sB_,sC_,i64_w,i32_w]
        rfl
       refine take_ (i:=22) (N:=some 58) (v:=?_) (a':=?_) #[true,true,true,true,true,true,true,true,true,true,true,true,true,true,true,true,true,true,true,true,true,true,true,false,false,false,false,false,false,false,false] rfl rfl (take_ofW HT_.out HW_.out (by kernel_rfl)) (fun _ _ _ h=>h) (Or.inl ⟨by rfl,?_⟩) hHeld ?_ ?_
       rotate_left
       ·rintro w' ⟨s0,s1,s2,s3,s4,s5,s6,s7,s8,s9,s10,s11,s12,s13,s14⟩
        go_simp
        with_reducible rfl
       rotate_left
       ·simp only [Act.put,sA_,sB_,sC_,i64_w,i32_w]
        rfl
       refine one_ (i:=23) (N:=some 59) #[true,true,true,true,true,true,true,true,true,true,true,true,true,true,true,true,true,true,true,true,true,true,true,true,false,false,false,false,false,false,false] rfl rfl (one_of HT_.out (by kernel_rfl)) (by decide) (fun K hK=>?_)
       refine goes_ Try.func16 (by kernel_rfl) rfl #[.agg #[.int .u32 t349,.int .u64 t350,.int .i64 t351,.string t352,.slice Ao20 t353.length co20],.agg #[.int .u32 t358,.int .u64 t359,.int .i64 t360,.string t361,.slice Ao26 t362.length co26]] (by rfl) rfl rfl (by (try simp only [List.map_toArray,List.map_cons,List.map_nil]);first|done|rfl|(simp only [List.length_drop,List.length_take];rfl)) ?_
       with_reducible refine (girderlaw03_same.calls k t349 t350 t351 t352 _ _ t353 t358 t359 t360 t361 _ _ t362 true _ ?side1 ?side2 ?side3 ?side4 A35.out).mono ?_
       (case side1=>repeat (first|exact (Kd.R_reads' HO355.out).2.2|(with_reducible refine Kd.C_alloc ?_ _)|(with_reducible refine Kd.C_drewN ?_ _)|(with_reducible refine Kd.C_drew ?_)))
       (case side2=>exact (Kd.R_reads' HO355.out).2.1)
       (case side3=>repeat (first|exact (Kd.R_reads' HO364.out).2.2|(with_reducible refine Kd.C_alloc ?_ _)|(with_reducible refine Kd.C_drewN ?_ _)|(with_reducible refine Kd.C_drew ?_)))
       (case side4=>exact (Kd.R_reads' HO364.out).2.1)
       rintro e w44 ⟨rfl,hb⟩
       refine ⟨_,rfl,?_⟩
       have n0_:=Aside0.mk (Kd.V_below (by (with_reducible repeat (first|apply Kd.V_alloc|apply Kd.V_drewN|apply Kd.V_drew));exact HO346.out) hb)
       have n1_:=Aside0.mk (Kd.R_below (by (with_reducible repeat (first|apply Kd.R_alloc|apply Kd.R_drewN|apply Kd.R_drew));exact HO355.out) hb)
       have n2_:=Aside0.mk (Kd.R_below (by (with_reducible repeat (first|apply Kd.R_alloc|apply Kd.R_drewN|apply Kd.R_drew));exact HO364.out) hb)
       have n3_:=Aside0.mk (Kd.V_below (by (with_reducible repeat (first|apply Kd.V_alloc|apply Kd.V_drewN|apply Kd.V_drew));exact HO375.out) hb)
       have n4_:=Aside0.mk (blk_below (g:=gb337) (o:=.cells #[.int .u32 a0_0,.int .u64 a0_1,.int .i64 a0_2,.string a0_3,.slice A0_4 l0_4.length c0_4] 28 (0,0)) (by (with_reducible repeat (first|refine blk_drewN ?_ _|refine blk_drew ?_|refine blk_alloc ?_ _));exact BK337.out) hb)
       have n5_:=Aside0.mk (blk_below (g:=gb357) (o:=.cells #[.int .u32 t349,.int .u64 t350,.int .i64 t351,.string t352,.slice Ao20 t353.length co20] 28 (0,0)) (by (with_reducible repeat (first|refine blk_drewN ?_ _|refine blk_drew ?_|refine blk_alloc ?_ _));exact BK357.out) hb)
       have n6_:=Aside0.mk (blk_below (g:=gb366) (o:=.cells #[.int .u32 t358,.int .u64 t359,.int .i64 t360,.string t361,.slice Ao26 t362.length co26] 35 (0,0)) (by (with_reducible repeat (first|refine blk_drewN ?_ _|refine blk_drew ?_|refine blk_alloc ?_ _));exact BK366.out) hb)
       have n7_:=Aside0.mk (below_step (by repeat (first|(with_reducible first|exact HB.out|apply below_alloc|apply pw_below_drewN|apply below_drew1|refine below_set ?_ GE337.out|refine below_set ?_ GE357.out|refine below_set ?_ GE366.out)|exact HB.out)) hb)
       clear HO346
       clear HO355
       clear HO364
       clear HO375
       clear BK337
       clear BK357
       clear BK366
       clear HB
       have HO346:=n0_
       have HO355:=n1_
       have HO364:=n2_
       have HO375:=n3_
       have BK337:=n4_
       have BK357:=n5_
       have BK366:=n6_
       have HB:=n7_
       clear n0_ n1_ n2_ n3_ n4_ n5_ n6_ n7_
       (try clear hb)
       (try clear hb2)
       (try clear hk)
       (try clear hi)
       refine hK.out _ _ ⟨(blk_cell BK337.out 0).trans rfl,(blk_cell BK337.out 1).trans rfl,(blk_cell BK337.out 2).trans rfl,(blk_cell BK337.out 3).trans rfl,(blk_cell BK337.out 4).trans rfl,(blk_cell BK357.out 0).trans rfl,(blk_cell BK357.out 1).trans rfl,(blk_cell BK357.out 2).trans rfl,(blk_cell BK357.out 3).trans rfl,(blk_cell BK357.out 4).trans rfl,(blk_cell BK366.out 0).trans rfl,(blk_cell BK366.out 1).trans rfl,(blk_cell BK366.out 2).trans rfl,(blk_cell BK366.out 3).trans rfl,(blk_cell BK366.out 4).trans rfl⟩ (fun hHeld=>?_)
       clear hK K
       refine norm_ (a':=?_) ?_ ?_
       rotate_left
       ·show Act.put _ (some 59) _=_
        simp only [Act.put,sA_,sB_,sC_,i64_w,i32_w]
        rfl
       refine pure_ (i:=24) (N:=some 60) (v:=?_) (a':=?_) #[true,true,true,true,true,true,true,true,true,true,true,true,true,true,true,true,true,true,true,true,true,true,true,true,true,false,false,false,false,false,false] rfl rfl (any_of HT_.out (by kernel_rfl)) (fun _ _ _ h=>h) (Or.inl ⟨by rfl,?_⟩) ?_ ?_
       rotate_left
       ·intro w'
        go_simp
        with_reducible rfl
       rotate_left
       ·simp only [Act.put,sA_,sB_,sC_,i64_w,i32_w]
        rfl
       refine pure_ (i:=25) (N:=some 61) (v:=?_) (a':=?_) #[true,true,true,true,true,true,true,true,true,true,true,true,true,true,true,true,true,true,true,true,true,true,true,true,true,true,false,false,false,false,false] rfl rfl (any_of HT_.out (by kernel_rfl)) (fun _ _ _ h=>h) (Or.inl ⟨by rfl,?_⟩) ?_ ?_
       rotate_left
       ·intro w'
        go_simp
        with_reducible rfl
       rotate_left
       ·simp only [Act.put,sA_,sB_,sC_,i64_w,i32_w]
        rfl
       refine pure_ (i:=26) (N:=some 62) (v:=?_) (a':=?_) #[true,true,true,true,true,true,true,true,true,true,true,true,true,true,true,true,true,true,true,true,true,true,true,true,true,true,true,false,false,false,false] rfl rfl (any_of HT_.out (by kernel_rfl)) (fun _ _ _ h=>h) (Or.inl ⟨by rfl,?_⟩) ?_ ?_
       rotate_left
       ·intro w'
        go_simp
        with_reducible rfl
       rotate_left
       ·simp only [Act.put,sA_,sB_,sC_,i64_w,i32_w]
        rfl
       refine pure_ (i:=27) (N:=some 63) (v:=?_) (a':=?_) #[true,true,true,true,true,true,true,true,true,true,true,true,true,true,true,true,true,true,true,true,true,true,true,true,true,true,true,true,false,false,false] rfl rfl (any_of HT_.out (by kernel_rfl)) (fun _ _ _ h=>h) (Or.inl ⟨by rfl,?_⟩) ?_ ?_
       rotate_left
       ·intro w'
        go_simp
        with_reducible rfl
       rotate_left
       ·simp only [Act.put,sA_,sB_,sC_,i64_w,i32_w]
        rfl
       refine pure_ (i:=28) (N:=some 64) (v:=?_) (a':=?_) #[true,true,true,true,true,true,true,true,true,true,true,true,true,true,true,true,true,true,true,true,true,true,true,true,true,true,true,true,true,false,false] rfl rfl (any_of HT_.out (by kernel_rfl)) (fun _ _ _ h=>h) (Or.inl ⟨by rfl,?_⟩) ?_ ?_
       rotate_left
       ·intro w'
        go_simp
        with_reducible rfl
       rotate_left
       ·simp only [Act.put,sA_,sB_,sC_,i64_w,i32_w]
        rfl
       refine pure_ (i:=29) (N:=some 65) (v:=?_) (a':=?_) #[true,true,true,true,true,true,true,true,true,true,true,true,true,true,true,true,true,true,true,true,true,true,true,true,true,true,true,true,true,true,false] rfl rfl (any_of HT_.out (by kernel_rfl)) (fun _ _ _ h=>h) (Or.inl ⟨by rfl,?_⟩) ?_ ?_
       rotate_left
       ·intro w'
        go_simp
        with_reducible rfl
       rotate_left
       ·simp only [Act.put,sA_,sB_,sC_,i64_w,i32_w]
        rfl
       refine pure_ (i:=30) (N:=some 66) (v:=?_) (a':=?_) #[true,true,true,true,true,true,true,true,true,true,true,true,true,true,true,true,true,true,true,true,true,true,true,true,true,true,true,true,true,true,true] rfl rfl (any_of HT_.out (by kernel_rfl)) (fun _ _ _ h=>h) (Or.inl ⟨by rfl,?_⟩) ?_ ?_
       rotate_left
       ·intro w'
        go_simp
        with_reducible rfl
       rotate_left
       ·simp only [Act.put,sA_,sB_,sC_,i64_w,i32_w]
        rfl
       refine done_ (done_of HT_.out (by kernel_rfl)) ?_
       try go_wp2
       go_meet
       case rel=>exact ⟨_,((t356 != t365)),(by first|rfl|(simp;done)|(simp [*];done)),H',⟨by first|omega|exact Nat.le_refl _⟩,⟨by (with_reducible repeat (first|apply Kd.R_alloc|apply Kd.R_drewN|apply Kd.R_drew));exact HO355.out⟩,⟨by (with_reducible repeat (first|apply Kd.R_alloc|apply Kd.R_drewN|apply Kd.R_drew));exact HO364.out⟩,⟨by (with_reducible repeat (first|refine blk_drewN ?_ _|refine blk_drew ?_|refine blk_alloc ?_ _));exact BK337.out⟩,⟨by (with_reducible repeat (first|refine blk_drewN ?_ _|refine blk_drew ?_|refine blk_alloc ?_ _));exact BK357.out⟩,⟨by (with_reducible repeat (first|refine blk_drewN ?_ _|refine blk_drew ?_|refine blk_alloc ?_ _));exact BK366.out⟩,⟨by repeat (first|(with_reducible first|exact HB.out|apply below_alloc|apply pw_below_drewN|apply below_drew1|refine below_set ?_ GE337.out|refine below_set ?_ GE357.out|refine below_set ?_ GE366.out)|exact HB.out)⟩⟩
      ·replace c36:=Bool.eq_false_iff.mpr c36
       subst c36
       have H1 : (girderlaw03_PageCodes.j0 k t338 t348 true a0_0 a0_1 a0_2 a0_3 l0_4)=some r:=by rw [if_neg (show ¬ (false=true) by decide)] at H;exact H
       clear H
       have H:=H1
       clear H1
       have H':=Aside0.mk H
       clear H
       try go_wp2
       have n0_ : Aside0 (Kd.V Kd.string 9 (((((w22.setCell ⟨gb366,0,none⟩ (.int .u32 t358)).setCell ⟨gb366,1,none⟩ (.int .u64 t359)).setCell ⟨gb366,2,none⟩ (.int .i64 t360)).setCell ⟨gb366,3,none⟩ (.string t361)).setCell ⟨gb366,4,none⟩ (.slice Ao26 t362.length co26)) w.heap.size (fun k_=>some k_≠(.slice Ao20 t353.length co20 : Value).ownBlock∧some k_≠(.slice Ao26 t362.length co26 : Value).ownBlock∧k_≠gb337∧k_≠gb357∧k_≠gb366) (.slice Ao14 t344.length co14) t344):=⟨by (with_reducible repeat (first|apply Kd.V_alloc|apply Kd.V_drewN|apply Kd.V_drew));exact Kd.V_mono (Kd.V_far (p:=⟨gb366,4,none⟩) (Kd.V_far (p:=⟨gb366,3,none⟩) (Kd.V_far (p:=⟨gb366,2,none⟩) (Kd.V_far (p:=⟨gb366,1,none⟩) (Kd.V_far (p:=⟨gb366,0,none⟩) (Kd.V_mono HO346.out (fun k_ hk=>(⟨hk,hk.2⟩ : _∧k_≠gb366))) (fun _ hk=>hk.2) (.int .u32 t358)) (fun _ hk=>hk.2) (.int .u64 t359)) (fun _ hk=>hk.2) (.int .i64 t360)) (fun _ hk=>hk.2) (.string t361)) (fun _ hk=>hk.2) (.slice Ao26 t362.length co26)) (fun _ hk=>⟨hk.1.1.1.1.2,⟨hk.1.1.2,⟨hk.1.1.1.1.1,⟨hk.1.1.1.2,hk.1.2⟩⟩⟩⟩)⟩
       have n1_ : Aside0 (Kd.R Kd.string 9 (((((w22.setCell ⟨gb366,0,none⟩ (.int .u32 t358)).setCell ⟨gb366,1,none⟩ (.int .u64 t359)).setCell ⟨gb366,2,none⟩ (.int .i64 t360)).setCell ⟨gb366,3,none⟩ (.string t361)).setCell ⟨gb366,4,none⟩ (.slice Ao26 t362.length co26)) w.heap.size (fun k_=>some k_≠(.slice Ao26 t362.length co26 : Value).ownBlock) (.slice Ao20 t353.length co20) t353):=⟨by (with_reducible repeat (first|apply Kd.R_alloc|apply Kd.R_drewN|apply Kd.R_drew));exact Kd.R_mono (Kd.R_far (p:=⟨gb366,4,none⟩) (Kd.R_far (p:=⟨gb366,3,none⟩) (Kd.R_far (p:=⟨gb366,2,none⟩) (Kd.R_far (p:=⟨gb366,1,none⟩) (Kd.R_far (p:=⟨gb366,0,none⟩) (Kd.R_types HO355.out BK366.out (by decide)) (fun _ hk=>hk.2) (.int .u32 t358)) (fun _ hk=>hk.2) (.int .u64 t359)) (fun _ hk=>hk.2) (.int .i64 t360)) (fun _ hk=>hk.2) (.string t361)) (fun _ hk=>hk.2) (.slice Ao26 t362.length co26)) (fun _ hk=>hk.1.2)⟩
       have n2_ : Aside0 (Kd.R Kd.string 9 (((((w22.setCell ⟨gb366,0,none⟩ (.int .u32 t358)).setCell ⟨gb366,1,none⟩ (.int .u64 t359)).setCell ⟨gb366,2,none⟩ (.int .i64 t360)).setCell ⟨gb366,3,none⟩ (.string t361)).setCell ⟨gb366,4,none⟩ (.slice Ao26 t362.length co26)) w.heap.size (fun k_=>some k_≠(.slice Ao20 t353.length co20 : Value).ownBlock) (.slice Ao26 t362.length co26) t362):=⟨by (with_reducible repeat (first|apply Kd.R_alloc|apply Kd.R_drewN|apply Kd.R_drew));exact Kd.R_mono (Kd.R_far (p:=⟨gb366,4,none⟩) (Kd.R_far (p:=⟨gb366,3,none⟩) (Kd.R_far (p:=⟨gb366,2,none⟩) (Kd.R_far (p:=⟨gb366,1,none⟩) (Kd.R_far (p:=⟨gb366,0,none⟩) (Kd.R_types HO364.out BK366.out (by decide)) (fun _ hk=>hk.2) (.int .u32 t358)) (fun _ hk=>hk.2) (.int .u64 t359)) (fun _ hk=>hk.2) (.int .i64 t360)) (fun _ hk=>hk.2) (.string t361)) (fun _ hk=>hk.2) (.slice Ao26 t362.length co26)) (fun _ hk=>hk.1.2)⟩
       have n3_ : Aside0 ((((((w22.setCell ⟨gb366,0,none⟩ (.int .u32 t358)).setCell ⟨gb366,1,none⟩ (.int .u64 t359)).setCell ⟨gb366,2,none⟩ (.int .i64 t360)).setCell ⟨gb366,3,none⟩ (.string t361)).setCell ⟨gb366,4,none⟩ (.slice Ao26 t362.length co26)).heap[gb337]?=some (.cells #[.int .u32 a0_0,.int .u64 a0_1,.int .i64 a0_2,.string a0_3,.slice A0_4 l0_4.length c0_4] 28 (0,0))):=⟨by (with_reducible repeat (first|refine blk_drewN ?_ _|refine blk_drew ?_|refine blk_alloc ?_ _));refine blk_far ?_ NB337_366.out _;(with_reducible repeat (first|refine blk_drewN ?_ _|refine blk_drew ?_|refine blk_alloc ?_ _));refine blk_far ?_ NB337_366.out _;(with_reducible repeat (first|refine blk_drewN ?_ _|refine blk_drew ?_|refine blk_alloc ?_ _));refine blk_far ?_ NB337_366.out _;(with_reducible repeat (first|refine blk_drewN ?_ _|refine blk_drew ?_|refine blk_alloc ?_ _));refine blk_far ?_ NB337_366.out _;(with_reducible repeat (first|refine blk_drewN ?_ _|refine blk_drew ?_|refine blk_alloc ?_ _));refine blk_far ?_ NB337_366.out _;(with_reducible repeat (first|refine blk_drewN ?_ _|refine blk_drew ?_|refine blk_alloc ?_ _));exact BK337.out⟩
       have n4_ : Aside0 ((((((w22.setCell ⟨gb366,0,none⟩ (.int .u32 t358)).setCell ⟨gb366,1,none⟩ (.int .u64 t359)).setCell ⟨gb366,2,none⟩ (.int .i64 t360)).setCell ⟨gb366,3,none⟩ (.string t361)).setCell ⟨gb366,4,none⟩ (.slice Ao26 t362.length co26)).heap[gb357]?=some (.cells #[.int .u32 t349,.int .u64 t350,.int .i64 t351,.string t352,.slice Ao20 t353.length co20] 28 (0,0))):=⟨by (with_reducible repeat (first|refine blk_drewN ?_ _|refine blk_drew ?_|refine blk_alloc ?_ _));refine blk_far ?_ NB357_366.out _;(with_reducible repeat (first|refine blk_drewN ?_ _|refine blk_drew ?_|refine blk_alloc ?_ _));refine blk_far ?_ NB357_366.out _;(with_reducible repeat (first|refine blk_drewN ?_ _|refine blk_drew ?_|refine blk_alloc ?_ _));refine blk_far ?_ NB357_366.out _;(with_reducible repeat (first|refine blk_drewN ?_ _|refine blk_drew ?_|refine blk_alloc ?_ _));refine blk_far ?_ NB357_366.out _;(with_reducible repeat (first|refine blk_drewN ?_ _|refine blk_drew ?_|refine blk_alloc ?_ _));refine blk_far ?_ NB357_366.out _;(with_reducible repeat (first|refine blk_drewN ?_ _|refine blk_drew ?_|refine blk_alloc ?_ _));exact BK357.out⟩
       have n5_ : Aside0 ((((((w22.setCell ⟨gb366,0,none⟩ (.int .u32 t358)).setCell ⟨gb366,1,none⟩ (.int .u64 t359)).setCell ⟨gb366,2,none⟩ (.int .i64 t360)).setCell ⟨gb366,3,none⟩ (.string t361)).setCell ⟨gb366,4,none⟩ (.slice Ao26 t362.length co26)).heap[gb366]?=some (.cells #[.int .u32 t358,.int .u64 t359,.int .i64 t360,.string t361,.slice Ao26 t362.length co26] 35 (0,0))):=⟨by (with_reducible repeat (first|refine blk_drewN ?_ _|refine blk_drew ?_|refine blk_alloc ?_ _));refine blk_put (cs:=#[.int .u32 t358,.int .u64 t359,.int .i64 t360,.string t361,.slice none 0 0]) ?_ 4 _ rfl;(with_reducible repeat (first|refine blk_drewN ?_ _|refine blk_drew ?_|refine blk_alloc ?_ _));refine blk_put (cs:=#[.int .u32 t358,.int .u64 t359,.int .i64 t360,.string (⟨#[]⟩ : ByteArray),.slice none 0 0]) ?_ 3 _ rfl;(with_reducible repeat (first|refine blk_drewN ?_ _|refine blk_drew ?_|refine blk_alloc ?_ _));refine blk_put (cs:=#[.int .u32 t358,.int .u64 t359,.int .i64 0,.string (⟨#[]⟩ : ByteArray),.slice none 0 0]) ?_ 2 _ rfl;(with_reducible repeat (first|refine blk_drewN ?_ _|refine blk_drew ?_|refine blk_alloc ?_ _));refine blk_put (cs:=#[.int .u32 t358,.int .u64 0,.int .i64 0,.string (⟨#[]⟩ : ByteArray),.slice none 0 0]) ?_ 1 _ rfl;(with_reducible repeat (first|refine blk_drewN ?_ _|refine blk_drew ?_|refine blk_alloc ?_ _));refine blk_put (cs:=#[.int .u32 0,.int .u64 0,.int .i64 0,.string (⟨#[]⟩ : ByteArray),.slice none 0 0]) ?_ 0 _ rfl;(with_reducible repeat (first|refine blk_drewN ?_ _|refine blk_drew ?_|refine blk_alloc ?_ _));exact BK366.out⟩
       have n6_ : Aside0 (Below w.heap.size w (((((w22.setCell ⟨gb366,0,none⟩ (.int .u32 t358)).setCell ⟨gb366,1,none⟩ (.int .u64 t359)).setCell ⟨gb366,2,none⟩ (.int .i64 t360)).setCell ⟨gb366,3,none⟩ (.string t361)).setCell ⟨gb366,4,none⟩ (.slice Ao26 t362.length co26))):=⟨by repeat (first|(with_reducible first|exact HB.out|apply below_alloc|apply pw_below_drewN|apply below_drew1|refine below_set ?_ GE337.out|refine below_set ?_ GE357.out|refine below_set ?_ GE366.out)|exact HB.out)⟩
       (try clear HO346)
       (try clear HO355)
       (try clear HO364)
       (try clear BK337)
       (try clear BK357)
       (try clear BK366)
       (try clear HB)
       generalize (((((w22.setCell ⟨gb366,0,none⟩ (.int .u32 t358)).setCell ⟨gb366,1,none⟩ (.int .u64 t359)).setCell ⟨gb366,2,none⟩ (.int .i64 t360)).setCell ⟨gb366,3,none⟩ (.string t361)).setCell ⟨gb366,4,none⟩ (.slice Ao26 t362.length co26))=w45 at n0_ n1_ n2_ n3_ n4_ n5_ n6_ ⊢
       have HO346:=n0_
       have HO355:=n1_
       have HO364:=n2_
       have BK337:=n3_
       have BK357:=n4_
       have BK366:=n5_
       have HB:=n6_
       clear n0_ n1_ n2_ n3_ n4_ n5_ n6_
       have n0_:=Aside0.mk (Kd.V_drew HO346.out)
       have n1_:=Aside0.mk (Kd.R_drew HO355.out)
       have n2_:=Aside0.mk (Kd.R_drew HO364.out)
       have n3_:=Aside0.mk (blk_drew BK337.out)
       have n4_:=Aside0.mk (blk_drew BK357.out)
       have n5_:=Aside0.mk (blk_drew BK366.out)
       have n6_:=Aside0.mk (below_drew1 HB.out)
       clear HO346
       clear HO355
       clear HO364
       clear BK337
       clear BK357
       clear BK366
       clear HB
       have HO346:=n0_
       have HO355:=n1_
       have HO364:=n2_
       have BK337:=n3_
       have BK357:=n4_
       have BK366:=n5_
       have HB:=n6_
       clear n0_ n1_ n2_ n3_ n4_ n5_ n6_
       refine start_ (n:=31) (S:=fun w'=>w'.cell? ⟨gb337,0,none⟩=some (.int .u32 a0_0)∧w'.cell? ⟨gb337,1,none⟩=some (.int .u64 a0_1)∧w'.cell? ⟨gb337,2,none⟩=some (.int .i64 a0_2)∧w'.cell? ⟨gb337,3,none⟩=some (.string a0_3)∧w'.cell? ⟨gb337,4,none⟩=some (.slice A0_4 l0_4.length c0_4)∧w'.cell? ⟨gb357,0,none⟩=some (.int .u32 t349)∧w'.cell? ⟨gb357,1,none⟩=some (.int .u64 t350)∧w'.cell? ⟨gb357,2,none⟩=some (.int .i64 t351)∧w'.cell? ⟨gb357,3,none⟩=some (.string t352)∧w'.cell? ⟨gb357,4,none⟩=some (.slice Ao20 t353.length co20)∧w'.cell? ⟨gb366,0,none⟩=some (.int .u32 t358)∧w'.cell? ⟨gb366,1,none⟩=some (.int .u64 t359)∧w'.cell? ⟨gb366,2,none⟩=some (.int .i64 t360)∧w'.cell? ⟨gb366,3,none⟩=some (.string t361)∧w'.cell? ⟨gb366,4,none⟩=some (.slice Ao26 t362.length co26)) (ds:=[]) #[false,false,false,false,false,false,false,false,false,false,false,false,false,false,false,false,false,false,false,false,false,false,false,false,false,false,false,false,false,false,false] (by kernel_rfl) rfl rfl ⟨(blk_cell BK337.out 0).trans rfl,(blk_cell BK337.out 1).trans rfl,(blk_cell BK337.out 2).trans rfl,(blk_cell BK337.out 3).trans rfl,(blk_cell BK337.out 4).trans rfl,(blk_cell BK357.out 0).trans rfl,(blk_cell BK357.out 1).trans rfl,(blk_cell BK357.out 2).trans rfl,(blk_cell BK357.out 3).trans rfl,(blk_cell BK357.out 4).trans rfl,(blk_cell BK366.out 0).trans rfl,(blk_cell BK366.out 1).trans rfl,(blk_cell BK366.out 2).trans rfl,(blk_cell BK366.out 3).trans rfl,(blk_cell BK366.out 4).trans rfl⟩ (fun hHeld=>?_);refine with_tabW girderlaw03_PageCodes.tab5 girderlaw03_PageCodes.bits5 (fun HT_ HW_=>?_)
       generalize w45.drew=w46 at HO346 HO355 HO364 BK337 BK357 BK366 HB hHeld ⊢
       refine one_ (i:=0) (N:=some 36) #[true,false,false,false,false,false,false,false,false,false,false,false,false,false,false,false,false,false,false,false,false,false,false,false,false,false,false,false,false,false,false] rfl rfl (one_of HT_.out (by kernel_rfl)) (by decide) (fun K hK=>?_)
       refine goes_ Try.func13 (by kernel_rfl) rfl #[] (by rfl) rfl rfl (by (try simp only [List.map_toArray,List.map_cons,List.map_nil]);first|done|rfl|(simp only [List.length_drop,List.length_take];rfl)) ?_
       with_reducible refine (girderlaw03_awake.calls k  true _ A27.out).mono ?_
       rintro e w47 ⟨rfl,hb⟩
       refine ⟨_,rfl,?_⟩
       have n0_:=Aside0.mk (Kd.V_below (by (with_reducible repeat (first|apply Kd.V_alloc|apply Kd.V_drewN|apply Kd.V_drew));exact HO346.out) hb)
       have n1_:=Aside0.mk (Kd.R_below (by (with_reducible repeat (first|apply Kd.R_alloc|apply Kd.R_drewN|apply Kd.R_drew));exact HO355.out) hb)
       have n2_:=Aside0.mk (Kd.R_below (by (with_reducible repeat (first|apply Kd.R_alloc|apply Kd.R_drewN|apply Kd.R_drew));exact HO364.out) hb)
       have n3_:=Aside0.mk (blk_below (g:=gb337) (o:=.cells #[.int .u32 a0_0,.int .u64 a0_1,.int .i64 a0_2,.string a0_3,.slice A0_4 l0_4.length c0_4] 28 (0,0)) (by (with_reducible repeat (first|refine blk_drewN ?_ _|refine blk_drew ?_|refine blk_alloc ?_ _));exact BK337.out) hb)
       have n4_:=Aside0.mk (blk_below (g:=gb357) (o:=.cells #[.int .u32 t349,.int .u64 t350,.int .i64 t351,.string t352,.slice Ao20 t353.length co20] 28 (0,0)) (by (with_reducible repeat (first|refine blk_drewN ?_ _|refine blk_drew ?_|refine blk_alloc ?_ _));exact BK357.out) hb)
       have n5_:=Aside0.mk (blk_below (g:=gb366) (o:=.cells #[.int .u32 t358,.int .u64 t359,.int .i64 t360,.string t361,.slice Ao26 t362.length co26] 35 (0,0)) (by (with_reducible repeat (first|refine blk_drewN ?_ _|refine blk_drew ?_|refine blk_alloc ?_ _));exact BK366.out) hb)
       have n6_:=Aside0.mk (below_step (by repeat (first|(with_reducible first|exact HB.out|apply below_alloc|apply pw_below_drewN|apply below_drew1|refine below_set ?_ GE337.out|refine below_set ?_ GE357.out|refine below_set ?_ GE366.out)|exact HB.out)) hb)
       clear HO346
       clear HO355
       clear HO364
       clear BK337
       clear BK357
       clear BK366
       clear HB
       have HO346:=n0_
       have HO355:=n1_
       have HO364:=n2_
       have BK337:=n3_
       have BK357:=n4_
       have BK366:=n5_
       have HB:=n6_
       clear n0_ n1_ n2_ n3_ n4_ n5_ n6_
       (try clear hb)
       (try clear hb2)
       (try clear hk)
       (try clear hi)
       refine hK.out _ _ ⟨(blk_cell BK337.out 0).trans rfl,(blk_cell BK337.out 1).trans rfl,(blk_cell BK337.out 2).trans rfl,(blk_cell BK337.out 3).trans rfl,(blk_cell BK337.out 4).trans rfl,(blk_cell BK357.out 0).trans rfl,(blk_cell BK357.out 1).trans rfl,(blk_cell BK357.out 2).trans rfl,(blk_cell BK357.out 3).trans rfl,(blk_cell BK357.out 4).trans rfl,(blk_cell BK366.out 0).trans rfl,(blk_cell BK366.out 1).trans rfl,(blk_cell BK366.out 2).trans rfl,(blk_cell BK366.out 3).trans rfl,(blk_cell BK366.out 4).trans rfl⟩ (fun hHeld=>?_)
       clear hK K
       refine norm_ (a':=?_) ?_ ?_
       rotate_left
       ·show Act.put _ (some 36) _=_
        simp only [Act.put,sA_,sB_,sC_,i64_w,i32_w]
        rfl
       refine pure_ (i:=1) (N:=some 37) (v:=?_) (a':=?_) #[true,true,false,false,false,false,false,false,false,false,false,false,false,false,false,false,false,false,false,false,false,false,false,false,false,false,false,false,false,false,false] rfl rfl (any_of HT_.out (by kernel_rfl)) (fun _ _ _ h=>h) (Or.inl ⟨by rfl,?_⟩) ?_ ?_
       rotate_left
       ·intro w'
        go_simp
        with_reducible rfl
       rotate_left
       ·simp only [Act.put,sA_,sB_,sC_,i64_w,i32_w]
        rfl
       refine pure_ (i:=2) (N:=some 38) (v:=?_) (a':=?_) #[true,true,true,false,false,false,false,false,false,false,false,false,false,false,false,false,false,false,false,false,false,false,false,false,false,false,false,false,false,false,false] rfl rfl (any_of HT_.out (by kernel_rfl)) (fun _ _ _ h=>h) (Or.inl ⟨by rfl,?_⟩) ?_ ?_
       rotate_left
       ·intro w'
        go_simp
        with_reducible rfl
       rotate_left
       ·simp only [Act.put,sA_,sB_,sC_,i64_w,i32_w]
        rfl
       refine pure_ (i:=3) (N:=some 39) (v:=?_) (a':=?_) #[true,true,true,true,false,false,false,false,false,false,false,false,false,false,false,false,false,false,false,false,false,false,false,false,false,false,false,false,false,false,false] rfl rfl (any_of HT_.out (by kernel_rfl)) (fun _ _ _ h=>h) (Or.inl ⟨by rfl,?_⟩) ?_ ?_
       rotate_left
       ·intro w'
        go_simp
        with_reducible rfl
       rotate_left
       ·simp only [Act.put,sA_,sB_,sC_,i64_w,i32_w]
        rfl
       refine pure_ (i:=4) (N:=some 40) (v:=?_) (a':=?_) #[true,true,true,true,true,false,false,false,false,false,false,false,false,false,false,false,false,false,false,false,false,false,false,false,false,false,false,false,false,false,false] rfl rfl (any_of HT_.out (by kernel_rfl)) (fun _ _ _ h=>h) (Or.inl ⟨by rfl,?_⟩) ?_ ?_
       rotate_left
       ·intro w'
        go_simp
        with_reducible rfl
       rotate_left
       ·simp only [Act.put,sA_,sB_,sC_,i64_w,i32_w]
        rfl
       refine pure_ (i:=5) (N:=some 41) (v:=?_) (a':=?_) #[true,true,true,true,true,true,false,false,false,false,false,false,false,false,false,false,false,false,false,false,false,false,false,false,false,false,false,false,false,false,false] rfl rfl (any_of HT_.out (by kernel_rfl)) (fun _ _ _ h=>h) (Or.inl ⟨by rfl,?_⟩) ?_ ?_
       rotate_left
       ·intro w'
        go_simp
        with_reducible rfl
       rotate_left
       ·simp only [Act.put,sA_,sB_,sC_,i64_w,i32_w]
        rfl
       refine pure_ (i:=6) (N:=some 42) (v:=?_) (a':=?_) #[true,true,true,true,true,true,true,false,false,false,false,false,false,false,false,false,false,false,false,false,false,false,false,false,false,false,false,false,false,false,false] rfl rfl (any_of HT_.out (by kernel_rfl)) (fun _ _ _ h=>h) (Or.inl ⟨by rfl,?_⟩) ?_ ?_
       rotate_left
       ·intro w'
        go_simp
        with_reducible rfl
       rotate_left
       ·simp only [Act.put,sA_,sB_,sC_,i64_w,i32_w]
        rfl
       refine pure_ (i:=7) (N:=some 43) (v:=?_) (a':=?_) #[true,true,true,true,true,true,true,true,false,false,false,false,false,false,false,false,false,false,false,false,false,false,false,false,false,false,false,false,false,false,false] rfl rfl (any_of HT_.out (by kernel_rfl)) (fun _ _ _ h=>h) (Or.inl ⟨by rfl,?_⟩) ?_ ?_
       rotate_left
       ·intro w'
        go_simp
        with_reducible rfl
       rotate_left
       ·simp only [Act.put,sA_,sB_,sC_,i64_w,i32_w]
        rfl
       refine pure_ (i:=8) (N:=some 44) (v:=?_) (a':=?_) #[true,true,true,true,true,true,true,true,true,false,false,false,false,false,false,false,false,false,false,false,false,false,false,false,false,false,false,false,false,false,false] rfl rfl (any_of HT_.out (by kernel_rfl)) (fun _ _ _ h=>h) (Or.inl ⟨by rfl,?_⟩) ?_ ?_
       rotate_left
       ·intro w'
        go_simp
        with_reducible rfl
       rotate_left
       ·simp only [Act.put,sA_,sB_,sC_,i64_w,i32_w]
        rfl
       refine pure_ (i:=9) (N:=some 45) (v:=?_) (a':=?_) #[true,true,true,true,true,true,true,true,true,true,false,false,false,false,false,false,false,false,false,false,false,false,false,false,false,false,false,false,false,false,false] rfl rfl (any_of HT_.out (by kernel_rfl)) (fun _ _ _ h=>h) (Or.inl ⟨by rfl,?_⟩) ?_ ?_
       rotate_left
       ·intro w'
        go_simp
        with_reducible rfl
       rotate_left
       ·simp only [Act.put,sA_,sB_,sC_,i64_w,i32_w]
        rfl
       refine pure_ (i:=10) (N:=some 46) (v:=?_) (a':=?_) #[true,true,true,true,true,true,true,true,true,true,true,false,false,false,false,false,false,false,false,false,false,false,false,false,false,false,false,false,false,false,false] rfl rfl (any_of HT_.out (by kernel_rfl)) (fun _ _ _ h=>h) (Or.inl ⟨by rfl,?_⟩) ?_ ?_
       rotate_left
       ·intro w'
        go_simp
        with_reducible rfl
       rotate_left
       ·simp only [Act.put,sA_,sB_,sC_,i64_w,i32_w]
        rfl
       refine pure_ (i:=11) (N:=some 47) (v:=?_) (a':=?_) #[true,true,true,true,true,true,true,true,true,true,true,true,false,false,false,false,false,false,false,false,false,false,false,false,false,false,false,false,false,false,false] rfl rfl (any_of HT_.out (by kernel_rfl)) (fun _ _ _ h=>h) (Or.inl ⟨by rfl,?_⟩) ?_ ?_
       rotate_left
       ·intro w'
        go_simp
        with_reducible rfl
       rotate_left
       ·simp only [Act.put,sA_,sB_,sC_,i64_w,i32_w]
        rfl
       refine pure_ (i:=12) (N:=some 48) (v:=?_) (a':=?_) #[true,true,true,true,true,true,true,true,true,true,true,true,true,false,false,false,false,false,false,false,false,false,false,false,false,false,false,false,false,false,false] rfl rfl (any_of HT_.out (by kernel_rfl)) (fun _ _ _ h=>h) (Or.inl ⟨by rfl,?_⟩) ?_ ?_
       rotate_left
       ·intro w'
        go_simp
        with_reducible rfl
       rotate_left
       ·simp only [Act.put,sA_,sB_,sC_,i64_w,i32_w]
        rfl
       refine take_ (i:=13) (N:=some 49) (v:=?_) (a':=?_) #[true,true,true,true,true,true,true,true,true,true,true,true,true,true,false,false,false,false,false,false,false,false,false,false,false,false,false,false,false,false,false] rfl rfl (take_ofW HT_.out HW_.out (by kernel_rfl)) (fun _ _ _ h=>h) (Or.inl ⟨by rfl,?_⟩) hHeld ?_ ?_
       rotate_left
       ·rintro w' ⟨s0,s1,s2,s3,s4,s5,s6,s7,s8,s9,s10,s11,s12,s13,s14⟩
        go_simp
        with_reducible rfl
       rotate_left
       ·simp only [Act.put,sA_,sB_,sC_,i64_w,i32_w]
        rfl
       refine take_ (i:=15) (N:=some 51) (v:=?_) (a':=?_) #[true,true,true,true,true,true,true,true,true,true,true,true,true,true,false,true,false,false,false,false,false,false,false,false,false,false,false,false,false,false,false] rfl rfl (take_ofW HT_.out HW_.out (by kernel_rfl)) (fun _ _ _ h=>h) (Or.inl ⟨by rfl,?_⟩) hHeld ?_ ?_
       rotate_left
       ·rintro w' ⟨s0,s1,s2,s3,s4,s5,s6,s7,s8,s9,s10,s11,s12,s13,s14⟩
        go_simp
        with_reducible rfl
       rotate_left
       ·simp only [Act.put,sA_,sB_,sC_,i64_w,i32_w]
        rfl
       refine one_ (i:=14) (N:=some 50) #[true,true,true,true,true,true,true,true,true,true,true,true,true,true,true,true,false,false,false,false,false,false,false,false,false,false,false,false,false,false,false] rfl rfl (one_of HT_.out (by kernel_rfl)) (by decide) (fun K hK=>?_)
       refine goes_ Try.func14 (by kernel_rfl) rfl #[.agg #[.int .u32 a0_0,.int .u64 a0_1,.int .i64 a0_2,.string a0_3,.slice A0_4 l0_4.length c0_4]] (by rfl) rfl rfl (by (try simp only [List.map_toArray,List.map_cons,List.map_nil]);first|done|rfl|(simp only [List.length_drop,List.length_take];rfl)) ?_
       with_reducible refine (page_Room.calls k a0_0 a0_1 a0_2 a0_3 _ _ l0_4 t368 _ ?side1 ?side2 A31.out).mono ?_
       (case side1=>repeat (first|exact (Kd.C_below HR0_4.out HB.out)|(with_reducible refine Kd.C_alloc ?_ _)|(with_reducible refine Kd.C_drewN ?_ _)|(with_reducible refine Kd.C_drew ?_)))
       (case side2=>exact HC0_4.out)
       rintro e w48 ⟨rfl,hb⟩
       refine ⟨_,rfl,?_⟩
       have n0_:=Aside0.mk (Kd.V_below (by (with_reducible repeat (first|apply Kd.V_alloc|apply Kd.V_drewN|apply Kd.V_drew));exact HO346.out) hb)
       have n1_:=Aside0.mk (Kd.R_below (by (with_reducible repeat (first|apply Kd.R_alloc|apply Kd.R_drewN|apply Kd.R_drew));exact HO355.out) hb)
       have n2_:=Aside0.mk (Kd.R_below (by (with_reducible repeat (first|apply Kd.R_alloc|apply Kd.R_drewN|apply Kd.R_drew));exact HO364.out) hb)
       have n3_:=Aside0.mk (blk_below (g:=gb337) (o:=.cells #[.int .u32 a0_0,.int .u64 a0_1,.int .i64 a0_2,.string a0_3,.slice A0_4 l0_4.length c0_4] 28 (0,0)) (by (with_reducible repeat (first|refine blk_drewN ?_ _|refine blk_drew ?_|refine blk_alloc ?_ _));exact BK337.out) hb)
       have n4_:=Aside0.mk (blk_below (g:=gb357) (o:=.cells #[.int .u32 t349,.int .u64 t350,.int .i64 t351,.string t352,.slice Ao20 t353.length co20] 28 (0,0)) (by (with_reducible repeat (first|refine blk_drewN ?_ _|refine blk_drew ?_|refine blk_alloc ?_ _));exact BK357.out) hb)
       have n5_:=Aside0.mk (blk_below (g:=gb366) (o:=.cells #[.int .u32 t358,.int .u64 t359,.int .i64 t360,.string t361,.slice Ao26 t362.length co26] 35 (0,0)) (by (with_reducible repeat (first|refine blk_drewN ?_ _|refine blk_drew ?_|refine blk_alloc ?_ _));exact BK366.out) hb)
       have n6_:=Aside0.mk (below_step (by repeat (first|(with_reducible first|exact HB.out|apply below_alloc|apply pw_below_drewN|apply below_drew1|refine below_set ?_ GE337.out|refine below_set ?_ GE357.out|refine below_set ?_ GE366.out)|exact HB.out)) hb)
       clear HO346
       clear HO355
       clear HO364
       clear BK337
       clear BK357
       clear BK366
       clear HB
       have HO346:=n0_
       have HO355:=n1_
       have HO364:=n2_
       have BK337:=n3_
       have BK357:=n4_
       have BK366:=n5_
       have HB:=n6_
       clear n0_ n1_ n2_ n3_ n4_ n5_ n6_
       (try clear hb)
       (try clear hb2)
       (try clear hk)
       (try clear hi)
       refine hK.out _ _ ⟨(blk_cell BK337.out 0).trans rfl,(blk_cell BK337.out 1).trans rfl,(blk_cell BK337.out 2).trans rfl,(blk_cell BK337.out 3).trans rfl,(blk_cell BK337.out 4).trans rfl,(blk_cell BK357.out 0).trans rfl,(blk_cell BK357.out 1).trans rfl,(blk_cell BK357.out 2).trans rfl,(blk_cell BK357.out 3).trans rfl,(blk_cell BK357.out 4).trans rfl,(blk_cell BK366.out 0).trans rfl,(blk_cell BK366.out 1).trans rfl,(blk_cell BK366.out 2).trans rfl,(blk_cell BK366.out 3).trans rfl,(blk_cell BK366.out 4).trans rfl⟩ (fun hHeld=>?_)
       clear hK K
       refine norm_ (a':=?_) ?_ ?_
       rotate_left
       ·show Act.put _ (some 50) _=_
        simp only [Act.put,sA_,sB_,sC_,i64_w,i32_w]
        rfl
       refine one_ (i:=16) (N:=some 52) #[true,true,true,true,true,true,true,true,true,true,true,true,true,true,true,true,true,false,false,false,false,false,false,false,false,false,false,false,false,false,false] rfl rfl (one_of HT_.out (by kernel_rfl)) (by decide) (fun K hK=>?_)
       refine goes_ Try.func10 (by kernel_rfl) rfl #[.agg #[.int .u32 a0_0,.int .u64 a0_1,.int .i64 a0_2,.string a0_3,.slice A0_4 l0_4.length c0_4]] (by rfl) rfl rfl (by (try simp only [List.map_toArray,List.map_cons,List.map_nil]);first|done|rfl|(simp only [List.length_drop,List.length_take];rfl)) ?_
       with_reducible refine (girderlaw03_ref.calls a0_0 a0_1 a0_2 a0_3 (fun k_=>k_ < w.heap.size) _ _ l0_4 t369 t370 t371 t372 t373 _ ?side1 A32.out).mono ?_
       (case side1=>exact Kd.V_mk HC0_4.out (Kd.F_below (Kd.C_F Kd.heap_string HR0_4.out) (by repeat (first|(with_reducible first|exact HB.out|apply below_alloc|apply pw_below_drewN|apply below_drew1|refine below_set ?_ GE337.out|refine below_set ?_ GE357.out|refine below_set ?_ GE366.out)|exact HB.out))))
       rintro e w49 ⟨v374,rfl,ho0,hb⟩
       refine ⟨_,rfl,?_⟩
       have n0_:=Aside0.mk (Kd.V_below (by (with_reducible repeat (first|apply Kd.V_alloc|apply Kd.V_drewN|apply Kd.V_drew));exact HO346.out) hb)
       have n1_:=Aside0.mk (Kd.R_below (by (with_reducible repeat (first|apply Kd.R_alloc|apply Kd.R_drewN|apply Kd.R_drew));exact HO355.out) hb)
       have n2_:=Aside0.mk (Kd.R_below (by (with_reducible repeat (first|apply Kd.R_alloc|apply Kd.R_drewN|apply Kd.R_drew));exact HO364.out) hb)
       have n3_:=Aside0.mk (Kd.V_lower (Kd.V_mono (ok':=fun k_=>some k_≠(.slice Ao20 t353.length co20 : Value).ownBlock∧some k_≠(.slice Ao26 t362.length co26 : Value).ownBlock∧k_≠gb337∧k_≠gb357∧k_≠gb366) ho0 (fun k_ hk_=>⟨Or.elim hk_ (fun hs_=>fun e_=>Nat.not_le.2 hs_ (Kd.R_base HO355.out k_ e_.symm)) (fun hn_=>(Kd.fresh' (Kd.R_lt (by (with_reducible repeat (first|apply Kd.R_alloc|apply Kd.R_drewN|apply Kd.R_drew));exact HO355.out)) k_ hn_)),Or.elim hk_ (fun hs_=>fun e_=>Nat.not_le.2 hs_ (Kd.R_base HO364.out k_ e_.symm)) (fun hn_=>(Kd.fresh' (Kd.R_lt (by (with_reducible repeat (first|apply Kd.R_alloc|apply Kd.R_drewN|apply Kd.R_drew));exact HO364.out)) k_ hn_)),Or.elim hk_ (fun hs_=>fun e_=>Nat.not_le.2 hs_ (by rw [e_];exact GW337.out)) (fun hn_=>(Kd.freshB (g:=gb337) (o:=.cells #[.int .u32 a0_0,.int .u64 a0_1,.int .i64 a0_2,.string a0_3,.slice A0_4 l0_4.length c0_4] 28 (0,0)) (by (with_reducible repeat (first|refine blk_drewN ?_ _|refine blk_drew ?_|refine blk_alloc ?_ _));exact BK337.out) k_ hn_)),Or.elim hk_ (fun hs_=>fun e_=>Nat.not_le.2 hs_ (by rw [e_];exact GW357.out)) (fun hn_=>(Kd.freshB (g:=gb357) (o:=.cells #[.int .u32 t349,.int .u64 t350,.int .i64 t351,.string t352,.slice Ao20 t353.length co20] 28 (0,0)) (by (with_reducible repeat (first|refine blk_drewN ?_ _|refine blk_drew ?_|refine blk_alloc ?_ _));exact BK357.out) k_ hn_)),Or.elim hk_ (fun hs_=>fun e_=>Nat.not_le.2 hs_ (by rw [e_];exact GW366.out)) (fun hn_=>(Kd.freshB (g:=gb366) (o:=.cells #[.int .u32 t358,.int .u64 t359,.int .i64 t360,.string t361,.slice Ao26 t362.length co26] 35 (0,0)) (by (with_reducible repeat (first|refine blk_drewN ?_ _|refine blk_drew ?_|refine blk_alloc ?_ _));exact BK366.out) k_ hn_))⟩)) (below_size (by repeat (first|(with_reducible first|exact HB.out|apply below_alloc|apply pw_below_drewN|apply below_drew1|refine below_set ?_ GE337.out|refine below_set ?_ GE357.out|refine below_set ?_ GE366.out)|exact HB.out))))
       have n4_:=Aside0.mk (blk_below (g:=gb337) (o:=.cells #[.int .u32 a0_0,.int .u64 a0_1,.int .i64 a0_2,.string a0_3,.slice A0_4 l0_4.length c0_4] 28 (0,0)) (by (with_reducible repeat (first|refine blk_drewN ?_ _|refine blk_drew ?_|refine blk_alloc ?_ _));exact BK337.out) hb)
       have n5_:=Aside0.mk (blk_below (g:=gb357) (o:=.cells #[.int .u32 t349,.int .u64 t350,.int .i64 t351,.string t352,.slice Ao20 t353.length co20] 28 (0,0)) (by (with_reducible repeat (first|refine blk_drewN ?_ _|refine blk_drew ?_|refine blk_alloc ?_ _));exact BK357.out) hb)
       have n6_:=Aside0.mk (blk_below (g:=gb366) (o:=.cells #[.int .u32 t358,.int .u64 t359,.int .i64 t360,.string t361,.slice Ao26 t362.length co26] 35 (0,0)) (by (with_reducible repeat (first|refine blk_drewN ?_ _|refine blk_drew ?_|refine blk_alloc ?_ _));exact BK366.out) hb)
       have n7_:=Aside0.mk (below_step (by repeat (first|(with_reducible first|exact HB.out|apply below_alloc|apply pw_below_drewN|apply below_drew1|refine below_set ?_ GE337.out|refine below_set ?_ GE357.out|refine below_set ?_ GE366.out)|exact HB.out)) hb)
       clear HO346
       clear HO355
       clear HO364
       clear BK337
       clear BK357
       clear BK366
       clear HB
       have HO346:=n0_
       have HO355:=n1_
       have HO364:=n2_
       have HO375:=n3_
       have BK337:=n4_
       have BK357:=n5_
       have BK366:=n6_
       have HB:=n7_
       clear n0_ n1_ n2_ n3_ n4_ n5_ n6_ n7_
       (try clear hb)
       (try clear hb2)
       (try clear hk)
       (try clear hi)
       (try clear ho0)
       obtain ⟨Ao50,co50,eo50⟩:=Kd.V_slice HO375.out
       (first|subst eo50|(injection eo50 with f1_ f2_ f3_;have f4_:=f1_.symm;have f5_:=f3_.symm;clear f1_ f2_ f3_;subst f4_;subst f5_))
       refine hK.out _ _ ⟨(blk_cell BK337.out 0).trans rfl,(blk_cell BK337.out 1).trans rfl,(blk_cell BK337.out 2).trans rfl,(blk_cell BK337.out 3).trans rfl,(blk_cell BK337.out 4).trans rfl,(blk_cell BK357.out 0).trans rfl,(blk_cell BK357.out 1).trans rfl,(blk_cell BK357.out 2).trans rfl,(blk_cell BK357.out 3).trans rfl,(blk_cell BK357.out 4).trans rfl,(blk_cell BK366.out 0).trans rfl,(blk_cell BK366.out 1).trans rfl,(blk_cell BK366.out 2).trans rfl,(blk_cell BK366.out 3).trans rfl,(blk_cell BK366.out 4).trans rfl⟩ (fun hHeld=>?_)
       clear hK K
       refine norm_ (a':=?_) ?_ ?_
       rotate_left
       ·show Act.put _ (some 52) _=_
        simp only [Act.put,sA_,sB_,sC_,i64_w,i32_w]
        rfl
       refine one_ (i:=17) (N:=some 53) #[true,true,true,true,true,true,true,true,true,true,true,true,true,true,true,true,true,true,false,false,false,false,false,false,false,false,false,false,false,false,false] rfl rfl (one_of HT_.out (by kernel_rfl)) (by decide) (fun K hK=>?_)
       refine goes_ Try.func15 (by kernel_rfl) rfl #[.agg #[.int .u32 t369,.int .u64 t370,.int .i64 t371,.string t372,.slice Ao50 t373.length co50]] (by rfl) rfl rfl (by (try simp only [List.map_toArray,List.map_cons,List.map_nil]);first|done|rfl|(simp only [List.length_drop,List.length_take];rfl)) ?_
       with_reducible refine (girderref03_Room.calls k t369 t370 t371 t372 _ _ t373 t376 _ ?side1 ?side2 A33.out).mono ?_
       (case side1=>repeat (first|exact (Kd.V_reads' HO375.out).2.2|(with_reducible refine Kd.C_alloc ?_ _)|(with_reducible refine Kd.C_drewN ?_ _)|(with_reducible refine Kd.C_drew ?_)))
       (case side2=>exact (Kd.V_reads' HO375.out).2.1)
       rintro e w51 ⟨rfl,hb⟩
       refine ⟨_,rfl,?_⟩
       have n0_:=Aside0.mk (Kd.V_below (by (with_reducible repeat (first|apply Kd.V_alloc|apply Kd.V_drewN|apply Kd.V_drew));exact HO346.out) hb)
       have n1_:=Aside0.mk (Kd.R_below (by (with_reducible repeat (first|apply Kd.R_alloc|apply Kd.R_drewN|apply Kd.R_drew));exact HO355.out) hb)
       have n2_:=Aside0.mk (Kd.R_below (by (with_reducible repeat (first|apply Kd.R_alloc|apply Kd.R_drewN|apply Kd.R_drew));exact HO364.out) hb)
       have n3_:=Aside0.mk (Kd.V_below (by (with_reducible repeat (first|apply Kd.V_alloc|apply Kd.V_drewN|apply Kd.V_drew));exact HO375.out) hb)
       have n4_:=Aside0.mk (blk_below (g:=gb337) (o:=.cells #[.int .u32 a0_0,.int .u64 a0_1,.int .i64 a0_2,.string a0_3,.slice A0_4 l0_4.length c0_4] 28 (0,0)) (by (with_reducible repeat (first|refine blk_drewN ?_ _|refine blk_drew ?_|refine blk_alloc ?_ _));exact BK337.out) hb)
       have n5_:=Aside0.mk (blk_below (g:=gb357) (o:=.cells #[.int .u32 t349,.int .u64 t350,.int .i64 t351,.string t352,.slice Ao20 t353.length co20] 28 (0,0)) (by (with_reducible repeat (first|refine blk_drewN ?_ _|refine blk_drew ?_|refine blk_alloc ?_ _));exact BK357.out) hb)
       have n6_:=Aside0.mk (blk_below (g:=gb366) (o:=.cells #[.int .u32 t358,.int .u64 t359,.int .i64 t360,.string t361,.slice Ao26 t362.length co26] 35 (0,0)) (by (with_reducible repeat (first|refine blk_drewN ?_ _|refine blk_drew ?_|refine blk_alloc ?_ _));exact BK366.out) hb)
       have n7_:=Aside0.mk (below_step (by repeat (first|(with_reducible first|exact HB.out|apply below_alloc|apply pw_below_drewN|apply below_drew1|refine below_set ?_ GE337.out|refine below_set ?_ GE357.out|refine below_set ?_ GE366.out)|exact HB.out)) hb)
       clear HO346
       clear HO355
       clear HO364
       clear HO375
       clear BK337
       clear BK357
       clear BK366
       clear HB
       have HO346:=n0_
       have HO355:=n1_
       have HO364:=n2_
       have HO375:=n3_
       have BK337:=n4_
       have BK357:=n5_
       have BK366:=n6_
       have HB:=n7_
       clear n0_ n1_ n2_ n3_ n4_ n5_ n6_ n7_
       (try clear hb)
       (try clear hb2)
       (try clear hk)
       (try clear hi)
       refine hK.out _ _ ⟨(blk_cell BK337.out 0).trans rfl,(blk_cell BK337.out 1).trans rfl,(blk_cell BK337.out 2).trans rfl,(blk_cell BK337.out 3).trans rfl,(blk_cell BK337.out 4).trans rfl,(blk_cell BK357.out 0).trans rfl,(blk_cell BK357.out 1).trans rfl,(blk_cell BK357.out 2).trans rfl,(blk_cell BK357.out 3).trans rfl,(blk_cell BK357.out 4).trans rfl,(blk_cell BK366.out 0).trans rfl,(blk_cell BK366.out 1).trans rfl,(blk_cell BK366.out 2).trans rfl,(blk_cell BK366.out 3).trans rfl,(blk_cell BK366.out 4).trans rfl⟩ (fun hHeld=>?_)
       clear hK K
       refine norm_ (a':=?_) ?_ ?_
       rotate_left
       ·show Act.put _ (some 53) _=_
        simp only [Act.put,sA_,sB_,sC_,i64_w,i32_w]
        rfl
       refine pure_ (i:=18) (N:=some 54) (v:=?_) (a':=?_) #[true,true,true,true,true,true,true,true,true,true,true,true,true,true,true,true,true,true,true,false,false,false,false,false,false,false,false,false,false,false,false] rfl rfl (any_of HT_.out (by kernel_rfl)) (fun _ _ _ h=>h) (Or.inl ⟨by rfl,?_⟩) ?_ ?_
       rotate_left
       ·intro w'
        go_simp
        with_reducible rfl
       rotate_left
       ·simp only [Act.put,sA_,sB_,sC_,i64_w,i32_w]
        rfl
       refine pure_ (i:=19) (N:=some 55) (v:=?_) (a':=?_) #[true,true,true,true,true,true,true,true,true,true,true,true,true,true,true,true,true,true,true,true,false,false,false,false,false,false,false,false,false,false,false] rfl rfl (any_of HT_.out (by kernel_rfl)) (fun _ _ _ h=>h) (Or.inl ⟨by rfl,?_⟩) ?_ ?_
       rotate_left
       ·intro w'
        go_simp
        with_reducible rfl
       rotate_left
       ·simp only [Act.put,sA_,sB_,sC_,i64_w,i32_w]
        rfl
       refine pure_ (i:=20) (N:=some 56) (v:=?_) (a':=?_) #[true,true,true,true,true,true,true,true,true,true,true,true,true,true,true,true,true,true,true,true,true,false,false,false,false,false,false,false,false,false,false] rfl rfl (any_of HT_.out (by kernel_rfl)) (fun _ _ _ h=>h) (Or.inl ⟨by rfl,?_⟩) ?_ ?_
       rotate_left
       ·intro w'
        go_simp
        with_reducible rfl
       rotate_left
       ·simp only [Act.put,sA_,sB_,sC_,i64_w,i32_w]
        rfl
       refine take_ (i:=21) (N:=some 57) (v:=?_) (a':=?_) #[true,true,true,true,true,true,true,true,true,true,true,true,true,true,true,true,true,true,true,true,true,true,false,false,false,false,false,false,false,false,false] rfl rfl (take_ofW HT_.out HW_.out (by kernel_rfl)) (fun _ _ _ h=>h) (Or.inl ⟨by rfl,?_⟩) hHeld ?_ ?_
       rotate_left
       ·rintro w' ⟨s0,s1,s2,s3,s4,s5,s6,s7,s8,s9,s10,s11,s12,s13,s14⟩
        go_simp
        with_reducible rfl
       rotate_left
       ·simp only [Act.put,sA_,sB_,sC_,i64_w,i32_w]
        rfl
       refine take_ (i:=22) (N:=some 58) (v:=?_) (a':=?_) #[true,true,true,true,true,true,true,true,true,true,true,true,true,true,true,true,true,true,true,true,true,true,true,false,false,false,false,false,false,false,false] rfl rfl (take_ofW HT_.out HW_.out (by kernel_rfl)) (fun _ _ _ h=>h) (Or.inl ⟨by rfl,?_⟩) hHeld ?_ ?_
       rotate_left
       ·rintro w' ⟨s0,s1,s2,s3,s4,s5,s6,s7,s8,s9,s10,s11,s12,s13,s14⟩
        go_simp
        with_reducible rfl
       rotate_left
       ·simp only [Act.put,sA_,sB_,sC_,i64_w,i32_w]
        rfl
       refine one_ (i:=23) (N:=some 59) #[true,true,true,true,true,true,true,true,true,true,true,true,true,true,true,true,true,true,true,true,true,true,true,true,false,false,false,false,false,false,false] rfl rfl (one_of HT_.out (by kernel_rfl)) (by decide) (fun K hK=>?_)
       refine goes_ Try.func16 (by kernel_rfl) rfl #[.agg #[.int .u32 t349,.int .u64 t350,.int .i64 t351,.string t352,.slice Ao20 t353.length co20],.agg #[.int .u32 t358,.int .u64 t359,.int .i64 t360,.string t361,.slice Ao26 t362.length co26]] (by rfl) rfl rfl (by (try simp only [List.map_toArray,List.map_cons,List.map_nil]);first|done|rfl|(simp only [List.length_drop,List.length_take];rfl)) ?_
       with_reducible refine (girderlaw03_same.calls k t349 t350 t351 t352 _ _ t353 t358 t359 t360 t361 _ _ t362 false _ ?side1 ?side2 ?side3 ?side4 A35.out).mono ?_
       (case side1=>repeat (first|exact (Kd.R_reads' HO355.out).2.2|(with_reducible refine Kd.C_alloc ?_ _)|(with_reducible refine Kd.C_drewN ?_ _)|(with_reducible refine Kd.C_drew ?_)))
       (case side2=>exact (Kd.R_reads' HO355.out).2.1)
       (case side3=>repeat (first|exact (Kd.R_reads' HO364.out).2.2|(with_reducible refine Kd.C_alloc ?_ _)|(with_reducible refine Kd.C_drewN ?_ _)|(with_reducible refine Kd.C_drew ?_)))
       (case side4=>exact (Kd.R_reads' HO364.out).2.1)
       rintro e w52 ⟨rfl,hb⟩
       refine ⟨_,rfl,?_⟩
       have n0_:=Aside0.mk (Kd.V_below (by (with_reducible repeat (first|apply Kd.V_alloc|apply Kd.V_drewN|apply Kd.V_drew));exact HO346.out) hb)
       have n1_:=Aside0.mk (Kd.R_below (by (with_reducible repeat (first|apply Kd.R_alloc|apply Kd.R_drewN|apply Kd.R_drew));exact HO355.out) hb)
       have n2_:=Aside0.mk (Kd.R_below (by (with_reducible repeat (first|apply Kd.R_alloc|apply Kd.R_drewN|apply Kd.R_drew));exact HO364.out) hb)
       have n3_:=Aside0.mk (Kd.V_below (by (with_reducible repeat (first|apply Kd.V_alloc|apply Kd.V_drewN|apply Kd.V_drew));exact HO375.out) hb)
       have n4_:=Aside0.mk (blk_below (g:=gb337) (o:=.cells #[.int .u32 a0_0,.int .u64 a0_1,.int .i64 a0_2,.string a0_3,.slice A0_4 l0_4.length c0_4] 28 (0,0)) (by (with_reducible repeat (first|refine blk_drewN ?_ _|refine blk_drew ?_|refine blk_alloc ?_ _));exact BK337.out) hb)
       have n5_:=Aside0.mk (blk_below (g:=gb357) (o:=.cells #[.int .u32 t349,.int .u64 t350,.int .i64 t351,.string t352,.slice Ao20 t353.length co20] 28 (0,0)) (by (with_reducible repeat (first|refine blk_drewN ?_ _|refine blk_drew ?_|refine blk_alloc ?_ _));exact BK357.out) hb)
       have n6_:=Aside0.mk (blk_below (g:=gb366) (o:=.cells #[.int .u32 t358,.int .u64 t359,.int .i64 t360,.string t361,.slice Ao26 t362.length co26] 35 (0,0)) (by (with_reducible repeat (first|refine blk_drewN ?_ _|refine blk_drew ?_|refine blk_alloc ?_ _));exact BK366.out) hb)
       have n7_:=Aside0.mk (below_step (by repeat (first|(with_reducible first|exact HB.out|apply below_alloc|apply pw_below_drewN|apply below_drew1|refine below_set ?_ GE337.out|refine below_set ?_ GE357.out|refine below_set ?_ GE366.out)|exact HB.out)) hb)
       clear HO346
       clear HO355
       clear HO364
       clear HO375
       clear BK337
       clear BK357
       clear BK366
       clear HB
       have HO346:=n0_
       have HO355:=n1_
       have HO364:=n2_
       have HO375:=n3_
       have BK337:=n4_
       have BK357:=n5_
       have BK366:=n6_
       have HB:=n7_
       clear n0_ n1_ n2_ n3_ n4_ n5_ n6_ n7_
       (try clear hb)
       (try clear hb2)
       (try clear hk)
       (try clear hi)
       refine hK.out _ _ ⟨(blk_cell BK337.out 0).trans rfl,(blk_cell BK337.out 1).trans rfl,(blk_cell BK337.out 2).trans rfl,(blk_cell BK337.out 3).trans rfl,(blk_cell BK337.out 4).trans rfl,(blk_cell BK357.out 0).trans rfl,(blk_cell BK357.out 1).trans rfl,(blk_cell BK357.out 2).trans rfl,(blk_cell BK357.out 3).trans rfl,(blk_cell BK357.out 4).trans rfl,(blk_cell BK366.out 0).trans rfl,(blk_cell BK366.out 1).trans rfl,(blk_cell BK366.out 2).trans rfl,(blk_cell BK366.out 3).trans rfl,(blk_cell BK366.out 4).trans rfl⟩ (fun hHeld=>?_)
       clear hK K
       refine norm_ (a':=?_) ?_ ?_
       rotate_left
       ·show Act.put _ (some 59) _=_
        simp only [Act.put,sA_,sB_,sC_,i64_w,i32_w]
        rfl
       refine pure_ (i:=24) (N:=some 60) (v:=?_) (a':=?_) #[true,true,true,true,true,true,true,true,true,true,true,true,true,true,true,true,true,true,true,true,true,true,true,true,true,false,false,false,false,false,false] rfl rfl (any_of HT_.out (by kernel_rfl)) (fun _ _ _ h=>h) (Or.inl ⟨by rfl,?_⟩) ?_ ?_
       rotate_left
       ·intro w'
        go_simp
        with_reducible rfl
       rotate_left
       ·simp only [Act.put,sA_,sB_,sC_,i64_w,i32_w]
        rfl
       refine pure_ (i:=25) (N:=some 61) (v:=?_) (a':=?_) #[true,true,true,true,true,true,true,true,true,true,true,true,true,true,true,true,true,true,true,true,true,true,true,true,true,true,false,false,false,false,false] rfl rfl (any_of HT_.out (by kernel_rfl)) (fun _ _ _ h=>h) (Or.inl ⟨by rfl,?_⟩) ?_ ?_
       rotate_left
       ·intro w'
        go_simp
        with_reducible rfl
       rotate_left
       ·simp only [Act.put,sA_,sB_,sC_,i64_w,i32_w]
        rfl
       refine pure_ (i:=26) (N:=some 62) (v:=?_) (a':=?_) #[true,true,true,true,true,true,true,true,true,true,true,true,true,true,true,true,true,true,true,true,true,true,true,true,true,true,true,false,false,false,false] rfl rfl (any_of HT_.out (by kernel_rfl)) (fun _ _ _ h=>h) (Or.inl ⟨by rfl,?_⟩) ?_ ?_
       rotate_left
       ·intro w'
        go_simp
        with_reducible rfl
       rotate_left
       ·simp only [Act.put,sA_,sB_,sC_,i64_w,i32_w]
        rfl
       refine pure_ (i:=27) (N:=some 63) (v:=undef) (a':=?_) #[true,true,true,true,true,true,true,true,true,true,true,true,true,true,true,true,true,true,true,true,true,true,true,true,true,true,true,true,false,false,false] rfl rfl (any_of HT_.out (by kernel_rfl)) (fun _ _ _ h=>h) (Or.inr ⟨by rfl,rfl⟩) ?_ ?_
       rotate_left
       ·simp only [Act.put,sA_,sB_,sC_,i64_w,i32_w]
        rfl
       refine pure_ (i:=28) (N:=some 64) (v:=undef) (a':=?_) #[true,true,true,true,true,true,true,true,true,true,true,true,true,true,true,true,true,true,true,true,true,true,true,true,true,true,true,true,true,false,false] rfl rfl (any_of HT_.out (by kernel_rfl)) (fun _ _ _ h=>h) (Or.inr ⟨by rfl,rfl⟩) ?_ ?_
       rotate_left
       ·simp only [Act.put,sA_,sB_,sC_,i64_w,i32_w]
        rfl
       refine pure_ (i:=29) (N:=some 65) (v:=undef) (a':=?_) #[true,true,true,true,true,true,true,true,true,true,true,true,true,true,true,true,true,true,true,true,true,true,true,true,true,true,true,true,true,true,false] rfl rfl (any_of HT_.out (by kernel_rfl)) (fun _ _ _ h=>h) (Or.inr ⟨by rfl,rfl⟩) ?_ ?_
       rotate_left
       ·simp only [Act.put,sA_,sB_,sC_,i64_w,i32_w]
        rfl
       refine pure_ (i:=30) (N:=some 66) (v:=?_) (a':=?_) #[true,true,true,true,true,true,true,true,true,true,true,true,true,true,true,true,true,true,true,true,true,true,true,true,true,true,true,true,true,true,true] rfl rfl (any_of HT_.out (by kernel_rfl)) (fun _ _ _ h=>h) (Or.inl ⟨by rfl,?_⟩) ?_ ?_
       rotate_left
       ·intro w'
        go_simp
        with_reducible rfl
       rotate_left
       ·simp only [Act.put,sA_,sB_,sC_,i64_w,i32_w]
        rfl
       refine done_ (done_of HT_.out (by kernel_rfl)) ?_
       try go_wp2
       go_meet
       case rel=>exact ⟨_,(true),(by first|rfl|(simp;done)|(simp [*];done)),H',⟨by first|omega|exact Nat.le_refl _⟩,⟨by (with_reducible repeat (first|apply Kd.R_alloc|apply Kd.R_drewN|apply Kd.R_drew));exact HO355.out⟩,⟨by (with_reducible repeat (first|apply Kd.R_alloc|apply Kd.R_drewN|apply Kd.R_drew));exact HO364.out⟩,⟨by (with_reducible repeat (first|refine blk_drewN ?_ _|refine blk_drew ?_|refine blk_alloc ?_ _));exact BK337.out⟩,⟨by (with_reducible repeat (first|refine blk_drewN ?_ _|refine blk_drew ?_|refine blk_alloc ?_ _));exact BK357.out⟩,⟨by (with_reducible repeat (first|refine blk_drewN ?_ _|refine blk_drew ?_|refine blk_alloc ?_ _));exact BK366.out⟩,⟨by repeat (first|(with_reducible first|exact HB.out|apply below_alloc|apply pw_below_drewN|apply below_drew1|refine below_set ?_ GE337.out|refine below_set ?_ GE357.out|refine below_set ?_ GE366.out)|exact HB.out)⟩⟩
     ·rw [if_neg c34] at H
      have c34b0 : (t368 == t376)=false:=beq_eq_false_iff_ne.mpr c34
      have c34b1 : (t368 != t376)=true:=bne_iff_ne.mpr c34
      have H':=Aside0.mk H
      clear H
      try go_wp2
      have n0_ : Aside0 (Kd.V Kd.string 9 (((((w22.setCell ⟨gb366,0,none⟩ (.int .u32 t358)).setCell ⟨gb366,1,none⟩ (.int .u64 t359)).setCell ⟨gb366,2,none⟩ (.int .i64 t360)).setCell ⟨gb366,3,none⟩ (.string t361)).setCell ⟨gb366,4,none⟩ (.slice Ao26 t362.length co26)) w.heap.size (fun k_=>some k_≠(.slice Ao20 t353.length co20 : Value).ownBlock∧some k_≠(.slice Ao26 t362.length co26 : Value).ownBlock∧k_≠gb337∧k_≠gb357∧k_≠gb366) (.slice Ao14 t344.length co14) t344):=⟨by (with_reducible repeat (first|apply Kd.V_alloc|apply Kd.V_drewN|apply Kd.V_drew));exact Kd.V_mono (Kd.V_far (p:=⟨gb366,4,none⟩) (Kd.V_far (p:=⟨gb366,3,none⟩) (Kd.V_far (p:=⟨gb366,2,none⟩) (Kd.V_far (p:=⟨gb366,1,none⟩) (Kd.V_far (p:=⟨gb366,0,none⟩) (Kd.V_mono HO346.out (fun k_ hk=>(⟨hk,hk.2⟩ : _∧k_≠gb366))) (fun _ hk=>hk.2) (.int .u32 t358)) (fun _ hk=>hk.2) (.int .u64 t359)) (fun _ hk=>hk.2) (.int .i64 t360)) (fun _ hk=>hk.2) (.string t361)) (fun _ hk=>hk.2) (.slice Ao26 t362.length co26)) (fun _ hk=>⟨hk.1.1.1.1.2,⟨hk.1.1.2,⟨hk.1.1.1.1.1,⟨hk.1.1.1.2,hk.1.2⟩⟩⟩⟩)⟩
      have n1_ : Aside0 (Kd.R Kd.string 9 (((((w22.setCell ⟨gb366,0,none⟩ (.int .u32 t358)).setCell ⟨gb366,1,none⟩ (.int .u64 t359)).setCell ⟨gb366,2,none⟩ (.int .i64 t360)).setCell ⟨gb366,3,none⟩ (.string t361)).setCell ⟨gb366,4,none⟩ (.slice Ao26 t362.length co26)) w.heap.size (fun k_=>some k_≠(.slice Ao26 t362.length co26 : Value).ownBlock) (.slice Ao20 t353.length co20) t353):=⟨by (with_reducible repeat (first|apply Kd.R_alloc|apply Kd.R_drewN|apply Kd.R_drew));exact Kd.R_mono (Kd.R_far (p:=⟨gb366,4,none⟩) (Kd.R_far (p:=⟨gb366,3,none⟩) (Kd.R_far (p:=⟨gb366,2,none⟩) (Kd.R_far (p:=⟨gb366,1,none⟩) (Kd.R_far (p:=⟨gb366,0,none⟩) (Kd.R_types HO355.out BK366.out (by decide)) (fun _ hk=>hk.2) (.int .u32 t358)) (fun _ hk=>hk.2) (.int .u64 t359)) (fun _ hk=>hk.2) (.int .i64 t360)) (fun _ hk=>hk.2) (.string t361)) (fun _ hk=>hk.2) (.slice Ao26 t362.length co26)) (fun _ hk=>hk.1.2)⟩
      have n2_ : Aside0 (Kd.R Kd.string 9 (((((w22.setCell ⟨gb366,0,none⟩ (.int .u32 t358)).setCell ⟨gb366,1,none⟩ (.int .u64 t359)).setCell ⟨gb366,2,none⟩ (.int .i64 t360)).setCell ⟨gb366,3,none⟩ (.string t361)).setCell ⟨gb366,4,none⟩ (.slice Ao26 t362.length co26)) w.heap.size (fun k_=>some k_≠(.slice Ao20 t353.length co20 : Value).ownBlock) (.slice Ao26 t362.length co26) t362):=⟨by (with_reducible repeat (first|apply Kd.R_alloc|apply Kd.R_drewN|apply Kd.R_drew));exact Kd.R_mono (Kd.R_far (p:=⟨gb366,4,none⟩) (Kd.R_far (p:=⟨gb366,3,none⟩) (Kd.R_far (p:=⟨gb366,2,none⟩) (Kd.R_far (p:=⟨gb366,1,none⟩) (Kd.R_far (p:=⟨gb366,0,none⟩) (Kd.R_types HO364.out BK366.out (by decide)) (fun _ hk=>hk.2) (.int .u32 t358)) (fun _ hk=>hk.2) (.int .u64 t359)) (fun _ hk=>hk.2) (.int .i64 t360)) (fun _ hk=>hk.2) (.string t361)) (fun _ hk=>hk.2) (.slice Ao26 t362.length co26)) (fun _ hk=>hk.1.2)⟩
      have n3_ : Aside0 ((((((w22.setCell ⟨gb366,0,none⟩ (.int .u32 t358)).setCell ⟨gb366,1,none⟩ (.int .u64 t359)).setCell ⟨gb366,2,none⟩ (.int .i64 t360)).setCell ⟨gb366,3,none⟩ (.string t361)).setCell ⟨gb366,4,none⟩ (.slice Ao26 t362.length co26)).heap[gb337]?=some (.cells #[.int .u32 a0_0,.int .u64 a0_1,.int .i64 a0_2,.string a0_3,.slice A0_4 l0_4.length c0_4] 28 (0,0))):=⟨by (with_reducible repeat (first|refine blk_drewN ?_ _|refine blk_drew ?_|refine blk_alloc ?_ _));refine blk_far ?_ NB337_366.out _;(with_reducible repeat (first|refine blk_drewN ?_ _|refine blk_drew ?_|refine blk_alloc ?_ _));refine blk_far ?_ NB337_366.out _;(with_reducible repeat (first|refine blk_drewN ?_ _|refine blk_drew ?_|refine blk_alloc ?_ _));refine blk_far ?_ NB337_366.out _;(with_reducible repeat (first|refine blk_drewN ?_ _|refine blk_drew ?_|refine blk_alloc ?_ _));refine blk_far ?_ NB337_366.out _;(with_reducible repeat (first|refine blk_drewN ?_ _|refine blk_drew ?_|refine blk_alloc ?_ _));refine blk_far ?_ NB337_366.out _;(with_reducible repeat (first|refine blk_drewN ?_ _|refine blk_drew ?_|refine blk_alloc ?_ _));exact BK337.out⟩
      have n4_ : Aside0 ((((((w22.setCell ⟨gb366,0,none⟩ (.int .u32 t358)).setCell ⟨gb366,1,none⟩ (.int .u64 t359)).setCell ⟨gb366,2,none⟩ (.int .i64 t360)).setCell ⟨gb366,3,none⟩ (.string t361)).setCell ⟨gb366,4,none⟩ (.slice Ao26 t362.length co26)).heap[gb357]?=some (.cells #[.int .u32 t349,.int .u64 t350,.int .i64 t351,.string t352,.slice Ao20 t353.length co20] 28 (0,0))):=⟨by (with_reducible repeat (first|refine blk_drewN ?_ _|refine blk_drew ?_|refine blk_alloc ?_ _));refine blk_far ?_ NB357_366.out _;(with_reducible repeat (first|refine blk_drewN ?_ _|refine blk_drew ?_|refine blk_alloc ?_ _));refine blk_far ?_ NB357_366.out _;(with_reducible repeat (first|refine blk_drewN ?_ _|refine blk_drew ?_|refine blk_alloc ?_ _));refine blk_far ?_ NB357_366.out _;(with_reducible repeat (first|refine blk_drewN ?_ _|refine blk_drew ?_|refine blk_alloc ?_ _));refine blk_far ?_ NB357_366.out _;(with_reducible repeat (first|refine blk_drewN ?_ _|refine blk_drew ?_|refine blk_alloc ?_ _));refine blk_far ?_ NB357_366.out _;(with_reducible repeat (first|refine blk_drewN ?_ _|refine blk_drew ?_|refine blk_alloc ?_ _));exact BK357.out⟩
      have n5_ : Aside0 ((((((w22.setCell ⟨gb366,0,none⟩ (.int .u32 t358)).setCell ⟨gb366,1,none⟩ (.int .u64 t359)).setCell ⟨gb366,2,none⟩ (.int .i64 t360)).setCell ⟨gb366,3,none⟩ (.string t361)).setCell ⟨gb366,4,none⟩ (.slice Ao26 t362.length co26)).heap[gb366]?=some (.cells #[.int .u32 t358,.int .u64 t359,.int .i64 t360,.string t361,.slice Ao26 t362.length co26] 35 (0,0))):=⟨by (with_reducible repeat (first|refine blk_drewN ?_ _|refine blk_drew ?_|refine blk_alloc ?_ _));refine blk_put (cs:=#[.int .u32 t358,.int .u64 t359,.int .i64 t360,.string t361,.slice none 0 0]) ?_ 4 _ rfl;(with_reducible repeat (first|refine blk_drewN ?_ _|refine blk_drew ?_|refine blk_alloc ?_ _));refine blk_put (cs:=#[.int .u32 t358,.int .u64 t359,.int .i64 t360,.string (⟨#[]⟩ : ByteArray),.slice none 0 0]) ?_ 3 _ rfl;(with_reducible repeat (first|refine blk_drewN ?_ _|refine blk_drew ?_|refine blk_alloc ?_ _));refine blk_put (cs:=#[.int .u32 t358,.int .u64 t359,.int .i64 0,.string (⟨#[]⟩ : ByteArray),.slice none 0 0]) ?_ 2 _ rfl;(with_reducible repeat (first|refine blk_drewN ?_ _|refine blk_drew ?_|refine blk_alloc ?_ _));refine blk_put (cs:=#[.int .u32 t358,.int .u64 0,.int .i64 0,.string (⟨#[]⟩ : ByteArray),.slice none 0 0]) ?_ 1 _ rfl;(with_reducible repeat (first|refine blk_drewN ?_ _|refine blk_drew ?_|refine blk_alloc ?_ _));refine blk_put (cs:=#[.int .u32 0,.int .u64 0,.int .i64 0,.string (⟨#[]⟩ : ByteArray),.slice none 0 0]) ?_ 0 _ rfl;(with_reducible repeat (first|refine blk_drewN ?_ _|refine blk_drew ?_|refine blk_alloc ?_ _));exact BK366.out⟩
      have n6_ : Aside0 (Below w.heap.size w (((((w22.setCell ⟨gb366,0,none⟩ (.int .u32 t358)).setCell ⟨gb366,1,none⟩ (.int .u64 t359)).setCell ⟨gb366,2,none⟩ (.int .i64 t360)).setCell ⟨gb366,3,none⟩ (.string t361)).setCell ⟨gb366,4,none⟩ (.slice Ao26 t362.length co26))):=⟨by repeat (first|(with_reducible first|exact HB.out|apply below_alloc|apply pw_below_drewN|apply below_drew1|refine below_set ?_ GE337.out|refine below_set ?_ GE357.out|refine below_set ?_ GE366.out)|exact HB.out)⟩
      (try clear HO346)
      (try clear HO355)
      (try clear HO364)
      (try clear BK337)
      (try clear BK357)
      (try clear BK366)
      (try clear HB)
      generalize (((((w22.setCell ⟨gb366,0,none⟩ (.int .u32 t358)).setCell ⟨gb366,1,none⟩ (.int .u64 t359)).setCell ⟨gb366,2,none⟩ (.int .i64 t360)).setCell ⟨gb366,3,none⟩ (.string t361)).setCell ⟨gb366,4,none⟩ (.slice Ao26 t362.length co26))=w53 at n0_ n1_ n2_ n3_ n4_ n5_ n6_ ⊢
      have HO346:=n0_
      have HO355:=n1_
      have HO364:=n2_
      have BK337:=n3_
      have BK357:=n4_
      have BK366:=n5_
      have HB:=n6_
      clear n0_ n1_ n2_ n3_ n4_ n5_ n6_
      have n0_:=Aside0.mk (Kd.V_drew HO346.out)
      have n1_:=Aside0.mk (Kd.R_drew HO355.out)
      have n2_:=Aside0.mk (Kd.R_drew HO364.out)
      have n3_:=Aside0.mk (blk_drew BK337.out)
      have n4_:=Aside0.mk (blk_drew BK357.out)
      have n5_:=Aside0.mk (blk_drew BK366.out)
      have n6_:=Aside0.mk (below_drew1 HB.out)
      clear HO346
      clear HO355
      clear HO364
      clear BK337
      clear BK357
      clear BK366
      clear HB
      have HO346:=n0_
      have HO355:=n1_
      have HO364:=n2_
      have BK337:=n3_
      have BK357:=n4_
      have BK366:=n5_
      have HB:=n6_
      clear n0_ n1_ n2_ n3_ n4_ n5_ n6_
      refine start_ (n:=31) (S:=fun w'=>w'.cell? ⟨gb337,0,none⟩=some (.int .u32 a0_0)∧w'.cell? ⟨gb337,1,none⟩=some (.int .u64 a0_1)∧w'.cell? ⟨gb337,2,none⟩=some (.int .i64 a0_2)∧w'.cell? ⟨gb337,3,none⟩=some (.string a0_3)∧w'.cell? ⟨gb337,4,none⟩=some (.slice A0_4 l0_4.length c0_4)) (ds:=[]) #[false,false,false,false,false,false,false,false,false,false,false,false,false,false,false,false,false,false,false,false,false,false,false,false,false,false,false,false,false,false,false] (by kernel_rfl) rfl rfl ⟨(blk_cell BK337.out 0).trans rfl,(blk_cell BK337.out 1).trans rfl,(blk_cell BK337.out 2).trans rfl,(blk_cell BK337.out 3).trans rfl,(blk_cell BK337.out 4).trans rfl⟩ (fun hHeld=>?_);refine with_tabW girderlaw03_PageCodes.tab5 girderlaw03_PageCodes.bits5 (fun HT_ HW_=>?_)
      generalize w53.drew=w54 at HO346 HO355 HO364 BK337 BK357 BK366 HB hHeld ⊢
      refine one_ (i:=0) (N:=some 36) #[true,false,false,false,false,false,false,false,false,false,false,false,false,false,false,false,false,false,false,false,false,false,false,false,false,false,false,false,false,false,false] rfl rfl (one_of HT_.out (by kernel_rfl)) (by decide) (fun K hK=>?_)
      refine goes_ Try.func13 (by kernel_rfl) rfl #[] (by rfl) rfl rfl (by (try simp only [List.map_toArray,List.map_cons,List.map_nil]);first|done|rfl|(simp only [List.length_drop,List.length_take];rfl)) ?_
      with_reducible refine (girderlaw03_awake.calls k  true _ A27.out).mono ?_
      rintro e w55 ⟨rfl,hb⟩
      refine ⟨_,rfl,?_⟩
      have n0_:=Aside0.mk (Kd.V_below (by (with_reducible repeat (first|apply Kd.V_alloc|apply Kd.V_drewN|apply Kd.V_drew));exact HO346.out) hb)
      have n1_:=Aside0.mk (Kd.R_below (by (with_reducible repeat (first|apply Kd.R_alloc|apply Kd.R_drewN|apply Kd.R_drew));exact HO355.out) hb)
      have n2_:=Aside0.mk (Kd.R_below (by (with_reducible repeat (first|apply Kd.R_alloc|apply Kd.R_drewN|apply Kd.R_drew));exact HO364.out) hb)
      have n3_:=Aside0.mk (blk_below (g:=gb337) (o:=.cells #[.int .u32 a0_0,.int .u64 a0_1,.int .i64 a0_2,.string a0_3,.slice A0_4 l0_4.length c0_4] 28 (0,0)) (by (with_reducible repeat (first|refine blk_drewN ?_ _|refine blk_drew ?_|refine blk_alloc ?_ _));exact BK337.out) hb)
      have n4_:=Aside0.mk (blk_below (g:=gb357) (o:=.cells #[.int .u32 t349,.int .u64 t350,.int .i64 t351,.string t352,.slice Ao20 t353.length co20] 28 (0,0)) (by (with_reducible repeat (first|refine blk_drewN ?_ _|refine blk_drew ?_|refine blk_alloc ?_ _));exact BK357.out) hb)
      have n5_:=Aside0.mk (blk_below (g:=gb366) (o:=.cells #[.int .u32 t358,.int .u64 t359,.int .i64 t360,.string t361,.slice Ao26 t362.length co26] 35 (0,0)) (by (with_reducible repeat (first|refine blk_drewN ?_ _|refine blk_drew ?_|refine blk_alloc ?_ _));exact BK366.out) hb)
      have n6_:=Aside0.mk (below_step (by repeat (first|(with_reducible first|exact HB.out|apply below_alloc|apply pw_below_drewN|apply below_drew1|refine below_set ?_ GE337.out|refine below_set ?_ GE357.out|refine below_set ?_ GE366.out)|exact HB.out)) hb)
      clear HO346
      clear HO355
      clear HO364
      clear BK337
      clear BK357
      clear BK366
      clear HB
      have HO346:=n0_
      have HO355:=n1_
      have HO364:=n2_
      have BK337:=n3_
      have BK357:=n4_
      have BK366:=n5_
      have HB:=n6_
      clear n0_ n1_ n2_ n3_ n4_ n5_ n6_
      (try clear hb)
      (try clear hb2)
      (try clear hk)
      (try clear hi)
      refine hK.out _ _ ⟨(blk_cell BK337.out 0).trans rfl,(blk_cell BK337.out 1).trans rfl,(blk_cell BK337.out 2).trans rfl,(blk_cell BK337.out 3).trans rfl,(blk_cell BK337.out 4).trans rfl⟩ (fun hHeld=>?_)
      clear hK K
      refine norm_ (a':=?_) ?_ ?_
      rotate_left
      ·show Act.put _ (some 36) _=_
       simp only [Act.put,sA_,sB_,sC_,i64_w,i32_w]
       rfl
      refine pure_ (i:=1) (N:=some 37) (v:=?_) (a':=?_) #[true,true,false,false,false,false,false,false,false,false,false,false,false,false,false,false,false,false,false,false,false,false,false,false,false,false,false,false,false,false,false] rfl rfl (any_of HT_.out (by kernel_rfl)) (fun _ _ _ h=>h) (Or.inl ⟨by rfl,?_⟩) ?_ ?_
      rotate_left
      ·intro w'
       go_simp
       with_reducible rfl
      rotate_left
      ·simp only [Act.put,sA_,sB_,sC_,i64_w,i32_w]
       rfl
      refine pure_ (i:=2) (N:=some 38) (v:=?_) (a':=?_) #[true,true,true,false,false,false,false,false,false,false,false,false,false,false,false,false,false,false,false,false,false,false,false,false,false,false,false,false,false,false,false] rfl rfl (any_of HT_.out (by kernel_rfl)) (fun _ _ _ h=>h) (Or.inl ⟨by rfl,?_⟩) ?_ ?_
      rotate_left
      ·intro w'
       go_simp
       with_reducible rfl
      rotate_left
      ·simp only [Act.put,sA_,sB_,sC_,i64_w,i32_w]
       rfl
      refine pure_ (i:=3) (N:=some 39) (v:=?_) (a':=?_) #[true,true,true,true,false,false,false,false,false,false,false,false,false,false,false,false,false,false,false,false,false,false,false,false,false,false,false,false,false,false,false] rfl rfl (any_of HT_.out (by kernel_rfl)) (fun _ _ _ h=>h) (Or.inl ⟨by rfl,?_⟩) ?_ ?_
      rotate_left
      ·intro w'
       go_simp
       with_reducible rfl
      rotate_left
      ·simp only [Act.put,sA_,sB_,sC_,i64_w,i32_w]
       rfl
      refine pure_ (i:=4) (N:=some 40) (v:=?_) (a':=?_) #[true,true,true,true,true,false,false,false,false,false,false,false,false,false,false,false,false,false,false,false,false,false,false,false,false,false,false,false,false,false,false] rfl rfl (any_of HT_.out (by kernel_rfl)) (fun _ _ _ h=>h) (Or.inl ⟨by rfl,?_⟩) ?_ ?_
      rotate_left
      ·intro w'
       go_simp
       with_reducible rfl
      rotate_left
      ·simp only [Act.put,sA_,sB_,sC_,i64_w,i32_w]
       rfl
      refine pure_ (i:=5) (N:=some 41) (v:=?_) (a':=?_) #[true,true,true,true,true,true,false,false,false,false,false,false,false,false,false,false,false,false,false,false,false,false,false,false,false,false,false,false,false,false,false] rfl rfl (any_of HT_.out (by kernel_rfl)) (fun _ _ _ h=>h) (Or.inl ⟨by rfl,?_⟩) ?_ ?_
      rotate_left
      ·intro w'
       go_simp
       with_reducible rfl
      rotate_left
      ·simp only [Act.put,sA_,sB_,sC_,i64_w,i32_w]
       rfl
      refine pure_ (i:=6) (N:=some 42) (v:=?_) (a':=?_) #[true,true,true,true,true,true,true,false,false,false,false,false,false,false,false,false,false,false,false,false,false,false,false,false,false,false,false,false,false,false,false] rfl rfl (any_of HT_.out (by kernel_rfl)) (fun _ _ _ h=>h) (Or.inl ⟨by rfl,?_⟩) ?_ ?_
      rotate_left
      ·intro w'
       go_simp
       with_reducible rfl
      rotate_left
      ·simp only [Act.put,sA_,sB_,sC_,i64_w,i32_w]
       rfl
      refine pure_ (i:=7) (N:=some 43) (v:=?_) (a':=?_) #[true,true,true,true,true,true,true,true,false,false,false,false,false,false,false,false,false,false,false,false,false,false,false,false,false,false,false,false,false,false,false] rfl rfl (any_of HT_.out (by kernel_rfl)) (fun _ _ _ h=>h) (Or.inl ⟨by rfl,?_⟩) ?_ ?_
      rotate_left
      ·intro w'
       go_simp
       with_reducible rfl
      rotate_left
      ·simp only [Act.put,sA_,sB_,sC_,i64_w,i32_w]
       rfl
      refine pure_ (i:=8) (N:=some 44) (v:=?_) (a':=?_) #[true,true,true,true,true,true,true,true,true,false,false,false,false,false,false,false,false,false,false,false,false,false,false,false,false,false,false,false,false,false,false] rfl rfl (any_of HT_.out (by kernel_rfl)) (fun _ _ _ h=>h) (Or.inl ⟨by rfl,?_⟩) ?_ ?_
      rotate_left
      ·intro w'
       go_simp
       with_reducible rfl
      rotate_left
      ·simp only [Act.put,sA_,sB_,sC_,i64_w,i32_w]
       rfl
      refine pure_ (i:=9) (N:=some 45) (v:=?_) (a':=?_) #[true,true,true,true,true,true,true,true,true,true,false,false,false,false,false,false,false,false,false,false,false,false,false,false,false,false,false,false,false,false,false] rfl rfl (any_of HT_.out (by kernel_rfl)) (fun _ _ _ h=>h) (Or.inl ⟨by rfl,?_⟩) ?_ ?_
      rotate_left
      ·intro w'
       go_simp
       with_reducible rfl
      rotate_left
      ·simp only [Act.put,sA_,sB_,sC_,i64_w,i32_w]
       rfl
      refine pure_ (i:=10) (N:=some 46) (v:=?_) (a':=?_) #[true,true,true,true,true,true,true,true,true,true,true,false,false,false,false,false,false,false,false,false,false,false,false,false,false,false,false,false,false,false,false] rfl rfl (any_of HT_.out (by kernel_rfl)) (fun _ _ _ h=>h) (Or.inl ⟨by rfl,?_⟩) ?_ ?_
      rotate_left
      ·intro w'
       go_simp
       with_reducible rfl
      rotate_left
      ·simp only [Act.put,sA_,sB_,sC_,i64_w,i32_w]
       rfl
      refine pure_ (i:=11) (N:=some 47) (v:=?_) (a':=?_) #[true,true,true,true,true,true,true,true,true,true,true,true,false,false,false,false,false,false,false,false,false,false,false,false,false,false,false,false,false,false,false] rfl rfl (any_of HT_.out (by kernel_rfl)) (fun _ _ _ h=>h) (Or.inl ⟨by rfl,?_⟩) ?_ ?_
      rotate_left
      ·intro w'
       go_simp
       with_reducible rfl
      rotate_left
      ·simp only [Act.put,sA_,sB_,sC_,i64_w,i32_w]
       rfl
      refine pure_ (i:=12) (N:=some 48) (v:=?_) (a':=?_) #[true,true,true,true,true,true,true,true,true,true,true,true,true,false,false,false,false,false,false,false,false,false,false,false,false,false,false,false,false,false,false] rfl rfl (any_of HT_.out (by kernel_rfl)) (fun _ _ _ h=>h) (Or.inl ⟨by rfl,?_⟩) ?_ ?_
      rotate_left
      ·intro w'
       go_simp
       with_reducible rfl
      rotate_left
      ·simp only [Act.put,sA_,sB_,sC_,i64_w,i32_w]
       rfl
      refine take_ (i:=13) (N:=some 49) (v:=?_) (a':=?_) #[true,true,true,true,true,true,true,true,true,true,true,true,true,true,false,false,false,false,false,false,false,false,false,false,false,false,false,false,false,false,false] rfl rfl (take_ofW HT_.out HW_.out (by kernel_rfl)) (fun _ _ _ h=>h) (Or.inl ⟨by rfl,?_⟩) hHeld ?_ ?_
      rotate_left
      ·rintro w' ⟨s0,s1,s2,s3,s4⟩
       go_simp
       with_reducible rfl
      rotate_left
      ·simp only [Act.put,sA_,sB_,sC_,i64_w,i32_w]
       rfl
      refine take_ (i:=15) (N:=some 51) (v:=?_) (a':=?_) #[true,true,true,true,true,true,true,true,true,true,true,true,true,true,false,true,false,false,false,false,false,false,false,false,false,false,false,false,false,false,false] rfl rfl (take_ofW HT_.out HW_.out (by kernel_rfl)) (fun _ _ _ h=>h) (Or.inl ⟨by rfl,?_⟩) hHeld ?_ ?_
      rotate_left
      ·rintro w' ⟨s0,s1,s2,s3,s4⟩
       go_simp
       with_reducible rfl
      rotate_left
      ·simp only [Act.put,sA_,sB_,sC_,i64_w,i32_w]
       rfl
      refine one_ (i:=14) (N:=some 50) #[true,true,true,true,true,true,true,true,true,true,true,true,true,true,true,true,false,false,false,false,false,false,false,false,false,false,false,false,false,false,false] rfl rfl (one_of HT_.out (by kernel_rfl)) (by decide) (fun K hK=>?_)
      refine goes_ Try.func14 (by kernel_rfl) rfl #[.agg #[.int .u32 a0_0,.int .u64 a0_1,.int .i64 a0_2,.string a0_3,.slice A0_4 l0_4.length c0_4]] (by rfl) rfl rfl (by (try simp only [List.map_toArray,List.map_cons,List.map_nil]);first|done|rfl|(simp only [List.length_drop,List.length_take];rfl)) ?_
      with_reducible refine (page_Room.calls k a0_0 a0_1 a0_2 a0_3 _ _ l0_4 t368 _ ?side1 ?side2 A31.out).mono ?_
      (case side1=>repeat (first|exact (Kd.C_below HR0_4.out HB.out)|(with_reducible refine Kd.C_alloc ?_ _)|(with_reducible refine Kd.C_drewN ?_ _)|(with_reducible refine Kd.C_drew ?_)))
      (case side2=>exact HC0_4.out)
      rintro e w56 ⟨rfl,hb⟩
      refine ⟨_,rfl,?_⟩
      have n0_:=Aside0.mk (Kd.V_below (by (with_reducible repeat (first|apply Kd.V_alloc|apply Kd.V_drewN|apply Kd.V_drew));exact HO346.out) hb)
      have n1_:=Aside0.mk (Kd.R_below (by (with_reducible repeat (first|apply Kd.R_alloc|apply Kd.R_drewN|apply Kd.R_drew));exact HO355.out) hb)
      have n2_:=Aside0.mk (Kd.R_below (by (with_reducible repeat (first|apply Kd.R_alloc|apply Kd.R_drewN|apply Kd.R_drew));exact HO364.out) hb)
      have n3_:=Aside0.mk (blk_below (g:=gb337) (o:=.cells #[.int .u32 a0_0,.int .u64 a0_1,.int .i64 a0_2,.string a0_3,.slice A0_4 l0_4.length c0_4] 28 (0,0)) (by (with_reducible repeat (first|refine blk_drewN ?_ _|refine blk_drew ?_|refine blk_alloc ?_ _));exact BK337.out) hb)
      have n4_:=Aside0.mk (blk_below (g:=gb357) (o:=.cells #[.int .u32 t349,.int .u64 t350,.int .i64 t351,.string t352,.slice Ao20 t353.length co20] 28 (0,0)) (by (with_reducible repeat (first|refine blk_drewN ?_ _|refine blk_drew ?_|refine blk_alloc ?_ _));exact BK357.out) hb)
      have n5_:=Aside0.mk (blk_below (g:=gb366) (o:=.cells #[.int .u32 t358,.int .u64 t359,.int .i64 t360,.string t361,.slice Ao26 t362.length co26] 35 (0,0)) (by (with_reducible repeat (first|refine blk_drewN ?_ _|refine blk_drew ?_|refine blk_alloc ?_ _));exact BK366.out) hb)
      have n6_:=Aside0.mk (below_step (by repeat (first|(with_reducible first|exact HB.out|apply below_alloc|apply pw_below_drewN|apply below_drew1|refine below_set ?_ GE337.out|refine below_set ?_ GE357.out|refine below_set ?_ GE366.out)|exact HB.out)) hb)
      clear HO346
      clear HO355
      clear HO364
      clear BK337
      clear BK357
      clear BK366
      clear HB
      have HO346:=n0_
      have HO355:=n1_
      have HO364:=n2_
      have BK337:=n3_
      have BK357:=n4_
      have BK366:=n5_
      have HB:=n6_
      clear n0_ n1_ n2_ n3_ n4_ n5_ n6_
      (try clear hb)
      (try clear hb2)
      (try clear hk)
      (try clear hi)
      refine hK.out _ _ ⟨(blk_cell BK337.out 0).trans rfl,(blk_cell BK337.out 1).trans rfl,(blk_cell BK337.out 2).trans rfl,(blk_cell BK337.out 3).trans rfl,(blk_cell BK337.out 4).trans rfl⟩ (fun hHeld=>?_)
      clear hK K
      refine norm_ (a':=?_) ?_ ?_
      rotate_left
      ·show Act.put _ (some 50) _=_
       simp only [Act.put,sA_,sB_,sC_,i64_w,i32_w]
       rfl
      refine one_ (i:=16) (N:=some 52) #[true,true,true,true,true,true,true,true,true,true,true,true,true,true,true,true,true,false,false,false,false,false,false,false,false,false,false,false,false,false,false] rfl rfl (one_of HT_.out (by kernel_rfl)) (by decide) (fun K hK=>?_)
      refine goes_ Try.func10 (by kernel_rfl) rfl #[.agg #[.int .u32 a0_0,.int .u64 a0_1,.int .i64 a0_2,.string a0_3,.slice A0_4 l0_4.length c0_4]] (by rfl) rfl rfl (by (try simp only [List.map_toArray,List.map_cons,List.map_nil]);first|done|rfl|(simp only [List.length_drop,List.length_take];rfl)) ?_
      with_reducible refine (girderlaw03_ref.calls a0_0 a0_1 a0_2 a0_3 (fun k_=>k_ < w.heap.size) _ _ l0_4 t369 t370 t371 t372 t373 _ ?side1 A32.out).mono ?_
      (case side1=>exact Kd.V_mk HC0_4.out (Kd.F_below (Kd.C_F Kd.heap_string HR0_4.out) (by repeat (first|(with_reducible first|exact HB.out|apply below_alloc|apply pw_below_drewN|apply below_drew1|refine below_set ?_ GE337.out|refine below_set ?_ GE357.out|refine below_set ?_ GE366.out)|exact HB.out))))
      rintro e w57 ⟨v374,rfl,ho0,hb⟩
      refine ⟨_,rfl,?_⟩
      have n0_:=Aside0.mk (Kd.V_below (by (with_reducible repeat (first|apply Kd.V_alloc|apply Kd.V_drewN|apply Kd.V_drew));exact HO346.out) hb)
      have n1_:=Aside0.mk (Kd.R_below (by (with_reducible repeat (first|apply Kd.R_alloc|apply Kd.R_drewN|apply Kd.R_drew));exact HO355.out) hb)
      have n2_:=Aside0.mk (Kd.R_below (by (with_reducible repeat (first|apply Kd.R_alloc|apply Kd.R_drewN|apply Kd.R_drew));exact HO364.out) hb)
      have n3_:=Aside0.mk (Kd.V_lower (Kd.V_mono (ok':=fun k_=>some k_≠(.slice Ao20 t353.length co20 : Value).ownBlock∧some k_≠(.slice Ao26 t362.length co26 : Value).ownBlock∧k_≠gb337∧k_≠gb357∧k_≠gb366) ho0 (fun k_ hk_=>⟨Or.elim hk_ (fun hs_=>fun e_=>Nat.not_le.2 hs_ (Kd.R_base HO355.out k_ e_.symm)) (fun hn_=>(Kd.fresh' (Kd.R_lt (by (with_reducible repeat (first|apply Kd.R_alloc|apply Kd.R_drewN|apply Kd.R_drew));exact HO355.out)) k_ hn_)),Or.elim hk_ (fun hs_=>fun e_=>Nat.not_le.2 hs_ (Kd.R_base HO364.out k_ e_.symm)) (fun hn_=>(Kd.fresh' (Kd.R_lt (by (with_reducible repeat (first|apply Kd.R_alloc|apply Kd.R_drewN|apply Kd.R_drew));exact HO364.out)) k_ hn_)),Or.elim hk_ (fun hs_=>fun e_=>Nat.not_le.2 hs_ (by rw [e_];exact GW337.out)) (fun hn_=>(Kd.freshB (g:=gb337) (o:=.cells #[.int .u32 a0_0,.int .u64 a0_1,.int .i64 a0_2,.string a0_3,.slice A0_4 l0_4.length c0_4] 28 (0,0)) (by (with_reducible repeat (first|refine blk_drewN ?_ _|refine blk_drew ?_|refine blk_alloc ?_ _));exact BK337.out) k_ hn_)),Or.elim hk_ (fun hs_=>fun e_=>Nat.not_le.2 hs_ (by rw [e_];exact GW357.out)) (fun hn_=>(Kd.freshB (g:=gb357) (o:=.cells #[.int .u32 t349,.int .u64 t350,.int .i64 t351,.string t352,.slice Ao20 t353.length co20] 28 (0,0)) (by (with_reducible repeat (first|refine blk_drewN ?_ _|refine blk_drew ?_|refine blk_alloc ?_ _));exact BK357.out) k_ hn_)),Or.elim hk_ (fun hs_=>fun e_=>Nat.not_le.2 hs_ (by rw [e_];exact GW366.out)) (fun hn_=>(Kd.freshB (g:=gb366) (o:=.cells #[.int .u32 t358,.int .u64 t359,.int .i64 t360,.string t361,.slice Ao26 t362.length co26] 35 (0,0)) (by (with_reducible repeat (first|refine blk_drewN ?_ _|refine blk_drew ?_|refine blk_alloc ?_ _));exact BK366.out) k_ hn_))⟩)) (below_size (by repeat (first|(with_reducible first|exact HB.out|apply below_alloc|apply pw_below_drewN|apply below_drew1|refine below_set ?_ GE337.out|refine below_set ?_ GE357.out|refine below_set ?_ GE366.out)|exact HB.out))))
      have n4_:=Aside0.mk (blk_below (g:=gb337) (o:=.cells #[.int .u32 a0_0,.int .u64 a0_1,.int .i64 a0_2,.string a0_3,.slice A0_4 l0_4.length c0_4] 28 (0,0)) (by (with_reducible repeat (first|refine blk_drewN ?_ _|refine blk_drew ?_|refine blk_alloc ?_ _));exact BK337.out) hb)
      have n5_:=Aside0.mk (blk_below (g:=gb357) (o:=.cells #[.int .u32 t349,.int .u64 t350,.int .i64 t351,.string t352,.slice Ao20 t353.length co20] 28 (0,0)) (by (with_reducible repeat (first|refine blk_drewN ?_ _|refine blk_drew ?_|refine blk_alloc ?_ _));exact BK357.out) hb)
      have n6_:=Aside0.mk (blk_below (g:=gb366) (o:=.cells #[.int .u32 t358,.int .u64 t359,.int .i64 t360,.string t361,.slice Ao26 t362.length co26] 35 (0,0)) (by (with_reducible repeat (first|refine blk_drewN ?_ _|refine blk_drew ?_|refine blk_alloc ?_ _));exact BK366.out) hb)
      have n7_:=Aside0.mk (below_step (by repeat (first|(with_reducible first|exact HB.out|apply below_alloc|apply pw_below_drewN|apply below_drew1|refine below_set ?_ GE337.out|refine below_set ?_ GE357.out|refine below_set ?_ GE366.out)|exact HB.out)) hb)
      clear HO346
      clear HO355
      clear HO364
      clear BK337
      clear BK357
      clear BK366
      clear HB
      have HO346:=n0_
      have HO355:=n1_
      have HO364:=n2_
      have HO375:=n3_
      have BK337:=n4_
      have BK357:=n5_
      have BK366:=n6_
      have HB:=n7_
      clear n0_ n1_ n2_ n3_ n4_ n5_ n6_ n7_
      (try clear hb)
      (try clear hb2)
      (try clear hk)
      (try clear hi)
      (try clear ho0)
      obtain ⟨Ao58,co58,eo58⟩:=Kd.V_slice HO375.out
      (first|subst eo58|(injection eo58 with f1_ f2_ f3_;have f4_:=f1_.symm;have f5_:=f3_.symm;clear f1_ f2_ f3_;subst f4_;subst f5_))
      refine hK.out _ _ ⟨(blk_cell BK337.out 0).trans rfl,(blk_cell BK337.out 1).trans rfl,(blk_cell BK337.out 2).trans rfl,(blk_cell BK337.out 3).trans rfl,(blk_cell BK337.out 4).trans rfl⟩ (fun hHeld=>?_)
      clear hK K
      refine norm_ (a':=?_) ?_ ?_
      rotate_left
      ·show Act.put _ (some 52) _=_
       simp only [Act.put,sA_,sB_,sC_,i64_w,i32_w]
       rfl
      refine one_ (i:=17) (N:=some 53) #[true,true,true,true,true,true,true,true,true,true,true,true,true,true,true,true,true,true,false,false,false,false,false,false,false,false,false,false,false,false,false] rfl rfl (one_of HT_.out (by kernel_rfl)) (by decide) (fun K hK=>?_)
      refine goes_ Try.func15 (by kernel_rfl) rfl #[.agg #[.int .u32 t369,.int .u64 t370,.int .i64 t371,.string t372,.slice Ao58 t373.length co58]] (by rfl) rfl rfl (by (try simp only [List.map_toArray,List.map_cons,List.map_nil]);first|done|rfl|(simp only [List.length_drop,List.length_take];rfl)) ?_
      with_reducible refine (girderref03_Room.calls k t369 t370 t371 t372 _ _ t373 t376 _ ?side1 ?side2 A33.out).mono ?_
      (case side1=>repeat (first|exact (Kd.V_reads' HO375.out).2.2|(with_reducible refine Kd.C_alloc ?_ _)|(with_reducible refine Kd.C_drewN ?_ _)|(with_reducible refine Kd.C_drew ?_)))
      (case side2=>exact (Kd.V_reads' HO375.out).2.1)
      rintro e w59 ⟨rfl,hb⟩
      refine ⟨_,rfl,?_⟩
      have n0_:=Aside0.mk (Kd.V_below (by (with_reducible repeat (first|apply Kd.V_alloc|apply Kd.V_drewN|apply Kd.V_drew));exact HO346.out) hb)
      have n1_:=Aside0.mk (Kd.R_below (by (with_reducible repeat (first|apply Kd.R_alloc|apply Kd.R_drewN|apply Kd.R_drew));exact HO355.out) hb)
      have n2_:=Aside0.mk (Kd.R_below (by (with_reducible repeat (first|apply Kd.R_alloc|apply Kd.R_drewN|apply Kd.R_drew));exact HO364.out) hb)
      have n3_:=Aside0.mk (Kd.V_below (by (with_reducible repeat (first|apply Kd.V_alloc|apply Kd.V_drewN|apply Kd.V_drew));exact HO375.out) hb)
      have n4_:=Aside0.mk (blk_below (g:=gb337) (o:=.cells #[.int .u32 a0_0,.int .u64 a0_1,.int .i64 a0_2,.string a0_3,.slice A0_4 l0_4.length c0_4] 28 (0,0)) (by (with_reducible repeat (first|refine blk_drewN ?_ _|refine blk_drew ?_|refine blk_alloc ?_ _));exact BK337.out) hb)
      have n5_:=Aside0.mk (blk_below (g:=gb357) (o:=.cells #[.int .u32 t349,.int .u64 t350,.int .i64 t351,.string t352,.slice Ao20 t353.length co20] 28 (0,0)) (by (with_reducible repeat (first|refine blk_drewN ?_ _|refine blk_drew ?_|refine blk_alloc ?_ _));exact BK357.out) hb)
      have n6_:=Aside0.mk (blk_below (g:=gb366) (o:=.cells #[.int .u32 t358,.int .u64 t359,.int .i64 t360,.string t361,.slice Ao26 t362.length co26] 35 (0,0)) (by (with_reducible repeat (first|refine blk_drewN ?_ _|refine blk_drew ?_|refine blk_alloc ?_ _));exact BK366.out) hb)
      have n7_:=Aside0.mk (below_step (by repeat (first|(with_reducible first|exact HB.out|apply below_alloc|apply pw_below_drewN|apply below_drew1|refine below_set ?_ GE337.out|refine below_set ?_ GE357.out|refine below_set ?_ GE366.out)|exact HB.out)) hb)
      clear HO346
      clear HO355
      clear HO364
      clear HO375
      clear BK337
      clear BK357
      clear BK366
      clear HB
      have HO346:=n0_
      have HO355:=n1_
      have HO364:=n2_
      have HO375:=n3_
      have BK337:=n4_
      have BK357:=n5_
      have BK366:=n6_
      have HB:=n7_
      clear n0_ n1_ n2_ n3_ n4_ n5_ n6_ n7_
      (try clear hb)
      (try clear hb2)
      (try clear hk)
      (try clear hi)
      refine hK.out _ _ ⟨(blk_cell BK337.out 0).trans rfl,(blk_cell BK337.out 1).trans rfl,(blk_cell BK337.out 2).trans rfl,(blk_cell BK337.out 3).trans rfl,(blk_cell BK337.out 4).trans rfl⟩ (fun hHeld=>?_)
      clear hK K
      refine norm_ (a':=?_) ?_ ?_
      rotate_left
      ·show Act.put _ (some 53) _=_
       simp only [Act.put,sA_,sB_,sC_,i64_w,i32_w]
       rfl
      refine pure_ (i:=18) (N:=some 54) (v:=?_) (a':=?_) #[true,true,true,true,true,true,true,true,true,true,true,true,true,true,true,true,true,true,true,false,false,false,false,false,false,false,false,false,false,false,false] rfl rfl (any_of HT_.out (by kernel_rfl)) (fun _ _ _ h=>h) (Or.inl ⟨by rfl,?_⟩) ?_ ?_
      rotate_left
      ·intro w'
       go_simp
       with_reducible rfl
      rotate_left
      ·simp only [Act.put,sA_,sB_,sC_,i64_w,i32_w]
       rfl
      refine pure_ (i:=19) (N:=some 55) (v:=?_) (a':=?_) #[true,true,true,true,true,true,true,true,true,true,true,true,true,true,true,true,true,true,true,true,false,false,false,false,false,false,false,false,false,false,false] rfl rfl (any_of HT_.out (by kernel_rfl)) (fun _ _ _ h=>h) (Or.inl ⟨by rfl,?_⟩) ?_ ?_
      rotate_left
      ·intro w'
       go_simp
       with_reducible rfl
      rotate_left
      ·simp only [Act.put,sA_,sB_,sC_,i64_w,i32_w]
       rfl
      refine pure_ (i:=20) (N:=some 56) (v:=?_) (a':=?_) #[true,true,true,true,true,true,true,true,true,true,true,true,true,true,true,true,true,true,true,true,true,false,false,false,false,false,false,false,false,false,false] rfl rfl (any_of HT_.out (by kernel_rfl)) (fun _ _ _ h=>h) (Or.inl ⟨by rfl,?_⟩) ?_ ?_
      rotate_left
      ·intro w'
       go_simp
       with_reducible rfl
      rotate_left
      ·simp only [Act.put,sA_,sB_,sC_,i64_w,i32_w]
       rfl
      refine pure_ (i:=21) (N:=some 57) (v:=undef) (a':=?_) #[true,true,true,true,true,true,true,true,true,true,true,true,true,true,true,true,true,true,true,true,true,true,false,false,false,false,false,false,false,false,false] rfl rfl (any_of HT_.out (by kernel_rfl)) (fun _ _ _ h=>h) (Or.inr ⟨by rfl,rfl⟩) ?_ ?_
      rotate_left
      ·simp only [Act.put,sA_,sB_,sC_,i64_w,i32_w]
       rfl
      refine pure_ (i:=22) (N:=some 58) (v:=undef) (a':=?_) #[true,true,true,true,true,true,true,true,true,true,true,true,true,true,true,true,true,true,true,true,true,true,true,false,false,false,false,false,false,false,false] rfl rfl (any_of HT_.out (by kernel_rfl)) (fun _ _ _ h=>h) (Or.inr ⟨by rfl,rfl⟩) ?_ ?_
      rotate_left
      ·simp only [Act.put,sA_,sB_,sC_,i64_w,i32_w]
       rfl
      refine pure_ (i:=23) (N:=some 59) (v:=undef) (a':=?_) #[true,true,true,true,true,true,true,true,true,true,true,true,true,true,true,true,true,true,true,true,true,true,true,true,false,false,false,false,false,false,false] rfl rfl (any_of HT_.out (by kernel_rfl)) (fun _ _ _ h=>h) (Or.inr ⟨by rfl,rfl⟩) ?_ ?_
      rotate_left
      ·simp only [Act.put,sA_,sB_,sC_,i64_w,i32_w]
       rfl
      refine pure_ (i:=24) (N:=some 60) (v:=undef) (a':=?_) #[true,true,true,true,true,true,true,true,true,true,true,true,true,true,true,true,true,true,true,true,true,true,true,true,true,false,false,false,false,false,false] rfl rfl (any_of HT_.out (by kernel_rfl)) (fun _ _ _ h=>h) (Or.inr ⟨by rfl,rfl⟩) ?_ ?_
      rotate_left
      ·simp only [Act.put,sA_,sB_,sC_,i64_w,i32_w]
       rfl
      refine pure_ (i:=25) (N:=some 61) (v:=?_) (a':=?_) #[true,true,true,true,true,true,true,true,true,true,true,true,true,true,true,true,true,true,true,true,true,true,true,true,true,true,false,false,false,false,false] rfl rfl (any_of HT_.out (by kernel_rfl)) (fun _ _ _ h=>h) (Or.inl ⟨by rfl,?_⟩) ?_ ?_
      rotate_left
      ·intro w'
       go_simp
       with_reducible rfl
      rotate_left
      ·simp only [Act.put,sA_,sB_,sC_,i64_w,i32_w]
       rfl
      refine pure_ (i:=26) (N:=some 62) (v:=?_) (a':=?_) #[true,true,true,true,true,true,true,true,true,true,true,true,true,true,true,true,true,true,true,true,true,true,true,true,true,true,true,false,false,false,false] rfl rfl (any_of HT_.out (by kernel_rfl)) (fun _ _ _ h=>h) (Or.inl ⟨by rfl,?_⟩) ?_ ?_
      rotate_left
      ·intro w'
       go_simp
       with_reducible rfl
      rotate_left
      ·simp only [Act.put,sA_,sB_,sC_,i64_w,i32_w]
       rfl
      refine pure_ (i:=27) (N:=some 63) (v:=undef) (a':=?_) #[true,true,true,true,true,true,true,true,true,true,true,true,true,true,true,true,true,true,true,true,true,true,true,true,true,true,true,true,false,false,false] rfl rfl (any_of HT_.out (by kernel_rfl)) (fun _ _ _ h=>h) (Or.inr ⟨by rfl,rfl⟩) ?_ ?_
      rotate_left
      ·simp only [Act.put,sA_,sB_,sC_,i64_w,i32_w]
       rfl
      refine pure_ (i:=28) (N:=some 64) (v:=undef) (a':=?_) #[true,true,true,true,true,true,true,true,true,true,true,true,true,true,true,true,true,true,true,true,true,true,true,true,true,true,true,true,true,false,false] rfl rfl (any_of HT_.out (by kernel_rfl)) (fun _ _ _ h=>h) (Or.inr ⟨by rfl,rfl⟩) ?_ ?_
      rotate_left
      ·simp only [Act.put,sA_,sB_,sC_,i64_w,i32_w]
       rfl
      refine pure_ (i:=29) (N:=some 65) (v:=undef) (a':=?_) #[true,true,true,true,true,true,true,true,true,true,true,true,true,true,true,true,true,true,true,true,true,true,true,true,true,true,true,true,true,true,false] rfl rfl (any_of HT_.out (by kernel_rfl)) (fun _ _ _ h=>h) (Or.inr ⟨by rfl,rfl⟩) ?_ ?_
      rotate_left
      ·simp only [Act.put,sA_,sB_,sC_,i64_w,i32_w]
       rfl
      refine pure_ (i:=30) (N:=some 66) (v:=?_) (a':=?_) #[true,true,true,true,true,true,true,true,true,true,true,true,true,true,true,true,true,true,true,true,true,true,true,true,true,true,true,true,true,true,true] rfl rfl (any_of HT_.out (by kernel_rfl)) (fun _ _ _ h=>h) (Or.inl ⟨by rfl,?_⟩) ?_ ?_
      rotate_left
      ·intro w'
       go_simp
       with_reducible rfl
      rotate_left
      ·simp only [Act.put,sA_,sB_,sC_,i64_w,i32_w]
       rfl
      refine done_ (done_of HT_.out (by kernel_rfl)) ?_
      try go_wp2
      go_meet
      case rel=>exact ⟨_,(true),(by first|rfl|(simp;done)|(simp [*];done)),H',⟨by first|omega|exact Nat.le_refl _⟩,⟨by (with_reducible repeat (first|apply Kd.R_alloc|apply Kd.R_drewN|apply Kd.R_drew));exact HO355.out⟩,⟨by (with_reducible repeat (first|apply Kd.R_alloc|apply Kd.R_drewN|apply Kd.R_drew));exact HO364.out⟩,⟨by (with_reducible repeat (first|refine blk_drewN ?_ _|refine blk_drew ?_|refine blk_alloc ?_ _));exact BK337.out⟩,⟨by (with_reducible repeat (first|refine blk_drewN ?_ _|refine blk_drew ?_|refine blk_alloc ?_ _));exact BK357.out⟩,⟨by (with_reducible repeat (first|refine blk_drewN ?_ _|refine blk_drew ?_|refine blk_alloc ?_ _));exact BK366.out⟩,⟨by repeat (first|(with_reducible first|exact HB.out|apply below_alloc|apply pw_below_drewN|apply below_drew1|refine below_set ?_ GE337.out|refine below_set ?_ GE357.out|refine below_set ?_ GE366.out)|exact HB.out)⟩⟩
    ·rw [if_neg c30] at H
     have c30b0 : (t339 == t348)=false:=beq_eq_false_iff_ne.mpr c30
     have c30b1 : (t339 != t348)=true:=bne_iff_ne.mpr c30
     have H':=Aside0.mk H
     clear H
     try go_wp2
     have n0_ : Aside0 (Kd.V Kd.string 9 (((((w22.setCell ⟨gb366,0,none⟩ (.int .u32 t358)).setCell ⟨gb366,1,none⟩ (.int .u64 t359)).setCell ⟨gb366,2,none⟩ (.int .i64 t360)).setCell ⟨gb366,3,none⟩ (.string t361)).setCell ⟨gb366,4,none⟩ (.slice Ao26 t362.length co26)) w.heap.size (fun k_=>some k_≠(.slice Ao20 t353.length co20 : Value).ownBlock∧some k_≠(.slice Ao26 t362.length co26 : Value).ownBlock∧k_≠gb337∧k_≠gb357∧k_≠gb366) (.slice Ao14 t344.length co14) t344):=⟨by (with_reducible repeat (first|apply Kd.V_alloc|apply Kd.V_drewN|apply Kd.V_drew));exact Kd.V_mono (Kd.V_far (p:=⟨gb366,4,none⟩) (Kd.V_far (p:=⟨gb366,3,none⟩) (Kd.V_far (p:=⟨gb366,2,none⟩) (Kd.V_far (p:=⟨gb366,1,none⟩) (Kd.V_far (p:=⟨gb366,0,none⟩) (Kd.V_mono HO346.out (fun k_ hk=>(⟨hk,hk.2⟩ : _∧k_≠gb366))) (fun _ hk=>hk.2) (.int .u32 t358)) (fun _ hk=>hk.2) (.int .u64 t359)) (fun _ hk=>hk.2) (.int .i64 t360)) (fun _ hk=>hk.2) (.string t361)) (fun _ hk=>hk.2) (.slice Ao26 t362.length co26)) (fun _ hk=>⟨hk.1.1.1.1.2,⟨hk.1.1.2,⟨hk.1.1.1.1.1,⟨hk.1.1.1.2,hk.1.2⟩⟩⟩⟩)⟩
     have n1_ : Aside0 (Kd.R Kd.string 9 (((((w22.setCell ⟨gb366,0,none⟩ (.int .u32 t358)).setCell ⟨gb366,1,none⟩ (.int .u64 t359)).setCell ⟨gb366,2,none⟩ (.int .i64 t360)).setCell ⟨gb366,3,none⟩ (.string t361)).setCell ⟨gb366,4,none⟩ (.slice Ao26 t362.length co26)) w.heap.size (fun k_=>some k_≠(.slice Ao26 t362.length co26 : Value).ownBlock) (.slice Ao20 t353.length co20) t353):=⟨by (with_reducible repeat (first|apply Kd.R_alloc|apply Kd.R_drewN|apply Kd.R_drew));exact Kd.R_mono (Kd.R_far (p:=⟨gb366,4,none⟩) (Kd.R_far (p:=⟨gb366,3,none⟩) (Kd.R_far (p:=⟨gb366,2,none⟩) (Kd.R_far (p:=⟨gb366,1,none⟩) (Kd.R_far (p:=⟨gb366,0,none⟩) (Kd.R_types HO355.out BK366.out (by decide)) (fun _ hk=>hk.2) (.int .u32 t358)) (fun _ hk=>hk.2) (.int .u64 t359)) (fun _ hk=>hk.2) (.int .i64 t360)) (fun _ hk=>hk.2) (.string t361)) (fun _ hk=>hk.2) (.slice Ao26 t362.length co26)) (fun _ hk=>hk.1.2)⟩
     have n2_ : Aside0 (Kd.R Kd.string 9 (((((w22.setCell ⟨gb366,0,none⟩ (.int .u32 t358)).setCell ⟨gb366,1,none⟩ (.int .u64 t359)).setCell ⟨gb366,2,none⟩ (.int .i64 t360)).setCell ⟨gb366,3,none⟩ (.string t361)).setCell ⟨gb366,4,none⟩ (.slice Ao26 t362.length co26)) w.heap.size (fun k_=>some k_≠(.slice Ao20 t353.length co20 : Value).ownBlock) (.slice Ao26 t362.length co26) t362):=⟨by (with_reducible repeat (first|apply Kd.R_alloc|apply Kd.R_drewN|apply Kd.R_drew));exact Kd.R_mono (Kd.R_far (p:=⟨gb366,4,none⟩) (Kd.R_far (p:=⟨gb366,3,none⟩) (Kd.R_far (p:=⟨gb366,2,none⟩) (Kd.R_far (p:=⟨gb366,1,none⟩) (Kd.R_far (p:=⟨gb366,0,none⟩) (Kd.R_types HO364.out BK366.out (by decide)) (fun _ hk=>hk.2) (.int .u32 t358)) (fun _ hk=>hk.2) (.int .u64 t359)) (fun _ hk=>hk.2) (.int .i64 t360)) (fun _ hk=>hk.2) (.string t361)) (fun _ hk=>hk.2) (.slice Ao26 t362.length co26)) (fun _ hk=>hk.1.2)⟩
     have n3_ : Aside0 ((((((w22.setCell ⟨gb366,0,none⟩ (.int .u32 t358)).setCell ⟨gb366,1,none⟩ (.int .u64 t359)).setCell ⟨gb366,2,none⟩ (.int .i64 t360)).setCell ⟨gb366,3,none⟩ (.string t361)).setCell ⟨gb366,4,none⟩ (.slice Ao26 t362.length co26)).heap[gb337]?=some (.cells #[.int .u32 a0_0,.int .u64 a0_1,.int .i64 a0_2,.string a0_3,.slice A0_4 l0_4.length c0_4] 28 (0,0))):=⟨by (with_reducible repeat (first|refine blk_drewN ?_ _|refine blk_drew ?_|refine blk_alloc ?_ _));refine blk_far ?_ NB337_366.out _;(with_reducible repeat (first|refine blk_drewN ?_ _|refine blk_drew ?_|refine blk_alloc ?_ _));refine blk_far ?_ NB337_366.out _;(with_reducible repeat (first|refine blk_drewN ?_ _|refine blk_drew ?_|refine blk_alloc ?_ _));refine blk_far ?_ NB337_366.out _;(with_reducible repeat (first|refine blk_drewN ?_ _|refine blk_drew ?_|refine blk_alloc ?_ _));refine blk_far ?_ NB337_366.out _;(with_reducible repeat (first|refine blk_drewN ?_ _|refine blk_drew ?_|refine blk_alloc ?_ _));refine blk_far ?_ NB337_366.out _;(with_reducible repeat (first|refine blk_drewN ?_ _|refine blk_drew ?_|refine blk_alloc ?_ _));exact BK337.out⟩
     have n4_ : Aside0 ((((((w22.setCell ⟨gb366,0,none⟩ (.int .u32 t358)).setCell ⟨gb366,1,none⟩ (.int .u64 t359)).setCell ⟨gb366,2,none⟩ (.int .i64 t360)).setCell ⟨gb366,3,none⟩ (.string t361)).setCell ⟨gb366,4,none⟩ (.slice Ao26 t362.length co26)).heap[gb357]?=some (.cells #[.int .u32 t349,.int .u64 t350,.int .i64 t351,.string t352,.slice Ao20 t353.length co20] 28 (0,0))):=⟨by (with_reducible repeat (first|refine blk_drewN ?_ _|refine blk_drew ?_|refine blk_alloc ?_ _));refine blk_far ?_ NB357_366.out _;(with_reducible repeat (first|refine blk_drewN ?_ _|refine blk_drew ?_|refine blk_alloc ?_ _));refine blk_far ?_ NB357_366.out _;(with_reducible repeat (first|refine blk_drewN ?_ _|refine blk_drew ?_|refine blk_alloc ?_ _));refine blk_far ?_ NB357_366.out _;(with_reducible repeat (first|refine blk_drewN ?_ _|refine blk_drew ?_|refine blk_alloc ?_ _));refine blk_far ?_ NB357_366.out _;(with_reducible repeat (first|refine blk_drewN ?_ _|refine blk_drew ?_|refine blk_alloc ?_ _));refine blk_far ?_ NB357_366.out _;(with_reducible repeat (first|refine blk_drewN ?_ _|refine blk_drew ?_|refine blk_alloc ?_ _));exact BK357.out⟩
     have n5_ : Aside0 ((((((w22.setCell ⟨gb366,0,none⟩ (.int .u32 t358)).setCell ⟨gb366,1,none⟩ (.int .u64 t359)).setCell ⟨gb366,2,none⟩ (.int .i64 t360)).setCell ⟨gb366,3,none⟩ (.string t361)).setCell ⟨gb366,4,none⟩ (.slice Ao26 t362.length co26)).heap[gb366]?=some (.cells #[.int .u32 t358,.int .u64 t359,.int .i64 t360,.string t361,.slice Ao26 t362.length co26] 35 (0,0))):=⟨by (with_reducible repeat (first|refine blk_drewN ?_ _|refine blk_drew ?_|refine blk_alloc ?_ _));refine blk_put (cs:=#[.int .u32 t358,.int .u64 t359,.int .i64 t360,.string t361,.slice none 0 0]) ?_ 4 _ rfl;(with_reducible repeat (first|refine blk_drewN ?_ _|refine blk_drew ?_|refine blk_alloc ?_ _));refine blk_put (cs:=#[.int .u32 t358,.int .u64 t359,.int .i64 t360,.string (⟨#[]⟩ : ByteArray),.slice none 0 0]) ?_ 3 _ rfl;(with_reducible repeat (first|refine blk_drewN ?_ _|refine blk_drew ?_|refine blk_alloc ?_ _));refine blk_put (cs:=#[.int .u32 t358,.int .u64 t359,.int .i64 0,.string (⟨#[]⟩ : ByteArray),.slice none 0 0]) ?_ 2 _ rfl;(with_reducible repeat (first|refine blk_drewN ?_ _|refine blk_drew ?_|refine blk_alloc ?_ _));refine blk_put (cs:=#[.int .u32 t358,.int .u64 0,.int .i64 0,.string (⟨#[]⟩ : ByteArray),.slice none 0 0]) ?_ 1 _ rfl;(with_reducible repeat (first|refine blk_drewN ?_ _|refine blk_drew ?_|refine blk_alloc ?_ _));refine blk_put (cs:=#[.int .u32 0,.int .u64 0,.int .i64 0,.string (⟨#[]⟩ : ByteArray),.slice none 0 0]) ?_ 0 _ rfl;(with_reducible repeat (first|refine blk_drewN ?_ _|refine blk_drew ?_|refine blk_alloc ?_ _));exact BK366.out⟩
     have n6_ : Aside0 (Below w.heap.size w (((((w22.setCell ⟨gb366,0,none⟩ (.int .u32 t358)).setCell ⟨gb366,1,none⟩ (.int .u64 t359)).setCell ⟨gb366,2,none⟩ (.int .i64 t360)).setCell ⟨gb366,3,none⟩ (.string t361)).setCell ⟨gb366,4,none⟩ (.slice Ao26 t362.length co26))):=⟨by repeat (first|(with_reducible first|exact HB.out|apply below_alloc|apply pw_below_drewN|apply below_drew1|refine below_set ?_ GE337.out|refine below_set ?_ GE357.out|refine below_set ?_ GE366.out)|exact HB.out)⟩
     (try clear HO346)
     (try clear HO355)
     (try clear HO364)
     (try clear BK337)
     (try clear BK357)
     (try clear BK366)
     (try clear HB)
     generalize (((((w22.setCell ⟨gb366,0,none⟩ (.int .u32 t358)).setCell ⟨gb366,1,none⟩ (.int .u64 t359)).setCell ⟨gb366,2,none⟩ (.int .i64 t360)).setCell ⟨gb366,3,none⟩ (.string t361)).setCell ⟨gb366,4,none⟩ (.slice Ao26 t362.length co26))=w60 at n0_ n1_ n2_ n3_ n4_ n5_ n6_ ⊢
     have HO346:=n0_
     have HO355:=n1_
     have HO364:=n2_
     have BK337:=n3_
     have BK357:=n4_
     have BK366:=n5_
     have HB:=n6_
     clear n0_ n1_ n2_ n3_ n4_ n5_ n6_
     have n0_:=Aside0.mk (Kd.V_drew HO346.out)
     have n1_:=Aside0.mk (Kd.R_drew HO355.out)
     have n2_:=Aside0.mk (Kd.R_drew HO364.out)
     have n3_:=Aside0.mk (blk_drew BK337.out)
     have n4_:=Aside0.mk (blk_drew BK357.out)
     have n5_:=Aside0.mk (blk_drew BK366.out)
     have n6_:=Aside0.mk (below_drew1 HB.out)
     clear HO346
     clear HO355
     clear HO364
     clear BK337
     clear BK357
     clear BK366
     clear HB
     have HO346:=n0_
     have HO355:=n1_
     have HO364:=n2_
     have BK337:=n3_
     have BK357:=n4_
     have BK366:=n5_
     have HB:=n6_
     clear n0_ n1_ n2_ n3_ n4_ n5_ n6_
     refine start_ (n:=31) (S:=fun w'=>True) (ds:=[]) #[false,false,false,false,false,false,false,false,false,false,false,false,false,false,false,false,false,false,false,false,false,false,false,false,false,false,false,false,false,false,false] (by kernel_rfl) rfl rfl trivial (fun hHeld=>?_);refine with_tabW girderlaw03_PageCodes.tab5 girderlaw03_PageCodes.bits5 (fun HT_ HW_=>?_)
     generalize w60.drew=w61 at HO346 HO355 HO364 BK337 BK357 BK366 HB hHeld ⊢
     refine one_ (i:=0) (N:=some 36) #[true,false,false,false,false,false,false,false,false,false,false,false,false,false,false,false,false,false,false,false,false,false,false,false,false,false,false,false,false,false,false] rfl rfl (one_of HT_.out (by kernel_rfl)) (by decide) (fun K hK=>?_)
     refine goes_ Try.func13 (by kernel_rfl) rfl #[] (by rfl) rfl rfl (by (try simp only [List.map_toArray,List.map_cons,List.map_nil]);first|done|rfl|(simp only [List.length_drop,List.length_take];rfl)) ?_
     with_reducible refine (girderlaw03_awake.calls k  true _ A27.out).mono ?_
     rintro e w62 ⟨rfl,hb⟩
     refine ⟨_,rfl,?_⟩
     have n0_:=Aside0.mk (Kd.V_below (by (with_reducible repeat (first|apply Kd.V_alloc|apply Kd.V_drewN|apply Kd.V_drew));exact HO346.out) hb)
     have n1_:=Aside0.mk (Kd.R_below (by (with_reducible repeat (first|apply Kd.R_alloc|apply Kd.R_drewN|apply Kd.R_drew));exact HO355.out) hb)
     have n2_:=Aside0.mk (Kd.R_below (by (with_reducible repeat (first|apply Kd.R_alloc|apply Kd.R_drewN|apply Kd.R_drew));exact HO364.out) hb)
     have n3_:=Aside0.mk (blk_below (g:=gb337) (o:=.cells #[.int .u32 a0_0,.int .u64 a0_1,.int .i64 a0_2,.string a0_3,.slice A0_4 l0_4.length c0_4] 28 (0,0)) (by (with_reducible repeat (first|refine blk_drewN ?_ _|refine blk_drew ?_|refine blk_alloc ?_ _));exact BK337.out) hb)
     have n4_:=Aside0.mk (blk_below (g:=gb357) (o:=.cells #[.int .u32 t349,.int .u64 t350,.int .i64 t351,.string t352,.slice Ao20 t353.length co20] 28 (0,0)) (by (with_reducible repeat (first|refine blk_drewN ?_ _|refine blk_drew ?_|refine blk_alloc ?_ _));exact BK357.out) hb)
     have n5_:=Aside0.mk (blk_below (g:=gb366) (o:=.cells #[.int .u32 t358,.int .u64 t359,.int .i64 t360,.string t361,.slice Ao26 t362.length co26] 35 (0,0)) (by (with_reducible repeat (first|refine blk_drewN ?_ _|refine blk_drew ?_|refine blk_alloc ?_ _));exact BK366.out) hb)
     have n6_:=Aside0.mk (below_step (by repeat (first|(with_reducible first|exact HB.out|apply below_alloc|apply pw_below_drewN|apply below_drew1|refine below_set ?_ GE337.out|refine below_set ?_ GE357.out|refine below_set ?_ GE366.out)|exact HB.out)) hb)
     clear HO346
     clear HO355
     clear HO364
     clear BK337
     clear BK357
     clear BK366
     clear HB
     have HO346:=n0_
     have HO355:=n1_
     have HO364:=n2_
     have BK337:=n3_
     have BK357:=n4_
     have BK366:=n5_
     have HB:=n6_
     clear n0_ n1_ n2_ n3_ n4_ n5_ n6_
     (try clear hb)
     (try clear hb2)
     (try clear hk)
     (try clear hi)
     refine hK.out _ _ trivial (fun hHeld=>?_)
     clear hK K
     refine norm_ (a':=?_) ?_ ?_
     rotate_left
     ·show Act.put _ (some 36) _=_
      simp only [Act.put,sA_,sB_,sC_,i64_w,i32_w]
      rfl
     refine pure_ (i:=1) (N:=some 37) (v:=?_) (a':=?_) #[true,true,false,false,false,false,false,false,false,false,false,false,false,false,false,false,false,false,false,false,false,false,false,false,false,false,false,false,false,false,false] rfl rfl (any_of HT_.out (by kernel_rfl)) (fun _ _ _ h=>h) (Or.inl ⟨by rfl,?_⟩) ?_ ?_
     rotate_left
     ·intro w'
      go_simp
      with_reducible rfl
     rotate_left
     ·simp only [Act.put,sA_,sB_,sC_,i64_w,i32_w]
      rfl
     refine pure_ (i:=2) (N:=some 38) (v:=?_) (a':=?_) #[true,true,true,false,false,false,false,false,false,false,false,false,false,false,false,false,false,false,false,false,false,false,false,false,false,false,false,false,false,false,false] rfl rfl (any_of HT_.out (by kernel_rfl)) (fun _ _ _ h=>h) (Or.inl ⟨by rfl,?_⟩) ?_ ?_
     rotate_left
     ·intro w'
      go_simp
      with_reducible rfl
     rotate_left
     ·simp only [Act.put,sA_,sB_,sC_,i64_w,i32_w]
      rfl
     refine pure_ (i:=3) (N:=some 39) (v:=?_) (a':=?_) #[true,true,true,true,false,false,false,false,false,false,false,false,false,false,false,false,false,false,false,false,false,false,false,false,false,false,false,false,false,false,false] rfl rfl (any_of HT_.out (by kernel_rfl)) (fun _ _ _ h=>h) (Or.inl ⟨by rfl,?_⟩) ?_ ?_
     rotate_left
     ·intro w'
      go_simp
      with_reducible rfl
     rotate_left
     ·simp only [Act.put,sA_,sB_,sC_,i64_w,i32_w]
      rfl
     refine pure_ (i:=4) (N:=some 40) (v:=?_) (a':=?_) #[true,true,true,true,true,false,false,false,false,false,false,false,false,false,false,false,false,false,false,false,false,false,false,false,false,false,false,false,false,false,false] rfl rfl (any_of HT_.out (by kernel_rfl)) (fun _ _ _ h=>h) (Or.inl ⟨by rfl,?_⟩) ?_ ?_
     rotate_left
     ·intro w'
      go_simp
      with_reducible rfl
     rotate_left
     ·simp only [Act.put,sA_,sB_,sC_,i64_w,i32_w]
      rfl
     refine pure_ (i:=5) (N:=some 41) (v:=?_) (a':=?_) #[true,true,true,true,true,true,false,false,false,false,false,false,false,false,false,false,false,false,false,false,false,false,false,false,false,false,false,false,false,false,false] rfl rfl (any_of HT_.out (by kernel_rfl)) (fun _ _ _ h=>h) (Or.inl ⟨by rfl,?_⟩) ?_ ?_
     rotate_left
     ·intro w'
      go_simp
      with_reducible rfl
     rotate_left
     ·simp only [Act.put,sA_,sB_,sC_,i64_w,i32_w]
      rfl
     refine pure_ (i:=6) (N:=some 42) (v:=?_) (a':=?_) #[true,true,true,true,true,true,true,false,false,false,false,false,false,false,false,false,false,false,false,false,false,false,false,false,false,false,false,false,false,false,false] rfl rfl (any_of HT_.out (by kernel_rfl)) (fun _ _ _ h=>h) (Or.inl ⟨by rfl,?_⟩) ?_ ?_
     rotate_left
     ·intro w'
      go_simp
      with_reducible rfl
     rotate_left
     ·simp only [Act.put,sA_,sB_,sC_,i64_w,i32_w]
      rfl
     refine pure_ (i:=7) (N:=some 43) (v:=?_) (a':=?_) #[true,true,true,true,true,true,true,true,false,false,false,false,false,false,false,false,false,false,false,false,false,false,false,false,false,false,false,false,false,false,false] rfl rfl (any_of HT_.out (by kernel_rfl)) (fun _ _ _ h=>h) (Or.inl ⟨by rfl,?_⟩) ?_ ?_
     rotate_left
     ·intro w'
      go_simp
      with_reducible rfl
     rotate_left
     ·simp only [Act.put,sA_,sB_,sC_,i64_w,i32_w]
      rfl
     refine pure_ (i:=8) (N:=some 44) (v:=?_) (a':=?_) #[true,true,true,true,true,true,true,true,true,false,false,false,false,false,false,false,false,false,false,false,false,false,false,false,false,false,false,false,false,false,false] rfl rfl (any_of HT_.out (by kernel_rfl)) (fun _ _ _ h=>h) (Or.inl ⟨by rfl,?_⟩) ?_ ?_
     rotate_left
     ·intro w'
      go_simp
      with_reducible rfl
     rotate_left
     ·simp only [Act.put,sA_,sB_,sC_,i64_w,i32_w]
      rfl
     refine pure_ (i:=9) (N:=some 45) (v:=?_) (a':=?_) #[true,true,true,true,true,true,true,true,true,true,false,false,false,false,false,false,false,false,false,false,false,false,false,false,false,false,false,false,false,false,false] rfl rfl (any_of HT_.out (by kernel_rfl)) (fun _ _ _ h=>h) (Or.inl ⟨by rfl,?_⟩) ?_ ?_
     rotate_left
     ·intro w'
      go_simp
      with_reducible rfl
     rotate_left
     ·simp only [Act.put,sA_,sB_,sC_,i64_w,i32_w]
      rfl
     refine pure_ (i:=10) (N:=some 46) (v:=?_) (a':=?_) #[true,true,true,true,true,true,true,true,true,true,true,false,false,false,false,false,false,false,false,false,false,false,false,false,false,false,false,false,false,false,false] rfl rfl (any_of HT_.out (by kernel_rfl)) (fun _ _ _ h=>h) (Or.inl ⟨by rfl,?_⟩) ?_ ?_
     rotate_left
     ·intro w'
      go_simp
      with_reducible rfl
     rotate_left
     ·simp only [Act.put,sA_,sB_,sC_,i64_w,i32_w]
      rfl
     refine pure_ (i:=11) (N:=some 47) (v:=?_) (a':=?_) #[true,true,true,true,true,true,true,true,true,true,true,true,false,false,false,false,false,false,false,false,false,false,false,false,false,false,false,false,false,false,false] rfl rfl (any_of HT_.out (by kernel_rfl)) (fun _ _ _ h=>h) (Or.inl ⟨by rfl,?_⟩) ?_ ?_
     rotate_left
     ·intro w'
      go_simp
      with_reducible rfl
     rotate_left
     ·simp only [Act.put,sA_,sB_,sC_,i64_w,i32_w]
      rfl
     refine pure_ (i:=12) (N:=some 48) (v:=?_) (a':=?_) #[true,true,true,true,true,true,true,true,true,true,true,true,true,false,false,false,false,false,false,false,false,false,false,false,false,false,false,false,false,false,false] rfl rfl (any_of HT_.out (by kernel_rfl)) (fun _ _ _ h=>h) (Or.inl ⟨by rfl,?_⟩) ?_ ?_
     rotate_left
     ·intro w'
      go_simp
      with_reducible rfl
     rotate_left
     ·simp only [Act.put,sA_,sB_,sC_,i64_w,i32_w]
      rfl
     refine pure_ (i:=13) (N:=some 49) (v:=undef) (a':=?_) #[true,true,true,true,true,true,true,true,true,true,true,true,true,true,false,false,false,false,false,false,false,false,false,false,false,false,false,false,false,false,false] rfl rfl (any_of HT_.out (by kernel_rfl)) (fun _ _ _ h=>h) (Or.inr ⟨by rfl,rfl⟩) ?_ ?_
     rotate_left
     ·simp only [Act.put,sA_,sB_,sC_,i64_w,i32_w]
      rfl
     refine pure_ (i:=14) (N:=some 50) (v:=undef) (a':=?_) #[true,true,true,true,true,true,true,true,true,true,true,true,true,true,true,false,false,false,false,false,false,false,false,false,false,false,false,false,false,false,false] rfl rfl (any_of HT_.out (by kernel_rfl)) (fun _ _ _ h=>h) (Or.inr ⟨by rfl,rfl⟩) ?_ ?_
     rotate_left
     ·simp only [Act.put,sA_,sB_,sC_,i64_w,i32_w]
      rfl
     refine pure_ (i:=15) (N:=some 51) (v:=undef) (a':=?_) #[true,true,true,true,true,true,true,true,true,true,true,true,true,true,true,true,false,false,false,false,false,false,false,false,false,false,false,false,false,false,false] rfl rfl (any_of HT_.out (by kernel_rfl)) (fun _ _ _ h=>h) (Or.inr ⟨by rfl,rfl⟩) ?_ ?_
     rotate_left
     ·simp only [Act.put,sA_,sB_,sC_,i64_w,i32_w]
      rfl
     refine pure_ (i:=16) (N:=some 52) (v:=undef) (a':=?_) #[true,true,true,true,true,true,true,true,true,true,true,true,true,true,true,true,true,false,false,false,false,false,false,false,false,false,false,false,false,false,false] rfl rfl (any_of HT_.out (by kernel_rfl)) (fun _ _ _ h=>h) (Or.inr ⟨by rfl,rfl⟩) ?_ ?_
     rotate_left
     ·simp only [Act.put,sA_,sB_,sC_,i64_w,i32_w]
      rfl
     refine pure_ (i:=17) (N:=some 53) (v:=undef) (a':=?_) #[true,true,true,true,true,true,true,true,true,true,true,true,true,true,true,true,true,true,false,false,false,false,false,false,false,false,false,false,false,false,false] rfl rfl (any_of HT_.out (by kernel_rfl)) (fun _ _ _ h=>h) (Or.inr ⟨by rfl,rfl⟩) ?_ ?_
     rotate_left
     ·simp only [Act.put,sA_,sB_,sC_,i64_w,i32_w]
      rfl
     refine pure_ (i:=18) (N:=some 54) (v:=undef) (a':=?_) #[true,true,true,true,true,true,true,true,true,true,true,true,true,true,true,true,true,true,true,false,false,false,false,false,false,false,false,false,false,false,false] rfl rfl (any_of HT_.out (by kernel_rfl)) (fun _ _ _ h=>h) (Or.inr ⟨by rfl,rfl⟩) ?_ ?_
     rotate_left
     ·simp only [Act.put,sA_,sB_,sC_,i64_w,i32_w]
      rfl
     refine pure_ (i:=19) (N:=some 55) (v:=?_) (a':=?_) #[true,true,true,true,true,true,true,true,true,true,true,true,true,true,true,true,true,true,true,true,false,false,false,false,false,false,false,false,false,false,false] rfl rfl (any_of HT_.out (by kernel_rfl)) (fun _ _ _ h=>h) (Or.inl ⟨by rfl,?_⟩) ?_ ?_
     rotate_left
     ·intro w'
      go_simp
      with_reducible rfl
     rotate_left
     ·simp only [Act.put,sA_,sB_,sC_,i64_w,i32_w]
      rfl
     refine pure_ (i:=20) (N:=some 56) (v:=?_) (a':=?_) #[true,true,true,true,true,true,true,true,true,true,true,true,true,true,true,true,true,true,true,true,true,false,false,false,false,false,false,false,false,false,false] rfl rfl (any_of HT_.out (by kernel_rfl)) (fun _ _ _ h=>h) (Or.inl ⟨by rfl,?_⟩) ?_ ?_
     rotate_left
     ·intro w'
      go_simp
      with_reducible rfl
     rotate_left
     ·simp only [Act.put,sA_,sB_,sC_,i64_w,i32_w]
      rfl
     refine pure_ (i:=21) (N:=some 57) (v:=undef) (a':=?_) #[true,true,true,true,true,true,true,true,true,true,true,true,true,true,true,true,true,true,true,true,true,true,false,false,false,false,false,false,false,false,false] rfl rfl (any_of HT_.out (by kernel_rfl)) (fun _ _ _ h=>h) (Or.inr ⟨by rfl,rfl⟩) ?_ ?_
     rotate_left
     ·simp only [Act.put,sA_,sB_,sC_,i64_w,i32_w]
      rfl
     refine pure_ (i:=22) (N:=some 58) (v:=undef) (a':=?_) #[true,true,true,true,true,true,true,true,true,true,true,true,true,true,true,true,true,true,true,true,true,true,true,false,false,false,false,false,false,false,false] rfl rfl (any_of HT_.out (by kernel_rfl)) (fun _ _ _ h=>h) (Or.inr ⟨by rfl,rfl⟩) ?_ ?_
     rotate_left
     ·simp only [Act.put,sA_,sB_,sC_,i64_w,i32_w]
      rfl
     refine pure_ (i:=23) (N:=some 59) (v:=undef) (a':=?_) #[true,true,true,true,true,true,true,true,true,true,true,true,true,true,true,true,true,true,true,true,true,true,true,true,false,false,false,false,false,false,false] rfl rfl (any_of HT_.out (by kernel_rfl)) (fun _ _ _ h=>h) (Or.inr ⟨by rfl,rfl⟩) ?_ ?_
     rotate_left
     ·simp only [Act.put,sA_,sB_,sC_,i64_w,i32_w]
      rfl
     refine pure_ (i:=24) (N:=some 60) (v:=undef) (a':=?_) #[true,true,true,true,true,true,true,true,true,true,true,true,true,true,true,true,true,true,true,true,true,true,true,true,true,false,false,false,false,false,false] rfl rfl (any_of HT_.out (by kernel_rfl)) (fun _ _ _ h=>h) (Or.inr ⟨by rfl,rfl⟩) ?_ ?_
     rotate_left
     ·simp only [Act.put,sA_,sB_,sC_,i64_w,i32_w]
      rfl
     refine pure_ (i:=25) (N:=some 61) (v:=?_) (a':=?_) #[true,true,true,true,true,true,true,true,true,true,true,true,true,true,true,true,true,true,true,true,true,true,true,true,true,true,false,false,false,false,false] rfl rfl (any_of HT_.out (by kernel_rfl)) (fun _ _ _ h=>h) (Or.inl ⟨by rfl,?_⟩) ?_ ?_
     rotate_left
     ·intro w'
      go_simp
      with_reducible rfl
     rotate_left
     ·simp only [Act.put,sA_,sB_,sC_,i64_w,i32_w]
      rfl
     refine pure_ (i:=26) (N:=some 62) (v:=?_) (a':=?_) #[true,true,true,true,true,true,true,true,true,true,true,true,true,true,true,true,true,true,true,true,true,true,true,true,true,true,true,false,false,false,false] rfl rfl (any_of HT_.out (by kernel_rfl)) (fun _ _ _ h=>h) (Or.inl ⟨by rfl,?_⟩) ?_ ?_
     rotate_left
     ·intro w'
      go_simp
      with_reducible rfl
     rotate_left
     ·simp only [Act.put,sA_,sB_,sC_,i64_w,i32_w]
      rfl
     refine pure_ (i:=27) (N:=some 63) (v:=undef) (a':=?_) #[true,true,true,true,true,true,true,true,true,true,true,true,true,true,true,true,true,true,true,true,true,true,true,true,true,true,true,true,false,false,false] rfl rfl (any_of HT_.out (by kernel_rfl)) (fun _ _ _ h=>h) (Or.inr ⟨by rfl,rfl⟩) ?_ ?_
     rotate_left
     ·simp only [Act.put,sA_,sB_,sC_,i64_w,i32_w]
      rfl
     refine pure_ (i:=28) (N:=some 64) (v:=undef) (a':=?_) #[true,true,true,true,true,true,true,true,true,true,true,true,true,true,true,true,true,true,true,true,true,true,true,true,true,true,true,true,true,false,false] rfl rfl (any_of HT_.out (by kernel_rfl)) (fun _ _ _ h=>h) (Or.inr ⟨by rfl,rfl⟩) ?_ ?_
     rotate_left
     ·simp only [Act.put,sA_,sB_,sC_,i64_w,i32_w]
      rfl
     refine pure_ (i:=29) (N:=some 65) (v:=undef) (a':=?_) #[true,true,true,true,true,true,true,true,true,true,true,true,true,true,true,true,true,true,true,true,true,true,true,true,true,true,true,true,true,true,false] rfl rfl (any_of HT_.out (by kernel_rfl)) (fun _ _ _ h=>h) (Or.inr ⟨by rfl,rfl⟩) ?_ ?_
     rotate_left
     ·simp only [Act.put,sA_,sB_,sC_,i64_w,i32_w]
      rfl
     refine pure_ (i:=30) (N:=some 66) (v:=?_) (a':=?_) #[true,true,true,true,true,true,true,true,true,true,true,true,true,true,true,true,true,true,true,true,true,true,true,true,true,true,true,true,true,true,true] rfl rfl (any_of HT_.out (by kernel_rfl)) (fun _ _ _ h=>h) (Or.inl ⟨by rfl,?_⟩) ?_ ?_
     rotate_left
     ·intro w'
      go_simp
      with_reducible rfl
     rotate_left
     ·simp only [Act.put,sA_,sB_,sC_,i64_w,i32_w]
      rfl
     refine done_ (done_of HT_.out (by kernel_rfl)) ?_
     try go_wp2
     go_meet
     case rel=>exact ⟨_,(true),(by first|rfl|(simp;done)|(simp [*];done)),H',⟨by first|omega|exact Nat.le_refl _⟩,⟨by (with_reducible repeat (first|apply Kd.R_alloc|apply Kd.R_drewN|apply Kd.R_drew));exact HO355.out⟩,⟨by (with_reducible repeat (first|apply Kd.R_alloc|apply Kd.R_drewN|apply Kd.R_drew));exact HO364.out⟩,⟨by (with_reducible repeat (first|refine blk_drewN ?_ _|refine blk_drew ?_|refine blk_alloc ?_ _));exact BK337.out⟩,⟨by (with_reducible repeat (first|refine blk_drewN ?_ _|refine blk_drew ?_|refine blk_alloc ?_ _));exact BK357.out⟩,⟨by (with_reducible repeat (first|refine blk_drewN ?_ _|refine blk_drew ?_|refine blk_alloc ?_ _));exact BK366.out⟩,⟨by repeat (first|(with_reducible first|exact HB.out|apply below_alloc|apply pw_below_drewN|apply below_drew1|refine below_set ?_ GE337.out|refine below_set ?_ GE357.out|refine below_set ?_ GE366.out)|exact HB.out)⟩⟩
   ·rw [if_neg c29] at H
    have c29b0 : (t338.toList == t347.toList)=false:=beq_eq_false_iff_ne.mpr c29
    have c29b1 : (t338.toList != t347.toList)=true:=bne_iff_ne.mpr c29
    (first|rw [c29b0]|(simp only [i64_w,i32_w];rw [c29b0])|skip)
    have H':=Aside0.mk H
    clear H
    try go_wp2
    have n0_ : Aside0 (Kd.V Kd.string 9 (((((w22.setCell ⟨gb366,0,none⟩ (.int .u32 t358)).setCell ⟨gb366,1,none⟩ (.int .u64 t359)).setCell ⟨gb366,2,none⟩ (.int .i64 t360)).setCell ⟨gb366,3,none⟩ (.string t361)).setCell ⟨gb366,4,none⟩ (.slice Ao26 t362.length co26)) w.heap.size (fun k_=>some k_≠(.slice Ao20 t353.length co20 : Value).ownBlock∧some k_≠(.slice Ao26 t362.length co26 : Value).ownBlock∧k_≠gb337∧k_≠gb357∧k_≠gb366) (.slice Ao14 t344.length co14) t344):=⟨by (with_reducible repeat (first|apply Kd.V_alloc|apply Kd.V_drewN|apply Kd.V_drew));exact Kd.V_mono (Kd.V_far (p:=⟨gb366,4,none⟩) (Kd.V_far (p:=⟨gb366,3,none⟩) (Kd.V_far (p:=⟨gb366,2,none⟩) (Kd.V_far (p:=⟨gb366,1,none⟩) (Kd.V_far (p:=⟨gb366,0,none⟩) (Kd.V_mono HO346.out (fun k_ hk=>(⟨hk,hk.2⟩ : _∧k_≠gb366))) (fun _ hk=>hk.2) (.int .u32 t358)) (fun _ hk=>hk.2) (.int .u64 t359)) (fun _ hk=>hk.2) (.int .i64 t360)) (fun _ hk=>hk.2) (.string t361)) (fun _ hk=>hk.2) (.slice Ao26 t362.length co26)) (fun _ hk=>⟨hk.1.1.1.1.2,⟨hk.1.1.2,⟨hk.1.1.1.1.1,⟨hk.1.1.1.2,hk.1.2⟩⟩⟩⟩)⟩
    have n1_ : Aside0 (Kd.R Kd.string 9 (((((w22.setCell ⟨gb366,0,none⟩ (.int .u32 t358)).setCell ⟨gb366,1,none⟩ (.int .u64 t359)).setCell ⟨gb366,2,none⟩ (.int .i64 t360)).setCell ⟨gb366,3,none⟩ (.string t361)).setCell ⟨gb366,4,none⟩ (.slice Ao26 t362.length co26)) w.heap.size (fun k_=>some k_≠(.slice Ao26 t362.length co26 : Value).ownBlock) (.slice Ao20 t353.length co20) t353):=⟨by (with_reducible repeat (first|apply Kd.R_alloc|apply Kd.R_drewN|apply Kd.R_drew));exact Kd.R_mono (Kd.R_far (p:=⟨gb366,4,none⟩) (Kd.R_far (p:=⟨gb366,3,none⟩) (Kd.R_far (p:=⟨gb366,2,none⟩) (Kd.R_far (p:=⟨gb366,1,none⟩) (Kd.R_far (p:=⟨gb366,0,none⟩) (Kd.R_types HO355.out BK366.out (by decide)) (fun _ hk=>hk.2) (.int .u32 t358)) (fun _ hk=>hk.2) (.int .u64 t359)) (fun _ hk=>hk.2) (.int .i64 t360)) (fun _ hk=>hk.2) (.string t361)) (fun _ hk=>hk.2) (.slice Ao26 t362.length co26)) (fun _ hk=>hk.1.2)⟩
    have n2_ : Aside0 (Kd.R Kd.string 9 (((((w22.setCell ⟨gb366,0,none⟩ (.int .u32 t358)).setCell ⟨gb366,1,none⟩ (.int .u64 t359)).setCell ⟨gb366,2,none⟩ (.int .i64 t360)).setCell ⟨gb366,3,none⟩ (.string t361)).setCell ⟨gb366,4,none⟩ (.slice Ao26 t362.length co26)) w.heap.size (fun k_=>some k_≠(.slice Ao20 t353.length co20 : Value).ownBlock) (.slice Ao26 t362.length co26) t362):=⟨by (with_reducible repeat (first|apply Kd.R_alloc|apply Kd.R_drewN|apply Kd.R_drew));exact Kd.R_mono (Kd.R_far (p:=⟨gb366,4,none⟩) (Kd.R_far (p:=⟨gb366,3,none⟩) (Kd.R_far (p:=⟨gb366,2,none⟩) (Kd.R_far (p:=⟨gb366,1,none⟩) (Kd.R_far (p:=⟨gb366,0,none⟩) (Kd.R_types HO364.out BK366.out (by decide)) (fun _ hk=>hk.2) (.int .u32 t358)) (fun _ hk=>hk.2) (.int .u64 t359)) (fun _ hk=>hk.2) (.int .i64 t360)) (fun _ hk=>hk.2) (.string t361)) (fun _ hk=>hk.2) (.slice Ao26 t362.length co26)) (fun _ hk=>hk.1.2)⟩
    have n3_ : Aside0 ((((((w22.setCell ⟨gb366,0,none⟩ (.int .u32 t358)).setCell ⟨gb366,1,none⟩ (.int .u64 t359)).setCell ⟨gb366,2,none⟩ (.int .i64 t360)).setCell ⟨gb366,3,none⟩ (.string t361)).setCell ⟨gb366,4,none⟩ (.slice Ao26 t362.length co26)).heap[gb337]?=some (.cells #[.int .u32 a0_0,.int .u64 a0_1,.int .i64 a0_2,.string a0_3,.slice A0_4 l0_4.length c0_4] 28 (0,0))):=⟨by (with_reducible repeat (first|refine blk_drewN ?_ _|refine blk_drew ?_|refine blk_alloc ?_ _));refine blk_far ?_ NB337_366.out _;(with_reducible repeat (first|refine blk_drewN ?_ _|refine blk_drew ?_|refine blk_alloc ?_ _));refine blk_far ?_ NB337_366.out _;(with_reducible repeat (first|refine blk_drewN ?_ _|refine blk_drew ?_|refine blk_alloc ?_ _));refine blk_far ?_ NB337_366.out _;(with_reducible repeat (first|refine blk_drewN ?_ _|refine blk_drew ?_|refine blk_alloc ?_ _));refine blk_far ?_ NB337_366.out _;(with_reducible repeat (first|refine blk_drewN ?_ _|refine blk_drew ?_|refine blk_alloc ?_ _));refine blk_far ?_ NB337_366.out _;(with_reducible repeat (first|refine blk_drewN ?_ _|refine blk_drew ?_|refine blk_alloc ?_ _));exact BK337.out⟩
    have n4_ : Aside0 ((((((w22.setCell ⟨gb366,0,none⟩ (.int .u32 t358)).setCell ⟨gb366,1,none⟩ (.int .u64 t359)).setCell ⟨gb366,2,none⟩ (.int .i64 t360)).setCell ⟨gb366,3,none⟩ (.string t361)).setCell ⟨gb366,4,none⟩ (.slice Ao26 t362.length co26)).heap[gb357]?=some (.cells #[.int .u32 t349,.int .u64 t350,.int .i64 t351,.string t352,.slice Ao20 t353.length co20] 28 (0,0))):=⟨by (with_reducible repeat (first|refine blk_drewN ?_ _|refine blk_drew ?_|refine blk_alloc ?_ _));refine blk_far ?_ NB357_366.out _;(with_reducible repeat (first|refine blk_drewN ?_ _|refine blk_drew ?_|refine blk_alloc ?_ _));refine blk_far ?_ NB357_366.out _;(with_reducible repeat (first|refine blk_drewN ?_ _|refine blk_drew ?_|refine blk_alloc ?_ _));refine blk_far ?_ NB357_366.out _;(with_reducible repeat (first|refine blk_drewN ?_ _|refine blk_drew ?_|refine blk_alloc ?_ _));refine blk_far ?_ NB357_366.out _;(with_reducible repeat (first|refine blk_drewN ?_ _|refine blk_drew ?_|refine blk_alloc ?_ _));refine blk_far ?_ NB357_366.out _;(with_reducible repeat (first|refine blk_drewN ?_ _|refine blk_drew ?_|refine blk_alloc ?_ _));exact BK357.out⟩
    have n5_ : Aside0 ((((((w22.setCell ⟨gb366,0,none⟩ (.int .u32 t358)).setCell ⟨gb366,1,none⟩ (.int .u64 t359)).setCell ⟨gb366,2,none⟩ (.int .i64 t360)).setCell ⟨gb366,3,none⟩ (.string t361)).setCell ⟨gb366,4,none⟩ (.slice Ao26 t362.length co26)).heap[gb366]?=some (.cells #[.int .u32 t358,.int .u64 t359,.int .i64 t360,.string t361,.slice Ao26 t362.length co26] 35 (0,0))):=⟨by (with_reducible repeat (first|refine blk_drewN ?_ _|refine blk_drew ?_|refine blk_alloc ?_ _));refine blk_put (cs:=#[.int .u32 t358,.int .u64 t359,.int .i64 t360,.string t361,.slice none 0 0]) ?_ 4 _ rfl;(with_reducible repeat (first|refine blk_drewN ?_ _|refine blk_drew ?_|refine blk_alloc ?_ _));refine blk_put (cs:=#[.int .u32 t358,.int .u64 t359,.int .i64 t360,.string (⟨#[]⟩ : ByteArray),.slice none 0 0]) ?_ 3 _ rfl;(with_reducible repeat (first|refine blk_drewN ?_ _|refine blk_drew ?_|refine blk_alloc ?_ _));refine blk_put (cs:=#[.int .u32 t358,.int .u64 t359,.int .i64 0,.string (⟨#[]⟩ : ByteArray),.slice none 0 0]) ?_ 2 _ rfl;(with_reducible repeat (first|refine blk_drewN ?_ _|refine blk_drew ?_|refine blk_alloc ?_ _));refine blk_put (cs:=#[.int .u32 t358,.int .u64 0,.int .i64 0,.string (⟨#[]⟩ : ByteArray),.slice none 0 0]) ?_ 1 _ rfl;(with_reducible repeat (first|refine blk_drewN ?_ _|refine blk_drew ?_|refine blk_alloc ?_ _));refine blk_put (cs:=#[.int .u32 0,.int .u64 0,.int .i64 0,.string (⟨#[]⟩ : ByteArray),.slice none 0 0]) ?_ 0 _ rfl;(with_reducible repeat (first|refine blk_drewN ?_ _|refine blk_drew ?_|refine blk_alloc ?_ _));exact BK366.out⟩
    have n6_ : Aside0 (Below w.heap.size w (((((w22.setCell ⟨gb366,0,none⟩ (.int .u32 t358)).setCell ⟨gb366,1,none⟩ (.int .u64 t359)).setCell ⟨gb366,2,none⟩ (.int .i64 t360)).setCell ⟨gb366,3,none⟩ (.string t361)).setCell ⟨gb366,4,none⟩ (.slice Ao26 t362.length co26))):=⟨by repeat (first|(with_reducible first|exact HB.out|apply below_alloc|apply pw_below_drewN|apply below_drew1|refine below_set ?_ GE337.out|refine below_set ?_ GE357.out|refine below_set ?_ GE366.out)|exact HB.out)⟩
    (try clear HO346)
    (try clear HO355)
    (try clear HO364)
    (try clear BK337)
    (try clear BK357)
    (try clear BK366)
    (try clear HB)
    generalize (((((w22.setCell ⟨gb366,0,none⟩ (.int .u32 t358)).setCell ⟨gb366,1,none⟩ (.int .u64 t359)).setCell ⟨gb366,2,none⟩ (.int .i64 t360)).setCell ⟨gb366,3,none⟩ (.string t361)).setCell ⟨gb366,4,none⟩ (.slice Ao26 t362.length co26))=w63 at n0_ n1_ n2_ n3_ n4_ n5_ n6_ ⊢
    have HO346:=n0_
    have HO355:=n1_
    have HO364:=n2_
    have BK337:=n3_
    have BK357:=n4_
    have BK366:=n5_
    have HB:=n6_
    clear n0_ n1_ n2_ n3_ n4_ n5_ n6_
    have n0_:=Aside0.mk (Kd.V_drew HO346.out)
    have n1_:=Aside0.mk (Kd.R_drew HO355.out)
    have n2_:=Aside0.mk (Kd.R_drew HO364.out)
    have n3_:=Aside0.mk (blk_drew BK337.out)
    have n4_:=Aside0.mk (blk_drew BK357.out)
    have n5_:=Aside0.mk (blk_drew BK366.out)
    have n6_:=Aside0.mk (below_drew1 HB.out)
    clear HO346
    clear HO355
    clear HO364
    clear BK337
    clear BK357
    clear BK366
    clear HB
    have HO346:=n0_
    have HO355:=n1_
    have HO364:=n2_
    have BK337:=n3_
    have BK357:=n4_
    have BK366:=n5_
    have HB:=n6_
    clear n0_ n1_ n2_ n3_ n4_ n5_ n6_
    refine start_ (n:=31) (S:=fun w'=>True) (ds:=[]) #[false,false,false,false,false,false,false,false,false,false,false,false,false,false,false,false,false,false,false,false,false,false,false,false,false,false,false,false,false,false,false] (by kernel_rfl) rfl rfl trivial (fun hHeld=>?_);refine with_tabW girderlaw03_PageCodes.tab5 girderlaw03_PageCodes.bits5 (fun HT_ HW_=>?_)
    generalize w63.drew=w64 at HO346 HO355 HO364 BK337 BK357 BK366 HB hHeld ⊢
    refine one_ (i:=0) (N:=some 36) #[true,false,false,false,false,false,false,false,false,false,false,false,false,false,false,false,false,false,false,false,false,false,false,false,false,false,false,false,false,false,false] rfl rfl (one_of HT_.out (by kernel_rfl)) (by decide) (fun K hK=>?_)
    refine goes_ Try.func13 (by kernel_rfl) rfl #[] (by rfl) rfl rfl (by (try simp only [List.map_toArray,List.map_cons,List.map_nil]);first|done|rfl|(simp only [List.length_drop,List.length_take];rfl)) ?_
    with_reducible refine (girderlaw03_awake.calls k  true _ A27.out).mono ?_
    rintro e w65 ⟨rfl,hb⟩
    refine ⟨_,rfl,?_⟩
    have n0_:=Aside0.mk (Kd.V_below (by (with_reducible repeat (first|apply Kd.V_alloc|apply Kd.V_drewN|apply Kd.V_drew));exact HO346.out) hb)
    have n1_:=Aside0.mk (Kd.R_below (by (with_reducible repeat (first|apply Kd.R_alloc|apply Kd.R_drewN|apply Kd.R_drew));exact HO355.out) hb)
    have n2_:=Aside0.mk (Kd.R_below (by (with_reducible repeat (first|apply Kd.R_alloc|apply Kd.R_drewN|apply Kd.R_drew));exact HO364.out) hb)
    have n3_:=Aside0.mk (blk_below (g:=gb337) (o:=.cells #[.int .u32 a0_0,.int .u64 a0_1,.int .i64 a0_2,.string a0_3,.slice A0_4 l0_4.length c0_4] 28 (0,0)) (by (with_reducible repeat (first|refine blk_drewN ?_ _|refine blk_drew ?_|refine blk_alloc ?_ _));exact BK337.out) hb)
    have n4_:=Aside0.mk (blk_below (g:=gb357) (o:=.cells #[.int .u32 t349,.int .u64 t350,.int .i64 t351,.string t352,.slice Ao20 t353.length co20] 28 (0,0)) (by (with_reducible repeat (first|refine blk_drewN ?_ _|refine blk_drew ?_|refine blk_alloc ?_ _));exact BK357.out) hb)
    have n5_:=Aside0.mk (blk_below (g:=gb366) (o:=.cells #[.int .u32 t358,.int .u64 t359,.int .i64 t360,.string t361,.slice Ao26 t362.length co26] 35 (0,0)) (by (with_reducible repeat (first|refine blk_drewN ?_ _|refine blk_drew ?_|refine blk_alloc ?_ _));exact BK366.out) hb)
    have n6_:=Aside0.mk (below_step (by repeat (first|(with_reducible first|exact HB.out|apply below_alloc|apply pw_below_drewN|apply below_drew1|refine below_set ?_ GE337.out|refine below_set ?_ GE357.out|refine below_set ?_ GE366.out)|exact HB.out)) hb)
    clear HO346
    clear HO355
    clear HO364
    clear BK337
    clear BK357
    clear BK366
    clear HB
    have HO346:=n0_
    have HO355:=n1_
    have HO364:=n2_
    have BK337:=n3_
    have BK357:=n4_
    have BK366:=n5_
    have HB:=n6_
    clear n0_ n1_ n2_ n3_ n4_ n5_ n6_
    (try clear hb)
    (try clear hb2)
    (try clear hk)
    (try clear hi)
    refine hK.out _ _ trivial (fun hHeld=>?_)
    clear hK K
    refine norm_ (a':=?_) ?_ ?_
    rotate_left
    ·show Act.put _ (some 36) _=_
     simp only [Act.put,sA_,sB_,sC_,i64_w,i32_w]
     rfl
    refine pure_ (i:=1) (N:=some 37) (v:=?_) (a':=?_) #[true,true,false,false,false,false,false,false,false,false,false,false,false,false,false,false,false,false,false,false,false,false,false,false,false,false,false,false,false,false,false] rfl rfl (any_of HT_.out (by kernel_rfl)) (fun _ _ _ h=>h) (Or.inl ⟨by rfl,?_⟩) ?_ ?_
    rotate_left
    ·intro w'
     go_simp
     with_reducible rfl
    rotate_left
    ·simp only [Act.put,sA_,sB_,sC_,i64_w,i32_w]
     rfl
    refine pure_ (i:=2) (N:=some 38) (v:=?_) (a':=?_) #[true,true,true,false,false,false,false,false,false,false,false,false,false,false,false,false,false,false,false,false,false,false,false,false,false,false,false,false,false,false,false] rfl rfl (any_of HT_.out (by kernel_rfl)) (fun _ _ _ h=>h) (Or.inl ⟨by rfl,?_⟩) ?_ ?_
    rotate_left
    ·intro w'
     go_simp
     with_reducible rfl
    rotate_left
    ·simp only [Act.put,sA_,sB_,sC_,i64_w,i32_w]
     rfl
    refine pure_ (i:=3) (N:=some 39) (v:=?_) (a':=?_) #[true,true,true,true,false,false,false,false,false,false,false,false,false,false,false,false,false,false,false,false,false,false,false,false,false,false,false,false,false,false,false] rfl rfl (any_of HT_.out (by kernel_rfl)) (fun _ _ _ h=>h) (Or.inl ⟨by rfl,?_⟩) ?_ ?_
    rotate_left
    ·intro w'
     go_simp
     with_reducible rfl
    rotate_left
    ·simp only [Act.put,sA_,sB_,sC_,i64_w,i32_w]
     rfl
    refine pure_ (i:=4) (N:=some 40) (v:=?_) (a':=?_) #[true,true,true,true,true,false,false,false,false,false,false,false,false,false,false,false,false,false,false,false,false,false,false,false,false,false,false,false,false,false,false] rfl rfl (any_of HT_.out (by kernel_rfl)) (fun _ _ _ h=>h) (Or.inl ⟨by rfl,?_⟩) ?_ ?_
    rotate_left
    ·intro w'
     go_simp
     with_reducible rfl
    rotate_left
    ·simp only [Act.put,sA_,sB_,sC_,i64_w,i32_w]
     rfl
    refine pure_ (i:=5) (N:=some 41) (v:=?_) (a':=?_) #[true,true,true,true,true,true,false,false,false,false,false,false,false,false,false,false,false,false,false,false,false,false,false,false,false,false,false,false,false,false,false] rfl rfl (any_of HT_.out (by kernel_rfl)) (fun _ _ _ h=>h) (Or.inl ⟨by rfl,?_⟩) ?_ ?_
    rotate_left
    ·intro w'
     go_simp
     with_reducible rfl
    rotate_left
    ·simp only [Act.put,sA_,sB_,sC_,i64_w,i32_w]
     rfl
    refine pure_ (i:=6) (N:=some 42) (v:=?_) (a':=?_) #[true,true,true,true,true,true,true,false,false,false,false,false,false,false,false,false,false,false,false,false,false,false,false,false,false,false,false,false,false,false,false] rfl rfl (any_of HT_.out (by kernel_rfl)) (fun _ _ _ h=>h) (Or.inl ⟨by rfl,?_⟩) ?_ ?_
    rotate_left
    ·intro w'
     go_simp
     with_reducible rfl
    rotate_left
    ·simp only [Act.put,sA_,sB_,sC_,i64_w,i32_w]
     rfl
    refine pure_ (i:=7) (N:=some 43) (v:=?_) (a':=?_) #[true,true,true,true,true,true,true,true,false,false,false,false,false,false,false,false,false,false,false,false,false,false,false,false,false,false,false,false,false,false,false] rfl rfl (any_of HT_.out (by kernel_rfl)) (fun _ _ _ h=>h) (Or.inl ⟨by rfl,?_⟩) ?_ ?_
    rotate_left
    ·intro w'
     go_simp
     with_reducible rfl
    rotate_left
    ·simp only [Act.put,sA_,sB_,sC_,i64_w,i32_w]
     rfl
    refine pure_ (i:=8) (N:=some 44) (v:=undef) (a':=?_) #[true,true,true,true,true,true,true,true,true,false,false,false,false,false,false,false,false,false,false,false,false,false,false,false,false,false,false,false,false,false,false] rfl rfl (any_of HT_.out (by kernel_rfl)) (fun _ _ _ h=>h) (Or.inr ⟨by rfl,rfl⟩) ?_ ?_
    rotate_left
    ·simp only [Act.put,sA_,sB_,sC_,i64_w,i32_w]
     rfl
    refine pure_ (i:=9) (N:=some 45) (v:=undef) (a':=?_) #[true,true,true,true,true,true,true,true,true,true,false,false,false,false,false,false,false,false,false,false,false,false,false,false,false,false,false,false,false,false,false] rfl rfl (any_of HT_.out (by kernel_rfl)) (fun _ _ _ h=>h) (Or.inr ⟨by rfl,rfl⟩) ?_ ?_
    rotate_left
    ·simp only [Act.put,sA_,sB_,sC_,i64_w,i32_w]
     rfl
    refine pure_ (i:=10) (N:=some 46) (v:=undef) (a':=?_) #[true,true,true,true,true,true,true,true,true,true,true,false,false,false,false,false,false,false,false,false,false,false,false,false,false,false,false,false,false,false,false] rfl rfl (any_of HT_.out (by kernel_rfl)) (fun _ _ _ h=>h) (Or.inr ⟨by rfl,rfl⟩) ?_ ?_
    rotate_left
    ·simp only [Act.put,sA_,sB_,sC_,i64_w,i32_w]
     rfl
    refine pure_ (i:=11) (N:=some 47) (v:=?_) (a':=?_) #[true,true,true,true,true,true,true,true,true,true,true,true,false,false,false,false,false,false,false,false,false,false,false,false,false,false,false,false,false,false,false] rfl rfl (any_of HT_.out (by kernel_rfl)) (fun _ _ _ h=>h) (Or.inl ⟨by rfl,?_⟩) ?_ ?_
    rotate_left
    ·intro w'
     go_simp
     with_reducible rfl
    rotate_left
    ·simp only [Act.put,sA_,sB_,sC_,i64_w,i32_w]
     rfl
    refine pure_ (i:=12) (N:=some 48) (v:=?_) (a':=?_) #[true,true,true,true,true,true,true,true,true,true,true,true,true,false,false,false,false,false,false,false,false,false,false,false,false,false,false,false,false,false,false] rfl rfl (any_of HT_.out (by kernel_rfl)) (fun _ _ _ h=>h) (Or.inl ⟨by rfl,?_⟩) ?_ ?_
    rotate_left
    ·intro w'
     go_simp
     with_reducible rfl
    rotate_left
    ·simp only [Act.put,sA_,sB_,sC_,i64_w,i32_w]
     rfl
    refine pure_ (i:=13) (N:=some 49) (v:=undef) (a':=?_) #[true,true,true,true,true,true,true,true,true,true,true,true,true,true,false,false,false,false,false,false,false,false,false,false,false,false,false,false,false,false,false] rfl rfl (any_of HT_.out (by kernel_rfl)) (fun _ _ _ h=>h) (Or.inr ⟨by rfl,rfl⟩) ?_ ?_
    rotate_left
    ·simp only [Act.put,sA_,sB_,sC_,i64_w,i32_w]
     rfl
    refine pure_ (i:=14) (N:=some 50) (v:=undef) (a':=?_) #[true,true,true,true,true,true,true,true,true,true,true,true,true,true,true,false,false,false,false,false,false,false,false,false,false,false,false,false,false,false,false] rfl rfl (any_of HT_.out (by kernel_rfl)) (fun _ _ _ h=>h) (Or.inr ⟨by rfl,rfl⟩) ?_ ?_
    rotate_left
    ·simp only [Act.put,sA_,sB_,sC_,i64_w,i32_w]
     rfl
    refine pure_ (i:=15) (N:=some 51) (v:=undef) (a':=?_) #[true,true,true,true,true,true,true,true,true,true,true,true,true,true,true,true,false,false,false,false,false,false,false,false,false,false,false,false,false,false,false] rfl rfl (any_of HT_.out (by kernel_rfl)) (fun _ _ _ h=>h) (Or.inr ⟨by rfl,rfl⟩) ?_ ?_
    rotate_left
    ·simp only [Act.put,sA_,sB_,sC_,i64_w,i32_w]
     rfl
    refine pure_ (i:=16) (N:=some 52) (v:=undef) (a':=?_) #[true,true,true,true,true,true,true,true,true,true,true,true,true,true,true,true,true,false,false,false,false,false,false,false,false,false,false,false,false,false,false] rfl rfl (any_of HT_.out (by kernel_rfl)) (fun _ _ _ h=>h) (Or.inr ⟨by rfl,rfl⟩) ?_ ?_
    rotate_left
    ·simp only [Act.put,sA_,sB_,sC_,i64_w,i32_w]
     rfl
    refine pure_ (i:=17) (N:=some 53) (v:=undef) (a':=?_) #[true,true,true,true,true,true,true,true,true,true,true,true,true,true,true,true,true,true,false,false,false,false,false,false,false,false,false,false,false,false,false] rfl rfl (any_of HT_.out (by kernel_rfl)) (fun _ _ _ h=>h) (Or.inr ⟨by rfl,rfl⟩) ?_ ?_
    rotate_left
    ·simp only [Act.put,sA_,sB_,sC_,i64_w,i32_w]
     rfl
    refine pure_ (i:=18) (N:=some 54) (v:=undef) (a':=?_) #[true,true,true,true,true,true,true,true,true,true,true,true,true,true,true,true,true,true,true,false,false,false,false,false,false,false,false,false,false,false,false] rfl rfl (any_of HT_.out (by kernel_rfl)) (fun _ _ _ h=>h) (Or.inr ⟨by rfl,rfl⟩) ?_ ?_
    rotate_left
    ·simp only [Act.put,sA_,sB_,sC_,i64_w,i32_w]
     rfl
    refine pure_ (i:=19) (N:=some 55) (v:=?_) (a':=?_) #[true,true,true,true,true,true,true,true,true,true,true,true,true,true,true,true,true,true,true,true,false,false,false,false,false,false,false,false,false,false,false] rfl rfl (any_of HT_.out (by kernel_rfl)) (fun _ _ _ h=>h) (Or.inl ⟨by rfl,?_⟩) ?_ ?_
    rotate_left
    ·intro w'
     go_simp
     with_reducible rfl
    rotate_left
    ·simp only [Act.put,sA_,sB_,sC_,i64_w,i32_w]
     rfl
    refine pure_ (i:=20) (N:=some 56) (v:=?_) (a':=?_) #[true,true,true,true,true,true,true,true,true,true,true,true,true,true,true,true,true,true,true,true,true,false,false,false,false,false,false,false,false,false,false] rfl rfl (any_of HT_.out (by kernel_rfl)) (fun _ _ _ h=>h) (Or.inl ⟨by rfl,?_⟩) ?_ ?_
    rotate_left
    ·intro w'
     go_simp
     with_reducible rfl
    rotate_left
    ·simp only [Act.put,sA_,sB_,sC_,i64_w,i32_w]
     rfl
    refine pure_ (i:=21) (N:=some 57) (v:=undef) (a':=?_) #[true,true,true,true,true,true,true,true,true,true,true,true,true,true,true,true,true,true,true,true,true,true,false,false,false,false,false,false,false,false,false] rfl rfl (any_of HT_.out (by kernel_rfl)) (fun _ _ _ h=>h) (Or.inr ⟨by rfl,rfl⟩) ?_ ?_
    rotate_left
    ·simp only [Act.put,sA_,sB_,sC_,i64_w,i32_w]
     rfl
    refine pure_ (i:=22) (N:=some 58) (v:=undef) (a':=?_) #[true,true,true,true,true,true,true,true,true,true,true,true,true,true,true,true,true,true,true,true,true,true,true,false,false,false,false,false,false,false,false] rfl rfl (any_of HT_.out (by kernel_rfl)) (fun _ _ _ h=>h) (Or.inr ⟨by rfl,rfl⟩) ?_ ?_
    rotate_left
    ·simp only [Act.put,sA_,sB_,sC_,i64_w,i32_w]
     rfl
    refine pure_ (i:=23) (N:=some 59) (v:=undef) (a':=?_) #[true,true,true,true,true,true,true,true,true,true,true,true,true,true,true,true,true,true,true,true,true,true,true,true,false,false,false,false,false,false,false] rfl rfl (any_of HT_.out (by kernel_rfl)) (fun _ _ _ h=>h) (Or.inr ⟨by rfl,rfl⟩) ?_ ?_
    rotate_left
    ·simp only [Act.put,sA_,sB_,sC_,i64_w,i32_w]
     rfl
    refine pure_ (i:=24) (N:=some 60) (v:=undef) (a':=?_) #[true,true,true,true,true,true,true,true,true,true,true,true,true,true,true,true,true,true,true,true,true,true,true,true,true,false,false,false,false,false,false] rfl rfl (any_of HT_.out (by kernel_rfl)) (fun _ _ _ h=>h) (Or.inr ⟨by rfl,rfl⟩) ?_ ?_
    rotate_left
    ·simp only [Act.put,sA_,sB_,sC_,i64_w,i32_w]
     rfl
    refine pure_ (i:=25) (N:=some 61) (v:=?_) (a':=?_) #[true,true,true,true,true,true,true,true,true,true,true,true,true,true,true,true,true,true,true,true,true,true,true,true,true,true,false,false,false,false,false] rfl rfl (any_of HT_.out (by kernel_rfl)) (fun _ _ _ h=>h) (Or.inl ⟨by rfl,?_⟩) ?_ ?_
    rotate_left
    ·intro w'
     go_simp
     with_reducible rfl
    rotate_left
    ·simp only [Act.put,sA_,sB_,sC_,i64_w,i32_w]
     rfl
    refine pure_ (i:=26) (N:=some 62) (v:=?_) (a':=?_) #[true,true,true,true,true,true,true,true,true,true,true,true,true,true,true,true,true,true,true,true,true,true,true,true,true,true,true,false,false,false,false] rfl rfl (any_of HT_.out (by kernel_rfl)) (fun _ _ _ h=>h) (Or.inl ⟨by rfl,?_⟩) ?_ ?_
    rotate_left
    ·intro w'
     go_simp
     with_reducible rfl
    rotate_left
    ·simp only [Act.put,sA_,sB_,sC_,i64_w,i32_w]
     rfl
    refine pure_ (i:=27) (N:=some 63) (v:=undef) (a':=?_) #[true,true,true,true,true,true,true,true,true,true,true,true,true,true,true,true,true,true,true,true,true,true,true,true,true,true,true,true,false,false,false] rfl rfl (any_of HT_.out (by kernel_rfl)) (fun _ _ _ h=>h) (Or.inr ⟨by rfl,rfl⟩) ?_ ?_
    rotate_left
    ·simp only [Act.put,sA_,sB_,sC_,i64_w,i32_w]
     rfl
    refine pure_ (i:=28) (N:=some 64) (v:=undef) (a':=?_) #[true,true,true,true,true,true,true,true,true,true,true,true,true,true,true,true,true,true,true,true,true,true,true,true,true,true,true,true,true,false,false] rfl rfl (any_of HT_.out (by kernel_rfl)) (fun _ _ _ h=>h) (Or.inr ⟨by rfl,rfl⟩) ?_ ?_
    rotate_left
    ·simp only [Act.put,sA_,sB_,sC_,i64_w,i32_w]
     rfl
    refine pure_ (i:=29) (N:=some 65) (v:=undef) (a':=?_) #[true,true,true,true,true,true,true,true,true,true,true,true,true,true,true,true,true,true,true,true,true,true,true,true,true,true,true,true,true,true,false] rfl rfl (any_of HT_.out (by kernel_rfl)) (fun _ _ _ h=>h) (Or.inr ⟨by rfl,rfl⟩) ?_ ?_
    rotate_left
    ·simp only [Act.put,sA_,sB_,sC_,i64_w,i32_w]
     rfl
    refine pure_ (i:=30) (N:=some 66) (v:=?_) (a':=?_) #[true,true,true,true,true,true,true,true,true,true,true,true,true,true,true,true,true,true,true,true,true,true,true,true,true,true,true,true,true,true,true] rfl rfl (any_of HT_.out (by kernel_rfl)) (fun _ _ _ h=>h) (Or.inl ⟨by rfl,?_⟩) ?_ ?_
    rotate_left
    ·intro w'
     go_simp
     with_reducible rfl
    rotate_left
    ·simp only [Act.put,sA_,sB_,sC_,i64_w,i32_w]
     rfl
    refine done_ (done_of HT_.out (by kernel_rfl)) ?_
    try go_wp2
    go_meet
    case rel=>exact ⟨_,(true),(by first|rfl|(simp;done)|(simp [*];done)),H',⟨by first|omega|exact Nat.le_refl _⟩,⟨by (with_reducible repeat (first|apply Kd.R_alloc|apply Kd.R_drewN|apply Kd.R_drew));exact HO355.out⟩,⟨by (with_reducible repeat (first|apply Kd.R_alloc|apply Kd.R_drewN|apply Kd.R_drew));exact HO364.out⟩,⟨by (with_reducible repeat (first|refine blk_drewN ?_ _|refine blk_drew ?_|refine blk_alloc ?_ _));exact BK337.out⟩,⟨by (with_reducible repeat (first|refine blk_drewN ?_ _|refine blk_drew ?_|refine blk_alloc ?_ _));exact BK357.out⟩,⟨by (with_reducible repeat (first|refine blk_drewN ?_ _|refine blk_drew ?_|refine blk_alloc ?_ _));exact BK366.out⟩,⟨by repeat (first|(with_reducible first|exact HB.out|apply below_alloc|apply pw_below_drewN|apply below_drew1|refine below_set ?_ GE337.out|refine below_set ?_ GE357.out|refine below_set ?_ GE366.out)|exact HB.out)⟩⟩
  ·replace c28:=Bool.eq_false_iff.mpr c28
   subst c28
   have H1 : (girderlaw03_PageCodes.j0 k t338 t348 true a0_0 a0_1 a0_2 a0_3 l0_4)=some r:=by rw [if_neg (show ¬ (false=true) by decide)] at H;exact H
   clear H
   have H:=H1
   clear H1
   have H':=Aside0.mk H
   clear H
   try go_wp2
   have n0_ : Aside0 (Kd.V Kd.string 9 (((((w22.setCell ⟨gb366,0,none⟩ (.int .u32 t358)).setCell ⟨gb366,1,none⟩ (.int .u64 t359)).setCell ⟨gb366,2,none⟩ (.int .i64 t360)).setCell ⟨gb366,3,none⟩ (.string t361)).setCell ⟨gb366,4,none⟩ (.slice Ao26 t362.length co26)) w.heap.size (fun k_=>some k_≠(.slice Ao20 t353.length co20 : Value).ownBlock∧some k_≠(.slice Ao26 t362.length co26 : Value).ownBlock∧k_≠gb337∧k_≠gb357∧k_≠gb366) (.slice Ao14 t344.length co14) t344):=⟨by (with_reducible repeat (first|apply Kd.V_alloc|apply Kd.V_drewN|apply Kd.V_drew));exact Kd.V_mono (Kd.V_far (p:=⟨gb366,4,none⟩) (Kd.V_far (p:=⟨gb366,3,none⟩) (Kd.V_far (p:=⟨gb366,2,none⟩) (Kd.V_far (p:=⟨gb366,1,none⟩) (Kd.V_far (p:=⟨gb366,0,none⟩) (Kd.V_mono HO346.out (fun k_ hk=>(⟨hk,hk.2⟩ : _∧k_≠gb366))) (fun _ hk=>hk.2) (.int .u32 t358)) (fun _ hk=>hk.2) (.int .u64 t359)) (fun _ hk=>hk.2) (.int .i64 t360)) (fun _ hk=>hk.2) (.string t361)) (fun _ hk=>hk.2) (.slice Ao26 t362.length co26)) (fun _ hk=>⟨hk.1.1.1.1.2,⟨hk.1.1.2,⟨hk.1.1.1.1.1,⟨hk.1.1.1.2,hk.1.2⟩⟩⟩⟩)⟩
   have n1_ : Aside0 (Kd.R Kd.string 9 (((((w22.setCell ⟨gb366,0,none⟩ (.int .u32 t358)).setCell ⟨gb366,1,none⟩ (.int .u64 t359)).setCell ⟨gb366,2,none⟩ (.int .i64 t360)).setCell ⟨gb366,3,none⟩ (.string t361)).setCell ⟨gb366,4,none⟩ (.slice Ao26 t362.length co26)) w.heap.size (fun k_=>some k_≠(.slice Ao26 t362.length co26 : Value).ownBlock) (.slice Ao20 t353.length co20) t353):=⟨by (with_reducible repeat (first|apply Kd.R_alloc|apply Kd.R_drewN|apply Kd.R_drew));exact Kd.R_mono (Kd.R_far (p:=⟨gb366,4,none⟩) (Kd.R_far (p:=⟨gb366,3,none⟩) (Kd.R_far (p:=⟨gb366,2,none⟩) (Kd.R_far (p:=⟨gb366,1,none⟩) (Kd.R_far (p:=⟨gb366,0,none⟩) (Kd.R_types HO355.out BK366.out (by decide)) (fun _ hk=>hk.2) (.int .u32 t358)) (fun _ hk=>hk.2) (.int .u64 t359)) (fun _ hk=>hk.2) (.int .i64 t360)) (fun _ hk=>hk.2) (.string t361)) (fun _ hk=>hk.2) (.slice Ao26 t362.length co26)) (fun _ hk=>hk.1.2)⟩
   have n2_ : Aside0 (Kd.R Kd.string 9 (((((w22.setCell ⟨gb366,0,none⟩ (.int .u32 t358)).setCell ⟨gb366,1,none⟩ (.int .u64 t359)).setCell ⟨gb366,2,none⟩ (.int .i64 t360)).setCell ⟨gb366,3,none⟩ (.string t361)).setCell ⟨gb366,4,none⟩ (.slice Ao26 t362.length co26)) w.heap.size (fun k_=>some k_≠(.slice Ao20 t353.length co20 : Value).ownBlock) (.slice Ao26 t362.length co26) t362):=⟨by (with_reducible repeat (first|apply Kd.R_alloc|apply Kd.R_drewN|apply Kd.R_drew));exact Kd.R_mono (Kd.R_far (p:=⟨gb366,4,none⟩) (Kd.R_far (p:=⟨gb366,3,none⟩) (Kd.R_far (p:=⟨gb366,2,none⟩) (Kd.R_far (p:=⟨gb366,1,none⟩) (Kd.R_far (p:=⟨gb366,0,none⟩) (Kd.R_types HO364.out BK366.out (by decide)) (fun _ hk=>hk.2) (.int .u32 t358)) (fun _ hk=>hk.2) (.int .u64 t359)) (fun _ hk=>hk.2) (.int .i64 t360)) (fun _ hk=>hk.2) (.string t361)) (fun _ hk=>hk.2) (.slice Ao26 t362.length co26)) (fun _ hk=>hk.1.2)⟩
   have n3_ : Aside0 ((((((w22.setCell ⟨gb366,0,none⟩ (.int .u32 t358)).setCell ⟨gb366,1,none⟩ (.int .u64 t359)).setCell ⟨gb366,2,none⟩ (.int .i64 t360)).setCell ⟨gb366,3,none⟩ (.string t361)).setCell ⟨gb366,4,none⟩ (.slice Ao26 t362.length co26)).heap[gb337]?=some (.cells #[.int .u32 a0_0,.int .u64 a0_1,.int .i64 a0_2,.string a0_3,.slice A0_4 l0_4.length c0_4] 28 (0,0))):=⟨by (with_reducible repeat (first|refine blk_drewN ?_ _|refine blk_drew ?_|refine blk_alloc ?_ _));refine blk_far ?_ NB337_366.out _;(with_reducible repeat (first|refine blk_drewN ?_ _|refine blk_drew ?_|refine blk_alloc ?_ _));refine blk_far ?_ NB337_366.out _;(with_reducible repeat (first|refine blk_drewN ?_ _|refine blk_drew ?_|refine blk_alloc ?_ _));refine blk_far ?_ NB337_366.out _;(with_reducible repeat (first|refine blk_drewN ?_ _|refine blk_drew ?_|refine blk_alloc ?_ _));refine blk_far ?_ NB337_366.out _;(with_reducible repeat (first|refine blk_drewN ?_ _|refine blk_drew ?_|refine blk_alloc ?_ _));refine blk_far ?_ NB337_366.out _;(with_reducible repeat (first|refine blk_drewN ?_ _|refine blk_drew ?_|refine blk_alloc ?_ _));exact BK337.out⟩
   have n4_ : Aside0 ((((((w22.setCell ⟨gb366,0,none⟩ (.int .u32 t358)).setCell ⟨gb366,1,none⟩ (.int .u64 t359)).setCell ⟨gb366,2,none⟩ (.int .i64 t360)).setCell ⟨gb366,3,none⟩ (.string t361)).setCell ⟨gb366,4,none⟩ (.slice Ao26 t362.length co26)).heap[gb357]?=some (.cells #[.int .u32 t349,.int .u64 t350,.int .i64 t351,.string t352,.slice Ao20 t353.length co20] 28 (0,0))):=⟨by (with_reducible repeat (first|refine blk_drewN ?_ _|refine blk_drew ?_|refine blk_alloc ?_ _));refine blk_far ?_ NB357_366.out _;(with_reducible repeat (first|refine blk_drewN ?_ _|refine blk_drew ?_|refine blk_alloc ?_ _));refine blk_far ?_ NB357_366.out _;(with_reducible repeat (first|refine blk_drewN ?_ _|refine blk_drew ?_|refine blk_alloc ?_ _));refine blk_far ?_ NB357_366.out _;(with_reducible repeat (first|refine blk_drewN ?_ _|refine blk_drew ?_|refine blk_alloc ?_ _));refine blk_far ?_ NB357_366.out _;(with_reducible repeat (first|refine blk_drewN ?_ _|refine blk_drew ?_|refine blk_alloc ?_ _));refine blk_far ?_ NB357_366.out _;(with_reducible repeat (first|refine blk_drewN ?_ _|refine blk_drew ?_|refine blk_alloc ?_ _));exact BK357.out⟩
   have n5_ : Aside0 ((((((w22.setCell ⟨gb366,0,none⟩ (.int .u32 t358)).setCell ⟨gb366,1,none⟩ (.int .u64 t359)).setCell ⟨gb366,2,none⟩ (.int .i64 t360)).setCell ⟨gb366,3,none⟩ (.string t361)).setCell ⟨gb366,4,none⟩ (.slice Ao26 t362.length co26)).heap[gb366]?=some (.cells #[.int .u32 t358,.int .u64 t359,.int .i64 t360,.string t361,.slice Ao26 t362.length co26] 35 (0,0))):=⟨by (with_reducible repeat (first|refine blk_drewN ?_ _|refine blk_drew ?_|refine blk_alloc ?_ _));refine blk_put (cs:=#[.int .u32 t358,.int .u64 t359,.int .i64 t360,.string t361,.slice none 0 0]) ?_ 4 _ rfl;(with_reducible repeat (first|refine blk_drewN ?_ _|refine blk_drew ?_|refine blk_alloc ?_ _));refine blk_put (cs:=#[.int .u32 t358,.int .u64 t359,.int .i64 t360,.string (⟨#[]⟩ : ByteArray),.slice none 0 0]) ?_ 3 _ rfl;(with_reducible repeat (first|refine blk_drewN ?_ _|refine blk_drew ?_|refine blk_alloc ?_ _));refine blk_put (cs:=#[.int .u32 t358,.int .u64 t359,.int .i64 0,.string (⟨#[]⟩ : ByteArray),.slice none 0 0]) ?_ 2 _ rfl;(with_reducible repeat (first|refine blk_drewN ?_ _|refine blk_drew ?_|refine blk_alloc ?_ _));refine blk_put (cs:=#[.int .u32 t358,.int .u64 0,.int .i64 0,.string (⟨#[]⟩ : ByteArray),.slice none 0 0]) ?_ 1 _ rfl;(with_reducible repeat (first|refine blk_drewN ?_ _|refine blk_drew ?_|refine blk_alloc ?_ _));refine blk_put (cs:=#[.int .u32 0,.int .u64 0,.int .i64 0,.string (⟨#[]⟩ : ByteArray),.slice none 0 0]) ?_ 0 _ rfl;(with_reducible repeat (first|refine blk_drewN ?_ _|refine blk_drew ?_|refine blk_alloc ?_ _));exact BK366.out⟩
   have n6_ : Aside0 (Below w.heap.size w (((((w22.setCell ⟨gb366,0,none⟩ (.int .u32 t358)).setCell ⟨gb366,1,none⟩ (.int .u64 t359)).setCell ⟨gb366,2,none⟩ (.int .i64 t360)).setCell ⟨gb366,3,none⟩ (.string t361)).setCell ⟨gb366,4,none⟩ (.slice Ao26 t362.length co26))):=⟨by repeat (first|(with_reducible first|exact HB.out|apply below_alloc|apply pw_below_drewN|apply below_drew1|refine below_set ?_ GE337.out|refine below_set ?_ GE357.out|refine below_set ?_ GE366.out)|exact HB.out)⟩
   (try clear HO346)
   (try clear HO355)
   (try clear HO364)
   (try clear BK337)
   (try clear BK357)
   (try clear BK366)
   (try clear HB)
   generalize (((((w22.setCell ⟨gb366,0,none⟩ (.int .u32 t358)).setCell ⟨gb366,1,none⟩ (.int .u64 t359)).setCell ⟨gb366,2,none⟩ (.int .i64 t360)).setCell ⟨gb366,3,none⟩ (.string t361)).setCell ⟨gb366,4,none⟩ (.slice Ao26 t362.length co26))=w66 at n0_ n1_ n2_ n3_ n4_ n5_ n6_ ⊢
   have HO346:=n0_
   have HO355:=n1_
   have HO364:=n2_
   have BK337:=n3_
   have BK357:=n4_
   have BK366:=n5_
   have HB:=n6_
   clear n0_ n1_ n2_ n3_ n4_ n5_ n6_
   have n0_:=Aside0.mk (Kd.V_drew HO346.out)
   have n1_:=Aside0.mk (Kd.R_drew HO355.out)
   have n2_:=Aside0.mk (Kd.R_drew HO364.out)
   have n3_:=Aside0.mk (blk_drew BK337.out)
   have n4_:=Aside0.mk (blk_drew BK357.out)
   have n5_:=Aside0.mk (blk_drew BK366.out)
   have n6_:=Aside0.mk (below_drew1 HB.out)
   clear HO346
   clear HO355
   clear HO364
   clear BK337
   clear BK357
   clear BK366
   clear HB
   have HO346:=n0_
   have HO355:=n1_
   have HO364:=n2_
   have BK337:=n3_
   have BK357:=n4_
   have BK366:=n5_
   have HB:=n6_
   clear n0_ n1_ n2_ n3_ n4_ n5_ n6_
   refine start_ (n:=31) (S:=fun w'=>True) (ds:=[]) #[false,false,false,false,false,false,false,false,false,false,false,false,false,false,false,false,false,false,false,false,false,false,false,false,false,false,false,false,false,false,false] (by kernel_rfl) rfl rfl trivial (fun hHeld=>?_);refine with_tabW girderlaw03_PageCodes.tab5 girderlaw03_PageCodes.bits5 (fun HT_ HW_=>?_)
   generalize w66.drew=w67 at HO346 HO355 HO364 BK337 BK357 BK366 HB hHeld ⊢
   refine one_ (i:=0) (N:=some 36) #[true,false,false,false,false,false,false,false,false,false,false,false,false,false,false,false,false,false,false,false,false,false,false,false,false,false,false,false,false,false,false] rfl rfl (one_of HT_.out (by kernel_rfl)) (by decide) (fun K hK=>?_)
   refine goes_ Try.func13 (by kernel_rfl) rfl #[] (by rfl) rfl rfl (by (try simp only [List.map_toArray,List.map_cons,List.map_nil]);first|done|rfl|(simp only [List.length_drop,List.length_take];rfl)) ?_
   with_reducible refine (girderlaw03_awake.calls k  false _ A27.out).mono ?_
   rintro e w68 ⟨rfl,hb⟩
   refine ⟨_,rfl,?_⟩
   have n0_:=Aside0.mk (Kd.V_below (by (with_reducible repeat (first|apply Kd.V_alloc|apply Kd.V_drewN|apply Kd.V_drew));exact HO346.out) hb)
   have n1_:=Aside0.mk (Kd.R_below (by (with_reducible repeat (first|apply Kd.R_alloc|apply Kd.R_drewN|apply Kd.R_drew));exact HO355.out) hb)
   have n2_:=Aside0.mk (Kd.R_below (by (with_reducible repeat (first|apply Kd.R_alloc|apply Kd.R_drewN|apply Kd.R_drew));exact HO364.out) hb)
   have n3_:=Aside0.mk (blk_below (g:=gb337) (o:=.cells #[.int .u32 a0_0,.int .u64 a0_1,.int .i64 a0_2,.string a0_3,.slice A0_4 l0_4.length c0_4] 28 (0,0)) (by (with_reducible repeat (first|refine blk_drewN ?_ _|refine blk_drew ?_|refine blk_alloc ?_ _));exact BK337.out) hb)
   have n4_:=Aside0.mk (blk_below (g:=gb357) (o:=.cells #[.int .u32 t349,.int .u64 t350,.int .i64 t351,.string t352,.slice Ao20 t353.length co20] 28 (0,0)) (by (with_reducible repeat (first|refine blk_drewN ?_ _|refine blk_drew ?_|refine blk_alloc ?_ _));exact BK357.out) hb)
   have n5_:=Aside0.mk (blk_below (g:=gb366) (o:=.cells #[.int .u32 t358,.int .u64 t359,.int .i64 t360,.string t361,.slice Ao26 t362.length co26] 35 (0,0)) (by (with_reducible repeat (first|refine blk_drewN ?_ _|refine blk_drew ?_|refine blk_alloc ?_ _));exact BK366.out) hb)
   have n6_:=Aside0.mk (below_step (by repeat (first|(with_reducible first|exact HB.out|apply below_alloc|apply pw_below_drewN|apply below_drew1|refine below_set ?_ GE337.out|refine below_set ?_ GE357.out|refine below_set ?_ GE366.out)|exact HB.out)) hb)
   clear HO346
   clear HO355
   clear HO364
   clear BK337
   clear BK357
   clear BK366
   clear HB
   have HO346:=n0_
   have HO355:=n1_
   have HO364:=n2_
   have BK337:=n3_
   have BK357:=n4_
   have BK366:=n5_
   have HB:=n6_
   clear n0_ n1_ n2_ n3_ n4_ n5_ n6_
   (try clear hb)
   (try clear hb2)
   (try clear hk)
   (try clear hi)
   refine hK.out _ _ trivial (fun hHeld=>?_)
   clear hK K
   refine norm_ (a':=?_) ?_ ?_
   rotate_left
   ·show Act.put _ (some 36) _=_
    simp only [Act.put,sA_,sB_,sC_,i64_w,i32_w]
    rfl
   refine pure_ (i:=1) (N:=some 37) (v:=?_) (a':=?_) #[true,true,false,false,false,false,false,false,false,false,false,false,false,false,false,false,false,false,false,false,false,false,false,false,false,false,false,false,false,false,false] rfl rfl (any_of HT_.out (by kernel_rfl)) (fun _ _ _ h=>h) (Or.inl ⟨by rfl,?_⟩) ?_ ?_
   rotate_left
   ·intro w'
    go_simp
    with_reducible rfl
   rotate_left
   ·simp only [Act.put,sA_,sB_,sC_,i64_w,i32_w]
    rfl
   refine pure_ (i:=2) (N:=some 38) (v:=?_) (a':=?_) #[true,true,true,false,false,false,false,false,false,false,false,false,false,false,false,false,false,false,false,false,false,false,false,false,false,false,false,false,false,false,false] rfl rfl (any_of HT_.out (by kernel_rfl)) (fun _ _ _ h=>h) (Or.inl ⟨by rfl,?_⟩) ?_ ?_
   rotate_left
   ·intro w'
    go_simp
    with_reducible rfl
   rotate_left
   ·simp only [Act.put,sA_,sB_,sC_,i64_w,i32_w]
    rfl
   refine pure_ (i:=3) (N:=some 39) (v:=undef) (a':=?_) #[true,true,true,true,false,false,false,false,false,false,false,false,false,false,false,false,false,false,false,false,false,false,false,false,false,false,false,false,false,false,false] rfl rfl (any_of HT_.out (by kernel_rfl)) (fun _ _ _ h=>h) (Or.inr ⟨by rfl,rfl⟩) ?_ ?_
   rotate_left
   ·simp only [Act.put,sA_,sB_,sC_,i64_w,i32_w]
    rfl
   refine pure_ (i:=4) (N:=some 40) (v:=undef) (a':=?_) #[true,true,true,true,true,false,false,false,false,false,false,false,false,false,false,false,false,false,false,false,false,false,false,false,false,false,false,false,false,false,false] rfl rfl (any_of HT_.out (by kernel_rfl)) (fun _ _ _ h=>h) (Or.inr ⟨by rfl,rfl⟩) ?_ ?_
   rotate_left
   ·simp only [Act.put,sA_,sB_,sC_,i64_w,i32_w]
    rfl
   refine pure_ (i:=5) (N:=some 41) (v:=undef) (a':=?_) #[true,true,true,true,true,true,false,false,false,false,false,false,false,false,false,false,false,false,false,false,false,false,false,false,false,false,false,false,false,false,false] rfl rfl (any_of HT_.out (by kernel_rfl)) (fun _ _ _ h=>h) (Or.inr ⟨by rfl,rfl⟩) ?_ ?_
   rotate_left
   ·simp only [Act.put,sA_,sB_,sC_,i64_w,i32_w]
    rfl
   refine pure_ (i:=6) (N:=some 42) (v:=?_) (a':=?_) #[true,true,true,true,true,true,true,false,false,false,false,false,false,false,false,false,false,false,false,false,false,false,false,false,false,false,false,false,false,false,false] rfl rfl (any_of HT_.out (by kernel_rfl)) (fun _ _ _ h=>h) (Or.inl ⟨by rfl,?_⟩) ?_ ?_
   rotate_left
   ·intro w'
    go_simp
    with_reducible rfl
   rotate_left
   ·simp only [Act.put,sA_,sB_,sC_,i64_w,i32_w]
    rfl
   refine pure_ (i:=7) (N:=some 43) (v:=?_) (a':=?_) #[true,true,true,true,true,true,true,true,false,false,false,false,false,false,false,false,false,false,false,false,false,false,false,false,false,false,false,false,false,false,false] rfl rfl (any_of HT_.out (by kernel_rfl)) (fun _ _ _ h=>h) (Or.inl ⟨by rfl,?_⟩) ?_ ?_
   rotate_left
   ·intro w'
    go_simp
    with_reducible rfl
   rotate_left
   ·simp only [Act.put,sA_,sB_,sC_,i64_w,i32_w]
    rfl
   refine pure_ (i:=8) (N:=some 44) (v:=undef) (a':=?_) #[true,true,true,true,true,true,true,true,true,false,false,false,false,false,false,false,false,false,false,false,false,false,false,false,false,false,false,false,false,false,false] rfl rfl (any_of HT_.out (by kernel_rfl)) (fun _ _ _ h=>h) (Or.inr ⟨by rfl,rfl⟩) ?_ ?_
   rotate_left
   ·simp only [Act.put,sA_,sB_,sC_,i64_w,i32_w]
    rfl
   refine pure_ (i:=9) (N:=some 45) (v:=undef) (a':=?_) #[true,true,true,true,true,true,true,true,true,true,false,false,false,false,false,false,false,false,false,false,false,false,false,false,false,false,false,false,false,false,false] rfl rfl (any_of HT_.out (by kernel_rfl)) (fun _ _ _ h=>h) (Or.inr ⟨by rfl,rfl⟩) ?_ ?_
   rotate_left
   ·simp only [Act.put,sA_,sB_,sC_,i64_w,i32_w]
    rfl
   refine pure_ (i:=10) (N:=some 46) (v:=undef) (a':=?_) #[true,true,true,true,true,true,true,true,true,true,true,false,false,false,false,false,false,false,false,false,false,false,false,false,false,false,false,false,false,false,false] rfl rfl (any_of HT_.out (by kernel_rfl)) (fun _ _ _ h=>h) (Or.inr ⟨by rfl,rfl⟩) ?_ ?_
   rotate_left
   ·simp only [Act.put,sA_,sB_,sC_,i64_w,i32_w]
    rfl
   refine pure_ (i:=11) (N:=some 47) (v:=?_) (a':=?_) #[true,true,true,true,true,true,true,true,true,true,true,true,false,false,false,false,false,false,false,false,false,false,false,false,false,false,false,false,false,false,false] rfl rfl (any_of HT_.out (by kernel_rfl)) (fun _ _ _ h=>h) (Or.inl ⟨by rfl,?_⟩) ?_ ?_
   rotate_left
   ·intro w'
    go_simp
    with_reducible rfl
   rotate_left
   ·simp only [Act.put,sA_,sB_,sC_,i64_w,i32_w]
    rfl
   refine pure_ (i:=12) (N:=some 48) (v:=?_) (a':=?_) #[true,true,true,true,true,true,true,true,true,true,true,true,true,false,false,false,false,false,false,false,false,false,false,false,false,false,false,false,false,false,false] rfl rfl (any_of HT_.out (by kernel_rfl)) (fun _ _ _ h=>h) (Or.inl ⟨by rfl,?_⟩) ?_ ?_
   rotate_left
   ·intro w'
    go_simp
    with_reducible rfl
   rotate_left
   ·simp only [Act.put,sA_,sB_,sC_,i64_w,i32_w]
    rfl
   refine pure_ (i:=13) (N:=some 49) (v:=undef) (a':=?_) #[true,true,true,true,true,true,true,true,true,true,true,true,true,true,false,false,false,false,false,false,false,false,false,false,false,false,false,false,false,false,false] rfl rfl (any_of HT_.out (by kernel_rfl)) (fun _ _ _ h=>h) (Or.inr ⟨by rfl,rfl⟩) ?_ ?_
   rotate_left
   ·simp only [Act.put,sA_,sB_,sC_,i64_w,i32_w]
    rfl
   refine pure_ (i:=14) (N:=some 50) (v:=undef) (a':=?_) #[true,true,true,true,true,true,true,true,true,true,true,true,true,true,true,false,false,false,false,false,false,false,false,false,false,false,false,false,false,false,false] rfl rfl (any_of HT_.out (by kernel_rfl)) (fun _ _ _ h=>h) (Or.inr ⟨by rfl,rfl⟩) ?_ ?_
   rotate_left
   ·simp only [Act.put,sA_,sB_,sC_,i64_w,i32_w]
    rfl
   refine pure_ (i:=15) (N:=some 51) (v:=undef) (a':=?_) #[true,true,true,true,true,true,true,true,true,true,true,true,true,true,true,true,false,false,false,false,false,false,false,false,false,false,false,false,false,false,false] rfl rfl (any_of HT_.out (by kernel_rfl)) (fun _ _ _ h=>h) (Or.inr ⟨by rfl,rfl⟩) ?_ ?_
   rotate_left
   ·simp only [Act.put,sA_,sB_,sC_,i64_w,i32_w]
    rfl
   refine pure_ (i:=16) (N:=some 52) (v:=undef) (a':=?_) #[true,true,true,true,true,true,true,true,true,true,true,true,true,true,true,true,true,false,false,false,false,false,false,false,false,false,false,false,false,false,false] rfl rfl (any_of HT_.out (by kernel_rfl)) (fun _ _ _ h=>h) (Or.inr ⟨by rfl,rfl⟩) ?_ ?_
   rotate_left
   ·simp only [Act.put,sA_,sB_,sC_,i64_w,i32_w]
    rfl
   refine pure_ (i:=17) (N:=some 53) (v:=undef) (a':=?_) #[true,true,true,true,true,true,true,true,true,true,true,true,true,true,true,true,true,true,false,false,false,false,false,false,false,false,false,false,false,false,false] rfl rfl (any_of HT_.out (by kernel_rfl)) (fun _ _ _ h=>h) (Or.inr ⟨by rfl,rfl⟩) ?_ ?_
   rotate_left
   ·simp only [Act.put,sA_,sB_,sC_,i64_w,i32_w]
    rfl
   refine pure_ (i:=18) (N:=some 54) (v:=undef) (a':=?_) #[true,true,true,true,true,true,true,true,true,true,true,true,true,true,true,true,true,true,true,false,false,false,false,false,false,false,false,false,false,false,false] rfl rfl (any_of HT_.out (by kernel_rfl)) (fun _ _ _ h=>h) (Or.inr ⟨by rfl,rfl⟩) ?_ ?_
   rotate_left
   ·simp only [Act.put,sA_,sB_,sC_,i64_w,i32_w]
    rfl
   refine pure_ (i:=19) (N:=some 55) (v:=?_) (a':=?_) #[true,true,true,true,true,true,true,true,true,true,true,true,true,true,true,true,true,true,true,true,false,false,false,false,false,false,false,false,false,false,false] rfl rfl (any_of HT_.out (by kernel_rfl)) (fun _ _ _ h=>h) (Or.inl ⟨by rfl,?_⟩) ?_ ?_
   rotate_left
   ·intro w'
    go_simp
    with_reducible rfl
   rotate_left
   ·simp only [Act.put,sA_,sB_,sC_,i64_w,i32_w]
    rfl
   refine pure_ (i:=20) (N:=some 56) (v:=?_) (a':=?_) #[true,true,true,true,true,true,true,true,true,true,true,true,true,true,true,true,true,true,true,true,true,false,false,false,false,false,false,false,false,false,false] rfl rfl (any_of HT_.out (by kernel_rfl)) (fun _ _ _ h=>h) (Or.inl ⟨by rfl,?_⟩) ?_ ?_
   rotate_left
   ·intro w'
    go_simp
    with_reducible rfl
   rotate_left
   ·simp only [Act.put,sA_,sB_,sC_,i64_w,i32_w]
    rfl
   refine pure_ (i:=21) (N:=some 57) (v:=undef) (a':=?_) #[true,true,true,true,true,true,true,true,true,true,true,true,true,true,true,true,true,true,true,true,true,true,false,false,false,false,false,false,false,false,false] rfl rfl (any_of HT_.out (by kernel_rfl)) (fun _ _ _ h=>h) (Or.inr ⟨by rfl,rfl⟩) ?_ ?_
   rotate_left
   ·simp only [Act.put,sA_,sB_,sC_,i64_w,i32_w]
    rfl
   refine pure_ (i:=22) (N:=some 58) (v:=undef) (a':=?_) #[true,true,true,true,true,true,true,true,true,true,true,true,true,true,true,true,true,true,true,true,true,true,true,false,false,false,false,false,false,false,false] rfl rfl (any_of HT_.out (by kernel_rfl)) (fun _ _ _ h=>h) (Or.inr ⟨by rfl,rfl⟩) ?_ ?_
   rotate_left
   ·simp only [Act.put,sA_,sB_,sC_,i64_w,i32_w]
    rfl
   refine pure_ (i:=23) (N:=some 59) (v:=undef) (a':=?_) #[true,true,true,true,true,true,true,true,true,true,true,true,true,true,true,true,true,true,true,true,true,true,true,true,false,false,false,false,false,false,false] rfl rfl (any_of HT_.out (by kernel_rfl)) (fun _ _ _ h=>h) (Or.inr ⟨by rfl,rfl⟩) ?_ ?_
   rotate_left
   ·simp only [Act.put,sA_,sB_,sC_,i64_w,i32_w]
    rfl
   refine pure_ (i:=24) (N:=some 60) (v:=undef) (a':=?_) #[true,true,true,true,true,true,true,true,true,true,true,true,true,true,true,true,true,true,true,true,true,true,true,true,true,false,false,false,false,false,false] rfl rfl (any_of HT_.out (by kernel_rfl)) (fun _ _ _ h=>h) (Or.inr ⟨by rfl,rfl⟩) ?_ ?_
   rotate_left
   ·simp only [Act.put,sA_,sB_,sC_,i64_w,i32_w]
    rfl
   refine pure_ (i:=25) (N:=some 61) (v:=?_) (a':=?_) #[true,true,true,true,true,true,true,true,true,true,true,true,true,true,true,true,true,true,true,true,true,true,true,true,true,true,false,false,false,false,false] rfl rfl (any_of HT_.out (by kernel_rfl)) (fun _ _ _ h=>h) (Or.inl ⟨by rfl,?_⟩) ?_ ?_
   rotate_left
   ·intro w'
    go_simp
    with_reducible rfl
   rotate_left
   ·simp only [Act.put,sA_,sB_,sC_,i64_w,i32_w]
    rfl
   refine pure_ (i:=26) (N:=some 62) (v:=?_) (a':=?_) #[true,true,true,true,true,true,true,true,true,true,true,true,true,true,true,true,true,true,true,true,true,true,true,true,true,true,true,false,false,false,false] rfl rfl (any_of HT_.out (by kernel_rfl)) (fun _ _ _ h=>h) (Or.inl ⟨by rfl,?_⟩) ?_ ?_
   rotate_left
   ·intro w'
    go_simp
    with_reducible rfl
   rotate_left
   ·simp only [Act.put,sA_,sB_,sC_,i64_w,i32_w]
    rfl
   refine pure_ (i:=27) (N:=some 63) (v:=undef) (a':=?_) #[true,true,true,true,true,true,true,true,true,true,true,true,true,true,true,true,true,true,true,true,true,true,true,true,true,true,true,true,false,false,false] rfl rfl (any_of HT_.out (by kernel_rfl)) (fun _ _ _ h=>h) (Or.inr ⟨by rfl,rfl⟩) ?_ ?_
   rotate_left
   ·simp only [Act.put,sA_,sB_,sC_,i64_w,i32_w]
    rfl
   refine pure_ (i:=28) (N:=some 64) (v:=undef) (a':=?_) #[true,true,true,true,true,true,true,true,true,true,true,true,true,true,true,true,true,true,true,true,true,true,true,true,true,true,true,true,true,false,false] rfl rfl (any_of HT_.out (by kernel_rfl)) (fun _ _ _ h=>h) (Or.inr ⟨by rfl,rfl⟩) ?_ ?_
   rotate_left
   ·simp only [Act.put,sA_,sB_,sC_,i64_w,i32_w]
    rfl
   refine pure_ (i:=29) (N:=some 65) (v:=undef) (a':=?_) #[true,true,true,true,true,true,true,true,true,true,true,true,true,true,true,true,true,true,true,true,true,true,true,true,true,true,true,true,true,true,false] rfl rfl (any_of HT_.out (by kernel_rfl)) (fun _ _ _ h=>h) (Or.inr ⟨by rfl,rfl⟩) ?_ ?_
   rotate_left
   ·simp only [Act.put,sA_,sB_,sC_,i64_w,i32_w]
    rfl
   refine pure_ (i:=30) (N:=some 66) (v:=?_) (a':=?_) #[true,true,true,true,true,true,true,true,true,true,true,true,true,true,true,true,true,true,true,true,true,true,true,true,true,true,true,true,true,true,true] rfl rfl (any_of HT_.out (by kernel_rfl)) (fun _ _ _ h=>h) (Or.inl ⟨by rfl,?_⟩) ?_ ?_
   rotate_left
   ·intro w'
    go_simp
    with_reducible rfl
   rotate_left
   ·simp only [Act.put,sA_,sB_,sC_,i64_w,i32_w]
    rfl
   refine done_ (done_of HT_.out (by kernel_rfl)) ?_
   try go_wp2
   go_meet
   case rel=>exact ⟨_,(true),(by first|rfl|(simp;done)|(simp [*];done)),H',⟨by first|omega|exact Nat.le_refl _⟩,⟨by (with_reducible repeat (first|apply Kd.R_alloc|apply Kd.R_drewN|apply Kd.R_drew));exact HO355.out⟩,⟨by (with_reducible repeat (first|apply Kd.R_alloc|apply Kd.R_drewN|apply Kd.R_drew));exact HO364.out⟩,⟨by (with_reducible repeat (first|refine blk_drewN ?_ _|refine blk_drew ?_|refine blk_alloc ?_ _));exact BK337.out⟩,⟨by (with_reducible repeat (first|refine blk_drewN ?_ _|refine blk_drew ?_|refine blk_alloc ?_ _));exact BK357.out⟩,⟨by (with_reducible repeat (first|refine blk_drewN ?_ _|refine blk_drew ?_|refine blk_alloc ?_ _));exact BK366.out⟩,⟨by repeat (first|(with_reducible first|exact HB.out|apply below_alloc|apply pw_below_drewN|apply below_drew1|refine below_set ?_ GE337.out|refine below_set ?_ GE357.out|refine below_set ?_ GE366.out)|exact HB.out)⟩⟩
 case rest =>
  clear HC8
  try clear c1
  try clear c2
  try clear p2
  try clear c13
  try clear c28
  try clear c29
  try clear c29b0
  try clear c29b1
  obtain ⟨kq,x66_7,rfl,HA,HJ7,HO_358004,HO_367004,BK337,BK357,BK366,HB⟩:=hcut
  cases kq with
  | zero=>exact absurd HA.out (by simp [girderlaw03_PageCodes.j0])
  | succ kj7 =>
   have H:=HA.out
   clear HA
   simp only [girderlaw03_PageCodes.j0] at H
   by_cases c69 : x66_7=true
   ·subst c69
    have H1 : (some false)=some r:=by rw [if_pos rfl] at H;exact H
    clear H
    have H:=H1
    clear H1
    obtain rfl:=Option.some.inj H
    go_wp2
    go_ret
    exact ⟨by first|rfl|(simp [errW_none,errW_some] <;> rfl)|(simp [*,errW_none,errW_some] <;> rfl),by repeat (first|(with_reducible first|exact HB.out|apply below_alloc|apply pw_below_drewN|apply below_drew1|refine below_set ?_ GE337.out|refine below_set ?_ GE357.out|refine below_set ?_ GE366.out)|exact HB.out)⟩
   ·replace c69:=Bool.eq_false_iff.mpr c69
    subst c69
    have H1 : (if t348=0 then ((page_Decode.f kj7 t338).bind fun bt378=>(if bt378.2.2.2.2.2=0 then ((page_Same.f kj7 bt378.1 bt378.2.1 bt378.2.2.1 bt378.2.2.2.1 bt378.2.2.2.2.1 a0_0 a0_1 a0_2 a0_3 l0_4).bind fun t387=>(if t387=true then (some (bt378.2.1 == a0_1)) else (some false))) else (some false))) else (some true))=some r:=by rw [if_neg (show ¬ (false=true) by decide)] at H;exact H
    clear H
    have H:=H1
    clear H1
    by_cases c70 : t348=0
    ·rw [if_pos c70] at H
     have c70b0 : (t348 == 0)=true:=beq_iff_eq.mpr c70
     have c70b1 : (t348 != 0)=false:=bne_eq_false_iff_eq.mpr c70
     clear c70
     replace H:=Option.bind_eq_some_iff.mp H
     obtain ⟨⟨t378,t379,t380,t381,t382,t385⟩,A710,H⟩:=H
     replace H : (if t385=0 then ((page_Same.f kj7 t378 t379 t380 t381 t382 a0_0 a0_1 a0_2 a0_3 l0_4).bind fun t387=>(if t387=true then (some (t379 == a0_1)) else (some false))) else (some false))=some r:=H
     have A71:=Aside0.mk A710
     clear A710
     by_cases c72 : t385=0
     ·rw [if_pos c72] at H
      have c72b0 : (t385 == 0)=true:=beq_iff_eq.mpr c72
      have c72b1 : (t385 != 0)=false:=bne_eq_false_iff_eq.mpr c72
      clear c72
      replace H:=Option.bind_eq_some_iff.mp H
      obtain ⟨t387,A730,H⟩:=H
      replace H : (if t387=true then (some (t379 == a0_1)) else (some false))=some r:=H
      have A73:=Aside0.mk A730
      clear A730
      by_cases c74 : t387=true
      ·subst c74
       have H1 : (some (t379 == a0_1))=some r:=by rw [if_pos rfl] at H;exact H
       clear H
       have H:=H1
       clear H1
       obtain rfl:=Option.some.inj H
       go_wp2_with (first|((with_reducible refine gate_callee (f:=11) rfl ?_);refine goesL_ (some 71) rfl rfl Try.func11 (by kernel_rfl) rfl #[.string t338] rfl (by (try simp only [List.map_toArray,List.map_cons,List.map_nil]);first|done|rfl|(simp only [List.length_drop,List.length_take];rfl)) ?_;(with_reducible refine (page_Decode.calls kj7 t338 t378 t379 t380 t381 t382 t385 _ A71.out).mono ?_);rintro e w75 ⟨v383,rfl,ho0,hb⟩;refine ⟨_,rfl,?_⟩;have n0_:=Aside0.mk (Kd.R_elder' (by (with_reducible repeat (first|apply Kd.R_alloc|apply Kd.R_drewN|apply Kd.R_drew));exact HO_358004.out) (Kd.R_base ho0) hb);have n1_:=Aside0.mk (Kd.R_elder' (by (with_reducible repeat (first|apply Kd.R_alloc|apply Kd.R_drewN|apply Kd.R_drew));exact HO_367004.out) (Kd.R_base ho0) hb);have n2_:=Aside0.mk (Kd.R_lower (Kd.R_new' (Kd.R_new' ho0 (Kd.R_lt (by (with_reducible repeat (first|apply Kd.R_alloc|apply Kd.R_drewN|apply Kd.R_drew));exact HO_358004.out))) (Kd.R_lt (by (with_reducible repeat (first|apply Kd.R_alloc|apply Kd.R_drewN|apply Kd.R_drew));exact HO_367004.out))) (below_size (by repeat (first|(with_reducible first|exact HB.out|apply below_alloc|apply pw_below_drewN|apply below_drew1|refine below_set ?_ GE337.out|refine below_set ?_ GE357.out|refine below_set ?_ GE366.out)|exact HB.out))));have n3_:=Aside0.mk (blk_below (g:=gb337) (o:=.cells #[.int .u32 a0_0,.int .u64 a0_1,.int .i64 a0_2,.string a0_3,.slice A0_4 l0_4.length c0_4] 28 (0,0)) (by (with_reducible repeat (first|refine blk_drewN ?_ _|refine blk_drew ?_|refine blk_alloc ?_ _));exact BK337.out) hb);have n4_:=Aside0.mk (blk_below (g:=gb357) (o:=.cells #[.int .u32 t349,.int .u64 t350,.int .i64 t351,.string t352,.slice Ao20 t353.length co20] 28 (0,0)) (by (with_reducible repeat (first|refine blk_drewN ?_ _|refine blk_drew ?_|refine blk_alloc ?_ _));exact BK357.out) hb);have n5_:=Aside0.mk (blk_below (g:=gb366) (o:=.cells #[.int .u32 t358,.int .u64 t359,.int .i64 t360,.string t361,.slice Ao26 t362.length co26] 35 (0,0)) (by (with_reducible repeat (first|refine blk_drewN ?_ _|refine blk_drew ?_|refine blk_alloc ?_ _));exact BK366.out) hb);have n6_:=Aside0.mk (below_step (by repeat (first|(with_reducible first|exact HB.out|apply below_alloc|apply pw_below_drewN|apply below_drew1|refine below_set ?_ GE337.out|refine below_set ?_ GE357.out|refine below_set ?_ GE366.out)|exact HB.out)) hb);clear HO_358004;clear HO_367004;clear BK337;clear BK357;clear BK366;clear HB;have HO_358004:=n0_;have HO_367004:=n1_;have HO384:=n2_;have BK337:=n3_;have BK357:=n4_;have BK366:=n5_;have HB:=n6_;clear n0_ n1_ n2_ n3_ n4_ n5_ n6_;(try clear hb);(try clear hb2);(try clear hk);(try clear hi);(try clear ho0))|((with_reducible refine gate_dst (N:=13) rfl ?_);refine box_event ?hg (N:=13) ?hd (cs:=#[.int .u32 0,.int .u64 0,.int .i64 0,.string (⟨#[]⟩ : ByteArray),.slice none 0 0]) (t:=28) ?hr ?_;(case hd=>rfl);(case hg=>rfl);(case hr=>first|(go_simp;done)|(go_simp;rfl));intro gb386 hg w76 hbox hb;have n0_:=Aside0.mk (Kd.R_below (by (with_reducible repeat (first|apply Kd.R_alloc|apply Kd.R_drewN|apply Kd.R_drew));exact HO_358004.out) hb);have n1_:=Aside0.mk (Kd.R_below (by (with_reducible repeat (first|apply Kd.R_alloc|apply Kd.R_drewN|apply Kd.R_drew));exact HO_367004.out) hb);have n2_:=Aside0.mk (Kd.R_below (by (with_reducible repeat (first|apply Kd.R_alloc|apply Kd.R_drewN|apply Kd.R_drew));exact HO384.out) hb);have n3_:=Aside0.mk (blk_below (g:=gb337) (o:=.cells #[.int .u32 a0_0,.int .u64 a0_1,.int .i64 a0_2,.string a0_3,.slice A0_4 l0_4.length c0_4] 28 (0,0)) (by (with_reducible repeat (first|refine blk_drewN ?_ _|refine blk_drew ?_|refine blk_alloc ?_ _));exact BK337.out) hb);have n4_:=Aside0.mk (blk_below (g:=gb357) (o:=.cells #[.int .u32 t349,.int .u64 t350,.int .i64 t351,.string t352,.slice Ao20 t353.length co20] 28 (0,0)) (by (with_reducible repeat (first|refine blk_drewN ?_ _|refine blk_drew ?_|refine blk_alloc ?_ _));exact BK357.out) hb);have n5_:=Aside0.mk (blk_below (g:=gb366) (o:=.cells #[.int .u32 t358,.int .u64 t359,.int .i64 t360,.string t361,.slice Ao26 t362.length co26] 35 (0,0)) (by (with_reducible repeat (first|refine blk_drewN ?_ _|refine blk_drew ?_|refine blk_alloc ?_ _));exact BK366.out) hb);have n6_:=Aside0.mk (below_step (by repeat (first|(with_reducible first|exact HB.out|apply below_alloc|apply pw_below_drewN|apply below_drew1|refine below_set ?_ GE337.out|refine below_set ?_ GE357.out|refine below_set ?_ GE366.out)|exact HB.out)) hb);have n7_:=Aside0.mk (hbox);have n8_:=Aside0.mk ((by rw [hg];exact (below_size (by repeat (first|(with_reducible first|exact HB.out|apply below_alloc|apply pw_below_drewN|apply below_drew1|refine below_set ?_ GE337.out|refine below_set ?_ GE357.out|refine below_set ?_ GE366.out)|exact HB.out))) : w.heap.size≤gb386));have n9_:=Aside0.mk ((by rw [hg];exact (below_size (by repeat (first|(with_reducible first|exact HB.out|apply below_alloc|apply pw_below_drewN|apply below_drew1|refine below_set ?_ GE337.out|refine below_set ?_ GE357.out|refine below_set ?_ GE366.out)|exact HB.out))) : w.heap.size≤gb386));have n10_:=Aside0.mk ((by rw [hg];exact Nat.ne_of_lt (blk_lt (g:=gb337) (o:=.cells #[.int .u32 a0_0,.int .u64 a0_1,.int .i64 a0_2,.string a0_3,.slice A0_4 l0_4.length c0_4] 28 (0,0)) (by (with_reducible repeat (first|refine blk_drewN ?_ _|refine blk_drew ?_|refine blk_alloc ?_ _));exact BK337.out)) : gb337≠gb386));have n11_:=Aside0.mk ((by rw [hg];exact Nat.ne_of_gt (blk_lt (g:=gb337) (o:=.cells #[.int .u32 a0_0,.int .u64 a0_1,.int .i64 a0_2,.string a0_3,.slice A0_4 l0_4.length c0_4] 28 (0,0)) (by (with_reducible repeat (first|refine blk_drewN ?_ _|refine blk_drew ?_|refine blk_alloc ?_ _));exact BK337.out)) : gb386≠gb337));have n12_:=Aside0.mk ((by rw [hg];exact Nat.ne_of_lt (blk_lt (g:=gb357) (o:=.cells #[.int .u32 t349,.int .u64 t350,.int .i64 t351,.string t352,.slice Ao20 t353.length co20] 28 (0,0)) (by (with_reducible repeat (first|refine blk_drewN ?_ _|refine blk_drew ?_|refine blk_alloc ?_ _));exact BK357.out)) : gb357≠gb386));have n13_:=Aside0.mk ((by rw [hg];exact Nat.ne_of_gt (blk_lt (g:=gb357) (o:=.cells #[.int .u32 t349,.int .u64 t350,.int .i64 t351,.string t352,.slice Ao20 t353.length co20] 28 (0,0)) (by (with_reducible repeat (first|refine blk_drewN ?_ _|refine blk_drew ?_|refine blk_alloc ?_ _));exact BK357.out)) : gb386≠gb357));have n14_:=Aside0.mk ((by rw [hg];exact Nat.ne_of_lt (blk_lt (g:=gb366) (o:=.cells #[.int .u32 t358,.int .u64 t359,.int .i64 t360,.string t361,.slice Ao26 t362.length co26] 35 (0,0)) (by (with_reducible repeat (first|refine blk_drewN ?_ _|refine blk_drew ?_|refine blk_alloc ?_ _));exact BK366.out)) : gb366≠gb386));have n15_:=Aside0.mk ((by rw [hg];exact Nat.ne_of_gt (blk_lt (g:=gb366) (o:=.cells #[.int .u32 t358,.int .u64 t359,.int .i64 t360,.string t361,.slice Ao26 t362.length co26] 35 (0,0)) (by (with_reducible repeat (first|refine blk_drewN ?_ _|refine blk_drew ?_|refine blk_alloc ?_ _));exact BK366.out)) : gb386≠gb366));clear HO_358004;clear HO_367004;clear HO384;clear BK337;clear BK357;clear BK366;clear HB;have HO_358004:=n0_;have HO_367004:=n1_;have HO384:=n2_;have BK337:=n3_;have BK357:=n4_;have BK366:=n5_;have HB:=n6_;have BK386:=n7_;have GW386:=n8_;have GE386:=n9_;have NB337_386:=n10_;have NB386_337:=n11_;have NB357_386:=n12_;have NB386_357:=n13_;have NB366_386:=n14_;have NB386_366:=n15_;clear n0_ n1_ n2_ n3_ n4_ n5_ n6_ n7_ n8_ n9_ n10_ n11_ n12_ n13_ n14_ n15_;clear hb hbox hg;have hnb77:=NB386_337.out;have hnc77:=NB337_386.out;have hnb78:=NB386_357.out;have hnc78:=NB357_386.out;have hnb79:=NB386_366.out;have hnc79:=NB366_386.out;have hcz80_0 : w76.cell? ⟨gb386,0,none⟩=some (.int .u32 0):=(blk_cell BK386.out 0).trans rfl;have hcz80_1 : w76.cell? ⟨gb386,1,none⟩=some (.int .u64 0):=(blk_cell BK386.out 1).trans rfl;have hcz80_2 : w76.cell? ⟨gb386,2,none⟩=some (.int .i64 0):=(blk_cell BK386.out 2).trans rfl;have hcz80_3 : w76.cell? ⟨gb386,3,none⟩=some (.string (⟨#[]⟩ : ByteArray)):=(blk_cell BK386.out 3).trans rfl;have hcz80_4 : w76.cell? ⟨gb386,4,none⟩=some (.slice none 0 0):=(blk_cell BK386.out 4).trans rfl;have hfz80_0:=blk_frozen BK386.out 0;have hfz80_1:=blk_frozen BK386.out 1;have hfz80_2:=blk_frozen BK386.out 2;have hfz80_3:=blk_frozen BK386.out 3;have hfz80_4:=blk_frozen BK386.out 4;obtain ⟨Ao81,co81,eo81⟩:=Kd.R_slice HO384.out;subst eo81;have hnb82:=NB337_357.out;have hnc82:=NB357_337.out;have hnb83:=NB337_366.out;have hnc83:=NB366_337.out;have hcz84_0 : w76.cell? ⟨gb337,0,none⟩=some (.int .u32 a0_0):=(blk_cell BK337.out 0).trans rfl;have hcz84_1 : w76.cell? ⟨gb337,1,none⟩=some (.int .u64 a0_1):=(blk_cell BK337.out 1).trans rfl;have hcz84_2 : w76.cell? ⟨gb337,2,none⟩=some (.int .i64 a0_2):=(blk_cell BK337.out 2).trans rfl;have hcz84_3 : w76.cell? ⟨gb337,3,none⟩=some (.string a0_3):=(blk_cell BK337.out 3).trans rfl;have hcz84_4 : w76.cell? ⟨gb337,4,none⟩=some (.slice A0_4 l0_4.length c0_4):=(blk_cell BK337.out 4).trans rfl;have hfz84_0:=blk_frozen BK337.out 0;have hfz84_1:=blk_frozen BK337.out 1;have hfz84_2:=blk_frozen BK337.out 2;have hfz84_3:=blk_frozen BK337.out 3;have hfz84_4:=blk_frozen BK337.out 4)|(go_at_call 17;(with_reducible refine (page_Same.calls kj7 t378 t379 t380 t381 _ _ t382 a0_0 a0_1 a0_2 a0_3 _ _ l0_4 true _ ?side1 ?side2 ?side3 ?side4 A73.out).mono ?_);(case side1=>refine (Kd.R_reads' (e:=9) (base:=w.heap.size) (ok:=fun k_=>((True∧some k_≠(.slice Ao20 t353.length co20 : Value).ownBlock)∧some k_≠(.slice Ao26 t362.length co26 : Value).ownBlock)) (n:=t382.length) (c:=co81) ?_).2.2;exact (by (with_reducible repeat (first|apply Kd.R_alloc|apply Kd.R_drewN|apply Kd.R_drew));exact (Kd.R_mono (Kd.R_far (p:=⟨gb386,4,none⟩) (Kd.R_far (p:=⟨gb386,3,none⟩) (Kd.R_far (p:=⟨gb386,2,none⟩) (Kd.R_far (p:=⟨gb386,1,none⟩) (Kd.R_far (p:=⟨gb386,0,none⟩) (Kd.R_types HO384.out BK386.out (by decide)) (fun _ hk=>hk.2) (.int .u32 t378)) (fun _ hk=>hk.2) (.int .u64 t379)) (fun _ hk=>hk.2) (.int .i64 t380)) (fun _ hk=>hk.2) (.string t381)) (fun _ hk=>hk.2) (.slice Ao81 t382.length co81)) (fun _ h_=>h_.1))));(case side2=>exact (Kd.R_reads' HO384.out).2.1);(case side3=>exact Kd.C_below HR0_4.out (by repeat (first|(with_reducible first|exact HB.out|apply below_alloc|apply pw_below_drewN|apply below_drew1|refine below_set ?_ GE337.out|refine below_set ?_ GE357.out|refine below_set ?_ GE366.out|refine below_set ?_ GE386.out)|exact HB.out)));(case side4=>exact HC0_4.out);rintro e w85 ⟨rfl,hb⟩;have n0_:=Aside0.mk (Kd.R_below (by (with_reducible repeat (first|apply Kd.R_alloc|apply Kd.R_drewN|apply Kd.R_drew));exact (Kd.R_mono (Kd.R_far (p:=⟨gb386,4,none⟩) (Kd.R_far (p:=⟨gb386,3,none⟩) (Kd.R_far (p:=⟨gb386,2,none⟩) (Kd.R_far (p:=⟨gb386,1,none⟩) (Kd.R_far (p:=⟨gb386,0,none⟩) (Kd.R_types HO_358004.out BK386.out (by decide)) (fun _ hk=>hk.2) (.int .u32 t378)) (fun _ hk=>hk.2) (.int .u64 t379)) (fun _ hk=>hk.2) (.int .i64 t380)) (fun _ hk=>hk.2) (.string t381)) (fun _ hk=>hk.2) (.slice Ao81 t382.length co81)) (fun _ h_=>h_.1))) hb);have n1_:=Aside0.mk (Kd.R_below (by (with_reducible repeat (first|apply Kd.R_alloc|apply Kd.R_drewN|apply Kd.R_drew));exact (Kd.R_mono (Kd.R_far (p:=⟨gb386,4,none⟩) (Kd.R_far (p:=⟨gb386,3,none⟩) (Kd.R_far (p:=⟨gb386,2,none⟩) (Kd.R_far (p:=⟨gb386,1,none⟩) (Kd.R_far (p:=⟨gb386,0,none⟩) (Kd.R_types HO_367004.out BK386.out (by decide)) (fun _ hk=>hk.2) (.int .u32 t378)) (fun _ hk=>hk.2) (.int .u64 t379)) (fun _ hk=>hk.2) (.int .i64 t380)) (fun _ hk=>hk.2) (.string t381)) (fun _ hk=>hk.2) (.slice Ao81 t382.length co81)) (fun _ h_=>h_.1))) hb);have n2_:=Aside0.mk (Kd.R_below (by (with_reducible repeat (first|apply Kd.R_alloc|apply Kd.R_drewN|apply Kd.R_drew));exact (Kd.R_mono (Kd.R_far (p:=⟨gb386,4,none⟩) (Kd.R_far (p:=⟨gb386,3,none⟩) (Kd.R_far (p:=⟨gb386,2,none⟩) (Kd.R_far (p:=⟨gb386,1,none⟩) (Kd.R_far (p:=⟨gb386,0,none⟩) (Kd.R_types HO384.out BK386.out (by decide)) (fun _ hk=>hk.2) (.int .u32 t378)) (fun _ hk=>hk.2) (.int .u64 t379)) (fun _ hk=>hk.2) (.int .i64 t380)) (fun _ hk=>hk.2) (.string t381)) (fun _ hk=>hk.2) (.slice Ao81 t382.length co81)) (fun _ h_=>h_.1))) hb);have n3_:=Aside0.mk (blk_below (g:=gb337) (o:=.cells #[.int .u32 a0_0,.int .u64 a0_1,.int .i64 a0_2,.string a0_3,.slice A0_4 l0_4.length c0_4] 28 (0,0)) (by (with_reducible repeat (first|refine blk_drewN ?_ _|refine blk_drew ?_|refine blk_alloc ?_ _));refine blk_far ?_ NB337_386.out _;(with_reducible repeat (first|refine blk_drewN ?_ _|refine blk_drew ?_|refine blk_alloc ?_ _));refine blk_far ?_ NB337_386.out _;(with_reducible repeat (first|refine blk_drewN ?_ _|refine blk_drew ?_|refine blk_alloc ?_ _));refine blk_far ?_ NB337_386.out _;(with_reducible repeat (first|refine blk_drewN ?_ _|refine blk_drew ?_|refine blk_alloc ?_ _));refine blk_far ?_ NB337_386.out _;(with_reducible repeat (first|refine blk_drewN ?_ _|refine blk_drew ?_|refine blk_alloc ?_ _));refine blk_far ?_ NB337_386.out _;(with_reducible repeat (first|refine blk_drewN ?_ _|refine blk_drew ?_|refine blk_alloc ?_ _));exact BK337.out) hb);have n4_:=Aside0.mk (blk_below (g:=gb357) (o:=.cells #[.int .u32 t349,.int .u64 t350,.int .i64 t351,.string t352,.slice Ao20 t353.length co20] 28 (0,0)) (by (with_reducible repeat (first|refine blk_drewN ?_ _|refine blk_drew ?_|refine blk_alloc ?_ _));refine blk_far ?_ NB357_386.out _;(with_reducible repeat (first|refine blk_drewN ?_ _|refine blk_drew ?_|refine blk_alloc ?_ _));refine blk_far ?_ NB357_386.out _;(with_reducible repeat (first|refine blk_drewN ?_ _|refine blk_drew ?_|refine blk_alloc ?_ _));refine blk_far ?_ NB357_386.out _;(with_reducible repeat (first|refine blk_drewN ?_ _|refine blk_drew ?_|refine blk_alloc ?_ _));refine blk_far ?_ NB357_386.out _;(with_reducible repeat (first|refine blk_drewN ?_ _|refine blk_drew ?_|refine blk_alloc ?_ _));refine blk_far ?_ NB357_386.out _;(with_reducible repeat (first|refine blk_drewN ?_ _|refine blk_drew ?_|refine blk_alloc ?_ _));exact BK357.out) hb);have n5_:=Aside0.mk (blk_below (g:=gb366) (o:=.cells #[.int .u32 t358,.int .u64 t359,.int .i64 t360,.string t361,.slice Ao26 t362.length co26] 35 (0,0)) (by (with_reducible repeat (first|refine blk_drewN ?_ _|refine blk_drew ?_|refine blk_alloc ?_ _));refine blk_far ?_ NB366_386.out _;(with_reducible repeat (first|refine blk_drewN ?_ _|refine blk_drew ?_|refine blk_alloc ?_ _));refine blk_far ?_ NB366_386.out _;(with_reducible repeat (first|refine blk_drewN ?_ _|refine blk_drew ?_|refine blk_alloc ?_ _));refine blk_far ?_ NB366_386.out _;(with_reducible repeat (first|refine blk_drewN ?_ _|refine blk_drew ?_|refine blk_alloc ?_ _));refine blk_far ?_ NB366_386.out _;(with_reducible repeat (first|refine blk_drewN ?_ _|refine blk_drew ?_|refine blk_alloc ?_ _));refine blk_far ?_ NB366_386.out _;(with_reducible repeat (first|refine blk_drewN ?_ _|refine blk_drew ?_|refine blk_alloc ?_ _));exact BK366.out) hb);have n6_:=Aside0.mk (blk_below (g:=gb386) (o:=.cells #[.int .u32 t378,.int .u64 t379,.int .i64 t380,.string t381,.slice Ao81 t382.length co81] 28 (0,0)) (by (with_reducible repeat (first|refine blk_drewN ?_ _|refine blk_drew ?_|refine blk_alloc ?_ _));refine blk_put (cs:=#[.int .u32 t378,.int .u64 t379,.int .i64 t380,.string t381,.slice none 0 0]) ?_ 4 _ rfl;(with_reducible repeat (first|refine blk_drewN ?_ _|refine blk_drew ?_|refine blk_alloc ?_ _));refine blk_put (cs:=#[.int .u32 t378,.int .u64 t379,.int .i64 t380,.string (⟨#[]⟩ : ByteArray),.slice none 0 0]) ?_ 3 _ rfl;(with_reducible repeat (first|refine blk_drewN ?_ _|refine blk_drew ?_|refine blk_alloc ?_ _));refine blk_put (cs:=#[.int .u32 t378,.int .u64 t379,.int .i64 0,.string (⟨#[]⟩ : ByteArray),.slice none 0 0]) ?_ 2 _ rfl;(with_reducible repeat (first|refine blk_drewN ?_ _|refine blk_drew ?_|refine blk_alloc ?_ _));refine blk_put (cs:=#[.int .u32 t378,.int .u64 0,.int .i64 0,.string (⟨#[]⟩ : ByteArray),.slice none 0 0]) ?_ 1 _ rfl;(with_reducible repeat (first|refine blk_drewN ?_ _|refine blk_drew ?_|refine blk_alloc ?_ _));refine blk_put (cs:=#[.int .u32 0,.int .u64 0,.int .i64 0,.string (⟨#[]⟩ : ByteArray),.slice none 0 0]) ?_ 0 _ rfl;(with_reducible repeat (first|refine blk_drewN ?_ _|refine blk_drew ?_|refine blk_alloc ?_ _));exact BK386.out) hb);have n7_:=Aside0.mk (below_step (by repeat (first|(with_reducible first|exact HB.out|apply below_alloc|apply pw_below_drewN|apply below_drew1|refine below_set ?_ GE337.out|refine below_set ?_ GE357.out|refine below_set ?_ GE366.out|refine below_set ?_ GE386.out)|exact HB.out)) hb);clear HO_358004;clear HO_367004;clear HO384;clear BK337;clear BK357;clear BK366;clear BK386;clear HB;have HO_358004:=n0_;have HO_367004:=n1_;have HO384:=n2_;have BK337:=n3_;have BK357:=n4_;have BK366:=n5_;have BK386:=n6_;have HB:=n7_;clear n0_ n1_ n2_ n3_ n4_ n5_ n6_ n7_;(try clear hb);(try clear hb2);(try clear hk);(try clear hi);have hcz86_0 : w85.cell? ⟨gb386,0,none⟩=some (.int .u32 t378):=(blk_cell BK386.out 0).trans rfl;have hcz86_1 : w85.cell? ⟨gb386,1,none⟩=some (.int .u64 t379):=(blk_cell BK386.out 1).trans rfl;have hcz86_2 : w85.cell? ⟨gb386,2,none⟩=some (.int .i64 t380):=(blk_cell BK386.out 2).trans rfl;have hcz86_3 : w85.cell? ⟨gb386,3,none⟩=some (.string t381):=(blk_cell BK386.out 3).trans rfl;have hcz86_4 : w85.cell? ⟨gb386,4,none⟩=some (.slice Ao81 t382.length co81):=(blk_cell BK386.out 4).trans rfl;have hfz86_0:=blk_frozen BK386.out 0;have hfz86_1:=blk_frozen BK386.out 1;have hfz86_2:=blk_frozen BK386.out 2;have hfz86_3:=blk_frozen BK386.out 3;have hfz86_4:=blk_frozen BK386.out 4;have hcz87_0 : w85.cell? ⟨gb337,0,none⟩=some (.int .u32 a0_0):=(blk_cell BK337.out 0).trans rfl;have hcz87_1 : w85.cell? ⟨gb337,1,none⟩=some (.int .u64 a0_1):=(blk_cell BK337.out 1).trans rfl;have hcz87_2 : w85.cell? ⟨gb337,2,none⟩=some (.int .i64 a0_2):=(blk_cell BK337.out 2).trans rfl;have hcz87_3 : w85.cell? ⟨gb337,3,none⟩=some (.string a0_3):=(blk_cell BK337.out 3).trans rfl;have hcz87_4 : w85.cell? ⟨gb337,4,none⟩=some (.slice A0_4 l0_4.length c0_4):=(blk_cell BK337.out 4).trans rfl;have hfz87_0:=blk_frozen BK337.out 0;have hfz87_1:=blk_frozen BK337.out 1;have hfz87_2:=blk_frozen BK337.out 2;have hfz87_3:=blk_frozen BK337.out 3;have hfz87_4:=blk_frozen BK337.out 4))
       go_ret
       exact ⟨by first|rfl|(simp [errW_none,errW_some] <;> rfl)|(simp [*,errW_none,errW_some] <;> rfl),by repeat (first|(with_reducible first|exact HB.out|apply below_alloc|apply pw_below_drewN|apply below_drew1|refine below_set ?_ GE337.out|refine below_set ?_ GE357.out|refine below_set ?_ GE366.out|refine below_set ?_ GE386.out)|exact HB.out)⟩
      ·replace c74:=Bool.eq_false_iff.mpr c74
       subst c74
       have H1 : (some false)=some r:=by rw [if_neg (show ¬ (false=true) by decide)] at H;exact H
       clear H
       have H:=H1
       clear H1
       obtain rfl:=Option.some.inj H
       go_wp2_with (first|((with_reducible refine gate_callee (f:=11) rfl ?_);refine goesL_ (some 71) rfl rfl Try.func11 (by kernel_rfl) rfl #[.string t338] rfl (by (try simp only [List.map_toArray,List.map_cons,List.map_nil]);first|done|rfl|(simp only [List.length_drop,List.length_take];rfl)) ?_;(with_reducible refine (page_Decode.calls kj7 t338 t378 t379 t380 t381 t382 t385 _ A71.out).mono ?_);rintro e w88 ⟨v383,rfl,ho0,hb⟩;refine ⟨_,rfl,?_⟩;have n0_:=Aside0.mk (Kd.R_elder' (by (with_reducible repeat (first|apply Kd.R_alloc|apply Kd.R_drewN|apply Kd.R_drew));exact HO_358004.out) (Kd.R_base ho0) hb);have n1_:=Aside0.mk (Kd.R_elder' (by (with_reducible repeat (first|apply Kd.R_alloc|apply Kd.R_drewN|apply Kd.R_drew));exact HO_367004.out) (Kd.R_base ho0) hb);have n2_:=Aside0.mk (Kd.R_lower (Kd.R_new' (Kd.R_new' ho0 (Kd.R_lt (by (with_reducible repeat (first|apply Kd.R_alloc|apply Kd.R_drewN|apply Kd.R_drew));exact HO_358004.out))) (Kd.R_lt (by (with_reducible repeat (first|apply Kd.R_alloc|apply Kd.R_drewN|apply Kd.R_drew));exact HO_367004.out))) (below_size (by repeat (first|(with_reducible first|exact HB.out|apply below_alloc|apply pw_below_drewN|apply below_drew1|refine below_set ?_ GE337.out|refine below_set ?_ GE357.out|refine below_set ?_ GE366.out)|exact HB.out))));have n3_:=Aside0.mk (blk_below (g:=gb337) (o:=.cells #[.int .u32 a0_0,.int .u64 a0_1,.int .i64 a0_2,.string a0_3,.slice A0_4 l0_4.length c0_4] 28 (0,0)) (by (with_reducible repeat (first|refine blk_drewN ?_ _|refine blk_drew ?_|refine blk_alloc ?_ _));exact BK337.out) hb);have n4_:=Aside0.mk (blk_below (g:=gb357) (o:=.cells #[.int .u32 t349,.int .u64 t350,.int .i64 t351,.string t352,.slice Ao20 t353.length co20] 28 (0,0)) (by (with_reducible repeat (first|refine blk_drewN ?_ _|refine blk_drew ?_|refine blk_alloc ?_ _));exact BK357.out) hb);have n5_:=Aside0.mk (blk_below (g:=gb366) (o:=.cells #[.int .u32 t358,.int .u64 t359,.int .i64 t360,.string t361,.slice Ao26 t362.length co26] 35 (0,0)) (by (with_reducible repeat (first|refine blk_drewN ?_ _|refine blk_drew ?_|refine blk_alloc ?_ _));exact BK366.out) hb);have n6_:=Aside0.mk (below_step (by repeat (first|(with_reducible first|exact HB.out|apply below_alloc|apply pw_below_drewN|apply below_drew1|refine below_set ?_ GE337.out|refine below_set ?_ GE357.out|refine below_set ?_ GE366.out)|exact HB.out)) hb);clear HO_358004;clear HO_367004;clear BK337;clear BK357;clear BK366;clear HB;have HO_358004:=n0_;have HO_367004:=n1_;have HO384:=n2_;have BK337:=n3_;have BK357:=n4_;have BK366:=n5_;have HB:=n6_;clear n0_ n1_ n2_ n3_ n4_ n5_ n6_;(try clear hb);(try clear hb2);(try clear hk);(try clear hi);(try clear ho0))|((with_reducible refine gate_dst (N:=13) rfl ?_);refine box_event ?hg (N:=13) ?hd (cs:=#[.int .u32 0,.int .u64 0,.int .i64 0,.string (⟨#[]⟩ : ByteArray),.slice none 0 0]) (t:=28) ?hr ?_;(case hd=>rfl);(case hg=>rfl);(case hr=>first|(go_simp;done)|(go_simp;rfl));intro gb386 hg w89 hbox hb;have n0_:=Aside0.mk (Kd.R_below (by (with_reducible repeat (first|apply Kd.R_alloc|apply Kd.R_drewN|apply Kd.R_drew));exact HO_358004.out) hb);have n1_:=Aside0.mk (Kd.R_below (by (with_reducible repeat (first|apply Kd.R_alloc|apply Kd.R_drewN|apply Kd.R_drew));exact HO_367004.out) hb);have n2_:=Aside0.mk (Kd.R_below (by (with_reducible repeat (first|apply Kd.R_alloc|apply Kd.R_drewN|apply Kd.R_drew));exact HO384.out) hb);have n3_:=Aside0.mk (blk_below (g:=gb337) (o:=.cells #[.int .u32 a0_0,.int .u64 a0_1,.int .i64 a0_2,.string a0_3,.slice A0_4 l0_4.length c0_4] 28 (0,0)) (by (with_reducible repeat (first|refine blk_drewN ?_ _|refine blk_drew ?_|refine blk_alloc ?_ _));exact BK337.out) hb);have n4_:=Aside0.mk (blk_below (g:=gb357) (o:=.cells #[.int .u32 t349,.int .u64 t350,.int .i64 t351,.string t352,.slice Ao20 t353.length co20] 28 (0,0)) (by (with_reducible repeat (first|refine blk_drewN ?_ _|refine blk_drew ?_|refine blk_alloc ?_ _));exact BK357.out) hb);have n5_:=Aside0.mk (blk_below (g:=gb366) (o:=.cells #[.int .u32 t358,.int .u64 t359,.int .i64 t360,.string t361,.slice Ao26 t362.length co26] 35 (0,0)) (by (with_reducible repeat (first|refine blk_drewN ?_ _|refine blk_drew ?_|refine blk_alloc ?_ _));exact BK366.out) hb);have n6_:=Aside0.mk (below_step (by repeat (first|(with_reducible first|exact HB.out|apply below_alloc|apply pw_below_drewN|apply below_drew1|refine below_set ?_ GE337.out|refine below_set ?_ GE357.out|refine below_set ?_ GE366.out)|exact HB.out)) hb);have n7_:=Aside0.mk (hbox);have n8_:=Aside0.mk ((by rw [hg];exact (below_size (by repeat (first|(with_reducible first|exact HB.out|apply below_alloc|apply pw_below_drewN|apply below_drew1|refine below_set ?_ GE337.out|refine below_set ?_ GE357.out|refine below_set ?_ GE366.out)|exact HB.out))) : w.heap.size≤gb386));have n9_:=Aside0.mk ((by rw [hg];exact (below_size (by repeat (first|(with_reducible first|exact HB.out|apply below_alloc|apply pw_below_drewN|apply below_drew1|refine below_set ?_ GE337.out|refine below_set ?_ GE357.out|refine below_set ?_ GE366.out)|exact HB.out))) : w.heap.size≤gb386));have n10_:=Aside0.mk ((by rw [hg];exact Nat.ne_of_lt (blk_lt (g:=gb337) (o:=.cells #[.int .u32 a0_0,.int .u64 a0_1,.int .i64 a0_2,.string a0_3,.slice A0_4 l0_4.length c0_4] 28 (0,0)) (by (with_reducible repeat (first|refine blk_drewN ?_ _|refine blk_drew ?_|refine blk_alloc ?_ _));exact BK337.out)) : gb337≠gb386));have n11_:=Aside0.mk ((by rw [hg];exact Nat.ne_of_gt (blk_lt (g:=gb337) (o:=.cells #[.int .u32 a0_0,.int .u64 a0_1,.int .i64 a0_2,.string a0_3,.slice A0_4 l0_4.length c0_4] 28 (0,0)) (by (with_reducible repeat (first|refine blk_drewN ?_ _|refine blk_drew ?_|refine blk_alloc ?_ _));exact BK337.out)) : gb386≠gb337));have n12_:=Aside0.mk ((by rw [hg];exact Nat.ne_of_lt (blk_lt (g:=gb357) (o:=.cells #[.int .u32 t349,.int .u64 t350,.int .i64 t351,.string t352,.slice Ao20 t353.length co20] 28 (0,0)) (by (with_reducible repeat (first|refine blk_drewN ?_ _|refine blk_drew ?_|refine blk_alloc ?_ _));exact BK357.out)) : gb357≠gb386));have n13_:=Aside0.mk ((by rw [hg];exact Nat.ne_of_gt (blk_lt (g:=gb357) (o:=.cells #[.int .u32 t349,.int .u64 t350,.int .i64 t351,.string t352,.slice Ao20 t353.length co20] 28 (0,0)) (by (with_reducible repeat (first|refine blk_drewN ?_ _|refine blk_drew ?_|refine blk_alloc ?_ _));exact BK357.out)) : gb386≠gb357));have n14_:=Aside0.mk ((by rw [hg];exact Nat.ne_of_lt (blk_lt (g:=gb366) (o:=.cells #[.int .u32 t358,.int .u64 t359,.int .i64 t360,.string t361,.slice Ao26 t362.length co26] 35 (0,0)) (by (with_reducible repeat (first|refine blk_drewN ?_ _|refine blk_drew ?_|refine blk_alloc ?_ _));exact BK366.out)) : gb366≠gb386));have n15_:=Aside0.mk ((by rw [hg];exact Nat.ne_of_gt (blk_lt (g:=gb366) (o:=.cells #[.int .u32 t358,.int .u64 t359,.int .i64 t360,.string t361,.slice Ao26 t362.length co26] 35 (0,0)) (by (with_reducible repeat (first|refine blk_drewN ?_ _|refine blk_drew ?_|refine blk_alloc ?_ _));exact BK366.out)) : gb386≠gb366));clear HO_358004;clear HO_367004;clear HO384;clear BK337;clear BK357;clear BK366;clear HB;have HO_358004:=n0_;have HO_367004:=n1_;have HO384:=n2_;have BK337:=n3_;have BK357:=n4_;have BK366:=n5_;have HB:=n6_;have BK386:=n7_;have GW386:=n8_;have GE386:=n9_;have NB337_386:=n10_;have NB386_337:=n11_;have NB357_386:=n12_;have NB386_357:=n13_;have NB366_386:=n14_;have NB386_366:=n15_;clear n0_ n1_ n2_ n3_ n4_ n5_ n6_ n7_ n8_ n9_ n10_ n11_ n12_ n13_ n14_ n15_;clear hb hbox hg;have hnb90:=NB386_337.out;have hnc90:=NB337_386.out;have hnb91:=NB386_357.out;have hnc91:=NB357_386.out;have hnb92:=NB386_366.out;have hnc92:=NB366_386.out;have hcz93_0 : w89.cell? ⟨gb386,0,none⟩=some (.int .u32 0):=(blk_cell BK386.out 0).trans rfl;have hcz93_1 : w89.cell? ⟨gb386,1,none⟩=some (.int .u64 0):=(blk_cell BK386.out 1).trans rfl;have hcz93_2 : w89.cell? ⟨gb386,2,none⟩=some (.int .i64 0):=(blk_cell BK386.out 2).trans rfl;have hcz93_3 : w89.cell? ⟨gb386,3,none⟩=some (.string (⟨#[]⟩ : ByteArray)):=(blk_cell BK386.out 3).trans rfl;have hcz93_4 : w89.cell? ⟨gb386,4,none⟩=some (.slice none 0 0):=(blk_cell BK386.out 4).trans rfl;have hfz93_0:=blk_frozen BK386.out 0;have hfz93_1:=blk_frozen BK386.out 1;have hfz93_2:=blk_frozen BK386.out 2;have hfz93_3:=blk_frozen BK386.out 3;have hfz93_4:=blk_frozen BK386.out 4;obtain ⟨Ao94,co94,eo94⟩:=Kd.R_slice HO384.out;subst eo94;have hnb95:=NB337_357.out;have hnc95:=NB357_337.out;have hnb96:=NB337_366.out;have hnc96:=NB366_337.out;have hcz97_0 : w89.cell? ⟨gb337,0,none⟩=some (.int .u32 a0_0):=(blk_cell BK337.out 0).trans rfl;have hcz97_1 : w89.cell? ⟨gb337,1,none⟩=some (.int .u64 a0_1):=(blk_cell BK337.out 1).trans rfl;have hcz97_2 : w89.cell? ⟨gb337,2,none⟩=some (.int .i64 a0_2):=(blk_cell BK337.out 2).trans rfl;have hcz97_3 : w89.cell? ⟨gb337,3,none⟩=some (.string a0_3):=(blk_cell BK337.out 3).trans rfl;have hcz97_4 : w89.cell? ⟨gb337,4,none⟩=some (.slice A0_4 l0_4.length c0_4):=(blk_cell BK337.out 4).trans rfl;have hfz97_0:=blk_frozen BK337.out 0;have hfz97_1:=blk_frozen BK337.out 1;have hfz97_2:=blk_frozen BK337.out 2;have hfz97_3:=blk_frozen BK337.out 3;have hfz97_4:=blk_frozen BK337.out 4)|(go_at_call 17;(with_reducible refine (page_Same.calls kj7 t378 t379 t380 t381 _ _ t382 a0_0 a0_1 a0_2 a0_3 _ _ l0_4 false _ ?side1 ?side2 ?side3 ?side4 A73.out).mono ?_);(case side1=>refine (Kd.R_reads' (e:=9) (base:=w.heap.size) (ok:=fun k_=>((True∧some k_≠(.slice Ao20 t353.length co20 : Value).ownBlock)∧some k_≠(.slice Ao26 t362.length co26 : Value).ownBlock)) (n:=t382.length) (c:=co94) ?_).2.2;exact (by (with_reducible repeat (first|apply Kd.R_alloc|apply Kd.R_drewN|apply Kd.R_drew));exact (Kd.R_mono (Kd.R_far (p:=⟨gb386,4,none⟩) (Kd.R_far (p:=⟨gb386,3,none⟩) (Kd.R_far (p:=⟨gb386,2,none⟩) (Kd.R_far (p:=⟨gb386,1,none⟩) (Kd.R_far (p:=⟨gb386,0,none⟩) (Kd.R_types HO384.out BK386.out (by decide)) (fun _ hk=>hk.2) (.int .u32 t378)) (fun _ hk=>hk.2) (.int .u64 t379)) (fun _ hk=>hk.2) (.int .i64 t380)) (fun _ hk=>hk.2) (.string t381)) (fun _ hk=>hk.2) (.slice Ao94 t382.length co94)) (fun _ h_=>h_.1))));(case side2=>exact (Kd.R_reads' HO384.out).2.1);(case side3=>exact Kd.C_below HR0_4.out (by repeat (first|(with_reducible first|exact HB.out|apply below_alloc|apply pw_below_drewN|apply below_drew1|refine below_set ?_ GE337.out|refine below_set ?_ GE357.out|refine below_set ?_ GE366.out|refine below_set ?_ GE386.out)|exact HB.out)));(case side4=>exact HC0_4.out);rintro e w98 ⟨rfl,hb⟩;have n0_:=Aside0.mk (Kd.R_below (by (with_reducible repeat (first|apply Kd.R_alloc|apply Kd.R_drewN|apply Kd.R_drew));exact (Kd.R_mono (Kd.R_far (p:=⟨gb386,4,none⟩) (Kd.R_far (p:=⟨gb386,3,none⟩) (Kd.R_far (p:=⟨gb386,2,none⟩) (Kd.R_far (p:=⟨gb386,1,none⟩) (Kd.R_far (p:=⟨gb386,0,none⟩) (Kd.R_types HO_358004.out BK386.out (by decide)) (fun _ hk=>hk.2) (.int .u32 t378)) (fun _ hk=>hk.2) (.int .u64 t379)) (fun _ hk=>hk.2) (.int .i64 t380)) (fun _ hk=>hk.2) (.string t381)) (fun _ hk=>hk.2) (.slice Ao94 t382.length co94)) (fun _ h_=>h_.1))) hb);have n1_:=Aside0.mk (Kd.R_below (by (with_reducible repeat (first|apply Kd.R_alloc|apply Kd.R_drewN|apply Kd.R_drew));exact (Kd.R_mono (Kd.R_far (p:=⟨gb386,4,none⟩) (Kd.R_far (p:=⟨gb386,3,none⟩) (Kd.R_far (p:=⟨gb386,2,none⟩) (Kd.R_far (p:=⟨gb386,1,none⟩) (Kd.R_far (p:=⟨gb386,0,none⟩) (Kd.R_types HO_367004.out BK386.out (by decide)) (fun _ hk=>hk.2) (.int .u32 t378)) (fun _ hk=>hk.2) (.int .u64 t379)) (fun _ hk=>hk.2) (.int .i64 t380)) (fun _ hk=>hk.2) (.string t381)) (fun _ hk=>hk.2) (.slice Ao94 t382.length co94)) (fun _ h_=>h_.1))) hb);have n2_:=Aside0.mk (Kd.R_below (by (with_reducible repeat (first|apply Kd.R_alloc|apply Kd.R_drewN|apply Kd.R_drew));exact (Kd.R_mono (Kd.R_far (p:=⟨gb386,4,none⟩) (Kd.R_far (p:=⟨gb386,3,none⟩) (Kd.R_far (p:=⟨gb386,2,none⟩) (Kd.R_far (p:=⟨gb386,1,none⟩) (Kd.R_far (p:=⟨gb386,0,none⟩) (Kd.R_types HO384.out BK386.out (by decide)) (fun _ hk=>hk.2) (.int .u32 t378)) (fun _ hk=>hk.2) (.int .u64 t379)) (fun _ hk=>hk.2) (.int .i64 t380)) (fun _ hk=>hk.2) (.string t381)) (fun _ hk=>hk.2) (.slice Ao94 t382.length co94)) (fun _ h_=>h_.1))) hb);have n3_:=Aside0.mk (blk_below (g:=gb337) (o:=.cells #[.int .u32 a0_0,.int .u64 a0_1,.int .i64 a0_2,.string a0_3,.slice A0_4 l0_4.length c0_4] 28 (0,0)) (by (with_reducible repeat (first|refine blk_drewN ?_ _|refine blk_drew ?_|refine blk_alloc ?_ _));refine blk_far ?_ NB337_386.out _;(with_reducible repeat (first|refine blk_drewN ?_ _|refine blk_drew ?_|refine blk_alloc ?_ _));refine blk_far ?_ NB337_386.out _;(with_reducible repeat (first|refine blk_drewN ?_ _|refine blk_drew ?_|refine blk_alloc ?_ _));refine blk_far ?_ NB337_386.out _;(with_reducible repeat (first|refine blk_drewN ?_ _|refine blk_drew ?_|refine blk_alloc ?_ _));refine blk_far ?_ NB337_386.out _;(with_reducible repeat (first|refine blk_drewN ?_ _|refine blk_drew ?_|refine blk_alloc ?_ _));refine blk_far ?_ NB337_386.out _;(with_reducible repeat (first|refine blk_drewN ?_ _|refine blk_drew ?_|refine blk_alloc ?_ _));exact BK337.out) hb);have n4_:=Aside0.mk (blk_below (g:=gb357) (o:=.cells #[.int .u32 t349,.int .u64 t350,.int .i64 t351,.string t352,.slice Ao20 t353.length co20] 28 (0,0)) (by (with_reducible repeat (first|refine blk_drewN ?_ _|refine blk_drew ?_|refine blk_alloc ?_ _));refine blk_far ?_ NB357_386.out _;(with_reducible repeat (first|refine blk_drewN ?_ _|refine blk_drew ?_|refine blk_alloc ?_ _));refine blk_far ?_ NB357_386.out _;(with_reducible repeat (first|refine blk_drewN ?_ _|refine blk_drew ?_|refine blk_alloc ?_ _));refine blk_far ?_ NB357_386.out _;(with_reducible repeat (first|refine blk_drewN ?_ _|refine blk_drew ?_|refine blk_alloc ?_ _));refine blk_far ?_ NB357_386.out _;(with_reducible repeat (first|refine blk_drewN ?_ _|refine blk_drew ?_|refine blk_alloc ?_ _));refine blk_far ?_ NB357_386.out _;(with_reducible repeat (first|refine blk_drewN ?_ _|refine blk_drew ?_|refine blk_alloc ?_ _));exact BK357.out) hb);have n5_:=Aside0.mk (blk_below (g:=gb366) (o:=.cells #[.int .u32 t358,.int .u64 t359,.int .i64 t360,.string t361,.slice Ao26 t362.length co26] 35 (0,0)) (by (with_reducible repeat (first|refine blk_drewN ?_ _|refine blk_drew ?_|refine blk_alloc ?_ _));refine blk_far ?_ NB366_386.out _;(with_reducible repeat (first|refine blk_drewN ?_ _|refine blk_drew ?_|refine blk_alloc ?_ _));refine blk_far ?_ NB366_386.out _;(with_reducible repeat (first|refine blk_drewN ?_ _|refine blk_drew ?_|refine blk_alloc ?_ _));refine blk_far ?_ NB366_386.out _;(with_reducible repeat (first|refine blk_drewN ?_ _|refine blk_drew ?_|refine blk_alloc ?_ _));refine blk_far ?_ NB366_386.out _;(with_reducible repeat (first|refine blk_drewN ?_ _|refine blk_drew ?_|refine blk_alloc ?_ _));refine blk_far ?_ NB366_386.out _;(with_reducible repeat (first|refine blk_drewN ?_ _|refine blk_drew ?_|refine blk_alloc ?_ _));exact BK366.out) hb);have n6_:=Aside0.mk (blk_below (g:=gb386) (o:=.cells #[.int .u32 t378,.int .u64 t379,.int .i64 t380,.string t381,.slice Ao94 t382.length co94] 28 (0,0)) (by (with_reducible repeat (first|refine blk_drewN ?_ _|refine blk_drew ?_|refine blk_alloc ?_ _));refine blk_put (cs:=#[.int .u32 t378,.int .u64 t379,.int .i64 t380,.string t381,.slice none 0 0]) ?_ 4 _ rfl;(with_reducible repeat (first|refine blk_drewN ?_ _|refine blk_drew ?_|refine blk_alloc ?_ _));refine blk_put (cs:=#[.int .u32 t378,.int .u64 t379,.int .i64 t380,.string (⟨#[]⟩ : ByteArray),.slice none 0 0]) ?_ 3 _ rfl;(with_reducible repeat (first|refine blk_drewN ?_ _|refine blk_drew ?_|refine blk_alloc ?_ _));refine blk_put (cs:=#[.int .u32 t378,.int .u64 t379,.int .i64 0,.string (⟨#[]⟩ : ByteArray),.slice none 0 0]) ?_ 2 _ rfl;(with_reducible repeat (first|refine blk_drewN ?_ _|refine blk_drew ?_|refine blk_alloc ?_ _));refine blk_put (cs:=#[.int .u32 t378,.int .u64 0,.int .i64 0,.string (⟨#[]⟩ : ByteArray),.slice none 0 0]) ?_ 1 _ rfl;(with_reducible repeat (first|refine blk_drewN ?_ _|refine blk_drew ?_|refine blk_alloc ?_ _));refine blk_put (cs:=#[.int .u32 0,.int .u64 0,.int .i64 0,.string (⟨#[]⟩ : ByteArray),.slice none 0 0]) ?_ 0 _ rfl;(with_reducible repeat (first|refine blk_drewN ?_ _|refine blk_drew ?_|refine blk_alloc ?_ _));exact BK386.out) hb);have n7_:=Aside0.mk (below_step (by repeat (first|(with_reducible first|exact HB.out|apply below_alloc|apply pw_below_drewN|apply below_drew1|refine below_set ?_ GE337.out|refine below_set ?_ GE357.out|refine below_set ?_ GE366.out|refine below_set ?_ GE386.out)|exact HB.out)) hb);clear HO_358004;clear HO_367004;clear HO384;clear BK337;clear BK357;clear BK366;clear BK386;clear HB;have HO_358004:=n0_;have HO_367004:=n1_;have HO384:=n2_;have BK337:=n3_;have BK357:=n4_;have BK366:=n5_;have BK386:=n6_;have HB:=n7_;clear n0_ n1_ n2_ n3_ n4_ n5_ n6_ n7_;(try clear hb);(try clear hb2);(try clear hk);(try clear hi)))
       go_ret
       exact ⟨by first|rfl|(simp [errW_none,errW_some] <;> rfl)|(simp [*,errW_none,errW_some] <;> rfl),by repeat (first|(with_reducible first|exact HB.out|apply below_alloc|apply pw_below_drewN|apply below_drew1|refine below_set ?_ GE337.out|refine below_set ?_ GE357.out|refine below_set ?_ GE366.out|refine below_set ?_ GE386.out)|exact HB.out)⟩
     ·rw [if_neg c72] at H
      have c72b0 : (t385 == 0)=false:=beq_eq_false_iff_ne.mpr c72
      have c72b1 : (t385 != 0)=true:=bne_iff_ne.mpr c72
      obtain rfl:=Option.some.inj H
      go_wp2_with (first|((with_reducible refine gate_callee (f:=11) rfl ?_);refine goesL_ (some 71) rfl rfl Try.func11 (by kernel_rfl) rfl #[.string t338] rfl (by (try simp only [List.map_toArray,List.map_cons,List.map_nil]);first|done|rfl|(simp only [List.length_drop,List.length_take];rfl)) ?_;(with_reducible refine (page_Decode.calls kj7 t338 t378 t379 t380 t381 t382 t385 _ A71.out).mono ?_);rintro e w99 ⟨v383,rfl,ho0,hb⟩;refine ⟨_,rfl,?_⟩;have n0_:=Aside0.mk (Kd.R_elder' (by (with_reducible repeat (first|apply Kd.R_alloc|apply Kd.R_drewN|apply Kd.R_drew));exact HO_358004.out) (Kd.R_base ho0) hb);have n1_:=Aside0.mk (Kd.R_elder' (by (with_reducible repeat (first|apply Kd.R_alloc|apply Kd.R_drewN|apply Kd.R_drew));exact HO_367004.out) (Kd.R_base ho0) hb);have n2_:=Aside0.mk (Kd.R_lower (Kd.R_new' (Kd.R_new' ho0 (Kd.R_lt (by (with_reducible repeat (first|apply Kd.R_alloc|apply Kd.R_drewN|apply Kd.R_drew));exact HO_358004.out))) (Kd.R_lt (by (with_reducible repeat (first|apply Kd.R_alloc|apply Kd.R_drewN|apply Kd.R_drew));exact HO_367004.out))) (below_size (by repeat (first|(with_reducible first|exact HB.out|apply below_alloc|apply pw_below_drewN|apply below_drew1|refine below_set ?_ GE337.out|refine below_set ?_ GE357.out|refine below_set ?_ GE366.out)|exact HB.out))));have n3_:=Aside0.mk (blk_below (g:=gb337) (o:=.cells #[.int .u32 a0_0,.int .u64 a0_1,.int .i64 a0_2,.string a0_3,.slice A0_4 l0_4.length c0_4] 28 (0,0)) (by (with_reducible repeat (first|refine blk_drewN ?_ _|refine blk_drew ?_|refine blk_alloc ?_ _));exact BK337.out) hb);have n4_:=Aside0.mk (blk_below (g:=gb357) (o:=.cells #[.int .u32 t349,.int .u64 t350,.int .i64 t351,.string t352,.slice Ao20 t353.length co20] 28 (0,0)) (by (with_reducible repeat (first|refine blk_drewN ?_ _|refine blk_drew ?_|refine blk_alloc ?_ _));exact BK357.out) hb);have n5_:=Aside0.mk (blk_below (g:=gb366) (o:=.cells #[.int .u32 t358,.int .u64 t359,.int .i64 t360,.string t361,.slice Ao26 t362.length co26] 35 (0,0)) (by (with_reducible repeat (first|refine blk_drewN ?_ _|refine blk_drew ?_|refine blk_alloc ?_ _));exact BK366.out) hb);have n6_:=Aside0.mk (below_step (by repeat (first|(with_reducible first|exact HB.out|apply below_alloc|apply pw_below_drewN|apply below_drew1|refine below_set ?_ GE337.out|refine below_set ?_ GE357.out|refine below_set ?_ GE366.out)|exact HB.out)) hb);clear HO_358004;clear HO_367004;clear BK337;clear BK357;clear BK366;clear HB;have HO_358004:=n0_;have HO_367004:=n1_;have HO384:=n2_;have BK337:=n3_;have BK357:=n4_;have BK366:=n5_;have HB:=n6_;clear n0_ n1_ n2_ n3_ n4_ n5_ n6_;(try clear hb);(try clear hb2);(try clear hk);(try clear hi);(try clear ho0))|((with_reducible refine gate_dst (N:=13) rfl ?_);refine box_event ?hg (N:=13) ?hd (cs:=#[.int .u32 0,.int .u64 0,.int .i64 0,.string (⟨#[]⟩ : ByteArray),.slice none 0 0]) (t:=28) ?hr ?_;(case hd=>rfl);(case hg=>rfl);(case hr=>first|(go_simp;done)|(go_simp;rfl));intro gb386 hg w100 hbox hb;have n0_:=Aside0.mk (Kd.R_below (by (with_reducible repeat (first|apply Kd.R_alloc|apply Kd.R_drewN|apply Kd.R_drew));exact HO_358004.out) hb);have n1_:=Aside0.mk (Kd.R_below (by (with_reducible repeat (first|apply Kd.R_alloc|apply Kd.R_drewN|apply Kd.R_drew));exact HO_367004.out) hb);have n2_:=Aside0.mk (Kd.R_below (by (with_reducible repeat (first|apply Kd.R_alloc|apply Kd.R_drewN|apply Kd.R_drew));exact HO384.out) hb);have n3_:=Aside0.mk (blk_below (g:=gb337) (o:=.cells #[.int .u32 a0_0,.int .u64 a0_1,.int .i64 a0_2,.string a0_3,.slice A0_4 l0_4.length c0_4] 28 (0,0)) (by (with_reducible repeat (first|refine blk_drewN ?_ _|refine blk_drew ?_|refine blk_alloc ?_ _));exact BK337.out) hb);have n4_:=Aside0.mk (blk_below (g:=gb357) (o:=.cells #[.int .u32 t349,.int .u64 t350,.int .i64 t351,.string t352,.slice Ao20 t353.length co20] 28 (0,0)) (by (with_reducible repeat (first|refine blk_drewN ?_ _|refine blk_drew ?_|refine blk_alloc ?_ _));exact BK357.out) hb);have n5_:=Aside0.mk (blk_below (g:=gb366) (o:=.cells #[.int .u32 t358,.int .u64 t359,.int .i64 t360,.string t361,.slice Ao26 t362.length co26] 35 (0,0)) (by (with_reducible repeat (first|refine blk_drewN ?_ _|refine blk_drew ?_|refine blk_alloc ?_ _));exact BK366.out) hb);have n6_:=Aside0.mk (below_step (by repeat (first|(with_reducible first|exact HB.out|apply below_alloc|apply pw_below_drewN|apply below_drew1|refine below_set ?_ GE337.out|refine below_set ?_ GE357.out|refine below_set ?_ GE366.out)|exact HB.out)) hb);have n7_:=Aside0.mk (hbox);have n8_:=Aside0.mk ((by rw [hg];exact (below_size (by repeat (first|(with_reducible first|exact HB.out|apply below_alloc|apply pw_below_drewN|apply below_drew1|refine below_set ?_ GE337.out|refine below_set ?_ GE357.out|refine below_set ?_ GE366.out)|exact HB.out))) : w.heap.size≤gb386));have n9_:=Aside0.mk ((by rw [hg];exact (below_size (by repeat (first|(with_reducible first|exact HB.out|apply below_alloc|apply pw_below_drewN|apply below_drew1|refine below_set ?_ GE337.out|refine below_set ?_ GE357.out|refine below_set ?_ GE366.out)|exact HB.out))) : w.heap.size≤gb386));have n10_:=Aside0.mk ((by rw [hg];exact Nat.ne_of_lt (blk_lt (g:=gb337) (o:=.cells #[.int .u32 a0_0,.int .u64 a0_1,.int .i64 a0_2,.string a0_3,.slice A0_4 l0_4.length c0_4] 28 (0,0)) (by (with_reducible repeat (first|refine blk_drewN ?_ _|refine blk_drew ?_|refine blk_alloc ?_ _));exact BK337.out)) : gb337≠gb386));have n11_:=Aside0.mk ((by rw [hg];exact Nat.ne_of_gt (blk_lt (g:=gb337) (o:=.cells #[.int .u32 a0_0,.int .u64 a0_1,.int .i64 a0_2,.string a0_3,.slice A0_4 l0_4.length c0_4] 28 (0,0)) (by (with_reducible repeat (first|refine blk_drewN ?_ _|refine blk_drew ?_|refine blk_alloc ?_ _));exact BK337.out)) : gb386≠gb337));have n12_:=Aside0.mk ((by rw [hg];exact Nat.ne_of_lt (blk_lt (g:=gb357) (o:=.cells #[.int .u32 t349,.int .u64 t350,.int .i64 t351,.string t352,.slice Ao20 t353.length co20] 28 (0,0)) (by (with_reducible repeat (first|refine blk_drewN ?_ _|refine blk_drew ?_|refine blk_alloc ?_ _));exact BK357.out)) : gb357≠gb386));have n13_:=Aside0.mk ((by rw [hg];exact Nat.ne_of_gt (blk_lt (g:=gb357) (o:=.cells #[.int .u32 t349,.int .u64 t350,.int .i64 t351,.string t352,.slice Ao20 t353.length co20] 28 (0,0)) (by (with_reducible repeat (first|refine blk_drewN ?_ _|refine blk_drew ?_|refine blk_alloc ?_ _));exact BK357.out)) : gb386≠gb357));have n14_:=Aside0.mk ((by rw [hg];exact Nat.ne_of_lt (blk_lt (g:=gb366) (o:=.cells #[.int .u32 t358,.int .u64 t359,.int .i64 t360,.string t361,.slice Ao26 t362.length co26] 35 (0,0)) (by (with_reducible repeat (first|refine blk_drewN ?_ _|refine blk_drew ?_|refine blk_alloc ?_ _));exact BK366.out)) : gb366≠gb386));have n15_:=Aside0.mk ((by rw [hg];exact Nat.ne_of_gt (blk_lt (g:=gb366) (o:=.cells #[.int .u32 t358,.int .u64 t359,.int .i64 t360,.string t361,.slice Ao26 t362.length co26] 35 (0,0)) (by (with_reducible repeat (first|refine blk_drewN ?_ _|refine blk_drew ?_|refine blk_alloc ?_ _));exact BK366.out)) : gb386≠gb366));clear HO_358004;clear HO_367004;clear HO384;clear BK337;clear BK357;clear BK366;clear HB;have HO_358004:=n0_;have HO_367004:=n1_;have HO384:=n2_;have BK337:=n3_;have BK357:=n4_;have BK366:=n5_;have HB:=n6_;have BK386:=n7_;have GW386:=n8_;have GE386:=n9_;have NB337_386:=n10_;have NB386_337:=n11_;have NB357_386:=n12_;have NB386_357:=n13_;have NB366_386:=n14_;have NB386_366:=n15_;clear n0_ n1_ n2_ n3_ n4_ n5_ n6_ n7_ n8_ n9_ n10_ n11_ n12_ n13_ n14_ n15_;clear hb hbox hg;have hnb101:=NB386_337.out;have hnc101:=NB337_386.out;have hnb102:=NB386_357.out;have hnc102:=NB357_386.out;have hnb103:=NB386_366.out;have hnc103:=NB366_386.out;have hcz104_0 : w100.cell? ⟨gb386,0,none⟩=some (.int .u32 0):=(blk_cell BK386.out 0).trans rfl;have hcz104_1 : w100.cell? ⟨gb386,1,none⟩=some (.int .u64 0):=(blk_cell BK386.out 1).trans rfl;have hcz104_2 : w100.cell? ⟨gb386,2,none⟩=some (.int .i64 0):=(blk_cell BK386.out 2).trans rfl;have hcz104_3 : w100.cell? ⟨gb386,3,none⟩=some (.string (⟨#[]⟩ : ByteArray)):=(blk_cell BK386.out 3).trans rfl;have hcz104_4 : w100.cell? ⟨gb386,4,none⟩=some (.slice none 0 0):=(blk_cell BK386.out 4).trans rfl;have hfz104_0:=blk_frozen BK386.out 0;have hfz104_1:=blk_frozen BK386.out 1;have hfz104_2:=blk_frozen BK386.out 2;have hfz104_3:=blk_frozen BK386.out 3;have hfz104_4:=blk_frozen BK386.out 4;obtain ⟨Ao105,co105,eo105⟩:=Kd.R_slice HO384.out;subst eo105))
      go_ret
      exact ⟨by first|rfl|(simp [errW_none,errW_some] <;> rfl)|(simp [*,errW_none,errW_some] <;> rfl),by repeat (first|(with_reducible first|exact HB.out|apply below_alloc|apply pw_below_drewN|apply below_drew1|refine below_set ?_ GE337.out|refine below_set ?_ GE357.out|refine below_set ?_ GE366.out|refine below_set ?_ GE386.out)|exact HB.out)⟩
    ·rw [if_neg c70] at H
     have c70b0 : (t348 == 0)=false:=beq_eq_false_iff_ne.mpr c70
     have c70b1 : (t348 != 0)=true:=bne_iff_ne.mpr c70
     obtain rfl:=Option.some.inj H
     go_wp2
     go_ret
     exact ⟨by first|rfl|(simp [errW_none,errW_some] <;> rfl)|(simp [*,errW_none,errW_some] <;> rfl),by repeat (first|(with_reducible first|exact HB.out|apply below_alloc|apply pw_below_drewN|apply below_drew1|refine below_set ?_ GE337.out|refine below_set ?_ GE357.out|refine below_set ?_ GE366.out)|exact HB.out)⟩
end Go.Proofs.Yteokjmjfjdgmpaa.PPg
end
