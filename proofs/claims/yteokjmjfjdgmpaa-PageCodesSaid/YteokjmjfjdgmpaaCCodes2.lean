import Derived.Test.YteokjmjfjdgmpaaCCodes1
section
namespace Go.Proofs.Yteokjmjfjdgmpaa.PPg
open Go.RowKit Go.Proofs.YteokjmjfjdgmpaaW.PrintWords Go.Proofs.YteokjmjfjdgmpaaW.PrintLast Go.Proofs.YteokjmjfjdgmpaaW.PrintMore
attribute [local go_sem] max2_int min2_int max_two min_two max_three min_three max_four min_four
set_option linter.unusedVariables false
set_option linter.unusedSimpArgs false
def girderref01_Reader_Take.f (a0_0 : ByteArray) (a0_1 : Int) (a0_2 : Int) (a1 : Int) : Option (ByteArray × Int × Int × ByteArray):=if 0≤a0_1∧a0_1≤(a0_0.size : Int)∧a0_0.size≤9223372036854775807 then some (a0_0,((Go.Gi.rTake a0_0.data.toList a0_1.toNat a0_2 a1).2.1 : Int),(Go.Gi.rTake a0_0.data.toList a0_1.toNat a0_2 a1).2.2,Go.Gi.bs (Go.Gi.rTake a0_0.data.toList a0_1.toNat a0_2 a1).1) else none
set_option maxHeartbeats 8000000 in
set_option maxRecDepth 100000 in
theorem girderref01_Reader_Take.calls (a0_0 : ByteArray) (a0_1 : Int) (a0_2 : Int) (a1 : Int) (r1 : ByteArray) (r2 : Int) (r3 : Int) (r4 : ByteArray) (w : World) (h : girderref01_Reader_Take.f a0_0 a0_1 a0_2 a1=some (r1,r2,r3,r4)) :
  Calls Try.prog 45 #[.agg #[.string a0_0,.int .i64 a0_1,.int .i64 a0_2],.int .i64 a1] w fun e w'=>e=.returned (.tuple #[.agg #[.string r1,.int .i64 r2,.int .i64 r3],.string r4])∧Below w.heap.size w w':=by
 unfold girderref01_Reader_Take.f at h
 split at h
 ·rename_i hc
  obtain ⟨h1,h2,h3⟩:=hc
  injection h with h
  injection h with e1 h
  injection h with e2 h
  injection h with e3 e4
  subst e1 e2 e3 e4
  obtain ⟨a,rfl⟩:=Int.eq_ofNat_of_zero_le h1
  rw [Int.toNat_natCast]
  exact take_any a0_0 a a0_2 a1 w (by unfold maxLen;omega) (by omega)
 ·cases h
end Go.Proofs.Yteokjmjfjdgmpaa.PPg
end
section
namespace Go.Proofs.Yteokjmjfjdgmpaa.PPg
open Go.RowKit Go.Proofs.YteokjmjfjdgmpaaW.PrintWords Go.Proofs.YteokjmjfjdgmpaaW.PrintLast Go.Proofs.YteokjmjfjdgmpaaW.PrintMore
attribute [local go_sem] max2_int min2_int max_two min_two max_three min_three max_four min_four
set_option linter.unusedVariables false
set_option linter.unusedSimpArgs false
mutual
def girderref03_Decode.l0 : Nat → ByteArray → Int → List Int → Int → ByteArray → Int → Int → Int → Int → Int → ByteArray → Option (Int × Int × Int × ByteArray × List ByteArray × Int)
 | 0,_,_,_,_,_,_,_,_,_,_,_=>none
 | k + 1,x0,x6,x7,x8,x192000,x192001,x192002,x193000,x193001,x193002,x193003=>if x8 < x6 then ((girderref01_Reader_Number.f x192000 x192001 x192002 2).bind fun bt220=>(if x7.length < 17592186044416 then (girderref03_Decode.l0 k x0 x6 (x7 ++ [wrap64 (bt220.2.2.2)]) (IntKind.u64.wrap (x8 + 1)) bt220.1 bt220.2.1 bt220.2.2.1 x193000 x193001 x193002 x193003) else (none))) else (girderref03_Decode.l1 k x0 x7 0 x192000 x192001 x192002 x193000 x193001 x193002 x193003 ([] : List ByteArray))
def girderref03_Decode.l1 : Nat → ByteArray → List Int → Int → ByteArray → Int → Int → Int → Int → Int → ByteArray → List ByteArray → Option (Int × Int × Int × ByteArray × List ByteArray × Int)
 | 0,_,_,_,_,_,_,_,_,_,_,_=>none
 | k + 1,x0,x7,x11,x192000,x192001,x192002,x193000,x193001,x193002,x193003,x193004=>if x11 < (x7.length : Int) then (if 0≤x11 then ((girderref01_Reader_Take.f x192000 x192001 x192002 (rd x7 x11)).bind fun bt229=>(if x193004.length < 8796093022208 then (girderref03_Decode.l1 k x0 x7 (wrap64 (x11 + 1)) bt229.1 bt229.2.1 bt229.2.2.1 x193000 x193001 x193002 x193003 (x193004 ++ [bt229.2.2.2])) else (none))) else (none)) else ((girderref03_Encode.f k x193000 x193001 x193002 x193003 x193004).bind fun bt237=>(if x192002=0 then (if bt237.2=0 then (if bt237.1.toList=x0.toList then (some (x193000,x193001,x193002,x193003,x193004,0)) else (some (0,0,0,(⟨#[]⟩ : ByteArray),([] : List ByteArray),6))) else (some (0,0,0,(⟨#[]⟩ : ByteArray),([] : List ByteArray),6))) else (some (0,0,0,(⟨#[]⟩ : ByteArray),([] : List ByteArray),6))))
end
def girderref03_Decode.f (k : Nat) (a0 : ByteArray) : Option (Int × Int × Int × ByteArray × List ByteArray × Int):=if (a0.size : Int) < 512 then (some (0,0,0,(⟨#[]⟩ : ByteArray),([] : List ByteArray),4)) else (if (a0.size : Int) > 512 then (some (0,0,0,(⟨#[]⟩ : ByteArray),([] : List ByteArray),5)) else (if a0.toList=(strOfNums (List.replicate 512 0)).toList then (some (0,0,0,(⟨#[]⟩ : ByteArray),([] : List ByteArray),0)) else (if 12≤(a0.size : Int) then (if 504≤(a0.size : Int) then (if (a0.extract 4 12).toList=(a0.extract 504 a0.size).toList then (if 4≤(a0.size : Int) then ((girderref01_Number.f (a0.extract 0 4)).bind fun t189=>((girderref01_More.f 0 (a0.extract 4 a0.size)).bind fun t190=>(if t189=(IntKind.u64.wrap (t190)) then ((girderref01_Reader_Number.f a0 4 0 8).bind fun bt193=>((girderref01_Reader_Number.f bt193.1 bt193.2.1 bt193.2.2.1 4).bind fun bt197=>((girderref01_Reader_Number.f bt197.1 bt197.2.1 bt197.2.2.1 1).bind fun bt201=>((girderref01_Reader_Number.f bt201.1 bt201.2.1 bt201.2.2.1 1).bind fun bt205=>((girderref01_Reader_Take.f bt205.1 bt205.2.1 bt205.2.2.1 (wrap64 (bt205.2.2.2))).bind fun bt209=>((girderref01_Reader_Number.f bt209.1 bt209.2.1 bt209.2.2.1 1).bind fun bt213=>(girderref03_Decode.l0 k a0 bt213.2.2.2 (([] : List Int)) 0 bt213.1 bt213.2.1 bt213.2.2.1 ((bt197.2.2.2) % 4294967296) bt193.2.2.2 (wrap64 (bt201.2.2.2)) bt209.2.2.2))))))) else (some (0,0,0,(⟨#[]⟩ : ByteArray),([] : List ByteArray),32))))) else (none)) else (some (0,0,0,(⟨#[]⟩ : ByteArray),([] : List ByteArray),34))) else (none)) else (none))))
def girderref03_Decode.T9 : Bool × List (List Nat × List Nat):=(true,[([],[]),([0],[0]),([1],[1]),([],[]),([3],[3]),([4,2],[4]),([5],[5]),([2,6],[2,6])])
def girderref03_Decode.B9 : List Nat:=[0,1,3,0,8,31,63,127]
theorem girderref03_Decode.tab9 : rtab .any (opsOf Try.f12 9)=girderref03_Decode.T9:=by kernel_rfl
theorem girderref03_Decode.bits9 : waitsOk girderref03_Decode.T9.2 girderref03_Decode.B9=true:=by kernel_rfl
def girderref03_Decode.T32 : Bool × List (List Nat × List Nat):=(true,[([],[]),([],[]),([],[]),([1,2],[1,2]),([3],[3]),([0,4],[0,4]),([5],[5]),([6],[6]),([6],[6]),([],[]),([9,7,5,0,1,2,3,4,5,6,7,9],[7,9]),([8,10,0,1,2,3,4,5,6,7,8,9,10],[8])])
def girderref03_Decode.B32 : List Nat:=[0,0,0,6,14,31,63,127,127,0,767,2047]
theorem girderref03_Decode.tab32 : rtab .any (opsOf Try.f12 32)=girderref03_Decode.T32:=by kernel_rfl
theorem girderref03_Decode.bits32 : waitsOk girderref03_Decode.T32.2 girderref03_Decode.B32=true:=by kernel_rfl
set_option maxHeartbeats 8000000 in
set_option maxRecDepth 100000 in
theorem girderref03_Decode.calls (k : Nat) (a0 : ByteArray) (r1 : Int) (r2 : Int) (r3 : Int) (r4 : ByteArray) (r5 : List ByteArray) (r6 : Int) (w : World) (h : girderref03_Decode.f k a0=some (r1,r2,r3,r4,r5,r6)) :
  Calls Try.prog 12 #[.string a0] w fun e w'=>∃ v4_ : Value,e=.returned (.tuple #[.agg #[.int .u32 r1,.int .u64 r2,.int .i64 r3,.string r4,v4_],.int .i64 r6])∧Kd.R Kd.string 9 w' w.heap.size (fun _=>True) v4_ r5∧Below w.heap.size w w':=by
 have hu35:=Try.underlying35
 have hu86:=Try.underlying86
 have HB:=Aside0.mk (Below.refl w.heap.size w)
 have H : (if (a0.size : Int) < 512 then (some (0,0,0,(⟨#[]⟩ : ByteArray),([] : List ByteArray),4)) else (if (a0.size : Int) > 512 then (some (0,0,0,(⟨#[]⟩ : ByteArray),([] : List ByteArray),5)) else (if a0.toList=(strOfNums (List.replicate 512 0)).toList then (some (0,0,0,(⟨#[]⟩ : ByteArray),([] : List ByteArray),0)) else (if 12≤(a0.size : Int) then (if 504≤(a0.size : Int) then (if (a0.extract 4 12).toList=(a0.extract 504 a0.size).toList then (if 4≤(a0.size : Int) then ((girderref01_Number.f (a0.extract 0 4)).bind fun t189=>((girderref01_More.f 0 (a0.extract 4 a0.size)).bind fun t190=>(if t189=(IntKind.u64.wrap (t190)) then ((girderref01_Reader_Number.f a0 4 0 8).bind fun bt193=>((girderref01_Reader_Number.f bt193.1 bt193.2.1 bt193.2.2.1 4).bind fun bt197=>((girderref01_Reader_Number.f bt197.1 bt197.2.1 bt197.2.2.1 1).bind fun bt201=>((girderref01_Reader_Number.f bt201.1 bt201.2.1 bt201.2.2.1 1).bind fun bt205=>((girderref01_Reader_Take.f bt205.1 bt205.2.1 bt205.2.2.1 (wrap64 (bt205.2.2.2))).bind fun bt209=>((girderref01_Reader_Number.f bt209.1 bt209.2.1 bt209.2.2.1 1).bind fun bt213=>(girderref03_Decode.l0 k a0 bt213.2.2.2 (([] : List Int)) 0 bt213.1 bt213.2.1 bt213.2.2.1 ((bt197.2.2.2) % 4294967296) bt193.2.2.2 (wrap64 (bt201.2.2.2)) bt209.2.2.2))))))) else (some (0,0,0,(⟨#[]⟩ : ByteArray),([] : List ByteArray),32))))) else (none)) else (some (0,0,0,(⟨#[]⟩ : ByteArray),([] : List ByteArray),34))) else (none)) else (none)))))=some (r1,r2,r3,r4,r5,r6):=h
 clear h
 by_cases c2 : (a0.size : Int) < 512
 ·rw [if_pos c2] at H
  have c2b0 : decide ((a0.size : Int) < 512)=true:=decide_eq_true c2
  have c2b1 : decide (a0.size < 512)=true:=decide_eq_true (by omega)
  clear c2
  simp only [Option.some.injEq,Prod.mk.injEq] at H
  obtain ⟨rfl,rfl,rfl,rfl,rfl,rfl⟩:=H
  go_enter Try.func12,Try.ntmps12
  go_wp2_with (first|((with_reducible refine gate_dst (N:=2) rfl ?_);refine box_event ?hg (N:=2) ?hd (cs:=#[.int .u32 0,.int .u64 0,.int .i64 0,.string (⟨#[]⟩ : ByteArray),.slice none 0 0]) (t:=35) ?hr ?_;(case hd=>rfl);(case hg=>rfl);(case hr=>first|(go_simp;done)|(go_simp;rfl));intro gb185 hg w3 hbox hb;have n0_:=Aside0.mk (below_step (by repeat (first|(with_reducible first|exact HB.out|apply below_alloc|apply pw_below_drewN|apply below_drew1)|exact HB.out)) hb);have n1_:=Aside0.mk (hbox);have n2_:=Aside0.mk ((by rw [hg];exact (below_size (by repeat (first|(with_reducible first|exact HB.out|apply below_alloc|apply pw_below_drewN|apply below_drew1)|exact HB.out))) : w.heap.size≤gb185));have n3_:=Aside0.mk ((by rw [hg];exact (below_size (by repeat (first|(with_reducible first|exact HB.out|apply below_alloc|apply pw_below_drewN|apply below_drew1)|exact HB.out))) : w.heap.size≤gb185));clear HB;have HB:=n0_;have BK185:=n1_;have GW185:=n2_;have GE185:=n3_;clear n0_ n1_ n2_ n3_;clear hb hbox hg;have hcz4_0 : w3.cell? ⟨gb185,0,none⟩=some (.int .u32 0):=(blk_cell BK185.out 0).trans rfl;have hcz4_1 : w3.cell? ⟨gb185,1,none⟩=some (.int .u64 0):=(blk_cell BK185.out 1).trans rfl;have hcz4_2 : w3.cell? ⟨gb185,2,none⟩=some (.int .i64 0):=(blk_cell BK185.out 2).trans rfl;have hcz4_3 : w3.cell? ⟨gb185,3,none⟩=some (.string (⟨#[]⟩ : ByteArray)):=(blk_cell BK185.out 3).trans rfl;have hcz4_4 : w3.cell? ⟨gb185,4,none⟩=some (.slice none 0 0):=(blk_cell BK185.out 4).trans rfl;have hfz4_0:=blk_frozen BK185.out 0;have hfz4_1:=blk_frozen BK185.out 1;have hfz4_2:=blk_frozen BK185.out 2;have hfz4_3:=blk_frozen BK185.out 3;have hfz4_4:=blk_frozen BK185.out 4))
  refine bodyPost_ret (results_ct rfl _ _ gb185 35 #[.int .u32 0,.int .u64 0,.int .i64 0,.string (⟨#[]⟩ : ByteArray),.slice none 0 0] (0,0) _ rfl (by (with_reducible repeat (first|refine blk_drewN ?_ _|refine blk_drew ?_|refine blk_alloc ?_ _));refine blk_put (cs:=#[.int .u32 0,.int .u64 0,.int .i64 0,.string (⟨#[]⟩ : ByteArray),.slice none 0 0]) ?_ 4 _ rfl;(with_reducible repeat (first|refine blk_drewN ?_ _|refine blk_drew ?_|refine blk_alloc ?_ _));refine blk_put (cs:=#[.int .u32 0,.int .u64 0,.int .i64 0,.string (⟨#[]⟩ : ByteArray),.slice none 0 0]) ?_ 3 _ rfl;(with_reducible repeat (first|refine blk_drewN ?_ _|refine blk_drew ?_|refine blk_alloc ?_ _));refine blk_put (cs:=#[.int .u32 0,.int .u64 0,.int .i64 0,.string (⟨#[]⟩ : ByteArray),.slice none 0 0]) ?_ 2 _ rfl;(with_reducible repeat (first|refine blk_drewN ?_ _|refine blk_drew ?_|refine blk_alloc ?_ _));refine blk_put (cs:=#[.int .u32 0,.int .u64 0,.int .i64 0,.string (⟨#[]⟩ : ByteArray),.slice none 0 0]) ?_ 1 _ rfl;(with_reducible repeat (first|refine blk_drewN ?_ _|refine blk_drew ?_|refine blk_alloc ?_ _));refine blk_put (cs:=#[.int .u32 0,.int .u64 0,.int .i64 0,.string (⟨#[]⟩ : ByteArray),.slice none 0 0]) ?_ 0 _ rfl;(with_reducible repeat (first|refine blk_drewN ?_ _|refine blk_drew ?_|refine blk_alloc ?_ _));exact BK185.out) Try.underlying35 rfl (by kernel_rfl)) rfl ?_
  exact ⟨_,by first|rfl|(simp [errW_none,errW_some] <;> rfl)|(simp [*,errW_none,errW_some] <;> rfl),by first|exact Kd.R_nil _ _ _ _ _|exact Kd.N_nil _ _ _ _ _|exact Kd.V_nil _ _ _ _ _|exact Kd.Q_nil _ _ _ _ _|exact Kd.S_nil _ _ _ _ _,by repeat (first|(with_reducible first|exact HB.out|apply below_alloc|apply pw_below_drewN|apply below_drew1|refine below_set ?_ GE185.out)|exact HB.out)⟩
 ·rw [if_neg c2] at H
  have c2b0 : decide ((a0.size : Int) < 512)=false:=decide_eq_false c2
  have c2b1 : decide (a0.size < 512)=false:=decide_eq_false (by omega)
  clear c2
  by_cases c5 : (a0.size : Int) > 512
  ·rw [if_pos c5] at H
   have c5b0 : decide (512 < (a0.size : Int))=true:=decide_eq_true c5
   have c5b1 : decide (512 < a0.size)=true:=decide_eq_true (by omega)
   clear c5
   simp only [Option.some.injEq,Prod.mk.injEq] at H
   obtain ⟨rfl,rfl,rfl,rfl,rfl,rfl⟩:=H
   go_enter Try.func12,Try.ntmps12
   go_wp2_with (first|((with_reducible refine gate_dst (N:=2) rfl ?_);refine box_event ?hg (N:=2) ?hd (cs:=#[.int .u32 0,.int .u64 0,.int .i64 0,.string (⟨#[]⟩ : ByteArray),.slice none 0 0]) (t:=35) ?hr ?_;(case hd=>rfl);(case hg=>rfl);(case hr=>first|(go_simp;done)|(go_simp;rfl));intro gb185 hg w6 hbox hb;have n0_:=Aside0.mk (below_step (by repeat (first|(with_reducible first|exact HB.out|apply below_alloc|apply pw_below_drewN|apply below_drew1)|exact HB.out)) hb);have n1_:=Aside0.mk (hbox);have n2_:=Aside0.mk ((by rw [hg];exact (below_size (by repeat (first|(with_reducible first|exact HB.out|apply below_alloc|apply pw_below_drewN|apply below_drew1)|exact HB.out))) : w.heap.size≤gb185));have n3_:=Aside0.mk ((by rw [hg];exact (below_size (by repeat (first|(with_reducible first|exact HB.out|apply below_alloc|apply pw_below_drewN|apply below_drew1)|exact HB.out))) : w.heap.size≤gb185));clear HB;have HB:=n0_;have BK185:=n1_;have GW185:=n2_;have GE185:=n3_;clear n0_ n1_ n2_ n3_;clear hb hbox hg;have hcz7_0 : w6.cell? ⟨gb185,0,none⟩=some (.int .u32 0):=(blk_cell BK185.out 0).trans rfl;have hcz7_1 : w6.cell? ⟨gb185,1,none⟩=some (.int .u64 0):=(blk_cell BK185.out 1).trans rfl;have hcz7_2 : w6.cell? ⟨gb185,2,none⟩=some (.int .i64 0):=(blk_cell BK185.out 2).trans rfl;have hcz7_3 : w6.cell? ⟨gb185,3,none⟩=some (.string (⟨#[]⟩ : ByteArray)):=(blk_cell BK185.out 3).trans rfl;have hcz7_4 : w6.cell? ⟨gb185,4,none⟩=some (.slice none 0 0):=(blk_cell BK185.out 4).trans rfl;have hfz7_0:=blk_frozen BK185.out 0;have hfz7_1:=blk_frozen BK185.out 1;have hfz7_2:=blk_frozen BK185.out 2;have hfz7_3:=blk_frozen BK185.out 3;have hfz7_4:=blk_frozen BK185.out 4))
   refine bodyPost_ret (results_ct rfl _ _ gb185 35 #[.int .u32 0,.int .u64 0,.int .i64 0,.string (⟨#[]⟩ : ByteArray),.slice none 0 0] (0,0) _ rfl (by (with_reducible repeat (first|refine blk_drewN ?_ _|refine blk_drew ?_|refine blk_alloc ?_ _));refine blk_put (cs:=#[.int .u32 0,.int .u64 0,.int .i64 0,.string (⟨#[]⟩ : ByteArray),.slice none 0 0]) ?_ 4 _ rfl;(with_reducible repeat (first|refine blk_drewN ?_ _|refine blk_drew ?_|refine blk_alloc ?_ _));refine blk_put (cs:=#[.int .u32 0,.int .u64 0,.int .i64 0,.string (⟨#[]⟩ : ByteArray),.slice none 0 0]) ?_ 3 _ rfl;(with_reducible repeat (first|refine blk_drewN ?_ _|refine blk_drew ?_|refine blk_alloc ?_ _));refine blk_put (cs:=#[.int .u32 0,.int .u64 0,.int .i64 0,.string (⟨#[]⟩ : ByteArray),.slice none 0 0]) ?_ 2 _ rfl;(with_reducible repeat (first|refine blk_drewN ?_ _|refine blk_drew ?_|refine blk_alloc ?_ _));refine blk_put (cs:=#[.int .u32 0,.int .u64 0,.int .i64 0,.string (⟨#[]⟩ : ByteArray),.slice none 0 0]) ?_ 1 _ rfl;(with_reducible repeat (first|refine blk_drewN ?_ _|refine blk_drew ?_|refine blk_alloc ?_ _));refine blk_put (cs:=#[.int .u32 0,.int .u64 0,.int .i64 0,.string (⟨#[]⟩ : ByteArray),.slice none 0 0]) ?_ 0 _ rfl;(with_reducible repeat (first|refine blk_drewN ?_ _|refine blk_drew ?_|refine blk_alloc ?_ _));exact BK185.out) Try.underlying35 rfl (by kernel_rfl)) rfl ?_
   exact ⟨_,by first|rfl|(simp [errW_none,errW_some] <;> rfl)|(simp [*,errW_none,errW_some] <;> rfl),by first|exact Kd.R_nil _ _ _ _ _|exact Kd.N_nil _ _ _ _ _|exact Kd.V_nil _ _ _ _ _|exact Kd.Q_nil _ _ _ _ _|exact Kd.S_nil _ _ _ _ _,by repeat (first|(with_reducible first|exact HB.out|apply below_alloc|apply pw_below_drewN|apply below_drew1|refine below_set ?_ GE185.out)|exact HB.out)⟩
  ·rw [if_neg c5] at H
   have c5b0 : decide (512 < (a0.size : Int))=false:=decide_eq_false c5
   have c5b1 : decide (512 < a0.size)=false:=decide_eq_false (by omega)
   clear c5
   obtain ⟨y186,hy186⟩ : ∃ y_ : List Int,y_=(List.replicate 512 0):=⟨_,rfl⟩
   replace H : (if a0.toList=(strOfNums y186).toList then (some (0,0,0,(⟨#[]⟩ : ByteArray),([] : List ByteArray),0)) else (if 12≤(a0.size : Int) then (if 504≤(a0.size : Int) then (if (a0.extract 4 12).toList=(a0.extract 504 a0.size).toList then (if 4≤(a0.size : Int) then ((girderref01_Number.f (a0.extract 0 4)).bind fun t189=>((girderref01_More.f 0 (a0.extract 4 a0.size)).bind fun t190=>(if t189=(IntKind.u64.wrap (t190)) then ((girderref01_Reader_Number.f a0 4 0 8).bind fun bt193=>((girderref01_Reader_Number.f bt193.1 bt193.2.1 bt193.2.2.1 4).bind fun bt197=>((girderref01_Reader_Number.f bt197.1 bt197.2.1 bt197.2.2.1 1).bind fun bt201=>((girderref01_Reader_Number.f bt201.1 bt201.2.1 bt201.2.2.1 1).bind fun bt205=>((girderref01_Reader_Take.f bt205.1 bt205.2.1 bt205.2.2.1 (wrap64 (bt205.2.2.2))).bind fun bt209=>((girderref01_Reader_Number.f bt209.1 bt209.2.1 bt209.2.2.1 1).bind fun bt213=>(girderref03_Decode.l0 k a0 bt213.2.2.2 (([] : List Int)) 0 bt213.1 bt213.2.1 bt213.2.2.1 ((bt197.2.2.2) % 4294967296) bt193.2.2.2 (wrap64 (bt201.2.2.2)) bt209.2.2.2))))))) else (some (0,0,0,(⟨#[]⟩ : ByteArray),([] : List ByteArray),32))))) else (none)) else (some (0,0,0,(⟨#[]⟩ : ByteArray),([] : List ByteArray),34))) else (none)) else (none)))=some (r1,r2,r3,r4,r5,r6):=by first|(rw [hy186];with_reducible exact H)|(have H2_:=(Option.bind_some _ _).symm.trans H;rw [hy186];with_reducible exact H2_)|(have H2_:=(Option.bind_some _ _).symm.trans H;with_reducible exact H2_)|with_reducible exact H|(rw [hy186];exact H)|exact H
   have Ny186:=Aside0.mk hy186
   clear hy186
   by_cases c8 : a0.toList=(strOfNums y186).toList
   ·rw [if_pos c8] at H
    have c8b0 : (a0.toList == (strOfNums y186).toList)=true:=beq_iff_eq.mpr c8
    have c8b1 : (a0.toList != (strOfNums y186).toList)=false:=bne_eq_false_iff_eq.mpr c8
    clear c8
    simp only [Option.some.injEq,Prod.mk.injEq] at H
    obtain ⟨rfl,rfl,rfl,rfl,rfl,rfl⟩:=H
    go_enter Try.func12,Try.ntmps12
    go_wp2_with (first|((with_reducible refine gate_dst (N:=2) rfl ?_);refine box_event ?hg (N:=2) ?hd (cs:=#[.int .u32 0,.int .u64 0,.int .i64 0,.string (⟨#[]⟩ : ByteArray),.slice none 0 0]) (t:=35) ?hr ?_;(case hd=>rfl);(case hg=>rfl);(case hr=>first|(go_simp;done)|(go_simp;rfl));intro gb185 hg w9 hbox hb;have n0_:=Aside0.mk (below_step (by repeat (first|(with_reducible first|exact HB.out|apply below_alloc|apply pw_below_drewN|apply below_drew1)|exact HB.out)) hb);have n1_:=Aside0.mk (hbox);have n2_:=Aside0.mk ((by rw [hg];exact (below_size (by repeat (first|(with_reducible first|exact HB.out|apply below_alloc|apply pw_below_drewN|apply below_drew1)|exact HB.out))) : w.heap.size≤gb185));have n3_:=Aside0.mk ((by rw [hg];exact (below_size (by repeat (first|(with_reducible first|exact HB.out|apply below_alloc|apply pw_below_drewN|apply below_drew1)|exact HB.out))) : w.heap.size≤gb185));clear HB;have HB:=n0_;have BK185:=n1_;have GW185:=n2_;have GE185:=n3_;clear n0_ n1_ n2_ n3_;clear hb hbox hg)|((with_reducible refine gate_dst (N:=25) rfl ?_);refine Kd.R_make (Kd.int .u8) _ 5 rfl (N:=25) rfl 55 _ _ rfl 512 rfl rfl Try.underlying55 (.int .u8 0) 1 info5 rfl (by decide) (by omega) 0 (ok:=fun _=>True) (okp:=fun _=>True) rfl (fun _ hk=>hk) trivial (by omega) (by omega) (Below.refl _ _) (Nat.le_refl _) ?_;intro v187 w10 ho11 hb hg_ hnew_;clear hg_ hnew_;(first|rw [← Ny186.out] at ho11|(simp only [Int.reduceToNat] at ho11;rw [← Ny186.out] at ho11));have n0_:=Aside0.mk (Kd.R_lower ho11 (below_size (by repeat (first|(with_reducible first|exact HB.out|apply below_alloc|apply pw_below_drewN|apply below_drew1|refine below_set ?_ GE185.out)|exact HB.out))));have n1_:=Aside0.mk (blk_below (g:=gb185) (o:=.cells #[.int .u32 0,.int .u64 0,.int .i64 0,.string (⟨#[]⟩ : ByteArray),.slice none 0 0] 35 (0,0)) (by (with_reducible repeat (first|refine blk_drewN ?_ _|refine blk_drew ?_|refine blk_alloc ?_ _));exact BK185.out) hb);have n2_:=Aside0.mk (below_step (by repeat (first|(with_reducible first|exact HB.out|apply below_alloc|apply pw_below_drewN|apply below_drew1|refine below_set ?_ GE185.out)|exact HB.out)) hb);clear BK185;clear HB;have HO188:=n0_;have BK185:=n1_;have HB:=n2_;clear n0_ n1_ n2_;clear hb ho11;have hcv12:=own_string (P:=Try.prog) Try.underlying55 Try.underlying5 Try.underlying9 (Kd.own_of_R HO188.out);have hcz13_0 : w10.cell? ⟨gb185,0,none⟩=some (.int .u32 0):=(blk_cell BK185.out 0).trans rfl;have hcz13_1 : w10.cell? ⟨gb185,1,none⟩=some (.int .u64 0):=(blk_cell BK185.out 1).trans rfl;have hcz13_2 : w10.cell? ⟨gb185,2,none⟩=some (.int .i64 0):=(blk_cell BK185.out 2).trans rfl;have hcz13_3 : w10.cell? ⟨gb185,3,none⟩=some (.string (⟨#[]⟩ : ByteArray)):=(blk_cell BK185.out 3).trans rfl;have hcz13_4 : w10.cell? ⟨gb185,4,none⟩=some (.slice none 0 0):=(blk_cell BK185.out 4).trans rfl;have hfz13_0:=blk_frozen BK185.out 0;have hfz13_1:=blk_frozen BK185.out 1;have hfz13_2:=blk_frozen BK185.out 2;have hfz13_3:=blk_frozen BK185.out 3;have hfz13_4:=blk_frozen BK185.out 4))
    refine bodyPost_ret (results_ct rfl _ _ gb185 35 #[.int .u32 0,.int .u64 0,.int .i64 0,.string (⟨#[]⟩ : ByteArray),.slice none 0 0] (0,0) _ rfl (by (with_reducible repeat (first|refine blk_drewN ?_ _|refine blk_drew ?_|refine blk_alloc ?_ _));refine blk_put (cs:=#[.int .u32 0,.int .u64 0,.int .i64 0,.string (⟨#[]⟩ : ByteArray),.slice none 0 0]) ?_ 4 _ rfl;(with_reducible repeat (first|refine blk_drewN ?_ _|refine blk_drew ?_|refine blk_alloc ?_ _));refine blk_put (cs:=#[.int .u32 0,.int .u64 0,.int .i64 0,.string (⟨#[]⟩ : ByteArray),.slice none 0 0]) ?_ 3 _ rfl;(with_reducible repeat (first|refine blk_drewN ?_ _|refine blk_drew ?_|refine blk_alloc ?_ _));refine blk_put (cs:=#[.int .u32 0,.int .u64 0,.int .i64 0,.string (⟨#[]⟩ : ByteArray),.slice none 0 0]) ?_ 2 _ rfl;(with_reducible repeat (first|refine blk_drewN ?_ _|refine blk_drew ?_|refine blk_alloc ?_ _));refine blk_put (cs:=#[.int .u32 0,.int .u64 0,.int .i64 0,.string (⟨#[]⟩ : ByteArray),.slice none 0 0]) ?_ 1 _ rfl;(with_reducible repeat (first|refine blk_drewN ?_ _|refine blk_drew ?_|refine blk_alloc ?_ _));refine blk_put (cs:=#[.int .u32 0,.int .u64 0,.int .i64 0,.string (⟨#[]⟩ : ByteArray),.slice none 0 0]) ?_ 0 _ rfl;(with_reducible repeat (first|refine blk_drewN ?_ _|refine blk_drew ?_|refine blk_alloc ?_ _));exact BK185.out) Try.underlying35 rfl (by kernel_rfl)) rfl ?_
    exact ⟨_,by first|rfl|(simp [errW_none,errW_some] <;> rfl)|(simp [*,errW_none,errW_some] <;> rfl),by first|exact Kd.R_nil _ _ _ _ _|exact Kd.N_nil _ _ _ _ _|exact Kd.V_nil _ _ _ _ _|exact Kd.Q_nil _ _ _ _ _|exact Kd.S_nil _ _ _ _ _,by repeat (first|(with_reducible first|exact HB.out|apply below_alloc|apply pw_below_drewN|apply below_drew1|refine below_set ?_ GE185.out)|exact HB.out)⟩
   ·rw [if_neg c8] at H
    have c8b0 : (a0.toList == (strOfNums y186).toList)=false:=beq_eq_false_iff_ne.mpr c8
    have c8b1 : (a0.toList != (strOfNums y186).toList)=true:=bne_iff_ne.mpr c8
    by_cases c14 : 12≤(a0.size : Int)
    ·rw [if_pos c14] at H
     have c14b0:=eq_true c14
     have c14b1 : decide (12≤(a0.size : Int))=true:=decide_eq_true c14
     clear c14
     by_cases c15 : 504≤(a0.size : Int)
     ·rw [if_pos c15] at H
      have c15b0:=eq_true c15
      have c15b1 : decide (504≤(a0.size : Int))=true:=decide_eq_true c15
      clear c15
      by_cases c16 : (a0.extract 4 12).toList=(a0.extract 504 a0.size).toList
      ·rw [if_pos c16] at H
       have c16b0 : ((a0.extract 4 12).toList == (a0.extract 504 a0.size).toList)=true:=beq_iff_eq.mpr c16
       have c16b1 : ((a0.extract 4 12).toList != (a0.extract 504 a0.size).toList)=false:=bne_eq_false_iff_eq.mpr c16
       clear c16
       by_cases c17 : 4≤(a0.size : Int)
       ·rw [if_pos c17] at H
        have c17b0:=eq_true c17
        have c17b1 : decide (4≤(a0.size : Int))=true:=decide_eq_true c17
        clear c17
        replace H:=Option.bind_eq_some_iff.mp H
        obtain ⟨t189,A180,H⟩:=H
        replace H : ((girderref01_More.f 0 (a0.extract 4 a0.size)).bind fun t190=>(if t189=(IntKind.u64.wrap (t190)) then ((girderref01_Reader_Number.f a0 4 0 8).bind fun bt193=>((girderref01_Reader_Number.f bt193.1 bt193.2.1 bt193.2.2.1 4).bind fun bt197=>((girderref01_Reader_Number.f bt197.1 bt197.2.1 bt197.2.2.1 1).bind fun bt201=>((girderref01_Reader_Number.f bt201.1 bt201.2.1 bt201.2.2.1 1).bind fun bt205=>((girderref01_Reader_Take.f bt205.1 bt205.2.1 bt205.2.2.1 (wrap64 (bt205.2.2.2))).bind fun bt209=>((girderref01_Reader_Number.f bt209.1 bt209.2.1 bt209.2.2.1 1).bind fun bt213=>(girderref03_Decode.l0 k a0 bt213.2.2.2 (([] : List Int)) 0 bt213.1 bt213.2.1 bt213.2.2.1 ((bt197.2.2.2) % 4294967296) bt193.2.2.2 (wrap64 (bt201.2.2.2)) bt209.2.2.2))))))) else (some (0,0,0,(⟨#[]⟩ : ByteArray),([] : List ByteArray),32))))=some (r1,r2,r3,r4,r5,r6):=H
        have A18:=Aside0.mk A180
        clear A180
        have c19b0:=eq_true (of_decide_eq_true (by first|(with_reducible assumption)|assumption) : 4≤(a0.size : Int))
        replace H:=Option.bind_eq_some_iff.mp H
        obtain ⟨t190,A200,H⟩:=H
        replace H : (if t189=(IntKind.u64.wrap (t190)) then ((girderref01_Reader_Number.f a0 4 0 8).bind fun bt193=>((girderref01_Reader_Number.f bt193.1 bt193.2.1 bt193.2.2.1 4).bind fun bt197=>((girderref01_Reader_Number.f bt197.1 bt197.2.1 bt197.2.2.1 1).bind fun bt201=>((girderref01_Reader_Number.f bt201.1 bt201.2.1 bt201.2.2.1 1).bind fun bt205=>((girderref01_Reader_Take.f bt205.1 bt205.2.1 bt205.2.2.1 (wrap64 (bt205.2.2.2))).bind fun bt209=>((girderref01_Reader_Number.f bt209.1 bt209.2.1 bt209.2.2.1 1).bind fun bt213=>(girderref03_Decode.l0 k a0 bt213.2.2.2 (([] : List Int)) 0 bt213.1 bt213.2.1 bt213.2.2.1 ((bt197.2.2.2) % 4294967296) bt193.2.2.2 (wrap64 (bt201.2.2.2)) bt209.2.2.2))))))) else (some (0,0,0,(⟨#[]⟩ : ByteArray),([] : List ByteArray),32)))=some (r1,r2,r3,r4,r5,r6):=H
        have A20:=Aside0.mk A200
        clear A200
        by_cases c21 : t189=(IntKind.u64.wrap (t190))
        ·rw [if_pos c21] at H
         have c21b0 : (t189 == (IntKind.u64.wrap (t190)))=true:=beq_iff_eq.mpr c21
         have c21b1 : (t189 != (IntKind.u64.wrap (t190)))=false:=bne_eq_false_iff_eq.mpr c21
         clear c21
         replace H:=Option.bind_eq_some_iff.mp H
         obtain ⟨⟨t193,t194,t195,t196⟩,A220,H⟩:=H
         replace H : ((girderref01_Reader_Number.f t193 t194 t195 4).bind fun bt197=>((girderref01_Reader_Number.f bt197.1 bt197.2.1 bt197.2.2.1 1).bind fun bt201=>((girderref01_Reader_Number.f bt201.1 bt201.2.1 bt201.2.2.1 1).bind fun bt205=>((girderref01_Reader_Take.f bt205.1 bt205.2.1 bt205.2.2.1 (wrap64 (bt205.2.2.2))).bind fun bt209=>((girderref01_Reader_Number.f bt209.1 bt209.2.1 bt209.2.2.1 1).bind fun bt213=>(girderref03_Decode.l0 k a0 bt213.2.2.2 (([] : List Int)) 0 bt213.1 bt213.2.1 bt213.2.2.1 ((bt197.2.2.2) % 4294967296) t196 (wrap64 (bt201.2.2.2)) bt209.2.2.2))))))=some (r1,r2,r3,r4,r5,r6):=H
         have A22:=Aside0.mk A220
         clear A220
         replace H:=Option.bind_eq_some_iff.mp H
         obtain ⟨⟨t197,t198,t199,t200⟩,A230,H⟩:=H
         replace H : ((girderref01_Reader_Number.f t197 t198 t199 1).bind fun bt201=>((girderref01_Reader_Number.f bt201.1 bt201.2.1 bt201.2.2.1 1).bind fun bt205=>((girderref01_Reader_Take.f bt205.1 bt205.2.1 bt205.2.2.1 (wrap64 (bt205.2.2.2))).bind fun bt209=>((girderref01_Reader_Number.f bt209.1 bt209.2.1 bt209.2.2.1 1).bind fun bt213=>(girderref03_Decode.l0 k a0 bt213.2.2.2 (([] : List Int)) 0 bt213.1 bt213.2.1 bt213.2.2.1 ((t200) % 4294967296) t196 (wrap64 (bt201.2.2.2)) bt209.2.2.2)))))=some (r1,r2,r3,r4,r5,r6):=H
         have A23:=Aside0.mk A230
         clear A230
         replace H:=Option.bind_eq_some_iff.mp H
         obtain ⟨⟨t201,t202,t203,t204⟩,A240,H⟩:=H
         replace H : ((girderref01_Reader_Number.f t201 t202 t203 1).bind fun bt205=>((girderref01_Reader_Take.f bt205.1 bt205.2.1 bt205.2.2.1 (wrap64 (bt205.2.2.2))).bind fun bt209=>((girderref01_Reader_Number.f bt209.1 bt209.2.1 bt209.2.2.1 1).bind fun bt213=>(girderref03_Decode.l0 k a0 bt213.2.2.2 (([] : List Int)) 0 bt213.1 bt213.2.1 bt213.2.2.1 ((t200) % 4294967296) t196 (wrap64 (t204)) bt209.2.2.2))))=some (r1,r2,r3,r4,r5,r6):=H
         have A24:=Aside0.mk A240
         clear A240
         replace H:=Option.bind_eq_some_iff.mp H
         obtain ⟨⟨t205,t206,t207,t208⟩,A250,H⟩:=H
         replace H : ((girderref01_Reader_Take.f t205 t206 t207 (wrap64 (t208))).bind fun bt209=>((girderref01_Reader_Number.f bt209.1 bt209.2.1 bt209.2.2.1 1).bind fun bt213=>(girderref03_Decode.l0 k a0 bt213.2.2.2 (([] : List Int)) 0 bt213.1 bt213.2.1 bt213.2.2.1 ((t200) % 4294967296) t196 (wrap64 (t204)) bt209.2.2.2)))=some (r1,r2,r3,r4,r5,r6):=H
         have A25:=Aside0.mk A250
         clear A250
         replace H:=Option.bind_eq_some_iff.mp H
         obtain ⟨⟨t209,t210,t211,t212⟩,A260,H⟩:=H
         replace H : ((girderref01_Reader_Number.f t209 t210 t211 1).bind fun bt213=>(girderref03_Decode.l0 k a0 bt213.2.2.2 (([] : List Int)) 0 bt213.1 bt213.2.1 bt213.2.2.1 ((t200) % 4294967296) t196 (wrap64 (t204)) t212))=some (r1,r2,r3,r4,r5,r6):=H
         have A26:=Aside0.mk A260
         clear A260
         replace H:=Option.bind_eq_some_iff.mp H
         obtain ⟨⟨t213,t214,t215,t216⟩,A270,H⟩:=H
         replace H : (girderref03_Decode.l0 k a0 t216 (([] : List Int)) 0 t213 t214 t215 ((t200) % 4294967296) t196 (wrap64 (t204)) t212)=some (r1,r2,r3,r4,r5,r6):=H
         have A27:=Aside0.mk A270
         clear A270
         obtain ⟨y217,hy217⟩ : ∃ y_ : List Int,y_=(([] : List Int)):=⟨_,rfl⟩
         replace H : (girderref03_Decode.l0 k a0 t216 y217 0 t213 t214 t215 ((t200) % 4294967296) t196 (wrap64 (t204)) t212)=some (r1,r2,r3,r4,r5,r6):=by first|(rw [hy217];with_reducible exact H)|(have H2_:=(Option.bind_some _ _).symm.trans H;rw [hy217];with_reducible exact H2_)|(have H2_:=(Option.bind_some _ _).symm.trans H;with_reducible exact H2_)|with_reducible exact H|(rw [hy217];exact H)|exact H
         have Ny217:=Aside0.mk hy217
         clear hy217
         have H':=Aside0.mk H
         clear H
         go_enter Try.func12,Try.ntmps12
         try go_wp2_with (first|((with_reducible refine gate_dst (N:=2) rfl ?_);refine box_event ?hg (N:=2) ?hd (cs:=#[.int .u32 0,.int .u64 0,.int .i64 0,.string (⟨#[]⟩ : ByteArray),.slice none 0 0]) (t:=35) ?hr ?_;(case hd=>rfl);(case hg=>rfl);(case hr=>first|(go_simp;done)|(go_simp;rfl));intro gb185 hg w28 hbox hb;have n0_:=Aside0.mk (below_step (by repeat (first|(with_reducible first|exact HB.out|apply below_alloc|apply pw_below_drewN|apply below_drew1)|exact HB.out)) hb);have n1_:=Aside0.mk (hbox);have n2_:=Aside0.mk ((by rw [hg];exact (below_size (by repeat (first|(with_reducible first|exact HB.out|apply below_alloc|apply pw_below_drewN|apply below_drew1)|exact HB.out))) : w.heap.size≤gb185));have n3_:=Aside0.mk ((by rw [hg];exact (below_size (by repeat (first|(with_reducible first|exact HB.out|apply below_alloc|apply pw_below_drewN|apply below_drew1)|exact HB.out))) : w.heap.size≤gb185));clear HB;have HB:=n0_;have BK185:=n1_;have GW185:=n2_;have GE185:=n3_;clear n0_ n1_ n2_ n3_;clear hb hbox hg)|((with_reducible refine gate_dst (N:=25) rfl ?_);refine Kd.R_make (Kd.int .u8) _ 5 rfl (N:=25) rfl 55 _ _ rfl 512 rfl rfl Try.underlying55 (.int .u8 0) 1 info5 rfl (by decide) (by omega) 0 (ok:=fun _=>True) (okp:=fun _=>True) rfl (fun _ hk=>hk) trivial (by omega) (by omega) (Below.refl _ _) (Nat.le_refl _) ?_;intro v187 w29 ho30 hb hg_ hnew_;clear hg_ hnew_;(first|rw [← Ny186.out] at ho30|(simp only [Int.reduceToNat] at ho30;rw [← Ny186.out] at ho30));have n0_:=Aside0.mk (Kd.R_lower ho30 (below_size (by repeat (first|(with_reducible first|exact HB.out|apply below_alloc|apply pw_below_drewN|apply below_drew1|refine below_set ?_ GE185.out)|exact HB.out))));have n1_:=Aside0.mk (blk_below (g:=gb185) (o:=.cells #[.int .u32 0,.int .u64 0,.int .i64 0,.string (⟨#[]⟩ : ByteArray),.slice none 0 0] 35 (0,0)) (by (with_reducible repeat (first|refine blk_drewN ?_ _|refine blk_drew ?_|refine blk_alloc ?_ _));exact BK185.out) hb);have n2_:=Aside0.mk (below_step (by repeat (first|(with_reducible first|exact HB.out|apply below_alloc|apply pw_below_drewN|apply below_drew1|refine below_set ?_ GE185.out)|exact HB.out)) hb);clear BK185;clear HB;have HO188:=n0_;have BK185:=n1_;have HB:=n2_;clear n0_ n1_ n2_;clear hb ho30;have hcv31:=own_string (P:=Try.prog) Try.underlying55 Try.underlying5 Try.underlying9 (Kd.own_of_R HO188.out)))
         have n0_:=Aside0.mk (Kd.R_drew HO188.out)
         have n1_:=Aside0.mk (blk_drew BK185.out)
         have n2_:=Aside0.mk (below_drew1 HB.out)
         clear HO188
         clear BK185
         clear HB
         have HO188:=n0_
         have BK185:=n1_
         have HB:=n2_
         clear n0_ n1_ n2_
         refine start_ (n:=5) (S:=fun w'=>True) (ds:=[]) #[false,false,false,false,false] (by kernel_rfl) rfl rfl trivial (fun hHeld=>?_)
         generalize w29.drew=w32 at HO188 BK185 HB hHeld ⊢
         refine pure_ (i:=0) (N:=some 29) (v:=?_) (a':=?_) #[true,false,false,false,false] rfl rfl (by kernel_rfl) (fun _ _ _ h=>h) (Or.inl ⟨by rfl,?_⟩) ?_ ?_
         rotate_left
         ·intro w'
          go_simp
          with_reducible rfl
         rotate_left
         ·simp only [Act.put,sA_,sB_,sC_,i64_w,i32_w]
          rfl
         refine pure_ (i:=1) (N:=some 30) (v:=?_) (a':=?_) #[true,true,false,false,false] rfl rfl (by kernel_rfl) (fun _ _ _ h=>h) (Or.inl ⟨by rfl,?_⟩) ?_ ?_
         rotate_left
         ·intro w'
          go_simp
          with_reducible rfl
         rotate_left
         ·simp only [Act.put,sA_,sB_,sC_,i64_w,i32_w]
          rfl
         refine pure_ (i:=2) (N:=some 31) (v:=?_) (a':=?_) #[true,true,true,false,false] rfl rfl (by kernel_rfl) (fun _ _ _ h=>h) (Or.inl ⟨by rfl,?_⟩) ?_ ?_
         rotate_left
         ·intro w'
          go_simp
          with_reducible rfl
         rotate_left
         ·simp only [Act.put,sA_,sB_,sC_,i64_w,i32_w]
          rfl
         refine pure_ (i:=3) (N:=some 32) (v:=?_) (a':=?_) #[true,true,true,true,false] rfl rfl (by kernel_rfl) (fun _ _ _ h=>h) (Or.inl ⟨by rfl,?_⟩) ?_ ?_
         rotate_left
         ·intro w'
          go_simp
          with_reducible rfl
         rotate_left
         ·simp only [Act.put,sA_,sB_,sC_,i64_w,i32_w]
          rfl
         refine pure_ (i:=4) (N:=some 33) (v:=?_) (a':=?_) #[true,true,true,true,true] rfl rfl (by kernel_rfl) (fun _ _ _ h=>h) (Or.inl ⟨by rfl,?_⟩) ?_ ?_
         rotate_left
         ·intro w'
          go_simp
          with_reducible rfl
         rotate_left
         ·simp only [Act.put,sA_,sB_,sC_,i64_w,i32_w]
          rfl
         refine done_ (by kernel_rfl) ?_
         try go_wp2
         have n0_:=Aside0.mk (Kd.R_drew HO188.out)
         have n1_:=Aside0.mk (blk_drew BK185.out)
         have n2_:=Aside0.mk (below_drew1 HB.out)
         clear HO188
         clear BK185
         clear HB
         have HO188:=n0_
         have BK185:=n1_
         have HB:=n2_
         clear n0_ n1_ n2_
         refine start_ (n:=8) (S:=fun w'=>True) (ds:=[]) #[false,false,false,false,false,false,false,false] (by kernel_rfl) rfl rfl trivial (fun hHeld=>?_);refine with_tabW girderref03_Decode.tab9 girderref03_Decode.bits9 (fun HT_ HW_=>?_)
         generalize w32.drew=w33 at HO188 BK185 HB hHeld ⊢
         refine pure_ (i:=0) (N:=some 35) (v:=?_) (a':=?_) #[true,false,false,false,false,false,false,false] rfl rfl (any_of HT_.out (by kernel_rfl)) (fun _ _ _ h=>h) (Or.inl ⟨by rfl,?_⟩) ?_ ?_
         rotate_left
         ·intro w'
          go_simp
          with_reducible rfl
         rotate_left
         ·simp only [Act.put,sA_,sB_,sC_,i64_w,i32_w]
          rfl
         refine pure_ (i:=1) (N:=some 36) (v:=?_) (a':=?_) #[true,true,false,false,false,false,false,false] rfl rfl (any_of HT_.out (by kernel_rfl)) (fun _ _ _ h=>h) (Or.inl ⟨by rfl,?_⟩) ?_ ?_
         rotate_left
         ·intro w'
          go_simp
          with_reducible rfl
         rotate_left
         ·simp only [Act.put,sA_,sB_,sC_,i64_w,i32_w]
          rfl
         refine pure_ (i:=3) (N:=some 38) (v:=?_) (a':=?_) #[true,true,false,true,false,false,false,false] rfl rfl (any_of HT_.out (by kernel_rfl)) (fun _ _ _ h=>h) (Or.inl ⟨by rfl,?_⟩) ?_ ?_
         rotate_left
         ·intro w'
          go_simp
          with_reducible rfl
         rotate_left
         ·simp only [Act.put,sA_,sB_,sC_,i64_w,i32_w]
          rfl
         refine pure_ (i:=4) (N:=some 39) (v:=?_) (a':=?_) #[true,true,false,true,true,false,false,false] rfl rfl (any_of HT_.out (by kernel_rfl)) (fun _ _ _ h=>h) (Or.inl ⟨by rfl,?_⟩) ?_ ?_
         rotate_left
         ·intro w'
          go_simp
          with_reducible rfl
         rotate_left
         ·simp only [Act.put,sA_,sB_,sC_,i64_w,i32_w]
          rfl
         refine one_ (i:=2) (N:=some 37) #[true,true,true,true,true,false,false,false] rfl rfl (one_of HT_.out (by kernel_rfl)) (by decide) (fun K hK=>?_)
         refine goes_ Try.func43 (by kernel_rfl) rfl #[.string (a0.extract 0 4)] (by rfl) rfl rfl (by (try simp only [List.map_toArray,List.map_cons,List.map_nil]);first|done|rfl|(simp only [List.length_drop,List.length_take];rfl)) ?_
         with_reducible refine (girderref01_Number.calls (a0.extract 0 4) t189 _ A18.out).mono ?_
         rintro e w' ⟨rfl,⟨nd,rfl⟩⟩
         refine ⟨_,rfl,?_⟩
         refine hK.out _ _ trivial (fun hHeld=>?_)
         clear hK K
         refine norm_ (a':=?_) ?_ ?_
         rotate_left
         ·show Act.put _ (some 37) _=_
          simp only [Act.put,sA_,sB_,sC_,i64_w,i32_w]
          rfl
         refine one_ (i:=5) (N:=some 40) #[true,true,true,true,true,true,false,false] rfl rfl (one_of HT_.out (by kernel_rfl)) (by decide) (fun K hK=>?_)
         refine goes_ Try.func36 (by kernel_rfl) rfl #[.int .u32 0,.string (a0.extract 4 a0.size)] (by rfl) rfl rfl (by (try simp only [List.map_toArray,List.map_cons,List.map_nil]);first|done|rfl|(simp only [List.length_drop,List.length_take];rfl)) ?_
         with_reducible refine (girderref01_More.calls 0 (a0.extract 4 a0.size) t190 _ A20.out).mono ?_
         rintro e w' ⟨rfl,⟨nd,rfl⟩⟩
         refine ⟨_,rfl,?_⟩
         refine hK.out _ _ trivial (fun hHeld=>?_)
         clear hK K
         refine norm_ (a':=?_) ?_ ?_
         rotate_left
         ·show Act.put _ (some 40) _=_
          simp only [Act.put,sA_,sB_,sC_,i64_w,i32_w]
          rfl
         refine pure_ (i:=6) (N:=some 41) (v:=?_) (a':=?_) #[true,true,true,true,true,true,true,false] rfl rfl (any_of HT_.out (by kernel_rfl)) (fun _ _ _ h=>h) (Or.inl ⟨by rfl,?_⟩) ?_ ?_
         rotate_left
         ·intro w'
          go_simp
          with_reducible rfl
         rotate_left
         ·simp only [Act.put,sA_,sB_,sC_,i64_w,i32_w]
          rfl
         refine pure_ (i:=7) (N:=some 42) (v:=?_) (a':=?_) #[true,true,true,true,true,true,true,true] rfl rfl (any_of HT_.out (by kernel_rfl)) (fun _ _ _ h=>h) (Or.inl ⟨by rfl,?_⟩) ?_ ?_
         rotate_left
         ·intro w'
          go_simp
          with_reducible rfl
         rotate_left
         ·simp only [Act.put,sA_,sB_,sC_,i64_w,i32_w]
          rfl
         refine done_ (done_of HT_.out (by kernel_rfl)) ?_
         try go_wp2_with (first|((with_reducible refine gate_dst (N:=4) rfl ?_);refine box_event ?hg (N:=4) ?hd (cs:=#[.string (⟨#[]⟩ : ByteArray),.int .i64 0,.int .i64 0]) (t:=86) ?hr ?_;(case hd=>rfl);(case hg=>rfl);(case hr=>first|(go_simp;done)|(go_simp;rfl));intro gb191 hg w34 hbox hb;have n0_:=Aside0.mk (Kd.R_below (by (with_reducible repeat (first|apply Kd.R_alloc|apply Kd.R_drewN|apply Kd.R_drew));exact HO188.out) hb);have n1_:=Aside0.mk (blk_below (g:=gb185) (o:=.cells #[.int .u32 0,.int .u64 0,.int .i64 0,.string (⟨#[]⟩ : ByteArray),.slice none 0 0] 35 (0,0)) (by (with_reducible repeat (first|refine blk_drewN ?_ _|refine blk_drew ?_|refine blk_alloc ?_ _));exact BK185.out) hb);have n2_:=Aside0.mk (below_step (by repeat (first|(with_reducible first|exact HB.out|apply below_alloc|apply pw_below_drewN|apply below_drew1|refine below_set ?_ GE185.out)|exact HB.out)) hb);have n3_:=Aside0.mk (hbox);have n4_:=Aside0.mk ((by rw [hg];exact (below_size (by repeat (first|(with_reducible first|exact HB.out|apply below_alloc|apply pw_below_drewN|apply below_drew1|refine below_set ?_ GE185.out)|exact HB.out))) : w.heap.size≤gb191));have n5_:=Aside0.mk ((by rw [hg];exact (below_size (by repeat (first|(with_reducible first|exact HB.out|apply below_alloc|apply pw_below_drewN|apply below_drew1|refine below_set ?_ GE185.out)|exact HB.out))) : w.heap.size≤gb191));have n6_:=Aside0.mk ((by rw [hg];exact Nat.ne_of_lt (blk_lt (g:=gb185) (o:=.cells #[.int .u32 0,.int .u64 0,.int .i64 0,.string (⟨#[]⟩ : ByteArray),.slice none 0 0] 35 (0,0)) (by (with_reducible repeat (first|refine blk_drewN ?_ _|refine blk_drew ?_|refine blk_alloc ?_ _));exact BK185.out)) : gb185≠gb191));have n7_:=Aside0.mk ((by rw [hg];exact Nat.ne_of_gt (blk_lt (g:=gb185) (o:=.cells #[.int .u32 0,.int .u64 0,.int .i64 0,.string (⟨#[]⟩ : ByteArray),.slice none 0 0] 35 (0,0)) (by (with_reducible repeat (first|refine blk_drewN ?_ _|refine blk_drew ?_|refine blk_alloc ?_ _));exact BK185.out)) : gb191≠gb185));clear HO188;clear BK185;clear HB;have HO188:=n0_;have BK185:=n1_;have HB:=n2_;have BK191:=n3_;have GW191:=n4_;have GE191:=n5_;have NB185_191:=n6_;have NB191_185:=n7_;clear n0_ n1_ n2_ n3_ n4_ n5_ n6_ n7_;clear hb hbox hg;have hnb35:=NB191_185.out;have hnc35:=NB185_191.out;have hcz36_0 : w34.cell? ⟨gb191,0,none⟩=some (.string (⟨#[]⟩ : ByteArray)):=(blk_cell BK191.out 0).trans rfl;have hcz36_1 : w34.cell? ⟨gb191,1,none⟩=some (.int .i64 0):=(blk_cell BK191.out 1).trans rfl;have hcz36_2 : w34.cell? ⟨gb191,2,none⟩=some (.int .i64 0):=(blk_cell BK191.out 2).trans rfl;have hfz36_0:=blk_frozen BK191.out 0;have hfz36_1:=blk_frozen BK191.out 1;have hfz36_2:=blk_frozen BK191.out 2)|((with_reducible refine gate_dst (N:=5) rfl ?_);refine box_event ?hg (N:=5) ?hd (cs:=#[.int .u32 0,.int .u64 0,.int .i64 0,.string (⟨#[]⟩ : ByteArray),.slice none 0 0]) (t:=35) ?hr ?_;(case hd=>rfl);(case hg=>rfl);(case hr=>first|(go_simp;done)|(go_simp;rfl));intro gb192 hg w37 hbox hb;have n0_:=Aside0.mk (Kd.R_below (by (with_reducible repeat (first|apply Kd.R_alloc|apply Kd.R_drewN|apply Kd.R_drew));exact (Kd.R_mono (Kd.R_far (p:=⟨gb191,2,none⟩) (Kd.R_far (p:=⟨gb191,1,none⟩) (Kd.R_far (p:=⟨gb191,0,none⟩) (Kd.R_types HO188.out BK191.out (by decide)) (fun _ hk=>hk.2) (.string a0)) (fun _ hk=>hk.2) (.int .i64 4)) (fun _ hk=>hk.2) (.int .i64 0)) (fun _ h_=>h_.1))) hb);have n1_:=Aside0.mk (blk_below (g:=gb185) (o:=.cells #[.int .u32 0,.int .u64 0,.int .i64 0,.string (⟨#[]⟩ : ByteArray),.slice none 0 0] 35 (0,0)) (by (with_reducible repeat (first|refine blk_drewN ?_ _|refine blk_drew ?_|refine blk_alloc ?_ _));refine blk_far ?_ NB185_191.out _;(with_reducible repeat (first|refine blk_drewN ?_ _|refine blk_drew ?_|refine blk_alloc ?_ _));refine blk_far ?_ NB185_191.out _;(with_reducible repeat (first|refine blk_drewN ?_ _|refine blk_drew ?_|refine blk_alloc ?_ _));refine blk_far ?_ NB185_191.out _;(with_reducible repeat (first|refine blk_drewN ?_ _|refine blk_drew ?_|refine blk_alloc ?_ _));exact BK185.out) hb);have n2_:=Aside0.mk (blk_below (g:=gb191) (o:=.cells #[.string a0,.int .i64 4,.int .i64 0] 86 (0,0)) (by (with_reducible repeat (first|refine blk_drewN ?_ _|refine blk_drew ?_|refine blk_alloc ?_ _));refine blk_put (cs:=#[.string a0,.int .i64 4,.int .i64 0]) ?_ 2 _ rfl;(with_reducible repeat (first|refine blk_drewN ?_ _|refine blk_drew ?_|refine blk_alloc ?_ _));refine blk_put (cs:=#[.string a0,.int .i64 0,.int .i64 0]) ?_ 1 _ rfl;(with_reducible repeat (first|refine blk_drewN ?_ _|refine blk_drew ?_|refine blk_alloc ?_ _));refine blk_put (cs:=#[.string (⟨#[]⟩ : ByteArray),.int .i64 0,.int .i64 0]) ?_ 0 _ rfl;(with_reducible repeat (first|refine blk_drewN ?_ _|refine blk_drew ?_|refine blk_alloc ?_ _));exact BK191.out) hb);have n3_:=Aside0.mk (below_step (by repeat (first|(with_reducible first|exact HB.out|apply below_alloc|apply pw_below_drewN|apply below_drew1|refine below_set ?_ GE185.out|refine below_set ?_ GE191.out)|exact HB.out)) hb);have n4_:=Aside0.mk (hbox);have n5_:=Aside0.mk ((by rw [hg];exact (below_size (by repeat (first|(with_reducible first|exact HB.out|apply below_alloc|apply pw_below_drewN|apply below_drew1|refine below_set ?_ GE185.out|refine below_set ?_ GE191.out)|exact HB.out))) : w.heap.size≤gb192));have n6_:=Aside0.mk ((by rw [hg];exact (below_size (by repeat (first|(with_reducible first|exact HB.out|apply below_alloc|apply pw_below_drewN|apply below_drew1|refine below_set ?_ GE185.out|refine below_set ?_ GE191.out)|exact HB.out))) : w.heap.size≤gb192));have n7_:=Aside0.mk ((by rw [hg];exact Nat.ne_of_lt (blk_lt (g:=gb185) (o:=.cells #[.int .u32 0,.int .u64 0,.int .i64 0,.string (⟨#[]⟩ : ByteArray),.slice none 0 0] 35 (0,0)) (by (with_reducible repeat (first|refine blk_drewN ?_ _|refine blk_drew ?_|refine blk_alloc ?_ _));refine blk_far ?_ NB185_191.out _;(with_reducible repeat (first|refine blk_drewN ?_ _|refine blk_drew ?_|refine blk_alloc ?_ _));refine blk_far ?_ NB185_191.out _;(with_reducible repeat (first|refine blk_drewN ?_ _|refine blk_drew ?_|refine blk_alloc ?_ _));refine blk_far ?_ NB185_191.out _;(with_reducible repeat (first|refine blk_drewN ?_ _|refine blk_drew ?_|refine blk_alloc ?_ _));exact BK185.out)) : gb185≠gb192));have n8_:=Aside0.mk ((by rw [hg];exact Nat.ne_of_gt (blk_lt (g:=gb185) (o:=.cells #[.int .u32 0,.int .u64 0,.int .i64 0,.string (⟨#[]⟩ : ByteArray),.slice none 0 0] 35 (0,0)) (by (with_reducible repeat (first|refine blk_drewN ?_ _|refine blk_drew ?_|refine blk_alloc ?_ _));refine blk_far ?_ NB185_191.out _;(with_reducible repeat (first|refine blk_drewN ?_ _|refine blk_drew ?_|refine blk_alloc ?_ _));refine blk_far ?_ NB185_191.out _;(with_reducible repeat (first|refine blk_drewN ?_ _|refine blk_drew ?_|refine blk_alloc ?_ _));refine blk_far ?_ NB185_191.out _;(with_reducible repeat (first|refine blk_drewN ?_ _|refine blk_drew ?_|refine blk_alloc ?_ _));exact BK185.out)) : gb192≠gb185));have n9_:=Aside0.mk ((by rw [hg];exact Nat.ne_of_lt (blk_lt (g:=gb191) (o:=.cells #[.string a0,.int .i64 4,.int .i64 0] 86 (0,0)) (by (with_reducible repeat (first|refine blk_drewN ?_ _|refine blk_drew ?_|refine blk_alloc ?_ _));refine blk_put (cs:=#[.string a0,.int .i64 4,.int .i64 0]) ?_ 2 _ rfl;(with_reducible repeat (first|refine blk_drewN ?_ _|refine blk_drew ?_|refine blk_alloc ?_ _));refine blk_put (cs:=#[.string a0,.int .i64 0,.int .i64 0]) ?_ 1 _ rfl;(with_reducible repeat (first|refine blk_drewN ?_ _|refine blk_drew ?_|refine blk_alloc ?_ _));refine blk_put (cs:=#[.string (⟨#[]⟩ : ByteArray),.int .i64 0,.int .i64 0]) ?_ 0 _ rfl;(with_reducible repeat (first|refine blk_drewN ?_ _|refine blk_drew ?_|refine blk_alloc ?_ _));exact BK191.out)) : gb191≠gb192));have n10_:=Aside0.mk ((by rw [hg];exact Nat.ne_of_gt (blk_lt (g:=gb191) (o:=.cells #[.string a0,.int .i64 4,.int .i64 0] 86 (0,0)) (by (with_reducible repeat (first|refine blk_drewN ?_ _|refine blk_drew ?_|refine blk_alloc ?_ _));refine blk_put (cs:=#[.string a0,.int .i64 4,.int .i64 0]) ?_ 2 _ rfl;(with_reducible repeat (first|refine blk_drewN ?_ _|refine blk_drew ?_|refine blk_alloc ?_ _));refine blk_put (cs:=#[.string a0,.int .i64 0,.int .i64 0]) ?_ 1 _ rfl;(with_reducible repeat (first|refine blk_drewN ?_ _|refine blk_drew ?_|refine blk_alloc ?_ _));refine blk_put (cs:=#[.string (⟨#[]⟩ : ByteArray),.int .i64 0,.int .i64 0]) ?_ 0 _ rfl;(with_reducible repeat (first|refine blk_drewN ?_ _|refine blk_drew ?_|refine blk_alloc ?_ _));exact BK191.out)) : gb192≠gb191));clear HO188;clear BK185;clear BK191;clear HB;have HO188:=n0_;have BK185:=n1_;have BK191:=n2_;have HB:=n3_;have BK192:=n4_;have GW192:=n5_;have GE192:=n6_;have NB185_192:=n7_;have NB192_185:=n8_;have NB191_192:=n9_;have NB192_191:=n10_;clear n0_ n1_ n2_ n3_ n4_ n5_ n6_ n7_ n8_ n9_ n10_;clear hb hbox hg;have hnb38:=NB192_185.out;have hnc38:=NB185_192.out;have hnb39:=NB192_191.out;have hnc39:=NB191_192.out;have hcz40_0 : w37.cell? ⟨gb192,0,none⟩=some (.int .u32 0):=(blk_cell BK192.out 0).trans rfl;have hcz40_1 : w37.cell? ⟨gb192,1,none⟩=some (.int .u64 0):=(blk_cell BK192.out 1).trans rfl;have hcz40_2 : w37.cell? ⟨gb192,2,none⟩=some (.int .i64 0):=(blk_cell BK192.out 2).trans rfl;have hcz40_3 : w37.cell? ⟨gb192,3,none⟩=some (.string (⟨#[]⟩ : ByteArray)):=(blk_cell BK192.out 3).trans rfl;have hcz40_4 : w37.cell? ⟨gb192,4,none⟩=some (.slice none 0 0):=(blk_cell BK192.out 4).trans rfl;have hfz40_0:=blk_frozen BK192.out 0;have hfz40_1:=blk_frozen BK192.out 1;have hfz40_2:=blk_frozen BK192.out 2;have hfz40_3:=blk_frozen BK192.out 3;have hfz40_4:=blk_frozen BK192.out 4;have hcz41_0 : w37.cell? ⟨gb191,0,none⟩=some (.string a0):=(blk_cell BK191.out 0).trans rfl;have hcz41_1 : w37.cell? ⟨gb191,1,none⟩=some (.int .i64 4):=(blk_cell BK191.out 1).trans rfl;have hcz41_2 : w37.cell? ⟨gb191,2,none⟩=some (.int .i64 0):=(blk_cell BK191.out 2).trans rfl;have hfz41_0:=blk_frozen BK191.out 0;have hfz41_1:=blk_frozen BK191.out 1;have hfz41_2:=blk_frozen BK191.out 2)|((with_reducible refine gate_callee (f:=44) rfl ?_);refine goesL_ (some 49) rfl rfl Try.func44 (by kernel_rfl) rfl #[.agg #[.string a0,.int .i64 4,.int .i64 0],.int .i64 8] rfl (by (try simp only [List.map_toArray,List.map_cons,List.map_nil]);first|done|rfl|(simp only [List.length_drop,List.length_take];rfl)) ?_;(with_reducible refine (girderref01_Reader_Number.calls a0 4 0 8 t193 t194 t195 t196 _ A22.out).mono ?_);rintro e w42 ⟨rfl,hb⟩;refine ⟨_,rfl,?_⟩;have n0_:=Aside0.mk (Kd.R_below (by (with_reducible repeat (first|apply Kd.R_alloc|apply Kd.R_drewN|apply Kd.R_drew));exact (Kd.R_mono (Kd.R_far (p:=⟨gb192,4,none⟩) (Kd.R_far (p:=⟨gb192,3,none⟩) (Kd.R_far (p:=⟨gb192,2,none⟩) (Kd.R_far (p:=⟨gb192,1,none⟩) (Kd.R_far (p:=⟨gb192,0,none⟩) (Kd.R_types HO188.out BK192.out (by decide)) (fun _ hk=>hk.2) (.int .u32 0)) (fun _ hk=>hk.2) (.int .u64 0)) (fun _ hk=>hk.2) (.int .i64 0)) (fun _ hk=>hk.2) (.string (⟨#[]⟩ : ByteArray))) (fun _ hk=>hk.2) (.slice none 0 0)) (fun _ h_=>h_.1))) hb);have n1_:=Aside0.mk (blk_below (g:=gb185) (o:=.cells #[.int .u32 0,.int .u64 0,.int .i64 0,.string (⟨#[]⟩ : ByteArray),.slice none 0 0] 35 (0,0)) (by (with_reducible repeat (first|refine blk_drewN ?_ _|refine blk_drew ?_|refine blk_alloc ?_ _));refine blk_far ?_ NB185_192.out _;(with_reducible repeat (first|refine blk_drewN ?_ _|refine blk_drew ?_|refine blk_alloc ?_ _));refine blk_far ?_ NB185_192.out _;(with_reducible repeat (first|refine blk_drewN ?_ _|refine blk_drew ?_|refine blk_alloc ?_ _));refine blk_far ?_ NB185_192.out _;(with_reducible repeat (first|refine blk_drewN ?_ _|refine blk_drew ?_|refine blk_alloc ?_ _));refine blk_far ?_ NB185_192.out _;(with_reducible repeat (first|refine blk_drewN ?_ _|refine blk_drew ?_|refine blk_alloc ?_ _));refine blk_far ?_ NB185_192.out _;(with_reducible repeat (first|refine blk_drewN ?_ _|refine blk_drew ?_|refine blk_alloc ?_ _));exact BK185.out) hb);have n2_:=Aside0.mk (blk_below (g:=gb191) (o:=.cells #[.string a0,.int .i64 4,.int .i64 0] 86 (0,0)) (by (with_reducible repeat (first|refine blk_drewN ?_ _|refine blk_drew ?_|refine blk_alloc ?_ _));refine blk_far ?_ NB191_192.out _;(with_reducible repeat (first|refine blk_drewN ?_ _|refine blk_drew ?_|refine blk_alloc ?_ _));refine blk_far ?_ NB191_192.out _;(with_reducible repeat (first|refine blk_drewN ?_ _|refine blk_drew ?_|refine blk_alloc ?_ _));refine blk_far ?_ NB191_192.out _;(with_reducible repeat (first|refine blk_drewN ?_ _|refine blk_drew ?_|refine blk_alloc ?_ _));refine blk_far ?_ NB191_192.out _;(with_reducible repeat (first|refine blk_drewN ?_ _|refine blk_drew ?_|refine blk_alloc ?_ _));refine blk_far ?_ NB191_192.out _;(with_reducible repeat (first|refine blk_drewN ?_ _|refine blk_drew ?_|refine blk_alloc ?_ _));exact BK191.out) hb);have n3_:=Aside0.mk (blk_below (g:=gb192) (o:=.cells #[.int .u32 0,.int .u64 0,.int .i64 0,.string (⟨#[]⟩ : ByteArray),.slice none 0 0] 35 (0,0)) (by (with_reducible repeat (first|refine blk_drewN ?_ _|refine blk_drew ?_|refine blk_alloc ?_ _));refine blk_put (cs:=#[.int .u32 0,.int .u64 0,.int .i64 0,.string (⟨#[]⟩ : ByteArray),.slice none 0 0]) ?_ 4 _ rfl;(with_reducible repeat (first|refine blk_drewN ?_ _|refine blk_drew ?_|refine blk_alloc ?_ _));refine blk_put (cs:=#[.int .u32 0,.int .u64 0,.int .i64 0,.string (⟨#[]⟩ : ByteArray),.slice none 0 0]) ?_ 3 _ rfl;(with_reducible repeat (first|refine blk_drewN ?_ _|refine blk_drew ?_|refine blk_alloc ?_ _));refine blk_put (cs:=#[.int .u32 0,.int .u64 0,.int .i64 0,.string (⟨#[]⟩ : ByteArray),.slice none 0 0]) ?_ 2 _ rfl;(with_reducible repeat (first|refine blk_drewN ?_ _|refine blk_drew ?_|refine blk_alloc ?_ _));refine blk_put (cs:=#[.int .u32 0,.int .u64 0,.int .i64 0,.string (⟨#[]⟩ : ByteArray),.slice none 0 0]) ?_ 1 _ rfl;(with_reducible repeat (first|refine blk_drewN ?_ _|refine blk_drew ?_|refine blk_alloc ?_ _));refine blk_put (cs:=#[.int .u32 0,.int .u64 0,.int .i64 0,.string (⟨#[]⟩ : ByteArray),.slice none 0 0]) ?_ 0 _ rfl;(with_reducible repeat (first|refine blk_drewN ?_ _|refine blk_drew ?_|refine blk_alloc ?_ _));exact BK192.out) hb);have n4_:=Aside0.mk (below_step (by repeat (first|(with_reducible first|exact HB.out|apply below_alloc|apply pw_below_drewN|apply below_drew1|refine below_set ?_ GE185.out|refine below_set ?_ GE191.out|refine below_set ?_ GE192.out)|exact HB.out)) hb);clear HO188;clear BK185;clear BK191;clear BK192;clear HB;have HO188:=n0_;have BK185:=n1_;have BK191:=n2_;have BK192:=n3_;have HB:=n4_;clear n0_ n1_ n2_ n3_ n4_;(try clear hb);(try clear hb2);(try clear hk);(try clear hi);have hcz43_0 : w42.cell? ⟨gb191,0,none⟩=some (.string a0):=(blk_cell BK191.out 0).trans rfl;have hcz43_1 : w42.cell? ⟨gb191,1,none⟩=some (.int .i64 4):=(blk_cell BK191.out 1).trans rfl;have hcz43_2 : w42.cell? ⟨gb191,2,none⟩=some (.int .i64 0):=(blk_cell BK191.out 2).trans rfl;have hfz43_0:=blk_frozen BK191.out 0;have hfz43_1:=blk_frozen BK191.out 1;have hfz43_2:=blk_frozen BK191.out 2;have hcz44_0 : w42.cell? ⟨gb192,0,none⟩=some (.int .u32 0):=(blk_cell BK192.out 0).trans rfl;have hcz44_1 : w42.cell? ⟨gb192,1,none⟩=some (.int .u64 0):=(blk_cell BK192.out 1).trans rfl;have hcz44_2 : w42.cell? ⟨gb192,2,none⟩=some (.int .i64 0):=(blk_cell BK192.out 2).trans rfl;have hcz44_3 : w42.cell? ⟨gb192,3,none⟩=some (.string (⟨#[]⟩ : ByteArray)):=(blk_cell BK192.out 3).trans rfl;have hcz44_4 : w42.cell? ⟨gb192,4,none⟩=some (.slice none 0 0):=(blk_cell BK192.out 4).trans rfl;have hfz44_0:=blk_frozen BK192.out 0;have hfz44_1:=blk_frozen BK192.out 1;have hfz44_2:=blk_frozen BK192.out 2;have hfz44_3:=blk_frozen BK192.out 3;have hfz44_4:=blk_frozen BK192.out 4)|((with_reducible refine gate_callee (f:=44) rfl ?_);refine goesL_ (some 55) rfl rfl Try.func44 (by kernel_rfl) rfl #[.agg #[.string t193,.int .i64 t194,.int .i64 t195],.int .i64 4] rfl (by (try simp only [List.map_toArray,List.map_cons,List.map_nil]);first|done|rfl|(simp only [List.length_drop,List.length_take];rfl)) ?_;(with_reducible refine (girderref01_Reader_Number.calls t193 t194 t195 4 t197 t198 t199 t200 _ A23.out).mono ?_);rintro e w45 ⟨rfl,hb⟩;refine ⟨_,rfl,?_⟩;have n0_:=Aside0.mk (Kd.R_below (by (with_reducible repeat (first|apply Kd.R_alloc|apply Kd.R_drewN|apply Kd.R_drew));exact (Kd.R_mono (Kd.R_mono (Kd.R_far (p:=⟨gb192,1,none⟩) (Kd.R_far (p:=⟨gb191,2,none⟩) (Kd.R_far (p:=⟨gb191,1,none⟩) (Kd.R_far (p:=⟨gb191,0,none⟩) (Kd.R_types (Kd.R_types HO188.out BK191.out (by decide)) BK192.out (by decide)) (fun _ hk=>hk.1.2) (.string t193)) (fun _ hk=>hk.1.2) (.int .i64 t194)) (fun _ hk=>hk.1.2) (.int .i64 t195)) (fun _ hk=>hk.2) (.int .u64 t196)) (fun _ h_=>h_.1)) (fun _ h_=>h_.1))) hb);have n1_:=Aside0.mk (blk_below (g:=gb185) (o:=.cells #[.int .u32 0,.int .u64 0,.int .i64 0,.string (⟨#[]⟩ : ByteArray),.slice none 0 0] 35 (0,0)) (by (with_reducible repeat (first|refine blk_drewN ?_ _|refine blk_drew ?_|refine blk_alloc ?_ _));refine blk_far ?_ NB185_192.out _;(with_reducible repeat (first|refine blk_drewN ?_ _|refine blk_drew ?_|refine blk_alloc ?_ _));refine blk_far ?_ NB185_191.out _;(with_reducible repeat (first|refine blk_drewN ?_ _|refine blk_drew ?_|refine blk_alloc ?_ _));refine blk_far ?_ NB185_191.out _;(with_reducible repeat (first|refine blk_drewN ?_ _|refine blk_drew ?_|refine blk_alloc ?_ _));refine blk_far ?_ NB185_191.out _;(with_reducible repeat (first|refine blk_drewN ?_ _|refine blk_drew ?_|refine blk_alloc ?_ _));exact BK185.out) hb);have n2_:=Aside0.mk (blk_below (g:=gb191) (o:=.cells #[.string t193,.int .i64 t194,.int .i64 t195] 86 (0,0)) (by (with_reducible repeat (first|refine blk_drewN ?_ _|refine blk_drew ?_|refine blk_alloc ?_ _));refine blk_far ?_ NB191_192.out _;(with_reducible repeat (first|refine blk_drewN ?_ _|refine blk_drew ?_|refine blk_alloc ?_ _));refine blk_put (cs:=#[.string t193,.int .i64 t194,.int .i64 0]) ?_ 2 _ rfl;(with_reducible repeat (first|refine blk_drewN ?_ _|refine blk_drew ?_|refine blk_alloc ?_ _));refine blk_put (cs:=#[.string t193,.int .i64 4,.int .i64 0]) ?_ 1 _ rfl;(with_reducible repeat (first|refine blk_drewN ?_ _|refine blk_drew ?_|refine blk_alloc ?_ _));refine blk_put (cs:=#[.string a0,.int .i64 4,.int .i64 0]) ?_ 0 _ rfl;(with_reducible repeat (first|refine blk_drewN ?_ _|refine blk_drew ?_|refine blk_alloc ?_ _));exact BK191.out) hb);have n3_:=Aside0.mk (blk_below (g:=gb192) (o:=.cells #[.int .u32 0,.int .u64 t196,.int .i64 0,.string (⟨#[]⟩ : ByteArray),.slice none 0 0] 35 (0,0)) (by (with_reducible repeat (first|refine blk_drewN ?_ _|refine blk_drew ?_|refine blk_alloc ?_ _));refine blk_put (cs:=#[.int .u32 0,.int .u64 0,.int .i64 0,.string (⟨#[]⟩ : ByteArray),.slice none 0 0]) ?_ 1 _ rfl;(with_reducible repeat (first|refine blk_drewN ?_ _|refine blk_drew ?_|refine blk_alloc ?_ _));refine blk_far ?_ NB192_191.out _;(with_reducible repeat (first|refine blk_drewN ?_ _|refine blk_drew ?_|refine blk_alloc ?_ _));refine blk_far ?_ NB192_191.out _;(with_reducible repeat (first|refine blk_drewN ?_ _|refine blk_drew ?_|refine blk_alloc ?_ _));refine blk_far ?_ NB192_191.out _;(with_reducible repeat (first|refine blk_drewN ?_ _|refine blk_drew ?_|refine blk_alloc ?_ _));exact BK192.out) hb);have n4_:=Aside0.mk (below_step (by repeat (first|(with_reducible first|exact HB.out|apply below_alloc|apply pw_below_drewN|apply below_drew1|refine below_set ?_ GE185.out|refine below_set ?_ GE191.out|refine below_set ?_ GE192.out)|exact HB.out)) hb);clear HO188;clear BK185;clear BK191;clear BK192;clear HB;have HO188:=n0_;have BK185:=n1_;have BK191:=n2_;have BK192:=n3_;have HB:=n4_;clear n0_ n1_ n2_ n3_ n4_;(try clear hb);(try clear hb2);(try clear hk);(try clear hi);have hcz46_0 : w45.cell? ⟨gb191,0,none⟩=some (.string t193):=(blk_cell BK191.out 0).trans rfl;have hcz46_1 : w45.cell? ⟨gb191,1,none⟩=some (.int .i64 t194):=(blk_cell BK191.out 1).trans rfl;have hcz46_2 : w45.cell? ⟨gb191,2,none⟩=some (.int .i64 t195):=(blk_cell BK191.out 2).trans rfl;have hfz46_0:=blk_frozen BK191.out 0;have hfz46_1:=blk_frozen BK191.out 1;have hfz46_2:=blk_frozen BK191.out 2;have hcz47_0 : w45.cell? ⟨gb192,0,none⟩=some (.int .u32 0):=(blk_cell BK192.out 0).trans rfl;have hcz47_1 : w45.cell? ⟨gb192,1,none⟩=some (.int .u64 t196):=(blk_cell BK192.out 1).trans rfl;have hcz47_2 : w45.cell? ⟨gb192,2,none⟩=some (.int .i64 0):=(blk_cell BK192.out 2).trans rfl;have hcz47_3 : w45.cell? ⟨gb192,3,none⟩=some (.string (⟨#[]⟩ : ByteArray)):=(blk_cell BK192.out 3).trans rfl;have hcz47_4 : w45.cell? ⟨gb192,4,none⟩=some (.slice none 0 0):=(blk_cell BK192.out 4).trans rfl;have hfz47_0:=blk_frozen BK192.out 0;have hfz47_1:=blk_frozen BK192.out 1;have hfz47_2:=blk_frozen BK192.out 2;have hfz47_3:=blk_frozen BK192.out 3;have hfz47_4:=blk_frozen BK192.out 4)|((with_reducible refine gate_callee (f:=44) rfl ?_);refine goesL_ (some 63) rfl rfl Try.func44 (by kernel_rfl) rfl #[.agg #[.string t197,.int .i64 t198,.int .i64 t199],.int .i64 1] rfl (by (try simp only [List.map_toArray,List.map_cons,List.map_nil]);first|done|rfl|(simp only [List.length_drop,List.length_take];rfl)) ?_;(with_reducible refine (girderref01_Reader_Number.calls t197 t198 t199 1 t201 t202 t203 t204 _ A24.out).mono ?_);rintro e w48 ⟨rfl,hb⟩;refine ⟨_,rfl,?_⟩;have n0_:=Aside0.mk (Kd.R_below (by (with_reducible repeat (first|apply Kd.R_alloc|apply Kd.R_drewN|apply Kd.R_drew));exact (Kd.R_mono (Kd.R_mono (Kd.R_far (p:=⟨gb192,0,none⟩) (Kd.R_far (p:=⟨gb191,2,none⟩) (Kd.R_far (p:=⟨gb191,1,none⟩) (Kd.R_far (p:=⟨gb191,0,none⟩) (Kd.R_types (Kd.R_types HO188.out BK191.out (by decide)) BK192.out (by decide)) (fun _ hk=>hk.1.2) (.string t197)) (fun _ hk=>hk.1.2) (.int .i64 t198)) (fun _ hk=>hk.1.2) (.int .i64 t199)) (fun _ hk=>hk.2) (.int .u32 ((t200) % 4294967296))) (fun _ h_=>h_.1)) (fun _ h_=>h_.1))) hb);have n1_:=Aside0.mk (blk_below (g:=gb185) (o:=.cells #[.int .u32 0,.int .u64 0,.int .i64 0,.string (⟨#[]⟩ : ByteArray),.slice none 0 0] 35 (0,0)) (by (with_reducible repeat (first|refine blk_drewN ?_ _|refine blk_drew ?_|refine blk_alloc ?_ _));refine blk_far ?_ NB185_192.out _;(with_reducible repeat (first|refine blk_drewN ?_ _|refine blk_drew ?_|refine blk_alloc ?_ _));refine blk_far ?_ NB185_191.out _;(with_reducible repeat (first|refine blk_drewN ?_ _|refine blk_drew ?_|refine blk_alloc ?_ _));refine blk_far ?_ NB185_191.out _;(with_reducible repeat (first|refine blk_drewN ?_ _|refine blk_drew ?_|refine blk_alloc ?_ _));refine blk_far ?_ NB185_191.out _;(with_reducible repeat (first|refine blk_drewN ?_ _|refine blk_drew ?_|refine blk_alloc ?_ _));exact BK185.out) hb);have n2_:=Aside0.mk (blk_below (g:=gb191) (o:=.cells #[.string t197,.int .i64 t198,.int .i64 t199] 86 (0,0)) (by (with_reducible repeat (first|refine blk_drewN ?_ _|refine blk_drew ?_|refine blk_alloc ?_ _));refine blk_far ?_ NB191_192.out _;(with_reducible repeat (first|refine blk_drewN ?_ _|refine blk_drew ?_|refine blk_alloc ?_ _));refine blk_put (cs:=#[.string t197,.int .i64 t198,.int .i64 t195]) ?_ 2 _ rfl;(with_reducible repeat (first|refine blk_drewN ?_ _|refine blk_drew ?_|refine blk_alloc ?_ _));refine blk_put (cs:=#[.string t197,.int .i64 t194,.int .i64 t195]) ?_ 1 _ rfl;(with_reducible repeat (first|refine blk_drewN ?_ _|refine blk_drew ?_|refine blk_alloc ?_ _));refine blk_put (cs:=#[.string t193,.int .i64 t194,.int .i64 t195]) ?_ 0 _ rfl;(with_reducible repeat (first|refine blk_drewN ?_ _|refine blk_drew ?_|refine blk_alloc ?_ _));exact BK191.out) hb);have n3_:=Aside0.mk (blk_below (g:=gb192) (o:=.cells #[.int .u32 ((t200) % 4294967296),.int .u64 t196,.int .i64 0,.string (⟨#[]⟩ : ByteArray),.slice none 0 0] 35 (0,0)) (by (with_reducible repeat (first|refine blk_drewN ?_ _|refine blk_drew ?_|refine blk_alloc ?_ _));refine blk_put (cs:=#[.int .u32 0,.int .u64 t196,.int .i64 0,.string (⟨#[]⟩ : ByteArray),.slice none 0 0]) ?_ 0 _ rfl;(with_reducible repeat (first|refine blk_drewN ?_ _|refine blk_drew ?_|refine blk_alloc ?_ _));refine blk_far ?_ NB192_191.out _;(with_reducible repeat (first|refine blk_drewN ?_ _|refine blk_drew ?_|refine blk_alloc ?_ _));refine blk_far ?_ NB192_191.out _;(with_reducible repeat (first|refine blk_drewN ?_ _|refine blk_drew ?_|refine blk_alloc ?_ _));refine blk_far ?_ NB192_191.out _;(with_reducible repeat (first|refine blk_drewN ?_ _|refine blk_drew ?_|refine blk_alloc ?_ _));exact BK192.out) hb);have n4_:=Aside0.mk (below_step (by repeat (first|(with_reducible first|exact HB.out|apply below_alloc|apply pw_below_drewN|apply below_drew1|refine below_set ?_ GE185.out|refine below_set ?_ GE191.out|refine below_set ?_ GE192.out)|exact HB.out)) hb);clear HO188;clear BK185;clear BK191;clear BK192;clear HB;have HO188:=n0_;have BK185:=n1_;have BK191:=n2_;have BK192:=n3_;have HB:=n4_;clear n0_ n1_ n2_ n3_ n4_;(try clear hb);(try clear hb2);(try clear hk);(try clear hi);have hcz49_0 : w48.cell? ⟨gb191,0,none⟩=some (.string t197):=(blk_cell BK191.out 0).trans rfl;have hcz49_1 : w48.cell? ⟨gb191,1,none⟩=some (.int .i64 t198):=(blk_cell BK191.out 1).trans rfl;have hcz49_2 : w48.cell? ⟨gb191,2,none⟩=some (.int .i64 t199):=(blk_cell BK191.out 2).trans rfl;have hfz49_0:=blk_frozen BK191.out 0;have hfz49_1:=blk_frozen BK191.out 1;have hfz49_2:=blk_frozen BK191.out 2;have hcz50_0 : w48.cell? ⟨gb192,0,none⟩=some (.int .u32 ((t200) % 4294967296)):=(blk_cell BK192.out 0).trans rfl;have hcz50_1 : w48.cell? ⟨gb192,1,none⟩=some (.int .u64 t196):=(blk_cell BK192.out 1).trans rfl;have hcz50_2 : w48.cell? ⟨gb192,2,none⟩=some (.int .i64 0):=(blk_cell BK192.out 2).trans rfl;have hcz50_3 : w48.cell? ⟨gb192,3,none⟩=some (.string (⟨#[]⟩ : ByteArray)):=(blk_cell BK192.out 3).trans rfl;have hcz50_4 : w48.cell? ⟨gb192,4,none⟩=some (.slice none 0 0):=(blk_cell BK192.out 4).trans rfl;have hfz50_0:=blk_frozen BK192.out 0;have hfz50_1:=blk_frozen BK192.out 1;have hfz50_2:=blk_frozen BK192.out 2;have hfz50_3:=blk_frozen BK192.out 3;have hfz50_4:=blk_frozen BK192.out 4)|((with_reducible refine gate_callee (f:=44) rfl ?_);refine goesL_ (some 71) rfl rfl Try.func44 (by kernel_rfl) rfl #[.agg #[.string t201,.int .i64 t202,.int .i64 t203],.int .i64 1] rfl (by (try simp only [List.map_toArray,List.map_cons,List.map_nil]);first|done|rfl|(simp only [List.length_drop,List.length_take];rfl)) ?_;(with_reducible refine (girderref01_Reader_Number.calls t201 t202 t203 1 t205 t206 t207 t208 _ A25.out).mono ?_);rintro e w51 ⟨rfl,hb⟩;refine ⟨_,rfl,?_⟩;have n0_:=Aside0.mk (Kd.R_below (by (with_reducible repeat (first|apply Kd.R_alloc|apply Kd.R_drewN|apply Kd.R_drew));exact (Kd.R_mono (Kd.R_mono (Kd.R_far (p:=⟨gb192,2,none⟩) (Kd.R_far (p:=⟨gb191,2,none⟩) (Kd.R_far (p:=⟨gb191,1,none⟩) (Kd.R_far (p:=⟨gb191,0,none⟩) (Kd.R_types (Kd.R_types HO188.out BK191.out (by decide)) BK192.out (by decide)) (fun _ hk=>hk.1.2) (.string t201)) (fun _ hk=>hk.1.2) (.int .i64 t202)) (fun _ hk=>hk.1.2) (.int .i64 t203)) (fun _ hk=>hk.2) (.int .i64 (wrap64 (t204)))) (fun _ h_=>h_.1)) (fun _ h_=>h_.1))) hb);have n1_:=Aside0.mk (blk_below (g:=gb185) (o:=.cells #[.int .u32 0,.int .u64 0,.int .i64 0,.string (⟨#[]⟩ : ByteArray),.slice none 0 0] 35 (0,0)) (by (with_reducible repeat (first|refine blk_drewN ?_ _|refine blk_drew ?_|refine blk_alloc ?_ _));refine blk_far ?_ NB185_192.out _;(with_reducible repeat (first|refine blk_drewN ?_ _|refine blk_drew ?_|refine blk_alloc ?_ _));refine blk_far ?_ NB185_191.out _;(with_reducible repeat (first|refine blk_drewN ?_ _|refine blk_drew ?_|refine blk_alloc ?_ _));refine blk_far ?_ NB185_191.out _;(with_reducible repeat (first|refine blk_drewN ?_ _|refine blk_drew ?_|refine blk_alloc ?_ _));refine blk_far ?_ NB185_191.out _;(with_reducible repeat (first|refine blk_drewN ?_ _|refine blk_drew ?_|refine blk_alloc ?_ _));exact BK185.out) hb);have n2_:=Aside0.mk (blk_below (g:=gb191) (o:=.cells #[.string t201,.int .i64 t202,.int .i64 t203] 86 (0,0)) (by (with_reducible repeat (first|refine blk_drewN ?_ _|refine blk_drew ?_|refine blk_alloc ?_ _));refine blk_far ?_ NB191_192.out _;(with_reducible repeat (first|refine blk_drewN ?_ _|refine blk_drew ?_|refine blk_alloc ?_ _));refine blk_put (cs:=#[.string t201,.int .i64 t202,.int .i64 t199]) ?_ 2 _ rfl;(with_reducible repeat (first|refine blk_drewN ?_ _|refine blk_drew ?_|refine blk_alloc ?_ _));refine blk_put (cs:=#[.string t201,.int .i64 t198,.int .i64 t199]) ?_ 1 _ rfl;(with_reducible repeat (first|refine blk_drewN ?_ _|refine blk_drew ?_|refine blk_alloc ?_ _));refine blk_put (cs:=#[.string t197,.int .i64 t198,.int .i64 t199]) ?_ 0 _ rfl;(with_reducible repeat (first|refine blk_drewN ?_ _|refine blk_drew ?_|refine blk_alloc ?_ _));exact BK191.out) hb);have n3_:=Aside0.mk (blk_below (g:=gb192) (o:=.cells #[.int .u32 ((t200) % 4294967296),.int .u64 t196,.int .i64 (wrap64 (t204)),.string (⟨#[]⟩ : ByteArray),.slice none 0 0] 35 (0,0)) (by (with_reducible repeat (first|refine blk_drewN ?_ _|refine blk_drew ?_|refine blk_alloc ?_ _));refine blk_put (cs:=#[.int .u32 ((t200) % 4294967296),.int .u64 t196,.int .i64 0,.string (⟨#[]⟩ : ByteArray),.slice none 0 0]) ?_ 2 _ rfl;(with_reducible repeat (first|refine blk_drewN ?_ _|refine blk_drew ?_|refine blk_alloc ?_ _));refine blk_far ?_ NB192_191.out _;(with_reducible repeat (first|refine blk_drewN ?_ _|refine blk_drew ?_|refine blk_alloc ?_ _));refine blk_far ?_ NB192_191.out _;(with_reducible repeat (first|refine blk_drewN ?_ _|refine blk_drew ?_|refine blk_alloc ?_ _));refine blk_far ?_ NB192_191.out _;(with_reducible repeat (first|refine blk_drewN ?_ _|refine blk_drew ?_|refine blk_alloc ?_ _));exact BK192.out) hb);have n4_:=Aside0.mk (below_step (by repeat (first|(with_reducible first|exact HB.out|apply below_alloc|apply pw_below_drewN|apply below_drew1|refine below_set ?_ GE185.out|refine below_set ?_ GE191.out|refine below_set ?_ GE192.out)|exact HB.out)) hb);clear HO188;clear BK185;clear BK191;clear BK192;clear HB;have HO188:=n0_;have BK185:=n1_;have BK191:=n2_;have BK192:=n3_;have HB:=n4_;clear n0_ n1_ n2_ n3_ n4_;(try clear hb);(try clear hb2);(try clear hk);(try clear hi);have hcz52_0 : w51.cell? ⟨gb191,0,none⟩=some (.string t201):=(blk_cell BK191.out 0).trans rfl;have hcz52_1 : w51.cell? ⟨gb191,1,none⟩=some (.int .i64 t202):=(blk_cell BK191.out 1).trans rfl;have hcz52_2 : w51.cell? ⟨gb191,2,none⟩=some (.int .i64 t203):=(blk_cell BK191.out 2).trans rfl;have hfz52_0:=blk_frozen BK191.out 0;have hfz52_1:=blk_frozen BK191.out 1;have hfz52_2:=blk_frozen BK191.out 2)|((with_reducible refine gate_callee (f:=45) rfl ?_);refine goesL_ (some 78) rfl rfl Try.func45 (by kernel_rfl) rfl #[.agg #[.string t205,.int .i64 t206,.int .i64 t207],.int .i64 (wrap64 (t208))] rfl (by (try simp only [List.map_toArray,List.map_cons,List.map_nil]);first|done|rfl|(simp only [List.length_drop,List.length_take];rfl)) ?_;(with_reducible refine (girderref01_Reader_Take.calls t205 t206 t207 (wrap64 (t208)) t209 t210 t211 t212 _ A26.out).mono ?_);rintro e w53 ⟨rfl,hb⟩;refine ⟨_,rfl,?_⟩;have n0_:=Aside0.mk (Kd.R_below (by (with_reducible repeat (first|apply Kd.R_alloc|apply Kd.R_drewN|apply Kd.R_drew));exact (Kd.R_mono (Kd.R_far (p:=⟨gb191,2,none⟩) (Kd.R_far (p:=⟨gb191,1,none⟩) (Kd.R_far (p:=⟨gb191,0,none⟩) (Kd.R_types HO188.out BK191.out (by decide)) (fun _ hk=>hk.2) (.string t205)) (fun _ hk=>hk.2) (.int .i64 t206)) (fun _ hk=>hk.2) (.int .i64 t207)) (fun _ h_=>h_.1))) hb);have n1_:=Aside0.mk (blk_below (g:=gb185) (o:=.cells #[.int .u32 0,.int .u64 0,.int .i64 0,.string (⟨#[]⟩ : ByteArray),.slice none 0 0] 35 (0,0)) (by (with_reducible repeat (first|refine blk_drewN ?_ _|refine blk_drew ?_|refine blk_alloc ?_ _));refine blk_far ?_ NB185_191.out _;(with_reducible repeat (first|refine blk_drewN ?_ _|refine blk_drew ?_|refine blk_alloc ?_ _));refine blk_far ?_ NB185_191.out _;(with_reducible repeat (first|refine blk_drewN ?_ _|refine blk_drew ?_|refine blk_alloc ?_ _));refine blk_far ?_ NB185_191.out _;(with_reducible repeat (first|refine blk_drewN ?_ _|refine blk_drew ?_|refine blk_alloc ?_ _));exact BK185.out) hb);have n2_:=Aside0.mk (blk_below (g:=gb191) (o:=.cells #[.string t205,.int .i64 t206,.int .i64 t207] 86 (0,0)) (by (with_reducible repeat (first|refine blk_drewN ?_ _|refine blk_drew ?_|refine blk_alloc ?_ _));refine blk_put (cs:=#[.string t205,.int .i64 t206,.int .i64 t203]) ?_ 2 _ rfl;(with_reducible repeat (first|refine blk_drewN ?_ _|refine blk_drew ?_|refine blk_alloc ?_ _));refine blk_put (cs:=#[.string t205,.int .i64 t202,.int .i64 t203]) ?_ 1 _ rfl;(with_reducible repeat (first|refine blk_drewN ?_ _|refine blk_drew ?_|refine blk_alloc ?_ _));refine blk_put (cs:=#[.string t201,.int .i64 t202,.int .i64 t203]) ?_ 0 _ rfl;(with_reducible repeat (first|refine blk_drewN ?_ _|refine blk_drew ?_|refine blk_alloc ?_ _));exact BK191.out) hb);have n3_:=Aside0.mk (blk_below (g:=gb192) (o:=.cells #[.int .u32 ((t200) % 4294967296),.int .u64 t196,.int .i64 (wrap64 (t204)),.string (⟨#[]⟩ : ByteArray),.slice none 0 0] 35 (0,0)) (by (with_reducible repeat (first|refine blk_drewN ?_ _|refine blk_drew ?_|refine blk_alloc ?_ _));refine blk_far ?_ NB192_191.out _;(with_reducible repeat (first|refine blk_drewN ?_ _|refine blk_drew ?_|refine blk_alloc ?_ _));refine blk_far ?_ NB192_191.out _;(with_reducible repeat (first|refine blk_drewN ?_ _|refine blk_drew ?_|refine blk_alloc ?_ _));refine blk_far ?_ NB192_191.out _;(with_reducible repeat (first|refine blk_drewN ?_ _|refine blk_drew ?_|refine blk_alloc ?_ _));exact BK192.out) hb);have n4_:=Aside0.mk (below_step (by repeat (first|(with_reducible first|exact HB.out|apply below_alloc|apply pw_below_drewN|apply below_drew1|refine below_set ?_ GE185.out|refine below_set ?_ GE191.out|refine below_set ?_ GE192.out)|exact HB.out)) hb);clear HO188;clear BK185;clear BK191;clear BK192;clear HB;have HO188:=n0_;have BK185:=n1_;have BK191:=n2_;have BK192:=n3_;have HB:=n4_;clear n0_ n1_ n2_ n3_ n4_;(try clear hb);(try clear hb2);(try clear hk);(try clear hi);have hcz54_0 : w53.cell? ⟨gb191,0,none⟩=some (.string t205):=(blk_cell BK191.out 0).trans rfl;have hcz54_1 : w53.cell? ⟨gb191,1,none⟩=some (.int .i64 t206):=(blk_cell BK191.out 1).trans rfl;have hcz54_2 : w53.cell? ⟨gb191,2,none⟩=some (.int .i64 t207):=(blk_cell BK191.out 2).trans rfl;have hfz54_0:=blk_frozen BK191.out 0;have hfz54_1:=blk_frozen BK191.out 1;have hfz54_2:=blk_frozen BK191.out 2;have hcz55_0 : w53.cell? ⟨gb192,0,none⟩=some (.int .u32 ((t200) % 4294967296)):=(blk_cell BK192.out 0).trans rfl;have hcz55_1 : w53.cell? ⟨gb192,1,none⟩=some (.int .u64 t196):=(blk_cell BK192.out 1).trans rfl;have hcz55_2 : w53.cell? ⟨gb192,2,none⟩=some (.int .i64 (wrap64 (t204))):=(blk_cell BK192.out 2).trans rfl;have hcz55_3 : w53.cell? ⟨gb192,3,none⟩=some (.string (⟨#[]⟩ : ByteArray)):=(blk_cell BK192.out 3).trans rfl;have hcz55_4 : w53.cell? ⟨gb192,4,none⟩=some (.slice none 0 0):=(blk_cell BK192.out 4).trans rfl;have hfz55_0:=blk_frozen BK192.out 0;have hfz55_1:=blk_frozen BK192.out 1;have hfz55_2:=blk_frozen BK192.out 2;have hfz55_3:=blk_frozen BK192.out 3;have hfz55_4:=blk_frozen BK192.out 4)|((with_reducible refine gate_callee (f:=44) rfl ?_);refine goesL_ (some 84) rfl rfl Try.func44 (by kernel_rfl) rfl #[.agg #[.string t209,.int .i64 t210,.int .i64 t211],.int .i64 1] rfl (by (try simp only [List.map_toArray,List.map_cons,List.map_nil]);first|done|rfl|(simp only [List.length_drop,List.length_take];rfl)) ?_;(with_reducible refine (girderref01_Reader_Number.calls t209 t210 t211 1 t213 t214 t215 t216 _ A27.out).mono ?_);rintro e w56 ⟨rfl,hb⟩;refine ⟨_,rfl,?_⟩;have n0_:=Aside0.mk (Kd.R_below (by (with_reducible repeat (first|apply Kd.R_alloc|apply Kd.R_drewN|apply Kd.R_drew));exact (Kd.R_mono (Kd.R_mono (Kd.R_far (p:=⟨gb192,3,none⟩) (Kd.R_far (p:=⟨gb191,2,none⟩) (Kd.R_far (p:=⟨gb191,1,none⟩) (Kd.R_far (p:=⟨gb191,0,none⟩) (Kd.R_types (Kd.R_types HO188.out BK191.out (by decide)) BK192.out (by decide)) (fun _ hk=>hk.1.2) (.string t209)) (fun _ hk=>hk.1.2) (.int .i64 t210)) (fun _ hk=>hk.1.2) (.int .i64 t211)) (fun _ hk=>hk.2) (.string t212)) (fun _ h_=>h_.1)) (fun _ h_=>h_.1))) hb);have n1_:=Aside0.mk (blk_below (g:=gb185) (o:=.cells #[.int .u32 0,.int .u64 0,.int .i64 0,.string (⟨#[]⟩ : ByteArray),.slice none 0 0] 35 (0,0)) (by (with_reducible repeat (first|refine blk_drewN ?_ _|refine blk_drew ?_|refine blk_alloc ?_ _));refine blk_far ?_ NB185_192.out _;(with_reducible repeat (first|refine blk_drewN ?_ _|refine blk_drew ?_|refine blk_alloc ?_ _));refine blk_far ?_ NB185_191.out _;(with_reducible repeat (first|refine blk_drewN ?_ _|refine blk_drew ?_|refine blk_alloc ?_ _));refine blk_far ?_ NB185_191.out _;(with_reducible repeat (first|refine blk_drewN ?_ _|refine blk_drew ?_|refine blk_alloc ?_ _));refine blk_far ?_ NB185_191.out _;(with_reducible repeat (first|refine blk_drewN ?_ _|refine blk_drew ?_|refine blk_alloc ?_ _));exact BK185.out) hb);have n2_:=Aside0.mk (blk_below (g:=gb191) (o:=.cells #[.string t209,.int .i64 t210,.int .i64 t211] 86 (0,0)) (by (with_reducible repeat (first|refine blk_drewN ?_ _|refine blk_drew ?_|refine blk_alloc ?_ _));refine blk_far ?_ NB191_192.out _;(with_reducible repeat (first|refine blk_drewN ?_ _|refine blk_drew ?_|refine blk_alloc ?_ _));refine blk_put (cs:=#[.string t209,.int .i64 t210,.int .i64 t207]) ?_ 2 _ rfl;(with_reducible repeat (first|refine blk_drewN ?_ _|refine blk_drew ?_|refine blk_alloc ?_ _));refine blk_put (cs:=#[.string t209,.int .i64 t206,.int .i64 t207]) ?_ 1 _ rfl;(with_reducible repeat (first|refine blk_drewN ?_ _|refine blk_drew ?_|refine blk_alloc ?_ _));refine blk_put (cs:=#[.string t205,.int .i64 t206,.int .i64 t207]) ?_ 0 _ rfl;(with_reducible repeat (first|refine blk_drewN ?_ _|refine blk_drew ?_|refine blk_alloc ?_ _));exact BK191.out) hb);have n3_:=Aside0.mk (blk_below (g:=gb192) (o:=.cells #[.int .u32 ((t200) % 4294967296),.int .u64 t196,.int .i64 (wrap64 (t204)),.string t212,.slice none 0 0] 35 (0,0)) (by (with_reducible repeat (first|refine blk_drewN ?_ _|refine blk_drew ?_|refine blk_alloc ?_ _));refine blk_put (cs:=#[.int .u32 ((t200) % 4294967296),.int .u64 t196,.int .i64 (wrap64 (t204)),.string (⟨#[]⟩ : ByteArray),.slice none 0 0]) ?_ 3 _ rfl;(with_reducible repeat (first|refine blk_drewN ?_ _|refine blk_drew ?_|refine blk_alloc ?_ _));refine blk_far ?_ NB192_191.out _;(with_reducible repeat (first|refine blk_drewN ?_ _|refine blk_drew ?_|refine blk_alloc ?_ _));refine blk_far ?_ NB192_191.out _;(with_reducible repeat (first|refine blk_drewN ?_ _|refine blk_drew ?_|refine blk_alloc ?_ _));refine blk_far ?_ NB192_191.out _;(with_reducible repeat (first|refine blk_drewN ?_ _|refine blk_drew ?_|refine blk_alloc ?_ _));exact BK192.out) hb);have n4_:=Aside0.mk (below_step (by repeat (first|(with_reducible first|exact HB.out|apply below_alloc|apply pw_below_drewN|apply below_drew1|refine below_set ?_ GE185.out|refine below_set ?_ GE191.out|refine below_set ?_ GE192.out)|exact HB.out)) hb);clear HO188;clear BK185;clear BK191;clear BK192;clear HB;have HO188:=n0_;have BK185:=n1_;have BK191:=n2_;have BK192:=n3_;have HB:=n4_;clear n0_ n1_ n2_ n3_ n4_;(try clear hb);(try clear hb2);(try clear hk);(try clear hi);have hcz57_0 : w56.cell? ⟨gb191,0,none⟩=some (.string t209):=(blk_cell BK191.out 0).trans rfl;have hcz57_1 : w56.cell? ⟨gb191,1,none⟩=some (.int .i64 t210):=(blk_cell BK191.out 1).trans rfl;have hcz57_2 : w56.cell? ⟨gb191,2,none⟩=some (.int .i64 t211):=(blk_cell BK191.out 2).trans rfl;have hfz57_0:=blk_frozen BK191.out 0;have hfz57_1:=blk_frozen BK191.out 1;have hfz57_2:=blk_frozen BK191.out 2)|((with_reducible refine gate_dst (N:=87) rfl ?_);refine Kd.R_lit (Kd.int .i64) _ 3 ?hg (N:=87) ?hd (xs:=([] : List Int)) (inner:=[]) (ok:=fun _=>True) (okp:=fun _=>True) ?hr ?hp (fun _ hk=>hk) trivial (Below.refl _ _) (Nat.le_refl _) (by simp) ?_;(case hd=>rfl);(case hg=>rfl);(case hr=>first|(go_simp;done)|(go_simp;rfl));(case hp=>exact (Reps.none _ _));intro v218 w58 ho59 hb hg_ hnew_;clear hg_ hnew_;(first|rw [← Ny217.out] at ho59|(simp only [Int.reduceToNat] at ho59;rw [← Ny217.out] at ho59));have n0_:=Aside0.mk (Kd.R_below (by (with_reducible repeat (first|apply Kd.R_alloc|apply Kd.R_drewN|apply Kd.R_drew));exact (Kd.R_mono (Kd.R_far (p:=⟨gb191,2,none⟩) (Kd.R_far (p:=⟨gb191,1,none⟩) (Kd.R_far (p:=⟨gb191,0,none⟩) (Kd.R_types HO188.out BK191.out (by decide)) (fun _ hk=>hk.2) (.string t213)) (fun _ hk=>hk.2) (.int .i64 t214)) (fun _ hk=>hk.2) (.int .i64 t215)) (fun _ h_=>h_.1))) hb);have n1_:=Aside0.mk (Kd.R_lower ho59 (below_size (by repeat (first|(with_reducible first|exact HB.out|apply below_alloc|apply pw_below_drewN|apply below_drew1|refine below_set ?_ GE185.out|refine below_set ?_ GE191.out|refine below_set ?_ GE192.out)|exact HB.out))));have n2_:=Aside0.mk (blk_below (g:=gb185) (o:=.cells #[.int .u32 0,.int .u64 0,.int .i64 0,.string (⟨#[]⟩ : ByteArray),.slice none 0 0] 35 (0,0)) (by (with_reducible repeat (first|refine blk_drewN ?_ _|refine blk_drew ?_|refine blk_alloc ?_ _));refine blk_far ?_ NB185_191.out _;(with_reducible repeat (first|refine blk_drewN ?_ _|refine blk_drew ?_|refine blk_alloc ?_ _));refine blk_far ?_ NB185_191.out _;(with_reducible repeat (first|refine blk_drewN ?_ _|refine blk_drew ?_|refine blk_alloc ?_ _));refine blk_far ?_ NB185_191.out _;(with_reducible repeat (first|refine blk_drewN ?_ _|refine blk_drew ?_|refine blk_alloc ?_ _));exact BK185.out) hb);have n3_:=Aside0.mk (blk_below (g:=gb191) (o:=.cells #[.string t213,.int .i64 t214,.int .i64 t215] 86 (0,0)) (by (with_reducible repeat (first|refine blk_drewN ?_ _|refine blk_drew ?_|refine blk_alloc ?_ _));refine blk_put (cs:=#[.string t213,.int .i64 t214,.int .i64 t211]) ?_ 2 _ rfl;(with_reducible repeat (first|refine blk_drewN ?_ _|refine blk_drew ?_|refine blk_alloc ?_ _));refine blk_put (cs:=#[.string t213,.int .i64 t210,.int .i64 t211]) ?_ 1 _ rfl;(with_reducible repeat (first|refine blk_drewN ?_ _|refine blk_drew ?_|refine blk_alloc ?_ _));refine blk_put (cs:=#[.string t209,.int .i64 t210,.int .i64 t211]) ?_ 0 _ rfl;(with_reducible repeat (first|refine blk_drewN ?_ _|refine blk_drew ?_|refine blk_alloc ?_ _));exact BK191.out) hb);have n4_:=Aside0.mk (blk_below (g:=gb192) (o:=.cells #[.int .u32 ((t200) % 4294967296),.int .u64 t196,.int .i64 (wrap64 (t204)),.string t212,.slice none 0 0] 35 (0,0)) (by (with_reducible repeat (first|refine blk_drewN ?_ _|refine blk_drew ?_|refine blk_alloc ?_ _));refine blk_far ?_ NB192_191.out _;(with_reducible repeat (first|refine blk_drewN ?_ _|refine blk_drew ?_|refine blk_alloc ?_ _));refine blk_far ?_ NB192_191.out _;(with_reducible repeat (first|refine blk_drewN ?_ _|refine blk_drew ?_|refine blk_alloc ?_ _));refine blk_far ?_ NB192_191.out _;(with_reducible repeat (first|refine blk_drewN ?_ _|refine blk_drew ?_|refine blk_alloc ?_ _));exact BK192.out) hb);have n5_:=Aside0.mk (below_step (by repeat (first|(with_reducible first|exact HB.out|apply below_alloc|apply pw_below_drewN|apply below_drew1|refine below_set ?_ GE185.out|refine below_set ?_ GE191.out|refine below_set ?_ GE192.out)|exact HB.out)) hb);clear HO188;clear BK185;clear BK191;clear BK192;clear HB;have HO188:=n0_;have HO219:=n1_;have BK185:=n2_;have BK191:=n3_;have BK192:=n4_;have HB:=n5_;clear n0_ n1_ n2_ n3_ n4_ n5_;clear hb ho59))
         go_loopg [7,8] k (fun kq v7 v8 w'=>∃ (x7_1 : List Int) (x8_1 : Int) (x192000_1 : ByteArray) (x192001_1 : Int) (x192002_1 : Int),v8=.int .u64 x8_1∧Aside0 (girderref03_Decode.l0 kq a0 t216 x7_1 x8_1 x192000_1 x192001_1 x192002_1 ((t200) % 4294967296) t196 (wrap64 (t204)) t212=some (r1,r2,r3,r4,r5,r6))∧Aside0 (kq≤k)∧Aside0 (Kd.R (Kd.int .i64) 3 w' w.heap.size (fun _=>True) v7 x7_1)∧Aside0 (w'.heap[gb185]?=some (.cells #[.int .u32 0,.int .u64 0,.int .i64 0,.string (⟨#[]⟩ : ByteArray),(.slice none 0 0)] 35 (0,0)))∧Aside0 (w'.heap[gb191]?=some (.cells #[.string x192000_1,.int .i64 x192001_1,.int .i64 x192002_1] 86 (0,0)))∧Aside0 (w'.heap[gb192]?=some (.cells #[.int .u32 ((t200) % 4294967296),.int .u64 t196,.int .i64 (wrap64 (t204)),.string t212,(.slice none 0 0)] 35 (0,0)))∧Aside0 (Below w.heap.size w w'))
         case atStart=>exact ⟨(y217),(0),(t213),(t214),(t215),(by first|rfl|(simp;done)|(simp [*];done)),H',⟨Nat.le_refl _⟩,⟨by (with_reducible repeat (first|apply Kd.R_alloc|apply Kd.R_drewN|apply Kd.R_drew));exact HO219.out⟩,⟨by (with_reducible repeat (first|refine blk_drewN ?_ _|refine blk_drew ?_|refine blk_alloc ?_ _));exact BK185.out⟩,⟨by (with_reducible repeat (first|refine blk_drewN ?_ _|refine blk_drew ?_|refine blk_alloc ?_ _));exact BK191.out⟩,⟨by (with_reducible repeat (first|refine blk_drewN ?_ _|refine blk_drew ?_|refine blk_alloc ?_ _));exact BK192.out⟩,⟨by repeat (first|(with_reducible first|exact HB.out|apply below_alloc|apply pw_below_drewN|apply below_drew1|refine below_set ?_ GE185.out|refine below_set ?_ GE191.out|refine below_set ?_ GE192.out)|exact HB.out)⟩⟩
         case round =>
          clear H'
          try clear c1
          try clear hcv1
          try clear c2
          try clear c2b0
          try clear c2b1
          try clear p2
          try clear c3
          try clear hcv3
          try clear c4
          try clear c5
          try clear c5b0
          try clear c5b1
          try clear p6
          try clear c8
          try clear c8b0
          try clear c8b1
          try clear c12
          try clear hcv12
          try clear c14
          try clear c14b0
          try clear c14b1
          try clear c15
          try clear c15b0
          try clear c15b1
          try clear c16
          try clear c16b0
          try clear c16b1
          try clear c17
          try clear c17b0
          try clear c17b1
          try clear c19
          try clear c19b0
          try clear c21
          try clear c21b0
          try clear c21b1
          try clear hcv31
          try clear c35
          try clear c36
          try clear c38
          try clear c39
          try clear c43
          try clear c44
          try clear c45
          try clear hcz13_0
          try clear hcz13_1
          try clear hcz13_2
          try clear hcz13_3
          try clear hcz13_4
          try clear hcz36_0
          try clear hcz36_1
          try clear hcz36_2
          try clear hcz40_0
          try clear hcz40_1
          try clear hcz40_2
          try clear hcz40_3
          try clear hcz40_4
          try clear hcz41_0
          try clear hcz41_1
          try clear hcz41_2
          try clear hcz43_0
          try clear hcz43_1
          try clear hcz43_2
          try clear hcz44_0
          try clear hcz44_1
          try clear hcz44_2
          try clear hcz44_3
          try clear hcz44_4
          try clear hcz46_0
          try clear hcz46_1
          try clear hcz46_2
          try clear hcz47_0
          try clear hcz47_1
          try clear hcz47_2
          try clear hcz47_3
          try clear hcz47_4
          try clear hcz49_0
          try clear hcz49_1
          try clear hcz49_2
          try clear hcz4_0
          try clear hcz4_1
          try clear hcz4_2
          try clear hcz4_3
          try clear hcz4_4
          try clear hcz50_0
          try clear hcz50_1
          try clear hcz50_2
          try clear hcz50_3
          try clear hcz50_4
          try clear hcz52_0
          try clear hcz52_1
          try clear hcz52_2
          try clear hcz54_0
          try clear hcz54_1
          try clear hcz54_2
          try clear hcz55_0
          try clear hcz55_1
          try clear hcz55_2
          try clear hcz55_3
          try clear hcz55_4
          try clear hcz57_0
          try clear hcz57_1
          try clear hcz57_2
          try clear hcz7_0
          try clear hcz7_1
          try clear hcz7_2
          try clear hcz7_3
          try clear hcz7_4
          try clear hfz13_0
          try clear hfz13_1
          try clear hfz13_2
          try clear hfz13_3
          try clear hfz13_4
          try clear hfz36_0
          try clear hfz36_1
          try clear hfz36_2
          try clear hfz40_0
          try clear hfz40_1
          try clear hfz40_2
          try clear hfz40_3
          try clear hfz40_4
          try clear hfz41_0
          try clear hfz41_1
          try clear hfz41_2
          try clear hfz43_0
          try clear hfz43_1
          try clear hfz43_2
          try clear hfz44_0
          try clear hfz44_1
          try clear hfz44_2
          try clear hfz44_3
          try clear hfz44_4
          try clear hfz46_0
          try clear hfz46_1
          try clear hfz46_2
          try clear hfz47_0
          try clear hfz47_1
          try clear hfz47_2
          try clear hfz47_3
          try clear hfz47_4
          try clear hfz49_0
          try clear hfz49_1
          try clear hfz49_2
          try clear hfz4_0
          try clear hfz4_1
          try clear hfz4_2
          try clear hfz4_3
          try clear hfz4_4
          try clear hfz50_0
          try clear hfz50_1
          try clear hfz50_2
          try clear hfz50_3
          try clear hfz50_4
          try clear hfz52_0
          try clear hfz52_1
          try clear hfz52_2
          try clear hfz54_0
          try clear hfz54_1
          try clear hfz54_2
          try clear hfz55_0
          try clear hfz55_1
          try clear hfz55_2
          try clear hfz55_3
          try clear hfz55_4
          try clear hfz57_0
          try clear hfz57_1
          try clear hfz57_2
          try clear hfz7_0
          try clear hfz7_1
          try clear hfz7_2
          try clear hfz7_3
          try clear hfz7_4
          obtain ⟨x7_1,x8_1,x192000_1,x192001_1,x192002_1,rfl,HA,HK1,HO_7,BK185,BK191,BK192,HB⟩:=hrel
          cases gk with
          | zero=>exact absurd HA.out (by simp [girderref03_Decode.l0])
          | succ k1 =>
           have H:=HA.out
           clear HA
           simp only [girderref03_Decode.l0] at H
           by_cases c60 : x8_1 < t216
           ·rw [if_pos c60] at H
            have c60b0 : decide (x8_1 < t216)=true:=decide_eq_true c60
            clear c60
            replace H:=Option.bind_eq_some_iff.mp H
            obtain ⟨⟨t220,t221,t222,t223⟩,A610,H⟩:=H
            replace H : (if x7_1.length < 17592186044416 then (girderref03_Decode.l0 k1 a0 t216 (x7_1 ++ [wrap64 (t223)]) (IntKind.u64.wrap (x8_1 + 1)) t220 t221 t222 ((t200) % 4294967296) t196 (wrap64 (t204)) t212) else (none))=some (r1,r2,r3,r4,r5,r6):=H
            have A61:=Aside0.mk A610
            clear A610
            by_cases c62 : x7_1.length < 17592186044416
            ·rw [if_pos c62] at H
             have LMc62:=Aside0.mk c62
             clear c62
             obtain ⟨y225,hy225⟩ : ∃ y_ : List Int,y_=(x7_1 ++ [wrap64 (t223)]):=⟨_,rfl⟩
             replace H : (girderref03_Decode.l0 k1 a0 t216 y225 (IntKind.u64.wrap (x8_1 + 1)) t220 t221 t222 ((t200) % 4294967296) t196 (wrap64 (t204)) t212)=some (r1,r2,r3,r4,r5,r6):=by first|(rw [hy225];with_reducible exact H)|(have H2_:=(Option.bind_some _ _).symm.trans H;rw [hy225];with_reducible exact H2_)|(have H2_:=(Option.bind_some _ _).symm.trans H;with_reducible exact H2_)|with_reducible exact H|(rw [hy225];exact H)|exact H
             have Ny225:=Aside0.mk hy225
             clear hy225
             have H':=Aside0.mk H
             clear H
             have hnb63:=NB191_185.out
             have hnc63:=NB185_191.out
             have hnb64:=NB191_192.out
             have hnc64:=NB192_191.out
             have hcz65_0 : wr.cell? ⟨gb191,0,none⟩=some (.string x192000_1):=(blk_cell BK191.out 0).trans rfl
             have hcz65_1 : wr.cell? ⟨gb191,1,none⟩=some (.int .i64 x192001_1):=(blk_cell BK191.out 1).trans rfl
             have hcz65_2 : wr.cell? ⟨gb191,2,none⟩=some (.int .i64 x192002_1):=(blk_cell BK191.out 2).trans rfl
             have hfz65_0:=blk_frozen BK191.out 0
             have hfz65_1:=blk_frozen BK191.out 1
             have hfz65_2:=blk_frozen BK191.out 2
             go_wp2_with (first|((with_reducible refine gate_callee (f:=44) rfl ?_);refine goesL_ (some 95) rfl rfl Try.func44 (by kernel_rfl) rfl #[.agg #[.string x192000_1,.int .i64 x192001_1,.int .i64 x192002_1],.int .i64 2] rfl (by (try simp only [List.map_toArray,List.map_cons,List.map_nil]);first|done|rfl|(simp only [List.length_drop,List.length_take];rfl)) ?_;(with_reducible refine (girderref01_Reader_Number.calls x192000_1 x192001_1 x192002_1 2 t220 t221 t222 t223 _ A61.out).mono ?_);rintro e w66 ⟨rfl,hb⟩;refine ⟨_,rfl,?_⟩;have n0_:=Aside0.mk (Kd.R_below (by (with_reducible repeat (first|apply Kd.R_alloc|apply Kd.R_drewN|apply Kd.R_drew));exact HO_7.out) hb);have n1_:=Aside0.mk (blk_below (g:=gb185) (o:=.cells #[.int .u32 0,.int .u64 0,.int .i64 0,.string (⟨#[]⟩ : ByteArray),.slice none 0 0] 35 (0,0)) (by (with_reducible repeat (first|refine blk_drewN ?_ _|refine blk_drew ?_|refine blk_alloc ?_ _));exact BK185.out) hb);have n2_:=Aside0.mk (blk_below (g:=gb191) (o:=.cells #[.string x192000_1,.int .i64 x192001_1,.int .i64 x192002_1] 86 (0,0)) (by (with_reducible repeat (first|refine blk_drewN ?_ _|refine blk_drew ?_|refine blk_alloc ?_ _));exact BK191.out) hb);have n3_:=Aside0.mk (blk_below (g:=gb192) (o:=.cells #[.int .u32 ((t200) % 4294967296),.int .u64 t196,.int .i64 (wrap64 (t204)),.string t212,.slice none 0 0] 35 (0,0)) (by (with_reducible repeat (first|refine blk_drewN ?_ _|refine blk_drew ?_|refine blk_alloc ?_ _));exact BK192.out) hb);have n4_:=Aside0.mk (below_step (by repeat (first|(with_reducible first|exact HB.out|apply below_alloc|apply pw_below_drewN|apply below_drew1|refine below_set ?_ GE185.out|refine below_set ?_ GE191.out|refine below_set ?_ GE192.out)|exact HB.out)) hb);clear HO_7;clear BK185;clear BK191;clear BK192;clear HB;have HO_7:=n0_;have BK185:=n1_;have BK191:=n2_;have BK192:=n3_;have HB:=n4_;clear n0_ n1_ n2_ n3_ n4_;(try clear hb);(try clear hb2);(try clear hk);(try clear hi))|((with_reducible refine gate_dst (N:=9) rfl ?_);refine box_event ?hg (N:=9) ?hd (cs:=#[.string (⟨#[]⟩ : ByteArray),.int .i64 0,.int .i64 0]) (t:=86) ?hr ?_;(case hd=>rfl);(case hg=>rfl);(case hr=>first|(go_simp;done)|(go_simp;rfl));intro gb224 hg w67 hbox hb;have n0_:=Aside0.mk (Kd.R_below (by (with_reducible repeat (first|apply Kd.R_alloc|apply Kd.R_drewN|apply Kd.R_drew));exact HO_7.out) hb);have n1_:=Aside0.mk (blk_below (g:=gb185) (o:=.cells #[.int .u32 0,.int .u64 0,.int .i64 0,.string (⟨#[]⟩ : ByteArray),.slice none 0 0] 35 (0,0)) (by (with_reducible repeat (first|refine blk_drewN ?_ _|refine blk_drew ?_|refine blk_alloc ?_ _));exact BK185.out) hb);have n2_:=Aside0.mk (blk_below (g:=gb191) (o:=.cells #[.string x192000_1,.int .i64 x192001_1,.int .i64 x192002_1] 86 (0,0)) (by (with_reducible repeat (first|refine blk_drewN ?_ _|refine blk_drew ?_|refine blk_alloc ?_ _));exact BK191.out) hb);have n3_:=Aside0.mk (blk_below (g:=gb192) (o:=.cells #[.int .u32 ((t200) % 4294967296),.int .u64 t196,.int .i64 (wrap64 (t204)),.string t212,.slice none 0 0] 35 (0,0)) (by (with_reducible repeat (first|refine blk_drewN ?_ _|refine blk_drew ?_|refine blk_alloc ?_ _));exact BK192.out) hb);have n4_:=Aside0.mk (below_step (by repeat (first|(with_reducible first|exact HB.out|apply below_alloc|apply pw_below_drewN|apply below_drew1|refine below_set ?_ GE185.out|refine below_set ?_ GE191.out|refine below_set ?_ GE192.out)|exact HB.out)) hb);have n5_:=Aside0.mk (hbox);have n6_:=Aside0.mk ((by rw [hg];exact (below_size (by repeat (first|(with_reducible first|exact HB.out|apply below_alloc|apply pw_below_drewN|apply below_drew1|refine below_set ?_ GE185.out|refine below_set ?_ GE191.out|refine below_set ?_ GE192.out)|exact HB.out))) : w.heap.size≤gb224));have n7_:=Aside0.mk ((by rw [hg];exact (below_size (by repeat (first|(with_reducible first|exact HB.out|apply below_alloc|apply pw_below_drewN|apply below_drew1|refine below_set ?_ GE185.out|refine below_set ?_ GE191.out|refine below_set ?_ GE192.out)|exact HB.out))) : w.heap.size≤gb224));have n8_:=Aside0.mk ((by rw [hg];exact Nat.ne_of_lt (blk_lt (g:=gb185) (o:=.cells #[.int .u32 0,.int .u64 0,.int .i64 0,.string (⟨#[]⟩ : ByteArray),.slice none 0 0] 35 (0,0)) (by (with_reducible repeat (first|refine blk_drewN ?_ _|refine blk_drew ?_|refine blk_alloc ?_ _));exact BK185.out)) : gb185≠gb224));have n9_:=Aside0.mk ((by rw [hg];exact Nat.ne_of_gt (blk_lt (g:=gb185) (o:=.cells #[.int .u32 0,.int .u64 0,.int .i64 0,.string (⟨#[]⟩ : ByteArray),.slice none 0 0] 35 (0,0)) (by (with_reducible repeat (first|refine blk_drewN ?_ _|refine blk_drew ?_|refine blk_alloc ?_ _));exact BK185.out)) : gb224≠gb185));have n10_:=Aside0.mk ((by rw [hg];exact Nat.ne_of_lt (blk_lt (g:=gb191) (o:=.cells #[.string x192000_1,.int .i64 x192001_1,.int .i64 x192002_1] 86 (0,0)) (by (with_reducible repeat (first|refine blk_drewN ?_ _|refine blk_drew ?_|refine blk_alloc ?_ _));exact BK191.out)) : gb191≠gb224));have n11_:=Aside0.mk ((by rw [hg];exact Nat.ne_of_gt (blk_lt (g:=gb191) (o:=.cells #[.string x192000_1,.int .i64 x192001_1,.int .i64 x192002_1] 86 (0,0)) (by (with_reducible repeat (first|refine blk_drewN ?_ _|refine blk_drew ?_|refine blk_alloc ?_ _));exact BK191.out)) : gb224≠gb191));have n12_:=Aside0.mk ((by rw [hg];exact Nat.ne_of_lt (blk_lt (g:=gb192) (o:=.cells #[.int .u32 ((t200) % 4294967296),.int .u64 t196,.int .i64 (wrap64 (t204)),.string t212,.slice none 0 0] 35 (0,0)) (by (with_reducible repeat (first|refine blk_drewN ?_ _|refine blk_drew ?_|refine blk_alloc ?_ _));exact BK192.out)) : gb192≠gb224));have n13_:=Aside0.mk ((by rw [hg];exact Nat.ne_of_gt (blk_lt (g:=gb192) (o:=.cells #[.int .u32 ((t200) % 4294967296),.int .u64 t196,.int .i64 (wrap64 (t204)),.string t212,.slice none 0 0] 35 (0,0)) (by (with_reducible repeat (first|refine blk_drewN ?_ _|refine blk_drew ?_|refine blk_alloc ?_ _));exact BK192.out)) : gb224≠gb192));clear HO_7;clear BK185;clear BK191;clear BK192;clear HB;have HO_7:=n0_;have BK185:=n1_;have BK191:=n2_;have BK192:=n3_;have HB:=n4_;have BK224:=n5_;have GW224:=n6_;have GE224:=n7_;have NB185_224:=n8_;have NB224_185:=n9_;have NB191_224:=n10_;have NB224_191:=n11_;have NB192_224:=n12_;have NB224_192:=n13_;clear n0_ n1_ n2_ n3_ n4_ n5_ n6_ n7_ n8_ n9_ n10_ n11_ n12_ n13_;clear hb hbox hg;have hnb68:=NB224_185.out;have hnc68:=NB185_224.out;have hnb69:=NB224_191.out;have hnc69:=NB191_224.out;have hnb70:=NB224_192.out;have hnc70:=NB192_224.out;have hcz71_0 : w67.cell? ⟨gb224,0,none⟩=some (.string (⟨#[]⟩ : ByteArray)):=(blk_cell BK224.out 0).trans rfl;have hcz71_1 : w67.cell? ⟨gb224,1,none⟩=some (.int .i64 0):=(blk_cell BK224.out 1).trans rfl;have hcz71_2 : w67.cell? ⟨gb224,2,none⟩=some (.int .i64 0):=(blk_cell BK224.out 2).trans rfl;have hfz71_0:=blk_frozen BK224.out 0;have hfz71_1:=blk_frozen BK224.out 1;have hfz71_2:=blk_frozen BK224.out 2;have hcz72_0 : w67.cell? ⟨gb191,0,none⟩=some (.string x192000_1):=(blk_cell BK191.out 0).trans rfl;have hcz72_1 : w67.cell? ⟨gb191,1,none⟩=some (.int .i64 x192001_1):=(blk_cell BK191.out 1).trans rfl;have hcz72_2 : w67.cell? ⟨gb191,2,none⟩=some (.int .i64 x192002_1):=(blk_cell BK191.out 2).trans rfl;have hfz72_0:=blk_frozen BK191.out 0;have hfz72_1:=blk_frozen BK191.out 1;have hfz72_2:=blk_frozen BK191.out 2)|((with_reducible refine gate_builtin (b:=.append) (xs:=#[.tmp 99,.tmp 102]) rfl ?_);at_builtin;refine Kd.R_append (Kd.int .i64) (w0:=w) w.heap.size rfl (.tmp 99) (.tmp 102) 82 3 (.int .i64 0) 8 rfl Try.underlying82 info3 rfl (by decide) (by omega) u7 x7_1 (wrap64 (t223)) [.int .i64 (wrap64 (t223))] (fun _=>True) (fun _=>False) rfl (by first|(go_simp;done)|(go_simp;rfl)) ?aP (fun _ hk=>hk.elim) ?aF ?aO ?aB ?aS ?aL ?_;(case aP=>exact rfl);(case aB=>exact (by repeat (first|(with_reducible first|exact HB.out|apply below_alloc|apply pw_below_drewN|apply below_drew1|refine below_set ?_ GE185.out|refine below_set ?_ GE191.out|refine below_set ?_ GE192.out|refine below_set ?_ GE224.out)|exact HB.out)));(case aF=>exact (fun _ _=>trivial));(case aO=>exact (by (with_reducible repeat (first|apply Kd.R_alloc|apply Kd.R_drewN|apply Kd.R_drew));exact Kd.R_mono (Kd.R_far (p:=⟨gb191,2,none⟩) (Kd.R_far (p:=⟨gb191,1,none⟩) (Kd.R_far (p:=⟨gb191,0,none⟩) (Kd.R_far (p:=⟨gb224,2,none⟩) (Kd.R_far (p:=⟨gb224,1,none⟩) (Kd.R_far (p:=⟨gb224,0,none⟩) (Kd.R_types (Kd.R_types HO_7.out BK224.out (by decide)) BK191.out (by decide)) (fun _ hk=>hk.1.2) (.string t220)) (fun _ hk=>hk.1.2) (.int .i64 t221)) (fun _ hk=>hk.1.2) (.int .i64 t222)) (fun _ hk=>hk.2) (.string t220)) (fun _ hk=>hk.2) (.int .i64 t221)) (fun _ hk=>hk.2) (.int .i64 t222)) (fun _ hk=>trivial)));(case aS=>exact (below_size (by repeat (first|(with_reducible first|exact HB.out|apply below_alloc|apply pw_below_drewN|apply below_drew1|refine below_set ?_ GE185.out|refine below_set ?_ GE191.out|refine below_set ?_ GE192.out|refine below_set ?_ GE224.out)|exact HB.out))));(case aL=>have:=LMc62.out;omega);intro v226 w73 ho hb hg hat;rw [← Ny225.out] at ho;have n0_:=Aside0.mk (blk_grown (g:=gb185) (o:=.cells #[.int .u32 0,.int .u64 0,.int .i64 0,.string (⟨#[]⟩ : ByteArray),.slice none 0 0] 35 (0,0)) (by (with_reducible repeat (first|refine blk_drewN ?_ _|refine blk_drew ?_|refine blk_alloc ?_ _));refine blk_far ?_ NB185_191.out _;(with_reducible repeat (first|refine blk_drewN ?_ _|refine blk_drew ?_|refine blk_alloc ?_ _));refine blk_far ?_ NB185_191.out _;(with_reducible repeat (first|refine blk_drewN ?_ _|refine blk_drew ?_|refine blk_alloc ?_ _));refine blk_far ?_ NB185_191.out _;(with_reducible repeat (first|refine blk_drewN ?_ _|refine blk_drew ?_|refine blk_alloc ?_ _));refine blk_far ?_ NB185_224.out _;(with_reducible repeat (first|refine blk_drewN ?_ _|refine blk_drew ?_|refine blk_alloc ?_ _));refine blk_far ?_ NB185_224.out _;(with_reducible repeat (first|refine blk_drewN ?_ _|refine blk_drew ?_|refine blk_alloc ?_ _));refine blk_far ?_ NB185_224.out _;(with_reducible repeat (first|refine blk_drewN ?_ _|refine blk_drew ?_|refine blk_alloc ?_ _));exact BK185.out) hg (Kd.R_ne HO_7.out BK185.out (by decide)));have n1_:=Aside0.mk (blk_grown (g:=gb191) (o:=.cells #[.string t220,.int .i64 t221,.int .i64 t222] 86 (0,0)) (by (with_reducible repeat (first|refine blk_drewN ?_ _|refine blk_drew ?_|refine blk_alloc ?_ _));refine blk_put (cs:=#[.string t220,.int .i64 t221,.int .i64 x192002_1]) ?_ 2 _ rfl;(with_reducible repeat (first|refine blk_drewN ?_ _|refine blk_drew ?_|refine blk_alloc ?_ _));refine blk_put (cs:=#[.string t220,.int .i64 x192001_1,.int .i64 x192002_1]) ?_ 1 _ rfl;(with_reducible repeat (first|refine blk_drewN ?_ _|refine blk_drew ?_|refine blk_alloc ?_ _));refine blk_put (cs:=#[.string x192000_1,.int .i64 x192001_1,.int .i64 x192002_1]) ?_ 0 _ rfl;(with_reducible repeat (first|refine blk_drewN ?_ _|refine blk_drew ?_|refine blk_alloc ?_ _));refine blk_far ?_ NB191_224.out _;(with_reducible repeat (first|refine blk_drewN ?_ _|refine blk_drew ?_|refine blk_alloc ?_ _));refine blk_far ?_ NB191_224.out _;(with_reducible repeat (first|refine blk_drewN ?_ _|refine blk_drew ?_|refine blk_alloc ?_ _));refine blk_far ?_ NB191_224.out _;(with_reducible repeat (first|refine blk_drewN ?_ _|refine blk_drew ?_|refine blk_alloc ?_ _));exact BK191.out) hg (Kd.R_ne HO_7.out BK191.out (by decide)));have n2_:=Aside0.mk (blk_grown (g:=gb192) (o:=.cells #[.int .u32 ((t200) % 4294967296),.int .u64 t196,.int .i64 (wrap64 (t204)),.string t212,.slice none 0 0] 35 (0,0)) (by (with_reducible repeat (first|refine blk_drewN ?_ _|refine blk_drew ?_|refine blk_alloc ?_ _));refine blk_far ?_ NB192_191.out _;(with_reducible repeat (first|refine blk_drewN ?_ _|refine blk_drew ?_|refine blk_alloc ?_ _));refine blk_far ?_ NB192_191.out _;(with_reducible repeat (first|refine blk_drewN ?_ _|refine blk_drew ?_|refine blk_alloc ?_ _));refine blk_far ?_ NB192_191.out _;(with_reducible repeat (first|refine blk_drewN ?_ _|refine blk_drew ?_|refine blk_alloc ?_ _));refine blk_far ?_ NB192_224.out _;(with_reducible repeat (first|refine blk_drewN ?_ _|refine blk_drew ?_|refine blk_alloc ?_ _));refine blk_far ?_ NB192_224.out _;(with_reducible repeat (first|refine blk_drewN ?_ _|refine blk_drew ?_|refine blk_alloc ?_ _));refine blk_far ?_ NB192_224.out _;(with_reducible repeat (first|refine blk_drewN ?_ _|refine blk_drew ?_|refine blk_alloc ?_ _));exact BK192.out) hg (Kd.R_ne HO_7.out BK192.out (by decide)));have n3_:=Aside0.mk (blk_grown (g:=gb224) (o:=.cells #[.string t220,.int .i64 t221,.int .i64 t222] 86 (0,0)) (by (with_reducible repeat (first|refine blk_drewN ?_ _|refine blk_drew ?_|refine blk_alloc ?_ _));refine blk_far ?_ NB224_191.out _;(with_reducible repeat (first|refine blk_drewN ?_ _|refine blk_drew ?_|refine blk_alloc ?_ _));refine blk_far ?_ NB224_191.out _;(with_reducible repeat (first|refine blk_drewN ?_ _|refine blk_drew ?_|refine blk_alloc ?_ _));refine blk_far ?_ NB224_191.out _;(with_reducible repeat (first|refine blk_drewN ?_ _|refine blk_drew ?_|refine blk_alloc ?_ _));refine blk_put (cs:=#[.string t220,.int .i64 t221,.int .i64 0]) ?_ 2 _ rfl;(with_reducible repeat (first|refine blk_drewN ?_ _|refine blk_drew ?_|refine blk_alloc ?_ _));refine blk_put (cs:=#[.string t220,.int .i64 0,.int .i64 0]) ?_ 1 _ rfl;(with_reducible repeat (first|refine blk_drewN ?_ _|refine blk_drew ?_|refine blk_alloc ?_ _));refine blk_put (cs:=#[.string (⟨#[]⟩ : ByteArray),.int .i64 0,.int .i64 0]) ?_ 0 _ rfl;(with_reducible repeat (first|refine blk_drewN ?_ _|refine blk_drew ?_|refine blk_alloc ?_ _));exact BK224.out) hg (Kd.R_ne HO_7.out BK224.out (by decide)));have n4_:=Aside0.mk (hb);have n5_:=Aside0.mk (ho);clear BK185;clear BK191;clear BK192;clear BK224;clear HB;clear HO_7;have BK185:=n0_;have BK191:=n1_;have BK192:=n2_;have BK224:=n3_;have HB:=n4_;have HO227:=n5_;clear n0_ n1_ n2_ n3_ n4_ n5_;clear ho hb hg hat))
             go_roundg k1
             case measure=>have:=HK1.out;omega
             case rel=>exact ⟨(y225),(IntKind.u64.wrap (x8_1 + 1)),(t220),(t221),(t222),(by first|rfl|(simp;done)|(simp [*];done)),H',⟨by have:=HK1.out;omega⟩,⟨by (with_reducible repeat (first|apply Kd.R_alloc|apply Kd.R_drewN|apply Kd.R_drew));exact HO227.out⟩,⟨by (with_reducible repeat (first|refine blk_drewN ?_ _|refine blk_drew ?_|refine blk_alloc ?_ _));exact BK185.out⟩,⟨by (with_reducible repeat (first|refine blk_drewN ?_ _|refine blk_drew ?_|refine blk_alloc ?_ _));exact BK191.out⟩,⟨by (with_reducible repeat (first|refine blk_drewN ?_ _|refine blk_drew ?_|refine blk_alloc ?_ _));exact BK192.out⟩,⟨by repeat (first|(with_reducible first|exact HB.out|apply below_alloc|apply pw_below_drewN|apply below_drew1|refine below_set ?_ GE185.out|refine below_set ?_ GE191.out|refine below_set ?_ GE192.out|refine below_set ?_ GE224.out)|exact HB.out)⟩⟩
            ·rw [if_neg c62] at H
             exact absurd H (by simp)
           ·rw [if_neg c60] at H
            have c60b0 : decide (x8_1 < t216)=false:=decide_eq_false c60
            clear c60
            have H':=Aside0.mk H
            clear H
            go_wp2
            go_loopg [11] k1 (fun kq v11 w'=>∃ (x11_2 : Int) (x192000_2 : ByteArray) (x192001_2 : Int) (x192002_2 : Int) (x193004_2 : List ByteArray) (u193004 : Value),v11=.int .i64 x11_2∧Aside0 (girderref03_Decode.l1 kq a0 x7_1 x11_2 x192000_2 x192001_2 x192002_2 ((t200) % 4294967296) t196 (wrap64 (t204)) t212 x193004_2=some (r1,r2,r3,r4,r5,r6))∧Aside0 (kq≤k1)∧Aside0 (Kd.R (Kd.int .i64) 3 w' w.heap.size (fun _=>True) u7 x7_1)∧Aside0 (Kd.R Kd.string 9 w' w.heap.size (fun _=>True) u193004 x193004_2)∧Aside0 (w'.heap[gb185]?=some (.cells #[.int .u32 0,.int .u64 0,.int .i64 0,.string (⟨#[]⟩ : ByteArray),(.slice none 0 0)] 35 (0,0)))∧Aside0 (w'.heap[gb191]?=some (.cells #[.string x192000_2,.int .i64 x192001_2,.int .i64 x192002_2] 86 (0,0)))∧Aside0 (w'.heap[gb192]?=some (.cells #[.int .u32 ((t200) % 4294967296),.int .u64 t196,.int .i64 (wrap64 (t204)),.string t212,u193004] 35 (0,0)))∧Aside0 (Below w.heap.size w w'))
            case atStart=>exact ⟨(0),(x192000_1),(x192001_1),(x192002_1),(([] : List ByteArray)),(.slice none 0 0),(by first|rfl|(simp;done)|(simp [*];done)),H',⟨Nat.le_refl _⟩,⟨by (with_reducible repeat (first|apply Kd.R_alloc|apply Kd.R_drewN|apply Kd.R_drew));exact HO_7.out⟩,⟨by first|exact Kd.R_nil _ _ _ _ _|exact Kd.N_nil _ _ _ _ _|exact Kd.V_nil _ _ _ _ _|exact Kd.Q_nil _ _ _ _ _|exact Kd.S_nil _ _ _ _ _⟩,⟨by (with_reducible repeat (first|refine blk_drewN ?_ _|refine blk_drew ?_|refine blk_alloc ?_ _));exact BK185.out⟩,⟨by (with_reducible repeat (first|refine blk_drewN ?_ _|refine blk_drew ?_|refine blk_alloc ?_ _));exact BK191.out⟩,⟨by (with_reducible repeat (first|refine blk_drewN ?_ _|refine blk_drew ?_|refine blk_alloc ?_ _));exact BK192.out⟩,⟨by repeat (first|(with_reducible first|exact HB.out|apply below_alloc|apply pw_below_drewN|apply below_drew1|refine below_set ?_ GE185.out|refine below_set ?_ GE191.out|refine below_set ?_ GE192.out)|exact HB.out)⟩⟩
            case round =>
             clear H'
             try clear c1
             try clear hcv1
             try clear c2
             try clear c2b0
             try clear c2b1
             try clear p2
             try clear c3
             try clear hcv3
             try clear c4
             try clear c5
             try clear c5b0
             try clear c5b1
             try clear c6
             try clear p6
             try clear c7
             try clear c8
             try clear c8b0
             try clear c8b1
             try clear c12
             try clear hcv12
             try clear c14
             try clear c14b0
             try clear c14b1
             try clear c15
             try clear c15b0
             try clear c15b1
             try clear c16
             try clear c16b0
             try clear c16b1
             try clear c17
             try clear c17b0
             try clear c17b1
             try clear c19
             try clear c19b0
             try clear c21
             try clear c21b0
             try clear c21b1
             try clear hcv31
             try clear c35
             try clear c36
             try clear c38
             try clear c39
             try clear c43
             try clear c44
             try clear c45
             try clear c60
             try clear c60b0
             try clear c62
             try clear c63
             try clear c64
             try clear p64
             try clear c68
             try clear c69
             try clear c70
             try clear hcz13_0
             try clear hcz13_1
             try clear hcz13_2
             try clear hcz13_3
             try clear hcz13_4
             try clear hcz36_0
             try clear hcz36_1
             try clear hcz36_2
             try clear hcz40_0
             try clear hcz40_1
             try clear hcz40_2
             try clear hcz40_3
             try clear hcz40_4
             try clear hcz41_0
             try clear hcz41_1
             try clear hcz41_2
             try clear hcz43_0
             try clear hcz43_1
             try clear hcz43_2
             try clear hcz44_0
             try clear hcz44_1
             try clear hcz44_2
             try clear hcz44_3
             try clear hcz44_4
             try clear hcz46_0
             try clear hcz46_1
             try clear hcz46_2
             try clear hcz47_0
             try clear hcz47_1
             try clear hcz47_2
             try clear hcz47_3
             try clear hcz47_4
             try clear hcz49_0
             try clear hcz49_1
             try clear hcz49_2
             try clear hcz4_0
             try clear hcz4_1
             try clear hcz4_2
             try clear hcz4_3
             try clear hcz4_4
             try clear hcz50_0
             try clear hcz50_1
             try clear hcz50_2
             try clear hcz50_3
             try clear hcz50_4
             try clear hcz52_0
             try clear hcz52_1
             try clear hcz52_2
             try clear hcz54_0
             try clear hcz54_1
             try clear hcz54_2
             try clear hcz55_0
             try clear hcz55_1
             try clear hcz55_2
             try clear hcz55_3
             try clear hcz55_4
             try clear hcz57_0
             try clear hcz57_1
             try clear hcz57_2
             try clear hcz65_0
             try clear hcz65_1
             try clear hcz65_2
             try clear hcz71_0
             try clear hcz71_1
             try clear hcz71_2
             try clear hcz72_0
             try clear hcz72_1
             try clear hcz72_2
             try clear hcz7_0
             try clear hcz7_1
             try clear hcz7_2
             try clear hcz7_3
             try clear hcz7_4
             try clear hfz13_0
             try clear hfz13_1
             try clear hfz13_2
             try clear hfz13_3
             try clear hfz13_4
             try clear hfz36_0
             try clear hfz36_1
             try clear hfz36_2
             try clear hfz40_0
             try clear hfz40_1
             try clear hfz40_2
             try clear hfz40_3
             try clear hfz40_4
             try clear hfz41_0
             try clear hfz41_1
             try clear hfz41_2
             try clear hfz43_0
             try clear hfz43_1
             try clear hfz43_2
             try clear hfz44_0
             try clear hfz44_1
             try clear hfz44_2
             try clear hfz44_3
             try clear hfz44_4
             try clear hfz46_0
             try clear hfz46_1
             try clear hfz46_2
             try clear hfz47_0
             try clear hfz47_1
             try clear hfz47_2
             try clear hfz47_3
             try clear hfz47_4
             try clear hfz49_0
             try clear hfz49_1
             try clear hfz49_2
             try clear hfz4_0
             try clear hfz4_1
             try clear hfz4_2
             try clear hfz4_3
             try clear hfz4_4
             try clear hfz50_0
             try clear hfz50_1
             try clear hfz50_2
             try clear hfz50_3
             try clear hfz50_4
             try clear hfz52_0
             try clear hfz52_1
             try clear hfz52_2
             try clear hfz54_0
             try clear hfz54_1
             try clear hfz54_2
             try clear hfz55_0
             try clear hfz55_1
             try clear hfz55_2
             try clear hfz55_3
             try clear hfz55_4
             try clear hfz57_0
             try clear hfz57_1
             try clear hfz57_2
             try clear hfz65_0
             try clear hfz65_1
             try clear hfz65_2
             try clear hfz71_0
             try clear hfz71_1
             try clear hfz71_2
             try clear hfz72_0
             try clear hfz72_1
             try clear hfz72_2
             try clear hfz7_0
             try clear hfz7_1
             try clear hfz7_2
             try clear hfz7_3
             try clear hfz7_4
             try clear p2
             try clear p6
             obtain ⟨x11_2,x192000_2,x192001_2,x192002_2,x193004_2,u193004,rfl,HA,HK2,HO_7,HO_193004,BK185,BK191,BK192,HB⟩:=hrel
             cases gk with
             | zero=>exact absurd HA.out (by simp [girderref03_Decode.l1])
             | succ k2 =>
              have H:=HA.out
              clear HA
              simp only [girderref03_Decode.l1] at H
              by_cases c74 : x11_2 < (x7_1.length : Int)
              ·rw [if_pos c74] at H
               have c74b0 : decide (x11_2 < (x7_1.length : Int))=true:=decide_eq_true c74
               clear c74
               by_cases c75 : 0≤x11_2
               ·rw [if_pos c75] at H
                have c75b0 : decide (0≤x11_2)=true:=decide_eq_true c75
                clear c75
                replace H:=Option.bind_eq_some_iff.mp H
                obtain ⟨⟨t229,t230,t231,t232⟩,A760,H⟩:=H
                replace H : (if x193004_2.length < 8796093022208 then (girderref03_Decode.l1 k2 a0 x7_1 (wrap64 (x11_2 + 1)) t229 t230 t231 ((t200) % 4294967296) t196 (wrap64 (t204)) t212 (x193004_2 ++ [t232])) else (none))=some (r1,r2,r3,r4,r5,r6):=H
                have A76:=Aside0.mk A760
                clear A760
                by_cases c77 : x193004_2.length < 8796093022208
                ·rw [if_pos c77] at H
                 have LMc77:=Aside0.mk c77
                 clear c77
                 obtain ⟨y234,hy234⟩ : ∃ y_ : List ByteArray,y_=(x193004_2 ++ [t232]):=⟨_,rfl⟩
                 replace H : (girderref03_Decode.l1 k2 a0 x7_1 (wrap64 (x11_2 + 1)) t229 t230 t231 ((t200) % 4294967296) t196 (wrap64 (t204)) t212 y234)=some (r1,r2,r3,r4,r5,r6):=by first|(rw [hy234];with_reducible exact H)|(have H2_:=(Option.bind_some _ _).symm.trans H;rw [hy234];with_reducible exact H2_)|(have H2_:=(Option.bind_some _ _).symm.trans H;with_reducible exact H2_)|with_reducible exact H|(rw [hy234];exact H)|exact H
                 have Ny234:=Aside0.mk hy234
                 clear hy234
                 have H':=Aside0.mk H
                 clear H
                 obtain ⟨Ao78,co78,eo78⟩:=Kd.R_slice HO_7.out
                 subst eo78
                 try go_wp2
                 have n0_:=Aside0.mk (Kd.R_drew HO_7.out)
                 have n1_:=Aside0.mk (Kd.R_drew HO_193004.out)
                 have n2_:=Aside0.mk (blk_drew BK185.out)
                 have n3_:=Aside0.mk (blk_drew BK191.out)
                 have n4_:=Aside0.mk (blk_drew BK192.out)
                 have n5_:=Aside0.mk (below_drew1 HB.out)
                 clear HO_7
                 clear HO_193004
                 clear BK185
                 clear BK191
                 clear BK192
                 clear HB
                 have HO_7:=n0_
                 have HO_193004:=n1_
                 have BK185:=n2_
                 have BK191:=n3_
                 have BK192:=n4_
                 have HB:=n5_
                 clear n0_ n1_ n2_ n3_ n4_ n5_
                 have p228 : 0≤(x11_2 : Int):=of_decide_eq_true (by first|(with_reducible assumption)|assumption)
                 have q228 : x11_2 < (x7_1.length : Int):=of_decide_eq_true (by first|(with_reducible assumption)|assumption)
                 obtain ⟨ad228,e228,hx228_0⟩:=Kd.at_int (Kd.R_reads' HO_7.out).2.2 x11_2 p228 q228
                 cases e228
                 replace p228:=eq_true p228
                 replace q228:=eq_true q228
                 refine start_ (n:=12) (S:=fun w'=>w'.cell? ⟨gb191,0,none⟩=some (.string x192000_2)∧w'.cell? ⟨gb191,1,none⟩=some (.int .i64 x192001_2)∧w'.cell? ⟨gb191,2,none⟩=some (.int .i64 x192002_2)∧w'.cell? (ad228.add (x11_2).toNat)=some (.int .i64 (rd x7_1 x11_2))) (ds:=[]) #[false,false,false,false,false,false,false,false,false,false,false,false] (by kernel_rfl) rfl rfl ⟨(blk_cell BK191.out 0).trans rfl,(blk_cell BK191.out 1).trans rfl,(blk_cell BK191.out 2).trans rfl,hx228_0⟩ (fun hHeld=>?_);refine with_tabW girderref03_Decode.tab32 girderref03_Decode.bits32 (fun HT_ HW_=>?_)
                 generalize wr.drew=w79 at HO_7 HO_193004 BK185 BK191 BK192 HB hx228_0 hHeld ⊢
                 refine pure_ (i:=1) (N:=some 112) (v:=?_) (a':=?_) #[false,true,false,false,false,false,false,false,false,false,false,false] rfl rfl (any_of HT_.out (by kernel_rfl)) (fun _ _ _ h=>h) (Or.inl ⟨by rfl,?_⟩) ?_ ?_
                 rotate_left
                 ·intro w'
                  go_simp
                  with_reducible rfl
                 rotate_left
                 ·simp only [Act.put,sA_,sB_,sC_,i64_w,i32_w]
                  rfl
                 refine pure_ (i:=2) (N:=some 113) (v:=?_) (a':=?_) #[false,true,true,false,false,false,false,false,false,false,false,false] rfl rfl (any_of HT_.out (by kernel_rfl)) (fun _ _ _ h=>h) (Or.inl ⟨by rfl,?_⟩) ?_ ?_
                 rotate_left
                 ·intro w'
                  go_simp
                  with_reducible rfl
                 rotate_left
                 ·simp only [Act.put,sA_,sB_,sC_,i64_w,i32_w]
                  rfl
                 refine pure_ (i:=3) (N:=some 114) (v:=?_) (a':=?_) #[false,true,true,true,false,false,false,false,false,false,false,false] rfl rfl (any_of HT_.out (by kernel_rfl)) (fun _ _ _ h=>h) (Or.inl ⟨by rfl,?_⟩) ?_ ?_
                 rotate_left
                 ·intro w'
                  go_simp
                  with_reducible rfl
                 rotate_left
                 ·simp only [Act.put,sA_,sB_,sC_,i64_w,i32_w]
                  rfl
                 refine take_ (i:=0) (N:=some 111) (v:=?_) (a':=?_) #[true,true,true,true,false,false,false,false,false,false,false,false] rfl rfl (take_ofW HT_.out HW_.out (by kernel_rfl)) (fun _ _ _ h=>h) (Or.inl ⟨by rfl,?_⟩) hHeld ?_ ?_
                 rotate_left
                 ·rintro w' ⟨s0,s1,s2,s3⟩
                  go_simp
                  with_reducible rfl
                 rotate_left
                 ·simp only [Act.put,sA_,sB_,sC_,i64_w,i32_w]
                  rfl
                 refine take_ (i:=4) (N:=some 115) (v:=?_) (a':=?_) #[true,true,true,true,true,false,false,false,false,false,false,false] rfl rfl (take_ofW HT_.out HW_.out (by kernel_rfl)) (fun _ _ _ h=>h) (Or.inl ⟨by rfl,?_⟩) hHeld ?_ ?_
                 rotate_left
                 ·rintro w' ⟨s0,s1,s2,s3⟩
                  go_simp
                  with_reducible rfl
                 rotate_left
                 ·simp only [Act.put,sA_,sB_,sC_,i64_w,i32_w]
                  rfl
                 refine join_ (σ:=Nat) 2 #[true,true,true,true,true,true,true,true,true,true,false,false] (fun s_=>[(116,.tuple #[.agg #[.string t229,.int .i64 t230,.int .i64 t231],.string t232]),(12,.pointer (some ⟨s_,0,none⟩)),(110,.tuple #[.agg #[.string t229,.int .i64 t230,.int .i64 t231],.string t232]),(117,.agg #[.string t229,.int .i64 t230,.int .i64 t231]),(118,.string t232)]) (fun s_ w'=>(w'.cell? ⟨gb191,0,none⟩=some (.string x192000_2)∧w'.cell? ⟨gb191,1,none⟩=some (.int .i64 x192001_2)∧w'.cell? ⟨gb191,2,none⟩=some (.int .i64 x192002_2)∧w'.cell? (ad228.add (x11_2).toNat)=some (.int .i64 (rd x7_1 x11_2)))∧(Kd.R Kd.string 9 w' w.heap.size (fun _=>True) u193004 x193004_2)∧(Kd.R (Kd.int .i64) 3 w' w.heap.size (fun _=>True) (.slice (some ad228) x7_1.length co78) x7_1)∧(w'.heap[gb185]?=some (.cells #[.int .u32 0,.int .u64 0,.int .i64 0,.string (⟨#[]⟩ : ByteArray),.slice none 0 0] 35 (0,0)))∧(w'.heap[gb191]?=some (.cells #[.string x192000_2,.int .i64 x192001_2,.int .i64 x192002_2] 86 (0,0)))∧(w'.heap[gb192]?=some (.cells #[.int .u32 ((t200) % 4294967296),.int .u64 t196,.int .i64 (wrap64 (t204)),.string t212,u193004] 35 (0,0)))∧(w'.heap[s_]?=some (.cells #[.string (⟨#[]⟩ : ByteArray),.int .i64 0,.int .i64 0] 86 (0,0)))∧(w.heap.size≤s_)∧(w.heap.size≤s_)∧(gb185≠s_)∧(s_≠gb185)∧(gb191≠s_)∧(s_≠gb191)∧(gb192≠s_)∧(s_≠gb192)∧(Below w.heap.size w w')) ?_ ?_
                 rotate_left
                 ·intro hCont
                  refine two_ (i:=5) (j:=9) (Ni:=some 116) (Nj:=some 12) #[true,true,true,true,true,true,false,false,false,false,false,false] #[true,true,true,true,true,false,false,false,false,true,false,false] rfl rfl rfl rfl (two_of HT_.out (by kernel_rfl)) (by decide) (by decide) (fun K hK=>?_) (fun K hK=>?_)
                  ·skip
                   refine goes_ Try.func45 (by kernel_rfl) rfl #[.agg #[.string x192000_2,.int .i64 x192001_2,.int .i64 x192002_2],.int .i64 (rd x7_1 x11_2)] (by rfl) rfl rfl (by (try simp only [List.map_toArray,List.map_cons,List.map_nil]);first|done|rfl|(simp only [List.length_drop,List.length_take];rfl)) ?_
                   with_reducible refine (girderref01_Reader_Take.calls x192000_2 x192001_2 x192002_2 (rd x7_1 x11_2) t229 t230 t231 t232 _ A76.out).mono ?_
                   rintro e w80 ⟨rfl,hb⟩
                   have HS3_:=(hb.cell (World.block_lt_of_cell? _ _ (hHeld.2.2.2))).trans (hHeld.2.2.2)
                   refine ⟨_,rfl,?_⟩
                   have n0_:=Aside0.mk (Kd.R_below (by (with_reducible repeat (first|apply Kd.R_alloc|apply Kd.R_drewN|apply Kd.R_drew));exact HO_7.out) hb)
                   have n1_:=Aside0.mk (Kd.R_below (by (with_reducible repeat (first|apply Kd.R_alloc|apply Kd.R_drewN|apply Kd.R_drew));exact HO_193004.out) hb)
                   have n2_:=Aside0.mk (blk_below (g:=gb185) (o:=.cells #[.int .u32 0,.int .u64 0,.int .i64 0,.string (⟨#[]⟩ : ByteArray),.slice none 0 0] 35 (0,0)) (by (with_reducible repeat (first|refine blk_drewN ?_ _|refine blk_drew ?_|refine blk_alloc ?_ _));exact BK185.out) hb)
                   have n3_:=Aside0.mk (blk_below (g:=gb191) (o:=.cells #[.string x192000_2,.int .i64 x192001_2,.int .i64 x192002_2] 86 (0,0)) (by (with_reducible repeat (first|refine blk_drewN ?_ _|refine blk_drew ?_|refine blk_alloc ?_ _));exact BK191.out) hb)
                   have n4_:=Aside0.mk (blk_below (g:=gb192) (o:=.cells #[.int .u32 ((t200) % 4294967296),.int .u64 t196,.int .i64 (wrap64 (t204)),.string t212,u193004] 35 (0,0)) (by (with_reducible repeat (first|refine blk_drewN ?_ _|refine blk_drew ?_|refine blk_alloc ?_ _));exact BK192.out) hb)
                   have n5_:=Aside0.mk (below_step (by repeat (first|(with_reducible first|exact HB.out|apply below_alloc|apply pw_below_drewN|apply below_drew1|refine below_set ?_ GE185.out|refine below_set ?_ GE191.out|refine below_set ?_ GE192.out)|exact HB.out)) hb)
                   clear HO_7
                   clear HO_193004
                   clear BK185
                   clear BK191
                   clear BK192
                   clear HB
                   have HO_7:=n0_
                   have HO_193004:=n1_
                   have BK185:=n2_
                   have BK191:=n3_
                   have BK192:=n4_
                   have HB:=n5_
                   clear n0_ n1_ n2_ n3_ n4_ n5_
                   (try clear hb)
                   (try clear hb2)
                   (try clear hk)
                   (try clear hi)
                   refine hK.out _ _ ⟨(blk_cell BK191.out 0).trans rfl,(blk_cell BK191.out 1).trans rfl,(blk_cell BK191.out 2).trans rfl,HS3_⟩ (fun hHeld=>?_)
                   clear hK K
                   refine norm_ (a':=?_) ?_ ?_
                   rotate_left
                   ·show Act.put _ (some 116) _=_
                    simp only [Act.put,sA_,sB_,sC_,i64_w,i32_w]
                    rfl
                   refine pure_ (i:=6) (N:=some 110) (v:=?_) (a':=?_) #[true,true,true,true,true,true,true,false,false,false,false,false] rfl rfl (any_of HT_.out (by kernel_rfl)) (fun _ _ _ h=>h) (Or.inl ⟨by rfl,?_⟩) ?_ ?_
                   rotate_left
                   ·intro w'
                    go_simp
                    with_reducible rfl
                   rotate_left
                   ·simp only [Act.put,sA_,sB_,sC_,i64_w,i32_w]
                    rfl
                   refine pure_ (i:=7) (N:=some 117) (v:=?_) (a':=?_) #[true,true,true,true,true,true,true,true,false,false,false,false] rfl rfl (any_of HT_.out (by kernel_rfl)) (fun _ _ _ h=>h) (Or.inl ⟨by rfl,?_⟩) ?_ ?_
                   rotate_left
                   ·intro w'
                    go_simp
                    with_reducible rfl
                   rotate_left
                   ·simp only [Act.put,sA_,sB_,sC_,i64_w,i32_w]
                    rfl
                   refine pure_ (i:=8) (N:=some 118) (v:=?_) (a':=?_) #[true,true,true,true,true,true,true,true,true,false,false,false] rfl rfl (any_of HT_.out (by kernel_rfl)) (fun _ _ _ h=>h) (Or.inl ⟨by rfl,?_⟩) ?_ ?_
                   rotate_left
                   ·intro w'
                    go_simp
                    with_reducible rfl
                   rotate_left
                   ·simp only [Act.put,sA_,sB_,sC_,i64_w,i32_w]
                    rfl
                   refine one_ (i:=9) (N:=some 12) #[true,true,true,true,true,true,true,true,true,true,false,false] rfl rfl (one_of HT_.out (by kernel_rfl)) (by decide) (fun K hK=>?_)
                   refine box_step ?hg (N:=12) ?hd (cs:=#[.string (⟨#[]⟩ : ByteArray),.int .i64 0,.int .i64 0]) (t:=86) ?hr ?_;(case hd=>rfl);(case hg=>rfl);(case hr=>first|(go_simp;done)|(go_simp;rfl))
                   intro gb233 hg w81 hbox hb
                   have HS3_:=(hb.cell (World.block_lt_of_cell? _ _ (hHeld.2.2.2))).trans (hHeld.2.2.2)
                   have n0_:=Aside0.mk (Kd.R_below (by (with_reducible repeat (first|apply Kd.R_alloc|apply Kd.R_drewN|apply Kd.R_drew));exact HO_7.out) hb)
                   have n1_:=Aside0.mk (Kd.R_below (by (with_reducible repeat (first|apply Kd.R_alloc|apply Kd.R_drewN|apply Kd.R_drew));exact HO_193004.out) hb)
                   have n2_:=Aside0.mk (blk_below (g:=gb185) (o:=.cells #[.int .u32 0,.int .u64 0,.int .i64 0,.string (⟨#[]⟩ : ByteArray),.slice none 0 0] 35 (0,0)) (by (with_reducible repeat (first|refine blk_drewN ?_ _|refine blk_drew ?_|refine blk_alloc ?_ _));exact BK185.out) hb)
                   have n3_:=Aside0.mk (blk_below (g:=gb191) (o:=.cells #[.string x192000_2,.int .i64 x192001_2,.int .i64 x192002_2] 86 (0,0)) (by (with_reducible repeat (first|refine blk_drewN ?_ _|refine blk_drew ?_|refine blk_alloc ?_ _));exact BK191.out) hb)
                   have n4_:=Aside0.mk (blk_below (g:=gb192) (o:=.cells #[.int .u32 ((t200) % 4294967296),.int .u64 t196,.int .i64 (wrap64 (t204)),.string t212,u193004] 35 (0,0)) (by (with_reducible repeat (first|refine blk_drewN ?_ _|refine blk_drew ?_|refine blk_alloc ?_ _));exact BK192.out) hb)
                   have n5_:=Aside0.mk (below_step (by repeat (first|(with_reducible first|exact HB.out|apply below_alloc|apply pw_below_drewN|apply below_drew1|refine below_set ?_ GE185.out|refine below_set ?_ GE191.out|refine below_set ?_ GE192.out)|exact HB.out)) hb)
                   have n6_:=Aside0.mk (hbox)
                   have n7_:=Aside0.mk ((by rw [hg];exact (below_size (by repeat (first|(with_reducible first|exact HB.out|apply below_alloc|apply pw_below_drewN|apply below_drew1|refine below_set ?_ GE185.out|refine below_set ?_ GE191.out|refine below_set ?_ GE192.out)|exact HB.out))) : w.heap.size≤gb233))
                   have n8_:=Aside0.mk ((by rw [hg];exact (below_size (by repeat (first|(with_reducible first|exact HB.out|apply below_alloc|apply pw_below_drewN|apply below_drew1|refine below_set ?_ GE185.out|refine below_set ?_ GE191.out|refine below_set ?_ GE192.out)|exact HB.out))) : w.heap.size≤gb233))
                   have n9_:=Aside0.mk ((by rw [hg];exact Nat.ne_of_lt (blk_lt (g:=gb185) (o:=.cells #[.int .u32 0,.int .u64 0,.int .i64 0,.string (⟨#[]⟩ : ByteArray),.slice none 0 0] 35 (0,0)) (by (with_reducible repeat (first|refine blk_drewN ?_ _|refine blk_drew ?_|refine blk_alloc ?_ _));exact BK185.out)) : gb185≠gb233))
                   have n10_:=Aside0.mk ((by rw [hg];exact Nat.ne_of_gt (blk_lt (g:=gb185) (o:=.cells #[.int .u32 0,.int .u64 0,.int .i64 0,.string (⟨#[]⟩ : ByteArray),.slice none 0 0] 35 (0,0)) (by (with_reducible repeat (first|refine blk_drewN ?_ _|refine blk_drew ?_|refine blk_alloc ?_ _));exact BK185.out)) : gb233≠gb185))
                   have n11_:=Aside0.mk ((by rw [hg];exact Nat.ne_of_lt (blk_lt (g:=gb191) (o:=.cells #[.string x192000_2,.int .i64 x192001_2,.int .i64 x192002_2] 86 (0,0)) (by (with_reducible repeat (first|refine blk_drewN ?_ _|refine blk_drew ?_|refine blk_alloc ?_ _));exact BK191.out)) : gb191≠gb233))
                   have n12_:=Aside0.mk ((by rw [hg];exact Nat.ne_of_gt (blk_lt (g:=gb191) (o:=.cells #[.string x192000_2,.int .i64 x192001_2,.int .i64 x192002_2] 86 (0,0)) (by (with_reducible repeat (first|refine blk_drewN ?_ _|refine blk_drew ?_|refine blk_alloc ?_ _));exact BK191.out)) : gb233≠gb191))
                   have n13_:=Aside0.mk ((by rw [hg];exact Nat.ne_of_lt (blk_lt (g:=gb192) (o:=.cells #[.int .u32 ((t200) % 4294967296),.int .u64 t196,.int .i64 (wrap64 (t204)),.string t212,u193004] 35 (0,0)) (by (with_reducible repeat (first|refine blk_drewN ?_ _|refine blk_drew ?_|refine blk_alloc ?_ _));exact BK192.out)) : gb192≠gb233))
                   have n14_:=Aside0.mk ((by rw [hg];exact Nat.ne_of_gt (blk_lt (g:=gb192) (o:=.cells #[.int .u32 ((t200) % 4294967296),.int .u64 t196,.int .i64 (wrap64 (t204)),.string t212,u193004] 35 (0,0)) (by (with_reducible repeat (first|refine blk_drewN ?_ _|refine blk_drew ?_|refine blk_alloc ?_ _));exact BK192.out)) : gb233≠gb192))
                   clear HO_7
                   clear HO_193004
                   clear BK185
                   clear BK191
                   clear BK192
                   clear HB
                   have HO_7:=n0_
                   have HO_193004:=n1_
                   have BK185:=n2_
                   have BK191:=n3_
                   have BK192:=n4_
                   have HB:=n5_
                   have BK233:=n6_
                   have GW233:=n7_
                   have GE233:=n8_
                   have NB185_233:=n9_
                   have NB233_185:=n10_
                   have NB191_233:=n11_
                   have NB233_191:=n12_
                   have NB192_233:=n13_
                   have NB233_192:=n14_
                   clear n0_ n1_ n2_ n3_ n4_ n5_ n6_ n7_ n8_ n9_ n10_ n11_ n12_ n13_ n14_
                   clear hb hbox hg
                   refine hK.out _ _ ⟨(blk_cell BK191.out 0).trans rfl,(blk_cell BK191.out 1).trans rfl,(blk_cell BK191.out 2).trans rfl,HS3_⟩ (fun hHeld=>?_)
                   clear hK K
                   refine norm_ (a':=?_) ?_ ?_
                   rotate_left
                   ·show Act.put _ (some 12) _=_
                    simp only [Act.put,sA_,sB_,sC_,i64_w,i32_w]
                    rfl
                   exact norm_ (by simp only [putAll,Act.put,sA_,sB_,sC_]) (hCont (gb233) _ ⟨hHeld,(by (with_reducible repeat (first|apply Kd.R_alloc|apply Kd.R_drewN|apply Kd.R_drew));exact HO_193004.out),(by (with_reducible repeat (first|apply Kd.R_alloc|apply Kd.R_drewN|apply Kd.R_drew));exact HO_7.out),(by (with_reducible repeat (first|refine blk_drewN ?_ _|refine blk_drew ?_|refine blk_alloc ?_ _));exact BK185.out),(by (with_reducible repeat (first|refine blk_drewN ?_ _|refine blk_drew ?_|refine blk_alloc ?_ _));exact BK191.out),(by (with_reducible repeat (first|refine blk_drewN ?_ _|refine blk_drew ?_|refine blk_alloc ?_ _));exact BK192.out),(by (with_reducible repeat (first|refine blk_drewN ?_ _|refine blk_drew ?_|refine blk_alloc ?_ _));exact BK233.out),GW233.out,GE233.out,NB185_233.out,NB233_185.out,NB191_233.out,NB233_191.out,NB192_233.out,NB233_192.out,(by repeat (first|(with_reducible first|exact HB.out|apply below_alloc|apply pw_below_drewN|apply below_drew1|refine below_set ?_ GE185.out|refine below_set ?_ GE191.out|refine below_set ?_ GE192.out|refine below_set ?_ GE233.out)|exact HB.out))⟩)
                  ·skip
                   refine box_step ?hg (N:=12) ?hd (cs:=#[.string (⟨#[]⟩ : ByteArray),.int .i64 0,.int .i64 0]) (t:=86) ?hr ?_;(case hd=>rfl);(case hg=>rfl);(case hr=>first|(go_simp;done)|(go_simp;rfl))
                   intro gb233 hg w80 hbox hb
                   have HS3_:=(hb.cell (World.block_lt_of_cell? _ _ (hHeld.2.2.2))).trans (hHeld.2.2.2)
                   have n0_:=Aside0.mk (Kd.R_below (by (with_reducible repeat (first|apply Kd.R_alloc|apply Kd.R_drewN|apply Kd.R_drew));exact HO_7.out) hb)
                   have n1_:=Aside0.mk (Kd.R_below (by (with_reducible repeat (first|apply Kd.R_alloc|apply Kd.R_drewN|apply Kd.R_drew));exact HO_193004.out) hb)
                   have n2_:=Aside0.mk (blk_below (g:=gb185) (o:=.cells #[.int .u32 0,.int .u64 0,.int .i64 0,.string (⟨#[]⟩ : ByteArray),.slice none 0 0] 35 (0,0)) (by (with_reducible repeat (first|refine blk_drewN ?_ _|refine blk_drew ?_|refine blk_alloc ?_ _));exact BK185.out) hb)
                   have n3_:=Aside0.mk (blk_below (g:=gb191) (o:=.cells #[.string x192000_2,.int .i64 x192001_2,.int .i64 x192002_2] 86 (0,0)) (by (with_reducible repeat (first|refine blk_drewN ?_ _|refine blk_drew ?_|refine blk_alloc ?_ _));exact BK191.out) hb)
                   have n4_:=Aside0.mk (blk_below (g:=gb192) (o:=.cells #[.int .u32 ((t200) % 4294967296),.int .u64 t196,.int .i64 (wrap64 (t204)),.string t212,u193004] 35 (0,0)) (by (with_reducible repeat (first|refine blk_drewN ?_ _|refine blk_drew ?_|refine blk_alloc ?_ _));exact BK192.out) hb)
                   have n5_:=Aside0.mk (below_step (by repeat (first|(with_reducible first|exact HB.out|apply below_alloc|apply pw_below_drewN|apply below_drew1|refine below_set ?_ GE185.out|refine below_set ?_ GE191.out|refine below_set ?_ GE192.out)|exact HB.out)) hb)
                   have n6_:=Aside0.mk (hbox)
                   have n7_:=Aside0.mk ((by rw [hg];exact (below_size (by repeat (first|(with_reducible first|exact HB.out|apply below_alloc|apply pw_below_drewN|apply below_drew1|refine below_set ?_ GE185.out|refine below_set ?_ GE191.out|refine below_set ?_ GE192.out)|exact HB.out))) : w.heap.size≤gb233))
                   have n8_:=Aside0.mk ((by rw [hg];exact (below_size (by repeat (first|(with_reducible first|exact HB.out|apply below_alloc|apply pw_below_drewN|apply below_drew1|refine below_set ?_ GE185.out|refine below_set ?_ GE191.out|refine below_set ?_ GE192.out)|exact HB.out))) : w.heap.size≤gb233))
                   have n9_:=Aside0.mk ((by rw [hg];exact Nat.ne_of_lt (blk_lt (g:=gb185) (o:=.cells #[.int .u32 0,.int .u64 0,.int .i64 0,.string (⟨#[]⟩ : ByteArray),.slice none 0 0] 35 (0,0)) (by (with_reducible repeat (first|refine blk_drewN ?_ _|refine blk_drew ?_|refine blk_alloc ?_ _));exact BK185.out)) : gb185≠gb233))
                   have n10_:=Aside0.mk ((by rw [hg];exact Nat.ne_of_gt (blk_lt (g:=gb185) (o:=.cells #[.int .u32 0,.int .u64 0,.int .i64 0,.string (⟨#[]⟩ : ByteArray),.slice none 0 0] 35 (0,0)) (by (with_reducible repeat (first|refine blk_drewN ?_ _|refine blk_drew ?_|refine blk_alloc ?_ _));exact BK185.out)) : gb233≠gb185))
                   have n11_:=Aside0.mk ((by rw [hg];exact Nat.ne_of_lt (blk_lt (g:=gb191) (o:=.cells #[.string x192000_2,.int .i64 x192001_2,.int .i64 x192002_2] 86 (0,0)) (by (with_reducible repeat (first|refine blk_drewN ?_ _|refine blk_drew ?_|refine blk_alloc ?_ _));exact BK191.out)) : gb191≠gb233))
                   have n12_:=Aside0.mk ((by rw [hg];exact Nat.ne_of_gt (blk_lt (g:=gb191) (o:=.cells #[.string x192000_2,.int .i64 x192001_2,.int .i64 x192002_2] 86 (0,0)) (by (with_reducible repeat (first|refine blk_drewN ?_ _|refine blk_drew ?_|refine blk_alloc ?_ _));exact BK191.out)) : gb233≠gb191))
                   have n13_:=Aside0.mk ((by rw [hg];exact Nat.ne_of_lt (blk_lt (g:=gb192) (o:=.cells #[.int .u32 ((t200) % 4294967296),.int .u64 t196,.int .i64 (wrap64 (t204)),.string t212,u193004] 35 (0,0)) (by (with_reducible repeat (first|refine blk_drewN ?_ _|refine blk_drew ?_|refine blk_alloc ?_ _));exact BK192.out)) : gb192≠gb233))
                   have n14_:=Aside0.mk ((by rw [hg];exact Nat.ne_of_gt (blk_lt (g:=gb192) (o:=.cells #[.int .u32 ((t200) % 4294967296),.int .u64 t196,.int .i64 (wrap64 (t204)),.string t212,u193004] 35 (0,0)) (by (with_reducible repeat (first|refine blk_drewN ?_ _|refine blk_drew ?_|refine blk_alloc ?_ _));exact BK192.out)) : gb233≠gb192))
                   clear HO_7
                   clear HO_193004
                   clear BK185
                   clear BK191
                   clear BK192
                   clear HB
                   have HO_7:=n0_
                   have HO_193004:=n1_
                   have BK185:=n2_
                   have BK191:=n3_
                   have BK192:=n4_
                   have HB:=n5_
                   have BK233:=n6_
                   have GW233:=n7_
                   have GE233:=n8_
                   have NB185_233:=n9_
                   have NB233_185:=n10_
                   have NB191_233:=n11_
                   have NB233_191:=n12_
                   have NB192_233:=n13_
                   have NB233_192:=n14_
                   clear n0_ n1_ n2_ n3_ n4_ n5_ n6_ n7_ n8_ n9_ n10_ n11_ n12_ n13_ n14_
                   clear hb hbox hg
                   refine hK.out _ _ ⟨(blk_cell BK191.out 0).trans rfl,(blk_cell BK191.out 1).trans rfl,(blk_cell BK191.out 2).trans rfl,HS3_⟩ (fun hHeld=>?_)
                   clear hK K
                   refine norm_ (a':=?_) ?_ ?_
                   rotate_left
                   ·show Act.put _ (some 12) _=_
                    simp only [Act.put,sA_,sB_,sC_,i64_w,i32_w]
                    rfl
                   refine one_ (i:=5) (N:=some 116) #[true,true,true,true,true,true,false,false,false,true,false,false] rfl rfl (one_of HT_.out (by kernel_rfl)) (by decide) (fun K hK=>?_)
                   refine goes_ Try.func45 (by kernel_rfl) rfl #[.agg #[.string x192000_2,.int .i64 x192001_2,.int .i64 x192002_2],.int .i64 (rd x7_1 x11_2)] (by rfl) rfl rfl (by (try simp only [List.map_toArray,List.map_cons,List.map_nil]);first|done|rfl|(simp only [List.length_drop,List.length_take];rfl)) ?_
                   with_reducible refine (girderref01_Reader_Take.calls x192000_2 x192001_2 x192002_2 (rd x7_1 x11_2) t229 t230 t231 t232 _ A76.out).mono ?_
                   rintro e w81 ⟨rfl,hb⟩
                   have HS3_:=(hb.cell (World.block_lt_of_cell? _ _ (hHeld.2.2.2))).trans (hHeld.2.2.2)
                   refine ⟨_,rfl,?_⟩
                   have n0_:=Aside0.mk (Kd.R_below (by (with_reducible repeat (first|apply Kd.R_alloc|apply Kd.R_drewN|apply Kd.R_drew));exact HO_7.out) hb)
                   have n1_:=Aside0.mk (Kd.R_below (by (with_reducible repeat (first|apply Kd.R_alloc|apply Kd.R_drewN|apply Kd.R_drew));exact HO_193004.out) hb)
                   have n2_:=Aside0.mk (blk_below (g:=gb185) (o:=.cells #[.int .u32 0,.int .u64 0,.int .i64 0,.string (⟨#[]⟩ : ByteArray),.slice none 0 0] 35 (0,0)) (by (with_reducible repeat (first|refine blk_drewN ?_ _|refine blk_drew ?_|refine blk_alloc ?_ _));exact BK185.out) hb)
                   have n3_:=Aside0.mk (blk_below (g:=gb191) (o:=.cells #[.string x192000_2,.int .i64 x192001_2,.int .i64 x192002_2] 86 (0,0)) (by (with_reducible repeat (first|refine blk_drewN ?_ _|refine blk_drew ?_|refine blk_alloc ?_ _));exact BK191.out) hb)
                   have n4_:=Aside0.mk (blk_below (g:=gb192) (o:=.cells #[.int .u32 ((t200) % 4294967296),.int .u64 t196,.int .i64 (wrap64 (t204)),.string t212,u193004] 35 (0,0)) (by (with_reducible repeat (first|refine blk_drewN ?_ _|refine blk_drew ?_|refine blk_alloc ?_ _));exact BK192.out) hb)
                   have n5_:=Aside0.mk (blk_below (g:=gb233) (o:=.cells #[.string (⟨#[]⟩ : ByteArray),.int .i64 0,.int .i64 0] 86 (0,0)) (by (with_reducible repeat (first|refine blk_drewN ?_ _|refine blk_drew ?_|refine blk_alloc ?_ _));exact BK233.out) hb)
                   have n6_:=Aside0.mk (below_step (by repeat (first|(with_reducible first|exact HB.out|apply below_alloc|apply pw_below_drewN|apply below_drew1|refine below_set ?_ GE185.out|refine below_set ?_ GE191.out|refine below_set ?_ GE192.out|refine below_set ?_ GE233.out)|exact HB.out)) hb)
                   clear HO_7
                   clear HO_193004
                   clear BK185
                   clear BK191
                   clear BK192
                   clear BK233
                   clear HB
                   have HO_7:=n0_
                   have HO_193004:=n1_
                   have BK185:=n2_
                   have BK191:=n3_
                   have BK192:=n4_
                   have BK233:=n5_
                   have HB:=n6_
                   clear n0_ n1_ n2_ n3_ n4_ n5_ n6_
                   (try clear hb)
                   (try clear hb2)
                   (try clear hk)
                   (try clear hi)
                   refine hK.out _ _ ⟨(blk_cell BK191.out 0).trans rfl,(blk_cell BK191.out 1).trans rfl,(blk_cell BK191.out 2).trans rfl,HS3_⟩ (fun hHeld=>?_)
                   clear hK K
                   refine norm_ (a':=?_) ?_ ?_
                   rotate_left
                   ·show Act.put _ (some 116) _=_
                    simp only [Act.put,sA_,sB_,sC_,i64_w,i32_w]
                    rfl
                   refine pure_ (i:=6) (N:=some 110) (v:=?_) (a':=?_) #[true,true,true,true,true,true,true,false,false,true,false,false] rfl rfl (any_of HT_.out (by kernel_rfl)) (fun _ _ _ h=>h) (Or.inl ⟨by rfl,?_⟩) ?_ ?_
                   rotate_left
                   ·intro w'
                    go_simp
                    with_reducible rfl
                   rotate_left
                   ·simp only [Act.put,sA_,sB_,sC_,i64_w,i32_w]
                    rfl
                   refine pure_ (i:=7) (N:=some 117) (v:=?_) (a':=?_) #[true,true,true,true,true,true,true,true,false,true,false,false] rfl rfl (any_of HT_.out (by kernel_rfl)) (fun _ _ _ h=>h) (Or.inl ⟨by rfl,?_⟩) ?_ ?_
                   rotate_left
                   ·intro w'
                    go_simp
                    with_reducible rfl
                   rotate_left
                   ·simp only [Act.put,sA_,sB_,sC_,i64_w,i32_w]
                    rfl
                   refine pure_ (i:=8) (N:=some 118) (v:=?_) (a':=?_) #[true,true,true,true,true,true,true,true,true,true,false,false] rfl rfl (any_of HT_.out (by kernel_rfl)) (fun _ _ _ h=>h) (Or.inl ⟨by rfl,?_⟩) ?_ ?_
                   rotate_left
                   ·intro w'
                    go_simp
                    with_reducible rfl
                   rotate_left
                   ·simp only [Act.put,sA_,sB_,sC_,i64_w,i32_w]
                    rfl
                   exact norm_ (by simp only [putAll,Act.put,sA_,sB_,sC_]) (hCont (gb233) _ ⟨hHeld,(by (with_reducible repeat (first|apply Kd.R_alloc|apply Kd.R_drewN|apply Kd.R_drew));exact HO_193004.out),(by (with_reducible repeat (first|apply Kd.R_alloc|apply Kd.R_drewN|apply Kd.R_drew));exact HO_7.out),(by (with_reducible repeat (first|refine blk_drewN ?_ _|refine blk_drew ?_|refine blk_alloc ?_ _));exact BK185.out),(by (with_reducible repeat (first|refine blk_drewN ?_ _|refine blk_drew ?_|refine blk_alloc ?_ _));exact BK191.out),(by (with_reducible repeat (first|refine blk_drewN ?_ _|refine blk_drew ?_|refine blk_alloc ?_ _));exact BK192.out),(by (with_reducible repeat (first|refine blk_drewN ?_ _|refine blk_drew ?_|refine blk_alloc ?_ _));exact BK233.out),GW233.out,GE233.out,NB185_233.out,NB233_185.out,NB191_233.out,NB233_191.out,NB192_233.out,NB233_192.out,(by repeat (first|(with_reducible first|exact HB.out|apply below_alloc|apply pw_below_drewN|apply below_drew1|refine below_set ?_ GE185.out|refine below_set ?_ GE191.out|refine below_set ?_ GE192.out|refine below_set ?_ GE233.out)|exact HB.out))⟩)
                 rintro gb233 w82 ⟨hS_,h0_,h1_,h2_,h3_,h4_,h5_,h6_,h7_,h8_,h9_,h10_,h11_,h12_,h13_,h14_⟩
                 have n0_ : Aside0 (Kd.R Kd.string 9 w82 w.heap.size (fun _=>True) u193004 x193004_2):=⟨h0_⟩
                 have n1_ : Aside0 (Kd.R (Kd.int .i64) 3 w82 w.heap.size (fun _=>True) (.slice (some ad228) x7_1.length co78) x7_1):=⟨h1_⟩
                 have n2_ : Aside0 (w82.heap[gb185]?=some (.cells #[.int .u32 0,.int .u64 0,.int .i64 0,.string (⟨#[]⟩ : ByteArray),.slice none 0 0] 35 (0,0))):=⟨h2_⟩
                 have n3_ : Aside0 (w82.heap[gb191]?=some (.cells #[.string x192000_2,.int .i64 x192001_2,.int .i64 x192002_2] 86 (0,0))):=⟨h3_⟩
                 have n4_ : Aside0 (w82.heap[gb192]?=some (.cells #[.int .u32 ((t200) % 4294967296),.int .u64 t196,.int .i64 (wrap64 (t204)),.string t212,u193004] 35 (0,0))):=⟨h4_⟩
                 have n5_ : Aside0 (w82.heap[gb233]?=some (.cells #[.string (⟨#[]⟩ : ByteArray),.int .i64 0,.int .i64 0] 86 (0,0))):=⟨h5_⟩
                 have n6_ : Aside0 (w.heap.size≤gb233):=⟨h6_⟩
                 have n7_ : Aside0 (w.heap.size≤gb233):=⟨h7_⟩
                 have n8_ : Aside0 (gb185≠gb233):=⟨h8_⟩
                 have n9_ : Aside0 (gb233≠gb185):=⟨h9_⟩
                 have n10_ : Aside0 (gb191≠gb233):=⟨h10_⟩
                 have n11_ : Aside0 (gb233≠gb191):=⟨h11_⟩
                 have n12_ : Aside0 (gb192≠gb233):=⟨h12_⟩
                 have n13_ : Aside0 (gb233≠gb192):=⟨h13_⟩
                 have n14_ : Aside0 (Below w.heap.size w w82):=⟨h14_⟩
                 clear HO_7
                 clear HO_193004
                 clear BK185
                 clear BK191
                 clear BK192
                 clear HB
                 clear h0_ h1_ h2_ h3_ h4_ h5_ h6_ h7_ h8_ h9_ h10_ h11_ h12_ h13_ h14_
                 have HO_193004:=n0_
                 have HO_7:=n1_
                 have BK185:=n2_
                 have BK191:=n3_
                 have BK192:=n4_
                 have BK233:=n5_
                 have GW233:=n6_
                 have GE233:=n7_
                 have NB185_233:=n8_
                 have NB233_185:=n9_
                 have NB191_233:=n10_
                 have NB233_191:=n11_
                 have NB192_233:=n12_
                 have NB233_192:=n13_
                 have HB:=n14_
                 clear n0_ n1_ n2_ n3_ n4_ n5_ n6_ n7_ n8_ n9_ n10_ n11_ n12_ n13_ n14_
                 have hHeld : w82.cell? ⟨gb191,0,none⟩=some (.string x192000_2)∧w82.cell? ⟨gb191,1,none⟩=some (.int .i64 x192001_2)∧w82.cell? ⟨gb191,2,none⟩=some (.int .i64 x192002_2)∧w82.cell? (ad228.add (x11_2).toNat)=some (.int .i64 (rd x7_1 x11_2)):=hS_
                 refine norm_ (a':=?_) ?_ ?_
                 rotate_left
                 ·simp only [putAll,Act.put,sA_,sB_,sC_]
                  rfl
                 refine one_ (i:=10) (N:=none) #[true,true,true,true,true,true,true,true,true,true,true,false] rfl rfl (one_of HT_.out (by kernel_rfl)) (by decide) (fun K hK=>?_)
                 have hs83 : w82.cell? ⟨gb233,0,none⟩=some (.string (⟨#[]⟩ : ByteArray)):=(blk_cell BK233.out 0).trans rfl
                 have hfs83:=blk_frozen BK233.out 0
                 have hns83_0:=NB185_233.out
                 have hns83_1:=NB191_233.out
                 have hns83_2:=NB192_233.out
                 have hms83_0:=NB233_185.out
                 have hms83_1:=NB233_191.out
                 have hms83_2:=NB233_192.out
                 have hs84 : w82.cell? ⟨gb233,1,none⟩=some (.int .i64 0):=(blk_cell BK233.out 1).trans rfl
                 have hfs84:=blk_frozen BK233.out 1
                 have hns84_0:=NB185_233.out
                 have hns84_1:=NB191_233.out
                 have hns84_2:=NB192_233.out
                 have hms84_0:=NB233_185.out
                 have hms84_1:=NB233_191.out
                 have hms84_2:=NB233_192.out
                 have hs85 : w82.cell? ⟨gb233,2,none⟩=some (.int .i64 0):=(blk_cell BK233.out 2).trans rfl
                 have hfs85:=blk_frozen BK233.out 2
                 have hns85_0:=NB185_233.out
                 have hns85_1:=NB191_233.out
                 have hns85_2:=NB192_233.out
                 have hms85_0:=NB233_185.out
                 have hms85_1:=NB233_191.out
                 have hms85_2:=NB233_192.out
                 refine skip_ (w1:=?_) (by rfl) rfl ?_ ?_
                 rotate_left
                 ·go_simp
                  rfl
                 refine hK.out _ _ ⟨((cell_far (p:=⟨gb233,_,none⟩) NB191_233.out _).trans (((cell_far (p:=⟨gb233,_,none⟩) NB191_233.out _).trans (((cell_far (p:=⟨gb233,_,none⟩) NB191_233.out _).trans (hHeld.1)))))),((cell_far (p:=⟨gb233,_,none⟩) NB191_233.out _).trans (((cell_far (p:=⟨gb233,_,none⟩) NB191_233.out _).trans (((cell_far (p:=⟨gb233,_,none⟩) NB191_233.out _).trans (hHeld.2.1)))))),((cell_far (p:=⟨gb233,_,none⟩) NB191_233.out _).trans (((cell_far (p:=⟨gb233,_,none⟩) NB191_233.out _).trans (((cell_far (p:=⟨gb233,_,none⟩) NB191_233.out _).trans (hHeld.2.2.1)))))),((cell_far (p:=⟨gb233,_,none⟩) (by first|exact Kd.own_blk (Kd.R_ne HO_7.out BK233.out (by decide))|(rw [add_block];exact Kd.own_blk (Kd.R_ne HO_7.out BK233.out (by decide)))|(show (Addr.add _ _).block≠_;rw [add_block];exact Kd.own_blk (Kd.R_ne HO_7.out BK233.out (by decide)))|(dsimp only;exact Kd.own_blk (Kd.R_ne HO_7.out BK233.out (by decide)))) _).trans (((cell_far (p:=⟨gb233,_,none⟩) (by first|exact Kd.own_blk (Kd.R_ne HO_7.out BK233.out (by decide))|(rw [add_block];exact Kd.own_blk (Kd.R_ne HO_7.out BK233.out (by decide)))|(show (Addr.add _ _).block≠_;rw [add_block];exact Kd.own_blk (Kd.R_ne HO_7.out BK233.out (by decide)))|(dsimp only;exact Kd.own_blk (Kd.R_ne HO_7.out BK233.out (by decide)))) _).trans (((cell_far (p:=⟨gb233,_,none⟩) (by first|exact Kd.own_blk (Kd.R_ne HO_7.out BK233.out (by decide))|(rw [add_block];exact Kd.own_blk (Kd.R_ne HO_7.out BK233.out (by decide)))|(show (Addr.add _ _).block≠_;rw [add_block];exact Kd.own_blk (Kd.R_ne HO_7.out BK233.out (by decide)))|(dsimp only;exact Kd.own_blk (Kd.R_ne HO_7.out BK233.out (by decide)))) _).trans (hHeld.2.2.2))))))⟩ (fun hHeld=>?_)
                 clear hK K
                 refine pure_ (i:=11) (N:=some 13) (v:=?_) (a':=?_) #[true,true,true,true,true,true,true,true,true,true,true,true] rfl rfl (any_of HT_.out (by kernel_rfl)) (fun _ _ _ h=>h) (Or.inl ⟨by rfl,?_⟩) ?_ ?_
                 rotate_left
                 ·intro w'
                  go_simp
                  with_reducible rfl
                 rotate_left
                 ·simp only [Act.put,sA_,sB_,sC_,i64_w,i32_w]
                  rfl
                 refine done_ (done_of HT_.out (by kernel_rfl)) ?_
                 have hnb86:=NB233_185.out
                 have hnc86:=NB185_233.out
                 have hnb87:=NB233_191.out
                 have hnc87:=NB191_233.out
                 have hnb88:=NB233_192.out
                 have hnc88:=NB192_233.out
                 have hcz89_0 : w82.cell? ⟨gb233,0,none⟩=some (.string (⟨#[]⟩ : ByteArray)):=(blk_cell BK233.out 0).trans rfl
                 have hcz89_1 : w82.cell? ⟨gb233,1,none⟩=some (.int .i64 0):=(blk_cell BK233.out 1).trans rfl
                 have hcz89_2 : w82.cell? ⟨gb233,2,none⟩=some (.int .i64 0):=(blk_cell BK233.out 2).trans rfl
                 have hfz89_0:=blk_frozen BK233.out 0
                 have hfz89_1:=blk_frozen BK233.out 1
                 have hfz89_2:=blk_frozen BK233.out 2
                 have hnb90:=NB191_185.out
                 have hnc90:=NB185_191.out
                 have hnb91:=NB191_192.out
                 have hnc91:=NB192_191.out
                 have hcz92_0 : w82.cell? ⟨gb191,0,none⟩=some (.string x192000_2):=(blk_cell BK191.out 0).trans rfl
                 have hcz92_1 : w82.cell? ⟨gb191,1,none⟩=some (.int .i64 x192001_2):=(blk_cell BK191.out 1).trans rfl
                 have hcz92_2 : w82.cell? ⟨gb191,2,none⟩=some (.int .i64 x192002_2):=(blk_cell BK191.out 2).trans rfl
                 have hfz92_0:=blk_frozen BK191.out 0
                 have hfz92_1:=blk_frozen BK191.out 1
                 have hfz92_2:=blk_frozen BK191.out 2
                 have hnb93:=NB192_185.out
                 have hnc93:=NB185_192.out
                 have hcz94_0 : w82.cell? ⟨gb192,0,none⟩=some (.int .u32 ((t200) % 4294967296)):=(blk_cell BK192.out 0).trans rfl
                 have hcz94_1 : w82.cell? ⟨gb192,1,none⟩=some (.int .u64 t196):=(blk_cell BK192.out 1).trans rfl
                 have hcz94_2 : w82.cell? ⟨gb192,2,none⟩=some (.int .i64 (wrap64 (t204))):=(blk_cell BK192.out 2).trans rfl
                 have hcz94_3 : w82.cell? ⟨gb192,3,none⟩=some (.string t212):=(blk_cell BK192.out 3).trans rfl
                 have hcz94_4 : w82.cell? ⟨gb192,4,none⟩=some (u193004):=(blk_cell BK192.out 4).trans rfl
                 have hfz94_0:=blk_frozen BK192.out 0
                 have hfz94_1:=blk_frozen BK192.out 1
                 have hfz94_2:=blk_frozen BK192.out 2
                 have hfz94_3:=blk_frozen BK192.out 3
                 have hfz94_4:=blk_frozen BK192.out 4
                 try go_wp2_with (first|((with_reducible refine gate_builtin (b:=.append) (xs:=#[.tmp 121,.tmp 123]) rfl ?_);at_builtin;refine Kd.R_append Kd.string (w0:=w) w.heap.size rfl (.tmp 121) (.tmp 123) 26 9 (.string ⟨#[]⟩) 16 rfl Try.underlying26 info9 rfl (by decide) (by omega) u193004 x193004_2 t232 [.string t232] (fun _=>True) (fun _=>False) rfl (by first|(go_simp;done)|(go_simp;rfl)) ?aP (fun _ hk=>hk.elim) ?aF ?aO ?aB ?aS ?aL ?_;(case aP=>exact rfl);(case aB=>exact (by repeat (first|(with_reducible first|exact HB.out|apply below_alloc|apply pw_below_drewN|apply below_drew1|refine below_set ?_ GE185.out|refine below_set ?_ GE191.out|refine below_set ?_ GE192.out|refine below_set ?_ GE233.out)|exact HB.out)));(case aF=>exact (fun _ _=>trivial));(case aO=>exact (by (with_reducible repeat (first|apply Kd.R_alloc|apply Kd.R_drewN|apply Kd.R_drew));exact Kd.R_mono (Kd.R_far (p:=⟨gb191,2,none⟩) (Kd.R_far (p:=⟨gb191,1,none⟩) (Kd.R_far (p:=⟨gb191,0,none⟩) (Kd.R_far (p:=⟨gb233,2,none⟩) (Kd.R_far (p:=⟨gb233,1,none⟩) (Kd.R_far (p:=⟨gb233,0,none⟩) (Kd.R_types (Kd.R_types HO_193004.out BK233.out (by decide)) BK191.out (by decide)) (fun _ hk=>hk.1.2) (.string t229)) (fun _ hk=>hk.1.2) (.int .i64 t230)) (fun _ hk=>hk.1.2) (.int .i64 t231)) (fun _ hk=>hk.2) (.string t229)) (fun _ hk=>hk.2) (.int .i64 t230)) (fun _ hk=>hk.2) (.int .i64 t231)) (fun _ hk=>trivial)));(case aS=>exact (below_size (by repeat (first|(with_reducible first|exact HB.out|apply below_alloc|apply pw_below_drewN|apply below_drew1|refine below_set ?_ GE185.out|refine below_set ?_ GE191.out|refine below_set ?_ GE192.out|refine below_set ?_ GE233.out)|exact HB.out))));(case aL=>have:=LMc77.out;omega);intro v235 w95 ho hb hg hat;rw [← Ny234.out] at ho;have n0_:=Aside0.mk (Kd.R_over' (by (with_reducible repeat (first|apply Kd.R_alloc|apply Kd.R_drewN|apply Kd.R_drew));exact (Kd.R_mono (Kd.R_mono (Kd.R_far (p:=⟨gb191,2,none⟩) (Kd.R_far (p:=⟨gb191,1,none⟩) (Kd.R_far (p:=⟨gb191,0,none⟩) (Kd.R_far (p:=⟨gb233,2,none⟩) (Kd.R_far (p:=⟨gb233,1,none⟩) (Kd.R_far (p:=⟨gb233,0,none⟩) (Kd.R_types (Kd.R_types HO_7.out BK233.out (by decide)) BK191.out (by decide)) (fun _ hk=>hk.1.2) (.string t229)) (fun _ hk=>hk.1.2) (.int .i64 t230)) (fun _ hk=>hk.1.2) (.int .i64 t231)) (fun _ hk=>hk.2) (.string t229)) (fun _ hk=>hk.2) (.int .i64 t230)) (fun _ hk=>hk.2) (.int .i64 t231)) (fun _ h_=>h_.1)) (fun _ h_=>h_.1))) (Kd.R_typed (by (with_reducible repeat (first|apply Kd.R_alloc|apply Kd.R_drewN|apply Kd.R_drew));exact (Kd.R_mono (Kd.R_mono (Kd.R_far (p:=⟨gb191,2,none⟩) (Kd.R_far (p:=⟨gb191,1,none⟩) (Kd.R_far (p:=⟨gb191,0,none⟩) (Kd.R_far (p:=⟨gb233,2,none⟩) (Kd.R_far (p:=⟨gb233,1,none⟩) (Kd.R_far (p:=⟨gb233,0,none⟩) (Kd.R_types (Kd.R_types HO_193004.out BK233.out (by decide)) BK191.out (by decide)) (fun _ hk=>hk.1.2) (.string t229)) (fun _ hk=>hk.1.2) (.int .i64 t230)) (fun _ hk=>hk.1.2) (.int .i64 t231)) (fun _ hk=>hk.2) (.string t229)) (fun _ hk=>hk.2) (.int .i64 t230)) (fun _ hk=>hk.2) (.int .i64 t231)) (fun _ h_=>h_.1)) (fun _ h_=>h_.1)))) (by decide) hg);have n1_:=Aside0.mk (blk_grown (g:=gb185) (o:=.cells #[.int .u32 0,.int .u64 0,.int .i64 0,.string (⟨#[]⟩ : ByteArray),.slice none 0 0] 35 (0,0)) (by (with_reducible repeat (first|refine blk_drewN ?_ _|refine blk_drew ?_|refine blk_alloc ?_ _));refine blk_far ?_ NB185_191.out _;(with_reducible repeat (first|refine blk_drewN ?_ _|refine blk_drew ?_|refine blk_alloc ?_ _));refine blk_far ?_ NB185_191.out _;(with_reducible repeat (first|refine blk_drewN ?_ _|refine blk_drew ?_|refine blk_alloc ?_ _));refine blk_far ?_ NB185_191.out _;(with_reducible repeat (first|refine blk_drewN ?_ _|refine blk_drew ?_|refine blk_alloc ?_ _));refine blk_far ?_ NB185_233.out _;(with_reducible repeat (first|refine blk_drewN ?_ _|refine blk_drew ?_|refine blk_alloc ?_ _));refine blk_far ?_ NB185_233.out _;(with_reducible repeat (first|refine blk_drewN ?_ _|refine blk_drew ?_|refine blk_alloc ?_ _));refine blk_far ?_ NB185_233.out _;(with_reducible repeat (first|refine blk_drewN ?_ _|refine blk_drew ?_|refine blk_alloc ?_ _));exact BK185.out) hg (Kd.R_ne HO_193004.out BK185.out (by decide)));have n2_:=Aside0.mk (blk_grown (g:=gb191) (o:=.cells #[.string t229,.int .i64 t230,.int .i64 t231] 86 (0,0)) (by (with_reducible repeat (first|refine blk_drewN ?_ _|refine blk_drew ?_|refine blk_alloc ?_ _));refine blk_put (cs:=#[.string t229,.int .i64 t230,.int .i64 x192002_2]) ?_ 2 _ rfl;(with_reducible repeat (first|refine blk_drewN ?_ _|refine blk_drew ?_|refine blk_alloc ?_ _));refine blk_put (cs:=#[.string t229,.int .i64 x192001_2,.int .i64 x192002_2]) ?_ 1 _ rfl;(with_reducible repeat (first|refine blk_drewN ?_ _|refine blk_drew ?_|refine blk_alloc ?_ _));refine blk_put (cs:=#[.string x192000_2,.int .i64 x192001_2,.int .i64 x192002_2]) ?_ 0 _ rfl;(with_reducible repeat (first|refine blk_drewN ?_ _|refine blk_drew ?_|refine blk_alloc ?_ _));refine blk_far ?_ NB191_233.out _;(with_reducible repeat (first|refine blk_drewN ?_ _|refine blk_drew ?_|refine blk_alloc ?_ _));refine blk_far ?_ NB191_233.out _;(with_reducible repeat (first|refine blk_drewN ?_ _|refine blk_drew ?_|refine blk_alloc ?_ _));refine blk_far ?_ NB191_233.out _;(with_reducible repeat (first|refine blk_drewN ?_ _|refine blk_drew ?_|refine blk_alloc ?_ _));exact BK191.out) hg (Kd.R_ne HO_193004.out BK191.out (by decide)));have n3_:=Aside0.mk (blk_grown (g:=gb192) (o:=.cells #[.int .u32 ((t200) % 4294967296),.int .u64 t196,.int .i64 (wrap64 (t204)),.string t212,u193004] 35 (0,0)) (by (with_reducible repeat (first|refine blk_drewN ?_ _|refine blk_drew ?_|refine blk_alloc ?_ _));refine blk_far ?_ NB192_191.out _;(with_reducible repeat (first|refine blk_drewN ?_ _|refine blk_drew ?_|refine blk_alloc ?_ _));refine blk_far ?_ NB192_191.out _;(with_reducible repeat (first|refine blk_drewN ?_ _|refine blk_drew ?_|refine blk_alloc ?_ _));refine blk_far ?_ NB192_191.out _;(with_reducible repeat (first|refine blk_drewN ?_ _|refine blk_drew ?_|refine blk_alloc ?_ _));refine blk_far ?_ NB192_233.out _;(with_reducible repeat (first|refine blk_drewN ?_ _|refine blk_drew ?_|refine blk_alloc ?_ _));refine blk_far ?_ NB192_233.out _;(with_reducible repeat (first|refine blk_drewN ?_ _|refine blk_drew ?_|refine blk_alloc ?_ _));refine blk_far ?_ NB192_233.out _;(with_reducible repeat (first|refine blk_drewN ?_ _|refine blk_drew ?_|refine blk_alloc ?_ _));exact BK192.out) hg (Kd.R_ne HO_193004.out BK192.out (by decide)));have n4_:=Aside0.mk (blk_grown (g:=gb233) (o:=.cells #[.string t229,.int .i64 t230,.int .i64 t231] 86 (0,0)) (by (with_reducible repeat (first|refine blk_drewN ?_ _|refine blk_drew ?_|refine blk_alloc ?_ _));refine blk_far ?_ NB233_191.out _;(with_reducible repeat (first|refine blk_drewN ?_ _|refine blk_drew ?_|refine blk_alloc ?_ _));refine blk_far ?_ NB233_191.out _;(with_reducible repeat (first|refine blk_drewN ?_ _|refine blk_drew ?_|refine blk_alloc ?_ _));refine blk_far ?_ NB233_191.out _;(with_reducible repeat (first|refine blk_drewN ?_ _|refine blk_drew ?_|refine blk_alloc ?_ _));refine blk_put (cs:=#[.string t229,.int .i64 t230,.int .i64 0]) ?_ 2 _ rfl;(with_reducible repeat (first|refine blk_drewN ?_ _|refine blk_drew ?_|refine blk_alloc ?_ _));refine blk_put (cs:=#[.string t229,.int .i64 0,.int .i64 0]) ?_ 1 _ rfl;(with_reducible repeat (first|refine blk_drewN ?_ _|refine blk_drew ?_|refine blk_alloc ?_ _));refine blk_put (cs:=#[.string (⟨#[]⟩ : ByteArray),.int .i64 0,.int .i64 0]) ?_ 0 _ rfl;(with_reducible repeat (first|refine blk_drewN ?_ _|refine blk_drew ?_|refine blk_alloc ?_ _));exact BK233.out) hg (Kd.R_ne HO_193004.out BK233.out (by decide)));have n5_:=Aside0.mk (hb);have n6_:=Aside0.mk (ho);clear HO_7;clear BK185;clear BK191;clear BK192;clear BK233;clear HB;clear HO_193004;have HO_7:=n0_;have BK185:=n1_;have BK191:=n2_;have BK192:=n3_;have BK233:=n4_;have HB:=n5_;have HO236:=n6_;clear n0_ n1_ n2_ n3_ n4_ n5_ n6_;clear ho hb hg hat;obtain ⟨Ao96,co96,eo96⟩:=Kd.R_slice HO236.out;subst eo96;have hcz97_0 : w95.cell? ⟨gb192,0,none⟩=some (.int .u32 ((t200) % 4294967296)):=(blk_cell BK192.out 0).trans rfl;have hcz97_1 : w95.cell? ⟨gb192,1,none⟩=some (.int .u64 t196):=(blk_cell BK192.out 1).trans rfl;have hcz97_2 : w95.cell? ⟨gb192,2,none⟩=some (.int .i64 (wrap64 (t204))):=(blk_cell BK192.out 2).trans rfl;have hcz97_3 : w95.cell? ⟨gb192,3,none⟩=some (.string t212):=(blk_cell BK192.out 3).trans rfl;have hcz97_4 : w95.cell? ⟨gb192,4,none⟩=some (u193004):=(blk_cell BK192.out 4).trans rfl;have hfz97_0:=blk_frozen BK192.out 0;have hfz97_1:=blk_frozen BK192.out 1;have hfz97_2:=blk_frozen BK192.out 2;have hfz97_3:=blk_frozen BK192.out 3;have hfz97_4:=blk_frozen BK192.out 4))
                 go_roundg k2
                 case measure=>have:=HK1.out;have:=HK2.out;omega
                 case rel=>exact ⟨(wrap64 (x11_2 + 1)),(t229),(t230),(t231),(y234),(.slice Ao96 y234.length co96),(by first|rfl|(simp;done)|(simp [*];done)),H',⟨by have:=HK1.out;have:=HK2.out;omega⟩,⟨by (with_reducible repeat (first|apply Kd.R_alloc|apply Kd.R_drewN|apply Kd.R_drew));exact Kd.R_mono (Kd.R_far (p:=⟨gb192,4,none⟩) (Kd.R_types HO_7.out BK192.out (by decide)) (fun _ hk=>hk.2) (.slice Ao96 y234.length co96)) (fun _ hk=>trivial)⟩,⟨by (with_reducible repeat (first|apply Kd.R_alloc|apply Kd.R_drewN|apply Kd.R_drew));exact Kd.R_mono (Kd.R_far (p:=⟨gb192,4,none⟩) (Kd.R_types HO236.out BK192.out (by decide)) (fun _ hk=>hk.2) (.slice Ao96 y234.length co96)) (fun _ hk=>trivial)⟩,⟨by (with_reducible repeat (first|refine blk_drewN ?_ _|refine blk_drew ?_|refine blk_alloc ?_ _));refine blk_far ?_ NB185_192.out _;(with_reducible repeat (first|refine blk_drewN ?_ _|refine blk_drew ?_|refine blk_alloc ?_ _));exact BK185.out⟩,⟨by (with_reducible repeat (first|refine blk_drewN ?_ _|refine blk_drew ?_|refine blk_alloc ?_ _));refine blk_far ?_ NB191_192.out _;(with_reducible repeat (first|refine blk_drewN ?_ _|refine blk_drew ?_|refine blk_alloc ?_ _));exact BK191.out⟩,⟨by (with_reducible repeat (first|refine blk_drewN ?_ _|refine blk_drew ?_|refine blk_alloc ?_ _));refine blk_put (cs:=#[.int .u32 ((t200) % 4294967296),.int .u64 t196,.int .i64 (wrap64 (t204)),.string t212,u193004]) ?_ 4 _ rfl;(with_reducible repeat (first|refine blk_drewN ?_ _|refine blk_drew ?_|refine blk_alloc ?_ _));exact BK192.out⟩,⟨by repeat (first|(with_reducible first|exact HB.out|apply below_alloc|apply pw_below_drewN|apply below_drew1|refine below_set ?_ GE185.out|refine below_set ?_ GE191.out|refine below_set ?_ GE192.out|refine below_set ?_ GE233.out)|exact HB.out)⟩⟩
                ·rw [if_neg c77] at H
                 exact absurd H (by simp)
               ·rw [if_neg c75] at H
                exact absurd H (by simp)
              ·rw [if_neg c74] at H
               have c74b0 : decide (x11_2 < (x7_1.length : Int))=false:=decide_eq_false c74
               clear c74
               replace H:=Option.bind_eq_some_iff.mp H
               obtain ⟨⟨t237,t238⟩,A980,H⟩:=H
               replace H : (if x192002_2=0 then (if t238=0 then (if t237.toList=a0.toList then (some (((t200) % 4294967296),t196,(wrap64 (t204)),t212,x193004_2,0)) else (some (0,0,0,(⟨#[]⟩ : ByteArray),([] : List ByteArray),6))) else (some (0,0,0,(⟨#[]⟩ : ByteArray),([] : List ByteArray),6))) else (some (0,0,0,(⟨#[]⟩ : ByteArray),([] : List ByteArray),6)))=some (r1,r2,r3,r4,r5,r6):=H
               have A98:=Aside0.mk A980
               clear A980
               by_cases c99 : x192002_2=0
               ·rw [if_pos c99] at H
                have c99b0 : (x192002_2 == 0)=true:=beq_iff_eq.mpr c99
                have c99b1 : (x192002_2 != 0)=false:=bne_eq_false_iff_eq.mpr c99
                clear c99
                by_cases c100 : t238=0
                ·rw [if_pos c100] at H
                 have c100b0 : (t238 == 0)=true:=beq_iff_eq.mpr c100
                 have c100b1 : (t238 != 0)=false:=bne_eq_false_iff_eq.mpr c100
                 clear c100
                 by_cases c101 : t237.toList=a0.toList
                 ·rw [if_pos c101] at H
                  have c101b0 : (t237.toList == a0.toList)=true:=beq_iff_eq.mpr c101
                  have c101b1 : (t237.toList != a0.toList)=false:=bne_eq_false_iff_eq.mpr c101
                  clear c101
                  simp only [Option.some.injEq,Prod.mk.injEq] at H
                  obtain ⟨rfl,rfl,rfl,rfl,rfl,rfl⟩:=H
                  obtain ⟨Ao102,co102,eo102⟩:=Kd.R_slice HO_7.out
                  subst eo102
                  have hnb103:=NB192_185.out
                  have hnc103:=NB185_192.out
                  have hnb104:=NB192_191.out
                  have hnc104:=NB191_192.out
                  have hcz105_0 : wr.cell? ⟨gb192,0,none⟩=some (.int .u32 ((t200) % 4294967296)):=(blk_cell BK192.out 0).trans rfl
                  have hcz105_1 : wr.cell? ⟨gb192,1,none⟩=some (.int .u64 t196):=(blk_cell BK192.out 1).trans rfl
                  have hcz105_2 : wr.cell? ⟨gb192,2,none⟩=some (.int .i64 (wrap64 (t204))):=(blk_cell BK192.out 2).trans rfl
                  have hcz105_3 : wr.cell? ⟨gb192,3,none⟩=some (.string t212):=(blk_cell BK192.out 3).trans rfl
                  have hcz105_4 : wr.cell? ⟨gb192,4,none⟩=some (u193004):=(blk_cell BK192.out 4).trans rfl
                  have hfz105_0:=blk_frozen BK192.out 0
                  have hfz105_1:=blk_frozen BK192.out 1
                  have hfz105_2:=blk_frozen BK192.out 2
                  have hfz105_3:=blk_frozen BK192.out 3
                  have hfz105_4:=blk_frozen BK192.out 4
                  obtain ⟨Ao106,co106,eo106⟩:=Kd.R_slice HO_193004.out
                  subst eo106
                  go_wp2_with (first|((with_reducible refine gate_callee (f:=9) rfl ?_);refine goesL_ (some 128) rfl rfl Try.func9 (by kernel_rfl) rfl #[.agg #[.int .u32 ((t200) % 4294967296),.int .u64 t196,.int .i64 (wrap64 (t204)),.string t212,.slice Ao106 x193004_2.length co106]] rfl (by (try simp only [List.map_toArray,List.map_cons,List.map_nil]);first|done|rfl|(simp only [List.length_drop,List.length_take];rfl)) ?_;(with_reducible refine (girderref03_Encode.calls k2 ((t200) % 4294967296) t196 (wrap64 (t204)) t212 _ _ x193004_2 t237 t238 _ ?side1 ?side2 A98.out).mono ?_);(case side1=>repeat (first|exact (Kd.R_reads' HO_193004.out).2.2|(with_reducible refine Kd.C_alloc ?_ _)|(with_reducible refine Kd.C_drewN ?_ _)|(with_reducible refine Kd.C_drew ?_)));(case side2=>exact (Kd.R_reads' HO_193004.out).2.1);rintro e w107 ⟨rfl,hb⟩;refine ⟨_,rfl,?_⟩;have n0_:=Aside0.mk (Kd.R_below (by (with_reducible repeat (first|apply Kd.R_alloc|apply Kd.R_drewN|apply Kd.R_drew));exact HO_7.out) hb);have n1_:=Aside0.mk (Kd.R_below (by (with_reducible repeat (first|apply Kd.R_alloc|apply Kd.R_drewN|apply Kd.R_drew));exact HO_193004.out) hb);have n2_:=Aside0.mk (blk_below (g:=gb185) (o:=.cells #[.int .u32 0,.int .u64 0,.int .i64 0,.string (⟨#[]⟩ : ByteArray),.slice none 0 0] 35 (0,0)) (by (with_reducible repeat (first|refine blk_drewN ?_ _|refine blk_drew ?_|refine blk_alloc ?_ _));exact BK185.out) hb);have n3_:=Aside0.mk (blk_below (g:=gb191) (o:=.cells #[.string x192000_2,.int .i64 x192001_2,.int .i64 x192002_2] 86 (0,0)) (by (with_reducible repeat (first|refine blk_drewN ?_ _|refine blk_drew ?_|refine blk_alloc ?_ _));exact BK191.out) hb);have n4_:=Aside0.mk (blk_below (g:=gb192) (o:=.cells #[.int .u32 ((t200) % 4294967296),.int .u64 t196,.int .i64 (wrap64 (t204)),.string t212,.slice Ao106 x193004_2.length co106] 35 (0,0)) (by (with_reducible repeat (first|refine blk_drewN ?_ _|refine blk_drew ?_|refine blk_alloc ?_ _));exact BK192.out) hb);have n5_:=Aside0.mk (below_step (by repeat (first|(with_reducible first|exact HB.out|apply below_alloc|apply pw_below_drewN|apply below_drew1|refine below_set ?_ GE185.out|refine below_set ?_ GE191.out|refine below_set ?_ GE192.out)|exact HB.out)) hb);clear HO_7;clear HO_193004;clear BK185;clear BK191;clear BK192;clear HB;have HO_7:=n0_;have HO_193004:=n1_;have BK185:=n2_;have BK191:=n3_;have BK192:=n4_;have HB:=n5_;clear n0_ n1_ n2_ n3_ n4_ n5_;(try clear hb);(try clear hb2);(try clear hk);(try clear hi);have hnb108:=NB191_185.out;have hnc108:=NB185_191.out;have hcz109_0 : w107.cell? ⟨gb191,0,none⟩=some (.string x192000_2):=(blk_cell BK191.out 0).trans rfl;have hcz109_1 : w107.cell? ⟨gb191,1,none⟩=some (.int .i64 x192001_2):=(blk_cell BK191.out 1).trans rfl;have hcz109_2 : w107.cell? ⟨gb191,2,none⟩=some (.int .i64 x192002_2):=(blk_cell BK191.out 2).trans rfl;have hfz109_0:=blk_frozen BK191.out 0;have hfz109_1:=blk_frozen BK191.out 1;have hfz109_2:=blk_frozen BK191.out 2;have hcz110_0 : w107.cell? ⟨gb192,0,none⟩=some (.int .u32 ((t200) % 4294967296)):=(blk_cell BK192.out 0).trans rfl;have hcz110_1 : w107.cell? ⟨gb192,1,none⟩=some (.int .u64 t196):=(blk_cell BK192.out 1).trans rfl;have hcz110_2 : w107.cell? ⟨gb192,2,none⟩=some (.int .i64 (wrap64 (t204))):=(blk_cell BK192.out 2).trans rfl;have hcz110_3 : w107.cell? ⟨gb192,3,none⟩=some (.string t212):=(blk_cell BK192.out 3).trans rfl;have hcz110_4 : w107.cell? ⟨gb192,4,none⟩=some (.slice Ao106 x193004_2.length co106):=(blk_cell BK192.out 4).trans rfl;have hfz110_0:=blk_frozen BK192.out 0;have hfz110_1:=blk_frozen BK192.out 1;have hfz110_2:=blk_frozen BK192.out 2;have hfz110_3:=blk_frozen BK192.out 3;have hfz110_4:=blk_frozen BK192.out 4;have hcz111_0 : w107.cell? ⟨gb185,0,none⟩=some (.int .u32 0):=(blk_cell BK185.out 0).trans rfl;have hcz111_1 : w107.cell? ⟨gb185,1,none⟩=some (.int .u64 0):=(blk_cell BK185.out 1).trans rfl;have hcz111_2 : w107.cell? ⟨gb185,2,none⟩=some (.int .i64 0):=(blk_cell BK185.out 2).trans rfl;have hcz111_3 : w107.cell? ⟨gb185,3,none⟩=some (.string (⟨#[]⟩ : ByteArray)):=(blk_cell BK185.out 3).trans rfl;have hcz111_4 : w107.cell? ⟨gb185,4,none⟩=some (.slice none 0 0):=(blk_cell BK185.out 4).trans rfl;have hfz111_0:=blk_frozen BK185.out 0;have hfz111_1:=blk_frozen BK185.out 1;have hfz111_2:=blk_frozen BK185.out 2;have hfz111_3:=blk_frozen BK185.out 3;have hfz111_4:=blk_frozen BK185.out 4))
                  refine bodyPost_ret (results_ct rfl _ _ gb185 35 #[.int .u32 ((t200) % 4294967296),.int .u64 t196,.int .i64 (wrap64 (t204)),.string t212,.slice Ao106 x193004_2.length co106] (0,0) _ rfl (by (with_reducible repeat (first|refine blk_drewN ?_ _|refine blk_drew ?_|refine blk_alloc ?_ _));refine blk_put (cs:=#[.int .u32 ((t200) % 4294967296),.int .u64 t196,.int .i64 (wrap64 (t204)),.string t212,.slice none 0 0]) ?_ 4 _ rfl;(with_reducible repeat (first|refine blk_drewN ?_ _|refine blk_drew ?_|refine blk_alloc ?_ _));refine blk_put (cs:=#[.int .u32 ((t200) % 4294967296),.int .u64 t196,.int .i64 (wrap64 (t204)),.string (⟨#[]⟩ : ByteArray),.slice none 0 0]) ?_ 3 _ rfl;(with_reducible repeat (first|refine blk_drewN ?_ _|refine blk_drew ?_|refine blk_alloc ?_ _));refine blk_put (cs:=#[.int .u32 ((t200) % 4294967296),.int .u64 t196,.int .i64 0,.string (⟨#[]⟩ : ByteArray),.slice none 0 0]) ?_ 2 _ rfl;(with_reducible repeat (first|refine blk_drewN ?_ _|refine blk_drew ?_|refine blk_alloc ?_ _));refine blk_put (cs:=#[.int .u32 ((t200) % 4294967296),.int .u64 0,.int .i64 0,.string (⟨#[]⟩ : ByteArray),.slice none 0 0]) ?_ 1 _ rfl;(with_reducible repeat (first|refine blk_drewN ?_ _|refine blk_drew ?_|refine blk_alloc ?_ _));refine blk_put (cs:=#[.int .u32 0,.int .u64 0,.int .i64 0,.string (⟨#[]⟩ : ByteArray),.slice none 0 0]) ?_ 0 _ rfl;(with_reducible repeat (first|refine blk_drewN ?_ _|refine blk_drew ?_|refine blk_alloc ?_ _));exact BK185.out) Try.underlying35 rfl (by kernel_rfl)) rfl ?_
                  exact ⟨_,by first|rfl|(simp [errW_none,errW_some] <;> rfl)|(simp [*,errW_none,errW_some] <;> rfl),by (with_reducible repeat (first|apply Kd.R_alloc|apply Kd.R_drewN|apply Kd.R_drew));exact Kd.R_mono (Kd.R_far (p:=⟨gb185,4,none⟩) (Kd.R_far (p:=⟨gb185,3,none⟩) (Kd.R_far (p:=⟨gb185,2,none⟩) (Kd.R_far (p:=⟨gb185,1,none⟩) (Kd.R_far (p:=⟨gb185,0,none⟩) (Kd.R_types HO_193004.out BK185.out (by decide)) (fun _ hk=>hk.2) (.int .u32 ((t200) % 4294967296))) (fun _ hk=>hk.2) (.int .u64 t196)) (fun _ hk=>hk.2) (.int .i64 (wrap64 (t204)))) (fun _ hk=>hk.2) (.string t212)) (fun _ hk=>hk.2) (.slice Ao106 x193004_2.length co106)) (fun _ hk=>trivial),by repeat (first|(with_reducible first|exact HB.out|apply below_alloc|apply pw_below_drewN|apply below_drew1|refine below_set ?_ GE185.out|refine below_set ?_ GE191.out|refine below_set ?_ GE192.out)|exact HB.out)⟩
                 ·rw [if_neg c101] at H
                  have c101b0 : (t237.toList == a0.toList)=false:=beq_eq_false_iff_ne.mpr c101
                  have c101b1 : (t237.toList != a0.toList)=true:=bne_iff_ne.mpr c101
                  simp only [Option.some.injEq,Prod.mk.injEq] at H
                  obtain ⟨rfl,rfl,rfl,rfl,rfl,rfl⟩:=H
                  obtain ⟨Ao112,co112,eo112⟩:=Kd.R_slice HO_7.out
                  subst eo112
                  have hnb113:=NB192_185.out
                  have hnc113:=NB185_192.out
                  have hnb114:=NB192_191.out
                  have hnc114:=NB191_192.out
                  have hcz115_0 : wr.cell? ⟨gb192,0,none⟩=some (.int .u32 ((t200) % 4294967296)):=(blk_cell BK192.out 0).trans rfl
                  have hcz115_1 : wr.cell? ⟨gb192,1,none⟩=some (.int .u64 t196):=(blk_cell BK192.out 1).trans rfl
                  have hcz115_2 : wr.cell? ⟨gb192,2,none⟩=some (.int .i64 (wrap64 (t204))):=(blk_cell BK192.out 2).trans rfl
                  have hcz115_3 : wr.cell? ⟨gb192,3,none⟩=some (.string t212):=(blk_cell BK192.out 3).trans rfl
                  have hcz115_4 : wr.cell? ⟨gb192,4,none⟩=some (u193004):=(blk_cell BK192.out 4).trans rfl
                  have hfz115_0:=blk_frozen BK192.out 0
                  have hfz115_1:=blk_frozen BK192.out 1
                  have hfz115_2:=blk_frozen BK192.out 2
                  have hfz115_3:=blk_frozen BK192.out 3
                  have hfz115_4:=blk_frozen BK192.out 4
                  obtain ⟨Ao116,co116,eo116⟩:=Kd.R_slice HO_193004.out
                  subst eo116
                  go_wp2_with (first|((with_reducible refine gate_callee (f:=9) rfl ?_);refine goesL_ (some 128) rfl rfl Try.func9 (by kernel_rfl) rfl #[.agg #[.int .u32 ((t200) % 4294967296),.int .u64 t196,.int .i64 (wrap64 (t204)),.string t212,.slice Ao116 x193004_2.length co116]] rfl (by (try simp only [List.map_toArray,List.map_cons,List.map_nil]);first|done|rfl|(simp only [List.length_drop,List.length_take];rfl)) ?_;(with_reducible refine (girderref03_Encode.calls k2 ((t200) % 4294967296) t196 (wrap64 (t204)) t212 _ _ x193004_2 t237 t238 _ ?side1 ?side2 A98.out).mono ?_);(case side1=>repeat (first|exact (Kd.R_reads' HO_193004.out).2.2|(with_reducible refine Kd.C_alloc ?_ _)|(with_reducible refine Kd.C_drewN ?_ _)|(with_reducible refine Kd.C_drew ?_)));(case side2=>exact (Kd.R_reads' HO_193004.out).2.1);rintro e w117 ⟨rfl,hb⟩;refine ⟨_,rfl,?_⟩;have n0_:=Aside0.mk (Kd.R_below (by (with_reducible repeat (first|apply Kd.R_alloc|apply Kd.R_drewN|apply Kd.R_drew));exact HO_7.out) hb);have n1_:=Aside0.mk (Kd.R_below (by (with_reducible repeat (first|apply Kd.R_alloc|apply Kd.R_drewN|apply Kd.R_drew));exact HO_193004.out) hb);have n2_:=Aside0.mk (blk_below (g:=gb185) (o:=.cells #[.int .u32 0,.int .u64 0,.int .i64 0,.string (⟨#[]⟩ : ByteArray),.slice none 0 0] 35 (0,0)) (by (with_reducible repeat (first|refine blk_drewN ?_ _|refine blk_drew ?_|refine blk_alloc ?_ _));exact BK185.out) hb);have n3_:=Aside0.mk (blk_below (g:=gb191) (o:=.cells #[.string x192000_2,.int .i64 x192001_2,.int .i64 x192002_2] 86 (0,0)) (by (with_reducible repeat (first|refine blk_drewN ?_ _|refine blk_drew ?_|refine blk_alloc ?_ _));exact BK191.out) hb);have n4_:=Aside0.mk (blk_below (g:=gb192) (o:=.cells #[.int .u32 ((t200) % 4294967296),.int .u64 t196,.int .i64 (wrap64 (t204)),.string t212,.slice Ao116 x193004_2.length co116] 35 (0,0)) (by (with_reducible repeat (first|refine blk_drewN ?_ _|refine blk_drew ?_|refine blk_alloc ?_ _));exact BK192.out) hb);have n5_:=Aside0.mk (below_step (by repeat (first|(with_reducible first|exact HB.out|apply below_alloc|apply pw_below_drewN|apply below_drew1|refine below_set ?_ GE185.out|refine below_set ?_ GE191.out|refine below_set ?_ GE192.out)|exact HB.out)) hb);clear HO_7;clear HO_193004;clear BK185;clear BK191;clear BK192;clear HB;have HO_7:=n0_;have HO_193004:=n1_;have BK185:=n2_;have BK191:=n3_;have BK192:=n4_;have HB:=n5_;clear n0_ n1_ n2_ n3_ n4_ n5_;(try clear hb);(try clear hb2);(try clear hk);(try clear hi);have hnb118:=NB191_185.out;have hnc118:=NB185_191.out;have hcz119_0 : w117.cell? ⟨gb191,0,none⟩=some (.string x192000_2):=(blk_cell BK191.out 0).trans rfl;have hcz119_1 : w117.cell? ⟨gb191,1,none⟩=some (.int .i64 x192001_2):=(blk_cell BK191.out 1).trans rfl;have hcz119_2 : w117.cell? ⟨gb191,2,none⟩=some (.int .i64 x192002_2):=(blk_cell BK191.out 2).trans rfl;have hfz119_0:=blk_frozen BK191.out 0;have hfz119_1:=blk_frozen BK191.out 1;have hfz119_2:=blk_frozen BK191.out 2;have hcz120_0 : w117.cell? ⟨gb185,0,none⟩=some (.int .u32 0):=(blk_cell BK185.out 0).trans rfl;have hcz120_1 : w117.cell? ⟨gb185,1,none⟩=some (.int .u64 0):=(blk_cell BK185.out 1).trans rfl;have hcz120_2 : w117.cell? ⟨gb185,2,none⟩=some (.int .i64 0):=(blk_cell BK185.out 2).trans rfl;have hcz120_3 : w117.cell? ⟨gb185,3,none⟩=some (.string (⟨#[]⟩ : ByteArray)):=(blk_cell BK185.out 3).trans rfl;have hcz120_4 : w117.cell? ⟨gb185,4,none⟩=some (.slice none 0 0):=(blk_cell BK185.out 4).trans rfl;have hfz120_0:=blk_frozen BK185.out 0;have hfz120_1:=blk_frozen BK185.out 1;have hfz120_2:=blk_frozen BK185.out 2;have hfz120_3:=blk_frozen BK185.out 3;have hfz120_4:=blk_frozen BK185.out 4))
                  refine bodyPost_ret (results_ct rfl _ _ gb185 35 #[.int .u32 0,.int .u64 0,.int .i64 0,.string (⟨#[]⟩ : ByteArray),.slice none 0 0] (0,0) _ rfl (by (with_reducible repeat (first|refine blk_drewN ?_ _|refine blk_drew ?_|refine blk_alloc ?_ _));refine blk_put (cs:=#[.int .u32 0,.int .u64 0,.int .i64 0,.string (⟨#[]⟩ : ByteArray),.slice none 0 0]) ?_ 4 _ rfl;(with_reducible repeat (first|refine blk_drewN ?_ _|refine blk_drew ?_|refine blk_alloc ?_ _));refine blk_put (cs:=#[.int .u32 0,.int .u64 0,.int .i64 0,.string (⟨#[]⟩ : ByteArray),.slice none 0 0]) ?_ 3 _ rfl;(with_reducible repeat (first|refine blk_drewN ?_ _|refine blk_drew ?_|refine blk_alloc ?_ _));refine blk_put (cs:=#[.int .u32 0,.int .u64 0,.int .i64 0,.string (⟨#[]⟩ : ByteArray),.slice none 0 0]) ?_ 2 _ rfl;(with_reducible repeat (first|refine blk_drewN ?_ _|refine blk_drew ?_|refine blk_alloc ?_ _));refine blk_put (cs:=#[.int .u32 0,.int .u64 0,.int .i64 0,.string (⟨#[]⟩ : ByteArray),.slice none 0 0]) ?_ 1 _ rfl;(with_reducible repeat (first|refine blk_drewN ?_ _|refine blk_drew ?_|refine blk_alloc ?_ _));refine blk_put (cs:=#[.int .u32 0,.int .u64 0,.int .i64 0,.string (⟨#[]⟩ : ByteArray),.slice none 0 0]) ?_ 0 _ rfl;(with_reducible repeat (first|refine blk_drewN ?_ _|refine blk_drew ?_|refine blk_alloc ?_ _));exact BK185.out) Try.underlying35 rfl (by kernel_rfl)) rfl ?_
                  exact ⟨_,by first|rfl|(simp [errW_none,errW_some] <;> rfl)|(simp [*,errW_none,errW_some] <;> rfl),by first|exact Kd.R_nil _ _ _ _ _|exact Kd.N_nil _ _ _ _ _|exact Kd.V_nil _ _ _ _ _|exact Kd.Q_nil _ _ _ _ _|exact Kd.S_nil _ _ _ _ _,by repeat (first|(with_reducible first|exact HB.out|apply below_alloc|apply pw_below_drewN|apply below_drew1|refine below_set ?_ GE185.out|refine below_set ?_ GE191.out|refine below_set ?_ GE192.out)|exact HB.out)⟩
                ·rw [if_neg c100] at H
                 have c100b0 : (t238 == 0)=false:=beq_eq_false_iff_ne.mpr c100
                 have c100b1 : (t238 != 0)=true:=bne_iff_ne.mpr c100
                 simp only [Option.some.injEq,Prod.mk.injEq] at H
                 obtain ⟨rfl,rfl,rfl,rfl,rfl,rfl⟩:=H
                 obtain ⟨Ao121,co121,eo121⟩:=Kd.R_slice HO_7.out
                 subst eo121
                 have hnb122:=NB192_185.out
                 have hnc122:=NB185_192.out
                 have hnb123:=NB192_191.out
                 have hnc123:=NB191_192.out
                 have hcz124_0 : wr.cell? ⟨gb192,0,none⟩=some (.int .u32 ((t200) % 4294967296)):=(blk_cell BK192.out 0).trans rfl
                 have hcz124_1 : wr.cell? ⟨gb192,1,none⟩=some (.int .u64 t196):=(blk_cell BK192.out 1).trans rfl
                 have hcz124_2 : wr.cell? ⟨gb192,2,none⟩=some (.int .i64 (wrap64 (t204))):=(blk_cell BK192.out 2).trans rfl
                 have hcz124_3 : wr.cell? ⟨gb192,3,none⟩=some (.string t212):=(blk_cell BK192.out 3).trans rfl
                 have hcz124_4 : wr.cell? ⟨gb192,4,none⟩=some (u193004):=(blk_cell BK192.out 4).trans rfl
                 have hfz124_0:=blk_frozen BK192.out 0
                 have hfz124_1:=blk_frozen BK192.out 1
                 have hfz124_2:=blk_frozen BK192.out 2
                 have hfz124_3:=blk_frozen BK192.out 3
                 have hfz124_4:=blk_frozen BK192.out 4
                 obtain ⟨Ao125,co125,eo125⟩:=Kd.R_slice HO_193004.out
                 subst eo125
                 go_wp2_with (first|((with_reducible refine gate_callee (f:=9) rfl ?_);refine goesL_ (some 128) rfl rfl Try.func9 (by kernel_rfl) rfl #[.agg #[.int .u32 ((t200) % 4294967296),.int .u64 t196,.int .i64 (wrap64 (t204)),.string t212,.slice Ao125 x193004_2.length co125]] rfl (by (try simp only [List.map_toArray,List.map_cons,List.map_nil]);first|done|rfl|(simp only [List.length_drop,List.length_take];rfl)) ?_;(with_reducible refine (girderref03_Encode.calls k2 ((t200) % 4294967296) t196 (wrap64 (t204)) t212 _ _ x193004_2 t237 t238 _ ?side1 ?side2 A98.out).mono ?_);(case side1=>repeat (first|exact (Kd.R_reads' HO_193004.out).2.2|(with_reducible refine Kd.C_alloc ?_ _)|(with_reducible refine Kd.C_drewN ?_ _)|(with_reducible refine Kd.C_drew ?_)));(case side2=>exact (Kd.R_reads' HO_193004.out).2.1);rintro e w126 ⟨rfl,hb⟩;refine ⟨_,rfl,?_⟩;have n0_:=Aside0.mk (Kd.R_below (by (with_reducible repeat (first|apply Kd.R_alloc|apply Kd.R_drewN|apply Kd.R_drew));exact HO_7.out) hb);have n1_:=Aside0.mk (Kd.R_below (by (with_reducible repeat (first|apply Kd.R_alloc|apply Kd.R_drewN|apply Kd.R_drew));exact HO_193004.out) hb);have n2_:=Aside0.mk (blk_below (g:=gb185) (o:=.cells #[.int .u32 0,.int .u64 0,.int .i64 0,.string (⟨#[]⟩ : ByteArray),.slice none 0 0] 35 (0,0)) (by (with_reducible repeat (first|refine blk_drewN ?_ _|refine blk_drew ?_|refine blk_alloc ?_ _));exact BK185.out) hb);have n3_:=Aside0.mk (blk_below (g:=gb191) (o:=.cells #[.string x192000_2,.int .i64 x192001_2,.int .i64 x192002_2] 86 (0,0)) (by (with_reducible repeat (first|refine blk_drewN ?_ _|refine blk_drew ?_|refine blk_alloc ?_ _));exact BK191.out) hb);have n4_:=Aside0.mk (blk_below (g:=gb192) (o:=.cells #[.int .u32 ((t200) % 4294967296),.int .u64 t196,.int .i64 (wrap64 (t204)),.string t212,.slice Ao125 x193004_2.length co125] 35 (0,0)) (by (with_reducible repeat (first|refine blk_drewN ?_ _|refine blk_drew ?_|refine blk_alloc ?_ _));exact BK192.out) hb);have n5_:=Aside0.mk (below_step (by repeat (first|(with_reducible first|exact HB.out|apply below_alloc|apply pw_below_drewN|apply below_drew1|refine below_set ?_ GE185.out|refine below_set ?_ GE191.out|refine below_set ?_ GE192.out)|exact HB.out)) hb);clear HO_7;clear HO_193004;clear BK185;clear BK191;clear BK192;clear HB;have HO_7:=n0_;have HO_193004:=n1_;have BK185:=n2_;have BK191:=n3_;have BK192:=n4_;have HB:=n5_;clear n0_ n1_ n2_ n3_ n4_ n5_;(try clear hb);(try clear hb2);(try clear hk);(try clear hi);have hnb127:=NB191_185.out;have hnc127:=NB185_191.out;have hcz128_0 : w126.cell? ⟨gb191,0,none⟩=some (.string x192000_2):=(blk_cell BK191.out 0).trans rfl;have hcz128_1 : w126.cell? ⟨gb191,1,none⟩=some (.int .i64 x192001_2):=(blk_cell BK191.out 1).trans rfl;have hcz128_2 : w126.cell? ⟨gb191,2,none⟩=some (.int .i64 x192002_2):=(blk_cell BK191.out 2).trans rfl;have hfz128_0:=blk_frozen BK191.out 0;have hfz128_1:=blk_frozen BK191.out 1;have hfz128_2:=blk_frozen BK191.out 2;have hcz129_0 : w126.cell? ⟨gb185,0,none⟩=some (.int .u32 0):=(blk_cell BK185.out 0).trans rfl;have hcz129_1 : w126.cell? ⟨gb185,1,none⟩=some (.int .u64 0):=(blk_cell BK185.out 1).trans rfl;have hcz129_2 : w126.cell? ⟨gb185,2,none⟩=some (.int .i64 0):=(blk_cell BK185.out 2).trans rfl;have hcz129_3 : w126.cell? ⟨gb185,3,none⟩=some (.string (⟨#[]⟩ : ByteArray)):=(blk_cell BK185.out 3).trans rfl;have hcz129_4 : w126.cell? ⟨gb185,4,none⟩=some (.slice none 0 0):=(blk_cell BK185.out 4).trans rfl;have hfz129_0:=blk_frozen BK185.out 0;have hfz129_1:=blk_frozen BK185.out 1;have hfz129_2:=blk_frozen BK185.out 2;have hfz129_3:=blk_frozen BK185.out 3;have hfz129_4:=blk_frozen BK185.out 4))
                 refine bodyPost_ret (results_ct rfl _ _ gb185 35 #[.int .u32 0,.int .u64 0,.int .i64 0,.string (⟨#[]⟩ : ByteArray),.slice none 0 0] (0,0) _ rfl (by (with_reducible repeat (first|refine blk_drewN ?_ _|refine blk_drew ?_|refine blk_alloc ?_ _));refine blk_put (cs:=#[.int .u32 0,.int .u64 0,.int .i64 0,.string (⟨#[]⟩ : ByteArray),.slice none 0 0]) ?_ 4 _ rfl;(with_reducible repeat (first|refine blk_drewN ?_ _|refine blk_drew ?_|refine blk_alloc ?_ _));refine blk_put (cs:=#[.int .u32 0,.int .u64 0,.int .i64 0,.string (⟨#[]⟩ : ByteArray),.slice none 0 0]) ?_ 3 _ rfl;(with_reducible repeat (first|refine blk_drewN ?_ _|refine blk_drew ?_|refine blk_alloc ?_ _));refine blk_put (cs:=#[.int .u32 0,.int .u64 0,.int .i64 0,.string (⟨#[]⟩ : ByteArray),.slice none 0 0]) ?_ 2 _ rfl;(with_reducible repeat (first|refine blk_drewN ?_ _|refine blk_drew ?_|refine blk_alloc ?_ _));refine blk_put (cs:=#[.int .u32 0,.int .u64 0,.int .i64 0,.string (⟨#[]⟩ : ByteArray),.slice none 0 0]) ?_ 1 _ rfl;(with_reducible repeat (first|refine blk_drewN ?_ _|refine blk_drew ?_|refine blk_alloc ?_ _));refine blk_put (cs:=#[.int .u32 0,.int .u64 0,.int .i64 0,.string (⟨#[]⟩ : ByteArray),.slice none 0 0]) ?_ 0 _ rfl;(with_reducible repeat (first|refine blk_drewN ?_ _|refine blk_drew ?_|refine blk_alloc ?_ _));exact BK185.out) Try.underlying35 rfl (by kernel_rfl)) rfl ?_
                 exact ⟨_,by first|rfl|(simp [errW_none,errW_some] <;> rfl)|(simp [*,errW_none,errW_some] <;> rfl),by first|exact Kd.R_nil _ _ _ _ _|exact Kd.N_nil _ _ _ _ _|exact Kd.V_nil _ _ _ _ _|exact Kd.Q_nil _ _ _ _ _|exact Kd.S_nil _ _ _ _ _,by repeat (first|(with_reducible first|exact HB.out|apply below_alloc|apply pw_below_drewN|apply below_drew1|refine below_set ?_ GE185.out|refine below_set ?_ GE191.out|refine below_set ?_ GE192.out)|exact HB.out)⟩
               ·rw [if_neg c99] at H
                have c99b0 : (x192002_2 == 0)=false:=beq_eq_false_iff_ne.mpr c99
                have c99b1 : (x192002_2 != 0)=true:=bne_iff_ne.mpr c99
                simp only [Option.some.injEq,Prod.mk.injEq] at H
                obtain ⟨rfl,rfl,rfl,rfl,rfl,rfl⟩:=H
                obtain ⟨Ao130,co130,eo130⟩:=Kd.R_slice HO_7.out
                subst eo130
                have hnb131:=NB192_185.out
                have hnc131:=NB185_192.out
                have hnb132:=NB192_191.out
                have hnc132:=NB191_192.out
                have hcz133_0 : wr.cell? ⟨gb192,0,none⟩=some (.int .u32 ((t200) % 4294967296)):=(blk_cell BK192.out 0).trans rfl
                have hcz133_1 : wr.cell? ⟨gb192,1,none⟩=some (.int .u64 t196):=(blk_cell BK192.out 1).trans rfl
                have hcz133_2 : wr.cell? ⟨gb192,2,none⟩=some (.int .i64 (wrap64 (t204))):=(blk_cell BK192.out 2).trans rfl
                have hcz133_3 : wr.cell? ⟨gb192,3,none⟩=some (.string t212):=(blk_cell BK192.out 3).trans rfl
                have hcz133_4 : wr.cell? ⟨gb192,4,none⟩=some (u193004):=(blk_cell BK192.out 4).trans rfl
                have hfz133_0:=blk_frozen BK192.out 0
                have hfz133_1:=blk_frozen BK192.out 1
                have hfz133_2:=blk_frozen BK192.out 2
                have hfz133_3:=blk_frozen BK192.out 3
                have hfz133_4:=blk_frozen BK192.out 4
                obtain ⟨Ao134,co134,eo134⟩:=Kd.R_slice HO_193004.out
                subst eo134
                go_wp2_with (first|((with_reducible refine gate_callee (f:=9) rfl ?_);refine goesL_ (some 128) rfl rfl Try.func9 (by kernel_rfl) rfl #[.agg #[.int .u32 ((t200) % 4294967296),.int .u64 t196,.int .i64 (wrap64 (t204)),.string t212,.slice Ao134 x193004_2.length co134]] rfl (by (try simp only [List.map_toArray,List.map_cons,List.map_nil]);first|done|rfl|(simp only [List.length_drop,List.length_take];rfl)) ?_;(with_reducible refine (girderref03_Encode.calls k2 ((t200) % 4294967296) t196 (wrap64 (t204)) t212 _ _ x193004_2 t237 t238 _ ?side1 ?side2 A98.out).mono ?_);(case side1=>repeat (first|exact (Kd.R_reads' HO_193004.out).2.2|(with_reducible refine Kd.C_alloc ?_ _)|(with_reducible refine Kd.C_drewN ?_ _)|(with_reducible refine Kd.C_drew ?_)));(case side2=>exact (Kd.R_reads' HO_193004.out).2.1);rintro e w135 ⟨rfl,hb⟩;refine ⟨_,rfl,?_⟩;have n0_:=Aside0.mk (Kd.R_below (by (with_reducible repeat (first|apply Kd.R_alloc|apply Kd.R_drewN|apply Kd.R_drew));exact HO_7.out) hb);have n1_:=Aside0.mk (Kd.R_below (by (with_reducible repeat (first|apply Kd.R_alloc|apply Kd.R_drewN|apply Kd.R_drew));exact HO_193004.out) hb);have n2_:=Aside0.mk (blk_below (g:=gb185) (o:=.cells #[.int .u32 0,.int .u64 0,.int .i64 0,.string (⟨#[]⟩ : ByteArray),.slice none 0 0] 35 (0,0)) (by (with_reducible repeat (first|refine blk_drewN ?_ _|refine blk_drew ?_|refine blk_alloc ?_ _));exact BK185.out) hb);have n3_:=Aside0.mk (blk_below (g:=gb191) (o:=.cells #[.string x192000_2,.int .i64 x192001_2,.int .i64 x192002_2] 86 (0,0)) (by (with_reducible repeat (first|refine blk_drewN ?_ _|refine blk_drew ?_|refine blk_alloc ?_ _));exact BK191.out) hb);have n4_:=Aside0.mk (blk_below (g:=gb192) (o:=.cells #[.int .u32 ((t200) % 4294967296),.int .u64 t196,.int .i64 (wrap64 (t204)),.string t212,.slice Ao134 x193004_2.length co134] 35 (0,0)) (by (with_reducible repeat (first|refine blk_drewN ?_ _|refine blk_drew ?_|refine blk_alloc ?_ _));exact BK192.out) hb);have n5_:=Aside0.mk (below_step (by repeat (first|(with_reducible first|exact HB.out|apply below_alloc|apply pw_below_drewN|apply below_drew1|refine below_set ?_ GE185.out|refine below_set ?_ GE191.out|refine below_set ?_ GE192.out)|exact HB.out)) hb);clear HO_7;clear HO_193004;clear BK185;clear BK191;clear BK192;clear HB;have HO_7:=n0_;have HO_193004:=n1_;have BK185:=n2_;have BK191:=n3_;have BK192:=n4_;have HB:=n5_;clear n0_ n1_ n2_ n3_ n4_ n5_;(try clear hb);(try clear hb2);(try clear hk);(try clear hi);have hnb136:=NB191_185.out;have hnc136:=NB185_191.out;have hcz137_0 : w135.cell? ⟨gb191,0,none⟩=some (.string x192000_2):=(blk_cell BK191.out 0).trans rfl;have hcz137_1 : w135.cell? ⟨gb191,1,none⟩=some (.int .i64 x192001_2):=(blk_cell BK191.out 1).trans rfl;have hcz137_2 : w135.cell? ⟨gb191,2,none⟩=some (.int .i64 x192002_2):=(blk_cell BK191.out 2).trans rfl;have hfz137_0:=blk_frozen BK191.out 0;have hfz137_1:=blk_frozen BK191.out 1;have hfz137_2:=blk_frozen BK191.out 2;have hcz138_0 : w135.cell? ⟨gb185,0,none⟩=some (.int .u32 0):=(blk_cell BK185.out 0).trans rfl;have hcz138_1 : w135.cell? ⟨gb185,1,none⟩=some (.int .u64 0):=(blk_cell BK185.out 1).trans rfl;have hcz138_2 : w135.cell? ⟨gb185,2,none⟩=some (.int .i64 0):=(blk_cell BK185.out 2).trans rfl;have hcz138_3 : w135.cell? ⟨gb185,3,none⟩=some (.string (⟨#[]⟩ : ByteArray)):=(blk_cell BK185.out 3).trans rfl;have hcz138_4 : w135.cell? ⟨gb185,4,none⟩=some (.slice none 0 0):=(blk_cell BK185.out 4).trans rfl;have hfz138_0:=blk_frozen BK185.out 0;have hfz138_1:=blk_frozen BK185.out 1;have hfz138_2:=blk_frozen BK185.out 2;have hfz138_3:=blk_frozen BK185.out 3;have hfz138_4:=blk_frozen BK185.out 4))
                refine bodyPost_ret (results_ct rfl _ _ gb185 35 #[.int .u32 0,.int .u64 0,.int .i64 0,.string (⟨#[]⟩ : ByteArray),.slice none 0 0] (0,0) _ rfl (by (with_reducible repeat (first|refine blk_drewN ?_ _|refine blk_drew ?_|refine blk_alloc ?_ _));refine blk_put (cs:=#[.int .u32 0,.int .u64 0,.int .i64 0,.string (⟨#[]⟩ : ByteArray),.slice none 0 0]) ?_ 4 _ rfl;(with_reducible repeat (first|refine blk_drewN ?_ _|refine blk_drew ?_|refine blk_alloc ?_ _));refine blk_put (cs:=#[.int .u32 0,.int .u64 0,.int .i64 0,.string (⟨#[]⟩ : ByteArray),.slice none 0 0]) ?_ 3 _ rfl;(with_reducible repeat (first|refine blk_drewN ?_ _|refine blk_drew ?_|refine blk_alloc ?_ _));refine blk_put (cs:=#[.int .u32 0,.int .u64 0,.int .i64 0,.string (⟨#[]⟩ : ByteArray),.slice none 0 0]) ?_ 2 _ rfl;(with_reducible repeat (first|refine blk_drewN ?_ _|refine blk_drew ?_|refine blk_alloc ?_ _));refine blk_put (cs:=#[.int .u32 0,.int .u64 0,.int .i64 0,.string (⟨#[]⟩ : ByteArray),.slice none 0 0]) ?_ 1 _ rfl;(with_reducible repeat (first|refine blk_drewN ?_ _|refine blk_drew ?_|refine blk_alloc ?_ _));refine blk_put (cs:=#[.int .u32 0,.int .u64 0,.int .i64 0,.string (⟨#[]⟩ : ByteArray),.slice none 0 0]) ?_ 0 _ rfl;(with_reducible repeat (first|refine blk_drewN ?_ _|refine blk_drew ?_|refine blk_alloc ?_ _));exact BK185.out) Try.underlying35 rfl (by kernel_rfl)) rfl ?_
                exact ⟨_,by first|rfl|(simp [errW_none,errW_some] <;> rfl)|(simp [*,errW_none,errW_some] <;> rfl),by first|exact Kd.R_nil _ _ _ _ _|exact Kd.N_nil _ _ _ _ _|exact Kd.V_nil _ _ _ _ _|exact Kd.Q_nil _ _ _ _ _|exact Kd.S_nil _ _ _ _ _,by repeat (first|(with_reducible first|exact HB.out|apply below_alloc|apply pw_below_drewN|apply below_drew1|refine below_set ?_ GE185.out|refine below_set ?_ GE191.out|refine below_set ?_ GE192.out)|exact HB.out)⟩
        ·rw [if_neg c21] at H
         have c21b0 : (t189 == (IntKind.u64.wrap (t190)))=false:=beq_eq_false_iff_ne.mpr c21
         have c21b1 : (t189 != (IntKind.u64.wrap (t190)))=true:=bne_iff_ne.mpr c21
         simp only [Option.some.injEq,Prod.mk.injEq] at H
         obtain ⟨rfl,rfl,rfl,rfl,rfl,rfl⟩:=H
         go_enter Try.func12,Try.ntmps12
         try go_wp2_with (first|((with_reducible refine gate_dst (N:=2) rfl ?_);refine box_event ?hg (N:=2) ?hd (cs:=#[.int .u32 0,.int .u64 0,.int .i64 0,.string (⟨#[]⟩ : ByteArray),.slice none 0 0]) (t:=35) ?hr ?_;(case hd=>rfl);(case hg=>rfl);(case hr=>first|(go_simp;done)|(go_simp;rfl));intro gb185 hg w139 hbox hb;have n0_:=Aside0.mk (below_step (by repeat (first|(with_reducible first|exact HB.out|apply below_alloc|apply pw_below_drewN|apply below_drew1)|exact HB.out)) hb);have n1_:=Aside0.mk (hbox);have n2_:=Aside0.mk ((by rw [hg];exact (below_size (by repeat (first|(with_reducible first|exact HB.out|apply below_alloc|apply pw_below_drewN|apply below_drew1)|exact HB.out))) : w.heap.size≤gb185));have n3_:=Aside0.mk ((by rw [hg];exact (below_size (by repeat (first|(with_reducible first|exact HB.out|apply below_alloc|apply pw_below_drewN|apply below_drew1)|exact HB.out))) : w.heap.size≤gb185));clear HB;have HB:=n0_;have BK185:=n1_;have GW185:=n2_;have GE185:=n3_;clear n0_ n1_ n2_ n3_;clear hb hbox hg)|((with_reducible refine gate_dst (N:=25) rfl ?_);refine Kd.R_make (Kd.int .u8) _ 5 rfl (N:=25) rfl 55 _ _ rfl 512 rfl rfl Try.underlying55 (.int .u8 0) 1 info5 rfl (by decide) (by omega) 0 (ok:=fun _=>True) (okp:=fun _=>True) rfl (fun _ hk=>hk) trivial (by omega) (by omega) (Below.refl _ _) (Nat.le_refl _) ?_;intro v187 w140 ho141 hb hg_ hnew_;clear hg_ hnew_;(first|rw [← Ny186.out] at ho141|(simp only [Int.reduceToNat] at ho141;rw [← Ny186.out] at ho141));have n0_:=Aside0.mk (Kd.R_lower ho141 (below_size (by repeat (first|(with_reducible first|exact HB.out|apply below_alloc|apply pw_below_drewN|apply below_drew1|refine below_set ?_ GE185.out)|exact HB.out))));have n1_:=Aside0.mk (blk_below (g:=gb185) (o:=.cells #[.int .u32 0,.int .u64 0,.int .i64 0,.string (⟨#[]⟩ : ByteArray),.slice none 0 0] 35 (0,0)) (by (with_reducible repeat (first|refine blk_drewN ?_ _|refine blk_drew ?_|refine blk_alloc ?_ _));exact BK185.out) hb);have n2_:=Aside0.mk (below_step (by repeat (first|(with_reducible first|exact HB.out|apply below_alloc|apply pw_below_drewN|apply below_drew1|refine below_set ?_ GE185.out)|exact HB.out)) hb);clear BK185;clear HB;have HO188:=n0_;have BK185:=n1_;have HB:=n2_;clear n0_ n1_ n2_;clear hb ho141;have hcv142:=own_string (P:=Try.prog) Try.underlying55 Try.underlying5 Try.underlying9 (Kd.own_of_R HO188.out)))
         have n0_:=Aside0.mk (Kd.R_drew HO188.out)
         have n1_:=Aside0.mk (blk_drew BK185.out)
         have n2_:=Aside0.mk (below_drew1 HB.out)
         clear HO188
         clear BK185
         clear HB
         have HO188:=n0_
         have BK185:=n1_
         have HB:=n2_
         clear n0_ n1_ n2_
         refine start_ (n:=5) (S:=fun w'=>True) (ds:=[]) #[false,false,false,false,false] (by kernel_rfl) rfl rfl trivial (fun hHeld=>?_)
         generalize w140.drew=w143 at HO188 BK185 HB hHeld ⊢
         refine pure_ (i:=0) (N:=some 29) (v:=?_) (a':=?_) #[true,false,false,false,false] rfl rfl (by kernel_rfl) (fun _ _ _ h=>h) (Or.inl ⟨by rfl,?_⟩) ?_ ?_
         rotate_left
         ·intro w'
          go_simp
          with_reducible rfl
         rotate_left
         ·simp only [Act.put,sA_,sB_,sC_,i64_w,i32_w]
          rfl
         refine pure_ (i:=1) (N:=some 30) (v:=?_) (a':=?_) #[true,true,false,false,false] rfl rfl (by kernel_rfl) (fun _ _ _ h=>h) (Or.inl ⟨by rfl,?_⟩) ?_ ?_
         rotate_left
         ·intro w'
          go_simp
          with_reducible rfl
         rotate_left
         ·simp only [Act.put,sA_,sB_,sC_,i64_w,i32_w]
          rfl
         refine pure_ (i:=2) (N:=some 31) (v:=?_) (a':=?_) #[true,true,true,false,false] rfl rfl (by kernel_rfl) (fun _ _ _ h=>h) (Or.inl ⟨by rfl,?_⟩) ?_ ?_
         rotate_left
         ·intro w'
          go_simp
          with_reducible rfl
         rotate_left
         ·simp only [Act.put,sA_,sB_,sC_,i64_w,i32_w]
          rfl
         refine pure_ (i:=3) (N:=some 32) (v:=?_) (a':=?_) #[true,true,true,true,false] rfl rfl (by kernel_rfl) (fun _ _ _ h=>h) (Or.inl ⟨by rfl,?_⟩) ?_ ?_
         rotate_left
         ·intro w'
          go_simp
          with_reducible rfl
         rotate_left
         ·simp only [Act.put,sA_,sB_,sC_,i64_w,i32_w]
          rfl
         refine pure_ (i:=4) (N:=some 33) (v:=?_) (a':=?_) #[true,true,true,true,true] rfl rfl (by kernel_rfl) (fun _ _ _ h=>h) (Or.inl ⟨by rfl,?_⟩) ?_ ?_
         rotate_left
         ·intro w'
          go_simp
          with_reducible rfl
         rotate_left
         ·simp only [Act.put,sA_,sB_,sC_,i64_w,i32_w]
          rfl
         refine done_ (by kernel_rfl) ?_
         try go_wp2
         have n0_:=Aside0.mk (Kd.R_drew HO188.out)
         have n1_:=Aside0.mk (blk_drew BK185.out)
         have n2_:=Aside0.mk (below_drew1 HB.out)
         clear HO188
         clear BK185
         clear HB
         have HO188:=n0_
         have BK185:=n1_
         have HB:=n2_
         clear n0_ n1_ n2_
         refine start_ (n:=8) (S:=fun w'=>True) (ds:=[]) #[false,false,false,false,false,false,false,false] (by kernel_rfl) rfl rfl trivial (fun hHeld=>?_);refine with_tabW girderref03_Decode.tab9 girderref03_Decode.bits9 (fun HT_ HW_=>?_)
         generalize w143.drew=w144 at HO188 BK185 HB hHeld ⊢
         refine pure_ (i:=0) (N:=some 35) (v:=?_) (a':=?_) #[true,false,false,false,false,false,false,false] rfl rfl (any_of HT_.out (by kernel_rfl)) (fun _ _ _ h=>h) (Or.inl ⟨by rfl,?_⟩) ?_ ?_
         rotate_left
         ·intro w'
          go_simp
          with_reducible rfl
         rotate_left
         ·simp only [Act.put,sA_,sB_,sC_,i64_w,i32_w]
          rfl
         refine pure_ (i:=1) (N:=some 36) (v:=?_) (a':=?_) #[true,true,false,false,false,false,false,false] rfl rfl (any_of HT_.out (by kernel_rfl)) (fun _ _ _ h=>h) (Or.inl ⟨by rfl,?_⟩) ?_ ?_
         rotate_left
         ·intro w'
          go_simp
          with_reducible rfl
         rotate_left
         ·simp only [Act.put,sA_,sB_,sC_,i64_w,i32_w]
          rfl
         refine pure_ (i:=3) (N:=some 38) (v:=?_) (a':=?_) #[true,true,false,true,false,false,false,false] rfl rfl (any_of HT_.out (by kernel_rfl)) (fun _ _ _ h=>h) (Or.inl ⟨by rfl,?_⟩) ?_ ?_
         rotate_left
         ·intro w'
          go_simp
          with_reducible rfl
         rotate_left
         ·simp only [Act.put,sA_,sB_,sC_,i64_w,i32_w]
          rfl
         refine pure_ (i:=4) (N:=some 39) (v:=?_) (a':=?_) #[true,true,false,true,true,false,false,false] rfl rfl (any_of HT_.out (by kernel_rfl)) (fun _ _ _ h=>h) (Or.inl ⟨by rfl,?_⟩) ?_ ?_
         rotate_left
         ·intro w'
          go_simp
          with_reducible rfl
         rotate_left
         ·simp only [Act.put,sA_,sB_,sC_,i64_w,i32_w]
          rfl
         refine one_ (i:=2) (N:=some 37) #[true,true,true,true,true,false,false,false] rfl rfl (one_of HT_.out (by kernel_rfl)) (by decide) (fun K hK=>?_)
         refine goes_ Try.func43 (by kernel_rfl) rfl #[.string (a0.extract 0 4)] (by rfl) rfl rfl (by (try simp only [List.map_toArray,List.map_cons,List.map_nil]);first|done|rfl|(simp only [List.length_drop,List.length_take];rfl)) ?_
         with_reducible refine (girderref01_Number.calls (a0.extract 0 4) t189 _ A18.out).mono ?_
         rintro e w' ⟨rfl,⟨nd,rfl⟩⟩
         refine ⟨_,rfl,?_⟩
         refine hK.out _ _ trivial (fun hHeld=>?_)
         clear hK K
         refine norm_ (a':=?_) ?_ ?_
         rotate_left
         ·show Act.put _ (some 37) _=_
          simp only [Act.put,sA_,sB_,sC_,i64_w,i32_w]
          rfl
         refine one_ (i:=5) (N:=some 40) #[true,true,true,true,true,true,false,false] rfl rfl (one_of HT_.out (by kernel_rfl)) (by decide) (fun K hK=>?_)
         refine goes_ Try.func36 (by kernel_rfl) rfl #[.int .u32 0,.string (a0.extract 4 a0.size)] (by rfl) rfl rfl (by (try simp only [List.map_toArray,List.map_cons,List.map_nil]);first|done|rfl|(simp only [List.length_drop,List.length_take];rfl)) ?_
         with_reducible refine (girderref01_More.calls 0 (a0.extract 4 a0.size) t190 _ A20.out).mono ?_
         rintro e w' ⟨rfl,⟨nd,rfl⟩⟩
         refine ⟨_,rfl,?_⟩
         refine hK.out _ _ trivial (fun hHeld=>?_)
         clear hK K
         refine norm_ (a':=?_) ?_ ?_
         rotate_left
         ·show Act.put _ (some 40) _=_
          simp only [Act.put,sA_,sB_,sC_,i64_w,i32_w]
          rfl
         refine pure_ (i:=6) (N:=some 41) (v:=?_) (a':=?_) #[true,true,true,true,true,true,true,false] rfl rfl (any_of HT_.out (by kernel_rfl)) (fun _ _ _ h=>h) (Or.inl ⟨by rfl,?_⟩) ?_ ?_
         rotate_left
         ·intro w'
          go_simp
          with_reducible rfl
         rotate_left
         ·simp only [Act.put,sA_,sB_,sC_,i64_w,i32_w]
          rfl
         refine pure_ (i:=7) (N:=some 42) (v:=?_) (a':=?_) #[true,true,true,true,true,true,true,true] rfl rfl (any_of HT_.out (by kernel_rfl)) (fun _ _ _ h=>h) (Or.inl ⟨by rfl,?_⟩) ?_ ?_
         rotate_left
         ·intro w'
          go_simp
          with_reducible rfl
         rotate_left
         ·simp only [Act.put,sA_,sB_,sC_,i64_w,i32_w]
          rfl
         refine done_ (done_of HT_.out (by kernel_rfl)) ?_
         have hcz145_0 : w144.cell? ⟨gb185,0,none⟩=some (.int .u32 0):=(blk_cell BK185.out 0).trans rfl
         have hcz145_1 : w144.cell? ⟨gb185,1,none⟩=some (.int .u64 0):=(blk_cell BK185.out 1).trans rfl
         have hcz145_2 : w144.cell? ⟨gb185,2,none⟩=some (.int .i64 0):=(blk_cell BK185.out 2).trans rfl
         have hcz145_3 : w144.cell? ⟨gb185,3,none⟩=some (.string (⟨#[]⟩ : ByteArray)):=(blk_cell BK185.out 3).trans rfl
         have hcz145_4 : w144.cell? ⟨gb185,4,none⟩=some (.slice none 0 0):=(blk_cell BK185.out 4).trans rfl
         have hfz145_0:=blk_frozen BK185.out 0
         have hfz145_1:=blk_frozen BK185.out 1
         have hfz145_2:=blk_frozen BK185.out 2
         have hfz145_3:=blk_frozen BK185.out 3
         have hfz145_4:=blk_frozen BK185.out 4
         try go_wp2
         refine bodyPost_ret (results_ct rfl _ _ gb185 35 #[.int .u32 0,.int .u64 0,.int .i64 0,.string (⟨#[]⟩ : ByteArray),.slice none 0 0] (0,0) _ rfl (by (with_reducible repeat (first|refine blk_drewN ?_ _|refine blk_drew ?_|refine blk_alloc ?_ _));refine blk_put (cs:=#[.int .u32 0,.int .u64 0,.int .i64 0,.string (⟨#[]⟩ : ByteArray),.slice none 0 0]) ?_ 4 _ rfl;(with_reducible repeat (first|refine blk_drewN ?_ _|refine blk_drew ?_|refine blk_alloc ?_ _));refine blk_put (cs:=#[.int .u32 0,.int .u64 0,.int .i64 0,.string (⟨#[]⟩ : ByteArray),.slice none 0 0]) ?_ 3 _ rfl;(with_reducible repeat (first|refine blk_drewN ?_ _|refine blk_drew ?_|refine blk_alloc ?_ _));refine blk_put (cs:=#[.int .u32 0,.int .u64 0,.int .i64 0,.string (⟨#[]⟩ : ByteArray),.slice none 0 0]) ?_ 2 _ rfl;(with_reducible repeat (first|refine blk_drewN ?_ _|refine blk_drew ?_|refine blk_alloc ?_ _));refine blk_put (cs:=#[.int .u32 0,.int .u64 0,.int .i64 0,.string (⟨#[]⟩ : ByteArray),.slice none 0 0]) ?_ 1 _ rfl;(with_reducible repeat (first|refine blk_drewN ?_ _|refine blk_drew ?_|refine blk_alloc ?_ _));refine blk_put (cs:=#[.int .u32 0,.int .u64 0,.int .i64 0,.string (⟨#[]⟩ : ByteArray),.slice none 0 0]) ?_ 0 _ rfl;(with_reducible repeat (first|refine blk_drewN ?_ _|refine blk_drew ?_|refine blk_alloc ?_ _));exact BK185.out) Try.underlying35 rfl (by kernel_rfl)) rfl ?_
         exact ⟨_,by first|rfl|(simp [errW_none,errW_some] <;> rfl)|(simp [*,errW_none,errW_some] <;> rfl),by first|exact Kd.R_nil _ _ _ _ _|exact Kd.N_nil _ _ _ _ _|exact Kd.V_nil _ _ _ _ _|exact Kd.Q_nil _ _ _ _ _|exact Kd.S_nil _ _ _ _ _,by repeat (first|(with_reducible first|exact HB.out|apply below_alloc|apply pw_below_drewN|apply below_drew1|refine below_set ?_ GE185.out)|exact HB.out)⟩
       ·rw [if_neg c17] at H
        exact absurd H (by simp)
      ·rw [if_neg c16] at H
       have c16b0 : ((a0.extract 4 12).toList == (a0.extract 504 a0.size).toList)=false:=beq_eq_false_iff_ne.mpr c16
       have c16b1 : ((a0.extract 4 12).toList != (a0.extract 504 a0.size).toList)=true:=bne_iff_ne.mpr c16
       simp only [Option.some.injEq,Prod.mk.injEq] at H
       obtain ⟨rfl,rfl,rfl,rfl,rfl,rfl⟩:=H
       go_enter Try.func12,Try.ntmps12
       try go_wp2_with (first|((with_reducible refine gate_dst (N:=2) rfl ?_);refine box_event ?hg (N:=2) ?hd (cs:=#[.int .u32 0,.int .u64 0,.int .i64 0,.string (⟨#[]⟩ : ByteArray),.slice none 0 0]) (t:=35) ?hr ?_;(case hd=>rfl);(case hg=>rfl);(case hr=>first|(go_simp;done)|(go_simp;rfl));intro gb185 hg w146 hbox hb;have n0_:=Aside0.mk (below_step (by repeat (first|(with_reducible first|exact HB.out|apply below_alloc|apply pw_below_drewN|apply below_drew1)|exact HB.out)) hb);have n1_:=Aside0.mk (hbox);have n2_:=Aside0.mk ((by rw [hg];exact (below_size (by repeat (first|(with_reducible first|exact HB.out|apply below_alloc|apply pw_below_drewN|apply below_drew1)|exact HB.out))) : w.heap.size≤gb185));have n3_:=Aside0.mk ((by rw [hg];exact (below_size (by repeat (first|(with_reducible first|exact HB.out|apply below_alloc|apply pw_below_drewN|apply below_drew1)|exact HB.out))) : w.heap.size≤gb185));clear HB;have HB:=n0_;have BK185:=n1_;have GW185:=n2_;have GE185:=n3_;clear n0_ n1_ n2_ n3_;clear hb hbox hg)|((with_reducible refine gate_dst (N:=25) rfl ?_);refine Kd.R_make (Kd.int .u8) _ 5 rfl (N:=25) rfl 55 _ _ rfl 512 rfl rfl Try.underlying55 (.int .u8 0) 1 info5 rfl (by decide) (by omega) 0 (ok:=fun _=>True) (okp:=fun _=>True) rfl (fun _ hk=>hk) trivial (by omega) (by omega) (Below.refl _ _) (Nat.le_refl _) ?_;intro v187 w147 ho148 hb hg_ hnew_;clear hg_ hnew_;(first|rw [← Ny186.out] at ho148|(simp only [Int.reduceToNat] at ho148;rw [← Ny186.out] at ho148));have n0_:=Aside0.mk (Kd.R_lower ho148 (below_size (by repeat (first|(with_reducible first|exact HB.out|apply below_alloc|apply pw_below_drewN|apply below_drew1|refine below_set ?_ GE185.out)|exact HB.out))));have n1_:=Aside0.mk (blk_below (g:=gb185) (o:=.cells #[.int .u32 0,.int .u64 0,.int .i64 0,.string (⟨#[]⟩ : ByteArray),.slice none 0 0] 35 (0,0)) (by (with_reducible repeat (first|refine blk_drewN ?_ _|refine blk_drew ?_|refine blk_alloc ?_ _));exact BK185.out) hb);have n2_:=Aside0.mk (below_step (by repeat (first|(with_reducible first|exact HB.out|apply below_alloc|apply pw_below_drewN|apply below_drew1|refine below_set ?_ GE185.out)|exact HB.out)) hb);clear BK185;clear HB;have HO188:=n0_;have BK185:=n1_;have HB:=n2_;clear n0_ n1_ n2_;clear hb ho148;have hcv149:=own_string (P:=Try.prog) Try.underlying55 Try.underlying5 Try.underlying9 (Kd.own_of_R HO188.out)))
       have n0_:=Aside0.mk (Kd.R_drew HO188.out)
       have n1_:=Aside0.mk (blk_drew BK185.out)
       have n2_:=Aside0.mk (below_drew1 HB.out)
       clear HO188
       clear BK185
       clear HB
       have HO188:=n0_
       have BK185:=n1_
       have HB:=n2_
       clear n0_ n1_ n2_
       refine start_ (n:=5) (S:=fun w'=>True) (ds:=[]) #[false,false,false,false,false] (by kernel_rfl) rfl rfl trivial (fun hHeld=>?_)
       generalize w147.drew=w150 at HO188 BK185 HB hHeld ⊢
       refine pure_ (i:=0) (N:=some 29) (v:=?_) (a':=?_) #[true,false,false,false,false] rfl rfl (by kernel_rfl) (fun _ _ _ h=>h) (Or.inl ⟨by rfl,?_⟩) ?_ ?_
       rotate_left
       ·intro w'
        go_simp
        with_reducible rfl
       rotate_left
       ·simp only [Act.put,sA_,sB_,sC_,i64_w,i32_w]
        rfl
       refine pure_ (i:=1) (N:=some 30) (v:=?_) (a':=?_) #[true,true,false,false,false] rfl rfl (by kernel_rfl) (fun _ _ _ h=>h) (Or.inl ⟨by rfl,?_⟩) ?_ ?_
       rotate_left
       ·intro w'
        go_simp
        with_reducible rfl
       rotate_left
       ·simp only [Act.put,sA_,sB_,sC_,i64_w,i32_w]
        rfl
       refine pure_ (i:=2) (N:=some 31) (v:=?_) (a':=?_) #[true,true,true,false,false] rfl rfl (by kernel_rfl) (fun _ _ _ h=>h) (Or.inl ⟨by rfl,?_⟩) ?_ ?_
       rotate_left
       ·intro w'
        go_simp
        with_reducible rfl
       rotate_left
       ·simp only [Act.put,sA_,sB_,sC_,i64_w,i32_w]
        rfl
       refine pure_ (i:=3) (N:=some 32) (v:=?_) (a':=?_) #[true,true,true,true,false] rfl rfl (by kernel_rfl) (fun _ _ _ h=>h) (Or.inl ⟨by rfl,?_⟩) ?_ ?_
       rotate_left
       ·intro w'
        go_simp
        with_reducible rfl
       rotate_left
       ·simp only [Act.put,sA_,sB_,sC_,i64_w,i32_w]
        rfl
       refine pure_ (i:=4) (N:=some 33) (v:=?_) (a':=?_) #[true,true,true,true,true] rfl rfl (by kernel_rfl) (fun _ _ _ h=>h) (Or.inl ⟨by rfl,?_⟩) ?_ ?_
       rotate_left
       ·intro w'
        go_simp
        with_reducible rfl
       rotate_left
       ·simp only [Act.put,sA_,sB_,sC_,i64_w,i32_w]
        rfl
       refine done_ (by kernel_rfl) ?_
       have hcz151_0 : w150.cell? ⟨gb185,0,none⟩=some (.int .u32 0):=(blk_cell BK185.out 0).trans rfl
       have hcz151_1 : w150.cell? ⟨gb185,1,none⟩=some (.int .u64 0):=(blk_cell BK185.out 1).trans rfl
       have hcz151_2 : w150.cell? ⟨gb185,2,none⟩=some (.int .i64 0):=(blk_cell BK185.out 2).trans rfl
       have hcz151_3 : w150.cell? ⟨gb185,3,none⟩=some (.string (⟨#[]⟩ : ByteArray)):=(blk_cell BK185.out 3).trans rfl
       have hcz151_4 : w150.cell? ⟨gb185,4,none⟩=some (.slice none 0 0):=(blk_cell BK185.out 4).trans rfl
       have hfz151_0:=blk_frozen BK185.out 0
       have hfz151_1:=blk_frozen BK185.out 1
       have hfz151_2:=blk_frozen BK185.out 2
       have hfz151_3:=blk_frozen BK185.out 3
       have hfz151_4:=blk_frozen BK185.out 4
       try go_wp2
       refine bodyPost_ret (results_ct rfl _ _ gb185 35 #[.int .u32 0,.int .u64 0,.int .i64 0,.string (⟨#[]⟩ : ByteArray),.slice none 0 0] (0,0) _ rfl (by (with_reducible repeat (first|refine blk_drewN ?_ _|refine blk_drew ?_|refine blk_alloc ?_ _));refine blk_put (cs:=#[.int .u32 0,.int .u64 0,.int .i64 0,.string (⟨#[]⟩ : ByteArray),.slice none 0 0]) ?_ 4 _ rfl;(with_reducible repeat (first|refine blk_drewN ?_ _|refine blk_drew ?_|refine blk_alloc ?_ _));refine blk_put (cs:=#[.int .u32 0,.int .u64 0,.int .i64 0,.string (⟨#[]⟩ : ByteArray),.slice none 0 0]) ?_ 3 _ rfl;(with_reducible repeat (first|refine blk_drewN ?_ _|refine blk_drew ?_|refine blk_alloc ?_ _));refine blk_put (cs:=#[.int .u32 0,.int .u64 0,.int .i64 0,.string (⟨#[]⟩ : ByteArray),.slice none 0 0]) ?_ 2 _ rfl;(with_reducible repeat (first|refine blk_drewN ?_ _|refine blk_drew ?_|refine blk_alloc ?_ _));refine blk_put (cs:=#[.int .u32 0,.int .u64 0,.int .i64 0,.string (⟨#[]⟩ : ByteArray),.slice none 0 0]) ?_ 1 _ rfl;(with_reducible repeat (first|refine blk_drewN ?_ _|refine blk_drew ?_|refine blk_alloc ?_ _));refine blk_put (cs:=#[.int .u32 0,.int .u64 0,.int .i64 0,.string (⟨#[]⟩ : ByteArray),.slice none 0 0]) ?_ 0 _ rfl;(with_reducible repeat (first|refine blk_drewN ?_ _|refine blk_drew ?_|refine blk_alloc ?_ _));exact BK185.out) Try.underlying35 rfl (by kernel_rfl)) rfl ?_
       exact ⟨_,by first|rfl|(simp [errW_none,errW_some] <;> rfl)|(simp [*,errW_none,errW_some] <;> rfl),by first|exact Kd.R_nil _ _ _ _ _|exact Kd.N_nil _ _ _ _ _|exact Kd.V_nil _ _ _ _ _|exact Kd.Q_nil _ _ _ _ _|exact Kd.S_nil _ _ _ _ _,by repeat (first|(with_reducible first|exact HB.out|apply below_alloc|apply pw_below_drewN|apply below_drew1|refine below_set ?_ GE185.out)|exact HB.out)⟩
     ·rw [if_neg c15] at H
      exact absurd H (by simp)
    ·rw [if_neg c14] at H
     exact absurd H (by simp)
end Go.Proofs.Yteokjmjfjdgmpaa.PPg
end
section
namespace Go.Proofs.Yteokjmjfjdgmpaa.PPg
open Go.RowKit Go.Proofs.YteokjmjfjdgmpaaW.PrintWords Go.Proofs.YteokjmjfjdgmpaaW.PrintLast Go.Proofs.YteokjmjfjdgmpaaW.PrintMore
attribute [local go_sem] max2_int min2_int max_two min_two max_three min_three max_four min_four
set_option linter.unusedVariables false
set_option linter.unusedSimpArgs false
def slices_Equal_string_string.l0 : Nat → List ByteArray → List ByteArray → Int → Int → Option (Bool)
 | 0,_,_,_,_=>none
 | k + 1,x0,x1,x12,x13=>if x13 < x12 then (if 0≤x13 then (if x13 < (x0.length : Int) then (if x13 < (x1.length : Int) then (if (rdOf ByteArray.empty x0 x13).toList=(rdOf ByteArray.empty x1 x13).toList then (slices_Equal_string_string.l0 k x0 x1 x12 (wrap64 (x13 + 1))) else (some false)) else (none)) else (none)) else (none)) else (some true)
def slices_Equal_string_string.f (k : Nat) (l0 : List ByteArray) (l1 : List ByteArray) : Option (Bool):=if (l0.length : Int)=(l1.length : Int) then (slices_Equal_string_string.l0 k l0 l1 (l0.length : Int) 0) else (some false)
set_option maxHeartbeats 8000000 in
set_option maxRecDepth 100000 in
theorem slices_Equal_string_string.calls (k : Nat) (A0 : Option Addr) (c0 : Nat) (l0 : List ByteArray) (A1 : Option Addr) (c1 : Nat) (l1 : List ByteArray) (r : Bool) (w : World) (hr0 : Kd.C Kd.string w A0 l0.length l0) (hc0 : l0.length≤c0) (hr1 : Kd.C Kd.string w A1 l1.length l1) (hc1 : l1.length≤c1) (h : slices_Equal_string_string.f k l0 l1=some r) :
  Calls Try.prog 46 #[.slice A0 l0.length c0,.slice A1 l1.length c1] w fun e w'=>e=.returned (.bool r)∧Drawn0 w w':=by
 have HR0:=Aside0.mk hr0
 have HC0:=Aside0.mk hc0
 clear hr0 hc0
 have HR1:=Aside0.mk hr1
 have HC1:=Aside0.mk hc1
 clear hr1 hc1
 have H : (if (l0.length : Int)=(l1.length : Int) then (slices_Equal_string_string.l0 k l0 l1 (l0.length : Int) 0) else (some false))=some r:=h
 clear h
 by_cases c3 : (l0.length : Int)=(l1.length : Int)
 ·rw [if_pos c3] at H
  have c3b0 : ((l0.length : Int) == (l1.length : Int))=true:=beq_iff_eq.mpr c3
  have c3b1 : ((l0.length : Int) != (l1.length : Int))=false:=bne_eq_false_iff_eq.mpr c3
  have c3b2 : (l0.length == l1.length)=true:=by first|simpa using c3|(simp at c3 ⊢;omega)
  clear c3
  have H':=Aside0.mk H
  clear H
  go_enter Try.func46,Try.ntmps46
  go_wp2
  repeat (go_quiet (fail);try go_wp2)
  go_loopg [13] k (fun kq v13 w'=>∃ (x13_1 : Int),v13=.int .i64 x13_1∧Aside0 (slices_Equal_string_string.l0 kq l0 l1 (l0.length : Int) x13_1=some r)∧Aside0 (kq≤k)∧Drawn0 w w')
  case atStart=>exact ⟨(0),(by first|rfl|(simp;done)|(simp [*];done)),H',⟨Nat.le_refl _⟩,by repeat (first|exact Drawn0.refl _|apply Drawn0.step)⟩
  case round =>
   clear H'
   try clear c1
   try clear p2
   try clear c3
   try clear c3b0
   try clear c3b1
   try clear c3b2
   obtain ⟨x13_1,rfl,HA,HK1,⟨m1,rfl⟩⟩:=hrel
   cases gk with
   | zero=>exact absurd HA.out (by simp [slices_Equal_string_string.l0])
   | succ k1 =>
    have H:=HA.out
    clear HA
    simp only [slices_Equal_string_string.l0] at H
    by_cases c4 : x13_1 < (l0.length : Int)
    ·rw [if_pos c4] at H
     have c4b0 : decide (x13_1 < (l0.length : Int))=true:=decide_eq_true c4
     clear c4
     by_cases c5 : 0≤x13_1
     ·rw [if_pos c5] at H
      have c5b0 : decide (0≤x13_1)=true:=decide_eq_true c5
      clear c5
      by_cases c6 : x13_1 < (l0.length : Int)
      ·rw [if_pos c6] at H
       have c6b0 : decide (x13_1 < (l0.length : Int))=true:=decide_eq_true c6
       clear c6
       by_cases c7 : x13_1 < (l1.length : Int)
       ·rw [if_pos c7] at H
        have c7b0 : decide (x13_1 < (l1.length : Int))=true:=decide_eq_true c7
        clear c7
        by_cases c8 : (rdOf ByteArray.empty l0 x13_1).toList=(rdOf ByteArray.empty l1 x13_1).toList
        ·rw [if_pos c8] at H
         have c8b0 : ((rdOf ByteArray.empty l0 x13_1).toList == (rdOf ByteArray.empty l1 x13_1).toList)=true:=beq_iff_eq.mpr c8
         have c8b1 : ((rdOf ByteArray.empty l0 x13_1).toList != (rdOf ByteArray.empty l1 x13_1).toList)=false:=bne_eq_false_iff_eq.mpr c8
         clear c8
         have H':=Aside0.mk H
         clear H
         have p239 : 0≤(x13_1 : Int):=of_decide_eq_true (by first|(with_reducible assumption)|assumption)
         have q239 : x13_1 < (l0.length : Int):=of_decide_eq_true (by first|(with_reducible assumption)|assumption)
         obtain ⟨ad239,e239,hx239_0⟩:=Kd.at_string HR0.out x13_1 p239 q239
         cases e239
         replace p239:=eq_true p239
         replace q239:=eq_true q239
         have p240 : 0≤(x13_1 : Int):=of_decide_eq_true (by first|(with_reducible assumption)|assumption)
         have q240 : x13_1 < (l1.length : Int):=of_decide_eq_true (by first|(with_reducible assumption)|assumption)
         obtain ⟨ad240,e240,hx240_0⟩:=Kd.at_string HR1.out x13_1 p240 q240
         cases e240
         replace p240:=eq_true p240
         replace q240:=eq_true q240
         go_wp2
         repeat (go_quiet (fail);try go_wp2)
         go_roundg k1
         case measure=>have:=HK1.out;omega
         case rel=>exact ⟨(wrap64 (x13_1 + 1)),(by first|rfl|(simp;done)|(simp [*];done)),H',⟨by have:=HK1.out;omega⟩,by repeat (first|exact Drawn0.refl _|apply Drawn0.step)⟩
        ·rw [if_neg c8] at H
         have c8b0 : ((rdOf ByteArray.empty l0 x13_1).toList == (rdOf ByteArray.empty l1 x13_1).toList)=false:=beq_eq_false_iff_ne.mpr c8
         have c8b1 : ((rdOf ByteArray.empty l0 x13_1).toList != (rdOf ByteArray.empty l1 x13_1).toList)=true:=bne_iff_ne.mpr c8
         obtain rfl:=Option.some.inj H
         have p239 : 0≤(x13_1 : Int):=of_decide_eq_true (by first|(with_reducible assumption)|assumption)
         have q239 : x13_1 < (l0.length : Int):=of_decide_eq_true (by first|(with_reducible assumption)|assumption)
         obtain ⟨ad239,e239,hx239_0⟩:=Kd.at_string HR0.out x13_1 p239 q239
         cases e239
         replace p239:=eq_true p239
         replace q239:=eq_true q239
         have p240 : 0≤(x13_1 : Int):=of_decide_eq_true (by first|(with_reducible assumption)|assumption)
         have q240 : x13_1 < (l1.length : Int):=of_decide_eq_true (by first|(with_reducible assumption)|assumption)
         obtain ⟨ad240,e240,hx240_0⟩:=Kd.at_string HR1.out x13_1 p240 q240
         cases e240
         replace p240:=eq_true p240
         replace q240:=eq_true q240
         go_wp2
         repeat (go_quiet (fail);try go_wp2)
         go_ret
         exact ⟨by first|rfl|(simp;done)|(simp [*];done),by repeat (first|exact Drawn0.refl _|apply Drawn0.step)⟩
       ·rw [if_neg c7] at H
        exact absurd H (by simp)
      ·rw [if_neg c6] at H
       exact absurd H (by simp)
     ·rw [if_neg c5] at H
      exact absurd H (by simp)
    ·rw [if_neg c4] at H
     have c4b0 : decide (x13_1 < (l0.length : Int))=false:=decide_eq_false c4
     clear c4
     obtain rfl:=Option.some.inj H
     go_wp2
     repeat (go_quiet (fail);try go_wp2)
     go_ret
     exact ⟨by first|rfl|(simp;done)|(simp [*];done),by repeat (first|exact Drawn0.refl _|apply Drawn0.step)⟩
 ·rw [if_neg c3] at H
  have c3b0 : ((l0.length : Int) == (l1.length : Int))=false:=beq_eq_false_iff_ne.mpr c3
  have c3b1 : ((l0.length : Int) != (l1.length : Int))=true:=bne_iff_ne.mpr c3
  have c3b2 : (l0.length == l1.length)=false:=by first|simpa using c3|(simp at c3 ⊢;omega)
  obtain rfl:=Option.some.inj H
  go_enter Try.func46,Try.ntmps46
  go_wp2
  repeat (go_quiet (fail);try go_wp2)
  go_ret
  exact ⟨by first|rfl|(simp;done)|(simp [*];done),by repeat (first|exact Drawn0.refl _|apply Drawn0.step)⟩
end Go.Proofs.Yteokjmjfjdgmpaa.PPg
end
section
namespace Go.Proofs.Yteokjmjfjdgmpaa.PPg
open Go.RowKit Go.Proofs.YteokjmjfjdgmpaaW.PrintWords Go.Proofs.YteokjmjfjdgmpaaW.PrintLast Go.Proofs.YteokjmjfjdgmpaaW.PrintMore
attribute [local go_sem] max2_int min2_int max_two min_two max_three min_three max_four min_four
set_option linter.unusedVariables false
set_option linter.unusedSimpArgs false
def page_Same.f (k : Nat) (a0_0 : Int) (a0_1 : Int) (a0_2 : Int) (a0_3 : ByteArray) (l0_4 : List ByteArray) (a1_0 : Int) (a1_1 : Int) (a1_2 : Int) (a1_3 : ByteArray) (l1_4 : List ByteArray) : Option (Bool):=if a0_0=a1_0 then (if a0_2=a1_2 then (if a0_3.toList=a1_3.toList then ((slices_Equal_string_string.f k l0_4 l1_4).bind fun t243=>(some t243)) else (some false)) else (some false)) else (some false)
set_option maxHeartbeats 8000000 in
set_option maxRecDepth 100000 in
theorem page_Same.calls (k : Nat) (a0_0 : Int) (a0_1 : Int) (a0_2 : Int) (a0_3 : ByteArray) (A0_4 : Option Addr) (c0_4 : Nat) (l0_4 : List ByteArray) (a1_0 : Int) (a1_1 : Int) (a1_2 : Int) (a1_3 : ByteArray) (A1_4 : Option Addr) (c1_4 : Nat) (l1_4 : List ByteArray) (r : Bool) (w : World) (hr0_4 : Kd.C Kd.string w A0_4 l0_4.length l0_4) (hc0_4 : l0_4.length≤c0_4) (hr1_4 : Kd.C Kd.string w A1_4 l1_4.length l1_4) (hc1_4 : l1_4.length≤c1_4) (h : page_Same.f k a0_0 a0_1 a0_2 a0_3 l0_4 a1_0 a1_1 a1_2 a1_3 l1_4=some r) :
  Calls Try.prog 17 #[.agg #[.int .u32 a0_0,.int .u64 a0_1,.int .i64 a0_2,.string a0_3,.slice A0_4 l0_4.length c0_4],.agg #[.int .u32 a1_0,.int .u64 a1_1,.int .i64 a1_2,.string a1_3,.slice A1_4 l1_4.length c1_4]] w fun e w'=>e=.returned (.bool r)∧Below w.heap.size w w':=by
 have hu28:=Try.underlying28
 have HR0_4:=Aside0.mk hr0_4
 have HC0_4:=Aside0.mk hc0_4
 clear hr0_4 hc0_4
 have HR1_4:=Aside0.mk hr1_4
 have HC1_4:=Aside0.mk hc1_4
 clear hr1_4 hc1_4
 have HB:=Aside0.mk (Below.refl w.heap.size w)
 have H : (if a0_0=a1_0 then (if a0_2=a1_2 then (if a0_3.toList=a1_3.toList then ((slices_Equal_string_string.f k l0_4 l1_4).bind fun t243=>(some t243)) else (some false)) else (some false)) else (some false))=some r:=h
 clear h
 by_cases c3 : a0_0=a1_0
 ·rw [if_pos c3] at H
  have c3b0 : (a0_0 == a1_0)=true:=beq_iff_eq.mpr c3
  have c3b1 : (a0_0 != a1_0)=false:=bne_eq_false_iff_eq.mpr c3
  clear c3
  by_cases c4 : a0_2=a1_2
  ·rw [if_pos c4] at H
   have c4b0 : (a0_2 == a1_2)=true:=beq_iff_eq.mpr c4
   have c4b1 : (a0_2 != a1_2)=false:=bne_eq_false_iff_eq.mpr c4
   clear c4
   by_cases c5 : a0_3.toList=a1_3.toList
   ·rw [if_pos c5] at H
    have c5b0 : (a0_3.toList == a1_3.toList)=true:=beq_iff_eq.mpr c5
    have c5b1 : (a0_3.toList != a1_3.toList)=false:=bne_eq_false_iff_eq.mpr c5
    clear c5
    replace H:=Option.bind_eq_some_iff.mp H
    obtain ⟨t243,A60,H⟩:=H
    replace H : (some t243)=some r:=H
    have A6:=Aside0.mk A60
    clear A60
    obtain rfl:=Option.some.inj H
    go_enter Try.func17,Try.ntmps17
    go_wp2_with (first|((with_reducible refine gate_dst (N:=2) rfl ?_);refine box_event ?hg (N:=2) ?hd (cs:=#[.int .u32 a0_0,.int .u64 a0_1,.int .i64 a0_2,.string a0_3,.slice A0_4 l0_4.length c0_4]) (t:=28) ?hr ?_;(case hd=>rfl);(case hg=>rfl);(case hr=>first|(go_simp;done)|(go_simp;rfl));intro gb241 hg w7 hbox hb;have n0_:=Aside0.mk (below_step (by repeat (first|(with_reducible first|exact HB.out|apply below_alloc|apply pw_below_drewN|apply below_drew1)|exact HB.out)) hb);have n1_:=Aside0.mk (hbox);have n2_:=Aside0.mk ((by rw [hg];exact (below_size (by repeat (first|(with_reducible first|exact HB.out|apply below_alloc|apply pw_below_drewN|apply below_drew1)|exact HB.out))) : w.heap.size≤gb241));have n3_:=Aside0.mk ((by rw [hg];exact (below_size (by repeat (first|(with_reducible first|exact HB.out|apply below_alloc|apply pw_below_drewN|apply below_drew1)|exact HB.out))) : w.heap.size≤gb241));clear HB;have HB:=n0_;have BK241:=n1_;have GW241:=n2_;have GE241:=n3_;clear n0_ n1_ n2_ n3_;clear hb hbox hg)|((with_reducible refine gate_dst (N:=3) rfl ?_);refine box_event ?hg (N:=3) ?hd (cs:=#[.int .u32 a1_0,.int .u64 a1_1,.int .i64 a1_2,.string a1_3,.slice A1_4 l1_4.length c1_4]) (t:=28) ?hr ?_;(case hd=>rfl);(case hg=>rfl);(case hr=>first|(go_simp;done)|(go_simp;rfl));intro gb242 hg w8 hbox hb;have n0_:=Aside0.mk (blk_below (g:=gb241) (o:=.cells #[.int .u32 a0_0,.int .u64 a0_1,.int .i64 a0_2,.string a0_3,.slice A0_4 l0_4.length c0_4] 28 (0,0)) (by (with_reducible repeat (first|refine blk_drewN ?_ _|refine blk_drew ?_|refine blk_alloc ?_ _));exact BK241.out) hb);have n1_:=Aside0.mk (below_step (by repeat (first|(with_reducible first|exact HB.out|apply below_alloc|apply pw_below_drewN|apply below_drew1|refine below_set ?_ GE241.out)|exact HB.out)) hb);have n2_:=Aside0.mk (hbox);have n3_:=Aside0.mk ((by rw [hg];exact (below_size (by repeat (first|(with_reducible first|exact HB.out|apply below_alloc|apply pw_below_drewN|apply below_drew1|refine below_set ?_ GE241.out)|exact HB.out))) : w.heap.size≤gb242));have n4_:=Aside0.mk ((by rw [hg];exact (below_size (by repeat (first|(with_reducible first|exact HB.out|apply below_alloc|apply pw_below_drewN|apply below_drew1|refine below_set ?_ GE241.out)|exact HB.out))) : w.heap.size≤gb242));have n5_:=Aside0.mk ((by rw [hg];exact Nat.ne_of_lt (blk_lt (g:=gb241) (o:=.cells #[.int .u32 a0_0,.int .u64 a0_1,.int .i64 a0_2,.string a0_3,.slice A0_4 l0_4.length c0_4] 28 (0,0)) (by (with_reducible repeat (first|refine blk_drewN ?_ _|refine blk_drew ?_|refine blk_alloc ?_ _));exact BK241.out)) : gb241≠gb242));have n6_:=Aside0.mk ((by rw [hg];exact Nat.ne_of_gt (blk_lt (g:=gb241) (o:=.cells #[.int .u32 a0_0,.int .u64 a0_1,.int .i64 a0_2,.string a0_3,.slice A0_4 l0_4.length c0_4] 28 (0,0)) (by (with_reducible repeat (first|refine blk_drewN ?_ _|refine blk_drew ?_|refine blk_alloc ?_ _));exact BK241.out)) : gb242≠gb241));clear BK241;clear HB;have BK241:=n0_;have HB:=n1_;have BK242:=n2_;have GW242:=n3_;have GE242:=n4_;have NB241_242:=n5_;have NB242_241:=n6_;clear n0_ n1_ n2_ n3_ n4_ n5_ n6_;clear hb hbox hg;have hnb9:=NB241_242.out;have hnc9:=NB242_241.out;have hcz10_0 : w8.cell? ⟨gb241,0,none⟩=some (.int .u32 a0_0):=(blk_cell BK241.out 0).trans rfl;have hcz10_1 : w8.cell? ⟨gb241,1,none⟩=some (.int .u64 a0_1):=(blk_cell BK241.out 1).trans rfl;have hcz10_2 : w8.cell? ⟨gb241,2,none⟩=some (.int .i64 a0_2):=(blk_cell BK241.out 2).trans rfl;have hcz10_3 : w8.cell? ⟨gb241,3,none⟩=some (.string a0_3):=(blk_cell BK241.out 3).trans rfl;have hcz10_4 : w8.cell? ⟨gb241,4,none⟩=some (.slice A0_4 l0_4.length c0_4):=(blk_cell BK241.out 4).trans rfl;have hfz10_0:=blk_frozen BK241.out 0;have hfz10_1:=blk_frozen BK241.out 1;have hfz10_2:=blk_frozen BK241.out 2;have hfz10_3:=blk_frozen BK241.out 3;have hfz10_4:=blk_frozen BK241.out 4;have hcz11_0 : w8.cell? ⟨gb242,0,none⟩=some (.int .u32 a1_0):=(blk_cell BK242.out 0).trans rfl;have hcz11_1 : w8.cell? ⟨gb242,1,none⟩=some (.int .u64 a1_1):=(blk_cell BK242.out 1).trans rfl;have hcz11_2 : w8.cell? ⟨gb242,2,none⟩=some (.int .i64 a1_2):=(blk_cell BK242.out 2).trans rfl;have hcz11_3 : w8.cell? ⟨gb242,3,none⟩=some (.string a1_3):=(blk_cell BK242.out 3).trans rfl;have hcz11_4 : w8.cell? ⟨gb242,4,none⟩=some (.slice A1_4 l1_4.length c1_4):=(blk_cell BK242.out 4).trans rfl;have hfz11_0:=blk_frozen BK242.out 0;have hfz11_1:=blk_frozen BK242.out 1;have hfz11_2:=blk_frozen BK242.out 2;have hfz11_3:=blk_frozen BK242.out 3;have hfz11_4:=blk_frozen BK242.out 4)|(go_at_call 46;(with_reducible refine (slices_Equal_string_string.calls k _ _ l0_4 _ _ l1_4 t243 _ ?side1 ?side2 ?side3 ?side4 A6.out).mono ?_);(case side1=>repeat (first|exact (Kd.C_below HR0_4.out HB.out)|(with_reducible refine Kd.C_alloc ?_ _)|(with_reducible refine Kd.C_drewN ?_ _)|(with_reducible refine Kd.C_drew ?_)));(case side2=>exact HC0_4.out);(case side3=>repeat (first|exact (Kd.C_below HR1_4.out HB.out)|(with_reducible refine Kd.C_alloc ?_ _)|(with_reducible refine Kd.C_drewN ?_ _)|(with_reducible refine Kd.C_drew ?_)));(case side4=>exact HC1_4.out);rintro e w' ⟨rfl,⟨nd,rfl⟩⟩))
    go_ret
    exact ⟨by first|rfl|(simp [errW_none,errW_some] <;> rfl)|(simp [*,errW_none,errW_some] <;> rfl),by repeat (first|(with_reducible first|exact HB.out|apply below_alloc|apply pw_below_drewN|apply below_drew1|refine below_set ?_ GE241.out|refine below_set ?_ GE242.out)|exact HB.out)⟩
   ·rw [if_neg c5] at H
    have c5b0 : (a0_3.toList == a1_3.toList)=false:=beq_eq_false_iff_ne.mpr c5
    have c5b1 : (a0_3.toList != a1_3.toList)=true:=bne_iff_ne.mpr c5
    obtain rfl:=Option.some.inj H
    go_enter Try.func17,Try.ntmps17
    go_wp2_with (first|((with_reducible refine gate_dst (N:=2) rfl ?_);refine box_event ?hg (N:=2) ?hd (cs:=#[.int .u32 a0_0,.int .u64 a0_1,.int .i64 a0_2,.string a0_3,.slice A0_4 l0_4.length c0_4]) (t:=28) ?hr ?_;(case hd=>rfl);(case hg=>rfl);(case hr=>first|(go_simp;done)|(go_simp;rfl));intro gb241 hg w12 hbox hb;have n0_:=Aside0.mk (below_step (by repeat (first|(with_reducible first|exact HB.out|apply below_alloc|apply pw_below_drewN|apply below_drew1)|exact HB.out)) hb);have n1_:=Aside0.mk (hbox);have n2_:=Aside0.mk ((by rw [hg];exact (below_size (by repeat (first|(with_reducible first|exact HB.out|apply below_alloc|apply pw_below_drewN|apply below_drew1)|exact HB.out))) : w.heap.size≤gb241));have n3_:=Aside0.mk ((by rw [hg];exact (below_size (by repeat (first|(with_reducible first|exact HB.out|apply below_alloc|apply pw_below_drewN|apply below_drew1)|exact HB.out))) : w.heap.size≤gb241));clear HB;have HB:=n0_;have BK241:=n1_;have GW241:=n2_;have GE241:=n3_;clear n0_ n1_ n2_ n3_;clear hb hbox hg)|((with_reducible refine gate_dst (N:=3) rfl ?_);refine box_event ?hg (N:=3) ?hd (cs:=#[.int .u32 a1_0,.int .u64 a1_1,.int .i64 a1_2,.string a1_3,.slice A1_4 l1_4.length c1_4]) (t:=28) ?hr ?_;(case hd=>rfl);(case hg=>rfl);(case hr=>first|(go_simp;done)|(go_simp;rfl));intro gb242 hg w13 hbox hb;have n0_:=Aside0.mk (blk_below (g:=gb241) (o:=.cells #[.int .u32 a0_0,.int .u64 a0_1,.int .i64 a0_2,.string a0_3,.slice A0_4 l0_4.length c0_4] 28 (0,0)) (by (with_reducible repeat (first|refine blk_drewN ?_ _|refine blk_drew ?_|refine blk_alloc ?_ _));exact BK241.out) hb);have n1_:=Aside0.mk (below_step (by repeat (first|(with_reducible first|exact HB.out|apply below_alloc|apply pw_below_drewN|apply below_drew1|refine below_set ?_ GE241.out)|exact HB.out)) hb);have n2_:=Aside0.mk (hbox);have n3_:=Aside0.mk ((by rw [hg];exact (below_size (by repeat (first|(with_reducible first|exact HB.out|apply below_alloc|apply pw_below_drewN|apply below_drew1|refine below_set ?_ GE241.out)|exact HB.out))) : w.heap.size≤gb242));have n4_:=Aside0.mk ((by rw [hg];exact (below_size (by repeat (first|(with_reducible first|exact HB.out|apply below_alloc|apply pw_below_drewN|apply below_drew1|refine below_set ?_ GE241.out)|exact HB.out))) : w.heap.size≤gb242));have n5_:=Aside0.mk ((by rw [hg];exact Nat.ne_of_lt (blk_lt (g:=gb241) (o:=.cells #[.int .u32 a0_0,.int .u64 a0_1,.int .i64 a0_2,.string a0_3,.slice A0_4 l0_4.length c0_4] 28 (0,0)) (by (with_reducible repeat (first|refine blk_drewN ?_ _|refine blk_drew ?_|refine blk_alloc ?_ _));exact BK241.out)) : gb241≠gb242));have n6_:=Aside0.mk ((by rw [hg];exact Nat.ne_of_gt (blk_lt (g:=gb241) (o:=.cells #[.int .u32 a0_0,.int .u64 a0_1,.int .i64 a0_2,.string a0_3,.slice A0_4 l0_4.length c0_4] 28 (0,0)) (by (with_reducible repeat (first|refine blk_drewN ?_ _|refine blk_drew ?_|refine blk_alloc ?_ _));exact BK241.out)) : gb242≠gb241));clear BK241;clear HB;have BK241:=n0_;have HB:=n1_;have BK242:=n2_;have GW242:=n3_;have GE242:=n4_;have NB241_242:=n5_;have NB242_241:=n6_;clear n0_ n1_ n2_ n3_ n4_ n5_ n6_;clear hb hbox hg;have hnb14:=NB241_242.out;have hnc14:=NB242_241.out;have hcz15_0 : w13.cell? ⟨gb241,0,none⟩=some (.int .u32 a0_0):=(blk_cell BK241.out 0).trans rfl;have hcz15_1 : w13.cell? ⟨gb241,1,none⟩=some (.int .u64 a0_1):=(blk_cell BK241.out 1).trans rfl;have hcz15_2 : w13.cell? ⟨gb241,2,none⟩=some (.int .i64 a0_2):=(blk_cell BK241.out 2).trans rfl;have hcz15_3 : w13.cell? ⟨gb241,3,none⟩=some (.string a0_3):=(blk_cell BK241.out 3).trans rfl;have hcz15_4 : w13.cell? ⟨gb241,4,none⟩=some (.slice A0_4 l0_4.length c0_4):=(blk_cell BK241.out 4).trans rfl;have hfz15_0:=blk_frozen BK241.out 0;have hfz15_1:=blk_frozen BK241.out 1;have hfz15_2:=blk_frozen BK241.out 2;have hfz15_3:=blk_frozen BK241.out 3;have hfz15_4:=blk_frozen BK241.out 4;have hcz16_0 : w13.cell? ⟨gb242,0,none⟩=some (.int .u32 a1_0):=(blk_cell BK242.out 0).trans rfl;have hcz16_1 : w13.cell? ⟨gb242,1,none⟩=some (.int .u64 a1_1):=(blk_cell BK242.out 1).trans rfl;have hcz16_2 : w13.cell? ⟨gb242,2,none⟩=some (.int .i64 a1_2):=(blk_cell BK242.out 2).trans rfl;have hcz16_3 : w13.cell? ⟨gb242,3,none⟩=some (.string a1_3):=(blk_cell BK242.out 3).trans rfl;have hcz16_4 : w13.cell? ⟨gb242,4,none⟩=some (.slice A1_4 l1_4.length c1_4):=(blk_cell BK242.out 4).trans rfl;have hfz16_0:=blk_frozen BK242.out 0;have hfz16_1:=blk_frozen BK242.out 1;have hfz16_2:=blk_frozen BK242.out 2;have hfz16_3:=blk_frozen BK242.out 3;have hfz16_4:=blk_frozen BK242.out 4))
    go_ret
    exact ⟨by first|rfl|(simp [errW_none,errW_some] <;> rfl)|(simp [*,errW_none,errW_some] <;> rfl),by repeat (first|(with_reducible first|exact HB.out|apply below_alloc|apply pw_below_drewN|apply below_drew1|refine below_set ?_ GE241.out|refine below_set ?_ GE242.out)|exact HB.out)⟩
  ·rw [if_neg c4] at H
   have c4b0 : (a0_2 == a1_2)=false:=beq_eq_false_iff_ne.mpr c4
   have c4b1 : (a0_2 != a1_2)=true:=bne_iff_ne.mpr c4
   obtain rfl:=Option.some.inj H
   go_enter Try.func17,Try.ntmps17
   go_wp2_with (first|((with_reducible refine gate_dst (N:=2) rfl ?_);refine box_event ?hg (N:=2) ?hd (cs:=#[.int .u32 a0_0,.int .u64 a0_1,.int .i64 a0_2,.string a0_3,.slice A0_4 l0_4.length c0_4]) (t:=28) ?hr ?_;(case hd=>rfl);(case hg=>rfl);(case hr=>first|(go_simp;done)|(go_simp;rfl));intro gb241 hg w17 hbox hb;have n0_:=Aside0.mk (below_step (by repeat (first|(with_reducible first|exact HB.out|apply below_alloc|apply pw_below_drewN|apply below_drew1)|exact HB.out)) hb);have n1_:=Aside0.mk (hbox);have n2_:=Aside0.mk ((by rw [hg];exact (below_size (by repeat (first|(with_reducible first|exact HB.out|apply below_alloc|apply pw_below_drewN|apply below_drew1)|exact HB.out))) : w.heap.size≤gb241));have n3_:=Aside0.mk ((by rw [hg];exact (below_size (by repeat (first|(with_reducible first|exact HB.out|apply below_alloc|apply pw_below_drewN|apply below_drew1)|exact HB.out))) : w.heap.size≤gb241));clear HB;have HB:=n0_;have BK241:=n1_;have GW241:=n2_;have GE241:=n3_;clear n0_ n1_ n2_ n3_;clear hb hbox hg)|((with_reducible refine gate_dst (N:=3) rfl ?_);refine box_event ?hg (N:=3) ?hd (cs:=#[.int .u32 a1_0,.int .u64 a1_1,.int .i64 a1_2,.string a1_3,.slice A1_4 l1_4.length c1_4]) (t:=28) ?hr ?_;(case hd=>rfl);(case hg=>rfl);(case hr=>first|(go_simp;done)|(go_simp;rfl));intro gb242 hg w18 hbox hb;have n0_:=Aside0.mk (blk_below (g:=gb241) (o:=.cells #[.int .u32 a0_0,.int .u64 a0_1,.int .i64 a0_2,.string a0_3,.slice A0_4 l0_4.length c0_4] 28 (0,0)) (by (with_reducible repeat (first|refine blk_drewN ?_ _|refine blk_drew ?_|refine blk_alloc ?_ _));exact BK241.out) hb);have n1_:=Aside0.mk (below_step (by repeat (first|(with_reducible first|exact HB.out|apply below_alloc|apply pw_below_drewN|apply below_drew1|refine below_set ?_ GE241.out)|exact HB.out)) hb);have n2_:=Aside0.mk (hbox);have n3_:=Aside0.mk ((by rw [hg];exact (below_size (by repeat (first|(with_reducible first|exact HB.out|apply below_alloc|apply pw_below_drewN|apply below_drew1|refine below_set ?_ GE241.out)|exact HB.out))) : w.heap.size≤gb242));have n4_:=Aside0.mk ((by rw [hg];exact (below_size (by repeat (first|(with_reducible first|exact HB.out|apply below_alloc|apply pw_below_drewN|apply below_drew1|refine below_set ?_ GE241.out)|exact HB.out))) : w.heap.size≤gb242));have n5_:=Aside0.mk ((by rw [hg];exact Nat.ne_of_lt (blk_lt (g:=gb241) (o:=.cells #[.int .u32 a0_0,.int .u64 a0_1,.int .i64 a0_2,.string a0_3,.slice A0_4 l0_4.length c0_4] 28 (0,0)) (by (with_reducible repeat (first|refine blk_drewN ?_ _|refine blk_drew ?_|refine blk_alloc ?_ _));exact BK241.out)) : gb241≠gb242));have n6_:=Aside0.mk ((by rw [hg];exact Nat.ne_of_gt (blk_lt (g:=gb241) (o:=.cells #[.int .u32 a0_0,.int .u64 a0_1,.int .i64 a0_2,.string a0_3,.slice A0_4 l0_4.length c0_4] 28 (0,0)) (by (with_reducible repeat (first|refine blk_drewN ?_ _|refine blk_drew ?_|refine blk_alloc ?_ _));exact BK241.out)) : gb242≠gb241));clear BK241;clear HB;have BK241:=n0_;have HB:=n1_;have BK242:=n2_;have GW242:=n3_;have GE242:=n4_;have NB241_242:=n5_;have NB242_241:=n6_;clear n0_ n1_ n2_ n3_ n4_ n5_ n6_;clear hb hbox hg;have hnb19:=NB241_242.out;have hnc19:=NB242_241.out;have hcz20_0 : w18.cell? ⟨gb241,0,none⟩=some (.int .u32 a0_0):=(blk_cell BK241.out 0).trans rfl;have hcz20_1 : w18.cell? ⟨gb241,1,none⟩=some (.int .u64 a0_1):=(blk_cell BK241.out 1).trans rfl;have hcz20_2 : w18.cell? ⟨gb241,2,none⟩=some (.int .i64 a0_2):=(blk_cell BK241.out 2).trans rfl;have hcz20_3 : w18.cell? ⟨gb241,3,none⟩=some (.string a0_3):=(blk_cell BK241.out 3).trans rfl;have hcz20_4 : w18.cell? ⟨gb241,4,none⟩=some (.slice A0_4 l0_4.length c0_4):=(blk_cell BK241.out 4).trans rfl;have hfz20_0:=blk_frozen BK241.out 0;have hfz20_1:=blk_frozen BK241.out 1;have hfz20_2:=blk_frozen BK241.out 2;have hfz20_3:=blk_frozen BK241.out 3;have hfz20_4:=blk_frozen BK241.out 4;have hcz21_0 : w18.cell? ⟨gb242,0,none⟩=some (.int .u32 a1_0):=(blk_cell BK242.out 0).trans rfl;have hcz21_1 : w18.cell? ⟨gb242,1,none⟩=some (.int .u64 a1_1):=(blk_cell BK242.out 1).trans rfl;have hcz21_2 : w18.cell? ⟨gb242,2,none⟩=some (.int .i64 a1_2):=(blk_cell BK242.out 2).trans rfl;have hcz21_3 : w18.cell? ⟨gb242,3,none⟩=some (.string a1_3):=(blk_cell BK242.out 3).trans rfl;have hcz21_4 : w18.cell? ⟨gb242,4,none⟩=some (.slice A1_4 l1_4.length c1_4):=(blk_cell BK242.out 4).trans rfl;have hfz21_0:=blk_frozen BK242.out 0;have hfz21_1:=blk_frozen BK242.out 1;have hfz21_2:=blk_frozen BK242.out 2;have hfz21_3:=blk_frozen BK242.out 3;have hfz21_4:=blk_frozen BK242.out 4))
   go_ret
   exact ⟨by first|rfl|(simp [errW_none,errW_some] <;> rfl)|(simp [*,errW_none,errW_some] <;> rfl),by repeat (first|(with_reducible first|exact HB.out|apply below_alloc|apply pw_below_drewN|apply below_drew1|refine below_set ?_ GE241.out|refine below_set ?_ GE242.out)|exact HB.out)⟩
 ·rw [if_neg c3] at H
  have c3b0 : (a0_0 == a1_0)=false:=beq_eq_false_iff_ne.mpr c3
  have c3b1 : (a0_0 != a1_0)=true:=bne_iff_ne.mpr c3
  obtain rfl:=Option.some.inj H
  go_enter Try.func17,Try.ntmps17
  go_wp2_with (first|((with_reducible refine gate_dst (N:=2) rfl ?_);refine box_event ?hg (N:=2) ?hd (cs:=#[.int .u32 a0_0,.int .u64 a0_1,.int .i64 a0_2,.string a0_3,.slice A0_4 l0_4.length c0_4]) (t:=28) ?hr ?_;(case hd=>rfl);(case hg=>rfl);(case hr=>first|(go_simp;done)|(go_simp;rfl));intro gb241 hg w22 hbox hb;have n0_:=Aside0.mk (below_step (by repeat (first|(with_reducible first|exact HB.out|apply below_alloc|apply pw_below_drewN|apply below_drew1)|exact HB.out)) hb);have n1_:=Aside0.mk (hbox);have n2_:=Aside0.mk ((by rw [hg];exact (below_size (by repeat (first|(with_reducible first|exact HB.out|apply below_alloc|apply pw_below_drewN|apply below_drew1)|exact HB.out))) : w.heap.size≤gb241));have n3_:=Aside0.mk ((by rw [hg];exact (below_size (by repeat (first|(with_reducible first|exact HB.out|apply below_alloc|apply pw_below_drewN|apply below_drew1)|exact HB.out))) : w.heap.size≤gb241));clear HB;have HB:=n0_;have BK241:=n1_;have GW241:=n2_;have GE241:=n3_;clear n0_ n1_ n2_ n3_;clear hb hbox hg)|((with_reducible refine gate_dst (N:=3) rfl ?_);refine box_event ?hg (N:=3) ?hd (cs:=#[.int .u32 a1_0,.int .u64 a1_1,.int .i64 a1_2,.string a1_3,.slice A1_4 l1_4.length c1_4]) (t:=28) ?hr ?_;(case hd=>rfl);(case hg=>rfl);(case hr=>first|(go_simp;done)|(go_simp;rfl));intro gb242 hg w23 hbox hb;have n0_:=Aside0.mk (blk_below (g:=gb241) (o:=.cells #[.int .u32 a0_0,.int .u64 a0_1,.int .i64 a0_2,.string a0_3,.slice A0_4 l0_4.length c0_4] 28 (0,0)) (by (with_reducible repeat (first|refine blk_drewN ?_ _|refine blk_drew ?_|refine blk_alloc ?_ _));exact BK241.out) hb);have n1_:=Aside0.mk (below_step (by repeat (first|(with_reducible first|exact HB.out|apply below_alloc|apply pw_below_drewN|apply below_drew1|refine below_set ?_ GE241.out)|exact HB.out)) hb);have n2_:=Aside0.mk (hbox);have n3_:=Aside0.mk ((by rw [hg];exact (below_size (by repeat (first|(with_reducible first|exact HB.out|apply below_alloc|apply pw_below_drewN|apply below_drew1|refine below_set ?_ GE241.out)|exact HB.out))) : w.heap.size≤gb242));have n4_:=Aside0.mk ((by rw [hg];exact (below_size (by repeat (first|(with_reducible first|exact HB.out|apply below_alloc|apply pw_below_drewN|apply below_drew1|refine below_set ?_ GE241.out)|exact HB.out))) : w.heap.size≤gb242));have n5_:=Aside0.mk ((by rw [hg];exact Nat.ne_of_lt (blk_lt (g:=gb241) (o:=.cells #[.int .u32 a0_0,.int .u64 a0_1,.int .i64 a0_2,.string a0_3,.slice A0_4 l0_4.length c0_4] 28 (0,0)) (by (with_reducible repeat (first|refine blk_drewN ?_ _|refine blk_drew ?_|refine blk_alloc ?_ _));exact BK241.out)) : gb241≠gb242));have n6_:=Aside0.mk ((by rw [hg];exact Nat.ne_of_gt (blk_lt (g:=gb241) (o:=.cells #[.int .u32 a0_0,.int .u64 a0_1,.int .i64 a0_2,.string a0_3,.slice A0_4 l0_4.length c0_4] 28 (0,0)) (by (with_reducible repeat (first|refine blk_drewN ?_ _|refine blk_drew ?_|refine blk_alloc ?_ _));exact BK241.out)) : gb242≠gb241));clear BK241;clear HB;have BK241:=n0_;have HB:=n1_;have BK242:=n2_;have GW242:=n3_;have GE242:=n4_;have NB241_242:=n5_;have NB242_241:=n6_;clear n0_ n1_ n2_ n3_ n4_ n5_ n6_;clear hb hbox hg;have hnb24:=NB241_242.out;have hnc24:=NB242_241.out;have hcz25_0 : w23.cell? ⟨gb241,0,none⟩=some (.int .u32 a0_0):=(blk_cell BK241.out 0).trans rfl;have hcz25_1 : w23.cell? ⟨gb241,1,none⟩=some (.int .u64 a0_1):=(blk_cell BK241.out 1).trans rfl;have hcz25_2 : w23.cell? ⟨gb241,2,none⟩=some (.int .i64 a0_2):=(blk_cell BK241.out 2).trans rfl;have hcz25_3 : w23.cell? ⟨gb241,3,none⟩=some (.string a0_3):=(blk_cell BK241.out 3).trans rfl;have hcz25_4 : w23.cell? ⟨gb241,4,none⟩=some (.slice A0_4 l0_4.length c0_4):=(blk_cell BK241.out 4).trans rfl;have hfz25_0:=blk_frozen BK241.out 0;have hfz25_1:=blk_frozen BK241.out 1;have hfz25_2:=blk_frozen BK241.out 2;have hfz25_3:=blk_frozen BK241.out 3;have hfz25_4:=blk_frozen BK241.out 4;have hcz26_0 : w23.cell? ⟨gb242,0,none⟩=some (.int .u32 a1_0):=(blk_cell BK242.out 0).trans rfl;have hcz26_1 : w23.cell? ⟨gb242,1,none⟩=some (.int .u64 a1_1):=(blk_cell BK242.out 1).trans rfl;have hcz26_2 : w23.cell? ⟨gb242,2,none⟩=some (.int .i64 a1_2):=(blk_cell BK242.out 2).trans rfl;have hcz26_3 : w23.cell? ⟨gb242,3,none⟩=some (.string a1_3):=(blk_cell BK242.out 3).trans rfl;have hcz26_4 : w23.cell? ⟨gb242,4,none⟩=some (.slice A1_4 l1_4.length c1_4):=(blk_cell BK242.out 4).trans rfl;have hfz26_0:=blk_frozen BK242.out 0;have hfz26_1:=blk_frozen BK242.out 1;have hfz26_2:=blk_frozen BK242.out 2;have hfz26_3:=blk_frozen BK242.out 3;have hfz26_4:=blk_frozen BK242.out 4))
  go_ret
  exact ⟨by first|rfl|(simp [errW_none,errW_some] <;> rfl)|(simp [*,errW_none,errW_some] <;> rfl),by repeat (first|(with_reducible first|exact HB.out|apply below_alloc|apply pw_below_drewN|apply below_drew1|refine below_set ?_ GE241.out|refine below_set ?_ GE242.out)|exact HB.out)⟩
end Go.Proofs.Yteokjmjfjdgmpaa.PPg
end
