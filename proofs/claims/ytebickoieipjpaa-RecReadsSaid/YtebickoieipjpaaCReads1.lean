import Derived.Test.YtebickoieipjpaaCReads0
section
namespace Go.Proofs.Ytebickoieipjpaa.PRr
open Go.RowKit Go.Proofs.YtebickoieipjpaaW.PrintWords Go.Proofs.YtebickoieipjpaaW.PrintLast Go.Proofs.YtebickoieipjpaaW.PrintMore
attribute [local go_sem] max2_int min2_int max_two min_two max_three min_three max_four min_four
set_option linter.unusedVariables false
set_option linter.unusedSimpArgs false
mutual
def girderref04_takeTables.l0 : Nat → Int → Int → ByteArray → Int → Int → Int → Int → Int → Int → Int → Int → Int → ByteArray → ByteArray → Int → Int → ByteArray → Int → Int → Bool → List (S56) → List (S58) → Option (ByteArray × Int × Int × Int × Int × Int × Int × Int × Int × Int × ByteArray × ByteArray × Int × Int × ByteArray × Int × Int × Bool × (List (S56)) × (List (S58)))
 | 0,_,_,_,_,_,_,_,_,_,_,_,_,_,_,_,_,_,_,_,_,_,_=>none
 | k + 1,x6,x7,x192000,x192001,x192002,x193000,x193001,x193002,x193003,x193004,x193005,x193006,x193007,x193008,x193009,x193010,x193011,x193012,x193013,x193014,x193015,x193016=>if x7 < x6 then (girderref04_takeTables.j1 k x6 x7 (x192002 == 0) x192000 x192001 x192002 x193000 x193001 x193002 x193003 x193004 x193005 x193006 x193007 x193008 x193009 x193010 x193011 x193012 x193013 x193014 x193015 x193016) else (girderref04_takeTables.j1 k x6 x7 false x192000 x192001 x192002 x193000 x193001 x193002 x193003 x193004 x193005 x193006 x193007 x193008 x193009 x193010 x193011 x193012 x193013 x193014 x193015 x193016)
def girderref04_takeTables.j1 : Nat → Int → Int → Bool → ByteArray → Int → Int → Int → Int → Int → Int → Int → Int → Int → ByteArray → ByteArray → Int → Int → ByteArray → Int → Int → Bool → List (S56) → List (S58) → Option (ByteArray × Int × Int × Int × Int × Int × Int × Int × Int × Int × ByteArray × ByteArray × Int × Int × ByteArray × Int × Int × Bool × (List (S56)) × (List (S58)))
 | 0,_,_,_,_,_,_,_,_,_,_,_,_,_,_,_,_,_,_,_,_,_,_,_=>none
 | k + 1,x6,x7,x25,x192000,x192001,x192002,x193000,x193001,x193002,x193003,x193004,x193005,x193006,x193007,x193008,x193009,x193010,x193011,x193012,x193013,x193014,x193015,x193016=>if x25=true then ((girderref01_Reader_Number.f x192000 x192001 x192002 4).bind fun bt200=>((girderref01_Reader_Number.f bt200.1 bt200.2.1 bt200.2.2.1 1).bind fun bt204=>((girderref01_Reader_Number.f bt204.1 bt204.2.1 bt204.2.2.1 8).bind fun bt208=>((girderref01_Reader_Number.f bt208.1 bt208.2.1 bt208.2.2.1 8).bind fun bt212=>(if x193015.length < 4398046511104 then (girderref04_takeTables.l0 k x6 (IntKind.u64.wrap (x7 + 1)) bt212.1 bt212.2.1 bt212.2.2.1 x193000 x193001 x193002 x193003 x193004 x193005 x193006 x193007 x193008 x193009 x193010 x193011 x193012 x193013 x193014 (x193015 ++ [(⟨wrap64 (bt200.2.2.2),wrap64 (bt204.2.2.2),bt208.2.2.2,bt212.2.2.2⟩ : S56)]) x193016) else (none)))))) else ((girderref01_Reader_Number.f x192000 x192001 x192002 2).bind fun bt219=>(girderref04_takeTables.l1 k bt219.2.2.2 0 bt219.1 bt219.2.1 bt219.2.2.1 x193000 x193001 x193002 x193003 x193004 x193005 x193006 x193007 x193008 x193009 x193010 x193011 x193012 x193013 x193014 x193015 x193016))
def girderref04_takeTables.l1 : Nat → Int → Int → ByteArray → Int → Int → Int → Int → Int → Int → Int → Int → Int → ByteArray → ByteArray → Int → Int → ByteArray → Int → Int → Bool → List (S56) → List (S58) → Option (ByteArray × Int × Int × Int × Int × Int × Int × Int × Int × Int × ByteArray × ByteArray × Int × Int × ByteArray × Int × Int × Bool × (List (S56)) × (List (S58)))
 | 0,_,_,_,_,_,_,_,_,_,_,_,_,_,_,_,_,_,_,_,_,_,_=>none
 | k + 1,x6,x10,x192000,x192001,x192002,x193000,x193001,x193002,x193003,x193004,x193005,x193006,x193007,x193008,x193009,x193010,x193011,x193012,x193013,x193014,x193015,x193016=>if x10 < x6 then (girderref04_takeTables.j3 k x6 x10 (x192002 == 0) x192000 x192001 x192002 x193000 x193001 x193002 x193003 x193004 x193005 x193006 x193007 x193008 x193009 x193010 x193011 x193012 x193013 x193014 x193015 x193016) else (girderref04_takeTables.j3 k x6 x10 false x192000 x192001 x192002 x193000 x193001 x193002 x193003 x193004 x193005 x193006 x193007 x193008 x193009 x193010 x193011 x193012 x193013 x193014 x193015 x193016)
def girderref04_takeTables.j3 : Nat → Int → Int → Bool → ByteArray → Int → Int → Int → Int → Int → Int → Int → Int → Int → ByteArray → ByteArray → Int → Int → ByteArray → Int → Int → Bool → List (S56) → List (S58) → Option (ByteArray × Int × Int × Int × Int × Int × Int × Int × Int × Int × ByteArray × ByteArray × Int × Int × ByteArray × Int × Int × Bool × (List (S56)) × (List (S58)))
 | 0,_,_,_,_,_,_,_,_,_,_,_,_,_,_,_,_,_,_,_,_,_,_,_=>none
 | k + 1,x6,x10,x75,x192000,x192001,x192002,x193000,x193001,x193002,x193003,x193004,x193005,x193006,x193007,x193008,x193009,x193010,x193011,x193012,x193013,x193014,x193015,x193016=>if x75=true then ((girderref01_Reader_Number.f x192000 x192001 x192002 4).bind fun bt224=>((girderref01_Reader_Number.f bt224.1 bt224.2.1 bt224.2.2.1 8).bind fun bt228=>(if x193016.length < 8796093022208 then (girderref04_takeTables.l1 k x6 (IntKind.u64.wrap (x10 + 1)) bt228.1 bt228.2.1 bt228.2.2.1 x193000 x193001 x193002 x193003 x193004 x193005 x193006 x193007 x193008 x193009 x193010 x193011 x193012 x193013 x193014 x193015 (x193016 ++ [(⟨(bt224.2.2.2) % 4294967296,bt228.2.2.2⟩ : S58)])) else (none)))) else (some (x192000,x192001,x192002,x193000,x193001,x193002,x193003,x193004,x193005,x193006,x193007,x193008,x193009,x193010,x193011,x193012,x193013,x193014,x193015,x193016))
end
def girderref04_takeTables.f (k : Nat) (a0_0 : ByteArray) (a0_1 : Int) (a0_2 : Int) (a1_0 : Int) (a1_1 : Int) (a1_2 : Int) (a1_3 : Int) (a1_4 : Int) (a1_5 : Int) (a1_6 : Int) (a1_7 : ByteArray) (a1_8 : ByteArray) (a1_9 : Int) (a1_10 : Int) (a1_11 : ByteArray) (a1_12 : Int) (a1_13 : Int) (a1_14 : Bool) (l1_15 : List (S56)) (l1_16 : List (S58)) : Option (ByteArray × Int × Int × Int × Int × Int × Int × Int × Int × Int × ByteArray × ByteArray × Int × Int × ByteArray × Int × Int × Bool × (List (S56)) × (List (S58))):=(girderref01_Reader_Number.f a0_0 a0_1 a0_2 2).bind fun bt195=>(girderref04_takeTables.l0 k bt195.2.2.2 0 bt195.1 bt195.2.1 bt195.2.2.1 a1_0 a1_1 a1_2 a1_3 a1_4 a1_5 a1_6 a1_7 a1_8 a1_9 a1_10 a1_11 a1_12 a1_13 a1_14 l1_15 l1_16)
set_option maxHeartbeats 8000000 in
set_option maxRecDepth 100000 in
theorem girderref04_takeTables.calls (k : Nat) (a0_0 : ByteArray) (a0_1 : Int) (a0_2 : Int) (a1_0 : Int) (a1_1 : Int) (a1_2 : Int) (a1_3 : Int) (a1_4 : Int) (a1_5 : Int) (a1_6 : Int) (a1_7 : ByteArray) (a1_8 : ByteArray) (a1_9 : Int) (a1_10 : Int) (a1_11 : ByteArray) (a1_12 : Int) (a1_13 : Int) (a1_14 : Bool) (P1_15_ : Nat → Prop) (u9000_ : Value) (l1_15 : List (S56)) (P1_16_ : Nat → Prop) (u9001_ : Value) (l1_16 : List (S58)) (r1 : ByteArray) (r2 : Int) (r3 : Int) (r4 : Int) (r5 : Int) (r6 : Int) (r7 : Int) (r8 : Int) (r9 : Int) (r10 : Int) (r11 : ByteArray) (r12 : ByteArray) (r13 : Int) (r14 : Int) (r15 : ByteArray) (r16 : Int) (r17 : Int) (r18 : Bool) (r19 : List (S56)) (r20 : List (S58)) (w0 w : World) (hB : Below w0.heap.size w0 w) (ho1_15 : Kd.R k56 56 w w0.heap.size P1_15_ u9000_ l1_15) (ho1_16 : Kd.R k58 58 w w0.heap.size P1_16_ u9001_ l1_16) (h : girderref04_takeTables.f k a0_0 a0_1 a0_2 a1_0 a1_1 a1_2 a1_3 a1_4 a1_5 a1_6 a1_7 a1_8 a1_9 a1_10 a1_11 a1_12 a1_13 a1_14 l1_15 l1_16=some (r1,r2,r3,r4,r5,r6,r7,r8,r9,r10,r11,r12,r13,r14,r15,r16,r17,r18,r19,r20)) :
  Calls Try.prog 29 #[.agg #[.string a0_0,.int .i64 a0_1,.int .i64 a0_2],.agg #[.int .i64 a1_0,.int .i64 a1_1,.int .u64 a1_2,.int .u64 a1_3,.int .u32 a1_4,.int .i64 a1_5,.int .i64 a1_6,.string a1_7,.string a1_8,.int .i64 a1_9,.int .i64 a1_10,.string a1_11,.int .u32 a1_12,.int .i64 a1_13,.bool a1_14,u9000_,u9001_]] w fun e w'=>∃ v18_ v19_ : Value,e=.returned (.tuple #[.agg #[.string r1,.int .i64 r2,.int .i64 r3],.agg #[.int .i64 r4,.int .i64 r5,.int .u64 r6,.int .u64 r7,.int .u32 r8,.int .i64 r9,.int .i64 r10,.string r11,.string r12,.int .i64 r13,.int .i64 r14,.string r15,.int .u32 r16,.int .i64 r17,.bool r18,v18_,v19_]])∧Kd.R k56 56 w' w0.heap.size (fun k_=>((P1_15_ k_ ∨ P1_16_ k_) ∨ w.heap.size≤k_)) v18_ r19∧Kd.R k58 58 w' w0.heap.size (fun k_=>((P1_15_ k_ ∨ P1_16_ k_) ∨ w.heap.size≤k_)) v19_ r20∧Below w0.heap.size w0 w'∧Kept w w' (fun k_=>P1_15_ k_ ∨ P1_16_ k_):=by
 have hu81:=Try.underlying81
 have hu47:=Try.underlying47
 have hu56:=Try.underlying56
 have hu58:=Try.underlying58
 have HO1_15:=Aside0.mk (show Kd.R k56 56 w w0.heap.size (fun k_=>((P1_15_ k_ ∨ P1_16_ k_) ∨ w.heap.size≤k_)) u9000_ l1_15 from Kd.R_mono ho1_15 (fun k_ hk=>(.inl (.inl hk))))
 have HO1_16:=Aside0.mk (show Kd.R k58 58 w w0.heap.size (fun k_=>((P1_15_ k_ ∨ P1_16_ k_) ∨ w.heap.size≤k_)) u9001_ l1_16 from Kd.R_mono ho1_16 (fun k_ hk=>(.inl (.inr hk))))
 have HK:=Aside0.mk (Kept.refl w (fun k_=>P1_15_ k_ ∨ P1_16_ k_))
 have HW0:=Aside0.mk hB.size
 have HB:=Aside0.mk hB
 clear hB
 have H : ((girderref01_Reader_Number.f a0_0 a0_1 a0_2 2).bind fun bt195=>(girderref04_takeTables.l0 k bt195.2.2.2 0 bt195.1 bt195.2.1 bt195.2.2.1 a1_0 a1_1 a1_2 a1_3 a1_4 a1_5 a1_6 a1_7 a1_8 a1_9 a1_10 a1_11 a1_12 a1_13 a1_14 l1_15 l1_16))=some (r1,r2,r3,r4,r5,r6,r7,r8,r9,r10,r11,r12,r13,r14,r15,r16,r17,r18,r19,r20):=h
 clear h
 replace H:=Option.bind_eq_some_iff.mp H
 obtain ⟨⟨t195,t196,t197,t198⟩,A30,H⟩:=H
 replace H : (girderref04_takeTables.l0 k t198 0 t195 t196 t197 a1_0 a1_1 a1_2 a1_3 a1_4 a1_5 a1_6 a1_7 a1_8 a1_9 a1_10 a1_11 a1_12 a1_13 a1_14 l1_15 l1_16)=some (r1,r2,r3,r4,r5,r6,r7,r8,r9,r10,r11,r12,r13,r14,r15,r16,r17,r18,r19,r20):=H
 have A3:=Aside0.mk A30
 clear A30
 have H':=Aside0.mk H
 clear H
 go_enter Try.func29,Try.ntmps29
 go_wp2_with (first|((with_reducible refine gate_dst (N:=2) rfl ?_);refine box_event ?hg (N:=2) ?hd (cs:=#[.string a0_0,.int .i64 a0_1,.int .i64 a0_2]) (t:=81) ?hr ?_;(case hd=>rfl);(case hg=>rfl);(case hr=>first|(go_simp;done)|(go_simp;rfl));intro gb191 hg w4 hbox hb;have n0_:=Aside0.mk (Kd.R_below (by (with_reducible repeat (first|apply Kd.R_alloc|apply Kd.R_drewN|apply Kd.R_drew));exact HO1_15.out) hb);have n1_:=Aside0.mk (Kd.R_below (by (with_reducible repeat (first|apply Kd.R_alloc|apply Kd.R_drewN|apply Kd.R_drew));exact HO1_16.out) hb);have n2_:=Aside0.mk (Kept.below (S:=(fun k_=>P1_15_ k_ ∨ P1_16_ k_)) (by repeat (first|(with_reducible first|exact HK.out|apply Kept.alloc|apply Kept.drewN|apply Kept.drew)|exact HK.out)) hb);have n3_:=Aside0.mk (below_step (by repeat (first|(with_reducible first|exact HB.out|apply below_alloc|apply pw_below_drewN|apply below_drew1)|exact HB.out)) hb);have n4_:=Aside0.mk (hbox);have n5_:=Aside0.mk ((by rw [hg];exact (by first|exact HK.out.1|exact (show Kept w _ (fun k_=>P1_15_ k_ ∨ P1_16_ k_) from by repeat (first|(with_reducible first|exact HK.out|apply Kept.alloc|apply Kept.drewN|apply Kept.drew)|exact HK.out)).1) : w.heap.size≤gb191));have n6_:=Aside0.mk ((by rw [hg];exact (below_size (by repeat (first|(with_reducible first|exact HB.out|apply below_alloc|apply pw_below_drewN|apply below_drew1)|exact HB.out))) : w0.heap.size≤gb191));clear HO1_15;clear HO1_16;clear HK;clear HB;have HO1_15:=n0_;have HO1_16:=n1_;have HK:=n2_;have HB:=n3_;have BK191:=n4_;have GW191:=n5_;have GE191:=n6_;clear n0_ n1_ n2_ n3_ n4_ n5_ n6_;clear hb hbox hg;obtain ⟨Ao5,co5,eo5⟩:=Kd.R_slice HO1_15.out;subst eo5;obtain ⟨Ao6,co6,eo6⟩:=Kd.R_slice HO1_16.out;subst eo6)|((with_reducible refine gate_dst (N:=3) rfl ?_);refine box_event ?hg (N:=3) ?hd (cs:=#[.int .i64 a1_0,.int .i64 a1_1,.int .u64 a1_2,.int .u64 a1_3,.int .u32 a1_4,.int .i64 a1_5,.int .i64 a1_6,.string a1_7,.string a1_8,.int .i64 a1_9,.int .i64 a1_10,.string a1_11,.int .u32 a1_12,.int .i64 a1_13,.bool a1_14,.slice Ao5 l1_15.length co5,.slice Ao6 l1_16.length co6]) (t:=47) ?hr ?_;(case hd=>rfl);(case hg=>rfl);(case hr=>first|(go_simp;done)|(go_simp;rfl));intro gb192 hg w7 hbox hb;have n0_:=Aside0.mk (Kd.R_below (by (with_reducible repeat (first|apply Kd.R_alloc|apply Kd.R_drewN|apply Kd.R_drew));exact HO1_15.out) hb);have n1_:=Aside0.mk (Kd.R_below (by (with_reducible repeat (first|apply Kd.R_alloc|apply Kd.R_drewN|apply Kd.R_drew));exact HO1_16.out) hb);have n2_:=Aside0.mk (blk_below (g:=gb191) (o:=.cells #[.string a0_0,.int .i64 a0_1,.int .i64 a0_2] 81 (0,0)) (by (with_reducible repeat (first|refine blk_drewN ?_ _|refine blk_drew ?_|refine blk_alloc ?_ _));exact BK191.out) hb);have n3_:=Aside0.mk (Kept.below (S:=(fun k_=>P1_15_ k_ ∨ P1_16_ k_)) (by repeat (first|(with_reducible first|exact HK.out|apply Kept.alloc|apply Kept.drewN|apply Kept.drew|refine Kept.setCell ?_ (.inr GW191.out) _)|exact HK.out)) hb);have n4_:=Aside0.mk (below_step (by repeat (first|(with_reducible first|exact HB.out|apply below_alloc|apply pw_below_drewN|apply below_drew1|refine below_set ?_ GE191.out)|exact HB.out)) hb);have n5_:=Aside0.mk (hbox);have n6_:=Aside0.mk ((by rw [hg];exact (by first|exact HK.out.1|exact (show Kept w _ (fun k_=>P1_15_ k_ ∨ P1_16_ k_) from by repeat (first|(with_reducible first|exact HK.out|apply Kept.alloc|apply Kept.drewN|apply Kept.drew|refine Kept.setCell ?_ (.inr GW191.out) _)|exact HK.out)).1) : w.heap.size≤gb192));have n7_:=Aside0.mk ((by rw [hg];exact (below_size (by repeat (first|(with_reducible first|exact HB.out|apply below_alloc|apply pw_below_drewN|apply below_drew1|refine below_set ?_ GE191.out)|exact HB.out))) : w0.heap.size≤gb192));have n8_:=Aside0.mk ((by rw [hg];exact Nat.ne_of_lt (blk_lt (g:=gb191) (o:=.cells #[.string a0_0,.int .i64 a0_1,.int .i64 a0_2] 81 (0,0)) (by (with_reducible repeat (first|refine blk_drewN ?_ _|refine blk_drew ?_|refine blk_alloc ?_ _));exact BK191.out)) : gb191≠gb192));have n9_:=Aside0.mk ((by rw [hg];exact Nat.ne_of_gt (blk_lt (g:=gb191) (o:=.cells #[.string a0_0,.int .i64 a0_1,.int .i64 a0_2] 81 (0,0)) (by (with_reducible repeat (first|refine blk_drewN ?_ _|refine blk_drew ?_|refine blk_alloc ?_ _));exact BK191.out)) : gb192≠gb191));clear HO1_15;clear HO1_16;clear BK191;clear HK;clear HB;have HO1_15:=n0_;have HO1_16:=n1_;have BK191:=n2_;have HK:=n3_;have HB:=n4_;have BK192:=n5_;have GW192:=n6_;have GE192:=n7_;have NB191_192:=n8_;have NB192_191:=n9_;clear n0_ n1_ n2_ n3_ n4_ n5_ n6_ n7_ n8_ n9_;clear hb hbox hg)|((with_reducible refine gate_dst (N:=4) rfl ?_);refine box_event ?hg (N:=4) ?hd (cs:=#[.string (⟨#[]⟩ : ByteArray),.int .i64 0,.int .i64 0]) (t:=81) ?hr ?_;(case hd=>rfl);(case hg=>rfl);(case hr=>first|(go_simp;done)|(go_simp;rfl));intro gb193 hg w8 hbox hb;have n0_:=Aside0.mk (Kd.R_below (by (with_reducible repeat (first|apply Kd.R_alloc|apply Kd.R_drewN|apply Kd.R_drew));exact HO1_15.out) hb);have n1_:=Aside0.mk (Kd.R_below (by (with_reducible repeat (first|apply Kd.R_alloc|apply Kd.R_drewN|apply Kd.R_drew));exact HO1_16.out) hb);have n2_:=Aside0.mk (blk_below (g:=gb191) (o:=.cells #[.string a0_0,.int .i64 a0_1,.int .i64 a0_2] 81 (0,0)) (by (with_reducible repeat (first|refine blk_drewN ?_ _|refine blk_drew ?_|refine blk_alloc ?_ _));exact BK191.out) hb);have n3_:=Aside0.mk (blk_below (g:=gb192) (o:=.cells #[.int .i64 a1_0,.int .i64 a1_1,.int .u64 a1_2,.int .u64 a1_3,.int .u32 a1_4,.int .i64 a1_5,.int .i64 a1_6,.string a1_7,.string a1_8,.int .i64 a1_9,.int .i64 a1_10,.string a1_11,.int .u32 a1_12,.int .i64 a1_13,.bool a1_14,.slice Ao5 l1_15.length co5,.slice Ao6 l1_16.length co6] 47 (0,0)) (by (with_reducible repeat (first|refine blk_drewN ?_ _|refine blk_drew ?_|refine blk_alloc ?_ _));exact BK192.out) hb);have n4_:=Aside0.mk (Kept.below (S:=(fun k_=>P1_15_ k_ ∨ P1_16_ k_)) (by repeat (first|(with_reducible first|exact HK.out|apply Kept.alloc|apply Kept.drewN|apply Kept.drew|refine Kept.setCell ?_ (.inr GW191.out) _|refine Kept.setCell ?_ (.inr GW192.out) _)|exact HK.out)) hb);have n5_:=Aside0.mk (below_step (by repeat (first|(with_reducible first|exact HB.out|apply below_alloc|apply pw_below_drewN|apply below_drew1|refine below_set ?_ GE191.out|refine below_set ?_ GE192.out)|exact HB.out)) hb);have n6_:=Aside0.mk (hbox);have n7_:=Aside0.mk ((by rw [hg];exact (by first|exact HK.out.1|exact (show Kept w _ (fun k_=>P1_15_ k_ ∨ P1_16_ k_) from by repeat (first|(with_reducible first|exact HK.out|apply Kept.alloc|apply Kept.drewN|apply Kept.drew|refine Kept.setCell ?_ (.inr GW191.out) _|refine Kept.setCell ?_ (.inr GW192.out) _)|exact HK.out)).1) : w.heap.size≤gb193));have n8_:=Aside0.mk ((by rw [hg];exact (below_size (by repeat (first|(with_reducible first|exact HB.out|apply below_alloc|apply pw_below_drewN|apply below_drew1|refine below_set ?_ GE191.out|refine below_set ?_ GE192.out)|exact HB.out))) : w0.heap.size≤gb193));have n9_:=Aside0.mk ((by rw [hg];exact Nat.ne_of_lt (blk_lt (g:=gb191) (o:=.cells #[.string a0_0,.int .i64 a0_1,.int .i64 a0_2] 81 (0,0)) (by (with_reducible repeat (first|refine blk_drewN ?_ _|refine blk_drew ?_|refine blk_alloc ?_ _));exact BK191.out)) : gb191≠gb193));have n10_:=Aside0.mk ((by rw [hg];exact Nat.ne_of_gt (blk_lt (g:=gb191) (o:=.cells #[.string a0_0,.int .i64 a0_1,.int .i64 a0_2] 81 (0,0)) (by (with_reducible repeat (first|refine blk_drewN ?_ _|refine blk_drew ?_|refine blk_alloc ?_ _));exact BK191.out)) : gb193≠gb191));have n11_:=Aside0.mk ((by rw [hg];exact Nat.ne_of_lt (blk_lt (g:=gb192) (o:=.cells #[.int .i64 a1_0,.int .i64 a1_1,.int .u64 a1_2,.int .u64 a1_3,.int .u32 a1_4,.int .i64 a1_5,.int .i64 a1_6,.string a1_7,.string a1_8,.int .i64 a1_9,.int .i64 a1_10,.string a1_11,.int .u32 a1_12,.int .i64 a1_13,.bool a1_14,.slice Ao5 l1_15.length co5,.slice Ao6 l1_16.length co6] 47 (0,0)) (by (with_reducible repeat (first|refine blk_drewN ?_ _|refine blk_drew ?_|refine blk_alloc ?_ _));exact BK192.out)) : gb192≠gb193));have n12_:=Aside0.mk ((by rw [hg];exact Nat.ne_of_gt (blk_lt (g:=gb192) (o:=.cells #[.int .i64 a1_0,.int .i64 a1_1,.int .u64 a1_2,.int .u64 a1_3,.int .u32 a1_4,.int .i64 a1_5,.int .i64 a1_6,.string a1_7,.string a1_8,.int .i64 a1_9,.int .i64 a1_10,.string a1_11,.int .u32 a1_12,.int .i64 a1_13,.bool a1_14,.slice Ao5 l1_15.length co5,.slice Ao6 l1_16.length co6] 47 (0,0)) (by (with_reducible repeat (first|refine blk_drewN ?_ _|refine blk_drew ?_|refine blk_alloc ?_ _));exact BK192.out)) : gb193≠gb192));clear HO1_15;clear HO1_16;clear BK191;clear BK192;clear HK;clear HB;have HO1_15:=n0_;have HO1_16:=n1_;have BK191:=n2_;have BK192:=n3_;have HK:=n4_;have HB:=n5_;have BK193:=n6_;have GW193:=n7_;have GE193:=n8_;have NB191_193:=n9_;have NB193_191:=n10_;have NB192_193:=n11_;have NB193_192:=n12_;clear n0_ n1_ n2_ n3_ n4_ n5_ n6_ n7_ n8_ n9_ n10_ n11_ n12_;clear hb hbox hg)|((with_reducible refine gate_dst (N:=5) rfl ?_);refine box_event ?hg (N:=5) ?hd (cs:=#[.int .i64 0,.int .i64 0,.int .u64 0,.int .u64 0,.int .u32 0,.int .i64 0,.int .i64 0,.string (⟨#[]⟩ : ByteArray),.string (⟨#[]⟩ : ByteArray),.int .i64 0,.int .i64 0,.string (⟨#[]⟩ : ByteArray),.int .u32 0,.int .i64 0,.bool false,.slice none 0 0,.slice none 0 0]) (t:=47) ?hr ?_;(case hd=>rfl);(case hg=>rfl);(case hr=>first|(go_simp;done)|(go_simp;rfl));intro gb194 hg w9 hbox hb;have n0_:=Aside0.mk (Kd.R_below (by (with_reducible repeat (first|apply Kd.R_alloc|apply Kd.R_drewN|apply Kd.R_drew));exact HO1_15.out) hb);have n1_:=Aside0.mk (Kd.R_below (by (with_reducible repeat (first|apply Kd.R_alloc|apply Kd.R_drewN|apply Kd.R_drew));exact HO1_16.out) hb);have n2_:=Aside0.mk (blk_below (g:=gb191) (o:=.cells #[.string a0_0,.int .i64 a0_1,.int .i64 a0_2] 81 (0,0)) (by (with_reducible repeat (first|refine blk_drewN ?_ _|refine blk_drew ?_|refine blk_alloc ?_ _));exact BK191.out) hb);have n3_:=Aside0.mk (blk_below (g:=gb192) (o:=.cells #[.int .i64 a1_0,.int .i64 a1_1,.int .u64 a1_2,.int .u64 a1_3,.int .u32 a1_4,.int .i64 a1_5,.int .i64 a1_6,.string a1_7,.string a1_8,.int .i64 a1_9,.int .i64 a1_10,.string a1_11,.int .u32 a1_12,.int .i64 a1_13,.bool a1_14,.slice Ao5 l1_15.length co5,.slice Ao6 l1_16.length co6] 47 (0,0)) (by (with_reducible repeat (first|refine blk_drewN ?_ _|refine blk_drew ?_|refine blk_alloc ?_ _));exact BK192.out) hb);have n4_:=Aside0.mk (blk_below (g:=gb193) (o:=.cells #[.string (⟨#[]⟩ : ByteArray),.int .i64 0,.int .i64 0] 81 (0,0)) (by (with_reducible repeat (first|refine blk_drewN ?_ _|refine blk_drew ?_|refine blk_alloc ?_ _));exact BK193.out) hb);have n5_:=Aside0.mk (Kept.below (S:=(fun k_=>P1_15_ k_ ∨ P1_16_ k_)) (by repeat (first|(with_reducible first|exact HK.out|apply Kept.alloc|apply Kept.drewN|apply Kept.drew|refine Kept.setCell ?_ (.inr GW191.out) _|refine Kept.setCell ?_ (.inr GW192.out) _|refine Kept.setCell ?_ (.inr GW193.out) _)|exact HK.out)) hb);have n6_:=Aside0.mk (below_step (by repeat (first|(with_reducible first|exact HB.out|apply below_alloc|apply pw_below_drewN|apply below_drew1|refine below_set ?_ GE191.out|refine below_set ?_ GE192.out|refine below_set ?_ GE193.out)|exact HB.out)) hb);have n7_:=Aside0.mk (hbox);have n8_:=Aside0.mk ((by rw [hg];exact (by first|exact HK.out.1|exact (show Kept w _ (fun k_=>P1_15_ k_ ∨ P1_16_ k_) from by repeat (first|(with_reducible first|exact HK.out|apply Kept.alloc|apply Kept.drewN|apply Kept.drew|refine Kept.setCell ?_ (.inr GW191.out) _|refine Kept.setCell ?_ (.inr GW192.out) _|refine Kept.setCell ?_ (.inr GW193.out) _)|exact HK.out)).1) : w.heap.size≤gb194));have n9_:=Aside0.mk ((by rw [hg];exact (below_size (by repeat (first|(with_reducible first|exact HB.out|apply below_alloc|apply pw_below_drewN|apply below_drew1|refine below_set ?_ GE191.out|refine below_set ?_ GE192.out|refine below_set ?_ GE193.out)|exact HB.out))) : w0.heap.size≤gb194));have n10_:=Aside0.mk ((by rw [hg];exact Nat.ne_of_lt (blk_lt (g:=gb191) (o:=.cells #[.string a0_0,.int .i64 a0_1,.int .i64 a0_2] 81 (0,0)) (by (with_reducible repeat (first|refine blk_drewN ?_ _|refine blk_drew ?_|refine blk_alloc ?_ _));exact BK191.out)) : gb191≠gb194));have n11_:=Aside0.mk ((by rw [hg];exact Nat.ne_of_gt (blk_lt (g:=gb191) (o:=.cells #[.string a0_0,.int .i64 a0_1,.int .i64 a0_2] 81 (0,0)) (by (with_reducible repeat (first|refine blk_drewN ?_ _|refine blk_drew ?_|refine blk_alloc ?_ _));exact BK191.out)) : gb194≠gb191));have n12_:=Aside0.mk ((by rw [hg];exact Nat.ne_of_lt (blk_lt (g:=gb192) (o:=.cells #[.int .i64 a1_0,.int .i64 a1_1,.int .u64 a1_2,.int .u64 a1_3,.int .u32 a1_4,.int .i64 a1_5,.int .i64 a1_6,.string a1_7,.string a1_8,.int .i64 a1_9,.int .i64 a1_10,.string a1_11,.int .u32 a1_12,.int .i64 a1_13,.bool a1_14,.slice Ao5 l1_15.length co5,.slice Ao6 l1_16.length co6] 47 (0,0)) (by (with_reducible repeat (first|refine blk_drewN ?_ _|refine blk_drew ?_|refine blk_alloc ?_ _));exact BK192.out)) : gb192≠gb194));have n13_:=Aside0.mk ((by rw [hg];exact Nat.ne_of_gt (blk_lt (g:=gb192) (o:=.cells #[.int .i64 a1_0,.int .i64 a1_1,.int .u64 a1_2,.int .u64 a1_3,.int .u32 a1_4,.int .i64 a1_5,.int .i64 a1_6,.string a1_7,.string a1_8,.int .i64 a1_9,.int .i64 a1_10,.string a1_11,.int .u32 a1_12,.int .i64 a1_13,.bool a1_14,.slice Ao5 l1_15.length co5,.slice Ao6 l1_16.length co6] 47 (0,0)) (by (with_reducible repeat (first|refine blk_drewN ?_ _|refine blk_drew ?_|refine blk_alloc ?_ _));exact BK192.out)) : gb194≠gb192));have n14_:=Aside0.mk ((by rw [hg];exact Nat.ne_of_lt (blk_lt (g:=gb193) (o:=.cells #[.string (⟨#[]⟩ : ByteArray),.int .i64 0,.int .i64 0] 81 (0,0)) (by (with_reducible repeat (first|refine blk_drewN ?_ _|refine blk_drew ?_|refine blk_alloc ?_ _));exact BK193.out)) : gb193≠gb194));have n15_:=Aside0.mk ((by rw [hg];exact Nat.ne_of_gt (blk_lt (g:=gb193) (o:=.cells #[.string (⟨#[]⟩ : ByteArray),.int .i64 0,.int .i64 0] 81 (0,0)) (by (with_reducible repeat (first|refine blk_drewN ?_ _|refine blk_drew ?_|refine blk_alloc ?_ _));exact BK193.out)) : gb194≠gb193));clear HO1_15;clear HO1_16;clear BK191;clear BK192;clear BK193;clear HK;clear HB;have HO1_15:=n0_;have HO1_16:=n1_;have BK191:=n2_;have BK192:=n3_;have BK193:=n4_;have HK:=n5_;have HB:=n6_;have BK194:=n7_;have GW194:=n8_;have GE194:=n9_;have NB191_194:=n10_;have NB194_191:=n11_;have NB192_194:=n12_;have NB194_192:=n13_;have NB193_194:=n14_;have NB194_193:=n15_;clear n0_ n1_ n2_ n3_ n4_ n5_ n6_ n7_ n8_ n9_ n10_ n11_ n12_ n13_ n14_ n15_;clear hb hbox hg;have hnb10:=NB191_192.out;have hnc10:=NB192_191.out;have hnb11:=NB191_193.out;have hnc11:=NB193_191.out;have hnb12:=NB191_194.out;have hnc12:=NB194_191.out;have hcz13_0 : w9.cell? ⟨gb191,0,none⟩=some (.string a0_0):=(blk_cell BK191.out 0).trans rfl;have hcz13_1 : w9.cell? ⟨gb191,1,none⟩=some (.int .i64 a0_1):=(blk_cell BK191.out 1).trans rfl;have hcz13_2 : w9.cell? ⟨gb191,2,none⟩=some (.int .i64 a0_2):=(blk_cell BK191.out 2).trans rfl;have hfz13_0:=blk_frozen BK191.out 0;have hfz13_1:=blk_frozen BK191.out 1;have hfz13_2:=blk_frozen BK191.out 2)|((with_reducible refine gate_callee (f:=27) rfl ?_);refine goesL_ (some 15) rfl rfl Try.func27 (by kernel_rfl) rfl #[.agg #[.string a0_0,.int .i64 a0_1,.int .i64 a0_2],.int .i64 2] rfl (by (try simp only [List.map_toArray,List.map_cons,List.map_nil]);first|done|rfl|(simp only [List.length_drop,List.length_take];rfl)) ?_;(with_reducible refine (girderref01_Reader_Number.calls a0_0 a0_1 a0_2 2 t195 t196 t197 t198 _ A3.out).mono ?_);rintro e w14 ⟨rfl,hb⟩;refine ⟨_,rfl,?_⟩;have n0_:=Aside0.mk (Kd.R_below (by (with_reducible repeat (first|apply Kd.R_alloc|apply Kd.R_drewN|apply Kd.R_drew));exact HO1_15.out) hb);have n1_:=Aside0.mk (Kd.R_below (by (with_reducible repeat (first|apply Kd.R_alloc|apply Kd.R_drewN|apply Kd.R_drew));exact HO1_16.out) hb);have n2_:=Aside0.mk (blk_below (g:=gb191) (o:=.cells #[.string a0_0,.int .i64 a0_1,.int .i64 a0_2] 81 (0,0)) (by (with_reducible repeat (first|refine blk_drewN ?_ _|refine blk_drew ?_|refine blk_alloc ?_ _));exact BK191.out) hb);have n3_:=Aside0.mk (blk_below (g:=gb192) (o:=.cells #[.int .i64 a1_0,.int .i64 a1_1,.int .u64 a1_2,.int .u64 a1_3,.int .u32 a1_4,.int .i64 a1_5,.int .i64 a1_6,.string a1_7,.string a1_8,.int .i64 a1_9,.int .i64 a1_10,.string a1_11,.int .u32 a1_12,.int .i64 a1_13,.bool a1_14,.slice Ao5 l1_15.length co5,.slice Ao6 l1_16.length co6] 47 (0,0)) (by (with_reducible repeat (first|refine blk_drewN ?_ _|refine blk_drew ?_|refine blk_alloc ?_ _));exact BK192.out) hb);have n4_:=Aside0.mk (blk_below (g:=gb193) (o:=.cells #[.string (⟨#[]⟩ : ByteArray),.int .i64 0,.int .i64 0] 81 (0,0)) (by (with_reducible repeat (first|refine blk_drewN ?_ _|refine blk_drew ?_|refine blk_alloc ?_ _));exact BK193.out) hb);have n5_:=Aside0.mk (blk_below (g:=gb194) (o:=.cells #[.int .i64 0,.int .i64 0,.int .u64 0,.int .u64 0,.int .u32 0,.int .i64 0,.int .i64 0,.string (⟨#[]⟩ : ByteArray),.string (⟨#[]⟩ : ByteArray),.int .i64 0,.int .i64 0,.string (⟨#[]⟩ : ByteArray),.int .u32 0,.int .i64 0,.bool false,.slice none 0 0,.slice none 0 0] 47 (0,0)) (by (with_reducible repeat (first|refine blk_drewN ?_ _|refine blk_drew ?_|refine blk_alloc ?_ _));exact BK194.out) hb);have n6_:=Aside0.mk (Kept.below (S:=(fun k_=>P1_15_ k_ ∨ P1_16_ k_)) (by repeat (first|(with_reducible first|exact HK.out|apply Kept.alloc|apply Kept.drewN|apply Kept.drew|refine Kept.setCell ?_ (.inr GW191.out) _|refine Kept.setCell ?_ (.inr GW192.out) _|refine Kept.setCell ?_ (.inr GW193.out) _|refine Kept.setCell ?_ (.inr GW194.out) _)|exact HK.out)) hb);have n7_:=Aside0.mk (below_step (by repeat (first|(with_reducible first|exact HB.out|apply below_alloc|apply pw_below_drewN|apply below_drew1|refine below_set ?_ GE191.out|refine below_set ?_ GE192.out|refine below_set ?_ GE193.out|refine below_set ?_ GE194.out)|exact HB.out)) hb);clear HO1_15;clear HO1_16;clear BK191;clear BK192;clear BK193;clear BK194;clear HK;clear HB;have HO1_15:=n0_;have HO1_16:=n1_;have BK191:=n2_;have BK192:=n3_;have BK193:=n4_;have BK194:=n5_;have HK:=n6_;have HB:=n7_;clear n0_ n1_ n2_ n3_ n4_ n5_ n6_ n7_;(try clear hb);(try clear hb2);(try clear hk);(try clear hi);have hcz15_0 : w14.cell? ⟨gb191,0,none⟩=some (.string a0_0):=(blk_cell BK191.out 0).trans rfl;have hcz15_1 : w14.cell? ⟨gb191,1,none⟩=some (.int .i64 a0_1):=(blk_cell BK191.out 1).trans rfl;have hcz15_2 : w14.cell? ⟨gb191,2,none⟩=some (.int .i64 a0_2):=(blk_cell BK191.out 2).trans rfl;have hfz15_0:=blk_frozen BK191.out 0;have hfz15_1:=blk_frozen BK191.out 1;have hfz15_2:=blk_frozen BK191.out 2))
 go_loopg [7] k (fun kq v7 w'=>∃ (x7_1 : Int) (x192000_1 : ByteArray) (x192001_1 : Int) (x192002_1 : Int) (x193015_1 : List (S56)) (u193015 : Value),v7=.int .u64 x7_1∧Aside0 (girderref04_takeTables.l0 kq t198 x7_1 x192000_1 x192001_1 x192002_1 a1_0 a1_1 a1_2 a1_3 a1_4 a1_5 a1_6 a1_7 a1_8 a1_9 a1_10 a1_11 a1_12 a1_13 a1_14 x193015_1 l1_16=some (r1,r2,r3,r4,r5,r6,r7,r8,r9,r10,r11,r12,r13,r14,r15,r16,r17,r18,r19,r20))∧Aside0 (kq≤k)∧Aside0 (Kd.R k56 56 w' w0.heap.size (fun k_=>((P1_15_ k_ ∨ P1_16_ k_) ∨ w.heap.size≤k_)) u193015 x193015_1)∧Aside0 (Kd.R k58 58 w' w0.heap.size (fun k_=>((P1_15_ k_ ∨ P1_16_ k_) ∨ w.heap.size≤k_)) (.slice Ao6 l1_16.length co6) l1_16)∧Aside0 (w'.heap[gb191]?=some (.cells #[.string x192000_1,.int .i64 x192001_1,.int .i64 x192002_1] 81 (0,0)))∧Aside0 (w'.heap[gb192]?=some (.cells #[.int .i64 a1_0,.int .i64 a1_1,.int .u64 a1_2,.int .u64 a1_3,.int .u32 a1_4,.int .i64 a1_5,.int .i64 a1_6,.string a1_7,.string a1_8,.int .i64 a1_9,.int .i64 a1_10,.string a1_11,.int .u32 a1_12,.int .i64 a1_13,.bool a1_14,u193015,(.slice Ao6 l1_16.length co6)] 47 (0,0)))∧Aside0 (w'.heap[gb193]?=some (.cells #[.string (⟨#[]⟩ : ByteArray),.int .i64 0,.int .i64 0] 81 (0,0)))∧Aside0 (w'.heap[gb194]?=some (.cells #[.int .i64 0,.int .i64 0,.int .u64 0,.int .u64 0,.int .u32 0,.int .i64 0,.int .i64 0,.string (⟨#[]⟩ : ByteArray),.string (⟨#[]⟩ : ByteArray),.int .i64 0,.int .i64 0,.string (⟨#[]⟩ : ByteArray),.int .u32 0,.int .i64 0,.bool false,(.slice none 0 0),(.slice none 0 0)] 47 (0,0)))∧Aside0 (Kept w w' (fun k_=>P1_15_ k_ ∨ P1_16_ k_))∧Aside0 (Below w0.heap.size w0 w'))
 case atStart=>exact ⟨(0),(t195),(t196),(t197),(l1_15),(.slice Ao5 l1_15.length co5),(by first|rfl|(simp;done)|(simp [*];done)),H',⟨Nat.le_refl _⟩,⟨by (with_reducible repeat (first|apply Kd.R_alloc|apply Kd.R_drewN|apply Kd.R_drew));exact Kd.R_mono (Kd.R_far (p:=⟨gb191,2,none⟩) (Kd.R_far (p:=⟨gb191,1,none⟩) (Kd.R_far (p:=⟨gb191,0,none⟩) (Kd.R_types HO1_15.out BK191.out (by decide)) (fun _ hk=>hk.2) (.string t195)) (fun _ hk=>hk.2) (.int .i64 t196)) (fun _ hk=>hk.2) (.int .i64 t197)) (fun _ hk=>hk.1)⟩,⟨by (with_reducible repeat (first|apply Kd.R_alloc|apply Kd.R_drewN|apply Kd.R_drew));exact Kd.R_mono (Kd.R_far (p:=⟨gb191,2,none⟩) (Kd.R_far (p:=⟨gb191,1,none⟩) (Kd.R_far (p:=⟨gb191,0,none⟩) (Kd.R_types HO1_16.out BK191.out (by decide)) (fun _ hk=>hk.2) (.string t195)) (fun _ hk=>hk.2) (.int .i64 t196)) (fun _ hk=>hk.2) (.int .i64 t197)) (fun _ hk=>hk.1)⟩,⟨by (with_reducible repeat (first|refine blk_drewN ?_ _|refine blk_drew ?_|refine blk_alloc ?_ _));refine blk_put (cs:=#[.string t195,.int .i64 t196,.int .i64 a0_2]) ?_ 2 _ rfl;(with_reducible repeat (first|refine blk_drewN ?_ _|refine blk_drew ?_|refine blk_alloc ?_ _));refine blk_put (cs:=#[.string t195,.int .i64 a0_1,.int .i64 a0_2]) ?_ 1 _ rfl;(with_reducible repeat (first|refine blk_drewN ?_ _|refine blk_drew ?_|refine blk_alloc ?_ _));refine blk_put (cs:=#[.string a0_0,.int .i64 a0_1,.int .i64 a0_2]) ?_ 0 _ rfl;(with_reducible repeat (first|refine blk_drewN ?_ _|refine blk_drew ?_|refine blk_alloc ?_ _));exact BK191.out⟩,⟨by (with_reducible repeat (first|refine blk_drewN ?_ _|refine blk_drew ?_|refine blk_alloc ?_ _));refine blk_far ?_ NB192_191.out _;(with_reducible repeat (first|refine blk_drewN ?_ _|refine blk_drew ?_|refine blk_alloc ?_ _));refine blk_far ?_ NB192_191.out _;(with_reducible repeat (first|refine blk_drewN ?_ _|refine blk_drew ?_|refine blk_alloc ?_ _));refine blk_far ?_ NB192_191.out _;(with_reducible repeat (first|refine blk_drewN ?_ _|refine blk_drew ?_|refine blk_alloc ?_ _));exact BK192.out⟩,⟨by (with_reducible repeat (first|refine blk_drewN ?_ _|refine blk_drew ?_|refine blk_alloc ?_ _));refine blk_far ?_ NB193_191.out _;(with_reducible repeat (first|refine blk_drewN ?_ _|refine blk_drew ?_|refine blk_alloc ?_ _));refine blk_far ?_ NB193_191.out _;(with_reducible repeat (first|refine blk_drewN ?_ _|refine blk_drew ?_|refine blk_alloc ?_ _));refine blk_far ?_ NB193_191.out _;(with_reducible repeat (first|refine blk_drewN ?_ _|refine blk_drew ?_|refine blk_alloc ?_ _));exact BK193.out⟩,⟨by (with_reducible repeat (first|refine blk_drewN ?_ _|refine blk_drew ?_|refine blk_alloc ?_ _));refine blk_far ?_ NB194_191.out _;(with_reducible repeat (first|refine blk_drewN ?_ _|refine blk_drew ?_|refine blk_alloc ?_ _));refine blk_far ?_ NB194_191.out _;(with_reducible repeat (first|refine blk_drewN ?_ _|refine blk_drew ?_|refine blk_alloc ?_ _));refine blk_far ?_ NB194_191.out _;(with_reducible repeat (first|refine blk_drewN ?_ _|refine blk_drew ?_|refine blk_alloc ?_ _));exact BK194.out⟩,⟨by repeat (first|(with_reducible first|exact HK.out|apply Kept.alloc|apply Kept.drewN|apply Kept.drew|refine Kept.setCell ?_ (.inr GW191.out) _|refine Kept.setCell ?_ (.inr GW192.out) _|refine Kept.setCell ?_ (.inr GW193.out) _|refine Kept.setCell ?_ (.inr GW194.out) _)|exact HK.out)⟩,⟨by repeat (first|(with_reducible first|exact HB.out|apply below_alloc|apply pw_below_drewN|apply below_drew1|refine below_set ?_ GE191.out|refine below_set ?_ GE192.out|refine below_set ?_ GE193.out|refine below_set ?_ GE194.out)|exact HB.out)⟩⟩
 case round =>
  clear H'
  try clear c1
  try clear c2
  try clear p2
  try clear c10
  try clear c11
  try clear c12
  try clear hcz13_0
  try clear hcz13_1
  try clear hcz13_2
  try clear hcz15_0
  try clear hcz15_1
  try clear hcz15_2
  try clear hfz13_0
  try clear hfz13_1
  try clear hfz13_2
  try clear hfz15_0
  try clear hfz15_1
  try clear hfz15_2
  obtain ⟨x7_1,x192000_1,x192001_1,x192002_1,x193015_1,u193015,rfl,HA,HK1,HO_193015,HO_193016,BK191,BK192,BK193,BK194,HK,HB⟩:=hrel
  cases gk with
  | zero=>exact absurd HA.out (by simp [girderref04_takeTables.l0])
  | succ k1 =>
   have H:=HA.out
   clear HA
   simp only [girderref04_takeTables.l0] at H
   have HC16:=Aside0.mk H
   clear H
   go_upto_region 3 with (fail)
   go_cut [25] (fun v25 wc=>∃ (kq : Nat) (x25_15 : Bool),v25=.bool x25_15∧Aside0 (girderref04_takeTables.j1 kq t198 x7_1 x25_15 x192000_1 x192001_1 x192002_1 a1_0 a1_1 a1_2 a1_3 a1_4 a1_5 a1_6 a1_7 a1_8 a1_9 a1_10 a1_11 a1_12 a1_13 a1_14 x193015_1 l1_16=some (r1,r2,r3,r4,r5,r6,r7,r8,r9,r10,r11,r12,r13,r14,r15,r16,r17,r18,r19,r20))∧Aside0 (kq≤k1)∧Aside0 (Kd.R k56 56 wc w0.heap.size (fun k_=>((P1_15_ k_ ∨ P1_16_ k_) ∨ w.heap.size≤k_)) u193015 x193015_1)∧Aside0 (Kd.R k58 58 wc w0.heap.size (fun k_=>((P1_15_ k_ ∨ P1_16_ k_) ∨ w.heap.size≤k_)) (.slice Ao6 l1_16.length co6) l1_16)∧Aside0 (wc.heap[gb191]?=some (.cells #[.string x192000_1,.int .i64 x192001_1,.int .i64 x192002_1] 81 (0,0)))∧Aside0 (wc.heap[gb192]?=some (.cells #[.int .i64 a1_0,.int .i64 a1_1,.int .u64 a1_2,.int .u64 a1_3,.int .u32 a1_4,.int .i64 a1_5,.int .i64 a1_6,.string a1_7,.string a1_8,.int .i64 a1_9,.int .i64 a1_10,.string a1_11,.int .u32 a1_12,.int .i64 a1_13,.bool a1_14,u193015,(.slice Ao6 l1_16.length co6)] 47 (0,0)))∧Aside0 (wc.heap[gb193]?=some (.cells #[.string (⟨#[]⟩ : ByteArray),.int .i64 0,.int .i64 0] 81 (0,0)))∧Aside0 (wc.heap[gb194]?=some (.cells #[.int .i64 0,.int .i64 0,.int .u64 0,.int .u64 0,.int .u32 0,.int .i64 0,.int .i64 0,.string (⟨#[]⟩ : ByteArray),.string (⟨#[]⟩ : ByteArray),.int .i64 0,.int .i64 0,.string (⟨#[]⟩ : ByteArray),.int .u32 0,.int .i64 0,.bool false,(.slice none 0 0),(.slice none 0 0)] 47 (0,0)))∧Aside0 (Kept w wc (fun k_=>P1_15_ k_ ∨ P1_16_ k_))∧Aside0 (Below w0.heap.size w0 wc))
   case first =>
    have H:=HC16.out
    clear HC16
    by_cases c17 : x7_1 < t198
    ·rw [if_pos c17] at H
     have c17b0 : decide (x7_1 < t198)=true:=decide_eq_true c17
     clear c17
     (first|rw [c17b0]|(simp only [i64_w,i32_w];rw [c17b0])|skip)
     have H':=Aside0.mk H
     clear H
     have hnb18:=NB191_192.out
     have hnc18:=NB192_191.out
     have hnb19:=NB191_193.out
     have hnc19:=NB193_191.out
     have hnb20:=NB191_194.out
     have hnc20:=NB194_191.out
     have hcz21_0 : wr.cell? ⟨gb191,0,none⟩=some (.string x192000_1):=(blk_cell BK191.out 0).trans rfl
     have hcz21_1 : wr.cell? ⟨gb191,1,none⟩=some (.int .i64 x192001_1):=(blk_cell BK191.out 1).trans rfl
     have hcz21_2 : wr.cell? ⟨gb191,2,none⟩=some (.int .i64 x192002_1):=(blk_cell BK191.out 2).trans rfl
     have hfz21_0:=blk_frozen BK191.out 0
     have hfz21_1:=blk_frozen BK191.out 1
     have hfz21_2:=blk_frozen BK191.out 2
     go_wp2
     go_meet
     case rel=>exact ⟨_,((x192002_1 == 0)),(by first|rfl|(simp;done)|(simp [*];done)),H',⟨by have:=HK1.out;first|omega|exact Nat.le_refl _⟩,⟨by (with_reducible repeat (first|apply Kd.R_alloc|apply Kd.R_drewN|apply Kd.R_drew));exact HO_193015.out⟩,⟨by (with_reducible repeat (first|apply Kd.R_alloc|apply Kd.R_drewN|apply Kd.R_drew));exact HO_193016.out⟩,⟨by (with_reducible repeat (first|refine blk_drewN ?_ _|refine blk_drew ?_|refine blk_alloc ?_ _));exact BK191.out⟩,⟨by (with_reducible repeat (first|refine blk_drewN ?_ _|refine blk_drew ?_|refine blk_alloc ?_ _));exact BK192.out⟩,⟨by (with_reducible repeat (first|refine blk_drewN ?_ _|refine blk_drew ?_|refine blk_alloc ?_ _));exact BK193.out⟩,⟨by (with_reducible repeat (first|refine blk_drewN ?_ _|refine blk_drew ?_|refine blk_alloc ?_ _));exact BK194.out⟩,⟨by repeat (first|(with_reducible first|exact HK.out|apply Kept.alloc|apply Kept.drewN|apply Kept.drew|refine Kept.setCell ?_ (.inr GW191.out) _|refine Kept.setCell ?_ (.inr GW192.out) _|refine Kept.setCell ?_ (.inr GW193.out) _|refine Kept.setCell ?_ (.inr GW194.out) _)|exact HK.out)⟩,⟨by repeat (first|(with_reducible first|exact HB.out|apply below_alloc|apply pw_below_drewN|apply below_drew1|refine below_set ?_ GE191.out|refine below_set ?_ GE192.out|refine below_set ?_ GE193.out|refine below_set ?_ GE194.out)|exact HB.out)⟩⟩
    ·rw [if_neg c17] at H
     have c17b0 : decide (x7_1 < t198)=false:=decide_eq_false c17
     clear c17
     (first|rw [c17b0]|(simp only [i64_w,i32_w];rw [c17b0])|skip)
     have H':=Aside0.mk H
     clear H
     go_wp2
     go_meet
     case rel=>exact ⟨_,(false),(by first|rfl|(simp;done)|(simp [*];done)),H',⟨by have:=HK1.out;first|omega|exact Nat.le_refl _⟩,⟨by (with_reducible repeat (first|apply Kd.R_alloc|apply Kd.R_drewN|apply Kd.R_drew));exact HO_193015.out⟩,⟨by (with_reducible repeat (first|apply Kd.R_alloc|apply Kd.R_drewN|apply Kd.R_drew));exact HO_193016.out⟩,⟨by (with_reducible repeat (first|refine blk_drewN ?_ _|refine blk_drew ?_|refine blk_alloc ?_ _));exact BK191.out⟩,⟨by (with_reducible repeat (first|refine blk_drewN ?_ _|refine blk_drew ?_|refine blk_alloc ?_ _));exact BK192.out⟩,⟨by (with_reducible repeat (first|refine blk_drewN ?_ _|refine blk_drew ?_|refine blk_alloc ?_ _));exact BK193.out⟩,⟨by (with_reducible repeat (first|refine blk_drewN ?_ _|refine blk_drew ?_|refine blk_alloc ?_ _));exact BK194.out⟩,⟨by repeat (first|(with_reducible first|exact HK.out|apply Kept.alloc|apply Kept.drewN|apply Kept.drew|refine Kept.setCell ?_ (.inr GW191.out) _|refine Kept.setCell ?_ (.inr GW192.out) _|refine Kept.setCell ?_ (.inr GW193.out) _|refine Kept.setCell ?_ (.inr GW194.out) _)|exact HK.out)⟩,⟨by repeat (first|(with_reducible first|exact HB.out|apply below_alloc|apply pw_below_drewN|apply below_drew1|refine below_set ?_ GE191.out|refine below_set ?_ GE192.out|refine below_set ?_ GE193.out|refine below_set ?_ GE194.out)|exact HB.out)⟩⟩
   case rest =>
    clear HC16
    try clear c1
    try clear c2
    try clear p2
    try clear c10
    try clear c11
    try clear c12
    try clear c17
    try clear c17b0
    try clear c18
    try clear c19
    try clear c20
    try clear hcz13_0
    try clear hcz13_1
    try clear hcz13_2
    try clear hcz15_0
    try clear hcz15_1
    try clear hcz15_2
    try clear hcz21_0
    try clear hcz21_1
    try clear hcz21_2
    try clear hfz13_0
    try clear hfz13_1
    try clear hfz13_2
    try clear hfz15_0
    try clear hfz15_1
    try clear hfz15_2
    try clear hfz21_0
    try clear hfz21_1
    try clear hfz21_2
    try clear p2
    obtain ⟨kq,x25_15,rfl,HA,HJ15,HO_193015,HO_193016,BK191,BK192,BK193,BK194,HK,HB⟩:=hcut
    cases kq with
    | zero=>exact absurd HA.out (by simp [girderref04_takeTables.j1])
    | succ kj15 =>
     have H:=HA.out
     clear HA
     simp only [girderref04_takeTables.j1] at H
     by_cases c22 : x25_15=true
     ·subst c22
      have H1 : ((girderref01_Reader_Number.f x192000_1 x192001_1 x192002_1 4).bind fun bt200=>((girderref01_Reader_Number.f bt200.1 bt200.2.1 bt200.2.2.1 1).bind fun bt204=>((girderref01_Reader_Number.f bt204.1 bt204.2.1 bt204.2.2.1 8).bind fun bt208=>((girderref01_Reader_Number.f bt208.1 bt208.2.1 bt208.2.2.1 8).bind fun bt212=>(if x193015_1.length < 4398046511104 then (girderref04_takeTables.l0 kj15 t198 (IntKind.u64.wrap (x7_1 + 1)) bt212.1 bt212.2.1 bt212.2.2.1 a1_0 a1_1 a1_2 a1_3 a1_4 a1_5 a1_6 a1_7 a1_8 a1_9 a1_10 a1_11 a1_12 a1_13 a1_14 (x193015_1 ++ [(⟨wrap64 (bt200.2.2.2),wrap64 (bt204.2.2.2),bt208.2.2.2,bt212.2.2.2⟩ : S56)]) l1_16) else (none))))))=some (r1,r2,r3,r4,r5,r6,r7,r8,r9,r10,r11,r12,r13,r14,r15,r16,r17,r18,r19,r20):=by rw [if_pos rfl] at H;exact H
      clear H
      have H:=H1
      clear H1
      replace H:=Option.bind_eq_some_iff.mp H
      obtain ⟨⟨t200,t201,t202,t203⟩,A230,H⟩:=H
      replace H : ((girderref01_Reader_Number.f t200 t201 t202 1).bind fun bt204=>((girderref01_Reader_Number.f bt204.1 bt204.2.1 bt204.2.2.1 8).bind fun bt208=>((girderref01_Reader_Number.f bt208.1 bt208.2.1 bt208.2.2.1 8).bind fun bt212=>(if x193015_1.length < 4398046511104 then (girderref04_takeTables.l0 kj15 t198 (IntKind.u64.wrap (x7_1 + 1)) bt212.1 bt212.2.1 bt212.2.2.1 a1_0 a1_1 a1_2 a1_3 a1_4 a1_5 a1_6 a1_7 a1_8 a1_9 a1_10 a1_11 a1_12 a1_13 a1_14 (x193015_1 ++ [(⟨wrap64 (t203),wrap64 (bt204.2.2.2),bt208.2.2.2,bt212.2.2.2⟩ : S56)]) l1_16) else (none)))))=some (r1,r2,r3,r4,r5,r6,r7,r8,r9,r10,r11,r12,r13,r14,r15,r16,r17,r18,r19,r20):=H
      have A23:=Aside0.mk A230
      clear A230
      replace H:=Option.bind_eq_some_iff.mp H
      obtain ⟨⟨t204,t205,t206,t207⟩,A240,H⟩:=H
      replace H : ((girderref01_Reader_Number.f t204 t205 t206 8).bind fun bt208=>((girderref01_Reader_Number.f bt208.1 bt208.2.1 bt208.2.2.1 8).bind fun bt212=>(if x193015_1.length < 4398046511104 then (girderref04_takeTables.l0 kj15 t198 (IntKind.u64.wrap (x7_1 + 1)) bt212.1 bt212.2.1 bt212.2.2.1 a1_0 a1_1 a1_2 a1_3 a1_4 a1_5 a1_6 a1_7 a1_8 a1_9 a1_10 a1_11 a1_12 a1_13 a1_14 (x193015_1 ++ [(⟨wrap64 (t203),wrap64 (t207),bt208.2.2.2,bt212.2.2.2⟩ : S56)]) l1_16) else (none))))=some (r1,r2,r3,r4,r5,r6,r7,r8,r9,r10,r11,r12,r13,r14,r15,r16,r17,r18,r19,r20):=H
      have A24:=Aside0.mk A240
      clear A240
      replace H:=Option.bind_eq_some_iff.mp H
      obtain ⟨⟨t208,t209,t210,t211⟩,A250,H⟩:=H
      replace H : ((girderref01_Reader_Number.f t208 t209 t210 8).bind fun bt212=>(if x193015_1.length < 4398046511104 then (girderref04_takeTables.l0 kj15 t198 (IntKind.u64.wrap (x7_1 + 1)) bt212.1 bt212.2.1 bt212.2.2.1 a1_0 a1_1 a1_2 a1_3 a1_4 a1_5 a1_6 a1_7 a1_8 a1_9 a1_10 a1_11 a1_12 a1_13 a1_14 (x193015_1 ++ [(⟨wrap64 (t203),wrap64 (t207),t211,bt212.2.2.2⟩ : S56)]) l1_16) else (none)))=some (r1,r2,r3,r4,r5,r6,r7,r8,r9,r10,r11,r12,r13,r14,r15,r16,r17,r18,r19,r20):=H
      have A25:=Aside0.mk A250
      clear A250
      replace H:=Option.bind_eq_some_iff.mp H
      obtain ⟨⟨t212,t213,t214,t215⟩,A260,H⟩:=H
      replace H : (if x193015_1.length < 4398046511104 then (girderref04_takeTables.l0 kj15 t198 (IntKind.u64.wrap (x7_1 + 1)) t212 t213 t214 a1_0 a1_1 a1_2 a1_3 a1_4 a1_5 a1_6 a1_7 a1_8 a1_9 a1_10 a1_11 a1_12 a1_13 a1_14 (x193015_1 ++ [(⟨wrap64 (t203),wrap64 (t207),t211,t215⟩ : S56)]) l1_16) else (none))=some (r1,r2,r3,r4,r5,r6,r7,r8,r9,r10,r11,r12,r13,r14,r15,r16,r17,r18,r19,r20):=H
      have A26:=Aside0.mk A260
      clear A260
      by_cases c27 : x193015_1.length < 4398046511104
      ·rw [if_pos c27] at H
       have LMc27:=Aside0.mk c27
       clear c27
       obtain ⟨y216,hy216⟩ : ∃ y_ : List (S56),y_=(x193015_1 ++ [(⟨wrap64 (t203),wrap64 (t207),t211,t215⟩ : S56)]):=⟨_,rfl⟩
       replace H : (girderref04_takeTables.l0 kj15 t198 (IntKind.u64.wrap (x7_1 + 1)) t212 t213 t214 a1_0 a1_1 a1_2 a1_3 a1_4 a1_5 a1_6 a1_7 a1_8 a1_9 a1_10 a1_11 a1_12 a1_13 a1_14 y216 l1_16)=some (r1,r2,r3,r4,r5,r6,r7,r8,r9,r10,r11,r12,r13,r14,r15,r16,r17,r18,r19,r20):=by first|(rw [hy216];with_reducible exact H)|(have H2_:=(Option.bind_some _ _).symm.trans H;rw [hy216];with_reducible exact H2_)|(have H2_:=(Option.bind_some _ _).symm.trans H;with_reducible exact H2_)|with_reducible exact H|(rw [hy216];exact H)|exact H
       have Ny216:=Aside0.mk hy216
       clear hy216
       have H':=Aside0.mk H
       clear H
       go_wp2_with (first|((with_reducible refine gate_dst (N:=8) rfl ?_);refine box_event ?hg (N:=8) ?hd (cs:=#[.int .i64 0,.int .i64 0,.int .u64 0,.int .u64 0]) (t:=56) ?hr ?_;(case hd=>rfl);(case hg=>rfl);(case hr=>first|(go_simp;done)|(go_simp;rfl));intro gb199 hg w28 hbox hb;have n0_:=Aside0.mk (Kd.R_below (Kd.R_elderB (by (with_reducible repeat (first|apply Kd.R_alloc|apply Kd.R_drewN|apply Kd.R_drew));exact HO_193015.out) gb199 (Nat.le_of_eq hg.symm)) hb);have n1_:=Aside0.mk (Kd.R_below (by (with_reducible repeat (first|apply Kd.R_alloc|apply Kd.R_drewN|apply Kd.R_drew));exact HO_193016.out) hb);have n2_:=Aside0.mk (blk_below (g:=gb191) (o:=.cells #[.string x192000_1,.int .i64 x192001_1,.int .i64 x192002_1] 81 (0,0)) (by (with_reducible repeat (first|refine blk_drewN ?_ _|refine blk_drew ?_|refine blk_alloc ?_ _));exact BK191.out) hb);have n3_:=Aside0.mk (blk_below (g:=gb192) (o:=.cells #[.int .i64 a1_0,.int .i64 a1_1,.int .u64 a1_2,.int .u64 a1_3,.int .u32 a1_4,.int .i64 a1_5,.int .i64 a1_6,.string a1_7,.string a1_8,.int .i64 a1_9,.int .i64 a1_10,.string a1_11,.int .u32 a1_12,.int .i64 a1_13,.bool a1_14,u193015,.slice Ao6 l1_16.length co6] 47 (0,0)) (by (with_reducible repeat (first|refine blk_drewN ?_ _|refine blk_drew ?_|refine blk_alloc ?_ _));exact BK192.out) hb);have n4_:=Aside0.mk (blk_below (g:=gb193) (o:=.cells #[.string (⟨#[]⟩ : ByteArray),.int .i64 0,.int .i64 0] 81 (0,0)) (by (with_reducible repeat (first|refine blk_drewN ?_ _|refine blk_drew ?_|refine blk_alloc ?_ _));exact BK193.out) hb);have n5_:=Aside0.mk (blk_below (g:=gb194) (o:=.cells #[.int .i64 0,.int .i64 0,.int .u64 0,.int .u64 0,.int .u32 0,.int .i64 0,.int .i64 0,.string (⟨#[]⟩ : ByteArray),.string (⟨#[]⟩ : ByteArray),.int .i64 0,.int .i64 0,.string (⟨#[]⟩ : ByteArray),.int .u32 0,.int .i64 0,.bool false,.slice none 0 0,.slice none 0 0] 47 (0,0)) (by (with_reducible repeat (first|refine blk_drewN ?_ _|refine blk_drew ?_|refine blk_alloc ?_ _));exact BK194.out) hb);have n6_:=Aside0.mk (Kept.below (S:=(fun k_=>P1_15_ k_ ∨ P1_16_ k_)) (by repeat (first|(with_reducible first|exact HK.out|apply Kept.alloc|apply Kept.drewN|apply Kept.drew|refine Kept.setCell ?_ (.inr GW191.out) _|refine Kept.setCell ?_ (.inr GW192.out) _|refine Kept.setCell ?_ (.inr GW193.out) _|refine Kept.setCell ?_ (.inr GW194.out) _)|exact HK.out)) hb);have n7_:=Aside0.mk (below_step (by repeat (first|(with_reducible first|exact HB.out|apply below_alloc|apply pw_below_drewN|apply below_drew1|refine below_set ?_ GE191.out|refine below_set ?_ GE192.out|refine below_set ?_ GE193.out|refine below_set ?_ GE194.out)|exact HB.out)) hb);have n8_:=Aside0.mk (hbox);have n9_:=Aside0.mk ((by rw [hg];exact (by first|exact HK.out.1|exact (show Kept w _ (fun k_=>P1_15_ k_ ∨ P1_16_ k_) from by repeat (first|(with_reducible first|exact HK.out|apply Kept.alloc|apply Kept.drewN|apply Kept.drew|refine Kept.setCell ?_ (.inr GW191.out) _|refine Kept.setCell ?_ (.inr GW192.out) _|refine Kept.setCell ?_ (.inr GW193.out) _|refine Kept.setCell ?_ (.inr GW194.out) _)|exact HK.out)).1) : w.heap.size≤gb199));have n10_:=Aside0.mk ((by rw [hg];exact (below_size (by repeat (first|(with_reducible first|exact HB.out|apply below_alloc|apply pw_below_drewN|apply below_drew1|refine below_set ?_ GE191.out|refine below_set ?_ GE192.out|refine below_set ?_ GE193.out|refine below_set ?_ GE194.out)|exact HB.out))) : w0.heap.size≤gb199));have n11_:=Aside0.mk ((by rw [hg];exact Nat.ne_of_lt (blk_lt (g:=gb191) (o:=.cells #[.string x192000_1,.int .i64 x192001_1,.int .i64 x192002_1] 81 (0,0)) (by (with_reducible repeat (first|refine blk_drewN ?_ _|refine blk_drew ?_|refine blk_alloc ?_ _));exact BK191.out)) : gb191≠gb199));have n12_:=Aside0.mk ((by rw [hg];exact Nat.ne_of_gt (blk_lt (g:=gb191) (o:=.cells #[.string x192000_1,.int .i64 x192001_1,.int .i64 x192002_1] 81 (0,0)) (by (with_reducible repeat (first|refine blk_drewN ?_ _|refine blk_drew ?_|refine blk_alloc ?_ _));exact BK191.out)) : gb199≠gb191));have n13_:=Aside0.mk ((by rw [hg];exact Nat.ne_of_lt (blk_lt (g:=gb192) (o:=.cells #[.int .i64 a1_0,.int .i64 a1_1,.int .u64 a1_2,.int .u64 a1_3,.int .u32 a1_4,.int .i64 a1_5,.int .i64 a1_6,.string a1_7,.string a1_8,.int .i64 a1_9,.int .i64 a1_10,.string a1_11,.int .u32 a1_12,.int .i64 a1_13,.bool a1_14,u193015,.slice Ao6 l1_16.length co6] 47 (0,0)) (by (with_reducible repeat (first|refine blk_drewN ?_ _|refine blk_drew ?_|refine blk_alloc ?_ _));exact BK192.out)) : gb192≠gb199));have n14_:=Aside0.mk ((by rw [hg];exact Nat.ne_of_gt (blk_lt (g:=gb192) (o:=.cells #[.int .i64 a1_0,.int .i64 a1_1,.int .u64 a1_2,.int .u64 a1_3,.int .u32 a1_4,.int .i64 a1_5,.int .i64 a1_6,.string a1_7,.string a1_8,.int .i64 a1_9,.int .i64 a1_10,.string a1_11,.int .u32 a1_12,.int .i64 a1_13,.bool a1_14,u193015,.slice Ao6 l1_16.length co6] 47 (0,0)) (by (with_reducible repeat (first|refine blk_drewN ?_ _|refine blk_drew ?_|refine blk_alloc ?_ _));exact BK192.out)) : gb199≠gb192));have n15_:=Aside0.mk ((by rw [hg];exact Nat.ne_of_lt (blk_lt (g:=gb193) (o:=.cells #[.string (⟨#[]⟩ : ByteArray),.int .i64 0,.int .i64 0] 81 (0,0)) (by (with_reducible repeat (first|refine blk_drewN ?_ _|refine blk_drew ?_|refine blk_alloc ?_ _));exact BK193.out)) : gb193≠gb199));have n16_:=Aside0.mk ((by rw [hg];exact Nat.ne_of_gt (blk_lt (g:=gb193) (o:=.cells #[.string (⟨#[]⟩ : ByteArray),.int .i64 0,.int .i64 0] 81 (0,0)) (by (with_reducible repeat (first|refine blk_drewN ?_ _|refine blk_drew ?_|refine blk_alloc ?_ _));exact BK193.out)) : gb199≠gb193));have n17_:=Aside0.mk ((by rw [hg];exact Nat.ne_of_lt (blk_lt (g:=gb194) (o:=.cells #[.int .i64 0,.int .i64 0,.int .u64 0,.int .u64 0,.int .u32 0,.int .i64 0,.int .i64 0,.string (⟨#[]⟩ : ByteArray),.string (⟨#[]⟩ : ByteArray),.int .i64 0,.int .i64 0,.string (⟨#[]⟩ : ByteArray),.int .u32 0,.int .i64 0,.bool false,.slice none 0 0,.slice none 0 0] 47 (0,0)) (by (with_reducible repeat (first|refine blk_drewN ?_ _|refine blk_drew ?_|refine blk_alloc ?_ _));exact BK194.out)) : gb194≠gb199));have n18_:=Aside0.mk ((by rw [hg];exact Nat.ne_of_gt (blk_lt (g:=gb194) (o:=.cells #[.int .i64 0,.int .i64 0,.int .u64 0,.int .u64 0,.int .u32 0,.int .i64 0,.int .i64 0,.string (⟨#[]⟩ : ByteArray),.string (⟨#[]⟩ : ByteArray),.int .i64 0,.int .i64 0,.string (⟨#[]⟩ : ByteArray),.int .u32 0,.int .i64 0,.bool false,.slice none 0 0,.slice none 0 0] 47 (0,0)) (by (with_reducible repeat (first|refine blk_drewN ?_ _|refine blk_drew ?_|refine blk_alloc ?_ _));exact BK194.out)) : gb199≠gb194));clear HO_193015;clear HO_193016;clear BK191;clear BK192;clear BK193;clear BK194;clear HK;clear HB;have HO_193015:=n0_;have HO_193016:=n1_;have BK191:=n2_;have BK192:=n3_;have BK193:=n4_;have BK194:=n5_;have HK:=n6_;have HB:=n7_;have BK199:=n8_;have GW199:=n9_;have GE199:=n10_;have NB191_199:=n11_;have NB199_191:=n12_;have NB192_199:=n13_;have NB199_192:=n14_;have NB193_199:=n15_;have NB199_193:=n16_;have NB194_199:=n17_;have NB199_194:=n18_;clear n0_ n1_ n2_ n3_ n4_ n5_ n6_ n7_ n8_ n9_ n10_ n11_ n12_ n13_ n14_ n15_ n16_ n17_ n18_;clear hb hbox hg;have hnb29:=NB199_191.out;have hnc29:=NB191_199.out;have hnb30:=NB199_192.out;have hnc30:=NB192_199.out;have hnb31:=NB199_193.out;have hnc31:=NB193_199.out;have hnb32:=NB199_194.out;have hnc32:=NB194_199.out;have hcz33_0 : w28.cell? ⟨gb199,0,none⟩=some (.int .i64 0):=(blk_cell BK199.out 0).trans rfl;have hcz33_1 : w28.cell? ⟨gb199,1,none⟩=some (.int .i64 0):=(blk_cell BK199.out 1).trans rfl;have hcz33_2 : w28.cell? ⟨gb199,2,none⟩=some (.int .u64 0):=(blk_cell BK199.out 2).trans rfl;have hcz33_3 : w28.cell? ⟨gb199,3,none⟩=some (.int .u64 0):=(blk_cell BK199.out 3).trans rfl;have hfz33_0:=blk_frozen BK199.out 0;have hfz33_1:=blk_frozen BK199.out 1;have hfz33_2:=blk_frozen BK199.out 2;have hfz33_3:=blk_frozen BK199.out 3;have hnb34:=NB191_192.out;have hnc34:=NB192_191.out;have hnb35:=NB191_193.out;have hnc35:=NB193_191.out;have hnb36:=NB191_194.out;have hnc36:=NB194_191.out;have hcz37_0 : w28.cell? ⟨gb191,0,none⟩=some (.string x192000_1):=(blk_cell BK191.out 0).trans rfl;have hcz37_1 : w28.cell? ⟨gb191,1,none⟩=some (.int .i64 x192001_1):=(blk_cell BK191.out 1).trans rfl;have hcz37_2 : w28.cell? ⟨gb191,2,none⟩=some (.int .i64 x192002_1):=(blk_cell BK191.out 2).trans rfl;have hfz37_0:=blk_frozen BK191.out 0;have hfz37_1:=blk_frozen BK191.out 1;have hfz37_2:=blk_frozen BK191.out 2)|((with_reducible refine gate_callee (f:=27) rfl ?_);refine goesL_ (some 31) rfl rfl Try.func27 (by kernel_rfl) rfl #[.agg #[.string x192000_1,.int .i64 x192001_1,.int .i64 x192002_1],.int .i64 4] rfl (by (try simp only [List.map_toArray,List.map_cons,List.map_nil]);first|done|rfl|(simp only [List.length_drop,List.length_take];rfl)) ?_;(with_reducible refine (girderref01_Reader_Number.calls x192000_1 x192001_1 x192002_1 4 t200 t201 t202 t203 _ A23.out).mono ?_);rintro e w38 ⟨rfl,hb⟩;refine ⟨_,rfl,?_⟩;have n0_:=Aside0.mk (Kd.R_below (by (with_reducible repeat (first|apply Kd.R_alloc|apply Kd.R_drewN|apply Kd.R_drew));exact (Kd.R_mono (Kd.R_far (p:=⟨gb199,3,none⟩) (Kd.R_far (p:=⟨gb199,2,none⟩) (Kd.R_far (p:=⟨gb199,1,none⟩) (Kd.R_far (p:=⟨gb199,0,none⟩) (Kd.R_mono HO_193015.out (fun k_ hk=>(⟨hk,hk.2⟩ : _∧k_≠gb199))) (fun _ hk=>hk.2) (.int .i64 0)) (fun _ hk=>hk.2) (.int .i64 0)) (fun _ hk=>hk.2) (.int .u64 0)) (fun _ hk=>hk.2) (.int .u64 0)) (fun _ h_=>h_.1))) hb);have n1_:=Aside0.mk (Kd.R_below (by (with_reducible repeat (first|apply Kd.R_alloc|apply Kd.R_drewN|apply Kd.R_drew));exact (Kd.R_mono (Kd.R_far (p:=⟨gb199,3,none⟩) (Kd.R_far (p:=⟨gb199,2,none⟩) (Kd.R_far (p:=⟨gb199,1,none⟩) (Kd.R_far (p:=⟨gb199,0,none⟩) (Kd.R_types HO_193016.out BK199.out (by decide)) (fun _ hk=>hk.2) (.int .i64 0)) (fun _ hk=>hk.2) (.int .i64 0)) (fun _ hk=>hk.2) (.int .u64 0)) (fun _ hk=>hk.2) (.int .u64 0)) (fun _ h_=>h_.1))) hb);have n2_:=Aside0.mk (blk_below (g:=gb191) (o:=.cells #[.string x192000_1,.int .i64 x192001_1,.int .i64 x192002_1] 81 (0,0)) (by (with_reducible repeat (first|refine blk_drewN ?_ _|refine blk_drew ?_|refine blk_alloc ?_ _));refine blk_far ?_ NB191_199.out _;(with_reducible repeat (first|refine blk_drewN ?_ _|refine blk_drew ?_|refine blk_alloc ?_ _));refine blk_far ?_ NB191_199.out _;(with_reducible repeat (first|refine blk_drewN ?_ _|refine blk_drew ?_|refine blk_alloc ?_ _));refine blk_far ?_ NB191_199.out _;(with_reducible repeat (first|refine blk_drewN ?_ _|refine blk_drew ?_|refine blk_alloc ?_ _));refine blk_far ?_ NB191_199.out _;(with_reducible repeat (first|refine blk_drewN ?_ _|refine blk_drew ?_|refine blk_alloc ?_ _));exact BK191.out) hb);have n3_:=Aside0.mk (blk_below (g:=gb192) (o:=.cells #[.int .i64 a1_0,.int .i64 a1_1,.int .u64 a1_2,.int .u64 a1_3,.int .u32 a1_4,.int .i64 a1_5,.int .i64 a1_6,.string a1_7,.string a1_8,.int .i64 a1_9,.int .i64 a1_10,.string a1_11,.int .u32 a1_12,.int .i64 a1_13,.bool a1_14,u193015,.slice Ao6 l1_16.length co6] 47 (0,0)) (by (with_reducible repeat (first|refine blk_drewN ?_ _|refine blk_drew ?_|refine blk_alloc ?_ _));refine blk_far ?_ NB192_199.out _;(with_reducible repeat (first|refine blk_drewN ?_ _|refine blk_drew ?_|refine blk_alloc ?_ _));refine blk_far ?_ NB192_199.out _;(with_reducible repeat (first|refine blk_drewN ?_ _|refine blk_drew ?_|refine blk_alloc ?_ _));refine blk_far ?_ NB192_199.out _;(with_reducible repeat (first|refine blk_drewN ?_ _|refine blk_drew ?_|refine blk_alloc ?_ _));refine blk_far ?_ NB192_199.out _;(with_reducible repeat (first|refine blk_drewN ?_ _|refine blk_drew ?_|refine blk_alloc ?_ _));exact BK192.out) hb);have n4_:=Aside0.mk (blk_below (g:=gb193) (o:=.cells #[.string (⟨#[]⟩ : ByteArray),.int .i64 0,.int .i64 0] 81 (0,0)) (by (with_reducible repeat (first|refine blk_drewN ?_ _|refine blk_drew ?_|refine blk_alloc ?_ _));refine blk_far ?_ NB193_199.out _;(with_reducible repeat (first|refine blk_drewN ?_ _|refine blk_drew ?_|refine blk_alloc ?_ _));refine blk_far ?_ NB193_199.out _;(with_reducible repeat (first|refine blk_drewN ?_ _|refine blk_drew ?_|refine blk_alloc ?_ _));refine blk_far ?_ NB193_199.out _;(with_reducible repeat (first|refine blk_drewN ?_ _|refine blk_drew ?_|refine blk_alloc ?_ _));refine blk_far ?_ NB193_199.out _;(with_reducible repeat (first|refine blk_drewN ?_ _|refine blk_drew ?_|refine blk_alloc ?_ _));exact BK193.out) hb);have n5_:=Aside0.mk (blk_below (g:=gb194) (o:=.cells #[.int .i64 0,.int .i64 0,.int .u64 0,.int .u64 0,.int .u32 0,.int .i64 0,.int .i64 0,.string (⟨#[]⟩ : ByteArray),.string (⟨#[]⟩ : ByteArray),.int .i64 0,.int .i64 0,.string (⟨#[]⟩ : ByteArray),.int .u32 0,.int .i64 0,.bool false,.slice none 0 0,.slice none 0 0] 47 (0,0)) (by (with_reducible repeat (first|refine blk_drewN ?_ _|refine blk_drew ?_|refine blk_alloc ?_ _));refine blk_far ?_ NB194_199.out _;(with_reducible repeat (first|refine blk_drewN ?_ _|refine blk_drew ?_|refine blk_alloc ?_ _));refine blk_far ?_ NB194_199.out _;(with_reducible repeat (first|refine blk_drewN ?_ _|refine blk_drew ?_|refine blk_alloc ?_ _));refine blk_far ?_ NB194_199.out _;(with_reducible repeat (first|refine blk_drewN ?_ _|refine blk_drew ?_|refine blk_alloc ?_ _));refine blk_far ?_ NB194_199.out _;(with_reducible repeat (first|refine blk_drewN ?_ _|refine blk_drew ?_|refine blk_alloc ?_ _));exact BK194.out) hb);have n6_:=Aside0.mk (blk_below (g:=gb199) (o:=.cells #[.int .i64 0,.int .i64 0,.int .u64 0,.int .u64 0] 56 (0,0)) (by (with_reducible repeat (first|refine blk_drewN ?_ _|refine blk_drew ?_|refine blk_alloc ?_ _));refine blk_put (cs:=#[.int .i64 0,.int .i64 0,.int .u64 0,.int .u64 0]) ?_ 3 _ rfl;(with_reducible repeat (first|refine blk_drewN ?_ _|refine blk_drew ?_|refine blk_alloc ?_ _));refine blk_put (cs:=#[.int .i64 0,.int .i64 0,.int .u64 0,.int .u64 0]) ?_ 2 _ rfl;(with_reducible repeat (first|refine blk_drewN ?_ _|refine blk_drew ?_|refine blk_alloc ?_ _));refine blk_put (cs:=#[.int .i64 0,.int .i64 0,.int .u64 0,.int .u64 0]) ?_ 1 _ rfl;(with_reducible repeat (first|refine blk_drewN ?_ _|refine blk_drew ?_|refine blk_alloc ?_ _));refine blk_put (cs:=#[.int .i64 0,.int .i64 0,.int .u64 0,.int .u64 0]) ?_ 0 _ rfl;(with_reducible repeat (first|refine blk_drewN ?_ _|refine blk_drew ?_|refine blk_alloc ?_ _));exact BK199.out) hb);have n7_:=Aside0.mk (Kept.below (S:=(fun k_=>P1_15_ k_ ∨ P1_16_ k_)) (by repeat (first|(with_reducible first|exact HK.out|apply Kept.alloc|apply Kept.drewN|apply Kept.drew|refine Kept.setCell ?_ (.inr GW191.out) _|refine Kept.setCell ?_ (.inr GW192.out) _|refine Kept.setCell ?_ (.inr GW193.out) _|refine Kept.setCell ?_ (.inr GW194.out) _|refine Kept.setCell ?_ (.inr GW199.out) _)|exact HK.out)) hb);have n8_:=Aside0.mk (below_step (by repeat (first|(with_reducible first|exact HB.out|apply below_alloc|apply pw_below_drewN|apply below_drew1|refine below_set ?_ GE191.out|refine below_set ?_ GE192.out|refine below_set ?_ GE193.out|refine below_set ?_ GE194.out|refine below_set ?_ GE199.out)|exact HB.out)) hb);clear HO_193015;clear HO_193016;clear BK191;clear BK192;clear BK193;clear BK194;clear BK199;clear HK;clear HB;have HO_193015:=n0_;have HO_193016:=n1_;have BK191:=n2_;have BK192:=n3_;have BK193:=n4_;have BK194:=n5_;have BK199:=n6_;have HK:=n7_;have HB:=n8_;clear n0_ n1_ n2_ n3_ n4_ n5_ n6_ n7_ n8_;(try clear hb);(try clear hb2);(try clear hk);(try clear hi);have hcz39_0 : w38.cell? ⟨gb191,0,none⟩=some (.string x192000_1):=(blk_cell BK191.out 0).trans rfl;have hcz39_1 : w38.cell? ⟨gb191,1,none⟩=some (.int .i64 x192001_1):=(blk_cell BK191.out 1).trans rfl;have hcz39_2 : w38.cell? ⟨gb191,2,none⟩=some (.int .i64 x192002_1):=(blk_cell BK191.out 2).trans rfl;have hfz39_0:=blk_frozen BK191.out 0;have hfz39_1:=blk_frozen BK191.out 1;have hfz39_2:=blk_frozen BK191.out 2;have hcz40_0 : w38.cell? ⟨gb199,0,none⟩=some (.int .i64 0):=(blk_cell BK199.out 0).trans rfl;have hcz40_1 : w38.cell? ⟨gb199,1,none⟩=some (.int .i64 0):=(blk_cell BK199.out 1).trans rfl;have hcz40_2 : w38.cell? ⟨gb199,2,none⟩=some (.int .u64 0):=(blk_cell BK199.out 2).trans rfl;have hcz40_3 : w38.cell? ⟨gb199,3,none⟩=some (.int .u64 0):=(blk_cell BK199.out 3).trans rfl;have hfz40_0:=blk_frozen BK199.out 0;have hfz40_1:=blk_frozen BK199.out 1;have hfz40_2:=blk_frozen BK199.out 2;have hfz40_3:=blk_frozen BK199.out 3)|((with_reducible refine gate_callee (f:=27) rfl ?_);refine goesL_ (some 39) rfl rfl Try.func27 (by kernel_rfl) rfl #[.agg #[.string t200,.int .i64 t201,.int .i64 t202],.int .i64 1] rfl (by (try simp only [List.map_toArray,List.map_cons,List.map_nil]);first|done|rfl|(simp only [List.length_drop,List.length_take];rfl)) ?_;(with_reducible refine (girderref01_Reader_Number.calls t200 t201 t202 1 t204 t205 t206 t207 _ A24.out).mono ?_);rintro e w41 ⟨rfl,hb⟩;refine ⟨_,rfl,?_⟩;have n0_:=Aside0.mk (Kd.R_below (by (with_reducible repeat (first|apply Kd.R_alloc|apply Kd.R_drewN|apply Kd.R_drew));exact (Kd.R_mono (Kd.R_mono (Kd.R_far (p:=⟨gb199,0,none⟩) (Kd.R_far (p:=⟨gb191,2,none⟩) (Kd.R_far (p:=⟨gb191,1,none⟩) (Kd.R_far (p:=⟨gb191,0,none⟩) (Kd.R_mono (Kd.R_types HO_193015.out BK191.out (by decide)) (fun k_ hk=>(⟨hk,hk.1.2⟩ : _∧k_≠gb199))) (fun _ hk=>hk.1.2) (.string t200)) (fun _ hk=>hk.1.2) (.int .i64 t201)) (fun _ hk=>hk.1.2) (.int .i64 t202)) (fun _ hk=>hk.2) (.int .i64 (wrap64 (t203)))) (fun _ h_=>h_.1)) (fun _ h_=>h_.1))) hb);have n1_:=Aside0.mk (Kd.R_below (by (with_reducible repeat (first|apply Kd.R_alloc|apply Kd.R_drewN|apply Kd.R_drew));exact (Kd.R_mono (Kd.R_mono (Kd.R_far (p:=⟨gb199,0,none⟩) (Kd.R_far (p:=⟨gb191,2,none⟩) (Kd.R_far (p:=⟨gb191,1,none⟩) (Kd.R_far (p:=⟨gb191,0,none⟩) (Kd.R_types (Kd.R_types HO_193016.out BK191.out (by decide)) BK199.out (by decide)) (fun _ hk=>hk.1.2) (.string t200)) (fun _ hk=>hk.1.2) (.int .i64 t201)) (fun _ hk=>hk.1.2) (.int .i64 t202)) (fun _ hk=>hk.2) (.int .i64 (wrap64 (t203)))) (fun _ h_=>h_.1)) (fun _ h_=>h_.1))) hb);have n2_:=Aside0.mk (blk_below (g:=gb191) (o:=.cells #[.string t200,.int .i64 t201,.int .i64 t202] 81 (0,0)) (by (with_reducible repeat (first|refine blk_drewN ?_ _|refine blk_drew ?_|refine blk_alloc ?_ _));refine blk_far ?_ NB191_199.out _;(with_reducible repeat (first|refine blk_drewN ?_ _|refine blk_drew ?_|refine blk_alloc ?_ _));refine blk_put (cs:=#[.string t200,.int .i64 t201,.int .i64 x192002_1]) ?_ 2 _ rfl;(with_reducible repeat (first|refine blk_drewN ?_ _|refine blk_drew ?_|refine blk_alloc ?_ _));refine blk_put (cs:=#[.string t200,.int .i64 x192001_1,.int .i64 x192002_1]) ?_ 1 _ rfl;(with_reducible repeat (first|refine blk_drewN ?_ _|refine blk_drew ?_|refine blk_alloc ?_ _));refine blk_put (cs:=#[.string x192000_1,.int .i64 x192001_1,.int .i64 x192002_1]) ?_ 0 _ rfl;(with_reducible repeat (first|refine blk_drewN ?_ _|refine blk_drew ?_|refine blk_alloc ?_ _));exact BK191.out) hb);have n3_:=Aside0.mk (blk_below (g:=gb192) (o:=.cells #[.int .i64 a1_0,.int .i64 a1_1,.int .u64 a1_2,.int .u64 a1_3,.int .u32 a1_4,.int .i64 a1_5,.int .i64 a1_6,.string a1_7,.string a1_8,.int .i64 a1_9,.int .i64 a1_10,.string a1_11,.int .u32 a1_12,.int .i64 a1_13,.bool a1_14,u193015,.slice Ao6 l1_16.length co6] 47 (0,0)) (by (with_reducible repeat (first|refine blk_drewN ?_ _|refine blk_drew ?_|refine blk_alloc ?_ _));refine blk_far ?_ NB192_199.out _;(with_reducible repeat (first|refine blk_drewN ?_ _|refine blk_drew ?_|refine blk_alloc ?_ _));refine blk_far ?_ NB192_191.out _;(with_reducible repeat (first|refine blk_drewN ?_ _|refine blk_drew ?_|refine blk_alloc ?_ _));refine blk_far ?_ NB192_191.out _;(with_reducible repeat (first|refine blk_drewN ?_ _|refine blk_drew ?_|refine blk_alloc ?_ _));refine blk_far ?_ NB192_191.out _;(with_reducible repeat (first|refine blk_drewN ?_ _|refine blk_drew ?_|refine blk_alloc ?_ _));exact BK192.out) hb);have n4_:=Aside0.mk (blk_below (g:=gb193) (o:=.cells #[.string (⟨#[]⟩ : ByteArray),.int .i64 0,.int .i64 0] 81 (0,0)) (by (with_reducible repeat (first|refine blk_drewN ?_ _|refine blk_drew ?_|refine blk_alloc ?_ _));refine blk_far ?_ NB193_199.out _;(with_reducible repeat (first|refine blk_drewN ?_ _|refine blk_drew ?_|refine blk_alloc ?_ _));refine blk_far ?_ NB193_191.out _;(with_reducible repeat (first|refine blk_drewN ?_ _|refine blk_drew ?_|refine blk_alloc ?_ _));refine blk_far ?_ NB193_191.out _;(with_reducible repeat (first|refine blk_drewN ?_ _|refine blk_drew ?_|refine blk_alloc ?_ _));refine blk_far ?_ NB193_191.out _;(with_reducible repeat (first|refine blk_drewN ?_ _|refine blk_drew ?_|refine blk_alloc ?_ _));exact BK193.out) hb);have n5_:=Aside0.mk (blk_below (g:=gb194) (o:=.cells #[.int .i64 0,.int .i64 0,.int .u64 0,.int .u64 0,.int .u32 0,.int .i64 0,.int .i64 0,.string (⟨#[]⟩ : ByteArray),.string (⟨#[]⟩ : ByteArray),.int .i64 0,.int .i64 0,.string (⟨#[]⟩ : ByteArray),.int .u32 0,.int .i64 0,.bool false,.slice none 0 0,.slice none 0 0] 47 (0,0)) (by (with_reducible repeat (first|refine blk_drewN ?_ _|refine blk_drew ?_|refine blk_alloc ?_ _));refine blk_far ?_ NB194_199.out _;(with_reducible repeat (first|refine blk_drewN ?_ _|refine blk_drew ?_|refine blk_alloc ?_ _));refine blk_far ?_ NB194_191.out _;(with_reducible repeat (first|refine blk_drewN ?_ _|refine blk_drew ?_|refine blk_alloc ?_ _));refine blk_far ?_ NB194_191.out _;(with_reducible repeat (first|refine blk_drewN ?_ _|refine blk_drew ?_|refine blk_alloc ?_ _));refine blk_far ?_ NB194_191.out _;(with_reducible repeat (first|refine blk_drewN ?_ _|refine blk_drew ?_|refine blk_alloc ?_ _));exact BK194.out) hb);have n6_:=Aside0.mk (blk_below (g:=gb199) (o:=.cells #[.int .i64 (wrap64 (t203)),.int .i64 0,.int .u64 0,.int .u64 0] 56 (0,0)) (by (with_reducible repeat (first|refine blk_drewN ?_ _|refine blk_drew ?_|refine blk_alloc ?_ _));refine blk_put (cs:=#[.int .i64 0,.int .i64 0,.int .u64 0,.int .u64 0]) ?_ 0 _ rfl;(with_reducible repeat (first|refine blk_drewN ?_ _|refine blk_drew ?_|refine blk_alloc ?_ _));refine blk_far ?_ NB199_191.out _;(with_reducible repeat (first|refine blk_drewN ?_ _|refine blk_drew ?_|refine blk_alloc ?_ _));refine blk_far ?_ NB199_191.out _;(with_reducible repeat (first|refine blk_drewN ?_ _|refine blk_drew ?_|refine blk_alloc ?_ _));refine blk_far ?_ NB199_191.out _;(with_reducible repeat (first|refine blk_drewN ?_ _|refine blk_drew ?_|refine blk_alloc ?_ _));exact BK199.out) hb);have n7_:=Aside0.mk (Kept.below (S:=(fun k_=>P1_15_ k_ ∨ P1_16_ k_)) (by repeat (first|(with_reducible first|exact HK.out|apply Kept.alloc|apply Kept.drewN|apply Kept.drew|refine Kept.setCell ?_ (.inr GW191.out) _|refine Kept.setCell ?_ (.inr GW192.out) _|refine Kept.setCell ?_ (.inr GW193.out) _|refine Kept.setCell ?_ (.inr GW194.out) _|refine Kept.setCell ?_ (.inr GW199.out) _)|exact HK.out)) hb);have n8_:=Aside0.mk (below_step (by repeat (first|(with_reducible first|exact HB.out|apply below_alloc|apply pw_below_drewN|apply below_drew1|refine below_set ?_ GE191.out|refine below_set ?_ GE192.out|refine below_set ?_ GE193.out|refine below_set ?_ GE194.out|refine below_set ?_ GE199.out)|exact HB.out)) hb);clear HO_193015;clear HO_193016;clear BK191;clear BK192;clear BK193;clear BK194;clear BK199;clear HK;clear HB;have HO_193015:=n0_;have HO_193016:=n1_;have BK191:=n2_;have BK192:=n3_;have BK193:=n4_;have BK194:=n5_;have BK199:=n6_;have HK:=n7_;have HB:=n8_;clear n0_ n1_ n2_ n3_ n4_ n5_ n6_ n7_ n8_;(try clear hb);(try clear hb2);(try clear hk);(try clear hi);have hcz42_0 : w41.cell? ⟨gb191,0,none⟩=some (.string t200):=(blk_cell BK191.out 0).trans rfl;have hcz42_1 : w41.cell? ⟨gb191,1,none⟩=some (.int .i64 t201):=(blk_cell BK191.out 1).trans rfl;have hcz42_2 : w41.cell? ⟨gb191,2,none⟩=some (.int .i64 t202):=(blk_cell BK191.out 2).trans rfl;have hfz42_0:=blk_frozen BK191.out 0;have hfz42_1:=blk_frozen BK191.out 1;have hfz42_2:=blk_frozen BK191.out 2;have hcz43_0 : w41.cell? ⟨gb199,0,none⟩=some (.int .i64 (wrap64 (t203))):=(blk_cell BK199.out 0).trans rfl;have hcz43_1 : w41.cell? ⟨gb199,1,none⟩=some (.int .i64 0):=(blk_cell BK199.out 1).trans rfl;have hcz43_2 : w41.cell? ⟨gb199,2,none⟩=some (.int .u64 0):=(blk_cell BK199.out 2).trans rfl;have hcz43_3 : w41.cell? ⟨gb199,3,none⟩=some (.int .u64 0):=(blk_cell BK199.out 3).trans rfl;have hfz43_0:=blk_frozen BK199.out 0;have hfz43_1:=blk_frozen BK199.out 1;have hfz43_2:=blk_frozen BK199.out 2;have hfz43_3:=blk_frozen BK199.out 3)|((with_reducible refine gate_callee (f:=27) rfl ?_);refine goesL_ (some 47) rfl rfl Try.func27 (by kernel_rfl) rfl #[.agg #[.string t204,.int .i64 t205,.int .i64 t206],.int .i64 8] rfl (by (try simp only [List.map_toArray,List.map_cons,List.map_nil]);first|done|rfl|(simp only [List.length_drop,List.length_take];rfl)) ?_;(with_reducible refine (girderref01_Reader_Number.calls t204 t205 t206 8 t208 t209 t210 t211 _ A25.out).mono ?_);rintro e w44 ⟨rfl,hb⟩;refine ⟨_,rfl,?_⟩;have n0_:=Aside0.mk (Kd.R_below (by (with_reducible repeat (first|apply Kd.R_alloc|apply Kd.R_drewN|apply Kd.R_drew));exact (Kd.R_mono (Kd.R_mono (Kd.R_far (p:=⟨gb199,1,none⟩) (Kd.R_far (p:=⟨gb191,2,none⟩) (Kd.R_far (p:=⟨gb191,1,none⟩) (Kd.R_far (p:=⟨gb191,0,none⟩) (Kd.R_mono (Kd.R_types HO_193015.out BK191.out (by decide)) (fun k_ hk=>(⟨hk,hk.1.2⟩ : _∧k_≠gb199))) (fun _ hk=>hk.1.2) (.string t204)) (fun _ hk=>hk.1.2) (.int .i64 t205)) (fun _ hk=>hk.1.2) (.int .i64 t206)) (fun _ hk=>hk.2) (.int .i64 (wrap64 (t207)))) (fun _ h_=>h_.1)) (fun _ h_=>h_.1))) hb);have n1_:=Aside0.mk (Kd.R_below (by (with_reducible repeat (first|apply Kd.R_alloc|apply Kd.R_drewN|apply Kd.R_drew));exact (Kd.R_mono (Kd.R_mono (Kd.R_far (p:=⟨gb199,1,none⟩) (Kd.R_far (p:=⟨gb191,2,none⟩) (Kd.R_far (p:=⟨gb191,1,none⟩) (Kd.R_far (p:=⟨gb191,0,none⟩) (Kd.R_types (Kd.R_types HO_193016.out BK191.out (by decide)) BK199.out (by decide)) (fun _ hk=>hk.1.2) (.string t204)) (fun _ hk=>hk.1.2) (.int .i64 t205)) (fun _ hk=>hk.1.2) (.int .i64 t206)) (fun _ hk=>hk.2) (.int .i64 (wrap64 (t207)))) (fun _ h_=>h_.1)) (fun _ h_=>h_.1))) hb);have n2_:=Aside0.mk (blk_below (g:=gb191) (o:=.cells #[.string t204,.int .i64 t205,.int .i64 t206] 81 (0,0)) (by (with_reducible repeat (first|refine blk_drewN ?_ _|refine blk_drew ?_|refine blk_alloc ?_ _));refine blk_far ?_ NB191_199.out _;(with_reducible repeat (first|refine blk_drewN ?_ _|refine blk_drew ?_|refine blk_alloc ?_ _));refine blk_put (cs:=#[.string t204,.int .i64 t205,.int .i64 t202]) ?_ 2 _ rfl;(with_reducible repeat (first|refine blk_drewN ?_ _|refine blk_drew ?_|refine blk_alloc ?_ _));refine blk_put (cs:=#[.string t204,.int .i64 t201,.int .i64 t202]) ?_ 1 _ rfl;(with_reducible repeat (first|refine blk_drewN ?_ _|refine blk_drew ?_|refine blk_alloc ?_ _));refine blk_put (cs:=#[.string t200,.int .i64 t201,.int .i64 t202]) ?_ 0 _ rfl;(with_reducible repeat (first|refine blk_drewN ?_ _|refine blk_drew ?_|refine blk_alloc ?_ _));exact BK191.out) hb);have n3_:=Aside0.mk (blk_below (g:=gb192) (o:=.cells #[.int .i64 a1_0,.int .i64 a1_1,.int .u64 a1_2,.int .u64 a1_3,.int .u32 a1_4,.int .i64 a1_5,.int .i64 a1_6,.string a1_7,.string a1_8,.int .i64 a1_9,.int .i64 a1_10,.string a1_11,.int .u32 a1_12,.int .i64 a1_13,.bool a1_14,u193015,.slice Ao6 l1_16.length co6] 47 (0,0)) (by (with_reducible repeat (first|refine blk_drewN ?_ _|refine blk_drew ?_|refine blk_alloc ?_ _));refine blk_far ?_ NB192_199.out _;(with_reducible repeat (first|refine blk_drewN ?_ _|refine blk_drew ?_|refine blk_alloc ?_ _));refine blk_far ?_ NB192_191.out _;(with_reducible repeat (first|refine blk_drewN ?_ _|refine blk_drew ?_|refine blk_alloc ?_ _));refine blk_far ?_ NB192_191.out _;(with_reducible repeat (first|refine blk_drewN ?_ _|refine blk_drew ?_|refine blk_alloc ?_ _));refine blk_far ?_ NB192_191.out _;(with_reducible repeat (first|refine blk_drewN ?_ _|refine blk_drew ?_|refine blk_alloc ?_ _));exact BK192.out) hb);have n4_:=Aside0.mk (blk_below (g:=gb193) (o:=.cells #[.string (⟨#[]⟩ : ByteArray),.int .i64 0,.int .i64 0] 81 (0,0)) (by (with_reducible repeat (first|refine blk_drewN ?_ _|refine blk_drew ?_|refine blk_alloc ?_ _));refine blk_far ?_ NB193_199.out _;(with_reducible repeat (first|refine blk_drewN ?_ _|refine blk_drew ?_|refine blk_alloc ?_ _));refine blk_far ?_ NB193_191.out _;(with_reducible repeat (first|refine blk_drewN ?_ _|refine blk_drew ?_|refine blk_alloc ?_ _));refine blk_far ?_ NB193_191.out _;(with_reducible repeat (first|refine blk_drewN ?_ _|refine blk_drew ?_|refine blk_alloc ?_ _));refine blk_far ?_ NB193_191.out _;(with_reducible repeat (first|refine blk_drewN ?_ _|refine blk_drew ?_|refine blk_alloc ?_ _));exact BK193.out) hb);have n5_:=Aside0.mk (blk_below (g:=gb194) (o:=.cells #[.int .i64 0,.int .i64 0,.int .u64 0,.int .u64 0,.int .u32 0,.int .i64 0,.int .i64 0,.string (⟨#[]⟩ : ByteArray),.string (⟨#[]⟩ : ByteArray),.int .i64 0,.int .i64 0,.string (⟨#[]⟩ : ByteArray),.int .u32 0,.int .i64 0,.bool false,.slice none 0 0,.slice none 0 0] 47 (0,0)) (by (with_reducible repeat (first|refine blk_drewN ?_ _|refine blk_drew ?_|refine blk_alloc ?_ _));refine blk_far ?_ NB194_199.out _;(with_reducible repeat (first|refine blk_drewN ?_ _|refine blk_drew ?_|refine blk_alloc ?_ _));refine blk_far ?_ NB194_191.out _;(with_reducible repeat (first|refine blk_drewN ?_ _|refine blk_drew ?_|refine blk_alloc ?_ _));refine blk_far ?_ NB194_191.out _;(with_reducible repeat (first|refine blk_drewN ?_ _|refine blk_drew ?_|refine blk_alloc ?_ _));refine blk_far ?_ NB194_191.out _;(with_reducible repeat (first|refine blk_drewN ?_ _|refine blk_drew ?_|refine blk_alloc ?_ _));exact BK194.out) hb);have n6_:=Aside0.mk (blk_below (g:=gb199) (o:=.cells #[.int .i64 (wrap64 (t203)),.int .i64 (wrap64 (t207)),.int .u64 0,.int .u64 0] 56 (0,0)) (by (with_reducible repeat (first|refine blk_drewN ?_ _|refine blk_drew ?_|refine blk_alloc ?_ _));refine blk_put (cs:=#[.int .i64 (wrap64 (t203)),.int .i64 0,.int .u64 0,.int .u64 0]) ?_ 1 _ rfl;(with_reducible repeat (first|refine blk_drewN ?_ _|refine blk_drew ?_|refine blk_alloc ?_ _));refine blk_far ?_ NB199_191.out _;(with_reducible repeat (first|refine blk_drewN ?_ _|refine blk_drew ?_|refine blk_alloc ?_ _));refine blk_far ?_ NB199_191.out _;(with_reducible repeat (first|refine blk_drewN ?_ _|refine blk_drew ?_|refine blk_alloc ?_ _));refine blk_far ?_ NB199_191.out _;(with_reducible repeat (first|refine blk_drewN ?_ _|refine blk_drew ?_|refine blk_alloc ?_ _));exact BK199.out) hb);have n7_:=Aside0.mk (Kept.below (S:=(fun k_=>P1_15_ k_ ∨ P1_16_ k_)) (by repeat (first|(with_reducible first|exact HK.out|apply Kept.alloc|apply Kept.drewN|apply Kept.drew|refine Kept.setCell ?_ (.inr GW191.out) _|refine Kept.setCell ?_ (.inr GW192.out) _|refine Kept.setCell ?_ (.inr GW193.out) _|refine Kept.setCell ?_ (.inr GW194.out) _|refine Kept.setCell ?_ (.inr GW199.out) _)|exact HK.out)) hb);have n8_:=Aside0.mk (below_step (by repeat (first|(with_reducible first|exact HB.out|apply below_alloc|apply pw_below_drewN|apply below_drew1|refine below_set ?_ GE191.out|refine below_set ?_ GE192.out|refine below_set ?_ GE193.out|refine below_set ?_ GE194.out|refine below_set ?_ GE199.out)|exact HB.out)) hb);clear HO_193015;clear HO_193016;clear BK191;clear BK192;clear BK193;clear BK194;clear BK199;clear HK;clear HB;have HO_193015:=n0_;have HO_193016:=n1_;have BK191:=n2_;have BK192:=n3_;have BK193:=n4_;have BK194:=n5_;have BK199:=n6_;have HK:=n7_;have HB:=n8_;clear n0_ n1_ n2_ n3_ n4_ n5_ n6_ n7_ n8_;(try clear hb);(try clear hb2);(try clear hk);(try clear hi);have hcz45_0 : w44.cell? ⟨gb191,0,none⟩=some (.string t204):=(blk_cell BK191.out 0).trans rfl;have hcz45_1 : w44.cell? ⟨gb191,1,none⟩=some (.int .i64 t205):=(blk_cell BK191.out 1).trans rfl;have hcz45_2 : w44.cell? ⟨gb191,2,none⟩=some (.int .i64 t206):=(blk_cell BK191.out 2).trans rfl;have hfz45_0:=blk_frozen BK191.out 0;have hfz45_1:=blk_frozen BK191.out 1;have hfz45_2:=blk_frozen BK191.out 2;have hcz46_0 : w44.cell? ⟨gb199,0,none⟩=some (.int .i64 (wrap64 (t203))):=(blk_cell BK199.out 0).trans rfl;have hcz46_1 : w44.cell? ⟨gb199,1,none⟩=some (.int .i64 (wrap64 (t207))):=(blk_cell BK199.out 1).trans rfl;have hcz46_2 : w44.cell? ⟨gb199,2,none⟩=some (.int .u64 0):=(blk_cell BK199.out 2).trans rfl;have hcz46_3 : w44.cell? ⟨gb199,3,none⟩=some (.int .u64 0):=(blk_cell BK199.out 3).trans rfl;have hfz46_0:=blk_frozen BK199.out 0;have hfz46_1:=blk_frozen BK199.out 1;have hfz46_2:=blk_frozen BK199.out 2;have hfz46_3:=blk_frozen BK199.out 3)|((with_reducible refine gate_callee (f:=27) rfl ?_);refine goesL_ (some 53) rfl rfl Try.func27 (by kernel_rfl) rfl #[.agg #[.string t208,.int .i64 t209,.int .i64 t210],.int .i64 8] rfl (by (try simp only [List.map_toArray,List.map_cons,List.map_nil]);first|done|rfl|(simp only [List.length_drop,List.length_take];rfl)) ?_;(with_reducible refine (girderref01_Reader_Number.calls t208 t209 t210 8 t212 t213 t214 t215 _ A26.out).mono ?_);rintro e w47 ⟨rfl,hb⟩;refine ⟨_,rfl,?_⟩;have n0_:=Aside0.mk (Kd.R_below (by (with_reducible repeat (first|apply Kd.R_alloc|apply Kd.R_drewN|apply Kd.R_drew));exact (Kd.R_mono (Kd.R_mono (Kd.R_far (p:=⟨gb199,2,none⟩) (Kd.R_far (p:=⟨gb191,2,none⟩) (Kd.R_far (p:=⟨gb191,1,none⟩) (Kd.R_far (p:=⟨gb191,0,none⟩) (Kd.R_mono (Kd.R_types HO_193015.out BK191.out (by decide)) (fun k_ hk=>(⟨hk,hk.1.2⟩ : _∧k_≠gb199))) (fun _ hk=>hk.1.2) (.string t208)) (fun _ hk=>hk.1.2) (.int .i64 t209)) (fun _ hk=>hk.1.2) (.int .i64 t210)) (fun _ hk=>hk.2) (.int .u64 t211)) (fun _ h_=>h_.1)) (fun _ h_=>h_.1))) hb);have n1_:=Aside0.mk (Kd.R_below (by (with_reducible repeat (first|apply Kd.R_alloc|apply Kd.R_drewN|apply Kd.R_drew));exact (Kd.R_mono (Kd.R_mono (Kd.R_far (p:=⟨gb199,2,none⟩) (Kd.R_far (p:=⟨gb191,2,none⟩) (Kd.R_far (p:=⟨gb191,1,none⟩) (Kd.R_far (p:=⟨gb191,0,none⟩) (Kd.R_types (Kd.R_types HO_193016.out BK191.out (by decide)) BK199.out (by decide)) (fun _ hk=>hk.1.2) (.string t208)) (fun _ hk=>hk.1.2) (.int .i64 t209)) (fun _ hk=>hk.1.2) (.int .i64 t210)) (fun _ hk=>hk.2) (.int .u64 t211)) (fun _ h_=>h_.1)) (fun _ h_=>h_.1))) hb);have n2_:=Aside0.mk (blk_below (g:=gb191) (o:=.cells #[.string t208,.int .i64 t209,.int .i64 t210] 81 (0,0)) (by (with_reducible repeat (first|refine blk_drewN ?_ _|refine blk_drew ?_|refine blk_alloc ?_ _));refine blk_far ?_ NB191_199.out _;(with_reducible repeat (first|refine blk_drewN ?_ _|refine blk_drew ?_|refine blk_alloc ?_ _));refine blk_put (cs:=#[.string t208,.int .i64 t209,.int .i64 t206]) ?_ 2 _ rfl;(with_reducible repeat (first|refine blk_drewN ?_ _|refine blk_drew ?_|refine blk_alloc ?_ _));refine blk_put (cs:=#[.string t208,.int .i64 t205,.int .i64 t206]) ?_ 1 _ rfl;(with_reducible repeat (first|refine blk_drewN ?_ _|refine blk_drew ?_|refine blk_alloc ?_ _));refine blk_put (cs:=#[.string t204,.int .i64 t205,.int .i64 t206]) ?_ 0 _ rfl;(with_reducible repeat (first|refine blk_drewN ?_ _|refine blk_drew ?_|refine blk_alloc ?_ _));exact BK191.out) hb);have n3_:=Aside0.mk (blk_below (g:=gb192) (o:=.cells #[.int .i64 a1_0,.int .i64 a1_1,.int .u64 a1_2,.int .u64 a1_3,.int .u32 a1_4,.int .i64 a1_5,.int .i64 a1_6,.string a1_7,.string a1_8,.int .i64 a1_9,.int .i64 a1_10,.string a1_11,.int .u32 a1_12,.int .i64 a1_13,.bool a1_14,u193015,.slice Ao6 l1_16.length co6] 47 (0,0)) (by (with_reducible repeat (first|refine blk_drewN ?_ _|refine blk_drew ?_|refine blk_alloc ?_ _));refine blk_far ?_ NB192_199.out _;(with_reducible repeat (first|refine blk_drewN ?_ _|refine blk_drew ?_|refine blk_alloc ?_ _));refine blk_far ?_ NB192_191.out _;(with_reducible repeat (first|refine blk_drewN ?_ _|refine blk_drew ?_|refine blk_alloc ?_ _));refine blk_far ?_ NB192_191.out _;(with_reducible repeat (first|refine blk_drewN ?_ _|refine blk_drew ?_|refine blk_alloc ?_ _));refine blk_far ?_ NB192_191.out _;(with_reducible repeat (first|refine blk_drewN ?_ _|refine blk_drew ?_|refine blk_alloc ?_ _));exact BK192.out) hb);have n4_:=Aside0.mk (blk_below (g:=gb193) (o:=.cells #[.string (⟨#[]⟩ : ByteArray),.int .i64 0,.int .i64 0] 81 (0,0)) (by (with_reducible repeat (first|refine blk_drewN ?_ _|refine blk_drew ?_|refine blk_alloc ?_ _));refine blk_far ?_ NB193_199.out _;(with_reducible repeat (first|refine blk_drewN ?_ _|refine blk_drew ?_|refine blk_alloc ?_ _));refine blk_far ?_ NB193_191.out _;(with_reducible repeat (first|refine blk_drewN ?_ _|refine blk_drew ?_|refine blk_alloc ?_ _));refine blk_far ?_ NB193_191.out _;(with_reducible repeat (first|refine blk_drewN ?_ _|refine blk_drew ?_|refine blk_alloc ?_ _));refine blk_far ?_ NB193_191.out _;(with_reducible repeat (first|refine blk_drewN ?_ _|refine blk_drew ?_|refine blk_alloc ?_ _));exact BK193.out) hb);have n5_:=Aside0.mk (blk_below (g:=gb194) (o:=.cells #[.int .i64 0,.int .i64 0,.int .u64 0,.int .u64 0,.int .u32 0,.int .i64 0,.int .i64 0,.string (⟨#[]⟩ : ByteArray),.string (⟨#[]⟩ : ByteArray),.int .i64 0,.int .i64 0,.string (⟨#[]⟩ : ByteArray),.int .u32 0,.int .i64 0,.bool false,.slice none 0 0,.slice none 0 0] 47 (0,0)) (by (with_reducible repeat (first|refine blk_drewN ?_ _|refine blk_drew ?_|refine blk_alloc ?_ _));refine blk_far ?_ NB194_199.out _;(with_reducible repeat (first|refine blk_drewN ?_ _|refine blk_drew ?_|refine blk_alloc ?_ _));refine blk_far ?_ NB194_191.out _;(with_reducible repeat (first|refine blk_drewN ?_ _|refine blk_drew ?_|refine blk_alloc ?_ _));refine blk_far ?_ NB194_191.out _;(with_reducible repeat (first|refine blk_drewN ?_ _|refine blk_drew ?_|refine blk_alloc ?_ _));refine blk_far ?_ NB194_191.out _;(with_reducible repeat (first|refine blk_drewN ?_ _|refine blk_drew ?_|refine blk_alloc ?_ _));exact BK194.out) hb);have n6_:=Aside0.mk (blk_below (g:=gb199) (o:=.cells #[.int .i64 (wrap64 (t203)),.int .i64 (wrap64 (t207)),.int .u64 t211,.int .u64 0] 56 (0,0)) (by (with_reducible repeat (first|refine blk_drewN ?_ _|refine blk_drew ?_|refine blk_alloc ?_ _));refine blk_put (cs:=#[.int .i64 (wrap64 (t203)),.int .i64 (wrap64 (t207)),.int .u64 0,.int .u64 0]) ?_ 2 _ rfl;(with_reducible repeat (first|refine blk_drewN ?_ _|refine blk_drew ?_|refine blk_alloc ?_ _));refine blk_far ?_ NB199_191.out _;(with_reducible repeat (first|refine blk_drewN ?_ _|refine blk_drew ?_|refine blk_alloc ?_ _));refine blk_far ?_ NB199_191.out _;(with_reducible repeat (first|refine blk_drewN ?_ _|refine blk_drew ?_|refine blk_alloc ?_ _));refine blk_far ?_ NB199_191.out _;(with_reducible repeat (first|refine blk_drewN ?_ _|refine blk_drew ?_|refine blk_alloc ?_ _));exact BK199.out) hb);have n7_:=Aside0.mk (Kept.below (S:=(fun k_=>P1_15_ k_ ∨ P1_16_ k_)) (by repeat (first|(with_reducible first|exact HK.out|apply Kept.alloc|apply Kept.drewN|apply Kept.drew|refine Kept.setCell ?_ (.inr GW191.out) _|refine Kept.setCell ?_ (.inr GW192.out) _|refine Kept.setCell ?_ (.inr GW193.out) _|refine Kept.setCell ?_ (.inr GW194.out) _|refine Kept.setCell ?_ (.inr GW199.out) _)|exact HK.out)) hb);have n8_:=Aside0.mk (below_step (by repeat (first|(with_reducible first|exact HB.out|apply below_alloc|apply pw_below_drewN|apply below_drew1|refine below_set ?_ GE191.out|refine below_set ?_ GE192.out|refine below_set ?_ GE193.out|refine below_set ?_ GE194.out|refine below_set ?_ GE199.out)|exact HB.out)) hb);clear HO_193015;clear HO_193016;clear BK191;clear BK192;clear BK193;clear BK194;clear BK199;clear HK;clear HB;have HO_193015:=n0_;have HO_193016:=n1_;have BK191:=n2_;have BK192:=n3_;have BK193:=n4_;have BK194:=n5_;have BK199:=n6_;have HK:=n7_;have HB:=n8_;clear n0_ n1_ n2_ n3_ n4_ n5_ n6_ n7_ n8_;(try clear hb);(try clear hb2);(try clear hk);(try clear hi);have hcz48_0 : w47.cell? ⟨gb191,0,none⟩=some (.string t208):=(blk_cell BK191.out 0).trans rfl;have hcz48_1 : w47.cell? ⟨gb191,1,none⟩=some (.int .i64 t209):=(blk_cell BK191.out 1).trans rfl;have hcz48_2 : w47.cell? ⟨gb191,2,none⟩=some (.int .i64 t210):=(blk_cell BK191.out 2).trans rfl;have hfz48_0:=blk_frozen BK191.out 0;have hfz48_1:=blk_frozen BK191.out 1;have hfz48_2:=blk_frozen BK191.out 2;have hcz49_0 : w47.cell? ⟨gb199,0,none⟩=some (.int .i64 (wrap64 (t203))):=(blk_cell BK199.out 0).trans rfl;have hcz49_1 : w47.cell? ⟨gb199,1,none⟩=some (.int .i64 (wrap64 (t207))):=(blk_cell BK199.out 1).trans rfl;have hcz49_2 : w47.cell? ⟨gb199,2,none⟩=some (.int .u64 t211):=(blk_cell BK199.out 2).trans rfl;have hcz49_3 : w47.cell? ⟨gb199,3,none⟩=some (.int .u64 0):=(blk_cell BK199.out 3).trans rfl;have hfz49_0:=blk_frozen BK199.out 0;have hfz49_1:=blk_frozen BK199.out 1;have hfz49_2:=blk_frozen BK199.out 2;have hfz49_3:=blk_frozen BK199.out 3;have hnb50:=NB192_193.out;have hnc50:=NB193_192.out;have hnb51:=NB192_194.out;have hnc51:=NB194_192.out;have hcz52_0 : w47.cell? ⟨gb192,0,none⟩=some (.int .i64 a1_0):=(blk_cell BK192.out 0).trans rfl;have hcz52_1 : w47.cell? ⟨gb192,1,none⟩=some (.int .i64 a1_1):=(blk_cell BK192.out 1).trans rfl;have hcz52_2 : w47.cell? ⟨gb192,2,none⟩=some (.int .u64 a1_2):=(blk_cell BK192.out 2).trans rfl;have hcz52_3 : w47.cell? ⟨gb192,3,none⟩=some (.int .u64 a1_3):=(blk_cell BK192.out 3).trans rfl;have hcz52_4 : w47.cell? ⟨gb192,4,none⟩=some (.int .u32 a1_4):=(blk_cell BK192.out 4).trans rfl;have hcz52_5 : w47.cell? ⟨gb192,5,none⟩=some (.int .i64 a1_5):=(blk_cell BK192.out 5).trans rfl;have hcz52_6 : w47.cell? ⟨gb192,6,none⟩=some (.int .i64 a1_6):=(blk_cell BK192.out 6).trans rfl;have hcz52_7 : w47.cell? ⟨gb192,7,none⟩=some (.string a1_7):=(blk_cell BK192.out 7).trans rfl;have hcz52_8 : w47.cell? ⟨gb192,8,none⟩=some (.string a1_8):=(blk_cell BK192.out 8).trans rfl;have hcz52_9 : w47.cell? ⟨gb192,9,none⟩=some (.int .i64 a1_9):=(blk_cell BK192.out 9).trans rfl;have hcz52_10 : w47.cell? ⟨gb192,10,none⟩=some (.int .i64 a1_10):=(blk_cell BK192.out 10).trans rfl;have hcz52_11 : w47.cell? ⟨gb192,11,none⟩=some (.string a1_11):=(blk_cell BK192.out 11).trans rfl;have hcz52_12 : w47.cell? ⟨gb192,12,none⟩=some (.int .u32 a1_12):=(blk_cell BK192.out 12).trans rfl;have hcz52_13 : w47.cell? ⟨gb192,13,none⟩=some (.int .i64 a1_13):=(blk_cell BK192.out 13).trans rfl;have hcz52_14 : w47.cell? ⟨gb192,14,none⟩=some (.bool a1_14):=(blk_cell BK192.out 14).trans rfl;have hcz52_15 : w47.cell? ⟨gb192,15,none⟩=some (u193015):=(blk_cell BK192.out 15).trans rfl;have hcz52_16 : w47.cell? ⟨gb192,16,none⟩=some (.slice Ao6 l1_16.length co6):=(blk_cell BK192.out 16).trans rfl;have hfz52_0:=blk_frozen BK192.out 0;have hfz52_1:=blk_frozen BK192.out 1;have hfz52_2:=blk_frozen BK192.out 2;have hfz52_3:=blk_frozen BK192.out 3;have hfz52_4:=blk_frozen BK192.out 4;have hfz52_5:=blk_frozen BK192.out 5;have hfz52_6:=blk_frozen BK192.out 6;have hfz52_7:=blk_frozen BK192.out 7;have hfz52_8:=blk_frozen BK192.out 8;have hfz52_9:=blk_frozen BK192.out 9;have hfz52_10:=blk_frozen BK192.out 10;have hfz52_11:=blk_frozen BK192.out 11;have hfz52_12:=blk_frozen BK192.out 12;have hfz52_13:=blk_frozen BK192.out 13;have hfz52_14:=blk_frozen BK192.out 14;have hfz52_15:=blk_frozen BK192.out 15;have hfz52_16:=blk_frozen BK192.out 16)|((with_reducible refine gate_builtin (b:=.append) (xs:=#[.tmp 58,.tmp 60]) rfl ?_);at_builtin;refine Kd.R_append k56 (w0:=w0) w0.heap.size rfl (.tmp 58) (.tmp 60) 44 56 (.agg #[(.int .i64 0),(.int .i64 0),(.int .u64 0),(.int .u64 0)]) 32 rfl Try.underlying44 info56 rfl (by decide) (by omega) u193015 x193015_1 (⟨wrap64 (t203),wrap64 (t207),t211,t215⟩ : S56) [.int .i64 (wrap64 (t203)),.int .i64 (wrap64 (t207)),.int .u64 t211,.int .u64 t215] (fun k_=>((P1_15_ k_ ∨ P1_16_ k_) ∨ w.heap.size≤k_)∧k_≠gb199) (fun _=>False) rfl (by first|(go_simp;done)|(go_simp;rfl)) ?aP (fun _ hk=>hk.elim) ?aF ?aO ?aB ?aS ?aL ?_;(case aP=>exact k56_mkM _ _ _ (⟨wrap64 (t203),wrap64 (t207),t211,t215⟩ : S56));(case aB=>exact (by repeat (first|(with_reducible first|exact HB.out|apply below_alloc|apply pw_below_drewN|apply below_drew1|refine below_set ?_ GE191.out|refine below_set ?_ GE192.out|refine below_set ?_ GE193.out|refine below_set ?_ GE194.out|refine below_set ?_ GE199.out)|exact HB.out)));(case aF=>exact (fun k_ hk=>⟨(.inr (Nat.le_trans (show Kept w _ (fun k_=>P1_15_ k_ ∨ P1_16_ k_) from by repeat (first|(with_reducible first|exact HK.out|apply Kept.alloc|apply Kept.drewN|apply Kept.drew|refine Kept.setCell ?_ (.inr GW191.out) _|refine Kept.setCell ?_ (.inr GW192.out) _|refine Kept.setCell ?_ (.inr GW193.out) _|refine Kept.setCell ?_ (.inr GW194.out) _|refine Kept.setCell ?_ (.inr GW199.out) _)|exact HK.out)).1 hk)),Kd.freshB (g:=gb199) (o:=.cells #[.int .i64 (wrap64 (t203)),.int .i64 (wrap64 (t207)),.int .u64 t211,.int .u64 t215] 56 (0,0)) (by (with_reducible repeat (first|refine blk_drewN ?_ _|refine blk_drew ?_|refine blk_alloc ?_ _));refine blk_put (cs:=#[.int .i64 (wrap64 (t203)),.int .i64 (wrap64 (t207)),.int .u64 t211,.int .u64 0]) ?_ 3 _ rfl;(with_reducible repeat (first|refine blk_drewN ?_ _|refine blk_drew ?_|refine blk_alloc ?_ _));refine blk_far ?_ NB199_191.out _;(with_reducible repeat (first|refine blk_drewN ?_ _|refine blk_drew ?_|refine blk_alloc ?_ _));refine blk_far ?_ NB199_191.out _;(with_reducible repeat (first|refine blk_drewN ?_ _|refine blk_drew ?_|refine blk_alloc ?_ _));refine blk_far ?_ NB199_191.out _;(with_reducible repeat (first|refine blk_drewN ?_ _|refine blk_drew ?_|refine blk_alloc ?_ _));exact BK199.out) k_ hk⟩));(case aO=>exact (by (with_reducible repeat (first|apply Kd.R_alloc|apply Kd.R_drewN|apply Kd.R_drew));exact Kd.R_mono (Kd.R_far (p:=⟨gb199,3,none⟩) (Kd.R_far (p:=⟨gb191,2,none⟩) (Kd.R_far (p:=⟨gb191,1,none⟩) (Kd.R_far (p:=⟨gb191,0,none⟩) (Kd.R_mono (Kd.R_types HO_193015.out BK191.out (by decide)) (fun k_ hk=>(⟨hk,hk.1.2⟩ : _∧k_≠gb199))) (fun _ hk=>hk.1.2) (.string t212)) (fun _ hk=>hk.1.2) (.int .i64 t213)) (fun _ hk=>hk.1.2) (.int .i64 t214)) (fun _ hk=>hk.2) (.int .u64 t215)) (fun _ hk=>⟨hk.1.1.1,hk.1.1.2⟩)));(case aS=>exact (below_size (by repeat (first|(with_reducible first|exact HB.out|apply below_alloc|apply pw_below_drewN|apply below_drew1|refine below_set ?_ GE191.out|refine below_set ?_ GE192.out|refine below_set ?_ GE193.out|refine below_set ?_ GE194.out|refine below_set ?_ GE199.out)|exact HB.out))));(case aL=>have:=LMc27.out;omega);intro v217 w53 ho hb hg hat;rw [← Ny216.out] at ho;have n0_:=Aside0.mk (Kd.R_over' (by (with_reducible repeat (first|apply Kd.R_alloc|apply Kd.R_drewN|apply Kd.R_drew));exact (Kd.R_mono (Kd.R_mono (Kd.R_far (p:=⟨gb199,3,none⟩) (Kd.R_far (p:=⟨gb191,2,none⟩) (Kd.R_far (p:=⟨gb191,1,none⟩) (Kd.R_far (p:=⟨gb191,0,none⟩) (Kd.R_types (Kd.R_types HO_193016.out BK191.out (by decide)) BK199.out (by decide)) (fun _ hk=>hk.1.2) (.string t212)) (fun _ hk=>hk.1.2) (.int .i64 t213)) (fun _ hk=>hk.1.2) (.int .i64 t214)) (fun _ hk=>hk.2) (.int .u64 t215)) (fun _ h_=>h_.1)) (fun _ h_=>h_.1))) (Kd.R_typed (by (with_reducible repeat (first|apply Kd.R_alloc|apply Kd.R_drewN|apply Kd.R_drew));exact (Kd.R_mono (Kd.R_mono (Kd.R_far (p:=⟨gb199,3,none⟩) (Kd.R_far (p:=⟨gb191,2,none⟩) (Kd.R_far (p:=⟨gb191,1,none⟩) (Kd.R_far (p:=⟨gb191,0,none⟩) (Kd.R_mono (Kd.R_types HO_193015.out BK191.out (by decide)) (fun k_ hk=>(⟨hk,hk.1.2⟩ : _∧k_≠gb199))) (fun _ hk=>hk.1.2) (.string t212)) (fun _ hk=>hk.1.2) (.int .i64 t213)) (fun _ hk=>hk.1.2) (.int .i64 t214)) (fun _ hk=>hk.2) (.int .u64 t215)) (fun _ h_=>h_.1)) (fun _ h_=>h_.1)))) (by decide) hg);have n1_:=Aside0.mk (blk_grown (g:=gb191) (o:=.cells #[.string t212,.int .i64 t213,.int .i64 t214] 81 (0,0)) (by (with_reducible repeat (first|refine blk_drewN ?_ _|refine blk_drew ?_|refine blk_alloc ?_ _));refine blk_far ?_ NB191_199.out _;(with_reducible repeat (first|refine blk_drewN ?_ _|refine blk_drew ?_|refine blk_alloc ?_ _));refine blk_put (cs:=#[.string t212,.int .i64 t213,.int .i64 t210]) ?_ 2 _ rfl;(with_reducible repeat (first|refine blk_drewN ?_ _|refine blk_drew ?_|refine blk_alloc ?_ _));refine blk_put (cs:=#[.string t212,.int .i64 t209,.int .i64 t210]) ?_ 1 _ rfl;(with_reducible repeat (first|refine blk_drewN ?_ _|refine blk_drew ?_|refine blk_alloc ?_ _));refine blk_put (cs:=#[.string t208,.int .i64 t209,.int .i64 t210]) ?_ 0 _ rfl;(with_reducible repeat (first|refine blk_drewN ?_ _|refine blk_drew ?_|refine blk_alloc ?_ _));exact BK191.out) hg (Kd.R_ne HO_193015.out BK191.out (by decide)));have n2_:=Aside0.mk (blk_grown (g:=gb192) (o:=.cells #[.int .i64 a1_0,.int .i64 a1_1,.int .u64 a1_2,.int .u64 a1_3,.int .u32 a1_4,.int .i64 a1_5,.int .i64 a1_6,.string a1_7,.string a1_8,.int .i64 a1_9,.int .i64 a1_10,.string a1_11,.int .u32 a1_12,.int .i64 a1_13,.bool a1_14,u193015,.slice Ao6 l1_16.length co6] 47 (0,0)) (by (with_reducible repeat (first|refine blk_drewN ?_ _|refine blk_drew ?_|refine blk_alloc ?_ _));refine blk_far ?_ NB192_199.out _;(with_reducible repeat (first|refine blk_drewN ?_ _|refine blk_drew ?_|refine blk_alloc ?_ _));refine blk_far ?_ NB192_191.out _;(with_reducible repeat (first|refine blk_drewN ?_ _|refine blk_drew ?_|refine blk_alloc ?_ _));refine blk_far ?_ NB192_191.out _;(with_reducible repeat (first|refine blk_drewN ?_ _|refine blk_drew ?_|refine blk_alloc ?_ _));refine blk_far ?_ NB192_191.out _;(with_reducible repeat (first|refine blk_drewN ?_ _|refine blk_drew ?_|refine blk_alloc ?_ _));exact BK192.out) hg (Kd.R_ne HO_193015.out BK192.out (by decide)));have n3_:=Aside0.mk (blk_grown (g:=gb193) (o:=.cells #[.string (⟨#[]⟩ : ByteArray),.int .i64 0,.int .i64 0] 81 (0,0)) (by (with_reducible repeat (first|refine blk_drewN ?_ _|refine blk_drew ?_|refine blk_alloc ?_ _));refine blk_far ?_ NB193_199.out _;(with_reducible repeat (first|refine blk_drewN ?_ _|refine blk_drew ?_|refine blk_alloc ?_ _));refine blk_far ?_ NB193_191.out _;(with_reducible repeat (first|refine blk_drewN ?_ _|refine blk_drew ?_|refine blk_alloc ?_ _));refine blk_far ?_ NB193_191.out _;(with_reducible repeat (first|refine blk_drewN ?_ _|refine blk_drew ?_|refine blk_alloc ?_ _));refine blk_far ?_ NB193_191.out _;(with_reducible repeat (first|refine blk_drewN ?_ _|refine blk_drew ?_|refine blk_alloc ?_ _));exact BK193.out) hg (Kd.R_ne HO_193015.out BK193.out (by decide)));have n4_:=Aside0.mk (blk_grown (g:=gb194) (o:=.cells #[.int .i64 0,.int .i64 0,.int .u64 0,.int .u64 0,.int .u32 0,.int .i64 0,.int .i64 0,.string (⟨#[]⟩ : ByteArray),.string (⟨#[]⟩ : ByteArray),.int .i64 0,.int .i64 0,.string (⟨#[]⟩ : ByteArray),.int .u32 0,.int .i64 0,.bool false,.slice none 0 0,.slice none 0 0] 47 (0,0)) (by (with_reducible repeat (first|refine blk_drewN ?_ _|refine blk_drew ?_|refine blk_alloc ?_ _));refine blk_far ?_ NB194_199.out _;(with_reducible repeat (first|refine blk_drewN ?_ _|refine blk_drew ?_|refine blk_alloc ?_ _));refine blk_far ?_ NB194_191.out _;(with_reducible repeat (first|refine blk_drewN ?_ _|refine blk_drew ?_|refine blk_alloc ?_ _));refine blk_far ?_ NB194_191.out _;(with_reducible repeat (first|refine blk_drewN ?_ _|refine blk_drew ?_|refine blk_alloc ?_ _));refine blk_far ?_ NB194_191.out _;(with_reducible repeat (first|refine blk_drewN ?_ _|refine blk_drew ?_|refine blk_alloc ?_ _));exact BK194.out) hg (Kd.R_ne HO_193015.out BK194.out (by decide)));have n5_:=Aside0.mk (blk_grown (g:=gb199) (o:=.cells #[.int .i64 (wrap64 (t203)),.int .i64 (wrap64 (t207)),.int .u64 t211,.int .u64 t215] 56 (0,0)) (by (with_reducible repeat (first|refine blk_drewN ?_ _|refine blk_drew ?_|refine blk_alloc ?_ _));refine blk_put (cs:=#[.int .i64 (wrap64 (t203)),.int .i64 (wrap64 (t207)),.int .u64 t211,.int .u64 0]) ?_ 3 _ rfl;(with_reducible repeat (first|refine blk_drewN ?_ _|refine blk_drew ?_|refine blk_alloc ?_ _));refine blk_far ?_ NB199_191.out _;(with_reducible repeat (first|refine blk_drewN ?_ _|refine blk_drew ?_|refine blk_alloc ?_ _));refine blk_far ?_ NB199_191.out _;(with_reducible repeat (first|refine blk_drewN ?_ _|refine blk_drew ?_|refine blk_alloc ?_ _));refine blk_far ?_ NB199_191.out _;(with_reducible repeat (first|refine blk_drewN ?_ _|refine blk_drew ?_|refine blk_alloc ?_ _));exact BK199.out) hg (Kd.R_away HO_193015.out (fun _ hk=>hk.2)));have n6_:=Aside0.mk (hb);have n7_:=Aside0.mk (Kept.of_grown (S:=(fun k_=>P1_15_ k_ ∨ P1_16_ k_)) hg (by repeat (first|(with_reducible first|exact HK.out|apply Kept.alloc|apply Kept.drewN|apply Kept.drew|refine Kept.setCell ?_ (.inr GW191.out) _|refine Kept.setCell ?_ (.inr GW192.out) _|refine Kept.setCell ?_ (.inr GW193.out) _|refine Kept.setCell ?_ (.inr GW194.out) _|refine Kept.setCell ?_ (.inr GW199.out) _)|exact HK.out)) (fun k_ e_=>(HO_193015.out.1 k_ e_).1));have n8_:=Aside0.mk (ho);clear HO_193016;clear BK191;clear BK192;clear BK193;clear BK194;clear BK199;clear HB;clear HK;clear HO_193015;have HO_193016:=n0_;have BK191:=n1_;have BK192:=n2_;have BK193:=n3_;have BK194:=n4_;have BK199:=n5_;have HB:=n6_;have HK:=n7_;have HO218:=n8_;clear n0_ n1_ n2_ n3_ n4_ n5_ n6_ n7_ n8_;clear ho hb hg hat;obtain ⟨Ao54,co54,eo54⟩:=Kd.R_slice HO218.out;subst eo54;have hcz55_0 : w53.cell? ⟨gb192,0,none⟩=some (.int .i64 a1_0):=(blk_cell BK192.out 0).trans rfl;have hcz55_1 : w53.cell? ⟨gb192,1,none⟩=some (.int .i64 a1_1):=(blk_cell BK192.out 1).trans rfl;have hcz55_2 : w53.cell? ⟨gb192,2,none⟩=some (.int .u64 a1_2):=(blk_cell BK192.out 2).trans rfl;have hcz55_3 : w53.cell? ⟨gb192,3,none⟩=some (.int .u64 a1_3):=(blk_cell BK192.out 3).trans rfl;have hcz55_4 : w53.cell? ⟨gb192,4,none⟩=some (.int .u32 a1_4):=(blk_cell BK192.out 4).trans rfl;have hcz55_5 : w53.cell? ⟨gb192,5,none⟩=some (.int .i64 a1_5):=(blk_cell BK192.out 5).trans rfl;have hcz55_6 : w53.cell? ⟨gb192,6,none⟩=some (.int .i64 a1_6):=(blk_cell BK192.out 6).trans rfl;have hcz55_7 : w53.cell? ⟨gb192,7,none⟩=some (.string a1_7):=(blk_cell BK192.out 7).trans rfl;have hcz55_8 : w53.cell? ⟨gb192,8,none⟩=some (.string a1_8):=(blk_cell BK192.out 8).trans rfl;have hcz55_9 : w53.cell? ⟨gb192,9,none⟩=some (.int .i64 a1_9):=(blk_cell BK192.out 9).trans rfl;have hcz55_10 : w53.cell? ⟨gb192,10,none⟩=some (.int .i64 a1_10):=(blk_cell BK192.out 10).trans rfl;have hcz55_11 : w53.cell? ⟨gb192,11,none⟩=some (.string a1_11):=(blk_cell BK192.out 11).trans rfl;have hcz55_12 : w53.cell? ⟨gb192,12,none⟩=some (.int .u32 a1_12):=(blk_cell BK192.out 12).trans rfl;have hcz55_13 : w53.cell? ⟨gb192,13,none⟩=some (.int .i64 a1_13):=(blk_cell BK192.out 13).trans rfl;have hcz55_14 : w53.cell? ⟨gb192,14,none⟩=some (.bool a1_14):=(blk_cell BK192.out 14).trans rfl;have hcz55_15 : w53.cell? ⟨gb192,15,none⟩=some (u193015):=(blk_cell BK192.out 15).trans rfl;have hcz55_16 : w53.cell? ⟨gb192,16,none⟩=some (.slice Ao6 l1_16.length co6):=(blk_cell BK192.out 16).trans rfl;have hfz55_0:=blk_frozen BK192.out 0;have hfz55_1:=blk_frozen BK192.out 1;have hfz55_2:=blk_frozen BK192.out 2;have hfz55_3:=blk_frozen BK192.out 3;have hfz55_4:=blk_frozen BK192.out 4;have hfz55_5:=blk_frozen BK192.out 5;have hfz55_6:=blk_frozen BK192.out 6;have hfz55_7:=blk_frozen BK192.out 7;have hfz55_8:=blk_frozen BK192.out 8;have hfz55_9:=blk_frozen BK192.out 9;have hfz55_10:=blk_frozen BK192.out 10;have hfz55_11:=blk_frozen BK192.out 11;have hfz55_12:=blk_frozen BK192.out 12;have hfz55_13:=blk_frozen BK192.out 13;have hfz55_14:=blk_frozen BK192.out 14;have hfz55_15:=blk_frozen BK192.out 15;have hfz55_16:=blk_frozen BK192.out 16))
       go_roundg kj15
       case measure=>have:=HK1.out;have:=HJ15.out;omega
       case rel=>exact ⟨(IntKind.u64.wrap (x7_1 + 1)),(t212),(t213),(t214),(y216),(.slice Ao54 y216.length co54),(by first|rfl|(simp;done)|(simp [*];done)),H',⟨by have:=HK1.out;have:=HJ15.out;omega⟩,⟨by (with_reducible repeat (first|apply Kd.R_alloc|apply Kd.R_drewN|apply Kd.R_drew));exact Kd.R_mono (Kd.R_far (p:=⟨gb192,15,none⟩) (Kd.R_types HO218.out BK192.out (by decide)) (fun _ hk=>hk.2) (.slice Ao54 y216.length co54)) (fun _ hk=>hk.1.1)⟩,⟨by (with_reducible repeat (first|apply Kd.R_alloc|apply Kd.R_drewN|apply Kd.R_drew));exact Kd.R_mono (Kd.R_far (p:=⟨gb192,15,none⟩) (Kd.R_types HO_193016.out BK192.out (by decide)) (fun _ hk=>hk.2) (.slice Ao54 y216.length co54)) (fun _ hk=>hk.1)⟩,⟨by (with_reducible repeat (first|refine blk_drewN ?_ _|refine blk_drew ?_|refine blk_alloc ?_ _));refine blk_far ?_ NB191_192.out _;(with_reducible repeat (first|refine blk_drewN ?_ _|refine blk_drew ?_|refine blk_alloc ?_ _));exact BK191.out⟩,⟨by (with_reducible repeat (first|refine blk_drewN ?_ _|refine blk_drew ?_|refine blk_alloc ?_ _));refine blk_put (cs:=#[.int .i64 a1_0,.int .i64 a1_1,.int .u64 a1_2,.int .u64 a1_3,.int .u32 a1_4,.int .i64 a1_5,.int .i64 a1_6,.string a1_7,.string a1_8,.int .i64 a1_9,.int .i64 a1_10,.string a1_11,.int .u32 a1_12,.int .i64 a1_13,.bool a1_14,u193015,.slice Ao6 l1_16.length co6]) ?_ 15 _ rfl;(with_reducible repeat (first|refine blk_drewN ?_ _|refine blk_drew ?_|refine blk_alloc ?_ _));exact BK192.out⟩,⟨by (with_reducible repeat (first|refine blk_drewN ?_ _|refine blk_drew ?_|refine blk_alloc ?_ _));refine blk_far ?_ NB193_192.out _;(with_reducible repeat (first|refine blk_drewN ?_ _|refine blk_drew ?_|refine blk_alloc ?_ _));exact BK193.out⟩,⟨by (with_reducible repeat (first|refine blk_drewN ?_ _|refine blk_drew ?_|refine blk_alloc ?_ _));refine blk_far ?_ NB194_192.out _;(with_reducible repeat (first|refine blk_drewN ?_ _|refine blk_drew ?_|refine blk_alloc ?_ _));exact BK194.out⟩,⟨by repeat (first|(with_reducible first|exact HK.out|apply Kept.alloc|apply Kept.drewN|apply Kept.drew|refine Kept.setCell ?_ (.inr GW191.out) _|refine Kept.setCell ?_ (.inr GW192.out) _|refine Kept.setCell ?_ (.inr GW193.out) _|refine Kept.setCell ?_ (.inr GW194.out) _|refine Kept.setCell ?_ (.inr GW199.out) _)|exact HK.out)⟩,⟨by repeat (first|(with_reducible first|exact HB.out|apply below_alloc|apply pw_below_drewN|apply below_drew1|refine below_set ?_ GE191.out|refine below_set ?_ GE192.out|refine below_set ?_ GE193.out|refine below_set ?_ GE194.out|refine below_set ?_ GE199.out)|exact HB.out)⟩⟩
      ·rw [if_neg c27] at H
       exact absurd H (by simp)
     ·replace c22:=Bool.eq_false_iff.mpr c22
      subst c22
      have H1 : ((girderref01_Reader_Number.f x192000_1 x192001_1 x192002_1 2).bind fun bt219=>(girderref04_takeTables.l1 kj15 bt219.2.2.2 0 bt219.1 bt219.2.1 bt219.2.2.1 a1_0 a1_1 a1_2 a1_3 a1_4 a1_5 a1_6 a1_7 a1_8 a1_9 a1_10 a1_11 a1_12 a1_13 a1_14 x193015_1 l1_16))=some (r1,r2,r3,r4,r5,r6,r7,r8,r9,r10,r11,r12,r13,r14,r15,r16,r17,r18,r19,r20):=by rw [if_neg (show ¬ (false=true) by decide)] at H;exact H
      clear H
      have H:=H1
      clear H1
      replace H:=Option.bind_eq_some_iff.mp H
      obtain ⟨⟨t219,t220,t221,t222⟩,A560,H⟩:=H
      replace H : (girderref04_takeTables.l1 kj15 t222 0 t219 t220 t221 a1_0 a1_1 a1_2 a1_3 a1_4 a1_5 a1_6 a1_7 a1_8 a1_9 a1_10 a1_11 a1_12 a1_13 a1_14 x193015_1 l1_16)=some (r1,r2,r3,r4,r5,r6,r7,r8,r9,r10,r11,r12,r13,r14,r15,r16,r17,r18,r19,r20):=H
      have A56:=Aside0.mk A560
      clear A560
      have H':=Aside0.mk H
      clear H
      have hnb57:=NB191_192.out
      have hnc57:=NB192_191.out
      have hnb58:=NB191_193.out
      have hnc58:=NB193_191.out
      have hnb59:=NB191_194.out
      have hnc59:=NB194_191.out
      have hcz60_0 : wc.cell? ⟨gb191,0,none⟩=some (.string x192000_1):=(blk_cell BK191.out 0).trans rfl
      have hcz60_1 : wc.cell? ⟨gb191,1,none⟩=some (.int .i64 x192001_1):=(blk_cell BK191.out 1).trans rfl
      have hcz60_2 : wc.cell? ⟨gb191,2,none⟩=some (.int .i64 x192002_1):=(blk_cell BK191.out 2).trans rfl
      have hfz60_0:=blk_frozen BK191.out 0
      have hfz60_1:=blk_frozen BK191.out 1
      have hfz60_2:=blk_frozen BK191.out 2
      go_wp2_with (first|((with_reducible refine gate_callee (f:=27) rfl ?_);refine goesL_ (some 65) rfl rfl Try.func27 (by kernel_rfl) rfl #[.agg #[.string x192000_1,.int .i64 x192001_1,.int .i64 x192002_1],.int .i64 2] rfl (by (try simp only [List.map_toArray,List.map_cons,List.map_nil]);first|done|rfl|(simp only [List.length_drop,List.length_take];rfl)) ?_;(with_reducible refine (girderref01_Reader_Number.calls x192000_1 x192001_1 x192002_1 2 t219 t220 t221 t222 _ A56.out).mono ?_);rintro e w61 ⟨rfl,hb⟩;refine ⟨_,rfl,?_⟩;have n0_:=Aside0.mk (Kd.R_below (by (with_reducible repeat (first|apply Kd.R_alloc|apply Kd.R_drewN|apply Kd.R_drew));exact HO_193015.out) hb);have n1_:=Aside0.mk (Kd.R_below (by (with_reducible repeat (first|apply Kd.R_alloc|apply Kd.R_drewN|apply Kd.R_drew));exact HO_193016.out) hb);have n2_:=Aside0.mk (blk_below (g:=gb191) (o:=.cells #[.string x192000_1,.int .i64 x192001_1,.int .i64 x192002_1] 81 (0,0)) (by (with_reducible repeat (first|refine blk_drewN ?_ _|refine blk_drew ?_|refine blk_alloc ?_ _));exact BK191.out) hb);have n3_:=Aside0.mk (blk_below (g:=gb192) (o:=.cells #[.int .i64 a1_0,.int .i64 a1_1,.int .u64 a1_2,.int .u64 a1_3,.int .u32 a1_4,.int .i64 a1_5,.int .i64 a1_6,.string a1_7,.string a1_8,.int .i64 a1_9,.int .i64 a1_10,.string a1_11,.int .u32 a1_12,.int .i64 a1_13,.bool a1_14,u193015,.slice Ao6 l1_16.length co6] 47 (0,0)) (by (with_reducible repeat (first|refine blk_drewN ?_ _|refine blk_drew ?_|refine blk_alloc ?_ _));exact BK192.out) hb);have n4_:=Aside0.mk (blk_below (g:=gb193) (o:=.cells #[.string (⟨#[]⟩ : ByteArray),.int .i64 0,.int .i64 0] 81 (0,0)) (by (with_reducible repeat (first|refine blk_drewN ?_ _|refine blk_drew ?_|refine blk_alloc ?_ _));exact BK193.out) hb);have n5_:=Aside0.mk (blk_below (g:=gb194) (o:=.cells #[.int .i64 0,.int .i64 0,.int .u64 0,.int .u64 0,.int .u32 0,.int .i64 0,.int .i64 0,.string (⟨#[]⟩ : ByteArray),.string (⟨#[]⟩ : ByteArray),.int .i64 0,.int .i64 0,.string (⟨#[]⟩ : ByteArray),.int .u32 0,.int .i64 0,.bool false,.slice none 0 0,.slice none 0 0] 47 (0,0)) (by (with_reducible repeat (first|refine blk_drewN ?_ _|refine blk_drew ?_|refine blk_alloc ?_ _));exact BK194.out) hb);have n6_:=Aside0.mk (Kept.below (S:=(fun k_=>P1_15_ k_ ∨ P1_16_ k_)) (by repeat (first|(with_reducible first|exact HK.out|apply Kept.alloc|apply Kept.drewN|apply Kept.drew|refine Kept.setCell ?_ (.inr GW191.out) _|refine Kept.setCell ?_ (.inr GW192.out) _|refine Kept.setCell ?_ (.inr GW193.out) _|refine Kept.setCell ?_ (.inr GW194.out) _)|exact HK.out)) hb);have n7_:=Aside0.mk (below_step (by repeat (first|(with_reducible first|exact HB.out|apply below_alloc|apply pw_below_drewN|apply below_drew1|refine below_set ?_ GE191.out|refine below_set ?_ GE192.out|refine below_set ?_ GE193.out|refine below_set ?_ GE194.out)|exact HB.out)) hb);clear HO_193015;clear HO_193016;clear BK191;clear BK192;clear BK193;clear BK194;clear HK;clear HB;have HO_193015:=n0_;have HO_193016:=n1_;have BK191:=n2_;have BK192:=n3_;have BK193:=n4_;have BK194:=n5_;have HK:=n6_;have HB:=n7_;clear n0_ n1_ n2_ n3_ n4_ n5_ n6_ n7_;(try clear hb);(try clear hb2);(try clear hk);(try clear hi);have hcz62_0 : w61.cell? ⟨gb191,0,none⟩=some (.string x192000_1):=(blk_cell BK191.out 0).trans rfl;have hcz62_1 : w61.cell? ⟨gb191,1,none⟩=some (.int .i64 x192001_1):=(blk_cell BK191.out 1).trans rfl;have hcz62_2 : w61.cell? ⟨gb191,2,none⟩=some (.int .i64 x192002_1):=(blk_cell BK191.out 2).trans rfl;have hfz62_0:=blk_frozen BK191.out 0;have hfz62_1:=blk_frozen BK191.out 1;have hfz62_2:=blk_frozen BK191.out 2))
      go_loopg [10] kj15 (fun kq v10 w'=>∃ (x10_3 : Int) (x192000_3 : ByteArray) (x192001_3 : Int) (x192002_3 : Int) (x193016_3 : List (S58)) (u193016 : Value),v10=.int .u64 x10_3∧Aside0 (girderref04_takeTables.l1 kq t222 x10_3 x192000_3 x192001_3 x192002_3 a1_0 a1_1 a1_2 a1_3 a1_4 a1_5 a1_6 a1_7 a1_8 a1_9 a1_10 a1_11 a1_12 a1_13 a1_14 x193015_1 x193016_3=some (r1,r2,r3,r4,r5,r6,r7,r8,r9,r10,r11,r12,r13,r14,r15,r16,r17,r18,r19,r20))∧Aside0 (kq≤kj15)∧Aside0 (Kd.R k56 56 w' w0.heap.size (fun k_=>((P1_15_ k_ ∨ P1_16_ k_) ∨ w.heap.size≤k_)) u193015 x193015_1)∧Aside0 (Kd.R k58 58 w' w0.heap.size (fun k_=>((P1_15_ k_ ∨ P1_16_ k_) ∨ w.heap.size≤k_)) u193016 x193016_3)∧Aside0 (w'.heap[gb191]?=some (.cells #[.string x192000_3,.int .i64 x192001_3,.int .i64 x192002_3] 81 (0,0)))∧Aside0 (w'.heap[gb192]?=some (.cells #[.int .i64 a1_0,.int .i64 a1_1,.int .u64 a1_2,.int .u64 a1_3,.int .u32 a1_4,.int .i64 a1_5,.int .i64 a1_6,.string a1_7,.string a1_8,.int .i64 a1_9,.int .i64 a1_10,.string a1_11,.int .u32 a1_12,.int .i64 a1_13,.bool a1_14,u193015,u193016] 47 (0,0)))∧Aside0 (w'.heap[gb193]?=some (.cells #[.string (⟨#[]⟩ : ByteArray),.int .i64 0,.int .i64 0] 81 (0,0)))∧Aside0 (w'.heap[gb194]?=some (.cells #[.int .i64 0,.int .i64 0,.int .u64 0,.int .u64 0,.int .u32 0,.int .i64 0,.int .i64 0,.string (⟨#[]⟩ : ByteArray),.string (⟨#[]⟩ : ByteArray),.int .i64 0,.int .i64 0,.string (⟨#[]⟩ : ByteArray),.int .u32 0,.int .i64 0,.bool false,(.slice none 0 0),(.slice none 0 0)] 47 (0,0)))∧Aside0 (Kept w w' (fun k_=>P1_15_ k_ ∨ P1_16_ k_))∧Aside0 (Below w0.heap.size w0 w'))
      case atStart=>exact ⟨(0),(t219),(t220),(t221),(l1_16),(.slice Ao6 l1_16.length co6),(by first|rfl|(simp;done)|(simp [*];done)),H',⟨Nat.le_refl _⟩,⟨by (with_reducible repeat (first|apply Kd.R_alloc|apply Kd.R_drewN|apply Kd.R_drew));exact Kd.R_mono (Kd.R_far (p:=⟨gb191,2,none⟩) (Kd.R_far (p:=⟨gb191,1,none⟩) (Kd.R_far (p:=⟨gb191,0,none⟩) (Kd.R_types HO_193015.out BK191.out (by decide)) (fun _ hk=>hk.2) (.string t219)) (fun _ hk=>hk.2) (.int .i64 t220)) (fun _ hk=>hk.2) (.int .i64 t221)) (fun _ hk=>hk.1)⟩,⟨by (with_reducible repeat (first|apply Kd.R_alloc|apply Kd.R_drewN|apply Kd.R_drew));exact Kd.R_mono (Kd.R_far (p:=⟨gb191,2,none⟩) (Kd.R_far (p:=⟨gb191,1,none⟩) (Kd.R_far (p:=⟨gb191,0,none⟩) (Kd.R_types HO_193016.out BK191.out (by decide)) (fun _ hk=>hk.2) (.string t219)) (fun _ hk=>hk.2) (.int .i64 t220)) (fun _ hk=>hk.2) (.int .i64 t221)) (fun _ hk=>hk.1)⟩,⟨by (with_reducible repeat (first|refine blk_drewN ?_ _|refine blk_drew ?_|refine blk_alloc ?_ _));refine blk_put (cs:=#[.string t219,.int .i64 t220,.int .i64 x192002_1]) ?_ 2 _ rfl;(with_reducible repeat (first|refine blk_drewN ?_ _|refine blk_drew ?_|refine blk_alloc ?_ _));refine blk_put (cs:=#[.string t219,.int .i64 x192001_1,.int .i64 x192002_1]) ?_ 1 _ rfl;(with_reducible repeat (first|refine blk_drewN ?_ _|refine blk_drew ?_|refine blk_alloc ?_ _));refine blk_put (cs:=#[.string x192000_1,.int .i64 x192001_1,.int .i64 x192002_1]) ?_ 0 _ rfl;(with_reducible repeat (first|refine blk_drewN ?_ _|refine blk_drew ?_|refine blk_alloc ?_ _));exact BK191.out⟩,⟨by (with_reducible repeat (first|refine blk_drewN ?_ _|refine blk_drew ?_|refine blk_alloc ?_ _));refine blk_far ?_ NB192_191.out _;(with_reducible repeat (first|refine blk_drewN ?_ _|refine blk_drew ?_|refine blk_alloc ?_ _));refine blk_far ?_ NB192_191.out _;(with_reducible repeat (first|refine blk_drewN ?_ _|refine blk_drew ?_|refine blk_alloc ?_ _));refine blk_far ?_ NB192_191.out _;(with_reducible repeat (first|refine blk_drewN ?_ _|refine blk_drew ?_|refine blk_alloc ?_ _));exact BK192.out⟩,⟨by (with_reducible repeat (first|refine blk_drewN ?_ _|refine blk_drew ?_|refine blk_alloc ?_ _));refine blk_far ?_ NB193_191.out _;(with_reducible repeat (first|refine blk_drewN ?_ _|refine blk_drew ?_|refine blk_alloc ?_ _));refine blk_far ?_ NB193_191.out _;(with_reducible repeat (first|refine blk_drewN ?_ _|refine blk_drew ?_|refine blk_alloc ?_ _));refine blk_far ?_ NB193_191.out _;(with_reducible repeat (first|refine blk_drewN ?_ _|refine blk_drew ?_|refine blk_alloc ?_ _));exact BK193.out⟩,⟨by (with_reducible repeat (first|refine blk_drewN ?_ _|refine blk_drew ?_|refine blk_alloc ?_ _));refine blk_far ?_ NB194_191.out _;(with_reducible repeat (first|refine blk_drewN ?_ _|refine blk_drew ?_|refine blk_alloc ?_ _));refine blk_far ?_ NB194_191.out _;(with_reducible repeat (first|refine blk_drewN ?_ _|refine blk_drew ?_|refine blk_alloc ?_ _));refine blk_far ?_ NB194_191.out _;(with_reducible repeat (first|refine blk_drewN ?_ _|refine blk_drew ?_|refine blk_alloc ?_ _));exact BK194.out⟩,⟨by repeat (first|(with_reducible first|exact HK.out|apply Kept.alloc|apply Kept.drewN|apply Kept.drew|refine Kept.setCell ?_ (.inr GW191.out) _|refine Kept.setCell ?_ (.inr GW192.out) _|refine Kept.setCell ?_ (.inr GW193.out) _|refine Kept.setCell ?_ (.inr GW194.out) _)|exact HK.out)⟩,⟨by repeat (first|(with_reducible first|exact HB.out|apply below_alloc|apply pw_below_drewN|apply below_drew1|refine below_set ?_ GE191.out|refine below_set ?_ GE192.out|refine below_set ?_ GE193.out|refine below_set ?_ GE194.out)|exact HB.out)⟩⟩
      case round =>
       clear H'
       try clear c1
       try clear c2
       try clear p2
       try clear c3
       try clear c5
       try clear p6
       try clear c10
       try clear c11
       try clear c12
       try clear c17
       try clear c17b0
       try clear c18
       try clear c19
       try clear c20
       try clear c22
       try clear c27
       try clear c29
       try clear c30
       try clear c31
       try clear c32
       try clear c34
       try clear c35
       try clear c36
       try clear c50
       try clear c51
       try clear c57
       try clear c58
       try clear c59
       try clear hcz13_0
       try clear hcz13_1
       try clear hcz13_2
       try clear hcz15_0
       try clear hcz15_1
       try clear hcz15_2
       try clear hcz21_0
       try clear hcz21_1
       try clear hcz21_2
       try clear hcz33_0
       try clear hcz33_1
       try clear hcz33_2
       try clear hcz33_3
       try clear hcz37_0
       try clear hcz37_1
       try clear hcz37_2
       try clear hcz39_0
       try clear hcz39_1
       try clear hcz39_2
       try clear hcz40_0
       try clear hcz40_1
       try clear hcz40_2
       try clear hcz40_3
       try clear hcz42_0
       try clear hcz42_1
       try clear hcz42_2
       try clear hcz43_0
       try clear hcz43_1
       try clear hcz43_2
       try clear hcz43_3
       try clear hcz45_0
       try clear hcz45_1
       try clear hcz45_2
       try clear hcz46_0
       try clear hcz46_1
       try clear hcz46_2
       try clear hcz46_3
       try clear hcz48_0
       try clear hcz48_1
       try clear hcz48_2
       try clear hcz49_0
       try clear hcz49_1
       try clear hcz49_2
       try clear hcz49_3
       try clear hcz52_0
       try clear hcz52_1
       try clear hcz52_10
       try clear hcz52_11
       try clear hcz52_12
       try clear hcz52_13
       try clear hcz52_14
       try clear hcz52_15
       try clear hcz52_16
       try clear hcz52_2
       try clear hcz52_3
       try clear hcz52_4
       try clear hcz52_5
       try clear hcz52_6
       try clear hcz52_7
       try clear hcz52_8
       try clear hcz52_9
       try clear hcz55_0
       try clear hcz55_1
       try clear hcz55_10
       try clear hcz55_11
       try clear hcz55_12
       try clear hcz55_13
       try clear hcz55_14
       try clear hcz55_15
       try clear hcz55_16
       try clear hcz55_2
       try clear hcz55_3
       try clear hcz55_4
       try clear hcz55_5
       try clear hcz55_6
       try clear hcz55_7
       try clear hcz55_8
       try clear hcz55_9
       try clear hcz60_0
       try clear hcz60_1
       try clear hcz60_2
       try clear hcz62_0
       try clear hcz62_1
       try clear hcz62_2
       try clear hfz13_0
       try clear hfz13_1
       try clear hfz13_2
       try clear hfz15_0
       try clear hfz15_1
       try clear hfz15_2
       try clear hfz21_0
       try clear hfz21_1
       try clear hfz21_2
       try clear hfz33_0
       try clear hfz33_1
       try clear hfz33_2
       try clear hfz33_3
       try clear hfz37_0
       try clear hfz37_1
       try clear hfz37_2
       try clear hfz39_0
       try clear hfz39_1
       try clear hfz39_2
       try clear hfz40_0
       try clear hfz40_1
       try clear hfz40_2
       try clear hfz40_3
       try clear hfz42_0
       try clear hfz42_1
       try clear hfz42_2
       try clear hfz43_0
       try clear hfz43_1
       try clear hfz43_2
       try clear hfz43_3
       try clear hfz45_0
       try clear hfz45_1
       try clear hfz45_2
       try clear hfz46_0
       try clear hfz46_1
       try clear hfz46_2
       try clear hfz46_3
       try clear hfz48_0
       try clear hfz48_1
       try clear hfz48_2
       try clear hfz49_0
       try clear hfz49_1
       try clear hfz49_2
       try clear hfz49_3
       try clear hfz52_0
       try clear hfz52_1
       try clear hfz52_10
       try clear hfz52_11
       try clear hfz52_12
       try clear hfz52_13
       try clear hfz52_14
       try clear hfz52_15
       try clear hfz52_16
       try clear hfz52_2
       try clear hfz52_3
       try clear hfz52_4
       try clear hfz52_5
       try clear hfz52_6
       try clear hfz52_7
       try clear hfz52_8
       try clear hfz52_9
       try clear hfz55_0
       try clear hfz55_1
       try clear hfz55_10
       try clear hfz55_11
       try clear hfz55_12
       try clear hfz55_13
       try clear hfz55_14
       try clear hfz55_15
       try clear hfz55_16
       try clear hfz55_2
       try clear hfz55_3
       try clear hfz55_4
       try clear hfz55_5
       try clear hfz55_6
       try clear hfz55_7
       try clear hfz55_8
       try clear hfz55_9
       try clear hfz60_0
       try clear hfz60_1
       try clear hfz60_2
       try clear hfz62_0
       try clear hfz62_1
       try clear hfz62_2
       try clear p2
       obtain ⟨x10_3,x192000_3,x192001_3,x192002_3,x193016_3,u193016,rfl,HA,HK3,HO_193015,HO_193016,BK191,BK192,BK193,BK194,HK,HB⟩:=hrel
       cases gk with
       | zero=>exact absurd HA.out (by simp [girderref04_takeTables.l1])
       | succ k3 =>
        have H:=HA.out
        clear HA
        simp only [girderref04_takeTables.l1] at H
        have HC63:=Aside0.mk H
        clear H
        go_upto_region 15 with (fail)
        go_cut [75] (fun v75 wc=>∃ (kq : Nat) (x75_62 : Bool),v75=.bool x75_62∧Aside0 (girderref04_takeTables.j3 kq t222 x10_3 x75_62 x192000_3 x192001_3 x192002_3 a1_0 a1_1 a1_2 a1_3 a1_4 a1_5 a1_6 a1_7 a1_8 a1_9 a1_10 a1_11 a1_12 a1_13 a1_14 x193015_1 x193016_3=some (r1,r2,r3,r4,r5,r6,r7,r8,r9,r10,r11,r12,r13,r14,r15,r16,r17,r18,r19,r20))∧Aside0 (kq≤k3)∧Aside0 (Kd.R k56 56 wc w0.heap.size (fun k_=>((P1_15_ k_ ∨ P1_16_ k_) ∨ w.heap.size≤k_)) u193015 x193015_1)∧Aside0 (Kd.R k58 58 wc w0.heap.size (fun k_=>((P1_15_ k_ ∨ P1_16_ k_) ∨ w.heap.size≤k_)) u193016 x193016_3)∧Aside0 (wc.heap[gb191]?=some (.cells #[.string x192000_3,.int .i64 x192001_3,.int .i64 x192002_3] 81 (0,0)))∧Aside0 (wc.heap[gb192]?=some (.cells #[.int .i64 a1_0,.int .i64 a1_1,.int .u64 a1_2,.int .u64 a1_3,.int .u32 a1_4,.int .i64 a1_5,.int .i64 a1_6,.string a1_7,.string a1_8,.int .i64 a1_9,.int .i64 a1_10,.string a1_11,.int .u32 a1_12,.int .i64 a1_13,.bool a1_14,u193015,u193016] 47 (0,0)))∧Aside0 (wc.heap[gb193]?=some (.cells #[.string (⟨#[]⟩ : ByteArray),.int .i64 0,.int .i64 0] 81 (0,0)))∧Aside0 (wc.heap[gb194]?=some (.cells #[.int .i64 0,.int .i64 0,.int .u64 0,.int .u64 0,.int .u32 0,.int .i64 0,.int .i64 0,.string (⟨#[]⟩ : ByteArray),.string (⟨#[]⟩ : ByteArray),.int .i64 0,.int .i64 0,.string (⟨#[]⟩ : ByteArray),.int .u32 0,.int .i64 0,.bool false,(.slice none 0 0),(.slice none 0 0)] 47 (0,0)))∧Aside0 (Kept w wc (fun k_=>P1_15_ k_ ∨ P1_16_ k_))∧Aside0 (Below w0.heap.size w0 wc))
        case first =>
         have H:=HC63.out
         clear HC63
         by_cases c64 : x10_3 < t222
         ·rw [if_pos c64] at H
          have c64b0 : decide (x10_3 < t222)=true:=decide_eq_true c64
          clear c64
          (first|rw [c64b0]|(simp only [i64_w,i32_w];rw [c64b0])|skip)
          have H':=Aside0.mk H
          clear H
          have hnb65:=NB191_192.out
          have hnc65:=NB192_191.out
          have hnb66:=NB191_193.out
          have hnc66:=NB193_191.out
          have hnb67:=NB191_194.out
          have hnc67:=NB194_191.out
          have hcz68_0 : wr.cell? ⟨gb191,0,none⟩=some (.string x192000_3):=(blk_cell BK191.out 0).trans rfl
          have hcz68_1 : wr.cell? ⟨gb191,1,none⟩=some (.int .i64 x192001_3):=(blk_cell BK191.out 1).trans rfl
          have hcz68_2 : wr.cell? ⟨gb191,2,none⟩=some (.int .i64 x192002_3):=(blk_cell BK191.out 2).trans rfl
          have hfz68_0:=blk_frozen BK191.out 0
          have hfz68_1:=blk_frozen BK191.out 1
          have hfz68_2:=blk_frozen BK191.out 2
          go_wp2
          go_meet
          case rel=>exact ⟨_,((x192002_3 == 0)),(by first|rfl|(simp;done)|(simp [*];done)),H',⟨by have:=HK1.out;have:=HJ15.out;have:=HK3.out;first|omega|exact Nat.le_refl _⟩,⟨by (with_reducible repeat (first|apply Kd.R_alloc|apply Kd.R_drewN|apply Kd.R_drew));exact HO_193015.out⟩,⟨by (with_reducible repeat (first|apply Kd.R_alloc|apply Kd.R_drewN|apply Kd.R_drew));exact HO_193016.out⟩,⟨by (with_reducible repeat (first|refine blk_drewN ?_ _|refine blk_drew ?_|refine blk_alloc ?_ _));exact BK191.out⟩,⟨by (with_reducible repeat (first|refine blk_drewN ?_ _|refine blk_drew ?_|refine blk_alloc ?_ _));exact BK192.out⟩,⟨by (with_reducible repeat (first|refine blk_drewN ?_ _|refine blk_drew ?_|refine blk_alloc ?_ _));exact BK193.out⟩,⟨by (with_reducible repeat (first|refine blk_drewN ?_ _|refine blk_drew ?_|refine blk_alloc ?_ _));exact BK194.out⟩,⟨by repeat (first|(with_reducible first|exact HK.out|apply Kept.alloc|apply Kept.drewN|apply Kept.drew|refine Kept.setCell ?_ (.inr GW191.out) _|refine Kept.setCell ?_ (.inr GW192.out) _|refine Kept.setCell ?_ (.inr GW193.out) _|refine Kept.setCell ?_ (.inr GW194.out) _)|exact HK.out)⟩,⟨by repeat (first|(with_reducible first|exact HB.out|apply below_alloc|apply pw_below_drewN|apply below_drew1|refine below_set ?_ GE191.out|refine below_set ?_ GE192.out|refine below_set ?_ GE193.out|refine below_set ?_ GE194.out)|exact HB.out)⟩⟩
         ·rw [if_neg c64] at H
          have c64b0 : decide (x10_3 < t222)=false:=decide_eq_false c64
          clear c64
          (first|rw [c64b0]|(simp only [i64_w,i32_w];rw [c64b0])|skip)
          have H':=Aside0.mk H
          clear H
          go_wp2
          go_meet
          case rel=>exact ⟨_,(false),(by first|rfl|(simp;done)|(simp [*];done)),H',⟨by have:=HK1.out;have:=HJ15.out;have:=HK3.out;first|omega|exact Nat.le_refl _⟩,⟨by (with_reducible repeat (first|apply Kd.R_alloc|apply Kd.R_drewN|apply Kd.R_drew));exact HO_193015.out⟩,⟨by (with_reducible repeat (first|apply Kd.R_alloc|apply Kd.R_drewN|apply Kd.R_drew));exact HO_193016.out⟩,⟨by (with_reducible repeat (first|refine blk_drewN ?_ _|refine blk_drew ?_|refine blk_alloc ?_ _));exact BK191.out⟩,⟨by (with_reducible repeat (first|refine blk_drewN ?_ _|refine blk_drew ?_|refine blk_alloc ?_ _));exact BK192.out⟩,⟨by (with_reducible repeat (first|refine blk_drewN ?_ _|refine blk_drew ?_|refine blk_alloc ?_ _));exact BK193.out⟩,⟨by (with_reducible repeat (first|refine blk_drewN ?_ _|refine blk_drew ?_|refine blk_alloc ?_ _));exact BK194.out⟩,⟨by repeat (first|(with_reducible first|exact HK.out|apply Kept.alloc|apply Kept.drewN|apply Kept.drew|refine Kept.setCell ?_ (.inr GW191.out) _|refine Kept.setCell ?_ (.inr GW192.out) _|refine Kept.setCell ?_ (.inr GW193.out) _|refine Kept.setCell ?_ (.inr GW194.out) _)|exact HK.out)⟩,⟨by repeat (first|(with_reducible first|exact HB.out|apply below_alloc|apply pw_below_drewN|apply below_drew1|refine below_set ?_ GE191.out|refine below_set ?_ GE192.out|refine below_set ?_ GE193.out|refine below_set ?_ GE194.out)|exact HB.out)⟩⟩
        case rest =>
         clear HC63
         try clear c1
         try clear c2
         try clear p2
         try clear c3
         try clear c5
         try clear c6
         try clear p6
         try clear c10
         try clear c11
         try clear c12
         try clear c17
         try clear c17b0
         try clear c18
         try clear c19
         try clear c20
         try clear c22
         try clear c27
         try clear c29
         try clear c30
         try clear c31
         try clear c32
         try clear c34
         try clear c35
         try clear c36
         try clear c50
         try clear c51
         try clear c57
         try clear c58
         try clear c59
         try clear c64
         try clear c64b0
         try clear p64
         try clear c65
         try clear c66
         try clear c67
         try clear hcz13_0
         try clear hcz13_1
         try clear hcz13_2
         try clear hcz15_0
         try clear hcz15_1
         try clear hcz15_2
         try clear hcz21_0
         try clear hcz21_1
         try clear hcz21_2
         try clear hcz33_0
         try clear hcz33_1
         try clear hcz33_2
         try clear hcz33_3
         try clear hcz37_0
         try clear hcz37_1
         try clear hcz37_2
         try clear hcz39_0
         try clear hcz39_1
         try clear hcz39_2
         try clear hcz40_0
         try clear hcz40_1
         try clear hcz40_2
         try clear hcz40_3
         try clear hcz42_0
         try clear hcz42_1
         try clear hcz42_2
         try clear hcz43_0
         try clear hcz43_1
         try clear hcz43_2
         try clear hcz43_3
         try clear hcz45_0
         try clear hcz45_1
         try clear hcz45_2
         try clear hcz46_0
         try clear hcz46_1
         try clear hcz46_2
         try clear hcz46_3
         try clear hcz48_0
         try clear hcz48_1
         try clear hcz48_2
         try clear hcz49_0
         try clear hcz49_1
         try clear hcz49_2
         try clear hcz49_3
         try clear hcz52_0
         try clear hcz52_1
         try clear hcz52_10
         try clear hcz52_11
         try clear hcz52_12
         try clear hcz52_13
         try clear hcz52_14
         try clear hcz52_15
         try clear hcz52_16
         try clear hcz52_2
         try clear hcz52_3
         try clear hcz52_4
         try clear hcz52_5
         try clear hcz52_6
         try clear hcz52_7
         try clear hcz52_8
         try clear hcz52_9
         try clear hcz55_0
         try clear hcz55_1
         try clear hcz55_10
         try clear hcz55_11
         try clear hcz55_12
         try clear hcz55_13
         try clear hcz55_14
         try clear hcz55_15
         try clear hcz55_16
         try clear hcz55_2
         try clear hcz55_3
         try clear hcz55_4
         try clear hcz55_5
         try clear hcz55_6
         try clear hcz55_7
         try clear hcz55_8
         try clear hcz55_9
         try clear hcz60_0
         try clear hcz60_1
         try clear hcz60_2
         try clear hcz62_0
         try clear hcz62_1
         try clear hcz62_2
         try clear hcz68_0
         try clear hcz68_1
         try clear hcz68_2
         try clear hfz13_0
         try clear hfz13_1
         try clear hfz13_2
         try clear hfz15_0
         try clear hfz15_1
         try clear hfz15_2
         try clear hfz21_0
         try clear hfz21_1
         try clear hfz21_2
         try clear hfz33_0
         try clear hfz33_1
         try clear hfz33_2
         try clear hfz33_3
         try clear hfz37_0
         try clear hfz37_1
         try clear hfz37_2
         try clear hfz39_0
         try clear hfz39_1
         try clear hfz39_2
         try clear hfz40_0
         try clear hfz40_1
         try clear hfz40_2
         try clear hfz40_3
         try clear hfz42_0
         try clear hfz42_1
         try clear hfz42_2
         try clear hfz43_0
         try clear hfz43_1
         try clear hfz43_2
         try clear hfz43_3
         try clear hfz45_0
         try clear hfz45_1
         try clear hfz45_2
         try clear hfz46_0
         try clear hfz46_1
         try clear hfz46_2
         try clear hfz46_3
         try clear hfz48_0
         try clear hfz48_1
         try clear hfz48_2
         try clear hfz49_0
         try clear hfz49_1
         try clear hfz49_2
         try clear hfz49_3
         try clear hfz52_0
         try clear hfz52_1
         try clear hfz52_10
         try clear hfz52_11
         try clear hfz52_12
         try clear hfz52_13
         try clear hfz52_14
         try clear hfz52_15
         try clear hfz52_16
         try clear hfz52_2
         try clear hfz52_3
         try clear hfz52_4
         try clear hfz52_5
         try clear hfz52_6
         try clear hfz52_7
         try clear hfz52_8
         try clear hfz52_9
         try clear hfz55_0
         try clear hfz55_1
         try clear hfz55_10
         try clear hfz55_11
         try clear hfz55_12
         try clear hfz55_13
         try clear hfz55_14
         try clear hfz55_15
         try clear hfz55_16
         try clear hfz55_2
         try clear hfz55_3
         try clear hfz55_4
         try clear hfz55_5
         try clear hfz55_6
         try clear hfz55_7
         try clear hfz55_8
         try clear hfz55_9
         try clear hfz60_0
         try clear hfz60_1
         try clear hfz60_2
         try clear hfz62_0
         try clear hfz62_1
         try clear hfz62_2
         try clear hfz68_0
         try clear hfz68_1
         try clear hfz68_2
         try clear p2
         try clear p6
         obtain ⟨kq,x75_62,rfl,HA,HJ62,HO_193015,HO_193016,BK191,BK192,BK193,BK194,HK,HB⟩:=hcut
         cases kq with
         | zero=>exact absurd HA.out (by simp [girderref04_takeTables.j3])
         | succ kj62 =>
          have H:=HA.out
          clear HA
          simp only [girderref04_takeTables.j3] at H
          by_cases c69 : x75_62=true
          ·subst c69
           have H1 : ((girderref01_Reader_Number.f x192000_3 x192001_3 x192002_3 4).bind fun bt224=>((girderref01_Reader_Number.f bt224.1 bt224.2.1 bt224.2.2.1 8).bind fun bt228=>(if x193016_3.length < 8796093022208 then (girderref04_takeTables.l1 kj62 t222 (IntKind.u64.wrap (x10_3 + 1)) bt228.1 bt228.2.1 bt228.2.2.1 a1_0 a1_1 a1_2 a1_3 a1_4 a1_5 a1_6 a1_7 a1_8 a1_9 a1_10 a1_11 a1_12 a1_13 a1_14 x193015_1 (x193016_3 ++ [(⟨(bt224.2.2.2) % 4294967296,bt228.2.2.2⟩ : S58)])) else (none))))=some (r1,r2,r3,r4,r5,r6,r7,r8,r9,r10,r11,r12,r13,r14,r15,r16,r17,r18,r19,r20):=by rw [if_pos rfl] at H;exact H
           clear H
           have H:=H1
           clear H1
           replace H:=Option.bind_eq_some_iff.mp H
           obtain ⟨⟨t224,t225,t226,t227⟩,A700,H⟩:=H
           replace H : ((girderref01_Reader_Number.f t224 t225 t226 8).bind fun bt228=>(if x193016_3.length < 8796093022208 then (girderref04_takeTables.l1 kj62 t222 (IntKind.u64.wrap (x10_3 + 1)) bt228.1 bt228.2.1 bt228.2.2.1 a1_0 a1_1 a1_2 a1_3 a1_4 a1_5 a1_6 a1_7 a1_8 a1_9 a1_10 a1_11 a1_12 a1_13 a1_14 x193015_1 (x193016_3 ++ [(⟨(t227) % 4294967296,bt228.2.2.2⟩ : S58)])) else (none)))=some (r1,r2,r3,r4,r5,r6,r7,r8,r9,r10,r11,r12,r13,r14,r15,r16,r17,r18,r19,r20):=H
           have A70:=Aside0.mk A700
           clear A700
           replace H:=Option.bind_eq_some_iff.mp H
           obtain ⟨⟨t228,t229,t230,t231⟩,A710,H⟩:=H
           replace H : (if x193016_3.length < 8796093022208 then (girderref04_takeTables.l1 kj62 t222 (IntKind.u64.wrap (x10_3 + 1)) t228 t229 t230 a1_0 a1_1 a1_2 a1_3 a1_4 a1_5 a1_6 a1_7 a1_8 a1_9 a1_10 a1_11 a1_12 a1_13 a1_14 x193015_1 (x193016_3 ++ [(⟨(t227) % 4294967296,t231⟩ : S58)])) else (none))=some (r1,r2,r3,r4,r5,r6,r7,r8,r9,r10,r11,r12,r13,r14,r15,r16,r17,r18,r19,r20):=H
           have A71:=Aside0.mk A710
           clear A710
           by_cases c72 : x193016_3.length < 8796093022208
           ·rw [if_pos c72] at H
            have LMc72:=Aside0.mk c72
            clear c72
            obtain ⟨y232,hy232⟩ : ∃ y_ : List (S58),y_=(x193016_3 ++ [(⟨(t227) % 4294967296,t231⟩ : S58)]):=⟨_,rfl⟩
            replace H : (girderref04_takeTables.l1 kj62 t222 (IntKind.u64.wrap (x10_3 + 1)) t228 t229 t230 a1_0 a1_1 a1_2 a1_3 a1_4 a1_5 a1_6 a1_7 a1_8 a1_9 a1_10 a1_11 a1_12 a1_13 a1_14 x193015_1 y232)=some (r1,r2,r3,r4,r5,r6,r7,r8,r9,r10,r11,r12,r13,r14,r15,r16,r17,r18,r19,r20):=by first|(rw [hy232];with_reducible exact H)|(have H2_:=(Option.bind_some _ _).symm.trans H;rw [hy232];with_reducible exact H2_)|(have H2_:=(Option.bind_some _ _).symm.trans H;with_reducible exact H2_)|with_reducible exact H|(rw [hy232];exact H)|exact H
            have Ny232:=Aside0.mk hy232
            clear hy232
            have H':=Aside0.mk H
            clear H
            go_wp2_with (first|((with_reducible refine gate_dst (N:=11) rfl ?_);refine box_event ?hg (N:=11) ?hd (cs:=#[.int .u32 0,.int .u64 0]) (t:=58) ?hr ?_;(case hd=>rfl);(case hg=>rfl);(case hr=>first|(go_simp;done)|(go_simp;rfl));intro gb223 hg w73 hbox hb;have n0_:=Aside0.mk (Kd.R_below (by (with_reducible repeat (first|apply Kd.R_alloc|apply Kd.R_drewN|apply Kd.R_drew));exact HO_193015.out) hb);have n1_:=Aside0.mk (Kd.R_below (Kd.R_elderB (by (with_reducible repeat (first|apply Kd.R_alloc|apply Kd.R_drewN|apply Kd.R_drew));exact HO_193016.out) gb223 (Nat.le_of_eq hg.symm)) hb);have n2_:=Aside0.mk (blk_below (g:=gb191) (o:=.cells #[.string x192000_3,.int .i64 x192001_3,.int .i64 x192002_3] 81 (0,0)) (by (with_reducible repeat (first|refine blk_drewN ?_ _|refine blk_drew ?_|refine blk_alloc ?_ _));exact BK191.out) hb);have n3_:=Aside0.mk (blk_below (g:=gb192) (o:=.cells #[.int .i64 a1_0,.int .i64 a1_1,.int .u64 a1_2,.int .u64 a1_3,.int .u32 a1_4,.int .i64 a1_5,.int .i64 a1_6,.string a1_7,.string a1_8,.int .i64 a1_9,.int .i64 a1_10,.string a1_11,.int .u32 a1_12,.int .i64 a1_13,.bool a1_14,u193015,u193016] 47 (0,0)) (by (with_reducible repeat (first|refine blk_drewN ?_ _|refine blk_drew ?_|refine blk_alloc ?_ _));exact BK192.out) hb);have n4_:=Aside0.mk (blk_below (g:=gb193) (o:=.cells #[.string (⟨#[]⟩ : ByteArray),.int .i64 0,.int .i64 0] 81 (0,0)) (by (with_reducible repeat (first|refine blk_drewN ?_ _|refine blk_drew ?_|refine blk_alloc ?_ _));exact BK193.out) hb);have n5_:=Aside0.mk (blk_below (g:=gb194) (o:=.cells #[.int .i64 0,.int .i64 0,.int .u64 0,.int .u64 0,.int .u32 0,.int .i64 0,.int .i64 0,.string (⟨#[]⟩ : ByteArray),.string (⟨#[]⟩ : ByteArray),.int .i64 0,.int .i64 0,.string (⟨#[]⟩ : ByteArray),.int .u32 0,.int .i64 0,.bool false,.slice none 0 0,.slice none 0 0] 47 (0,0)) (by (with_reducible repeat (first|refine blk_drewN ?_ _|refine blk_drew ?_|refine blk_alloc ?_ _));exact BK194.out) hb);have n6_:=Aside0.mk (Kept.below (S:=(fun k_=>P1_15_ k_ ∨ P1_16_ k_)) (by repeat (first|(with_reducible first|exact HK.out|apply Kept.alloc|apply Kept.drewN|apply Kept.drew|refine Kept.setCell ?_ (.inr GW191.out) _|refine Kept.setCell ?_ (.inr GW192.out) _|refine Kept.setCell ?_ (.inr GW193.out) _|refine Kept.setCell ?_ (.inr GW194.out) _)|exact HK.out)) hb);have n7_:=Aside0.mk (below_step (by repeat (first|(with_reducible first|exact HB.out|apply below_alloc|apply pw_below_drewN|apply below_drew1|refine below_set ?_ GE191.out|refine below_set ?_ GE192.out|refine below_set ?_ GE193.out|refine below_set ?_ GE194.out)|exact HB.out)) hb);have n8_:=Aside0.mk (hbox);have n9_:=Aside0.mk ((by rw [hg];exact (by first|exact HK.out.1|exact (show Kept w _ (fun k_=>P1_15_ k_ ∨ P1_16_ k_) from by repeat (first|(with_reducible first|exact HK.out|apply Kept.alloc|apply Kept.drewN|apply Kept.drew|refine Kept.setCell ?_ (.inr GW191.out) _|refine Kept.setCell ?_ (.inr GW192.out) _|refine Kept.setCell ?_ (.inr GW193.out) _|refine Kept.setCell ?_ (.inr GW194.out) _)|exact HK.out)).1) : w.heap.size≤gb223));have n10_:=Aside0.mk ((by rw [hg];exact (below_size (by repeat (first|(with_reducible first|exact HB.out|apply below_alloc|apply pw_below_drewN|apply below_drew1|refine below_set ?_ GE191.out|refine below_set ?_ GE192.out|refine below_set ?_ GE193.out|refine below_set ?_ GE194.out)|exact HB.out))) : w0.heap.size≤gb223));have n11_:=Aside0.mk ((by rw [hg];exact Nat.ne_of_lt (blk_lt (g:=gb191) (o:=.cells #[.string x192000_3,.int .i64 x192001_3,.int .i64 x192002_3] 81 (0,0)) (by (with_reducible repeat (first|refine blk_drewN ?_ _|refine blk_drew ?_|refine blk_alloc ?_ _));exact BK191.out)) : gb191≠gb223));have n12_:=Aside0.mk ((by rw [hg];exact Nat.ne_of_gt (blk_lt (g:=gb191) (o:=.cells #[.string x192000_3,.int .i64 x192001_3,.int .i64 x192002_3] 81 (0,0)) (by (with_reducible repeat (first|refine blk_drewN ?_ _|refine blk_drew ?_|refine blk_alloc ?_ _));exact BK191.out)) : gb223≠gb191));have n13_:=Aside0.mk ((by rw [hg];exact Nat.ne_of_lt (blk_lt (g:=gb192) (o:=.cells #[.int .i64 a1_0,.int .i64 a1_1,.int .u64 a1_2,.int .u64 a1_3,.int .u32 a1_4,.int .i64 a1_5,.int .i64 a1_6,.string a1_7,.string a1_8,.int .i64 a1_9,.int .i64 a1_10,.string a1_11,.int .u32 a1_12,.int .i64 a1_13,.bool a1_14,u193015,u193016] 47 (0,0)) (by (with_reducible repeat (first|refine blk_drewN ?_ _|refine blk_drew ?_|refine blk_alloc ?_ _));exact BK192.out)) : gb192≠gb223));have n14_:=Aside0.mk ((by rw [hg];exact Nat.ne_of_gt (blk_lt (g:=gb192) (o:=.cells #[.int .i64 a1_0,.int .i64 a1_1,.int .u64 a1_2,.int .u64 a1_3,.int .u32 a1_4,.int .i64 a1_5,.int .i64 a1_6,.string a1_7,.string a1_8,.int .i64 a1_9,.int .i64 a1_10,.string a1_11,.int .u32 a1_12,.int .i64 a1_13,.bool a1_14,u193015,u193016] 47 (0,0)) (by (with_reducible repeat (first|refine blk_drewN ?_ _|refine blk_drew ?_|refine blk_alloc ?_ _));exact BK192.out)) : gb223≠gb192));have n15_:=Aside0.mk ((by rw [hg];exact Nat.ne_of_lt (blk_lt (g:=gb193) (o:=.cells #[.string (⟨#[]⟩ : ByteArray),.int .i64 0,.int .i64 0] 81 (0,0)) (by (with_reducible repeat (first|refine blk_drewN ?_ _|refine blk_drew ?_|refine blk_alloc ?_ _));exact BK193.out)) : gb193≠gb223));have n16_:=Aside0.mk ((by rw [hg];exact Nat.ne_of_gt (blk_lt (g:=gb193) (o:=.cells #[.string (⟨#[]⟩ : ByteArray),.int .i64 0,.int .i64 0] 81 (0,0)) (by (with_reducible repeat (first|refine blk_drewN ?_ _|refine blk_drew ?_|refine blk_alloc ?_ _));exact BK193.out)) : gb223≠gb193));have n17_:=Aside0.mk ((by rw [hg];exact Nat.ne_of_lt (blk_lt (g:=gb194) (o:=.cells #[.int .i64 0,.int .i64 0,.int .u64 0,.int .u64 0,.int .u32 0,.int .i64 0,.int .i64 0,.string (⟨#[]⟩ : ByteArray),.string (⟨#[]⟩ : ByteArray),.int .i64 0,.int .i64 0,.string (⟨#[]⟩ : ByteArray),.int .u32 0,.int .i64 0,.bool false,.slice none 0 0,.slice none 0 0] 47 (0,0)) (by (with_reducible repeat (first|refine blk_drewN ?_ _|refine blk_drew ?_|refine blk_alloc ?_ _));exact BK194.out)) : gb194≠gb223));have n18_:=Aside0.mk ((by rw [hg];exact Nat.ne_of_gt (blk_lt (g:=gb194) (o:=.cells #[.int .i64 0,.int .i64 0,.int .u64 0,.int .u64 0,.int .u32 0,.int .i64 0,.int .i64 0,.string (⟨#[]⟩ : ByteArray),.string (⟨#[]⟩ : ByteArray),.int .i64 0,.int .i64 0,.string (⟨#[]⟩ : ByteArray),.int .u32 0,.int .i64 0,.bool false,.slice none 0 0,.slice none 0 0] 47 (0,0)) (by (with_reducible repeat (first|refine blk_drewN ?_ _|refine blk_drew ?_|refine blk_alloc ?_ _));exact BK194.out)) : gb223≠gb194));clear HO_193015;clear HO_193016;clear BK191;clear BK192;clear BK193;clear BK194;clear HK;clear HB;have HO_193015:=n0_;have HO_193016:=n1_;have BK191:=n2_;have BK192:=n3_;have BK193:=n4_;have BK194:=n5_;have HK:=n6_;have HB:=n7_;have BK223:=n8_;have GW223:=n9_;have GE223:=n10_;have NB191_223:=n11_;have NB223_191:=n12_;have NB192_223:=n13_;have NB223_192:=n14_;have NB193_223:=n15_;have NB223_193:=n16_;have NB194_223:=n17_;have NB223_194:=n18_;clear n0_ n1_ n2_ n3_ n4_ n5_ n6_ n7_ n8_ n9_ n10_ n11_ n12_ n13_ n14_ n15_ n16_ n17_ n18_;clear hb hbox hg;have hnb74:=NB223_191.out;have hnc74:=NB191_223.out;have hnb75:=NB223_192.out;have hnc75:=NB192_223.out;have hnb76:=NB223_193.out;have hnc76:=NB193_223.out;have hnb77:=NB223_194.out;have hnc77:=NB194_223.out;have hcz78_0 : w73.cell? ⟨gb223,0,none⟩=some (.int .u32 0):=(blk_cell BK223.out 0).trans rfl;have hcz78_1 : w73.cell? ⟨gb223,1,none⟩=some (.int .u64 0):=(blk_cell BK223.out 1).trans rfl;have hfz78_0:=blk_frozen BK223.out 0;have hfz78_1:=blk_frozen BK223.out 1;have hnb79:=NB191_192.out;have hnc79:=NB192_191.out;have hnb80:=NB191_193.out;have hnc80:=NB193_191.out;have hnb81:=NB191_194.out;have hnc81:=NB194_191.out;have hcz82_0 : w73.cell? ⟨gb191,0,none⟩=some (.string x192000_3):=(blk_cell BK191.out 0).trans rfl;have hcz82_1 : w73.cell? ⟨gb191,1,none⟩=some (.int .i64 x192001_3):=(blk_cell BK191.out 1).trans rfl;have hcz82_2 : w73.cell? ⟨gb191,2,none⟩=some (.int .i64 x192002_3):=(blk_cell BK191.out 2).trans rfl;have hfz82_0:=blk_frozen BK191.out 0;have hfz82_1:=blk_frozen BK191.out 1;have hfz82_2:=blk_frozen BK191.out 2)|((with_reducible refine gate_callee (f:=27) rfl ?_);refine goesL_ (some 81) rfl rfl Try.func27 (by kernel_rfl) rfl #[.agg #[.string x192000_3,.int .i64 x192001_3,.int .i64 x192002_3],.int .i64 4] rfl (by (try simp only [List.map_toArray,List.map_cons,List.map_nil]);first|done|rfl|(simp only [List.length_drop,List.length_take];rfl)) ?_;(with_reducible refine (girderref01_Reader_Number.calls x192000_3 x192001_3 x192002_3 4 t224 t225 t226 t227 _ A70.out).mono ?_);rintro e w83 ⟨rfl,hb⟩;refine ⟨_,rfl,?_⟩;have n0_:=Aside0.mk (Kd.R_below (by (with_reducible repeat (first|apply Kd.R_alloc|apply Kd.R_drewN|apply Kd.R_drew));exact (Kd.R_mono (Kd.R_far (p:=⟨gb223,1,none⟩) (Kd.R_far (p:=⟨gb223,0,none⟩) (Kd.R_types HO_193015.out BK223.out (by decide)) (fun _ hk=>hk.2) (.int .u32 0)) (fun _ hk=>hk.2) (.int .u64 0)) (fun _ h_=>h_.1))) hb);have n1_:=Aside0.mk (Kd.R_below (by (with_reducible repeat (first|apply Kd.R_alloc|apply Kd.R_drewN|apply Kd.R_drew));exact (Kd.R_mono (Kd.R_far (p:=⟨gb223,1,none⟩) (Kd.R_far (p:=⟨gb223,0,none⟩) (Kd.R_mono HO_193016.out (fun k_ hk=>(⟨hk,hk.2⟩ : _∧k_≠gb223))) (fun _ hk=>hk.2) (.int .u32 0)) (fun _ hk=>hk.2) (.int .u64 0)) (fun _ h_=>h_.1))) hb);have n2_:=Aside0.mk (blk_below (g:=gb191) (o:=.cells #[.string x192000_3,.int .i64 x192001_3,.int .i64 x192002_3] 81 (0,0)) (by (with_reducible repeat (first|refine blk_drewN ?_ _|refine blk_drew ?_|refine blk_alloc ?_ _));refine blk_far ?_ NB191_223.out _;(with_reducible repeat (first|refine blk_drewN ?_ _|refine blk_drew ?_|refine blk_alloc ?_ _));refine blk_far ?_ NB191_223.out _;(with_reducible repeat (first|refine blk_drewN ?_ _|refine blk_drew ?_|refine blk_alloc ?_ _));exact BK191.out) hb);have n3_:=Aside0.mk (blk_below (g:=gb192) (o:=.cells #[.int .i64 a1_0,.int .i64 a1_1,.int .u64 a1_2,.int .u64 a1_3,.int .u32 a1_4,.int .i64 a1_5,.int .i64 a1_6,.string a1_7,.string a1_8,.int .i64 a1_9,.int .i64 a1_10,.string a1_11,.int .u32 a1_12,.int .i64 a1_13,.bool a1_14,u193015,u193016] 47 (0,0)) (by (with_reducible repeat (first|refine blk_drewN ?_ _|refine blk_drew ?_|refine blk_alloc ?_ _));refine blk_far ?_ NB192_223.out _;(with_reducible repeat (first|refine blk_drewN ?_ _|refine blk_drew ?_|refine blk_alloc ?_ _));refine blk_far ?_ NB192_223.out _;(with_reducible repeat (first|refine blk_drewN ?_ _|refine blk_drew ?_|refine blk_alloc ?_ _));exact BK192.out) hb);have n4_:=Aside0.mk (blk_below (g:=gb193) (o:=.cells #[.string (⟨#[]⟩ : ByteArray),.int .i64 0,.int .i64 0] 81 (0,0)) (by (with_reducible repeat (first|refine blk_drewN ?_ _|refine blk_drew ?_|refine blk_alloc ?_ _));refine blk_far ?_ NB193_223.out _;(with_reducible repeat (first|refine blk_drewN ?_ _|refine blk_drew ?_|refine blk_alloc ?_ _));refine blk_far ?_ NB193_223.out _;(with_reducible repeat (first|refine blk_drewN ?_ _|refine blk_drew ?_|refine blk_alloc ?_ _));exact BK193.out) hb);have n5_:=Aside0.mk (blk_below (g:=gb194) (o:=.cells #[.int .i64 0,.int .i64 0,.int .u64 0,.int .u64 0,.int .u32 0,.int .i64 0,.int .i64 0,.string (⟨#[]⟩ : ByteArray),.string (⟨#[]⟩ : ByteArray),.int .i64 0,.int .i64 0,.string (⟨#[]⟩ : ByteArray),.int .u32 0,.int .i64 0,.bool false,.slice none 0 0,.slice none 0 0] 47 (0,0)) (by (with_reducible repeat (first|refine blk_drewN ?_ _|refine blk_drew ?_|refine blk_alloc ?_ _));refine blk_far ?_ NB194_223.out _;(with_reducible repeat (first|refine blk_drewN ?_ _|refine blk_drew ?_|refine blk_alloc ?_ _));refine blk_far ?_ NB194_223.out _;(with_reducible repeat (first|refine blk_drewN ?_ _|refine blk_drew ?_|refine blk_alloc ?_ _));exact BK194.out) hb);have n6_:=Aside0.mk (blk_below (g:=gb223) (o:=.cells #[.int .u32 0,.int .u64 0] 58 (0,0)) (by (with_reducible repeat (first|refine blk_drewN ?_ _|refine blk_drew ?_|refine blk_alloc ?_ _));refine blk_put (cs:=#[.int .u32 0,.int .u64 0]) ?_ 1 _ rfl;(with_reducible repeat (first|refine blk_drewN ?_ _|refine blk_drew ?_|refine blk_alloc ?_ _));refine blk_put (cs:=#[.int .u32 0,.int .u64 0]) ?_ 0 _ rfl;(with_reducible repeat (first|refine blk_drewN ?_ _|refine blk_drew ?_|refine blk_alloc ?_ _));exact BK223.out) hb);have n7_:=Aside0.mk (Kept.below (S:=(fun k_=>P1_15_ k_ ∨ P1_16_ k_)) (by repeat (first|(with_reducible first|exact HK.out|apply Kept.alloc|apply Kept.drewN|apply Kept.drew|refine Kept.setCell ?_ (.inr GW191.out) _|refine Kept.setCell ?_ (.inr GW192.out) _|refine Kept.setCell ?_ (.inr GW193.out) _|refine Kept.setCell ?_ (.inr GW194.out) _|refine Kept.setCell ?_ (.inr GW223.out) _)|exact HK.out)) hb);have n8_:=Aside0.mk (below_step (by repeat (first|(with_reducible first|exact HB.out|apply below_alloc|apply pw_below_drewN|apply below_drew1|refine below_set ?_ GE191.out|refine below_set ?_ GE192.out|refine below_set ?_ GE193.out|refine below_set ?_ GE194.out|refine below_set ?_ GE223.out)|exact HB.out)) hb);clear HO_193015;clear HO_193016;clear BK191;clear BK192;clear BK193;clear BK194;clear BK223;clear HK;clear HB;have HO_193015:=n0_;have HO_193016:=n1_;have BK191:=n2_;have BK192:=n3_;have BK193:=n4_;have BK194:=n5_;have BK223:=n6_;have HK:=n7_;have HB:=n8_;clear n0_ n1_ n2_ n3_ n4_ n5_ n6_ n7_ n8_;(try clear hb);(try clear hb2);(try clear hk);(try clear hi);have hcz84_0 : w83.cell? ⟨gb191,0,none⟩=some (.string x192000_3):=(blk_cell BK191.out 0).trans rfl;have hcz84_1 : w83.cell? ⟨gb191,1,none⟩=some (.int .i64 x192001_3):=(blk_cell BK191.out 1).trans rfl;have hcz84_2 : w83.cell? ⟨gb191,2,none⟩=some (.int .i64 x192002_3):=(blk_cell BK191.out 2).trans rfl;have hfz84_0:=blk_frozen BK191.out 0;have hfz84_1:=blk_frozen BK191.out 1;have hfz84_2:=blk_frozen BK191.out 2;have hcz85_0 : w83.cell? ⟨gb223,0,none⟩=some (.int .u32 0):=(blk_cell BK223.out 0).trans rfl;have hcz85_1 : w83.cell? ⟨gb223,1,none⟩=some (.int .u64 0):=(blk_cell BK223.out 1).trans rfl;have hfz85_0:=blk_frozen BK223.out 0;have hfz85_1:=blk_frozen BK223.out 1)|((with_reducible refine gate_callee (f:=27) rfl ?_);refine goesL_ (some 89) rfl rfl Try.func27 (by kernel_rfl) rfl #[.agg #[.string t224,.int .i64 t225,.int .i64 t226],.int .i64 8] rfl (by (try simp only [List.map_toArray,List.map_cons,List.map_nil]);first|done|rfl|(simp only [List.length_drop,List.length_take];rfl)) ?_;(with_reducible refine (girderref01_Reader_Number.calls t224 t225 t226 8 t228 t229 t230 t231 _ A71.out).mono ?_);rintro e w86 ⟨rfl,hb⟩;refine ⟨_,rfl,?_⟩;have n0_:=Aside0.mk (Kd.R_below (by (with_reducible repeat (first|apply Kd.R_alloc|apply Kd.R_drewN|apply Kd.R_drew));exact (Kd.R_mono (Kd.R_mono (Kd.R_far (p:=⟨gb223,0,none⟩) (Kd.R_far (p:=⟨gb191,2,none⟩) (Kd.R_far (p:=⟨gb191,1,none⟩) (Kd.R_far (p:=⟨gb191,0,none⟩) (Kd.R_types (Kd.R_types HO_193015.out BK191.out (by decide)) BK223.out (by decide)) (fun _ hk=>hk.1.2) (.string t224)) (fun _ hk=>hk.1.2) (.int .i64 t225)) (fun _ hk=>hk.1.2) (.int .i64 t226)) (fun _ hk=>hk.2) (.int .u32 ((t227) % 4294967296))) (fun _ h_=>h_.1)) (fun _ h_=>h_.1))) hb);have n1_:=Aside0.mk (Kd.R_below (by (with_reducible repeat (first|apply Kd.R_alloc|apply Kd.R_drewN|apply Kd.R_drew));exact (Kd.R_mono (Kd.R_mono (Kd.R_far (p:=⟨gb223,0,none⟩) (Kd.R_far (p:=⟨gb191,2,none⟩) (Kd.R_far (p:=⟨gb191,1,none⟩) (Kd.R_far (p:=⟨gb191,0,none⟩) (Kd.R_mono (Kd.R_types HO_193016.out BK191.out (by decide)) (fun k_ hk=>(⟨hk,hk.1.2⟩ : _∧k_≠gb223))) (fun _ hk=>hk.1.2) (.string t224)) (fun _ hk=>hk.1.2) (.int .i64 t225)) (fun _ hk=>hk.1.2) (.int .i64 t226)) (fun _ hk=>hk.2) (.int .u32 ((t227) % 4294967296))) (fun _ h_=>h_.1)) (fun _ h_=>h_.1))) hb);have n2_:=Aside0.mk (blk_below (g:=gb191) (o:=.cells #[.string t224,.int .i64 t225,.int .i64 t226] 81 (0,0)) (by (with_reducible repeat (first|refine blk_drewN ?_ _|refine blk_drew ?_|refine blk_alloc ?_ _));refine blk_far ?_ NB191_223.out _;(with_reducible repeat (first|refine blk_drewN ?_ _|refine blk_drew ?_|refine blk_alloc ?_ _));refine blk_put (cs:=#[.string t224,.int .i64 t225,.int .i64 x192002_3]) ?_ 2 _ rfl;(with_reducible repeat (first|refine blk_drewN ?_ _|refine blk_drew ?_|refine blk_alloc ?_ _));refine blk_put (cs:=#[.string t224,.int .i64 x192001_3,.int .i64 x192002_3]) ?_ 1 _ rfl;(with_reducible repeat (first|refine blk_drewN ?_ _|refine blk_drew ?_|refine blk_alloc ?_ _));refine blk_put (cs:=#[.string x192000_3,.int .i64 x192001_3,.int .i64 x192002_3]) ?_ 0 _ rfl;(with_reducible repeat (first|refine blk_drewN ?_ _|refine blk_drew ?_|refine blk_alloc ?_ _));exact BK191.out) hb);have n3_:=Aside0.mk (blk_below (g:=gb192) (o:=.cells #[.int .i64 a1_0,.int .i64 a1_1,.int .u64 a1_2,.int .u64 a1_3,.int .u32 a1_4,.int .i64 a1_5,.int .i64 a1_6,.string a1_7,.string a1_8,.int .i64 a1_9,.int .i64 a1_10,.string a1_11,.int .u32 a1_12,.int .i64 a1_13,.bool a1_14,u193015,u193016] 47 (0,0)) (by (with_reducible repeat (first|refine blk_drewN ?_ _|refine blk_drew ?_|refine blk_alloc ?_ _));refine blk_far ?_ NB192_223.out _;(with_reducible repeat (first|refine blk_drewN ?_ _|refine blk_drew ?_|refine blk_alloc ?_ _));refine blk_far ?_ NB192_191.out _;(with_reducible repeat (first|refine blk_drewN ?_ _|refine blk_drew ?_|refine blk_alloc ?_ _));refine blk_far ?_ NB192_191.out _;(with_reducible repeat (first|refine blk_drewN ?_ _|refine blk_drew ?_|refine blk_alloc ?_ _));refine blk_far ?_ NB192_191.out _;(with_reducible repeat (first|refine blk_drewN ?_ _|refine blk_drew ?_|refine blk_alloc ?_ _));exact BK192.out) hb);have n4_:=Aside0.mk (blk_below (g:=gb193) (o:=.cells #[.string (⟨#[]⟩ : ByteArray),.int .i64 0,.int .i64 0] 81 (0,0)) (by (with_reducible repeat (first|refine blk_drewN ?_ _|refine blk_drew ?_|refine blk_alloc ?_ _));refine blk_far ?_ NB193_223.out _;(with_reducible repeat (first|refine blk_drewN ?_ _|refine blk_drew ?_|refine blk_alloc ?_ _));refine blk_far ?_ NB193_191.out _;(with_reducible repeat (first|refine blk_drewN ?_ _|refine blk_drew ?_|refine blk_alloc ?_ _));refine blk_far ?_ NB193_191.out _;(with_reducible repeat (first|refine blk_drewN ?_ _|refine blk_drew ?_|refine blk_alloc ?_ _));refine blk_far ?_ NB193_191.out _;(with_reducible repeat (first|refine blk_drewN ?_ _|refine blk_drew ?_|refine blk_alloc ?_ _));exact BK193.out) hb);have n5_:=Aside0.mk (blk_below (g:=gb194) (o:=.cells #[.int .i64 0,.int .i64 0,.int .u64 0,.int .u64 0,.int .u32 0,.int .i64 0,.int .i64 0,.string (⟨#[]⟩ : ByteArray),.string (⟨#[]⟩ : ByteArray),.int .i64 0,.int .i64 0,.string (⟨#[]⟩ : ByteArray),.int .u32 0,.int .i64 0,.bool false,.slice none 0 0,.slice none 0 0] 47 (0,0)) (by (with_reducible repeat (first|refine blk_drewN ?_ _|refine blk_drew ?_|refine blk_alloc ?_ _));refine blk_far ?_ NB194_223.out _;(with_reducible repeat (first|refine blk_drewN ?_ _|refine blk_drew ?_|refine blk_alloc ?_ _));refine blk_far ?_ NB194_191.out _;(with_reducible repeat (first|refine blk_drewN ?_ _|refine blk_drew ?_|refine blk_alloc ?_ _));refine blk_far ?_ NB194_191.out _;(with_reducible repeat (first|refine blk_drewN ?_ _|refine blk_drew ?_|refine blk_alloc ?_ _));refine blk_far ?_ NB194_191.out _;(with_reducible repeat (first|refine blk_drewN ?_ _|refine blk_drew ?_|refine blk_alloc ?_ _));exact BK194.out) hb);have n6_:=Aside0.mk (blk_below (g:=gb223) (o:=.cells #[.int .u32 ((t227) % 4294967296),.int .u64 0] 58 (0,0)) (by (with_reducible repeat (first|refine blk_drewN ?_ _|refine blk_drew ?_|refine blk_alloc ?_ _));refine blk_put (cs:=#[.int .u32 0,.int .u64 0]) ?_ 0 _ rfl;(with_reducible repeat (first|refine blk_drewN ?_ _|refine blk_drew ?_|refine blk_alloc ?_ _));refine blk_far ?_ NB223_191.out _;(with_reducible repeat (first|refine blk_drewN ?_ _|refine blk_drew ?_|refine blk_alloc ?_ _));refine blk_far ?_ NB223_191.out _;(with_reducible repeat (first|refine blk_drewN ?_ _|refine blk_drew ?_|refine blk_alloc ?_ _));refine blk_far ?_ NB223_191.out _;(with_reducible repeat (first|refine blk_drewN ?_ _|refine blk_drew ?_|refine blk_alloc ?_ _));exact BK223.out) hb);have n7_:=Aside0.mk (Kept.below (S:=(fun k_=>P1_15_ k_ ∨ P1_16_ k_)) (by repeat (first|(with_reducible first|exact HK.out|apply Kept.alloc|apply Kept.drewN|apply Kept.drew|refine Kept.setCell ?_ (.inr GW191.out) _|refine Kept.setCell ?_ (.inr GW192.out) _|refine Kept.setCell ?_ (.inr GW193.out) _|refine Kept.setCell ?_ (.inr GW194.out) _|refine Kept.setCell ?_ (.inr GW223.out) _)|exact HK.out)) hb);have n8_:=Aside0.mk (below_step (by repeat (first|(with_reducible first|exact HB.out|apply below_alloc|apply pw_below_drewN|apply below_drew1|refine below_set ?_ GE191.out|refine below_set ?_ GE192.out|refine below_set ?_ GE193.out|refine below_set ?_ GE194.out|refine below_set ?_ GE223.out)|exact HB.out)) hb);clear HO_193015;clear HO_193016;clear BK191;clear BK192;clear BK193;clear BK194;clear BK223;clear HK;clear HB;have HO_193015:=n0_;have HO_193016:=n1_;have BK191:=n2_;have BK192:=n3_;have BK193:=n4_;have BK194:=n5_;have BK223:=n6_;have HK:=n7_;have HB:=n8_;clear n0_ n1_ n2_ n3_ n4_ n5_ n6_ n7_ n8_;(try clear hb);(try clear hb2);(try clear hk);(try clear hi);have hcz87_0 : w86.cell? ⟨gb191,0,none⟩=some (.string t224):=(blk_cell BK191.out 0).trans rfl;have hcz87_1 : w86.cell? ⟨gb191,1,none⟩=some (.int .i64 t225):=(blk_cell BK191.out 1).trans rfl;have hcz87_2 : w86.cell? ⟨gb191,2,none⟩=some (.int .i64 t226):=(blk_cell BK191.out 2).trans rfl;have hfz87_0:=blk_frozen BK191.out 0;have hfz87_1:=blk_frozen BK191.out 1;have hfz87_2:=blk_frozen BK191.out 2;have hcz88_0 : w86.cell? ⟨gb223,0,none⟩=some (.int .u32 ((t227) % 4294967296)):=(blk_cell BK223.out 0).trans rfl;have hcz88_1 : w86.cell? ⟨gb223,1,none⟩=some (.int .u64 0):=(blk_cell BK223.out 1).trans rfl;have hfz88_0:=blk_frozen BK223.out 0;have hfz88_1:=blk_frozen BK223.out 1;have hnb89:=NB192_193.out;have hnc89:=NB193_192.out;have hnb90:=NB192_194.out;have hnc90:=NB194_192.out;have hcz91_0 : w86.cell? ⟨gb192,0,none⟩=some (.int .i64 a1_0):=(blk_cell BK192.out 0).trans rfl;have hcz91_1 : w86.cell? ⟨gb192,1,none⟩=some (.int .i64 a1_1):=(blk_cell BK192.out 1).trans rfl;have hcz91_2 : w86.cell? ⟨gb192,2,none⟩=some (.int .u64 a1_2):=(blk_cell BK192.out 2).trans rfl;have hcz91_3 : w86.cell? ⟨gb192,3,none⟩=some (.int .u64 a1_3):=(blk_cell BK192.out 3).trans rfl;have hcz91_4 : w86.cell? ⟨gb192,4,none⟩=some (.int .u32 a1_4):=(blk_cell BK192.out 4).trans rfl;have hcz91_5 : w86.cell? ⟨gb192,5,none⟩=some (.int .i64 a1_5):=(blk_cell BK192.out 5).trans rfl;have hcz91_6 : w86.cell? ⟨gb192,6,none⟩=some (.int .i64 a1_6):=(blk_cell BK192.out 6).trans rfl;have hcz91_7 : w86.cell? ⟨gb192,7,none⟩=some (.string a1_7):=(blk_cell BK192.out 7).trans rfl;have hcz91_8 : w86.cell? ⟨gb192,8,none⟩=some (.string a1_8):=(blk_cell BK192.out 8).trans rfl;have hcz91_9 : w86.cell? ⟨gb192,9,none⟩=some (.int .i64 a1_9):=(blk_cell BK192.out 9).trans rfl;have hcz91_10 : w86.cell? ⟨gb192,10,none⟩=some (.int .i64 a1_10):=(blk_cell BK192.out 10).trans rfl;have hcz91_11 : w86.cell? ⟨gb192,11,none⟩=some (.string a1_11):=(blk_cell BK192.out 11).trans rfl;have hcz91_12 : w86.cell? ⟨gb192,12,none⟩=some (.int .u32 a1_12):=(blk_cell BK192.out 12).trans rfl;have hcz91_13 : w86.cell? ⟨gb192,13,none⟩=some (.int .i64 a1_13):=(blk_cell BK192.out 13).trans rfl;have hcz91_14 : w86.cell? ⟨gb192,14,none⟩=some (.bool a1_14):=(blk_cell BK192.out 14).trans rfl;have hcz91_15 : w86.cell? ⟨gb192,15,none⟩=some (u193015):=(blk_cell BK192.out 15).trans rfl;have hcz91_16 : w86.cell? ⟨gb192,16,none⟩=some (u193016):=(blk_cell BK192.out 16).trans rfl;have hfz91_0:=blk_frozen BK192.out 0;have hfz91_1:=blk_frozen BK192.out 1;have hfz91_2:=blk_frozen BK192.out 2;have hfz91_3:=blk_frozen BK192.out 3;have hfz91_4:=blk_frozen BK192.out 4;have hfz91_5:=blk_frozen BK192.out 5;have hfz91_6:=blk_frozen BK192.out 6;have hfz91_7:=blk_frozen BK192.out 7;have hfz91_8:=blk_frozen BK192.out 8;have hfz91_9:=blk_frozen BK192.out 9;have hfz91_10:=blk_frozen BK192.out 10;have hfz91_11:=blk_frozen BK192.out 11;have hfz91_12:=blk_frozen BK192.out 12;have hfz91_13:=blk_frozen BK192.out 13;have hfz91_14:=blk_frozen BK192.out 14;have hfz91_15:=blk_frozen BK192.out 15;have hfz91_16:=blk_frozen BK192.out 16)|((with_reducible refine gate_builtin (b:=.append) (xs:=#[.tmp 94,.tmp 96]) rfl ?_);at_builtin;refine Kd.R_append k58 (w0:=w0) w0.heap.size rfl (.tmp 94) (.tmp 96) 45 58 (.agg #[(.int .u32 0),(.int .u64 0)]) 16 rfl Try.underlying45 info58 rfl (by decide) (by omega) u193016 x193016_3 (⟨(t227) % 4294967296,t231⟩ : S58) [.int .u32 ((t227) % 4294967296),.int .u64 t231] (fun k_=>((P1_15_ k_ ∨ P1_16_ k_) ∨ w.heap.size≤k_)∧k_≠gb223) (fun _=>False) rfl (by first|(go_simp;done)|(go_simp;rfl)) ?aP (fun _ hk=>hk.elim) ?aF ?aO ?aB ?aS ?aL ?_;(case aP=>exact k58_mkM _ _ _ (⟨(t227) % 4294967296,t231⟩ : S58));(case aB=>exact (by repeat (first|(with_reducible first|exact HB.out|apply below_alloc|apply pw_below_drewN|apply below_drew1|refine below_set ?_ GE191.out|refine below_set ?_ GE192.out|refine below_set ?_ GE193.out|refine below_set ?_ GE194.out|refine below_set ?_ GE223.out)|exact HB.out)));(case aF=>exact (fun k_ hk=>⟨(.inr (Nat.le_trans (show Kept w _ (fun k_=>P1_15_ k_ ∨ P1_16_ k_) from by repeat (first|(with_reducible first|exact HK.out|apply Kept.alloc|apply Kept.drewN|apply Kept.drew|refine Kept.setCell ?_ (.inr GW191.out) _|refine Kept.setCell ?_ (.inr GW192.out) _|refine Kept.setCell ?_ (.inr GW193.out) _|refine Kept.setCell ?_ (.inr GW194.out) _|refine Kept.setCell ?_ (.inr GW223.out) _)|exact HK.out)).1 hk)),Kd.freshB (g:=gb223) (o:=.cells #[.int .u32 ((t227) % 4294967296),.int .u64 t231] 58 (0,0)) (by (with_reducible repeat (first|refine blk_drewN ?_ _|refine blk_drew ?_|refine blk_alloc ?_ _));refine blk_put (cs:=#[.int .u32 ((t227) % 4294967296),.int .u64 0]) ?_ 1 _ rfl;(with_reducible repeat (first|refine blk_drewN ?_ _|refine blk_drew ?_|refine blk_alloc ?_ _));refine blk_far ?_ NB223_191.out _;(with_reducible repeat (first|refine blk_drewN ?_ _|refine blk_drew ?_|refine blk_alloc ?_ _));refine blk_far ?_ NB223_191.out _;(with_reducible repeat (first|refine blk_drewN ?_ _|refine blk_drew ?_|refine blk_alloc ?_ _));refine blk_far ?_ NB223_191.out _;(with_reducible repeat (first|refine blk_drewN ?_ _|refine blk_drew ?_|refine blk_alloc ?_ _));exact BK223.out) k_ hk⟩));(case aO=>exact (by (with_reducible repeat (first|apply Kd.R_alloc|apply Kd.R_drewN|apply Kd.R_drew));exact Kd.R_mono (Kd.R_far (p:=⟨gb223,1,none⟩) (Kd.R_far (p:=⟨gb191,2,none⟩) (Kd.R_far (p:=⟨gb191,1,none⟩) (Kd.R_far (p:=⟨gb191,0,none⟩) (Kd.R_mono (Kd.R_types HO_193016.out BK191.out (by decide)) (fun k_ hk=>(⟨hk,hk.1.2⟩ : _∧k_≠gb223))) (fun _ hk=>hk.1.2) (.string t228)) (fun _ hk=>hk.1.2) (.int .i64 t229)) (fun _ hk=>hk.1.2) (.int .i64 t230)) (fun _ hk=>hk.2) (.int .u64 t231)) (fun _ hk=>⟨hk.1.1.1,hk.1.1.2⟩)));(case aS=>exact (below_size (by repeat (first|(with_reducible first|exact HB.out|apply below_alloc|apply pw_below_drewN|apply below_drew1|refine below_set ?_ GE191.out|refine below_set ?_ GE192.out|refine below_set ?_ GE193.out|refine below_set ?_ GE194.out|refine below_set ?_ GE223.out)|exact HB.out))));(case aL=>have:=LMc72.out;omega);intro v233 w92 ho hb hg hat;rw [← Ny232.out] at ho;have n0_:=Aside0.mk (Kd.R_over' (by (with_reducible repeat (first|apply Kd.R_alloc|apply Kd.R_drewN|apply Kd.R_drew));exact (Kd.R_mono (Kd.R_mono (Kd.R_far (p:=⟨gb223,1,none⟩) (Kd.R_far (p:=⟨gb191,2,none⟩) (Kd.R_far (p:=⟨gb191,1,none⟩) (Kd.R_far (p:=⟨gb191,0,none⟩) (Kd.R_types (Kd.R_types HO_193015.out BK191.out (by decide)) BK223.out (by decide)) (fun _ hk=>hk.1.2) (.string t228)) (fun _ hk=>hk.1.2) (.int .i64 t229)) (fun _ hk=>hk.1.2) (.int .i64 t230)) (fun _ hk=>hk.2) (.int .u64 t231)) (fun _ h_=>h_.1)) (fun _ h_=>h_.1))) (Kd.R_typed (by (with_reducible repeat (first|apply Kd.R_alloc|apply Kd.R_drewN|apply Kd.R_drew));exact (Kd.R_mono (Kd.R_mono (Kd.R_far (p:=⟨gb223,1,none⟩) (Kd.R_far (p:=⟨gb191,2,none⟩) (Kd.R_far (p:=⟨gb191,1,none⟩) (Kd.R_far (p:=⟨gb191,0,none⟩) (Kd.R_mono (Kd.R_types HO_193016.out BK191.out (by decide)) (fun k_ hk=>(⟨hk,hk.1.2⟩ : _∧k_≠gb223))) (fun _ hk=>hk.1.2) (.string t228)) (fun _ hk=>hk.1.2) (.int .i64 t229)) (fun _ hk=>hk.1.2) (.int .i64 t230)) (fun _ hk=>hk.2) (.int .u64 t231)) (fun _ h_=>h_.1)) (fun _ h_=>h_.1)))) (by decide) hg);have n1_:=Aside0.mk (blk_grown (g:=gb191) (o:=.cells #[.string t228,.int .i64 t229,.int .i64 t230] 81 (0,0)) (by (with_reducible repeat (first|refine blk_drewN ?_ _|refine blk_drew ?_|refine blk_alloc ?_ _));refine blk_far ?_ NB191_223.out _;(with_reducible repeat (first|refine blk_drewN ?_ _|refine blk_drew ?_|refine blk_alloc ?_ _));refine blk_put (cs:=#[.string t228,.int .i64 t229,.int .i64 t226]) ?_ 2 _ rfl;(with_reducible repeat (first|refine blk_drewN ?_ _|refine blk_drew ?_|refine blk_alloc ?_ _));refine blk_put (cs:=#[.string t228,.int .i64 t225,.int .i64 t226]) ?_ 1 _ rfl;(with_reducible repeat (first|refine blk_drewN ?_ _|refine blk_drew ?_|refine blk_alloc ?_ _));refine blk_put (cs:=#[.string t224,.int .i64 t225,.int .i64 t226]) ?_ 0 _ rfl;(with_reducible repeat (first|refine blk_drewN ?_ _|refine blk_drew ?_|refine blk_alloc ?_ _));exact BK191.out) hg (Kd.R_ne HO_193016.out BK191.out (by decide)));have n2_:=Aside0.mk (blk_grown (g:=gb192) (o:=.cells #[.int .i64 a1_0,.int .i64 a1_1,.int .u64 a1_2,.int .u64 a1_3,.int .u32 a1_4,.int .i64 a1_5,.int .i64 a1_6,.string a1_7,.string a1_8,.int .i64 a1_9,.int .i64 a1_10,.string a1_11,.int .u32 a1_12,.int .i64 a1_13,.bool a1_14,u193015,u193016] 47 (0,0)) (by (with_reducible repeat (first|refine blk_drewN ?_ _|refine blk_drew ?_|refine blk_alloc ?_ _));refine blk_far ?_ NB192_223.out _;(with_reducible repeat (first|refine blk_drewN ?_ _|refine blk_drew ?_|refine blk_alloc ?_ _));refine blk_far ?_ NB192_191.out _;(with_reducible repeat (first|refine blk_drewN ?_ _|refine blk_drew ?_|refine blk_alloc ?_ _));refine blk_far ?_ NB192_191.out _;(with_reducible repeat (first|refine blk_drewN ?_ _|refine blk_drew ?_|refine blk_alloc ?_ _));refine blk_far ?_ NB192_191.out _;(with_reducible repeat (first|refine blk_drewN ?_ _|refine blk_drew ?_|refine blk_alloc ?_ _));exact BK192.out) hg (Kd.R_ne HO_193016.out BK192.out (by decide)));have n3_:=Aside0.mk (blk_grown (g:=gb193) (o:=.cells #[.string (⟨#[]⟩ : ByteArray),.int .i64 0,.int .i64 0] 81 (0,0)) (by (with_reducible repeat (first|refine blk_drewN ?_ _|refine blk_drew ?_|refine blk_alloc ?_ _));refine blk_far ?_ NB193_223.out _;(with_reducible repeat (first|refine blk_drewN ?_ _|refine blk_drew ?_|refine blk_alloc ?_ _));refine blk_far ?_ NB193_191.out _;(with_reducible repeat (first|refine blk_drewN ?_ _|refine blk_drew ?_|refine blk_alloc ?_ _));refine blk_far ?_ NB193_191.out _;(with_reducible repeat (first|refine blk_drewN ?_ _|refine blk_drew ?_|refine blk_alloc ?_ _));refine blk_far ?_ NB193_191.out _;(with_reducible repeat (first|refine blk_drewN ?_ _|refine blk_drew ?_|refine blk_alloc ?_ _));exact BK193.out) hg (Kd.R_ne HO_193016.out BK193.out (by decide)));have n4_:=Aside0.mk (blk_grown (g:=gb194) (o:=.cells #[.int .i64 0,.int .i64 0,.int .u64 0,.int .u64 0,.int .u32 0,.int .i64 0,.int .i64 0,.string (⟨#[]⟩ : ByteArray),.string (⟨#[]⟩ : ByteArray),.int .i64 0,.int .i64 0,.string (⟨#[]⟩ : ByteArray),.int .u32 0,.int .i64 0,.bool false,.slice none 0 0,.slice none 0 0] 47 (0,0)) (by (with_reducible repeat (first|refine blk_drewN ?_ _|refine blk_drew ?_|refine blk_alloc ?_ _));refine blk_far ?_ NB194_223.out _;(with_reducible repeat (first|refine blk_drewN ?_ _|refine blk_drew ?_|refine blk_alloc ?_ _));refine blk_far ?_ NB194_191.out _;(with_reducible repeat (first|refine blk_drewN ?_ _|refine blk_drew ?_|refine blk_alloc ?_ _));refine blk_far ?_ NB194_191.out _;(with_reducible repeat (first|refine blk_drewN ?_ _|refine blk_drew ?_|refine blk_alloc ?_ _));refine blk_far ?_ NB194_191.out _;(with_reducible repeat (first|refine blk_drewN ?_ _|refine blk_drew ?_|refine blk_alloc ?_ _));exact BK194.out) hg (Kd.R_ne HO_193016.out BK194.out (by decide)));have n5_:=Aside0.mk (blk_grown (g:=gb223) (o:=.cells #[.int .u32 ((t227) % 4294967296),.int .u64 t231] 58 (0,0)) (by (with_reducible repeat (first|refine blk_drewN ?_ _|refine blk_drew ?_|refine blk_alloc ?_ _));refine blk_put (cs:=#[.int .u32 ((t227) % 4294967296),.int .u64 0]) ?_ 1 _ rfl;(with_reducible repeat (first|refine blk_drewN ?_ _|refine blk_drew ?_|refine blk_alloc ?_ _));refine blk_far ?_ NB223_191.out _;(with_reducible repeat (first|refine blk_drewN ?_ _|refine blk_drew ?_|refine blk_alloc ?_ _));refine blk_far ?_ NB223_191.out _;(with_reducible repeat (first|refine blk_drewN ?_ _|refine blk_drew ?_|refine blk_alloc ?_ _));refine blk_far ?_ NB223_191.out _;(with_reducible repeat (first|refine blk_drewN ?_ _|refine blk_drew ?_|refine blk_alloc ?_ _));exact BK223.out) hg (Kd.R_away HO_193016.out (fun _ hk=>hk.2)));have n6_:=Aside0.mk (hb);have n7_:=Aside0.mk (Kept.of_grown (S:=(fun k_=>P1_15_ k_ ∨ P1_16_ k_)) hg (by repeat (first|(with_reducible first|exact HK.out|apply Kept.alloc|apply Kept.drewN|apply Kept.drew|refine Kept.setCell ?_ (.inr GW191.out) _|refine Kept.setCell ?_ (.inr GW192.out) _|refine Kept.setCell ?_ (.inr GW193.out) _|refine Kept.setCell ?_ (.inr GW194.out) _|refine Kept.setCell ?_ (.inr GW223.out) _)|exact HK.out)) (fun k_ e_=>(HO_193016.out.1 k_ e_).1));have n8_:=Aside0.mk (ho);clear HO_193015;clear BK191;clear BK192;clear BK193;clear BK194;clear BK223;clear HB;clear HK;clear HO_193016;have HO_193015:=n0_;have BK191:=n1_;have BK192:=n2_;have BK193:=n3_;have BK194:=n4_;have BK223:=n5_;have HB:=n6_;have HK:=n7_;have HO234:=n8_;clear n0_ n1_ n2_ n3_ n4_ n5_ n6_ n7_ n8_;clear ho hb hg hat;obtain ⟨Ao93,co93,eo93⟩:=Kd.R_slice HO234.out;subst eo93;have hcz94_0 : w92.cell? ⟨gb192,0,none⟩=some (.int .i64 a1_0):=(blk_cell BK192.out 0).trans rfl;have hcz94_1 : w92.cell? ⟨gb192,1,none⟩=some (.int .i64 a1_1):=(blk_cell BK192.out 1).trans rfl;have hcz94_2 : w92.cell? ⟨gb192,2,none⟩=some (.int .u64 a1_2):=(blk_cell BK192.out 2).trans rfl;have hcz94_3 : w92.cell? ⟨gb192,3,none⟩=some (.int .u64 a1_3):=(blk_cell BK192.out 3).trans rfl;have hcz94_4 : w92.cell? ⟨gb192,4,none⟩=some (.int .u32 a1_4):=(blk_cell BK192.out 4).trans rfl;have hcz94_5 : w92.cell? ⟨gb192,5,none⟩=some (.int .i64 a1_5):=(blk_cell BK192.out 5).trans rfl;have hcz94_6 : w92.cell? ⟨gb192,6,none⟩=some (.int .i64 a1_6):=(blk_cell BK192.out 6).trans rfl;have hcz94_7 : w92.cell? ⟨gb192,7,none⟩=some (.string a1_7):=(blk_cell BK192.out 7).trans rfl;have hcz94_8 : w92.cell? ⟨gb192,8,none⟩=some (.string a1_8):=(blk_cell BK192.out 8).trans rfl;have hcz94_9 : w92.cell? ⟨gb192,9,none⟩=some (.int .i64 a1_9):=(blk_cell BK192.out 9).trans rfl;have hcz94_10 : w92.cell? ⟨gb192,10,none⟩=some (.int .i64 a1_10):=(blk_cell BK192.out 10).trans rfl;have hcz94_11 : w92.cell? ⟨gb192,11,none⟩=some (.string a1_11):=(blk_cell BK192.out 11).trans rfl;have hcz94_12 : w92.cell? ⟨gb192,12,none⟩=some (.int .u32 a1_12):=(blk_cell BK192.out 12).trans rfl;have hcz94_13 : w92.cell? ⟨gb192,13,none⟩=some (.int .i64 a1_13):=(blk_cell BK192.out 13).trans rfl;have hcz94_14 : w92.cell? ⟨gb192,14,none⟩=some (.bool a1_14):=(blk_cell BK192.out 14).trans rfl;have hcz94_15 : w92.cell? ⟨gb192,15,none⟩=some (u193015):=(blk_cell BK192.out 15).trans rfl;have hcz94_16 : w92.cell? ⟨gb192,16,none⟩=some (u193016):=(blk_cell BK192.out 16).trans rfl;have hfz94_0:=blk_frozen BK192.out 0;have hfz94_1:=blk_frozen BK192.out 1;have hfz94_2:=blk_frozen BK192.out 2;have hfz94_3:=blk_frozen BK192.out 3;have hfz94_4:=blk_frozen BK192.out 4;have hfz94_5:=blk_frozen BK192.out 5;have hfz94_6:=blk_frozen BK192.out 6;have hfz94_7:=blk_frozen BK192.out 7;have hfz94_8:=blk_frozen BK192.out 8;have hfz94_9:=blk_frozen BK192.out 9;have hfz94_10:=blk_frozen BK192.out 10;have hfz94_11:=blk_frozen BK192.out 11;have hfz94_12:=blk_frozen BK192.out 12;have hfz94_13:=blk_frozen BK192.out 13;have hfz94_14:=blk_frozen BK192.out 14;have hfz94_15:=blk_frozen BK192.out 15;have hfz94_16:=blk_frozen BK192.out 16))
            go_roundg kj62
            case measure=>have:=HK1.out;have:=HJ15.out;have:=HK3.out;have:=HJ62.out;omega
            case rel=>exact ⟨(IntKind.u64.wrap (x10_3 + 1)),(t228),(t229),(t230),(y232),(.slice Ao93 y232.length co93),(by first|rfl|(simp;done)|(simp [*];done)),H',⟨by have:=HK1.out;have:=HJ15.out;have:=HK3.out;have:=HJ62.out;omega⟩,⟨by (with_reducible repeat (first|apply Kd.R_alloc|apply Kd.R_drewN|apply Kd.R_drew));exact Kd.R_mono (Kd.R_far (p:=⟨gb192,16,none⟩) (Kd.R_types HO_193015.out BK192.out (by decide)) (fun _ hk=>hk.2) (.slice Ao93 y232.length co93)) (fun _ hk=>hk.1)⟩,⟨by (with_reducible repeat (first|apply Kd.R_alloc|apply Kd.R_drewN|apply Kd.R_drew));exact Kd.R_mono (Kd.R_far (p:=⟨gb192,16,none⟩) (Kd.R_types HO234.out BK192.out (by decide)) (fun _ hk=>hk.2) (.slice Ao93 y232.length co93)) (fun _ hk=>hk.1.1)⟩,⟨by (with_reducible repeat (first|refine blk_drewN ?_ _|refine blk_drew ?_|refine blk_alloc ?_ _));refine blk_far ?_ NB191_192.out _;(with_reducible repeat (first|refine blk_drewN ?_ _|refine blk_drew ?_|refine blk_alloc ?_ _));exact BK191.out⟩,⟨by (with_reducible repeat (first|refine blk_drewN ?_ _|refine blk_drew ?_|refine blk_alloc ?_ _));refine blk_put (cs:=#[.int .i64 a1_0,.int .i64 a1_1,.int .u64 a1_2,.int .u64 a1_3,.int .u32 a1_4,.int .i64 a1_5,.int .i64 a1_6,.string a1_7,.string a1_8,.int .i64 a1_9,.int .i64 a1_10,.string a1_11,.int .u32 a1_12,.int .i64 a1_13,.bool a1_14,u193015,u193016]) ?_ 16 _ rfl;(with_reducible repeat (first|refine blk_drewN ?_ _|refine blk_drew ?_|refine blk_alloc ?_ _));exact BK192.out⟩,⟨by (with_reducible repeat (first|refine blk_drewN ?_ _|refine blk_drew ?_|refine blk_alloc ?_ _));refine blk_far ?_ NB193_192.out _;(with_reducible repeat (first|refine blk_drewN ?_ _|refine blk_drew ?_|refine blk_alloc ?_ _));exact BK193.out⟩,⟨by (with_reducible repeat (first|refine blk_drewN ?_ _|refine blk_drew ?_|refine blk_alloc ?_ _));refine blk_far ?_ NB194_192.out _;(with_reducible repeat (first|refine blk_drewN ?_ _|refine blk_drew ?_|refine blk_alloc ?_ _));exact BK194.out⟩,⟨by repeat (first|(with_reducible first|exact HK.out|apply Kept.alloc|apply Kept.drewN|apply Kept.drew|refine Kept.setCell ?_ (.inr GW191.out) _|refine Kept.setCell ?_ (.inr GW192.out) _|refine Kept.setCell ?_ (.inr GW193.out) _|refine Kept.setCell ?_ (.inr GW194.out) _|refine Kept.setCell ?_ (.inr GW223.out) _)|exact HK.out)⟩,⟨by repeat (first|(with_reducible first|exact HB.out|apply below_alloc|apply pw_below_drewN|apply below_drew1|refine below_set ?_ GE191.out|refine below_set ?_ GE192.out|refine below_set ?_ GE193.out|refine below_set ?_ GE194.out|refine below_set ?_ GE223.out)|exact HB.out)⟩⟩
           ·rw [if_neg c72] at H
            exact absurd H (by simp)
          ·replace c69:=Bool.eq_false_iff.mpr c69
           subst c69
           have H1 : (some (x192000_3,x192001_3,x192002_3,a1_0,a1_1,a1_2,a1_3,a1_4,a1_5,a1_6,a1_7,a1_8,a1_9,a1_10,a1_11,a1_12,a1_13,a1_14,x193015_1,x193016_3))=some (r1,r2,r3,r4,r5,r6,r7,r8,r9,r10,r11,r12,r13,r14,r15,r16,r17,r18,r19,r20):=by rw [if_neg (show ¬ (false=true) by decide)] at H;exact H
           clear H
           have H:=H1
           clear H1
           simp only [Option.some.injEq,Prod.mk.injEq] at H
           obtain ⟨rfl,rfl,rfl,rfl,rfl,rfl,rfl,rfl,rfl,rfl,rfl,rfl,rfl,rfl,rfl,rfl,rfl,rfl,rfl,rfl⟩:=H
           try go_wp2
           have n0_:=Aside0.mk (Kd.R_drew HO_193015.out)
           have n1_:=Aside0.mk (Kd.R_drew HO_193016.out)
           have n2_:=Aside0.mk (blk_drew BK191.out)
           have n3_:=Aside0.mk (blk_drew BK192.out)
           have n4_:=Aside0.mk (blk_drew BK193.out)
           have n5_:=Aside0.mk (blk_drew BK194.out)
           have n6_:=Aside0.mk (Kept.drew HK.out)
           have n7_:=Aside0.mk (below_drew1 HB.out)
           clear HO_193015
           clear HO_193016
           clear BK191
           clear BK192
           clear BK193
           clear BK194
           clear HK
           clear HB
           have HO_193015:=n0_
           have HO_193016:=n1_
           have BK191:=n2_
           have BK192:=n3_
           have BK193:=n4_
           have BK194:=n5_
           have HK:=n6_
           have HB:=n7_
           clear n0_ n1_ n2_ n3_ n4_ n5_ n6_ n7_
           obtain ⟨Ao114,co114,eo114⟩:=Kd.R_slice HO_193015.out
           (first|subst eo114|(injection eo114 with f1_ f2_ f3_;have f4_:=f1_.symm;have f5_:=f3_.symm;clear f1_ f2_ f3_;subst f4_;subst f5_))
           obtain ⟨Ao116,co116,eo116⟩:=Kd.R_slice HO_193016.out
           (first|subst eo116|(injection eo116 with f1_ f2_ f3_;have f4_:=f1_.symm;have f5_:=f3_.symm;clear f1_ f2_ f3_;subst f4_;subst f5_))
           refine start_ (n:=4) (S:=fun w'=>w'.cell? ⟨gb191,0,none⟩=some (.string x192000_3)∧w'.cell? ⟨gb191,1,none⟩=some (.int .i64 x192001_3)∧w'.cell? ⟨gb191,2,none⟩=some (.int .i64 x192002_3)∧w'.cell? ⟨gb192,0,none⟩=some (.int .i64 a1_0)∧w'.cell? ⟨gb192,1,none⟩=some (.int .i64 a1_1)∧w'.cell? ⟨gb192,2,none⟩=some (.int .u64 a1_2)∧w'.cell? ⟨gb192,3,none⟩=some (.int .u64 a1_3)∧w'.cell? ⟨gb192,4,none⟩=some (.int .u32 a1_4)∧w'.cell? ⟨gb192,5,none⟩=some (.int .i64 a1_5)∧w'.cell? ⟨gb192,6,none⟩=some (.int .i64 a1_6)∧w'.cell? ⟨gb192,7,none⟩=some (.string a1_7)∧w'.cell? ⟨gb192,8,none⟩=some (.string a1_8)∧w'.cell? ⟨gb192,9,none⟩=some (.int .i64 a1_9)∧w'.cell? ⟨gb192,10,none⟩=some (.int .i64 a1_10)∧w'.cell? ⟨gb192,11,none⟩=some (.string a1_11)∧w'.cell? ⟨gb192,12,none⟩=some (.int .u32 a1_12)∧w'.cell? ⟨gb192,13,none⟩=some (.int .i64 a1_13)∧w'.cell? ⟨gb192,14,none⟩=some (.bool a1_14)∧w'.cell? ⟨gb192,15,none⟩=some (.slice Ao114 x193015_1.length co114)∧w'.cell? ⟨gb192,16,none⟩=some (.slice Ao116 x193016_3.length co116)) (ds:=[]) #[false,false,false,false] (by kernel_rfl) rfl rfl ⟨(blk_cell BK191.out 0).trans rfl,(blk_cell BK191.out 1).trans rfl,(blk_cell BK191.out 2).trans rfl,(blk_cell BK192.out 0).trans rfl,(blk_cell BK192.out 1).trans rfl,(blk_cell BK192.out 2).trans rfl,(blk_cell BK192.out 3).trans rfl,(blk_cell BK192.out 4).trans rfl,(blk_cell BK192.out 5).trans rfl,(blk_cell BK192.out 6).trans rfl,(blk_cell BK192.out 7).trans rfl,(blk_cell BK192.out 8).trans rfl,(blk_cell BK192.out 9).trans rfl,(blk_cell BK192.out 10).trans rfl,(blk_cell BK192.out 11).trans rfl,(blk_cell BK192.out 12).trans rfl,(blk_cell BK192.out 13).trans rfl,(blk_cell BK192.out 14).trans rfl,(blk_cell BK192.out 15).trans rfl,(blk_cell BK192.out 16).trans rfl⟩ (fun hHeld=>?_)
           generalize wc.drew=w95 at HO_193015 HO_193016 BK191 BK192 BK193 BK194 HK HB hHeld ⊢
           refine take_ (i:=0) (N:=some 99) (v:=?_) (a':=?_) #[true,false,false,false] rfl rfl (by kernel_rfl) (fun _ _ _ h=>h) (Or.inl ⟨by rfl,?_⟩) hHeld ?_ ?_;rotate_left;(focus (rintro w' ⟨s0,s1,s2,s3,s4,s5,s6,s7,s8,s9,s10,s11,s12,s13,s14,s15,s16,s17,s18,s19⟩;go_simp;with_reducible rfl));rotate_left;(focus (simp only [Act.put,sA_,sB_,sC_,i64_w,i32_w];rfl))
           refine take_ (i:=1) (N:=some 100) (v:=?_) (a':=?_) #[true,true,false,false] rfl rfl (by kernel_rfl) (fun _ _ _ h=>h) (Or.inl ⟨by rfl,?_⟩) hHeld ?_ ?_;rotate_left;(focus (rintro w' ⟨s0,s1,s2,s3,s4,s5,s6,s7,s8,s9,s10,s11,s12,s13,s14,s15,s16,s17,s18,s19⟩;go_simp;with_reducible rfl));rotate_left;(focus (simp only [Act.put,sA_,sB_,sC_,i64_w,i32_w];rfl))
           refine one_ (i:=2) (N:=none) #[true,true,true,false] rfl rfl (by kernel_rfl) (by decide) (fun K hK=>?_)
           have hs96 : w95.cell? ⟨gb193,0,none⟩=some (.string (⟨#[]⟩ : ByteArray)):=(blk_cell BK193.out 0).trans rfl
           have hfs96:=blk_frozen BK193.out 0
           have hns96_0:=NB191_193.out
           have hns96_1:=NB192_193.out
           have hns96_3:=NB194_193.out
           have hms96_0:=NB193_191.out
           have hms96_1:=NB193_192.out
           have hms96_3:=NB193_194.out
           have hs97 : w95.cell? ⟨gb193,1,none⟩=some (.int .i64 0):=(blk_cell BK193.out 1).trans rfl
           have hfs97:=blk_frozen BK193.out 1
           have hns97_0:=NB191_193.out
           have hns97_1:=NB192_193.out
           have hns97_3:=NB194_193.out
           have hms97_0:=NB193_191.out
           have hms97_1:=NB193_192.out
           have hms97_3:=NB193_194.out
           have hs98 : w95.cell? ⟨gb193,2,none⟩=some (.int .i64 0):=(blk_cell BK193.out 2).trans rfl
           have hfs98:=blk_frozen BK193.out 2
           have hns98_0:=NB191_193.out
           have hns98_1:=NB192_193.out
           have hns98_3:=NB194_193.out
           have hms98_0:=NB193_191.out
           have hms98_1:=NB193_192.out
           have hms98_3:=NB193_194.out
           refine skip_ (w1:=?_) (by rfl) rfl ?_ ?_
           rotate_left
           ·go_simp
            rfl
           refine hK.out _ _ ⟨((cell_far (p:=⟨gb193,_,none⟩) NB191_193.out _).trans (((cell_far (p:=⟨gb193,_,none⟩) NB191_193.out _).trans (((cell_far (p:=⟨gb193,_,none⟩) NB191_193.out _).trans (hHeld.1)))))),((cell_far (p:=⟨gb193,_,none⟩) NB191_193.out _).trans (((cell_far (p:=⟨gb193,_,none⟩) NB191_193.out _).trans (((cell_far (p:=⟨gb193,_,none⟩) NB191_193.out _).trans (hHeld.2.1)))))),((cell_far (p:=⟨gb193,_,none⟩) NB191_193.out _).trans (((cell_far (p:=⟨gb193,_,none⟩) NB191_193.out _).trans (((cell_far (p:=⟨gb193,_,none⟩) NB191_193.out _).trans (hHeld.2.2.1)))))),((cell_far (p:=⟨gb193,_,none⟩) NB192_193.out _).trans (((cell_far (p:=⟨gb193,_,none⟩) NB192_193.out _).trans (((cell_far (p:=⟨gb193,_,none⟩) NB192_193.out _).trans (hHeld.2.2.2.1)))))),((cell_far (p:=⟨gb193,_,none⟩) NB192_193.out _).trans (((cell_far (p:=⟨gb193,_,none⟩) NB192_193.out _).trans (((cell_far (p:=⟨gb193,_,none⟩) NB192_193.out _).trans (hHeld.2.2.2.2.1)))))),((cell_far (p:=⟨gb193,_,none⟩) NB192_193.out _).trans (((cell_far (p:=⟨gb193,_,none⟩) NB192_193.out _).trans (((cell_far (p:=⟨gb193,_,none⟩) NB192_193.out _).trans (hHeld.2.2.2.2.2.1)))))),((cell_far (p:=⟨gb193,_,none⟩) NB192_193.out _).trans (((cell_far (p:=⟨gb193,_,none⟩) NB192_193.out _).trans (((cell_far (p:=⟨gb193,_,none⟩) NB192_193.out _).trans (hHeld.2.2.2.2.2.2.1)))))),((cell_far (p:=⟨gb193,_,none⟩) NB192_193.out _).trans (((cell_far (p:=⟨gb193,_,none⟩) NB192_193.out _).trans (((cell_far (p:=⟨gb193,_,none⟩) NB192_193.out _).trans (hHeld.2.2.2.2.2.2.2.1)))))),((cell_far (p:=⟨gb193,_,none⟩) NB192_193.out _).trans (((cell_far (p:=⟨gb193,_,none⟩) NB192_193.out _).trans (((cell_far (p:=⟨gb193,_,none⟩) NB192_193.out _).trans (hHeld.2.2.2.2.2.2.2.2.1)))))),((cell_far (p:=⟨gb193,_,none⟩) NB192_193.out _).trans (((cell_far (p:=⟨gb193,_,none⟩) NB192_193.out _).trans (((cell_far (p:=⟨gb193,_,none⟩) NB192_193.out _).trans (hHeld.2.2.2.2.2.2.2.2.2.1)))))),((cell_far (p:=⟨gb193,_,none⟩) NB192_193.out _).trans (((cell_far (p:=⟨gb193,_,none⟩) NB192_193.out _).trans (((cell_far (p:=⟨gb193,_,none⟩) NB192_193.out _).trans (hHeld.2.2.2.2.2.2.2.2.2.2.1)))))),((cell_far (p:=⟨gb193,_,none⟩) NB192_193.out _).trans (((cell_far (p:=⟨gb193,_,none⟩) NB192_193.out _).trans (((cell_far (p:=⟨gb193,_,none⟩) NB192_193.out _).trans (hHeld.2.2.2.2.2.2.2.2.2.2.2.1)))))),((cell_far (p:=⟨gb193,_,none⟩) NB192_193.out _).trans (((cell_far (p:=⟨gb193,_,none⟩) NB192_193.out _).trans (((cell_far (p:=⟨gb193,_,none⟩) NB192_193.out _).trans (hHeld.2.2.2.2.2.2.2.2.2.2.2.2.1)))))),((cell_far (p:=⟨gb193,_,none⟩) NB192_193.out _).trans (((cell_far (p:=⟨gb193,_,none⟩) NB192_193.out _).trans (((cell_far (p:=⟨gb193,_,none⟩) NB192_193.out _).trans (hHeld.2.2.2.2.2.2.2.2.2.2.2.2.2.1)))))),((cell_far (p:=⟨gb193,_,none⟩) NB192_193.out _).trans (((cell_far (p:=⟨gb193,_,none⟩) NB192_193.out _).trans (((cell_far (p:=⟨gb193,_,none⟩) NB192_193.out _).trans (hHeld.2.2.2.2.2.2.2.2.2.2.2.2.2.2.1)))))),((cell_far (p:=⟨gb193,_,none⟩) NB192_193.out _).trans (((cell_far (p:=⟨gb193,_,none⟩) NB192_193.out _).trans (((cell_far (p:=⟨gb193,_,none⟩) NB192_193.out _).trans (hHeld.2.2.2.2.2.2.2.2.2.2.2.2.2.2.2.1)))))),((cell_far (p:=⟨gb193,_,none⟩) NB192_193.out _).trans (((cell_far (p:=⟨gb193,_,none⟩) NB192_193.out _).trans (((cell_far (p:=⟨gb193,_,none⟩) NB192_193.out _).trans (hHeld.2.2.2.2.2.2.2.2.2.2.2.2.2.2.2.2.1)))))),((cell_far (p:=⟨gb193,_,none⟩) NB192_193.out _).trans (((cell_far (p:=⟨gb193,_,none⟩) NB192_193.out _).trans (((cell_far (p:=⟨gb193,_,none⟩) NB192_193.out _).trans (hHeld.2.2.2.2.2.2.2.2.2.2.2.2.2.2.2.2.2.1)))))),((cell_far (p:=⟨gb193,_,none⟩) NB192_193.out _).trans (((cell_far (p:=⟨gb193,_,none⟩) NB192_193.out _).trans (((cell_far (p:=⟨gb193,_,none⟩) NB192_193.out _).trans (hHeld.2.2.2.2.2.2.2.2.2.2.2.2.2.2.2.2.2.2.1)))))),((cell_far (p:=⟨gb193,_,none⟩) NB192_193.out _).trans (((cell_far (p:=⟨gb193,_,none⟩) NB192_193.out _).trans (((cell_far (p:=⟨gb193,_,none⟩) NB192_193.out _).trans (hHeld.2.2.2.2.2.2.2.2.2.2.2.2.2.2.2.2.2.2.2))))))⟩ (fun hHeld=>?_)
           clear hK K
           refine one_ (i:=3) (N:=none) #[true,true,true,true] rfl rfl (by kernel_rfl) (by decide) (fun K hK=>?_)
           have hs99 : w95.cell? ⟨gb194,0,none⟩=some (.int .i64 0):=(blk_cell BK194.out 0).trans rfl
           have hfs99:=blk_frozen BK194.out 0
           have hns99_0:=NB191_194.out
           have hns99_1:=NB192_194.out
           have hns99_2:=NB193_194.out
           have hms99_0:=NB194_191.out
           have hms99_1:=NB194_192.out
           have hms99_2:=NB194_193.out
           have hs100 : w95.cell? ⟨gb194,1,none⟩=some (.int .i64 0):=(blk_cell BK194.out 1).trans rfl
           have hfs100:=blk_frozen BK194.out 1
           have hns100_0:=NB191_194.out
           have hns100_1:=NB192_194.out
           have hns100_2:=NB193_194.out
           have hms100_0:=NB194_191.out
           have hms100_1:=NB194_192.out
           have hms100_2:=NB194_193.out
           have hs101 : w95.cell? ⟨gb194,2,none⟩=some (.int .u64 0):=(blk_cell BK194.out 2).trans rfl
           have hfs101:=blk_frozen BK194.out 2
           have hns101_0:=NB191_194.out
           have hns101_1:=NB192_194.out
           have hns101_2:=NB193_194.out
           have hms101_0:=NB194_191.out
           have hms101_1:=NB194_192.out
           have hms101_2:=NB194_193.out
           have hs102 : w95.cell? ⟨gb194,3,none⟩=some (.int .u64 0):=(blk_cell BK194.out 3).trans rfl
           have hfs102:=blk_frozen BK194.out 3
           have hns102_0:=NB191_194.out
           have hns102_1:=NB192_194.out
           have hns102_2:=NB193_194.out
           have hms102_0:=NB194_191.out
           have hms102_1:=NB194_192.out
           have hms102_2:=NB194_193.out
           have hs103 : w95.cell? ⟨gb194,4,none⟩=some (.int .u32 0):=(blk_cell BK194.out 4).trans rfl
           have hfs103:=blk_frozen BK194.out 4
           have hns103_0:=NB191_194.out
           have hns103_1:=NB192_194.out
           have hns103_2:=NB193_194.out
           have hms103_0:=NB194_191.out
           have hms103_1:=NB194_192.out
           have hms103_2:=NB194_193.out
           have hs104 : w95.cell? ⟨gb194,5,none⟩=some (.int .i64 0):=(blk_cell BK194.out 5).trans rfl
           have hfs104:=blk_frozen BK194.out 5
           have hns104_0:=NB191_194.out
           have hns104_1:=NB192_194.out
           have hns104_2:=NB193_194.out
           have hms104_0:=NB194_191.out
           have hms104_1:=NB194_192.out
           have hms104_2:=NB194_193.out
           have hs105 : w95.cell? ⟨gb194,6,none⟩=some (.int .i64 0):=(blk_cell BK194.out 6).trans rfl
           have hfs105:=blk_frozen BK194.out 6
           have hns105_0:=NB191_194.out
           have hns105_1:=NB192_194.out
           have hns105_2:=NB193_194.out
           have hms105_0:=NB194_191.out
           have hms105_1:=NB194_192.out
           have hms105_2:=NB194_193.out
           have hs106 : w95.cell? ⟨gb194,7,none⟩=some (.string (⟨#[]⟩ : ByteArray)):=(blk_cell BK194.out 7).trans rfl
           have hfs106:=blk_frozen BK194.out 7
           have hns106_0:=NB191_194.out
           have hns106_1:=NB192_194.out
           have hns106_2:=NB193_194.out
           have hms106_0:=NB194_191.out
           have hms106_1:=NB194_192.out
           have hms106_2:=NB194_193.out
           have hs107 : w95.cell? ⟨gb194,8,none⟩=some (.string (⟨#[]⟩ : ByteArray)):=(blk_cell BK194.out 8).trans rfl
           have hfs107:=blk_frozen BK194.out 8
           have hns107_0:=NB191_194.out
           have hns107_1:=NB192_194.out
           have hns107_2:=NB193_194.out
           have hms107_0:=NB194_191.out
           have hms107_1:=NB194_192.out
           have hms107_2:=NB194_193.out
           have hs108 : w95.cell? ⟨gb194,9,none⟩=some (.int .i64 0):=(blk_cell BK194.out 9).trans rfl
           have hfs108:=blk_frozen BK194.out 9
           have hns108_0:=NB191_194.out
           have hns108_1:=NB192_194.out
           have hns108_2:=NB193_194.out
           have hms108_0:=NB194_191.out
           have hms108_1:=NB194_192.out
           have hms108_2:=NB194_193.out
           have hs109 : w95.cell? ⟨gb194,10,none⟩=some (.int .i64 0):=(blk_cell BK194.out 10).trans rfl
           have hfs109:=blk_frozen BK194.out 10
           have hns109_0:=NB191_194.out
           have hns109_1:=NB192_194.out
           have hns109_2:=NB193_194.out
           have hms109_0:=NB194_191.out
           have hms109_1:=NB194_192.out
           have hms109_2:=NB194_193.out
           have hs110 : w95.cell? ⟨gb194,11,none⟩=some (.string (⟨#[]⟩ : ByteArray)):=(blk_cell BK194.out 11).trans rfl
           have hfs110:=blk_frozen BK194.out 11
           have hns110_0:=NB191_194.out
           have hns110_1:=NB192_194.out
           have hns110_2:=NB193_194.out
           have hms110_0:=NB194_191.out
           have hms110_1:=NB194_192.out
           have hms110_2:=NB194_193.out
           have hs111 : w95.cell? ⟨gb194,12,none⟩=some (.int .u32 0):=(blk_cell BK194.out 12).trans rfl
           have hfs111:=blk_frozen BK194.out 12
           have hns111_0:=NB191_194.out
           have hns111_1:=NB192_194.out
           have hns111_2:=NB193_194.out
           have hms111_0:=NB194_191.out
           have hms111_1:=NB194_192.out
           have hms111_2:=NB194_193.out
           have hs112 : w95.cell? ⟨gb194,13,none⟩=some (.int .i64 0):=(blk_cell BK194.out 13).trans rfl
           have hfs112:=blk_frozen BK194.out 13
           have hns112_0:=NB191_194.out
           have hns112_1:=NB192_194.out
           have hns112_2:=NB193_194.out
           have hms112_0:=NB194_191.out
           have hms112_1:=NB194_192.out
           have hms112_2:=NB194_193.out
           have hs113 : w95.cell? ⟨gb194,14,none⟩=some (.bool false):=(blk_cell BK194.out 14).trans rfl
           have hfs113:=blk_frozen BK194.out 14
           have hns113_0:=NB191_194.out
           have hns113_1:=NB192_194.out
           have hns113_2:=NB193_194.out
           have hms113_0:=NB194_191.out
           have hms113_1:=NB194_192.out
           have hms113_2:=NB194_193.out
           have hs115 : w95.cell? ⟨gb194,15,none⟩=some (.slice none 0 0):=(blk_cell BK194.out 15).trans rfl
           have hfs115:=blk_frozen BK194.out 15
           have hns115_0:=NB191_194.out
           have hns115_1:=NB192_194.out
           have hns115_2:=NB193_194.out
           have hms115_0:=NB194_191.out
           have hms115_1:=NB194_192.out
           have hms115_2:=NB194_193.out
           have hs117 : w95.cell? ⟨gb194,16,none⟩=some (.slice none 0 0):=(blk_cell BK194.out 16).trans rfl
           have hfs117:=blk_frozen BK194.out 16
           have hns117_0:=NB191_194.out
           have hns117_1:=NB192_194.out
           have hns117_2:=NB193_194.out
           have hms117_0:=NB194_191.out
           have hms117_1:=NB194_192.out
           have hms117_2:=NB194_193.out
           refine skip_ (w1:=?_) (by rfl) rfl ?_ ?_
           rotate_left
           ·go_simp
            rfl
           refine hK.out _ _ ⟨((cell_far (p:=⟨gb194,_,none⟩) NB191_194.out _).trans (((cell_far (p:=⟨gb194,_,none⟩) NB191_194.out _).trans (((cell_far (p:=⟨gb194,_,none⟩) NB191_194.out _).trans (((cell_far (p:=⟨gb194,_,none⟩) NB191_194.out _).trans (((cell_far (p:=⟨gb194,_,none⟩) NB191_194.out _).trans (((cell_far (p:=⟨gb194,_,none⟩) NB191_194.out _).trans (((cell_far (p:=⟨gb194,_,none⟩) NB191_194.out _).trans (((cell_far (p:=⟨gb194,_,none⟩) NB191_194.out _).trans (((cell_far (p:=⟨gb194,_,none⟩) NB191_194.out _).trans (((cell_far (p:=⟨gb194,_,none⟩) NB191_194.out _).trans (((cell_far (p:=⟨gb194,_,none⟩) NB191_194.out _).trans (((cell_far (p:=⟨gb194,_,none⟩) NB191_194.out _).trans (((cell_far (p:=⟨gb194,_,none⟩) NB191_194.out _).trans (((cell_far (p:=⟨gb194,_,none⟩) NB191_194.out _).trans (((cell_far (p:=⟨gb194,_,none⟩) NB191_194.out _).trans (((cell_far (p:=⟨gb194,_,none⟩) NB191_194.out _).trans (((cell_far (p:=⟨gb194,_,none⟩) NB191_194.out _).trans (hHeld.1)))))))))))))))))))))))))))))))))),((cell_far (p:=⟨gb194,_,none⟩) NB191_194.out _).trans (((cell_far (p:=⟨gb194,_,none⟩) NB191_194.out _).trans (((cell_far (p:=⟨gb194,_,none⟩) NB191_194.out _).trans (((cell_far (p:=⟨gb194,_,none⟩) NB191_194.out _).trans (((cell_far (p:=⟨gb194,_,none⟩) NB191_194.out _).trans (((cell_far (p:=⟨gb194,_,none⟩) NB191_194.out _).trans (((cell_far (p:=⟨gb194,_,none⟩) NB191_194.out _).trans (((cell_far (p:=⟨gb194,_,none⟩) NB191_194.out _).trans (((cell_far (p:=⟨gb194,_,none⟩) NB191_194.out _).trans (((cell_far (p:=⟨gb194,_,none⟩) NB191_194.out _).trans (((cell_far (p:=⟨gb194,_,none⟩) NB191_194.out _).trans (((cell_far (p:=⟨gb194,_,none⟩) NB191_194.out _).trans (((cell_far (p:=⟨gb194,_,none⟩) NB191_194.out _).trans (((cell_far (p:=⟨gb194,_,none⟩) NB191_194.out _).trans (((cell_far (p:=⟨gb194,_,none⟩) NB191_194.out _).trans (((cell_far (p:=⟨gb194,_,none⟩) NB191_194.out _).trans (((cell_far (p:=⟨gb194,_,none⟩) NB191_194.out _).trans (hHeld.2.1)))))))))))))))))))))))))))))))))),((cell_far (p:=⟨gb194,_,none⟩) NB191_194.out _).trans (((cell_far (p:=⟨gb194,_,none⟩) NB191_194.out _).trans (((cell_far (p:=⟨gb194,_,none⟩) NB191_194.out _).trans (((cell_far (p:=⟨gb194,_,none⟩) NB191_194.out _).trans (((cell_far (p:=⟨gb194,_,none⟩) NB191_194.out _).trans (((cell_far (p:=⟨gb194,_,none⟩) NB191_194.out _).trans (((cell_far (p:=⟨gb194,_,none⟩) NB191_194.out _).trans (((cell_far (p:=⟨gb194,_,none⟩) NB191_194.out _).trans (((cell_far (p:=⟨gb194,_,none⟩) NB191_194.out _).trans (((cell_far (p:=⟨gb194,_,none⟩) NB191_194.out _).trans (((cell_far (p:=⟨gb194,_,none⟩) NB191_194.out _).trans (((cell_far (p:=⟨gb194,_,none⟩) NB191_194.out _).trans (((cell_far (p:=⟨gb194,_,none⟩) NB191_194.out _).trans (((cell_far (p:=⟨gb194,_,none⟩) NB191_194.out _).trans (((cell_far (p:=⟨gb194,_,none⟩) NB191_194.out _).trans (((cell_far (p:=⟨gb194,_,none⟩) NB191_194.out _).trans (((cell_far (p:=⟨gb194,_,none⟩) NB191_194.out _).trans (hHeld.2.2.1)))))))))))))))))))))))))))))))))),((cell_far (p:=⟨gb194,_,none⟩) NB192_194.out _).trans (((cell_far (p:=⟨gb194,_,none⟩) NB192_194.out _).trans (((cell_far (p:=⟨gb194,_,none⟩) NB192_194.out _).trans (((cell_far (p:=⟨gb194,_,none⟩) NB192_194.out _).trans (((cell_far (p:=⟨gb194,_,none⟩) NB192_194.out _).trans (((cell_far (p:=⟨gb194,_,none⟩) NB192_194.out _).trans (((cell_far (p:=⟨gb194,_,none⟩) NB192_194.out _).trans (((cell_far (p:=⟨gb194,_,none⟩) NB192_194.out _).trans (((cell_far (p:=⟨gb194,_,none⟩) NB192_194.out _).trans (((cell_far (p:=⟨gb194,_,none⟩) NB192_194.out _).trans (((cell_far (p:=⟨gb194,_,none⟩) NB192_194.out _).trans (((cell_far (p:=⟨gb194,_,none⟩) NB192_194.out _).trans (((cell_far (p:=⟨gb194,_,none⟩) NB192_194.out _).trans (((cell_far (p:=⟨gb194,_,none⟩) NB192_194.out _).trans (((cell_far (p:=⟨gb194,_,none⟩) NB192_194.out _).trans (((cell_far (p:=⟨gb194,_,none⟩) NB192_194.out _).trans (((cell_far (p:=⟨gb194,_,none⟩) NB192_194.out _).trans (hHeld.2.2.2.1)))))))))))))))))))))))))))))))))),((cell_far (p:=⟨gb194,_,none⟩) NB192_194.out _).trans (((cell_far (p:=⟨gb194,_,none⟩) NB192_194.out _).trans (((cell_far (p:=⟨gb194,_,none⟩) NB192_194.out _).trans (((cell_far (p:=⟨gb194,_,none⟩) NB192_194.out _).trans (((cell_far (p:=⟨gb194,_,none⟩) NB192_194.out _).trans (((cell_far (p:=⟨gb194,_,none⟩) NB192_194.out _).trans (((cell_far (p:=⟨gb194,_,none⟩) NB192_194.out _).trans (((cell_far (p:=⟨gb194,_,none⟩) NB192_194.out _).trans (((cell_far (p:=⟨gb194,_,none⟩) NB192_194.out _).trans (((cell_far (p:=⟨gb194,_,none⟩) NB192_194.out _).trans (((cell_far (p:=⟨gb194,_,none⟩) NB192_194.out _).trans (((cell_far (p:=⟨gb194,_,none⟩) NB192_194.out _).trans (((cell_far (p:=⟨gb194,_,none⟩) NB192_194.out _).trans (((cell_far (p:=⟨gb194,_,none⟩) NB192_194.out _).trans (((cell_far (p:=⟨gb194,_,none⟩) NB192_194.out _).trans (((cell_far (p:=⟨gb194,_,none⟩) NB192_194.out _).trans (((cell_far (p:=⟨gb194,_,none⟩) NB192_194.out _).trans (hHeld.2.2.2.2.1)))))))))))))))))))))))))))))))))),((cell_far (p:=⟨gb194,_,none⟩) NB192_194.out _).trans (((cell_far (p:=⟨gb194,_,none⟩) NB192_194.out _).trans (((cell_far (p:=⟨gb194,_,none⟩) NB192_194.out _).trans (((cell_far (p:=⟨gb194,_,none⟩) NB192_194.out _).trans (((cell_far (p:=⟨gb194,_,none⟩) NB192_194.out _).trans (((cell_far (p:=⟨gb194,_,none⟩) NB192_194.out _).trans (((cell_far (p:=⟨gb194,_,none⟩) NB192_194.out _).trans (((cell_far (p:=⟨gb194,_,none⟩) NB192_194.out _).trans (((cell_far (p:=⟨gb194,_,none⟩) NB192_194.out _).trans (((cell_far (p:=⟨gb194,_,none⟩) NB192_194.out _).trans (((cell_far (p:=⟨gb194,_,none⟩) NB192_194.out _).trans (((cell_far (p:=⟨gb194,_,none⟩) NB192_194.out _).trans (((cell_far (p:=⟨gb194,_,none⟩) NB192_194.out _).trans (((cell_far (p:=⟨gb194,_,none⟩) NB192_194.out _).trans (((cell_far (p:=⟨gb194,_,none⟩) NB192_194.out _).trans (((cell_far (p:=⟨gb194,_,none⟩) NB192_194.out _).trans (((cell_far (p:=⟨gb194,_,none⟩) NB192_194.out _).trans (hHeld.2.2.2.2.2.1)))))))))))))))))))))))))))))))))),((cell_far (p:=⟨gb194,_,none⟩) NB192_194.out _).trans (((cell_far (p:=⟨gb194,_,none⟩) NB192_194.out _).trans (((cell_far (p:=⟨gb194,_,none⟩) NB192_194.out _).trans (((cell_far (p:=⟨gb194,_,none⟩) NB192_194.out _).trans (((cell_far (p:=⟨gb194,_,none⟩) NB192_194.out _).trans (((cell_far (p:=⟨gb194,_,none⟩) NB192_194.out _).trans (((cell_far (p:=⟨gb194,_,none⟩) NB192_194.out _).trans (((cell_far (p:=⟨gb194,_,none⟩) NB192_194.out _).trans (((cell_far (p:=⟨gb194,_,none⟩) NB192_194.out _).trans (((cell_far (p:=⟨gb194,_,none⟩) NB192_194.out _).trans (((cell_far (p:=⟨gb194,_,none⟩) NB192_194.out _).trans (((cell_far (p:=⟨gb194,_,none⟩) NB192_194.out _).trans (((cell_far (p:=⟨gb194,_,none⟩) NB192_194.out _).trans (((cell_far (p:=⟨gb194,_,none⟩) NB192_194.out _).trans (((cell_far (p:=⟨gb194,_,none⟩) NB192_194.out _).trans (((cell_far (p:=⟨gb194,_,none⟩) NB192_194.out _).trans (((cell_far (p:=⟨gb194,_,none⟩) NB192_194.out _).trans (hHeld.2.2.2.2.2.2.1)))))))))))))))))))))))))))))))))),((cell_far (p:=⟨gb194,_,none⟩) NB192_194.out _).trans (((cell_far (p:=⟨gb194,_,none⟩) NB192_194.out _).trans (((cell_far (p:=⟨gb194,_,none⟩) NB192_194.out _).trans (((cell_far (p:=⟨gb194,_,none⟩) NB192_194.out _).trans (((cell_far (p:=⟨gb194,_,none⟩) NB192_194.out _).trans (((cell_far (p:=⟨gb194,_,none⟩) NB192_194.out _).trans (((cell_far (p:=⟨gb194,_,none⟩) NB192_194.out _).trans (((cell_far (p:=⟨gb194,_,none⟩) NB192_194.out _).trans (((cell_far (p:=⟨gb194,_,none⟩) NB192_194.out _).trans (((cell_far (p:=⟨gb194,_,none⟩) NB192_194.out _).trans (((cell_far (p:=⟨gb194,_,none⟩) NB192_194.out _).trans (((cell_far (p:=⟨gb194,_,none⟩) NB192_194.out _).trans (((cell_far (p:=⟨gb194,_,none⟩) NB192_194.out _).trans (((cell_far (p:=⟨gb194,_,none⟩) NB192_194.out _).trans (((cell_far (p:=⟨gb194,_,none⟩) NB192_194.out _).trans (((cell_far (p:=⟨gb194,_,none⟩) NB192_194.out _).trans (((cell_far (p:=⟨gb194,_,none⟩) NB192_194.out _).trans (hHeld.2.2.2.2.2.2.2.1)))))))))))))))))))))))))))))))))),((cell_far (p:=⟨gb194,_,none⟩) NB192_194.out _).trans (((cell_far (p:=⟨gb194,_,none⟩) NB192_194.out _).trans (((cell_far (p:=⟨gb194,_,none⟩) NB192_194.out _).trans (((cell_far (p:=⟨gb194,_,none⟩) NB192_194.out _).trans (((cell_far (p:=⟨gb194,_,none⟩) NB192_194.out _).trans (((cell_far (p:=⟨gb194,_,none⟩) NB192_194.out _).trans (((cell_far (p:=⟨gb194,_,none⟩) NB192_194.out _).trans (((cell_far (p:=⟨gb194,_,none⟩) NB192_194.out _).trans (((cell_far (p:=⟨gb194,_,none⟩) NB192_194.out _).trans (((cell_far (p:=⟨gb194,_,none⟩) NB192_194.out _).trans (((cell_far (p:=⟨gb194,_,none⟩) NB192_194.out _).trans (((cell_far (p:=⟨gb194,_,none⟩) NB192_194.out _).trans (((cell_far (p:=⟨gb194,_,none⟩) NB192_194.out _).trans (((cell_far (p:=⟨gb194,_,none⟩) NB192_194.out _).trans (((cell_far (p:=⟨gb194,_,none⟩) NB192_194.out _).trans (((cell_far (p:=⟨gb194,_,none⟩) NB192_194.out _).trans (((cell_far (p:=⟨gb194,_,none⟩) NB192_194.out _).trans (hHeld.2.2.2.2.2.2.2.2.1)))))))))))))))))))))))))))))))))),((cell_far (p:=⟨gb194,_,none⟩) NB192_194.out _).trans (((cell_far (p:=⟨gb194,_,none⟩) NB192_194.out _).trans (((cell_far (p:=⟨gb194,_,none⟩) NB192_194.out _).trans (((cell_far (p:=⟨gb194,_,none⟩) NB192_194.out _).trans (((cell_far (p:=⟨gb194,_,none⟩) NB192_194.out _).trans (((cell_far (p:=⟨gb194,_,none⟩) NB192_194.out _).trans (((cell_far (p:=⟨gb194,_,none⟩) NB192_194.out _).trans (((cell_far (p:=⟨gb194,_,none⟩) NB192_194.out _).trans (((cell_far (p:=⟨gb194,_,none⟩) NB192_194.out _).trans (((cell_far (p:=⟨gb194,_,none⟩) NB192_194.out _).trans (((cell_far (p:=⟨gb194,_,none⟩) NB192_194.out _).trans (((cell_far (p:=⟨gb194,_,none⟩) NB192_194.out _).trans (((cell_far (p:=⟨gb194,_,none⟩) NB192_194.out _).trans (((cell_far (p:=⟨gb194,_,none⟩) NB192_194.out _).trans (((cell_far (p:=⟨gb194,_,none⟩) NB192_194.out _).trans (((cell_far (p:=⟨gb194,_,none⟩) NB192_194.out _).trans (((cell_far (p:=⟨gb194,_,none⟩) NB192_194.out _).trans (hHeld.2.2.2.2.2.2.2.2.2.1)))))))))))))))))))))))))))))))))),((cell_far (p:=⟨gb194,_,none⟩) NB192_194.out _).trans (((cell_far (p:=⟨gb194,_,none⟩) NB192_194.out _).trans (((cell_far (p:=⟨gb194,_,none⟩) NB192_194.out _).trans (((cell_far (p:=⟨gb194,_,none⟩) NB192_194.out _).trans (((cell_far (p:=⟨gb194,_,none⟩) NB192_194.out _).trans (((cell_far (p:=⟨gb194,_,none⟩) NB192_194.out _).trans (((cell_far (p:=⟨gb194,_,none⟩) NB192_194.out _).trans (((cell_far (p:=⟨gb194,_,none⟩) NB192_194.out _).trans (((cell_far (p:=⟨gb194,_,none⟩) NB192_194.out _).trans (((cell_far (p:=⟨gb194,_,none⟩) NB192_194.out _).trans (((cell_far (p:=⟨gb194,_,none⟩) NB192_194.out _).trans (((cell_far (p:=⟨gb194,_,none⟩) NB192_194.out _).trans (((cell_far (p:=⟨gb194,_,none⟩) NB192_194.out _).trans (((cell_far (p:=⟨gb194,_,none⟩) NB192_194.out _).trans (((cell_far (p:=⟨gb194,_,none⟩) NB192_194.out _).trans (((cell_far (p:=⟨gb194,_,none⟩) NB192_194.out _).trans (((cell_far (p:=⟨gb194,_,none⟩) NB192_194.out _).trans (hHeld.2.2.2.2.2.2.2.2.2.2.1)))))))))))))))))))))))))))))))))),((cell_far (p:=⟨gb194,_,none⟩) NB192_194.out _).trans (((cell_far (p:=⟨gb194,_,none⟩) NB192_194.out _).trans (((cell_far (p:=⟨gb194,_,none⟩) NB192_194.out _).trans (((cell_far (p:=⟨gb194,_,none⟩) NB192_194.out _).trans (((cell_far (p:=⟨gb194,_,none⟩) NB192_194.out _).trans (((cell_far (p:=⟨gb194,_,none⟩) NB192_194.out _).trans (((cell_far (p:=⟨gb194,_,none⟩) NB192_194.out _).trans (((cell_far (p:=⟨gb194,_,none⟩) NB192_194.out _).trans (((cell_far (p:=⟨gb194,_,none⟩) NB192_194.out _).trans (((cell_far (p:=⟨gb194,_,none⟩) NB192_194.out _).trans (((cell_far (p:=⟨gb194,_,none⟩) NB192_194.out _).trans (((cell_far (p:=⟨gb194,_,none⟩) NB192_194.out _).trans (((cell_far (p:=⟨gb194,_,none⟩) NB192_194.out _).trans (((cell_far (p:=⟨gb194,_,none⟩) NB192_194.out _).trans (((cell_far (p:=⟨gb194,_,none⟩) NB192_194.out _).trans (((cell_far (p:=⟨gb194,_,none⟩) NB192_194.out _).trans (((cell_far (p:=⟨gb194,_,none⟩) NB192_194.out _).trans (hHeld.2.2.2.2.2.2.2.2.2.2.2.1)))))))))))))))))))))))))))))))))),((cell_far (p:=⟨gb194,_,none⟩) NB192_194.out _).trans (((cell_far (p:=⟨gb194,_,none⟩) NB192_194.out _).trans (((cell_far (p:=⟨gb194,_,none⟩) NB192_194.out _).trans (((cell_far (p:=⟨gb194,_,none⟩) NB192_194.out _).trans (((cell_far (p:=⟨gb194,_,none⟩) NB192_194.out _).trans (((cell_far (p:=⟨gb194,_,none⟩) NB192_194.out _).trans (((cell_far (p:=⟨gb194,_,none⟩) NB192_194.out _).trans (((cell_far (p:=⟨gb194,_,none⟩) NB192_194.out _).trans (((cell_far (p:=⟨gb194,_,none⟩) NB192_194.out _).trans (((cell_far (p:=⟨gb194,_,none⟩) NB192_194.out _).trans (((cell_far (p:=⟨gb194,_,none⟩) NB192_194.out _).trans (((cell_far (p:=⟨gb194,_,none⟩) NB192_194.out _).trans (((cell_far (p:=⟨gb194,_,none⟩) NB192_194.out _).trans (((cell_far (p:=⟨gb194,_,none⟩) NB192_194.out _).trans (((cell_far (p:=⟨gb194,_,none⟩) NB192_194.out _).trans (((cell_far (p:=⟨gb194,_,none⟩) NB192_194.out _).trans (((cell_far (p:=⟨gb194,_,none⟩) NB192_194.out _).trans (hHeld.2.2.2.2.2.2.2.2.2.2.2.2.1)))))))))))))))))))))))))))))))))),((cell_far (p:=⟨gb194,_,none⟩) NB192_194.out _).trans (((cell_far (p:=⟨gb194,_,none⟩) NB192_194.out _).trans (((cell_far (p:=⟨gb194,_,none⟩) NB192_194.out _).trans (((cell_far (p:=⟨gb194,_,none⟩) NB192_194.out _).trans (((cell_far (p:=⟨gb194,_,none⟩) NB192_194.out _).trans (((cell_far (p:=⟨gb194,_,none⟩) NB192_194.out _).trans (((cell_far (p:=⟨gb194,_,none⟩) NB192_194.out _).trans (((cell_far (p:=⟨gb194,_,none⟩) NB192_194.out _).trans (((cell_far (p:=⟨gb194,_,none⟩) NB192_194.out _).trans (((cell_far (p:=⟨gb194,_,none⟩) NB192_194.out _).trans (((cell_far (p:=⟨gb194,_,none⟩) NB192_194.out _).trans (((cell_far (p:=⟨gb194,_,none⟩) NB192_194.out _).trans (((cell_far (p:=⟨gb194,_,none⟩) NB192_194.out _).trans (((cell_far (p:=⟨gb194,_,none⟩) NB192_194.out _).trans (((cell_far (p:=⟨gb194,_,none⟩) NB192_194.out _).trans (((cell_far (p:=⟨gb194,_,none⟩) NB192_194.out _).trans (((cell_far (p:=⟨gb194,_,none⟩) NB192_194.out _).trans (hHeld.2.2.2.2.2.2.2.2.2.2.2.2.2.1)))))))))))))))))))))))))))))))))),((cell_far (p:=⟨gb194,_,none⟩) NB192_194.out _).trans (((cell_far (p:=⟨gb194,_,none⟩) NB192_194.out _).trans (((cell_far (p:=⟨gb194,_,none⟩) NB192_194.out _).trans (((cell_far (p:=⟨gb194,_,none⟩) NB192_194.out _).trans (((cell_far (p:=⟨gb194,_,none⟩) NB192_194.out _).trans (((cell_far (p:=⟨gb194,_,none⟩) NB192_194.out _).trans (((cell_far (p:=⟨gb194,_,none⟩) NB192_194.out _).trans (((cell_far (p:=⟨gb194,_,none⟩) NB192_194.out _).trans (((cell_far (p:=⟨gb194,_,none⟩) NB192_194.out _).trans (((cell_far (p:=⟨gb194,_,none⟩) NB192_194.out _).trans (((cell_far (p:=⟨gb194,_,none⟩) NB192_194.out _).trans (((cell_far (p:=⟨gb194,_,none⟩) NB192_194.out _).trans (((cell_far (p:=⟨gb194,_,none⟩) NB192_194.out _).trans (((cell_far (p:=⟨gb194,_,none⟩) NB192_194.out _).trans (((cell_far (p:=⟨gb194,_,none⟩) NB192_194.out _).trans (((cell_far (p:=⟨gb194,_,none⟩) NB192_194.out _).trans (((cell_far (p:=⟨gb194,_,none⟩) NB192_194.out _).trans (hHeld.2.2.2.2.2.2.2.2.2.2.2.2.2.2.1)))))))))))))))))))))))))))))))))),((cell_far (p:=⟨gb194,_,none⟩) NB192_194.out _).trans (((cell_far (p:=⟨gb194,_,none⟩) NB192_194.out _).trans (((cell_far (p:=⟨gb194,_,none⟩) NB192_194.out _).trans (((cell_far (p:=⟨gb194,_,none⟩) NB192_194.out _).trans (((cell_far (p:=⟨gb194,_,none⟩) NB192_194.out _).trans (((cell_far (p:=⟨gb194,_,none⟩) NB192_194.out _).trans (((cell_far (p:=⟨gb194,_,none⟩) NB192_194.out _).trans (((cell_far (p:=⟨gb194,_,none⟩) NB192_194.out _).trans (((cell_far (p:=⟨gb194,_,none⟩) NB192_194.out _).trans (((cell_far (p:=⟨gb194,_,none⟩) NB192_194.out _).trans (((cell_far (p:=⟨gb194,_,none⟩) NB192_194.out _).trans (((cell_far (p:=⟨gb194,_,none⟩) NB192_194.out _).trans (((cell_far (p:=⟨gb194,_,none⟩) NB192_194.out _).trans (((cell_far (p:=⟨gb194,_,none⟩) NB192_194.out _).trans (((cell_far (p:=⟨gb194,_,none⟩) NB192_194.out _).trans (((cell_far (p:=⟨gb194,_,none⟩) NB192_194.out _).trans (((cell_far (p:=⟨gb194,_,none⟩) NB192_194.out _).trans (hHeld.2.2.2.2.2.2.2.2.2.2.2.2.2.2.2.1)))))))))))))))))))))))))))))))))),((cell_far (p:=⟨gb194,_,none⟩) NB192_194.out _).trans (((cell_far (p:=⟨gb194,_,none⟩) NB192_194.out _).trans (((cell_far (p:=⟨gb194,_,none⟩) NB192_194.out _).trans (((cell_far (p:=⟨gb194,_,none⟩) NB192_194.out _).trans (((cell_far (p:=⟨gb194,_,none⟩) NB192_194.out _).trans (((cell_far (p:=⟨gb194,_,none⟩) NB192_194.out _).trans (((cell_far (p:=⟨gb194,_,none⟩) NB192_194.out _).trans (((cell_far (p:=⟨gb194,_,none⟩) NB192_194.out _).trans (((cell_far (p:=⟨gb194,_,none⟩) NB192_194.out _).trans (((cell_far (p:=⟨gb194,_,none⟩) NB192_194.out _).trans (((cell_far (p:=⟨gb194,_,none⟩) NB192_194.out _).trans (((cell_far (p:=⟨gb194,_,none⟩) NB192_194.out _).trans (((cell_far (p:=⟨gb194,_,none⟩) NB192_194.out _).trans (((cell_far (p:=⟨gb194,_,none⟩) NB192_194.out _).trans (((cell_far (p:=⟨gb194,_,none⟩) NB192_194.out _).trans (((cell_far (p:=⟨gb194,_,none⟩) NB192_194.out _).trans (((cell_far (p:=⟨gb194,_,none⟩) NB192_194.out _).trans (hHeld.2.2.2.2.2.2.2.2.2.2.2.2.2.2.2.2.1)))))))))))))))))))))))))))))))))),((cell_far (p:=⟨gb194,_,none⟩) NB192_194.out _).trans (((cell_far (p:=⟨gb194,_,none⟩) NB192_194.out _).trans (((cell_far (p:=⟨gb194,_,none⟩) NB192_194.out _).trans (((cell_far (p:=⟨gb194,_,none⟩) NB192_194.out _).trans (((cell_far (p:=⟨gb194,_,none⟩) NB192_194.out _).trans (((cell_far (p:=⟨gb194,_,none⟩) NB192_194.out _).trans (((cell_far (p:=⟨gb194,_,none⟩) NB192_194.out _).trans (((cell_far (p:=⟨gb194,_,none⟩) NB192_194.out _).trans (((cell_far (p:=⟨gb194,_,none⟩) NB192_194.out _).trans (((cell_far (p:=⟨gb194,_,none⟩) NB192_194.out _).trans (((cell_far (p:=⟨gb194,_,none⟩) NB192_194.out _).trans (((cell_far (p:=⟨gb194,_,none⟩) NB192_194.out _).trans (((cell_far (p:=⟨gb194,_,none⟩) NB192_194.out _).trans (((cell_far (p:=⟨gb194,_,none⟩) NB192_194.out _).trans (((cell_far (p:=⟨gb194,_,none⟩) NB192_194.out _).trans (((cell_far (p:=⟨gb194,_,none⟩) NB192_194.out _).trans (((cell_far (p:=⟨gb194,_,none⟩) NB192_194.out _).trans (hHeld.2.2.2.2.2.2.2.2.2.2.2.2.2.2.2.2.2.1)))))))))))))))))))))))))))))))))),((cell_far (p:=⟨gb194,_,none⟩) NB192_194.out _).trans (((cell_far (p:=⟨gb194,_,none⟩) NB192_194.out _).trans (((cell_far (p:=⟨gb194,_,none⟩) NB192_194.out _).trans (((cell_far (p:=⟨gb194,_,none⟩) NB192_194.out _).trans (((cell_far (p:=⟨gb194,_,none⟩) NB192_194.out _).trans (((cell_far (p:=⟨gb194,_,none⟩) NB192_194.out _).trans (((cell_far (p:=⟨gb194,_,none⟩) NB192_194.out _).trans (((cell_far (p:=⟨gb194,_,none⟩) NB192_194.out _).trans (((cell_far (p:=⟨gb194,_,none⟩) NB192_194.out _).trans (((cell_far (p:=⟨gb194,_,none⟩) NB192_194.out _).trans (((cell_far (p:=⟨gb194,_,none⟩) NB192_194.out _).trans (((cell_far (p:=⟨gb194,_,none⟩) NB192_194.out _).trans (((cell_far (p:=⟨gb194,_,none⟩) NB192_194.out _).trans (((cell_far (p:=⟨gb194,_,none⟩) NB192_194.out _).trans (((cell_far (p:=⟨gb194,_,none⟩) NB192_194.out _).trans (((cell_far (p:=⟨gb194,_,none⟩) NB192_194.out _).trans (((cell_far (p:=⟨gb194,_,none⟩) NB192_194.out _).trans (hHeld.2.2.2.2.2.2.2.2.2.2.2.2.2.2.2.2.2.2.1)))))))))))))))))))))))))))))))))),((cell_far (p:=⟨gb194,_,none⟩) NB192_194.out _).trans (((cell_far (p:=⟨gb194,_,none⟩) NB192_194.out _).trans (((cell_far (p:=⟨gb194,_,none⟩) NB192_194.out _).trans (((cell_far (p:=⟨gb194,_,none⟩) NB192_194.out _).trans (((cell_far (p:=⟨gb194,_,none⟩) NB192_194.out _).trans (((cell_far (p:=⟨gb194,_,none⟩) NB192_194.out _).trans (((cell_far (p:=⟨gb194,_,none⟩) NB192_194.out _).trans (((cell_far (p:=⟨gb194,_,none⟩) NB192_194.out _).trans (((cell_far (p:=⟨gb194,_,none⟩) NB192_194.out _).trans (((cell_far (p:=⟨gb194,_,none⟩) NB192_194.out _).trans (((cell_far (p:=⟨gb194,_,none⟩) NB192_194.out _).trans (((cell_far (p:=⟨gb194,_,none⟩) NB192_194.out _).trans (((cell_far (p:=⟨gb194,_,none⟩) NB192_194.out _).trans (((cell_far (p:=⟨gb194,_,none⟩) NB192_194.out _).trans (((cell_far (p:=⟨gb194,_,none⟩) NB192_194.out _).trans (((cell_far (p:=⟨gb194,_,none⟩) NB192_194.out _).trans (((cell_far (p:=⟨gb194,_,none⟩) NB192_194.out _).trans (hHeld.2.2.2.2.2.2.2.2.2.2.2.2.2.2.2.2.2.2.2))))))))))))))))))))))))))))))))))⟩ (fun hHeld=>?_)
           clear hK K
           refine done_ (by kernel_rfl) ?_
           try go_wp2
           refine bodyPost_ret (results_cc rfl _ _ gb193 gb194 81 47 #[.string x192000_3,.int .i64 x192001_3,.int .i64 x192002_3] #[.int .i64 a1_0,.int .i64 a1_1,.int .u64 a1_2,.int .u64 a1_3,.int .u32 a1_4,.int .i64 a1_5,.int .i64 a1_6,.string a1_7,.string a1_8,.int .i64 a1_9,.int .i64 a1_10,.string a1_11,.int .u32 a1_12,.int .i64 a1_13,.bool a1_14,.slice Ao114 x193015_1.length co114,.slice Ao116 x193016_3.length co116] (0,0) (0,0) _ _ rfl (by (with_reducible repeat (first|refine blk_drewN ?_ _|refine blk_drew ?_|refine blk_alloc ?_ _));refine blk_far ?_ NB193_194.out _;(with_reducible repeat (first|refine blk_drewN ?_ _|refine blk_drew ?_|refine blk_alloc ?_ _));refine blk_far ?_ NB193_194.out _;(with_reducible repeat (first|refine blk_drewN ?_ _|refine blk_drew ?_|refine blk_alloc ?_ _));refine blk_far ?_ NB193_194.out _;(with_reducible repeat (first|refine blk_drewN ?_ _|refine blk_drew ?_|refine blk_alloc ?_ _));refine blk_far ?_ NB193_194.out _;(with_reducible repeat (first|refine blk_drewN ?_ _|refine blk_drew ?_|refine blk_alloc ?_ _));refine blk_far ?_ NB193_194.out _;(with_reducible repeat (first|refine blk_drewN ?_ _|refine blk_drew ?_|refine blk_alloc ?_ _));refine blk_far ?_ NB193_194.out _;(with_reducible repeat (first|refine blk_drewN ?_ _|refine blk_drew ?_|refine blk_alloc ?_ _));refine blk_far ?_ NB193_194.out _;(with_reducible repeat (first|refine blk_drewN ?_ _|refine blk_drew ?_|refine blk_alloc ?_ _));refine blk_far ?_ NB193_194.out _;(with_reducible repeat (first|refine blk_drewN ?_ _|refine blk_drew ?_|refine blk_alloc ?_ _));refine blk_far ?_ NB193_194.out _;(with_reducible repeat (first|refine blk_drewN ?_ _|refine blk_drew ?_|refine blk_alloc ?_ _));refine blk_far ?_ NB193_194.out _;(with_reducible repeat (first|refine blk_drewN ?_ _|refine blk_drew ?_|refine blk_alloc ?_ _));refine blk_far ?_ NB193_194.out _;(with_reducible repeat (first|refine blk_drewN ?_ _|refine blk_drew ?_|refine blk_alloc ?_ _));refine blk_far ?_ NB193_194.out _;(with_reducible repeat (first|refine blk_drewN ?_ _|refine blk_drew ?_|refine blk_alloc ?_ _));refine blk_far ?_ NB193_194.out _;(with_reducible repeat (first|refine blk_drewN ?_ _|refine blk_drew ?_|refine blk_alloc ?_ _));refine blk_far ?_ NB193_194.out _;(with_reducible repeat (first|refine blk_drewN ?_ _|refine blk_drew ?_|refine blk_alloc ?_ _));refine blk_far ?_ NB193_194.out _;(with_reducible repeat (first|refine blk_drewN ?_ _|refine blk_drew ?_|refine blk_alloc ?_ _));refine blk_far ?_ NB193_194.out _;(with_reducible repeat (first|refine blk_drewN ?_ _|refine blk_drew ?_|refine blk_alloc ?_ _));refine blk_far ?_ NB193_194.out _;(with_reducible repeat (first|refine blk_drewN ?_ _|refine blk_drew ?_|refine blk_alloc ?_ _));refine blk_put (cs:=#[.string x192000_3,.int .i64 x192001_3,.int .i64 0]) ?_ 2 _ rfl;(with_reducible repeat (first|refine blk_drewN ?_ _|refine blk_drew ?_|refine blk_alloc ?_ _));refine blk_put (cs:=#[.string x192000_3,.int .i64 0,.int .i64 0]) ?_ 1 _ rfl;(with_reducible repeat (first|refine blk_drewN ?_ _|refine blk_drew ?_|refine blk_alloc ?_ _));refine blk_put (cs:=#[.string (⟨#[]⟩ : ByteArray),.int .i64 0,.int .i64 0]) ?_ 0 _ rfl;(with_reducible repeat (first|refine blk_drewN ?_ _|refine blk_drew ?_|refine blk_alloc ?_ _));exact BK193.out) Try.underlying81 rfl (by kernel_rfl) rfl (by (with_reducible repeat (first|refine blk_drewN ?_ _|refine blk_drew ?_|refine blk_alloc ?_ _));refine blk_put (cs:=#[.int .i64 a1_0,.int .i64 a1_1,.int .u64 a1_2,.int .u64 a1_3,.int .u32 a1_4,.int .i64 a1_5,.int .i64 a1_6,.string a1_7,.string a1_8,.int .i64 a1_9,.int .i64 a1_10,.string a1_11,.int .u32 a1_12,.int .i64 a1_13,.bool a1_14,.slice Ao114 x193015_1.length co114,.slice none 0 0]) ?_ 16 _ rfl;(with_reducible repeat (first|refine blk_drewN ?_ _|refine blk_drew ?_|refine blk_alloc ?_ _));refine blk_put (cs:=#[.int .i64 a1_0,.int .i64 a1_1,.int .u64 a1_2,.int .u64 a1_3,.int .u32 a1_4,.int .i64 a1_5,.int .i64 a1_6,.string a1_7,.string a1_8,.int .i64 a1_9,.int .i64 a1_10,.string a1_11,.int .u32 a1_12,.int .i64 a1_13,.bool a1_14,.slice none 0 0,.slice none 0 0]) ?_ 15 _ rfl;(with_reducible repeat (first|refine blk_drewN ?_ _|refine blk_drew ?_|refine blk_alloc ?_ _));refine blk_put (cs:=#[.int .i64 a1_0,.int .i64 a1_1,.int .u64 a1_2,.int .u64 a1_3,.int .u32 a1_4,.int .i64 a1_5,.int .i64 a1_6,.string a1_7,.string a1_8,.int .i64 a1_9,.int .i64 a1_10,.string a1_11,.int .u32 a1_12,.int .i64 a1_13,.bool false,.slice none 0 0,.slice none 0 0]) ?_ 14 _ rfl;(with_reducible repeat (first|refine blk_drewN ?_ _|refine blk_drew ?_|refine blk_alloc ?_ _));refine blk_put (cs:=#[.int .i64 a1_0,.int .i64 a1_1,.int .u64 a1_2,.int .u64 a1_3,.int .u32 a1_4,.int .i64 a1_5,.int .i64 a1_6,.string a1_7,.string a1_8,.int .i64 a1_9,.int .i64 a1_10,.string a1_11,.int .u32 a1_12,.int .i64 0,.bool false,.slice none 0 0,.slice none 0 0]) ?_ 13 _ rfl;(with_reducible repeat (first|refine blk_drewN ?_ _|refine blk_drew ?_|refine blk_alloc ?_ _));refine blk_put (cs:=#[.int .i64 a1_0,.int .i64 a1_1,.int .u64 a1_2,.int .u64 a1_3,.int .u32 a1_4,.int .i64 a1_5,.int .i64 a1_6,.string a1_7,.string a1_8,.int .i64 a1_9,.int .i64 a1_10,.string a1_11,.int .u32 0,.int .i64 0,.bool false,.slice none 0 0,.slice none 0 0]) ?_ 12 _ rfl;(with_reducible repeat (first|refine blk_drewN ?_ _|refine blk_drew ?_|refine blk_alloc ?_ _));refine blk_put (cs:=#[.int .i64 a1_0,.int .i64 a1_1,.int .u64 a1_2,.int .u64 a1_3,.int .u32 a1_4,.int .i64 a1_5,.int .i64 a1_6,.string a1_7,.string a1_8,.int .i64 a1_9,.int .i64 a1_10,.string (⟨#[]⟩ : ByteArray),.int .u32 0,.int .i64 0,.bool false,.slice none 0 0,.slice none 0 0]) ?_ 11 _ rfl;(with_reducible repeat (first|refine blk_drewN ?_ _|refine blk_drew ?_|refine blk_alloc ?_ _));refine blk_put (cs:=#[.int .i64 a1_0,.int .i64 a1_1,.int .u64 a1_2,.int .u64 a1_3,.int .u32 a1_4,.int .i64 a1_5,.int .i64 a1_6,.string a1_7,.string a1_8,.int .i64 a1_9,.int .i64 0,.string (⟨#[]⟩ : ByteArray),.int .u32 0,.int .i64 0,.bool false,.slice none 0 0,.slice none 0 0]) ?_ 10 _ rfl;(with_reducible repeat (first|refine blk_drewN ?_ _|refine blk_drew ?_|refine blk_alloc ?_ _));refine blk_put (cs:=#[.int .i64 a1_0,.int .i64 a1_1,.int .u64 a1_2,.int .u64 a1_3,.int .u32 a1_4,.int .i64 a1_5,.int .i64 a1_6,.string a1_7,.string a1_8,.int .i64 0,.int .i64 0,.string (⟨#[]⟩ : ByteArray),.int .u32 0,.int .i64 0,.bool false,.slice none 0 0,.slice none 0 0]) ?_ 9 _ rfl;(with_reducible repeat (first|refine blk_drewN ?_ _|refine blk_drew ?_|refine blk_alloc ?_ _));refine blk_put (cs:=#[.int .i64 a1_0,.int .i64 a1_1,.int .u64 a1_2,.int .u64 a1_3,.int .u32 a1_4,.int .i64 a1_5,.int .i64 a1_6,.string a1_7,.string (⟨#[]⟩ : ByteArray),.int .i64 0,.int .i64 0,.string (⟨#[]⟩ : ByteArray),.int .u32 0,.int .i64 0,.bool false,.slice none 0 0,.slice none 0 0]) ?_ 8 _ rfl;(with_reducible repeat (first|refine blk_drewN ?_ _|refine blk_drew ?_|refine blk_alloc ?_ _));refine blk_put (cs:=#[.int .i64 a1_0,.int .i64 a1_1,.int .u64 a1_2,.int .u64 a1_3,.int .u32 a1_4,.int .i64 a1_5,.int .i64 a1_6,.string (⟨#[]⟩ : ByteArray),.string (⟨#[]⟩ : ByteArray),.int .i64 0,.int .i64 0,.string (⟨#[]⟩ : ByteArray),.int .u32 0,.int .i64 0,.bool false,.slice none 0 0,.slice none 0 0]) ?_ 7 _ rfl;(with_reducible repeat (first|refine blk_drewN ?_ _|refine blk_drew ?_|refine blk_alloc ?_ _));refine blk_put (cs:=#[.int .i64 a1_0,.int .i64 a1_1,.int .u64 a1_2,.int .u64 a1_3,.int .u32 a1_4,.int .i64 a1_5,.int .i64 0,.string (⟨#[]⟩ : ByteArray),.string (⟨#[]⟩ : ByteArray),.int .i64 0,.int .i64 0,.string (⟨#[]⟩ : ByteArray),.int .u32 0,.int .i64 0,.bool false,.slice none 0 0,.slice none 0 0]) ?_ 6 _ rfl;(with_reducible repeat (first|refine blk_drewN ?_ _|refine blk_drew ?_|refine blk_alloc ?_ _));refine blk_put (cs:=#[.int .i64 a1_0,.int .i64 a1_1,.int .u64 a1_2,.int .u64 a1_3,.int .u32 a1_4,.int .i64 0,.int .i64 0,.string (⟨#[]⟩ : ByteArray),.string (⟨#[]⟩ : ByteArray),.int .i64 0,.int .i64 0,.string (⟨#[]⟩ : ByteArray),.int .u32 0,.int .i64 0,.bool false,.slice none 0 0,.slice none 0 0]) ?_ 5 _ rfl;(with_reducible repeat (first|refine blk_drewN ?_ _|refine blk_drew ?_|refine blk_alloc ?_ _));refine blk_put (cs:=#[.int .i64 a1_0,.int .i64 a1_1,.int .u64 a1_2,.int .u64 a1_3,.int .u32 0,.int .i64 0,.int .i64 0,.string (⟨#[]⟩ : ByteArray),.string (⟨#[]⟩ : ByteArray),.int .i64 0,.int .i64 0,.string (⟨#[]⟩ : ByteArray),.int .u32 0,.int .i64 0,.bool false,.slice none 0 0,.slice none 0 0]) ?_ 4 _ rfl;(with_reducible repeat (first|refine blk_drewN ?_ _|refine blk_drew ?_|refine blk_alloc ?_ _));refine blk_put (cs:=#[.int .i64 a1_0,.int .i64 a1_1,.int .u64 a1_2,.int .u64 0,.int .u32 0,.int .i64 0,.int .i64 0,.string (⟨#[]⟩ : ByteArray),.string (⟨#[]⟩ : ByteArray),.int .i64 0,.int .i64 0,.string (⟨#[]⟩ : ByteArray),.int .u32 0,.int .i64 0,.bool false,.slice none 0 0,.slice none 0 0]) ?_ 3 _ rfl;(with_reducible repeat (first|refine blk_drewN ?_ _|refine blk_drew ?_|refine blk_alloc ?_ _));refine blk_put (cs:=#[.int .i64 a1_0,.int .i64 a1_1,.int .u64 0,.int .u64 0,.int .u32 0,.int .i64 0,.int .i64 0,.string (⟨#[]⟩ : ByteArray),.string (⟨#[]⟩ : ByteArray),.int .i64 0,.int .i64 0,.string (⟨#[]⟩ : ByteArray),.int .u32 0,.int .i64 0,.bool false,.slice none 0 0,.slice none 0 0]) ?_ 2 _ rfl;(with_reducible repeat (first|refine blk_drewN ?_ _|refine blk_drew ?_|refine blk_alloc ?_ _));refine blk_put (cs:=#[.int .i64 a1_0,.int .i64 0,.int .u64 0,.int .u64 0,.int .u32 0,.int .i64 0,.int .i64 0,.string (⟨#[]⟩ : ByteArray),.string (⟨#[]⟩ : ByteArray),.int .i64 0,.int .i64 0,.string (⟨#[]⟩ : ByteArray),.int .u32 0,.int .i64 0,.bool false,.slice none 0 0,.slice none 0 0]) ?_ 1 _ rfl;(with_reducible repeat (first|refine blk_drewN ?_ _|refine blk_drew ?_|refine blk_alloc ?_ _));refine blk_put (cs:=#[.int .i64 0,.int .i64 0,.int .u64 0,.int .u64 0,.int .u32 0,.int .i64 0,.int .i64 0,.string (⟨#[]⟩ : ByteArray),.string (⟨#[]⟩ : ByteArray),.int .i64 0,.int .i64 0,.string (⟨#[]⟩ : ByteArray),.int .u32 0,.int .i64 0,.bool false,.slice none 0 0,.slice none 0 0]) ?_ 0 _ rfl;(with_reducible repeat (first|refine blk_drewN ?_ _|refine blk_drew ?_|refine blk_alloc ?_ _));refine blk_far ?_ NB194_193.out _;(with_reducible repeat (first|refine blk_drewN ?_ _|refine blk_drew ?_|refine blk_alloc ?_ _));refine blk_far ?_ NB194_193.out _;(with_reducible repeat (first|refine blk_drewN ?_ _|refine blk_drew ?_|refine blk_alloc ?_ _));refine blk_far ?_ NB194_193.out _;(with_reducible repeat (first|refine blk_drewN ?_ _|refine blk_drew ?_|refine blk_alloc ?_ _));exact BK194.out) Try.underlying47 rfl (by kernel_rfl)) rfl ?_
           exact ⟨_,_,by first|rfl|(simp [errW_none,errW_some] <;> rfl)|(simp [*,errW_none,errW_some] <;> rfl),by (with_reducible repeat (first|apply Kd.R_alloc|apply Kd.R_drewN|apply Kd.R_drew));exact Kd.R_mono (Kd.R_far (p:=⟨gb194,16,none⟩) (Kd.R_far (p:=⟨gb194,15,none⟩) (Kd.R_far (p:=⟨gb194,14,none⟩) (Kd.R_far (p:=⟨gb194,13,none⟩) (Kd.R_far (p:=⟨gb194,12,none⟩) (Kd.R_far (p:=⟨gb194,11,none⟩) (Kd.R_far (p:=⟨gb194,10,none⟩) (Kd.R_far (p:=⟨gb194,9,none⟩) (Kd.R_far (p:=⟨gb194,8,none⟩) (Kd.R_far (p:=⟨gb194,7,none⟩) (Kd.R_far (p:=⟨gb194,6,none⟩) (Kd.R_far (p:=⟨gb194,5,none⟩) (Kd.R_far (p:=⟨gb194,4,none⟩) (Kd.R_far (p:=⟨gb194,3,none⟩) (Kd.R_far (p:=⟨gb194,2,none⟩) (Kd.R_far (p:=⟨gb194,1,none⟩) (Kd.R_far (p:=⟨gb194,0,none⟩) (Kd.R_far (p:=⟨gb193,2,none⟩) (Kd.R_far (p:=⟨gb193,1,none⟩) (Kd.R_far (p:=⟨gb193,0,none⟩) (Kd.R_types (Kd.R_types HO_193015.out BK193.out (by decide)) BK194.out (by decide)) (fun _ hk=>hk.1.2) (.string x192000_3)) (fun _ hk=>hk.1.2) (.int .i64 x192001_3)) (fun _ hk=>hk.1.2) (.int .i64 x192002_3)) (fun _ hk=>hk.2) (.int .i64 a1_0)) (fun _ hk=>hk.2) (.int .i64 a1_1)) (fun _ hk=>hk.2) (.int .u64 a1_2)) (fun _ hk=>hk.2) (.int .u64 a1_3)) (fun _ hk=>hk.2) (.int .u32 a1_4)) (fun _ hk=>hk.2) (.int .i64 a1_5)) (fun _ hk=>hk.2) (.int .i64 a1_6)) (fun _ hk=>hk.2) (.string a1_7)) (fun _ hk=>hk.2) (.string a1_8)) (fun _ hk=>hk.2) (.int .i64 a1_9)) (fun _ hk=>hk.2) (.int .i64 a1_10)) (fun _ hk=>hk.2) (.string a1_11)) (fun _ hk=>hk.2) (.int .u32 a1_12)) (fun _ hk=>hk.2) (.int .i64 a1_13)) (fun _ hk=>hk.2) (.bool a1_14)) (fun _ hk=>hk.2) (.slice Ao114 x193015_1.length co114)) (fun _ hk=>hk.2) (.slice Ao116 x193016_3.length co116)) (fun _ hk=>hk.1.1),by (with_reducible repeat (first|apply Kd.R_alloc|apply Kd.R_drewN|apply Kd.R_drew));exact Kd.R_mono (Kd.R_far (p:=⟨gb194,16,none⟩) (Kd.R_far (p:=⟨gb194,15,none⟩) (Kd.R_far (p:=⟨gb194,14,none⟩) (Kd.R_far (p:=⟨gb194,13,none⟩) (Kd.R_far (p:=⟨gb194,12,none⟩) (Kd.R_far (p:=⟨gb194,11,none⟩) (Kd.R_far (p:=⟨gb194,10,none⟩) (Kd.R_far (p:=⟨gb194,9,none⟩) (Kd.R_far (p:=⟨gb194,8,none⟩) (Kd.R_far (p:=⟨gb194,7,none⟩) (Kd.R_far (p:=⟨gb194,6,none⟩) (Kd.R_far (p:=⟨gb194,5,none⟩) (Kd.R_far (p:=⟨gb194,4,none⟩) (Kd.R_far (p:=⟨gb194,3,none⟩) (Kd.R_far (p:=⟨gb194,2,none⟩) (Kd.R_far (p:=⟨gb194,1,none⟩) (Kd.R_far (p:=⟨gb194,0,none⟩) (Kd.R_far (p:=⟨gb193,2,none⟩) (Kd.R_far (p:=⟨gb193,1,none⟩) (Kd.R_far (p:=⟨gb193,0,none⟩) (Kd.R_types (Kd.R_types HO_193016.out BK193.out (by decide)) BK194.out (by decide)) (fun _ hk=>hk.1.2) (.string x192000_3)) (fun _ hk=>hk.1.2) (.int .i64 x192001_3)) (fun _ hk=>hk.1.2) (.int .i64 x192002_3)) (fun _ hk=>hk.2) (.int .i64 a1_0)) (fun _ hk=>hk.2) (.int .i64 a1_1)) (fun _ hk=>hk.2) (.int .u64 a1_2)) (fun _ hk=>hk.2) (.int .u64 a1_3)) (fun _ hk=>hk.2) (.int .u32 a1_4)) (fun _ hk=>hk.2) (.int .i64 a1_5)) (fun _ hk=>hk.2) (.int .i64 a1_6)) (fun _ hk=>hk.2) (.string a1_7)) (fun _ hk=>hk.2) (.string a1_8)) (fun _ hk=>hk.2) (.int .i64 a1_9)) (fun _ hk=>hk.2) (.int .i64 a1_10)) (fun _ hk=>hk.2) (.string a1_11)) (fun _ hk=>hk.2) (.int .u32 a1_12)) (fun _ hk=>hk.2) (.int .i64 a1_13)) (fun _ hk=>hk.2) (.bool a1_14)) (fun _ hk=>hk.2) (.slice Ao114 x193015_1.length co114)) (fun _ hk=>hk.2) (.slice Ao116 x193016_3.length co116)) (fun _ hk=>hk.1.1),by repeat (first|(with_reducible first|exact HB.out|apply below_alloc|apply pw_below_drewN|apply below_drew1|refine below_set ?_ GE191.out|refine below_set ?_ GE192.out|refine below_set ?_ GE193.out|refine below_set ?_ GE194.out)|exact HB.out),by repeat (first|(with_reducible first|exact HK.out|apply Kept.alloc|apply Kept.drewN|apply Kept.drew|refine Kept.setCell ?_ (.inr GW191.out) _|refine Kept.setCell ?_ (.inr GW192.out) _|refine Kept.setCell ?_ (.inr GW193.out) _|refine Kept.setCell ?_ (.inr GW194.out) _)|exact HK.out)⟩
end Go.Proofs.Ytebickoieipjpaa.PRr
end
section
namespace Go.Gi
theorem bs_beq (a b : List UInt8) : (bs a == bs b) = (a == b) := by
  show ((bs a).data == (bs b).data) = _
  simp [bs]
theorem bs_tl (s : List UInt8) : (bs s).toList = s := by rw [ByteArray.toList_eq, toList_bs]
theorem bs_empty (s : List UInt8) : (bs s).toList.isEmpty = decide (s.length = 0) := by
  rw [bs_tl]; cases s <;> simp
end Go.Gi
end
section
namespace Go.Gi
def opOk (k a : Int) (s o : List UInt8) : Prop :=
  s.length ≤ 512 ∧ o.length ≤ 512 ∧ ((k = 1 ∧ 0 ≤ a ∧ a ≤ 255 ∧ s.length ≤ 32 ∧ o.length = 0) ∨ (k = 2 ∧ 0 ≤ a ∧ a < 64 ∧ o.length = 0) ∨ (k = 3 ∧ 0 ≤ a ∧ a < 64 ∧ s.length = 0) ∨ (k = 4 ∧ 0 ≤ a ∧ a < 64)
    ∨ (k = 5 ∧ a = 0 ∧ s.length ≤ 32 ∧ o.length ≤ 32) ∨ (k = 6 ∧ 0 ≤ a ∧ a < 512 ∧ s.length = o.length ∧ s.length ≠ 0) ∨ (k = 7 ∧ a = 0 ∧ 1 ≤ s.length ∧ s.length ≤ 33 ∧ 1 ≤ o.length ∧ o.length ≤ 33))
instance (k a : Int) (s o : List UInt8) : Decidable (opOk k a s o) := by unfold opOk; infer_instance
def opE (k a : Int) (s o : List UInt8) : Int := if opOk k a s o then 0 else 33
theorem opE_pos {k a : Int} {s o : List UInt8} (h : opOk k a s o) : 0 = opE k a s o := by unfold opE; rw [if_pos h]
theorem opE_neg {k a : Int} {s o : List UInt8} (h : ¬ opOk k a s o) : 33 = opE k a s o := by unfold opE; rw [if_neg h]
end Go.Gi
end
section
namespace Go.Gi
structure StR where
  tx : Int
  st : Int
  last : Int
  next : Int
structure DiR where
  page : Int
  lsn : Int
structure RecR where
  kind : Int
  tx : Int
  prev : Int
  next : Int
  page : Int
  ok : Int
  oa : Int
  os : List UInt8
  oo : List UInt8
  undo : Int
  index : Int
  key : List UInt8
  rpage : Int
  rslot : Int
  live : Bool
  txs : List StR
  dirty : List DiR
def StR.cells (t : StR) : List Value := [.int .i64 t.tx, .int .i64 t.st, .int .u64 t.last, .int .u64 t.next]
def DiR.cells (t : DiR) : List Value := [.int .u32 t.page, .int .u64 t.lsn]
def RecR.cells (r : RecR) (A : Option Addr) (c : Nat) (B : Option Addr) (d : Nat) : Array Value :=
  #[.int .i64 r.kind, .int .i64 r.tx, .int .u64 r.prev, .int .u64 r.next, .int .u32 r.page, .int .i64 r.ok, .int .i64 r.oa, .string (bs r.os), .string (bs r.oo), .int .i64 r.undo, .int .i64 r.index,
    .string (bs r.key), .int .u32 r.rpage, .int .i64 r.rslot, .bool r.live, .slice A r.txs.length c, .slice B r.dirty.length d]
def RecR.val (r : RecR) (A : Option Addr) (c : Nat) (B : Option Addr) (d : Nat) : Value := .agg (r.cells A c B d)
def isChange (k : Int) : Prop := k = 1 ∨ k = 2
def isNext (k : Int) : Prop := k = 2 ∨ k = 3
instance (k : Int) : Decidable (isChange k) := by unfold isChange; infer_instance
instance (k : Int) : Decidable (isNext k) := by unfold isNext; infer_instance
def okHead (r : RecR) : Prop := 1 ≤ r.kind ∧ r.kind ≤ 8 ∧ 0 ≤ r.tx ∧ r.tx < 2147483648
def okUndo (r : RecR) : Prop := 0 ≤ r.undo ∧ r.undo ≤ 2
def okOp (r : RecR) : Prop :=
  if isChange r.kind then r.page ≠ 0 ∧ opOk r.ok r.oa r.os r.oo else r.page = 0 ∧ (r.ok = 0 ∧ r.oa = 0 ∧ r.os.length = 0 ∧ r.oo.length = 0) ∧ r.undo = 0
def okKey (r : RecR) : Prop :=
  if r.undo = 2 then 0 ≤ r.index ∧ r.index < 65536 ∧ r.key.length ≤ 64 ∧ 0 ≤ r.rslot ∧ r.rslot < 65536 else r.index = 0 ∧ (r.key.length = 0 ∧ r.rpage = 0 ∧ r.rslot = 0) ∧ r.live = false
def okNext (r : RecR) : Prop := (isNext r.kind ∨ r.next = 0) ∧ (r.kind = 1 ∨ r.undo = 0)
def okLong (r : RecR) : Prop := (r.kind = 8 ∨ r.txs.length = 0 ∧ r.dirty.length = 0) ∧ r.txs.length ≤ 64 ∧ r.dirty.length ≤ 256
def okSt (t : StR) : Prop := 0 ≤ t.tx ∧ t.tx < 2147483648 ∧ 1 ≤ t.st ∧ t.st ≤ 3
def recOk (r : RecR) : Prop := (((((okHead r ∧ okUndo r) ∧ okOp r) ∧ okKey r) ∧ okNext r) ∧ okLong r) ∧ ∀ t ∈ r.txs, okSt t
open Classical in
noncomputable def recE (r : RecR) : Int := if recOk r then 0 else 40
theorem recE_pos {r : RecR} (h : recOk r) : recE r = 0 := by unfold recE; rw [if_pos h]
theorem recE_neg {r : RecR} (h : ¬ recOk r) : recE r = 40 := by unfold recE; rw [if_neg h]
def Says (b : Bool) (p : Prop) : Prop := b = true ↔ p
theorem Says.of_true {p : Prop} (h : p) : Says true p := ⟨fun _ => h, fun _ => rfl⟩
theorem Says.of_false {p : Prop} (h : ¬ p) : Says false p := ⟨fun e => (nomatch e), fun e => absurd e h⟩
theorem Says.of_dec {p q : Prop} [Decidable q] (h : q ↔ p) : Says (decide q) p := by unfold Says; rw [decide_eq_true_eq]; exact h
theorem Says.not {p : Prop} {b : Bool} (h : Says b p) : b = false → ¬ p := fun e q => by rw [h.2 q] at e; cases e
def CutB (v : Value) (p : Prop) : Prop := ∃ b, v = .bool b ∧ Says b p
theorem cut_true {p : Prop} (h : p) : CutB (.bool true) p := ⟨_, rfl, .of_true h⟩
theorem cut_false {p : Prop} (h : ¬ p) : CutB (.bool false) p := ⟨_, rfl, .of_false h⟩
theorem cut_dec {p q : Prop} [Decidable q] (h : q ↔ p) : CutB (.bool (decide q)) p := ⟨_, rfl, .of_dec h⟩
theorem names (x y : Int) : ∃ b : Bool, (x == y) = b ∧ b = decide (x = y) := ⟨_, rfl, by rw [Bool.eq_iff_iff]; simp⟩
theorem namesN (x y : Nat) : ∃ b : Bool, ((x : Int) == (y : Int)) = b ∧ b = decide (x = y) := ⟨_, rfl, by rw [Bool.eq_iff_iff]; simp; omega⟩
theorem okOp_yes {r : RecR} (h : isChange r.kind) : okOp r ↔ (¬ r.page = 0 ∧ opOk r.ok r.oa r.os r.oo) := by unfold okOp; rw [if_pos h]
theorem okOp_no {r : RecR} (h : ¬ isChange r.kind) : okOp r ↔ (r.page = 0 ∧ (r.ok = 0 ∧ r.oa = 0 ∧ r.os.length = 0 ∧ r.oo.length = 0) ∧ r.undo = 0) := by unfold okOp; rw [if_neg h]
theorem okKey_yes {r : RecR} (h : r.undo = 2) : okKey r ↔ (0 ≤ r.index ∧ r.index < 65536 ∧ r.key.length ≤ 64 ∧ 0 ≤ r.rslot ∧ r.rslot < 65536) := by unfold okKey; rw [if_pos h]
theorem okKey_no {r : RecR} (h : ¬ r.undo = 2) : okKey r ↔ (r.index = 0 ∧ (r.key.length = 0 ∧ r.rpage = 0 ∧ r.rslot = 0) ∧ r.live = false) := by unfold okKey; rw [if_neg h]
theorem opE_zero {k a : Int} {s o : List UInt8} : opE k a s o = 0 ↔ opOk k a s o := by
  unfold opE; split <;> simp_all
theorem st_step {PP : Prop} {l : List StR} {k : Nat} {t0 : StR} {b b' : Bool} (hS : b = true ↔ PP ∧ ∀ t ∈ l.take k, okSt t) (hT : ∀ t, t ∈ l.take (k + 1) ↔ (t ∈ l.take k ∨ t = t0)) (h : b' = true ↔ (b = true ∧ okSt t0)) :
    b' = true ↔ PP ∧ ∀ t ∈ l.take (k + 1), okSt t := by
  rw [h, hS]
  constructor
  · rintro ⟨⟨hp, ha⟩, h0⟩
    exact ⟨hp, fun t ht => ((hT t).1 ht).elim (ha t) (fun e => e ▸ h0)⟩
  · rintro ⟨hp, ha⟩
    exact ⟨⟨hp, fun t ht => ha t ((hT t).2 (.inl ht))⟩, ha t0 ((hT t0).2 (.inr rfl))⟩
theorem and_key {p q q' : Prop} (hp : p) (h : q ↔ q') : (p ∧ q) ↔ q' := ⟨fun x => h.1 x.2, fun x => ⟨hp, h.2 x⟩⟩
end Go.Gi
end
section
namespace Go.Gi
def txB (s : List UInt8) : List UInt8 := putL 2 s.length ++ s
def keyB (r : RecR) : List UInt8 := putL 2 r.index.toNat ++ txB r.key ++ putL 4 r.rpage.toNat ++ putL 2 r.rslot.toNat ++ [if r.live then 1 else 0]
def chB (r : RecR) : List UInt8 := putL 4 r.page.toNat ++ putL 1 r.ok.toNat ++ putL 2 r.oa.toNat ++ txB r.os ++ txB r.oo ++ putL 1 r.undo.toNat ++ (if r.undo = 2 then keyB r else [])
def stB (t : StR) : List UInt8 := putL 4 t.tx.toNat ++ putL 1 t.st.toNat ++ putL 8 t.last.toNat ++ putL 8 t.next.toNat
def diB (t : DiR) : List UInt8 := putL 4 t.page.toNat ++ putL 8 t.lsn.toNat
def stsB (l : List StR) : List UInt8 := (l.map stB).flatten
def disB (l : List DiR) : List UInt8 := (l.map diB).flatten
def tabB (r : RecR) : List UInt8 := putL 2 r.txs.length ++ stsB r.txs ++ putL 2 r.dirty.length ++ disB r.dirty
def headB (r : RecR) : List UInt8 := putL 1 r.kind.toNat ++ putL 4 r.tx.toNat ++ putL 8 r.prev.toNat
def recB (r : RecR) : List UInt8 := headB r ++ (if isNext r.kind then putL 8 r.next.toNat else []) ++ (if isChange r.kind then chB r else []) ++ (if r.kind = 8 then tabB r else [])
structure RecW (r : RecR) : Prop where
  prev : 0 ≤ r.prev ∧ r.prev ≤ 18446744073709551615
  next : 0 ≤ r.next ∧ r.next ≤ 18446744073709551615
  page : 0 ≤ r.page ∧ r.page ≤ 4294967295
  rpage : 0 ≤ r.rpage ∧ r.rpage ≤ 4294967295
  sts : ∀ t ∈ r.txs, (0 ≤ t.last ∧ t.last ≤ 18446744073709551615) ∧ 0 ≤ t.next ∧ t.next ≤ 18446744073709551615
  dis : ∀ t ∈ r.dirty, (0 ≤ t.page ∧ t.page ≤ 4294967295) ∧ 0 ≤ t.lsn ∧ t.lsn ≤ 18446744073709551615
theorem c8_1 : clamp8 1 = 1 := rfl
theorem c8_2 : clamp8 2 = 2 := rfl
theorem c8_4 : clamp8 4 = 4 := rfl
theorem c8_8 : clamp8 8 = 8 := rfl
theorem stB_len (t : StR) : (stB t).length = 21 := by simp [stB, putL_length]
theorem diB_len (t : DiR) : (diB t).length = 12 := by simp [diB, putL_length]
theorem stsB_len (l : List StR) : (stsB l).length = 21 * l.length := by
  induction l with
  | nil => rfl
  | cons a l ih => simp [stsB, stB_len] at ih ⊢; omega
theorem disB_len (l : List DiR) : (disB l).length = 12 * l.length := by
  induction l with
  | nil => rfl
  | cons a l ih => simp [disB, diB_len] at ih ⊢; omega
theorem stsB_take (l : List StR) (k : Nat) (h : k < l.length) : stsB (l.take (k + 1)) = stsB (l.take k) ++ stB l[k] := by
  unfold stsB
  rw [List.take_succ_eq_append_getElem h, List.map_append, List.flatten_append]
  simp
theorem disB_take (l : List DiR) (k : Nat) (h : k < l.length) : disB (l.take (k + 1)) = disB (l.take k) ++ diB l[k] := by
  unfold disB
  rw [List.take_succ_eq_append_getElem h, List.map_append, List.flatten_append]
  simp
theorem chB_len (r : RecR) (h1 : r.os.length ≤ 512) (h2 : r.oo.length ≤ 512) (h3 : r.key.length ≤ 64) : (chB r).length ≤ 2000 := by
  unfold chB keyB txB
  split <;> simp [putL_length] <;> omega
def sel (b : Bool) (l : List UInt8) : List UInt8 := if b then l else []
theorem sel_len (b : Bool) (l : List UInt8) : (sel b l).length ≤ l.length := by unfold sel; split <;> simp
theorem sel_true (l : List UInt8) : sel true l = l := rfl
theorem sel_false (l : List UInt8) : sel false l = [] := rfl
theorem sel_eq {b : Bool} {p : Prop} [Decidable p] (h : Says b p) (l : List UInt8) : sel b l = if p then l else [] := by
  cases b
  · rw [if_neg (h.not rfl)]; rfl
  · rw [if_pos (h.1 rfl)]; rfl
end Go.Gi
end
section
namespace Go.Gi
open Go.RowKit
structure ChR where
  page : Int
  ok : Int
  oa : Int
  os : List UInt8
  oo : List UInt8
  undo : Int
  index : Int
  key : List UInt8
  rpage : Int
  rslot : Int
  live : Bool
def rdCh (L : List UInt8) (a : Nat) (e : Int) : ChR × Nat × Int :=
  let q1 := rNum L a e 4
  let q2 := rNum L q1.2.1 q1.2.2 1
  let q3 := rNum L q2.2.1 q2.2.2 2
  let q4 := rText L q3.2.1 q3.2.2 512
  let q5 := rText L q4.2.1 q4.2.2 512
  let q6 := rNum L q5.2.1 q5.2.2 1
  if (q6.1 : Int) = 2 then
    let q7 := rNum L q6.2.1 q6.2.2 2
    let q8 := rText L q7.2.1 q7.2.2 64
    let q9 := rNum L q8.2.1 q8.2.2 4
    let q10 := rNum L q9.2.1 q9.2.2 2
    let q11 := rBool L q10.2.1 q10.2.2
    (⟨q1.1, q2.1, q3.1, q4.1, q5.1, q6.1, q7.1, q8.1, q9.1, q10.1, q11.1⟩, q11.2.1, q11.2.2)
  else (⟨q1.1, q2.1, q3.1, q4.1, q5.1, q6.1, 0, [], 0, 0, false⟩, q6.2.1, q6.2.2)
theorem numL_take (L : List UInt8) (n : Nat) : numL (L.take n) < 256 ^ n :=
  Nat.lt_of_lt_of_le (numL_lt _) (Nat.pow_le_pow_right (by decide) (List.length_take_le _ _))
theorem rNum_lt (L : List UInt8) (a : Nat) (e : Int) (n : Nat) : (rNum L a e n).1 < 256 ^ n := by
  have h0 : 0 < 256 ^ n := Nat.pow_pos (by decide)
  unfold rNum
  split
  · exact h0
  split
  · exact h0
  split
  · exact h0
  · simp only [Int.toNat_natCast]
    exact numL_take _ _
theorem rText_le (l : List UInt8) (a : Nat) (e most : Int) (ha : a ≤ l.length) : (rText l a e most).2.1 ≤ l.length := by
  unfold rText
  split
  · exact ha
  split
  · exact ha
  split
  · exact ha
  split
  · exact ha
  · simp only []; omega
theorem rBool_le (l : List UInt8) (a : Nat) (e : Int) (ha : a ≤ l.length) : (rBool l a e).2.1 ≤ l.length := by
  unfold rBool
  split
  · exact ha
  split
  · exact ha
  split
  · exact ha
  · simp only []; omega
structure RS (w : World) (T g : Nat) (L : List UInt8) (a : Nat) (e : Int) : Prop where
  rd : Rd w T g (bs L) a e
  at_ : a ≤ L.length
  long : (bs L).size ≤ maxLen
theorem RS.far {w : World} {T g b o : Nat} {L : List UInt8} {a : Nat} {e : Int} {u : Value} (h : RS w T g L a e) (hne : b ≠ g) : RS (w.setCell ⟨b, o, none⟩ u) T g L a e :=
  ⟨(Below.heap_setCell w ⟨b, o, none⟩ u g (fun h => hne h.symm)).trans h.rd, h.at_, h.long⟩
theorem RS.step {w w' : World} {T g : Nat} {L : List UInt8} {a : Nat} {e : Int} (h : RS w T g L a e) (hb : Below w.heap.size w w') : RS w' T g L a e := ⟨h.rd.step hb, h.at_, h.long⟩
theorem bsetB {B : Nat} {w a : World} {b o : Nat} (h : Below B w a) (hp : B ≤ b) (u : Value) : Below B w (a.setCell ⟨b, o, none⟩ u) := h.setCell hp u
theorem bgrownB {B : Nat} {w a b : World} {g : Nat} (h : Below B w a) (hg : a.grownBy b (some g)) (hB : B ≤ w.heap.size) (hr : B ≤ g) : Below B w b :=
  h.grown hg (Nat.le_trans hB h.size) (fun k hk => by injection hk; omega)
end Go.Gi
end
section
namespace Go.Gi
open Go.RowKit
def rdSt (L : List UInt8) (a : Nat) (e : Int) : StR × Nat × Int :=
  let q1 := rNum L a e 4
  let q2 := rNum L q1.2.1 q1.2.2 1
  let q3 := rNum L q2.2.1 q2.2.2 8
  let q4 := rNum L q3.2.1 q3.2.2 8
  (⟨q1.1, q2.1, q3.1, q4.1⟩, q4.2.1, q4.2.2)
def rdDi (L : List UInt8) (a : Nat) (e : Int) : DiR × Nat × Int :=
  let q1 := rNum L a e 4
  let q2 := rNum L q1.2.1 q1.2.2 8
  (⟨q1.1, q2.1⟩, q2.2.1, q2.2.2)
def rdMany {α : Type} (f : Nat → Int → α × Nat × Int) : Nat → List α → Nat → Int → List α × Nat × Int
  | 0, acc, a, e => (acc, a, e)
  | n + 1, acc, a, e => if e = 0 then rdMany f n (acc ++ [(f a e).1]) (f a e).2.1 (f a e).2.2 else (acc, a, e)
structure TabR where
  txs : List StR
  dirty : List DiR
def rdTab (L : List UInt8) (a : Nat) (e : Int) : TabR × Nat × Int :=
  let q1 := rNum L a e 2
  let q2 := rdMany (rdSt L) q1.1 [] q1.2.1 q1.2.2
  let q3 := rNum L q2.2.1 q2.2.2 2
  let q4 := rdMany (rdDi L) q3.1 [] q3.2.1 q3.2.2
  (⟨q2.1, q4.1⟩, q4.2.1, q4.2.2)
def zCh : ChR := ⟨0, 0, 0, [], [], 0, 0, [], 0, 0, false⟩
def mkRec (kind tx prev next : Int) (c : ChR) (t : TabR) : RecR := ⟨kind, tx, prev, next, c.page, c.ok, c.oa, c.os, c.oo, c.undo, c.index, c.key, c.rpage, c.rslot, c.live, t.txs, t.dirty⟩
def rdNext (L : List UInt8) (kind : Int) (a : Nat) (e : Int) : Nat × Nat × Int := if isNext kind then rNum L a e 8 else (0, a, e)
def rdChIf (L : List UInt8) (kind : Int) (a : Nat) (e : Int) : ChR × Nat × Int := if isChange kind then rdCh L a e else (zCh, a, e)
def rdTabIf (L : List UInt8) (kind : Int) (a : Nat) (e : Int) : TabR × Nat × Int := if kind = 8 then rdTab L a e else (⟨[], []⟩, a, e)
def rdRec (L : List UInt8) : RecR × Nat × Int :=
  let q1 := rNum L 0 0 1
  let q2 := rNum L q1.2.1 q1.2.2 4
  let q3 := rNum L q2.2.1 q2.2.2 8
  let q4 := rdNext L q1.1 q3.2.1 q3.2.2
  let q5 := rdChIf L q1.1 q4.2.1 q4.2.2
  let q6 := rdTabIf L q1.1 q5.2.1 q5.2.2
  (mkRec q1.1 q2.1 q3.1 q4.1 q5.1 q6.1, q6.2.1, q6.2.2)
def decOk (L : List UInt8) : Prop := rEnd L (rdRec L).2.1 (rdRec L).2.2 = 0 ∧ recOk (rdRec L).1
theorem rdMany_len {α : Type} (f : Nat → Int → α × Nat × Int) : ∀ n acc a e, (rdMany f n acc a e).1.length ≤ acc.length + n
  | 0, acc, a, e => by simp [rdMany]
  | n + 1, acc, a, e => by
    unfold rdMany
    split
    · have := rdMany_len f n (acc ++ [(f a e).1]) (f a e).2.1 (f a e).2.2
      rw [List.length_append] at this
      simp only [List.length_cons, List.length_nil] at this
      omega
    · simp only []; omega
theorem rdMany_stop {α : Type} {f : Nat → Int → α × Nat × Int} {k : Nat} {acc ts : List α} {a b : Nat} {e e' : Int} (h : rdMany f k acc a e = (ts, b, e')) (hx : ¬ (0 < k ∧ e = 0)) : ts = acc ∧ b = a ∧ e' = e := by
  cases k with
  | zero => unfold rdMany at h; injection h with h1 h2; injection h2 with h2 h3; exact ⟨h1.symm, h2.symm, h3.symm⟩
  | succ k =>
    unfold rdMany at h
    rw [if_neg (fun he => hx ⟨Nat.succ_pos k, he⟩)] at h
    injection h with h1 h2; injection h2 with h2 h3; exact ⟨h1.symm, h2.symm, h3.symm⟩
theorem rdMany_go {α : Type} {f : Nat → Int → α × Nat × Int} {k : Nat} {acc ts : List α} {a b : Nat} {e' : Int} {x : α} {a1 : Nat} {e1 : Int} (h : rdMany f (k + 1) acc a 0 = (ts, b, e')) (hf : f a 0 = (x, a1, e1)) : rdMany f k (acc ++ [x]) a1 e1 = (ts, b, e') := by
  unfold rdMany at h
  rw [if_pos rfl, hf] at h
  exact h
theorem flat_snoc {α : Type} (enc : α → List Value) (acc : List α) (x : α) : ((acc ++ [x]).map enc).flatten = (acc.map enc).flatten ++ enc x := by simp
theorem tab_len {L : List UInt8} {k : Int} {a : Nat} {e : Int} {t : TabR} {a' : Nat} {e' : Int} (h : rdTabIf L k a e = (t, a', e')) : t.txs.length ≤ 65535 ∧ t.dirty.length ≤ 65535 := by
  unfold rdTabIf at h
  split at h
  · unfold rdTab at h
    simp only at h
    injection h with h1 h2
    subst h1
    have x1 := rNum_lt L a e 2
    have x2 : ∀ a e, (rNum L a e 2).1 < 65536 := fun a e => rNum_lt L a e 2
    constructor
    · refine Nat.le_trans (rdMany_len _ _ _ _ _) ?_
      have := x2 a e
      simp only [List.length_nil]
      omega
    · refine Nat.le_trans (rdMany_len _ _ _ _ _) ?_
      have := x2 (rdMany (rdSt L) (rNum L a e 2).1 [] (rNum L a e 2).2.1 (rNum L a e 2).2.2).2.1 (rdMany (rdSt L) (rNum L a e 2).1 [] (rNum L a e 2).2.1 (rNum L a e 2).2.2).2.2
      simp only [List.length_nil]
      omega
  · injection h with h1 h2
    subst h1
    simp
end Go.Gi
end
section
namespace Go.Gi
set_option linter.unusedSimpArgs false
set_option linter.unusedVariables false
theorem drop_len {L P R : List UInt8} {a : Nat} (h : L.drop a = P ++ R) : L.drop (a + P.length) = R ∧ (a + P.length ≤ L.length ∨ P = [] ∧ R = []) := by
  constructor
  · rw [← List.drop_drop, h, List.drop_left]
  · have := congrArg List.length h
    rw [List.length_drop, List.length_append] at this
    by_cases ha : a ≤ L.length
    · left; omega
    · right
      constructor <;> (apply List.eq_nil_of_length_eq_zero; omega)
theorem cNum {L R : List UInt8} {a n v : Nat} (h : L.drop a = putL n v ++ R) (ha : a ≤ L.length) (hn : n ≤ 8) (hv : v < 256 ^ n) : rNum L a 0 n = (v, a + n, 0) ∧ L.drop (a + n) = R ∧ a + n ≤ L.length := by
  have hl := congrArg List.length h
  rw [List.length_drop, List.length_append, putL_length] at hl
  obtain ⟨h1, _⟩ := drop_len h
  rw [putL_length] at h1
  refine ⟨?_, h1, by omega⟩
  unfold rNum
  rw [if_neg (by simp), if_neg (by omega), if_neg (by omega)]
  have ht : (L.drop a).take n = putL n v := by rw [h]; exact List.take_left' (putL_length n v)
  rw [Int.toNat_natCast, ht, numL_putL, Nat.mod_eq_of_lt hv]
theorem cText {L R : List UInt8} {a : Nat} {s : List UInt8} {most : Int} (h : L.drop a = txB s ++ R) (ha : a ≤ L.length) (hs : s.length ≤ 65535) (hm : (s.length : Int) ≤ most) : rText L a 0 most = (s, a + (txB s).length, 0) ∧ L.drop (a + (txB s).length) = R ∧ a + (txB s).length ≤ L.length := by
  unfold txB at h ⊢
  have hl := congrArg List.length h
  rw [List.length_drop, List.length_append, List.length_append, putL_length] at hl
  obtain ⟨h1, _⟩ := drop_len h
  refine ⟨?_, h1, by rw [List.length_append, putL_length]; omega⟩
  rw [List.length_append, putL_length]
  have ht : (L.drop a).take 2 = putL 2 s.length := by rw [h, List.append_assoc]; exact List.take_left' (putL_length 2 _)
  have hn : numL ((L.drop a).take 2) = s.length := by rw [ht, numL_putL]; omega
  have hd : L.drop (a + 2) = s ++ R := by
    rw [← List.drop_drop, h, List.append_assoc]
    exact List.drop_left' (putL_length 2 _)
  unfold rText
  rw [if_neg (by simp), if_neg (by omega), hn, if_neg (by omega), if_neg (by omega), hd, List.take_left]
  congr 2
  omega
theorem cBool {L R : List UInt8} {a : Nat} {b : Bool} (h : L.drop a = [if b then 1 else 0] ++ R) (ha : a ≤ L.length) : rBool L a 0 = (b, a + 1, 0) ∧ L.drop (a + 1) = R ∧ a + 1 ≤ L.length := by
  have hl := congrArg List.length h
  rw [List.length_drop, List.length_append] at hl
  simp only [List.length_cons, List.length_nil] at hl
  obtain ⟨h1, _⟩ := drop_len h
  refine ⟨?_, h1, by omega⟩
  have ht : numL ((L.drop a).take 1) = if b then 1 else 0 := by rw [h]; cases b <;> rfl
  unfold rBool
  rw [if_neg (by simp), if_neg (by omega), ht]
  cases b <;> rfl
theorem sNum {L : List UInt8} {a n v a' : Nat} {e : Int} (h : rNum L a e n = (v, a', 0)) (ha : a ≤ L.length) : e = 0 ∧ L.drop a = putL n v ++ L.drop a' ∧ a' ≤ L.length := by
  unfold rNum at h
  split at h
  · rename_i he; injection h with _ h; injection h with _ h; exact absurd h he
  rename_i he
  split at h
  · injection h with _ h; injection h with _ h; cases h
  rename_i h1
  split at h
  · injection h with _ h; injection h with _ h; cases h
  rename_i h2
  injection h with hv h
  injection h with h3 _
  rw [Int.toNat_natCast] at hv h3
  have hlen : ((L.drop a).take n).length = n := by rw [List.length_take, List.length_drop]; omega
  refine ⟨by simpa using he, ?_, by omega⟩
  rw [← hv, ← h3]
  have := putL_numL ((L.drop a).take n)
  rw [hlen] at this
  rw [this, ← List.drop_drop, List.take_append_drop]
theorem sText {L : List UInt8} {a a' : Nat} {s : List UInt8} {e most : Int} (h : rText L a e most = (s, a', 0)) (ha : a ≤ L.length) : e = 0 ∧ L.drop a = txB s ++ L.drop a' ∧ a' ≤ L.length := by
  unfold rText at h
  split at h
  · rename_i he; injection h with _ h; injection h with _ h; exact absurd h he
  rename_i he
  split at h
  · injection h with _ h; injection h with _ h; cases h
  rename_i h1
  split at h
  · injection h with _ h; injection h with _ h; cases h
  rename_i h2
  split at h
  · injection h with _ h; injection h with _ h; cases h
  rename_i h3
  injection h with hv h
  injection h with h4 _
  have hlen : ((L.drop a).take 2).length = 2 := by rw [List.length_take, List.length_drop]; omega
  have hp := putL_numL ((L.drop a).take 2)
  rw [hlen] at hp
  generalize hN : numL ((L.drop a).take 2) = N at *
  have hsl : s.length = N := by rw [← hv, List.length_take, List.length_drop]; omega
  refine ⟨by simpa using he, ?_, by omega⟩
  unfold txB
  rw [hsl, hp, ← h4, ← hv, List.append_assoc, ← List.drop_drop (i := N), List.take_append_drop, ← List.drop_drop, List.take_append_drop]
theorem sBool {L : List UInt8} {a a' : Nat} {b : Bool} {e : Int} (h : rBool L a e = (b, a', 0)) (ha : a ≤ L.length) : e = 0 ∧ L.drop a = [if b then 1 else 0] ++ L.drop a' ∧ a' ≤ L.length := by
  unfold rBool at h
  split at h
  · rename_i he; injection h with _ h; injection h with _ h; exact absurd h he
  rename_i he
  split at h
  · injection h with _ h; injection h with _ h; cases h
  rename_i h1
  split at h
  · injection h with _ h; injection h with _ h; cases h
  rename_i h2
  injection h with hv h
  injection h with h4 _
  have hlen : ((L.drop a).take 1).length = 1 := by rw [List.length_take, List.length_drop]; omega
  have hp := putL_numL ((L.drop a).take 1)
  rw [hlen] at hp
  refine ⟨by simpa using he, ?_, by omega⟩
  rw [← h4, ← List.drop_drop]
  have : [if b = true then (1 : UInt8) else 0] = (L.drop a).take 1 := by
    rw [← hp, ← hv]
    generalize numL ((L.drop a).take 1) = N at *
    rcases (show N = 0 ∨ N = 1 by omega) with rfl | rfl <;> rfl
  rw [this, List.take_append_drop]
theorem sMany {α : Type} {L : List UInt8} {f : Nat → Int → α × Nat × Int} {enc : α → List UInt8} (hf : ∀ a x a', f a 0 = (x, a', 0) → a ≤ L.length → L.drop a = enc x ++ L.drop a' ∧ a' ≤ L.length) :
    ∀ n acc a e l a', rdMany f n acc a e = (l, a', 0) → a ≤ L.length → e = 0 ∧ ∃ items, l = acc ++ items ∧ items.length = n ∧ L.drop a = (items.map enc).flatten ++ L.drop a' ∧ a' ≤ L.length
  | 0, acc, a, e, l, a', h, ha => by
    unfold rdMany at h
    injection h with h1 h2
    injection h2 with h2 h3
    exact ⟨h3, [], by rw [h1, List.append_nil], rfl, by rw [h2]; rfl, by omega⟩
  | n + 1, acc, a, e, l, a', h, ha => by
    unfold rdMany at h
    by_cases he : e = 0
    · subst he
      rw [if_pos rfl] at h
      obtain ⟨x, a1, e1, hx⟩ : ∃ x a1 e1, f a 0 = (x, a1, e1) := ⟨_, _, _, rfl⟩
      rw [hx] at h
      simp only at h
      have hz : e1 = 0 := by
        cases n with
        | zero => unfold rdMany at h; injection h with _ h; injection h
        | succ n =>
          unfold rdMany at h
          by_cases hz : e1 = 0
          · exact hz
          · rw [if_neg hz] at h; injection h with _ h; injection h
      subst hz
      obtain ⟨h1, h2⟩ := hf a x a1 hx ha
      obtain ⟨_, items, k1, k2, k3, k4⟩ := sMany hf n _ _ _ _ _ h h2
      refine ⟨rfl, x :: items, by rw [k1]; simp, by simp [k2], ?_, k4⟩
      rw [h1, k3]
      simp
    · rw [if_neg he] at h
      injection h with _ h
      injection h with _ h
      exact absurd h he
theorem cMany {α : Type} {L : List UInt8} {f : Nat → Int → α × Nat × Int} {enc : α → List UInt8} {P : α → Prop} (hf : ∀ a x R, P x → L.drop a = enc x ++ R → a ≤ L.length → f a 0 = (x, a + (enc x).length, 0) ∧ L.drop (a + (enc x).length) = R ∧ a + (enc x).length ≤ L.length) :
    ∀ (items acc : List α) (a : Nat) (R : List UInt8), (∀ x ∈ items, P x) → L.drop a = (items.map enc).flatten ++ R → a ≤ L.length →
      rdMany f items.length acc a 0 = (acc ++ items, a + (items.map enc).flatten.length, 0) ∧ L.drop (a + (items.map enc).flatten.length) = R ∧ a + (items.map enc).flatten.length ≤ L.length
  | [], acc, a, R, _, h, ha => by simpa [rdMany] using ⟨h, ha⟩
  | x :: items, acc, a, R, hp, h, ha => by
    rw [List.map_cons, List.flatten_cons, List.append_assoc] at h
    obtain ⟨h1, h2, h3⟩ := hf a x _ (hp x (by simp)) h ha
    obtain ⟨k1, k2, k3⟩ := cMany hf items (acc ++ [x]) _ R (fun y hy => hp y (by simp [hy])) h2 h3
    rw [List.length_cons, rdMany, if_pos rfl, h1]
    simp only [List.map_cons, List.flatten_cons, List.length_append]
    rw [← Nat.add_assoc]
    exact ⟨by rw [k1]; simp, k2, k3⟩
end Go.Gi
end
section
namespace Go.Gi
set_option linter.unusedSimpArgs false
set_option linter.unusedVariables false
def chC (c : ChR) : List UInt8 := chB (mkRec 0 0 0 0 c ⟨[], []⟩)
def tabC (t : TabR) : List UInt8 := tabB (mkRec 0 0 0 0 zCh t)
theorem chB_no (r : RecR) (h : ¬ r.undo = 2) : chB r = putL 4 r.page.toNat ++ putL 1 r.ok.toNat ++ putL 2 r.oa.toNat ++ txB r.os ++ txB r.oo ++ putL 1 r.undo.toNat := by unfold chB; rw [if_neg h, List.append_nil]
theorem chB_yes (r : RecR) (h : r.undo = 2) : chB r = putL 4 r.page.toNat ++ putL 1 r.ok.toNat ++ putL 2 r.oa.toNat ++ txB r.os ++ txB r.oo ++ putL 1 r.undo.toNat ++ keyB r := by unfold chB; rw [if_pos h]
theorem sCh {L : List UInt8} {a a' : Nat} {e : Int} {c : ChR} (h : rdCh L a e = (c, a', 0)) (ha : a ≤ L.length) : e = 0 ∧ L.drop a = chC c ++ L.drop a' ∧ a' ≤ L.length := by
  obtain ⟨v1, a1, e1, h1⟩ : ∃ v a' e', rNum L a e 4 = (v, a', e') := ⟨_, _, _, rfl⟩
  have l1 : a1 ≤ L.length := by have := rNum_le L a e 4 ha; rw [h1] at this; exact this
  obtain ⟨v2, a2, e2, h2⟩ : ∃ v a' e', rNum L a1 e1 1 = (v, a', e') := ⟨_, _, _, rfl⟩
  have l2 : a2 ≤ L.length := by have := rNum_le L a1 e1 1 l1; rw [h2] at this; exact this
  obtain ⟨v3, a3, e3, h3⟩ : ∃ v a' e', rNum L a2 e2 2 = (v, a', e') := ⟨_, _, _, rfl⟩
  have l3 : a3 ≤ L.length := by have := rNum_le L a2 e2 2 l2; rw [h3] at this; exact this
  obtain ⟨v4, a4, e4, h4⟩ : ∃ v a' e', rText L a3 e3 512 = (v, a', e') := ⟨_, _, _, rfl⟩
  have l4 : a4 ≤ L.length := by have := rText_le L a3 e3 512 l3; rw [h4] at this; exact this
  obtain ⟨v5, a5, e5, h5⟩ : ∃ v a' e', rText L a4 e4 512 = (v, a', e') := ⟨_, _, _, rfl⟩
  have l5 : a5 ≤ L.length := by have := rText_le L a4 e4 512 l4; rw [h5] at this; exact this
  obtain ⟨v6, a6, e6, h6⟩ : ∃ v a' e', rNum L a5 e5 1 = (v, a', e') := ⟨_, _, _, rfl⟩
  have l6 : a6 ≤ L.length := by have := rNum_le L a5 e5 1 l5; rw [h6] at this; exact this
  obtain ⟨v7, a7, e7, h7⟩ : ∃ v a' e', rNum L a6 e6 2 = (v, a', e') := ⟨_, _, _, rfl⟩
  have l7 : a7 ≤ L.length := by have := rNum_le L a6 e6 2 l6; rw [h7] at this; exact this
  obtain ⟨v8, a8, e8, h8⟩ : ∃ v a' e', rText L a7 e7 64 = (v, a', e') := ⟨_, _, _, rfl⟩
  have l8 : a8 ≤ L.length := by have := rText_le L a7 e7 64 l7; rw [h8] at this; exact this
  obtain ⟨v9, a9, e9, h9⟩ : ∃ v a' e', rNum L a8 e8 4 = (v, a', e') := ⟨_, _, _, rfl⟩
  have l9 : a9 ≤ L.length := by have := rNum_le L a8 e8 4 l8; rw [h9] at this; exact this
  obtain ⟨v10, a10, e10, h10⟩ : ∃ v a' e', rNum L a9 e9 2 = (v, a', e') := ⟨_, _, _, rfl⟩
  have l10 : a10 ≤ L.length := by have := rNum_le L a9 e9 2 l9; rw [h10] at this; exact this
  obtain ⟨v11, a11, e11, h11⟩ : ∃ v a' e', rBool L a10 e10 = (v, a', e') := ⟨_, _, _, rfl⟩
  have l11 : a11 ≤ L.length := by have := rBool_le L a10 e10 l10; rw [h11] at this; exact this
  simp only [rdCh, h1, h2, h3, h4, h5, h6, h7, h8, h9, h10, h11] at h
  by_cases hu : (v6 : Int) = 2
  · rw [if_pos hu] at h
    injection h with k1 k2
    injection k2 with k2 k3
    subst k3
    obtain ⟨z11, d11, _⟩ := sBool h11 l10
    subst z11
    obtain ⟨z10, d10, _⟩ := sNum (n := 2) h10 l9
    subst z10
    obtain ⟨z9, d9, _⟩ := sNum (n := 4) h9 l8
    subst z9
    obtain ⟨z8, d8, _⟩ := sText h8 l7
    subst z8
    obtain ⟨z7, d7, _⟩ := sNum (n := 2) h7 l6
    subst z7
    obtain ⟨z6, d6, _⟩ := sNum (n := 1) h6 l5
    subst z6
    obtain ⟨z5, d5, _⟩ := sText h5 l4
    subst z5
    obtain ⟨z4, d4, _⟩ := sText h4 l3
    subst z4
    obtain ⟨z3, d3, _⟩ := sNum (n := 2) h3 l2
    subst z3
    obtain ⟨z2, d2, _⟩ := sNum (n := 1) h2 l1
    subst z2
    obtain ⟨z1, d1, _⟩ := sNum (n := 4) h1 ha
    refine ⟨z1, ?_, by rw [← k2]; exact l11⟩
    rw [d1, d2, d3, d4, d5, d6, d7, d8, d9, d10, d11, ← k1, ← k2]
    rw [chC, chB_yes (mkRec 0 0 0 0 ⟨v1, v2, v3, v4, v5, v6, v7, v8, v9, v10, v11⟩ ⟨[], []⟩) hu]
    simp only [keyB, mkRec, Int.toNat_natCast, List.append_assoc]
    rfl
  · rw [if_neg hu] at h
    injection h with k1 k2
    injection k2 with k2 k3
    subst k3
    obtain ⟨z6, d6, _⟩ := sNum (n := 1) h6 l5
    subst z6
    obtain ⟨z5, d5, _⟩ := sText h5 l4
    subst z5
    obtain ⟨z4, d4, _⟩ := sText h4 l3
    subst z4
    obtain ⟨z3, d3, _⟩ := sNum (n := 2) h3 l2
    subst z3
    obtain ⟨z2, d2, _⟩ := sNum (n := 1) h2 l1
    subst z2
    obtain ⟨z1, d1, _⟩ := sNum (n := 4) h1 ha
    refine ⟨z1, ?_, by rw [← k2]; exact l6⟩
    rw [d1, d2, d3, d4, d5, d6, ← k1, ← k2]
    rw [chC, chB_no (mkRec 0 0 0 0 ⟨v1, v2, v3, v4, v5, v6, 0, [], 0, 0, false⟩ ⟨[], []⟩) hu]
    simp only [mkRec, Int.toNat_natCast, List.append_assoc]
theorem sSt {L : List UInt8} {a a' : Nat} {c : StR} (h : rdSt L a 0 = (c, a', 0)) (ha : a ≤ L.length) : L.drop a = stB c ++ L.drop a' ∧ a' ≤ L.length := by
  obtain ⟨v1, a1, e1, h1⟩ : ∃ v a' e', rNum L a 0 4 = (v, a', e') := ⟨_, _, _, rfl⟩
  obtain ⟨v2, a2, e2, h2⟩ : ∃ v a' e', rNum L a1 e1 1 = (v, a', e') := ⟨_, _, _, rfl⟩
  obtain ⟨v3, a3, e3, h3⟩ : ∃ v a' e', rNum L a2 e2 8 = (v, a', e') := ⟨_, _, _, rfl⟩
  obtain ⟨v4, a4, e4, h4⟩ : ∃ v a' e', rNum L a3 e3 8 = (v, a', e') := ⟨_, _, _, rfl⟩
  have l1 : a1 ≤ L.length := by have := rNum_le L a 0 4 ha; rw [h1] at this; exact this
  have l2 : a2 ≤ L.length := by have := rNum_le L a1 e1 1 l1; rw [h2] at this; exact this
  have l3 : a3 ≤ L.length := by have := rNum_le L a2 e2 8 l2; rw [h3] at this; exact this
  simp only [rdSt, h1, h2, h3, h4] at h
  injection h with k1 k2
  injection k2 with k2 k3
  subst k3
  obtain ⟨z4, d4, l4⟩ := sNum (n := 8) h4 l3
  subst z4
  obtain ⟨z3, d3, _⟩ := sNum (n := 8) h3 l2
  subst z3
  obtain ⟨z2, d2, _⟩ := sNum (n := 1) h2 l1
  subst z2
  obtain ⟨z1, d1, _⟩ := sNum (n := 4) h1 ha
  refine ⟨?_, by rw [← k2]; exact l4⟩
  rw [d1, d2, d3, d4, ← k1, ← k2]
  simp only [stB, Int.toNat_natCast, List.append_assoc]
theorem sDi {L : List UInt8} {a a' : Nat} {c : DiR} (h : rdDi L a 0 = (c, a', 0)) (ha : a ≤ L.length) : L.drop a = diB c ++ L.drop a' ∧ a' ≤ L.length := by
  obtain ⟨v1, a1, e1, h1⟩ : ∃ v a' e', rNum L a 0 4 = (v, a', e') := ⟨_, _, _, rfl⟩
  obtain ⟨v2, a2, e2, h2⟩ : ∃ v a' e', rNum L a1 e1 8 = (v, a', e') := ⟨_, _, _, rfl⟩
  have l1 : a1 ≤ L.length := by have := rNum_le L a 0 4 ha; rw [h1] at this; exact this
  simp only [rdDi, h1, h2] at h
  injection h with k1 k2
  injection k2 with k2 k3
  subst k3
  obtain ⟨z2, d2, l2⟩ := sNum (n := 8) h2 l1
  subst z2
  obtain ⟨z1, d1, _⟩ := sNum (n := 4) h1 ha
  refine ⟨?_, by rw [← k2]; exact l2⟩
  rw [d1, d2, ← k1, ← k2]
  simp only [diB, Int.toNat_natCast, List.append_assoc]
theorem rdMany_le {α : Type} {L : List UInt8} {f : Nat → Int → α × Nat × Int} (hf : ∀ a e, a ≤ L.length → (f a e).2.1 ≤ L.length) : ∀ n acc a e, a ≤ L.length → (rdMany f n acc a e).2.1 ≤ L.length
  | 0, acc, a, e, h => h
  | n + 1, acc, a, e, h => by
    unfold rdMany
    split
    · exact rdMany_le hf n _ _ _ (hf _ _ h)
    · exact h
theorem rdSt_le {L : List UInt8} (a : Nat) (e : Int) (ha : a ≤ L.length) : (rdSt L a e).2.1 ≤ L.length := by
  unfold rdSt
  exact rNum_le _ _ _ _ (rNum_le _ _ _ _ (rNum_le _ _ _ _ (rNum_le _ _ _ _ ha)))
theorem rdDi_le {L : List UInt8} (a : Nat) (e : Int) (ha : a ≤ L.length) : (rdDi L a e).2.1 ≤ L.length := by
  unfold rdDi
  exact rNum_le _ _ _ _ (rNum_le _ _ _ _ ha)
theorem rdCh_le {L : List UInt8} (a : Nat) (e : Int) (ha : a ≤ L.length) : (rdCh L a e).2.1 ≤ L.length := by
  unfold rdCh
  simp only []
  split
  · exact rBool_le _ _ _ (rNum_le _ _ _ _ (rNum_le _ _ _ _ (rText_le _ _ _ _ (rNum_le _ _ _ _ (rNum_le _ _ _ _ (rText_le _ _ _ _ (rText_le _ _ _ _ (rNum_le _ _ _ _ (rNum_le _ _ _ _ (rNum_le _ _ _ _ ha))))))))))
  · exact rNum_le _ _ _ _ (rText_le _ _ _ _ (rText_le _ _ _ _ (rNum_le _ _ _ _ (rNum_le _ _ _ _ (rNum_le _ _ _ _ ha)))))
theorem sTab {L : List UInt8} {a a' : Nat} {e : Int} {t : TabR} (h : rdTab L a e = (t, a', 0)) (ha : a ≤ L.length) : e = 0 ∧ L.drop a = tabC t ++ L.drop a' ∧ a' ≤ L.length := by
  obtain ⟨n1, a1, e1, h1⟩ : ∃ v a' e', rNum L a e 2 = (v, a', e') := ⟨_, _, _, rfl⟩
  obtain ⟨ts, a2, e2, h2⟩ : ∃ v a' e', rdMany (rdSt L) n1 [] a1 e1 = (v, a', e') := ⟨_, _, _, rfl⟩
  obtain ⟨n3, a3, e3, h3⟩ : ∃ v a' e', rNum L a2 e2 2 = (v, a', e') := ⟨_, _, _, rfl⟩
  obtain ⟨ds, a4, e4, h4⟩ : ∃ v a' e', rdMany (rdDi L) n3 [] a3 e3 = (v, a', e') := ⟨_, _, _, rfl⟩
  have l1 : a1 ≤ L.length := by have := rNum_le L a e 2 ha; rw [h1] at this; exact this
  have l2 : a2 ≤ L.length := by have := rdMany_le (fun a e ha => rdSt_le a e ha) n1 [] a1 e1 l1; rw [h2] at this; exact this
  have l3 : a3 ≤ L.length := by have := rNum_le L a2 e2 2 l2; rw [h3] at this; exact this
  simp only [rdTab, h1, h2, h3, h4] at h
  injection h with k1 k2
  injection k2 with k2 k3
  subst k3
  obtain ⟨z3, i4, m4, n4, d4, l4⟩ := sMany (enc := diB) (fun a x a' h ha => sDi h ha) n3 [] a3 e3 ds a4 h4 l3
  subst z3
  obtain ⟨z2, d3, _⟩ := sNum (n := 2) h3 l2
  subst z2
  obtain ⟨z1, i2, m2, n2, d2, _⟩ := sMany (enc := stB) (fun a x a' h ha => sSt h ha) n1 [] a1 e1 ts a2 h2 l1
  subst z1
  obtain ⟨z0, d1, _⟩ := sNum (n := 2) h1 ha
  refine ⟨z0, ?_, by rw [← k2]; exact l4⟩
  rw [List.nil_append] at m2 m4
  rw [d1, d2, d3, d4, ← k1, ← k2]
  simp only [tabC, tabB, mkRec, stsB, disB, m2, m4, n2, n4, List.append_assoc]
theorem sRec {L : List UInt8} (h : decOk L) : recB (rdRec L).1 = L := by
  obtain ⟨v1, a1, e1, h1⟩ : ∃ v a' e', rNum L 0 0 1 = (v, a', e') := ⟨_, _, _, rfl⟩
  obtain ⟨v2, a2, e2, h2⟩ : ∃ v a' e', rNum L a1 e1 4 = (v, a', e') := ⟨_, _, _, rfl⟩
  obtain ⟨v3, a3, e3, h3⟩ : ∃ v a' e', rNum L a2 e2 8 = (v, a', e') := ⟨_, _, _, rfl⟩
  obtain ⟨v4, a4, e4, h4⟩ : ∃ v a' e', rdNext L v1 a3 e3 = (v, a', e') := ⟨_, _, _, rfl⟩
  obtain ⟨c5, a5, e5, h5⟩ : ∃ v a' e', rdChIf L v1 a4 e4 = (v, a', e') := ⟨_, _, _, rfl⟩
  obtain ⟨t6, a6, e6, h6⟩ : ∃ v a' e', rdTabIf L v1 a5 e5 = (v, a', e') := ⟨_, _, _, rfl⟩
  have hrec : rdRec L = (mkRec v1 v2 v3 v4 c5 t6, a6, e6) := by simp only [rdRec, h1, h2, h3, h4, h5, h6]
  unfold decOk at h
  rw [hrec] at h ⊢
  simp only at h ⊢
  have l0 : 0 ≤ L.length := Nat.zero_le _
  have l1 : a1 ≤ L.length := by have := rNum_le L 0 0 1 l0; rw [h1] at this; exact this
  have l2 : a2 ≤ L.length := by have := rNum_le L a1 e1 4 l1; rw [h2] at this; exact this
  have l3 : a3 ≤ L.length := by have := rNum_le L a2 e2 8 l2; rw [h3] at this; exact this
  have l4 : a4 ≤ L.length := by
    unfold rdNext at h4
    split at h4
    · have := rNum_le L a3 e3 8 l3; rw [h4] at this; exact this
    · injection h4 with _ h4; injection h4 with h4 _; rw [← h4]; exact l3
  have l5 : a5 ≤ L.length := by
    unfold rdChIf at h5
    split at h5
    · have := rdCh_le a4 e4 l4; rw [h5] at this; exact this
    · injection h5 with _ h5; injection h5 with h5 _; rw [← h5]; exact l4
  have hE := h.1
  have hz6 : e6 = 0 := by
    unfold rEnd rFail at hE
    split at hE
    · split at hE
      · cases hE
      · exact hE
    · exact hE
  subst hz6
  have d6 : e5 = 0 ∧ L.drop a5 = (if (v1 : Int) = 8 then tabC t6 else []) ++ L.drop a6 ∧ a6 ≤ L.length := by
    unfold rdTabIf at h6
    by_cases hk : (v1 : Int) = 8
    · rw [if_pos hk] at h6 ⊢
      exact sTab h6 l5
    · rw [if_neg hk] at h6 ⊢
      injection h6 with _ h6; injection h6 with x y
      exact ⟨y, by rw [x]; rfl, by rw [← x]; exact l5⟩
  obtain ⟨z5, d6, l6⟩ := d6
  subst z5
  have d5 : e4 = 0 ∧ L.drop a4 = (if isChange (v1 : Int) then chC c5 else []) ++ L.drop a5 := by
    unfold rdChIf at h5
    by_cases hk : isChange (v1 : Int)
    · rw [if_pos hk] at h5 ⊢
      obtain ⟨x, y, _⟩ := sCh h5 l4
      exact ⟨x, y⟩
    · rw [if_neg hk] at h5 ⊢
      injection h5 with _ h5; injection h5 with x y
      exact ⟨y, by rw [x]; rfl⟩
  obtain ⟨z4, d5⟩ := d5
  subst z4
  have d4 : e3 = 0 ∧ L.drop a3 = (if isNext (v1 : Int) then putL 8 v4 else []) ++ L.drop a4 := by
    unfold rdNext at h4
    by_cases hk : isNext (v1 : Int)
    · rw [if_pos hk] at h4 ⊢
      obtain ⟨x, y, _⟩ := sNum (n := 8) h4 l3
      exact ⟨x, y⟩
    · rw [if_neg hk] at h4 ⊢
      injection h4 with _ h4; injection h4 with x y
      exact ⟨y, by rw [x]; rfl⟩
  obtain ⟨z3, d4⟩ := d4
  subst z3
  obtain ⟨z2, d3, _⟩ := sNum (n := 8) h3 l2
  subst z2
  obtain ⟨z1, d2, _⟩ := sNum (n := 4) h2 l1
  subst z1
  obtain ⟨_, d1, _⟩ := sNum (n := 1) h1 l0
  have hend : L.drop a6 = [] := by
    unfold rEnd at hE
    split at hE
    · cases hE
    · rename_i hx
      exact List.drop_eq_nil_of_le (by omega)
  rw [hend, List.append_nil] at d6
  have hall : L = putL 1 v1 ++ (putL 4 v2 ++ (putL 8 v3 ++ ((if isNext (v1 : Int) then putL 8 v4 else []) ++ ((if isChange (v1 : Int) then chC c5 else []) ++ (if (v1 : Int) = 8 then tabC t6 else []))))) := by
    rw [← d6, ← d5, ← d4, ← d3, ← d2, ← d1]; rfl
  conv => rhs; rw [hall]
  show headB _ ++ _ ++ _ ++ _ = _
  simp only [headB, mkRec, Int.toNat_natCast, List.append_assoc]
  rfl
end Go.Gi
end
section
namespace Go.Gi
set_option linter.unusedSimpArgs false
set_option linter.unusedVariables false
theorem nc1 : ((1 : Nat) : Int) = 1 := rfl
theorem nc2 : ((2 : Nat) : Int) = 2 := rfl
theorem nc4 : ((4 : Nat) : Int) = 4 := rfl
theorem nc8 : ((8 : Nat) : Int) = 8 := rfl
def chOf (r : RecR) : ChR := ⟨r.page, r.ok, r.oa, r.os, r.oo, r.undo, r.index, r.key, r.rpage, r.rslot, r.live⟩
theorem toN {x : Int} (h : 0 ≤ x) : ((x.toNat : Nat) : Int) = x := Int.toNat_of_nonneg h
theorem cCh {L R : List UInt8} {a : Nat} (r : RecR) (h : L.drop a = chB r ++ R) (ha : a ≤ L.length) (p1 : 0 ≤ r.page ∧ r.page ≤ 4294967295) (p2 : 0 ≤ r.ok ∧ r.ok ≤ 255) (p3 : 0 ≤ r.oa ∧ r.oa ≤ 65535) (p4 : r.os.length ≤ 512) (p5 : r.oo.length ≤ 512) (p6 : 0 ≤ r.undo ∧ r.undo ≤ 2)
    (p7 : 0 ≤ r.index ∧ r.index ≤ 65535) (p8 : r.key.length ≤ 64) (p9 : 0 ≤ r.rpage ∧ r.rpage ≤ 4294967295) (p10 : 0 ≤ r.rslot ∧ r.rslot ≤ 65535) (p11 : ¬ r.undo = 2 → r.index = 0 ∧ r.key.length = 0 ∧ r.rpage = 0 ∧ r.rslot = 0 ∧ r.live = false) :
    rdCh L a 0 = (chOf r, a + (chB r).length, 0) ∧ L.drop (a + (chB r).length) = R ∧ a + (chB r).length ≤ L.length := by
  have hd := drop_len h
  have hlen : a + (chB r).length ≤ L.length := by
    have := congrArg List.length h
    rw [List.length_drop, List.length_append] at this
    omega
  refine ⟨?_, hd.1, hlen⟩
  by_cases hu : r.undo = 2
  · rw [chB_yes r hu] at h ⊢
    unfold keyB at h ⊢
    simp only [List.append_assoc] at h
    obtain ⟨q1, h1, l1⟩ := cNum (n := 4) h ha (by omega) (by omega)
    obtain ⟨q2, h2, l2⟩ := cNum (n := 1) h1 l1 (by omega) (by omega)
    obtain ⟨q3, h3, l3⟩ := cNum (n := 2) h2 l2 (by omega) (by omega)
    obtain ⟨q4, h4, l4⟩ := cText (most := 512) h3 l3 (by omega) (by omega)
    obtain ⟨q5, h5, l5⟩ := cText (most := 512) h4 l4 (by omega) (by omega)
    obtain ⟨q6, h6, l6⟩ := cNum (n := 1) h5 l5 (by omega) (by omega)
    obtain ⟨q7, h7, l7⟩ := cNum (n := 2) h6 l6 (by omega) (by omega)
    obtain ⟨q8, h8, l8⟩ := cText (most := 64) h7 l7 (by omega) (by omega)
    obtain ⟨q9, h9, l9⟩ := cNum (n := 4) h8 l8 (by omega) (by omega)
    obtain ⟨q10, h10, l10⟩ := cNum (n := 2) h9 l9 (by omega) (by omega)
    obtain ⟨q11, h11, l11⟩ := cBool h10 l10
    have hu2 : ((r.undo.toNat : Nat) : Int) = 2 := by omega
    simp only [nc1, nc2, nc4, nc8] at q1 q2 q3 q6 q7 q9 q10
    unfold rdCh
    simp only [q1, q2, q3, q4, q5, q6, q7, q8, q9, q10, q11, if_pos hu2]
    unfold chOf
    rw [toN p1.1, toN p2.1, toN p3.1, toN p6.1, toN p7.1, toN p9.1, toN p10.1]
    congr 2
    simp only [List.length_append, putL_length, List.length_cons, List.length_nil]
    omega
  · obtain ⟨x7, x8, x9, x10, x11⟩ := p11 hu
    rw [chB_no r hu] at h ⊢
    simp only [List.append_assoc] at h
    obtain ⟨q1, h1, l1⟩ := cNum (n := 4) h ha (by omega) (by omega)
    obtain ⟨q2, h2, l2⟩ := cNum (n := 1) h1 l1 (by omega) (by omega)
    obtain ⟨q3, h3, l3⟩ := cNum (n := 2) h2 l2 (by omega) (by omega)
    obtain ⟨q4, h4, l4⟩ := cText (most := 512) h3 l3 (by omega) (by omega)
    obtain ⟨q5, h5, l5⟩ := cText (most := 512) h4 l4 (by omega) (by omega)
    obtain ⟨q6, h6, l6⟩ := cNum (n := 1) h5 l5 (by omega) (by omega)
    have hu2 : ¬ ((r.undo.toNat : Nat) : Int) = 2 := by omega
    simp only [nc1, nc2, nc4, nc8] at q1 q2 q3 q6
    unfold rdCh
    simp only [q1, q2, q3, q4, q5, q6, if_neg hu2]
    unfold chOf
    rw [toN p1.1, toN p2.1, toN p3.1, toN p6.1, x7, List.eq_nil_of_length_eq_zero x8, x9, x10, x11]
    congr 2
    simp only [List.length_append, putL_length]
    omega
theorem cSt {L R : List UInt8} {a : Nat} {t : StR} (hp : okSt t ∧ (0 ≤ t.last ∧ t.last ≤ 18446744073709551615) ∧ 0 ≤ t.next ∧ t.next ≤ 18446744073709551615) (h : L.drop a = stB t ++ R) (ha : a ≤ L.length) :
    rdSt L a 0 = (t, a + (stB t).length, 0) ∧ L.drop (a + (stB t).length) = R ∧ a + (stB t).length ≤ L.length := by
  have hd := drop_len h
  have hlen : a + (stB t).length ≤ L.length := by
    have := congrArg List.length h
    rw [List.length_drop, List.length_append] at this
    omega
  refine ⟨?_, hd.1, hlen⟩
  obtain ⟨⟨o1, o2, o3, o4⟩, p1, p2⟩ := hp
  rw [stB_len]
  unfold stB at h
  simp only [List.append_assoc] at h
  obtain ⟨q1, h1, l1⟩ := cNum (n := 4) h ha (by omega) (by omega)
  obtain ⟨q2, h2, l2⟩ := cNum (n := 1) h1 l1 (by omega) (by omega)
  obtain ⟨q3, h3, l3⟩ := cNum (n := 8) h2 l2 (by omega) (by omega)
  obtain ⟨q4, h4, l4⟩ := cNum (n := 8) h3 l3 (by omega) (by omega)
  simp only [nc1, nc2, nc4, nc8] at q1 q2 q3 q4
  unfold rdSt
  simp only [q1, q2, q3, q4]
  rw [toN o1, toN (by omega), toN p1.1, toN p2.1]
theorem cDi {L R : List UInt8} {a : Nat} {t : DiR} (hp : (0 ≤ t.page ∧ t.page ≤ 4294967295) ∧ 0 ≤ t.lsn ∧ t.lsn ≤ 18446744073709551615) (h : L.drop a = diB t ++ R) (ha : a ≤ L.length) :
    rdDi L a 0 = (t, a + (diB t).length, 0) ∧ L.drop (a + (diB t).length) = R ∧ a + (diB t).length ≤ L.length := by
  have hd := drop_len h
  have hlen : a + (diB t).length ≤ L.length := by
    have := congrArg List.length h
    rw [List.length_drop, List.length_append] at this
    omega
  refine ⟨?_, hd.1, hlen⟩
  obtain ⟨p1, p2⟩ := hp
  rw [diB_len]
  unfold diB at h
  simp only [List.append_assoc] at h
  obtain ⟨q1, h1, l1⟩ := cNum (n := 4) h ha (by omega) (by omega)
  obtain ⟨q2, h2, l2⟩ := cNum (n := 8) h1 l1 (by omega) (by omega)
  simp only [nc1, nc2, nc4, nc8] at q1 q2
  unfold rdDi
  simp only [q1, q2]
  rw [toN p1.1, toN p2.1]
theorem cTab {L R : List UInt8} {a : Nat} (r : RecR) (h : L.drop a = tabB r ++ R) (ha : a ≤ L.length) (h1 : r.txs.length ≤ 64) (h2 : r.dirty.length ≤ 256) (h3 : ∀ t ∈ r.txs, okSt t) (hw : RecW r) :
    rdTab L a 0 = (⟨r.txs, r.dirty⟩, a + (tabB r).length, 0) ∧ L.drop (a + (tabB r).length) = R ∧ a + (tabB r).length ≤ L.length := by
  have hd := drop_len h
  have hlen : a + (tabB r).length ≤ L.length := by
    have := congrArg List.length h
    rw [List.length_drop, List.length_append] at this
    omega
  refine ⟨?_, hd.1, hlen⟩
  unfold tabB at h ⊢
  unfold stsB disB at h ⊢
  simp only [List.append_assoc] at h
  obtain ⟨q1, k1, l1⟩ := cNum (n := 2) h ha (by omega) (by omega)
  obtain ⟨q2, k2, l2⟩ := cMany (f := rdSt L) (enc := stB) (P := fun t => okSt t ∧ (0 ≤ t.last ∧ t.last ≤ 18446744073709551615) ∧ 0 ≤ t.next ∧ t.next ≤ 18446744073709551615) (fun a x R hp hh hl => cSt hp hh hl) r.txs [] _ _ (fun t ht => ⟨h3 t ht, hw.sts t ht⟩) k1 l1
  obtain ⟨q3, k3, l3⟩ := cNum (n := 2) k2 l2 (by omega) (by omega)
  obtain ⟨q4, k4, l4⟩ := cMany (f := rdDi L) (enc := diB) (P := fun t => (0 ≤ t.page ∧ t.page ≤ 4294967295) ∧ 0 ≤ t.lsn ∧ t.lsn ≤ 18446744073709551615) (fun a x R hp hh hl => cDi hp hh hl) r.dirty [] _ _ (fun t ht => hw.dis t ht) k3 l3
  simp only [nc1, nc2, nc4, nc8, List.nil_append] at q1 q2 q3 q4
  unfold rdTab
  simp only [q1, q2, q3, q4]
  congr 2
  simp only [List.length_append, putL_length]
  omega
theorem cRec (r : RecR) (hr : recOk r) (hw : RecW r) (q : List UInt8) : rdRec (recB r ++ q) = (r, (recB r).length, 0) := by
  obtain ⟨⟨⟨⟨⟨⟨g1, g2⟩, g3⟩, g4⟩, g5⟩, g6⟩, g7⟩ := hr
  obtain ⟨o1, o2, o3, o4⟩ := g1
  obtain ⟨L, hL⟩ : ∃ L, L = recB r ++ q := ⟨_, rfl⟩
  rw [← hL]
  have hlenL : (recB r).length ≤ L.length := by rw [hL]; simp
  have h0 : L.drop 0 = recB r ++ q := by rw [hL]; rfl
  unfold recB headB at h0
  simp only [List.append_assoc] at h0
  obtain ⟨q1, h1, l1⟩ := cNum (n := 1) h0 (Nat.zero_le _) (by omega) (by omega)
  obtain ⟨q2, h2, l2⟩ := cNum (n := 4) h1 l1 (by omega) (by omega)
  obtain ⟨q3, h3, l3⟩ := cNum (n := 8) h2 l2 (by omega) (by have := hw.prev; omega)
  simp only [nc1, nc2, nc4, nc8] at q1 q2 q3
  have hkk : ((r.kind.toNat : Nat) : Int) = r.kind := toN (by omega)
  have q4 : rdNext L r.kind (0 + 1 + 4 + 8) 0 = (r.next.toNat, 0 + 1 + 4 + 8 + (if isNext r.kind then putL 8 r.next.toNat else []).length, 0) ∧ L.drop (0 + 1 + 4 + 8 + (if isNext r.kind then putL 8 r.next.toNat else []).length) = (if isChange r.kind then chB r else []) ++ ((if r.kind = 8 then tabB r else []) ++ q) ∧ 0 + 1 + 4 + 8 + (if isNext r.kind then putL 8 r.next.toNat else []).length ≤ L.length := by
    unfold rdNext
    by_cases hk : isNext r.kind
    · simp only [if_pos hk] at h3 ⊢
      obtain ⟨x, y, z⟩ := cNum (n := 8) h3 l3 (by omega) (by have := hw.next; omega)
      simp only [nc1, nc2, nc4, nc8] at x
      rw [putL_length]
      exact ⟨x, y, z⟩
    · simp only [if_neg hk] at h3 ⊢
      have hn : r.next = 0 := g5.1.resolve_left hk
      rw [hn]
      exact ⟨rfl, h3, l3⟩
  obtain ⟨q4, h4, l4⟩ := q4
  generalize 0 + 1 + 4 + 8 + (if isNext r.kind then putL 8 r.next.toNat else []).length = a4 at *
  have hkey : (0 ≤ r.index ∧ r.index ≤ 65535) ∧ r.key.length ≤ 64 ∧ (0 ≤ r.rslot ∧ r.rslot ≤ 65535) ∧ (¬ r.undo = 2 → r.index = 0 ∧ r.key.length = 0 ∧ r.rpage = 0 ∧ r.rslot = 0 ∧ r.live = false) := by
    by_cases hu : r.undo = 2
    · have := (okKey_yes hu).1 g4
      exact ⟨by omega, by omega, by omega, fun h => absurd hu h⟩
    · have := (okKey_no hu).1 g4
      exact ⟨by omega, by omega, by omega, fun _ => ⟨this.1, this.2.1.1, this.2.1.2.1, this.2.1.2.2, this.2.2⟩⟩
  obtain ⟨y1, y2, y3, y4⟩ := hkey
  have q5 : rdChIf L r.kind a4 0 = (chOf r, a4 + (if isChange r.kind then chB r else []).length, 0) ∧ L.drop (a4 + (if isChange r.kind then chB r else []).length) = (if r.kind = 8 then tabB r else []) ++ q ∧ a4 + (if isChange r.kind then chB r else []).length ≤ L.length := by
    unfold rdChIf
    by_cases hk : isChange r.kind
    · simp only [if_pos hk] at h4 ⊢
      have ho := ((okOp_yes hk).1 g3).2
      unfold opOk at ho
      exact cCh r h4 l4 hw.page (by omega) (by omega) (by omega) (by omega) g2 y1 y2 hw.rpage y3 y4
    · simp only [if_neg hk] at h4 ⊢
      obtain ⟨z1, ⟨z2, z3, z4, z5⟩, z6⟩ := (okOp_no hk).1 g3
      obtain ⟨z7, z8, z9, z10, z11⟩ := y4 (by omega)
      refine ⟨?_, h4, l4⟩
      unfold chOf zCh
      rw [z1, z2, z3, List.eq_nil_of_length_eq_zero z4, List.eq_nil_of_length_eq_zero z5, z6, z7, List.eq_nil_of_length_eq_zero z8, z9, z10, z11]
      rfl
  obtain ⟨q5, h5, l5⟩ := q5
  have q6 : ∃ a6, rdTabIf L r.kind (a4 + (if isChange r.kind then chB r else []).length) 0 = (⟨r.txs, r.dirty⟩, a6, 0) ∧ L.drop a6 = q ∧ a6 ≤ L.length := by
    unfold rdTabIf
    by_cases hk : r.kind = 8
    · simp only [if_pos hk] at h5 ⊢
      exact ⟨_, cTab r h5 l5 g6.2.1 g6.2.2 g7 hw⟩
    · simp only [if_neg hk] at h5 ⊢
      obtain ⟨z1, z2⟩ := g6.1.resolve_left hk
      exact ⟨_, by rw [List.eq_nil_of_length_eq_zero z1, List.eq_nil_of_length_eq_zero z2], h5, l5⟩
  obtain ⟨a6, q6, h6, l6⟩ := q6
  have ha6 : a6 = (recB r).length := by
    have e1 := congrArg List.length h6
    have e2 := congrArg List.length hL
    rw [List.length_drop] at e1
    rw [List.length_append] at e2
    omega
  unfold rdRec
  simp only [q1, q2, q3, hkk, q4, q5, q6]
  rw [ha6, toN o3, toN hw.prev.1, toN hw.next.1]
  rfl
theorem dec_of_told (r : RecR) (hr : recOk r) (hw : RecW r) : decOk (recB r) ∧ (rdRec (recB r)).1 = r := by
  have h := cRec r hr hw []
  rw [List.append_nil] at h
  unfold decOk
  rw [h]
  refine ⟨⟨?_, hr⟩, rfl⟩
  unfold rEnd
  rw [if_neg (by simp)]
end Go.Gi
end
section
namespace Go.Gi
set_option linter.unusedSimpArgs false
set_option linter.unusedVariables false
theorem rn1 (L : List UInt8) (a : Nat) (e : Int) : (rNum L a e 1).1 < 256 := rNum_lt L a e 1
theorem rn2 (L : List UInt8) (a : Nat) (e : Int) : (rNum L a e 2).1 < 65536 := rNum_lt L a e 2
theorem rn4 (L : List UInt8) (a : Nat) (e : Int) : (rNum L a e 4).1 < 4294967296 := rNum_lt L a e 4
theorem rn8 (L : List UInt8) (a : Nat) (e : Int) : (rNum L a e 8).1 < 18446744073709551616 := rNum_lt L a e 8
theorem rn4i (L : List UInt8) (a : Nat) (e : Int) : 0 ≤ ((rNum L a e 4).1 : Int) ∧ ((rNum L a e 4).1 : Int) ≤ 4294967295 := by have := rn4 L a e; omega
theorem rn8i (L : List UInt8) (a : Nat) (e : Int) : 0 ≤ ((rNum L a e 8).1 : Int) ∧ ((rNum L a e 8).1 : Int) ≤ 18446744073709551615 := by have := rn8 L a e; omega
theorem rdMany_all {α : Type} {f : Nat → Int → α × Nat × Int} {P : α → Prop} (hf : ∀ a e, P (f a e).1) : ∀ n acc a e, (∀ x ∈ acc, P x) → ∀ x ∈ (rdMany f n acc a e).1, P x
  | 0, acc, a, e, h => h
  | n + 1, acc, a, e, h => by
    unfold rdMany
    split
    · refine rdMany_all hf n _ _ _ (fun x hx => ?_)
      rcases List.mem_append.1 hx with h1 | h1
      · exact h x h1
      · rw [List.mem_singleton.1 h1]; exact hf a e
    · exact h
theorem rd_wf (L : List UInt8) : RecW (rdRec L).1 := by
  unfold rdRec mkRec
  constructor
  · simp only []
    have := rn8 L (rNum L (rNum L 0 0 1).2.1 (rNum L 0 0 1).2.2 4).2.1 (rNum L (rNum L 0 0 1).2.1 (rNum L 0 0 1).2.2 4).2.2
    omega
  · simp only []
    unfold rdNext
    split
    · have := fun a e => rn8 L a e
      constructor
      · omega
      · have := this (rNum L (rNum L (rNum L 0 0 1).2.1 (rNum L 0 0 1).2.2 4).2.1 (rNum L (rNum L 0 0 1).2.1 (rNum L 0 0 1).2.2 4).2.2 8).2.1 (rNum L (rNum L (rNum L 0 0 1).2.1 (rNum L 0 0 1).2.2 4).2.1 (rNum L (rNum L 0 0 1).2.1 (rNum L 0 0 1).2.2 4).2.2 8).2.2
        omega
    · simp
  · simp only []
    generalize (rdNext L (↑(rNum L 0 0 1).1) (rNum L (rNum L (rNum L 0 0 1).2.1 (rNum L 0 0 1).2.2 4).2.1 (rNum L (rNum L 0 0 1).2.1 (rNum L 0 0 1).2.2 4).2.2 8).2.1 (rNum L (rNum L (rNum L 0 0 1).2.1 (rNum L 0 0 1).2.2 4).2.1 (rNum L (rNum L 0 0 1).2.1 (rNum L 0 0 1).2.2 4).2.2 8).2.2) = q
    unfold rdChIf
    split
    · unfold rdCh
      simp only []
      have := rn4 L q.2.1 q.2.2
      split <;> (simp only []; omega)
    · simp [zCh]
  · simp only []
    generalize (rdNext L (↑(rNum L 0 0 1).1) (rNum L (rNum L (rNum L 0 0 1).2.1 (rNum L 0 0 1).2.2 4).2.1 (rNum L (rNum L 0 0 1).2.1 (rNum L 0 0 1).2.2 4).2.2 8).2.1 (rNum L (rNum L (rNum L 0 0 1).2.1 (rNum L 0 0 1).2.2 4).2.1 (rNum L (rNum L 0 0 1).2.1 (rNum L 0 0 1).2.2 4).2.2 8).2.2) = q
    unfold rdChIf
    split
    · unfold rdCh
      simp only []
      split
      · simp only []
        exact rn4i _ _ _
      · simp
    · simp [zCh]
  · simp only []
    unfold rdTabIf
    split
    · unfold rdTab
      simp only []
      refine rdMany_all (fun a e => ?_) _ _ _ _ (fun x hx => absurd hx (by simp))
      unfold rdSt
      simp only []
      exact ⟨rn8i _ _ _, rn8i _ _ _⟩
    · intro t ht; simp at ht
  · simp only []
    unfold rdTabIf
    split
    · unfold rdTab
      simp only []
      refine rdMany_all (fun a e => ?_) _ _ _ _ (fun x hx => absurd hx (by simp))
      unfold rdDi
      simp only []
      exact ⟨rn4i _ _ _, rn8i _ _ _⟩
    · intro t ht; simp at ht
end Go.Gi
end
section
namespace Go.GiRow
open Go.ChangeShapes Go.WideShapes Go.ChangeAt Go.RowKit
set_option maxRecDepth 20000
variable {H : Type} {enc : TypeId × Value → H} {P : Program}
def RdRows {α : Type} (encC : α → List Value) (n : Nat) (W : World) (A : Option Addr) (l : List α) : Prop :=
  ∀ k (h : k < l.length), ∃ b off, A = some ⟨b, off, none⟩ ∧ b < W.heap.size ∧ ∀ j u, (encC (l[k]'h))[j]? = some u → W.cell? ⟨b, off + k * n + j, none⟩ = some u
end Go.GiRow
end
