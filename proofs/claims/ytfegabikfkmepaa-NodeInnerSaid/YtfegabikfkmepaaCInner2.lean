import Derived.Test.YtfegabikfkmepaaCInner1
section
namespace Go.Proofs.Ytfegabikfkmepaa.PNe
open Go.RowKit Go.Proofs.YtfegabikfkmepaaW.PrintWords Go.Proofs.YtfegabikfkmepaaW.PrintLast Go.Proofs.YtfegabikfkmepaaW.PrintMore
attribute [local go_sem] max2_int min2_int max_two min_two max_three min_three max_four min_four
set_option linter.unusedVariables false
set_option linter.unusedSimpArgs false
def raw_Reader_Number.f (s0_0 : ByteArray) (s0_1 : Int) (s0_2 : Int) (a1 : Int) : Option (Int × ByteArray × Int × Int):=(raw_Reader_Err.f s0_0 s0_1 s0_2).bind fun bt105=>(if bt105.1=0 then ((raw_Get.f bt105.2.1 bt105.2.2.1 a1).bind fun bt109=>(if bt109.2=0 then (some (bt109.1,bt105.2.1,wrap64 (bt105.2.2.1 + a1),bt105.2.2.2)) else (some (0,bt105.2.1,bt105.2.2.1,bt109.2)))) else (some (0,bt105.2.1,bt105.2.2.1,bt105.2.2.2)))
set_option maxHeartbeats 8000000 in
set_option maxRecDepth 100000 in
theorem raw_Reader_Number.calls (g : Nat) (s0_0 : ByteArray) (s0_1 : Int) (s0_2 : Int) (a1 : Int) (r1 : Int) (r2 : ByteArray) (r3 : Int) (r4 : Int) (w0 w : World) (hI : IsS110 w0 w g s0_0 s0_1 s0_2) (hB : Below w0.heap.size w0 w) (h : raw_Reader_Number.f s0_0 s0_1 s0_2 a1=some (r1,r2,r3,r4)) :
  Calls Try.prog 45 #[.pointer (some ⟨g,0,none⟩),.int .i64 a1] w fun e w'=>e=.returned (.int .u64 r1)∧IsS110 w0 w' g r2 r3 r4∧Below w0.heap.size w0 w'∧KeepBut w w' g none:=by
 have HI0:=Aside0.mk hI
 have HK:=Aside0.mk (KeepBut.refl w g none)
 have HL:=Aside0.mk hB.size
 clear hI
 have HW0:=Aside0.mk hB.size
 have HB:=Aside0.mk hB
 clear hB
 have H : ((raw_Reader_Err.f s0_0 s0_1 s0_2).bind fun bt105=>(if bt105.1=0 then ((raw_Get.f bt105.2.1 bt105.2.2.1 a1).bind fun bt109=>(if bt109.2=0 then (some (bt109.1,bt105.2.1,wrap64 (bt105.2.2.1 + a1),bt105.2.2.2)) else (some (0,bt105.2.1,bt105.2.2.1,bt109.2)))) else (some (0,bt105.2.1,bt105.2.2.1,bt105.2.2.2))))=some (r1,r2,r3,r4):=h
 clear h
 replace H:=Option.bind_eq_some_iff.mp H
 obtain ⟨⟨t105,t106,t107,t108⟩,A30,H⟩:=H
 replace H : (if t105=0 then ((raw_Get.f t106 t107 a1).bind fun bt109=>(if bt109.2=0 then (some (bt109.1,t106,wrap64 (t107 + a1),t108)) else (some (0,t106,t107,bt109.2)))) else (some (0,t106,t107,t108)))=some (r1,r2,r3,r4):=H
 have A3:=Aside0.mk A30
 clear A30
 by_cases c4 : t105=0
 ·rw [if_pos c4] at H
  have c4b0 : (t105 == 0)=true:=beq_iff_eq.mpr c4
  have c4b1 : (t105 != 0)=false:=bne_eq_false_iff_eq.mpr c4
  clear c4
  replace H:=Option.bind_eq_some_iff.mp H
  obtain ⟨⟨t109,t110⟩,A50,H⟩:=H
  replace H : (if t110=0 then (some (t109,t106,wrap64 (t107 + a1),t108)) else (some (0,t106,t107,t110)))=some (r1,r2,r3,r4):=H
  have A5:=Aside0.mk A50
  clear A50
  by_cases c6 : t110=0
  ·rw [if_pos c6] at H
   have c6b0 : (t110 == 0)=true:=beq_iff_eq.mpr c6
   have c6b1 : (t110 != 0)=false:=bne_eq_false_iff_eq.mpr c6
   clear c6
   simp only [Option.some.injEq,Prod.mk.injEq] at H
   obtain ⟨rfl,rfl,rfl,rfl⟩:=H
   go_enter Try.func45,Try.ntmps45
   go_wp2_with (first|(go_at_call 61;(with_reducible refine (raw_Reader_Err.calls g s0_0 s0_1 s0_2 t105 t106 t107 t108 w0 _ ?side1 ?side2 A3.out).mono ?_);(case side1=>repeat (first|(with_reducible first|exact HI0.out|apply IsS110.alloc|apply IsS110.drewN|apply IsS110.drew|apply IsS110.set_0|apply IsS110.set_1|apply IsS110.set_2)|exact HI0.out));(case side2=>repeat (first|(with_reducible first|exact HB.out|apply below_alloc|apply pw_below_drewN|apply below_drew1|refine below_set ?_ (IsS110.ge HI0.out))|exact HB.out));rintro e w7 ⟨rfl,hi,hb,hk⟩;have n0_:=Aside0.mk (KeepBut.trans (by repeat (first|(with_reducible first|exact HK.out|apply KeepBut.set_|apply keep_drewN|apply keep_drew|apply keep_alloc)|exact HK.out)) hk (.inl rfl));have n1_:=Aside0.mk (hb);have n2_:=Aside0.mk (hi);clear HK;clear HB;clear HI0;have HK:=n0_;have HB:=n1_;have HI0:=n2_;clear n0_ n1_ n2_;(try clear hb);(try clear hb2);(try clear hk);(try clear hi);obtain ⟨HGz8,hgz8⟩:=HI0.out;have hcz8_0:=cellS110_0 HGz8;have hcz8_1:=cellS110_1 HGz8;have hcz8_2:=cellS110_2 HGz8;have hfz8_0:=blk_frozen HGz8 0;have hfz8_1:=blk_frozen HGz8 1;have hfz8_2:=blk_frozen HGz8 2;clear HGz8 hgz8)|(go_at_call 39;(with_reducible refine (raw_Get.calls t106 t107 a1 t109 t110 _ A5.out).mono ?_);rintro e w' ⟨rfl,⟨nd,rfl⟩⟩;(try first|exact ⟨rfl,_,World.drewN_drewN _ _ _⟩|exact ⟨rfl,_,Eq.trans (World.drewN_drewN _ _ _) (congrArg (World.drewN _) (Nat.add_assoc _ _ _))⟩)))
   repeat (go_quiet (first|(go_at_call 61;(with_reducible refine (raw_Reader_Err.calls g s0_0 s0_1 s0_2 t105 t106 t107 t108 w0 _ ?side1 ?side2 A3.out).mono ?_);(case side1=>repeat (first|(with_reducible first|exact HI0.out|apply IsS110.alloc|apply IsS110.drewN|apply IsS110.drew|apply IsS110.set_0|apply IsS110.set_1|apply IsS110.set_2)|exact HI0.out));(case side2=>repeat (first|(with_reducible first|exact HB.out|apply below_alloc|apply pw_below_drewN|apply below_drew1|refine below_set ?_ (IsS110.ge HI0.out))|exact HB.out));rintro e w7 ⟨rfl,hi,hb,hk⟩;have n0_:=Aside0.mk (KeepBut.trans (by repeat (first|(with_reducible first|exact HK.out|apply KeepBut.set_|apply keep_drewN|apply keep_drew|apply keep_alloc)|exact HK.out)) hk (.inl rfl));have n1_:=Aside0.mk (hb);have n2_:=Aside0.mk (hi);clear HK;clear HB;clear HI0;have HK:=n0_;have HB:=n1_;have HI0:=n2_;clear n0_ n1_ n2_;(try clear hb);(try clear hb2);(try clear hk);(try clear hi);obtain ⟨HGz8,hgz8⟩:=HI0.out;have hcz8_0:=cellS110_0 HGz8;have hcz8_1:=cellS110_1 HGz8;have hcz8_2:=cellS110_2 HGz8;have hfz8_0:=blk_frozen HGz8 0;have hfz8_1:=blk_frozen HGz8 1;have hfz8_2:=blk_frozen HGz8 2;clear HGz8 hgz8)|(go_at_call 39;(with_reducible refine (raw_Get.calls t106 t107 a1 t109 t110 _ A5.out).mono ?_);rintro e w' ⟨rfl,⟨nd,rfl⟩⟩;(try first|exact ⟨rfl,_,World.drewN_drewN _ _ _⟩|exact ⟨rfl,_,Eq.trans (World.drewN_drewN _ _ _) (congrArg (World.drewN _) (Nat.add_assoc _ _ _))⟩)));try go_wp2_with (first|(go_at_call 61;(with_reducible refine (raw_Reader_Err.calls g s0_0 s0_1 s0_2 t105 t106 t107 t108 w0 _ ?side1 ?side2 A3.out).mono ?_);(case side1=>repeat (first|(with_reducible first|exact HI0.out|apply IsS110.alloc|apply IsS110.drewN|apply IsS110.drew|apply IsS110.set_0|apply IsS110.set_1|apply IsS110.set_2)|exact HI0.out));(case side2=>repeat (first|(with_reducible first|exact HB.out|apply below_alloc|apply pw_below_drewN|apply below_drew1|refine below_set ?_ (IsS110.ge HI0.out))|exact HB.out));rintro e w7 ⟨rfl,hi,hb,hk⟩;have n0_:=Aside0.mk (KeepBut.trans (by repeat (first|(with_reducible first|exact HK.out|apply KeepBut.set_|apply keep_drewN|apply keep_drew|apply keep_alloc)|exact HK.out)) hk (.inl rfl));have n1_:=Aside0.mk (hb);have n2_:=Aside0.mk (hi);clear HK;clear HB;clear HI0;have HK:=n0_;have HB:=n1_;have HI0:=n2_;clear n0_ n1_ n2_;(try clear hb);(try clear hb2);(try clear hk);(try clear hi);obtain ⟨HGz8,hgz8⟩:=HI0.out;have hcz8_0:=cellS110_0 HGz8;have hcz8_1:=cellS110_1 HGz8;have hcz8_2:=cellS110_2 HGz8;have hfz8_0:=blk_frozen HGz8 0;have hfz8_1:=blk_frozen HGz8 1;have hfz8_2:=blk_frozen HGz8 2;clear HGz8 hgz8)|(go_at_call 39;(with_reducible refine (raw_Get.calls t106 t107 a1 t109 t110 _ A5.out).mono ?_);rintro e w' ⟨rfl,⟨nd,rfl⟩⟩;(try first|exact ⟨rfl,_,World.drewN_drewN _ _ _⟩|exact ⟨rfl,_,Eq.trans (World.drewN_drewN _ _ _) (congrArg (World.drewN _) (Nat.add_assoc _ _ _))⟩))))
   go_ret
   exact ⟨by first|rfl|(simp [errW_none,errW_some] <;> rfl)|(simp [*,errW_none,errW_some] <;> rfl),by repeat (first|(with_reducible first|exact HI0.out|apply IsS110.alloc|apply IsS110.drewN|apply IsS110.drew|apply IsS110.set_0|apply IsS110.set_1|apply IsS110.set_2)|exact HI0.out),by repeat (first|(with_reducible first|exact HB.out|apply below_alloc|apply pw_below_drewN|apply below_drew1|refine below_set ?_ (IsS110.ge HI0.out))|exact HB.out),by repeat (first|(with_reducible first|exact HK.out|apply KeepBut.set_|apply keep_drewN|apply keep_drew|apply keep_alloc)|exact HK.out)⟩
  ·rw [if_neg c6] at H
   have c6b0 : (t110 == 0)=false:=beq_eq_false_iff_ne.mpr c6
   have c6b1 : (t110 != 0)=true:=bne_iff_ne.mpr c6
   simp only [Option.some.injEq,Prod.mk.injEq] at H
   obtain ⟨rfl,rfl,rfl,rfl⟩:=H
   go_enter Try.func45,Try.ntmps45
   go_wp2_with (first|(go_at_call 61;(with_reducible refine (raw_Reader_Err.calls g s0_0 s0_1 s0_2 t105 t106 t107 t108 w0 _ ?side1 ?side2 A3.out).mono ?_);(case side1=>repeat (first|(with_reducible first|exact HI0.out|apply IsS110.alloc|apply IsS110.drewN|apply IsS110.drew|apply IsS110.set_0|apply IsS110.set_1|apply IsS110.set_2)|exact HI0.out));(case side2=>repeat (first|(with_reducible first|exact HB.out|apply below_alloc|apply pw_below_drewN|apply below_drew1|refine below_set ?_ (IsS110.ge HI0.out))|exact HB.out));rintro e w9 ⟨rfl,hi,hb,hk⟩;have n0_:=Aside0.mk (KeepBut.trans (by repeat (first|(with_reducible first|exact HK.out|apply KeepBut.set_|apply keep_drewN|apply keep_drew|apply keep_alloc)|exact HK.out)) hk (.inl rfl));have n1_:=Aside0.mk (hb);have n2_:=Aside0.mk (hi);clear HK;clear HB;clear HI0;have HK:=n0_;have HB:=n1_;have HI0:=n2_;clear n0_ n1_ n2_;(try clear hb);(try clear hb2);(try clear hk);(try clear hi);obtain ⟨HGz10,hgz10⟩:=HI0.out;have hcz10_0:=cellS110_0 HGz10;have hcz10_1:=cellS110_1 HGz10;have hcz10_2:=cellS110_2 HGz10;have hfz10_0:=blk_frozen HGz10 0;have hfz10_1:=blk_frozen HGz10 1;have hfz10_2:=blk_frozen HGz10 2;clear HGz10 hgz10)|(go_at_call 39;(with_reducible refine (raw_Get.calls t106 t107 a1 t109 t110 _ A5.out).mono ?_);rintro e w' ⟨rfl,⟨nd,rfl⟩⟩;(try first|exact ⟨rfl,_,World.drewN_drewN _ _ _⟩|exact ⟨rfl,_,Eq.trans (World.drewN_drewN _ _ _) (congrArg (World.drewN _) (Nat.add_assoc _ _ _))⟩)))
   repeat (go_quiet (first|(go_at_call 61;(with_reducible refine (raw_Reader_Err.calls g s0_0 s0_1 s0_2 t105 t106 t107 t108 w0 _ ?side1 ?side2 A3.out).mono ?_);(case side1=>repeat (first|(with_reducible first|exact HI0.out|apply IsS110.alloc|apply IsS110.drewN|apply IsS110.drew|apply IsS110.set_0|apply IsS110.set_1|apply IsS110.set_2)|exact HI0.out));(case side2=>repeat (first|(with_reducible first|exact HB.out|apply below_alloc|apply pw_below_drewN|apply below_drew1|refine below_set ?_ (IsS110.ge HI0.out))|exact HB.out));rintro e w9 ⟨rfl,hi,hb,hk⟩;have n0_:=Aside0.mk (KeepBut.trans (by repeat (first|(with_reducible first|exact HK.out|apply KeepBut.set_|apply keep_drewN|apply keep_drew|apply keep_alloc)|exact HK.out)) hk (.inl rfl));have n1_:=Aside0.mk (hb);have n2_:=Aside0.mk (hi);clear HK;clear HB;clear HI0;have HK:=n0_;have HB:=n1_;have HI0:=n2_;clear n0_ n1_ n2_;(try clear hb);(try clear hb2);(try clear hk);(try clear hi);obtain ⟨HGz10,hgz10⟩:=HI0.out;have hcz10_0:=cellS110_0 HGz10;have hcz10_1:=cellS110_1 HGz10;have hcz10_2:=cellS110_2 HGz10;have hfz10_0:=blk_frozen HGz10 0;have hfz10_1:=blk_frozen HGz10 1;have hfz10_2:=blk_frozen HGz10 2;clear HGz10 hgz10)|(go_at_call 39;(with_reducible refine (raw_Get.calls t106 t107 a1 t109 t110 _ A5.out).mono ?_);rintro e w' ⟨rfl,⟨nd,rfl⟩⟩;(try first|exact ⟨rfl,_,World.drewN_drewN _ _ _⟩|exact ⟨rfl,_,Eq.trans (World.drewN_drewN _ _ _) (congrArg (World.drewN _) (Nat.add_assoc _ _ _))⟩)));try go_wp2_with (first|(go_at_call 61;(with_reducible refine (raw_Reader_Err.calls g s0_0 s0_1 s0_2 t105 t106 t107 t108 w0 _ ?side1 ?side2 A3.out).mono ?_);(case side1=>repeat (first|(with_reducible first|exact HI0.out|apply IsS110.alloc|apply IsS110.drewN|apply IsS110.drew|apply IsS110.set_0|apply IsS110.set_1|apply IsS110.set_2)|exact HI0.out));(case side2=>repeat (first|(with_reducible first|exact HB.out|apply below_alloc|apply pw_below_drewN|apply below_drew1|refine below_set ?_ (IsS110.ge HI0.out))|exact HB.out));rintro e w9 ⟨rfl,hi,hb,hk⟩;have n0_:=Aside0.mk (KeepBut.trans (by repeat (first|(with_reducible first|exact HK.out|apply KeepBut.set_|apply keep_drewN|apply keep_drew|apply keep_alloc)|exact HK.out)) hk (.inl rfl));have n1_:=Aside0.mk (hb);have n2_:=Aside0.mk (hi);clear HK;clear HB;clear HI0;have HK:=n0_;have HB:=n1_;have HI0:=n2_;clear n0_ n1_ n2_;(try clear hb);(try clear hb2);(try clear hk);(try clear hi);obtain ⟨HGz10,hgz10⟩:=HI0.out;have hcz10_0:=cellS110_0 HGz10;have hcz10_1:=cellS110_1 HGz10;have hcz10_2:=cellS110_2 HGz10;have hfz10_0:=blk_frozen HGz10 0;have hfz10_1:=blk_frozen HGz10 1;have hfz10_2:=blk_frozen HGz10 2;clear HGz10 hgz10)|(go_at_call 39;(with_reducible refine (raw_Get.calls t106 t107 a1 t109 t110 _ A5.out).mono ?_);rintro e w' ⟨rfl,⟨nd,rfl⟩⟩;(try first|exact ⟨rfl,_,World.drewN_drewN _ _ _⟩|exact ⟨rfl,_,Eq.trans (World.drewN_drewN _ _ _) (congrArg (World.drewN _) (Nat.add_assoc _ _ _))⟩))))
   go_ret
   exact ⟨by first|rfl|(simp [errW_none,errW_some] <;> rfl)|(simp [*,errW_none,errW_some] <;> rfl),by repeat (first|(with_reducible first|exact HI0.out|apply IsS110.alloc|apply IsS110.drewN|apply IsS110.drew|apply IsS110.set_0|apply IsS110.set_1|apply IsS110.set_2)|exact HI0.out),by repeat (first|(with_reducible first|exact HB.out|apply below_alloc|apply pw_below_drewN|apply below_drew1|refine below_set ?_ (IsS110.ge HI0.out))|exact HB.out),by repeat (first|(with_reducible first|exact HK.out|apply KeepBut.set_|apply keep_drewN|apply keep_drew|apply keep_alloc)|exact HK.out)⟩
 ·rw [if_neg c4] at H
  have c4b0 : (t105 == 0)=false:=beq_eq_false_iff_ne.mpr c4
  have c4b1 : (t105 != 0)=true:=bne_iff_ne.mpr c4
  simp only [Option.some.injEq,Prod.mk.injEq] at H
  obtain ⟨rfl,rfl,rfl,rfl⟩:=H
  go_enter Try.func45,Try.ntmps45
  go_wp2_with (first|(go_at_call 61;(with_reducible refine (raw_Reader_Err.calls g s0_0 s0_1 s0_2 t105 t106 t107 t108 w0 _ ?side1 ?side2 A3.out).mono ?_);(case side1=>repeat (first|(with_reducible first|exact HI0.out|apply IsS110.alloc|apply IsS110.drewN|apply IsS110.drew|apply IsS110.set_0|apply IsS110.set_1|apply IsS110.set_2)|exact HI0.out));(case side2=>repeat (first|(with_reducible first|exact HB.out|apply below_alloc|apply pw_below_drewN|apply below_drew1|refine below_set ?_ (IsS110.ge HI0.out))|exact HB.out));rintro e w11 ⟨rfl,hi,hb,hk⟩;have n0_:=Aside0.mk (KeepBut.trans (by repeat (first|(with_reducible first|exact HK.out|apply KeepBut.set_|apply keep_drewN|apply keep_drew|apply keep_alloc)|exact HK.out)) hk (.inl rfl));have n1_:=Aside0.mk (hb);have n2_:=Aside0.mk (hi);clear HK;clear HB;clear HI0;have HK:=n0_;have HB:=n1_;have HI0:=n2_;clear n0_ n1_ n2_;(try clear hb);(try clear hb2);(try clear hk);(try clear hi)))
  repeat (go_quiet (first|(go_at_call 61;(with_reducible refine (raw_Reader_Err.calls g s0_0 s0_1 s0_2 t105 t106 t107 t108 w0 _ ?side1 ?side2 A3.out).mono ?_);(case side1=>repeat (first|(with_reducible first|exact HI0.out|apply IsS110.alloc|apply IsS110.drewN|apply IsS110.drew|apply IsS110.set_0|apply IsS110.set_1|apply IsS110.set_2)|exact HI0.out));(case side2=>repeat (first|(with_reducible first|exact HB.out|apply below_alloc|apply pw_below_drewN|apply below_drew1|refine below_set ?_ (IsS110.ge HI0.out))|exact HB.out));rintro e w11 ⟨rfl,hi,hb,hk⟩;have n0_:=Aside0.mk (KeepBut.trans (by repeat (first|(with_reducible first|exact HK.out|apply KeepBut.set_|apply keep_drewN|apply keep_drew|apply keep_alloc)|exact HK.out)) hk (.inl rfl));have n1_:=Aside0.mk (hb);have n2_:=Aside0.mk (hi);clear HK;clear HB;clear HI0;have HK:=n0_;have HB:=n1_;have HI0:=n2_;clear n0_ n1_ n2_;(try clear hb);(try clear hb2);(try clear hk);(try clear hi)));try go_wp2_with (first|(go_at_call 61;(with_reducible refine (raw_Reader_Err.calls g s0_0 s0_1 s0_2 t105 t106 t107 t108 w0 _ ?side1 ?side2 A3.out).mono ?_);(case side1=>repeat (first|(with_reducible first|exact HI0.out|apply IsS110.alloc|apply IsS110.drewN|apply IsS110.drew|apply IsS110.set_0|apply IsS110.set_1|apply IsS110.set_2)|exact HI0.out));(case side2=>repeat (first|(with_reducible first|exact HB.out|apply below_alloc|apply pw_below_drewN|apply below_drew1|refine below_set ?_ (IsS110.ge HI0.out))|exact HB.out));rintro e w11 ⟨rfl,hi,hb,hk⟩;have n0_:=Aside0.mk (KeepBut.trans (by repeat (first|(with_reducible first|exact HK.out|apply KeepBut.set_|apply keep_drewN|apply keep_drew|apply keep_alloc)|exact HK.out)) hk (.inl rfl));have n1_:=Aside0.mk (hb);have n2_:=Aside0.mk (hi);clear HK;clear HB;clear HI0;have HK:=n0_;have HB:=n1_;have HI0:=n2_;clear n0_ n1_ n2_;(try clear hb);(try clear hb2);(try clear hk);(try clear hi))))
  go_ret
  exact ⟨by first|rfl|(simp [errW_none,errW_some] <;> rfl)|(simp [*,errW_none,errW_some] <;> rfl),by repeat (first|(with_reducible first|exact HI0.out|apply IsS110.alloc|apply IsS110.drewN|apply IsS110.drew|apply IsS110.set_0|apply IsS110.set_1|apply IsS110.set_2)|exact HI0.out),by repeat (first|(with_reducible first|exact HB.out|apply below_alloc|apply pw_below_drewN|apply below_drew1|refine below_set ?_ (IsS110.ge HI0.out))|exact HB.out),by repeat (first|(with_reducible first|exact HK.out|apply KeepBut.set_|apply keep_drewN|apply keep_drew|apply keep_alloc)|exact HK.out)⟩
end Go.Proofs.Ytfegabikfkmepaa.PNe
end
section
namespace Go.Proofs.Ytfegabikfkmepaa.PNe
open Go.RowKit Go.Proofs.YtfegabikfkmepaaW.PrintWords Go.Proofs.YtfegabikfkmepaaW.PrintLast Go.Proofs.YtfegabikfkmepaaW.PrintMore
attribute [local go_sem] max2_int min2_int max_two min_two max_three min_three max_four min_four
set_option linter.unusedVariables false
set_option linter.unusedSimpArgs false
def raw_Reader_Bytes.f (s0_0 : ByteArray) (s0_1 : Int) (s0_2 : Int) (a1 : Int) : Option (ByteArray × ByteArray × Int × Int):=(raw_Reader_Err.f s0_0 s0_1 s0_2).bind fun bt111=>(if bt111.1=0 then (if a1 < 0 then (some ((⟨#[]⟩ : ByteArray),bt111.2.1,bt111.2.2.1,1)) else (if (wrap64 ((bt111.2.1.size : Int) - bt111.2.2.1)) < a1 then (some ((⟨#[]⟩ : ByteArray),bt111.2.1,bt111.2.2.1,4)) else (if 0≤(wrap64 ((wrap64 (bt111.2.2.1 + a1)) - a1)) then (if (wrap64 ((wrap64 (bt111.2.2.1 + a1)) - a1))≤(wrap64 (bt111.2.2.1 + a1)) then (if (wrap64 (bt111.2.2.1 + a1))≤(bt111.2.1.size : Int) then (some (bt111.2.1.extract ((wrap64 ((wrap64 (bt111.2.2.1 + a1)) - a1)) : Int).toNat ((wrap64 (bt111.2.2.1 + a1)) : Int).toNat,bt111.2.1,wrap64 (bt111.2.2.1 + a1),bt111.2.2.2)) else (none)) else (none)) else (none)))) else (some ((⟨#[]⟩ : ByteArray),bt111.2.1,bt111.2.2.1,bt111.2.2.2)))
set_option maxHeartbeats 8000000 in
set_option maxRecDepth 100000 in
theorem raw_Reader_Bytes.calls (g : Nat) (s0_0 : ByteArray) (s0_1 : Int) (s0_2 : Int) (a1 : Int) (r1 : ByteArray) (r2 : ByteArray) (r3 : Int) (r4 : Int) (w0 w : World) (hI : IsS110 w0 w g s0_0 s0_1 s0_2) (hB : Below w0.heap.size w0 w) (h : raw_Reader_Bytes.f s0_0 s0_1 s0_2 a1=some (r1,r2,r3,r4)) :
  Calls Try.prog 62 #[.pointer (some ⟨g,0,none⟩),.int .i64 a1] w fun e w'=>e=.returned (.string r1)∧IsS110 w0 w' g r2 r3 r4∧Below w0.heap.size w0 w'∧KeepBut w w' g none:=by
 have HI0:=Aside0.mk hI
 have HK:=Aside0.mk (KeepBut.refl w g none)
 have HL:=Aside0.mk hB.size
 clear hI
 have HW0:=Aside0.mk hB.size
 have HB:=Aside0.mk hB
 clear hB
 have H : ((raw_Reader_Err.f s0_0 s0_1 s0_2).bind fun bt111=>(if bt111.1=0 then (if a1 < 0 then (some ((⟨#[]⟩ : ByteArray),bt111.2.1,bt111.2.2.1,1)) else (if (wrap64 ((bt111.2.1.size : Int) - bt111.2.2.1)) < a1 then (some ((⟨#[]⟩ : ByteArray),bt111.2.1,bt111.2.2.1,4)) else (if 0≤(wrap64 ((wrap64 (bt111.2.2.1 + a1)) - a1)) then (if (wrap64 ((wrap64 (bt111.2.2.1 + a1)) - a1))≤(wrap64 (bt111.2.2.1 + a1)) then (if (wrap64 (bt111.2.2.1 + a1))≤(bt111.2.1.size : Int) then (some (bt111.2.1.extract ((wrap64 ((wrap64 (bt111.2.2.1 + a1)) - a1)) : Int).toNat ((wrap64 (bt111.2.2.1 + a1)) : Int).toNat,bt111.2.1,wrap64 (bt111.2.2.1 + a1),bt111.2.2.2)) else (none)) else (none)) else (none)))) else (some ((⟨#[]⟩ : ByteArray),bt111.2.1,bt111.2.2.1,bt111.2.2.2))))=some (r1,r2,r3,r4):=h
 clear h
 replace H:=Option.bind_eq_some_iff.mp H
 obtain ⟨⟨t111,t112,t113,t114⟩,A30,H⟩:=H
 replace H : (if t111=0 then (if a1 < 0 then (some ((⟨#[]⟩ : ByteArray),t112,t113,1)) else (if (wrap64 ((t112.size : Int) - t113)) < a1 then (some ((⟨#[]⟩ : ByteArray),t112,t113,4)) else (if 0≤(wrap64 ((wrap64 (t113 + a1)) - a1)) then (if (wrap64 ((wrap64 (t113 + a1)) - a1))≤(wrap64 (t113 + a1)) then (if (wrap64 (t113 + a1))≤(t112.size : Int) then (some (t112.extract ((wrap64 ((wrap64 (t113 + a1)) - a1)) : Int).toNat ((wrap64 (t113 + a1)) : Int).toNat,t112,wrap64 (t113 + a1),t114)) else (none)) else (none)) else (none)))) else (some ((⟨#[]⟩ : ByteArray),t112,t113,t114)))=some (r1,r2,r3,r4):=H
 have A3:=Aside0.mk A30
 clear A30
 by_cases c4 : t111=0
 ·rw [if_pos c4] at H
  have c4b0 : (t111 == 0)=true:=beq_iff_eq.mpr c4
  have c4b1 : (t111 != 0)=false:=bne_eq_false_iff_eq.mpr c4
  clear c4
  by_cases c5 : a1 < 0
  ·rw [if_pos c5] at H
   have c5b0 : decide (a1 < 0)=true:=decide_eq_true c5
   clear c5
   simp only [Option.some.injEq,Prod.mk.injEq] at H
   obtain ⟨rfl,rfl,rfl,rfl⟩:=H
   go_enter Try.func62,Try.ntmps62
   go_wp2_with (first|(go_at_call 61;(with_reducible refine (raw_Reader_Err.calls g s0_0 s0_1 s0_2 t111 t112 t113 t114 w0 _ ?side1 ?side2 A3.out).mono ?_);(case side1=>repeat (first|(with_reducible first|exact HI0.out|apply IsS110.alloc|apply IsS110.drewN|apply IsS110.drew|apply IsS110.set_0|apply IsS110.set_1|apply IsS110.set_2)|exact HI0.out));(case side2=>repeat (first|(with_reducible first|exact HB.out|apply below_alloc|apply pw_below_drewN|apply below_drew1|refine below_set ?_ (IsS110.ge HI0.out))|exact HB.out));rintro e w6 ⟨rfl,hi,hb,hk⟩;have n0_:=Aside0.mk (KeepBut.trans (by repeat (first|(with_reducible first|exact HK.out|apply KeepBut.set_|apply keep_drewN|apply keep_drew|apply keep_alloc)|exact HK.out)) hk (.inl rfl));have n1_:=Aside0.mk (hb);have n2_:=Aside0.mk (hi);clear HK;clear HB;clear HI0;have HK:=n0_;have HB:=n1_;have HI0:=n2_;clear n0_ n1_ n2_;(try clear hb);(try clear hb2);(try clear hk);(try clear hi);obtain ⟨HGz7,hgz7⟩:=HI0.out;have hcz7_0:=cellS110_0 HGz7;have hcz7_1:=cellS110_1 HGz7;have hcz7_2:=cellS110_2 HGz7;have hfz7_0:=blk_frozen HGz7 0;have hfz7_1:=blk_frozen HGz7 1;have hfz7_2:=blk_frozen HGz7 2;clear HGz7 hgz7))
   repeat (go_quiet (first|(go_at_call 61;(with_reducible refine (raw_Reader_Err.calls g s0_0 s0_1 s0_2 t111 t112 t113 t114 w0 _ ?side1 ?side2 A3.out).mono ?_);(case side1=>repeat (first|(with_reducible first|exact HI0.out|apply IsS110.alloc|apply IsS110.drewN|apply IsS110.drew|apply IsS110.set_0|apply IsS110.set_1|apply IsS110.set_2)|exact HI0.out));(case side2=>repeat (first|(with_reducible first|exact HB.out|apply below_alloc|apply pw_below_drewN|apply below_drew1|refine below_set ?_ (IsS110.ge HI0.out))|exact HB.out));rintro e w6 ⟨rfl,hi,hb,hk⟩;have n0_:=Aside0.mk (KeepBut.trans (by repeat (first|(with_reducible first|exact HK.out|apply KeepBut.set_|apply keep_drewN|apply keep_drew|apply keep_alloc)|exact HK.out)) hk (.inl rfl));have n1_:=Aside0.mk (hb);have n2_:=Aside0.mk (hi);clear HK;clear HB;clear HI0;have HK:=n0_;have HB:=n1_;have HI0:=n2_;clear n0_ n1_ n2_;(try clear hb);(try clear hb2);(try clear hk);(try clear hi);obtain ⟨HGz7,hgz7⟩:=HI0.out;have hcz7_0:=cellS110_0 HGz7;have hcz7_1:=cellS110_1 HGz7;have hcz7_2:=cellS110_2 HGz7;have hfz7_0:=blk_frozen HGz7 0;have hfz7_1:=blk_frozen HGz7 1;have hfz7_2:=blk_frozen HGz7 2;clear HGz7 hgz7));try go_wp2_with (first|(go_at_call 61;(with_reducible refine (raw_Reader_Err.calls g s0_0 s0_1 s0_2 t111 t112 t113 t114 w0 _ ?side1 ?side2 A3.out).mono ?_);(case side1=>repeat (first|(with_reducible first|exact HI0.out|apply IsS110.alloc|apply IsS110.drewN|apply IsS110.drew|apply IsS110.set_0|apply IsS110.set_1|apply IsS110.set_2)|exact HI0.out));(case side2=>repeat (first|(with_reducible first|exact HB.out|apply below_alloc|apply pw_below_drewN|apply below_drew1|refine below_set ?_ (IsS110.ge HI0.out))|exact HB.out));rintro e w6 ⟨rfl,hi,hb,hk⟩;have n0_:=Aside0.mk (KeepBut.trans (by repeat (first|(with_reducible first|exact HK.out|apply KeepBut.set_|apply keep_drewN|apply keep_drew|apply keep_alloc)|exact HK.out)) hk (.inl rfl));have n1_:=Aside0.mk (hb);have n2_:=Aside0.mk (hi);clear HK;clear HB;clear HI0;have HK:=n0_;have HB:=n1_;have HI0:=n2_;clear n0_ n1_ n2_;(try clear hb);(try clear hb2);(try clear hk);(try clear hi);obtain ⟨HGz7,hgz7⟩:=HI0.out;have hcz7_0:=cellS110_0 HGz7;have hcz7_1:=cellS110_1 HGz7;have hcz7_2:=cellS110_2 HGz7;have hfz7_0:=blk_frozen HGz7 0;have hfz7_1:=blk_frozen HGz7 1;have hfz7_2:=blk_frozen HGz7 2;clear HGz7 hgz7)))
   go_ret
   exact ⟨by first|rfl|(simp [errW_none,errW_some] <;> rfl)|(simp [*,errW_none,errW_some] <;> rfl),by repeat (first|(with_reducible first|exact HI0.out|apply IsS110.alloc|apply IsS110.drewN|apply IsS110.drew|apply IsS110.set_0|apply IsS110.set_1|apply IsS110.set_2)|exact HI0.out),by repeat (first|(with_reducible first|exact HB.out|apply below_alloc|apply pw_below_drewN|apply below_drew1|refine below_set ?_ (IsS110.ge HI0.out))|exact HB.out),by repeat (first|(with_reducible first|exact HK.out|apply KeepBut.set_|apply keep_drewN|apply keep_drew|apply keep_alloc)|exact HK.out)⟩
  ·rw [if_neg c5] at H
   have c5b0 : decide (a1 < 0)=false:=decide_eq_false c5
   clear c5
   by_cases c8 : (wrap64 ((t112.size : Int) - t113)) < a1
   ·rw [if_pos c8] at H
    have c8b0 : decide ((wrap64 ((t112.size : Int) - t113)) < a1)=true:=decide_eq_true c8
    clear c8
    simp only [Option.some.injEq,Prod.mk.injEq] at H
    obtain ⟨rfl,rfl,rfl,rfl⟩:=H
    go_enter Try.func62,Try.ntmps62
    go_wp2_with (first|(go_at_call 61;(with_reducible refine (raw_Reader_Err.calls g s0_0 s0_1 s0_2 t111 t112 t113 t114 w0 _ ?side1 ?side2 A3.out).mono ?_);(case side1=>repeat (first|(with_reducible first|exact HI0.out|apply IsS110.alloc|apply IsS110.drewN|apply IsS110.drew|apply IsS110.set_0|apply IsS110.set_1|apply IsS110.set_2)|exact HI0.out));(case side2=>repeat (first|(with_reducible first|exact HB.out|apply below_alloc|apply pw_below_drewN|apply below_drew1|refine below_set ?_ (IsS110.ge HI0.out))|exact HB.out));rintro e w9 ⟨rfl,hi,hb,hk⟩;have n0_:=Aside0.mk (KeepBut.trans (by repeat (first|(with_reducible first|exact HK.out|apply KeepBut.set_|apply keep_drewN|apply keep_drew|apply keep_alloc)|exact HK.out)) hk (.inl rfl));have n1_:=Aside0.mk (hb);have n2_:=Aside0.mk (hi);clear HK;clear HB;clear HI0;have HK:=n0_;have HB:=n1_;have HI0:=n2_;clear n0_ n1_ n2_;(try clear hb);(try clear hb2);(try clear hk);(try clear hi);obtain ⟨HGz10,hgz10⟩:=HI0.out;have hcz10_0:=cellS110_0 HGz10;have hcz10_1:=cellS110_1 HGz10;have hcz10_2:=cellS110_2 HGz10;have hfz10_0:=blk_frozen HGz10 0;have hfz10_1:=blk_frozen HGz10 1;have hfz10_2:=blk_frozen HGz10 2;clear HGz10 hgz10))
    repeat (go_quiet (first|(go_at_call 61;(with_reducible refine (raw_Reader_Err.calls g s0_0 s0_1 s0_2 t111 t112 t113 t114 w0 _ ?side1 ?side2 A3.out).mono ?_);(case side1=>repeat (first|(with_reducible first|exact HI0.out|apply IsS110.alloc|apply IsS110.drewN|apply IsS110.drew|apply IsS110.set_0|apply IsS110.set_1|apply IsS110.set_2)|exact HI0.out));(case side2=>repeat (first|(with_reducible first|exact HB.out|apply below_alloc|apply pw_below_drewN|apply below_drew1|refine below_set ?_ (IsS110.ge HI0.out))|exact HB.out));rintro e w9 ⟨rfl,hi,hb,hk⟩;have n0_:=Aside0.mk (KeepBut.trans (by repeat (first|(with_reducible first|exact HK.out|apply KeepBut.set_|apply keep_drewN|apply keep_drew|apply keep_alloc)|exact HK.out)) hk (.inl rfl));have n1_:=Aside0.mk (hb);have n2_:=Aside0.mk (hi);clear HK;clear HB;clear HI0;have HK:=n0_;have HB:=n1_;have HI0:=n2_;clear n0_ n1_ n2_;(try clear hb);(try clear hb2);(try clear hk);(try clear hi);obtain ⟨HGz10,hgz10⟩:=HI0.out;have hcz10_0:=cellS110_0 HGz10;have hcz10_1:=cellS110_1 HGz10;have hcz10_2:=cellS110_2 HGz10;have hfz10_0:=blk_frozen HGz10 0;have hfz10_1:=blk_frozen HGz10 1;have hfz10_2:=blk_frozen HGz10 2;clear HGz10 hgz10));try go_wp2_with (first|(go_at_call 61;(with_reducible refine (raw_Reader_Err.calls g s0_0 s0_1 s0_2 t111 t112 t113 t114 w0 _ ?side1 ?side2 A3.out).mono ?_);(case side1=>repeat (first|(with_reducible first|exact HI0.out|apply IsS110.alloc|apply IsS110.drewN|apply IsS110.drew|apply IsS110.set_0|apply IsS110.set_1|apply IsS110.set_2)|exact HI0.out));(case side2=>repeat (first|(with_reducible first|exact HB.out|apply below_alloc|apply pw_below_drewN|apply below_drew1|refine below_set ?_ (IsS110.ge HI0.out))|exact HB.out));rintro e w9 ⟨rfl,hi,hb,hk⟩;have n0_:=Aside0.mk (KeepBut.trans (by repeat (first|(with_reducible first|exact HK.out|apply KeepBut.set_|apply keep_drewN|apply keep_drew|apply keep_alloc)|exact HK.out)) hk (.inl rfl));have n1_:=Aside0.mk (hb);have n2_:=Aside0.mk (hi);clear HK;clear HB;clear HI0;have HK:=n0_;have HB:=n1_;have HI0:=n2_;clear n0_ n1_ n2_;(try clear hb);(try clear hb2);(try clear hk);(try clear hi);obtain ⟨HGz10,hgz10⟩:=HI0.out;have hcz10_0:=cellS110_0 HGz10;have hcz10_1:=cellS110_1 HGz10;have hcz10_2:=cellS110_2 HGz10;have hfz10_0:=blk_frozen HGz10 0;have hfz10_1:=blk_frozen HGz10 1;have hfz10_2:=blk_frozen HGz10 2;clear HGz10 hgz10)))
    go_ret
    exact ⟨by first|rfl|(simp [errW_none,errW_some] <;> rfl)|(simp [*,errW_none,errW_some] <;> rfl),by repeat (first|(with_reducible first|exact HI0.out|apply IsS110.alloc|apply IsS110.drewN|apply IsS110.drew|apply IsS110.set_0|apply IsS110.set_1|apply IsS110.set_2)|exact HI0.out),by repeat (first|(with_reducible first|exact HB.out|apply below_alloc|apply pw_below_drewN|apply below_drew1|refine below_set ?_ (IsS110.ge HI0.out))|exact HB.out),by repeat (first|(with_reducible first|exact HK.out|apply KeepBut.set_|apply keep_drewN|apply keep_drew|apply keep_alloc)|exact HK.out)⟩
   ·rw [if_neg c8] at H
    have c8b0 : decide ((wrap64 ((t112.size : Int) - t113)) < a1)=false:=decide_eq_false c8
    clear c8
    obtain ⟨ji11,hji11⟩ : ∃ j_ : Int,(wrap64 ((wrap64 (t113 + a1)) - a1))=j_:=⟨_,rfl⟩
    replace H : (if 0≤(ji11) then (if (ji11)≤(wrap64 (t113 + a1)) then (if (wrap64 (t113 + a1))≤(t112.size : Int) then (some (t112.extract ((ji11) : Int).toNat ((wrap64 (t113 + a1)) : Int).toNat,t112,wrap64 (t113 + a1),t114)) else (none)) else (none)) else (none))=some (r1,r2,r3,r4):=by first|(rw [hji11] at H;exact H)|(simp only [hji11] at H ⊢;exact H)
    (try rw [hji11] at A3)
    have hji11w : (IntKind.i64.wrap ((wrap64 (t113 + a1)) - a1))=ji11:=(i64_w _).trans hji11
    by_cases c12 : 0≤(ji11)
    ·rw [if_pos c12] at H
     have c12b0:=eq_true c12
     have c12b1 : decide (0≤(ji11))=true:=decide_eq_true c12
     clear c12
     by_cases c13 : (ji11)≤(wrap64 (t113 + a1))
     ·rw [if_pos c13] at H
      have c13b0:=eq_true c13
      have c13b1 : decide ((ji11)≤(wrap64 (t113 + a1)))=true:=decide_eq_true c13
      by_cases c14 : (wrap64 (t113 + a1))≤(t112.size : Int)
      ·rw [if_pos c14] at H
       have c14b0:=eq_true c14
       have c14b1 : decide ((wrap64 (t113 + a1))≤(t112.size : Int))=true:=decide_eq_true c14
       simp only [Option.some.injEq,Prod.mk.injEq] at H
       obtain ⟨rfl,rfl,rfl,rfl⟩:=H
       go_enter Try.func62,Try.ntmps62
       go_wp2_with (first|(go_at_call 61;(with_reducible refine (raw_Reader_Err.calls g s0_0 s0_1 s0_2 t111 t112 t113 t114 w0 _ ?side1 ?side2 A3.out).mono ?_);(case side1=>repeat (first|(with_reducible first|exact HI0.out|apply IsS110.alloc|apply IsS110.drewN|apply IsS110.drew|apply IsS110.set_0|apply IsS110.set_1|apply IsS110.set_2)|exact HI0.out));(case side2=>repeat (first|(with_reducible first|exact HB.out|apply below_alloc|apply pw_below_drewN|apply below_drew1|refine below_set ?_ (IsS110.ge HI0.out))|exact HB.out));rintro e w15 ⟨rfl,hi,hb,hk⟩;have n0_:=Aside0.mk (KeepBut.trans (by repeat (first|(with_reducible first|exact HK.out|apply KeepBut.set_|apply keep_drewN|apply keep_drew|apply keep_alloc)|exact HK.out)) hk (.inl rfl));have n1_:=Aside0.mk (hb);have n2_:=Aside0.mk (hi);clear HK;clear HB;clear HI0;have HK:=n0_;have HB:=n1_;have HI0:=n2_;clear n0_ n1_ n2_;(try clear hb);(try clear hb2);(try clear hk);(try clear hi);obtain ⟨HGz16,hgz16⟩:=HI0.out;have hcz16_0:=cellS110_0 HGz16;have hcz16_1:=cellS110_1 HGz16;have hcz16_2:=cellS110_2 HGz16;have hfz16_0:=blk_frozen HGz16 0;have hfz16_1:=blk_frozen HGz16 1;have hfz16_2:=blk_frozen HGz16 2;clear HGz16 hgz16))
       repeat (go_quiet (first|(go_at_call 61;(with_reducible refine (raw_Reader_Err.calls g s0_0 s0_1 s0_2 t111 t112 t113 t114 w0 _ ?side1 ?side2 A3.out).mono ?_);(case side1=>repeat (first|(with_reducible first|exact HI0.out|apply IsS110.alloc|apply IsS110.drewN|apply IsS110.drew|apply IsS110.set_0|apply IsS110.set_1|apply IsS110.set_2)|exact HI0.out));(case side2=>repeat (first|(with_reducible first|exact HB.out|apply below_alloc|apply pw_below_drewN|apply below_drew1|refine below_set ?_ (IsS110.ge HI0.out))|exact HB.out));rintro e w15 ⟨rfl,hi,hb,hk⟩;have n0_:=Aside0.mk (KeepBut.trans (by repeat (first|(with_reducible first|exact HK.out|apply KeepBut.set_|apply keep_drewN|apply keep_drew|apply keep_alloc)|exact HK.out)) hk (.inl rfl));have n1_:=Aside0.mk (hb);have n2_:=Aside0.mk (hi);clear HK;clear HB;clear HI0;have HK:=n0_;have HB:=n1_;have HI0:=n2_;clear n0_ n1_ n2_;(try clear hb);(try clear hb2);(try clear hk);(try clear hi);obtain ⟨HGz16,hgz16⟩:=HI0.out;have hcz16_0:=cellS110_0 HGz16;have hcz16_1:=cellS110_1 HGz16;have hcz16_2:=cellS110_2 HGz16;have hfz16_0:=blk_frozen HGz16 0;have hfz16_1:=blk_frozen HGz16 1;have hfz16_2:=blk_frozen HGz16 2;clear HGz16 hgz16));try go_wp2_with (first|(go_at_call 61;(with_reducible refine (raw_Reader_Err.calls g s0_0 s0_1 s0_2 t111 t112 t113 t114 w0 _ ?side1 ?side2 A3.out).mono ?_);(case side1=>repeat (first|(with_reducible first|exact HI0.out|apply IsS110.alloc|apply IsS110.drewN|apply IsS110.drew|apply IsS110.set_0|apply IsS110.set_1|apply IsS110.set_2)|exact HI0.out));(case side2=>repeat (first|(with_reducible first|exact HB.out|apply below_alloc|apply pw_below_drewN|apply below_drew1|refine below_set ?_ (IsS110.ge HI0.out))|exact HB.out));rintro e w15 ⟨rfl,hi,hb,hk⟩;have n0_:=Aside0.mk (KeepBut.trans (by repeat (first|(with_reducible first|exact HK.out|apply KeepBut.set_|apply keep_drewN|apply keep_drew|apply keep_alloc)|exact HK.out)) hk (.inl rfl));have n1_:=Aside0.mk (hb);have n2_:=Aside0.mk (hi);clear HK;clear HB;clear HI0;have HK:=n0_;have HB:=n1_;have HI0:=n2_;clear n0_ n1_ n2_;(try clear hb);(try clear hb2);(try clear hk);(try clear hi);obtain ⟨HGz16,hgz16⟩:=HI0.out;have hcz16_0:=cellS110_0 HGz16;have hcz16_1:=cellS110_1 HGz16;have hcz16_2:=cellS110_2 HGz16;have hfz16_0:=blk_frozen HGz16 0;have hfz16_1:=blk_frozen HGz16 1;have hfz16_2:=blk_frozen HGz16 2;clear HGz16 hgz16)))
       go_ret
       exact ⟨by first|rfl|(simp [errW_none,errW_some] <;> rfl)|(simp only [← hji11];first|rfl|(simp [errW_none,errW_some] <;> rfl))|(simp [*,errW_none,errW_some] <;> rfl),by repeat (first|(with_reducible first|exact HI0.out|apply IsS110.alloc|apply IsS110.drewN|apply IsS110.drew|apply IsS110.set_0|apply IsS110.set_1|apply IsS110.set_2)|exact HI0.out),by repeat (first|(with_reducible first|exact HB.out|apply below_alloc|apply pw_below_drewN|apply below_drew1|refine below_set ?_ (IsS110.ge HI0.out))|exact HB.out),by repeat (first|(with_reducible first|exact HK.out|apply KeepBut.set_|apply keep_drewN|apply keep_drew|apply keep_alloc)|exact HK.out)⟩
      ·rw [if_neg c14] at H
       exact absurd H (by simp)
     ·rw [if_neg c13] at H
      exact absurd H (by simp)
    ·rw [if_neg c12] at H
     exact absurd H (by simp)
 ·rw [if_neg c4] at H
  have c4b0 : (t111 == 0)=false:=beq_eq_false_iff_ne.mpr c4
  have c4b1 : (t111 != 0)=true:=bne_iff_ne.mpr c4
  simp only [Option.some.injEq,Prod.mk.injEq] at H
  obtain ⟨rfl,rfl,rfl,rfl⟩:=H
  go_enter Try.func62,Try.ntmps62
  go_wp2_with (first|(go_at_call 61;(with_reducible refine (raw_Reader_Err.calls g s0_0 s0_1 s0_2 t111 t112 t113 t114 w0 _ ?side1 ?side2 A3.out).mono ?_);(case side1=>repeat (first|(with_reducible first|exact HI0.out|apply IsS110.alloc|apply IsS110.drewN|apply IsS110.drew|apply IsS110.set_0|apply IsS110.set_1|apply IsS110.set_2)|exact HI0.out));(case side2=>repeat (first|(with_reducible first|exact HB.out|apply below_alloc|apply pw_below_drewN|apply below_drew1|refine below_set ?_ (IsS110.ge HI0.out))|exact HB.out));rintro e w17 ⟨rfl,hi,hb,hk⟩;have n0_:=Aside0.mk (KeepBut.trans (by repeat (first|(with_reducible first|exact HK.out|apply KeepBut.set_|apply keep_drewN|apply keep_drew|apply keep_alloc)|exact HK.out)) hk (.inl rfl));have n1_:=Aside0.mk (hb);have n2_:=Aside0.mk (hi);clear HK;clear HB;clear HI0;have HK:=n0_;have HB:=n1_;have HI0:=n2_;clear n0_ n1_ n2_;(try clear hb);(try clear hb2);(try clear hk);(try clear hi)))
  repeat (go_quiet (first|(go_at_call 61;(with_reducible refine (raw_Reader_Err.calls g s0_0 s0_1 s0_2 t111 t112 t113 t114 w0 _ ?side1 ?side2 A3.out).mono ?_);(case side1=>repeat (first|(with_reducible first|exact HI0.out|apply IsS110.alloc|apply IsS110.drewN|apply IsS110.drew|apply IsS110.set_0|apply IsS110.set_1|apply IsS110.set_2)|exact HI0.out));(case side2=>repeat (first|(with_reducible first|exact HB.out|apply below_alloc|apply pw_below_drewN|apply below_drew1|refine below_set ?_ (IsS110.ge HI0.out))|exact HB.out));rintro e w17 ⟨rfl,hi,hb,hk⟩;have n0_:=Aside0.mk (KeepBut.trans (by repeat (first|(with_reducible first|exact HK.out|apply KeepBut.set_|apply keep_drewN|apply keep_drew|apply keep_alloc)|exact HK.out)) hk (.inl rfl));have n1_:=Aside0.mk (hb);have n2_:=Aside0.mk (hi);clear HK;clear HB;clear HI0;have HK:=n0_;have HB:=n1_;have HI0:=n2_;clear n0_ n1_ n2_;(try clear hb);(try clear hb2);(try clear hk);(try clear hi)));try go_wp2_with (first|(go_at_call 61;(with_reducible refine (raw_Reader_Err.calls g s0_0 s0_1 s0_2 t111 t112 t113 t114 w0 _ ?side1 ?side2 A3.out).mono ?_);(case side1=>repeat (first|(with_reducible first|exact HI0.out|apply IsS110.alloc|apply IsS110.drewN|apply IsS110.drew|apply IsS110.set_0|apply IsS110.set_1|apply IsS110.set_2)|exact HI0.out));(case side2=>repeat (first|(with_reducible first|exact HB.out|apply below_alloc|apply pw_below_drewN|apply below_drew1|refine below_set ?_ (IsS110.ge HI0.out))|exact HB.out));rintro e w17 ⟨rfl,hi,hb,hk⟩;have n0_:=Aside0.mk (KeepBut.trans (by repeat (first|(with_reducible first|exact HK.out|apply KeepBut.set_|apply keep_drewN|apply keep_drew|apply keep_alloc)|exact HK.out)) hk (.inl rfl));have n1_:=Aside0.mk (hb);have n2_:=Aside0.mk (hi);clear HK;clear HB;clear HI0;have HK:=n0_;have HB:=n1_;have HI0:=n2_;clear n0_ n1_ n2_;(try clear hb);(try clear hb2);(try clear hk);(try clear hi))))
  go_ret
  exact ⟨by first|rfl|(simp [errW_none,errW_some] <;> rfl)|(simp [*,errW_none,errW_some] <;> rfl),by repeat (first|(with_reducible first|exact HI0.out|apply IsS110.alloc|apply IsS110.drewN|apply IsS110.drew|apply IsS110.set_0|apply IsS110.set_1|apply IsS110.set_2)|exact HI0.out),by repeat (first|(with_reducible first|exact HB.out|apply below_alloc|apply pw_below_drewN|apply below_drew1|refine below_set ?_ (IsS110.ge HI0.out))|exact HB.out),by repeat (first|(with_reducible first|exact HK.out|apply KeepBut.set_|apply keep_drewN|apply keep_drew|apply keep_alloc)|exact HK.out)⟩
end Go.Proofs.Ytfegabikfkmepaa.PNe
end
section
namespace Go.Proofs.Ytfegabikfkmepaa.PNe
open Go.RowKit Go.Proofs.YtfegabikfkmepaaW.PrintWords Go.Proofs.YtfegabikfkmepaaW.PrintLast Go.Proofs.YtfegabikfkmepaaW.PrintMore
attribute [local go_sem] max2_int min2_int max_two min_two max_three min_three max_four min_four
set_option linter.unusedVariables false
set_option linter.unusedSimpArgs false
def raw_Reader_Left.f (s0_0 : ByteArray) (s0_1 : Int) (s0_2 : Int) : Option (Int × ByteArray × Int × Int):=some (wrap64 ((s0_0.size : Int) - s0_1),s0_0,s0_1,s0_2)
set_option maxHeartbeats 8000000 in
set_option maxRecDepth 100000 in
theorem raw_Reader_Left.calls (g : Nat) (s0_0 : ByteArray) (s0_1 : Int) (s0_2 : Int) (r1 : Int) (r2 : ByteArray) (r3 : Int) (r4 : Int) (w0 w : World) (hI : IsS110 w0 w g s0_0 s0_1 s0_2) (hB : Below w0.heap.size w0 w) (h : raw_Reader_Left.f s0_0 s0_1 s0_2=some (r1,r2,r3,r4)) :
  Calls Try.prog 63 #[.pointer (some ⟨g,0,none⟩)] w fun e w'=>e=.returned (.int .i64 r1)∧IsS110 w0 w' g r2 r3 r4∧Below w0.heap.size w0 w'∧KeepBut w w' g none:=by
 have HI0:=Aside0.mk hI
 have HK:=Aside0.mk (KeepBut.refl w g none)
 have HL:=Aside0.mk hB.size
 clear hI
 have HW0:=Aside0.mk hB.size
 have HB:=Aside0.mk hB
 clear hB
 have H : (some (wrap64 ((s0_0.size : Int) - s0_1),s0_0,s0_1,s0_2))=some (r1,r2,r3,r4):=h
 clear h
 simp only [Option.some.injEq,Prod.mk.injEq] at H
 obtain ⟨rfl,rfl,rfl,rfl⟩:=H
 obtain ⟨HGz2,hgz2⟩:=HI0.out
 have hcz2_0:=cellS110_0 HGz2
 have hcz2_1:=cellS110_1 HGz2
 have hcz2_2:=cellS110_2 HGz2
 have hfz2_0:=blk_frozen HGz2 0
 have hfz2_1:=blk_frozen HGz2 1
 have hfz2_2:=blk_frozen HGz2 2
 clear HGz2 hgz2
 go_enter Try.func63,Try.ntmps63
 go_wp2
 repeat (go_quiet (fail);try go_wp2)
 go_ret
 exact ⟨by first|rfl|(simp [errW_none,errW_some] <;> rfl)|(simp [*,errW_none,errW_some] <;> rfl),by repeat (first|(with_reducible first|exact HI0.out|apply IsS110.alloc|apply IsS110.drewN|apply IsS110.drew|apply IsS110.set_0|apply IsS110.set_1|apply IsS110.set_2)|exact HI0.out),by repeat (first|(with_reducible first|exact HB.out|apply below_alloc|apply pw_below_drewN|apply below_drew1|refine below_set ?_ (IsS110.ge HI0.out))|exact HB.out),by repeat (first|(with_reducible first|exact HK.out|apply KeepBut.set_|apply keep_drewN|apply keep_drew|apply keep_alloc)|exact HK.out)⟩
end Go.Proofs.Ytfegabikfkmepaa.PNe
end
section
namespace Go.Proofs.Ytfegabikfkmepaa.PNe
open Go.RowKit Go.Proofs.YtfegabikfkmepaaW.PrintWords Go.Proofs.YtfegabikfkmepaaW.PrintLast Go.Proofs.YtfegabikfkmepaaW.PrintMore
attribute [local go_sem] max2_int min2_int max_two min_two max_three min_three max_four min_four
set_option linter.unusedVariables false
set_option linter.unusedSimpArgs false
def node_take.f (s0_0 : ByteArray) (s0_1 : Int) (s0_2 : Int) : Option (ByteArray × Int × Int × ByteArray × Int × Int):=(raw_Reader_Number.f s0_0 s0_1 s0_2 4).bind fun bt116=>((raw_Reader_Number.f bt116.2.1 bt116.2.2.1 bt116.2.2.2 2).bind fun bt120=>((raw_Reader_Left.f bt120.2.1 bt120.2.2.1 bt120.2.2.2).bind fun bt125=>((raw_Reader_Bytes.f bt125.2.1 bt125.2.2.1 bt125.2.2.2 bt125.1).bind fun bt129=>(some (bt129.1,(bt116.1) % 4294967296,wrap64 (bt120.1),bt129.2.1,bt129.2.2.1,bt129.2.2.2)))))
set_option maxHeartbeats 8000000 in
set_option maxRecDepth 100000 in
theorem node_take.calls (g : Nat) (s0_0 : ByteArray) (s0_1 : Int) (s0_2 : Int) (r1 : ByteArray) (r2 : Int) (r3 : Int) (r4 : ByteArray) (r5 : Int) (r6 : Int) (w0 w : World) (hI : IsS110 w0 w g s0_0 s0_1 s0_2) (hB : Below w0.heap.size w0 w) (h : node_take.f s0_0 s0_1 s0_2=some (r1,r2,r3,r4,r5,r6)) :
  Calls Try.prog 46 #[.pointer (some ⟨g,0,none⟩)] w fun e w'=>e=.returned (.agg #[.string r1,.int .u32 r2,.int .i64 r3])∧IsS110 w0 w' g r4 r5 r6∧Below w0.heap.size w0 w'∧KeepBut w w' g none:=by
 have hu43:=Try.underlying43
 have hu41:=Try.underlying41
 have HI0:=Aside0.mk hI
 have HK:=Aside0.mk (KeepBut.refl w g none)
 have HL:=Aside0.mk hB.size
 clear hI
 have HW0:=Aside0.mk hB.size
 have HB:=Aside0.mk hB
 clear hB
 have H : ((raw_Reader_Number.f s0_0 s0_1 s0_2 4).bind fun bt116=>((raw_Reader_Number.f bt116.2.1 bt116.2.2.1 bt116.2.2.2 2).bind fun bt120=>((raw_Reader_Left.f bt120.2.1 bt120.2.2.1 bt120.2.2.2).bind fun bt125=>((raw_Reader_Bytes.f bt125.2.1 bt125.2.2.1 bt125.2.2.2 bt125.1).bind fun bt129=>(some (bt129.1,(bt116.1) % 4294967296,wrap64 (bt120.1),bt129.2.1,bt129.2.2.1,bt129.2.2.2))))))=some (r1,r2,r3,r4,r5,r6):=h
 clear h
 replace H:=Option.bind_eq_some_iff.mp H
 obtain ⟨⟨t116,t117,t118,t119⟩,A20,H⟩:=H
 replace H : ((raw_Reader_Number.f t117 t118 t119 2).bind fun bt120=>((raw_Reader_Left.f bt120.2.1 bt120.2.2.1 bt120.2.2.2).bind fun bt125=>((raw_Reader_Bytes.f bt125.2.1 bt125.2.2.1 bt125.2.2.2 bt125.1).bind fun bt129=>(some (bt129.1,(t116) % 4294967296,wrap64 (bt120.1),bt129.2.1,bt129.2.2.1,bt129.2.2.2)))))=some (r1,r2,r3,r4,r5,r6):=H
 have A2:=Aside0.mk A20
 clear A20
 replace H:=Option.bind_eq_some_iff.mp H
 obtain ⟨⟨t120,t121,t122,t123⟩,A30,H⟩:=H
 replace H : ((raw_Reader_Left.f t121 t122 t123).bind fun bt125=>((raw_Reader_Bytes.f bt125.2.1 bt125.2.2.1 bt125.2.2.2 bt125.1).bind fun bt129=>(some (bt129.1,(t116) % 4294967296,wrap64 (t120),bt129.2.1,bt129.2.2.1,bt129.2.2.2))))=some (r1,r2,r3,r4,r5,r6):=H
 have A3:=Aside0.mk A30
 clear A30
 replace H:=Option.bind_eq_some_iff.mp H
 obtain ⟨⟨t125,t126,t127,t128⟩,A40,H⟩:=H
 replace H : ((raw_Reader_Bytes.f t126 t127 t128 t125).bind fun bt129=>(some (bt129.1,(t116) % 4294967296,wrap64 (t120),bt129.2.1,bt129.2.2.1,bt129.2.2.2)))=some (r1,r2,r3,r4,r5,r6):=H
 have A4:=Aside0.mk A40
 clear A40
 replace H:=Option.bind_eq_some_iff.mp H
 obtain ⟨⟨t129,t130,t131,t132⟩,A50,H⟩:=H
 replace H : (some (t129,(t116) % 4294967296,wrap64 (t120),t130,t131,t132))=some (r1,r2,r3,r4,r5,r6):=H
 have A5:=Aside0.mk A50
 clear A50
 simp only [Option.some.injEq,Prod.mk.injEq] at H
 obtain ⟨rfl,rfl,rfl,rfl,rfl,rfl⟩:=H
 go_enter Try.func46,Try.ntmps46
 go_wp2_with (first|((with_reducible refine gate_dst (N:=2) rfl ?_);refine box_event ?hg (N:=2) ?hd (cs:=#[.string (⟨#[]⟩ : ByteArray),.int .u32 0,.int .i64 0]) (t:=43) ?hr ?_;(case hd=>rfl);(case hg=>rfl);(case hr=>first|(go_simp;done)|(go_simp;rfl));intro gb115 hg w6 hbox hb;have n0_:=Aside0.mk (IsS110.below (by repeat (first|(with_reducible first|exact HI0.out|apply IsS110.alloc|apply IsS110.drewN|apply IsS110.drew|apply IsS110.set_0|apply IsS110.set_1|apply IsS110.set_2)|exact HI0.out)) hb);have n1_:=Aside0.mk (KeepBut.trans (by repeat (first|(with_reducible first|exact HK.out|apply KeepBut.set_|apply keep_drewN|apply keep_drew|apply keep_alloc)|exact HK.out)) (KeepBut.of_below hb g none) (.inl rfl));have n2_:=Aside0.mk (below_step (by repeat (first|(with_reducible first|exact HB.out|apply below_alloc|apply pw_below_drewN|apply below_drew1|refine below_set ?_ (IsS110.ge HI0.out))|exact HB.out)) hb);have n3_:=Aside0.mk (hbox);have n4_:=Aside0.mk ((by rw [hg];exact (keep_size (w:=w) (g:=g) (row:=none) (by repeat (first|(with_reducible first|exact HK.out|apply KeepBut.set_|apply keep_drewN|apply keep_drew|apply keep_alloc)|exact HK.out))) : w.heap.size≤gb115));have n5_:=Aside0.mk ((Nat.le_trans HW0.out (by rw [hg];exact (keep_size (w:=w) (g:=g) (row:=none) (by repeat (first|(with_reducible first|exact HK.out|apply KeepBut.set_|apply keep_drewN|apply keep_drew|apply keep_alloc)|exact HK.out))) : w.heap.size≤gb115) : w0.heap.size≤gb115));have n6_:=Aside0.mk ((by rw [hg];exact Nat.ne_of_lt (IsS110.lt (show IsS110 w0 _ g s0_0 s0_1 s0_2 from by repeat (first|(with_reducible first|exact HI0.out|apply IsS110.alloc|apply IsS110.drewN|apply IsS110.drew|apply IsS110.set_0|apply IsS110.set_1|apply IsS110.set_2)|exact HI0.out))) : g≠gb115));have n7_:=Aside0.mk ((by rw [hg];exact Nat.ne_of_gt (IsS110.lt (show IsS110 w0 _ g s0_0 s0_1 s0_2 from by repeat (first|(with_reducible first|exact HI0.out|apply IsS110.alloc|apply IsS110.drewN|apply IsS110.drew|apply IsS110.set_0|apply IsS110.set_1|apply IsS110.set_2)|exact HI0.out))) : gb115≠g));clear HI0;clear HK;clear HB;have HI0:=n0_;have HK:=n1_;have HB:=n2_;have BK115:=n3_;have GW115:=n4_;have GE115:=n5_;have NB0_115:=n6_;have NB115_0:=n7_;clear n0_ n1_ n2_ n3_ n4_ n5_ n6_ n7_;clear hb hbox hg)|((with_reducible refine gate_callee (f:=45) rfl ?_);refine goesL_ (some 5) rfl rfl Try.func45 (by kernel_rfl) rfl #[.pointer (some ⟨g,0,none⟩),.int .i64 4] rfl (by (try simp only [List.map_toArray,List.map_cons,List.map_nil]);first|done|rfl|(simp only [List.length_drop,List.length_take];rfl)) ?_;(with_reducible refine (raw_Reader_Number.calls g s0_0 s0_1 s0_2 4 t116 t117 t118 t119 w0 _ ?side1 ?side2 A2.out).mono ?_);(case side1=>repeat (first|(with_reducible first|exact HI0.out|apply IsS110.alloc|apply IsS110.drewN|apply IsS110.drew|apply IsS110.set_0|apply IsS110.set_1|apply IsS110.set_2|refine IsS110.far ?_ NB0_115.out _)|exact HI0.out));(case side2=>repeat (first|(with_reducible first|exact HB.out|apply below_alloc|apply pw_below_drewN|apply below_drew1|refine below_set ?_ (IsS110.ge HI0.out)|refine below_set ?_ GE115.out)|exact HB.out));rintro e w7 ⟨rfl,hi,hb,hk⟩;refine ⟨_,rfl,?_⟩;have n0_:=Aside0.mk (KeepBut.blk hk (g':=gb115) (o:=.cells #[.string (⟨#[]⟩ : ByteArray),.int .u32 0,.int .i64 0] 43 (0,0)) (by (with_reducible repeat (first|refine blk_drewN ?_ _|refine blk_drew ?_|refine blk_alloc ?_ _));exact BK115.out) NB115_0.out (by simp));have n1_:=Aside0.mk (KeepBut.trans (by repeat (first|(with_reducible first|exact HK.out|apply KeepBut.set_|apply keep_drewN|apply keep_drew|apply keep_alloc|refine keep_far ?_ GW115.out _)|exact HK.out)) hk (.inl rfl));have n2_:=Aside0.mk (hb);have n3_:=Aside0.mk (hi);clear BK115;clear HK;clear HB;clear HI0;have BK115:=n0_;have HK:=n1_;have HB:=n2_;have HI0:=n3_;clear n0_ n1_ n2_ n3_;(try clear hb);(try clear hb2);(try clear hk);(try clear hi))|((with_reducible refine gate_callee (f:=45) rfl ?_);refine goesL_ (some 8) rfl rfl Try.func45 (by kernel_rfl) rfl #[.pointer (some ⟨g,0,none⟩),.int .i64 2] rfl (by (try simp only [List.map_toArray,List.map_cons,List.map_nil]);first|done|rfl|(simp only [List.length_drop,List.length_take];rfl)) ?_;(with_reducible refine (raw_Reader_Number.calls g t117 t118 t119 2 t120 t121 t122 t123 w0 _ ?side1 ?side2 A3.out).mono ?_);(case side1=>repeat (first|(with_reducible first|exact HI0.out|apply IsS110.alloc|apply IsS110.drewN|apply IsS110.drew|apply IsS110.set_0|apply IsS110.set_1|apply IsS110.set_2|refine IsS110.far ?_ NB0_115.out _)|exact HI0.out));(case side2=>repeat (first|(with_reducible first|exact HB.out|apply below_alloc|apply pw_below_drewN|apply below_drew1|refine below_set ?_ (IsS110.ge HI0.out)|refine below_set ?_ GE115.out)|exact HB.out));rintro e w8 ⟨rfl,hi,hb,hk⟩;refine ⟨_,rfl,?_⟩;have n0_:=Aside0.mk (KeepBut.blk hk (g':=gb115) (o:=.cells #[.string (⟨#[]⟩ : ByteArray),.int .u32 0,.int .i64 0] 43 (0,0)) (by (with_reducible repeat (first|refine blk_drewN ?_ _|refine blk_drew ?_|refine blk_alloc ?_ _));exact BK115.out) NB115_0.out (by simp));have n1_:=Aside0.mk (KeepBut.trans (by repeat (first|(with_reducible first|exact HK.out|apply KeepBut.set_|apply keep_drewN|apply keep_drew|apply keep_alloc|refine keep_far ?_ GW115.out _)|exact HK.out)) hk (.inl rfl));have n2_:=Aside0.mk (hb);have n3_:=Aside0.mk (hi);clear BK115;clear HK;clear HB;clear HI0;have BK115:=n0_;have HK:=n1_;have HB:=n2_;have HI0:=n3_;clear n0_ n1_ n2_ n3_;(try clear hb);(try clear hb2);(try clear hk);(try clear hi))|((with_reducible refine gate_dst (N:=3) rfl ?_);refine box_event ?hg (N:=3) ?hd (cs:=#[.string (⟨#[]⟩ : ByteArray),.int .u32 0,.int .i64 0]) (t:=43) ?hr ?_;(case hd=>rfl);(case hg=>rfl);(case hr=>first|(go_simp;done)|(go_simp;rfl));intro gb124 hg w9 hbox hb;have n0_:=Aside0.mk (IsS110.below (by repeat (first|(with_reducible first|exact HI0.out|apply IsS110.alloc|apply IsS110.drewN|apply IsS110.drew|apply IsS110.set_0|apply IsS110.set_1|apply IsS110.set_2|refine IsS110.far ?_ NB0_115.out _)|exact HI0.out)) hb);have n1_:=Aside0.mk (blk_below (g:=gb115) (o:=.cells #[.string (⟨#[]⟩ : ByteArray),.int .u32 0,.int .i64 0] 43 (0,0)) (by (with_reducible repeat (first|refine blk_drewN ?_ _|refine blk_drew ?_|refine blk_alloc ?_ _));exact BK115.out) hb);have n2_:=Aside0.mk (KeepBut.trans (by repeat (first|(with_reducible first|exact HK.out|apply KeepBut.set_|apply keep_drewN|apply keep_drew|apply keep_alloc|refine keep_far ?_ GW115.out _)|exact HK.out)) (KeepBut.of_below hb g none) (.inl rfl));have n3_:=Aside0.mk (below_step (by repeat (first|(with_reducible first|exact HB.out|apply below_alloc|apply pw_below_drewN|apply below_drew1|refine below_set ?_ (IsS110.ge HI0.out)|refine below_set ?_ GE115.out)|exact HB.out)) hb);have n4_:=Aside0.mk (hbox);have n5_:=Aside0.mk ((by rw [hg];exact (keep_size (w:=w) (g:=g) (row:=none) (by repeat (first|(with_reducible first|exact HK.out|apply KeepBut.set_|apply keep_drewN|apply keep_drew|apply keep_alloc|refine keep_far ?_ GW115.out _)|exact HK.out))) : w.heap.size≤gb124));have n6_:=Aside0.mk ((Nat.le_trans HW0.out (by rw [hg];exact (keep_size (w:=w) (g:=g) (row:=none) (by repeat (first|(with_reducible first|exact HK.out|apply KeepBut.set_|apply keep_drewN|apply keep_drew|apply keep_alloc|refine keep_far ?_ GW115.out _)|exact HK.out))) : w.heap.size≤gb124) : w0.heap.size≤gb124));have n7_:=Aside0.mk ((by rw [hg];exact Nat.ne_of_lt (blk_lt (g:=gb115) (o:=.cells #[.string (⟨#[]⟩ : ByteArray),.int .u32 0,.int .i64 0] 43 (0,0)) (by (with_reducible repeat (first|refine blk_drewN ?_ _|refine blk_drew ?_|refine blk_alloc ?_ _));exact BK115.out)) : gb115≠gb124));have n8_:=Aside0.mk ((by rw [hg];exact Nat.ne_of_gt (blk_lt (g:=gb115) (o:=.cells #[.string (⟨#[]⟩ : ByteArray),.int .u32 0,.int .i64 0] 43 (0,0)) (by (with_reducible repeat (first|refine blk_drewN ?_ _|refine blk_drew ?_|refine blk_alloc ?_ _));exact BK115.out)) : gb124≠gb115));have n9_:=Aside0.mk ((by rw [hg];exact Nat.ne_of_lt (IsS110.lt (show IsS110 w0 _ g t121 t122 t123 from by repeat (first|(with_reducible first|exact HI0.out|apply IsS110.alloc|apply IsS110.drewN|apply IsS110.drew|apply IsS110.set_0|apply IsS110.set_1|apply IsS110.set_2|refine IsS110.far ?_ NB0_115.out _)|exact HI0.out))) : g≠gb124));have n10_:=Aside0.mk ((by rw [hg];exact Nat.ne_of_gt (IsS110.lt (show IsS110 w0 _ g t121 t122 t123 from by repeat (first|(with_reducible first|exact HI0.out|apply IsS110.alloc|apply IsS110.drewN|apply IsS110.drew|apply IsS110.set_0|apply IsS110.set_1|apply IsS110.set_2|refine IsS110.far ?_ NB0_115.out _)|exact HI0.out))) : gb124≠g));clear HI0;clear BK115;clear HK;clear HB;have HI0:=n0_;have BK115:=n1_;have HK:=n2_;have HB:=n3_;have BK124:=n4_;have GW124:=n5_;have GE124:=n6_;have NB115_124:=n7_;have NB124_115:=n8_;have NB0_124:=n9_;have NB124_0:=n10_;clear n0_ n1_ n2_ n3_ n4_ n5_ n6_ n7_ n8_ n9_ n10_;clear hb hbox hg;have hnb10:=NB124_115.out;have hnc10:=NB115_124.out;have hnb11:=NB124_0.out;have hnc11:=NB0_124.out;have hcz12_0 : w9.cell? ⟨gb124,0,none⟩=some (.string (⟨#[]⟩ : ByteArray)):=(blk_cell BK124.out 0).trans rfl;have hcz12_1 : w9.cell? ⟨gb124,1,none⟩=some (.int .u32 0):=(blk_cell BK124.out 1).trans rfl;have hcz12_2 : w9.cell? ⟨gb124,2,none⟩=some (.int .i64 0):=(blk_cell BK124.out 2).trans rfl;have hfz12_0:=blk_frozen BK124.out 0;have hfz12_1:=blk_frozen BK124.out 1;have hfz12_2:=blk_frozen BK124.out 2)|((with_reducible refine gate_callee (f:=63) rfl ?_);refine goesL_ (some 14) rfl rfl Try.func63 (by kernel_rfl) rfl #[.pointer (some ⟨g,0,none⟩)] rfl (by (try simp only [List.map_toArray,List.map_cons,List.map_nil]);first|done|rfl|(simp only [List.length_drop,List.length_take];rfl)) ?_;(with_reducible refine (raw_Reader_Left.calls g t121 t122 t123 t125 t126 t127 t128 w0 _ ?side1 ?side2 A4.out).mono ?_);(case side1=>repeat (first|(with_reducible first|exact HI0.out|apply IsS110.alloc|apply IsS110.drewN|apply IsS110.drew|apply IsS110.set_0|apply IsS110.set_1|apply IsS110.set_2|refine IsS110.far ?_ NB0_115.out _|refine IsS110.far ?_ NB0_124.out _)|exact HI0.out));(case side2=>repeat (first|(with_reducible first|exact HB.out|apply below_alloc|apply pw_below_drewN|apply below_drew1|refine below_set ?_ (IsS110.ge HI0.out)|refine below_set ?_ GE115.out|refine below_set ?_ GE124.out)|exact HB.out));rintro e w13 ⟨rfl,hi,hb,hk⟩;refine ⟨_,rfl,?_⟩;have n0_:=Aside0.mk (KeepBut.blk hk (g':=gb115) (o:=.cells #[.string (⟨#[]⟩ : ByteArray),.int .u32 0,.int .i64 0] 43 (0,0)) (by (with_reducible repeat (first|refine blk_drewN ?_ _|refine blk_drew ?_|refine blk_alloc ?_ _));refine blk_far ?_ NB115_124.out _;(with_reducible repeat (first|refine blk_drewN ?_ _|refine blk_drew ?_|refine blk_alloc ?_ _));refine blk_far ?_ NB115_124.out _;(with_reducible repeat (first|refine blk_drewN ?_ _|refine blk_drew ?_|refine blk_alloc ?_ _));refine blk_far ?_ NB115_124.out _;(with_reducible repeat (first|refine blk_drewN ?_ _|refine blk_drew ?_|refine blk_alloc ?_ _));exact BK115.out) NB115_0.out (by simp));have n1_:=Aside0.mk (KeepBut.blk hk (g':=gb124) (o:=.cells #[.string (⟨#[]⟩ : ByteArray),.int .u32 ((t116) % 4294967296),.int .i64 (wrap64 (t120))] 43 (0,0)) (by (with_reducible repeat (first|refine blk_drewN ?_ _|refine blk_drew ?_|refine blk_alloc ?_ _));refine blk_put (cs:=#[.string (⟨#[]⟩ : ByteArray),.int .u32 ((t116) % 4294967296),.int .i64 0]) ?_ 2 _ rfl;(with_reducible repeat (first|refine blk_drewN ?_ _|refine blk_drew ?_|refine blk_alloc ?_ _));refine blk_put (cs:=#[.string (⟨#[]⟩ : ByteArray),.int .u32 0,.int .i64 0]) ?_ 1 _ rfl;(with_reducible repeat (first|refine blk_drewN ?_ _|refine blk_drew ?_|refine blk_alloc ?_ _));refine blk_put (cs:=#[.string (⟨#[]⟩ : ByteArray),.int .u32 0,.int .i64 0]) ?_ 0 _ rfl;(with_reducible repeat (first|refine blk_drewN ?_ _|refine blk_drew ?_|refine blk_alloc ?_ _));exact BK124.out) NB124_0.out (by simp));have n2_:=Aside0.mk (KeepBut.trans (by repeat (first|(with_reducible first|exact HK.out|apply KeepBut.set_|apply keep_drewN|apply keep_drew|apply keep_alloc|refine keep_far ?_ GW115.out _|refine keep_far ?_ GW124.out _)|exact HK.out)) hk (.inl rfl));have n3_:=Aside0.mk (hb);have n4_:=Aside0.mk (hi);clear BK115;clear BK124;clear HK;clear HB;clear HI0;have BK115:=n0_;have BK124:=n1_;have HK:=n2_;have HB:=n3_;have HI0:=n4_;clear n0_ n1_ n2_ n3_ n4_;(try clear hb);(try clear hb2);(try clear hk);(try clear hi))|((with_reducible refine gate_callee (f:=62) rfl ?_);refine goesL_ (some 15) rfl rfl Try.func62 (by kernel_rfl) rfl #[.pointer (some ⟨g,0,none⟩),.int .i64 t125] rfl (by (try simp only [List.map_toArray,List.map_cons,List.map_nil]);first|done|rfl|(simp only [List.length_drop,List.length_take];rfl)) ?_;(with_reducible refine (raw_Reader_Bytes.calls g t126 t127 t128 t125 t129 t130 t131 t132 w0 _ ?side1 ?side2 A5.out).mono ?_);(case side1=>repeat (first|(with_reducible first|exact HI0.out|apply IsS110.alloc|apply IsS110.drewN|apply IsS110.drew|apply IsS110.set_0|apply IsS110.set_1|apply IsS110.set_2|refine IsS110.far ?_ NB0_115.out _|refine IsS110.far ?_ NB0_124.out _)|exact HI0.out));(case side2=>repeat (first|(with_reducible first|exact HB.out|apply below_alloc|apply pw_below_drewN|apply below_drew1|refine below_set ?_ (IsS110.ge HI0.out)|refine below_set ?_ GE115.out|refine below_set ?_ GE124.out)|exact HB.out));rintro e w14 ⟨rfl,hi,hb,hk⟩;refine ⟨_,rfl,?_⟩;have n0_:=Aside0.mk (KeepBut.blk hk (g':=gb115) (o:=.cells #[.string (⟨#[]⟩ : ByteArray),.int .u32 0,.int .i64 0] 43 (0,0)) (by (with_reducible repeat (first|refine blk_drewN ?_ _|refine blk_drew ?_|refine blk_alloc ?_ _));exact BK115.out) NB115_0.out (by simp));have n1_:=Aside0.mk (KeepBut.blk hk (g':=gb124) (o:=.cells #[.string (⟨#[]⟩ : ByteArray),.int .u32 ((t116) % 4294967296),.int .i64 (wrap64 (t120))] 43 (0,0)) (by (with_reducible repeat (first|refine blk_drewN ?_ _|refine blk_drew ?_|refine blk_alloc ?_ _));exact BK124.out) NB124_0.out (by simp));have n2_:=Aside0.mk (KeepBut.trans (by repeat (first|(with_reducible first|exact HK.out|apply KeepBut.set_|apply keep_drewN|apply keep_drew|apply keep_alloc|refine keep_far ?_ GW115.out _|refine keep_far ?_ GW124.out _)|exact HK.out)) hk (.inl rfl));have n3_:=Aside0.mk (hb);have n4_:=Aside0.mk (hi);clear BK115;clear BK124;clear HK;clear HB;clear HI0;have BK115:=n0_;have BK124:=n1_;have HK:=n2_;have HB:=n3_;have HI0:=n4_;clear n0_ n1_ n2_ n3_ n4_;(try clear hb);(try clear hb2);(try clear hk);(try clear hi);have hcz15_0 : w14.cell? ⟨gb124,0,none⟩=some (.string (⟨#[]⟩ : ByteArray)):=(blk_cell BK124.out 0).trans rfl;have hcz15_1 : w14.cell? ⟨gb124,1,none⟩=some (.int .u32 ((t116) % 4294967296)):=(blk_cell BK124.out 1).trans rfl;have hcz15_2 : w14.cell? ⟨gb124,2,none⟩=some (.int .i64 (wrap64 (t120))):=(blk_cell BK124.out 2).trans rfl;have hfz15_0:=blk_frozen BK124.out 0;have hfz15_1:=blk_frozen BK124.out 1;have hfz15_2:=blk_frozen BK124.out 2;have hnb16:=NB115_0.out;have hnc16:=NB0_115.out;have hcz17_0 : w14.cell? ⟨gb115,0,none⟩=some (.string (⟨#[]⟩ : ByteArray)):=(blk_cell BK115.out 0).trans rfl;have hcz17_1 : w14.cell? ⟨gb115,1,none⟩=some (.int .u32 0):=(blk_cell BK115.out 1).trans rfl;have hcz17_2 : w14.cell? ⟨gb115,2,none⟩=some (.int .i64 0):=(blk_cell BK115.out 2).trans rfl;have hfz17_0:=blk_frozen BK115.out 0;have hfz17_1:=blk_frozen BK115.out 1;have hfz17_2:=blk_frozen BK115.out 2))
 refine bodyPost_ret (results_cell_row rfl _ _ gb115 43 #[.string t129,.int .u32 ((t116) % 4294967296),.int .i64 (wrap64 (t120))] (0,0) _ rfl (by (with_reducible repeat (first|refine blk_drewN ?_ _|refine blk_drew ?_|refine blk_alloc ?_ _));refine blk_put (cs:=#[.string t129,.int .u32 ((t116) % 4294967296),.int .i64 0]) ?_ 2 _ rfl;(with_reducible repeat (first|refine blk_drewN ?_ _|refine blk_drew ?_|refine blk_alloc ?_ _));refine blk_put (cs:=#[.string t129,.int .u32 0,.int .i64 0]) ?_ 1 _ rfl;(with_reducible repeat (first|refine blk_drewN ?_ _|refine blk_drew ?_|refine blk_alloc ?_ _));refine blk_put (cs:=#[.string (⟨#[]⟩ : ByteArray),.int .u32 0,.int .i64 0]) ?_ 0 _ rfl;(with_reducible repeat (first|refine blk_drewN ?_ _|refine blk_drew ?_|refine blk_alloc ?_ _));refine blk_far ?_ NB115_124.out _;(with_reducible repeat (first|refine blk_drewN ?_ _|refine blk_drew ?_|refine blk_alloc ?_ _));exact BK115.out) Try.underlying43 rfl (by kernel_rfl)) rfl ?_
 exact ⟨by first|rfl|(simp [errW_none,errW_some] <;> rfl)|(simp [*,errW_none,errW_some] <;> rfl),by repeat (first|(with_reducible first|exact HI0.out|apply IsS110.alloc|apply IsS110.drewN|apply IsS110.drew|apply IsS110.set_0|apply IsS110.set_1|apply IsS110.set_2|refine IsS110.far ?_ NB0_115.out _|refine IsS110.far ?_ NB0_124.out _)|exact HI0.out),by repeat (first|(with_reducible first|exact HB.out|apply below_alloc|apply pw_below_drewN|apply below_drew1|refine below_set ?_ (IsS110.ge HI0.out)|refine below_set ?_ GE115.out|refine below_set ?_ GE124.out)|exact HB.out),by repeat (first|(with_reducible first|exact HK.out|apply KeepBut.set_|apply keep_drewN|apply keep_drew|apply keep_alloc|refine keep_far ?_ GW115.out _|refine keep_far ?_ GW124.out _)|exact HK.out)⟩
end Go.Proofs.Ytfegabikfkmepaa.PNe
end
section
namespace Go.Proofs.Ytfegabikfkmepaa.PNe
open Go.RowKit Go.Proofs.YtfegabikfkmepaaW.PrintWords Go.Proofs.YtfegabikfkmepaaW.PrintLast Go.Proofs.YtfegabikfkmepaaW.PrintMore
attribute [local go_sem] max2_int min2_int max_two min_two max_three min_three max_four min_four
set_option linter.unusedVariables false
set_option linter.unusedSimpArgs false
def raw_Reader_Bool.j0 : Nat → Int → Int → Bool → ByteArray → Int → Int → Option (Bool × ByteArray × Int × Int)
 | 0,_,_,_,_,_,_=>none
 | k + 1,x3,x4,x25,x1000,x1001,x1002=>if x25=true then (some (false,x1000,x1001,6)) else (if x4=0 then (some ((x3 == 1),x1000,wrap64 (x1001 + 1),x1002)) else (some (false,x1000,x1001,x4)))
def raw_Reader_Bool.f (k : Nat) (s0_0 : ByteArray) (s0_1 : Int) (s0_2 : Int) : Option (Bool × ByteArray × Int × Int):=(raw_Reader_Err.f s0_0 s0_1 s0_2).bind fun bt133=>(if bt133.1=0 then ((raw_Get.f bt133.2.1 bt133.2.2.1 1).bind fun bt137=>(if bt137.2=0 then (raw_Reader_Bool.j0 k bt137.1 bt137.2 (decide (bt137.1 > 1)) bt133.2.1 bt133.2.2.1 bt133.2.2.2) else (raw_Reader_Bool.j0 k bt137.1 bt137.2 false bt133.2.1 bt133.2.2.1 bt133.2.2.2))) else (some (false,bt133.2.1,bt133.2.2.1,bt133.2.2.2)))
set_option maxHeartbeats 8000000 in
set_option maxRecDepth 100000 in
theorem raw_Reader_Bool.calls (k : Nat) (g : Nat) (s0_0 : ByteArray) (s0_1 : Int) (s0_2 : Int) (r1 : Bool) (r2 : ByteArray) (r3 : Int) (r4 : Int) (w0 w : World) (hI : IsS110 w0 w g s0_0 s0_1 s0_2) (hB : Below w0.heap.size w0 w) (h : raw_Reader_Bool.f k s0_0 s0_1 s0_2=some (r1,r2,r3,r4)) :
  Calls Try.prog 47 #[.pointer (some ⟨g,0,none⟩)] w fun e w'=>e=.returned (.bool r1)∧IsS110 w0 w' g r2 r3 r4∧Below w0.heap.size w0 w'∧KeepBut w w' g none:=by
 have HI0:=Aside0.mk hI
 have HK:=Aside0.mk (KeepBut.refl w g none)
 have HL:=Aside0.mk hB.size
 clear hI
 have HW0:=Aside0.mk hB.size
 have HB:=Aside0.mk hB
 clear hB
 have H : ((raw_Reader_Err.f s0_0 s0_1 s0_2).bind fun bt133=>(if bt133.1=0 then ((raw_Get.f bt133.2.1 bt133.2.2.1 1).bind fun bt137=>(if bt137.2=0 then (raw_Reader_Bool.j0 k bt137.1 bt137.2 (decide (bt137.1 > 1)) bt133.2.1 bt133.2.2.1 bt133.2.2.2) else (raw_Reader_Bool.j0 k bt137.1 bt137.2 false bt133.2.1 bt133.2.2.1 bt133.2.2.2))) else (some (false,bt133.2.1,bt133.2.2.1,bt133.2.2.2))))=some (r1,r2,r3,r4):=h
 clear h
 replace H:=Option.bind_eq_some_iff.mp H
 obtain ⟨⟨t133,t134,t135,t136⟩,A20,H⟩:=H
 replace H : (if t133=0 then ((raw_Get.f t134 t135 1).bind fun bt137=>(if bt137.2=0 then (raw_Reader_Bool.j0 k bt137.1 bt137.2 (decide (bt137.1 > 1)) t134 t135 t136) else (raw_Reader_Bool.j0 k bt137.1 bt137.2 false t134 t135 t136))) else (some (false,t134,t135,t136)))=some (r1,r2,r3,r4):=H
 have A2:=Aside0.mk A20
 clear A20
 by_cases c3 : t133=0
 ·rw [if_pos c3] at H
  have c3b0 : (t133 == 0)=true:=beq_iff_eq.mpr c3
  have c3b1 : (t133 != 0)=false:=bne_eq_false_iff_eq.mpr c3
  clear c3
  replace H:=Option.bind_eq_some_iff.mp H
  obtain ⟨⟨t137,t138⟩,A40,H⟩:=H
  replace H : (if t138=0 then (raw_Reader_Bool.j0 k t137 t138 (decide (t137 > 1)) t134 t135 t136) else (raw_Reader_Bool.j0 k t137 t138 false t134 t135 t136))=some (r1,r2,r3,r4):=H
  have A4:=Aside0.mk A40
  clear A40
  have HC5:=Aside0.mk H
  clear H
  go_enter Try.func47,Try.ntmps47
  go_upto_region 4 with (first|(go_at_call 61;(with_reducible refine (raw_Reader_Err.calls g s0_0 s0_1 s0_2 t133 t134 t135 t136 w0 _ ?side1 ?side2 A2.out).mono ?_);(case side1=>repeat (first|(with_reducible first|exact HI0.out|apply IsS110.alloc|apply IsS110.drewN|apply IsS110.drew|apply IsS110.set_0|apply IsS110.set_1|apply IsS110.set_2)|exact HI0.out));(case side2=>repeat (first|(with_reducible first|exact HB.out|apply below_alloc|apply pw_below_drewN|apply below_drew1|refine below_set ?_ (IsS110.ge HI0.out))|exact HB.out));rintro e w6 ⟨rfl,hi,hb,hk⟩;have n0_:=Aside0.mk (KeepBut.trans (by repeat (first|(with_reducible first|exact HK.out|apply KeepBut.set_|apply keep_drewN|apply keep_drew|apply keep_alloc)|exact HK.out)) hk (.inl rfl));have n1_:=Aside0.mk (hb);have n2_:=Aside0.mk (hi);clear HK;clear HB;clear HI0;have HK:=n0_;have HB:=n1_;have HI0:=n2_;clear n0_ n1_ n2_;(try clear hb);(try clear hb2);(try clear hk);(try clear hi);obtain ⟨HGz7,hgz7⟩:=HI0.out;have hcz7_0:=cellS110_0 HGz7;have hcz7_1:=cellS110_1 HGz7;have hcz7_2:=cellS110_2 HGz7;have hfz7_0:=blk_frozen HGz7 0;have hfz7_1:=blk_frozen HGz7 1;have hfz7_2:=blk_frozen HGz7 2;clear HGz7 hgz7)|(go_at_call 39;(with_reducible refine (raw_Get.calls t134 t135 1 t137 t138 _ A4.out).mono ?_);rintro e w' ⟨rfl,⟨nd,rfl⟩⟩;(try first|exact ⟨rfl,_,World.drewN_drewN _ _ _⟩|exact ⟨rfl,_,Eq.trans (World.drewN_drewN _ _ _) (congrArg (World.drewN _) (Nat.add_assoc _ _ _))⟩)))
  repeat (go_quiet (first|(go_at_call 61;(with_reducible refine (raw_Reader_Err.calls g s0_0 s0_1 s0_2 t133 t134 t135 t136 w0 _ ?side1 ?side2 A2.out).mono ?_);(case side1=>repeat (first|(with_reducible first|exact HI0.out|apply IsS110.alloc|apply IsS110.drewN|apply IsS110.drew|apply IsS110.set_0|apply IsS110.set_1|apply IsS110.set_2)|exact HI0.out));(case side2=>repeat (first|(with_reducible first|exact HB.out|apply below_alloc|apply pw_below_drewN|apply below_drew1|refine below_set ?_ (IsS110.ge HI0.out))|exact HB.out));rintro e w6 ⟨rfl,hi,hb,hk⟩;have n0_:=Aside0.mk (KeepBut.trans (by repeat (first|(with_reducible first|exact HK.out|apply KeepBut.set_|apply keep_drewN|apply keep_drew|apply keep_alloc)|exact HK.out)) hk (.inl rfl));have n1_:=Aside0.mk (hb);have n2_:=Aside0.mk (hi);clear HK;clear HB;clear HI0;have HK:=n0_;have HB:=n1_;have HI0:=n2_;clear n0_ n1_ n2_;(try clear hb);(try clear hb2);(try clear hk);(try clear hi);obtain ⟨HGz7,hgz7⟩:=HI0.out;have hcz7_0:=cellS110_0 HGz7;have hcz7_1:=cellS110_1 HGz7;have hcz7_2:=cellS110_2 HGz7;have hfz7_0:=blk_frozen HGz7 0;have hfz7_1:=blk_frozen HGz7 1;have hfz7_2:=blk_frozen HGz7 2;clear HGz7 hgz7)|(go_at_call 39;(with_reducible refine (raw_Get.calls t134 t135 1 t137 t138 _ A4.out).mono ?_);rintro e w' ⟨rfl,⟨nd,rfl⟩⟩;(try first|exact ⟨rfl,_,World.drewN_drewN _ _ _⟩|exact ⟨rfl,_,Eq.trans (World.drewN_drewN _ _ _) (congrArg (World.drewN _) (Nat.add_assoc _ _ _))⟩)));go_upto_region 4 with (first|(go_at_call 61;(with_reducible refine (raw_Reader_Err.calls g s0_0 s0_1 s0_2 t133 t134 t135 t136 w0 _ ?side1 ?side2 A2.out).mono ?_);(case side1=>repeat (first|(with_reducible first|exact HI0.out|apply IsS110.alloc|apply IsS110.drewN|apply IsS110.drew|apply IsS110.set_0|apply IsS110.set_1|apply IsS110.set_2)|exact HI0.out));(case side2=>repeat (first|(with_reducible first|exact HB.out|apply below_alloc|apply pw_below_drewN|apply below_drew1|refine below_set ?_ (IsS110.ge HI0.out))|exact HB.out));rintro e w6 ⟨rfl,hi,hb,hk⟩;have n0_:=Aside0.mk (KeepBut.trans (by repeat (first|(with_reducible first|exact HK.out|apply KeepBut.set_|apply keep_drewN|apply keep_drew|apply keep_alloc)|exact HK.out)) hk (.inl rfl));have n1_:=Aside0.mk (hb);have n2_:=Aside0.mk (hi);clear HK;clear HB;clear HI0;have HK:=n0_;have HB:=n1_;have HI0:=n2_;clear n0_ n1_ n2_;(try clear hb);(try clear hb2);(try clear hk);(try clear hi);obtain ⟨HGz7,hgz7⟩:=HI0.out;have hcz7_0:=cellS110_0 HGz7;have hcz7_1:=cellS110_1 HGz7;have hcz7_2:=cellS110_2 HGz7;have hfz7_0:=blk_frozen HGz7 0;have hfz7_1:=blk_frozen HGz7 1;have hfz7_2:=blk_frozen HGz7 2;clear HGz7 hgz7)|(go_at_call 39;(with_reducible refine (raw_Get.calls t134 t135 1 t137 t138 _ A4.out).mono ?_);rintro e w' ⟨rfl,⟨nd,rfl⟩⟩;(try first|exact ⟨rfl,_,World.drewN_drewN _ _ _⟩|exact ⟨rfl,_,Eq.trans (World.drewN_drewN _ _ _) (congrArg (World.drewN _) (Nat.add_assoc _ _ _))⟩))))
  (try simp only [Act.put,sA_,sB_,sC_])
  go_cut [25] (fun v25 wc=>∃ (kq : Nat) (x25_4 : Bool),v25=.bool x25_4∧Aside0 (raw_Reader_Bool.j0 kq t137 t138 x25_4 t134 t135 t136=some (r1,r2,r3,r4))∧Aside0 (kq≤k)∧Aside0 (IsS110 w0 wc g t134 t135 t136)∧Aside0 (KeepBut w wc g none)∧Aside0 (Below w0.heap.size w0 wc))
  case first =>
   have H:=HC5.out
   clear HC5
   by_cases c8 : t138=0
   ·rw [if_pos c8] at H
    have c8b0 : (t138 == 0)=true:=beq_iff_eq.mpr c8
    have c8b1 : (t138 != 0)=false:=bne_eq_false_iff_eq.mpr c8
    clear c8
    (first|rw [c8b0]|(simp only [i64_w,i32_w];rw [c8b0])|skip)
    have H':=Aside0.mk H
    clear H
    go_wp2
    repeat (go_quiet (fail);try go_wp2)
    go_meet
    case rel=>exact ⟨_,(decide (t137 > 1)),(by first|rfl|(simp;done)|(simp [*];done)),H',⟨by first|omega|exact Nat.le_refl _⟩,⟨by repeat (first|(with_reducible first|exact HI0.out|apply IsS110.alloc|apply IsS110.drewN|apply IsS110.drew|apply IsS110.set_0|apply IsS110.set_1|apply IsS110.set_2)|exact HI0.out)⟩,⟨by repeat (first|(with_reducible first|exact HK.out|apply KeepBut.set_|apply keep_drewN|apply keep_drew|apply keep_alloc)|exact HK.out)⟩,⟨by repeat (first|(with_reducible first|exact HB.out|apply below_alloc|apply pw_below_drewN|apply below_drew1|refine below_set ?_ (IsS110.ge HI0.out))|exact HB.out)⟩⟩
   ·rw [if_neg c8] at H
    have c8b0 : (t138 == 0)=false:=beq_eq_false_iff_ne.mpr c8
    have c8b1 : (t138 != 0)=true:=bne_iff_ne.mpr c8
    (first|rw [c8b0]|(simp only [i64_w,i32_w];rw [c8b0])|skip)
    have H':=Aside0.mk H
    clear H
    go_wp2
    repeat (go_quiet (fail);try go_wp2)
    go_meet
    case rel=>exact ⟨_,(false),(by first|rfl|(simp;done)|(simp [*];done)),H',⟨by first|omega|exact Nat.le_refl _⟩,⟨by repeat (first|(with_reducible first|exact HI0.out|apply IsS110.alloc|apply IsS110.drewN|apply IsS110.drew|apply IsS110.set_0|apply IsS110.set_1|apply IsS110.set_2)|exact HI0.out)⟩,⟨by repeat (first|(with_reducible first|exact HK.out|apply KeepBut.set_|apply keep_drewN|apply keep_drew|apply keep_alloc)|exact HK.out)⟩,⟨by repeat (first|(with_reducible first|exact HB.out|apply below_alloc|apply pw_below_drewN|apply below_drew1|refine below_set ?_ (IsS110.ge HI0.out))|exact HB.out)⟩⟩
  case rest =>
   clear HC5
   try clear p2
   try clear c3
   try clear c3b0
   try clear c3b1
   try clear c4
   try clear c8
   try clear c8b0
   try clear c8b1
   try clear hcz7_0
   try clear hcz7_1
   try clear hcz7_2
   try clear hfz7_0
   try clear hfz7_1
   try clear hfz7_2
   obtain ⟨kq,x25_4,rfl,HA,HJ4,HI0,HK,HB⟩:=hcut
   cases kq with
   | zero=>exact absurd HA.out (by simp [raw_Reader_Bool.j0])
   | succ kj4 =>
    have H:=HA.out
    clear HA
    simp only [raw_Reader_Bool.j0] at H
    by_cases c9 : x25_4=true
    ·subst c9
     have H1 : (some (false,t134,t135,6))=some (r1,r2,r3,r4):=by rw [if_pos rfl] at H;exact H
     clear H
     have H:=H1
     clear H1
     simp only [Option.some.injEq,Prod.mk.injEq] at H
     obtain ⟨rfl,rfl,rfl,rfl⟩:=H
     obtain ⟨HGz10,hgz10⟩:=HI0.out
     have hcz10_0:=cellS110_0 HGz10
     have hcz10_1:=cellS110_1 HGz10
     have hcz10_2:=cellS110_2 HGz10
     have hfz10_0:=blk_frozen HGz10 0
     have hfz10_1:=blk_frozen HGz10 1
     have hfz10_2:=blk_frozen HGz10 2
     clear HGz10 hgz10
     go_wp2
     repeat (go_quiet (fail);try go_wp2)
     go_ret
     exact ⟨by first|rfl|(simp [errW_none,errW_some] <;> rfl)|(simp [*,errW_none,errW_some] <;> rfl),by repeat (first|(with_reducible first|exact HI0.out|apply IsS110.alloc|apply IsS110.drewN|apply IsS110.drew|apply IsS110.set_0|apply IsS110.set_1|apply IsS110.set_2)|exact HI0.out),by repeat (first|(with_reducible first|exact HB.out|apply below_alloc|apply pw_below_drewN|apply below_drew1|refine below_set ?_ (IsS110.ge HI0.out))|exact HB.out),by repeat (first|(with_reducible first|exact HK.out|apply KeepBut.set_|apply keep_drewN|apply keep_drew|apply keep_alloc)|exact HK.out)⟩
    ·replace c9:=Bool.eq_false_iff.mpr c9
     subst c9
     have H1 : (if t138=0 then (some ((t137 == 1),t134,wrap64 (t135 + 1),t136)) else (some (false,t134,t135,t138)))=some (r1,r2,r3,r4):=by rw [if_neg (show ¬ (false=true) by decide)] at H;exact H
     clear H
     have H:=H1
     clear H1
     by_cases c11 : t138=0
     ·rw [if_pos c11] at H
      have c11b0 : (t138 == 0)=true:=beq_iff_eq.mpr c11
      have c11b1 : (t138 != 0)=false:=bne_eq_false_iff_eq.mpr c11
      clear c11
      simp only [Option.some.injEq,Prod.mk.injEq] at H
      obtain ⟨rfl,rfl,rfl,rfl⟩:=H
      obtain ⟨HGz12,hgz12⟩:=HI0.out
      have hcz12_0:=cellS110_0 HGz12
      have hcz12_1:=cellS110_1 HGz12
      have hcz12_2:=cellS110_2 HGz12
      have hfz12_0:=blk_frozen HGz12 0
      have hfz12_1:=blk_frozen HGz12 1
      have hfz12_2:=blk_frozen HGz12 2
      clear HGz12 hgz12
      go_wp2
      repeat (go_quiet (fail);try go_wp2)
      go_ret
      exact ⟨by first|rfl|(simp [errW_none,errW_some] <;> rfl)|(simp [*,errW_none,errW_some] <;> rfl),by repeat (first|(with_reducible first|exact HI0.out|apply IsS110.alloc|apply IsS110.drewN|apply IsS110.drew|apply IsS110.set_0|apply IsS110.set_1|apply IsS110.set_2)|exact HI0.out),by repeat (first|(with_reducible first|exact HB.out|apply below_alloc|apply pw_below_drewN|apply below_drew1|refine below_set ?_ (IsS110.ge HI0.out))|exact HB.out),by repeat (first|(with_reducible first|exact HK.out|apply KeepBut.set_|apply keep_drewN|apply keep_drew|apply keep_alloc)|exact HK.out)⟩
     ·rw [if_neg c11] at H
      have c11b0 : (t138 == 0)=false:=beq_eq_false_iff_ne.mpr c11
      have c11b1 : (t138 != 0)=true:=bne_iff_ne.mpr c11
      simp only [Option.some.injEq,Prod.mk.injEq] at H
      obtain ⟨rfl,rfl,rfl,rfl⟩:=H
      obtain ⟨HGz13,hgz13⟩:=HI0.out
      have hcz13_0:=cellS110_0 HGz13
      have hcz13_1:=cellS110_1 HGz13
      have hcz13_2:=cellS110_2 HGz13
      have hfz13_0:=blk_frozen HGz13 0
      have hfz13_1:=blk_frozen HGz13 1
      have hfz13_2:=blk_frozen HGz13 2
      clear HGz13 hgz13
      go_wp2
      repeat (go_quiet (fail);try go_wp2)
      go_ret
      exact ⟨by first|rfl|(simp [errW_none,errW_some] <;> rfl)|(simp [*,errW_none,errW_some] <;> rfl),by repeat (first|(with_reducible first|exact HI0.out|apply IsS110.alloc|apply IsS110.drewN|apply IsS110.drew|apply IsS110.set_0|apply IsS110.set_1|apply IsS110.set_2)|exact HI0.out),by repeat (first|(with_reducible first|exact HB.out|apply below_alloc|apply pw_below_drewN|apply below_drew1|refine below_set ?_ (IsS110.ge HI0.out))|exact HB.out),by repeat (first|(with_reducible first|exact HK.out|apply KeepBut.set_|apply keep_drewN|apply keep_drew|apply keep_alloc)|exact HK.out)⟩
 ·rw [if_neg c3] at H
  have c3b0 : (t133 == 0)=false:=beq_eq_false_iff_ne.mpr c3
  have c3b1 : (t133 != 0)=true:=bne_iff_ne.mpr c3
  simp only [Option.some.injEq,Prod.mk.injEq] at H
  obtain ⟨rfl,rfl,rfl,rfl⟩:=H
  go_enter Try.func47,Try.ntmps47
  go_wp2_with (first|(go_at_call 61;(with_reducible refine (raw_Reader_Err.calls g s0_0 s0_1 s0_2 t133 t134 t135 t136 w0 _ ?side1 ?side2 A2.out).mono ?_);(case side1=>repeat (first|(with_reducible first|exact HI0.out|apply IsS110.alloc|apply IsS110.drewN|apply IsS110.drew|apply IsS110.set_0|apply IsS110.set_1|apply IsS110.set_2)|exact HI0.out));(case side2=>repeat (first|(with_reducible first|exact HB.out|apply below_alloc|apply pw_below_drewN|apply below_drew1|refine below_set ?_ (IsS110.ge HI0.out))|exact HB.out));rintro e w14 ⟨rfl,hi,hb,hk⟩;have n0_:=Aside0.mk (KeepBut.trans (by repeat (first|(with_reducible first|exact HK.out|apply KeepBut.set_|apply keep_drewN|apply keep_drew|apply keep_alloc)|exact HK.out)) hk (.inl rfl));have n1_:=Aside0.mk (hb);have n2_:=Aside0.mk (hi);clear HK;clear HB;clear HI0;have HK:=n0_;have HB:=n1_;have HI0:=n2_;clear n0_ n1_ n2_;(try clear hb);(try clear hb2);(try clear hk);(try clear hi)))
  repeat (go_quiet (first|(go_at_call 61;(with_reducible refine (raw_Reader_Err.calls g s0_0 s0_1 s0_2 t133 t134 t135 t136 w0 _ ?side1 ?side2 A2.out).mono ?_);(case side1=>repeat (first|(with_reducible first|exact HI0.out|apply IsS110.alloc|apply IsS110.drewN|apply IsS110.drew|apply IsS110.set_0|apply IsS110.set_1|apply IsS110.set_2)|exact HI0.out));(case side2=>repeat (first|(with_reducible first|exact HB.out|apply below_alloc|apply pw_below_drewN|apply below_drew1|refine below_set ?_ (IsS110.ge HI0.out))|exact HB.out));rintro e w14 ⟨rfl,hi,hb,hk⟩;have n0_:=Aside0.mk (KeepBut.trans (by repeat (first|(with_reducible first|exact HK.out|apply KeepBut.set_|apply keep_drewN|apply keep_drew|apply keep_alloc)|exact HK.out)) hk (.inl rfl));have n1_:=Aside0.mk (hb);have n2_:=Aside0.mk (hi);clear HK;clear HB;clear HI0;have HK:=n0_;have HB:=n1_;have HI0:=n2_;clear n0_ n1_ n2_;(try clear hb);(try clear hb2);(try clear hk);(try clear hi)));try go_wp2_with (first|(go_at_call 61;(with_reducible refine (raw_Reader_Err.calls g s0_0 s0_1 s0_2 t133 t134 t135 t136 w0 _ ?side1 ?side2 A2.out).mono ?_);(case side1=>repeat (first|(with_reducible first|exact HI0.out|apply IsS110.alloc|apply IsS110.drewN|apply IsS110.drew|apply IsS110.set_0|apply IsS110.set_1|apply IsS110.set_2)|exact HI0.out));(case side2=>repeat (first|(with_reducible first|exact HB.out|apply below_alloc|apply pw_below_drewN|apply below_drew1|refine below_set ?_ (IsS110.ge HI0.out))|exact HB.out));rintro e w14 ⟨rfl,hi,hb,hk⟩;have n0_:=Aside0.mk (KeepBut.trans (by repeat (first|(with_reducible first|exact HK.out|apply KeepBut.set_|apply keep_drewN|apply keep_drew|apply keep_alloc)|exact HK.out)) hk (.inl rfl));have n1_:=Aside0.mk (hb);have n2_:=Aside0.mk (hi);clear HK;clear HB;clear HI0;have HK:=n0_;have HB:=n1_;have HI0:=n2_;clear n0_ n1_ n2_;(try clear hb);(try clear hb2);(try clear hk);(try clear hi))))
  go_ret
  exact ⟨by first|rfl|(simp [errW_none,errW_some] <;> rfl)|(simp [*,errW_none,errW_some] <;> rfl),by repeat (first|(with_reducible first|exact HI0.out|apply IsS110.alloc|apply IsS110.drewN|apply IsS110.drew|apply IsS110.set_0|apply IsS110.set_1|apply IsS110.set_2)|exact HI0.out),by repeat (first|(with_reducible first|exact HB.out|apply below_alloc|apply pw_below_drewN|apply below_drew1|refine below_set ?_ (IsS110.ge HI0.out))|exact HB.out),by repeat (first|(with_reducible first|exact HK.out|apply KeepBut.set_|apply keep_drewN|apply keep_drew|apply keep_alloc)|exact HK.out)⟩
end Go.Proofs.Ytfegabikfkmepaa.PNe
end
section
namespace Go.Proofs.Ytfegabikfkmepaa.PNe
open Go.RowKit Go.Proofs.YtfegabikfkmepaaW.PrintWords Go.Proofs.YtfegabikfkmepaaW.PrintLast Go.Proofs.YtfegabikfkmepaaW.PrintMore
attribute [local go_sem] max2_int min2_int max_two min_two max_three min_three max_four min_four
set_option linter.unusedVariables false
set_option linter.unusedSimpArgs false
mutual
def node_Leaf.j0 : Nat → Bool → Int → Int → Int → ByteArray → List ByteArray → Option ((List (S47)) × Int)
 | 0,_,_,_,_,_,_=>none
 | k + 1,x17,x140000,x140001,x140002,x140003,x140004=>if x17=true then (some (([] : List (S47)),120)) else (node_Leaf.l0 k ([] : List (S47)) x140004 (x140004.length : Int) 0)
def node_Leaf.l0 : Nat → List (S47) → List ByteArray → Int → Int → Option ((List (S47)) × Int)
 | 0,_,_,_,_=>none
 | k + 1,x4,x19,x20,x21=>if x21 < x20 then (if 0≤x21 then (if x21 < (x19.length : Int) then (if ((rdOf ByteArray.empty x19 x21).size : Int) < 7 then (node_Leaf.j2 k x4 (rdOf ByteArray.empty x19 x21) x19 x20 x21 true) else (if 0 < ((rdOf ByteArray.empty x19 x21).size : Int) then (node_Leaf.j2 k x4 (rdOf ByteArray.empty x19 x21) x19 x20 x21 (decide ((bt (rdOf ByteArray.empty x19 x21) 0) > 1))) else (none))) else (none)) else (none)) else (some (x4,0))
def node_Leaf.j2 : Nat → List (S47) → ByteArray → List ByteArray → Int → Int → Bool → Option ((List (S47)) × Int)
 | 0,_,_,_,_,_,_=>none
 | k + 1,x4,x6,x19,x20,x21,x32=>if x32=true then (some (([] : List (S47)),120)) else ((raw_NewReader.f x6).bind fun bt141=>((raw_Reader_Bool.f k bt141.1 bt141.2.1 bt141.2.2).bind fun bt145=>((node_take.f bt145.2.1 bt145.2.2.1 bt145.2.2.2).bind fun bt150=>(if x4.length < 3518437208883 then (node_Leaf.l0 k (x4 ++ [(⟨(⟨bt150.1,(⟨bt150.2.1,bt150.2.2.1⟩ : S41)⟩ : S43),bt145.1⟩ : S47)]) x19 x20 (wrap64 (x21 + 1))) else (none)))))
end
def node_Leaf.f (k : Nat) (a0_0 : Int) (a0_1 : Int) (a0_2 : Int) (a0_3 : ByteArray) (l0_4 : List ByteArray) : Option ((List (S47)) × Int):=if a0_2=3 then (node_Leaf.j0 k ((a0_3.size : Int) != 4) a0_0 a0_1 a0_2 a0_3 l0_4) else (node_Leaf.j0 k true a0_0 a0_1 a0_2 a0_3 l0_4)
set_option maxHeartbeats 8000000 in
set_option maxRecDepth 100000 in
theorem node_Leaf.calls (k : Nat) (a0_0 : Int) (a0_1 : Int) (a0_2 : Int) (a0_3 : ByteArray) (A0_4 : Option Addr) (c0_4 : Nat) (l0_4 : List ByteArray) (r1 : List (S47)) (r2 : Int) (w : World) (hr0_4 : Kd.C Kd.string w A0_4 l0_4.length l0_4) (hc0_4 : l0_4.length≤c0_4) (h : node_Leaf.f k a0_0 a0_1 a0_2 a0_3 l0_4=some (r1,r2)) :
  Calls Try.prog 31 #[.agg #[.int .u32 a0_0,.int .u64 a0_1,.int .i64 a0_2,.string a0_3,.slice A0_4 l0_4.length c0_4]] w fun e w'=>∃ v0_ : Value,e=.returned (.tuple #[v0_,.int .i64 r2])∧Kd.R k47 47 w' w.heap.size (fun _=>True) v0_ r1∧Below w.heap.size w w':=by
 have hu28:=Try.underlying28
 have hu47:=Try.underlying47
 have hu43:=Try.underlying43
 have HR0_4:=Aside0.mk hr0_4
 have HC0_4:=Aside0.mk hc0_4
 clear hr0_4 hc0_4
 have HB:=Aside0.mk (Below.refl w.heap.size w)
 have H : (if a0_2=3 then (node_Leaf.j0 k ((a0_3.size : Int) != 4) a0_0 a0_1 a0_2 a0_3 l0_4) else (node_Leaf.j0 k true a0_0 a0_1 a0_2 a0_3 l0_4))=some (r1,r2):=h
 clear h
 have HC2:=Aside0.mk H
 clear H
 go_enter Try.func31,Try.ntmps31
 go_upto_region 1 with (first|((with_reducible refine gate_dst (N:=1) rfl ?_);(try (refine gate_guard (by rfl) ?_;dsimp only));refine box_event ?hg (N:=1) ?hd (cs:=#[.int .u32 a0_0,.int .u64 a0_1,.int .i64 a0_2,.string a0_3,.slice A0_4 l0_4.length c0_4]) (t:=28) ?hr ?_;(case hd=>rfl);(case hg=>rfl);(case hr=>first|(go_simp;done)|(go_simp;rfl));intro gb139 hg w3 hbox hb;have n0_:=Aside0.mk (below_step (by repeat (first|(with_reducible first|exact HB.out|apply below_alloc|apply pw_below_drewN|apply below_drew1)|exact HB.out)) hb);have n1_:=Aside0.mk (hbox);have n2_:=Aside0.mk ((by rw [hg];exact (below_size (by repeat (first|(with_reducible first|exact HB.out|apply below_alloc|apply pw_below_drewN|apply below_drew1)|exact HB.out))) : w.heap.size≤gb139));have n3_:=Aside0.mk ((by rw [hg];exact (below_size (by repeat (first|(with_reducible first|exact HB.out|apply below_alloc|apply pw_below_drewN|apply below_drew1)|exact HB.out))) : w.heap.size≤gb139));clear HB;have HB:=n0_;have BK139:=n1_;have GW139:=n2_;have GE139:=n3_;clear n0_ n1_ n2_ n3_;clear hb hbox hg))
 (try simp only [Act.put,sA_,sB_,sC_])
 go_cut [17] (fun v17 wc=>∃ (kq : Nat) (x17_1 : Bool),v17=.bool x17_1∧Aside0 (node_Leaf.j0 kq x17_1 a0_0 a0_1 a0_2 a0_3 l0_4=some (r1,r2))∧Aside0 (kq≤k)∧Aside0 (wc.heap[gb139]?=some (.cells #[.int .u32 a0_0,.int .u64 a0_1,.int .i64 a0_2,.string a0_3,(.slice A0_4 l0_4.length c0_4)] 28 (0,0)))∧Aside0 (Below w.heap.size w wc))
 case first =>
  have H:=HC2.out
  clear HC2
  by_cases c4 : a0_2=3
  ·rw [if_pos c4] at H
   have c4b0 : (a0_2 == 3)=true:=beq_iff_eq.mpr c4
   have c4b1 : (a0_2 != 3)=false:=bne_eq_false_iff_eq.mpr c4
   clear c4
   (first|rw [c4b0]|(simp only [i64_w,i32_w];rw [c4b0])|skip)
   have H':=Aside0.mk H
   clear H
   have hcz5_0 : w3.cell? ⟨gb139,0,none⟩=some (.int .u32 a0_0):=(blk_cell BK139.out 0).trans rfl
   have hcz5_1 : w3.cell? ⟨gb139,1,none⟩=some (.int .u64 a0_1):=(blk_cell BK139.out 1).trans rfl
   have hcz5_2 : w3.cell? ⟨gb139,2,none⟩=some (.int .i64 a0_2):=(blk_cell BK139.out 2).trans rfl
   have hcz5_3 : w3.cell? ⟨gb139,3,none⟩=some (.string a0_3):=(blk_cell BK139.out 3).trans rfl
   have hcz5_4 : w3.cell? ⟨gb139,4,none⟩=some (.slice A0_4 l0_4.length c0_4):=(blk_cell BK139.out 4).trans rfl
   have hfz5_0:=blk_frozen BK139.out 0
   have hfz5_1:=blk_frozen BK139.out 1
   have hfz5_2:=blk_frozen BK139.out 2
   have hfz5_3:=blk_frozen BK139.out 3
   have hfz5_4:=blk_frozen BK139.out 4
   go_wp2
   go_meet
   case rel=>exact ⟨_,(((a0_3.size : Int) != 4)),(by first|rfl|(simp;done)|(simp [*];done)),H',⟨by first|omega|exact Nat.le_refl _⟩,⟨by (with_reducible repeat (first|refine blk_drewN ?_ _|refine blk_drew ?_|refine blk_alloc ?_ _));exact BK139.out⟩,⟨by repeat (first|(with_reducible first|exact HB.out|apply below_alloc|apply pw_below_drewN|apply below_drew1|refine below_set ?_ GE139.out)|exact HB.out)⟩⟩
  ·rw [if_neg c4] at H
   have c4b0 : (a0_2 == 3)=false:=beq_eq_false_iff_ne.mpr c4
   have c4b1 : (a0_2 != 3)=true:=bne_iff_ne.mpr c4
   (first|rw [c4b0]|(simp only [i64_w,i32_w];rw [c4b0])|skip)
   have H':=Aside0.mk H
   clear H
   have hcz6_0 : w3.cell? ⟨gb139,0,none⟩=some (.int .u32 a0_0):=(blk_cell BK139.out 0).trans rfl
   have hcz6_1 : w3.cell? ⟨gb139,1,none⟩=some (.int .u64 a0_1):=(blk_cell BK139.out 1).trans rfl
   have hcz6_2 : w3.cell? ⟨gb139,2,none⟩=some (.int .i64 a0_2):=(blk_cell BK139.out 2).trans rfl
   have hcz6_3 : w3.cell? ⟨gb139,3,none⟩=some (.string a0_3):=(blk_cell BK139.out 3).trans rfl
   have hcz6_4 : w3.cell? ⟨gb139,4,none⟩=some (.slice A0_4 l0_4.length c0_4):=(blk_cell BK139.out 4).trans rfl
   have hfz6_0:=blk_frozen BK139.out 0
   have hfz6_1:=blk_frozen BK139.out 1
   have hfz6_2:=blk_frozen BK139.out 2
   have hfz6_3:=blk_frozen BK139.out 3
   have hfz6_4:=blk_frozen BK139.out 4
   go_wp2
   go_meet
   case rel=>exact ⟨_,(true),(by first|rfl|(simp;done)|(simp [*];done)),H',⟨by first|omega|exact Nat.le_refl _⟩,⟨by (with_reducible repeat (first|refine blk_drewN ?_ _|refine blk_drew ?_|refine blk_alloc ?_ _));exact BK139.out⟩,⟨by repeat (first|(with_reducible first|exact HB.out|apply below_alloc|apply pw_below_drewN|apply below_drew1|refine below_set ?_ GE139.out)|exact HB.out)⟩⟩
 case rest =>
  clear HC2
  try clear p2
  try clear c3
  try clear c4
  try clear c4b0
  try clear c4b1
  try clear hcz5_0
  try clear hcz5_1
  try clear hcz5_2
  try clear hcz5_3
  try clear hcz5_4
  try clear hcz6_0
  try clear hcz6_1
  try clear hcz6_2
  try clear hcz6_3
  try clear hcz6_4
  try clear hfz5_0
  try clear hfz5_1
  try clear hfz5_2
  try clear hfz5_3
  try clear hfz5_4
  try clear hfz6_0
  try clear hfz6_1
  try clear hfz6_2
  try clear hfz6_3
  try clear hfz6_4
  obtain ⟨kq,x17_1,rfl,HA,HJ1,BK139,HB⟩:=hcut
  cases kq with
  | zero=>exact absurd HA.out (by simp [node_Leaf.j0])
  | succ kj1 =>
   have H:=HA.out
   clear HA
   simp only [node_Leaf.j0] at H
   by_cases c7 : x17_1=true
   ·subst c7
    have H1 : (some (([] : List (S47)),120))=some (r1,r2):=by rw [if_pos rfl] at H;exact H
    clear H
    have H:=H1
    clear H1
    simp only [Option.some.injEq,Prod.mk.injEq] at H
    obtain ⟨rfl,rfl⟩:=H
    go_wp2
    go_ret2
    exact ⟨_,by first|rfl|(simp [errW_none,errW_some] <;> rfl)|(simp [*,errW_none,errW_some] <;> rfl),by first|exact Kd.R_nil _ _ _ _ _|exact Kd.N_nil _ _ _ _ _|exact Kd.V_nil _ _ _ _ _|exact Kd.Q_nil _ _ _ _ _|exact Kd.S_nil _ _ _ _ _,by repeat (first|(with_reducible first|exact HB.out|apply below_alloc|apply pw_below_drewN|apply below_drew1|refine below_set ?_ GE139.out)|exact HB.out)⟩
   ·replace c7:=Bool.eq_false_iff.mpr c7
    subst c7
    have H1 : (node_Leaf.l0 kj1 ([] : List (S47)) l0_4 (l0_4.length : Int) 0)=some (r1,r2):=by rw [if_neg (show ¬ (false=true) by decide)] at H;exact H
    clear H
    have H:=H1
    clear H1
    have H':=Aside0.mk H
    clear H
    have hcz8_0 : wc.cell? ⟨gb139,0,none⟩=some (.int .u32 a0_0):=(blk_cell BK139.out 0).trans rfl
    have hcz8_1 : wc.cell? ⟨gb139,1,none⟩=some (.int .u64 a0_1):=(blk_cell BK139.out 1).trans rfl
    have hcz8_2 : wc.cell? ⟨gb139,2,none⟩=some (.int .i64 a0_2):=(blk_cell BK139.out 2).trans rfl
    have hcz8_3 : wc.cell? ⟨gb139,3,none⟩=some (.string a0_3):=(blk_cell BK139.out 3).trans rfl
    have hcz8_4 : wc.cell? ⟨gb139,4,none⟩=some (.slice A0_4 l0_4.length c0_4):=(blk_cell BK139.out 4).trans rfl
    have hfz8_0:=blk_frozen BK139.out 0
    have hfz8_1:=blk_frozen BK139.out 1
    have hfz8_2:=blk_frozen BK139.out 2
    have hfz8_3:=blk_frozen BK139.out 3
    have hfz8_4:=blk_frozen BK139.out 4
    go_wp2
    go_loopg [4,21] kj1 (fun kq v4 v21 w'=>∃ (x4_2 : List (S47)) (x21_2 : Int),v21=.int .i64 x21_2∧Aside0 (node_Leaf.l0 kq x4_2 l0_4 (l0_4.length : Int) x21_2=some (r1,r2))∧Aside0 (kq≤kj1)∧Aside0 (Kd.R k47 47 w' w.heap.size (fun _=>True) v4 x4_2)∧Aside0 (w'.heap[gb139]?=some (.cells #[.int .u32 a0_0,.int .u64 a0_1,.int .i64 a0_2,.string a0_3,(.slice A0_4 l0_4.length c0_4)] 28 (0,0)))∧Aside0 (Below w.heap.size w w'))
    case atStart=>exact ⟨(([] : List (S47))),(0),(by first|rfl|(simp;done)|(simp [*];done)),H',⟨Nat.le_refl _⟩,⟨by first|exact Kd.R_nil _ _ _ _ _|exact Kd.N_nil _ _ _ _ _|exact Kd.V_nil _ _ _ _ _|exact Kd.Q_nil _ _ _ _ _|exact Kd.S_nil _ _ _ _ _⟩,⟨by (with_reducible repeat (first|refine blk_drewN ?_ _|refine blk_drew ?_|refine blk_alloc ?_ _));exact BK139.out⟩,⟨by repeat (first|(with_reducible first|exact HB.out|apply below_alloc|apply pw_below_drewN|apply below_drew1|refine below_set ?_ GE139.out)|exact HB.out)⟩⟩
    case round =>
     clear H'
     try clear p2
     try clear c3
     try clear c4
     try clear c4b0
     try clear c4b1
     try clear c7
     try clear hcz5_0
     try clear hcz5_1
     try clear hcz5_2
     try clear hcz5_3
     try clear hcz5_4
     try clear hcz6_0
     try clear hcz6_1
     try clear hcz6_2
     try clear hcz6_3
     try clear hcz6_4
     try clear hcz8_0
     try clear hcz8_1
     try clear hcz8_2
     try clear hcz8_3
     try clear hcz8_4
     try clear hfz5_0
     try clear hfz5_1
     try clear hfz5_2
     try clear hfz5_3
     try clear hfz5_4
     try clear hfz6_0
     try clear hfz6_1
     try clear hfz6_2
     try clear hfz6_3
     try clear hfz6_4
     try clear hfz8_0
     try clear hfz8_1
     try clear hfz8_2
     try clear hfz8_3
     try clear hfz8_4
     try clear p2
     obtain ⟨x4_2,x21_2,rfl,HA,HK2,HO_4,BK139,HB⟩:=hrel
     cases gk with
     | zero=>exact absurd HA.out (by simp [node_Leaf.l0])
     | succ k2 =>
      have H:=HA.out
      clear HA
      simp only [node_Leaf.l0] at H
      by_cases c9 : x21_2 < (l0_4.length : Int)
      ·rw [if_pos c9] at H
       have c9b0 : decide (x21_2 < (l0_4.length : Int))=true:=decide_eq_true c9
       clear c9
       by_cases c10 : 0≤x21_2
       ·rw [if_pos c10] at H
        have c10b0 : decide (0≤x21_2)=true:=decide_eq_true c10
        clear c10
        by_cases c11 : x21_2 < (l0_4.length : Int)
        ·rw [if_pos c11] at H
         have c11b0 : decide (x21_2 < (l0_4.length : Int))=true:=decide_eq_true c11
         clear c11
         have HC12:=Aside0.mk H
         clear H
         have p140 : 0≤(x21_2 : Int):=of_decide_eq_true (by first|(with_reducible assumption)|assumption)
         have q140 : x21_2 < (l0_4.length : Int):=of_decide_eq_true (by first|(with_reducible assumption)|assumption)
         obtain ⟨ad140,e140,hx140_0⟩:=Kd.at_string HR0_4.out x21_2 p140 q140
         cases e140
         replace hx140_0:=(HB.out.cell (World.block_lt_of_cell? w _ hx140_0)).trans hx140_0
         replace p140:=eq_true p140
         replace q140:=eq_true q140
         go_upto_region 7 with (fail)
         go_cut [32] (fun v32 wc=>∃ (kq : Nat) (x32_11 : Bool),v32=.bool x32_11∧Aside0 (node_Leaf.j2 kq x4_2 (rdOf ByteArray.empty l0_4 x21_2) l0_4 (l0_4.length : Int) x21_2 x32_11=some (r1,r2))∧Aside0 (kq≤k2)∧Aside0 (Kd.R k47 47 wc w.heap.size (fun _=>True) u4 x4_2)∧Aside0 (wc.heap[gb139]?=some (.cells #[.int .u32 a0_0,.int .u64 a0_1,.int .i64 a0_2,.string a0_3,(.slice (some ad140) l0_4.length c0_4)] 28 (0,0)))∧Aside0 (Below w.heap.size w wc))
         case first =>
          have H:=HC12.out
          clear HC12
          by_cases c13 : ((rdOf ByteArray.empty l0_4 x21_2).size : Int) < 7
          ·rw [if_pos c13] at H
           have c13b0 : decide (((rdOf ByteArray.empty l0_4 x21_2).size : Int) < 7)=true:=decide_eq_true c13
           have c13b1 : decide ((rdOf ByteArray.empty l0_4 x21_2).size < 7)=true:=decide_eq_true (by omega)
           clear c13
           (first|rw [c13b0]|(simp only [i64_w,i32_w];rw [c13b0])|skip)
           have H':=Aside0.mk H
           clear H
           go_wp2
           go_meet
           case rel=>exact ⟨_,(true),(by first|rfl|(simp;done)|(simp [*];done)),H',⟨by have:=HJ1.out;have:=HK2.out;first|omega|exact Nat.le_refl _⟩,⟨by (with_reducible repeat (first|apply Kd.R_alloc|apply Kd.R_drewN|apply Kd.R_drew));exact HO_4.out⟩,⟨by (with_reducible repeat (first|refine blk_drewN ?_ _|refine blk_drew ?_|refine blk_alloc ?_ _));exact BK139.out⟩,⟨by repeat (first|(with_reducible first|exact HB.out|apply below_alloc|apply pw_below_drewN|apply below_drew1|refine below_set ?_ GE139.out)|exact HB.out)⟩⟩
          ·rw [if_neg c13] at H
           have c13b0 : decide (((rdOf ByteArray.empty l0_4 x21_2).size : Int) < 7)=false:=decide_eq_false c13
           have c13b1 : decide ((rdOf ByteArray.empty l0_4 x21_2).size < 7)=false:=decide_eq_false (by omega)
           clear c13
           (first|rw [c13b0]|(simp only [i64_w,i32_w];rw [c13b0])|skip)
           by_cases c14 : 0 < ((rdOf ByteArray.empty l0_4 x21_2).size : Int)
           ·rw [if_pos c14] at H
            have c14b0 : decide (0 < ((rdOf ByteArray.empty l0_4 x21_2).size : Int))=true:=decide_eq_true c14
            have c14b1 : decide (0 < (rdOf ByteArray.empty l0_4 x21_2).size)=true:=decide_eq_true (by omega)
            clear c14
            have H':=Aside0.mk H
            clear H
            have p15 : 0≤(0 : Int):=(by omega)
            have q15 : 0 < (rdOf ByteArray.empty l0_4 x21_2).size:=(by have : (0 : Int) < ((rdOf ByteArray.empty l0_4 x21_2).size : Int):=of_decide_eq_true (by first|(with_reducible assumption)|assumption);omega)
            have hx15 : ∀ h : 0 < (rdOf ByteArray.empty l0_4 x21_2).size,(((rdOf ByteArray.empty l0_4 x21_2)[0]'h).toNat : Int)=bt (rdOf ByteArray.empty l0_4 x21_2) 0:=bt_at (rdOf ByteArray.empty l0_4 x21_2) 0
            clear p15
            have qi15 : (0 < ((rdOf ByteArray.empty l0_4 x21_2).size : Int))=True:=eq_true (of_decide_eq_true (by first|(with_reducible assumption)|assumption))
            replace q15:=eq_true q15
            go_wp2
            go_meet
            case rel=>exact ⟨_,(decide ((bt (rdOf ByteArray.empty l0_4 x21_2) 0) > 1)),(by first|rfl|(simp;done)|(simp [*];done)),H',⟨by have:=HJ1.out;have:=HK2.out;first|omega|exact Nat.le_refl _⟩,⟨by (with_reducible repeat (first|apply Kd.R_alloc|apply Kd.R_drewN|apply Kd.R_drew));exact HO_4.out⟩,⟨by (with_reducible repeat (first|refine blk_drewN ?_ _|refine blk_drew ?_|refine blk_alloc ?_ _));exact BK139.out⟩,⟨by repeat (first|(with_reducible first|exact HB.out|apply below_alloc|apply pw_below_drewN|apply below_drew1|refine below_set ?_ GE139.out)|exact HB.out)⟩⟩
           ·rw [if_neg c14] at H
            exact absurd H (by simp)
         case rest =>
          clear HC12
          try clear c1
          try clear p1
          try clear q1
          try clear hx1
          try clear qi1
          try clear p2
          try clear c3
          try clear c4
          try clear c4b0
          try clear c4b1
          try clear c7
          try clear c9
          try clear c9b0
          try clear c10
          try clear c10b0
          try clear c11
          try clear c11b0
          try clear c13
          try clear c13b0
          try clear c13b1
          try clear c14
          try clear c14b0
          try clear c14b1
          try clear p14
          try clear q14
          try clear hx14
          try clear p15
          try clear q15
          try clear hx15
          try clear qi15
          try clear hcz5_0
          try clear hcz5_1
          try clear hcz5_2
          try clear hcz5_3
          try clear hcz5_4
          try clear hcz6_0
          try clear hcz6_1
          try clear hcz6_2
          try clear hcz6_3
          try clear hcz6_4
          try clear hcz8_0
          try clear hcz8_1
          try clear hcz8_2
          try clear hcz8_3
          try clear hcz8_4
          try clear hfz5_0
          try clear hfz5_1
          try clear hfz5_2
          try clear hfz5_3
          try clear hfz5_4
          try clear hfz6_0
          try clear hfz6_1
          try clear hfz6_2
          try clear hfz6_3
          try clear hfz6_4
          try clear hfz8_0
          try clear hfz8_1
          try clear hfz8_2
          try clear hfz8_3
          try clear hfz8_4
          try clear hx140_0
          try clear p140
          try clear p15
          try clear p2
          try clear q140
          try clear q15
          obtain ⟨kq,x32_11,rfl,HA,HJ11,HO_4,BK139,HB⟩:=hcut
          cases kq with
          | zero=>exact absurd HA.out (by simp [node_Leaf.j2])
          | succ kj11 =>
           have H:=HA.out
           clear HA
           simp only [node_Leaf.j2] at H
           by_cases c16 : x32_11=true
           ·subst c16
            have H1 : (some (([] : List (S47)),120))=some (r1,r2):=by rw [if_pos rfl] at H;exact H
            clear H
            have H:=H1
            clear H1
            simp only [Option.some.injEq,Prod.mk.injEq] at H
            obtain ⟨rfl,rfl⟩:=H
            go_wp2
            go_ret2
            exact ⟨_,by first|rfl|(simp [errW_none,errW_some] <;> rfl)|(simp [*,errW_none,errW_some] <;> rfl),by first|exact Kd.R_nil _ _ _ _ _|exact Kd.N_nil _ _ _ _ _|exact Kd.V_nil _ _ _ _ _|exact Kd.Q_nil _ _ _ _ _|exact Kd.S_nil _ _ _ _ _,by repeat (first|(with_reducible first|exact HB.out|apply below_alloc|apply pw_below_drewN|apply below_drew1|refine below_set ?_ GE139.out)|exact HB.out)⟩
           ·replace c16:=Bool.eq_false_iff.mpr c16
            subst c16
            have H1 : ((raw_NewReader.f (rdOf ByteArray.empty l0_4 x21_2)).bind fun bt141=>((raw_Reader_Bool.f kj11 bt141.1 bt141.2.1 bt141.2.2).bind fun bt145=>((node_take.f bt145.2.1 bt145.2.2.1 bt145.2.2.2).bind fun bt150=>(if x4_2.length < 3518437208883 then (node_Leaf.l0 kj11 (x4_2 ++ [(⟨(⟨bt150.1,(⟨bt150.2.1,bt150.2.2.1⟩ : S41)⟩ : S43),bt145.1⟩ : S47)]) l0_4 (l0_4.length : Int) (wrap64 (x21_2 + 1))) else (none)))))=some (r1,r2):=by rw [if_neg (show ¬ (false=true) by decide)] at H;exact H
            clear H
            have H:=H1
            clear H1
            replace H:=Option.bind_eq_some_iff.mp H
            obtain ⟨⟨t141,t142,t143⟩,A170,H⟩:=H
            replace H : ((raw_Reader_Bool.f kj11 t141 t142 t143).bind fun bt145=>((node_take.f bt145.2.1 bt145.2.2.1 bt145.2.2.2).bind fun bt150=>(if x4_2.length < 3518437208883 then (node_Leaf.l0 kj11 (x4_2 ++ [(⟨(⟨bt150.1,(⟨bt150.2.1,bt150.2.2.1⟩ : S41)⟩ : S43),bt145.1⟩ : S47)]) l0_4 (l0_4.length : Int) (wrap64 (x21_2 + 1))) else (none))))=some (r1,r2):=H
            have A17:=Aside0.mk A170
            clear A170
            replace H:=Option.bind_eq_some_iff.mp H
            obtain ⟨⟨t145,t146,t147,t148⟩,A180,H⟩:=H
            replace H : ((node_take.f t146 t147 t148).bind fun bt150=>(if x4_2.length < 3518437208883 then (node_Leaf.l0 kj11 (x4_2 ++ [(⟨(⟨bt150.1,(⟨bt150.2.1,bt150.2.2.1⟩ : S41)⟩ : S43),t145⟩ : S47)]) l0_4 (l0_4.length : Int) (wrap64 (x21_2 + 1))) else (none)))=some (r1,r2):=H
            have A18:=Aside0.mk A180
            clear A180
            replace H:=Option.bind_eq_some_iff.mp H
            obtain ⟨⟨t150,t151,t152,t153,t154,t155⟩,A190,H⟩:=H
            replace H : (if x4_2.length < 3518437208883 then (node_Leaf.l0 kj11 (x4_2 ++ [(⟨(⟨t150,(⟨t151,t152⟩ : S41)⟩ : S43),t145⟩ : S47)]) l0_4 (l0_4.length : Int) (wrap64 (x21_2 + 1))) else (none))=some (r1,r2):=H
            have A19:=Aside0.mk A190
            clear A190
            by_cases c20 : x4_2.length < 3518437208883
            ·rw [if_pos c20] at H
             have LMc20:=Aside0.mk c20
             clear c20
             obtain ⟨y156,hy156⟩ : ∃ y_ : List (S47),y_=(x4_2 ++ [(⟨(⟨t150,(⟨t151,t152⟩ : S41)⟩ : S43),t145⟩ : S47)]):=⟨_,rfl⟩
             replace H : (node_Leaf.l0 kj11 y156 l0_4 (l0_4.length : Int) (wrap64 (x21_2 + 1)))=some (r1,r2):=by first|(rw [hy156];with_reducible exact H)|(have H2_:=(Option.bind_some _ _).symm.trans H;rw [hy156];with_reducible exact H2_)|(have H2_:=(Option.bind_some _ _).symm.trans H;with_reducible exact H2_)|with_reducible exact H|(rw [hy156];exact H)|exact H
             have Ny156:=Aside0.mk hy156
             clear hy156
             have H':=Aside0.mk H
             clear H
             go_wp2_with (first|((with_reducible refine gate_callee (f:=44) rfl ?_);refine goesL_ (some 34) rfl rfl Try.func44 (by kernel_rfl) rfl #[.string (rdOf ByteArray.empty l0_4 x21_2)] rfl (by (try simp only [List.map_toArray,List.map_cons,List.map_nil]);first|done|rfl|(simp only [List.length_drop,List.length_take];rfl)) ?_;(with_reducible refine (raw_NewReader.calls (rdOf ByteArray.empty l0_4 x21_2) t141 t142 t143 w _ ?side1 A17.out).mono ?_);(case side1=>repeat (first|(with_reducible first|exact HB.out|apply below_alloc|apply pw_below_drewN|apply below_drew1|refine below_set ?_ GE139.out)|exact HB.out));rintro e w21 ⟨g144,rfl,hi,hb,hb2⟩;refine ⟨_,rfl,?_⟩;have n0_:=Aside0.mk (Kd.R_below (by (with_reducible repeat (first|apply Kd.R_alloc|apply Kd.R_drewN|apply Kd.R_drew));exact HO_4.out) hb2);have n1_:=Aside0.mk (blk_below (g:=gb139) (o:=.cells #[.int .u32 a0_0,.int .u64 a0_1,.int .i64 a0_2,.string a0_3,.slice (some ad140) l0_4.length c0_4] 28 (0,0)) (by (with_reducible repeat (first|refine blk_drewN ?_ _|refine blk_drew ?_|refine blk_alloc ?_ _));exact BK139.out) hb2);have n2_:=Aside0.mk (hb);have n3_:=Aside0.mk (hi);have n4_:=Aside0.mk (IsS110.ne_blk hi (blk_below (g:=gb139) (o:=.cells #[.int .u32 a0_0,.int .u64 a0_1,.int .i64 a0_2,.string a0_3,.slice (some ad140) l0_4.length c0_4] 28 (0,0)) (by (with_reducible repeat (first|refine blk_drewN ?_ _|refine blk_drew ?_|refine blk_alloc ?_ _));exact BK139.out) hb2) (by decide));have n5_:=Aside0.mk (Ne.symm (IsS110.ne_blk hi (blk_below (g:=gb139) (o:=.cells #[.int .u32 a0_0,.int .u64 a0_1,.int .i64 a0_2,.string a0_3,.slice (some ad140) l0_4.length c0_4] 28 (0,0)) (by (with_reducible repeat (first|refine blk_drewN ?_ _|refine blk_drew ?_|refine blk_alloc ?_ _));exact BK139.out) hb2) (by decide)));clear HO_4;clear BK139;clear HB;have HO_4:=n0_;have BK139:=n1_;have HB:=n2_;have HI144:=n3_;have NB144_139:=n4_;have NB139_144:=n5_;clear n0_ n1_ n2_ n3_ n4_ n5_;(try clear hb);(try clear hb2);(try clear hk);(try clear hi))|((with_reducible refine gate_callee (f:=47) rfl ?_);refine goesL_ (some 36) rfl rfl Try.func47 (by kernel_rfl) rfl #[.pointer (some ⟨g144,0,none⟩)] rfl (by (try simp only [List.map_toArray,List.map_cons,List.map_nil]);first|done|rfl|(simp only [List.length_drop,List.length_take];rfl)) ?_;(with_reducible refine (raw_Reader_Bool.calls kj11 g144 t141 t142 t143 t145 t146 t147 t148 w _ ?side1 ?side2 A18.out).mono ?_);(case side1=>repeat (first|(with_reducible first|exact HI144.out|apply IsS110.alloc|apply IsS110.drewN|apply IsS110.drew|apply IsS110.set_0|apply IsS110.set_1|apply IsS110.set_2|refine IsS110.far ?_ NB144_139.out _)|exact HI144.out));(case side2=>repeat (first|(with_reducible first|exact HB.out|apply below_alloc|apply pw_below_drewN|apply below_drew1|refine below_set ?_ (IsS110.ge HI144.out)|refine below_set ?_ GE139.out)|exact HB.out));rintro e w22 ⟨rfl,hi,hb,hk⟩;refine ⟨_,rfl,?_⟩;have n0_:=Aside0.mk (Kd.R_mono (Kd.R_keep (IsS110.apart (show IsS110 w _ g144 t141 t142 t143 from by repeat (first|(with_reducible first|exact HI144.out|apply IsS110.alloc|apply IsS110.drewN|apply IsS110.drew|apply IsS110.set_0|apply IsS110.set_1|apply IsS110.set_2|refine IsS110.far ?_ NB144_139.out _)|exact HI144.out)) (by (with_reducible repeat (first|apply Kd.R_alloc|apply Kd.R_drewN|apply Kd.R_drew));exact HO_4.out) (by decide)) hk (fun _ h=>h.2)) (fun _ h=>h.1));have n1_:=Aside0.mk (KeepBut.blk hk (g':=gb139) (o:=.cells #[.int .u32 a0_0,.int .u64 a0_1,.int .i64 a0_2,.string a0_3,.slice (some ad140) l0_4.length c0_4] 28 (0,0)) (by (with_reducible repeat (first|refine blk_drewN ?_ _|refine blk_drew ?_|refine blk_alloc ?_ _));exact BK139.out) NB139_144.out (by simp));have n2_:=Aside0.mk (hb);have n3_:=Aside0.mk (hi);clear HO_4;clear BK139;clear HB;clear HI144;have HO_4:=n0_;have BK139:=n1_;have HB:=n2_;have HI144:=n3_;clear n0_ n1_ n2_ n3_;(try clear hb);(try clear hb2);(try clear hk);(try clear hi))|((with_reducible refine gate_dst (N:=8) rfl ?_);(try (refine gate_guard (by rfl) ?_;dsimp only));refine box_event ?hg (N:=8) ?hd (cs:=#[.string (⟨#[]⟩ : ByteArray),.int .u32 0,.int .i64 0,.bool false]) (t:=47) ?hr ?_;(case hd=>rfl);(case hg=>rfl);(case hr=>first|(go_simp;done)|(go_simp;rfl));intro gb149 hg w23 hbox hb;have n0_:=Aside0.mk (Kd.R_below (Kd.R_elderB (by (with_reducible repeat (first|apply Kd.R_alloc|apply Kd.R_drewN|apply Kd.R_drew));exact HO_4.out) gb149 (Nat.le_of_eq hg.symm)) hb);have n1_:=Aside0.mk (blk_below (g:=gb139) (o:=.cells #[.int .u32 a0_0,.int .u64 a0_1,.int .i64 a0_2,.string a0_3,.slice (some ad140) l0_4.length c0_4] 28 (0,0)) (by (with_reducible repeat (first|refine blk_drewN ?_ _|refine blk_drew ?_|refine blk_alloc ?_ _));exact BK139.out) hb);have n2_:=Aside0.mk (IsS110.below (by repeat (first|(with_reducible first|exact HI144.out|apply IsS110.alloc|apply IsS110.drewN|apply IsS110.drew|apply IsS110.set_0|apply IsS110.set_1|apply IsS110.set_2|refine IsS110.far ?_ NB144_139.out _)|exact HI144.out)) hb);have n3_:=Aside0.mk (below_step (by repeat (first|(with_reducible first|exact HB.out|apply below_alloc|apply pw_below_drewN|apply below_drew1|refine below_set ?_ (IsS110.ge HI144.out)|refine below_set ?_ GE139.out)|exact HB.out)) hb);have n4_:=Aside0.mk (hbox);have n5_:=Aside0.mk ((by rw [hg];exact (below_size (by repeat (first|(with_reducible first|exact HB.out|apply below_alloc|apply pw_below_drewN|apply below_drew1|refine below_set ?_ (IsS110.ge HI144.out)|refine below_set ?_ GE139.out)|exact HB.out))) : w.heap.size≤gb149));have n6_:=Aside0.mk ((by rw [hg];exact (below_size (by repeat (first|(with_reducible first|exact HB.out|apply below_alloc|apply pw_below_drewN|apply below_drew1|refine below_set ?_ (IsS110.ge HI144.out)|refine below_set ?_ GE139.out)|exact HB.out))) : w.heap.size≤gb149));have n7_:=Aside0.mk ((by rw [hg];exact Nat.ne_of_lt (blk_lt (g:=gb139) (o:=.cells #[.int .u32 a0_0,.int .u64 a0_1,.int .i64 a0_2,.string a0_3,.slice (some ad140) l0_4.length c0_4] 28 (0,0)) (by (with_reducible repeat (first|refine blk_drewN ?_ _|refine blk_drew ?_|refine blk_alloc ?_ _));exact BK139.out)) : gb139≠gb149));have n8_:=Aside0.mk ((by rw [hg];exact Nat.ne_of_gt (blk_lt (g:=gb139) (o:=.cells #[.int .u32 a0_0,.int .u64 a0_1,.int .i64 a0_2,.string a0_3,.slice (some ad140) l0_4.length c0_4] 28 (0,0)) (by (with_reducible repeat (first|refine blk_drewN ?_ _|refine blk_drew ?_|refine blk_alloc ?_ _));exact BK139.out)) : gb149≠gb139));have n9_:=Aside0.mk ((by rw [hg];exact Nat.ne_of_lt (IsS110.lt (show IsS110 w _ g144 t146 t147 t148 from by repeat (first|(with_reducible first|exact HI144.out|apply IsS110.alloc|apply IsS110.drewN|apply IsS110.drew|apply IsS110.set_0|apply IsS110.set_1|apply IsS110.set_2|refine IsS110.far ?_ NB144_139.out _)|exact HI144.out))) : g144≠gb149));have n10_:=Aside0.mk ((by rw [hg];exact Nat.ne_of_gt (IsS110.lt (show IsS110 w _ g144 t146 t147 t148 from by repeat (first|(with_reducible first|exact HI144.out|apply IsS110.alloc|apply IsS110.drewN|apply IsS110.drew|apply IsS110.set_0|apply IsS110.set_1|apply IsS110.set_2|refine IsS110.far ?_ NB144_139.out _)|exact HI144.out))) : gb149≠g144));clear HO_4;clear BK139;clear HI144;clear HB;have HO_4:=n0_;have BK139:=n1_;have HI144:=n2_;have HB:=n3_;have BK149:=n4_;have GW149:=n5_;have GE149:=n6_;have NB139_149:=n7_;have NB149_139:=n8_;have NB144_149:=n9_;have NB149_144:=n10_;clear n0_ n1_ n2_ n3_ n4_ n5_ n6_ n7_ n8_ n9_ n10_;clear hb hbox hg;have hnb24:=NB149_139.out;have hnc24:=NB139_149.out;have hnb25:=NB149_144.out;have hnc25:=NB144_149.out;have hcz26_0 : w23.cell? ⟨gb149,0,none⟩=some (.string (⟨#[]⟩ : ByteArray)):=(blk_cell BK149.out 0).trans rfl;have hcz26_1 : w23.cell? ⟨gb149,1,none⟩=some (.int .u32 0):=(blk_cell BK149.out 1).trans rfl;have hcz26_2 : w23.cell? ⟨gb149,2,none⟩=some (.int .i64 0):=(blk_cell BK149.out 2).trans rfl;have hcz26_3 : w23.cell? ⟨gb149,3,none⟩=some (.bool false):=(blk_cell BK149.out 3).trans rfl;have hfz26_0:=blk_frozen BK149.out 0;have hfz26_1:=blk_frozen BK149.out 1;have hfz26_2:=blk_frozen BK149.out 2;have hfz26_3:=blk_frozen BK149.out 3)|((with_reducible refine gate_callee (f:=46) rfl ?_);refine goesL_ (some 39) rfl rfl Try.func46 (by kernel_rfl) rfl #[.pointer (some ⟨g144,0,none⟩)] rfl (by (try simp only [List.map_toArray,List.map_cons,List.map_nil]);first|done|rfl|(simp only [List.length_drop,List.length_take];rfl)) ?_;(with_reducible refine (node_take.calls g144 t146 t147 t148 t150 t151 t152 t153 t154 t155 w _ ?side1 ?side2 A19.out).mono ?_);(case side1=>repeat (first|(with_reducible first|exact HI144.out|apply IsS110.alloc|apply IsS110.drewN|apply IsS110.drew|apply IsS110.set_0|apply IsS110.set_1|apply IsS110.set_2|refine IsS110.far ?_ NB144_139.out _|refine IsS110.far ?_ NB144_149.out _)|exact HI144.out));(case side2=>repeat (first|(with_reducible first|exact HB.out|apply below_alloc|apply pw_below_drewN|apply below_drew1|refine below_set ?_ (IsS110.ge HI144.out)|refine below_set ?_ GE139.out|refine below_set ?_ GE149.out)|exact HB.out));rintro e w27 ⟨rfl,hi,hb,hk⟩;refine ⟨_,rfl,?_⟩;have n0_:=Aside0.mk (Kd.R_mono (Kd.R_keep (IsS110.apart (show IsS110 w _ g144 t146 t147 t148 from by repeat (first|(with_reducible first|exact HI144.out|apply IsS110.alloc|apply IsS110.drewN|apply IsS110.drew|apply IsS110.set_0|apply IsS110.set_1|apply IsS110.set_2|refine IsS110.far ?_ NB144_139.out _|refine IsS110.far ?_ NB144_149.out _)|exact HI144.out)) (by (with_reducible repeat (first|apply Kd.R_alloc|apply Kd.R_drewN|apply Kd.R_drew));exact (Kd.R_mono (Kd.R_far (p:=⟨gb149,3,none⟩) (Kd.R_far (p:=⟨gb149,2,none⟩) (Kd.R_far (p:=⟨gb149,1,none⟩) (Kd.R_far (p:=⟨gb149,0,none⟩) (Kd.R_mono HO_4.out (fun k_ hk=>(⟨hk,hk.2⟩ : _∧k_≠gb149))) (fun _ hk=>hk.2) (.string (⟨#[]⟩ : ByteArray))) (fun _ hk=>hk.2) (.int .u32 0)) (fun _ hk=>hk.2) (.int .i64 0)) (fun _ hk=>hk.2) (.bool t145)) (fun _ h_=>h_.1))) (by decide)) hk (fun _ h=>h.2)) (fun _ h=>h.1));have n1_:=Aside0.mk (KeepBut.blk hk (g':=gb139) (o:=.cells #[.int .u32 a0_0,.int .u64 a0_1,.int .i64 a0_2,.string a0_3,.slice (some ad140) l0_4.length c0_4] 28 (0,0)) (by (with_reducible repeat (first|refine blk_drewN ?_ _|refine blk_drew ?_|refine blk_alloc ?_ _));refine blk_far ?_ NB139_149.out _;(with_reducible repeat (first|refine blk_drewN ?_ _|refine blk_drew ?_|refine blk_alloc ?_ _));refine blk_far ?_ NB139_149.out _;(with_reducible repeat (first|refine blk_drewN ?_ _|refine blk_drew ?_|refine blk_alloc ?_ _));refine blk_far ?_ NB139_149.out _;(with_reducible repeat (first|refine blk_drewN ?_ _|refine blk_drew ?_|refine blk_alloc ?_ _));refine blk_far ?_ NB139_149.out _;(with_reducible repeat (first|refine blk_drewN ?_ _|refine blk_drew ?_|refine blk_alloc ?_ _));exact BK139.out) NB139_144.out (by simp));have n2_:=Aside0.mk (KeepBut.blk hk (g':=gb149) (o:=.cells #[.string (⟨#[]⟩ : ByteArray),.int .u32 0,.int .i64 0,.bool t145] 47 (0,0)) (by (with_reducible repeat (first|refine blk_drewN ?_ _|refine blk_drew ?_|refine blk_alloc ?_ _));refine blk_put (cs:=#[.string (⟨#[]⟩ : ByteArray),.int .u32 0,.int .i64 0,.bool false]) ?_ 3 _ rfl;(with_reducible repeat (first|refine blk_drewN ?_ _|refine blk_drew ?_|refine blk_alloc ?_ _));refine blk_put (cs:=#[.string (⟨#[]⟩ : ByteArray),.int .u32 0,.int .i64 0,.bool false]) ?_ 2 _ rfl;(with_reducible repeat (first|refine blk_drewN ?_ _|refine blk_drew ?_|refine blk_alloc ?_ _));refine blk_put (cs:=#[.string (⟨#[]⟩ : ByteArray),.int .u32 0,.int .i64 0,.bool false]) ?_ 1 _ rfl;(with_reducible repeat (first|refine blk_drewN ?_ _|refine blk_drew ?_|refine blk_alloc ?_ _));refine blk_put (cs:=#[.string (⟨#[]⟩ : ByteArray),.int .u32 0,.int .i64 0,.bool false]) ?_ 0 _ rfl;(with_reducible repeat (first|refine blk_drewN ?_ _|refine blk_drew ?_|refine blk_alloc ?_ _));exact BK149.out) NB149_144.out (by simp));have n3_:=Aside0.mk (hb);have n4_:=Aside0.mk (hi);clear HO_4;clear BK139;clear BK149;clear HB;clear HI144;have HO_4:=n0_;have BK139:=n1_;have BK149:=n2_;have HB:=n3_;have HI144:=n4_;clear n0_ n1_ n2_ n3_ n4_;(try clear hb);(try clear hb2);(try clear hk);(try clear hi);have hcz28_0 : w27.cell? ⟨gb149,0,none⟩=some (.string (⟨#[]⟩ : ByteArray)):=(blk_cell BK149.out 0).trans rfl;have hcz28_1 : w27.cell? ⟨gb149,1,none⟩=some (.int .u32 0):=(blk_cell BK149.out 1).trans rfl;have hcz28_2 : w27.cell? ⟨gb149,2,none⟩=some (.int .i64 0):=(blk_cell BK149.out 2).trans rfl;have hcz28_3 : w27.cell? ⟨gb149,3,none⟩=some (.bool t145):=(blk_cell BK149.out 3).trans rfl;have hfz28_0:=blk_frozen BK149.out 0;have hfz28_1:=blk_frozen BK149.out 1;have hfz28_2:=blk_frozen BK149.out 2;have hfz28_3:=blk_frozen BK149.out 3)|((with_reducible refine gate_builtin (b:=.append) (xs:=#[.tmp 41,.tmp 43]) rfl ?_);(try (refine gate_guard (by rfl) ?_;dsimp only));at_builtin;refine Kd.R_append k47 (w0:=w) w.heap.size rfl (.tmp 41) (.tmp 43) 51 47 (.agg #[(.string ⟨#[]⟩),(.int .u32 0),(.int .i64 0),(.bool false)]) 40 rfl Try.underlying51 info47 rfl (by decide) (by omega) u4 x4_2 (⟨(⟨t150,(⟨t151,t152⟩ : S41)⟩ : S43),t145⟩ : S47) [.string t150,.int .u32 t151,.int .i64 t152,.bool t145] (fun k_=>k_≠gb149) (fun _=>False) rfl (by first|(go_simp;done)|(go_simp;rfl)) ?aP (fun _ hk=>hk.elim) ?aF ?aO ?aB ?aS ?aL ?_;(case aP=>exact k47_mkM _ _ _ (⟨(⟨t150,(⟨t151,t152⟩ : S41)⟩ : S43),t145⟩ : S47));(case aB=>exact (by repeat (first|(with_reducible first|exact HB.out|apply below_alloc|apply pw_below_drewN|apply below_drew1|refine below_set ?_ (IsS110.ge HI144.out)|refine below_set ?_ GE139.out|refine below_set ?_ GE149.out)|exact HB.out)));(case aF=>exact (fun k_ hk=>Kd.freshB (g:=gb149) (o:=.cells #[.string t150,.int .u32 t151,.int .i64 t152,.bool t145] 47 (0,0)) (by (with_reducible repeat (first|refine blk_drewN ?_ _|refine blk_drew ?_|refine blk_alloc ?_ _));refine blk_put (cs:=#[.string t150,.int .u32 t151,.int .i64 0,.bool t145]) ?_ 2 _ rfl;(with_reducible repeat (first|refine blk_drewN ?_ _|refine blk_drew ?_|refine blk_alloc ?_ _));refine blk_put (cs:=#[.string t150,.int .u32 0,.int .i64 0,.bool t145]) ?_ 1 _ rfl;(with_reducible repeat (first|refine blk_drewN ?_ _|refine blk_drew ?_|refine blk_alloc ?_ _));refine blk_put (cs:=#[.string (⟨#[]⟩ : ByteArray),.int .u32 0,.int .i64 0,.bool t145]) ?_ 0 _ rfl;(with_reducible repeat (first|refine blk_drewN ?_ _|refine blk_drew ?_|refine blk_alloc ?_ _));exact BK149.out) k_ hk));(case aO=>exact (by (with_reducible repeat (first|apply Kd.R_alloc|apply Kd.R_drewN|apply Kd.R_drew));exact Kd.R_mono (Kd.R_far (p:=⟨gb149,2,none⟩) (Kd.R_far (p:=⟨gb149,1,none⟩) (Kd.R_far (p:=⟨gb149,0,none⟩) (Kd.R_mono HO_4.out (fun k_ hk=>(⟨hk,hk.2⟩ : _∧k_≠gb149))) (fun _ hk=>hk.2) (.string t150)) (fun _ hk=>hk.2) (.int .u32 t151)) (fun _ hk=>hk.2) (.int .i64 t152)) (fun _ hk=>hk.1.2)));(case aS=>exact (below_size (by repeat (first|(with_reducible first|exact HB.out|apply below_alloc|apply pw_below_drewN|apply below_drew1|refine below_set ?_ (IsS110.ge HI144.out)|refine below_set ?_ GE139.out|refine below_set ?_ GE149.out)|exact HB.out))));(case aL=>have:=LMc20.out;omega);intro v157 w29 ho hb hg hat;rw [← Ny156.out] at ho;have n0_:=Aside0.mk (blk_grown (g:=gb139) (o:=.cells #[.int .u32 a0_0,.int .u64 a0_1,.int .i64 a0_2,.string a0_3,.slice (some ad140) l0_4.length c0_4] 28 (0,0)) (by (with_reducible repeat (first|refine blk_drewN ?_ _|refine blk_drew ?_|refine blk_alloc ?_ _));refine blk_far ?_ NB139_149.out _;(with_reducible repeat (first|refine blk_drewN ?_ _|refine blk_drew ?_|refine blk_alloc ?_ _));refine blk_far ?_ NB139_149.out _;(with_reducible repeat (first|refine blk_drewN ?_ _|refine blk_drew ?_|refine blk_alloc ?_ _));refine blk_far ?_ NB139_149.out _;(with_reducible repeat (first|refine blk_drewN ?_ _|refine blk_drew ?_|refine blk_alloc ?_ _));exact BK139.out) hg (Kd.R_ne HO_4.out BK139.out (by decide)));have n1_:=Aside0.mk (IsS110.grown (show IsS110 w _ g144 t153 t154 t155 from by repeat (first|(with_reducible first|exact HI144.out|apply IsS110.alloc|apply IsS110.drewN|apply IsS110.drew|apply IsS110.set_0|apply IsS110.set_1|apply IsS110.set_2|refine IsS110.far ?_ NB144_139.out _|refine IsS110.far ?_ NB144_149.out _)|exact HI144.out)) hg (IsS110.own_ne HI144.out HO_4.out (by decide)));have n2_:=Aside0.mk (blk_grown (g:=gb149) (o:=.cells #[.string t150,.int .u32 t151,.int .i64 t152,.bool t145] 47 (0,0)) (by (with_reducible repeat (first|refine blk_drewN ?_ _|refine blk_drew ?_|refine blk_alloc ?_ _));refine blk_put (cs:=#[.string t150,.int .u32 t151,.int .i64 0,.bool t145]) ?_ 2 _ rfl;(with_reducible repeat (first|refine blk_drewN ?_ _|refine blk_drew ?_|refine blk_alloc ?_ _));refine blk_put (cs:=#[.string t150,.int .u32 0,.int .i64 0,.bool t145]) ?_ 1 _ rfl;(with_reducible repeat (first|refine blk_drewN ?_ _|refine blk_drew ?_|refine blk_alloc ?_ _));refine blk_put (cs:=#[.string (⟨#[]⟩ : ByteArray),.int .u32 0,.int .i64 0,.bool t145]) ?_ 0 _ rfl;(with_reducible repeat (first|refine blk_drewN ?_ _|refine blk_drew ?_|refine blk_alloc ?_ _));exact BK149.out) hg (Kd.R_away HO_4.out (fun _ hk=>hk.2)));have n3_:=Aside0.mk (hb);have n4_:=Aside0.mk (ho);clear BK139;clear HI144;clear BK149;clear HB;clear HO_4;have BK139:=n0_;have HI144:=n1_;have BK149:=n2_;have HB:=n3_;have HO158:=n4_;clear n0_ n1_ n2_ n3_ n4_;clear ho hb hg hat))
             go_roundg kj11
             case measure=>have:=HJ1.out;have:=HK2.out;have:=HJ11.out;omega
             case rel=>exact ⟨(y156),(wrap64 (x21_2 + 1)),(by first|rfl|(simp;done)|(simp [*];done)),H',⟨by have:=HJ1.out;have:=HK2.out;have:=HJ11.out;omega⟩,⟨by (with_reducible repeat (first|apply Kd.R_alloc|apply Kd.R_drewN|apply Kd.R_drew));exact Kd.R_mono HO158.out (fun _ hk=>trivial)⟩,⟨by (with_reducible repeat (first|refine blk_drewN ?_ _|refine blk_drew ?_|refine blk_alloc ?_ _));exact BK139.out⟩,⟨by repeat (first|(with_reducible first|exact HB.out|apply below_alloc|apply pw_below_drewN|apply below_drew1|refine below_set ?_ (IsS110.ge HI144.out)|refine below_set ?_ GE139.out|refine below_set ?_ GE149.out)|exact HB.out)⟩⟩
            ·rw [if_neg c20] at H
             exact absurd H (by simp)
        ·rw [if_neg c11] at H
         exact absurd H (by simp)
       ·rw [if_neg c10] at H
        exact absurd H (by simp)
      ·rw [if_neg c9] at H
       have c9b0 : decide (x21_2 < (l0_4.length : Int))=false:=decide_eq_false c9
       clear c9
       simp only [Option.some.injEq,Prod.mk.injEq] at H
       obtain ⟨rfl,rfl⟩:=H
       go_wp2
       go_ret2
       exact ⟨_,by first|rfl|(simp [errW_none,errW_some] <;> rfl)|(simp [*,errW_none,errW_some] <;> rfl),by (with_reducible repeat (first|apply Kd.R_alloc|apply Kd.R_drewN|apply Kd.R_drew));exact HO_4.out,by repeat (first|(with_reducible first|exact HB.out|apply below_alloc|apply pw_below_drewN|apply below_drew1|refine below_set ?_ GE139.out)|exact HB.out)⟩
end Go.Proofs.Ytfegabikfkmepaa.PNe
end
section
namespace Go.Proofs.Ytfegabikfkmepaa.PNe
open Go.RowKit Go.Proofs.YtfegabikfkmepaaW.PrintWords Go.Proofs.YtfegabikfkmepaaW.PrintLast Go.Proofs.YtfegabikfkmepaaW.PrintMore
attribute [local go_sem] max2_int min2_int max_two min_two max_three min_three max_four min_four
set_option linter.unusedVariables false
set_option linter.unusedSimpArgs false
def node_leafSlot.f (a0_0 : ByteArray) (a0_1 : Int) (a0_2 : Int) (a0_3 : Bool) : Option (ByteArray):=if 0≤a0_1∧a0_1≤4294967295∧0≤a0_2∧a0_2≤65535∧a0_0.size≤140737488350000 then some (Go.Gi.bs (leafB a0_0 a0_1 a0_2 a0_3)) else none
set_option maxHeartbeats 8000000 in
set_option maxRecDepth 100000 in
theorem node_leafSlot.calls (a0_0 : ByteArray) (a0_1 : Int) (a0_2 : Int) (a0_3 : Bool) (r : ByteArray) (w : World) (h : node_leafSlot.f a0_0 a0_1 a0_2 a0_3=some r) :
  Calls Try.prog 38 #[.agg #[.string a0_0,.int .u32 a0_1,.int .i64 a0_2,.bool a0_3]] w fun e w'=>e=.returned (.string r)∧Below w.heap.size w w':=by
 unfold node_leafSlot.f at h
 split at h
 ·rename_i hc
  obtain ⟨h1,h2,h3,h4,h5⟩:=hc
  obtain rfl:=Option.some.inj h
  exact leafSlot_any a0_0 a0_1 a0_2 a0_3 w ⟨h1,h2⟩ ⟨h3,h4⟩ h5
 ·cases h
end Go.Proofs.Ytfegabikfkmepaa.PNe
end
section
namespace Go.Proofs.Ytfegabikfkmepaa.PNe
open Go.RowKit Go.Proofs.YtfegabikfkmepaaW.PrintWords Go.Proofs.YtfegabikfkmepaaW.PrintLast Go.Proofs.YtfegabikfkmepaaW.PrintMore
attribute [local go_sem] max2_int min2_int max_two min_two max_three min_three max_four min_four
set_option linter.unusedVariables false
set_option linter.unusedSimpArgs false
def node_PutItem.f (k : Nat) (a0_0 : Int) (a0_1 : Int) (a0_2 : Int) (a0_3 : ByteArray) (l0_4 : List ByteArray) (a1_0 : ByteArray) (a1_1 : Int) (a1_2 : Int) (a1_3 : Bool) : Option (Int × Int × ByteArray × ByteArray × Int):=(node_Leaf.f k a0_0 a0_1 a0_2 a0_3 l0_4).bind fun bt162=>(if bt162.2=0 then ((node_Find.f bt162.1 a1_0 a1_1 a1_2).bind fun bt166=>(if bt166.2=true then (some (0,0,(⟨#[]⟩ : ByteArray),(⟨#[]⟩ : ByteArray),121)) else ((node_leafSlot.f a1_0 a1_1 a1_2 a1_3).bind fun t168=>(some (2,bt166.1,t168,(⟨#[]⟩ : ByteArray),0))))) else (some (0,0,(⟨#[]⟩ : ByteArray),(⟨#[]⟩ : ByteArray),bt162.2)))
set_option maxHeartbeats 8000000 in
set_option maxRecDepth 100000 in
theorem node_PutItem.calls (k : Nat) (a0_0 : Int) (a0_1 : Int) (a0_2 : Int) (a0_3 : ByteArray) (A0_4 : Option Addr) (c0_4 : Nat) (l0_4 : List ByteArray) (a1_0 : ByteArray) (a1_1 : Int) (a1_2 : Int) (a1_3 : Bool) (r1 : Int) (r2 : Int) (r3 : ByteArray) (r4 : ByteArray) (r5 : Int) (w : World) (hr0_4 : Kd.C Kd.string w A0_4 l0_4.length l0_4) (hc0_4 : l0_4.length≤c0_4) (h : node_PutItem.f k a0_0 a0_1 a0_2 a0_3 l0_4 a1_0 a1_1 a1_2 a1_3=some (r1,r2,r3,r4,r5)) :
  Calls Try.prog 14 #[.agg #[.int .u32 a0_0,.int .u64 a0_1,.int .i64 a0_2,.string a0_3,.slice A0_4 l0_4.length c0_4],.agg #[.string a1_0,.int .u32 a1_1,.int .i64 a1_2,.bool a1_3]] w fun e w'=>e=.returned (.tuple #[.agg #[.int .i64 r1,.int .i64 r2,.string r3,.string r4],.int .i64 r5])∧Below w.heap.size w w':=by
 have hu28:=Try.underlying28
 have hu47:=Try.underlying47
 have hu38:=Try.underlying38
 have hu43:=Try.underlying43
 have HR0_4:=Aside0.mk hr0_4
 have HC0_4:=Aside0.mk hc0_4
 clear hr0_4 hc0_4
 have HB:=Aside0.mk (Below.refl w.heap.size w)
 have H : ((node_Leaf.f k a0_0 a0_1 a0_2 a0_3 l0_4).bind fun bt162=>(if bt162.2=0 then ((node_Find.f bt162.1 a1_0 a1_1 a1_2).bind fun bt166=>(if bt166.2=true then (some (0,0,(⟨#[]⟩ : ByteArray),(⟨#[]⟩ : ByteArray),121)) else ((node_leafSlot.f a1_0 a1_1 a1_2 a1_3).bind fun t168=>(some (2,bt166.1,t168,(⟨#[]⟩ : ByteArray),0))))) else (some (0,0,(⟨#[]⟩ : ByteArray),(⟨#[]⟩ : ByteArray),bt162.2))))=some (r1,r2,r3,r4,r5):=h
 clear h
 replace H:=Option.bind_eq_some_iff.mp H
 obtain ⟨⟨t162,t165⟩,A30,H⟩:=H
 replace H : (if t165=0 then ((node_Find.f t162 a1_0 a1_1 a1_2).bind fun bt166=>(if bt166.2=true then (some (0,0,(⟨#[]⟩ : ByteArray),(⟨#[]⟩ : ByteArray),121)) else ((node_leafSlot.f a1_0 a1_1 a1_2 a1_3).bind fun t168=>(some (2,bt166.1,t168,(⟨#[]⟩ : ByteArray),0))))) else (some (0,0,(⟨#[]⟩ : ByteArray),(⟨#[]⟩ : ByteArray),t165)))=some (r1,r2,r3,r4,r5):=H
 have A3:=Aside0.mk A30
 clear A30
 by_cases c4 : t165=0
 ·rw [if_pos c4] at H
  have c4b0 : (t165 == 0)=true:=beq_iff_eq.mpr c4
  have c4b1 : (t165 != 0)=false:=bne_eq_false_iff_eq.mpr c4
  clear c4
  replace H:=Option.bind_eq_some_iff.mp H
  obtain ⟨⟨t166,t167⟩,A50,H⟩:=H
  replace H : (if t167=true then (some (0,0,(⟨#[]⟩ : ByteArray),(⟨#[]⟩ : ByteArray),121)) else ((node_leafSlot.f a1_0 a1_1 a1_2 a1_3).bind fun t168=>(some (2,t166,t168,(⟨#[]⟩ : ByteArray),0))))=some (r1,r2,r3,r4,r5):=H
  have A5:=Aside0.mk A50
  clear A50
  by_cases c6 : t167=true
  ·subst c6
   have H1 : (some (0,0,(⟨#[]⟩ : ByteArray),(⟨#[]⟩ : ByteArray),121))=some (r1,r2,r3,r4,r5):=by rw [if_pos rfl] at H;exact H
   clear H
   have H:=H1
   clear H1
   simp only [Option.some.injEq,Prod.mk.injEq] at H
   obtain ⟨rfl,rfl,rfl,rfl,rfl⟩:=H
   go_enter Try.func14,Try.ntmps14
   go_wp2_with (first|((with_reducible refine gate_dst (N:=2) rfl ?_);refine box_event ?hg (N:=2) ?hd (cs:=#[.int .u32 a0_0,.int .u64 a0_1,.int .i64 a0_2,.string a0_3,.slice A0_4 l0_4.length c0_4]) (t:=28) ?hr ?_;(case hd=>rfl);(case hg=>rfl);(case hr=>first|(go_simp;done)|(go_simp;rfl));intro gb159 hg w7 hbox hb;have n0_:=Aside0.mk (below_step (by repeat (first|(with_reducible first|exact HB.out|apply below_alloc|apply pw_below_drewN|apply below_drew1)|exact HB.out)) hb);have n1_:=Aside0.mk (hbox);have n2_:=Aside0.mk ((by rw [hg];exact (below_size (by repeat (first|(with_reducible first|exact HB.out|apply below_alloc|apply pw_below_drewN|apply below_drew1)|exact HB.out))) : w.heap.size≤gb159));have n3_:=Aside0.mk ((by rw [hg];exact (below_size (by repeat (first|(with_reducible first|exact HB.out|apply below_alloc|apply pw_below_drewN|apply below_drew1)|exact HB.out))) : w.heap.size≤gb159));clear HB;have HB:=n0_;have BK159:=n1_;have GW159:=n2_;have GE159:=n3_;clear n0_ n1_ n2_ n3_;clear hb hbox hg)|((with_reducible refine gate_dst (N:=3) rfl ?_);refine box_event ?hg (N:=3) ?hd (cs:=#[.string a1_0,.int .u32 a1_1,.int .i64 a1_2,.bool a1_3]) (t:=47) ?hr ?_;(case hd=>rfl);(case hg=>rfl);(case hr=>first|(go_simp;done)|(go_simp;rfl));intro gb160 hg w8 hbox hb;have n0_:=Aside0.mk (blk_below (g:=gb159) (o:=.cells #[.int .u32 a0_0,.int .u64 a0_1,.int .i64 a0_2,.string a0_3,.slice A0_4 l0_4.length c0_4] 28 (0,0)) (by (with_reducible repeat (first|refine blk_drewN ?_ _|refine blk_drew ?_|refine blk_alloc ?_ _));exact BK159.out) hb);have n1_:=Aside0.mk (below_step (by repeat (first|(with_reducible first|exact HB.out|apply below_alloc|apply pw_below_drewN|apply below_drew1|refine below_set ?_ GE159.out)|exact HB.out)) hb);have n2_:=Aside0.mk (hbox);have n3_:=Aside0.mk ((by rw [hg];exact (below_size (by repeat (first|(with_reducible first|exact HB.out|apply below_alloc|apply pw_below_drewN|apply below_drew1|refine below_set ?_ GE159.out)|exact HB.out))) : w.heap.size≤gb160));have n4_:=Aside0.mk ((by rw [hg];exact (below_size (by repeat (first|(with_reducible first|exact HB.out|apply below_alloc|apply pw_below_drewN|apply below_drew1|refine below_set ?_ GE159.out)|exact HB.out))) : w.heap.size≤gb160));have n5_:=Aside0.mk ((by rw [hg];exact Nat.ne_of_lt (blk_lt (g:=gb159) (o:=.cells #[.int .u32 a0_0,.int .u64 a0_1,.int .i64 a0_2,.string a0_3,.slice A0_4 l0_4.length c0_4] 28 (0,0)) (by (with_reducible repeat (first|refine blk_drewN ?_ _|refine blk_drew ?_|refine blk_alloc ?_ _));exact BK159.out)) : gb159≠gb160));have n6_:=Aside0.mk ((by rw [hg];exact Nat.ne_of_gt (blk_lt (g:=gb159) (o:=.cells #[.int .u32 a0_0,.int .u64 a0_1,.int .i64 a0_2,.string a0_3,.slice A0_4 l0_4.length c0_4] 28 (0,0)) (by (with_reducible repeat (first|refine blk_drewN ?_ _|refine blk_drew ?_|refine blk_alloc ?_ _));exact BK159.out)) : gb160≠gb159));clear BK159;clear HB;have BK159:=n0_;have HB:=n1_;have BK160:=n2_;have GW160:=n3_;have GE160:=n4_;have NB159_160:=n5_;have NB160_159:=n6_;clear n0_ n1_ n2_ n3_ n4_ n5_ n6_;clear hb hbox hg)|((with_reducible refine gate_dst (N:=4) rfl ?_);refine box_event ?hg (N:=4) ?hd (cs:=#[.int .i64 0,.int .i64 0,.string (⟨#[]⟩ : ByteArray),.string (⟨#[]⟩ : ByteArray)]) (t:=38) ?hr ?_;(case hd=>rfl);(case hg=>rfl);(case hr=>first|(go_simp;done)|(go_simp;rfl));intro gb161 hg w9 hbox hb;have n0_:=Aside0.mk (blk_below (g:=gb159) (o:=.cells #[.int .u32 a0_0,.int .u64 a0_1,.int .i64 a0_2,.string a0_3,.slice A0_4 l0_4.length c0_4] 28 (0,0)) (by (with_reducible repeat (first|refine blk_drewN ?_ _|refine blk_drew ?_|refine blk_alloc ?_ _));exact BK159.out) hb);have n1_:=Aside0.mk (blk_below (g:=gb160) (o:=.cells #[.string a1_0,.int .u32 a1_1,.int .i64 a1_2,.bool a1_3] 47 (0,0)) (by (with_reducible repeat (first|refine blk_drewN ?_ _|refine blk_drew ?_|refine blk_alloc ?_ _));exact BK160.out) hb);have n2_:=Aside0.mk (below_step (by repeat (first|(with_reducible first|exact HB.out|apply below_alloc|apply pw_below_drewN|apply below_drew1|refine below_set ?_ GE159.out|refine below_set ?_ GE160.out)|exact HB.out)) hb);have n3_:=Aside0.mk (hbox);have n4_:=Aside0.mk ((by rw [hg];exact (below_size (by repeat (first|(with_reducible first|exact HB.out|apply below_alloc|apply pw_below_drewN|apply below_drew1|refine below_set ?_ GE159.out|refine below_set ?_ GE160.out)|exact HB.out))) : w.heap.size≤gb161));have n5_:=Aside0.mk ((by rw [hg];exact (below_size (by repeat (first|(with_reducible first|exact HB.out|apply below_alloc|apply pw_below_drewN|apply below_drew1|refine below_set ?_ GE159.out|refine below_set ?_ GE160.out)|exact HB.out))) : w.heap.size≤gb161));have n6_:=Aside0.mk ((by rw [hg];exact Nat.ne_of_lt (blk_lt (g:=gb159) (o:=.cells #[.int .u32 a0_0,.int .u64 a0_1,.int .i64 a0_2,.string a0_3,.slice A0_4 l0_4.length c0_4] 28 (0,0)) (by (with_reducible repeat (first|refine blk_drewN ?_ _|refine blk_drew ?_|refine blk_alloc ?_ _));exact BK159.out)) : gb159≠gb161));have n7_:=Aside0.mk ((by rw [hg];exact Nat.ne_of_gt (blk_lt (g:=gb159) (o:=.cells #[.int .u32 a0_0,.int .u64 a0_1,.int .i64 a0_2,.string a0_3,.slice A0_4 l0_4.length c0_4] 28 (0,0)) (by (with_reducible repeat (first|refine blk_drewN ?_ _|refine blk_drew ?_|refine blk_alloc ?_ _));exact BK159.out)) : gb161≠gb159));have n8_:=Aside0.mk ((by rw [hg];exact Nat.ne_of_lt (blk_lt (g:=gb160) (o:=.cells #[.string a1_0,.int .u32 a1_1,.int .i64 a1_2,.bool a1_3] 47 (0,0)) (by (with_reducible repeat (first|refine blk_drewN ?_ _|refine blk_drew ?_|refine blk_alloc ?_ _));exact BK160.out)) : gb160≠gb161));have n9_:=Aside0.mk ((by rw [hg];exact Nat.ne_of_gt (blk_lt (g:=gb160) (o:=.cells #[.string a1_0,.int .u32 a1_1,.int .i64 a1_2,.bool a1_3] 47 (0,0)) (by (with_reducible repeat (first|refine blk_drewN ?_ _|refine blk_drew ?_|refine blk_alloc ?_ _));exact BK160.out)) : gb161≠gb160));clear BK159;clear BK160;clear HB;have BK159:=n0_;have BK160:=n1_;have HB:=n2_;have BK161:=n3_;have GW161:=n4_;have GE161:=n5_;have NB159_161:=n6_;have NB161_159:=n7_;have NB160_161:=n8_;have NB161_160:=n9_;clear n0_ n1_ n2_ n3_ n4_ n5_ n6_ n7_ n8_ n9_;clear hb hbox hg;have hnb10:=NB159_160.out;have hnc10:=NB160_159.out;have hnb11:=NB159_161.out;have hnc11:=NB161_159.out;have hcz12_0 : w9.cell? ⟨gb159,0,none⟩=some (.int .u32 a0_0):=(blk_cell BK159.out 0).trans rfl;have hcz12_1 : w9.cell? ⟨gb159,1,none⟩=some (.int .u64 a0_1):=(blk_cell BK159.out 1).trans rfl;have hcz12_2 : w9.cell? ⟨gb159,2,none⟩=some (.int .i64 a0_2):=(blk_cell BK159.out 2).trans rfl;have hcz12_3 : w9.cell? ⟨gb159,3,none⟩=some (.string a0_3):=(blk_cell BK159.out 3).trans rfl;have hcz12_4 : w9.cell? ⟨gb159,4,none⟩=some (.slice A0_4 l0_4.length c0_4):=(blk_cell BK159.out 4).trans rfl;have hfz12_0:=blk_frozen BK159.out 0;have hfz12_1:=blk_frozen BK159.out 1;have hfz12_2:=blk_frozen BK159.out 2;have hfz12_3:=blk_frozen BK159.out 3;have hfz12_4:=blk_frozen BK159.out 4)|((with_reducible refine gate_callee (f:=31) rfl ?_);refine goesL_ (some 12) rfl rfl Try.func31 (by kernel_rfl) rfl #[.agg #[.int .u32 a0_0,.int .u64 a0_1,.int .i64 a0_2,.string a0_3,.slice A0_4 l0_4.length c0_4]] rfl (by (try simp only [List.map_toArray,List.map_cons,List.map_nil]);first|done|rfl|(simp only [List.length_drop,List.length_take];rfl)) ?_;(with_reducible refine (node_Leaf.calls k a0_0 a0_1 a0_2 a0_3 _ _ l0_4 t162 t165 _ ?side1 ?side2 A3.out).mono ?_);(case side1=>repeat (first|exact (Kd.C_below HR0_4.out HB.out)|(with_reducible refine Kd.C_alloc ?_ _)|(with_reducible refine Kd.C_drewN ?_ _)|(with_reducible refine Kd.C_drew ?_)));(case side2=>exact HC0_4.out);rintro e w13 ⟨v163,rfl,ho0,hb⟩;refine ⟨_,rfl,?_⟩;have n0_:=Aside0.mk (Kd.R_lower (Kd.R_newB ho0 (g:=gb160) (o:=.cells #[.string a1_0,.int .u32 a1_1,.int .i64 a1_2,.bool a1_3] 47 (0,0)) (by (with_reducible repeat (first|refine blk_drewN ?_ _|refine blk_drew ?_|refine blk_alloc ?_ _));exact BK160.out)) (below_size (by repeat (first|(with_reducible first|exact HB.out|apply below_alloc|apply pw_below_drewN|apply below_drew1|refine below_set ?_ GE159.out|refine below_set ?_ GE160.out|refine below_set ?_ GE161.out)|exact HB.out))));have n1_:=Aside0.mk (blk_below (g:=gb159) (o:=.cells #[.int .u32 a0_0,.int .u64 a0_1,.int .i64 a0_2,.string a0_3,.slice A0_4 l0_4.length c0_4] 28 (0,0)) (by (with_reducible repeat (first|refine blk_drewN ?_ _|refine blk_drew ?_|refine blk_alloc ?_ _));exact BK159.out) hb);have n2_:=Aside0.mk (blk_below (g:=gb160) (o:=.cells #[.string a1_0,.int .u32 a1_1,.int .i64 a1_2,.bool a1_3] 47 (0,0)) (by (with_reducible repeat (first|refine blk_drewN ?_ _|refine blk_drew ?_|refine blk_alloc ?_ _));exact BK160.out) hb);have n3_:=Aside0.mk (blk_below (g:=gb161) (o:=.cells #[.int .i64 0,.int .i64 0,.string (⟨#[]⟩ : ByteArray),.string (⟨#[]⟩ : ByteArray)] 38 (0,0)) (by (with_reducible repeat (first|refine blk_drewN ?_ _|refine blk_drew ?_|refine blk_alloc ?_ _));exact BK161.out) hb);have n4_:=Aside0.mk (below_step (by repeat (first|(with_reducible first|exact HB.out|apply below_alloc|apply pw_below_drewN|apply below_drew1|refine below_set ?_ GE159.out|refine below_set ?_ GE160.out|refine below_set ?_ GE161.out)|exact HB.out)) hb);clear BK159;clear BK160;clear BK161;clear HB;have HO164:=n0_;have BK159:=n1_;have BK160:=n2_;have BK161:=n3_;have HB:=n4_;clear n0_ n1_ n2_ n3_ n4_;(try clear hb);(try clear hb2);(try clear hk);(try clear hi);(try clear ho0);have hnb14:=NB160_161.out;have hnc14:=NB161_160.out;have hcz15_0 : w13.cell? ⟨gb160,0,none⟩=some (.string a1_0):=(blk_cell BK160.out 0).trans rfl;have hcz15_1 : w13.cell? ⟨gb160,1,none⟩=some (.int .u32 a1_1):=(blk_cell BK160.out 1).trans rfl;have hcz15_2 : w13.cell? ⟨gb160,2,none⟩=some (.int .i64 a1_2):=(blk_cell BK160.out 2).trans rfl;have hcz15_3 : w13.cell? ⟨gb160,3,none⟩=some (.bool a1_3):=(blk_cell BK160.out 3).trans rfl;have hfz15_0:=blk_frozen BK160.out 0;have hfz15_1:=blk_frozen BK160.out 1;have hfz15_2:=blk_frozen BK160.out 2;have hfz15_3:=blk_frozen BK160.out 3;obtain ⟨Ao16,co16,eo16⟩:=Kd.R_slice HO164.out;subst eo16)|((with_reducible refine gate_callee (f:=18) rfl ?_);refine goesL_ (some 23) rfl rfl Try.func18 (by kernel_rfl) rfl #[.slice Ao16 t162.length co16,.agg #[.string a1_0,.int .u32 a1_1,.int .i64 a1_2]] rfl (by (try simp only [List.map_toArray,List.map_cons,List.map_nil]);first|done|rfl|(simp only [List.length_drop,List.length_take];rfl)) ?_;(with_reducible refine (node_Find.calls _ _ t162 a1_0 a1_1 a1_2 t166 true _ ?side1 ?side2 A5.out).mono ?_);(case side1=>repeat (first|exact (Kd.R_reads' HO164.out).2.2|(with_reducible refine Kd.C_alloc ?_ _)|(with_reducible refine Kd.C_drewN ?_ _)|(with_reducible refine Kd.C_drew ?_)));(case side2=>exact (Kd.R_reads' HO164.out).2.1);rintro e w17 ⟨rfl,hb⟩;refine ⟨_,rfl,?_⟩;have n0_:=Aside0.mk (Kd.R_below (by (with_reducible repeat (first|apply Kd.R_alloc|apply Kd.R_drewN|apply Kd.R_drew));exact HO164.out) hb);have n1_:=Aside0.mk (blk_below (g:=gb159) (o:=.cells #[.int .u32 a0_0,.int .u64 a0_1,.int .i64 a0_2,.string a0_3,.slice A0_4 l0_4.length c0_4] 28 (0,0)) (by (with_reducible repeat (first|refine blk_drewN ?_ _|refine blk_drew ?_|refine blk_alloc ?_ _));exact BK159.out) hb);have n2_:=Aside0.mk (blk_below (g:=gb160) (o:=.cells #[.string a1_0,.int .u32 a1_1,.int .i64 a1_2,.bool a1_3] 47 (0,0)) (by (with_reducible repeat (first|refine blk_drewN ?_ _|refine blk_drew ?_|refine blk_alloc ?_ _));exact BK160.out) hb);have n3_:=Aside0.mk (blk_below (g:=gb161) (o:=.cells #[.int .i64 0,.int .i64 0,.string (⟨#[]⟩ : ByteArray),.string (⟨#[]⟩ : ByteArray)] 38 (0,0)) (by (with_reducible repeat (first|refine blk_drewN ?_ _|refine blk_drew ?_|refine blk_alloc ?_ _));exact BK161.out) hb);have n4_:=Aside0.mk (below_step (by repeat (first|(with_reducible first|exact HB.out|apply below_alloc|apply pw_below_drewN|apply below_drew1|refine below_set ?_ GE159.out|refine below_set ?_ GE160.out|refine below_set ?_ GE161.out)|exact HB.out)) hb);clear HO164;clear BK159;clear BK160;clear BK161;clear HB;have HO164:=n0_;have BK159:=n1_;have BK160:=n2_;have BK161:=n3_;have HB:=n4_;clear n0_ n1_ n2_ n3_ n4_;(try clear hb);(try clear hb2);(try clear hk);(try clear hi);have hcz18_0 : w17.cell? ⟨gb161,0,none⟩=some (.int .i64 0):=(blk_cell BK161.out 0).trans rfl;have hcz18_1 : w17.cell? ⟨gb161,1,none⟩=some (.int .i64 0):=(blk_cell BK161.out 1).trans rfl;have hcz18_2 : w17.cell? ⟨gb161,2,none⟩=some (.string (⟨#[]⟩ : ByteArray)):=(blk_cell BK161.out 2).trans rfl;have hcz18_3 : w17.cell? ⟨gb161,3,none⟩=some (.string (⟨#[]⟩ : ByteArray)):=(blk_cell BK161.out 3).trans rfl;have hfz18_0:=blk_frozen BK161.out 0;have hfz18_1:=blk_frozen BK161.out 1;have hfz18_2:=blk_frozen BK161.out 2;have hfz18_3:=blk_frozen BK161.out 3))
   refine bodyPost_ret (results_ct rfl _ _ gb161 38 #[.int .i64 0,.int .i64 0,.string (⟨#[]⟩ : ByteArray),.string (⟨#[]⟩ : ByteArray)] (0,0) _ rfl (by (with_reducible repeat (first|refine blk_drewN ?_ _|refine blk_drew ?_|refine blk_alloc ?_ _));refine blk_put (cs:=#[.int .i64 0,.int .i64 0,.string (⟨#[]⟩ : ByteArray),.string (⟨#[]⟩ : ByteArray)]) ?_ 3 _ rfl;(with_reducible repeat (first|refine blk_drewN ?_ _|refine blk_drew ?_|refine blk_alloc ?_ _));refine blk_put (cs:=#[.int .i64 0,.int .i64 0,.string (⟨#[]⟩ : ByteArray),.string (⟨#[]⟩ : ByteArray)]) ?_ 2 _ rfl;(with_reducible repeat (first|refine blk_drewN ?_ _|refine blk_drew ?_|refine blk_alloc ?_ _));refine blk_put (cs:=#[.int .i64 0,.int .i64 0,.string (⟨#[]⟩ : ByteArray),.string (⟨#[]⟩ : ByteArray)]) ?_ 1 _ rfl;(with_reducible repeat (first|refine blk_drewN ?_ _|refine blk_drew ?_|refine blk_alloc ?_ _));refine blk_put (cs:=#[.int .i64 0,.int .i64 0,.string (⟨#[]⟩ : ByteArray),.string (⟨#[]⟩ : ByteArray)]) ?_ 0 _ rfl;(with_reducible repeat (first|refine blk_drewN ?_ _|refine blk_drew ?_|refine blk_alloc ?_ _));exact BK161.out) Try.underlying38 rfl (by kernel_rfl)) rfl ?_
   exact ⟨by first|rfl|(simp [errW_none,errW_some] <;> rfl)|(simp [*,errW_none,errW_some] <;> rfl),by repeat (first|(with_reducible first|exact HB.out|apply below_alloc|apply pw_below_drewN|apply below_drew1|refine below_set ?_ GE159.out|refine below_set ?_ GE160.out|refine below_set ?_ GE161.out)|exact HB.out)⟩
  ·replace c6:=Bool.eq_false_iff.mpr c6
   subst c6
   have H1 : ((node_leafSlot.f a1_0 a1_1 a1_2 a1_3).bind fun t168=>(some (2,t166,t168,(⟨#[]⟩ : ByteArray),0)))=some (r1,r2,r3,r4,r5):=by rw [if_neg (show ¬ (false=true) by decide)] at H;exact H
   clear H
   have H:=H1
   clear H1
   replace H:=Option.bind_eq_some_iff.mp H
   obtain ⟨t168,A190,H⟩:=H
   replace H : (some (2,t166,t168,(⟨#[]⟩ : ByteArray),0))=some (r1,r2,r3,r4,r5):=H
   have A19:=Aside0.mk A190
   clear A190
   simp only [Option.some.injEq,Prod.mk.injEq] at H
   obtain ⟨rfl,rfl,rfl,rfl,rfl⟩:=H
   go_enter Try.func14,Try.ntmps14
   go_wp2_with (first|((with_reducible refine gate_dst (N:=2) rfl ?_);refine box_event ?hg (N:=2) ?hd (cs:=#[.int .u32 a0_0,.int .u64 a0_1,.int .i64 a0_2,.string a0_3,.slice A0_4 l0_4.length c0_4]) (t:=28) ?hr ?_;(case hd=>rfl);(case hg=>rfl);(case hr=>first|(go_simp;done)|(go_simp;rfl));intro gb159 hg w20 hbox hb;have n0_:=Aside0.mk (below_step (by repeat (first|(with_reducible first|exact HB.out|apply below_alloc|apply pw_below_drewN|apply below_drew1)|exact HB.out)) hb);have n1_:=Aside0.mk (hbox);have n2_:=Aside0.mk ((by rw [hg];exact (below_size (by repeat (first|(with_reducible first|exact HB.out|apply below_alloc|apply pw_below_drewN|apply below_drew1)|exact HB.out))) : w.heap.size≤gb159));have n3_:=Aside0.mk ((by rw [hg];exact (below_size (by repeat (first|(with_reducible first|exact HB.out|apply below_alloc|apply pw_below_drewN|apply below_drew1)|exact HB.out))) : w.heap.size≤gb159));clear HB;have HB:=n0_;have BK159:=n1_;have GW159:=n2_;have GE159:=n3_;clear n0_ n1_ n2_ n3_;clear hb hbox hg)|((with_reducible refine gate_dst (N:=3) rfl ?_);refine box_event ?hg (N:=3) ?hd (cs:=#[.string a1_0,.int .u32 a1_1,.int .i64 a1_2,.bool a1_3]) (t:=47) ?hr ?_;(case hd=>rfl);(case hg=>rfl);(case hr=>first|(go_simp;done)|(go_simp;rfl));intro gb160 hg w21 hbox hb;have n0_:=Aside0.mk (blk_below (g:=gb159) (o:=.cells #[.int .u32 a0_0,.int .u64 a0_1,.int .i64 a0_2,.string a0_3,.slice A0_4 l0_4.length c0_4] 28 (0,0)) (by (with_reducible repeat (first|refine blk_drewN ?_ _|refine blk_drew ?_|refine blk_alloc ?_ _));exact BK159.out) hb);have n1_:=Aside0.mk (below_step (by repeat (first|(with_reducible first|exact HB.out|apply below_alloc|apply pw_below_drewN|apply below_drew1|refine below_set ?_ GE159.out)|exact HB.out)) hb);have n2_:=Aside0.mk (hbox);have n3_:=Aside0.mk ((by rw [hg];exact (below_size (by repeat (first|(with_reducible first|exact HB.out|apply below_alloc|apply pw_below_drewN|apply below_drew1|refine below_set ?_ GE159.out)|exact HB.out))) : w.heap.size≤gb160));have n4_:=Aside0.mk ((by rw [hg];exact (below_size (by repeat (first|(with_reducible first|exact HB.out|apply below_alloc|apply pw_below_drewN|apply below_drew1|refine below_set ?_ GE159.out)|exact HB.out))) : w.heap.size≤gb160));have n5_:=Aside0.mk ((by rw [hg];exact Nat.ne_of_lt (blk_lt (g:=gb159) (o:=.cells #[.int .u32 a0_0,.int .u64 a0_1,.int .i64 a0_2,.string a0_3,.slice A0_4 l0_4.length c0_4] 28 (0,0)) (by (with_reducible repeat (first|refine blk_drewN ?_ _|refine blk_drew ?_|refine blk_alloc ?_ _));exact BK159.out)) : gb159≠gb160));have n6_:=Aside0.mk ((by rw [hg];exact Nat.ne_of_gt (blk_lt (g:=gb159) (o:=.cells #[.int .u32 a0_0,.int .u64 a0_1,.int .i64 a0_2,.string a0_3,.slice A0_4 l0_4.length c0_4] 28 (0,0)) (by (with_reducible repeat (first|refine blk_drewN ?_ _|refine blk_drew ?_|refine blk_alloc ?_ _));exact BK159.out)) : gb160≠gb159));clear BK159;clear HB;have BK159:=n0_;have HB:=n1_;have BK160:=n2_;have GW160:=n3_;have GE160:=n4_;have NB159_160:=n5_;have NB160_159:=n6_;clear n0_ n1_ n2_ n3_ n4_ n5_ n6_;clear hb hbox hg)|((with_reducible refine gate_dst (N:=4) rfl ?_);refine box_event ?hg (N:=4) ?hd (cs:=#[.int .i64 0,.int .i64 0,.string (⟨#[]⟩ : ByteArray),.string (⟨#[]⟩ : ByteArray)]) (t:=38) ?hr ?_;(case hd=>rfl);(case hg=>rfl);(case hr=>first|(go_simp;done)|(go_simp;rfl));intro gb161 hg w22 hbox hb;have n0_:=Aside0.mk (blk_below (g:=gb159) (o:=.cells #[.int .u32 a0_0,.int .u64 a0_1,.int .i64 a0_2,.string a0_3,.slice A0_4 l0_4.length c0_4] 28 (0,0)) (by (with_reducible repeat (first|refine blk_drewN ?_ _|refine blk_drew ?_|refine blk_alloc ?_ _));exact BK159.out) hb);have n1_:=Aside0.mk (blk_below (g:=gb160) (o:=.cells #[.string a1_0,.int .u32 a1_1,.int .i64 a1_2,.bool a1_3] 47 (0,0)) (by (with_reducible repeat (first|refine blk_drewN ?_ _|refine blk_drew ?_|refine blk_alloc ?_ _));exact BK160.out) hb);have n2_:=Aside0.mk (below_step (by repeat (first|(with_reducible first|exact HB.out|apply below_alloc|apply pw_below_drewN|apply below_drew1|refine below_set ?_ GE159.out|refine below_set ?_ GE160.out)|exact HB.out)) hb);have n3_:=Aside0.mk (hbox);have n4_:=Aside0.mk ((by rw [hg];exact (below_size (by repeat (first|(with_reducible first|exact HB.out|apply below_alloc|apply pw_below_drewN|apply below_drew1|refine below_set ?_ GE159.out|refine below_set ?_ GE160.out)|exact HB.out))) : w.heap.size≤gb161));have n5_:=Aside0.mk ((by rw [hg];exact (below_size (by repeat (first|(with_reducible first|exact HB.out|apply below_alloc|apply pw_below_drewN|apply below_drew1|refine below_set ?_ GE159.out|refine below_set ?_ GE160.out)|exact HB.out))) : w.heap.size≤gb161));have n6_:=Aside0.mk ((by rw [hg];exact Nat.ne_of_lt (blk_lt (g:=gb159) (o:=.cells #[.int .u32 a0_0,.int .u64 a0_1,.int .i64 a0_2,.string a0_3,.slice A0_4 l0_4.length c0_4] 28 (0,0)) (by (with_reducible repeat (first|refine blk_drewN ?_ _|refine blk_drew ?_|refine blk_alloc ?_ _));exact BK159.out)) : gb159≠gb161));have n7_:=Aside0.mk ((by rw [hg];exact Nat.ne_of_gt (blk_lt (g:=gb159) (o:=.cells #[.int .u32 a0_0,.int .u64 a0_1,.int .i64 a0_2,.string a0_3,.slice A0_4 l0_4.length c0_4] 28 (0,0)) (by (with_reducible repeat (first|refine blk_drewN ?_ _|refine blk_drew ?_|refine blk_alloc ?_ _));exact BK159.out)) : gb161≠gb159));have n8_:=Aside0.mk ((by rw [hg];exact Nat.ne_of_lt (blk_lt (g:=gb160) (o:=.cells #[.string a1_0,.int .u32 a1_1,.int .i64 a1_2,.bool a1_3] 47 (0,0)) (by (with_reducible repeat (first|refine blk_drewN ?_ _|refine blk_drew ?_|refine blk_alloc ?_ _));exact BK160.out)) : gb160≠gb161));have n9_:=Aside0.mk ((by rw [hg];exact Nat.ne_of_gt (blk_lt (g:=gb160) (o:=.cells #[.string a1_0,.int .u32 a1_1,.int .i64 a1_2,.bool a1_3] 47 (0,0)) (by (with_reducible repeat (first|refine blk_drewN ?_ _|refine blk_drew ?_|refine blk_alloc ?_ _));exact BK160.out)) : gb161≠gb160));clear BK159;clear BK160;clear HB;have BK159:=n0_;have BK160:=n1_;have HB:=n2_;have BK161:=n3_;have GW161:=n4_;have GE161:=n5_;have NB159_161:=n6_;have NB161_159:=n7_;have NB160_161:=n8_;have NB161_160:=n9_;clear n0_ n1_ n2_ n3_ n4_ n5_ n6_ n7_ n8_ n9_;clear hb hbox hg;have hnb23:=NB159_160.out;have hnc23:=NB160_159.out;have hnb24:=NB159_161.out;have hnc24:=NB161_159.out;have hcz25_0 : w22.cell? ⟨gb159,0,none⟩=some (.int .u32 a0_0):=(blk_cell BK159.out 0).trans rfl;have hcz25_1 : w22.cell? ⟨gb159,1,none⟩=some (.int .u64 a0_1):=(blk_cell BK159.out 1).trans rfl;have hcz25_2 : w22.cell? ⟨gb159,2,none⟩=some (.int .i64 a0_2):=(blk_cell BK159.out 2).trans rfl;have hcz25_3 : w22.cell? ⟨gb159,3,none⟩=some (.string a0_3):=(blk_cell BK159.out 3).trans rfl;have hcz25_4 : w22.cell? ⟨gb159,4,none⟩=some (.slice A0_4 l0_4.length c0_4):=(blk_cell BK159.out 4).trans rfl;have hfz25_0:=blk_frozen BK159.out 0;have hfz25_1:=blk_frozen BK159.out 1;have hfz25_2:=blk_frozen BK159.out 2;have hfz25_3:=blk_frozen BK159.out 3;have hfz25_4:=blk_frozen BK159.out 4)|((with_reducible refine gate_callee (f:=31) rfl ?_);refine goesL_ (some 12) rfl rfl Try.func31 (by kernel_rfl) rfl #[.agg #[.int .u32 a0_0,.int .u64 a0_1,.int .i64 a0_2,.string a0_3,.slice A0_4 l0_4.length c0_4]] rfl (by (try simp only [List.map_toArray,List.map_cons,List.map_nil]);first|done|rfl|(simp only [List.length_drop,List.length_take];rfl)) ?_;(with_reducible refine (node_Leaf.calls k a0_0 a0_1 a0_2 a0_3 _ _ l0_4 t162 t165 _ ?side1 ?side2 A3.out).mono ?_);(case side1=>repeat (first|exact (Kd.C_below HR0_4.out HB.out)|(with_reducible refine Kd.C_alloc ?_ _)|(with_reducible refine Kd.C_drewN ?_ _)|(with_reducible refine Kd.C_drew ?_)));(case side2=>exact HC0_4.out);rintro e w26 ⟨v163,rfl,ho0,hb⟩;refine ⟨_,rfl,?_⟩;have n0_:=Aside0.mk (Kd.R_lower (Kd.R_newB ho0 (g:=gb160) (o:=.cells #[.string a1_0,.int .u32 a1_1,.int .i64 a1_2,.bool a1_3] 47 (0,0)) (by (with_reducible repeat (first|refine blk_drewN ?_ _|refine blk_drew ?_|refine blk_alloc ?_ _));exact BK160.out)) (below_size (by repeat (first|(with_reducible first|exact HB.out|apply below_alloc|apply pw_below_drewN|apply below_drew1|refine below_set ?_ GE159.out|refine below_set ?_ GE160.out|refine below_set ?_ GE161.out)|exact HB.out))));have n1_:=Aside0.mk (blk_below (g:=gb159) (o:=.cells #[.int .u32 a0_0,.int .u64 a0_1,.int .i64 a0_2,.string a0_3,.slice A0_4 l0_4.length c0_4] 28 (0,0)) (by (with_reducible repeat (first|refine blk_drewN ?_ _|refine blk_drew ?_|refine blk_alloc ?_ _));exact BK159.out) hb);have n2_:=Aside0.mk (blk_below (g:=gb160) (o:=.cells #[.string a1_0,.int .u32 a1_1,.int .i64 a1_2,.bool a1_3] 47 (0,0)) (by (with_reducible repeat (first|refine blk_drewN ?_ _|refine blk_drew ?_|refine blk_alloc ?_ _));exact BK160.out) hb);have n3_:=Aside0.mk (blk_below (g:=gb161) (o:=.cells #[.int .i64 0,.int .i64 0,.string (⟨#[]⟩ : ByteArray),.string (⟨#[]⟩ : ByteArray)] 38 (0,0)) (by (with_reducible repeat (first|refine blk_drewN ?_ _|refine blk_drew ?_|refine blk_alloc ?_ _));exact BK161.out) hb);have n4_:=Aside0.mk (below_step (by repeat (first|(with_reducible first|exact HB.out|apply below_alloc|apply pw_below_drewN|apply below_drew1|refine below_set ?_ GE159.out|refine below_set ?_ GE160.out|refine below_set ?_ GE161.out)|exact HB.out)) hb);clear BK159;clear BK160;clear BK161;clear HB;have HO164:=n0_;have BK159:=n1_;have BK160:=n2_;have BK161:=n3_;have HB:=n4_;clear n0_ n1_ n2_ n3_ n4_;(try clear hb);(try clear hb2);(try clear hk);(try clear hi);(try clear ho0);have hnb27:=NB160_161.out;have hnc27:=NB161_160.out;have hcz28_0 : w26.cell? ⟨gb160,0,none⟩=some (.string a1_0):=(blk_cell BK160.out 0).trans rfl;have hcz28_1 : w26.cell? ⟨gb160,1,none⟩=some (.int .u32 a1_1):=(blk_cell BK160.out 1).trans rfl;have hcz28_2 : w26.cell? ⟨gb160,2,none⟩=some (.int .i64 a1_2):=(blk_cell BK160.out 2).trans rfl;have hcz28_3 : w26.cell? ⟨gb160,3,none⟩=some (.bool a1_3):=(blk_cell BK160.out 3).trans rfl;have hfz28_0:=blk_frozen BK160.out 0;have hfz28_1:=blk_frozen BK160.out 1;have hfz28_2:=blk_frozen BK160.out 2;have hfz28_3:=blk_frozen BK160.out 3;obtain ⟨Ao29,co29,eo29⟩:=Kd.R_slice HO164.out;subst eo29)|((with_reducible refine gate_callee (f:=18) rfl ?_);refine goesL_ (some 23) rfl rfl Try.func18 (by kernel_rfl) rfl #[.slice Ao29 t162.length co29,.agg #[.string a1_0,.int .u32 a1_1,.int .i64 a1_2]] rfl (by (try simp only [List.map_toArray,List.map_cons,List.map_nil]);first|done|rfl|(simp only [List.length_drop,List.length_take];rfl)) ?_;(with_reducible refine (node_Find.calls _ _ t162 a1_0 a1_1 a1_2 t166 false _ ?side1 ?side2 A5.out).mono ?_);(case side1=>repeat (first|exact (Kd.R_reads' HO164.out).2.2|(with_reducible refine Kd.C_alloc ?_ _)|(with_reducible refine Kd.C_drewN ?_ _)|(with_reducible refine Kd.C_drew ?_)));(case side2=>exact (Kd.R_reads' HO164.out).2.1);rintro e w30 ⟨rfl,hb⟩;refine ⟨_,rfl,?_⟩;have n0_:=Aside0.mk (Kd.R_below (by (with_reducible repeat (first|apply Kd.R_alloc|apply Kd.R_drewN|apply Kd.R_drew));exact HO164.out) hb);have n1_:=Aside0.mk (blk_below (g:=gb159) (o:=.cells #[.int .u32 a0_0,.int .u64 a0_1,.int .i64 a0_2,.string a0_3,.slice A0_4 l0_4.length c0_4] 28 (0,0)) (by (with_reducible repeat (first|refine blk_drewN ?_ _|refine blk_drew ?_|refine blk_alloc ?_ _));exact BK159.out) hb);have n2_:=Aside0.mk (blk_below (g:=gb160) (o:=.cells #[.string a1_0,.int .u32 a1_1,.int .i64 a1_2,.bool a1_3] 47 (0,0)) (by (with_reducible repeat (first|refine blk_drewN ?_ _|refine blk_drew ?_|refine blk_alloc ?_ _));exact BK160.out) hb);have n3_:=Aside0.mk (blk_below (g:=gb161) (o:=.cells #[.int .i64 0,.int .i64 0,.string (⟨#[]⟩ : ByteArray),.string (⟨#[]⟩ : ByteArray)] 38 (0,0)) (by (with_reducible repeat (first|refine blk_drewN ?_ _|refine blk_drew ?_|refine blk_alloc ?_ _));exact BK161.out) hb);have n4_:=Aside0.mk (below_step (by repeat (first|(with_reducible first|exact HB.out|apply below_alloc|apply pw_below_drewN|apply below_drew1|refine below_set ?_ GE159.out|refine below_set ?_ GE160.out|refine below_set ?_ GE161.out)|exact HB.out)) hb);clear HO164;clear BK159;clear BK160;clear BK161;clear HB;have HO164:=n0_;have BK159:=n1_;have BK160:=n2_;have BK161:=n3_;have HB:=n4_;clear n0_ n1_ n2_ n3_ n4_;(try clear hb);(try clear hb2);(try clear hk);(try clear hi);have hcz31_0 : w30.cell? ⟨gb160,0,none⟩=some (.string a1_0):=(blk_cell BK160.out 0).trans rfl;have hcz31_1 : w30.cell? ⟨gb160,1,none⟩=some (.int .u32 a1_1):=(blk_cell BK160.out 1).trans rfl;have hcz31_2 : w30.cell? ⟨gb160,2,none⟩=some (.int .i64 a1_2):=(blk_cell BK160.out 2).trans rfl;have hcz31_3 : w30.cell? ⟨gb160,3,none⟩=some (.bool a1_3):=(blk_cell BK160.out 3).trans rfl;have hfz31_0:=blk_frozen BK160.out 0;have hfz31_1:=blk_frozen BK160.out 1;have hfz31_2:=blk_frozen BK160.out 2;have hfz31_3:=blk_frozen BK160.out 3)|((with_reducible refine gate_callee (f:=38) rfl ?_);refine goesL_ (some 30) rfl rfl Try.func38 (by kernel_rfl) rfl #[.agg #[.string a1_0,.int .u32 a1_1,.int .i64 a1_2,.bool a1_3]] rfl (by (try simp only [List.map_toArray,List.map_cons,List.map_nil]);first|done|rfl|(simp only [List.length_drop,List.length_take];rfl)) ?_;(with_reducible refine (node_leafSlot.calls a1_0 a1_1 a1_2 a1_3 t168 _ A19.out).mono ?_);rintro e w32 ⟨rfl,hb⟩;refine ⟨_,rfl,?_⟩;have n0_:=Aside0.mk (Kd.R_below (by (with_reducible repeat (first|apply Kd.R_alloc|apply Kd.R_drewN|apply Kd.R_drew));exact HO164.out) hb);have n1_:=Aside0.mk (blk_below (g:=gb159) (o:=.cells #[.int .u32 a0_0,.int .u64 a0_1,.int .i64 a0_2,.string a0_3,.slice A0_4 l0_4.length c0_4] 28 (0,0)) (by (with_reducible repeat (first|refine blk_drewN ?_ _|refine blk_drew ?_|refine blk_alloc ?_ _));exact BK159.out) hb);have n2_:=Aside0.mk (blk_below (g:=gb160) (o:=.cells #[.string a1_0,.int .u32 a1_1,.int .i64 a1_2,.bool a1_3] 47 (0,0)) (by (with_reducible repeat (first|refine blk_drewN ?_ _|refine blk_drew ?_|refine blk_alloc ?_ _));exact BK160.out) hb);have n3_:=Aside0.mk (blk_below (g:=gb161) (o:=.cells #[.int .i64 0,.int .i64 0,.string (⟨#[]⟩ : ByteArray),.string (⟨#[]⟩ : ByteArray)] 38 (0,0)) (by (with_reducible repeat (first|refine blk_drewN ?_ _|refine blk_drew ?_|refine blk_alloc ?_ _));exact BK161.out) hb);have n4_:=Aside0.mk (below_step (by repeat (first|(with_reducible first|exact HB.out|apply below_alloc|apply pw_below_drewN|apply below_drew1|refine below_set ?_ GE159.out|refine below_set ?_ GE160.out|refine below_set ?_ GE161.out)|exact HB.out)) hb);clear HO164;clear BK159;clear BK160;clear BK161;clear HB;have HO164:=n0_;have BK159:=n1_;have BK160:=n2_;have BK161:=n3_;have HB:=n4_;clear n0_ n1_ n2_ n3_ n4_;(try clear hb);(try clear hb2);(try clear hk);(try clear hi);have hcz33_0 : w32.cell? ⟨gb161,0,none⟩=some (.int .i64 0):=(blk_cell BK161.out 0).trans rfl;have hcz33_1 : w32.cell? ⟨gb161,1,none⟩=some (.int .i64 0):=(blk_cell BK161.out 1).trans rfl;have hcz33_2 : w32.cell? ⟨gb161,2,none⟩=some (.string (⟨#[]⟩ : ByteArray)):=(blk_cell BK161.out 2).trans rfl;have hcz33_3 : w32.cell? ⟨gb161,3,none⟩=some (.string (⟨#[]⟩ : ByteArray)):=(blk_cell BK161.out 3).trans rfl;have hfz33_0:=blk_frozen BK161.out 0;have hfz33_1:=blk_frozen BK161.out 1;have hfz33_2:=blk_frozen BK161.out 2;have hfz33_3:=blk_frozen BK161.out 3))
   refine bodyPost_ret (results_ct rfl _ _ gb161 38 #[.int .i64 2,.int .i64 t166,.string t168,.string (⟨#[]⟩ : ByteArray)] (0,0) _ rfl (by (with_reducible repeat (first|refine blk_drewN ?_ _|refine blk_drew ?_|refine blk_alloc ?_ _));refine blk_put (cs:=#[.int .i64 2,.int .i64 t166,.string t168,.string (⟨#[]⟩ : ByteArray)]) ?_ 3 _ rfl;(with_reducible repeat (first|refine blk_drewN ?_ _|refine blk_drew ?_|refine blk_alloc ?_ _));refine blk_put (cs:=#[.int .i64 2,.int .i64 t166,.string (⟨#[]⟩ : ByteArray),.string (⟨#[]⟩ : ByteArray)]) ?_ 2 _ rfl;(with_reducible repeat (first|refine blk_drewN ?_ _|refine blk_drew ?_|refine blk_alloc ?_ _));refine blk_put (cs:=#[.int .i64 2,.int .i64 0,.string (⟨#[]⟩ : ByteArray),.string (⟨#[]⟩ : ByteArray)]) ?_ 1 _ rfl;(with_reducible repeat (first|refine blk_drewN ?_ _|refine blk_drew ?_|refine blk_alloc ?_ _));refine blk_put (cs:=#[.int .i64 0,.int .i64 0,.string (⟨#[]⟩ : ByteArray),.string (⟨#[]⟩ : ByteArray)]) ?_ 0 _ rfl;(with_reducible repeat (first|refine blk_drewN ?_ _|refine blk_drew ?_|refine blk_alloc ?_ _));exact BK161.out) Try.underlying38 rfl (by kernel_rfl)) rfl ?_
   exact ⟨by first|rfl|(simp [errW_none,errW_some] <;> rfl)|(simp [*,errW_none,errW_some] <;> rfl),by repeat (first|(with_reducible first|exact HB.out|apply below_alloc|apply pw_below_drewN|apply below_drew1|refine below_set ?_ GE159.out|refine below_set ?_ GE160.out|refine below_set ?_ GE161.out)|exact HB.out)⟩
 ·rw [if_neg c4] at H
  have c4b0 : (t165 == 0)=false:=beq_eq_false_iff_ne.mpr c4
  have c4b1 : (t165 != 0)=true:=bne_iff_ne.mpr c4
  simp only [Option.some.injEq,Prod.mk.injEq] at H
  obtain ⟨rfl,rfl,rfl,rfl,rfl⟩:=H
  go_enter Try.func14,Try.ntmps14
  go_wp2_with (first|((with_reducible refine gate_dst (N:=2) rfl ?_);refine box_event ?hg (N:=2) ?hd (cs:=#[.int .u32 a0_0,.int .u64 a0_1,.int .i64 a0_2,.string a0_3,.slice A0_4 l0_4.length c0_4]) (t:=28) ?hr ?_;(case hd=>rfl);(case hg=>rfl);(case hr=>first|(go_simp;done)|(go_simp;rfl));intro gb159 hg w34 hbox hb;have n0_:=Aside0.mk (below_step (by repeat (first|(with_reducible first|exact HB.out|apply below_alloc|apply pw_below_drewN|apply below_drew1)|exact HB.out)) hb);have n1_:=Aside0.mk (hbox);have n2_:=Aside0.mk ((by rw [hg];exact (below_size (by repeat (first|(with_reducible first|exact HB.out|apply below_alloc|apply pw_below_drewN|apply below_drew1)|exact HB.out))) : w.heap.size≤gb159));have n3_:=Aside0.mk ((by rw [hg];exact (below_size (by repeat (first|(with_reducible first|exact HB.out|apply below_alloc|apply pw_below_drewN|apply below_drew1)|exact HB.out))) : w.heap.size≤gb159));clear HB;have HB:=n0_;have BK159:=n1_;have GW159:=n2_;have GE159:=n3_;clear n0_ n1_ n2_ n3_;clear hb hbox hg)|((with_reducible refine gate_dst (N:=3) rfl ?_);refine box_event ?hg (N:=3) ?hd (cs:=#[.string a1_0,.int .u32 a1_1,.int .i64 a1_2,.bool a1_3]) (t:=47) ?hr ?_;(case hd=>rfl);(case hg=>rfl);(case hr=>first|(go_simp;done)|(go_simp;rfl));intro gb160 hg w35 hbox hb;have n0_:=Aside0.mk (blk_below (g:=gb159) (o:=.cells #[.int .u32 a0_0,.int .u64 a0_1,.int .i64 a0_2,.string a0_3,.slice A0_4 l0_4.length c0_4] 28 (0,0)) (by (with_reducible repeat (first|refine blk_drewN ?_ _|refine blk_drew ?_|refine blk_alloc ?_ _));exact BK159.out) hb);have n1_:=Aside0.mk (below_step (by repeat (first|(with_reducible first|exact HB.out|apply below_alloc|apply pw_below_drewN|apply below_drew1|refine below_set ?_ GE159.out)|exact HB.out)) hb);have n2_:=Aside0.mk (hbox);have n3_:=Aside0.mk ((by rw [hg];exact (below_size (by repeat (first|(with_reducible first|exact HB.out|apply below_alloc|apply pw_below_drewN|apply below_drew1|refine below_set ?_ GE159.out)|exact HB.out))) : w.heap.size≤gb160));have n4_:=Aside0.mk ((by rw [hg];exact (below_size (by repeat (first|(with_reducible first|exact HB.out|apply below_alloc|apply pw_below_drewN|apply below_drew1|refine below_set ?_ GE159.out)|exact HB.out))) : w.heap.size≤gb160));have n5_:=Aside0.mk ((by rw [hg];exact Nat.ne_of_lt (blk_lt (g:=gb159) (o:=.cells #[.int .u32 a0_0,.int .u64 a0_1,.int .i64 a0_2,.string a0_3,.slice A0_4 l0_4.length c0_4] 28 (0,0)) (by (with_reducible repeat (first|refine blk_drewN ?_ _|refine blk_drew ?_|refine blk_alloc ?_ _));exact BK159.out)) : gb159≠gb160));have n6_:=Aside0.mk ((by rw [hg];exact Nat.ne_of_gt (blk_lt (g:=gb159) (o:=.cells #[.int .u32 a0_0,.int .u64 a0_1,.int .i64 a0_2,.string a0_3,.slice A0_4 l0_4.length c0_4] 28 (0,0)) (by (with_reducible repeat (first|refine blk_drewN ?_ _|refine blk_drew ?_|refine blk_alloc ?_ _));exact BK159.out)) : gb160≠gb159));clear BK159;clear HB;have BK159:=n0_;have HB:=n1_;have BK160:=n2_;have GW160:=n3_;have GE160:=n4_;have NB159_160:=n5_;have NB160_159:=n6_;clear n0_ n1_ n2_ n3_ n4_ n5_ n6_;clear hb hbox hg)|((with_reducible refine gate_dst (N:=4) rfl ?_);refine box_event ?hg (N:=4) ?hd (cs:=#[.int .i64 0,.int .i64 0,.string (⟨#[]⟩ : ByteArray),.string (⟨#[]⟩ : ByteArray)]) (t:=38) ?hr ?_;(case hd=>rfl);(case hg=>rfl);(case hr=>first|(go_simp;done)|(go_simp;rfl));intro gb161 hg w36 hbox hb;have n0_:=Aside0.mk (blk_below (g:=gb159) (o:=.cells #[.int .u32 a0_0,.int .u64 a0_1,.int .i64 a0_2,.string a0_3,.slice A0_4 l0_4.length c0_4] 28 (0,0)) (by (with_reducible repeat (first|refine blk_drewN ?_ _|refine blk_drew ?_|refine blk_alloc ?_ _));exact BK159.out) hb);have n1_:=Aside0.mk (blk_below (g:=gb160) (o:=.cells #[.string a1_0,.int .u32 a1_1,.int .i64 a1_2,.bool a1_3] 47 (0,0)) (by (with_reducible repeat (first|refine blk_drewN ?_ _|refine blk_drew ?_|refine blk_alloc ?_ _));exact BK160.out) hb);have n2_:=Aside0.mk (below_step (by repeat (first|(with_reducible first|exact HB.out|apply below_alloc|apply pw_below_drewN|apply below_drew1|refine below_set ?_ GE159.out|refine below_set ?_ GE160.out)|exact HB.out)) hb);have n3_:=Aside0.mk (hbox);have n4_:=Aside0.mk ((by rw [hg];exact (below_size (by repeat (first|(with_reducible first|exact HB.out|apply below_alloc|apply pw_below_drewN|apply below_drew1|refine below_set ?_ GE159.out|refine below_set ?_ GE160.out)|exact HB.out))) : w.heap.size≤gb161));have n5_:=Aside0.mk ((by rw [hg];exact (below_size (by repeat (first|(with_reducible first|exact HB.out|apply below_alloc|apply pw_below_drewN|apply below_drew1|refine below_set ?_ GE159.out|refine below_set ?_ GE160.out)|exact HB.out))) : w.heap.size≤gb161));have n6_:=Aside0.mk ((by rw [hg];exact Nat.ne_of_lt (blk_lt (g:=gb159) (o:=.cells #[.int .u32 a0_0,.int .u64 a0_1,.int .i64 a0_2,.string a0_3,.slice A0_4 l0_4.length c0_4] 28 (0,0)) (by (with_reducible repeat (first|refine blk_drewN ?_ _|refine blk_drew ?_|refine blk_alloc ?_ _));exact BK159.out)) : gb159≠gb161));have n7_:=Aside0.mk ((by rw [hg];exact Nat.ne_of_gt (blk_lt (g:=gb159) (o:=.cells #[.int .u32 a0_0,.int .u64 a0_1,.int .i64 a0_2,.string a0_3,.slice A0_4 l0_4.length c0_4] 28 (0,0)) (by (with_reducible repeat (first|refine blk_drewN ?_ _|refine blk_drew ?_|refine blk_alloc ?_ _));exact BK159.out)) : gb161≠gb159));have n8_:=Aside0.mk ((by rw [hg];exact Nat.ne_of_lt (blk_lt (g:=gb160) (o:=.cells #[.string a1_0,.int .u32 a1_1,.int .i64 a1_2,.bool a1_3] 47 (0,0)) (by (with_reducible repeat (first|refine blk_drewN ?_ _|refine blk_drew ?_|refine blk_alloc ?_ _));exact BK160.out)) : gb160≠gb161));have n9_:=Aside0.mk ((by rw [hg];exact Nat.ne_of_gt (blk_lt (g:=gb160) (o:=.cells #[.string a1_0,.int .u32 a1_1,.int .i64 a1_2,.bool a1_3] 47 (0,0)) (by (with_reducible repeat (first|refine blk_drewN ?_ _|refine blk_drew ?_|refine blk_alloc ?_ _));exact BK160.out)) : gb161≠gb160));clear BK159;clear BK160;clear HB;have BK159:=n0_;have BK160:=n1_;have HB:=n2_;have BK161:=n3_;have GW161:=n4_;have GE161:=n5_;have NB159_161:=n6_;have NB161_159:=n7_;have NB160_161:=n8_;have NB161_160:=n9_;clear n0_ n1_ n2_ n3_ n4_ n5_ n6_ n7_ n8_ n9_;clear hb hbox hg;have hnb37:=NB159_160.out;have hnc37:=NB160_159.out;have hnb38:=NB159_161.out;have hnc38:=NB161_159.out;have hcz39_0 : w36.cell? ⟨gb159,0,none⟩=some (.int .u32 a0_0):=(blk_cell BK159.out 0).trans rfl;have hcz39_1 : w36.cell? ⟨gb159,1,none⟩=some (.int .u64 a0_1):=(blk_cell BK159.out 1).trans rfl;have hcz39_2 : w36.cell? ⟨gb159,2,none⟩=some (.int .i64 a0_2):=(blk_cell BK159.out 2).trans rfl;have hcz39_3 : w36.cell? ⟨gb159,3,none⟩=some (.string a0_3):=(blk_cell BK159.out 3).trans rfl;have hcz39_4 : w36.cell? ⟨gb159,4,none⟩=some (.slice A0_4 l0_4.length c0_4):=(blk_cell BK159.out 4).trans rfl;have hfz39_0:=blk_frozen BK159.out 0;have hfz39_1:=blk_frozen BK159.out 1;have hfz39_2:=blk_frozen BK159.out 2;have hfz39_3:=blk_frozen BK159.out 3;have hfz39_4:=blk_frozen BK159.out 4)|((with_reducible refine gate_callee (f:=31) rfl ?_);refine goesL_ (some 12) rfl rfl Try.func31 (by kernel_rfl) rfl #[.agg #[.int .u32 a0_0,.int .u64 a0_1,.int .i64 a0_2,.string a0_3,.slice A0_4 l0_4.length c0_4]] rfl (by (try simp only [List.map_toArray,List.map_cons,List.map_nil]);first|done|rfl|(simp only [List.length_drop,List.length_take];rfl)) ?_;(with_reducible refine (node_Leaf.calls k a0_0 a0_1 a0_2 a0_3 _ _ l0_4 t162 t165 _ ?side1 ?side2 A3.out).mono ?_);(case side1=>repeat (first|exact (Kd.C_below HR0_4.out HB.out)|(with_reducible refine Kd.C_alloc ?_ _)|(with_reducible refine Kd.C_drewN ?_ _)|(with_reducible refine Kd.C_drew ?_)));(case side2=>exact HC0_4.out);rintro e w40 ⟨v163,rfl,ho0,hb⟩;refine ⟨_,rfl,?_⟩;have n0_:=Aside0.mk (Kd.R_lower (Kd.R_newB ho0 (g:=gb160) (o:=.cells #[.string a1_0,.int .u32 a1_1,.int .i64 a1_2,.bool a1_3] 47 (0,0)) (by (with_reducible repeat (first|refine blk_drewN ?_ _|refine blk_drew ?_|refine blk_alloc ?_ _));exact BK160.out)) (below_size (by repeat (first|(with_reducible first|exact HB.out|apply below_alloc|apply pw_below_drewN|apply below_drew1|refine below_set ?_ GE159.out|refine below_set ?_ GE160.out|refine below_set ?_ GE161.out)|exact HB.out))));have n1_:=Aside0.mk (blk_below (g:=gb159) (o:=.cells #[.int .u32 a0_0,.int .u64 a0_1,.int .i64 a0_2,.string a0_3,.slice A0_4 l0_4.length c0_4] 28 (0,0)) (by (with_reducible repeat (first|refine blk_drewN ?_ _|refine blk_drew ?_|refine blk_alloc ?_ _));exact BK159.out) hb);have n2_:=Aside0.mk (blk_below (g:=gb160) (o:=.cells #[.string a1_0,.int .u32 a1_1,.int .i64 a1_2,.bool a1_3] 47 (0,0)) (by (with_reducible repeat (first|refine blk_drewN ?_ _|refine blk_drew ?_|refine blk_alloc ?_ _));exact BK160.out) hb);have n3_:=Aside0.mk (blk_below (g:=gb161) (o:=.cells #[.int .i64 0,.int .i64 0,.string (⟨#[]⟩ : ByteArray),.string (⟨#[]⟩ : ByteArray)] 38 (0,0)) (by (with_reducible repeat (first|refine blk_drewN ?_ _|refine blk_drew ?_|refine blk_alloc ?_ _));exact BK161.out) hb);have n4_:=Aside0.mk (below_step (by repeat (first|(with_reducible first|exact HB.out|apply below_alloc|apply pw_below_drewN|apply below_drew1|refine below_set ?_ GE159.out|refine below_set ?_ GE160.out|refine below_set ?_ GE161.out)|exact HB.out)) hb);clear BK159;clear BK160;clear BK161;clear HB;have HO164:=n0_;have BK159:=n1_;have BK160:=n2_;have BK161:=n3_;have HB:=n4_;clear n0_ n1_ n2_ n3_ n4_;(try clear hb);(try clear hb2);(try clear hk);(try clear hi);(try clear ho0);have hnb41:=NB161_160.out;have hnc41:=NB160_161.out;have hcz42_0 : w40.cell? ⟨gb161,0,none⟩=some (.int .i64 0):=(blk_cell BK161.out 0).trans rfl;have hcz42_1 : w40.cell? ⟨gb161,1,none⟩=some (.int .i64 0):=(blk_cell BK161.out 1).trans rfl;have hcz42_2 : w40.cell? ⟨gb161,2,none⟩=some (.string (⟨#[]⟩ : ByteArray)):=(blk_cell BK161.out 2).trans rfl;have hcz42_3 : w40.cell? ⟨gb161,3,none⟩=some (.string (⟨#[]⟩ : ByteArray)):=(blk_cell BK161.out 3).trans rfl;have hfz42_0:=blk_frozen BK161.out 0;have hfz42_1:=blk_frozen BK161.out 1;have hfz42_2:=blk_frozen BK161.out 2;have hfz42_3:=blk_frozen BK161.out 3))
  refine bodyPost_ret (results_ct rfl _ _ gb161 38 #[.int .i64 0,.int .i64 0,.string (⟨#[]⟩ : ByteArray),.string (⟨#[]⟩ : ByteArray)] (0,0) _ rfl (by (with_reducible repeat (first|refine blk_drewN ?_ _|refine blk_drew ?_|refine blk_alloc ?_ _));refine blk_put (cs:=#[.int .i64 0,.int .i64 0,.string (⟨#[]⟩ : ByteArray),.string (⟨#[]⟩ : ByteArray)]) ?_ 3 _ rfl;(with_reducible repeat (first|refine blk_drewN ?_ _|refine blk_drew ?_|refine blk_alloc ?_ _));refine blk_put (cs:=#[.int .i64 0,.int .i64 0,.string (⟨#[]⟩ : ByteArray),.string (⟨#[]⟩ : ByteArray)]) ?_ 2 _ rfl;(with_reducible repeat (first|refine blk_drewN ?_ _|refine blk_drew ?_|refine blk_alloc ?_ _));refine blk_put (cs:=#[.int .i64 0,.int .i64 0,.string (⟨#[]⟩ : ByteArray),.string (⟨#[]⟩ : ByteArray)]) ?_ 1 _ rfl;(with_reducible repeat (first|refine blk_drewN ?_ _|refine blk_drew ?_|refine blk_alloc ?_ _));refine blk_put (cs:=#[.int .i64 0,.int .i64 0,.string (⟨#[]⟩ : ByteArray),.string (⟨#[]⟩ : ByteArray)]) ?_ 0 _ rfl;(with_reducible repeat (first|refine blk_drewN ?_ _|refine blk_drew ?_|refine blk_alloc ?_ _));exact BK161.out) Try.underlying38 rfl (by kernel_rfl)) rfl ?_
  exact ⟨by first|rfl|(simp [errW_none,errW_some] <;> rfl)|(simp [*,errW_none,errW_some] <;> rfl),by repeat (first|(with_reducible first|exact HB.out|apply below_alloc|apply pw_below_drewN|apply below_drew1|refine below_set ?_ GE159.out|refine below_set ?_ GE160.out|refine below_set ?_ GE161.out)|exact HB.out)⟩
end Go.Proofs.Ytfegabikfkmepaa.PNe
end
section
namespace Go.Proofs.Ytfegabikfkmepaa.PNe
open Go.RowKit Go.Gi Go.GiRow Go.Proofs.Ytfegabikfkmepaa Go.Proofs.YtfegabikfkmepaaW.PrintWords Go.Proofs.YtfegabikfkmepaaW.PrintMore
set_option maxRecDepth 20000
set_option linter.unusedSimpArgs false
set_option linter.unusedVariables false
theorem w64 {x : Int} (h0 : -9223372036854775808 ≤ x) (h1 : x ≤ 9223372036854775807) : wrap64 x = x := by unfold wrap64; omega
theorem rd_at {l : List ByteArray} {i : Nat} (h : i < l.length) : rdOf ByteArray.empty l (i : Int) = l[i] := by
  unfold rdOf; simp [List.getD_eq_getElem?_getD, List.getElem?_eq_getElem h]
def It.Good (x : It) : Prop := 0 ≤ x.page ∧ x.page ≤ 4294967295 ∧ 0 ≤ x.slot ∧ x.slot ≤ 65535 ∧ x.key.size ≤ 64
def slotOf (x : It) : ByteArray := bs (leafB x.key x.page x.slot x.live)
def ofIt (x : It) : S47 := ⟨⟨x.key, ⟨x.page, x.slot⟩⟩, x.live⟩
theorem map_toIt (l : List It) : (l.map ofIt).map toIt = l := by
  rw [List.map_map]
  exact List.map_id' _
theorem slotOf_size (x : It) : (slotOf x).size = 7 + x.key.size := by
  unfold slotOf leafB
  rw [bs_size]
  simp [putL_length]
  omega
theorem slotOf_data (x : It) : (slotOf x).data.toList = [if x.live then 1 else 0] ++ (putL 4 x.page.toNat ++ putL 2 x.slot.toNat ++ x.key.data.toList) := toList_bs _
theorem get_in (l a b c : List UInt8) (n : Nat) (h : l = a ++ (b ++ c)) (hb : b.length = n) (hn : n ≤ 8) : getR l a.length n = (((numL b : Nat) : Int), 0) := by
  subst h
  unfold getR
  rw [if_neg (by simp; omega), if_neg (by simp; omega)]
  simp only [Int.toNat_natCast]
  rw [List.drop_left, ← hb, List.take_left]
theorem number_in (s : ByteArray) (a b c : List UInt8) (n : Nat) (h : s.data.toList = a ++ (b ++ c)) (hb : b.length = n) (hn : n ≤ 8) (hs : s.size ≤ 1000000) :
    raw_Reader_Number.f s a.length 0 n = some (((numL b : Nat) : Int), s, ((a.length + n : Nat) : Int), 0) := by
  have hl : a.length + n ≤ s.size := by
    have : s.data.toList.length = s.size := by simp
    rw [h] at this
    simp at this
    omega
  unfold raw_Reader_Number.f raw_Reader_Err.f raw_Get.f
  rw [Option.bind_some]
  dsimp only
  rw [if_pos rfl, if_pos (by omega), Option.bind_some, get_in _ a b c n h hb hn]
  dsimp only
  rw [if_pos rfl, w64 (by omega) (by omega)]
  rfl
theorem bool_in (s : ByteArray) (c : List UInt8) (v : Bool) (h : s.data.toList = [if v then 1 else 0] ++ c) (hs : s.size ≤ 1000000) (k : Nat) : raw_Reader_Bool.f (k + 1) s 0 0 = some (v, s, 1, 0) := by
  have e := get_in s.data.toList [] [if v then 1 else 0] c 1 h rfl (by omega)
  have e1 : ((([] : List UInt8).length : Nat) : Int) = 0 := rfl
  rw [e1] at e
  have e' : getR s.data.toList 0 1 = (((numL [if v then 1 else 0] : Nat) : Int), 0) := e
  unfold raw_Reader_Bool.f raw_Reader_Err.f raw_Get.f
  rw [Option.bind_some]
  dsimp only
  rw [if_pos rfl, if_pos (by omega), Option.bind_some, e']
  dsimp only
  rw [if_pos rfl, raw_Reader_Bool.j0]
  cases v <;> simp [numL, wrap64]
theorem take_in (x : It) (hx : It.Good x) : node_take.f (slotOf x) 1 0 = some (x.key, x.page, x.slot, slotOf x, ((slotOf x).size : Int), 0) := by
  obtain ⟨h1, h2, h3, h4, h5⟩ := hx
  have hz := slotOf_size x
  have hd := slotOf_data x
  obtain ⟨p, hp⟩ := Int.eq_ofNat_of_zero_le h1
  obtain ⟨q, hq⟩ := Int.eq_ofNat_of_zero_le h3
  have e1 := number_in (slotOf x) [if x.live then 1 else 0] (putL 4 x.page.toNat) (putL 2 x.slot.toNat ++ x.key.data.toList) 4 (by rw [hd]; simp) (putL_length _ _) (by omega) (by omega)
  have e2 := number_in (slotOf x) ([if x.live then 1 else 0] ++ putL 4 x.page.toNat) (putL 2 x.slot.toNat) x.key.data.toList 2 (by rw [hd]; simp) (putL_length _ _) (by omega) (by omega)
  rw [numL_putL] at e1 e2
  have l1 : ([if x.live then (1 : UInt8) else 0]).length = 1 := rfl
  have l2 : ([if x.live then (1 : UInt8) else 0] ++ putL 4 x.page.toNat).length = 5 := by rw [List.length_append, putL_length]; rfl
  rw [l1] at e1
  rw [l2] at e2
  have f1 : ((x.page.toNat % 256 ^ 4 : Nat) : Int) = x.page := by omega
  have f2 : ((x.slot.toNat % 256 ^ 2 : Nat) : Int) = x.slot := by omega
  rw [f1] at e1
  rw [f2] at e2
  have e1' : raw_Reader_Number.f (slotOf x) 1 0 4 = some (x.page, slotOf x, 5, 0) := e1
  have e2' : raw_Reader_Number.f (slotOf x) 5 0 2 = some (x.slot, slotOf x, 7, 0) := e2
  have hk : (slotOf x).extract (7 : Int).toNat ((slotOf x).size : Int).toNat = x.key := by
    rw [Int.toNat_natCast, extract_bs, hd, show (7 : Int).toNat = 7 from rfl]
    have hdrop : (([if x.live then (1 : UInt8) else 0] ++ (putL 4 x.page.toNat ++ putL 2 x.slot.toNat ++ x.key.data.toList)).drop 7) = x.key.data.toList := by
      rw [show [if x.live then (1 : UInt8) else 0] ++ (putL 4 x.page.toNat ++ putL 2 x.slot.toNat ++ x.key.data.toList) = ([if x.live then (1 : UInt8) else 0] ++ putL 4 x.page.toNat ++ putL 2 x.slot.toNat) ++ x.key.data.toList by simp]
      exact List.drop_left' (by simp [putL_length])
    rw [hdrop, List.take_of_length_le (by simp; omega), bs_toList]
  unfold node_take.f raw_Reader_Left.f raw_Reader_Bytes.f raw_Reader_Err.f
  rw [e1', Option.bind_some]
  simp only
  rw [e2', Option.bind_some]
  simp only
  rw [Option.bind_some]
  simp only
  rw [Option.bind_some]
  simp only
  rw [w64 (x := ((slotOf x).size : Int) - 7) (by omega) (by omega), if_pos trivial, if_neg (by omega), if_neg (by omega), w64 (x := 7 + (((slotOf x).size : Int) - 7)) (by omega) (by omega), show (7 : Int) + (((slotOf x).size : Int) - 7) = ((slotOf x).size : Int) by omega,
    w64 (x := ((slotOf x).size : Int) - (((slotOf x).size : Int) - 7)) (by omega) (by omega), show ((slotOf x).size : Int) - (((slotOf x).size : Int) - 7) = 7 by omega, if_pos (by omega), if_pos (by omega), if_pos (by omega), Option.bind_some, hk, Int.emod_eq_of_lt h1 (by omega), w64 (by omega) (by omega)]
theorem bt0 (x : It) : bt (slotOf x) 0 = if x.live then 1 else 0 := by
  unfold bt
  have hz := slotOf_size x
  rw [dif_pos (by show 0 < _; omega)]
  have : (slotOf x)[(0 : Int).toNat]'(by show 0 < _; omega) = if x.live then 1 else 0 := by
    show (slotOf x).data[0]'(by show 0 < (slotOf x).size; omega) = _
    have h := slotOf_data x
    have h2 : (slotOf x).data.toList[0]? = some (if x.live then 1 else 0) := by rw [h]; rfl
    rw [Array.getElem?_toList] at h2
    rw [Array.getElem?_eq_some_iff] at h2
    exact h2.2
  rw [this]
  cases x.live <;> rfl
theorem leaf_l0 (l : List It) (hg : ∀ x ∈ l, It.Good x) (hn : l.length ≤ 1000000) : ∀ d i k, i + d = l.length → 2 * d + 1 ≤ k → node_Leaf.l0 k ((l.take i).map ofIt) (l.map slotOf) (l.length : Int) i = some (l.map ofIt, 0) := by
  intro d
  induction d with
  | zero =>
    intro i k h hk
    obtain ⟨k, rfl⟩ : ∃ m, k = m + 1 := ⟨k - 1, by omega⟩
    rw [node_Leaf.l0, if_neg (by omega), List.take_of_length_le (by omega)]
  | succ d ih =>
    intro i k h hk
    obtain ⟨k, rfl⟩ : ∃ m, k = m + 3 := ⟨k - 3, by omega⟩
    have hi : i < l.length := by omega
    have hi' : i < (l.map slotOf).length := by simpa using hi
    have e := rd_at hi'
    rw [List.getElem_map] at e
    have hgd := hg _ (List.getElem_mem hi)
    have hz := slotOf_size l[i]
    have hd := slotOf_data l[i]
    have hkz := hgd.2.2.2.2
    rw [node_Leaf.l0, if_pos (by omega), if_pos (by omega), if_pos (by omega), e, if_neg (by omega), if_pos (by omega), bt0]
    have hb : decide ((if l[i].live = true then (1 : Int) else 0) > 1) = false := by cases l[i].live <;> rfl
    rw [hb, node_Leaf.j2, if_neg (by simp)]
    unfold raw_NewReader.f
    rw [Option.bind_some]
    simp only
    rw [bool_in (slotOf l[i]) _ l[i].live hd (by omega) k, Option.bind_some]
    simp only
    rw [take_in l[i] hgd, Option.bind_some, if_pos (by simp; omega), w64 (by omega) (by omega)]
    have := ih (i + 1) (k + 1) (by omega) (by omega)
    rw [List.take_succ_eq_append_getElem hi, List.map_append] at this
    exact this
theorem leaf_f (l : List It) (hg : ∀ x ∈ l, It.Good x) (hn : l.length ≤ 1000000) (num lsn : Int) (head : ByteArray) (hh : head.size = 4) (k : Nat) (hk : 2 * l.length + 2 ≤ k) : node_Leaf.f k num lsn 3 head (l.map slotOf) = some (l.map ofIt, 0) := by
  obtain ⟨k, rfl⟩ : ∃ m, k = m + 1 := ⟨k - 1, by omega⟩
  unfold node_Leaf.f
  have hb : ((head.size : Int) != 4) = false := by rw [hh]; rfl
  rw [if_pos rfl, hb, node_Leaf.j0, if_neg (by simp)]
  have := leaf_l0 l hg hn l.length 0 k (by omega) (by omega)
  rw [List.length_map]
  exact this
theorem putItem_f (l : List It) (hg : ∀ x ∈ l, It.Good x) (hn : l.length ≤ 1000000) (num lsn : Int) (head : ByteArray) (hh : head.size = 4) (x : It) (hx : It.Good x) (k : Nat) (hk : 2 * l.length + 2 ≤ k) :
    node_PutItem.f k num lsn 3 head (l.map slotOf) x.key x.page x.slot x.live = some (if findIs l x.key x.page x.slot = true then (0, 0, ⟨#[]⟩, ⟨#[]⟩, 121) else (2, (findAt l x.key x.page x.slot : Int), slotOf x, ⟨#[]⟩, 0)) := by
  unfold node_PutItem.f
  rw [leaf_f l hg hn num lsn head hh k hk, Option.bind_some, if_pos rfl]
  unfold node_Find.f
  rw [if_pos (by simp; omega), Option.bind_some, map_toIt]
  simp only
  split
  · rfl
  · unfold node_leafSlot.f
    obtain ⟨h1, h2, h3, h4, h5⟩ := hx
    rw [if_pos ⟨h1, h2, h3, h4, by omega⟩, Option.bind_some]
    rfl
end Go.Proofs.Ytfegabikfkmepaa.PNe
end
section
namespace Go.Proofs.Ytfegabikfkmepaa.PNe
open Go.RowKit Go.Proofs.YtfegabikfkmepaaW.PrintWords Go.Proofs.YtfegabikfkmepaaW.PrintLast Go.Proofs.YtfegabikfkmepaaW.PrintMore
attribute [local go_sem] max2_int min2_int max_two min_two max_three min_three max_four min_four
set_option linter.unusedVariables false
set_option linter.unusedSimpArgs false
def page_Blank.f (a0 : Int) : Option (Int × Int × Int × ByteArray × List ByteArray):=some (a0,0,0,(⟨#[]⟩ : ByteArray),([] : List ByteArray))
set_option maxHeartbeats 8000000 in
set_option maxRecDepth 100000 in
theorem page_Blank.calls (a0 : Int) (r1 : Int) (r2 : Int) (r3 : Int) (r4 : ByteArray) (r5 : List ByteArray) (w : World) (h : page_Blank.f a0=some (r1,r2,r3,r4,r5)) :
  Calls Try.prog 12 #[.int .u32 a0] w fun e w'=>∃ v4_ : Value,e=.returned (.agg #[.int .u32 r1,.int .u64 r2,.int .i64 r3,.string r4,v4_])∧Kd.R Kd.string 9 w' w.heap.size (fun _=>True) v4_ r5∧Below w.heap.size w w':=by
 have hu28:=Try.underlying28
 have HB:=Aside0.mk (Below.refl w.heap.size w)
 have H : (some (a0,0,0,(⟨#[]⟩ : ByteArray),([] : List ByteArray)))=some (r1,r2,r3,r4,r5):=h
 clear h
 simp only [Option.some.injEq,Prod.mk.injEq] at H
 obtain ⟨rfl,rfl,rfl,rfl,rfl⟩:=H
 go_enter Try.func12,Try.ntmps12
 go_wp2_with (first|((with_reducible refine gate_dst (N:=2) rfl ?_);refine box_event ?hg (N:=2) ?hd (cs:=#[.int .u32 0,.int .u64 0,.int .i64 0,.string (⟨#[]⟩ : ByteArray),.slice none 0 0]) (t:=28) ?hr ?_;(case hd=>rfl);(case hg=>rfl);(case hr=>first|(go_simp;done)|(go_simp;rfl));intro gb101 hg w2 hbox hb;have n0_:=Aside0.mk (below_step (by repeat (first|(with_reducible first|exact HB.out|apply below_alloc|apply pw_below_drewN|apply below_drew1)|exact HB.out)) hb);have n1_:=Aside0.mk (hbox);have n2_:=Aside0.mk ((by rw [hg];exact (below_size (by repeat (first|(with_reducible first|exact HB.out|apply below_alloc|apply pw_below_drewN|apply below_drew1)|exact HB.out))) : w.heap.size≤gb101));have n3_:=Aside0.mk ((by rw [hg];exact (below_size (by repeat (first|(with_reducible first|exact HB.out|apply below_alloc|apply pw_below_drewN|apply below_drew1)|exact HB.out))) : w.heap.size≤gb101));clear HB;have HB:=n0_;have BK101:=n1_;have GW101:=n2_;have GE101:=n3_;clear n0_ n1_ n2_ n3_;clear hb hbox hg;have hcz3_0 : w2.cell? ⟨gb101,0,none⟩=some (.int .u32 0):=(blk_cell BK101.out 0).trans rfl;have hcz3_1 : w2.cell? ⟨gb101,1,none⟩=some (.int .u64 0):=(blk_cell BK101.out 1).trans rfl;have hcz3_2 : w2.cell? ⟨gb101,2,none⟩=some (.int .i64 0):=(blk_cell BK101.out 2).trans rfl;have hcz3_3 : w2.cell? ⟨gb101,3,none⟩=some (.string (⟨#[]⟩ : ByteArray)):=(blk_cell BK101.out 3).trans rfl;have hcz3_4 : w2.cell? ⟨gb101,4,none⟩=some (.slice none 0 0):=(blk_cell BK101.out 4).trans rfl;have hfz3_0:=blk_frozen BK101.out 0;have hfz3_1:=blk_frozen BK101.out 1;have hfz3_2:=blk_frozen BK101.out 2;have hfz3_3:=blk_frozen BK101.out 3;have hfz3_4:=blk_frozen BK101.out 4))
 refine bodyPost_ret (results_cell_row rfl _ _ gb101 28 #[.int .u32 a0,.int .u64 0,.int .i64 0,.string (⟨#[]⟩ : ByteArray),.slice none 0 0] (0,0) _ rfl (by (with_reducible repeat (first|refine blk_drewN ?_ _|refine blk_drew ?_|refine blk_alloc ?_ _));refine blk_put (cs:=#[.int .u32 a0,.int .u64 0,.int .i64 0,.string (⟨#[]⟩ : ByteArray),.slice none 0 0]) ?_ 4 _ rfl;(with_reducible repeat (first|refine blk_drewN ?_ _|refine blk_drew ?_|refine blk_alloc ?_ _));refine blk_put (cs:=#[.int .u32 a0,.int .u64 0,.int .i64 0,.string (⟨#[]⟩ : ByteArray),.slice none 0 0]) ?_ 3 _ rfl;(with_reducible repeat (first|refine blk_drewN ?_ _|refine blk_drew ?_|refine blk_alloc ?_ _));refine blk_put (cs:=#[.int .u32 a0,.int .u64 0,.int .i64 0,.string (⟨#[]⟩ : ByteArray),.slice none 0 0]) ?_ 2 _ rfl;(with_reducible repeat (first|refine blk_drewN ?_ _|refine blk_drew ?_|refine blk_alloc ?_ _));refine blk_put (cs:=#[.int .u32 a0,.int .u64 0,.int .i64 0,.string (⟨#[]⟩ : ByteArray),.slice none 0 0]) ?_ 1 _ rfl;(with_reducible repeat (first|refine blk_drewN ?_ _|refine blk_drew ?_|refine blk_alloc ?_ _));refine blk_put (cs:=#[.int .u32 0,.int .u64 0,.int .i64 0,.string (⟨#[]⟩ : ByteArray),.slice none 0 0]) ?_ 0 _ rfl;(with_reducible repeat (first|refine blk_drewN ?_ _|refine blk_drew ?_|refine blk_alloc ?_ _));exact BK101.out) Try.underlying28 rfl (by kernel_rfl)) rfl ?_
 exact ⟨_,by first|rfl|(simp [errW_none,errW_some] <;> rfl)|(simp [*,errW_none,errW_some] <;> rfl),by first|exact Kd.R_nil _ _ _ _ _|exact Kd.N_nil _ _ _ _ _|exact Kd.V_nil _ _ _ _ _|exact Kd.Q_nil _ _ _ _ _|exact Kd.S_nil _ _ _ _ _,by repeat (first|(with_reducible first|exact HB.out|apply below_alloc|apply pw_below_drewN|apply below_drew1|refine below_set ?_ GE101.out)|exact HB.out)⟩
end Go.Proofs.Ytfegabikfkmepaa.PNe
end
section
namespace Go.Proofs.Ytfegabikfkmepaa.PNe
open Go.RowKit Go.Proofs.YtfegabikfkmepaaW.PrintWords Go.Proofs.YtfegabikfkmepaaW.PrintLast Go.Proofs.YtfegabikfkmepaaW.PrintMore
attribute [local go_sem] max2_int min2_int max_two min_two max_three min_three max_four min_four
set_option linter.unusedVariables false
set_option linter.unusedSimpArgs false
def raw_Put.f (a0 : Int) (a1 : Int) : Option (ByteArray):=if 0≤a0∧a0≤18446744073709551615 then some (Go.Gi.bs (Go.Gi.putL (Go.Gi.clamp8 a1) a0.toNat)) else none
set_option maxHeartbeats 8000000 in
set_option maxRecDepth 100000 in
theorem raw_Put.calls (a0 : Int) (a1 : Int) (r : ByteArray) (w : World) (h : raw_Put.f a0 a1=some r) :
  Calls Try.prog 37 #[.int .u64 a0,.int .i64 a1] w fun e w'=>e=.returned (.string r)∧Below w.heap.size w w':=by
 unfold raw_Put.f at h
 split at h
 ·rename_i hs
  obtain rfl:=Option.some.inj h
  exact put_any a0 a1 w hs.1 hs.2
 ·cases h
end Go.Proofs.Ytfegabikfkmepaa.PNe
end
section
namespace Go.Proofs.Ytfegabikfkmepaa.PNe
open Go.RowKit Go.Proofs.YtfegabikfkmepaaW.PrintWords Go.Proofs.YtfegabikfkmepaaW.PrintLast Go.Proofs.YtfegabikfkmepaaW.PrintMore
attribute [local go_sem] max2_int min2_int max_two min_two max_three min_three max_four min_four
set_option linter.unusedVariables false
set_option linter.unusedSimpArgs false
def node_FormatLeaf.f (a0 : Int) : Option (Int × Int × ByteArray × ByteArray):=(raw_Put.f (IntKind.u64.wrap (a0)) 4).bind fun t103=>(some (1,3,t103,(⟨#[]⟩ : ByteArray)))
set_option maxHeartbeats 8000000 in
set_option maxRecDepth 100000 in
theorem node_FormatLeaf.calls (a0 : Int) (r1 : Int) (r2 : Int) (r3 : ByteArray) (r4 : ByteArray) (w : World) (h : node_FormatLeaf.f a0=some (r1,r2,r3,r4)) :
  Calls Try.prog 13 #[.int .u32 a0] w fun e w'=>e=.returned (.agg #[.int .i64 r1,.int .i64 r2,.string r3,.string r4])∧Below w.heap.size w w':=by
 have hu38:=Try.underlying38
 have HB:=Aside0.mk (Below.refl w.heap.size w)
 have H : ((raw_Put.f (IntKind.u64.wrap (a0)) 4).bind fun t103=>(some (1,3,t103,(⟨#[]⟩ : ByteArray))))=some (r1,r2,r3,r4):=h
 clear h
 replace H:=Option.bind_eq_some_iff.mp H
 obtain ⟨t103,A20,H⟩:=H
 replace H : (some (1,3,t103,(⟨#[]⟩ : ByteArray)))=some (r1,r2,r3,r4):=H
 have A2:=Aside0.mk A20
 clear A20
 simp only [Option.some.injEq,Prod.mk.injEq] at H
 obtain ⟨rfl,rfl,rfl,rfl⟩:=H
 go_enter Try.func13,Try.ntmps13
 go_wp2_with (first|((with_reducible refine gate_dst (N:=2) rfl ?_);refine box_event ?hg (N:=2) ?hd (cs:=#[.int .i64 0,.int .i64 0,.string (⟨#[]⟩ : ByteArray),.string (⟨#[]⟩ : ByteArray)]) (t:=38) ?hr ?_;(case hd=>rfl);(case hg=>rfl);(case hr=>first|(go_simp;done)|(go_simp;rfl));intro gb102 hg w3 hbox hb;have n0_:=Aside0.mk (below_step (by repeat (first|(with_reducible first|exact HB.out|apply below_alloc|apply pw_below_drewN|apply below_drew1)|exact HB.out)) hb);have n1_:=Aside0.mk (hbox);have n2_:=Aside0.mk ((by rw [hg];exact (below_size (by repeat (first|(with_reducible first|exact HB.out|apply below_alloc|apply pw_below_drewN|apply below_drew1)|exact HB.out))) : w.heap.size≤gb102));have n3_:=Aside0.mk ((by rw [hg];exact (below_size (by repeat (first|(with_reducible first|exact HB.out|apply below_alloc|apply pw_below_drewN|apply below_drew1)|exact HB.out))) : w.heap.size≤gb102));clear HB;have HB:=n0_;have BK102:=n1_;have GW102:=n2_;have GE102:=n3_;clear n0_ n1_ n2_ n3_;clear hb hbox hg)|((with_reducible refine gate_callee (f:=37) rfl ?_);refine goesL_ (some 5) rfl rfl Try.func37 (by kernel_rfl) rfl #[.int .u64 (IntKind.u64.wrap (a0)),.int .i64 4] rfl (by (try simp only [List.map_toArray,List.map_cons,List.map_nil]);first|done|rfl|(simp only [List.length_drop,List.length_take];rfl)) ?_;(with_reducible refine (raw_Put.calls (IntKind.u64.wrap (a0)) 4 t103 _ A2.out).mono ?_);rintro e w4 ⟨rfl,hb⟩;refine ⟨_,rfl,?_⟩;have n0_:=Aside0.mk (blk_below (g:=gb102) (o:=.cells #[.int .i64 0,.int .i64 0,.string (⟨#[]⟩ : ByteArray),.string (⟨#[]⟩ : ByteArray)] 38 (0,0)) (by (with_reducible repeat (first|refine blk_drewN ?_ _|refine blk_drew ?_|refine blk_alloc ?_ _));exact BK102.out) hb);have n1_:=Aside0.mk (below_step (by repeat (first|(with_reducible first|exact HB.out|apply below_alloc|apply pw_below_drewN|apply below_drew1|refine below_set ?_ GE102.out)|exact HB.out)) hb);clear BK102;clear HB;have BK102:=n0_;have HB:=n1_;clear n0_ n1_;(try clear hb);(try clear hb2);(try clear hk);(try clear hi);have hcz5_0 : w4.cell? ⟨gb102,0,none⟩=some (.int .i64 0):=(blk_cell BK102.out 0).trans rfl;have hcz5_1 : w4.cell? ⟨gb102,1,none⟩=some (.int .i64 0):=(blk_cell BK102.out 1).trans rfl;have hcz5_2 : w4.cell? ⟨gb102,2,none⟩=some (.string (⟨#[]⟩ : ByteArray)):=(blk_cell BK102.out 2).trans rfl;have hcz5_3 : w4.cell? ⟨gb102,3,none⟩=some (.string (⟨#[]⟩ : ByteArray)):=(blk_cell BK102.out 3).trans rfl;have hfz5_0:=blk_frozen BK102.out 0;have hfz5_1:=blk_frozen BK102.out 1;have hfz5_2:=blk_frozen BK102.out 2;have hfz5_3:=blk_frozen BK102.out 3))
 refine bodyPost_ret (results_cell_row rfl _ _ gb102 38 #[.int .i64 1,.int .i64 3,.string t103,.string (⟨#[]⟩ : ByteArray)] (0,0) _ rfl (by (with_reducible repeat (first|refine blk_drewN ?_ _|refine blk_drew ?_|refine blk_alloc ?_ _));refine blk_put (cs:=#[.int .i64 1,.int .i64 3,.string t103,.string (⟨#[]⟩ : ByteArray)]) ?_ 3 _ rfl;(with_reducible repeat (first|refine blk_drewN ?_ _|refine blk_drew ?_|refine blk_alloc ?_ _));refine blk_put (cs:=#[.int .i64 1,.int .i64 3,.string (⟨#[]⟩ : ByteArray),.string (⟨#[]⟩ : ByteArray)]) ?_ 2 _ rfl;(with_reducible repeat (first|refine blk_drewN ?_ _|refine blk_drew ?_|refine blk_alloc ?_ _));refine blk_put (cs:=#[.int .i64 1,.int .i64 0,.string (⟨#[]⟩ : ByteArray),.string (⟨#[]⟩ : ByteArray)]) ?_ 1 _ rfl;(with_reducible repeat (first|refine blk_drewN ?_ _|refine blk_drew ?_|refine blk_alloc ?_ _));refine blk_put (cs:=#[.int .i64 0,.int .i64 0,.string (⟨#[]⟩ : ByteArray),.string (⟨#[]⟩ : ByteArray)]) ?_ 0 _ rfl;(with_reducible repeat (first|refine blk_drewN ?_ _|refine blk_drew ?_|refine blk_alloc ?_ _));exact BK102.out) Try.underlying38 rfl (by kernel_rfl)) rfl ?_
 exact ⟨by first|rfl|(simp [errW_none,errW_some] <;> rfl)|(simp [*,errW_none,errW_some] <;> rfl),by repeat (first|(with_reducible first|exact HB.out|apply below_alloc|apply pw_below_drewN|apply below_drew1|refine below_set ?_ GE102.out)|exact HB.out)⟩
end Go.Proofs.Ytfegabikfkmepaa.PNe
end
section
namespace Go.Proofs.Ytfegabikfkmepaa
open Go.RowKit Go.Gi Go.GiRow Go.Proofs.YtfegabikfkmepaaW.PrintWords PNe
set_option maxRecDepth 20000
set_option linter.unusedSimpArgs false
set_option linter.unusedVariables false
def OwnP (w : World) (base : Nat) (v : Value) (slots : List ByteArray) : Prop := w.ownsRow base 9 1 v slots.length (strV slots)
theorem own_C {w : World} {base : Nat} {v : Value} {slots : List ByteArray} (h : OwnP w base v slots) : ∃ A c, v = .slice A slots.length c ∧ slots.length ≤ c ∧ Kd.C Kd.string w A slots.length slots := by
  obtain ⟨A, c, rfl⟩ := own_sl h
  have hR : Kd.R Kd.string 9 w base (fun _ => True) (.slice A slots.length c) slots := Kd.R_of_own h (fun _ _ => trivial)
  exact ⟨A, c, rfl, (Kd.R_reads' hR).2.1, (Kd.R_reads' hR).2.2⟩
theorem OwnP.below {w w' : World} {base : Nat} {v : Value} {slots : List ByteArray} (h : OwnP w base v slots) (hb : Below w.heap.size w w') : OwnP w' base v slots := own_below h hb
theorem OwnP.lower {w : World} {base base' : Nat} {v : Value} {slots : List ByteArray} (h : OwnP w base v slots) (hb : base' ≤ base) : OwnP w base' v slots := own_le h hb
theorem OwnP.setRow {w : World} {base g T : Nat} {v : Value} {slots : List ByteArray} {cs cs' : Array Value} (h : OwnP w base v slots) (hb : Blk w g T cs) (ht : T ≠ 9) : OwnP (w.setRow g cs') base v slots := own_setRow h hb ht
theorem OwnP.set {w : World} {base b o T : Nat} {v u : Value} {slots : List ByteArray} {cs : Array Value} (h : OwnP w base v slots) (hb : Blk w b T cs) (ht : T ≠ 9) : OwnP (w.setCell ⟨b, o, none⟩ u) base v slots := own_set h hb ht
theorem ap_own {w : World} {base : Nat} {v : Value} {slots : List ByteArray} (num lsn kind : Int) (head : ByteArray) (k a : Int) (s o : ByteArray) (l : Int) (h : OwnP w base v slots) (h64 : slots.length ≤ 64) (hs : ∀ x ∈ slots, x.size ≤ 140737488350000) (hh : head.size ≤ 140737488350000) :
    Calls Try.prog 11 #[.agg #[.int .u32 num, .int .u64 lsn, .int .i64 kind, .string head, v], .agg #[.int .i64 k, .int .i64 a, .string s, .string o], .int .u64 l] w (apPost w (apR num lsn kind head slots k a s o l)) := by
  obtain ⟨A, c, rfl, hc, hC⟩ := own_C h
  exact apply_any num lsn kind head slots A c k a s o l w hC hc h64 hs hh
theorem put_own {w : World} {base : Nat} {v : Value} (num lsn : Int) (head : ByteArray) (l : List It) (hg : ∀ x ∈ l, It.Good x) (hn : l.length ≤ 1000000) (hh : head.size = 4) (x : It) (hx : It.Good x) (h : OwnP w base v (l.map slotOf)) (r1 r2 : Int) (r3 : ByteArray) (r5 : Int)
    (hr : (if findIs l x.key x.page x.slot = true then (0, 0, ⟨#[]⟩, ⟨#[]⟩, 121) else (2, (findAt l x.key x.page x.slot : Int), slotOf x, ⟨#[]⟩, 0) : Int × Int × ByteArray × ByteArray × Int) = (r1, r2, r3, ⟨#[]⟩, r5)) :
    Calls Try.prog 14 #[.agg #[.int .u32 num, .int .u64 lsn, .int .i64 3, .string head, v], .agg #[.string x.key, .int .u32 x.page, .int .i64 x.slot, .bool x.live]] w fun e w' => e = .returned (.tuple #[.agg #[.int .i64 r1, .int .i64 r2, .string r3, .string ⟨#[]⟩], .int .i64 r5]) ∧ Below w.heap.size w w' := by
  obtain ⟨A, c, rfl, hc, hC⟩ := own_C h
  exact node_PutItem.calls (2 * l.length + 2) num lsn 3 head A c (l.map slotOf) x.key x.page x.slot x.live r1 r2 r3 ⟨#[]⟩ r5 w hC hc (by rw [putItem_f l hg hn num lsn head hh x hx _ (Nat.le_refl _), hr])
theorem and16 (x : Int) : ∃ m : Nat, Go.bits .and .i64 x 65535 = (m : Int) ∧ m ≤ 65535 := by
  have h : ((BitVec.ofInt 64 x) &&& (BitVec.ofInt 64 65535)).toNat ≤ 65535 := by
    rw [BitVec.toNat_and]
    exact Nat.le_trans Nat.and_le_right (by decide)
  refine ⟨_, ?_, h⟩
  have e : Go.bits .and .i64 x 65535 = IntKind.i64.wrap (((BitVec.ofInt 64 x) &&& (BitVec.ofInt 64 65535)).toNat : Int) := rfl
  rw [e, IntKind.wrap_i64]
  omega
end Go.Proofs.Ytfegabikfkmepaa
end
section
namespace Go.Proofs.Ytfegabikfkmepaa.PNe
open Go.RowKit Go.Proofs.YtfegabikfkmepaaW.PrintWords Go.Proofs.YtfegabikfkmepaaW.PrintLast Go.Proofs.YtfegabikfkmepaaW.PrintMore
attribute [local go_sem] max2_int min2_int max_two min_two max_three min_three max_four min_four
set_option linter.unusedVariables false
set_option linter.unusedSimpArgs false
def node_innerSlot.f (a0_0 : Int) (a0_1 : ByteArray) (a0_2 : Int) (a0_3 : Int) : Option (ByteArray):=if 0≤a0_0∧a0_0≤4294967295∧0≤a0_2∧a0_2≤4294967295∧0≤a0_3∧a0_3≤65535∧a0_1.size≤140737488350000 then some (Go.Gi.bs (innerB a0_0 a0_1 a0_2 a0_3)) else none
set_option maxHeartbeats 8000000 in
set_option maxRecDepth 100000 in
theorem node_innerSlot.calls (a0_0 : Int) (a0_1 : ByteArray) (a0_2 : Int) (a0_3 : Int) (r : ByteArray) (w : World) (h : node_innerSlot.f a0_0 a0_1 a0_2 a0_3=some r) :
  Calls Try.prog 43 #[.agg #[.int .u32 a0_0,.string a0_1,.int .u32 a0_2,.int .i64 a0_3]] w fun e w'=>e=.returned (.string r)∧Below w.heap.size w w':=by
 unfold node_innerSlot.f at h
 split at h
 ·rename_i hc
  obtain ⟨h1,h2,h3,h4,h5,h6,h7⟩:=hc
  obtain rfl:=Option.some.inj h
  exact innerSlot_any a0_0 a0_1 a0_2 a0_3 w ⟨h1,h2⟩ ⟨h3,h4⟩ ⟨h5,h6⟩ h7
 ·cases h
end Go.Proofs.Ytfegabikfkmepaa.PNe
end
section
namespace Go.Proofs.Ytfegabikfkmepaa.PNe
open Go.RowKit Go.Proofs.YtfegabikfkmepaaW.PrintWords Go.Proofs.YtfegabikfkmepaaW.PrintLast Go.Proofs.YtfegabikfkmepaaW.PrintMore
attribute [local go_sem] max2_int min2_int max_two min_two max_three min_three max_four min_four
set_option linter.unusedVariables false
set_option linter.unusedSimpArgs false
def node_PutChild.f (a0 : Int) (a1_0 : Int) (a1_1 : ByteArray) (a1_2 : Int) (a1_3 : Int) : Option (Int × Int × ByteArray × ByteArray):=(node_innerSlot.f a1_0 a1_1 a1_2 a1_3).bind fun t342=>(some (2,a0,t342,(⟨#[]⟩ : ByteArray)))
set_option maxHeartbeats 8000000 in
set_option maxRecDepth 100000 in
theorem node_PutChild.calls (a0 : Int) (a1_0 : Int) (a1_1 : ByteArray) (a1_2 : Int) (a1_3 : Int) (r1 : Int) (r2 : Int) (r3 : ByteArray) (r4 : ByteArray) (w : World) (h : node_PutChild.f a0 a1_0 a1_1 a1_2 a1_3=some (r1,r2,r3,r4)) :
  Calls Try.prog 25 #[.int .i64 a0,.agg #[.int .u32 a1_0,.string a1_1,.int .u32 a1_2,.int .i64 a1_3]] w fun e w'=>e=.returned (.agg #[.int .i64 r1,.int .i64 r2,.string r3,.string r4])∧Below w.heap.size w w':=by
 have hu66:=Try.underlying66
 have hu38:=Try.underlying38
 have HB:=Aside0.mk (Below.refl w.heap.size w)
 have H : ((node_innerSlot.f a1_0 a1_1 a1_2 a1_3).bind fun t342=>(some (2,a0,t342,(⟨#[]⟩ : ByteArray))))=some (r1,r2,r3,r4):=h
 clear h
 replace H:=Option.bind_eq_some_iff.mp H
 obtain ⟨t342,A30,H⟩:=H
 replace H : (some (2,a0,t342,(⟨#[]⟩ : ByteArray)))=some (r1,r2,r3,r4):=H
 have A3:=Aside0.mk A30
 clear A30
 simp only [Option.some.injEq,Prod.mk.injEq] at H
 obtain ⟨rfl,rfl,rfl,rfl⟩:=H
 go_enter Try.func25,Try.ntmps25
 go_wp2_with (first|((with_reducible refine gate_dst (N:=3) rfl ?_);refine box_event ?hg (N:=3) ?hd (cs:=#[.int .u32 a1_0,.string a1_1,.int .u32 a1_2,.int .i64 a1_3]) (t:=66) ?hr ?_;(case hd=>rfl);(case hg=>rfl);(case hr=>first|(go_simp;done)|(go_simp;rfl));intro gb340 hg w4 hbox hb;have n0_:=Aside0.mk (below_step (by repeat (first|(with_reducible first|exact HB.out|apply below_alloc|apply pw_below_drewN|apply below_drew1)|exact HB.out)) hb);have n1_:=Aside0.mk (hbox);have n2_:=Aside0.mk ((by rw [hg];exact (below_size (by repeat (first|(with_reducible first|exact HB.out|apply below_alloc|apply pw_below_drewN|apply below_drew1)|exact HB.out))) : w.heap.size≤gb340));have n3_:=Aside0.mk ((by rw [hg];exact (below_size (by repeat (first|(with_reducible first|exact HB.out|apply below_alloc|apply pw_below_drewN|apply below_drew1)|exact HB.out))) : w.heap.size≤gb340));clear HB;have HB:=n0_;have BK340:=n1_;have GW340:=n2_;have GE340:=n3_;clear n0_ n1_ n2_ n3_;clear hb hbox hg)|((with_reducible refine gate_dst (N:=4) rfl ?_);refine box_event ?hg (N:=4) ?hd (cs:=#[.int .i64 0,.int .i64 0,.string (⟨#[]⟩ : ByteArray),.string (⟨#[]⟩ : ByteArray)]) (t:=38) ?hr ?_;(case hd=>rfl);(case hg=>rfl);(case hr=>first|(go_simp;done)|(go_simp;rfl));intro gb341 hg w5 hbox hb;have n0_:=Aside0.mk (blk_below (g:=gb340) (o:=.cells #[.int .u32 a1_0,.string a1_1,.int .u32 a1_2,.int .i64 a1_3] 66 (0,0)) (by (with_reducible repeat (first|refine blk_drewN ?_ _|refine blk_drew ?_|refine blk_alloc ?_ _));exact BK340.out) hb);have n1_:=Aside0.mk (below_step (by repeat (first|(with_reducible first|exact HB.out|apply below_alloc|apply pw_below_drewN|apply below_drew1|refine below_set ?_ GE340.out)|exact HB.out)) hb);have n2_:=Aside0.mk (hbox);have n3_:=Aside0.mk ((by rw [hg];exact (below_size (by repeat (first|(with_reducible first|exact HB.out|apply below_alloc|apply pw_below_drewN|apply below_drew1|refine below_set ?_ GE340.out)|exact HB.out))) : w.heap.size≤gb341));have n4_:=Aside0.mk ((by rw [hg];exact (below_size (by repeat (first|(with_reducible first|exact HB.out|apply below_alloc|apply pw_below_drewN|apply below_drew1|refine below_set ?_ GE340.out)|exact HB.out))) : w.heap.size≤gb341));have n5_:=Aside0.mk ((by rw [hg];exact Nat.ne_of_lt (blk_lt (g:=gb340) (o:=.cells #[.int .u32 a1_0,.string a1_1,.int .u32 a1_2,.int .i64 a1_3] 66 (0,0)) (by (with_reducible repeat (first|refine blk_drewN ?_ _|refine blk_drew ?_|refine blk_alloc ?_ _));exact BK340.out)) : gb340≠gb341));have n6_:=Aside0.mk ((by rw [hg];exact Nat.ne_of_gt (blk_lt (g:=gb340) (o:=.cells #[.int .u32 a1_0,.string a1_1,.int .u32 a1_2,.int .i64 a1_3] 66 (0,0)) (by (with_reducible repeat (first|refine blk_drewN ?_ _|refine blk_drew ?_|refine blk_alloc ?_ _));exact BK340.out)) : gb341≠gb340));clear BK340;clear HB;have BK340:=n0_;have HB:=n1_;have BK341:=n2_;have GW341:=n3_;have GE341:=n4_;have NB340_341:=n5_;have NB341_340:=n6_;clear n0_ n1_ n2_ n3_ n4_ n5_ n6_;clear hb hbox hg;have hnb6:=NB340_341.out;have hnc6:=NB341_340.out;have hcz7_0 : w5.cell? ⟨gb340,0,none⟩=some (.int .u32 a1_0):=(blk_cell BK340.out 0).trans rfl;have hcz7_1 : w5.cell? ⟨gb340,1,none⟩=some (.string a1_1):=(blk_cell BK340.out 1).trans rfl;have hcz7_2 : w5.cell? ⟨gb340,2,none⟩=some (.int .u32 a1_2):=(blk_cell BK340.out 2).trans rfl;have hcz7_3 : w5.cell? ⟨gb340,3,none⟩=some (.int .i64 a1_3):=(blk_cell BK340.out 3).trans rfl;have hfz7_0:=blk_frozen BK340.out 0;have hfz7_1:=blk_frozen BK340.out 1;have hfz7_2:=blk_frozen BK340.out 2;have hfz7_3:=blk_frozen BK340.out 3)|((with_reducible refine gate_callee (f:=43) rfl ?_);refine goesL_ (some 7) rfl rfl Try.func43 (by kernel_rfl) rfl #[.agg #[.int .u32 a1_0,.string a1_1,.int .u32 a1_2,.int .i64 a1_3]] rfl (by (try simp only [List.map_toArray,List.map_cons,List.map_nil]);first|done|rfl|(simp only [List.length_drop,List.length_take];rfl)) ?_;(with_reducible refine (node_innerSlot.calls a1_0 a1_1 a1_2 a1_3 t342 _ A3.out).mono ?_);rintro e w8 ⟨rfl,hb⟩;refine ⟨_,rfl,?_⟩;have n0_:=Aside0.mk (blk_below (g:=gb340) (o:=.cells #[.int .u32 a1_0,.string a1_1,.int .u32 a1_2,.int .i64 a1_3] 66 (0,0)) (by (with_reducible repeat (first|refine blk_drewN ?_ _|refine blk_drew ?_|refine blk_alloc ?_ _));exact BK340.out) hb);have n1_:=Aside0.mk (blk_below (g:=gb341) (o:=.cells #[.int .i64 0,.int .i64 0,.string (⟨#[]⟩ : ByteArray),.string (⟨#[]⟩ : ByteArray)] 38 (0,0)) (by (with_reducible repeat (first|refine blk_drewN ?_ _|refine blk_drew ?_|refine blk_alloc ?_ _));exact BK341.out) hb);have n2_:=Aside0.mk (below_step (by repeat (first|(with_reducible first|exact HB.out|apply below_alloc|apply pw_below_drewN|apply below_drew1|refine below_set ?_ GE340.out|refine below_set ?_ GE341.out)|exact HB.out)) hb);clear BK340;clear BK341;clear HB;have BK340:=n0_;have BK341:=n1_;have HB:=n2_;clear n0_ n1_ n2_;(try clear hb);(try clear hb2);(try clear hk);(try clear hi);have hcz9_0 : w8.cell? ⟨gb341,0,none⟩=some (.int .i64 0):=(blk_cell BK341.out 0).trans rfl;have hcz9_1 : w8.cell? ⟨gb341,1,none⟩=some (.int .i64 0):=(blk_cell BK341.out 1).trans rfl;have hcz9_2 : w8.cell? ⟨gb341,2,none⟩=some (.string (⟨#[]⟩ : ByteArray)):=(blk_cell BK341.out 2).trans rfl;have hcz9_3 : w8.cell? ⟨gb341,3,none⟩=some (.string (⟨#[]⟩ : ByteArray)):=(blk_cell BK341.out 3).trans rfl;have hfz9_0:=blk_frozen BK341.out 0;have hfz9_1:=blk_frozen BK341.out 1;have hfz9_2:=blk_frozen BK341.out 2;have hfz9_3:=blk_frozen BK341.out 3))
 refine bodyPost_ret (results_cell_row rfl _ _ gb341 38 #[.int .i64 2,.int .i64 a0,.string t342,.string (⟨#[]⟩ : ByteArray)] (0,0) _ rfl (by (with_reducible repeat (first|refine blk_drewN ?_ _|refine blk_drew ?_|refine blk_alloc ?_ _));refine blk_put (cs:=#[.int .i64 2,.int .i64 a0,.string t342,.string (⟨#[]⟩ : ByteArray)]) ?_ 3 _ rfl;(with_reducible repeat (first|refine blk_drewN ?_ _|refine blk_drew ?_|refine blk_alloc ?_ _));refine blk_put (cs:=#[.int .i64 2,.int .i64 a0,.string (⟨#[]⟩ : ByteArray),.string (⟨#[]⟩ : ByteArray)]) ?_ 2 _ rfl;(with_reducible repeat (first|refine blk_drewN ?_ _|refine blk_drew ?_|refine blk_alloc ?_ _));refine blk_put (cs:=#[.int .i64 2,.int .i64 0,.string (⟨#[]⟩ : ByteArray),.string (⟨#[]⟩ : ByteArray)]) ?_ 1 _ rfl;(with_reducible repeat (first|refine blk_drewN ?_ _|refine blk_drew ?_|refine blk_alloc ?_ _));refine blk_put (cs:=#[.int .i64 0,.int .i64 0,.string (⟨#[]⟩ : ByteArray),.string (⟨#[]⟩ : ByteArray)]) ?_ 0 _ rfl;(with_reducible repeat (first|refine blk_drewN ?_ _|refine blk_drew ?_|refine blk_alloc ?_ _));exact BK341.out) Try.underlying38 rfl (by kernel_rfl)) rfl ?_
 exact ⟨by first|rfl|(simp [errW_none,errW_some] <;> rfl)|(simp [*,errW_none,errW_some] <;> rfl),by repeat (first|(with_reducible first|exact HB.out|apply below_alloc|apply pw_below_drewN|apply below_drew1|refine below_set ?_ GE340.out|refine below_set ?_ GE341.out)|exact HB.out)⟩
end Go.Proofs.Ytfegabikfkmepaa.PNe
end
section
namespace Go.Proofs.Ytfegabikfkmepaa.PNe
open Go.RowKit Go.Proofs.YtfegabikfkmepaaW.PrintWords Go.Proofs.YtfegabikfkmepaaW.PrintLast Go.Proofs.YtfegabikfkmepaaW.PrintMore
attribute [local go_sem] max2_int min2_int max_two min_two max_three min_three max_four min_four
set_option linter.unusedVariables false
set_option linter.unusedSimpArgs false
mutual
def node_Inner.j0 : Nat → Bool → Int → Int → Int → ByteArray → List ByteArray → Option ((List (S66)) × Int)
 | 0,_,_,_,_,_,_=>none
 | k + 1,x17,x344000,x344001,x344002,x344003,x344004=>if x17=true then (some (([] : List (S66)),120)) else (node_Inner.l0 k ([] : List (S66)) x344004 (x344004.length : Int) 0)
def node_Inner.l0 : Nat → List (S66) → List ByteArray → Int → Int → Option ((List (S66)) × Int)
 | 0,_,_,_,_=>none
 | k + 1,x4,x19,x20,x21=>if x21 < x20 then (if 0≤x21 then (if x21 < (x19.length : Int) then (if ((rdOf ByteArray.empty x19 x21).size : Int) < 10 then (some (([] : List (S66)),120)) else ((raw_NewReader.f (rdOf ByteArray.empty x19 x21)).bind fun bt345=>((raw_Reader_Number.f bt345.1 bt345.2.1 bt345.2.2 4).bind fun bt349=>((node_take.f bt349.2.1 bt349.2.2.1 bt349.2.2.2).bind fun bt354=>(if x4.length < 3518437208883 then (node_Inner.l0 k (x4 ++ [(⟨(bt349.1) % 4294967296,(⟨bt354.1,(⟨bt354.2.1,bt354.2.2.1⟩ : S41)⟩ : S43)⟩ : S66)]) x19 x20 (wrap64 (x21 + 1))) else (none)))))) else (none)) else (none)) else (some (x4,0))
end
def node_Inner.f (k : Nat) (a0_0 : Int) (a0_1 : Int) (a0_2 : Int) (a0_3 : ByteArray) (l0_4 : List ByteArray) : Option ((List (S66)) × Int):=if a0_2=4 then (node_Inner.j0 k ((a0_3.size : Int) != 1) a0_0 a0_1 a0_2 a0_3 l0_4) else (node_Inner.j0 k true a0_0 a0_1 a0_2 a0_3 l0_4)
set_option maxHeartbeats 8000000 in
set_option maxRecDepth 100000 in
theorem node_Inner.calls (k : Nat) (a0_0 : Int) (a0_1 : Int) (a0_2 : Int) (a0_3 : ByteArray) (A0_4 : Option Addr) (c0_4 : Nat) (l0_4 : List ByteArray) (r1 : List (S66)) (r2 : Int) (w : World) (hr0_4 : Kd.C Kd.string w A0_4 l0_4.length l0_4) (hc0_4 : l0_4.length≤c0_4) (h : node_Inner.f k a0_0 a0_1 a0_2 a0_3 l0_4=some (r1,r2)) :
  Calls Try.prog 28 #[.agg #[.int .u32 a0_0,.int .u64 a0_1,.int .i64 a0_2,.string a0_3,.slice A0_4 l0_4.length c0_4]] w fun e w'=>∃ v0_ : Value,e=.returned (.tuple #[v0_,.int .i64 r2])∧Kd.R k66 66 w' w.heap.size (fun _=>True) v0_ r1∧Below w.heap.size w w':=by
 have hu28:=Try.underlying28
 have hu66:=Try.underlying66
 have hu43:=Try.underlying43
 have HR0_4:=Aside0.mk hr0_4
 have HC0_4:=Aside0.mk hc0_4
 clear hr0_4 hc0_4
 have HB:=Aside0.mk (Below.refl w.heap.size w)
 have H : (if a0_2=4 then (node_Inner.j0 k ((a0_3.size : Int) != 1) a0_0 a0_1 a0_2 a0_3 l0_4) else (node_Inner.j0 k true a0_0 a0_1 a0_2 a0_3 l0_4))=some (r1,r2):=h
 clear h
 have HC2:=Aside0.mk H
 clear H
 go_enter Try.func28,Try.ntmps28
 go_upto_region 1 with (first|((with_reducible refine gate_dst (N:=1) rfl ?_);(try (refine gate_guard (by rfl) ?_;dsimp only));refine box_event ?hg (N:=1) ?hd (cs:=#[.int .u32 a0_0,.int .u64 a0_1,.int .i64 a0_2,.string a0_3,.slice A0_4 l0_4.length c0_4]) (t:=28) ?hr ?_;(case hd=>rfl);(case hg=>rfl);(case hr=>first|(go_simp;done)|(go_simp;rfl));intro gb343 hg w3 hbox hb;have n0_:=Aside0.mk (below_step (by repeat (first|(with_reducible first|exact HB.out|apply below_alloc|apply pw_below_drewN|apply below_drew1)|exact HB.out)) hb);have n1_:=Aside0.mk (hbox);have n2_:=Aside0.mk ((by rw [hg];exact (below_size (by repeat (first|(with_reducible first|exact HB.out|apply below_alloc|apply pw_below_drewN|apply below_drew1)|exact HB.out))) : w.heap.size≤gb343));have n3_:=Aside0.mk ((by rw [hg];exact (below_size (by repeat (first|(with_reducible first|exact HB.out|apply below_alloc|apply pw_below_drewN|apply below_drew1)|exact HB.out))) : w.heap.size≤gb343));clear HB;have HB:=n0_;have BK343:=n1_;have GW343:=n2_;have GE343:=n3_;clear n0_ n1_ n2_ n3_;clear hb hbox hg))
 (try simp only [Act.put,sA_,sB_,sC_])
 go_cut [17] (fun v17 wc=>∃ (kq : Nat) (x17_1 : Bool),v17=.bool x17_1∧Aside0 (node_Inner.j0 kq x17_1 a0_0 a0_1 a0_2 a0_3 l0_4=some (r1,r2))∧Aside0 (kq≤k)∧Aside0 (wc.heap[gb343]?=some (.cells #[.int .u32 a0_0,.int .u64 a0_1,.int .i64 a0_2,.string a0_3,(.slice A0_4 l0_4.length c0_4)] 28 (0,0)))∧Aside0 (Below w.heap.size w wc))
 case first =>
  have H:=HC2.out
  clear HC2
  by_cases c4 : a0_2=4
  ·rw [if_pos c4] at H
   have c4b0 : (a0_2 == 4)=true:=beq_iff_eq.mpr c4
   have c4b1 : (a0_2 != 4)=false:=bne_eq_false_iff_eq.mpr c4
   clear c4
   (first|rw [c4b0]|(simp only [i64_w,i32_w];rw [c4b0])|skip)
   have H':=Aside0.mk H
   clear H
   have hcz5_0 : w3.cell? ⟨gb343,0,none⟩=some (.int .u32 a0_0):=(blk_cell BK343.out 0).trans rfl
   have hcz5_1 : w3.cell? ⟨gb343,1,none⟩=some (.int .u64 a0_1):=(blk_cell BK343.out 1).trans rfl
   have hcz5_2 : w3.cell? ⟨gb343,2,none⟩=some (.int .i64 a0_2):=(blk_cell BK343.out 2).trans rfl
   have hcz5_3 : w3.cell? ⟨gb343,3,none⟩=some (.string a0_3):=(blk_cell BK343.out 3).trans rfl
   have hcz5_4 : w3.cell? ⟨gb343,4,none⟩=some (.slice A0_4 l0_4.length c0_4):=(blk_cell BK343.out 4).trans rfl
   have hfz5_0:=blk_frozen BK343.out 0
   have hfz5_1:=blk_frozen BK343.out 1
   have hfz5_2:=blk_frozen BK343.out 2
   have hfz5_3:=blk_frozen BK343.out 3
   have hfz5_4:=blk_frozen BK343.out 4
   go_wp2
   go_meet
   case rel=>exact ⟨_,(((a0_3.size : Int) != 1)),(by first|rfl|(simp;done)|(simp [*];done)),H',⟨by first|omega|exact Nat.le_refl _⟩,⟨by (with_reducible repeat (first|refine blk_drewN ?_ _|refine blk_drew ?_|refine blk_alloc ?_ _));exact BK343.out⟩,⟨by repeat (first|(with_reducible first|exact HB.out|apply below_alloc|apply pw_below_drewN|apply below_drew1|refine below_set ?_ GE343.out)|exact HB.out)⟩⟩
  ·rw [if_neg c4] at H
   have c4b0 : (a0_2 == 4)=false:=beq_eq_false_iff_ne.mpr c4
   have c4b1 : (a0_2 != 4)=true:=bne_iff_ne.mpr c4
   (first|rw [c4b0]|(simp only [i64_w,i32_w];rw [c4b0])|skip)
   have H':=Aside0.mk H
   clear H
   have hcz6_0 : w3.cell? ⟨gb343,0,none⟩=some (.int .u32 a0_0):=(blk_cell BK343.out 0).trans rfl
   have hcz6_1 : w3.cell? ⟨gb343,1,none⟩=some (.int .u64 a0_1):=(blk_cell BK343.out 1).trans rfl
   have hcz6_2 : w3.cell? ⟨gb343,2,none⟩=some (.int .i64 a0_2):=(blk_cell BK343.out 2).trans rfl
   have hcz6_3 : w3.cell? ⟨gb343,3,none⟩=some (.string a0_3):=(blk_cell BK343.out 3).trans rfl
   have hcz6_4 : w3.cell? ⟨gb343,4,none⟩=some (.slice A0_4 l0_4.length c0_4):=(blk_cell BK343.out 4).trans rfl
   have hfz6_0:=blk_frozen BK343.out 0
   have hfz6_1:=blk_frozen BK343.out 1
   have hfz6_2:=blk_frozen BK343.out 2
   have hfz6_3:=blk_frozen BK343.out 3
   have hfz6_4:=blk_frozen BK343.out 4
   go_wp2
   go_meet
   case rel=>exact ⟨_,(true),(by first|rfl|(simp;done)|(simp [*];done)),H',⟨by first|omega|exact Nat.le_refl _⟩,⟨by (with_reducible repeat (first|refine blk_drewN ?_ _|refine blk_drew ?_|refine blk_alloc ?_ _));exact BK343.out⟩,⟨by repeat (first|(with_reducible first|exact HB.out|apply below_alloc|apply pw_below_drewN|apply below_drew1|refine below_set ?_ GE343.out)|exact HB.out)⟩⟩
 case rest =>
  clear HC2
  try clear c2
  try clear p2
  try clear c4
  try clear c4b0
  try clear c4b1
  try clear hcz5_0
  try clear hcz5_1
  try clear hcz5_2
  try clear hcz5_3
  try clear hcz5_4
  try clear hcz6_0
  try clear hcz6_1
  try clear hcz6_2
  try clear hcz6_3
  try clear hcz6_4
  try clear hfz5_0
  try clear hfz5_1
  try clear hfz5_2
  try clear hfz5_3
  try clear hfz5_4
  try clear hfz6_0
  try clear hfz6_1
  try clear hfz6_2
  try clear hfz6_3
  try clear hfz6_4
  obtain ⟨kq,x17_1,rfl,HA,HJ1,BK343,HB⟩:=hcut
  cases kq with
  | zero=>exact absurd HA.out (by simp [node_Inner.j0])
  | succ kj1 =>
   have H:=HA.out
   clear HA
   simp only [node_Inner.j0] at H
   by_cases c7 : x17_1=true
   ·subst c7
    have H1 : (some (([] : List (S66)),120))=some (r1,r2):=by rw [if_pos rfl] at H;exact H
    clear H
    have H:=H1
    clear H1
    simp only [Option.some.injEq,Prod.mk.injEq] at H
    obtain ⟨rfl,rfl⟩:=H
    go_wp2
    go_ret2
    exact ⟨_,by first|rfl|(simp [errW_none,errW_some] <;> rfl)|(simp [*,errW_none,errW_some] <;> rfl),by first|exact Kd.R_nil _ _ _ _ _|exact Kd.N_nil _ _ _ _ _|exact Kd.V_nil _ _ _ _ _|exact Kd.Q_nil _ _ _ _ _|exact Kd.S_nil _ _ _ _ _,by repeat (first|(with_reducible first|exact HB.out|apply below_alloc|apply pw_below_drewN|apply below_drew1|refine below_set ?_ GE343.out)|exact HB.out)⟩
   ·replace c7:=Bool.eq_false_iff.mpr c7
    subst c7
    have H1 : (node_Inner.l0 kj1 ([] : List (S66)) l0_4 (l0_4.length : Int) 0)=some (r1,r2):=by rw [if_neg (show ¬ (false=true) by decide)] at H;exact H
    clear H
    have H:=H1
    clear H1
    have H':=Aside0.mk H
    clear H
    have hcz8_0 : wc.cell? ⟨gb343,0,none⟩=some (.int .u32 a0_0):=(blk_cell BK343.out 0).trans rfl
    have hcz8_1 : wc.cell? ⟨gb343,1,none⟩=some (.int .u64 a0_1):=(blk_cell BK343.out 1).trans rfl
    have hcz8_2 : wc.cell? ⟨gb343,2,none⟩=some (.int .i64 a0_2):=(blk_cell BK343.out 2).trans rfl
    have hcz8_3 : wc.cell? ⟨gb343,3,none⟩=some (.string a0_3):=(blk_cell BK343.out 3).trans rfl
    have hcz8_4 : wc.cell? ⟨gb343,4,none⟩=some (.slice A0_4 l0_4.length c0_4):=(blk_cell BK343.out 4).trans rfl
    have hfz8_0:=blk_frozen BK343.out 0
    have hfz8_1:=blk_frozen BK343.out 1
    have hfz8_2:=blk_frozen BK343.out 2
    have hfz8_3:=blk_frozen BK343.out 3
    have hfz8_4:=blk_frozen BK343.out 4
    go_wp2
    go_loopg [4,21] kj1 (fun kq v4 v21 w'=>∃ (x4_2 : List (S66)) (x21_2 : Int),v21=.int .i64 x21_2∧Aside0 (node_Inner.l0 kq x4_2 l0_4 (l0_4.length : Int) x21_2=some (r1,r2))∧Aside0 (kq≤kj1)∧Aside0 (Kd.R k66 66 w' w.heap.size (fun _=>True) v4 x4_2)∧Aside0 (w'.heap[gb343]?=some (.cells #[.int .u32 a0_0,.int .u64 a0_1,.int .i64 a0_2,.string a0_3,(.slice A0_4 l0_4.length c0_4)] 28 (0,0)))∧Aside0 (Below w.heap.size w w'))
    case atStart=>exact ⟨(([] : List (S66))),(0),(by first|rfl|(simp;done)|(simp [*];done)),H',⟨Nat.le_refl _⟩,⟨by first|exact Kd.R_nil _ _ _ _ _|exact Kd.N_nil _ _ _ _ _|exact Kd.V_nil _ _ _ _ _|exact Kd.Q_nil _ _ _ _ _|exact Kd.S_nil _ _ _ _ _⟩,⟨by (with_reducible repeat (first|refine blk_drewN ?_ _|refine blk_drew ?_|refine blk_alloc ?_ _));exact BK343.out⟩,⟨by repeat (first|(with_reducible first|exact HB.out|apply below_alloc|apply pw_below_drewN|apply below_drew1|refine below_set ?_ GE343.out)|exact HB.out)⟩⟩
    case round =>
     clear H'
     try clear c2
     try clear p2
     try clear c4
     try clear c4b0
     try clear c4b1
     try clear c7
     try clear hcz5_0
     try clear hcz5_1
     try clear hcz5_2
     try clear hcz5_3
     try clear hcz5_4
     try clear hcz6_0
     try clear hcz6_1
     try clear hcz6_2
     try clear hcz6_3
     try clear hcz6_4
     try clear hcz8_0
     try clear hcz8_1
     try clear hcz8_2
     try clear hcz8_3
     try clear hcz8_4
     try clear hfz5_0
     try clear hfz5_1
     try clear hfz5_2
     try clear hfz5_3
     try clear hfz5_4
     try clear hfz6_0
     try clear hfz6_1
     try clear hfz6_2
     try clear hfz6_3
     try clear hfz6_4
     try clear hfz8_0
     try clear hfz8_1
     try clear hfz8_2
     try clear hfz8_3
     try clear hfz8_4
     try clear p2
     obtain ⟨x4_2,x21_2,rfl,HA,HK2,HO_4,BK343,HB⟩:=hrel
     cases gk with
     | zero=>exact absurd HA.out (by simp [node_Inner.l0])
     | succ k2 =>
      have H:=HA.out
      clear HA
      simp only [node_Inner.l0] at H
      by_cases c9 : x21_2 < (l0_4.length : Int)
      ·rw [if_pos c9] at H
       have c9b0 : decide (x21_2 < (l0_4.length : Int))=true:=decide_eq_true c9
       clear c9
       by_cases c10 : 0≤x21_2
       ·rw [if_pos c10] at H
        have c10b0 : decide (0≤x21_2)=true:=decide_eq_true c10
        clear c10
        by_cases c11 : x21_2 < (l0_4.length : Int)
        ·rw [if_pos c11] at H
         have c11b0 : decide (x21_2 < (l0_4.length : Int))=true:=decide_eq_true c11
         clear c11
         by_cases c12 : ((rdOf ByteArray.empty l0_4 x21_2).size : Int) < 10
         ·rw [if_pos c12] at H
          have c12b0 : decide (((rdOf ByteArray.empty l0_4 x21_2).size : Int) < 10)=true:=decide_eq_true c12
          have c12b1 : decide ((rdOf ByteArray.empty l0_4 x21_2).size < 10)=true:=decide_eq_true (by omega)
          clear c12
          simp only [Option.some.injEq,Prod.mk.injEq] at H
          obtain ⟨rfl,rfl⟩:=H
          have p344 : 0≤(x21_2 : Int):=of_decide_eq_true (by first|(with_reducible assumption)|assumption)
          have q344 : x21_2 < (l0_4.length : Int):=of_decide_eq_true (by first|(with_reducible assumption)|assumption)
          obtain ⟨ad344,e344,hx344_0⟩:=Kd.at_string HR0_4.out x21_2 p344 q344
          cases e344
          replace hx344_0:=(HB.out.cell (World.block_lt_of_cell? w _ hx344_0)).trans hx344_0
          replace p344:=eq_true p344
          replace q344:=eq_true q344
          go_wp2
          go_ret2
          exact ⟨_,by first|rfl|(simp [errW_none,errW_some] <;> rfl)|(simp [*,errW_none,errW_some] <;> rfl),by first|exact Kd.R_nil _ _ _ _ _|exact Kd.N_nil _ _ _ _ _|exact Kd.V_nil _ _ _ _ _|exact Kd.Q_nil _ _ _ _ _|exact Kd.S_nil _ _ _ _ _,by repeat (first|(with_reducible first|exact HB.out|apply below_alloc|apply pw_below_drewN|apply below_drew1|refine below_set ?_ GE343.out)|exact HB.out)⟩
         ·rw [if_neg c12] at H
          have c12b0 : decide (((rdOf ByteArray.empty l0_4 x21_2).size : Int) < 10)=false:=decide_eq_false c12
          have c12b1 : decide ((rdOf ByteArray.empty l0_4 x21_2).size < 10)=false:=decide_eq_false (by omega)
          clear c12
          replace H:=Option.bind_eq_some_iff.mp H
          obtain ⟨⟨t345,t346,t347⟩,A130,H⟩:=H
          replace H : ((raw_Reader_Number.f t345 t346 t347 4).bind fun bt349=>((node_take.f bt349.2.1 bt349.2.2.1 bt349.2.2.2).bind fun bt354=>(if x4_2.length < 3518437208883 then (node_Inner.l0 k2 (x4_2 ++ [(⟨(bt349.1) % 4294967296,(⟨bt354.1,(⟨bt354.2.1,bt354.2.2.1⟩ : S41)⟩ : S43)⟩ : S66)]) l0_4 (l0_4.length : Int) (wrap64 (x21_2 + 1))) else (none))))=some (r1,r2):=H
          have A13:=Aside0.mk A130
          clear A130
          replace H:=Option.bind_eq_some_iff.mp H
          obtain ⟨⟨t349,t350,t351,t352⟩,A140,H⟩:=H
          replace H : ((node_take.f t350 t351 t352).bind fun bt354=>(if x4_2.length < 3518437208883 then (node_Inner.l0 k2 (x4_2 ++ [(⟨(t349) % 4294967296,(⟨bt354.1,(⟨bt354.2.1,bt354.2.2.1⟩ : S41)⟩ : S43)⟩ : S66)]) l0_4 (l0_4.length : Int) (wrap64 (x21_2 + 1))) else (none)))=some (r1,r2):=H
          have A14:=Aside0.mk A140
          clear A140
          replace H:=Option.bind_eq_some_iff.mp H
          obtain ⟨⟨t354,t355,t356,t357,t358,t359⟩,A150,H⟩:=H
          replace H : (if x4_2.length < 3518437208883 then (node_Inner.l0 k2 (x4_2 ++ [(⟨(t349) % 4294967296,(⟨t354,(⟨t355,t356⟩ : S41)⟩ : S43)⟩ : S66)]) l0_4 (l0_4.length : Int) (wrap64 (x21_2 + 1))) else (none))=some (r1,r2):=H
          have A15:=Aside0.mk A150
          clear A150
          by_cases c16 : x4_2.length < 3518437208883
          ·rw [if_pos c16] at H
           have LMc16:=Aside0.mk c16
           clear c16
           obtain ⟨y360,hy360⟩ : ∃ y_ : List (S66),y_=(x4_2 ++ [(⟨(t349) % 4294967296,(⟨t354,(⟨t355,t356⟩ : S41)⟩ : S43)⟩ : S66)]):=⟨_,rfl⟩
           replace H : (node_Inner.l0 k2 y360 l0_4 (l0_4.length : Int) (wrap64 (x21_2 + 1)))=some (r1,r2):=by first|(rw [hy360];with_reducible exact H)|(have H2_:=(Option.bind_some _ _).symm.trans H;rw [hy360];with_reducible exact H2_)|(have H2_:=(Option.bind_some _ _).symm.trans H;with_reducible exact H2_)|with_reducible exact H|(rw [hy360];exact H)|exact H
           have Ny360:=Aside0.mk hy360
           clear hy360
           have H':=Aside0.mk H
           clear H
           have p344 : 0≤(x21_2 : Int):=of_decide_eq_true (by first|(with_reducible assumption)|assumption)
           have q344 : x21_2 < (l0_4.length : Int):=of_decide_eq_true (by first|(with_reducible assumption)|assumption)
           obtain ⟨ad344,e344,hx344_0⟩:=Kd.at_string HR0_4.out x21_2 p344 q344
           cases e344
           replace hx344_0:=(HB.out.cell (World.block_lt_of_cell? w _ hx344_0)).trans hx344_0
           replace p344:=eq_true p344
           replace q344:=eq_true q344
           go_wp2_with (first|((with_reducible refine gate_callee (f:=44) rfl ?_);refine goesL_ (some 29) rfl rfl Try.func44 (by kernel_rfl) rfl #[.string (rdOf ByteArray.empty l0_4 x21_2)] rfl (by (try simp only [List.map_toArray,List.map_cons,List.map_nil]);first|done|rfl|(simp only [List.length_drop,List.length_take];rfl)) ?_;(with_reducible refine (raw_NewReader.calls (rdOf ByteArray.empty l0_4 x21_2) t345 t346 t347 w _ ?side1 A13.out).mono ?_);(case side1=>repeat (first|(with_reducible first|exact HB.out|apply below_alloc|apply pw_below_drewN|apply below_drew1|refine below_set ?_ GE343.out)|exact HB.out));rintro e w17 ⟨g348,rfl,hi,hb,hb2⟩;refine ⟨_,rfl,?_⟩;have n0_:=Aside0.mk (Kd.R_below (by (with_reducible repeat (first|apply Kd.R_alloc|apply Kd.R_drewN|apply Kd.R_drew));exact HO_4.out) hb2);have n1_:=Aside0.mk (blk_below (g:=gb343) (o:=.cells #[.int .u32 a0_0,.int .u64 a0_1,.int .i64 a0_2,.string a0_3,.slice (some ad344) l0_4.length c0_4] 28 (0,0)) (by (with_reducible repeat (first|refine blk_drewN ?_ _|refine blk_drew ?_|refine blk_alloc ?_ _));exact BK343.out) hb2);have n2_:=Aside0.mk (hb);have n3_:=Aside0.mk (hi);have n4_:=Aside0.mk (IsS110.ne_blk hi (blk_below (g:=gb343) (o:=.cells #[.int .u32 a0_0,.int .u64 a0_1,.int .i64 a0_2,.string a0_3,.slice (some ad344) l0_4.length c0_4] 28 (0,0)) (by (with_reducible repeat (first|refine blk_drewN ?_ _|refine blk_drew ?_|refine blk_alloc ?_ _));exact BK343.out) hb2) (by decide));have n5_:=Aside0.mk (Ne.symm (IsS110.ne_blk hi (blk_below (g:=gb343) (o:=.cells #[.int .u32 a0_0,.int .u64 a0_1,.int .i64 a0_2,.string a0_3,.slice (some ad344) l0_4.length c0_4] 28 (0,0)) (by (with_reducible repeat (first|refine blk_drewN ?_ _|refine blk_drew ?_|refine blk_alloc ?_ _));exact BK343.out) hb2) (by decide)));clear HO_4;clear BK343;clear HB;have HO_4:=n0_;have BK343:=n1_;have HB:=n2_;have HI348:=n3_;have NB348_343:=n4_;have NB343_348:=n5_;clear n0_ n1_ n2_ n3_ n4_ n5_;(try clear hb);(try clear hb2);(try clear hk);(try clear hi))|((with_reducible refine gate_callee (f:=45) rfl ?_);refine goesL_ (some 31) rfl rfl Try.func45 (by kernel_rfl) rfl #[.pointer (some ⟨g348,0,none⟩),.int .i64 4] rfl (by (try simp only [List.map_toArray,List.map_cons,List.map_nil]);first|done|rfl|(simp only [List.length_drop,List.length_take];rfl)) ?_;(with_reducible refine (raw_Reader_Number.calls g348 t345 t346 t347 4 t349 t350 t351 t352 w _ ?side1 ?side2 A14.out).mono ?_);(case side1=>repeat (first|(with_reducible first|exact HI348.out|apply IsS110.alloc|apply IsS110.drewN|apply IsS110.drew|apply IsS110.set_0|apply IsS110.set_1|apply IsS110.set_2|refine IsS110.far ?_ NB348_343.out _)|exact HI348.out));(case side2=>repeat (first|(with_reducible first|exact HB.out|apply below_alloc|apply pw_below_drewN|apply below_drew1|refine below_set ?_ (IsS110.ge HI348.out)|refine below_set ?_ GE343.out)|exact HB.out));rintro e w18 ⟨rfl,hi,hb,hk⟩;refine ⟨_,rfl,?_⟩;have n0_:=Aside0.mk (Kd.R_mono (Kd.R_keep (IsS110.apart (show IsS110 w _ g348 t345 t346 t347 from by repeat (first|(with_reducible first|exact HI348.out|apply IsS110.alloc|apply IsS110.drewN|apply IsS110.drew|apply IsS110.set_0|apply IsS110.set_1|apply IsS110.set_2|refine IsS110.far ?_ NB348_343.out _)|exact HI348.out)) (by (with_reducible repeat (first|apply Kd.R_alloc|apply Kd.R_drewN|apply Kd.R_drew));exact HO_4.out) (by decide)) hk (fun _ h=>h.2)) (fun _ h=>h.1));have n1_:=Aside0.mk (KeepBut.blk hk (g':=gb343) (o:=.cells #[.int .u32 a0_0,.int .u64 a0_1,.int .i64 a0_2,.string a0_3,.slice (some ad344) l0_4.length c0_4] 28 (0,0)) (by (with_reducible repeat (first|refine blk_drewN ?_ _|refine blk_drew ?_|refine blk_alloc ?_ _));exact BK343.out) NB343_348.out (by simp));have n2_:=Aside0.mk (hb);have n3_:=Aside0.mk (hi);clear HO_4;clear BK343;clear HB;clear HI348;have HO_4:=n0_;have BK343:=n1_;have HB:=n2_;have HI348:=n3_;clear n0_ n1_ n2_ n3_;(try clear hb);(try clear hb2);(try clear hk);(try clear hi))|((with_reducible refine gate_dst (N:=8) rfl ?_);(try (refine gate_guard (by rfl) ?_;dsimp only));refine box_event ?hg (N:=8) ?hd (cs:=#[.int .u32 0,.string (⟨#[]⟩ : ByteArray),.int .u32 0,.int .i64 0]) (t:=66) ?hr ?_;(case hd=>rfl);(case hg=>rfl);(case hr=>first|(go_simp;done)|(go_simp;rfl));intro gb353 hg w19 hbox hb;have n0_:=Aside0.mk (Kd.R_below (Kd.R_elderB (by (with_reducible repeat (first|apply Kd.R_alloc|apply Kd.R_drewN|apply Kd.R_drew));exact HO_4.out) gb353 (Nat.le_of_eq hg.symm)) hb);have n1_:=Aside0.mk (blk_below (g:=gb343) (o:=.cells #[.int .u32 a0_0,.int .u64 a0_1,.int .i64 a0_2,.string a0_3,.slice (some ad344) l0_4.length c0_4] 28 (0,0)) (by (with_reducible repeat (first|refine blk_drewN ?_ _|refine blk_drew ?_|refine blk_alloc ?_ _));exact BK343.out) hb);have n2_:=Aside0.mk (IsS110.below (by repeat (first|(with_reducible first|exact HI348.out|apply IsS110.alloc|apply IsS110.drewN|apply IsS110.drew|apply IsS110.set_0|apply IsS110.set_1|apply IsS110.set_2|refine IsS110.far ?_ NB348_343.out _)|exact HI348.out)) hb);have n3_:=Aside0.mk (below_step (by repeat (first|(with_reducible first|exact HB.out|apply below_alloc|apply pw_below_drewN|apply below_drew1|refine below_set ?_ (IsS110.ge HI348.out)|refine below_set ?_ GE343.out)|exact HB.out)) hb);have n4_:=Aside0.mk (hbox);have n5_:=Aside0.mk ((by rw [hg];exact (below_size (by repeat (first|(with_reducible first|exact HB.out|apply below_alloc|apply pw_below_drewN|apply below_drew1|refine below_set ?_ (IsS110.ge HI348.out)|refine below_set ?_ GE343.out)|exact HB.out))) : w.heap.size≤gb353));have n6_:=Aside0.mk ((by rw [hg];exact (below_size (by repeat (first|(with_reducible first|exact HB.out|apply below_alloc|apply pw_below_drewN|apply below_drew1|refine below_set ?_ (IsS110.ge HI348.out)|refine below_set ?_ GE343.out)|exact HB.out))) : w.heap.size≤gb353));have n7_:=Aside0.mk ((by rw [hg];exact Nat.ne_of_lt (blk_lt (g:=gb343) (o:=.cells #[.int .u32 a0_0,.int .u64 a0_1,.int .i64 a0_2,.string a0_3,.slice (some ad344) l0_4.length c0_4] 28 (0,0)) (by (with_reducible repeat (first|refine blk_drewN ?_ _|refine blk_drew ?_|refine blk_alloc ?_ _));exact BK343.out)) : gb343≠gb353));have n8_:=Aside0.mk ((by rw [hg];exact Nat.ne_of_gt (blk_lt (g:=gb343) (o:=.cells #[.int .u32 a0_0,.int .u64 a0_1,.int .i64 a0_2,.string a0_3,.slice (some ad344) l0_4.length c0_4] 28 (0,0)) (by (with_reducible repeat (first|refine blk_drewN ?_ _|refine blk_drew ?_|refine blk_alloc ?_ _));exact BK343.out)) : gb353≠gb343));have n9_:=Aside0.mk ((by rw [hg];exact Nat.ne_of_lt (IsS110.lt (show IsS110 w _ g348 t350 t351 t352 from by repeat (first|(with_reducible first|exact HI348.out|apply IsS110.alloc|apply IsS110.drewN|apply IsS110.drew|apply IsS110.set_0|apply IsS110.set_1|apply IsS110.set_2|refine IsS110.far ?_ NB348_343.out _)|exact HI348.out))) : g348≠gb353));have n10_:=Aside0.mk ((by rw [hg];exact Nat.ne_of_gt (IsS110.lt (show IsS110 w _ g348 t350 t351 t352 from by repeat (first|(with_reducible first|exact HI348.out|apply IsS110.alloc|apply IsS110.drewN|apply IsS110.drew|apply IsS110.set_0|apply IsS110.set_1|apply IsS110.set_2|refine IsS110.far ?_ NB348_343.out _)|exact HI348.out))) : gb353≠g348));clear HO_4;clear BK343;clear HI348;clear HB;have HO_4:=n0_;have BK343:=n1_;have HI348:=n2_;have HB:=n3_;have BK353:=n4_;have GW353:=n5_;have GE353:=n6_;have NB343_353:=n7_;have NB353_343:=n8_;have NB348_353:=n9_;have NB353_348:=n10_;clear n0_ n1_ n2_ n3_ n4_ n5_ n6_ n7_ n8_ n9_ n10_;clear hb hbox hg;have hnb20:=NB353_343.out;have hnc20:=NB343_353.out;have hnb21:=NB353_348.out;have hnc21:=NB348_353.out;have hcz22_0 : w19.cell? ⟨gb353,0,none⟩=some (.int .u32 0):=(blk_cell BK353.out 0).trans rfl;have hcz22_1 : w19.cell? ⟨gb353,1,none⟩=some (.string (⟨#[]⟩ : ByteArray)):=(blk_cell BK353.out 1).trans rfl;have hcz22_2 : w19.cell? ⟨gb353,2,none⟩=some (.int .u32 0):=(blk_cell BK353.out 2).trans rfl;have hcz22_3 : w19.cell? ⟨gb353,3,none⟩=some (.int .i64 0):=(blk_cell BK353.out 3).trans rfl;have hfz22_0:=blk_frozen BK353.out 0;have hfz22_1:=blk_frozen BK353.out 1;have hfz22_2:=blk_frozen BK353.out 2;have hfz22_3:=blk_frozen BK353.out 3)|((with_reducible refine gate_callee (f:=46) rfl ?_);refine goesL_ (some 35) rfl rfl Try.func46 (by kernel_rfl) rfl #[.pointer (some ⟨g348,0,none⟩)] rfl (by (try simp only [List.map_toArray,List.map_cons,List.map_nil]);first|done|rfl|(simp only [List.length_drop,List.length_take];rfl)) ?_;(with_reducible refine (node_take.calls g348 t350 t351 t352 t354 t355 t356 t357 t358 t359 w _ ?side1 ?side2 A15.out).mono ?_);(case side1=>repeat (first|(with_reducible first|exact HI348.out|apply IsS110.alloc|apply IsS110.drewN|apply IsS110.drew|apply IsS110.set_0|apply IsS110.set_1|apply IsS110.set_2|refine IsS110.far ?_ NB348_343.out _|refine IsS110.far ?_ NB348_353.out _)|exact HI348.out));(case side2=>repeat (first|(with_reducible first|exact HB.out|apply below_alloc|apply pw_below_drewN|apply below_drew1|refine below_set ?_ (IsS110.ge HI348.out)|refine below_set ?_ GE343.out|refine below_set ?_ GE353.out)|exact HB.out));rintro e w23 ⟨rfl,hi,hb,hk⟩;refine ⟨_,rfl,?_⟩;have n0_:=Aside0.mk (Kd.R_mono (Kd.R_keep (IsS110.apart (show IsS110 w _ g348 t350 t351 t352 from by repeat (first|(with_reducible first|exact HI348.out|apply IsS110.alloc|apply IsS110.drewN|apply IsS110.drew|apply IsS110.set_0|apply IsS110.set_1|apply IsS110.set_2|refine IsS110.far ?_ NB348_343.out _|refine IsS110.far ?_ NB348_353.out _)|exact HI348.out)) (by (with_reducible repeat (first|apply Kd.R_alloc|apply Kd.R_drewN|apply Kd.R_drew));exact (Kd.R_mono (Kd.R_far (p:=⟨gb353,3,none⟩) (Kd.R_far (p:=⟨gb353,2,none⟩) (Kd.R_far (p:=⟨gb353,1,none⟩) (Kd.R_far (p:=⟨gb353,0,none⟩) (Kd.R_mono HO_4.out (fun k_ hk=>(⟨hk,hk.2⟩ : _∧k_≠gb353))) (fun _ hk=>hk.2) (.int .u32 ((t349) % 4294967296))) (fun _ hk=>hk.2) (.string (⟨#[]⟩ : ByteArray))) (fun _ hk=>hk.2) (.int .u32 0)) (fun _ hk=>hk.2) (.int .i64 0)) (fun _ h_=>h_.1))) (by decide)) hk (fun _ h=>h.2)) (fun _ h=>h.1));have n1_:=Aside0.mk (KeepBut.blk hk (g':=gb343) (o:=.cells #[.int .u32 a0_0,.int .u64 a0_1,.int .i64 a0_2,.string a0_3,.slice (some ad344) l0_4.length c0_4] 28 (0,0)) (by (with_reducible repeat (first|refine blk_drewN ?_ _|refine blk_drew ?_|refine blk_alloc ?_ _));refine blk_far ?_ NB343_353.out _;(with_reducible repeat (first|refine blk_drewN ?_ _|refine blk_drew ?_|refine blk_alloc ?_ _));refine blk_far ?_ NB343_353.out _;(with_reducible repeat (first|refine blk_drewN ?_ _|refine blk_drew ?_|refine blk_alloc ?_ _));refine blk_far ?_ NB343_353.out _;(with_reducible repeat (first|refine blk_drewN ?_ _|refine blk_drew ?_|refine blk_alloc ?_ _));refine blk_far ?_ NB343_353.out _;(with_reducible repeat (first|refine blk_drewN ?_ _|refine blk_drew ?_|refine blk_alloc ?_ _));exact BK343.out) NB343_348.out (by simp));have n2_:=Aside0.mk (KeepBut.blk hk (g':=gb353) (o:=.cells #[.int .u32 ((t349) % 4294967296),.string (⟨#[]⟩ : ByteArray),.int .u32 0,.int .i64 0] 66 (0,0)) (by (with_reducible repeat (first|refine blk_drewN ?_ _|refine blk_drew ?_|refine blk_alloc ?_ _));refine blk_put (cs:=#[.int .u32 ((t349) % 4294967296),.string (⟨#[]⟩ : ByteArray),.int .u32 0,.int .i64 0]) ?_ 3 _ rfl;(with_reducible repeat (first|refine blk_drewN ?_ _|refine blk_drew ?_|refine blk_alloc ?_ _));refine blk_put (cs:=#[.int .u32 ((t349) % 4294967296),.string (⟨#[]⟩ : ByteArray),.int .u32 0,.int .i64 0]) ?_ 2 _ rfl;(with_reducible repeat (first|refine blk_drewN ?_ _|refine blk_drew ?_|refine blk_alloc ?_ _));refine blk_put (cs:=#[.int .u32 ((t349) % 4294967296),.string (⟨#[]⟩ : ByteArray),.int .u32 0,.int .i64 0]) ?_ 1 _ rfl;(with_reducible repeat (first|refine blk_drewN ?_ _|refine blk_drew ?_|refine blk_alloc ?_ _));refine blk_put (cs:=#[.int .u32 0,.string (⟨#[]⟩ : ByteArray),.int .u32 0,.int .i64 0]) ?_ 0 _ rfl;(with_reducible repeat (first|refine blk_drewN ?_ _|refine blk_drew ?_|refine blk_alloc ?_ _));exact BK353.out) NB353_348.out (by simp));have n3_:=Aside0.mk (hb);have n4_:=Aside0.mk (hi);clear HO_4;clear BK343;clear BK353;clear HB;clear HI348;have HO_4:=n0_;have BK343:=n1_;have BK353:=n2_;have HB:=n3_;have HI348:=n4_;clear n0_ n1_ n2_ n3_ n4_;(try clear hb);(try clear hb2);(try clear hk);(try clear hi);have hcz24_0 : w23.cell? ⟨gb353,0,none⟩=some (.int .u32 ((t349) % 4294967296)):=(blk_cell BK353.out 0).trans rfl;have hcz24_1 : w23.cell? ⟨gb353,1,none⟩=some (.string (⟨#[]⟩ : ByteArray)):=(blk_cell BK353.out 1).trans rfl;have hcz24_2 : w23.cell? ⟨gb353,2,none⟩=some (.int .u32 0):=(blk_cell BK353.out 2).trans rfl;have hcz24_3 : w23.cell? ⟨gb353,3,none⟩=some (.int .i64 0):=(blk_cell BK353.out 3).trans rfl;have hfz24_0:=blk_frozen BK353.out 0;have hfz24_1:=blk_frozen BK353.out 1;have hfz24_2:=blk_frozen BK353.out 2;have hfz24_3:=blk_frozen BK353.out 3)|((with_reducible refine gate_builtin (b:=.append) (xs:=#[.tmp 37,.tmp 39]) rfl ?_);(try (refine gate_guard (by rfl) ?_;dsimp only));at_builtin;refine Kd.R_append k66 (w0:=w) w.heap.size rfl (.tmp 37) (.tmp 39) 63 66 (.agg #[(.int .u32 0),(.string ⟨#[]⟩),(.int .u32 0),(.int .i64 0)]) 40 rfl Try.underlying63 info66 rfl (by decide) (by omega) u4 x4_2 (⟨(t349) % 4294967296,(⟨t354,(⟨t355,t356⟩ : S41)⟩ : S43)⟩ : S66) [.int .u32 ((t349) % 4294967296),.string t354,.int .u32 t355,.int .i64 t356] (fun k_=>k_≠gb353) (fun _=>False) rfl (by first|(go_simp;done)|(go_simp;rfl)) ?aP (fun _ hk=>hk.elim) ?aF ?aO ?aB ?aS ?aL ?_;(case aP=>exact k66_mkM _ _ _ (⟨(t349) % 4294967296,(⟨t354,(⟨t355,t356⟩ : S41)⟩ : S43)⟩ : S66));(case aB=>exact (by repeat (first|(with_reducible first|exact HB.out|apply below_alloc|apply pw_below_drewN|apply below_drew1|refine below_set ?_ (IsS110.ge HI348.out)|refine below_set ?_ GE343.out|refine below_set ?_ GE353.out)|exact HB.out)));(case aF=>exact (fun k_ hk=>Kd.freshB (g:=gb353) (o:=.cells #[.int .u32 ((t349) % 4294967296),.string t354,.int .u32 t355,.int .i64 t356] 66 (0,0)) (by (with_reducible repeat (first|refine blk_drewN ?_ _|refine blk_drew ?_|refine blk_alloc ?_ _));refine blk_put (cs:=#[.int .u32 ((t349) % 4294967296),.string t354,.int .u32 t355,.int .i64 0]) ?_ 3 _ rfl;(with_reducible repeat (first|refine blk_drewN ?_ _|refine blk_drew ?_|refine blk_alloc ?_ _));refine blk_put (cs:=#[.int .u32 ((t349) % 4294967296),.string t354,.int .u32 0,.int .i64 0]) ?_ 2 _ rfl;(with_reducible repeat (first|refine blk_drewN ?_ _|refine blk_drew ?_|refine blk_alloc ?_ _));refine blk_put (cs:=#[.int .u32 ((t349) % 4294967296),.string (⟨#[]⟩ : ByteArray),.int .u32 0,.int .i64 0]) ?_ 1 _ rfl;(with_reducible repeat (first|refine blk_drewN ?_ _|refine blk_drew ?_|refine blk_alloc ?_ _));exact BK353.out) k_ hk));(case aO=>exact (by (with_reducible repeat (first|apply Kd.R_alloc|apply Kd.R_drewN|apply Kd.R_drew));exact Kd.R_mono (Kd.R_far (p:=⟨gb353,3,none⟩) (Kd.R_far (p:=⟨gb353,2,none⟩) (Kd.R_far (p:=⟨gb353,1,none⟩) (Kd.R_mono HO_4.out (fun k_ hk=>(⟨hk,hk.2⟩ : _∧k_≠gb353))) (fun _ hk=>hk.2) (.string t354)) (fun _ hk=>hk.2) (.int .u32 t355)) (fun _ hk=>hk.2) (.int .i64 t356)) (fun _ hk=>hk.1.2)));(case aS=>exact (below_size (by repeat (first|(with_reducible first|exact HB.out|apply below_alloc|apply pw_below_drewN|apply below_drew1|refine below_set ?_ (IsS110.ge HI348.out)|refine below_set ?_ GE343.out|refine below_set ?_ GE353.out)|exact HB.out))));(case aL=>have:=LMc16.out;omega);intro v361 w25 ho hb hg hat;rw [← Ny360.out] at ho;have n0_:=Aside0.mk (blk_grown (g:=gb343) (o:=.cells #[.int .u32 a0_0,.int .u64 a0_1,.int .i64 a0_2,.string a0_3,.slice (some ad344) l0_4.length c0_4] 28 (0,0)) (by (with_reducible repeat (first|refine blk_drewN ?_ _|refine blk_drew ?_|refine blk_alloc ?_ _));refine blk_far ?_ NB343_353.out _;(with_reducible repeat (first|refine blk_drewN ?_ _|refine blk_drew ?_|refine blk_alloc ?_ _));refine blk_far ?_ NB343_353.out _;(with_reducible repeat (first|refine blk_drewN ?_ _|refine blk_drew ?_|refine blk_alloc ?_ _));refine blk_far ?_ NB343_353.out _;(with_reducible repeat (first|refine blk_drewN ?_ _|refine blk_drew ?_|refine blk_alloc ?_ _));exact BK343.out) hg (Kd.R_ne HO_4.out BK343.out (by decide)));have n1_:=Aside0.mk (IsS110.grown (show IsS110 w _ g348 t357 t358 t359 from by repeat (first|(with_reducible first|exact HI348.out|apply IsS110.alloc|apply IsS110.drewN|apply IsS110.drew|apply IsS110.set_0|apply IsS110.set_1|apply IsS110.set_2|refine IsS110.far ?_ NB348_343.out _|refine IsS110.far ?_ NB348_353.out _)|exact HI348.out)) hg (IsS110.own_ne HI348.out HO_4.out (by decide)));have n2_:=Aside0.mk (blk_grown (g:=gb353) (o:=.cells #[.int .u32 ((t349) % 4294967296),.string t354,.int .u32 t355,.int .i64 t356] 66 (0,0)) (by (with_reducible repeat (first|refine blk_drewN ?_ _|refine blk_drew ?_|refine blk_alloc ?_ _));refine blk_put (cs:=#[.int .u32 ((t349) % 4294967296),.string t354,.int .u32 t355,.int .i64 0]) ?_ 3 _ rfl;(with_reducible repeat (first|refine blk_drewN ?_ _|refine blk_drew ?_|refine blk_alloc ?_ _));refine blk_put (cs:=#[.int .u32 ((t349) % 4294967296),.string t354,.int .u32 0,.int .i64 0]) ?_ 2 _ rfl;(with_reducible repeat (first|refine blk_drewN ?_ _|refine blk_drew ?_|refine blk_alloc ?_ _));refine blk_put (cs:=#[.int .u32 ((t349) % 4294967296),.string (⟨#[]⟩ : ByteArray),.int .u32 0,.int .i64 0]) ?_ 1 _ rfl;(with_reducible repeat (first|refine blk_drewN ?_ _|refine blk_drew ?_|refine blk_alloc ?_ _));exact BK353.out) hg (Kd.R_away HO_4.out (fun _ hk=>hk.2)));have n3_:=Aside0.mk (hb);have n4_:=Aside0.mk (ho);clear BK343;clear HI348;clear BK353;clear HB;clear HO_4;have BK343:=n0_;have HI348:=n1_;have BK353:=n2_;have HB:=n3_;have HO362:=n4_;clear n0_ n1_ n2_ n3_ n4_;clear ho hb hg hat))
           go_roundg k2
           case measure=>have:=HJ1.out;have:=HK2.out;omega
           case rel=>exact ⟨(y360),(wrap64 (x21_2 + 1)),(by first|rfl|(simp;done)|(simp [*];done)),H',⟨by have:=HJ1.out;have:=HK2.out;omega⟩,⟨by (with_reducible repeat (first|apply Kd.R_alloc|apply Kd.R_drewN|apply Kd.R_drew));exact Kd.R_mono HO362.out (fun _ hk=>trivial)⟩,⟨by (with_reducible repeat (first|refine blk_drewN ?_ _|refine blk_drew ?_|refine blk_alloc ?_ _));exact BK343.out⟩,⟨by repeat (first|(with_reducible first|exact HB.out|apply below_alloc|apply pw_below_drewN|apply below_drew1|refine below_set ?_ (IsS110.ge HI348.out)|refine below_set ?_ GE343.out|refine below_set ?_ GE353.out)|exact HB.out)⟩⟩
          ·rw [if_neg c16] at H
           exact absurd H (by simp)
        ·rw [if_neg c11] at H
         exact absurd H (by simp)
       ·rw [if_neg c10] at H
        exact absurd H (by simp)
      ·rw [if_neg c9] at H
       have c9b0 : decide (x21_2 < (l0_4.length : Int))=false:=decide_eq_false c9
       clear c9
       simp only [Option.some.injEq,Prod.mk.injEq] at H
       obtain ⟨rfl,rfl⟩:=H
       go_wp2
       go_ret2
       exact ⟨_,by first|rfl|(simp [errW_none,errW_some] <;> rfl)|(simp [*,errW_none,errW_some] <;> rfl),by (with_reducible repeat (first|apply Kd.R_alloc|apply Kd.R_drewN|apply Kd.R_drew));exact HO_4.out,by repeat (first|(with_reducible first|exact HB.out|apply below_alloc|apply pw_below_drewN|apply below_drew1|refine below_set ?_ GE343.out)|exact HB.out)⟩
end Go.Proofs.Ytfegabikfkmepaa.PNe
end
