import Derived.Test.YteokjmjfjdgmpaaCCodes0
section
namespace Go.Proofs.Yteokjmjfjdgmpaa.PPg
open Go.RowKit Go.Proofs.YteokjmjfjdgmpaaW.PrintWords Go.Proofs.YteokjmjfjdgmpaaW.PrintLast Go.Proofs.YteokjmjfjdgmpaaW.PrintMore
attribute [local go_sem] max2_int min2_int max_two min_two max_three min_three max_four min_four
set_option linter.unusedVariables false
set_option linter.unusedSimpArgs false
def raw_Reader_Bytes.f (s0_0 : ByteArray) (s0_1 : Int) (s0_2 : Int) (a1 : Int) : Option (ByteArray × ByteArray × Int × Int):=(raw_Reader_Err.f s0_0 s0_1 s0_2).bind fun bt108=>(if bt108.1=0 then (if a1 < 0 then (some ((⟨#[]⟩ : ByteArray),bt108.2.1,bt108.2.2.1,1)) else (if (wrap64 ((bt108.2.1.size : Int) - bt108.2.2.1)) < a1 then (some ((⟨#[]⟩ : ByteArray),bt108.2.1,bt108.2.2.1,4)) else (if 0≤(wrap64 ((wrap64 (bt108.2.2.1 + a1)) - a1)) then (if (wrap64 ((wrap64 (bt108.2.2.1 + a1)) - a1))≤(wrap64 (bt108.2.2.1 + a1)) then (if (wrap64 (bt108.2.2.1 + a1))≤(bt108.2.1.size : Int) then (some (bt108.2.1.extract ((wrap64 ((wrap64 (bt108.2.2.1 + a1)) - a1)) : Int).toNat ((wrap64 (bt108.2.2.1 + a1)) : Int).toNat,bt108.2.1,wrap64 (bt108.2.2.1 + a1),bt108.2.2.2)) else (none)) else (none)) else (none)))) else (some ((⟨#[]⟩ : ByteArray),bt108.2.1,bt108.2.2.1,bt108.2.2.2)))
set_option maxHeartbeats 8000000 in
set_option maxRecDepth 100000 in
theorem raw_Reader_Bytes.calls (g : Nat) (s0_0 : ByteArray) (s0_1 : Int) (s0_2 : Int) (a1 : Int) (r1 : ByteArray) (r2 : ByteArray) (r3 : Int) (r4 : Int) (w0 w : World) (hI : IsS114 w0 w g s0_0 s0_1 s0_2) (hB : Below w0.heap.size w0 w) (h : raw_Reader_Bytes.f s0_0 s0_1 s0_2 a1=some (r1,r2,r3,r4)) :
  Calls Try.prog 41 #[.pointer (some ⟨g,0,none⟩),.int .i64 a1] w fun e w'=>e=.returned (.string r1)∧IsS114 w0 w' g r2 r3 r4∧Below w0.heap.size w0 w'∧KeepBut w w' g none:=by
 have HI0:=Aside0.mk hI
 have HK:=Aside0.mk (KeepBut.refl w g none)
 have HL:=Aside0.mk hB.size
 clear hI
 have HW0:=Aside0.mk hB.size
 have HB:=Aside0.mk hB
 clear hB
 have H : ((raw_Reader_Err.f s0_0 s0_1 s0_2).bind fun bt108=>(if bt108.1=0 then (if a1 < 0 then (some ((⟨#[]⟩ : ByteArray),bt108.2.1,bt108.2.2.1,1)) else (if (wrap64 ((bt108.2.1.size : Int) - bt108.2.2.1)) < a1 then (some ((⟨#[]⟩ : ByteArray),bt108.2.1,bt108.2.2.1,4)) else (if 0≤(wrap64 ((wrap64 (bt108.2.2.1 + a1)) - a1)) then (if (wrap64 ((wrap64 (bt108.2.2.1 + a1)) - a1))≤(wrap64 (bt108.2.2.1 + a1)) then (if (wrap64 (bt108.2.2.1 + a1))≤(bt108.2.1.size : Int) then (some (bt108.2.1.extract ((wrap64 ((wrap64 (bt108.2.2.1 + a1)) - a1)) : Int).toNat ((wrap64 (bt108.2.2.1 + a1)) : Int).toNat,bt108.2.1,wrap64 (bt108.2.2.1 + a1),bt108.2.2.2)) else (none)) else (none)) else (none)))) else (some ((⟨#[]⟩ : ByteArray),bt108.2.1,bt108.2.2.1,bt108.2.2.2))))=some (r1,r2,r3,r4):=h
 clear h
 replace H:=Option.bind_eq_some_iff.mp H
 obtain ⟨⟨t108,t109,t110,t111⟩,A30,H⟩:=H
 replace H : (if t108=0 then (if a1 < 0 then (some ((⟨#[]⟩ : ByteArray),t109,t110,1)) else (if (wrap64 ((t109.size : Int) - t110)) < a1 then (some ((⟨#[]⟩ : ByteArray),t109,t110,4)) else (if 0≤(wrap64 ((wrap64 (t110 + a1)) - a1)) then (if (wrap64 ((wrap64 (t110 + a1)) - a1))≤(wrap64 (t110 + a1)) then (if (wrap64 (t110 + a1))≤(t109.size : Int) then (some (t109.extract ((wrap64 ((wrap64 (t110 + a1)) - a1)) : Int).toNat ((wrap64 (t110 + a1)) : Int).toNat,t109,wrap64 (t110 + a1),t111)) else (none)) else (none)) else (none)))) else (some ((⟨#[]⟩ : ByteArray),t109,t110,t111)))=some (r1,r2,r3,r4):=H
 have A3:=Aside0.mk A30
 clear A30
 by_cases c4 : t108=0
 ·rw [if_pos c4] at H
  have c4b0 : (t108 == 0)=true:=beq_iff_eq.mpr c4
  have c4b1 : (t108 != 0)=false:=bne_eq_false_iff_eq.mpr c4
  clear c4
  by_cases c5 : a1 < 0
  ·rw [if_pos c5] at H
   have c5b0 : decide (a1 < 0)=true:=decide_eq_true c5
   clear c5
   simp only [Option.some.injEq,Prod.mk.injEq] at H
   obtain ⟨rfl,rfl,rfl,rfl⟩:=H
   go_enter Try.func41,Try.ntmps41
   go_wp2_with (first|(go_at_call 42;(with_reducible refine (raw_Reader_Err.calls g s0_0 s0_1 s0_2 t108 t109 t110 t111 w0 _ ?side1 ?side2 A3.out).mono ?_);(case side1=>repeat (first|(with_reducible first|exact HI0.out|apply IsS114.alloc|apply IsS114.drewN|apply IsS114.drew|apply IsS114.set_0|apply IsS114.set_1|apply IsS114.set_2)|exact HI0.out));(case side2=>repeat (first|(with_reducible first|exact HB.out|apply below_alloc|apply pw_below_drewN|apply below_drew1|refine below_set ?_ (IsS114.ge HI0.out))|exact HB.out));rintro e w6 ⟨rfl,hi,hb,hk⟩;have n0_:=Aside0.mk (KeepBut.trans (by repeat (first|(with_reducible first|exact HK.out|apply KeepBut.set_|apply keep_drewN|apply keep_drew|apply keep_alloc)|exact HK.out)) hk (.inl rfl));have n1_:=Aside0.mk (hb);have n2_:=Aside0.mk (hi);clear HK;clear HB;clear HI0;have HK:=n0_;have HB:=n1_;have HI0:=n2_;clear n0_ n1_ n2_;(try clear hb);(try clear hb2);(try clear hk);(try clear hi);obtain ⟨HGz7,hgz7⟩:=HI0.out;have hcz7_0:=cellS114_0 HGz7;have hcz7_1:=cellS114_1 HGz7;have hcz7_2:=cellS114_2 HGz7;have hfz7_0:=blk_frozen HGz7 0;have hfz7_1:=blk_frozen HGz7 1;have hfz7_2:=blk_frozen HGz7 2;clear HGz7 hgz7))
   repeat (go_quiet (first|(go_at_call 42;(with_reducible refine (raw_Reader_Err.calls g s0_0 s0_1 s0_2 t108 t109 t110 t111 w0 _ ?side1 ?side2 A3.out).mono ?_);(case side1=>repeat (first|(with_reducible first|exact HI0.out|apply IsS114.alloc|apply IsS114.drewN|apply IsS114.drew|apply IsS114.set_0|apply IsS114.set_1|apply IsS114.set_2)|exact HI0.out));(case side2=>repeat (first|(with_reducible first|exact HB.out|apply below_alloc|apply pw_below_drewN|apply below_drew1|refine below_set ?_ (IsS114.ge HI0.out))|exact HB.out));rintro e w6 ⟨rfl,hi,hb,hk⟩;have n0_:=Aside0.mk (KeepBut.trans (by repeat (first|(with_reducible first|exact HK.out|apply KeepBut.set_|apply keep_drewN|apply keep_drew|apply keep_alloc)|exact HK.out)) hk (.inl rfl));have n1_:=Aside0.mk (hb);have n2_:=Aside0.mk (hi);clear HK;clear HB;clear HI0;have HK:=n0_;have HB:=n1_;have HI0:=n2_;clear n0_ n1_ n2_;(try clear hb);(try clear hb2);(try clear hk);(try clear hi);obtain ⟨HGz7,hgz7⟩:=HI0.out;have hcz7_0:=cellS114_0 HGz7;have hcz7_1:=cellS114_1 HGz7;have hcz7_2:=cellS114_2 HGz7;have hfz7_0:=blk_frozen HGz7 0;have hfz7_1:=blk_frozen HGz7 1;have hfz7_2:=blk_frozen HGz7 2;clear HGz7 hgz7));try go_wp2_with (first|(go_at_call 42;(with_reducible refine (raw_Reader_Err.calls g s0_0 s0_1 s0_2 t108 t109 t110 t111 w0 _ ?side1 ?side2 A3.out).mono ?_);(case side1=>repeat (first|(with_reducible first|exact HI0.out|apply IsS114.alloc|apply IsS114.drewN|apply IsS114.drew|apply IsS114.set_0|apply IsS114.set_1|apply IsS114.set_2)|exact HI0.out));(case side2=>repeat (first|(with_reducible first|exact HB.out|apply below_alloc|apply pw_below_drewN|apply below_drew1|refine below_set ?_ (IsS114.ge HI0.out))|exact HB.out));rintro e w6 ⟨rfl,hi,hb,hk⟩;have n0_:=Aside0.mk (KeepBut.trans (by repeat (first|(with_reducible first|exact HK.out|apply KeepBut.set_|apply keep_drewN|apply keep_drew|apply keep_alloc)|exact HK.out)) hk (.inl rfl));have n1_:=Aside0.mk (hb);have n2_:=Aside0.mk (hi);clear HK;clear HB;clear HI0;have HK:=n0_;have HB:=n1_;have HI0:=n2_;clear n0_ n1_ n2_;(try clear hb);(try clear hb2);(try clear hk);(try clear hi);obtain ⟨HGz7,hgz7⟩:=HI0.out;have hcz7_0:=cellS114_0 HGz7;have hcz7_1:=cellS114_1 HGz7;have hcz7_2:=cellS114_2 HGz7;have hfz7_0:=blk_frozen HGz7 0;have hfz7_1:=blk_frozen HGz7 1;have hfz7_2:=blk_frozen HGz7 2;clear HGz7 hgz7)))
   go_ret
   exact ⟨by first|rfl|(simp [errW_none,errW_some] <;> rfl)|(simp [*,errW_none,errW_some] <;> rfl),by repeat (first|(with_reducible first|exact HI0.out|apply IsS114.alloc|apply IsS114.drewN|apply IsS114.drew|apply IsS114.set_0|apply IsS114.set_1|apply IsS114.set_2)|exact HI0.out),by repeat (first|(with_reducible first|exact HB.out|apply below_alloc|apply pw_below_drewN|apply below_drew1|refine below_set ?_ (IsS114.ge HI0.out))|exact HB.out),by repeat (first|(with_reducible first|exact HK.out|apply KeepBut.set_|apply keep_drewN|apply keep_drew|apply keep_alloc)|exact HK.out)⟩
  ·rw [if_neg c5] at H
   have c5b0 : decide (a1 < 0)=false:=decide_eq_false c5
   clear c5
   by_cases c8 : (wrap64 ((t109.size : Int) - t110)) < a1
   ·rw [if_pos c8] at H
    have c8b0 : decide ((wrap64 ((t109.size : Int) - t110)) < a1)=true:=decide_eq_true c8
    clear c8
    simp only [Option.some.injEq,Prod.mk.injEq] at H
    obtain ⟨rfl,rfl,rfl,rfl⟩:=H
    go_enter Try.func41,Try.ntmps41
    go_wp2_with (first|(go_at_call 42;(with_reducible refine (raw_Reader_Err.calls g s0_0 s0_1 s0_2 t108 t109 t110 t111 w0 _ ?side1 ?side2 A3.out).mono ?_);(case side1=>repeat (first|(with_reducible first|exact HI0.out|apply IsS114.alloc|apply IsS114.drewN|apply IsS114.drew|apply IsS114.set_0|apply IsS114.set_1|apply IsS114.set_2)|exact HI0.out));(case side2=>repeat (first|(with_reducible first|exact HB.out|apply below_alloc|apply pw_below_drewN|apply below_drew1|refine below_set ?_ (IsS114.ge HI0.out))|exact HB.out));rintro e w9 ⟨rfl,hi,hb,hk⟩;have n0_:=Aside0.mk (KeepBut.trans (by repeat (first|(with_reducible first|exact HK.out|apply KeepBut.set_|apply keep_drewN|apply keep_drew|apply keep_alloc)|exact HK.out)) hk (.inl rfl));have n1_:=Aside0.mk (hb);have n2_:=Aside0.mk (hi);clear HK;clear HB;clear HI0;have HK:=n0_;have HB:=n1_;have HI0:=n2_;clear n0_ n1_ n2_;(try clear hb);(try clear hb2);(try clear hk);(try clear hi);obtain ⟨HGz10,hgz10⟩:=HI0.out;have hcz10_0:=cellS114_0 HGz10;have hcz10_1:=cellS114_1 HGz10;have hcz10_2:=cellS114_2 HGz10;have hfz10_0:=blk_frozen HGz10 0;have hfz10_1:=blk_frozen HGz10 1;have hfz10_2:=blk_frozen HGz10 2;clear HGz10 hgz10))
    repeat (go_quiet (first|(go_at_call 42;(with_reducible refine (raw_Reader_Err.calls g s0_0 s0_1 s0_2 t108 t109 t110 t111 w0 _ ?side1 ?side2 A3.out).mono ?_);(case side1=>repeat (first|(with_reducible first|exact HI0.out|apply IsS114.alloc|apply IsS114.drewN|apply IsS114.drew|apply IsS114.set_0|apply IsS114.set_1|apply IsS114.set_2)|exact HI0.out));(case side2=>repeat (first|(with_reducible first|exact HB.out|apply below_alloc|apply pw_below_drewN|apply below_drew1|refine below_set ?_ (IsS114.ge HI0.out))|exact HB.out));rintro e w9 ⟨rfl,hi,hb,hk⟩;have n0_:=Aside0.mk (KeepBut.trans (by repeat (first|(with_reducible first|exact HK.out|apply KeepBut.set_|apply keep_drewN|apply keep_drew|apply keep_alloc)|exact HK.out)) hk (.inl rfl));have n1_:=Aside0.mk (hb);have n2_:=Aside0.mk (hi);clear HK;clear HB;clear HI0;have HK:=n0_;have HB:=n1_;have HI0:=n2_;clear n0_ n1_ n2_;(try clear hb);(try clear hb2);(try clear hk);(try clear hi);obtain ⟨HGz10,hgz10⟩:=HI0.out;have hcz10_0:=cellS114_0 HGz10;have hcz10_1:=cellS114_1 HGz10;have hcz10_2:=cellS114_2 HGz10;have hfz10_0:=blk_frozen HGz10 0;have hfz10_1:=blk_frozen HGz10 1;have hfz10_2:=blk_frozen HGz10 2;clear HGz10 hgz10));try go_wp2_with (first|(go_at_call 42;(with_reducible refine (raw_Reader_Err.calls g s0_0 s0_1 s0_2 t108 t109 t110 t111 w0 _ ?side1 ?side2 A3.out).mono ?_);(case side1=>repeat (first|(with_reducible first|exact HI0.out|apply IsS114.alloc|apply IsS114.drewN|apply IsS114.drew|apply IsS114.set_0|apply IsS114.set_1|apply IsS114.set_2)|exact HI0.out));(case side2=>repeat (first|(with_reducible first|exact HB.out|apply below_alloc|apply pw_below_drewN|apply below_drew1|refine below_set ?_ (IsS114.ge HI0.out))|exact HB.out));rintro e w9 ⟨rfl,hi,hb,hk⟩;have n0_:=Aside0.mk (KeepBut.trans (by repeat (first|(with_reducible first|exact HK.out|apply KeepBut.set_|apply keep_drewN|apply keep_drew|apply keep_alloc)|exact HK.out)) hk (.inl rfl));have n1_:=Aside0.mk (hb);have n2_:=Aside0.mk (hi);clear HK;clear HB;clear HI0;have HK:=n0_;have HB:=n1_;have HI0:=n2_;clear n0_ n1_ n2_;(try clear hb);(try clear hb2);(try clear hk);(try clear hi);obtain ⟨HGz10,hgz10⟩:=HI0.out;have hcz10_0:=cellS114_0 HGz10;have hcz10_1:=cellS114_1 HGz10;have hcz10_2:=cellS114_2 HGz10;have hfz10_0:=blk_frozen HGz10 0;have hfz10_1:=blk_frozen HGz10 1;have hfz10_2:=blk_frozen HGz10 2;clear HGz10 hgz10)))
    go_ret
    exact ⟨by first|rfl|(simp [errW_none,errW_some] <;> rfl)|(simp [*,errW_none,errW_some] <;> rfl),by repeat (first|(with_reducible first|exact HI0.out|apply IsS114.alloc|apply IsS114.drewN|apply IsS114.drew|apply IsS114.set_0|apply IsS114.set_1|apply IsS114.set_2)|exact HI0.out),by repeat (first|(with_reducible first|exact HB.out|apply below_alloc|apply pw_below_drewN|apply below_drew1|refine below_set ?_ (IsS114.ge HI0.out))|exact HB.out),by repeat (first|(with_reducible first|exact HK.out|apply KeepBut.set_|apply keep_drewN|apply keep_drew|apply keep_alloc)|exact HK.out)⟩
   ·rw [if_neg c8] at H
    have c8b0 : decide ((wrap64 ((t109.size : Int) - t110)) < a1)=false:=decide_eq_false c8
    clear c8
    obtain ⟨ji11,hji11⟩ : ∃ j_ : Int,(wrap64 ((wrap64 (t110 + a1)) - a1))=j_:=⟨_,rfl⟩
    replace H : (if 0≤(ji11) then (if (ji11)≤(wrap64 (t110 + a1)) then (if (wrap64 (t110 + a1))≤(t109.size : Int) then (some (t109.extract ((ji11) : Int).toNat ((wrap64 (t110 + a1)) : Int).toNat,t109,wrap64 (t110 + a1),t111)) else (none)) else (none)) else (none))=some (r1,r2,r3,r4):=by first|(rw [hji11] at H;exact H)|(simp only [hji11] at H ⊢;exact H)
    (try rw [hji11] at A3)
    have hji11w : (IntKind.i64.wrap ((wrap64 (t110 + a1)) - a1))=ji11:=(i64_w _).trans hji11
    by_cases c12 : 0≤(ji11)
    ·rw [if_pos c12] at H
     have c12b0:=eq_true c12
     have c12b1 : decide (0≤(ji11))=true:=decide_eq_true c12
     clear c12
     by_cases c13 : (ji11)≤(wrap64 (t110 + a1))
     ·rw [if_pos c13] at H
      have c13b0:=eq_true c13
      have c13b1 : decide ((ji11)≤(wrap64 (t110 + a1)))=true:=decide_eq_true c13
      by_cases c14 : (wrap64 (t110 + a1))≤(t109.size : Int)
      ·rw [if_pos c14] at H
       have c14b0:=eq_true c14
       have c14b1 : decide ((wrap64 (t110 + a1))≤(t109.size : Int))=true:=decide_eq_true c14
       simp only [Option.some.injEq,Prod.mk.injEq] at H
       obtain ⟨rfl,rfl,rfl,rfl⟩:=H
       go_enter Try.func41,Try.ntmps41
       go_wp2_with (first|(go_at_call 42;(with_reducible refine (raw_Reader_Err.calls g s0_0 s0_1 s0_2 t108 t109 t110 t111 w0 _ ?side1 ?side2 A3.out).mono ?_);(case side1=>repeat (first|(with_reducible first|exact HI0.out|apply IsS114.alloc|apply IsS114.drewN|apply IsS114.drew|apply IsS114.set_0|apply IsS114.set_1|apply IsS114.set_2)|exact HI0.out));(case side2=>repeat (first|(with_reducible first|exact HB.out|apply below_alloc|apply pw_below_drewN|apply below_drew1|refine below_set ?_ (IsS114.ge HI0.out))|exact HB.out));rintro e w15 ⟨rfl,hi,hb,hk⟩;have n0_:=Aside0.mk (KeepBut.trans (by repeat (first|(with_reducible first|exact HK.out|apply KeepBut.set_|apply keep_drewN|apply keep_drew|apply keep_alloc)|exact HK.out)) hk (.inl rfl));have n1_:=Aside0.mk (hb);have n2_:=Aside0.mk (hi);clear HK;clear HB;clear HI0;have HK:=n0_;have HB:=n1_;have HI0:=n2_;clear n0_ n1_ n2_;(try clear hb);(try clear hb2);(try clear hk);(try clear hi);obtain ⟨HGz16,hgz16⟩:=HI0.out;have hcz16_0:=cellS114_0 HGz16;have hcz16_1:=cellS114_1 HGz16;have hcz16_2:=cellS114_2 HGz16;have hfz16_0:=blk_frozen HGz16 0;have hfz16_1:=blk_frozen HGz16 1;have hfz16_2:=blk_frozen HGz16 2;clear HGz16 hgz16))
       repeat (go_quiet (first|(go_at_call 42;(with_reducible refine (raw_Reader_Err.calls g s0_0 s0_1 s0_2 t108 t109 t110 t111 w0 _ ?side1 ?side2 A3.out).mono ?_);(case side1=>repeat (first|(with_reducible first|exact HI0.out|apply IsS114.alloc|apply IsS114.drewN|apply IsS114.drew|apply IsS114.set_0|apply IsS114.set_1|apply IsS114.set_2)|exact HI0.out));(case side2=>repeat (first|(with_reducible first|exact HB.out|apply below_alloc|apply pw_below_drewN|apply below_drew1|refine below_set ?_ (IsS114.ge HI0.out))|exact HB.out));rintro e w15 ⟨rfl,hi,hb,hk⟩;have n0_:=Aside0.mk (KeepBut.trans (by repeat (first|(with_reducible first|exact HK.out|apply KeepBut.set_|apply keep_drewN|apply keep_drew|apply keep_alloc)|exact HK.out)) hk (.inl rfl));have n1_:=Aside0.mk (hb);have n2_:=Aside0.mk (hi);clear HK;clear HB;clear HI0;have HK:=n0_;have HB:=n1_;have HI0:=n2_;clear n0_ n1_ n2_;(try clear hb);(try clear hb2);(try clear hk);(try clear hi);obtain ⟨HGz16,hgz16⟩:=HI0.out;have hcz16_0:=cellS114_0 HGz16;have hcz16_1:=cellS114_1 HGz16;have hcz16_2:=cellS114_2 HGz16;have hfz16_0:=blk_frozen HGz16 0;have hfz16_1:=blk_frozen HGz16 1;have hfz16_2:=blk_frozen HGz16 2;clear HGz16 hgz16));try go_wp2_with (first|(go_at_call 42;(with_reducible refine (raw_Reader_Err.calls g s0_0 s0_1 s0_2 t108 t109 t110 t111 w0 _ ?side1 ?side2 A3.out).mono ?_);(case side1=>repeat (first|(with_reducible first|exact HI0.out|apply IsS114.alloc|apply IsS114.drewN|apply IsS114.drew|apply IsS114.set_0|apply IsS114.set_1|apply IsS114.set_2)|exact HI0.out));(case side2=>repeat (first|(with_reducible first|exact HB.out|apply below_alloc|apply pw_below_drewN|apply below_drew1|refine below_set ?_ (IsS114.ge HI0.out))|exact HB.out));rintro e w15 ⟨rfl,hi,hb,hk⟩;have n0_:=Aside0.mk (KeepBut.trans (by repeat (first|(with_reducible first|exact HK.out|apply KeepBut.set_|apply keep_drewN|apply keep_drew|apply keep_alloc)|exact HK.out)) hk (.inl rfl));have n1_:=Aside0.mk (hb);have n2_:=Aside0.mk (hi);clear HK;clear HB;clear HI0;have HK:=n0_;have HB:=n1_;have HI0:=n2_;clear n0_ n1_ n2_;(try clear hb);(try clear hb2);(try clear hk);(try clear hi);obtain ⟨HGz16,hgz16⟩:=HI0.out;have hcz16_0:=cellS114_0 HGz16;have hcz16_1:=cellS114_1 HGz16;have hcz16_2:=cellS114_2 HGz16;have hfz16_0:=blk_frozen HGz16 0;have hfz16_1:=blk_frozen HGz16 1;have hfz16_2:=blk_frozen HGz16 2;clear HGz16 hgz16)))
       go_ret
       exact ⟨by first|rfl|(simp [errW_none,errW_some] <;> rfl)|(simp only [← hji11];first|rfl|(simp [errW_none,errW_some] <;> rfl))|(simp [*,errW_none,errW_some] <;> rfl),by repeat (first|(with_reducible first|exact HI0.out|apply IsS114.alloc|apply IsS114.drewN|apply IsS114.drew|apply IsS114.set_0|apply IsS114.set_1|apply IsS114.set_2)|exact HI0.out),by repeat (first|(with_reducible first|exact HB.out|apply below_alloc|apply pw_below_drewN|apply below_drew1|refine below_set ?_ (IsS114.ge HI0.out))|exact HB.out),by repeat (first|(with_reducible first|exact HK.out|apply KeepBut.set_|apply keep_drewN|apply keep_drew|apply keep_alloc)|exact HK.out)⟩
      ·rw [if_neg c14] at H
       exact absurd H (by simp)
     ·rw [if_neg c13] at H
      exact absurd H (by simp)
    ·rw [if_neg c12] at H
     exact absurd H (by simp)
 ·rw [if_neg c4] at H
  have c4b0 : (t108 == 0)=false:=beq_eq_false_iff_ne.mpr c4
  have c4b1 : (t108 != 0)=true:=bne_iff_ne.mpr c4
  simp only [Option.some.injEq,Prod.mk.injEq] at H
  obtain ⟨rfl,rfl,rfl,rfl⟩:=H
  go_enter Try.func41,Try.ntmps41
  go_wp2_with (first|(go_at_call 42;(with_reducible refine (raw_Reader_Err.calls g s0_0 s0_1 s0_2 t108 t109 t110 t111 w0 _ ?side1 ?side2 A3.out).mono ?_);(case side1=>repeat (first|(with_reducible first|exact HI0.out|apply IsS114.alloc|apply IsS114.drewN|apply IsS114.drew|apply IsS114.set_0|apply IsS114.set_1|apply IsS114.set_2)|exact HI0.out));(case side2=>repeat (first|(with_reducible first|exact HB.out|apply below_alloc|apply pw_below_drewN|apply below_drew1|refine below_set ?_ (IsS114.ge HI0.out))|exact HB.out));rintro e w17 ⟨rfl,hi,hb,hk⟩;have n0_:=Aside0.mk (KeepBut.trans (by repeat (first|(with_reducible first|exact HK.out|apply KeepBut.set_|apply keep_drewN|apply keep_drew|apply keep_alloc)|exact HK.out)) hk (.inl rfl));have n1_:=Aside0.mk (hb);have n2_:=Aside0.mk (hi);clear HK;clear HB;clear HI0;have HK:=n0_;have HB:=n1_;have HI0:=n2_;clear n0_ n1_ n2_;(try clear hb);(try clear hb2);(try clear hk);(try clear hi)))
  repeat (go_quiet (first|(go_at_call 42;(with_reducible refine (raw_Reader_Err.calls g s0_0 s0_1 s0_2 t108 t109 t110 t111 w0 _ ?side1 ?side2 A3.out).mono ?_);(case side1=>repeat (first|(with_reducible first|exact HI0.out|apply IsS114.alloc|apply IsS114.drewN|apply IsS114.drew|apply IsS114.set_0|apply IsS114.set_1|apply IsS114.set_2)|exact HI0.out));(case side2=>repeat (first|(with_reducible first|exact HB.out|apply below_alloc|apply pw_below_drewN|apply below_drew1|refine below_set ?_ (IsS114.ge HI0.out))|exact HB.out));rintro e w17 ⟨rfl,hi,hb,hk⟩;have n0_:=Aside0.mk (KeepBut.trans (by repeat (first|(with_reducible first|exact HK.out|apply KeepBut.set_|apply keep_drewN|apply keep_drew|apply keep_alloc)|exact HK.out)) hk (.inl rfl));have n1_:=Aside0.mk (hb);have n2_:=Aside0.mk (hi);clear HK;clear HB;clear HI0;have HK:=n0_;have HB:=n1_;have HI0:=n2_;clear n0_ n1_ n2_;(try clear hb);(try clear hb2);(try clear hk);(try clear hi)));try go_wp2_with (first|(go_at_call 42;(with_reducible refine (raw_Reader_Err.calls g s0_0 s0_1 s0_2 t108 t109 t110 t111 w0 _ ?side1 ?side2 A3.out).mono ?_);(case side1=>repeat (first|(with_reducible first|exact HI0.out|apply IsS114.alloc|apply IsS114.drewN|apply IsS114.drew|apply IsS114.set_0|apply IsS114.set_1|apply IsS114.set_2)|exact HI0.out));(case side2=>repeat (first|(with_reducible first|exact HB.out|apply below_alloc|apply pw_below_drewN|apply below_drew1|refine below_set ?_ (IsS114.ge HI0.out))|exact HB.out));rintro e w17 ⟨rfl,hi,hb,hk⟩;have n0_:=Aside0.mk (KeepBut.trans (by repeat (first|(with_reducible first|exact HK.out|apply KeepBut.set_|apply keep_drewN|apply keep_drew|apply keep_alloc)|exact HK.out)) hk (.inl rfl));have n1_:=Aside0.mk (hb);have n2_:=Aside0.mk (hi);clear HK;clear HB;clear HI0;have HK:=n0_;have HB:=n1_;have HI0:=n2_;clear n0_ n1_ n2_;(try clear hb);(try clear hb2);(try clear hk);(try clear hi))))
  go_ret
  exact ⟨by first|rfl|(simp [errW_none,errW_some] <;> rfl)|(simp [*,errW_none,errW_some] <;> rfl),by repeat (first|(with_reducible first|exact HI0.out|apply IsS114.alloc|apply IsS114.drewN|apply IsS114.drew|apply IsS114.set_0|apply IsS114.set_1|apply IsS114.set_2)|exact HI0.out),by repeat (first|(with_reducible first|exact HB.out|apply below_alloc|apply pw_below_drewN|apply below_drew1|refine below_set ?_ (IsS114.ge HI0.out))|exact HB.out),by repeat (first|(with_reducible first|exact HK.out|apply KeepBut.set_|apply keep_drewN|apply keep_drew|apply keep_alloc)|exact HK.out)⟩
end Go.Proofs.Yteokjmjfjdgmpaa.PPg
end
section
namespace Go.Proofs.Yteokjmjfjdgmpaa.PPg
open Go.RowKit Go.Proofs.YteokjmjfjdgmpaaW.PrintWords Go.Proofs.YteokjmjfjdgmpaaW.PrintLast Go.Proofs.YteokjmjfjdgmpaaW.PrintMore
attribute [local go_sem] max2_int min2_int max_two min_two max_three min_three max_four min_four
set_option linter.unusedVariables false
set_option linter.unusedSimpArgs false
mutual
def page_Decode.l0 : Nat → ByteArray → List Int → Int → ByteArray → Int → Int → Int → Int → Int → ByteArray → Option (Int × Int × Int × ByteArray × List ByteArray × Int)
 | 0,_,_,_,_,_,_,_,_,_,_=>none
 | k + 1,x0,x8,x9,x121000,x121001,x121002,x134000,x134001,x134002,x134003=>if x9 > 0 then ((raw_Reader_Number.f x121000 x121001 x121002 2).bind fun bt146=>(if x8.length < 17592186044416 then (page_Decode.l0 k x0 (x8 ++ [wrap64 (bt146.1)]) (wrap64 (x9 - 1)) bt146.2.1 bt146.2.2.1 bt146.2.2.2 x134000 x134001 x134002 x134003) else (none))) else (page_Decode.l1 k x0 x8 (x8.length : Int) 0 x121000 x121001 x121002 x134000 x134001 x134002 x134003 ([] : List ByteArray))
def page_Decode.l1 : Nat → ByteArray → List Int → Int → Int → ByteArray → Int → Int → Int → Int → Int → ByteArray → List ByteArray → Option (Int × Int × Int × ByteArray × List ByteArray × Int)
 | 0,_,_,_,_,_,_,_,_,_,_,_,_=>none
 | k + 1,x0,x80,x81,x82,x121000,x121001,x121002,x134000,x134001,x134002,x134003,x134004=>if x82 < x81 then (if 0≤x82 then (if x82 < (x80.length : Int) then ((raw_Reader_Bytes.f x121000 x121001 x121002 (rd x80 x82)).bind fun bt154=>(if x134004.length < 8796093022208 then (page_Decode.l1 k x0 x80 x81 (wrap64 (x82 + 1)) bt154.2.1 bt154.2.2.1 bt154.2.2.2 x134000 x134001 x134002 x134003 (x134004 ++ [bt154.1])) else (none))) else (none)) else (none)) else ((page_Encode.f x134000 x134001 x134002 x134003 x134004).bind fun bt161=>((raw_Reader_Err.f x121000 x121001 x121002).bind fun bt163=>(if bt163.1=0 then (if bt161.2=0 then (if bt161.1.toList=x0.toList then (some (x134000,x134001,x134002,x134003,x134004,0)) else (some (0,0,0,(⟨#[]⟩ : ByteArray),([] : List ByteArray),6))) else (some (0,0,0,(⟨#[]⟩ : ByteArray),([] : List ByteArray),6))) else (some (0,0,0,(⟨#[]⟩ : ByteArray),([] : List ByteArray),6)))))
end
def page_Decode.f (k : Nat) (a0 : ByteArray) : Option (Int × Int × Int × ByteArray × List ByteArray × Int):=if (a0.size : Int) < 512 then (some (0,0,0,(⟨#[]⟩ : ByteArray),([] : List ByteArray),4)) else (if (a0.size : Int) > 512 then (some (0,0,0,(⟨#[]⟩ : ByteArray),([] : List ByteArray),5)) else ((strings_Count.f a0 (⟨#[0]⟩ : ByteArray)).bind fun t113=>(if t113=(a0.size : Int) then (some (0,0,0,(⟨#[]⟩ : ByteArray),([] : List ByteArray),0)) else (if 12≤(a0.size : Int) then (if 504≤(a0.size : Int) then (if (a0.extract 4 12).toList=(a0.extract 504 a0.size).toList then ((raw_Get.f a0 0 4).bind fun bt114=>(if 4≤(a0.size : Int) then ((raw_Sum.f (a0.extract 4 a0.size)).bind fun t116=>(if ((bt114.1) % 4294967296)=t116 then ((raw_NewReader.f (a0.extract 4 a0.size)).bind fun bt117=>((raw_Reader_Number.f bt117.1 bt117.2.1 bt117.2.2 8).bind fun bt121=>((raw_Reader_Number.f bt121.2.1 bt121.2.2.1 bt121.2.2.2 4).bind fun bt125=>((raw_Reader_Number.f bt125.2.1 bt125.2.2.1 bt125.2.2.2 1).bind fun bt129=>((raw_Reader_Number.f bt129.2.1 bt129.2.2.1 bt129.2.2.2 1).bind fun bt134=>((raw_Reader_Bytes.f bt134.2.1 bt134.2.2.1 bt134.2.2.2 (wrap64 (bt134.1))).bind fun bt138=>((raw_Reader_Number.f bt138.2.1 bt138.2.2.1 bt138.2.2.2 1).bind fun bt142=>(page_Decode.l0 k a0 ([] : List Int) (wrap64 (bt142.1)) bt142.2.1 bt142.2.2.1 bt142.2.2.2 ((bt125.1) % 4294967296) bt121.1 (wrap64 (bt129.1)) bt138.1)))))))) else (some (0,0,0,(⟨#[]⟩ : ByteArray),([] : List ByteArray),32)))) else (none))) else (some (0,0,0,(⟨#[]⟩ : ByteArray),([] : List ByteArray),34))) else (none)) else (none)))))
def page_Decode.T23 : Bool × List (List Nat × List Nat):=(true,[([],[]),([0],[0]),([],[]),([],[]),([2,3],[2,3]),([4],[4]),([1,5,4],[1,5]),([0,1,2,3,4,5,6],[]),([7,6,6,0,1,2,3,4,5,6],[6,7])])
def page_Decode.B23 : List Nat:=[0,1,0,0,12,28,63,127,255]
theorem page_Decode.tab23 : rtab .any (opsOf Try.f11 23)=page_Decode.T23:=by kernel_rfl
theorem page_Decode.bits23 : waitsOk page_Decode.T23.2 page_Decode.B23=true:=by kernel_rfl
set_option maxHeartbeats 8000000 in
set_option maxRecDepth 100000 in
theorem page_Decode.calls (k : Nat) (a0 : ByteArray) (r1 : Int) (r2 : Int) (r3 : Int) (r4 : ByteArray) (r5 : List ByteArray) (r6 : Int) (w : World) (h : page_Decode.f k a0=some (r1,r2,r3,r4,r5,r6)) :
  Calls Try.prog 11 #[.string a0] w fun e w'=>∃ v4_ : Value,e=.returned (.tuple #[.agg #[.int .u32 r1,.int .u64 r2,.int .i64 r3,.string r4,v4_],.int .i64 r6])∧Kd.R Kd.string 9 w' w.heap.size (fun _=>True) v4_ r5∧Below w.heap.size w w':=by
 have hu28:=Try.underlying28
 have HB:=Aside0.mk (Below.refl w.heap.size w)
 have H : (if (a0.size : Int) < 512 then (some (0,0,0,(⟨#[]⟩ : ByteArray),([] : List ByteArray),4)) else (if (a0.size : Int) > 512 then (some (0,0,0,(⟨#[]⟩ : ByteArray),([] : List ByteArray),5)) else ((strings_Count.f a0 (⟨#[0]⟩ : ByteArray)).bind fun t113=>(if t113=(a0.size : Int) then (some (0,0,0,(⟨#[]⟩ : ByteArray),([] : List ByteArray),0)) else (if 12≤(a0.size : Int) then (if 504≤(a0.size : Int) then (if (a0.extract 4 12).toList=(a0.extract 504 a0.size).toList then ((raw_Get.f a0 0 4).bind fun bt114=>(if 4≤(a0.size : Int) then ((raw_Sum.f (a0.extract 4 a0.size)).bind fun t116=>(if ((bt114.1) % 4294967296)=t116 then ((raw_NewReader.f (a0.extract 4 a0.size)).bind fun bt117=>((raw_Reader_Number.f bt117.1 bt117.2.1 bt117.2.2 8).bind fun bt121=>((raw_Reader_Number.f bt121.2.1 bt121.2.2.1 bt121.2.2.2 4).bind fun bt125=>((raw_Reader_Number.f bt125.2.1 bt125.2.2.1 bt125.2.2.2 1).bind fun bt129=>((raw_Reader_Number.f bt129.2.1 bt129.2.2.1 bt129.2.2.2 1).bind fun bt134=>((raw_Reader_Bytes.f bt134.2.1 bt134.2.2.1 bt134.2.2.2 (wrap64 (bt134.1))).bind fun bt138=>((raw_Reader_Number.f bt138.2.1 bt138.2.2.1 bt138.2.2.2 1).bind fun bt142=>(page_Decode.l0 k a0 ([] : List Int) (wrap64 (bt142.1)) bt142.2.1 bt142.2.2.1 bt142.2.2.2 ((bt125.1) % 4294967296) bt121.1 (wrap64 (bt129.1)) bt138.1)))))))) else (some (0,0,0,(⟨#[]⟩ : ByteArray),([] : List ByteArray),32)))) else (none))) else (some (0,0,0,(⟨#[]⟩ : ByteArray),([] : List ByteArray),34))) else (none)) else (none))))))=some (r1,r2,r3,r4,r5,r6):=h
 clear h
 by_cases c2 : (a0.size : Int) < 512
 ·rw [if_pos c2] at H
  have c2b0 : decide ((a0.size : Int) < 512)=true:=decide_eq_true c2
  have c2b1 : decide (a0.size < 512)=true:=decide_eq_true (by omega)
  clear c2
  simp only [Option.some.injEq,Prod.mk.injEq] at H
  obtain ⟨rfl,rfl,rfl,rfl,rfl,rfl⟩:=H
  go_enter Try.func11,Try.ntmps11
  go_wp2_with (first|((with_reducible refine gate_dst (N:=2) rfl ?_);refine box_event ?hg (N:=2) ?hd (cs:=#[.int .u32 0,.int .u64 0,.int .i64 0,.string (⟨#[]⟩ : ByteArray),.slice none 0 0]) (t:=28) ?hr ?_;(case hd=>rfl);(case hg=>rfl);(case hr=>first|(go_simp;done)|(go_simp;rfl));intro gb112 hg w3 hbox hb;have n0_:=Aside0.mk (below_step (by repeat (first|(with_reducible first|exact HB.out|apply below_alloc|apply pw_below_drewN|apply below_drew1)|exact HB.out)) hb);have n1_:=Aside0.mk (hbox);have n2_:=Aside0.mk ((by rw [hg];exact (below_size (by repeat (first|(with_reducible first|exact HB.out|apply below_alloc|apply pw_below_drewN|apply below_drew1)|exact HB.out))) : w.heap.size≤gb112));have n3_:=Aside0.mk ((by rw [hg];exact (below_size (by repeat (first|(with_reducible first|exact HB.out|apply below_alloc|apply pw_below_drewN|apply below_drew1)|exact HB.out))) : w.heap.size≤gb112));clear HB;have HB:=n0_;have BK112:=n1_;have GW112:=n2_;have GE112:=n3_;clear n0_ n1_ n2_ n3_;clear hb hbox hg;have hcz4_0 : w3.cell? ⟨gb112,0,none⟩=some (.int .u32 0):=(blk_cell BK112.out 0).trans rfl;have hcz4_1 : w3.cell? ⟨gb112,1,none⟩=some (.int .u64 0):=(blk_cell BK112.out 1).trans rfl;have hcz4_2 : w3.cell? ⟨gb112,2,none⟩=some (.int .i64 0):=(blk_cell BK112.out 2).trans rfl;have hcz4_3 : w3.cell? ⟨gb112,3,none⟩=some (.string (⟨#[]⟩ : ByteArray)):=(blk_cell BK112.out 3).trans rfl;have hcz4_4 : w3.cell? ⟨gb112,4,none⟩=some (.slice none 0 0):=(blk_cell BK112.out 4).trans rfl;have hfz4_0:=blk_frozen BK112.out 0;have hfz4_1:=blk_frozen BK112.out 1;have hfz4_2:=blk_frozen BK112.out 2;have hfz4_3:=blk_frozen BK112.out 3;have hfz4_4:=blk_frozen BK112.out 4))
  refine bodyPost_ret (results_ct rfl _ _ gb112 28 #[.int .u32 0,.int .u64 0,.int .i64 0,.string (⟨#[]⟩ : ByteArray),.slice none 0 0] (0,0) _ rfl (by (with_reducible repeat (first|refine blk_drewN ?_ _|refine blk_drew ?_|refine blk_alloc ?_ _));refine blk_put (cs:=#[.int .u32 0,.int .u64 0,.int .i64 0,.string (⟨#[]⟩ : ByteArray),.slice none 0 0]) ?_ 4 _ rfl;(with_reducible repeat (first|refine blk_drewN ?_ _|refine blk_drew ?_|refine blk_alloc ?_ _));refine blk_put (cs:=#[.int .u32 0,.int .u64 0,.int .i64 0,.string (⟨#[]⟩ : ByteArray),.slice none 0 0]) ?_ 3 _ rfl;(with_reducible repeat (first|refine blk_drewN ?_ _|refine blk_drew ?_|refine blk_alloc ?_ _));refine blk_put (cs:=#[.int .u32 0,.int .u64 0,.int .i64 0,.string (⟨#[]⟩ : ByteArray),.slice none 0 0]) ?_ 2 _ rfl;(with_reducible repeat (first|refine blk_drewN ?_ _|refine blk_drew ?_|refine blk_alloc ?_ _));refine blk_put (cs:=#[.int .u32 0,.int .u64 0,.int .i64 0,.string (⟨#[]⟩ : ByteArray),.slice none 0 0]) ?_ 1 _ rfl;(with_reducible repeat (first|refine blk_drewN ?_ _|refine blk_drew ?_|refine blk_alloc ?_ _));refine blk_put (cs:=#[.int .u32 0,.int .u64 0,.int .i64 0,.string (⟨#[]⟩ : ByteArray),.slice none 0 0]) ?_ 0 _ rfl;(with_reducible repeat (first|refine blk_drewN ?_ _|refine blk_drew ?_|refine blk_alloc ?_ _));exact BK112.out) Try.underlying28 rfl (by kernel_rfl)) rfl ?_
  exact ⟨_,by first|rfl|(simp [errW_none,errW_some] <;> rfl)|(simp [*,errW_none,errW_some] <;> rfl),by first|exact Kd.R_nil _ _ _ _ _|exact Kd.N_nil _ _ _ _ _|exact Kd.V_nil _ _ _ _ _|exact Kd.Q_nil _ _ _ _ _|exact Kd.S_nil _ _ _ _ _,by repeat (first|(with_reducible first|exact HB.out|apply below_alloc|apply pw_below_drewN|apply below_drew1|refine below_set ?_ GE112.out)|exact HB.out)⟩
 ·rw [if_neg c2] at H
  have c2b0 : decide ((a0.size : Int) < 512)=false:=decide_eq_false c2
  have c2b1 : decide (a0.size < 512)=false:=decide_eq_false (by omega)
  clear c2
  by_cases c5 : (a0.size : Int) > 512
  ·rw [if_pos c5] at H
   have c5b0 : decide (512 < (a0.size : Int))=true:=decide_eq_true c5
   have c5b1 : decide (512 < a0.size)=true:=decide_eq_true (by omega)
   clear c5
   simp only [Option.some.injEq,Prod.mk.injEq] at H
   obtain ⟨rfl,rfl,rfl,rfl,rfl,rfl⟩:=H
   go_enter Try.func11,Try.ntmps11
   go_wp2_with (first|((with_reducible refine gate_dst (N:=2) rfl ?_);refine box_event ?hg (N:=2) ?hd (cs:=#[.int .u32 0,.int .u64 0,.int .i64 0,.string (⟨#[]⟩ : ByteArray),.slice none 0 0]) (t:=28) ?hr ?_;(case hd=>rfl);(case hg=>rfl);(case hr=>first|(go_simp;done)|(go_simp;rfl));intro gb112 hg w6 hbox hb;have n0_:=Aside0.mk (below_step (by repeat (first|(with_reducible first|exact HB.out|apply below_alloc|apply pw_below_drewN|apply below_drew1)|exact HB.out)) hb);have n1_:=Aside0.mk (hbox);have n2_:=Aside0.mk ((by rw [hg];exact (below_size (by repeat (first|(with_reducible first|exact HB.out|apply below_alloc|apply pw_below_drewN|apply below_drew1)|exact HB.out))) : w.heap.size≤gb112));have n3_:=Aside0.mk ((by rw [hg];exact (below_size (by repeat (first|(with_reducible first|exact HB.out|apply below_alloc|apply pw_below_drewN|apply below_drew1)|exact HB.out))) : w.heap.size≤gb112));clear HB;have HB:=n0_;have BK112:=n1_;have GW112:=n2_;have GE112:=n3_;clear n0_ n1_ n2_ n3_;clear hb hbox hg;have hcz7_0 : w6.cell? ⟨gb112,0,none⟩=some (.int .u32 0):=(blk_cell BK112.out 0).trans rfl;have hcz7_1 : w6.cell? ⟨gb112,1,none⟩=some (.int .u64 0):=(blk_cell BK112.out 1).trans rfl;have hcz7_2 : w6.cell? ⟨gb112,2,none⟩=some (.int .i64 0):=(blk_cell BK112.out 2).trans rfl;have hcz7_3 : w6.cell? ⟨gb112,3,none⟩=some (.string (⟨#[]⟩ : ByteArray)):=(blk_cell BK112.out 3).trans rfl;have hcz7_4 : w6.cell? ⟨gb112,4,none⟩=some (.slice none 0 0):=(blk_cell BK112.out 4).trans rfl;have hfz7_0:=blk_frozen BK112.out 0;have hfz7_1:=blk_frozen BK112.out 1;have hfz7_2:=blk_frozen BK112.out 2;have hfz7_3:=blk_frozen BK112.out 3;have hfz7_4:=blk_frozen BK112.out 4))
   refine bodyPost_ret (results_ct rfl _ _ gb112 28 #[.int .u32 0,.int .u64 0,.int .i64 0,.string (⟨#[]⟩ : ByteArray),.slice none 0 0] (0,0) _ rfl (by (with_reducible repeat (first|refine blk_drewN ?_ _|refine blk_drew ?_|refine blk_alloc ?_ _));refine blk_put (cs:=#[.int .u32 0,.int .u64 0,.int .i64 0,.string (⟨#[]⟩ : ByteArray),.slice none 0 0]) ?_ 4 _ rfl;(with_reducible repeat (first|refine blk_drewN ?_ _|refine blk_drew ?_|refine blk_alloc ?_ _));refine blk_put (cs:=#[.int .u32 0,.int .u64 0,.int .i64 0,.string (⟨#[]⟩ : ByteArray),.slice none 0 0]) ?_ 3 _ rfl;(with_reducible repeat (first|refine blk_drewN ?_ _|refine blk_drew ?_|refine blk_alloc ?_ _));refine blk_put (cs:=#[.int .u32 0,.int .u64 0,.int .i64 0,.string (⟨#[]⟩ : ByteArray),.slice none 0 0]) ?_ 2 _ rfl;(with_reducible repeat (first|refine blk_drewN ?_ _|refine blk_drew ?_|refine blk_alloc ?_ _));refine blk_put (cs:=#[.int .u32 0,.int .u64 0,.int .i64 0,.string (⟨#[]⟩ : ByteArray),.slice none 0 0]) ?_ 1 _ rfl;(with_reducible repeat (first|refine blk_drewN ?_ _|refine blk_drew ?_|refine blk_alloc ?_ _));refine blk_put (cs:=#[.int .u32 0,.int .u64 0,.int .i64 0,.string (⟨#[]⟩ : ByteArray),.slice none 0 0]) ?_ 0 _ rfl;(with_reducible repeat (first|refine blk_drewN ?_ _|refine blk_drew ?_|refine blk_alloc ?_ _));exact BK112.out) Try.underlying28 rfl (by kernel_rfl)) rfl ?_
   exact ⟨_,by first|rfl|(simp [errW_none,errW_some] <;> rfl)|(simp [*,errW_none,errW_some] <;> rfl),by first|exact Kd.R_nil _ _ _ _ _|exact Kd.N_nil _ _ _ _ _|exact Kd.V_nil _ _ _ _ _|exact Kd.Q_nil _ _ _ _ _|exact Kd.S_nil _ _ _ _ _,by repeat (first|(with_reducible first|exact HB.out|apply below_alloc|apply pw_below_drewN|apply below_drew1|refine below_set ?_ GE112.out)|exact HB.out)⟩
  ·rw [if_neg c5] at H
   have c5b0 : decide (512 < (a0.size : Int))=false:=decide_eq_false c5
   have c5b1 : decide (512 < a0.size)=false:=decide_eq_false (by omega)
   clear c5
   replace H:=Option.bind_eq_some_iff.mp H
   obtain ⟨t113,A80,H⟩:=H
   replace H : (if t113=(a0.size : Int) then (some (0,0,0,(⟨#[]⟩ : ByteArray),([] : List ByteArray),0)) else (if 12≤(a0.size : Int) then (if 504≤(a0.size : Int) then (if (a0.extract 4 12).toList=(a0.extract 504 a0.size).toList then ((raw_Get.f a0 0 4).bind fun bt114=>(if 4≤(a0.size : Int) then ((raw_Sum.f (a0.extract 4 a0.size)).bind fun t116=>(if ((bt114.1) % 4294967296)=t116 then ((raw_NewReader.f (a0.extract 4 a0.size)).bind fun bt117=>((raw_Reader_Number.f bt117.1 bt117.2.1 bt117.2.2 8).bind fun bt121=>((raw_Reader_Number.f bt121.2.1 bt121.2.2.1 bt121.2.2.2 4).bind fun bt125=>((raw_Reader_Number.f bt125.2.1 bt125.2.2.1 bt125.2.2.2 1).bind fun bt129=>((raw_Reader_Number.f bt129.2.1 bt129.2.2.1 bt129.2.2.2 1).bind fun bt134=>((raw_Reader_Bytes.f bt134.2.1 bt134.2.2.1 bt134.2.2.2 (wrap64 (bt134.1))).bind fun bt138=>((raw_Reader_Number.f bt138.2.1 bt138.2.2.1 bt138.2.2.2 1).bind fun bt142=>(page_Decode.l0 k a0 ([] : List Int) (wrap64 (bt142.1)) bt142.2.1 bt142.2.2.1 bt142.2.2.2 ((bt125.1) % 4294967296) bt121.1 (wrap64 (bt129.1)) bt138.1)))))))) else (some (0,0,0,(⟨#[]⟩ : ByteArray),([] : List ByteArray),32)))) else (none))) else (some (0,0,0,(⟨#[]⟩ : ByteArray),([] : List ByteArray),34))) else (none)) else (none)))=some (r1,r2,r3,r4,r5,r6):=H
   have A8:=Aside0.mk A80
   clear A80
   by_cases c9 : t113=(a0.size : Int)
   ·rw [if_pos c9] at H
    have c9b0 : (t113 == (a0.size : Int))=true:=beq_iff_eq.mpr c9
    have c9b1 : (t113 != (a0.size : Int))=false:=bne_eq_false_iff_eq.mpr c9
    clear c9
    simp only [Option.some.injEq,Prod.mk.injEq] at H
    obtain ⟨rfl,rfl,rfl,rfl,rfl,rfl⟩:=H
    go_enter Try.func11,Try.ntmps11
    go_wp2_with (first|((with_reducible refine gate_dst (N:=2) rfl ?_);refine box_event ?hg (N:=2) ?hd (cs:=#[.int .u32 0,.int .u64 0,.int .i64 0,.string (⟨#[]⟩ : ByteArray),.slice none 0 0]) (t:=28) ?hr ?_;(case hd=>rfl);(case hg=>rfl);(case hr=>first|(go_simp;done)|(go_simp;rfl));intro gb112 hg w10 hbox hb;have n0_:=Aside0.mk (below_step (by repeat (first|(with_reducible first|exact HB.out|apply below_alloc|apply pw_below_drewN|apply below_drew1)|exact HB.out)) hb);have n1_:=Aside0.mk (hbox);have n2_:=Aside0.mk ((by rw [hg];exact (below_size (by repeat (first|(with_reducible first|exact HB.out|apply below_alloc|apply pw_below_drewN|apply below_drew1)|exact HB.out))) : w.heap.size≤gb112));have n3_:=Aside0.mk ((by rw [hg];exact (below_size (by repeat (first|(with_reducible first|exact HB.out|apply below_alloc|apply pw_below_drewN|apply below_drew1)|exact HB.out))) : w.heap.size≤gb112));clear HB;have HB:=n0_;have BK112:=n1_;have GW112:=n2_;have GE112:=n3_;clear n0_ n1_ n2_ n3_;clear hb hbox hg)|((with_reducible refine gate_callee (f:=37) rfl ?_);refine goesL_ (some 26) rfl rfl Try.func37 (by kernel_rfl) rfl #[.string a0,.string (⟨#[0]⟩ : ByteArray)] rfl (by (try simp only [List.map_toArray,List.map_cons,List.map_nil]);first|done|rfl|(simp only [List.length_drop,List.length_take];rfl)) ?_;(with_reducible refine (strings_Count.calls a0 (⟨#[0]⟩ : ByteArray) t113 _ A8.out).mono ?_);rintro e w' ⟨rfl,⟨nd,rfl⟩⟩;refine ⟨_,rfl,?_⟩;(try (rw [drewN_self w10];generalize hq_ : World.drewN w10 _=w10;have n0_ : Aside0 (w10.heap[gb112]?=some (.cells #[.int .u32 0,.int .u64 0,.int .i64 0,.string (⟨#[]⟩ : ByteArray),.slice none 0 0] 28 (0,0))):=⟨by rw [← hq_];exact (by (with_reducible repeat (first|refine blk_drewN ?_ _|refine blk_drew ?_|refine blk_alloc ?_ _));exact BK112.out)⟩;have n1_ : Aside0 (Below w.heap.size w w10):=⟨by rw [← hq_];exact (by repeat (first|(with_reducible first|exact HB.out|apply below_alloc|apply pw_below_drewN|apply below_drew1|refine below_set ?_ GE112.out)|exact HB.out))⟩;clear BK112 HB hq_;have BK112:=n0_;have HB:=n1_;clear n0_ n1_));have hcz11_0 : w10.cell? ⟨gb112,0,none⟩=some (.int .u32 0):=(blk_cell BK112.out 0).trans rfl;have hcz11_1 : w10.cell? ⟨gb112,1,none⟩=some (.int .u64 0):=(blk_cell BK112.out 1).trans rfl;have hcz11_2 : w10.cell? ⟨gb112,2,none⟩=some (.int .i64 0):=(blk_cell BK112.out 2).trans rfl;have hcz11_3 : w10.cell? ⟨gb112,3,none⟩=some (.string (⟨#[]⟩ : ByteArray)):=(blk_cell BK112.out 3).trans rfl;have hcz11_4 : w10.cell? ⟨gb112,4,none⟩=some (.slice none 0 0):=(blk_cell BK112.out 4).trans rfl;have hfz11_0:=blk_frozen BK112.out 0;have hfz11_1:=blk_frozen BK112.out 1;have hfz11_2:=blk_frozen BK112.out 2;have hfz11_3:=blk_frozen BK112.out 3;have hfz11_4:=blk_frozen BK112.out 4))
    refine bodyPost_ret (results_ct rfl _ _ gb112 28 #[.int .u32 0,.int .u64 0,.int .i64 0,.string (⟨#[]⟩ : ByteArray),.slice none 0 0] (0,0) _ rfl (by (with_reducible repeat (first|refine blk_drewN ?_ _|refine blk_drew ?_|refine blk_alloc ?_ _));refine blk_put (cs:=#[.int .u32 0,.int .u64 0,.int .i64 0,.string (⟨#[]⟩ : ByteArray),.slice none 0 0]) ?_ 4 _ rfl;(with_reducible repeat (first|refine blk_drewN ?_ _|refine blk_drew ?_|refine blk_alloc ?_ _));refine blk_put (cs:=#[.int .u32 0,.int .u64 0,.int .i64 0,.string (⟨#[]⟩ : ByteArray),.slice none 0 0]) ?_ 3 _ rfl;(with_reducible repeat (first|refine blk_drewN ?_ _|refine blk_drew ?_|refine blk_alloc ?_ _));refine blk_put (cs:=#[.int .u32 0,.int .u64 0,.int .i64 0,.string (⟨#[]⟩ : ByteArray),.slice none 0 0]) ?_ 2 _ rfl;(with_reducible repeat (first|refine blk_drewN ?_ _|refine blk_drew ?_|refine blk_alloc ?_ _));refine blk_put (cs:=#[.int .u32 0,.int .u64 0,.int .i64 0,.string (⟨#[]⟩ : ByteArray),.slice none 0 0]) ?_ 1 _ rfl;(with_reducible repeat (first|refine blk_drewN ?_ _|refine blk_drew ?_|refine blk_alloc ?_ _));refine blk_put (cs:=#[.int .u32 0,.int .u64 0,.int .i64 0,.string (⟨#[]⟩ : ByteArray),.slice none 0 0]) ?_ 0 _ rfl;(with_reducible repeat (first|refine blk_drewN ?_ _|refine blk_drew ?_|refine blk_alloc ?_ _));exact BK112.out) Try.underlying28 rfl (by kernel_rfl)) rfl ?_
    exact ⟨_,by first|rfl|(simp [errW_none,errW_some] <;> rfl)|(simp [*,errW_none,errW_some] <;> rfl),by first|exact Kd.R_nil _ _ _ _ _|exact Kd.N_nil _ _ _ _ _|exact Kd.V_nil _ _ _ _ _|exact Kd.Q_nil _ _ _ _ _|exact Kd.S_nil _ _ _ _ _,by repeat (first|(with_reducible first|exact HB.out|apply below_alloc|apply pw_below_drewN|apply below_drew1|refine below_set ?_ GE112.out)|exact HB.out)⟩
   ·rw [if_neg c9] at H
    have c9b0 : (t113 == (a0.size : Int))=false:=beq_eq_false_iff_ne.mpr c9
    have c9b1 : (t113 != (a0.size : Int))=true:=bne_iff_ne.mpr c9
    by_cases c12 : 12≤(a0.size : Int)
    ·rw [if_pos c12] at H
     have c12b0:=eq_true c12
     have c12b1 : decide (12≤(a0.size : Int))=true:=decide_eq_true c12
     clear c12
     by_cases c13 : 504≤(a0.size : Int)
     ·rw [if_pos c13] at H
      have c13b0:=eq_true c13
      have c13b1 : decide (504≤(a0.size : Int))=true:=decide_eq_true c13
      clear c13
      by_cases c14 : (a0.extract 4 12).toList=(a0.extract 504 a0.size).toList
      ·rw [if_pos c14] at H
       have c14b0 : ((a0.extract 4 12).toList == (a0.extract 504 a0.size).toList)=true:=beq_iff_eq.mpr c14
       have c14b1 : ((a0.extract 4 12).toList != (a0.extract 504 a0.size).toList)=false:=bne_eq_false_iff_eq.mpr c14
       clear c14
       replace H:=Option.bind_eq_some_iff.mp H
       obtain ⟨⟨t114,t115⟩,A150,H⟩:=H
       replace H : (if 4≤(a0.size : Int) then ((raw_Sum.f (a0.extract 4 a0.size)).bind fun t116=>(if ((t114) % 4294967296)=t116 then ((raw_NewReader.f (a0.extract 4 a0.size)).bind fun bt117=>((raw_Reader_Number.f bt117.1 bt117.2.1 bt117.2.2 8).bind fun bt121=>((raw_Reader_Number.f bt121.2.1 bt121.2.2.1 bt121.2.2.2 4).bind fun bt125=>((raw_Reader_Number.f bt125.2.1 bt125.2.2.1 bt125.2.2.2 1).bind fun bt129=>((raw_Reader_Number.f bt129.2.1 bt129.2.2.1 bt129.2.2.2 1).bind fun bt134=>((raw_Reader_Bytes.f bt134.2.1 bt134.2.2.1 bt134.2.2.2 (wrap64 (bt134.1))).bind fun bt138=>((raw_Reader_Number.f bt138.2.1 bt138.2.2.1 bt138.2.2.2 1).bind fun bt142=>(page_Decode.l0 k a0 ([] : List Int) (wrap64 (bt142.1)) bt142.2.1 bt142.2.2.1 bt142.2.2.2 ((bt125.1) % 4294967296) bt121.1 (wrap64 (bt129.1)) bt138.1)))))))) else (some (0,0,0,(⟨#[]⟩ : ByteArray),([] : List ByteArray),32)))) else (none))=some (r1,r2,r3,r4,r5,r6):=H
       have A15:=Aside0.mk A150
       clear A150
       by_cases c16 : 4≤(a0.size : Int)
       ·rw [if_pos c16] at H
        have c16b0:=eq_true c16
        have c16b1 : decide (4≤(a0.size : Int))=true:=decide_eq_true c16
        clear c16
        replace H:=Option.bind_eq_some_iff.mp H
        obtain ⟨t116,A170,H⟩:=H
        replace H : (if ((t114) % 4294967296)=t116 then ((raw_NewReader.f (a0.extract 4 a0.size)).bind fun bt117=>((raw_Reader_Number.f bt117.1 bt117.2.1 bt117.2.2 8).bind fun bt121=>((raw_Reader_Number.f bt121.2.1 bt121.2.2.1 bt121.2.2.2 4).bind fun bt125=>((raw_Reader_Number.f bt125.2.1 bt125.2.2.1 bt125.2.2.2 1).bind fun bt129=>((raw_Reader_Number.f bt129.2.1 bt129.2.2.1 bt129.2.2.2 1).bind fun bt134=>((raw_Reader_Bytes.f bt134.2.1 bt134.2.2.1 bt134.2.2.2 (wrap64 (bt134.1))).bind fun bt138=>((raw_Reader_Number.f bt138.2.1 bt138.2.2.1 bt138.2.2.2 1).bind fun bt142=>(page_Decode.l0 k a0 ([] : List Int) (wrap64 (bt142.1)) bt142.2.1 bt142.2.2.1 bt142.2.2.2 ((bt125.1) % 4294967296) bt121.1 (wrap64 (bt129.1)) bt138.1)))))))) else (some (0,0,0,(⟨#[]⟩ : ByteArray),([] : List ByteArray),32)))=some (r1,r2,r3,r4,r5,r6):=H
        have A17:=Aside0.mk A170
        clear A170
        by_cases c18 : ((t114) % 4294967296)=t116
        ·rw [if_pos c18] at H
         have c18b0 : (((t114) % 4294967296) == t116)=true:=beq_iff_eq.mpr c18
         have c18b1 : (((t114) % 4294967296) != t116)=false:=bne_eq_false_iff_eq.mpr c18
         clear c18
         have c19b0:=eq_true (of_decide_eq_true (by first|(with_reducible assumption)|assumption) : 4≤(a0.size : Int))
         replace H:=Option.bind_eq_some_iff.mp H
         obtain ⟨⟨t117,t118,t119⟩,A200,H⟩:=H
         replace H : ((raw_Reader_Number.f t117 t118 t119 8).bind fun bt121=>((raw_Reader_Number.f bt121.2.1 bt121.2.2.1 bt121.2.2.2 4).bind fun bt125=>((raw_Reader_Number.f bt125.2.1 bt125.2.2.1 bt125.2.2.2 1).bind fun bt129=>((raw_Reader_Number.f bt129.2.1 bt129.2.2.1 bt129.2.2.2 1).bind fun bt134=>((raw_Reader_Bytes.f bt134.2.1 bt134.2.2.1 bt134.2.2.2 (wrap64 (bt134.1))).bind fun bt138=>((raw_Reader_Number.f bt138.2.1 bt138.2.2.1 bt138.2.2.2 1).bind fun bt142=>(page_Decode.l0 k a0 ([] : List Int) (wrap64 (bt142.1)) bt142.2.1 bt142.2.2.1 bt142.2.2.2 ((bt125.1) % 4294967296) bt121.1 (wrap64 (bt129.1)) bt138.1)))))))=some (r1,r2,r3,r4,r5,r6):=H
         have A20:=Aside0.mk A200
         clear A200
         replace H:=Option.bind_eq_some_iff.mp H
         obtain ⟨⟨t121,t122,t123,t124⟩,A210,H⟩:=H
         replace H : ((raw_Reader_Number.f t122 t123 t124 4).bind fun bt125=>((raw_Reader_Number.f bt125.2.1 bt125.2.2.1 bt125.2.2.2 1).bind fun bt129=>((raw_Reader_Number.f bt129.2.1 bt129.2.2.1 bt129.2.2.2 1).bind fun bt134=>((raw_Reader_Bytes.f bt134.2.1 bt134.2.2.1 bt134.2.2.2 (wrap64 (bt134.1))).bind fun bt138=>((raw_Reader_Number.f bt138.2.1 bt138.2.2.1 bt138.2.2.2 1).bind fun bt142=>(page_Decode.l0 k a0 ([] : List Int) (wrap64 (bt142.1)) bt142.2.1 bt142.2.2.1 bt142.2.2.2 ((bt125.1) % 4294967296) t121 (wrap64 (bt129.1)) bt138.1))))))=some (r1,r2,r3,r4,r5,r6):=H
         have A21:=Aside0.mk A210
         clear A210
         replace H:=Option.bind_eq_some_iff.mp H
         obtain ⟨⟨t125,t126,t127,t128⟩,A220,H⟩:=H
         replace H : ((raw_Reader_Number.f t126 t127 t128 1).bind fun bt129=>((raw_Reader_Number.f bt129.2.1 bt129.2.2.1 bt129.2.2.2 1).bind fun bt134=>((raw_Reader_Bytes.f bt134.2.1 bt134.2.2.1 bt134.2.2.2 (wrap64 (bt134.1))).bind fun bt138=>((raw_Reader_Number.f bt138.2.1 bt138.2.2.1 bt138.2.2.2 1).bind fun bt142=>(page_Decode.l0 k a0 ([] : List Int) (wrap64 (bt142.1)) bt142.2.1 bt142.2.2.1 bt142.2.2.2 ((t125) % 4294967296) t121 (wrap64 (bt129.1)) bt138.1)))))=some (r1,r2,r3,r4,r5,r6):=H
         have A22:=Aside0.mk A220
         clear A220
         replace H:=Option.bind_eq_some_iff.mp H
         obtain ⟨⟨t129,t130,t131,t132⟩,A230,H⟩:=H
         replace H : ((raw_Reader_Number.f t130 t131 t132 1).bind fun bt134=>((raw_Reader_Bytes.f bt134.2.1 bt134.2.2.1 bt134.2.2.2 (wrap64 (bt134.1))).bind fun bt138=>((raw_Reader_Number.f bt138.2.1 bt138.2.2.1 bt138.2.2.2 1).bind fun bt142=>(page_Decode.l0 k a0 ([] : List Int) (wrap64 (bt142.1)) bt142.2.1 bt142.2.2.1 bt142.2.2.2 ((t125) % 4294967296) t121 (wrap64 (t129)) bt138.1))))=some (r1,r2,r3,r4,r5,r6):=H
         have A23:=Aside0.mk A230
         clear A230
         replace H:=Option.bind_eq_some_iff.mp H
         obtain ⟨⟨t134,t135,t136,t137⟩,A240,H⟩:=H
         replace H : ((raw_Reader_Bytes.f t135 t136 t137 (wrap64 (t134))).bind fun bt138=>((raw_Reader_Number.f bt138.2.1 bt138.2.2.1 bt138.2.2.2 1).bind fun bt142=>(page_Decode.l0 k a0 ([] : List Int) (wrap64 (bt142.1)) bt142.2.1 bt142.2.2.1 bt142.2.2.2 ((t125) % 4294967296) t121 (wrap64 (t129)) bt138.1)))=some (r1,r2,r3,r4,r5,r6):=H
         have A24:=Aside0.mk A240
         clear A240
         replace H:=Option.bind_eq_some_iff.mp H
         obtain ⟨⟨t138,t139,t140,t141⟩,A250,H⟩:=H
         replace H : ((raw_Reader_Number.f t139 t140 t141 1).bind fun bt142=>(page_Decode.l0 k a0 ([] : List Int) (wrap64 (bt142.1)) bt142.2.1 bt142.2.2.1 bt142.2.2.2 ((t125) % 4294967296) t121 (wrap64 (t129)) t138))=some (r1,r2,r3,r4,r5,r6):=H
         have A25:=Aside0.mk A250
         clear A250
         replace H:=Option.bind_eq_some_iff.mp H
         obtain ⟨⟨t142,t143,t144,t145⟩,A260,H⟩:=H
         replace H : (page_Decode.l0 k a0 ([] : List Int) (wrap64 (t142)) t143 t144 t145 ((t125) % 4294967296) t121 (wrap64 (t129)) t138)=some (r1,r2,r3,r4,r5,r6):=H
         have A26:=Aside0.mk A260
         clear A260
         have H':=Aside0.mk H
         clear H
         go_enter Try.func11,Try.ntmps11
         try go_wp2_with (first|((with_reducible refine gate_dst (N:=2) rfl ?_);refine box_event ?hg (N:=2) ?hd (cs:=#[.int .u32 0,.int .u64 0,.int .i64 0,.string (⟨#[]⟩ : ByteArray),.slice none 0 0]) (t:=28) ?hr ?_;(case hd=>rfl);(case hg=>rfl);(case hr=>first|(go_simp;done)|(go_simp;rfl));intro gb112 hg w27 hbox hb;have n0_:=Aside0.mk (below_step (by repeat (first|(with_reducible first|exact HB.out|apply below_alloc|apply pw_below_drewN|apply below_drew1)|exact HB.out)) hb);have n1_:=Aside0.mk (hbox);have n2_:=Aside0.mk ((by rw [hg];exact (below_size (by repeat (first|(with_reducible first|exact HB.out|apply below_alloc|apply pw_below_drewN|apply below_drew1)|exact HB.out))) : w.heap.size≤gb112));have n3_:=Aside0.mk ((by rw [hg];exact (below_size (by repeat (first|(with_reducible first|exact HB.out|apply below_alloc|apply pw_below_drewN|apply below_drew1)|exact HB.out))) : w.heap.size≤gb112));clear HB;have HB:=n0_;have BK112:=n1_;have GW112:=n2_;have GE112:=n3_;clear n0_ n1_ n2_ n3_;clear hb hbox hg)|((with_reducible refine gate_callee (f:=37) rfl ?_);refine goesL_ (some 26) rfl rfl Try.func37 (by kernel_rfl) rfl #[.string a0,.string (⟨#[0]⟩ : ByteArray)] rfl (by (try simp only [List.map_toArray,List.map_cons,List.map_nil]);first|done|rfl|(simp only [List.length_drop,List.length_take];rfl)) ?_;(with_reducible refine (strings_Count.calls a0 (⟨#[0]⟩ : ByteArray) t113 _ A8.out).mono ?_);rintro e w' ⟨rfl,⟨nd,rfl⟩⟩;refine ⟨_,rfl,?_⟩;(try (rw [drewN_self w27];generalize hq_ : World.drewN w27 _=w27;have n0_ : Aside0 (w27.heap[gb112]?=some (.cells #[.int .u32 0,.int .u64 0,.int .i64 0,.string (⟨#[]⟩ : ByteArray),.slice none 0 0] 28 (0,0))):=⟨by rw [← hq_];exact (by (with_reducible repeat (first|refine blk_drewN ?_ _|refine blk_drew ?_|refine blk_alloc ?_ _));exact BK112.out)⟩;have n1_ : Aside0 (Below w.heap.size w w27):=⟨by rw [← hq_];exact (by repeat (first|(with_reducible first|exact HB.out|apply below_alloc|apply pw_below_drewN|apply below_drew1|refine below_set ?_ GE112.out)|exact HB.out))⟩;clear BK112 HB hq_;have BK112:=n0_;have HB:=n1_;clear n0_ n1_))))
         have n0_:=Aside0.mk (blk_drew BK112.out)
         have n1_:=Aside0.mk (below_drew1 HB.out)
         clear BK112
         clear HB
         have BK112:=n0_
         have HB:=n1_
         clear n0_ n1_
         refine start_ (n:=5) (S:=fun w'=>True) (ds:=[]) #[false,false,false,false,false] (by kernel_rfl) rfl rfl trivial (fun hHeld=>?_)
         generalize w27.drew=w28 at BK112 HB hHeld ⊢
         refine pure_ (i:=0) (N:=some 31) (v:=?_) (a':=?_) #[true,false,false,false,false] rfl rfl (by kernel_rfl) (fun _ _ _ h=>h) (Or.inl ⟨by rfl,?_⟩) ?_ ?_
         rotate_left
         ·intro w'
          go_simp
          with_reducible rfl
         rotate_left
         ·simp only [Act.put,sA_,sB_,sC_,i64_w,i32_w]
          rfl
         refine pure_ (i:=1) (N:=some 32) (v:=?_) (a':=?_) #[true,true,false,false,false] rfl rfl (by kernel_rfl) (fun _ _ _ h=>h) (Or.inl ⟨by rfl,?_⟩) ?_ ?_
         rotate_left
         ·intro w'
          go_simp
          with_reducible rfl
         rotate_left
         ·simp only [Act.put,sA_,sB_,sC_,i64_w,i32_w]
          rfl
         refine pure_ (i:=2) (N:=some 33) (v:=?_) (a':=?_) #[true,true,true,false,false] rfl rfl (by kernel_rfl) (fun _ _ _ h=>h) (Or.inl ⟨by rfl,?_⟩) ?_ ?_
         rotate_left
         ·intro w'
          go_simp
          with_reducible rfl
         rotate_left
         ·simp only [Act.put,sA_,sB_,sC_,i64_w,i32_w]
          rfl
         refine pure_ (i:=3) (N:=some 34) (v:=?_) (a':=?_) #[true,true,true,true,false] rfl rfl (by kernel_rfl) (fun _ _ _ h=>h) (Or.inl ⟨by rfl,?_⟩) ?_ ?_
         rotate_left
         ·intro w'
          go_simp
          with_reducible rfl
         rotate_left
         ·simp only [Act.put,sA_,sB_,sC_,i64_w,i32_w]
          rfl
         refine pure_ (i:=4) (N:=some 35) (v:=?_) (a':=?_) #[true,true,true,true,true] rfl rfl (by kernel_rfl) (fun _ _ _ h=>h) (Or.inl ⟨by rfl,?_⟩) ?_ ?_
         rotate_left
         ·intro w'
          go_simp
          with_reducible rfl
         rotate_left
         ·simp only [Act.put,sA_,sB_,sC_,i64_w,i32_w]
          rfl
         refine done_ (by kernel_rfl) ?_
         try go_wp2_with (first|((with_reducible refine gate_callee (f:=38) rfl ?_);refine goesL_ (some 39) rfl rfl Try.func38 (by kernel_rfl) rfl #[.string a0,.int .i64 0,.int .i64 4] rfl (by (try simp only [List.map_toArray,List.map_cons,List.map_nil]);first|done|rfl|(simp only [List.length_drop,List.length_take];rfl)) ?_;(with_reducible refine (raw_Get.calls a0 0 4 t114 t115 _ A15.out).mono ?_);rintro e w' ⟨rfl,⟨nd,rfl⟩⟩;refine ⟨_,rfl,?_⟩;(try (rw [drewN_self w28];generalize hq_ : World.drewN w28 _=w28;have n0_ : Aside0 (w28.heap[gb112]?=some (.cells #[.int .u32 0,.int .u64 0,.int .i64 0,.string (⟨#[]⟩ : ByteArray),.slice none 0 0] 28 (0,0))):=⟨by rw [← hq_];exact (by (with_reducible repeat (first|refine blk_drewN ?_ _|refine blk_drew ?_|refine blk_alloc ?_ _));exact BK112.out)⟩;have n1_ : Aside0 (Below w.heap.size w w28):=⟨by rw [← hq_];exact (by repeat (first|(with_reducible first|exact HB.out|apply below_alloc|apply pw_below_drewN|apply below_drew1|refine below_set ?_ GE112.out)|exact HB.out))⟩;clear BK112 HB hq_;have BK112:=n0_;have HB:=n1_;clear n0_ n1_)))|((with_reducible refine gate_callee (f:=33) rfl ?_);refine goesL_ (some 46) rfl rfl Try.func33 (by kernel_rfl) rfl #[.string (a0.extract 4 a0.size)] rfl (by (try simp only [List.map_toArray,List.map_cons,List.map_nil]);first|done|rfl|(simp only [List.length_drop,List.length_take];rfl)) ?_;(with_reducible refine (raw_Sum.calls (a0.extract 4 a0.size) t116 _ A17.out).mono ?_);rintro e w' ⟨rfl,⟨nd,rfl⟩⟩;refine ⟨_,rfl,?_⟩;(try (rw [drewN_self w28];generalize hq_ : World.drewN w28 _=w28;have n0_ : Aside0 (w28.heap[gb112]?=some (.cells #[.int .u32 0,.int .u64 0,.int .i64 0,.string (⟨#[]⟩ : ByteArray),.slice none 0 0] 28 (0,0))):=⟨by rw [← hq_];exact (by (with_reducible repeat (first|refine blk_drewN ?_ _|refine blk_drew ?_|refine blk_alloc ?_ _));exact BK112.out)⟩;have n1_ : Aside0 (Below w.heap.size w w28):=⟨by rw [← hq_];exact (by repeat (first|(with_reducible first|exact HB.out|apply below_alloc|apply pw_below_drewN|apply below_drew1|refine below_set ?_ GE112.out)|exact HB.out))⟩;clear BK112 HB hq_;have BK112:=n0_;have HB:=n1_;clear n0_ n1_)))|((with_reducible refine gate_callee (f:=39) rfl ?_);refine goesL_ (some 51) rfl rfl Try.func39 (by kernel_rfl) rfl #[.string (a0.extract 4 a0.size)] rfl (by (try simp only [List.map_toArray,List.map_cons,List.map_nil]);first|done|rfl|(simp only [List.length_drop,List.length_take];rfl)) ?_;(with_reducible refine (raw_NewReader.calls (a0.extract 4 a0.size) t117 t118 t119 w _ ?side1 A20.out).mono ?_);(case side1=>repeat (first|(with_reducible first|exact HB.out|apply below_alloc|apply pw_below_drewN|apply below_drew1|refine below_set ?_ GE112.out)|exact HB.out));rintro e w29 ⟨g120,rfl,hi,hb,hb2⟩;refine ⟨_,rfl,?_⟩;have n0_:=Aside0.mk (blk_below (g:=gb112) (o:=.cells #[.int .u32 0,.int .u64 0,.int .i64 0,.string (⟨#[]⟩ : ByteArray),.slice none 0 0] 28 (0,0)) (by (with_reducible repeat (first|refine blk_drewN ?_ _|refine blk_drew ?_|refine blk_alloc ?_ _));exact BK112.out) hb2);have n1_:=Aside0.mk (hb);have n2_:=Aside0.mk (hi);have n3_:=Aside0.mk (IsS114.ne_blk hi (blk_below (g:=gb112) (o:=.cells #[.int .u32 0,.int .u64 0,.int .i64 0,.string (⟨#[]⟩ : ByteArray),.slice none 0 0] 28 (0,0)) (by (with_reducible repeat (first|refine blk_drewN ?_ _|refine blk_drew ?_|refine blk_alloc ?_ _));exact BK112.out) hb2) (by decide));have n4_:=Aside0.mk (Ne.symm (IsS114.ne_blk hi (blk_below (g:=gb112) (o:=.cells #[.int .u32 0,.int .u64 0,.int .i64 0,.string (⟨#[]⟩ : ByteArray),.slice none 0 0] 28 (0,0)) (by (with_reducible repeat (first|refine blk_drewN ?_ _|refine blk_drew ?_|refine blk_alloc ?_ _));exact BK112.out) hb2) (by decide)));clear BK112;clear HB;have BK112:=n0_;have HB:=n1_;have HI120:=n2_;have NB120_112:=n3_;have NB112_120:=n4_;clear n0_ n1_ n2_ n3_ n4_;(try clear hb);(try clear hb2);(try clear hk);(try clear hi))|((with_reducible refine gate_callee (f:=40) rfl ?_);refine goesL_ (some 53) rfl rfl Try.func40 (by kernel_rfl) rfl #[.pointer (some ⟨g120,0,none⟩),.int .i64 8] rfl (by (try simp only [List.map_toArray,List.map_cons,List.map_nil]);first|done|rfl|(simp only [List.length_drop,List.length_take];rfl)) ?_;(with_reducible refine (raw_Reader_Number.calls g120 t117 t118 t119 8 t121 t122 t123 t124 w _ ?side1 ?side2 A21.out).mono ?_);(case side1=>repeat (first|(with_reducible first|exact HI120.out|apply IsS114.alloc|apply IsS114.drewN|apply IsS114.drew|apply IsS114.set_0|apply IsS114.set_1|apply IsS114.set_2|refine IsS114.far ?_ NB120_112.out _)|exact HI120.out));(case side2=>repeat (first|(with_reducible first|exact HB.out|apply below_alloc|apply pw_below_drewN|apply below_drew1|refine below_set ?_ (IsS114.ge HI120.out)|refine below_set ?_ GE112.out)|exact HB.out));rintro e w30 ⟨rfl,hi,hb,hk⟩;refine ⟨_,rfl,?_⟩;have n0_:=Aside0.mk (KeepBut.blk hk (g':=gb112) (o:=.cells #[.int .u32 0,.int .u64 0,.int .i64 0,.string (⟨#[]⟩ : ByteArray),.slice none 0 0] 28 (0,0)) (by (with_reducible repeat (first|refine blk_drewN ?_ _|refine blk_drew ?_|refine blk_alloc ?_ _));exact BK112.out) NB112_120.out (by simp));have n1_:=Aside0.mk (hb);have n2_:=Aside0.mk (hi);clear BK112;clear HB;clear HI120;have BK112:=n0_;have HB:=n1_;have HI120:=n2_;clear n0_ n1_ n2_;(try clear hb);(try clear hb2);(try clear hk);(try clear hi))|((with_reducible refine gate_callee (f:=40) rfl ?_);refine goesL_ (some 55) rfl rfl Try.func40 (by kernel_rfl) rfl #[.pointer (some ⟨g120,0,none⟩),.int .i64 4] rfl (by (try simp only [List.map_toArray,List.map_cons,List.map_nil]);first|done|rfl|(simp only [List.length_drop,List.length_take];rfl)) ?_;(with_reducible refine (raw_Reader_Number.calls g120 t122 t123 t124 4 t125 t126 t127 t128 w _ ?side1 ?side2 A22.out).mono ?_);(case side1=>repeat (first|(with_reducible first|exact HI120.out|apply IsS114.alloc|apply IsS114.drewN|apply IsS114.drew|apply IsS114.set_0|apply IsS114.set_1|apply IsS114.set_2|refine IsS114.far ?_ NB120_112.out _)|exact HI120.out));(case side2=>repeat (first|(with_reducible first|exact HB.out|apply below_alloc|apply pw_below_drewN|apply below_drew1|refine below_set ?_ (IsS114.ge HI120.out)|refine below_set ?_ GE112.out)|exact HB.out));rintro e w31 ⟨rfl,hi,hb,hk⟩;refine ⟨_,rfl,?_⟩;have n0_:=Aside0.mk (KeepBut.blk hk (g':=gb112) (o:=.cells #[.int .u32 0,.int .u64 0,.int .i64 0,.string (⟨#[]⟩ : ByteArray),.slice none 0 0] 28 (0,0)) (by (with_reducible repeat (first|refine blk_drewN ?_ _|refine blk_drew ?_|refine blk_alloc ?_ _));exact BK112.out) NB112_120.out (by simp));have n1_:=Aside0.mk (hb);have n2_:=Aside0.mk (hi);clear BK112;clear HB;clear HI120;have BK112:=n0_;have HB:=n1_;have HI120:=n2_;clear n0_ n1_ n2_;(try clear hb);(try clear hb2);(try clear hk);(try clear hi))|((with_reducible refine gate_callee (f:=40) rfl ?_);refine goesL_ (some 58) rfl rfl Try.func40 (by kernel_rfl) rfl #[.pointer (some ⟨g120,0,none⟩),.int .i64 1] rfl (by (try simp only [List.map_toArray,List.map_cons,List.map_nil]);first|done|rfl|(simp only [List.length_drop,List.length_take];rfl)) ?_;(with_reducible refine (raw_Reader_Number.calls g120 t126 t127 t128 1 t129 t130 t131 t132 w _ ?side1 ?side2 A23.out).mono ?_);(case side1=>repeat (first|(with_reducible first|exact HI120.out|apply IsS114.alloc|apply IsS114.drewN|apply IsS114.drew|apply IsS114.set_0|apply IsS114.set_1|apply IsS114.set_2|refine IsS114.far ?_ NB120_112.out _)|exact HI120.out));(case side2=>repeat (first|(with_reducible first|exact HB.out|apply below_alloc|apply pw_below_drewN|apply below_drew1|refine below_set ?_ (IsS114.ge HI120.out)|refine below_set ?_ GE112.out)|exact HB.out));rintro e w32 ⟨rfl,hi,hb,hk⟩;refine ⟨_,rfl,?_⟩;have n0_:=Aside0.mk (KeepBut.blk hk (g':=gb112) (o:=.cells #[.int .u32 0,.int .u64 0,.int .i64 0,.string (⟨#[]⟩ : ByteArray),.slice none 0 0] 28 (0,0)) (by (with_reducible repeat (first|refine blk_drewN ?_ _|refine blk_drew ?_|refine blk_alloc ?_ _));exact BK112.out) NB112_120.out (by simp));have n1_:=Aside0.mk (hb);have n2_:=Aside0.mk (hi);clear BK112;clear HB;clear HI120;have BK112:=n0_;have HB:=n1_;have HI120:=n2_;clear n0_ n1_ n2_;(try clear hb);(try clear hb2);(try clear hk);(try clear hi))|((with_reducible refine gate_dst (N:=7) rfl ?_);refine box_event ?hg (N:=7) ?hd (cs:=#[.int .u32 0,.int .u64 0,.int .i64 0,.string (⟨#[]⟩ : ByteArray),.slice none 0 0]) (t:=28) ?hr ?_;(case hd=>rfl);(case hg=>rfl);(case hr=>first|(go_simp;done)|(go_simp;rfl));intro gb133 hg w33 hbox hb;have n0_:=Aside0.mk (blk_below (g:=gb112) (o:=.cells #[.int .u32 0,.int .u64 0,.int .i64 0,.string (⟨#[]⟩ : ByteArray),.slice none 0 0] 28 (0,0)) (by (with_reducible repeat (first|refine blk_drewN ?_ _|refine blk_drew ?_|refine blk_alloc ?_ _));exact BK112.out) hb);have n1_:=Aside0.mk (IsS114.below (by repeat (first|(with_reducible first|exact HI120.out|apply IsS114.alloc|apply IsS114.drewN|apply IsS114.drew|apply IsS114.set_0|apply IsS114.set_1|apply IsS114.set_2|refine IsS114.far ?_ NB120_112.out _)|exact HI120.out)) hb);have n2_:=Aside0.mk (below_step (by repeat (first|(with_reducible first|exact HB.out|apply below_alloc|apply pw_below_drewN|apply below_drew1|refine below_set ?_ (IsS114.ge HI120.out)|refine below_set ?_ GE112.out)|exact HB.out)) hb);have n3_:=Aside0.mk (hbox);have n4_:=Aside0.mk ((by rw [hg];exact (below_size (by repeat (first|(with_reducible first|exact HB.out|apply below_alloc|apply pw_below_drewN|apply below_drew1|refine below_set ?_ (IsS114.ge HI120.out)|refine below_set ?_ GE112.out)|exact HB.out))) : w.heap.size≤gb133));have n5_:=Aside0.mk ((by rw [hg];exact (below_size (by repeat (first|(with_reducible first|exact HB.out|apply below_alloc|apply pw_below_drewN|apply below_drew1|refine below_set ?_ (IsS114.ge HI120.out)|refine below_set ?_ GE112.out)|exact HB.out))) : w.heap.size≤gb133));have n6_:=Aside0.mk ((by rw [hg];exact Nat.ne_of_lt (blk_lt (g:=gb112) (o:=.cells #[.int .u32 0,.int .u64 0,.int .i64 0,.string (⟨#[]⟩ : ByteArray),.slice none 0 0] 28 (0,0)) (by (with_reducible repeat (first|refine blk_drewN ?_ _|refine blk_drew ?_|refine blk_alloc ?_ _));exact BK112.out)) : gb112≠gb133));have n7_:=Aside0.mk ((by rw [hg];exact Nat.ne_of_gt (blk_lt (g:=gb112) (o:=.cells #[.int .u32 0,.int .u64 0,.int .i64 0,.string (⟨#[]⟩ : ByteArray),.slice none 0 0] 28 (0,0)) (by (with_reducible repeat (first|refine blk_drewN ?_ _|refine blk_drew ?_|refine blk_alloc ?_ _));exact BK112.out)) : gb133≠gb112));have n8_:=Aside0.mk ((by rw [hg];exact Nat.ne_of_lt (IsS114.lt (show IsS114 w _ g120 t130 t131 t132 from by repeat (first|(with_reducible first|exact HI120.out|apply IsS114.alloc|apply IsS114.drewN|apply IsS114.drew|apply IsS114.set_0|apply IsS114.set_1|apply IsS114.set_2|refine IsS114.far ?_ NB120_112.out _)|exact HI120.out))) : g120≠gb133));have n9_:=Aside0.mk ((by rw [hg];exact Nat.ne_of_gt (IsS114.lt (show IsS114 w _ g120 t130 t131 t132 from by repeat (first|(with_reducible first|exact HI120.out|apply IsS114.alloc|apply IsS114.drewN|apply IsS114.drew|apply IsS114.set_0|apply IsS114.set_1|apply IsS114.set_2|refine IsS114.far ?_ NB120_112.out _)|exact HI120.out))) : gb133≠g120));clear BK112;clear HI120;clear HB;have BK112:=n0_;have HI120:=n1_;have HB:=n2_;have BK133:=n3_;have GW133:=n4_;have GE133:=n5_;have NB112_133:=n6_;have NB133_112:=n7_;have NB120_133:=n8_;have NB133_120:=n9_;clear n0_ n1_ n2_ n3_ n4_ n5_ n6_ n7_ n8_ n9_;clear hb hbox hg;have hnb34:=NB133_112.out;have hnc34:=NB112_133.out;have hnb35:=NB133_120.out;have hnc35:=NB120_133.out;have hcz36_0 : w33.cell? ⟨gb133,0,none⟩=some (.int .u32 0):=(blk_cell BK133.out 0).trans rfl;have hcz36_1 : w33.cell? ⟨gb133,1,none⟩=some (.int .u64 0):=(blk_cell BK133.out 1).trans rfl;have hcz36_2 : w33.cell? ⟨gb133,2,none⟩=some (.int .i64 0):=(blk_cell BK133.out 2).trans rfl;have hcz36_3 : w33.cell? ⟨gb133,3,none⟩=some (.string (⟨#[]⟩ : ByteArray)):=(blk_cell BK133.out 3).trans rfl;have hcz36_4 : w33.cell? ⟨gb133,4,none⟩=some (.slice none 0 0):=(blk_cell BK133.out 4).trans rfl;have hfz36_0:=blk_frozen BK133.out 0;have hfz36_1:=blk_frozen BK133.out 1;have hfz36_2:=blk_frozen BK133.out 2;have hfz36_3:=blk_frozen BK133.out 3;have hfz36_4:=blk_frozen BK133.out 4)|((with_reducible refine gate_callee (f:=40) rfl ?_);refine goesL_ (some 63) rfl rfl Try.func40 (by kernel_rfl) rfl #[.pointer (some ⟨g120,0,none⟩),.int .i64 1] rfl (by (try simp only [List.map_toArray,List.map_cons,List.map_nil]);first|done|rfl|(simp only [List.length_drop,List.length_take];rfl)) ?_;(with_reducible refine (raw_Reader_Number.calls g120 t130 t131 t132 1 t134 t135 t136 t137 w _ ?side1 ?side2 A24.out).mono ?_);(case side1=>repeat (first|(with_reducible first|exact HI120.out|apply IsS114.alloc|apply IsS114.drewN|apply IsS114.drew|apply IsS114.set_0|apply IsS114.set_1|apply IsS114.set_2|refine IsS114.far ?_ NB120_112.out _|refine IsS114.far ?_ NB120_133.out _)|exact HI120.out));(case side2=>repeat (first|(with_reducible first|exact HB.out|apply below_alloc|apply pw_below_drewN|apply below_drew1|refine below_set ?_ (IsS114.ge HI120.out)|refine below_set ?_ GE112.out|refine below_set ?_ GE133.out)|exact HB.out));rintro e w37 ⟨rfl,hi,hb,hk⟩;refine ⟨_,rfl,?_⟩;have n0_:=Aside0.mk (KeepBut.blk hk (g':=gb112) (o:=.cells #[.int .u32 0,.int .u64 0,.int .i64 0,.string (⟨#[]⟩ : ByteArray),.slice none 0 0] 28 (0,0)) (by (with_reducible repeat (first|refine blk_drewN ?_ _|refine blk_drew ?_|refine blk_alloc ?_ _));refine blk_far ?_ NB112_133.out _;(with_reducible repeat (first|refine blk_drewN ?_ _|refine blk_drew ?_|refine blk_alloc ?_ _));refine blk_far ?_ NB112_133.out _;(with_reducible repeat (first|refine blk_drewN ?_ _|refine blk_drew ?_|refine blk_alloc ?_ _));refine blk_far ?_ NB112_133.out _;(with_reducible repeat (first|refine blk_drewN ?_ _|refine blk_drew ?_|refine blk_alloc ?_ _));refine blk_far ?_ NB112_133.out _;(with_reducible repeat (first|refine blk_drewN ?_ _|refine blk_drew ?_|refine blk_alloc ?_ _));refine blk_far ?_ NB112_133.out _;(with_reducible repeat (first|refine blk_drewN ?_ _|refine blk_drew ?_|refine blk_alloc ?_ _));exact BK112.out) NB112_120.out (by simp));have n1_:=Aside0.mk (KeepBut.blk hk (g':=gb133) (o:=.cells #[.int .u32 ((t125) % 4294967296),.int .u64 t121,.int .i64 (wrap64 (t129)),.string (⟨#[]⟩ : ByteArray),.slice none 0 0] 28 (0,0)) (by (with_reducible repeat (first|refine blk_drewN ?_ _|refine blk_drew ?_|refine blk_alloc ?_ _));refine blk_put (cs:=#[.int .u32 ((t125) % 4294967296),.int .u64 t121,.int .i64 (wrap64 (t129)),.string (⟨#[]⟩ : ByteArray),.slice none 0 0]) ?_ 4 _ rfl;(with_reducible repeat (first|refine blk_drewN ?_ _|refine blk_drew ?_|refine blk_alloc ?_ _));refine blk_put (cs:=#[.int .u32 ((t125) % 4294967296),.int .u64 t121,.int .i64 (wrap64 (t129)),.string (⟨#[]⟩ : ByteArray),.slice none 0 0]) ?_ 3 _ rfl;(with_reducible repeat (first|refine blk_drewN ?_ _|refine blk_drew ?_|refine blk_alloc ?_ _));refine blk_put (cs:=#[.int .u32 ((t125) % 4294967296),.int .u64 t121,.int .i64 0,.string (⟨#[]⟩ : ByteArray),.slice none 0 0]) ?_ 2 _ rfl;(with_reducible repeat (first|refine blk_drewN ?_ _|refine blk_drew ?_|refine blk_alloc ?_ _));refine blk_put (cs:=#[.int .u32 ((t125) % 4294967296),.int .u64 0,.int .i64 0,.string (⟨#[]⟩ : ByteArray),.slice none 0 0]) ?_ 1 _ rfl;(with_reducible repeat (first|refine blk_drewN ?_ _|refine blk_drew ?_|refine blk_alloc ?_ _));refine blk_put (cs:=#[.int .u32 0,.int .u64 0,.int .i64 0,.string (⟨#[]⟩ : ByteArray),.slice none 0 0]) ?_ 0 _ rfl;(with_reducible repeat (first|refine blk_drewN ?_ _|refine blk_drew ?_|refine blk_alloc ?_ _));exact BK133.out) NB133_120.out (by simp));have n2_:=Aside0.mk (hb);have n3_:=Aside0.mk (hi);clear BK112;clear BK133;clear HB;clear HI120;have BK112:=n0_;have BK133:=n1_;have HB:=n2_;have HI120:=n3_;clear n0_ n1_ n2_ n3_;(try clear hb);(try clear hb2);(try clear hk);(try clear hi))|((with_reducible refine gate_callee (f:=41) rfl ?_);refine goesL_ (some 65) rfl rfl Try.func41 (by kernel_rfl) rfl #[.pointer (some ⟨g120,0,none⟩),.int .i64 (wrap64 (t134))] rfl (by (try simp only [List.map_toArray,List.map_cons,List.map_nil]);first|done|rfl|(simp only [List.length_drop,List.length_take];rfl)) ?_;(with_reducible refine (raw_Reader_Bytes.calls g120 t135 t136 t137 (wrap64 (t134)) t138 t139 t140 t141 w _ ?side1 ?side2 A25.out).mono ?_);(case side1=>repeat (first|(with_reducible first|exact HI120.out|apply IsS114.alloc|apply IsS114.drewN|apply IsS114.drew|apply IsS114.set_0|apply IsS114.set_1|apply IsS114.set_2|refine IsS114.far ?_ NB120_112.out _|refine IsS114.far ?_ NB120_133.out _)|exact HI120.out));(case side2=>repeat (first|(with_reducible first|exact HB.out|apply below_alloc|apply pw_below_drewN|apply below_drew1|refine below_set ?_ (IsS114.ge HI120.out)|refine below_set ?_ GE112.out|refine below_set ?_ GE133.out)|exact HB.out));rintro e w38 ⟨rfl,hi,hb,hk⟩;refine ⟨_,rfl,?_⟩;have n0_:=Aside0.mk (KeepBut.blk hk (g':=gb112) (o:=.cells #[.int .u32 0,.int .u64 0,.int .i64 0,.string (⟨#[]⟩ : ByteArray),.slice none 0 0] 28 (0,0)) (by (with_reducible repeat (first|refine blk_drewN ?_ _|refine blk_drew ?_|refine blk_alloc ?_ _));exact BK112.out) NB112_120.out (by simp));have n1_:=Aside0.mk (KeepBut.blk hk (g':=gb133) (o:=.cells #[.int .u32 ((t125) % 4294967296),.int .u64 t121,.int .i64 (wrap64 (t129)),.string (⟨#[]⟩ : ByteArray),.slice none 0 0] 28 (0,0)) (by (with_reducible repeat (first|refine blk_drewN ?_ _|refine blk_drew ?_|refine blk_alloc ?_ _));exact BK133.out) NB133_120.out (by simp));have n2_:=Aside0.mk (hb);have n3_:=Aside0.mk (hi);clear BK112;clear BK133;clear HB;clear HI120;have BK112:=n0_;have BK133:=n1_;have HB:=n2_;have HI120:=n3_;clear n0_ n1_ n2_ n3_;(try clear hb);(try clear hb2);(try clear hk);(try clear hi);have hcz39_0 : w38.cell? ⟨gb133,0,none⟩=some (.int .u32 ((t125) % 4294967296)):=(blk_cell BK133.out 0).trans rfl;have hcz39_1 : w38.cell? ⟨gb133,1,none⟩=some (.int .u64 t121):=(blk_cell BK133.out 1).trans rfl;have hcz39_2 : w38.cell? ⟨gb133,2,none⟩=some (.int .i64 (wrap64 (t129))):=(blk_cell BK133.out 2).trans rfl;have hcz39_3 : w38.cell? ⟨gb133,3,none⟩=some (.string (⟨#[]⟩ : ByteArray)):=(blk_cell BK133.out 3).trans rfl;have hcz39_4 : w38.cell? ⟨gb133,4,none⟩=some (.slice none 0 0):=(blk_cell BK133.out 4).trans rfl;have hfz39_0:=blk_frozen BK133.out 0;have hfz39_1:=blk_frozen BK133.out 1;have hfz39_2:=blk_frozen BK133.out 2;have hfz39_3:=blk_frozen BK133.out 3;have hfz39_4:=blk_frozen BK133.out 4)|((with_reducible refine gate_callee (f:=40) rfl ?_);refine goesL_ (some 68) rfl rfl Try.func40 (by kernel_rfl) rfl #[.pointer (some ⟨g120,0,none⟩),.int .i64 1] rfl (by (try simp only [List.map_toArray,List.map_cons,List.map_nil]);first|done|rfl|(simp only [List.length_drop,List.length_take];rfl)) ?_;(with_reducible refine (raw_Reader_Number.calls g120 t139 t140 t141 1 t142 t143 t144 t145 w _ ?side1 ?side2 A26.out).mono ?_);(case side1=>repeat (first|(with_reducible first|exact HI120.out|apply IsS114.alloc|apply IsS114.drewN|apply IsS114.drew|apply IsS114.set_0|apply IsS114.set_1|apply IsS114.set_2|refine IsS114.far ?_ NB120_112.out _|refine IsS114.far ?_ NB120_133.out _)|exact HI120.out));(case side2=>repeat (first|(with_reducible first|exact HB.out|apply below_alloc|apply pw_below_drewN|apply below_drew1|refine below_set ?_ (IsS114.ge HI120.out)|refine below_set ?_ GE112.out|refine below_set ?_ GE133.out)|exact HB.out));rintro e w40 ⟨rfl,hi,hb,hk⟩;refine ⟨_,rfl,?_⟩;have n0_:=Aside0.mk (KeepBut.blk hk (g':=gb112) (o:=.cells #[.int .u32 0,.int .u64 0,.int .i64 0,.string (⟨#[]⟩ : ByteArray),.slice none 0 0] 28 (0,0)) (by (with_reducible repeat (first|refine blk_drewN ?_ _|refine blk_drew ?_|refine blk_alloc ?_ _));refine blk_far ?_ NB112_133.out _;(with_reducible repeat (first|refine blk_drewN ?_ _|refine blk_drew ?_|refine blk_alloc ?_ _));exact BK112.out) NB112_120.out (by simp));have n1_:=Aside0.mk (KeepBut.blk hk (g':=gb133) (o:=.cells #[.int .u32 ((t125) % 4294967296),.int .u64 t121,.int .i64 (wrap64 (t129)),.string t138,.slice none 0 0] 28 (0,0)) (by (with_reducible repeat (first|refine blk_drewN ?_ _|refine blk_drew ?_|refine blk_alloc ?_ _));refine blk_put (cs:=#[.int .u32 ((t125) % 4294967296),.int .u64 t121,.int .i64 (wrap64 (t129)),.string (⟨#[]⟩ : ByteArray),.slice none 0 0]) ?_ 3 _ rfl;(with_reducible repeat (first|refine blk_drewN ?_ _|refine blk_drew ?_|refine blk_alloc ?_ _));exact BK133.out) NB133_120.out (by simp));have n2_:=Aside0.mk (hb);have n3_:=Aside0.mk (hi);clear BK112;clear BK133;clear HB;clear HI120;have BK112:=n0_;have BK133:=n1_;have HB:=n2_;have HI120:=n3_;clear n0_ n1_ n2_ n3_;(try clear hb);(try clear hb2);(try clear hk);(try clear hi)))
         go_loopg [8,9] k (fun kq v8 v9 w'=>∃ (x8_1 : List Int) (x9_1 : Int) (x121000_1 : ByteArray) (x121001_1 : Int) (x121002_1 : Int),v9=.int .i64 x9_1∧Aside0 (page_Decode.l0 kq a0 x8_1 x9_1 x121000_1 x121001_1 x121002_1 ((t125) % 4294967296) t121 (wrap64 (t129)) t138=some (r1,r2,r3,r4,r5,r6))∧Aside0 (kq≤k)∧Aside0 (Kd.R (Kd.int .i64) 3 w' w.heap.size (fun _=>True) v8 x8_1)∧Aside0 (w'.heap[gb112]?=some (.cells #[.int .u32 0,.int .u64 0,.int .i64 0,.string (⟨#[]⟩ : ByteArray),(.slice none 0 0)] 28 (0,0)))∧Aside0 (w'.heap[gb133]?=some (.cells #[.int .u32 ((t125) % 4294967296),.int .u64 t121,.int .i64 (wrap64 (t129)),.string t138,(.slice none 0 0)] 28 (0,0)))∧Aside0 (IsS114 w w' g120 x121000_1 x121001_1 x121002_1)∧Aside0 (Below w.heap.size w w'))
         case atStart=>exact ⟨(([] : List Int)),(wrap64 (t142)),(t143),(t144),(t145),(by first|rfl|(simp;done)|(simp [*];done)),H',⟨Nat.le_refl _⟩,⟨by first|exact Kd.R_nil _ _ _ _ _|exact Kd.N_nil _ _ _ _ _|exact Kd.V_nil _ _ _ _ _|exact Kd.Q_nil _ _ _ _ _|exact Kd.S_nil _ _ _ _ _⟩,⟨by (with_reducible repeat (first|refine blk_drewN ?_ _|refine blk_drew ?_|refine blk_alloc ?_ _));exact BK112.out⟩,⟨by (with_reducible repeat (first|refine blk_drewN ?_ _|refine blk_drew ?_|refine blk_alloc ?_ _));exact BK133.out⟩,⟨by repeat (first|(with_reducible first|exact HI120.out|apply IsS114.alloc|apply IsS114.drewN|apply IsS114.drew|apply IsS114.set_0|apply IsS114.set_1|apply IsS114.set_2|refine IsS114.far ?_ NB120_112.out _|refine IsS114.far ?_ NB120_133.out _)|exact HI120.out)⟩,⟨by repeat (first|(with_reducible first|exact HB.out|apply below_alloc|apply pw_below_drewN|apply below_drew1|refine below_set ?_ (IsS114.ge HI120.out)|refine below_set ?_ GE112.out|refine below_set ?_ GE133.out)|exact HB.out)⟩⟩
         case round =>
          clear H'
          try clear c1
          try clear c2
          try clear c2b0
          try clear c2b1
          try clear p2
          try clear c3
          try clear c4
          try clear c5
          try clear c5b0
          try clear c5b1
          try clear p6
          try clear c9
          try clear c9b0
          try clear c9b1
          try clear c11
          try clear c12
          try clear c12b0
          try clear c12b1
          try clear c13
          try clear c13b0
          try clear c13b1
          try clear c14
          try clear c14b0
          try clear c14b1
          try clear c16
          try clear c16b0
          try clear c16b1
          try clear c18
          try clear c18b0
          try clear c18b1
          try clear c19
          try clear c19b0
          try clear c33
          try clear c34
          try clear c35
          try clear c37
          try clear c38
          try clear c39
          try clear c40
          try clear hcz11_0
          try clear hcz11_1
          try clear hcz11_2
          try clear hcz11_3
          try clear hcz11_4
          try clear hcz36_0
          try clear hcz36_1
          try clear hcz36_2
          try clear hcz36_3
          try clear hcz36_4
          try clear hcz39_0
          try clear hcz39_1
          try clear hcz39_2
          try clear hcz39_3
          try clear hcz39_4
          try clear hcz4_0
          try clear hcz4_1
          try clear hcz4_2
          try clear hcz4_3
          try clear hcz4_4
          try clear hcz7_0
          try clear hcz7_1
          try clear hcz7_2
          try clear hcz7_3
          try clear hcz7_4
          try clear hfz11_0
          try clear hfz11_1
          try clear hfz11_2
          try clear hfz11_3
          try clear hfz11_4
          try clear hfz36_0
          try clear hfz36_1
          try clear hfz36_2
          try clear hfz36_3
          try clear hfz36_4
          try clear hfz39_0
          try clear hfz39_1
          try clear hfz39_2
          try clear hfz39_3
          try clear hfz39_4
          try clear hfz4_0
          try clear hfz4_1
          try clear hfz4_2
          try clear hfz4_3
          try clear hfz4_4
          try clear hfz7_0
          try clear hfz7_1
          try clear hfz7_2
          try clear hfz7_3
          try clear hfz7_4
          obtain ⟨x8_1,x9_1,x121000_1,x121001_1,x121002_1,rfl,HA,HK1,HO_8,BK112,BK133,HI120,HB⟩:=hrel
          cases gk with
          | zero=>exact absurd HA.out (by simp [page_Decode.l0])
          | succ k1 =>
           have H:=HA.out
           clear HA
           simp only [page_Decode.l0] at H
           by_cases c41 : x9_1 > 0
           ·rw [if_pos c41] at H
            have c41b0 : decide (0 < x9_1)=true:=decide_eq_true c41
            clear c41
            replace H:=Option.bind_eq_some_iff.mp H
            obtain ⟨⟨t146,t147,t148,t149⟩,A420,H⟩:=H
            replace H : (if x8_1.length < 17592186044416 then (page_Decode.l0 k1 a0 (x8_1 ++ [wrap64 (t146)]) (wrap64 (x9_1 - 1)) t147 t148 t149 ((t125) % 4294967296) t121 (wrap64 (t129)) t138) else (none))=some (r1,r2,r3,r4,r5,r6):=H
            have A42:=Aside0.mk A420
            clear A420
            by_cases c43 : x8_1.length < 17592186044416
            ·rw [if_pos c43] at H
             have LMc43:=Aside0.mk c43
             clear c43
             obtain ⟨y150,hy150⟩ : ∃ y_ : List Int,y_=(x8_1 ++ [wrap64 (t146)]):=⟨_,rfl⟩
             replace H : (page_Decode.l0 k1 a0 y150 (wrap64 (x9_1 - 1)) t147 t148 t149 ((t125) % 4294967296) t121 (wrap64 (t129)) t138)=some (r1,r2,r3,r4,r5,r6):=by first|(rw [hy150];with_reducible exact H)|(have H2_:=(Option.bind_some _ _).symm.trans H;rw [hy150];with_reducible exact H2_)|(have H2_:=(Option.bind_some _ _).symm.trans H;with_reducible exact H2_)|with_reducible exact H|(rw [hy150];exact H)|exact H
             have Ny150:=Aside0.mk hy150
             clear hy150
             have H':=Aside0.mk H
             clear H
             go_wp2_with (first|((with_reducible refine gate_callee (f:=40) rfl ?_);refine goesL_ (some 76) rfl rfl Try.func40 (by kernel_rfl) rfl #[.pointer (some ⟨g120,0,none⟩),.int .i64 2] rfl (by (try simp only [List.map_toArray,List.map_cons,List.map_nil]);first|done|rfl|(simp only [List.length_drop,List.length_take];rfl)) ?_;(with_reducible refine (raw_Reader_Number.calls g120 x121000_1 x121001_1 x121002_1 2 t146 t147 t148 t149 w _ ?side1 ?side2 A42.out).mono ?_);(case side1=>repeat (first|(with_reducible first|exact HI120.out|apply IsS114.alloc|apply IsS114.drewN|apply IsS114.drew|apply IsS114.set_0|apply IsS114.set_1|apply IsS114.set_2|refine IsS114.far ?_ NB120_112.out _|refine IsS114.far ?_ NB120_133.out _)|exact HI120.out));(case side2=>repeat (first|(with_reducible first|exact HB.out|apply below_alloc|apply pw_below_drewN|apply below_drew1|refine below_set ?_ (IsS114.ge HI120.out)|refine below_set ?_ GE112.out|refine below_set ?_ GE133.out)|exact HB.out));rintro e w44 ⟨rfl,hi,hb,hk⟩;refine ⟨_,rfl,?_⟩;have n0_:=Aside0.mk (Kd.R_mono (Kd.R_keep (IsS114.apart (show IsS114 w _ g120 x121000_1 x121001_1 x121002_1 from by repeat (first|(with_reducible first|exact HI120.out|apply IsS114.alloc|apply IsS114.drewN|apply IsS114.drew|apply IsS114.set_0|apply IsS114.set_1|apply IsS114.set_2|refine IsS114.far ?_ NB120_112.out _|refine IsS114.far ?_ NB120_133.out _)|exact HI120.out)) (by (with_reducible repeat (first|apply Kd.R_alloc|apply Kd.R_drewN|apply Kd.R_drew));exact HO_8.out) (by decide)) hk (fun _ h=>h.2)) (fun _ h=>h.1));have n1_:=Aside0.mk (KeepBut.blk hk (g':=gb112) (o:=.cells #[.int .u32 0,.int .u64 0,.int .i64 0,.string (⟨#[]⟩ : ByteArray),.slice none 0 0] 28 (0,0)) (by (with_reducible repeat (first|refine blk_drewN ?_ _|refine blk_drew ?_|refine blk_alloc ?_ _));exact BK112.out) NB112_120.out (by simp));have n2_:=Aside0.mk (KeepBut.blk hk (g':=gb133) (o:=.cells #[.int .u32 ((t125) % 4294967296),.int .u64 t121,.int .i64 (wrap64 (t129)),.string t138,.slice none 0 0] 28 (0,0)) (by (with_reducible repeat (first|refine blk_drewN ?_ _|refine blk_drew ?_|refine blk_alloc ?_ _));exact BK133.out) NB133_120.out (by simp));have n3_:=Aside0.mk (hb);have n4_:=Aside0.mk (hi);clear HO_8;clear BK112;clear BK133;clear HB;clear HI120;have HO_8:=n0_;have BK112:=n1_;have BK133:=n2_;have HB:=n3_;have HI120:=n4_;clear n0_ n1_ n2_ n3_ n4_;(try clear hb);(try clear hb2);(try clear hk);(try clear hi))|((with_reducible refine gate_builtin (b:=.append) (xs:=#[.tmp 74,.tmp 78]) rfl ?_);at_builtin;refine Kd.R_append (Kd.int .i64) (w0:=w) w.heap.size rfl (.tmp 74) (.tmp 78) 82 3 (.int .i64 0) 8 rfl Try.underlying82 info3 rfl (by decide) (by omega) u8 x8_1 (wrap64 (t146)) [.int .i64 (wrap64 (t146))] (fun _=>True) (fun _=>False) rfl rfl ?aP (fun _ hk=>hk.elim) ?aF ?aO ?aB ?aS ?aL ?_;(case aP=>exact rfl);(case aB=>exact (by repeat (first|(with_reducible first|exact HB.out|apply below_alloc|apply pw_below_drewN|apply below_drew1|refine below_set ?_ (IsS114.ge HI120.out)|refine below_set ?_ GE112.out|refine below_set ?_ GE133.out)|exact HB.out)));(case aF=>exact (fun _ _=>trivial));(case aO=>exact (by (with_reducible repeat (first|apply Kd.R_alloc|apply Kd.R_drewN|apply Kd.R_drew));exact HO_8.out));(case aS=>exact (below_size (by repeat (first|(with_reducible first|exact HB.out|apply below_alloc|apply pw_below_drewN|apply below_drew1|refine below_set ?_ (IsS114.ge HI120.out)|refine below_set ?_ GE112.out|refine below_set ?_ GE133.out)|exact HB.out))));(case aL=>have:=LMc43.out;omega);intro v151 w45 ho hb hg hat;rw [← Ny150.out] at ho;have n0_:=Aside0.mk (blk_grown (g:=gb112) (o:=.cells #[.int .u32 0,.int .u64 0,.int .i64 0,.string (⟨#[]⟩ : ByteArray),.slice none 0 0] 28 (0,0)) (by (with_reducible repeat (first|refine blk_drewN ?_ _|refine blk_drew ?_|refine blk_alloc ?_ _));exact BK112.out) hg (Kd.R_ne HO_8.out BK112.out (by decide)));have n1_:=Aside0.mk (blk_grown (g:=gb133) (o:=.cells #[.int .u32 ((t125) % 4294967296),.int .u64 t121,.int .i64 (wrap64 (t129)),.string t138,.slice none 0 0] 28 (0,0)) (by (with_reducible repeat (first|refine blk_drewN ?_ _|refine blk_drew ?_|refine blk_alloc ?_ _));exact BK133.out) hg (Kd.R_ne HO_8.out BK133.out (by decide)));have n2_:=Aside0.mk (IsS114.grown (by repeat (first|(with_reducible first|exact HI120.out|apply IsS114.alloc|apply IsS114.drewN|apply IsS114.drew|apply IsS114.set_0|apply IsS114.set_1|apply IsS114.set_2|refine IsS114.far ?_ NB120_112.out _|refine IsS114.far ?_ NB120_133.out _)|exact HI120.out)) hg (IsS114.own_ne HI120.out HO_8.out (by decide)));have n3_:=Aside0.mk (hb);have n4_:=Aside0.mk (ho);clear BK112;clear BK133;clear HI120;clear HB;clear HO_8;have BK112:=n0_;have BK133:=n1_;have HI120:=n2_;have HB:=n3_;have HO152:=n4_;clear n0_ n1_ n2_ n3_ n4_;clear ho hb hg hat))
             go_roundg k1
             case measure=>have:=HK1.out;omega
             case rel=>exact ⟨(y150),(wrap64 (x9_1 - 1)),(t147),(t148),(t149),(by first|rfl|(simp;done)|(simp [*];done)),H',⟨by have:=HK1.out;omega⟩,⟨by (with_reducible repeat (first|apply Kd.R_alloc|apply Kd.R_drewN|apply Kd.R_drew));exact HO152.out⟩,⟨by (with_reducible repeat (first|refine blk_drewN ?_ _|refine blk_drew ?_|refine blk_alloc ?_ _));exact BK112.out⟩,⟨by (with_reducible repeat (first|refine blk_drewN ?_ _|refine blk_drew ?_|refine blk_alloc ?_ _));exact BK133.out⟩,⟨by repeat (first|(with_reducible first|exact HI120.out|apply IsS114.alloc|apply IsS114.drewN|apply IsS114.drew|apply IsS114.set_0|apply IsS114.set_1|apply IsS114.set_2|refine IsS114.far ?_ NB120_112.out _|refine IsS114.far ?_ NB120_133.out _)|exact HI120.out)⟩,⟨by repeat (first|(with_reducible first|exact HB.out|apply below_alloc|apply pw_below_drewN|apply below_drew1|refine below_set ?_ (IsS114.ge HI120.out)|refine below_set ?_ GE112.out|refine below_set ?_ GE133.out)|exact HB.out)⟩⟩
            ·rw [if_neg c43] at H
             exact absurd H (by simp)
           ·rw [if_neg c41] at H
            have c41b0 : decide (0 < x9_1)=false:=decide_eq_false c41
            clear c41
            have H':=Aside0.mk H
            clear H
            obtain ⟨Ao46,co46,eo46⟩:=Kd.R_slice HO_8.out
            subst eo46
            go_wp2
            go_loopg [82] k1 (fun kq v82 w'=>∃ (x82_2 : Int) (x121000_2 : ByteArray) (x121001_2 : Int) (x121002_2 : Int) (x134004_2 : List ByteArray) (u134004 : Value),v82=.int .i64 x82_2∧Aside0 (page_Decode.l1 kq a0 x8_1 (x8_1.length : Int) x82_2 x121000_2 x121001_2 x121002_2 ((t125) % 4294967296) t121 (wrap64 (t129)) t138 x134004_2=some (r1,r2,r3,r4,r5,r6))∧Aside0 (kq≤k1)∧Aside0 (Kd.R (Kd.int .i64) 3 w' w.heap.size (fun _=>True) (.slice Ao46 x8_1.length co46) x8_1)∧Aside0 (Kd.R Kd.string 9 w' w.heap.size (fun _=>True) u134004 x134004_2)∧Aside0 (w'.heap[gb112]?=some (.cells #[.int .u32 0,.int .u64 0,.int .i64 0,.string (⟨#[]⟩ : ByteArray),(.slice none 0 0)] 28 (0,0)))∧Aside0 (w'.heap[gb133]?=some (.cells #[.int .u32 ((t125) % 4294967296),.int .u64 t121,.int .i64 (wrap64 (t129)),.string t138,u134004] 28 (0,0)))∧Aside0 (IsS114 w w' g120 x121000_2 x121001_2 x121002_2)∧Aside0 (Below w.heap.size w w'))
            case atStart=>exact ⟨(0),(x121000_1),(x121001_1),(x121002_1),(([] : List ByteArray)),(.slice none 0 0),(by first|rfl|(simp;done)|(simp [*];done)),H',⟨Nat.le_refl _⟩,⟨by (with_reducible repeat (first|apply Kd.R_alloc|apply Kd.R_drewN|apply Kd.R_drew));exact HO_8.out⟩,⟨by first|exact Kd.R_nil _ _ _ _ _|exact Kd.N_nil _ _ _ _ _|exact Kd.V_nil _ _ _ _ _|exact Kd.Q_nil _ _ _ _ _|exact Kd.S_nil _ _ _ _ _⟩,⟨by (with_reducible repeat (first|refine blk_drewN ?_ _|refine blk_drew ?_|refine blk_alloc ?_ _));exact BK112.out⟩,⟨by (with_reducible repeat (first|refine blk_drewN ?_ _|refine blk_drew ?_|refine blk_alloc ?_ _));exact BK133.out⟩,⟨by repeat (first|(with_reducible first|exact HI120.out|apply IsS114.alloc|apply IsS114.drewN|apply IsS114.drew|apply IsS114.set_0|apply IsS114.set_1|apply IsS114.set_2|refine IsS114.far ?_ NB120_112.out _|refine IsS114.far ?_ NB120_133.out _)|exact HI120.out)⟩,⟨by repeat (first|(with_reducible first|exact HB.out|apply below_alloc|apply pw_below_drewN|apply below_drew1|refine below_set ?_ (IsS114.ge HI120.out)|refine below_set ?_ GE112.out|refine below_set ?_ GE133.out)|exact HB.out)⟩⟩
            case round =>
             clear H'
             try clear c1
             try clear c2
             try clear c2b0
             try clear c2b1
             try clear p2
             try clear c3
             try clear c4
             try clear c5
             try clear c5b0
             try clear c5b1
             try clear p6
             try clear c9
             try clear c9b0
             try clear c9b1
             try clear c11
             try clear c12
             try clear c12b0
             try clear c12b1
             try clear c13
             try clear c13b0
             try clear c13b1
             try clear c14
             try clear c14b0
             try clear c14b1
             try clear c16
             try clear c16b0
             try clear c16b1
             try clear c18
             try clear c18b0
             try clear c18b1
             try clear c19
             try clear c19b0
             try clear c33
             try clear c34
             try clear c35
             try clear c37
             try clear c38
             try clear c39
             try clear c40
             try clear c41
             try clear c41b0
             try clear c43
             try clear hcz11_0
             try clear hcz11_1
             try clear hcz11_2
             try clear hcz11_3
             try clear hcz11_4
             try clear hcz36_0
             try clear hcz36_1
             try clear hcz36_2
             try clear hcz36_3
             try clear hcz36_4
             try clear hcz39_0
             try clear hcz39_1
             try clear hcz39_2
             try clear hcz39_3
             try clear hcz39_4
             try clear hcz4_0
             try clear hcz4_1
             try clear hcz4_2
             try clear hcz4_3
             try clear hcz4_4
             try clear hcz7_0
             try clear hcz7_1
             try clear hcz7_2
             try clear hcz7_3
             try clear hcz7_4
             try clear hfz11_0
             try clear hfz11_1
             try clear hfz11_2
             try clear hfz11_3
             try clear hfz11_4
             try clear hfz36_0
             try clear hfz36_1
             try clear hfz36_2
             try clear hfz36_3
             try clear hfz36_4
             try clear hfz39_0
             try clear hfz39_1
             try clear hfz39_2
             try clear hfz39_3
             try clear hfz39_4
             try clear hfz4_0
             try clear hfz4_1
             try clear hfz4_2
             try clear hfz4_3
             try clear hfz4_4
             try clear hfz7_0
             try clear hfz7_1
             try clear hfz7_2
             try clear hfz7_3
             try clear hfz7_4
             try clear p2
             try clear p6
             obtain ⟨x82_2,x121000_2,x121001_2,x121002_2,x134004_2,u134004,rfl,HA,HK2,HO_80,HO_134004,BK112,BK133,HI120,HB⟩:=hrel
             cases gk with
             | zero=>exact absurd HA.out (by simp [page_Decode.l1])
             | succ k2 =>
              have H:=HA.out
              clear HA
              simp only [page_Decode.l1] at H
              by_cases c47 : x82_2 < (x8_1.length : Int)
              ·rw [if_pos c47] at H
               have c47b0 : decide (x82_2 < (x8_1.length : Int))=true:=decide_eq_true c47
               clear c47
               by_cases c48 : 0≤x82_2
               ·rw [if_pos c48] at H
                have c48b0 : decide (0≤x82_2)=true:=decide_eq_true c48
                clear c48
                by_cases c49 : x82_2 < (x8_1.length : Int)
                ·rw [if_pos c49] at H
                 have c49b0 : decide (x82_2 < (x8_1.length : Int))=true:=decide_eq_true c49
                 clear c49
                 replace H:=Option.bind_eq_some_iff.mp H
                 obtain ⟨⟨t154,t155,t156,t157⟩,A500,H⟩:=H
                 replace H : (if x134004_2.length < 8796093022208 then (page_Decode.l1 k2 a0 x8_1 (x8_1.length : Int) (wrap64 (x82_2 + 1)) t155 t156 t157 ((t125) % 4294967296) t121 (wrap64 (t129)) t138 (x134004_2 ++ [t154])) else (none))=some (r1,r2,r3,r4,r5,r6):=H
                 have A50:=Aside0.mk A500
                 clear A500
                 by_cases c51 : x134004_2.length < 8796093022208
                 ·rw [if_pos c51] at H
                  have LMc51:=Aside0.mk c51
                  clear c51
                  obtain ⟨y158,hy158⟩ : ∃ y_ : List ByteArray,y_=(x134004_2 ++ [t154]):=⟨_,rfl⟩
                  replace H : (page_Decode.l1 k2 a0 x8_1 (x8_1.length : Int) (wrap64 (x82_2 + 1)) t155 t156 t157 ((t125) % 4294967296) t121 (wrap64 (t129)) t138 y158)=some (r1,r2,r3,r4,r5,r6):=by first|(rw [hy158];with_reducible exact H)|(have H2_:=(Option.bind_some _ _).symm.trans H;rw [hy158];with_reducible exact H2_)|(have H2_:=(Option.bind_some _ _).symm.trans H;with_reducible exact H2_)|with_reducible exact H|(rw [hy158];exact H)|exact H
                  have Ny158:=Aside0.mk hy158
                  clear hy158
                  have H':=Aside0.mk H
                  clear H
                  have p153 : 0≤(x82_2 : Int):=of_decide_eq_true (by first|(with_reducible assumption)|assumption)
                  have q153 : x82_2 < (x8_1.length : Int):=of_decide_eq_true (by first|(with_reducible assumption)|assumption)
                  obtain ⟨ad153,e153,hx153_0⟩:=Kd.at_int (Kd.R_reads' HO_80.out).2.2 x82_2 p153 q153
                  cases e153
                  replace p153:=eq_true p153
                  replace q153:=eq_true q153
                  try go_wp2
                  have n0_:=Aside0.mk (Kd.R_drew HO_80.out)
                  have n1_:=Aside0.mk (Kd.R_drew HO_134004.out)
                  have n2_:=Aside0.mk (blk_drew BK112.out)
                  have n3_:=Aside0.mk (blk_drew BK133.out)
                  have n4_:=Aside0.mk (IsS114.drew HI120.out)
                  have n5_:=Aside0.mk (below_drew1 HB.out)
                  clear HO_80
                  clear HO_134004
                  clear BK112
                  clear BK133
                  clear HI120
                  clear HB
                  have HO_80:=n0_
                  have HO_134004:=n1_
                  have BK112:=n2_
                  have BK133:=n3_
                  have HI120:=n4_
                  have HB:=n5_
                  clear n0_ n1_ n2_ n3_ n4_ n5_
                  refine start_ (n:=9) (S:=fun w'=>w'.cell? ⟨gb133,0,none⟩=some (.int .u32 ((t125) % 4294967296))∧w'.cell? ⟨gb133,1,none⟩=some (.int .u64 t121)∧w'.cell? ⟨gb133,2,none⟩=some (.int .i64 (wrap64 (t129)))∧w'.cell? ⟨gb133,3,none⟩=some (.string t138)∧w'.cell? ⟨gb133,4,none⟩=some (u134004)) (ds:=[8]) #[false,false,false,false,false,false,false,false,false] (by kernel_rfl) rfl rfl ⟨(blk_cell BK133.out 0).trans rfl,(blk_cell BK133.out 1).trans rfl,(blk_cell BK133.out 2).trans rfl,(blk_cell BK133.out 3).trans rfl,(blk_cell BK133.out 4).trans rfl⟩ (fun hHeld=>?_);refine with_tabW page_Decode.tab23 page_Decode.bits23 (fun HT_ HW_=>?_)
                  generalize wr.drew=w52 at HO_80 HO_134004 BK112 BK133 HI120 HB hHeld ⊢
                  refine pure_ (i:=0) (N:=some 86) (v:=?_) (a':=?_) #[true,false,false,false,false,false,false,false,false] rfl rfl (any_of HT_.out (by kernel_rfl)) (fun _ _ _ h=>h) (Or.inl ⟨by rfl,?_⟩) ?_ ?_
                  rotate_left
                  ·intro w'
                   go_simp
                   with_reducible rfl
                  rotate_left
                  ·simp only [Act.put,sA_,sB_,sC_,i64_w,i32_w]
                   rfl
                  refine pure_ (i:=2) (N:=some 88) (v:=?_) (a':=?_) #[true,false,true,false,false,false,false,false,false] rfl rfl (any_of HT_.out (by kernel_rfl)) (fun _ _ _ h=>h) (Or.inl ⟨by rfl,?_⟩) ?_ ?_
                  rotate_left
                  ·intro w'
                   go_simp
                   with_reducible rfl
                  rotate_left
                  ·simp only [Act.put,sA_,sB_,sC_,i64_w,i32_w]
                   rfl
                  refine pure_ (i:=3) (N:=some 89) (v:=?_) (a':=?_) #[true,false,true,true,false,false,false,false,false] rfl rfl (any_of HT_.out (by kernel_rfl)) (fun _ _ _ h=>h) (Or.inl ⟨by rfl,?_⟩) ?_ ?_
                  rotate_left
                  ·intro w'
                   go_simp
                   with_reducible rfl
                  rotate_left
                  ·simp only [Act.put,sA_,sB_,sC_,i64_w,i32_w]
                   rfl
                  refine take_ (i:=1) (N:=some 87) (v:=?_) (a':=?_) #[true,true,true,true,false,false,false,false,false] rfl rfl (take_ofW HT_.out HW_.out (by kernel_rfl)) (fun _ _ _ h=>h) (Or.inl ⟨by rfl,?_⟩) hHeld ?_ ?_
                  rotate_left
                  ·rintro w' ⟨s0,s1,s2,s3,s4⟩
                   go_simp
                   with_reducible rfl
                  rotate_left
                  ·simp only [Act.put,sA_,sB_,sC_,i64_w,i32_w]
                   rfl
                  refine one_ (i:=4) (N:=some 90) #[true,true,true,true,true,false,false,false,false] rfl rfl (one_of HT_.out (by kernel_rfl)) (by decide) (fun K hK=>?_)
                  refine goes_ Try.func41 (by kernel_rfl) rfl #[.pointer (some ⟨g120,0,none⟩),.int .i64 (rd x8_1 x82_2)] (by rfl) rfl rfl (by (try simp only [List.map_toArray,List.map_cons,List.map_nil]);first|done|rfl|(simp only [List.length_drop,List.length_take];rfl)) ?_
                  with_reducible refine (raw_Reader_Bytes.calls g120 x121000_2 x121001_2 x121002_2 (rd x8_1 x82_2) t154 t155 t156 t157 w _ ?side1 ?side2 A50.out).mono ?_
                  (case side1=>repeat (first|(with_reducible first|exact HI120.out|apply IsS114.alloc|apply IsS114.drewN|apply IsS114.drew|apply IsS114.set_0|apply IsS114.set_1|apply IsS114.set_2|refine IsS114.far ?_ NB120_112.out _|refine IsS114.far ?_ NB120_133.out _)|exact HI120.out))
                  (case side2=>repeat (first|(with_reducible first|exact HB.out|apply below_alloc|apply pw_below_drewN|apply below_drew1|refine below_set ?_ (IsS114.ge HI120.out)|refine below_set ?_ GE112.out|refine below_set ?_ GE133.out)|exact HB.out))
                  rintro e w53 ⟨rfl,hi,hb,hk⟩
                  refine ⟨_,rfl,?_⟩
                  have n0_:=Aside0.mk (Kd.R_mono (Kd.R_keep (IsS114.apart (show IsS114 w _ g120 x121000_2 x121001_2 x121002_2 from by repeat (first|(with_reducible first|exact HI120.out|apply IsS114.alloc|apply IsS114.drewN|apply IsS114.drew|apply IsS114.set_0|apply IsS114.set_1|apply IsS114.set_2|refine IsS114.far ?_ NB120_112.out _|refine IsS114.far ?_ NB120_133.out _)|exact HI120.out)) (by (with_reducible repeat (first|apply Kd.R_alloc|apply Kd.R_drewN|apply Kd.R_drew));exact HO_80.out) (by decide)) hk (fun _ h=>h.2)) (fun _ h=>h.1))
                  have n1_:=Aside0.mk (Kd.R_mono (Kd.R_keep (IsS114.apart (show IsS114 w _ g120 x121000_2 x121001_2 x121002_2 from by repeat (first|(with_reducible first|exact HI120.out|apply IsS114.alloc|apply IsS114.drewN|apply IsS114.drew|apply IsS114.set_0|apply IsS114.set_1|apply IsS114.set_2|refine IsS114.far ?_ NB120_112.out _|refine IsS114.far ?_ NB120_133.out _)|exact HI120.out)) (by (with_reducible repeat (first|apply Kd.R_alloc|apply Kd.R_drewN|apply Kd.R_drew));exact HO_134004.out) (by decide)) hk (fun _ h=>h.2)) (fun _ h=>h.1))
                  have n2_:=Aside0.mk (KeepBut.blk hk (g':=gb112) (o:=.cells #[.int .u32 0,.int .u64 0,.int .i64 0,.string (⟨#[]⟩ : ByteArray),.slice none 0 0] 28 (0,0)) (by (with_reducible repeat (first|refine blk_drewN ?_ _|refine blk_drew ?_|refine blk_alloc ?_ _));exact BK112.out) NB112_120.out (by simp))
                  have n3_:=Aside0.mk (KeepBut.blk hk (g':=gb133) (o:=.cells #[.int .u32 ((t125) % 4294967296),.int .u64 t121,.int .i64 (wrap64 (t129)),.string t138,u134004] 28 (0,0)) (by (with_reducible repeat (first|refine blk_drewN ?_ _|refine blk_drew ?_|refine blk_alloc ?_ _));exact BK133.out) NB133_120.out (by simp))
                  have n4_:=Aside0.mk (hb)
                  have n5_:=Aside0.mk (hi)
                  clear HO_80
                  clear HO_134004
                  clear BK112
                  clear BK133
                  clear HB
                  clear HI120
                  have HO_80:=n0_
                  have HO_134004:=n1_
                  have BK112:=n2_
                  have BK133:=n3_
                  have HB:=n4_
                  have HI120:=n5_
                  clear n0_ n1_ n2_ n3_ n4_ n5_
                  (try clear hb)
                  (try clear hb2)
                  (try clear hk)
                  (try clear hi)
                  refine hK.out _ _ ⟨(blk_cell BK133.out 0).trans rfl,(blk_cell BK133.out 1).trans rfl,(blk_cell BK133.out 2).trans rfl,(blk_cell BK133.out 3).trans rfl,(blk_cell BK133.out 4).trans rfl⟩ (fun hHeld=>?_)
                  clear hK K
                  refine norm_ (a':=?_) ?_ ?_
                  rotate_left
                  ·show Act.put _ (some 90) _=_
                   simp only [Act.put,sA_,sB_,sC_,i64_w,i32_w]
                   rfl
                  refine one_ (i:=5) (N:=some 91) #[true,true,true,true,true,true,false,false,false] rfl rfl (one_of HT_.out (by kernel_rfl)) (by decide) (fun K hK=>?_)
                  refine value_ (w1:=?_) (v:=?_) (by rfl) rfl ?_ ?_
                  rotate_left 2
                  ·go_simp
                   constructor
                   ·rfl
                   ·rfl
                  refine hK.out _ _ ⟨(blk_cell (blk_alloc BK133.out _) 0).trans rfl,(blk_cell (blk_alloc BK133.out _) 1).trans rfl,(blk_cell (blk_alloc BK133.out _) 2).trans rfl,(blk_cell (blk_alloc BK133.out _) 3).trans rfl,(blk_cell (blk_alloc BK133.out _) 4).trans rfl⟩ (fun hHeld=>?_)
                  clear hK K
                  refine norm_ (a':=?_) ?_ ?_
                  rotate_left
                  ·show Act.put _ (some 91) _=_
                   simp only [Act.put,sA_,sB_,sC_,i64_w,i32_w]
                   rfl
                  refine one_ (i:=6) (N:=some 92) #[true,true,true,true,true,true,true,false,false] rfl rfl (one_of HT_.out (by kernel_rfl)) (by decide) (fun K hK=>?_)
                  refine Kd.R_append_step Kd.string (w0:=w) w.heap.size (by rfl) (.tmp 87) (.tmp 91) 26 9 (.string ⟨#[]⟩) 16 rfl Try.underlying26 info9 rfl (by decide) (by omega) u134004 x134004_2 t154 [.string t154] (fun _=>True) (fun _=>False) rfl rfl ?aP (fun _ hk=>hk.elim) ?aF ?aO ?aB ?aS ?aL ?_
                  (case aP=>exact rfl)
                  (case aB=>exact (by repeat (first|(with_reducible first|exact HB.out|apply below_alloc|apply pw_below_drewN|apply below_drew1|refine below_set ?_ (IsS114.ge HI120.out)|refine below_set ?_ GE112.out|refine below_set ?_ GE133.out)|exact HB.out)))
                  (case aF=>exact (fun _ _=>trivial))
                  (case aO=>exact (by (with_reducible repeat (first|apply Kd.R_alloc|apply Kd.R_drewN|apply Kd.R_drew));exact HO_134004.out))
                  (case aS=>exact (below_size (by repeat (first|(with_reducible first|exact HB.out|apply below_alloc|apply pw_below_drewN|apply below_drew1|refine below_set ?_ (IsS114.ge HI120.out)|refine below_set ?_ GE112.out|refine below_set ?_ GE133.out)|exact HB.out))))
                  (case aL=>have:=LMc51.out;omega)
                  intro v159 w54 ho hb hg hat
                  rw [← Ny158.out] at ho
                  have n0_:=Aside0.mk (Kd.R_over' (by (with_reducible repeat (first|apply Kd.R_alloc|apply Kd.R_drewN|apply Kd.R_drew));exact HO_80.out) (Kd.R_typed (by (with_reducible repeat (first|apply Kd.R_alloc|apply Kd.R_drewN|apply Kd.R_drew));exact HO_134004.out)) (by decide) hg)
                  have n1_:=Aside0.mk (blk_grown (g:=gb112) (o:=.cells #[.int .u32 0,.int .u64 0,.int .i64 0,.string (⟨#[]⟩ : ByteArray),.slice none 0 0] 28 (0,0)) (by (with_reducible repeat (first|refine blk_drewN ?_ _|refine blk_drew ?_|refine blk_alloc ?_ _));exact BK112.out) hg (Kd.R_ne HO_134004.out BK112.out (by decide)))
                  have n2_:=Aside0.mk (blk_grown (g:=gb133) (o:=.cells #[.int .u32 ((t125) % 4294967296),.int .u64 t121,.int .i64 (wrap64 (t129)),.string t138,u134004] 28 (0,0)) (by (with_reducible repeat (first|refine blk_drewN ?_ _|refine blk_drew ?_|refine blk_alloc ?_ _));exact BK133.out) hg (Kd.R_ne HO_134004.out BK133.out (by decide)))
                  have n3_:=Aside0.mk (IsS114.grown (by repeat (first|(with_reducible first|exact HI120.out|apply IsS114.alloc|apply IsS114.drewN|apply IsS114.drew|apply IsS114.set_0|apply IsS114.set_1|apply IsS114.set_2|refine IsS114.far ?_ NB120_112.out _|refine IsS114.far ?_ NB120_133.out _)|exact HI120.out)) hg (IsS114.own_ne HI120.out HO_134004.out (by decide)))
                  have n4_:=Aside0.mk (hb)
                  have n5_:=Aside0.mk (ho)
                  clear HO_80
                  clear BK112
                  clear BK133
                  clear HI120
                  clear HB
                  clear HO_134004
                  have HO_80:=n0_
                  have BK112:=n1_
                  have BK133:=n2_
                  have HI120:=n3_
                  have HB:=n4_
                  have HO160:=n5_
                  clear n0_ n1_ n2_ n3_ n4_ n5_
                  clear ho hb hg hat
                  obtain ⟨Ao55,co55,eo55⟩:=Kd.R_slice HO160.out
                  (first|subst eo55|(injection eo55 with f1_ f2_ f3_;have f4_:=f1_.symm;have f5_:=f3_.symm;clear f1_ f2_ f3_;subst f4_;subst f5_))
                  refine hK.out _ _ ⟨(blk_cell BK133.out 0).trans rfl,(blk_cell BK133.out 1).trans rfl,(blk_cell BK133.out 2).trans rfl,(blk_cell BK133.out 3).trans rfl,(blk_cell BK133.out 4).trans rfl⟩ (fun hHeld=>?_)
                  clear hK K
                  refine norm_ (a':=?_) ?_ ?_
                  rotate_left
                  ·show Act.put _ (some 92) _=_
                   simp only [Act.put,sA_,sB_,sC_,i64_w,i32_w]
                   rfl
                  refine pure_ (i:=7) (N:=some 93) (v:=?_) (a':=?_) #[true,true,true,true,true,true,true,true,false] rfl rfl (any_of HT_.out (by kernel_rfl)) (fun _ _ _ h=>h) (Or.inl ⟨by rfl,?_⟩) ?_ ?_
                  rotate_left
                  ·intro w'
                   go_simp
                   with_reducible rfl
                  rotate_left
                  ·simp only [Act.put,sA_,sB_,sC_,i64_w,i32_w]
                   rfl
                  refine last_ (i:=8) (N:=none) #[true,true,true,true,true,true,true,true,true] rfl rfl (one_of HT_.out (by kernel_rfl)) (by decide) (fun K hK=>?_)
                  have hs56 : w54.cell? ⟨gb133,4,none⟩=some (u134004):=(blk_cell BK133.out 4).trans rfl
                  have hfs56:=blk_frozen BK133.out 4
                  have hns56_0:=NB112_133.out
                  have hms56_0:=NB133_112.out
                  refine skip_ (w1:=?_) (by rfl) rfl ?_ ?_
                  rotate_left
                  ·go_simp
                   rfl
                  refine hK.out _ _ ?_
                  clear hK K
                  refine done_ (done_of HT_.out (by kernel_rfl)) ?_
                  try go_wp2
                  go_roundg k2
                  case measure=>have:=HK1.out;have:=HK2.out;omega
                  case rel=>exact ⟨(wrap64 (x82_2 + 1)),(t155),(t156),(t157),(y158),(.slice Ao55 y158.length co55),(by first|rfl|(simp;done)|(simp [*];done)),H',⟨by have:=HK1.out;have:=HK2.out;omega⟩,⟨by (with_reducible repeat (first|apply Kd.R_alloc|apply Kd.R_drewN|apply Kd.R_drew));exact Kd.R_mono (Kd.R_far (p:=⟨gb133,4,none⟩) (Kd.R_types HO_80.out BK133.out (by decide)) (fun _ hk=>hk.2) (.slice Ao55 y158.length co55)) (fun _ hk=>trivial)⟩,⟨by (with_reducible repeat (first|apply Kd.R_alloc|apply Kd.R_drewN|apply Kd.R_drew));exact Kd.R_mono (Kd.R_far (p:=⟨gb133,4,none⟩) (Kd.R_types HO160.out BK133.out (by decide)) (fun _ hk=>hk.2) (.slice Ao55 y158.length co55)) (fun _ hk=>trivial)⟩,⟨by (with_reducible repeat (first|refine blk_drewN ?_ _|refine blk_drew ?_|refine blk_alloc ?_ _));refine blk_far ?_ NB112_133.out _;(with_reducible repeat (first|refine blk_drewN ?_ _|refine blk_drew ?_|refine blk_alloc ?_ _));exact BK112.out⟩,⟨by (with_reducible repeat (first|refine blk_drewN ?_ _|refine blk_drew ?_|refine blk_alloc ?_ _));refine blk_put (cs:=#[.int .u32 ((t125) % 4294967296),.int .u64 t121,.int .i64 (wrap64 (t129)),.string t138,u134004]) ?_ 4 _ rfl;(with_reducible repeat (first|refine blk_drewN ?_ _|refine blk_drew ?_|refine blk_alloc ?_ _));exact BK133.out⟩,⟨by repeat (first|(with_reducible first|exact HI120.out|apply IsS114.alloc|apply IsS114.drewN|apply IsS114.drew|apply IsS114.set_0|apply IsS114.set_1|apply IsS114.set_2|refine IsS114.far ?_ NB120_112.out _|refine IsS114.far ?_ NB120_133.out _)|exact HI120.out)⟩,⟨by repeat (first|(with_reducible first|exact HB.out|apply below_alloc|apply pw_below_drewN|apply below_drew1|refine below_set ?_ (IsS114.ge HI120.out)|refine below_set ?_ GE112.out|refine below_set ?_ GE133.out)|exact HB.out)⟩⟩
                 ·rw [if_neg c51] at H
                  exact absurd H (by simp)
                ·rw [if_neg c49] at H
                 exact absurd H (by simp)
               ·rw [if_neg c48] at H
                exact absurd H (by simp)
              ·rw [if_neg c47] at H
               have c47b0 : decide (x82_2 < (x8_1.length : Int))=false:=decide_eq_false c47
               clear c47
               replace H:=Option.bind_eq_some_iff.mp H
               obtain ⟨⟨t161,t162⟩,A570,H⟩:=H
               replace H : ((raw_Reader_Err.f x121000_2 x121001_2 x121002_2).bind fun bt163=>(if bt163.1=0 then (if t162=0 then (if t161.toList=a0.toList then (some (((t125) % 4294967296),t121,(wrap64 (t129)),t138,x134004_2,0)) else (some (0,0,0,(⟨#[]⟩ : ByteArray),([] : List ByteArray),6))) else (some (0,0,0,(⟨#[]⟩ : ByteArray),([] : List ByteArray),6))) else (some (0,0,0,(⟨#[]⟩ : ByteArray),([] : List ByteArray),6))))=some (r1,r2,r3,r4,r5,r6):=H
               have A57:=Aside0.mk A570
               clear A570
               replace H:=Option.bind_eq_some_iff.mp H
               obtain ⟨⟨t163,t164,t165,t166⟩,A580,H⟩:=H
               replace H : (if t163=0 then (if t162=0 then (if t161.toList=a0.toList then (some (((t125) % 4294967296),t121,(wrap64 (t129)),t138,x134004_2,0)) else (some (0,0,0,(⟨#[]⟩ : ByteArray),([] : List ByteArray),6))) else (some (0,0,0,(⟨#[]⟩ : ByteArray),([] : List ByteArray),6))) else (some (0,0,0,(⟨#[]⟩ : ByteArray),([] : List ByteArray),6)))=some (r1,r2,r3,r4,r5,r6):=H
               have A58:=Aside0.mk A580
               clear A580
               by_cases c59 : t163=0
               ·rw [if_pos c59] at H
                have c59b0 : (t163 == 0)=true:=beq_iff_eq.mpr c59
                have c59b1 : (t163 != 0)=false:=bne_eq_false_iff_eq.mpr c59
                clear c59
                by_cases c60 : t162=0
                ·rw [if_pos c60] at H
                 have c60b0 : (t162 == 0)=true:=beq_iff_eq.mpr c60
                 have c60b1 : (t162 != 0)=false:=bne_eq_false_iff_eq.mpr c60
                 clear c60
                 by_cases c61 : t161.toList=a0.toList
                 ·rw [if_pos c61] at H
                  have c61b0 : (t161.toList == a0.toList)=true:=beq_iff_eq.mpr c61
                  have c61b1 : (t161.toList != a0.toList)=false:=bne_eq_false_iff_eq.mpr c61
                  clear c61
                  simp only [Option.some.injEq,Prod.mk.injEq] at H
                  obtain ⟨rfl,rfl,rfl,rfl,rfl,rfl⟩:=H
                  have hnb62:=NB133_112.out
                  have hnc62:=NB112_133.out
                  have hnb63:=NB133_120.out
                  have hnc63:=NB120_133.out
                  have hcz64_0 : wr.cell? ⟨gb133,0,none⟩=some (.int .u32 ((t125) % 4294967296)):=(blk_cell BK133.out 0).trans rfl
                  have hcz64_1 : wr.cell? ⟨gb133,1,none⟩=some (.int .u64 t121):=(blk_cell BK133.out 1).trans rfl
                  have hcz64_2 : wr.cell? ⟨gb133,2,none⟩=some (.int .i64 (wrap64 (t129))):=(blk_cell BK133.out 2).trans rfl
                  have hcz64_3 : wr.cell? ⟨gb133,3,none⟩=some (.string t138):=(blk_cell BK133.out 3).trans rfl
                  have hcz64_4 : wr.cell? ⟨gb133,4,none⟩=some (u134004):=(blk_cell BK133.out 4).trans rfl
                  have hfz64_0:=blk_frozen BK133.out 0
                  have hfz64_1:=blk_frozen BK133.out 1
                  have hfz64_2:=blk_frozen BK133.out 2
                  have hfz64_3:=blk_frozen BK133.out 3
                  have hfz64_4:=blk_frozen BK133.out 4
                  obtain ⟨Ao65,co65,eo65⟩:=Kd.R_slice HO_134004.out
                  subst eo65
                  go_wp2_with (first|((with_reducible refine gate_callee (f:=8) rfl ?_);refine goesL_ (some 97) rfl rfl Try.func8 (by kernel_rfl) rfl #[.agg #[.int .u32 ((t125) % 4294967296),.int .u64 t121,.int .i64 (wrap64 (t129)),.string t138,.slice Ao65 x134004_2.length co65]] rfl (by (try simp only [List.map_toArray,List.map_cons,List.map_nil]);first|done|rfl|(simp only [List.length_drop,List.length_take];rfl)) ?_;(with_reducible refine (page_Encode.calls ((t125) % 4294967296) t121 (wrap64 (t129)) t138 _ _ x134004_2 t161 t162 _ ?side1 ?side2 A57.out).mono ?_);(case side1=>repeat (first|exact (Kd.R_reads' HO_134004.out).2.2|(with_reducible refine Kd.C_alloc ?_ _)|(with_reducible refine Kd.C_drewN ?_ _)|(with_reducible refine Kd.C_drew ?_)));(case side2=>exact (Kd.R_reads' HO_134004.out).2.1);rintro e w66 ⟨rfl,hb⟩;refine ⟨_,rfl,?_⟩;have n0_:=Aside0.mk (Kd.R_below (by (with_reducible repeat (first|apply Kd.R_alloc|apply Kd.R_drewN|apply Kd.R_drew));exact HO_80.out) hb);have n1_:=Aside0.mk (Kd.R_below (by (with_reducible repeat (first|apply Kd.R_alloc|apply Kd.R_drewN|apply Kd.R_drew));exact HO_134004.out) hb);have n2_:=Aside0.mk (blk_below (g:=gb112) (o:=.cells #[.int .u32 0,.int .u64 0,.int .i64 0,.string (⟨#[]⟩ : ByteArray),.slice none 0 0] 28 (0,0)) (by (with_reducible repeat (first|refine blk_drewN ?_ _|refine blk_drew ?_|refine blk_alloc ?_ _));exact BK112.out) hb);have n3_:=Aside0.mk (blk_below (g:=gb133) (o:=.cells #[.int .u32 ((t125) % 4294967296),.int .u64 t121,.int .i64 (wrap64 (t129)),.string t138,.slice Ao65 x134004_2.length co65] 28 (0,0)) (by (with_reducible repeat (first|refine blk_drewN ?_ _|refine blk_drew ?_|refine blk_alloc ?_ _));exact BK133.out) hb);have n4_:=Aside0.mk (IsS114.below (by repeat (first|(with_reducible first|exact HI120.out|apply IsS114.alloc|apply IsS114.drewN|apply IsS114.drew|apply IsS114.set_0|apply IsS114.set_1|apply IsS114.set_2|refine IsS114.far ?_ NB120_112.out _|refine IsS114.far ?_ NB120_133.out _)|exact HI120.out)) hb);have n5_:=Aside0.mk (below_step (by repeat (first|(with_reducible first|exact HB.out|apply below_alloc|apply pw_below_drewN|apply below_drew1|refine below_set ?_ (IsS114.ge HI120.out)|refine below_set ?_ GE112.out|refine below_set ?_ GE133.out)|exact HB.out)) hb);clear HO_80;clear HO_134004;clear BK112;clear BK133;clear HI120;clear HB;have HO_80:=n0_;have HO_134004:=n1_;have BK112:=n2_;have BK133:=n3_;have HI120:=n4_;have HB:=n5_;clear n0_ n1_ n2_ n3_ n4_ n5_;(try clear hb);(try clear hb2);(try clear hk);(try clear hi))|((with_reducible refine gate_callee (f:=42) rfl ?_);refine goesL_ (some 101) rfl rfl Try.func42 (by kernel_rfl) rfl #[.pointer (some ⟨g120,0,none⟩)] rfl (by (try simp only [List.map_toArray,List.map_cons,List.map_nil]);first|done|rfl|(simp only [List.length_drop,List.length_take];rfl)) ?_;(with_reducible refine (raw_Reader_Err.calls g120 x121000_2 x121001_2 x121002_2 t163 t164 t165 t166 w _ ?side1 ?side2 A58.out).mono ?_);(case side1=>repeat (first|(with_reducible first|exact HI120.out|apply IsS114.alloc|apply IsS114.drewN|apply IsS114.drew|apply IsS114.set_0|apply IsS114.set_1|apply IsS114.set_2|refine IsS114.far ?_ NB120_112.out _|refine IsS114.far ?_ NB120_133.out _)|exact HI120.out));(case side2=>repeat (first|(with_reducible first|exact HB.out|apply below_alloc|apply pw_below_drewN|apply below_drew1|refine below_set ?_ (IsS114.ge HI120.out)|refine below_set ?_ GE112.out|refine below_set ?_ GE133.out)|exact HB.out));rintro e w67 ⟨rfl,hi,hb,hk⟩;refine ⟨_,rfl,?_⟩;have n0_:=Aside0.mk (Kd.R_mono (Kd.R_keep (IsS114.apart (show IsS114 w _ g120 x121000_2 x121001_2 x121002_2 from by repeat (first|(with_reducible first|exact HI120.out|apply IsS114.alloc|apply IsS114.drewN|apply IsS114.drew|apply IsS114.set_0|apply IsS114.set_1|apply IsS114.set_2|refine IsS114.far ?_ NB120_112.out _|refine IsS114.far ?_ NB120_133.out _)|exact HI120.out)) (by (with_reducible repeat (first|apply Kd.R_alloc|apply Kd.R_drewN|apply Kd.R_drew));exact HO_80.out) (by decide)) hk (fun _ h=>h.2)) (fun _ h=>h.1));have n1_:=Aside0.mk (Kd.R_mono (Kd.R_keep (IsS114.apart (show IsS114 w _ g120 x121000_2 x121001_2 x121002_2 from by repeat (first|(with_reducible first|exact HI120.out|apply IsS114.alloc|apply IsS114.drewN|apply IsS114.drew|apply IsS114.set_0|apply IsS114.set_1|apply IsS114.set_2|refine IsS114.far ?_ NB120_112.out _|refine IsS114.far ?_ NB120_133.out _)|exact HI120.out)) (by (with_reducible repeat (first|apply Kd.R_alloc|apply Kd.R_drewN|apply Kd.R_drew));exact HO_134004.out) (by decide)) hk (fun _ h=>h.2)) (fun _ h=>h.1));have n2_:=Aside0.mk (KeepBut.blk hk (g':=gb112) (o:=.cells #[.int .u32 0,.int .u64 0,.int .i64 0,.string (⟨#[]⟩ : ByteArray),.slice none 0 0] 28 (0,0)) (by (with_reducible repeat (first|refine blk_drewN ?_ _|refine blk_drew ?_|refine blk_alloc ?_ _));exact BK112.out) NB112_120.out (by simp));have n3_:=Aside0.mk (KeepBut.blk hk (g':=gb133) (o:=.cells #[.int .u32 ((t125) % 4294967296),.int .u64 t121,.int .i64 (wrap64 (t129)),.string t138,.slice Ao65 x134004_2.length co65] 28 (0,0)) (by (with_reducible repeat (first|refine blk_drewN ?_ _|refine blk_drew ?_|refine blk_alloc ?_ _));exact BK133.out) NB133_120.out (by simp));have n4_:=Aside0.mk (hb);have n5_:=Aside0.mk (hi);clear HO_80;clear HO_134004;clear BK112;clear BK133;clear HB;clear HI120;have HO_80:=n0_;have HO_134004:=n1_;have BK112:=n2_;have BK133:=n3_;have HB:=n4_;have HI120:=n5_;clear n0_ n1_ n2_ n3_ n4_ n5_;(try clear hb);(try clear hb2);(try clear hk);(try clear hi);have hcz68_0 : w67.cell? ⟨gb133,0,none⟩=some (.int .u32 ((t125) % 4294967296)):=(blk_cell BK133.out 0).trans rfl;have hcz68_1 : w67.cell? ⟨gb133,1,none⟩=some (.int .u64 t121):=(blk_cell BK133.out 1).trans rfl;have hcz68_2 : w67.cell? ⟨gb133,2,none⟩=some (.int .i64 (wrap64 (t129))):=(blk_cell BK133.out 2).trans rfl;have hcz68_3 : w67.cell? ⟨gb133,3,none⟩=some (.string t138):=(blk_cell BK133.out 3).trans rfl;have hcz68_4 : w67.cell? ⟨gb133,4,none⟩=some (.slice Ao65 x134004_2.length co65):=(blk_cell BK133.out 4).trans rfl;have hfz68_0:=blk_frozen BK133.out 0;have hfz68_1:=blk_frozen BK133.out 1;have hfz68_2:=blk_frozen BK133.out 2;have hfz68_3:=blk_frozen BK133.out 3;have hfz68_4:=blk_frozen BK133.out 4;have hnb69:=NB112_120.out;have hnc69:=NB120_112.out;have hcz70_0 : w67.cell? ⟨gb112,0,none⟩=some (.int .u32 0):=(blk_cell BK112.out 0).trans rfl;have hcz70_1 : w67.cell? ⟨gb112,1,none⟩=some (.int .u64 0):=(blk_cell BK112.out 1).trans rfl;have hcz70_2 : w67.cell? ⟨gb112,2,none⟩=some (.int .i64 0):=(blk_cell BK112.out 2).trans rfl;have hcz70_3 : w67.cell? ⟨gb112,3,none⟩=some (.string (⟨#[]⟩ : ByteArray)):=(blk_cell BK112.out 3).trans rfl;have hcz70_4 : w67.cell? ⟨gb112,4,none⟩=some (.slice none 0 0):=(blk_cell BK112.out 4).trans rfl;have hfz70_0:=blk_frozen BK112.out 0;have hfz70_1:=blk_frozen BK112.out 1;have hfz70_2:=blk_frozen BK112.out 2;have hfz70_3:=blk_frozen BK112.out 3;have hfz70_4:=blk_frozen BK112.out 4))
                  refine bodyPost_ret (results_ct rfl _ _ gb112 28 #[.int .u32 ((t125) % 4294967296),.int .u64 t121,.int .i64 (wrap64 (t129)),.string t138,.slice Ao65 x134004_2.length co65] (0,0) _ rfl (by (with_reducible repeat (first|refine blk_drewN ?_ _|refine blk_drew ?_|refine blk_alloc ?_ _));refine blk_put (cs:=#[.int .u32 ((t125) % 4294967296),.int .u64 t121,.int .i64 (wrap64 (t129)),.string t138,.slice none 0 0]) ?_ 4 _ rfl;(with_reducible repeat (first|refine blk_drewN ?_ _|refine blk_drew ?_|refine blk_alloc ?_ _));refine blk_put (cs:=#[.int .u32 ((t125) % 4294967296),.int .u64 t121,.int .i64 (wrap64 (t129)),.string (⟨#[]⟩ : ByteArray),.slice none 0 0]) ?_ 3 _ rfl;(with_reducible repeat (first|refine blk_drewN ?_ _|refine blk_drew ?_|refine blk_alloc ?_ _));refine blk_put (cs:=#[.int .u32 ((t125) % 4294967296),.int .u64 t121,.int .i64 0,.string (⟨#[]⟩ : ByteArray),.slice none 0 0]) ?_ 2 _ rfl;(with_reducible repeat (first|refine blk_drewN ?_ _|refine blk_drew ?_|refine blk_alloc ?_ _));refine blk_put (cs:=#[.int .u32 ((t125) % 4294967296),.int .u64 0,.int .i64 0,.string (⟨#[]⟩ : ByteArray),.slice none 0 0]) ?_ 1 _ rfl;(with_reducible repeat (first|refine blk_drewN ?_ _|refine blk_drew ?_|refine blk_alloc ?_ _));refine blk_put (cs:=#[.int .u32 0,.int .u64 0,.int .i64 0,.string (⟨#[]⟩ : ByteArray),.slice none 0 0]) ?_ 0 _ rfl;(with_reducible repeat (first|refine blk_drewN ?_ _|refine blk_drew ?_|refine blk_alloc ?_ _));exact BK112.out) Try.underlying28 rfl (by kernel_rfl)) rfl ?_
                  exact ⟨_,by first|rfl|(simp [errW_none,errW_some] <;> rfl)|(simp [*,errW_none,errW_some] <;> rfl),by (with_reducible repeat (first|apply Kd.R_alloc|apply Kd.R_drewN|apply Kd.R_drew));exact Kd.R_mono (Kd.R_far (p:=⟨gb112,4,none⟩) (Kd.R_far (p:=⟨gb112,3,none⟩) (Kd.R_far (p:=⟨gb112,2,none⟩) (Kd.R_far (p:=⟨gb112,1,none⟩) (Kd.R_far (p:=⟨gb112,0,none⟩) (Kd.R_types HO_134004.out BK112.out (by decide)) (fun _ hk=>hk.2) (.int .u32 ((t125) % 4294967296))) (fun _ hk=>hk.2) (.int .u64 t121)) (fun _ hk=>hk.2) (.int .i64 (wrap64 (t129)))) (fun _ hk=>hk.2) (.string t138)) (fun _ hk=>hk.2) (.slice Ao65 x134004_2.length co65)) (fun _ hk=>trivial),by repeat (first|(with_reducible first|exact HB.out|apply below_alloc|apply pw_below_drewN|apply below_drew1|refine below_set ?_ (IsS114.ge HI120.out)|refine below_set ?_ GE112.out|refine below_set ?_ GE133.out)|exact HB.out)⟩
                 ·rw [if_neg c61] at H
                  have c61b0 : (t161.toList == a0.toList)=false:=beq_eq_false_iff_ne.mpr c61
                  have c61b1 : (t161.toList != a0.toList)=true:=bne_iff_ne.mpr c61
                  simp only [Option.some.injEq,Prod.mk.injEq] at H
                  obtain ⟨rfl,rfl,rfl,rfl,rfl,rfl⟩:=H
                  have hnb71:=NB133_112.out
                  have hnc71:=NB112_133.out
                  have hnb72:=NB133_120.out
                  have hnc72:=NB120_133.out
                  have hcz73_0 : wr.cell? ⟨gb133,0,none⟩=some (.int .u32 ((t125) % 4294967296)):=(blk_cell BK133.out 0).trans rfl
                  have hcz73_1 : wr.cell? ⟨gb133,1,none⟩=some (.int .u64 t121):=(blk_cell BK133.out 1).trans rfl
                  have hcz73_2 : wr.cell? ⟨gb133,2,none⟩=some (.int .i64 (wrap64 (t129))):=(blk_cell BK133.out 2).trans rfl
                  have hcz73_3 : wr.cell? ⟨gb133,3,none⟩=some (.string t138):=(blk_cell BK133.out 3).trans rfl
                  have hcz73_4 : wr.cell? ⟨gb133,4,none⟩=some (u134004):=(blk_cell BK133.out 4).trans rfl
                  have hfz73_0:=blk_frozen BK133.out 0
                  have hfz73_1:=blk_frozen BK133.out 1
                  have hfz73_2:=blk_frozen BK133.out 2
                  have hfz73_3:=blk_frozen BK133.out 3
                  have hfz73_4:=blk_frozen BK133.out 4
                  obtain ⟨Ao74,co74,eo74⟩:=Kd.R_slice HO_134004.out
                  subst eo74
                  go_wp2_with (first|((with_reducible refine gate_callee (f:=8) rfl ?_);refine goesL_ (some 97) rfl rfl Try.func8 (by kernel_rfl) rfl #[.agg #[.int .u32 ((t125) % 4294967296),.int .u64 t121,.int .i64 (wrap64 (t129)),.string t138,.slice Ao74 x134004_2.length co74]] rfl (by (try simp only [List.map_toArray,List.map_cons,List.map_nil]);first|done|rfl|(simp only [List.length_drop,List.length_take];rfl)) ?_;(with_reducible refine (page_Encode.calls ((t125) % 4294967296) t121 (wrap64 (t129)) t138 _ _ x134004_2 t161 t162 _ ?side1 ?side2 A57.out).mono ?_);(case side1=>repeat (first|exact (Kd.R_reads' HO_134004.out).2.2|(with_reducible refine Kd.C_alloc ?_ _)|(with_reducible refine Kd.C_drewN ?_ _)|(with_reducible refine Kd.C_drew ?_)));(case side2=>exact (Kd.R_reads' HO_134004.out).2.1);rintro e w75 ⟨rfl,hb⟩;refine ⟨_,rfl,?_⟩;have n0_:=Aside0.mk (Kd.R_below (by (with_reducible repeat (first|apply Kd.R_alloc|apply Kd.R_drewN|apply Kd.R_drew));exact HO_80.out) hb);have n1_:=Aside0.mk (Kd.R_below (by (with_reducible repeat (first|apply Kd.R_alloc|apply Kd.R_drewN|apply Kd.R_drew));exact HO_134004.out) hb);have n2_:=Aside0.mk (blk_below (g:=gb112) (o:=.cells #[.int .u32 0,.int .u64 0,.int .i64 0,.string (⟨#[]⟩ : ByteArray),.slice none 0 0] 28 (0,0)) (by (with_reducible repeat (first|refine blk_drewN ?_ _|refine blk_drew ?_|refine blk_alloc ?_ _));exact BK112.out) hb);have n3_:=Aside0.mk (blk_below (g:=gb133) (o:=.cells #[.int .u32 ((t125) % 4294967296),.int .u64 t121,.int .i64 (wrap64 (t129)),.string t138,.slice Ao74 x134004_2.length co74] 28 (0,0)) (by (with_reducible repeat (first|refine blk_drewN ?_ _|refine blk_drew ?_|refine blk_alloc ?_ _));exact BK133.out) hb);have n4_:=Aside0.mk (IsS114.below (by repeat (first|(with_reducible first|exact HI120.out|apply IsS114.alloc|apply IsS114.drewN|apply IsS114.drew|apply IsS114.set_0|apply IsS114.set_1|apply IsS114.set_2|refine IsS114.far ?_ NB120_112.out _|refine IsS114.far ?_ NB120_133.out _)|exact HI120.out)) hb);have n5_:=Aside0.mk (below_step (by repeat (first|(with_reducible first|exact HB.out|apply below_alloc|apply pw_below_drewN|apply below_drew1|refine below_set ?_ (IsS114.ge HI120.out)|refine below_set ?_ GE112.out|refine below_set ?_ GE133.out)|exact HB.out)) hb);clear HO_80;clear HO_134004;clear BK112;clear BK133;clear HI120;clear HB;have HO_80:=n0_;have HO_134004:=n1_;have BK112:=n2_;have BK133:=n3_;have HI120:=n4_;have HB:=n5_;clear n0_ n1_ n2_ n3_ n4_ n5_;(try clear hb);(try clear hb2);(try clear hk);(try clear hi))|((with_reducible refine gate_callee (f:=42) rfl ?_);refine goesL_ (some 101) rfl rfl Try.func42 (by kernel_rfl) rfl #[.pointer (some ⟨g120,0,none⟩)] rfl (by (try simp only [List.map_toArray,List.map_cons,List.map_nil]);first|done|rfl|(simp only [List.length_drop,List.length_take];rfl)) ?_;(with_reducible refine (raw_Reader_Err.calls g120 x121000_2 x121001_2 x121002_2 t163 t164 t165 t166 w _ ?side1 ?side2 A58.out).mono ?_);(case side1=>repeat (first|(with_reducible first|exact HI120.out|apply IsS114.alloc|apply IsS114.drewN|apply IsS114.drew|apply IsS114.set_0|apply IsS114.set_1|apply IsS114.set_2|refine IsS114.far ?_ NB120_112.out _|refine IsS114.far ?_ NB120_133.out _)|exact HI120.out));(case side2=>repeat (first|(with_reducible first|exact HB.out|apply below_alloc|apply pw_below_drewN|apply below_drew1|refine below_set ?_ (IsS114.ge HI120.out)|refine below_set ?_ GE112.out|refine below_set ?_ GE133.out)|exact HB.out));rintro e w76 ⟨rfl,hi,hb,hk⟩;refine ⟨_,rfl,?_⟩;have n0_:=Aside0.mk (Kd.R_mono (Kd.R_keep (IsS114.apart (show IsS114 w _ g120 x121000_2 x121001_2 x121002_2 from by repeat (first|(with_reducible first|exact HI120.out|apply IsS114.alloc|apply IsS114.drewN|apply IsS114.drew|apply IsS114.set_0|apply IsS114.set_1|apply IsS114.set_2|refine IsS114.far ?_ NB120_112.out _|refine IsS114.far ?_ NB120_133.out _)|exact HI120.out)) (by (with_reducible repeat (first|apply Kd.R_alloc|apply Kd.R_drewN|apply Kd.R_drew));exact HO_80.out) (by decide)) hk (fun _ h=>h.2)) (fun _ h=>h.1));have n1_:=Aside0.mk (Kd.R_mono (Kd.R_keep (IsS114.apart (show IsS114 w _ g120 x121000_2 x121001_2 x121002_2 from by repeat (first|(with_reducible first|exact HI120.out|apply IsS114.alloc|apply IsS114.drewN|apply IsS114.drew|apply IsS114.set_0|apply IsS114.set_1|apply IsS114.set_2|refine IsS114.far ?_ NB120_112.out _|refine IsS114.far ?_ NB120_133.out _)|exact HI120.out)) (by (with_reducible repeat (first|apply Kd.R_alloc|apply Kd.R_drewN|apply Kd.R_drew));exact HO_134004.out) (by decide)) hk (fun _ h=>h.2)) (fun _ h=>h.1));have n2_:=Aside0.mk (KeepBut.blk hk (g':=gb112) (o:=.cells #[.int .u32 0,.int .u64 0,.int .i64 0,.string (⟨#[]⟩ : ByteArray),.slice none 0 0] 28 (0,0)) (by (with_reducible repeat (first|refine blk_drewN ?_ _|refine blk_drew ?_|refine blk_alloc ?_ _));exact BK112.out) NB112_120.out (by simp));have n3_:=Aside0.mk (KeepBut.blk hk (g':=gb133) (o:=.cells #[.int .u32 ((t125) % 4294967296),.int .u64 t121,.int .i64 (wrap64 (t129)),.string t138,.slice Ao74 x134004_2.length co74] 28 (0,0)) (by (with_reducible repeat (first|refine blk_drewN ?_ _|refine blk_drew ?_|refine blk_alloc ?_ _));exact BK133.out) NB133_120.out (by simp));have n4_:=Aside0.mk (hb);have n5_:=Aside0.mk (hi);clear HO_80;clear HO_134004;clear BK112;clear BK133;clear HB;clear HI120;have HO_80:=n0_;have HO_134004:=n1_;have BK112:=n2_;have BK133:=n3_;have HB:=n4_;have HI120:=n5_;clear n0_ n1_ n2_ n3_ n4_ n5_;(try clear hb);(try clear hb2);(try clear hk);(try clear hi);have hnb77:=NB112_120.out;have hnc77:=NB120_112.out;have hcz78_0 : w76.cell? ⟨gb112,0,none⟩=some (.int .u32 0):=(blk_cell BK112.out 0).trans rfl;have hcz78_1 : w76.cell? ⟨gb112,1,none⟩=some (.int .u64 0):=(blk_cell BK112.out 1).trans rfl;have hcz78_2 : w76.cell? ⟨gb112,2,none⟩=some (.int .i64 0):=(blk_cell BK112.out 2).trans rfl;have hcz78_3 : w76.cell? ⟨gb112,3,none⟩=some (.string (⟨#[]⟩ : ByteArray)):=(blk_cell BK112.out 3).trans rfl;have hcz78_4 : w76.cell? ⟨gb112,4,none⟩=some (.slice none 0 0):=(blk_cell BK112.out 4).trans rfl;have hfz78_0:=blk_frozen BK112.out 0;have hfz78_1:=blk_frozen BK112.out 1;have hfz78_2:=blk_frozen BK112.out 2;have hfz78_3:=blk_frozen BK112.out 3;have hfz78_4:=blk_frozen BK112.out 4))
                  refine bodyPost_ret (results_ct rfl _ _ gb112 28 #[.int .u32 0,.int .u64 0,.int .i64 0,.string (⟨#[]⟩ : ByteArray),.slice none 0 0] (0,0) _ rfl (by (with_reducible repeat (first|refine blk_drewN ?_ _|refine blk_drew ?_|refine blk_alloc ?_ _));refine blk_put (cs:=#[.int .u32 0,.int .u64 0,.int .i64 0,.string (⟨#[]⟩ : ByteArray),.slice none 0 0]) ?_ 4 _ rfl;(with_reducible repeat (first|refine blk_drewN ?_ _|refine blk_drew ?_|refine blk_alloc ?_ _));refine blk_put (cs:=#[.int .u32 0,.int .u64 0,.int .i64 0,.string (⟨#[]⟩ : ByteArray),.slice none 0 0]) ?_ 3 _ rfl;(with_reducible repeat (first|refine blk_drewN ?_ _|refine blk_drew ?_|refine blk_alloc ?_ _));refine blk_put (cs:=#[.int .u32 0,.int .u64 0,.int .i64 0,.string (⟨#[]⟩ : ByteArray),.slice none 0 0]) ?_ 2 _ rfl;(with_reducible repeat (first|refine blk_drewN ?_ _|refine blk_drew ?_|refine blk_alloc ?_ _));refine blk_put (cs:=#[.int .u32 0,.int .u64 0,.int .i64 0,.string (⟨#[]⟩ : ByteArray),.slice none 0 0]) ?_ 1 _ rfl;(with_reducible repeat (first|refine blk_drewN ?_ _|refine blk_drew ?_|refine blk_alloc ?_ _));refine blk_put (cs:=#[.int .u32 0,.int .u64 0,.int .i64 0,.string (⟨#[]⟩ : ByteArray),.slice none 0 0]) ?_ 0 _ rfl;(with_reducible repeat (first|refine blk_drewN ?_ _|refine blk_drew ?_|refine blk_alloc ?_ _));exact BK112.out) Try.underlying28 rfl (by kernel_rfl)) rfl ?_
                  exact ⟨_,by first|rfl|(simp [errW_none,errW_some] <;> rfl)|(simp [*,errW_none,errW_some] <;> rfl),by first|exact Kd.R_nil _ _ _ _ _|exact Kd.N_nil _ _ _ _ _|exact Kd.V_nil _ _ _ _ _|exact Kd.Q_nil _ _ _ _ _|exact Kd.S_nil _ _ _ _ _,by repeat (first|(with_reducible first|exact HB.out|apply below_alloc|apply pw_below_drewN|apply below_drew1|refine below_set ?_ (IsS114.ge HI120.out)|refine below_set ?_ GE112.out|refine below_set ?_ GE133.out)|exact HB.out)⟩
                ·rw [if_neg c60] at H
                 have c60b0 : (t162 == 0)=false:=beq_eq_false_iff_ne.mpr c60
                 have c60b1 : (t162 != 0)=true:=bne_iff_ne.mpr c60
                 simp only [Option.some.injEq,Prod.mk.injEq] at H
                 obtain ⟨rfl,rfl,rfl,rfl,rfl,rfl⟩:=H
                 have hnb79:=NB133_112.out
                 have hnc79:=NB112_133.out
                 have hnb80:=NB133_120.out
                 have hnc80:=NB120_133.out
                 have hcz81_0 : wr.cell? ⟨gb133,0,none⟩=some (.int .u32 ((t125) % 4294967296)):=(blk_cell BK133.out 0).trans rfl
                 have hcz81_1 : wr.cell? ⟨gb133,1,none⟩=some (.int .u64 t121):=(blk_cell BK133.out 1).trans rfl
                 have hcz81_2 : wr.cell? ⟨gb133,2,none⟩=some (.int .i64 (wrap64 (t129))):=(blk_cell BK133.out 2).trans rfl
                 have hcz81_3 : wr.cell? ⟨gb133,3,none⟩=some (.string t138):=(blk_cell BK133.out 3).trans rfl
                 have hcz81_4 : wr.cell? ⟨gb133,4,none⟩=some (u134004):=(blk_cell BK133.out 4).trans rfl
                 have hfz81_0:=blk_frozen BK133.out 0
                 have hfz81_1:=blk_frozen BK133.out 1
                 have hfz81_2:=blk_frozen BK133.out 2
                 have hfz81_3:=blk_frozen BK133.out 3
                 have hfz81_4:=blk_frozen BK133.out 4
                 obtain ⟨Ao82,co82,eo82⟩:=Kd.R_slice HO_134004.out
                 subst eo82
                 go_wp2_with (first|((with_reducible refine gate_callee (f:=8) rfl ?_);refine goesL_ (some 97) rfl rfl Try.func8 (by kernel_rfl) rfl #[.agg #[.int .u32 ((t125) % 4294967296),.int .u64 t121,.int .i64 (wrap64 (t129)),.string t138,.slice Ao82 x134004_2.length co82]] rfl (by (try simp only [List.map_toArray,List.map_cons,List.map_nil]);first|done|rfl|(simp only [List.length_drop,List.length_take];rfl)) ?_;(with_reducible refine (page_Encode.calls ((t125) % 4294967296) t121 (wrap64 (t129)) t138 _ _ x134004_2 t161 t162 _ ?side1 ?side2 A57.out).mono ?_);(case side1=>repeat (first|exact (Kd.R_reads' HO_134004.out).2.2|(with_reducible refine Kd.C_alloc ?_ _)|(with_reducible refine Kd.C_drewN ?_ _)|(with_reducible refine Kd.C_drew ?_)));(case side2=>exact (Kd.R_reads' HO_134004.out).2.1);rintro e w83 ⟨rfl,hb⟩;refine ⟨_,rfl,?_⟩;have n0_:=Aside0.mk (Kd.R_below (by (with_reducible repeat (first|apply Kd.R_alloc|apply Kd.R_drewN|apply Kd.R_drew));exact HO_80.out) hb);have n1_:=Aside0.mk (Kd.R_below (by (with_reducible repeat (first|apply Kd.R_alloc|apply Kd.R_drewN|apply Kd.R_drew));exact HO_134004.out) hb);have n2_:=Aside0.mk (blk_below (g:=gb112) (o:=.cells #[.int .u32 0,.int .u64 0,.int .i64 0,.string (⟨#[]⟩ : ByteArray),.slice none 0 0] 28 (0,0)) (by (with_reducible repeat (first|refine blk_drewN ?_ _|refine blk_drew ?_|refine blk_alloc ?_ _));exact BK112.out) hb);have n3_:=Aside0.mk (blk_below (g:=gb133) (o:=.cells #[.int .u32 ((t125) % 4294967296),.int .u64 t121,.int .i64 (wrap64 (t129)),.string t138,.slice Ao82 x134004_2.length co82] 28 (0,0)) (by (with_reducible repeat (first|refine blk_drewN ?_ _|refine blk_drew ?_|refine blk_alloc ?_ _));exact BK133.out) hb);have n4_:=Aside0.mk (IsS114.below (by repeat (first|(with_reducible first|exact HI120.out|apply IsS114.alloc|apply IsS114.drewN|apply IsS114.drew|apply IsS114.set_0|apply IsS114.set_1|apply IsS114.set_2|refine IsS114.far ?_ NB120_112.out _|refine IsS114.far ?_ NB120_133.out _)|exact HI120.out)) hb);have n5_:=Aside0.mk (below_step (by repeat (first|(with_reducible first|exact HB.out|apply below_alloc|apply pw_below_drewN|apply below_drew1|refine below_set ?_ (IsS114.ge HI120.out)|refine below_set ?_ GE112.out|refine below_set ?_ GE133.out)|exact HB.out)) hb);clear HO_80;clear HO_134004;clear BK112;clear BK133;clear HI120;clear HB;have HO_80:=n0_;have HO_134004:=n1_;have BK112:=n2_;have BK133:=n3_;have HI120:=n4_;have HB:=n5_;clear n0_ n1_ n2_ n3_ n4_ n5_;(try clear hb);(try clear hb2);(try clear hk);(try clear hi))|((with_reducible refine gate_callee (f:=42) rfl ?_);refine goesL_ (some 101) rfl rfl Try.func42 (by kernel_rfl) rfl #[.pointer (some ⟨g120,0,none⟩)] rfl (by (try simp only [List.map_toArray,List.map_cons,List.map_nil]);first|done|rfl|(simp only [List.length_drop,List.length_take];rfl)) ?_;(with_reducible refine (raw_Reader_Err.calls g120 x121000_2 x121001_2 x121002_2 t163 t164 t165 t166 w _ ?side1 ?side2 A58.out).mono ?_);(case side1=>repeat (first|(with_reducible first|exact HI120.out|apply IsS114.alloc|apply IsS114.drewN|apply IsS114.drew|apply IsS114.set_0|apply IsS114.set_1|apply IsS114.set_2|refine IsS114.far ?_ NB120_112.out _|refine IsS114.far ?_ NB120_133.out _)|exact HI120.out));(case side2=>repeat (first|(with_reducible first|exact HB.out|apply below_alloc|apply pw_below_drewN|apply below_drew1|refine below_set ?_ (IsS114.ge HI120.out)|refine below_set ?_ GE112.out|refine below_set ?_ GE133.out)|exact HB.out));rintro e w84 ⟨rfl,hi,hb,hk⟩;refine ⟨_,rfl,?_⟩;have n0_:=Aside0.mk (Kd.R_mono (Kd.R_keep (IsS114.apart (show IsS114 w _ g120 x121000_2 x121001_2 x121002_2 from by repeat (first|(with_reducible first|exact HI120.out|apply IsS114.alloc|apply IsS114.drewN|apply IsS114.drew|apply IsS114.set_0|apply IsS114.set_1|apply IsS114.set_2|refine IsS114.far ?_ NB120_112.out _|refine IsS114.far ?_ NB120_133.out _)|exact HI120.out)) (by (with_reducible repeat (first|apply Kd.R_alloc|apply Kd.R_drewN|apply Kd.R_drew));exact HO_80.out) (by decide)) hk (fun _ h=>h.2)) (fun _ h=>h.1));have n1_:=Aside0.mk (Kd.R_mono (Kd.R_keep (IsS114.apart (show IsS114 w _ g120 x121000_2 x121001_2 x121002_2 from by repeat (first|(with_reducible first|exact HI120.out|apply IsS114.alloc|apply IsS114.drewN|apply IsS114.drew|apply IsS114.set_0|apply IsS114.set_1|apply IsS114.set_2|refine IsS114.far ?_ NB120_112.out _|refine IsS114.far ?_ NB120_133.out _)|exact HI120.out)) (by (with_reducible repeat (first|apply Kd.R_alloc|apply Kd.R_drewN|apply Kd.R_drew));exact HO_134004.out) (by decide)) hk (fun _ h=>h.2)) (fun _ h=>h.1));have n2_:=Aside0.mk (KeepBut.blk hk (g':=gb112) (o:=.cells #[.int .u32 0,.int .u64 0,.int .i64 0,.string (⟨#[]⟩ : ByteArray),.slice none 0 0] 28 (0,0)) (by (with_reducible repeat (first|refine blk_drewN ?_ _|refine blk_drew ?_|refine blk_alloc ?_ _));exact BK112.out) NB112_120.out (by simp));have n3_:=Aside0.mk (KeepBut.blk hk (g':=gb133) (o:=.cells #[.int .u32 ((t125) % 4294967296),.int .u64 t121,.int .i64 (wrap64 (t129)),.string t138,.slice Ao82 x134004_2.length co82] 28 (0,0)) (by (with_reducible repeat (first|refine blk_drewN ?_ _|refine blk_drew ?_|refine blk_alloc ?_ _));exact BK133.out) NB133_120.out (by simp));have n4_:=Aside0.mk (hb);have n5_:=Aside0.mk (hi);clear HO_80;clear HO_134004;clear BK112;clear BK133;clear HB;clear HI120;have HO_80:=n0_;have HO_134004:=n1_;have BK112:=n2_;have BK133:=n3_;have HB:=n4_;have HI120:=n5_;clear n0_ n1_ n2_ n3_ n4_ n5_;(try clear hb);(try clear hb2);(try clear hk);(try clear hi);have hnb85:=NB112_120.out;have hnc85:=NB120_112.out;have hcz86_0 : w84.cell? ⟨gb112,0,none⟩=some (.int .u32 0):=(blk_cell BK112.out 0).trans rfl;have hcz86_1 : w84.cell? ⟨gb112,1,none⟩=some (.int .u64 0):=(blk_cell BK112.out 1).trans rfl;have hcz86_2 : w84.cell? ⟨gb112,2,none⟩=some (.int .i64 0):=(blk_cell BK112.out 2).trans rfl;have hcz86_3 : w84.cell? ⟨gb112,3,none⟩=some (.string (⟨#[]⟩ : ByteArray)):=(blk_cell BK112.out 3).trans rfl;have hcz86_4 : w84.cell? ⟨gb112,4,none⟩=some (.slice none 0 0):=(blk_cell BK112.out 4).trans rfl;have hfz86_0:=blk_frozen BK112.out 0;have hfz86_1:=blk_frozen BK112.out 1;have hfz86_2:=blk_frozen BK112.out 2;have hfz86_3:=blk_frozen BK112.out 3;have hfz86_4:=blk_frozen BK112.out 4))
                 refine bodyPost_ret (results_ct rfl _ _ gb112 28 #[.int .u32 0,.int .u64 0,.int .i64 0,.string (⟨#[]⟩ : ByteArray),.slice none 0 0] (0,0) _ rfl (by (with_reducible repeat (first|refine blk_drewN ?_ _|refine blk_drew ?_|refine blk_alloc ?_ _));refine blk_put (cs:=#[.int .u32 0,.int .u64 0,.int .i64 0,.string (⟨#[]⟩ : ByteArray),.slice none 0 0]) ?_ 4 _ rfl;(with_reducible repeat (first|refine blk_drewN ?_ _|refine blk_drew ?_|refine blk_alloc ?_ _));refine blk_put (cs:=#[.int .u32 0,.int .u64 0,.int .i64 0,.string (⟨#[]⟩ : ByteArray),.slice none 0 0]) ?_ 3 _ rfl;(with_reducible repeat (first|refine blk_drewN ?_ _|refine blk_drew ?_|refine blk_alloc ?_ _));refine blk_put (cs:=#[.int .u32 0,.int .u64 0,.int .i64 0,.string (⟨#[]⟩ : ByteArray),.slice none 0 0]) ?_ 2 _ rfl;(with_reducible repeat (first|refine blk_drewN ?_ _|refine blk_drew ?_|refine blk_alloc ?_ _));refine blk_put (cs:=#[.int .u32 0,.int .u64 0,.int .i64 0,.string (⟨#[]⟩ : ByteArray),.slice none 0 0]) ?_ 1 _ rfl;(with_reducible repeat (first|refine blk_drewN ?_ _|refine blk_drew ?_|refine blk_alloc ?_ _));refine blk_put (cs:=#[.int .u32 0,.int .u64 0,.int .i64 0,.string (⟨#[]⟩ : ByteArray),.slice none 0 0]) ?_ 0 _ rfl;(with_reducible repeat (first|refine blk_drewN ?_ _|refine blk_drew ?_|refine blk_alloc ?_ _));exact BK112.out) Try.underlying28 rfl (by kernel_rfl)) rfl ?_
                 exact ⟨_,by first|rfl|(simp [errW_none,errW_some] <;> rfl)|(simp [*,errW_none,errW_some] <;> rfl),by first|exact Kd.R_nil _ _ _ _ _|exact Kd.N_nil _ _ _ _ _|exact Kd.V_nil _ _ _ _ _|exact Kd.Q_nil _ _ _ _ _|exact Kd.S_nil _ _ _ _ _,by repeat (first|(with_reducible first|exact HB.out|apply below_alloc|apply pw_below_drewN|apply below_drew1|refine below_set ?_ (IsS114.ge HI120.out)|refine below_set ?_ GE112.out|refine below_set ?_ GE133.out)|exact HB.out)⟩
               ·rw [if_neg c59] at H
                have c59b0 : (t163 == 0)=false:=beq_eq_false_iff_ne.mpr c59
                have c59b1 : (t163 != 0)=true:=bne_iff_ne.mpr c59
                simp only [Option.some.injEq,Prod.mk.injEq] at H
                obtain ⟨rfl,rfl,rfl,rfl,rfl,rfl⟩:=H
                have hnb87:=NB133_112.out
                have hnc87:=NB112_133.out
                have hnb88:=NB133_120.out
                have hnc88:=NB120_133.out
                have hcz89_0 : wr.cell? ⟨gb133,0,none⟩=some (.int .u32 ((t125) % 4294967296)):=(blk_cell BK133.out 0).trans rfl
                have hcz89_1 : wr.cell? ⟨gb133,1,none⟩=some (.int .u64 t121):=(blk_cell BK133.out 1).trans rfl
                have hcz89_2 : wr.cell? ⟨gb133,2,none⟩=some (.int .i64 (wrap64 (t129))):=(blk_cell BK133.out 2).trans rfl
                have hcz89_3 : wr.cell? ⟨gb133,3,none⟩=some (.string t138):=(blk_cell BK133.out 3).trans rfl
                have hcz89_4 : wr.cell? ⟨gb133,4,none⟩=some (u134004):=(blk_cell BK133.out 4).trans rfl
                have hfz89_0:=blk_frozen BK133.out 0
                have hfz89_1:=blk_frozen BK133.out 1
                have hfz89_2:=blk_frozen BK133.out 2
                have hfz89_3:=blk_frozen BK133.out 3
                have hfz89_4:=blk_frozen BK133.out 4
                obtain ⟨Ao90,co90,eo90⟩:=Kd.R_slice HO_134004.out
                subst eo90
                go_wp2_with (first|((with_reducible refine gate_callee (f:=8) rfl ?_);refine goesL_ (some 97) rfl rfl Try.func8 (by kernel_rfl) rfl #[.agg #[.int .u32 ((t125) % 4294967296),.int .u64 t121,.int .i64 (wrap64 (t129)),.string t138,.slice Ao90 x134004_2.length co90]] rfl (by (try simp only [List.map_toArray,List.map_cons,List.map_nil]);first|done|rfl|(simp only [List.length_drop,List.length_take];rfl)) ?_;(with_reducible refine (page_Encode.calls ((t125) % 4294967296) t121 (wrap64 (t129)) t138 _ _ x134004_2 t161 t162 _ ?side1 ?side2 A57.out).mono ?_);(case side1=>repeat (first|exact (Kd.R_reads' HO_134004.out).2.2|(with_reducible refine Kd.C_alloc ?_ _)|(with_reducible refine Kd.C_drewN ?_ _)|(with_reducible refine Kd.C_drew ?_)));(case side2=>exact (Kd.R_reads' HO_134004.out).2.1);rintro e w91 ⟨rfl,hb⟩;refine ⟨_,rfl,?_⟩;have n0_:=Aside0.mk (Kd.R_below (by (with_reducible repeat (first|apply Kd.R_alloc|apply Kd.R_drewN|apply Kd.R_drew));exact HO_80.out) hb);have n1_:=Aside0.mk (Kd.R_below (by (with_reducible repeat (first|apply Kd.R_alloc|apply Kd.R_drewN|apply Kd.R_drew));exact HO_134004.out) hb);have n2_:=Aside0.mk (blk_below (g:=gb112) (o:=.cells #[.int .u32 0,.int .u64 0,.int .i64 0,.string (⟨#[]⟩ : ByteArray),.slice none 0 0] 28 (0,0)) (by (with_reducible repeat (first|refine blk_drewN ?_ _|refine blk_drew ?_|refine blk_alloc ?_ _));exact BK112.out) hb);have n3_:=Aside0.mk (blk_below (g:=gb133) (o:=.cells #[.int .u32 ((t125) % 4294967296),.int .u64 t121,.int .i64 (wrap64 (t129)),.string t138,.slice Ao90 x134004_2.length co90] 28 (0,0)) (by (with_reducible repeat (first|refine blk_drewN ?_ _|refine blk_drew ?_|refine blk_alloc ?_ _));exact BK133.out) hb);have n4_:=Aside0.mk (IsS114.below (by repeat (first|(with_reducible first|exact HI120.out|apply IsS114.alloc|apply IsS114.drewN|apply IsS114.drew|apply IsS114.set_0|apply IsS114.set_1|apply IsS114.set_2|refine IsS114.far ?_ NB120_112.out _|refine IsS114.far ?_ NB120_133.out _)|exact HI120.out)) hb);have n5_:=Aside0.mk (below_step (by repeat (first|(with_reducible first|exact HB.out|apply below_alloc|apply pw_below_drewN|apply below_drew1|refine below_set ?_ (IsS114.ge HI120.out)|refine below_set ?_ GE112.out|refine below_set ?_ GE133.out)|exact HB.out)) hb);clear HO_80;clear HO_134004;clear BK112;clear BK133;clear HI120;clear HB;have HO_80:=n0_;have HO_134004:=n1_;have BK112:=n2_;have BK133:=n3_;have HI120:=n4_;have HB:=n5_;clear n0_ n1_ n2_ n3_ n4_ n5_;(try clear hb);(try clear hb2);(try clear hk);(try clear hi))|((with_reducible refine gate_callee (f:=42) rfl ?_);refine goesL_ (some 101) rfl rfl Try.func42 (by kernel_rfl) rfl #[.pointer (some ⟨g120,0,none⟩)] rfl (by (try simp only [List.map_toArray,List.map_cons,List.map_nil]);first|done|rfl|(simp only [List.length_drop,List.length_take];rfl)) ?_;(with_reducible refine (raw_Reader_Err.calls g120 x121000_2 x121001_2 x121002_2 t163 t164 t165 t166 w _ ?side1 ?side2 A58.out).mono ?_);(case side1=>repeat (first|(with_reducible first|exact HI120.out|apply IsS114.alloc|apply IsS114.drewN|apply IsS114.drew|apply IsS114.set_0|apply IsS114.set_1|apply IsS114.set_2|refine IsS114.far ?_ NB120_112.out _|refine IsS114.far ?_ NB120_133.out _)|exact HI120.out));(case side2=>repeat (first|(with_reducible first|exact HB.out|apply below_alloc|apply pw_below_drewN|apply below_drew1|refine below_set ?_ (IsS114.ge HI120.out)|refine below_set ?_ GE112.out|refine below_set ?_ GE133.out)|exact HB.out));rintro e w92 ⟨rfl,hi,hb,hk⟩;refine ⟨_,rfl,?_⟩;have n0_:=Aside0.mk (Kd.R_mono (Kd.R_keep (IsS114.apart (show IsS114 w _ g120 x121000_2 x121001_2 x121002_2 from by repeat (first|(with_reducible first|exact HI120.out|apply IsS114.alloc|apply IsS114.drewN|apply IsS114.drew|apply IsS114.set_0|apply IsS114.set_1|apply IsS114.set_2|refine IsS114.far ?_ NB120_112.out _|refine IsS114.far ?_ NB120_133.out _)|exact HI120.out)) (by (with_reducible repeat (first|apply Kd.R_alloc|apply Kd.R_drewN|apply Kd.R_drew));exact HO_80.out) (by decide)) hk (fun _ h=>h.2)) (fun _ h=>h.1));have n1_:=Aside0.mk (Kd.R_mono (Kd.R_keep (IsS114.apart (show IsS114 w _ g120 x121000_2 x121001_2 x121002_2 from by repeat (first|(with_reducible first|exact HI120.out|apply IsS114.alloc|apply IsS114.drewN|apply IsS114.drew|apply IsS114.set_0|apply IsS114.set_1|apply IsS114.set_2|refine IsS114.far ?_ NB120_112.out _|refine IsS114.far ?_ NB120_133.out _)|exact HI120.out)) (by (with_reducible repeat (first|apply Kd.R_alloc|apply Kd.R_drewN|apply Kd.R_drew));exact HO_134004.out) (by decide)) hk (fun _ h=>h.2)) (fun _ h=>h.1));have n2_:=Aside0.mk (KeepBut.blk hk (g':=gb112) (o:=.cells #[.int .u32 0,.int .u64 0,.int .i64 0,.string (⟨#[]⟩ : ByteArray),.slice none 0 0] 28 (0,0)) (by (with_reducible repeat (first|refine blk_drewN ?_ _|refine blk_drew ?_|refine blk_alloc ?_ _));exact BK112.out) NB112_120.out (by simp));have n3_:=Aside0.mk (KeepBut.blk hk (g':=gb133) (o:=.cells #[.int .u32 ((t125) % 4294967296),.int .u64 t121,.int .i64 (wrap64 (t129)),.string t138,.slice Ao90 x134004_2.length co90] 28 (0,0)) (by (with_reducible repeat (first|refine blk_drewN ?_ _|refine blk_drew ?_|refine blk_alloc ?_ _));exact BK133.out) NB133_120.out (by simp));have n4_:=Aside0.mk (hb);have n5_:=Aside0.mk (hi);clear HO_80;clear HO_134004;clear BK112;clear BK133;clear HB;clear HI120;have HO_80:=n0_;have HO_134004:=n1_;have BK112:=n2_;have BK133:=n3_;have HB:=n4_;have HI120:=n5_;clear n0_ n1_ n2_ n3_ n4_ n5_;(try clear hb);(try clear hb2);(try clear hk);(try clear hi);have hnb93:=NB112_120.out;have hnc93:=NB120_112.out;have hcz94_0 : w92.cell? ⟨gb112,0,none⟩=some (.int .u32 0):=(blk_cell BK112.out 0).trans rfl;have hcz94_1 : w92.cell? ⟨gb112,1,none⟩=some (.int .u64 0):=(blk_cell BK112.out 1).trans rfl;have hcz94_2 : w92.cell? ⟨gb112,2,none⟩=some (.int .i64 0):=(blk_cell BK112.out 2).trans rfl;have hcz94_3 : w92.cell? ⟨gb112,3,none⟩=some (.string (⟨#[]⟩ : ByteArray)):=(blk_cell BK112.out 3).trans rfl;have hcz94_4 : w92.cell? ⟨gb112,4,none⟩=some (.slice none 0 0):=(blk_cell BK112.out 4).trans rfl;have hfz94_0:=blk_frozen BK112.out 0;have hfz94_1:=blk_frozen BK112.out 1;have hfz94_2:=blk_frozen BK112.out 2;have hfz94_3:=blk_frozen BK112.out 3;have hfz94_4:=blk_frozen BK112.out 4))
                refine bodyPost_ret (results_ct rfl _ _ gb112 28 #[.int .u32 0,.int .u64 0,.int .i64 0,.string (⟨#[]⟩ : ByteArray),.slice none 0 0] (0,0) _ rfl (by (with_reducible repeat (first|refine blk_drewN ?_ _|refine blk_drew ?_|refine blk_alloc ?_ _));refine blk_put (cs:=#[.int .u32 0,.int .u64 0,.int .i64 0,.string (⟨#[]⟩ : ByteArray),.slice none 0 0]) ?_ 4 _ rfl;(with_reducible repeat (first|refine blk_drewN ?_ _|refine blk_drew ?_|refine blk_alloc ?_ _));refine blk_put (cs:=#[.int .u32 0,.int .u64 0,.int .i64 0,.string (⟨#[]⟩ : ByteArray),.slice none 0 0]) ?_ 3 _ rfl;(with_reducible repeat (first|refine blk_drewN ?_ _|refine blk_drew ?_|refine blk_alloc ?_ _));refine blk_put (cs:=#[.int .u32 0,.int .u64 0,.int .i64 0,.string (⟨#[]⟩ : ByteArray),.slice none 0 0]) ?_ 2 _ rfl;(with_reducible repeat (first|refine blk_drewN ?_ _|refine blk_drew ?_|refine blk_alloc ?_ _));refine blk_put (cs:=#[.int .u32 0,.int .u64 0,.int .i64 0,.string (⟨#[]⟩ : ByteArray),.slice none 0 0]) ?_ 1 _ rfl;(with_reducible repeat (first|refine blk_drewN ?_ _|refine blk_drew ?_|refine blk_alloc ?_ _));refine blk_put (cs:=#[.int .u32 0,.int .u64 0,.int .i64 0,.string (⟨#[]⟩ : ByteArray),.slice none 0 0]) ?_ 0 _ rfl;(with_reducible repeat (first|refine blk_drewN ?_ _|refine blk_drew ?_|refine blk_alloc ?_ _));exact BK112.out) Try.underlying28 rfl (by kernel_rfl)) rfl ?_
                exact ⟨_,by first|rfl|(simp [errW_none,errW_some] <;> rfl)|(simp [*,errW_none,errW_some] <;> rfl),by first|exact Kd.R_nil _ _ _ _ _|exact Kd.N_nil _ _ _ _ _|exact Kd.V_nil _ _ _ _ _|exact Kd.Q_nil _ _ _ _ _|exact Kd.S_nil _ _ _ _ _,by repeat (first|(with_reducible first|exact HB.out|apply below_alloc|apply pw_below_drewN|apply below_drew1|refine below_set ?_ (IsS114.ge HI120.out)|refine below_set ?_ GE112.out|refine below_set ?_ GE133.out)|exact HB.out)⟩
        ·rw [if_neg c18] at H
         have c18b0 : (((t114) % 4294967296) == t116)=false:=beq_eq_false_iff_ne.mpr c18
         have c18b1 : (((t114) % 4294967296) != t116)=true:=bne_iff_ne.mpr c18
         simp only [Option.some.injEq,Prod.mk.injEq] at H
         obtain ⟨rfl,rfl,rfl,rfl,rfl,rfl⟩:=H
         go_enter Try.func11,Try.ntmps11
         try go_wp2_with (first|((with_reducible refine gate_dst (N:=2) rfl ?_);refine box_event ?hg (N:=2) ?hd (cs:=#[.int .u32 0,.int .u64 0,.int .i64 0,.string (⟨#[]⟩ : ByteArray),.slice none 0 0]) (t:=28) ?hr ?_;(case hd=>rfl);(case hg=>rfl);(case hr=>first|(go_simp;done)|(go_simp;rfl));intro gb112 hg w95 hbox hb;have n0_:=Aside0.mk (below_step (by repeat (first|(with_reducible first|exact HB.out|apply below_alloc|apply pw_below_drewN|apply below_drew1)|exact HB.out)) hb);have n1_:=Aside0.mk (hbox);have n2_:=Aside0.mk ((by rw [hg];exact (below_size (by repeat (first|(with_reducible first|exact HB.out|apply below_alloc|apply pw_below_drewN|apply below_drew1)|exact HB.out))) : w.heap.size≤gb112));have n3_:=Aside0.mk ((by rw [hg];exact (below_size (by repeat (first|(with_reducible first|exact HB.out|apply below_alloc|apply pw_below_drewN|apply below_drew1)|exact HB.out))) : w.heap.size≤gb112));clear HB;have HB:=n0_;have BK112:=n1_;have GW112:=n2_;have GE112:=n3_;clear n0_ n1_ n2_ n3_;clear hb hbox hg)|((with_reducible refine gate_callee (f:=37) rfl ?_);refine goesL_ (some 26) rfl rfl Try.func37 (by kernel_rfl) rfl #[.string a0,.string (⟨#[0]⟩ : ByteArray)] rfl (by (try simp only [List.map_toArray,List.map_cons,List.map_nil]);first|done|rfl|(simp only [List.length_drop,List.length_take];rfl)) ?_;(with_reducible refine (strings_Count.calls a0 (⟨#[0]⟩ : ByteArray) t113 _ A8.out).mono ?_);rintro e w' ⟨rfl,⟨nd,rfl⟩⟩;refine ⟨_,rfl,?_⟩;(try (rw [drewN_self w95];generalize hq_ : World.drewN w95 _=w95;have n0_ : Aside0 (w95.heap[gb112]?=some (.cells #[.int .u32 0,.int .u64 0,.int .i64 0,.string (⟨#[]⟩ : ByteArray),.slice none 0 0] 28 (0,0))):=⟨by rw [← hq_];exact (by (with_reducible repeat (first|refine blk_drewN ?_ _|refine blk_drew ?_|refine blk_alloc ?_ _));exact BK112.out)⟩;have n1_ : Aside0 (Below w.heap.size w w95):=⟨by rw [← hq_];exact (by repeat (first|(with_reducible first|exact HB.out|apply below_alloc|apply pw_below_drewN|apply below_drew1|refine below_set ?_ GE112.out)|exact HB.out))⟩;clear BK112 HB hq_;have BK112:=n0_;have HB:=n1_;clear n0_ n1_))))
         have n0_:=Aside0.mk (blk_drew BK112.out)
         have n1_:=Aside0.mk (below_drew1 HB.out)
         clear BK112
         clear HB
         have BK112:=n0_
         have HB:=n1_
         clear n0_ n1_
         refine start_ (n:=5) (S:=fun w'=>True) (ds:=[]) #[false,false,false,false,false] (by kernel_rfl) rfl rfl trivial (fun hHeld=>?_)
         generalize w95.drew=w96 at BK112 HB hHeld ⊢
         refine pure_ (i:=0) (N:=some 31) (v:=?_) (a':=?_) #[true,false,false,false,false] rfl rfl (by kernel_rfl) (fun _ _ _ h=>h) (Or.inl ⟨by rfl,?_⟩) ?_ ?_
         rotate_left
         ·intro w'
          go_simp
          with_reducible rfl
         rotate_left
         ·simp only [Act.put,sA_,sB_,sC_,i64_w,i32_w]
          rfl
         refine pure_ (i:=1) (N:=some 32) (v:=?_) (a':=?_) #[true,true,false,false,false] rfl rfl (by kernel_rfl) (fun _ _ _ h=>h) (Or.inl ⟨by rfl,?_⟩) ?_ ?_
         rotate_left
         ·intro w'
          go_simp
          with_reducible rfl
         rotate_left
         ·simp only [Act.put,sA_,sB_,sC_,i64_w,i32_w]
          rfl
         refine pure_ (i:=2) (N:=some 33) (v:=?_) (a':=?_) #[true,true,true,false,false] rfl rfl (by kernel_rfl) (fun _ _ _ h=>h) (Or.inl ⟨by rfl,?_⟩) ?_ ?_
         rotate_left
         ·intro w'
          go_simp
          with_reducible rfl
         rotate_left
         ·simp only [Act.put,sA_,sB_,sC_,i64_w,i32_w]
          rfl
         refine pure_ (i:=3) (N:=some 34) (v:=?_) (a':=?_) #[true,true,true,true,false] rfl rfl (by kernel_rfl) (fun _ _ _ h=>h) (Or.inl ⟨by rfl,?_⟩) ?_ ?_
         rotate_left
         ·intro w'
          go_simp
          with_reducible rfl
         rotate_left
         ·simp only [Act.put,sA_,sB_,sC_,i64_w,i32_w]
          rfl
         refine pure_ (i:=4) (N:=some 35) (v:=?_) (a':=?_) #[true,true,true,true,true] rfl rfl (by kernel_rfl) (fun _ _ _ h=>h) (Or.inl ⟨by rfl,?_⟩) ?_ ?_
         rotate_left
         ·intro w'
          go_simp
          with_reducible rfl
         rotate_left
         ·simp only [Act.put,sA_,sB_,sC_,i64_w,i32_w]
          rfl
         refine done_ (by kernel_rfl) ?_
         try go_wp2_with (first|((with_reducible refine gate_callee (f:=38) rfl ?_);refine goesL_ (some 39) rfl rfl Try.func38 (by kernel_rfl) rfl #[.string a0,.int .i64 0,.int .i64 4] rfl (by (try simp only [List.map_toArray,List.map_cons,List.map_nil]);first|done|rfl|(simp only [List.length_drop,List.length_take];rfl)) ?_;(with_reducible refine (raw_Get.calls a0 0 4 t114 t115 _ A15.out).mono ?_);rintro e w' ⟨rfl,⟨nd,rfl⟩⟩;refine ⟨_,rfl,?_⟩;(try (rw [drewN_self w96];generalize hq_ : World.drewN w96 _=w96;have n0_ : Aside0 (w96.heap[gb112]?=some (.cells #[.int .u32 0,.int .u64 0,.int .i64 0,.string (⟨#[]⟩ : ByteArray),.slice none 0 0] 28 (0,0))):=⟨by rw [← hq_];exact (by (with_reducible repeat (first|refine blk_drewN ?_ _|refine blk_drew ?_|refine blk_alloc ?_ _));exact BK112.out)⟩;have n1_ : Aside0 (Below w.heap.size w w96):=⟨by rw [← hq_];exact (by repeat (first|(with_reducible first|exact HB.out|apply below_alloc|apply pw_below_drewN|apply below_drew1|refine below_set ?_ GE112.out)|exact HB.out))⟩;clear BK112 HB hq_;have BK112:=n0_;have HB:=n1_;clear n0_ n1_)))|((with_reducible refine gate_callee (f:=33) rfl ?_);refine goesL_ (some 46) rfl rfl Try.func33 (by kernel_rfl) rfl #[.string (a0.extract 4 a0.size)] rfl (by (try simp only [List.map_toArray,List.map_cons,List.map_nil]);first|done|rfl|(simp only [List.length_drop,List.length_take];rfl)) ?_;(with_reducible refine (raw_Sum.calls (a0.extract 4 a0.size) t116 _ A17.out).mono ?_);rintro e w' ⟨rfl,⟨nd,rfl⟩⟩;refine ⟨_,rfl,?_⟩;(try (rw [drewN_self w96];generalize hq_ : World.drewN w96 _=w96;have n0_ : Aside0 (w96.heap[gb112]?=some (.cells #[.int .u32 0,.int .u64 0,.int .i64 0,.string (⟨#[]⟩ : ByteArray),.slice none 0 0] 28 (0,0))):=⟨by rw [← hq_];exact (by (with_reducible repeat (first|refine blk_drewN ?_ _|refine blk_drew ?_|refine blk_alloc ?_ _));exact BK112.out)⟩;have n1_ : Aside0 (Below w.heap.size w w96):=⟨by rw [← hq_];exact (by repeat (first|(with_reducible first|exact HB.out|apply below_alloc|apply pw_below_drewN|apply below_drew1|refine below_set ?_ GE112.out)|exact HB.out))⟩;clear BK112 HB hq_;have BK112:=n0_;have HB:=n1_;clear n0_ n1_));have hcz97_0 : w96.cell? ⟨gb112,0,none⟩=some (.int .u32 0):=(blk_cell BK112.out 0).trans rfl;have hcz97_1 : w96.cell? ⟨gb112,1,none⟩=some (.int .u64 0):=(blk_cell BK112.out 1).trans rfl;have hcz97_2 : w96.cell? ⟨gb112,2,none⟩=some (.int .i64 0):=(blk_cell BK112.out 2).trans rfl;have hcz97_3 : w96.cell? ⟨gb112,3,none⟩=some (.string (⟨#[]⟩ : ByteArray)):=(blk_cell BK112.out 3).trans rfl;have hcz97_4 : w96.cell? ⟨gb112,4,none⟩=some (.slice none 0 0):=(blk_cell BK112.out 4).trans rfl;have hfz97_0:=blk_frozen BK112.out 0;have hfz97_1:=blk_frozen BK112.out 1;have hfz97_2:=blk_frozen BK112.out 2;have hfz97_3:=blk_frozen BK112.out 3;have hfz97_4:=blk_frozen BK112.out 4))
         refine bodyPost_ret (results_ct rfl _ _ gb112 28 #[.int .u32 0,.int .u64 0,.int .i64 0,.string (⟨#[]⟩ : ByteArray),.slice none 0 0] (0,0) _ rfl (by (with_reducible repeat (first|refine blk_drewN ?_ _|refine blk_drew ?_|refine blk_alloc ?_ _));refine blk_put (cs:=#[.int .u32 0,.int .u64 0,.int .i64 0,.string (⟨#[]⟩ : ByteArray),.slice none 0 0]) ?_ 4 _ rfl;(with_reducible repeat (first|refine blk_drewN ?_ _|refine blk_drew ?_|refine blk_alloc ?_ _));refine blk_put (cs:=#[.int .u32 0,.int .u64 0,.int .i64 0,.string (⟨#[]⟩ : ByteArray),.slice none 0 0]) ?_ 3 _ rfl;(with_reducible repeat (first|refine blk_drewN ?_ _|refine blk_drew ?_|refine blk_alloc ?_ _));refine blk_put (cs:=#[.int .u32 0,.int .u64 0,.int .i64 0,.string (⟨#[]⟩ : ByteArray),.slice none 0 0]) ?_ 2 _ rfl;(with_reducible repeat (first|refine blk_drewN ?_ _|refine blk_drew ?_|refine blk_alloc ?_ _));refine blk_put (cs:=#[.int .u32 0,.int .u64 0,.int .i64 0,.string (⟨#[]⟩ : ByteArray),.slice none 0 0]) ?_ 1 _ rfl;(with_reducible repeat (first|refine blk_drewN ?_ _|refine blk_drew ?_|refine blk_alloc ?_ _));refine blk_put (cs:=#[.int .u32 0,.int .u64 0,.int .i64 0,.string (⟨#[]⟩ : ByteArray),.slice none 0 0]) ?_ 0 _ rfl;(with_reducible repeat (first|refine blk_drewN ?_ _|refine blk_drew ?_|refine blk_alloc ?_ _));exact BK112.out) Try.underlying28 rfl (by kernel_rfl)) rfl ?_
         exact ⟨_,by first|rfl|(simp [errW_none,errW_some] <;> rfl)|(simp [*,errW_none,errW_some] <;> rfl),by first|exact Kd.R_nil _ _ _ _ _|exact Kd.N_nil _ _ _ _ _|exact Kd.V_nil _ _ _ _ _|exact Kd.Q_nil _ _ _ _ _|exact Kd.S_nil _ _ _ _ _,by repeat (first|(with_reducible first|exact HB.out|apply below_alloc|apply pw_below_drewN|apply below_drew1|refine below_set ?_ GE112.out)|exact HB.out)⟩
       ·rw [if_neg c16] at H
        exact absurd H (by simp)
      ·rw [if_neg c14] at H
       have c14b0 : ((a0.extract 4 12).toList == (a0.extract 504 a0.size).toList)=false:=beq_eq_false_iff_ne.mpr c14
       have c14b1 : ((a0.extract 4 12).toList != (a0.extract 504 a0.size).toList)=true:=bne_iff_ne.mpr c14
       simp only [Option.some.injEq,Prod.mk.injEq] at H
       obtain ⟨rfl,rfl,rfl,rfl,rfl,rfl⟩:=H
       go_enter Try.func11,Try.ntmps11
       try go_wp2_with (first|((with_reducible refine gate_dst (N:=2) rfl ?_);refine box_event ?hg (N:=2) ?hd (cs:=#[.int .u32 0,.int .u64 0,.int .i64 0,.string (⟨#[]⟩ : ByteArray),.slice none 0 0]) (t:=28) ?hr ?_;(case hd=>rfl);(case hg=>rfl);(case hr=>first|(go_simp;done)|(go_simp;rfl));intro gb112 hg w98 hbox hb;have n0_:=Aside0.mk (below_step (by repeat (first|(with_reducible first|exact HB.out|apply below_alloc|apply pw_below_drewN|apply below_drew1)|exact HB.out)) hb);have n1_:=Aside0.mk (hbox);have n2_:=Aside0.mk ((by rw [hg];exact (below_size (by repeat (first|(with_reducible first|exact HB.out|apply below_alloc|apply pw_below_drewN|apply below_drew1)|exact HB.out))) : w.heap.size≤gb112));have n3_:=Aside0.mk ((by rw [hg];exact (below_size (by repeat (first|(with_reducible first|exact HB.out|apply below_alloc|apply pw_below_drewN|apply below_drew1)|exact HB.out))) : w.heap.size≤gb112));clear HB;have HB:=n0_;have BK112:=n1_;have GW112:=n2_;have GE112:=n3_;clear n0_ n1_ n2_ n3_;clear hb hbox hg)|((with_reducible refine gate_callee (f:=37) rfl ?_);refine goesL_ (some 26) rfl rfl Try.func37 (by kernel_rfl) rfl #[.string a0,.string (⟨#[0]⟩ : ByteArray)] rfl (by (try simp only [List.map_toArray,List.map_cons,List.map_nil]);first|done|rfl|(simp only [List.length_drop,List.length_take];rfl)) ?_;(with_reducible refine (strings_Count.calls a0 (⟨#[0]⟩ : ByteArray) t113 _ A8.out).mono ?_);rintro e w' ⟨rfl,⟨nd,rfl⟩⟩;refine ⟨_,rfl,?_⟩;(try (rw [drewN_self w98];generalize hq_ : World.drewN w98 _=w98;have n0_ : Aside0 (w98.heap[gb112]?=some (.cells #[.int .u32 0,.int .u64 0,.int .i64 0,.string (⟨#[]⟩ : ByteArray),.slice none 0 0] 28 (0,0))):=⟨by rw [← hq_];exact (by (with_reducible repeat (first|refine blk_drewN ?_ _|refine blk_drew ?_|refine blk_alloc ?_ _));exact BK112.out)⟩;have n1_ : Aside0 (Below w.heap.size w w98):=⟨by rw [← hq_];exact (by repeat (first|(with_reducible first|exact HB.out|apply below_alloc|apply pw_below_drewN|apply below_drew1|refine below_set ?_ GE112.out)|exact HB.out))⟩;clear BK112 HB hq_;have BK112:=n0_;have HB:=n1_;clear n0_ n1_))))
       have n0_:=Aside0.mk (blk_drew BK112.out)
       have n1_:=Aside0.mk (below_drew1 HB.out)
       clear BK112
       clear HB
       have BK112:=n0_
       have HB:=n1_
       clear n0_ n1_
       refine start_ (n:=5) (S:=fun w'=>True) (ds:=[]) #[false,false,false,false,false] (by kernel_rfl) rfl rfl trivial (fun hHeld=>?_)
       generalize w98.drew=w99 at BK112 HB hHeld ⊢
       refine pure_ (i:=0) (N:=some 31) (v:=?_) (a':=?_) #[true,false,false,false,false] rfl rfl (by kernel_rfl) (fun _ _ _ h=>h) (Or.inl ⟨by rfl,?_⟩) ?_ ?_
       rotate_left
       ·intro w'
        go_simp
        with_reducible rfl
       rotate_left
       ·simp only [Act.put,sA_,sB_,sC_,i64_w,i32_w]
        rfl
       refine pure_ (i:=1) (N:=some 32) (v:=?_) (a':=?_) #[true,true,false,false,false] rfl rfl (by kernel_rfl) (fun _ _ _ h=>h) (Or.inl ⟨by rfl,?_⟩) ?_ ?_
       rotate_left
       ·intro w'
        go_simp
        with_reducible rfl
       rotate_left
       ·simp only [Act.put,sA_,sB_,sC_,i64_w,i32_w]
        rfl
       refine pure_ (i:=2) (N:=some 33) (v:=?_) (a':=?_) #[true,true,true,false,false] rfl rfl (by kernel_rfl) (fun _ _ _ h=>h) (Or.inl ⟨by rfl,?_⟩) ?_ ?_
       rotate_left
       ·intro w'
        go_simp
        with_reducible rfl
       rotate_left
       ·simp only [Act.put,sA_,sB_,sC_,i64_w,i32_w]
        rfl
       refine pure_ (i:=3) (N:=some 34) (v:=?_) (a':=?_) #[true,true,true,true,false] rfl rfl (by kernel_rfl) (fun _ _ _ h=>h) (Or.inl ⟨by rfl,?_⟩) ?_ ?_
       rotate_left
       ·intro w'
        go_simp
        with_reducible rfl
       rotate_left
       ·simp only [Act.put,sA_,sB_,sC_,i64_w,i32_w]
        rfl
       refine pure_ (i:=4) (N:=some 35) (v:=?_) (a':=?_) #[true,true,true,true,true] rfl rfl (by kernel_rfl) (fun _ _ _ h=>h) (Or.inl ⟨by rfl,?_⟩) ?_ ?_
       rotate_left
       ·intro w'
        go_simp
        with_reducible rfl
       rotate_left
       ·simp only [Act.put,sA_,sB_,sC_,i64_w,i32_w]
        rfl
       refine done_ (by kernel_rfl) ?_
       have hcz100_0 : w99.cell? ⟨gb112,0,none⟩=some (.int .u32 0):=(blk_cell BK112.out 0).trans rfl
       have hcz100_1 : w99.cell? ⟨gb112,1,none⟩=some (.int .u64 0):=(blk_cell BK112.out 1).trans rfl
       have hcz100_2 : w99.cell? ⟨gb112,2,none⟩=some (.int .i64 0):=(blk_cell BK112.out 2).trans rfl
       have hcz100_3 : w99.cell? ⟨gb112,3,none⟩=some (.string (⟨#[]⟩ : ByteArray)):=(blk_cell BK112.out 3).trans rfl
       have hcz100_4 : w99.cell? ⟨gb112,4,none⟩=some (.slice none 0 0):=(blk_cell BK112.out 4).trans rfl
       have hfz100_0:=blk_frozen BK112.out 0
       have hfz100_1:=blk_frozen BK112.out 1
       have hfz100_2:=blk_frozen BK112.out 2
       have hfz100_3:=blk_frozen BK112.out 3
       have hfz100_4:=blk_frozen BK112.out 4
       try go_wp2
       refine bodyPost_ret (results_ct rfl _ _ gb112 28 #[.int .u32 0,.int .u64 0,.int .i64 0,.string (⟨#[]⟩ : ByteArray),.slice none 0 0] (0,0) _ rfl (by (with_reducible repeat (first|refine blk_drewN ?_ _|refine blk_drew ?_|refine blk_alloc ?_ _));refine blk_put (cs:=#[.int .u32 0,.int .u64 0,.int .i64 0,.string (⟨#[]⟩ : ByteArray),.slice none 0 0]) ?_ 4 _ rfl;(with_reducible repeat (first|refine blk_drewN ?_ _|refine blk_drew ?_|refine blk_alloc ?_ _));refine blk_put (cs:=#[.int .u32 0,.int .u64 0,.int .i64 0,.string (⟨#[]⟩ : ByteArray),.slice none 0 0]) ?_ 3 _ rfl;(with_reducible repeat (first|refine blk_drewN ?_ _|refine blk_drew ?_|refine blk_alloc ?_ _));refine blk_put (cs:=#[.int .u32 0,.int .u64 0,.int .i64 0,.string (⟨#[]⟩ : ByteArray),.slice none 0 0]) ?_ 2 _ rfl;(with_reducible repeat (first|refine blk_drewN ?_ _|refine blk_drew ?_|refine blk_alloc ?_ _));refine blk_put (cs:=#[.int .u32 0,.int .u64 0,.int .i64 0,.string (⟨#[]⟩ : ByteArray),.slice none 0 0]) ?_ 1 _ rfl;(with_reducible repeat (first|refine blk_drewN ?_ _|refine blk_drew ?_|refine blk_alloc ?_ _));refine blk_put (cs:=#[.int .u32 0,.int .u64 0,.int .i64 0,.string (⟨#[]⟩ : ByteArray),.slice none 0 0]) ?_ 0 _ rfl;(with_reducible repeat (first|refine blk_drewN ?_ _|refine blk_drew ?_|refine blk_alloc ?_ _));exact BK112.out) Try.underlying28 rfl (by kernel_rfl)) rfl ?_
       exact ⟨_,by first|rfl|(simp [errW_none,errW_some] <;> rfl)|(simp [*,errW_none,errW_some] <;> rfl),by first|exact Kd.R_nil _ _ _ _ _|exact Kd.N_nil _ _ _ _ _|exact Kd.V_nil _ _ _ _ _|exact Kd.Q_nil _ _ _ _ _|exact Kd.S_nil _ _ _ _ _,by repeat (first|(with_reducible first|exact HB.out|apply below_alloc|apply pw_below_drewN|apply below_drew1|refine below_set ?_ GE112.out)|exact HB.out)⟩
     ·rw [if_neg c13] at H
      exact absurd H (by simp)
    ·rw [if_neg c12] at H
     exact absurd H (by simp)
end Go.Proofs.Yteokjmjfjdgmpaa.PPg
end
section
namespace Go.Proofs.Yteokjmjfjdgmpaa.PPg
open Go.RowKit Go.Proofs.YteokjmjfjdgmpaaW.PrintWords Go.Proofs.YteokjmjfjdgmpaaW.PrintLast Go.Proofs.YteokjmjfjdgmpaaW.PrintMore
attribute [local go_sem] max2_int min2_int max_two min_two max_three min_three max_four min_four
set_option linter.unusedVariables false
set_option linter.unusedSimpArgs false
def girderref03_Room.l0 : Nat → Int → Int → Int → Int → Int → ByteArray → List ByteArray → Option (Int)
 | 0,_,_,_,_,_,_,_=>none
 | k + 1,x3,x4,x168000,x168001,x168002,x168003,x168004=>if x4 < (x168004.length : Int) then (if 0≤x4 then (girderref03_Room.l0 k (wrap64 (x3 - (wrap64 (2 + ((rdOf ByteArray.empty x168004 x4).size : Int))))) (wrap64 (x4 + 1)) x168000 x168001 x168002 x168003 x168004) else (none)) else (some x3)
def girderref03_Room.f (k : Nat) (a0_0 : Int) (a0_1 : Int) (a0_2 : Int) (a0_3 : ByteArray) (l0_4 : List ByteArray) : Option (Int):=girderref03_Room.l0 k (wrap64 (485 - (a0_3.size : Int))) 0 a0_0 a0_1 a0_2 a0_3 l0_4
set_option maxHeartbeats 8000000 in
set_option maxRecDepth 100000 in
theorem girderref03_Room.calls (k : Nat) (a0_0 : Int) (a0_1 : Int) (a0_2 : Int) (a0_3 : ByteArray) (A0_4 : Option Addr) (c0_4 : Nat) (l0_4 : List ByteArray) (r : Int) (w : World) (hr0_4 : Kd.C Kd.string w A0_4 l0_4.length l0_4) (hc0_4 : l0_4.length≤c0_4) (h : girderref03_Room.f k a0_0 a0_1 a0_2 a0_3 l0_4=some r) :
  Calls Try.prog 15 #[.agg #[.int .u32 a0_0,.int .u64 a0_1,.int .i64 a0_2,.string a0_3,.slice A0_4 l0_4.length c0_4]] w fun e w'=>e=.returned (.int .i64 r)∧Below w.heap.size w w':=by
 have hu35:=Try.underlying35
 have HR0_4:=Aside0.mk hr0_4
 have HC0_4:=Aside0.mk hc0_4
 clear hr0_4 hc0_4
 have HB:=Aside0.mk (Below.refl w.heap.size w)
 have H : (girderref03_Room.l0 k (wrap64 (485 - (a0_3.size : Int))) 0 a0_0 a0_1 a0_2 a0_3 l0_4)=some r:=h
 clear h
 have H':=Aside0.mk H
 clear H
 go_enter Try.func15,Try.ntmps15
 go_wp2_with (first|((with_reducible refine gate_dst (N:=1) rfl ?_);refine box_event ?hg (N:=1) ?hd (cs:=#[.int .u32 a0_0,.int .u64 a0_1,.int .i64 a0_2,.string a0_3,.slice A0_4 l0_4.length c0_4]) (t:=35) ?hr ?_;(case hd=>rfl);(case hg=>rfl);(case hr=>first|(go_simp;done)|(go_simp;rfl));intro gb167 hg w2 hbox hb;have n0_:=Aside0.mk (below_step (by repeat (first|(with_reducible first|exact HB.out|apply below_alloc|apply pw_below_drewN|apply below_drew1)|exact HB.out)) hb);have n1_:=Aside0.mk (hbox);have n2_:=Aside0.mk ((by rw [hg];exact (below_size (by repeat (first|(with_reducible first|exact HB.out|apply below_alloc|apply pw_below_drewN|apply below_drew1)|exact HB.out))) : w.heap.size≤gb167));have n3_:=Aside0.mk ((by rw [hg];exact (below_size (by repeat (first|(with_reducible first|exact HB.out|apply below_alloc|apply pw_below_drewN|apply below_drew1)|exact HB.out))) : w.heap.size≤gb167));clear HB;have HB:=n0_;have BK167:=n1_;have GW167:=n2_;have GE167:=n3_;clear n0_ n1_ n2_ n3_;clear hb hbox hg;have hcz3_0 : w2.cell? ⟨gb167,0,none⟩=some (.int .u32 a0_0):=(blk_cell BK167.out 0).trans rfl;have hcz3_1 : w2.cell? ⟨gb167,1,none⟩=some (.int .u64 a0_1):=(blk_cell BK167.out 1).trans rfl;have hcz3_2 : w2.cell? ⟨gb167,2,none⟩=some (.int .i64 a0_2):=(blk_cell BK167.out 2).trans rfl;have hcz3_3 : w2.cell? ⟨gb167,3,none⟩=some (.string a0_3):=(blk_cell BK167.out 3).trans rfl;have hcz3_4 : w2.cell? ⟨gb167,4,none⟩=some (.slice A0_4 l0_4.length c0_4):=(blk_cell BK167.out 4).trans rfl;have hfz3_0:=blk_frozen BK167.out 0;have hfz3_1:=blk_frozen BK167.out 1;have hfz3_2:=blk_frozen BK167.out 2;have hfz3_3:=blk_frozen BK167.out 3;have hfz3_4:=blk_frozen BK167.out 4))
 go_loopg [3,4] k (fun kq v3 v4 w'=>∃ (x3_1 : Int) (x4_1 : Int),v3=.int .i64 x3_1∧v4=.int .i64 x4_1∧Aside0 (girderref03_Room.l0 kq x3_1 x4_1 a0_0 a0_1 a0_2 a0_3 l0_4=some r)∧Aside0 (kq≤k)∧Aside0 (w'.heap[gb167]?=some (.cells #[.int .u32 a0_0,.int .u64 a0_1,.int .i64 a0_2,.string a0_3,(.slice A0_4 l0_4.length c0_4)] 35 (0,0)))∧Aside0 (Below w.heap.size w w'))
 case atStart=>exact ⟨(wrap64 (485 - (a0_3.size : Int))),(0),(by first|rfl|(simp;done)|(simp [*];done)),(by first|rfl|(simp;done)|(simp [*];done)),H',⟨Nat.le_refl _⟩,⟨by (with_reducible repeat (first|refine blk_drewN ?_ _|refine blk_drew ?_|refine blk_alloc ?_ _));exact BK167.out⟩,⟨by repeat (first|(with_reducible first|exact HB.out|apply below_alloc|apply pw_below_drewN|apply below_drew1|refine below_set ?_ GE167.out)|exact HB.out)⟩⟩
 case round =>
  clear H'
  try clear c1
  try clear p2
  try clear hcz3_0
  try clear hcz3_1
  try clear hcz3_2
  try clear hcz3_3
  try clear hcz3_4
  try clear hfz3_0
  try clear hfz3_1
  try clear hfz3_2
  try clear hfz3_3
  try clear hfz3_4
  obtain ⟨x3_1,x4_1,rfl,rfl,HA,HK1,BK167,HB⟩:=hrel
  cases gk with
  | zero=>exact absurd HA.out (by simp [girderref03_Room.l0])
  | succ k1 =>
   have H:=HA.out
   clear HA
   simp only [girderref03_Room.l0] at H
   by_cases c4 : x4_1 < (l0_4.length : Int)
   ·rw [if_pos c4] at H
    have c4b0 : decide (x4_1 < (l0_4.length : Int))=true:=decide_eq_true c4
    clear c4
    by_cases c5 : 0≤x4_1
    ·rw [if_pos c5] at H
     have c5b0 : decide (0≤x4_1)=true:=decide_eq_true c5
     clear c5
     have H':=Aside0.mk H
     clear H
     have hcz6_0 : wr.cell? ⟨gb167,0,none⟩=some (.int .u32 a0_0):=(blk_cell BK167.out 0).trans rfl
     have hcz6_1 : wr.cell? ⟨gb167,1,none⟩=some (.int .u64 a0_1):=(blk_cell BK167.out 1).trans rfl
     have hcz6_2 : wr.cell? ⟨gb167,2,none⟩=some (.int .i64 a0_2):=(blk_cell BK167.out 2).trans rfl
     have hcz6_3 : wr.cell? ⟨gb167,3,none⟩=some (.string a0_3):=(blk_cell BK167.out 3).trans rfl
     have hcz6_4 : wr.cell? ⟨gb167,4,none⟩=some (.slice A0_4 l0_4.length c0_4):=(blk_cell BK167.out 4).trans rfl
     have hfz6_0:=blk_frozen BK167.out 0
     have hfz6_1:=blk_frozen BK167.out 1
     have hfz6_2:=blk_frozen BK167.out 2
     have hfz6_3:=blk_frozen BK167.out 3
     have hfz6_4:=blk_frozen BK167.out 4
     have p168 : 0≤(x4_1 : Int):=of_decide_eq_true (by first|(with_reducible assumption)|assumption)
     have q168 : x4_1 < (l0_4.length : Int):=of_decide_eq_true (by first|(with_reducible assumption)|assumption)
     obtain ⟨ad168,e168,hx168_0⟩:=Kd.at_string HR0_4.out x4_1 p168 q168
     cases e168
     replace hx168_0:=(HB.out.cell (World.block_lt_of_cell? w _ hx168_0)).trans hx168_0
     replace p168:=eq_true p168
     replace q168:=eq_true q168
     go_wp2
     go_roundg k1
     case measure=>have:=HK1.out;omega
     case rel=>exact ⟨(wrap64 (x3_1 - (wrap64 (2 + ((rdOf ByteArray.empty l0_4 x4_1).size : Int))))),(wrap64 (x4_1 + 1)),(by first|rfl|(simp;done)|(simp [*];done)),(by first|rfl|(simp;done)|(simp [*];done)),H',⟨by have:=HK1.out;omega⟩,⟨by (with_reducible repeat (first|refine blk_drewN ?_ _|refine blk_drew ?_|refine blk_alloc ?_ _));exact BK167.out⟩,⟨by repeat (first|(with_reducible first|exact HB.out|apply below_alloc|apply pw_below_drewN|apply below_drew1|refine below_set ?_ GE167.out)|exact HB.out)⟩⟩
    ·rw [if_neg c5] at H
     exact absurd H (by simp)
   ·rw [if_neg c4] at H
    have c4b0 : decide (x4_1 < (l0_4.length : Int))=false:=decide_eq_false c4
    clear c4
    obtain rfl:=Option.some.inj H
    have hcz7_0 : wr.cell? ⟨gb167,0,none⟩=some (.int .u32 a0_0):=(blk_cell BK167.out 0).trans rfl
    have hcz7_1 : wr.cell? ⟨gb167,1,none⟩=some (.int .u64 a0_1):=(blk_cell BK167.out 1).trans rfl
    have hcz7_2 : wr.cell? ⟨gb167,2,none⟩=some (.int .i64 a0_2):=(blk_cell BK167.out 2).trans rfl
    have hcz7_3 : wr.cell? ⟨gb167,3,none⟩=some (.string a0_3):=(blk_cell BK167.out 3).trans rfl
    have hcz7_4 : wr.cell? ⟨gb167,4,none⟩=some (.slice A0_4 l0_4.length c0_4):=(blk_cell BK167.out 4).trans rfl
    have hfz7_0:=blk_frozen BK167.out 0
    have hfz7_1:=blk_frozen BK167.out 1
    have hfz7_2:=blk_frozen BK167.out 2
    have hfz7_3:=blk_frozen BK167.out 3
    have hfz7_4:=blk_frozen BK167.out 4
    go_wp2
    go_ret
    exact ⟨by first|rfl|(simp [errW_none,errW_some] <;> rfl)|(simp [*,errW_none,errW_some] <;> rfl),by repeat (first|(with_reducible first|exact HB.out|apply below_alloc|apply pw_below_drewN|apply below_drew1|refine below_set ?_ GE167.out)|exact HB.out)⟩
end Go.Proofs.Yteokjmjfjdgmpaa.PPg
end
section
namespace Go.Proofs.Yteokjmjfjdgmpaa.PPg
open Go.RowKit Go.Proofs.YteokjmjfjdgmpaaW.PrintWords Go.Proofs.YteokjmjfjdgmpaaW.PrintLast Go.Proofs.YteokjmjfjdgmpaaW.PrintMore
attribute [local go_sem] max2_int min2_int max_two min_two max_three min_three max_four min_four
set_option linter.unusedVariables false
set_option linter.unusedSimpArgs false
def girderref01_Put.f (a0 : Int) (a1 : Int) : Option (ByteArray):=if 0≤a0∧a0≤18446744073709551615 then some (Go.Gi.bs (Go.Gi.putL (Go.Gi.clamp8 a1) a0.toNat)) else none
set_option maxHeartbeats 8000000 in
set_option maxRecDepth 100000 in
theorem girderref01_Put.calls (a0 : Int) (a1 : Int) (r : ByteArray) (w : World) (h : girderref01_Put.f a0 a1=some r) :
  Calls Try.prog 35 #[.int .u64 a0,.int .i64 a1] w fun e w'=>e=.returned (.string r)∧Below w.heap.size w w':=by
 unfold girderref01_Put.f at h
 split at h
 ·rename_i hc
  obtain ⟨h1,h2⟩:=hc
  obtain rfl:=Option.some.inj h
  obtain ⟨n,rfl⟩:=Int.eq_ofNat_of_zero_le h1
  rw [Int.toNat_natCast]
  exact rput_any n a1 w (by omega)
 ·cases h
end Go.Proofs.Yteokjmjfjdgmpaa.PPg
end
section
namespace Go.Proofs.Yteokjmjfjdgmpaa.PPg
open Go.RowKit Go.Proofs.YteokjmjfjdgmpaaW.PrintWords Go.Proofs.YteokjmjfjdgmpaaW.PrintLast Go.Proofs.YteokjmjfjdgmpaaW.PrintMore
attribute [local go_sem] max2_int min2_int max_two min_two max_three min_three max_four min_four
set_option linter.unusedVariables false
set_option linter.unusedSimpArgs false
def girderref01_More.f (a0 : Int) (a1 : ByteArray) : Option (Int):=if a1.size≤9223372036854775807∧0≤a0∧a0≤4294967295 then some (Go.Gi.sumL a0 a1.data.toList) else none
set_option maxHeartbeats 8000000 in
set_option maxRecDepth 100000 in
theorem girderref01_More.calls (a0 : Int) (a1 : ByteArray) (r : Int) (w : World) (h : girderref01_More.f a0 a1=some r) :
  Calls Try.prog 36 #[.int .u32 a0,.string a1] w fun e w'=>e=.returned (.int .u32 r)∧Drawn0 w w':=by
 unfold girderref01_More.f at h
 split at h
 ·rename_i hc
  obtain ⟨h1,h2,h3⟩:=hc
  obtain rfl:=Option.some.inj h
  exact (rmore_any a0 a1 w (by unfold maxLen;omega) h2 h3).mono fun e w' ⟨x,y⟩=>⟨x,y ▸ Drawn0.refl _⟩
 ·cases h
end Go.Proofs.Yteokjmjfjdgmpaa.PPg
end
section
namespace Go.Proofs.Yteokjmjfjdgmpaa.PPg
open Go.RowKit Go.Proofs.YteokjmjfjdgmpaaW.PrintWords Go.Proofs.YteokjmjfjdgmpaaW.PrintLast Go.Proofs.YteokjmjfjdgmpaaW.PrintMore
attribute [local go_sem] max2_int min2_int max_two min_two max_three min_three max_four min_four
set_option linter.unusedVariables false
set_option linter.unusedSimpArgs false
mutual
def girderref03_Encode.j0 : Nat → Bool → Int → Int → Int → ByteArray → List ByteArray → Option (ByteArray × Int)
 | 0,_,_,_,_,_,_=>none
 | k + 1,x26,x170000,x170001,x170002,x170003,x170004=>if x26=true then (some ((⟨#[]⟩ : ByteArray),1)) else ((girderref03_Room.f k x170000 x170001 x170002 x170003 x170004).bind fun t170=>(if t170 < 0 then (some ((⟨#[]⟩ : ByteArray),30)) else ((girderref01_Put.f x170001 8).bind fun t171=>((girderref01_Put.f (IntKind.u64.wrap (x170000)) 4).bind fun t172=>(if t171.size + t172.size≤9223372036854775807 then ((girderref01_Put.f (IntKind.u64.wrap (x170002)) 1).bind fun t173=>(if (t171 ++ t172).size + t173.size≤9223372036854775807 then ((girderref01_Put.f (IntKind.u64.wrap ((x170003.size : Int))) 1).bind fun t174=>(if ((t171 ++ t172) ++ t173).size + t174.size≤9223372036854775807 then (if (((t171 ++ t172) ++ t173) ++ t174).size + x170003.size≤9223372036854775807 then ((girderref01_Put.f (IntKind.u64.wrap ((x170004.length : Int))) 1).bind fun t175=>(if ((((t171 ++ t172) ++ t173) ++ t174) ++ x170003).size + t175.size≤9223372036854775807 then (girderref03_Encode.l0 k (((((t171 ++ t172) ++ t173) ++ t174) ++ x170003) ++ t175) 0 x170000 x170001 x170002 x170003 x170004) else (none))) else (none)) else (none))) else (none))) else (none))))))
def girderref03_Encode.l0 : Nat → ByteArray → Int → Int → Int → Int → ByteArray → List ByteArray → Option (ByteArray × Int)
 | 0,_,_,_,_,_,_,_=>none
 | k + 1,x4,x5,x170000,x170001,x170002,x170003,x170004=>if x5 < (x170004.length : Int) then (if 0≤x5 then ((girderref01_Put.f (IntKind.u64.wrap (((rdOf ByteArray.empty x170004 x5).size : Int))) 2).bind fun t177=>(if x4.size + t177.size≤9223372036854775807 then (girderref03_Encode.l0 k (x4 ++ t177) (wrap64 (x5 + 1)) x170000 x170001 x170002 x170003 x170004) else (none))) else (none)) else (girderref03_Encode.l1 k x4 0 x170000 x170001 x170002 x170003 x170004)
def girderref03_Encode.l1 : Nat → ByteArray → Int → Int → Int → Int → ByteArray → List ByteArray → Option (ByteArray × Int)
 | 0,_,_,_,_,_,_,_=>none
 | k + 1,x4,x6,x170000,x170001,x170002,x170003,x170004=>if x6 < (x170004.length : Int) then (if 0≤x6 then (if x4.size + (rdOf ByteArray.empty x170004 x6).size≤9223372036854775807 then (girderref03_Encode.l1 k (x4 ++ (rdOf ByteArray.empty x170004 x6)) (wrap64 (x6 + 1)) x170000 x170001 x170002 x170003 x170004) else (none)) else (none)) else (if 0≤(wrap64 (500 - (x4.size : Int))) then (if (wrap64 (500 - (x4.size : Int)) : Int).toNat≤281474976710656 then ((some (List.replicate (wrap64 (500 - (x4.size : Int)) : Int).toNat 0 : List Int)).bind fun y179=>((girderref01_Put.f x170001 8).bind fun t182=>(if (strOfNums y179).size + t182.size≤9223372036854775807 then (if x4.size + ((strOfNums y179) ++ t182).size≤9223372036854775807 then ((girderref01_More.f 0 (x4 ++ ((strOfNums y179) ++ t182))).bind fun t183=>((girderref01_Put.f (IntKind.u64.wrap (t183)) 4).bind fun t184=>(if t184.size + (x4 ++ ((strOfNums y179) ++ t182)).size≤9223372036854775807 then (some (t184 ++ (x4 ++ ((strOfNums y179) ++ t182)),0)) else (none)))) else (none)) else (none)))) else (none)) else (none))
end
def girderref03_Encode.f (k : Nat) (a0_0 : Int) (a0_1 : Int) (a0_2 : Int) (a0_3 : ByteArray) (l0_4 : List ByteArray) : Option (ByteArray × Int):=if a0_2 < 0 then (girderref03_Encode.j0 k true a0_0 a0_1 a0_2 a0_3 l0_4) else (if a0_2 > 255 then (girderref03_Encode.j0 k true a0_0 a0_1 a0_2 a0_3 l0_4) else (if (a0_3.size : Int) > 32 then (girderref03_Encode.j0 k true a0_0 a0_1 a0_2 a0_3 l0_4) else (girderref03_Encode.j0 k (decide ((l0_4.length : Int) > 64)) a0_0 a0_1 a0_2 a0_3 l0_4)))
def girderref03_Encode.T5 : Bool × List (List Nat × List Nat):=(true,[([],[]),([0],[0]),([1],[1]),([],[]),([3],[3]),([4],[4]),([5,2],[5]),([2,6],[2,6]),([],[]),([8],[8]),([9],[9]),([10,6],[10]),([7,11],[7,11]),([],[]),([13],[13]),([14],[14]),([15],[15]),([16,11],[16]),([12,17],[12,17]),([],[]),([19],[19]),([18,20],[18,20]),([],[]),([22],[22]),([23],[23]),([24],[24]),([25,17],[25]),([21,26],[21,26]),([27,26,0,1,2,3,4,5,6,7,8,9,10,11,12,13,14,15,16,17,18,19,20,21,22,23,24,25,26,27],[27])])
def girderref03_Encode.B5 : List Nat:=[0,1,3,0,8,24,63,127,0,256,768,1919,4095,0,8192,24576,57344,126847,262143,0,524288,2097151,0,4194304,12582912,29360128,63172479,134217727,268435455]
theorem girderref03_Encode.tab5 : rtab .any (opsOf Try.f9 5)=girderref03_Encode.T5:=by kernel_rfl
theorem girderref03_Encode.bits5 : waitsOk girderref03_Encode.T5.2 girderref03_Encode.B5=true:=by kernel_rfl
def girderref03_Encode.T14 : Bool × List (List Nat × List Nat):=(true,[([],[]),([],[]),([1],[1]),([2],[2]),([3,3],[3]),([4],[4]),([],[]),([6],[6]),([7],[7]),([5,8],[5,8]),([0,9],[0,9]),([10,8,0,1,2,3,4,5,6,7,8,9,10],[0,1,10])])
def girderref03_Encode.B14 : List Nat:=[0,0,2,6,14,30,0,64,192,510,1023,2047]
theorem girderref03_Encode.tab14 : rtab .any (opsOf Try.f9 14)=girderref03_Encode.T14:=by kernel_rfl
theorem girderref03_Encode.bits14 : waitsOk girderref03_Encode.T14.2 girderref03_Encode.B14=true:=by kernel_rfl
set_option maxHeartbeats 8000000 in
set_option maxRecDepth 100000 in
theorem girderref03_Encode.calls (k : Nat) (a0_0 : Int) (a0_1 : Int) (a0_2 : Int) (a0_3 : ByteArray) (A0_4 : Option Addr) (c0_4 : Nat) (l0_4 : List ByteArray) (r1 : ByteArray) (r2 : Int) (w : World) (hr0_4 : Kd.C Kd.string w A0_4 l0_4.length l0_4) (hc0_4 : l0_4.length≤c0_4) (h : girderref03_Encode.f k a0_0 a0_1 a0_2 a0_3 l0_4=some (r1,r2)) :
  Calls Try.prog 9 #[.agg #[.int .u32 a0_0,.int .u64 a0_1,.int .i64 a0_2,.string a0_3,.slice A0_4 l0_4.length c0_4]] w fun e w'=>e=.returned (.tuple #[.string r1,.int .i64 r2])∧Below w.heap.size w w':=by
 have hu35:=Try.underlying35
 have HR0_4:=Aside0.mk hr0_4
 have HC0_4:=Aside0.mk hc0_4
 clear hr0_4 hc0_4
 have HB:=Aside0.mk (Below.refl w.heap.size w)
 have H : (if a0_2 < 0 then (girderref03_Encode.j0 k true a0_0 a0_1 a0_2 a0_3 l0_4) else (if a0_2 > 255 then (girderref03_Encode.j0 k true a0_0 a0_1 a0_2 a0_3 l0_4) else (if (a0_3.size : Int) > 32 then (girderref03_Encode.j0 k true a0_0 a0_1 a0_2 a0_3 l0_4) else (girderref03_Encode.j0 k (decide ((l0_4.length : Int) > 64)) a0_0 a0_1 a0_2 a0_3 l0_4))))=some (r1,r2):=h
 clear h
 have HC2:=Aside0.mk H
 clear H
 go_enter Try.func9,Try.ntmps9
 go_upto_region 1 with (first|((with_reducible refine gate_dst (N:=1) rfl ?_);(try (refine gate_guard (by rfl) ?_;dsimp only));refine box_event ?hg (N:=1) ?hd (cs:=#[.int .u32 a0_0,.int .u64 a0_1,.int .i64 a0_2,.string a0_3,.slice A0_4 l0_4.length c0_4]) (t:=35) ?hr ?_;(case hd=>rfl);(case hg=>rfl);(case hr=>first|(go_simp;done)|(go_simp;rfl));intro gb169 hg w3 hbox hb;have n0_:=Aside0.mk (below_step (by repeat (first|(with_reducible first|exact HB.out|apply below_alloc|apply pw_below_drewN|apply below_drew1)|exact HB.out)) hb);have n1_:=Aside0.mk (hbox);have n2_:=Aside0.mk ((by rw [hg];exact (below_size (by repeat (first|(with_reducible first|exact HB.out|apply below_alloc|apply pw_below_drewN|apply below_drew1)|exact HB.out))) : w.heap.size≤gb169));have n3_:=Aside0.mk ((by rw [hg];exact (below_size (by repeat (first|(with_reducible first|exact HB.out|apply below_alloc|apply pw_below_drewN|apply below_drew1)|exact HB.out))) : w.heap.size≤gb169));clear HB;have HB:=n0_;have BK169:=n1_;have GW169:=n2_;have GE169:=n3_;clear n0_ n1_ n2_ n3_;clear hb hbox hg))
 (try simp only [Act.put,sA_,sB_,sC_])
 go_cut [26] (fun v26 wc=>∃ (kq : Nat) (x26_1 : Bool),v26=.bool x26_1∧Aside0 (girderref03_Encode.j0 kq x26_1 a0_0 a0_1 a0_2 a0_3 l0_4=some (r1,r2))∧Aside0 (kq≤k)∧Aside0 (wc.heap[gb169]?=some (.cells #[.int .u32 a0_0,.int .u64 a0_1,.int .i64 a0_2,.string a0_3,(.slice A0_4 l0_4.length c0_4)] 35 (0,0)))∧Aside0 (Below w.heap.size w wc))
 case first =>
  have H:=HC2.out
  clear HC2
  by_cases c4 : a0_2 < 0
  ·rw [if_pos c4] at H
   have c4b0 : decide (a0_2 < 0)=true:=decide_eq_true c4
   clear c4
   (first|rw [c4b0]|(simp only [i64_w,i32_w];rw [c4b0])|skip)
   have H':=Aside0.mk H
   clear H
   have hcz5_0 : w3.cell? ⟨gb169,0,none⟩=some (.int .u32 a0_0):=(blk_cell BK169.out 0).trans rfl
   have hcz5_1 : w3.cell? ⟨gb169,1,none⟩=some (.int .u64 a0_1):=(blk_cell BK169.out 1).trans rfl
   have hcz5_2 : w3.cell? ⟨gb169,2,none⟩=some (.int .i64 a0_2):=(blk_cell BK169.out 2).trans rfl
   have hcz5_3 : w3.cell? ⟨gb169,3,none⟩=some (.string a0_3):=(blk_cell BK169.out 3).trans rfl
   have hcz5_4 : w3.cell? ⟨gb169,4,none⟩=some (.slice A0_4 l0_4.length c0_4):=(blk_cell BK169.out 4).trans rfl
   have hfz5_0:=blk_frozen BK169.out 0
   have hfz5_1:=blk_frozen BK169.out 1
   have hfz5_2:=blk_frozen BK169.out 2
   have hfz5_3:=blk_frozen BK169.out 3
   have hfz5_4:=blk_frozen BK169.out 4
   go_wp2
   go_meet
   case rel=>exact ⟨_,(true),(by first|rfl|(simp;done)|(simp [*];done)),H',⟨by first|omega|exact Nat.le_refl _⟩,⟨by (with_reducible repeat (first|refine blk_drewN ?_ _|refine blk_drew ?_|refine blk_alloc ?_ _));exact BK169.out⟩,⟨by repeat (first|(with_reducible first|exact HB.out|apply below_alloc|apply pw_below_drewN|apply below_drew1|refine below_set ?_ GE169.out)|exact HB.out)⟩⟩
  ·rw [if_neg c4] at H
   have c4b0 : decide (a0_2 < 0)=false:=decide_eq_false c4
   clear c4
   (first|rw [c4b0]|(simp only [i64_w,i32_w];rw [c4b0])|skip)
   by_cases c6 : a0_2 > 255
   ·rw [if_pos c6] at H
    have c6b0 : decide (255 < a0_2)=true:=decide_eq_true c6
    clear c6
    have H':=Aside0.mk H
    clear H
    have hcz7_0 : w3.cell? ⟨gb169,0,none⟩=some (.int .u32 a0_0):=(blk_cell BK169.out 0).trans rfl
    have hcz7_1 : w3.cell? ⟨gb169,1,none⟩=some (.int .u64 a0_1):=(blk_cell BK169.out 1).trans rfl
    have hcz7_2 : w3.cell? ⟨gb169,2,none⟩=some (.int .i64 a0_2):=(blk_cell BK169.out 2).trans rfl
    have hcz7_3 : w3.cell? ⟨gb169,3,none⟩=some (.string a0_3):=(blk_cell BK169.out 3).trans rfl
    have hcz7_4 : w3.cell? ⟨gb169,4,none⟩=some (.slice A0_4 l0_4.length c0_4):=(blk_cell BK169.out 4).trans rfl
    have hfz7_0:=blk_frozen BK169.out 0
    have hfz7_1:=blk_frozen BK169.out 1
    have hfz7_2:=blk_frozen BK169.out 2
    have hfz7_3:=blk_frozen BK169.out 3
    have hfz7_4:=blk_frozen BK169.out 4
    go_wp2
    go_meet
    case rel=>exact ⟨_,(true),(by first|rfl|(simp;done)|(simp [*];done)),H',⟨by first|omega|exact Nat.le_refl _⟩,⟨by (with_reducible repeat (first|refine blk_drewN ?_ _|refine blk_drew ?_|refine blk_alloc ?_ _));exact BK169.out⟩,⟨by repeat (first|(with_reducible first|exact HB.out|apply below_alloc|apply pw_below_drewN|apply below_drew1|refine below_set ?_ GE169.out)|exact HB.out)⟩⟩
   ·rw [if_neg c6] at H
    have c6b0 : decide (255 < a0_2)=false:=decide_eq_false c6
    clear c6
    by_cases c8 : (a0_3.size : Int) > 32
    ·rw [if_pos c8] at H
     have c8b0 : decide (32 < (a0_3.size : Int))=true:=decide_eq_true c8
     have c8b1 : decide (32 < a0_3.size)=true:=decide_eq_true (by omega)
     clear c8
     have H':=Aside0.mk H
     clear H
     have hcz9_0 : w3.cell? ⟨gb169,0,none⟩=some (.int .u32 a0_0):=(blk_cell BK169.out 0).trans rfl
     have hcz9_1 : w3.cell? ⟨gb169,1,none⟩=some (.int .u64 a0_1):=(blk_cell BK169.out 1).trans rfl
     have hcz9_2 : w3.cell? ⟨gb169,2,none⟩=some (.int .i64 a0_2):=(blk_cell BK169.out 2).trans rfl
     have hcz9_3 : w3.cell? ⟨gb169,3,none⟩=some (.string a0_3):=(blk_cell BK169.out 3).trans rfl
     have hcz9_4 : w3.cell? ⟨gb169,4,none⟩=some (.slice A0_4 l0_4.length c0_4):=(blk_cell BK169.out 4).trans rfl
     have hfz9_0:=blk_frozen BK169.out 0
     have hfz9_1:=blk_frozen BK169.out 1
     have hfz9_2:=blk_frozen BK169.out 2
     have hfz9_3:=blk_frozen BK169.out 3
     have hfz9_4:=blk_frozen BK169.out 4
     go_wp2
     go_meet
     case rel=>exact ⟨_,(true),(by first|rfl|(simp;done)|(simp [*];done)),H',⟨by first|omega|exact Nat.le_refl _⟩,⟨by (with_reducible repeat (first|refine blk_drewN ?_ _|refine blk_drew ?_|refine blk_alloc ?_ _));exact BK169.out⟩,⟨by repeat (first|(with_reducible first|exact HB.out|apply below_alloc|apply pw_below_drewN|apply below_drew1|refine below_set ?_ GE169.out)|exact HB.out)⟩⟩
    ·rw [if_neg c8] at H
     have c8b0 : decide (32 < (a0_3.size : Int))=false:=decide_eq_false c8
     have c8b1 : decide (32 < a0_3.size)=false:=decide_eq_false (by omega)
     clear c8
     have H':=Aside0.mk H
     clear H
     have hcz10_0 : w3.cell? ⟨gb169,0,none⟩=some (.int .u32 a0_0):=(blk_cell BK169.out 0).trans rfl
     have hcz10_1 : w3.cell? ⟨gb169,1,none⟩=some (.int .u64 a0_1):=(blk_cell BK169.out 1).trans rfl
     have hcz10_2 : w3.cell? ⟨gb169,2,none⟩=some (.int .i64 a0_2):=(blk_cell BK169.out 2).trans rfl
     have hcz10_3 : w3.cell? ⟨gb169,3,none⟩=some (.string a0_3):=(blk_cell BK169.out 3).trans rfl
     have hcz10_4 : w3.cell? ⟨gb169,4,none⟩=some (.slice A0_4 l0_4.length c0_4):=(blk_cell BK169.out 4).trans rfl
     have hfz10_0:=blk_frozen BK169.out 0
     have hfz10_1:=blk_frozen BK169.out 1
     have hfz10_2:=blk_frozen BK169.out 2
     have hfz10_3:=blk_frozen BK169.out 3
     have hfz10_4:=blk_frozen BK169.out 4
     go_wp2
     go_meet
     case rel=>exact ⟨_,(decide ((l0_4.length : Int) > 64)),(by first|rfl|(simp;done)|(simp [*];done)),H',⟨by first|omega|exact Nat.le_refl _⟩,⟨by (with_reducible repeat (first|refine blk_drewN ?_ _|refine blk_drew ?_|refine blk_alloc ?_ _));exact BK169.out⟩,⟨by repeat (first|(with_reducible first|exact HB.out|apply below_alloc|apply pw_below_drewN|apply below_drew1|refine below_set ?_ GE169.out)|exact HB.out)⟩⟩
 case rest =>
  clear HC2
  try clear p2
  try clear c4
  try clear c4b0
  try clear c6
  try clear c6b0
  try clear c8
  try clear c8b0
  try clear c8b1
  try clear c9
  try clear hcz10_0
  try clear hcz10_1
  try clear hcz10_2
  try clear hcz10_3
  try clear hcz10_4
  try clear hcz5_0
  try clear hcz5_1
  try clear hcz5_2
  try clear hcz5_3
  try clear hcz5_4
  try clear hcz7_0
  try clear hcz7_1
  try clear hcz7_2
  try clear hcz7_3
  try clear hcz7_4
  try clear hcz9_0
  try clear hcz9_1
  try clear hcz9_2
  try clear hcz9_3
  try clear hcz9_4
  try clear hfz10_0
  try clear hfz10_1
  try clear hfz10_2
  try clear hfz10_3
  try clear hfz10_4
  try clear hfz5_0
  try clear hfz5_1
  try clear hfz5_2
  try clear hfz5_3
  try clear hfz5_4
  try clear hfz7_0
  try clear hfz7_1
  try clear hfz7_2
  try clear hfz7_3
  try clear hfz7_4
  try clear hfz9_0
  try clear hfz9_1
  try clear hfz9_2
  try clear hfz9_3
  try clear hfz9_4
  obtain ⟨kq,x26_1,rfl,HA,HJ1,BK169,HB⟩:=hcut
  cases kq with
  | zero=>exact absurd HA.out (by simp [girderref03_Encode.j0])
  | succ kj1 =>
   have H:=HA.out
   clear HA
   simp only [girderref03_Encode.j0] at H
   by_cases c11 : x26_1=true
   ·subst c11
    have H1 : (some ((⟨#[]⟩ : ByteArray),1))=some (r1,r2):=by rw [if_pos rfl] at H;exact H
    clear H
    have H:=H1
    clear H1
    simp only [Option.some.injEq,Prod.mk.injEq] at H
    obtain ⟨rfl,rfl⟩:=H
    go_wp2
    go_ret2
    exact ⟨by first|rfl|(simp [errW_none,errW_some] <;> rfl)|(simp [*,errW_none,errW_some] <;> rfl),by repeat (first|(with_reducible first|exact HB.out|apply below_alloc|apply pw_below_drewN|apply below_drew1|refine below_set ?_ GE169.out)|exact HB.out)⟩
   ·replace c11:=Bool.eq_false_iff.mpr c11
    subst c11
    have H1 : ((girderref03_Room.f kj1 a0_0 a0_1 a0_2 a0_3 l0_4).bind fun t170=>(if t170 < 0 then (some ((⟨#[]⟩ : ByteArray),30)) else ((girderref01_Put.f a0_1 8).bind fun t171=>((girderref01_Put.f (IntKind.u64.wrap (a0_0)) 4).bind fun t172=>(if t171.size + t172.size≤9223372036854775807 then ((girderref01_Put.f (IntKind.u64.wrap (a0_2)) 1).bind fun t173=>(if (t171 ++ t172).size + t173.size≤9223372036854775807 then ((girderref01_Put.f (IntKind.u64.wrap ((a0_3.size : Int))) 1).bind fun t174=>(if ((t171 ++ t172) ++ t173).size + t174.size≤9223372036854775807 then (if (((t171 ++ t172) ++ t173) ++ t174).size + a0_3.size≤9223372036854775807 then ((girderref01_Put.f (IntKind.u64.wrap ((l0_4.length : Int))) 1).bind fun t175=>(if ((((t171 ++ t172) ++ t173) ++ t174) ++ a0_3).size + t175.size≤9223372036854775807 then (girderref03_Encode.l0 kj1 (((((t171 ++ t172) ++ t173) ++ t174) ++ a0_3) ++ t175) 0 a0_0 a0_1 a0_2 a0_3 l0_4) else (none))) else (none)) else (none))) else (none))) else (none))))))=some (r1,r2):=by rw [if_neg (show ¬ (false=true) by decide)] at H;exact H
    clear H
    have H:=H1
    clear H1
    replace H:=Option.bind_eq_some_iff.mp H
    obtain ⟨t170,A120,H⟩:=H
    replace H : (if t170 < 0 then (some ((⟨#[]⟩ : ByteArray),30)) else ((girderref01_Put.f a0_1 8).bind fun t171=>((girderref01_Put.f (IntKind.u64.wrap (a0_0)) 4).bind fun t172=>(if t171.size + t172.size≤9223372036854775807 then ((girderref01_Put.f (IntKind.u64.wrap (a0_2)) 1).bind fun t173=>(if (t171 ++ t172).size + t173.size≤9223372036854775807 then ((girderref01_Put.f (IntKind.u64.wrap ((a0_3.size : Int))) 1).bind fun t174=>(if ((t171 ++ t172) ++ t173).size + t174.size≤9223372036854775807 then (if (((t171 ++ t172) ++ t173) ++ t174).size + a0_3.size≤9223372036854775807 then ((girderref01_Put.f (IntKind.u64.wrap ((l0_4.length : Int))) 1).bind fun t175=>(if ((((t171 ++ t172) ++ t173) ++ t174) ++ a0_3).size + t175.size≤9223372036854775807 then (girderref03_Encode.l0 kj1 (((((t171 ++ t172) ++ t173) ++ t174) ++ a0_3) ++ t175) 0 a0_0 a0_1 a0_2 a0_3 l0_4) else (none))) else (none)) else (none))) else (none))) else (none)))))=some (r1,r2):=H
    have A12:=Aside0.mk A120
    clear A120
    by_cases c13 : t170 < 0
    ·rw [if_pos c13] at H
     have c13b0 : decide (t170 < 0)=true:=decide_eq_true c13
     clear c13
     simp only [Option.some.injEq,Prod.mk.injEq] at H
     obtain ⟨rfl,rfl⟩:=H
     have hcz14_0 : wc.cell? ⟨gb169,0,none⟩=some (.int .u32 a0_0):=(blk_cell BK169.out 0).trans rfl
     have hcz14_1 : wc.cell? ⟨gb169,1,none⟩=some (.int .u64 a0_1):=(blk_cell BK169.out 1).trans rfl
     have hcz14_2 : wc.cell? ⟨gb169,2,none⟩=some (.int .i64 a0_2):=(blk_cell BK169.out 2).trans rfl
     have hcz14_3 : wc.cell? ⟨gb169,3,none⟩=some (.string a0_3):=(blk_cell BK169.out 3).trans rfl
     have hcz14_4 : wc.cell? ⟨gb169,4,none⟩=some (.slice A0_4 l0_4.length c0_4):=(blk_cell BK169.out 4).trans rfl
     have hfz14_0:=blk_frozen BK169.out 0
     have hfz14_1:=blk_frozen BK169.out 1
     have hfz14_2:=blk_frozen BK169.out 2
     have hfz14_3:=blk_frozen BK169.out 3
     have hfz14_4:=blk_frozen BK169.out 4
     go_wp2_with (first|((with_reducible refine gate_callee (f:=15) rfl ?_);refine goesL_ (some 28) rfl rfl Try.func15 (by kernel_rfl) rfl #[.agg #[.int .u32 a0_0,.int .u64 a0_1,.int .i64 a0_2,.string a0_3,.slice A0_4 l0_4.length c0_4]] rfl (by (try simp only [List.map_toArray,List.map_cons,List.map_nil]);first|done|rfl|(simp only [List.length_drop,List.length_take];rfl)) ?_;(with_reducible refine (girderref03_Room.calls kj1 a0_0 a0_1 a0_2 a0_3 _ _ l0_4 t170 _ ?side1 ?side2 A12.out).mono ?_);(case side1=>repeat (first|exact (Kd.C_below HR0_4.out HB.out)|(with_reducible refine Kd.C_alloc ?_ _)|(with_reducible refine Kd.C_drewN ?_ _)|(with_reducible refine Kd.C_drew ?_)));(case side2=>exact HC0_4.out);rintro e w15 ⟨rfl,hb⟩;refine ⟨_,rfl,?_⟩;have n0_:=Aside0.mk (blk_below (g:=gb169) (o:=.cells #[.int .u32 a0_0,.int .u64 a0_1,.int .i64 a0_2,.string a0_3,.slice A0_4 l0_4.length c0_4] 35 (0,0)) (by (with_reducible repeat (first|refine blk_drewN ?_ _|refine blk_drew ?_|refine blk_alloc ?_ _));exact BK169.out) hb);have n1_:=Aside0.mk (below_step (by repeat (first|(with_reducible first|exact HB.out|apply below_alloc|apply pw_below_drewN|apply below_drew1|refine below_set ?_ GE169.out)|exact HB.out)) hb);clear BK169;clear HB;have BK169:=n0_;have HB:=n1_;clear n0_ n1_;(try clear hb);(try clear hb2);(try clear hk);(try clear hi)))
     go_ret2
     exact ⟨by first|rfl|(simp [errW_none,errW_some] <;> rfl)|(simp [*,errW_none,errW_some] <;> rfl),by repeat (first|(with_reducible first|exact HB.out|apply below_alloc|apply pw_below_drewN|apply below_drew1|refine below_set ?_ GE169.out)|exact HB.out)⟩
    ·rw [if_neg c13] at H
     have c13b0 : decide (t170 < 0)=false:=decide_eq_false c13
     clear c13
     replace H:=Option.bind_eq_some_iff.mp H
     obtain ⟨t171,A160,H⟩:=H
     replace H : ((girderref01_Put.f (IntKind.u64.wrap (a0_0)) 4).bind fun t172=>(if t171.size + t172.size≤9223372036854775807 then ((girderref01_Put.f (IntKind.u64.wrap (a0_2)) 1).bind fun t173=>(if (t171 ++ t172).size + t173.size≤9223372036854775807 then ((girderref01_Put.f (IntKind.u64.wrap ((a0_3.size : Int))) 1).bind fun t174=>(if ((t171 ++ t172) ++ t173).size + t174.size≤9223372036854775807 then (if (((t171 ++ t172) ++ t173) ++ t174).size + a0_3.size≤9223372036854775807 then ((girderref01_Put.f (IntKind.u64.wrap ((l0_4.length : Int))) 1).bind fun t175=>(if ((((t171 ++ t172) ++ t173) ++ t174) ++ a0_3).size + t175.size≤9223372036854775807 then (girderref03_Encode.l0 kj1 (((((t171 ++ t172) ++ t173) ++ t174) ++ a0_3) ++ t175) 0 a0_0 a0_1 a0_2 a0_3 l0_4) else (none))) else (none)) else (none))) else (none))) else (none)))=some (r1,r2):=H
     have A16:=Aside0.mk A160
     clear A160
     replace H:=Option.bind_eq_some_iff.mp H
     obtain ⟨t172,A170,H⟩:=H
     replace H : (if t171.size + t172.size≤9223372036854775807 then ((girderref01_Put.f (IntKind.u64.wrap (a0_2)) 1).bind fun t173=>(if (t171 ++ t172).size + t173.size≤9223372036854775807 then ((girderref01_Put.f (IntKind.u64.wrap ((a0_3.size : Int))) 1).bind fun t174=>(if ((t171 ++ t172) ++ t173).size + t174.size≤9223372036854775807 then (if (((t171 ++ t172) ++ t173) ++ t174).size + a0_3.size≤9223372036854775807 then ((girderref01_Put.f (IntKind.u64.wrap ((l0_4.length : Int))) 1).bind fun t175=>(if ((((t171 ++ t172) ++ t173) ++ t174) ++ a0_3).size + t175.size≤9223372036854775807 then (girderref03_Encode.l0 kj1 (((((t171 ++ t172) ++ t173) ++ t174) ++ a0_3) ++ t175) 0 a0_0 a0_1 a0_2 a0_3 l0_4) else (none))) else (none)) else (none))) else (none))) else (none))=some (r1,r2):=H
     have A17:=Aside0.mk A170
     clear A170
     by_cases c18 : t171.size + t172.size≤9223372036854775807
     ·rw [if_pos c18] at H
      have c18b0:=eq_true c18
      have c18b1 : decide (t171.size + t172.size≤9223372036854775807)=true:=decide_eq_true c18
      try have c18b2 : (9223372036854775807 < t171.size + t172.size)=False:=eq_false (Nat.not_lt.2 c18)
      replace H:=Option.bind_eq_some_iff.mp H
      obtain ⟨t173,A190,H⟩:=H
      replace H : (if (t171 ++ t172).size + t173.size≤9223372036854775807 then ((girderref01_Put.f (IntKind.u64.wrap ((a0_3.size : Int))) 1).bind fun t174=>(if ((t171 ++ t172) ++ t173).size + t174.size≤9223372036854775807 then (if (((t171 ++ t172) ++ t173) ++ t174).size + a0_3.size≤9223372036854775807 then ((girderref01_Put.f (IntKind.u64.wrap ((l0_4.length : Int))) 1).bind fun t175=>(if ((((t171 ++ t172) ++ t173) ++ t174) ++ a0_3).size + t175.size≤9223372036854775807 then (girderref03_Encode.l0 kj1 (((((t171 ++ t172) ++ t173) ++ t174) ++ a0_3) ++ t175) 0 a0_0 a0_1 a0_2 a0_3 l0_4) else (none))) else (none)) else (none))) else (none))=some (r1,r2):=H
      have A19:=Aside0.mk A190
      clear A190
      by_cases c20 : (t171 ++ t172).size + t173.size≤9223372036854775807
      ·rw [if_pos c20] at H
       have c20b0:=eq_true c20
       have c20b1 : decide ((t171 ++ t172).size + t173.size≤9223372036854775807)=true:=decide_eq_true c20
       try have c20b2 : (9223372036854775807 < (t171 ++ t172).size + t173.size)=False:=eq_false (Nat.not_lt.2 c20)
       try have c20b3:=c20b2
       try simp only [ByteArray.size_append] at c20b3
       replace H:=Option.bind_eq_some_iff.mp H
       obtain ⟨t174,A210,H⟩:=H
       replace H : (if ((t171 ++ t172) ++ t173).size + t174.size≤9223372036854775807 then (if (((t171 ++ t172) ++ t173) ++ t174).size + a0_3.size≤9223372036854775807 then ((girderref01_Put.f (IntKind.u64.wrap ((l0_4.length : Int))) 1).bind fun t175=>(if ((((t171 ++ t172) ++ t173) ++ t174) ++ a0_3).size + t175.size≤9223372036854775807 then (girderref03_Encode.l0 kj1 (((((t171 ++ t172) ++ t173) ++ t174) ++ a0_3) ++ t175) 0 a0_0 a0_1 a0_2 a0_3 l0_4) else (none))) else (none)) else (none))=some (r1,r2):=H
       have A21:=Aside0.mk A210
       clear A210
       by_cases c22 : ((t171 ++ t172) ++ t173).size + t174.size≤9223372036854775807
       ·rw [if_pos c22] at H
        have c22b0:=eq_true c22
        have c22b1 : decide (((t171 ++ t172) ++ t173).size + t174.size≤9223372036854775807)=true:=decide_eq_true c22
        try have c22b2 : (9223372036854775807 < ((t171 ++ t172) ++ t173).size + t174.size)=False:=eq_false (Nat.not_lt.2 c22)
        try have c22b3:=c22b2
        try simp only [ByteArray.size_append] at c22b3
        by_cases c23 : (((t171 ++ t172) ++ t173) ++ t174).size + a0_3.size≤9223372036854775807
        ·rw [if_pos c23] at H
         have c23b0:=eq_true c23
         have c23b1 : decide ((((t171 ++ t172) ++ t173) ++ t174).size + a0_3.size≤9223372036854775807)=true:=decide_eq_true c23
         try have c23b2 : (9223372036854775807 < (((t171 ++ t172) ++ t173) ++ t174).size + a0_3.size)=False:=eq_false (Nat.not_lt.2 c23)
         try have c23b3:=c23b2
         try simp only [ByteArray.size_append] at c23b3
         replace H:=Option.bind_eq_some_iff.mp H
         obtain ⟨t175,A240,H⟩:=H
         replace H : (if ((((t171 ++ t172) ++ t173) ++ t174) ++ a0_3).size + t175.size≤9223372036854775807 then (girderref03_Encode.l0 kj1 (((((t171 ++ t172) ++ t173) ++ t174) ++ a0_3) ++ t175) 0 a0_0 a0_1 a0_2 a0_3 l0_4) else (none))=some (r1,r2):=H
         have A24:=Aside0.mk A240
         clear A240
         by_cases c25 : ((((t171 ++ t172) ++ t173) ++ t174) ++ a0_3).size + t175.size≤9223372036854775807
         ·rw [if_pos c25] at H
          have c25b0:=eq_true c25
          have c25b1 : decide (((((t171 ++ t172) ++ t173) ++ t174) ++ a0_3).size + t175.size≤9223372036854775807)=true:=decide_eq_true c25
          try have c25b2 : (9223372036854775807 < ((((t171 ++ t172) ++ t173) ++ t174) ++ a0_3).size + t175.size)=False:=eq_false (Nat.not_lt.2 c25)
          try have c25b3:=c25b2
          try simp only [ByteArray.size_append] at c25b3
          have H':=Aside0.mk H
          clear H
          have hcz26_0 : wc.cell? ⟨gb169,0,none⟩=some (.int .u32 a0_0):=(blk_cell BK169.out 0).trans rfl
          have hcz26_1 : wc.cell? ⟨gb169,1,none⟩=some (.int .u64 a0_1):=(blk_cell BK169.out 1).trans rfl
          have hcz26_2 : wc.cell? ⟨gb169,2,none⟩=some (.int .i64 a0_2):=(blk_cell BK169.out 2).trans rfl
          have hcz26_3 : wc.cell? ⟨gb169,3,none⟩=some (.string a0_3):=(blk_cell BK169.out 3).trans rfl
          have hcz26_4 : wc.cell? ⟨gb169,4,none⟩=some (.slice A0_4 l0_4.length c0_4):=(blk_cell BK169.out 4).trans rfl
          have hfz26_0:=blk_frozen BK169.out 0
          have hfz26_1:=blk_frozen BK169.out 1
          have hfz26_2:=blk_frozen BK169.out 2
          have hfz26_3:=blk_frozen BK169.out 3
          have hfz26_4:=blk_frozen BK169.out 4
          try go_wp2_with (first|((with_reducible refine gate_callee (f:=15) rfl ?_);refine goesL_ (some 28) rfl rfl Try.func15 (by kernel_rfl) rfl #[.agg #[.int .u32 a0_0,.int .u64 a0_1,.int .i64 a0_2,.string a0_3,.slice A0_4 l0_4.length c0_4]] rfl (by (try simp only [List.map_toArray,List.map_cons,List.map_nil]);first|done|rfl|(simp only [List.length_drop,List.length_take];rfl)) ?_;(with_reducible refine (girderref03_Room.calls kj1 a0_0 a0_1 a0_2 a0_3 _ _ l0_4 t170 _ ?side1 ?side2 A12.out).mono ?_);(case side1=>repeat (first|exact (Kd.C_below HR0_4.out HB.out)|(with_reducible refine Kd.C_alloc ?_ _)|(with_reducible refine Kd.C_drewN ?_ _)|(with_reducible refine Kd.C_drew ?_)));(case side2=>exact HC0_4.out);rintro e w27 ⟨rfl,hb⟩;refine ⟨_,rfl,?_⟩;have n0_:=Aside0.mk (blk_below (g:=gb169) (o:=.cells #[.int .u32 a0_0,.int .u64 a0_1,.int .i64 a0_2,.string a0_3,.slice A0_4 l0_4.length c0_4] 35 (0,0)) (by (with_reducible repeat (first|refine blk_drewN ?_ _|refine blk_drew ?_|refine blk_alloc ?_ _));exact BK169.out) hb);have n1_:=Aside0.mk (below_step (by repeat (first|(with_reducible first|exact HB.out|apply below_alloc|apply pw_below_drewN|apply below_drew1|refine below_set ?_ GE169.out)|exact HB.out)) hb);clear BK169;clear HB;have BK169:=n0_;have HB:=n1_;clear n0_ n1_;(try clear hb);(try clear hb2);(try clear hk);(try clear hi)))
          have n0_:=Aside0.mk (blk_drew BK169.out)
          have n1_:=Aside0.mk (below_drew1 HB.out)
          clear BK169
          clear HB
          have BK169:=n0_
          have HB:=n1_
          clear n0_ n1_
          refine start_ (n:=29) (S:=fun w'=>w'.cell? ⟨gb169,0,none⟩=some (.int .u32 a0_0)∧w'.cell? ⟨gb169,1,none⟩=some (.int .u64 a0_1)∧w'.cell? ⟨gb169,2,none⟩=some (.int .i64 a0_2)∧w'.cell? ⟨gb169,3,none⟩=some (.string a0_3)∧w'.cell? ⟨gb169,4,none⟩=some (.slice A0_4 l0_4.length c0_4)) (ds:=[]) #[false,false,false,false,false,false,false,false,false,false,false,false,false,false,false,false,false,false,false,false,false,false,false,false,false,false,false,false,false] (by kernel_rfl) rfl rfl ⟨(blk_cell BK169.out 0).trans rfl,(blk_cell BK169.out 1).trans rfl,(blk_cell BK169.out 2).trans rfl,(blk_cell BK169.out 3).trans rfl,(blk_cell BK169.out 4).trans rfl⟩ (fun hHeld=>?_);refine with_tabW girderref03_Encode.tab5 girderref03_Encode.bits5 (fun HT_ HW_=>?_)
          generalize w27.drew=w28 at BK169 HB hHeld ⊢
          refine pure_ (i:=0) (N:=some 30) (v:=?_) (a':=?_) #[true,false,false,false,false,false,false,false,false,false,false,false,false,false,false,false,false,false,false,false,false,false,false,false,false,false,false,false,false] rfl rfl (any_of HT_.out (by kernel_rfl)) (fun _ _ _ h=>h) (Or.inl ⟨by rfl,?_⟩) ?_ ?_
          rotate_left
          ·intro w'
           go_simp
           with_reducible rfl
          rotate_left
          ·simp only [Act.put,sA_,sB_,sC_,i64_w,i32_w]
           rfl
          refine pure_ (i:=3) (N:=some 33) (v:=?_) (a':=?_) #[true,false,false,true,false,false,false,false,false,false,false,false,false,false,false,false,false,false,false,false,false,false,false,false,false,false,false,false,false] rfl rfl (any_of HT_.out (by kernel_rfl)) (fun _ _ _ h=>h) (Or.inl ⟨by rfl,?_⟩) ?_ ?_
          rotate_left
          ·intro w'
           go_simp
           with_reducible rfl
          rotate_left
          ·simp only [Act.put,sA_,sB_,sC_,i64_w,i32_w]
           rfl
          refine pure_ (i:=8) (N:=some 38) (v:=?_) (a':=?_) #[true,false,false,true,false,false,false,false,true,false,false,false,false,false,false,false,false,false,false,false,false,false,false,false,false,false,false,false,false] rfl rfl (any_of HT_.out (by kernel_rfl)) (fun _ _ _ h=>h) (Or.inl ⟨by rfl,?_⟩) ?_ ?_
          rotate_left
          ·intro w'
           go_simp
           with_reducible rfl
          rotate_left
          ·simp only [Act.put,sA_,sB_,sC_,i64_w,i32_w]
           rfl
          refine pure_ (i:=13) (N:=some 43) (v:=?_) (a':=?_) #[true,false,false,true,false,false,false,false,true,false,false,false,false,true,false,false,false,false,false,false,false,false,false,false,false,false,false,false,false] rfl rfl (any_of HT_.out (by kernel_rfl)) (fun _ _ _ h=>h) (Or.inl ⟨by rfl,?_⟩) ?_ ?_
          rotate_left
          ·intro w'
           go_simp
           with_reducible rfl
          rotate_left
          ·simp only [Act.put,sA_,sB_,sC_,i64_w,i32_w]
           rfl
          refine pure_ (i:=19) (N:=some 49) (v:=?_) (a':=?_) #[true,false,false,true,false,false,false,false,true,false,false,false,false,true,false,false,false,false,false,true,false,false,false,false,false,false,false,false,false] rfl rfl (any_of HT_.out (by kernel_rfl)) (fun _ _ _ h=>h) (Or.inl ⟨by rfl,?_⟩) ?_ ?_
          rotate_left
          ·intro w'
           go_simp
           with_reducible rfl
          rotate_left
          ·simp only [Act.put,sA_,sB_,sC_,i64_w,i32_w]
           rfl
          refine pure_ (i:=22) (N:=some 52) (v:=?_) (a':=?_) #[true,false,false,true,false,false,false,false,true,false,false,false,false,true,false,false,false,false,false,true,false,false,true,false,false,false,false,false,false] rfl rfl (any_of HT_.out (by kernel_rfl)) (fun _ _ _ h=>h) (Or.inl ⟨by rfl,?_⟩) ?_ ?_
          rotate_left
          ·intro w'
           go_simp
           with_reducible rfl
          rotate_left
          ·simp only [Act.put,sA_,sB_,sC_,i64_w,i32_w]
           rfl
          refine take_ (i:=1) (N:=some 31) (v:=?_) (a':=?_) #[true,true,false,true,false,false,false,false,true,false,false,false,false,true,false,false,false,false,false,true,false,false,true,false,false,false,false,false,false] rfl rfl (take_ofW HT_.out HW_.out (by kernel_rfl)) (fun _ _ _ h=>h) (Or.inl ⟨by rfl,?_⟩) hHeld ?_ ?_
          rotate_left
          ·rintro w' ⟨s0,s1,s2,s3,s4⟩
           go_simp
           with_reducible rfl
          rotate_left
          ·simp only [Act.put,sA_,sB_,sC_,i64_w,i32_w]
           rfl
          refine take_ (i:=4) (N:=some 34) (v:=?_) (a':=?_) #[true,true,false,true,true,false,false,false,true,false,false,false,false,true,false,false,false,false,false,true,false,false,true,false,false,false,false,false,false] rfl rfl (take_ofW HT_.out HW_.out (by kernel_rfl)) (fun _ _ _ h=>h) (Or.inl ⟨by rfl,?_⟩) hHeld ?_ ?_
          rotate_left
          ·rintro w' ⟨s0,s1,s2,s3,s4⟩
           go_simp
           with_reducible rfl
          rotate_left
          ·simp only [Act.put,sA_,sB_,sC_,i64_w,i32_w]
           rfl
          refine pure_ (i:=5) (N:=some 35) (v:=?_) (a':=?_) #[true,true,false,true,true,true,false,false,true,false,false,false,false,true,false,false,false,false,false,true,false,false,true,false,false,false,false,false,false] rfl rfl (any_of HT_.out (by kernel_rfl)) (fun _ _ _ h=>h) (Or.inl ⟨by rfl,?_⟩) ?_ ?_
          rotate_left
          ·intro w'
           go_simp
           with_reducible rfl
          rotate_left
          ·simp only [Act.put,sA_,sB_,sC_,i64_w,i32_w]
           rfl
          refine take_ (i:=9) (N:=some 39) (v:=?_) (a':=?_) #[true,true,false,true,true,true,false,false,true,true,false,false,false,true,false,false,false,false,false,true,false,false,true,false,false,false,false,false,false] rfl rfl (take_ofW HT_.out HW_.out (by kernel_rfl)) (fun _ _ _ h=>h) (Or.inl ⟨by rfl,?_⟩) hHeld ?_ ?_
          rotate_left
          ·rintro w' ⟨s0,s1,s2,s3,s4⟩
           go_simp
           with_reducible rfl
          rotate_left
          ·simp only [Act.put,sA_,sB_,sC_,i64_w,i32_w]
           rfl
          refine pure_ (i:=10) (N:=some 40) (v:=?_) (a':=?_) #[true,true,false,true,true,true,false,false,true,true,true,false,false,true,false,false,false,false,false,true,false,false,true,false,false,false,false,false,false] rfl rfl (any_of HT_.out (by kernel_rfl)) (fun _ _ _ h=>h) (Or.inl ⟨by rfl,?_⟩) ?_ ?_
          rotate_left
          ·intro w'
           go_simp
           with_reducible rfl
          rotate_left
          ·simp only [Act.put,sA_,sB_,sC_,i64_w,i32_w]
           rfl
          refine take_ (i:=14) (N:=some 44) (v:=?_) (a':=?_) #[true,true,false,true,true,true,false,false,true,true,true,false,false,true,true,false,false,false,false,true,false,false,true,false,false,false,false,false,false] rfl rfl (take_ofW HT_.out HW_.out (by kernel_rfl)) (fun _ _ _ h=>h) (Or.inl ⟨by rfl,?_⟩) hHeld ?_ ?_
          rotate_left
          ·rintro w' ⟨s0,s1,s2,s3,s4⟩
           go_simp
           with_reducible rfl
          rotate_left
          ·simp only [Act.put,sA_,sB_,sC_,i64_w,i32_w]
           rfl
          refine pure_ (i:=15) (N:=some 45) (v:=?_) (a':=?_) #[true,true,false,true,true,true,false,false,true,true,true,false,false,true,true,true,false,false,false,true,false,false,true,false,false,false,false,false,false] rfl rfl (any_of HT_.out (by kernel_rfl)) (fun _ _ _ h=>h) (Or.inl ⟨by rfl,?_⟩) ?_ ?_
          rotate_left
          ·intro w'
           go_simp
           with_reducible rfl
          rotate_left
          ·simp only [Act.put,sA_,sB_,sC_,i64_w,i32_w]
           rfl
          refine pure_ (i:=16) (N:=some 46) (v:=?_) (a':=?_) #[true,true,false,true,true,true,false,false,true,true,true,false,false,true,true,true,true,false,false,true,false,false,true,false,false,false,false,false,false] rfl rfl (any_of HT_.out (by kernel_rfl)) (fun _ _ _ h=>h) (Or.inl ⟨by rfl,?_⟩) ?_ ?_
          rotate_left
          ·intro w'
           go_simp
           with_reducible rfl
          rotate_left
          ·simp only [Act.put,sA_,sB_,sC_,i64_w,i32_w]
           rfl
          refine take_ (i:=20) (N:=some 50) (v:=?_) (a':=?_) #[true,true,false,true,true,true,false,false,true,true,true,false,false,true,true,true,true,false,false,true,true,false,true,false,false,false,false,false,false] rfl rfl (take_ofW HT_.out HW_.out (by kernel_rfl)) (fun _ _ _ h=>h) (Or.inl ⟨by rfl,?_⟩) hHeld ?_ ?_
          rotate_left
          ·rintro w' ⟨s0,s1,s2,s3,s4⟩
           go_simp
           with_reducible rfl
          rotate_left
          ·simp only [Act.put,sA_,sB_,sC_,i64_w,i32_w]
           rfl
          refine take_ (i:=23) (N:=some 53) (v:=?_) (a':=?_) #[true,true,false,true,true,true,false,false,true,true,true,false,false,true,true,true,true,false,false,true,true,false,true,true,false,false,false,false,false] rfl rfl (take_ofW HT_.out HW_.out (by kernel_rfl)) (fun _ _ _ h=>h) (Or.inl ⟨by rfl,?_⟩) hHeld ?_ ?_
          rotate_left
          ·rintro w' ⟨s0,s1,s2,s3,s4⟩
           go_simp
           with_reducible rfl
          rotate_left
          ·simp only [Act.put,sA_,sB_,sC_,i64_w,i32_w]
           rfl
          refine pure_ (i:=24) (N:=some 54) (v:=?_) (a':=?_) #[true,true,false,true,true,true,false,false,true,true,true,false,false,true,true,true,true,false,false,true,true,false,true,true,true,false,false,false,false] rfl rfl (any_of HT_.out (by kernel_rfl)) (fun _ _ _ h=>h) (Or.inl ⟨by rfl,?_⟩) ?_ ?_
          rotate_left
          ·intro w'
           go_simp
           with_reducible rfl
          rotate_left
          ·simp only [Act.put,sA_,sB_,sC_,i64_w,i32_w]
           rfl
          refine pure_ (i:=25) (N:=some 55) (v:=?_) (a':=?_) #[true,true,false,true,true,true,false,false,true,true,true,false,false,true,true,true,true,false,false,true,true,false,true,true,true,true,false,false,false] rfl rfl (any_of HT_.out (by kernel_rfl)) (fun _ _ _ h=>h) (Or.inl ⟨by rfl,?_⟩) ?_ ?_
          rotate_left
          ·intro w'
           go_simp
           with_reducible rfl
          rotate_left
          ·simp only [Act.put,sA_,sB_,sC_,i64_w,i32_w]
           rfl
          refine one_ (i:=2) (N:=some 32) #[true,true,true,true,true,true,false,false,true,true,true,false,false,true,true,true,true,false,false,true,true,false,true,true,true,true,false,false,false] rfl rfl (one_of HT_.out (by kernel_rfl)) (by decide) (fun K hK=>?_)
          refine goes_ Try.func35 (by kernel_rfl) rfl #[.int .u64 a0_1,.int .i64 8] (by rfl) rfl rfl (by (try simp only [List.map_toArray,List.map_cons,List.map_nil]);first|done|rfl|(simp only [List.length_drop,List.length_take];rfl)) ?_
          with_reducible refine (girderref01_Put.calls a0_1 8 t171 _ A16.out).mono ?_
          rintro e w29 ⟨rfl,hb⟩
          refine ⟨_,rfl,?_⟩
          have n0_:=Aside0.mk (blk_below (g:=gb169) (o:=.cells #[.int .u32 a0_0,.int .u64 a0_1,.int .i64 a0_2,.string a0_3,.slice A0_4 l0_4.length c0_4] 35 (0,0)) (by (with_reducible repeat (first|refine blk_drewN ?_ _|refine blk_drew ?_|refine blk_alloc ?_ _));exact BK169.out) hb)
          have n1_:=Aside0.mk (below_step (by repeat (first|(with_reducible first|exact HB.out|apply below_alloc|apply pw_below_drewN|apply below_drew1|refine below_set ?_ GE169.out)|exact HB.out)) hb)
          clear BK169
          clear HB
          have BK169:=n0_
          have HB:=n1_
          clear n0_ n1_
          (try clear hb)
          (try clear hb2)
          (try clear hk)
          (try clear hi)
          refine hK.out _ _ ⟨(blk_cell BK169.out 0).trans rfl,(blk_cell BK169.out 1).trans rfl,(blk_cell BK169.out 2).trans rfl,(blk_cell BK169.out 3).trans rfl,(blk_cell BK169.out 4).trans rfl⟩ (fun hHeld=>?_)
          clear hK K
          refine norm_ (a':=?_) ?_ ?_
          rotate_left
          ·show Act.put _ (some 32) _=_
           simp only [Act.put,sA_,sB_,sC_,i64_w,i32_w]
           rfl
          refine one_ (i:=6) (N:=some 36) #[true,true,true,true,true,true,true,false,true,true,true,false,false,true,true,true,true,false,false,true,true,false,true,true,true,true,false,false,false] rfl rfl (one_of HT_.out (by kernel_rfl)) (by decide) (fun K hK=>?_)
          refine goes_ Try.func35 (by kernel_rfl) rfl #[.int .u64 (IntKind.u64.wrap (a0_0)),.int .i64 4] (by rfl) rfl rfl (by (try simp only [List.map_toArray,List.map_cons,List.map_nil]);first|done|rfl|(simp only [List.length_drop,List.length_take];rfl)) ?_
          with_reducible refine (girderref01_Put.calls (IntKind.u64.wrap (a0_0)) 4 t172 _ A17.out).mono ?_
          rintro e w30 ⟨rfl,hb⟩
          refine ⟨_,rfl,?_⟩
          have n0_:=Aside0.mk (blk_below (g:=gb169) (o:=.cells #[.int .u32 a0_0,.int .u64 a0_1,.int .i64 a0_2,.string a0_3,.slice A0_4 l0_4.length c0_4] 35 (0,0)) (by (with_reducible repeat (first|refine blk_drewN ?_ _|refine blk_drew ?_|refine blk_alloc ?_ _));exact BK169.out) hb)
          have n1_:=Aside0.mk (below_step (by repeat (first|(with_reducible first|exact HB.out|apply below_alloc|apply pw_below_drewN|apply below_drew1|refine below_set ?_ GE169.out)|exact HB.out)) hb)
          clear BK169
          clear HB
          have BK169:=n0_
          have HB:=n1_
          clear n0_ n1_
          (try clear hb)
          (try clear hb2)
          (try clear hk)
          (try clear hi)
          refine hK.out _ _ ⟨(blk_cell BK169.out 0).trans rfl,(blk_cell BK169.out 1).trans rfl,(blk_cell BK169.out 2).trans rfl,(blk_cell BK169.out 3).trans rfl,(blk_cell BK169.out 4).trans rfl⟩ (fun hHeld=>?_)
          clear hK K
          refine norm_ (a':=?_) ?_ ?_
          rotate_left
          ·show Act.put _ (some 36) _=_
           simp only [Act.put,sA_,sB_,sC_,i64_w,i32_w]
           rfl
          refine pure_ (i:=7) (N:=some 37) (v:=?_) (a':=?_) #[true,true,true,true,true,true,true,true,true,true,true,false,false,true,true,true,true,false,false,true,true,false,true,true,true,true,false,false,false] rfl rfl (any_of HT_.out (by kernel_rfl)) (fun _ _ _ h=>h) (Or.inl ⟨by rfl,?_⟩) ?_ ?_
          rotate_left
          ·intro w'
           go_simp
           with_reducible rfl
          rotate_left
          ·simp only [Act.put,sA_,sB_,sC_,i64_w,i32_w]
           rfl
          refine one_ (i:=11) (N:=some 41) #[true,true,true,true,true,true,true,true,true,true,true,true,false,true,true,true,true,false,false,true,true,false,true,true,true,true,false,false,false] rfl rfl (one_of HT_.out (by kernel_rfl)) (by decide) (fun K hK=>?_)
          refine goes_ Try.func35 (by kernel_rfl) rfl #[.int .u64 (IntKind.u64.wrap (a0_2)),.int .i64 1] (by rfl) rfl rfl (by (try simp only [List.map_toArray,List.map_cons,List.map_nil]);first|done|rfl|(simp only [List.length_drop,List.length_take];rfl)) ?_
          with_reducible refine (girderref01_Put.calls (IntKind.u64.wrap (a0_2)) 1 t173 _ A19.out).mono ?_
          rintro e w31 ⟨rfl,hb⟩
          refine ⟨_,rfl,?_⟩
          have n0_:=Aside0.mk (blk_below (g:=gb169) (o:=.cells #[.int .u32 a0_0,.int .u64 a0_1,.int .i64 a0_2,.string a0_3,.slice A0_4 l0_4.length c0_4] 35 (0,0)) (by (with_reducible repeat (first|refine blk_drewN ?_ _|refine blk_drew ?_|refine blk_alloc ?_ _));exact BK169.out) hb)
          have n1_:=Aside0.mk (below_step (by repeat (first|(with_reducible first|exact HB.out|apply below_alloc|apply pw_below_drewN|apply below_drew1|refine below_set ?_ GE169.out)|exact HB.out)) hb)
          clear BK169
          clear HB
          have BK169:=n0_
          have HB:=n1_
          clear n0_ n1_
          (try clear hb)
          (try clear hb2)
          (try clear hk)
          (try clear hi)
          refine hK.out _ _ ⟨(blk_cell BK169.out 0).trans rfl,(blk_cell BK169.out 1).trans rfl,(blk_cell BK169.out 2).trans rfl,(blk_cell BK169.out 3).trans rfl,(blk_cell BK169.out 4).trans rfl⟩ (fun hHeld=>?_)
          clear hK K
          refine norm_ (a':=?_) ?_ ?_
          rotate_left
          ·show Act.put _ (some 41) _=_
           simp only [Act.put,sA_,sB_,sC_,i64_w,i32_w]
           rfl
          refine pure_ (i:=12) (N:=some 42) (v:=?_) (a':=?_) #[true,true,true,true,true,true,true,true,true,true,true,true,true,true,true,true,true,false,false,true,true,false,true,true,true,true,false,false,false] rfl rfl (any_of HT_.out (by kernel_rfl)) (fun _ _ _ h=>h) (Or.inl ⟨by rfl,?_⟩) ?_ ?_
          rotate_left
          ·intro w'
           go_simp
           with_reducible rfl
          rotate_left
          ·simp only [Act.put,sA_,sB_,sC_,i64_w,i32_w]
           rfl
          refine one_ (i:=17) (N:=some 47) #[true,true,true,true,true,true,true,true,true,true,true,true,true,true,true,true,true,true,false,true,true,false,true,true,true,true,false,false,false] rfl rfl (one_of HT_.out (by kernel_rfl)) (by decide) (fun K hK=>?_)
          refine goes_ Try.func35 (by kernel_rfl) rfl #[.int .u64 (IntKind.u64.wrap ((a0_3.size : Int))),.int .i64 1] (by rfl) rfl rfl (by (try simp only [List.map_toArray,List.map_cons,List.map_nil]);first|done|rfl|(simp only [List.length_drop,List.length_take];rfl)) ?_
          with_reducible refine (girderref01_Put.calls (IntKind.u64.wrap ((a0_3.size : Int))) 1 t174 _ A21.out).mono ?_
          rintro e w32 ⟨rfl,hb⟩
          refine ⟨_,rfl,?_⟩
          have n0_:=Aside0.mk (blk_below (g:=gb169) (o:=.cells #[.int .u32 a0_0,.int .u64 a0_1,.int .i64 a0_2,.string a0_3,.slice A0_4 l0_4.length c0_4] 35 (0,0)) (by (with_reducible repeat (first|refine blk_drewN ?_ _|refine blk_drew ?_|refine blk_alloc ?_ _));exact BK169.out) hb)
          have n1_:=Aside0.mk (below_step (by repeat (first|(with_reducible first|exact HB.out|apply below_alloc|apply pw_below_drewN|apply below_drew1|refine below_set ?_ GE169.out)|exact HB.out)) hb)
          clear BK169
          clear HB
          have BK169:=n0_
          have HB:=n1_
          clear n0_ n1_
          (try clear hb)
          (try clear hb2)
          (try clear hk)
          (try clear hi)
          refine hK.out _ _ ⟨(blk_cell BK169.out 0).trans rfl,(blk_cell BK169.out 1).trans rfl,(blk_cell BK169.out 2).trans rfl,(blk_cell BK169.out 3).trans rfl,(blk_cell BK169.out 4).trans rfl⟩ (fun hHeld=>?_)
          clear hK K
          refine norm_ (a':=?_) ?_ ?_
          rotate_left
          ·show Act.put _ (some 47) _=_
           simp only [Act.put,sA_,sB_,sC_,i64_w,i32_w]
           rfl
          refine pure_ (i:=18) (N:=some 48) (v:=?_) (a':=?_) #[true,true,true,true,true,true,true,true,true,true,true,true,true,true,true,true,true,true,true,true,true,false,true,true,true,true,false,false,false] rfl rfl (any_of HT_.out (by kernel_rfl)) (fun _ _ _ h=>h) (Or.inl ⟨by rfl,?_⟩) ?_ ?_
          rotate_left
          ·intro w'
           go_simp
           with_reducible rfl
          rotate_left
          ·simp only [Act.put,sA_,sB_,sC_,i64_w,i32_w]
           rfl
          refine pure_ (i:=21) (N:=some 51) (v:=?_) (a':=?_) #[true,true,true,true,true,true,true,true,true,true,true,true,true,true,true,true,true,true,true,true,true,true,true,true,true,true,false,false,false] rfl rfl (any_of HT_.out (by kernel_rfl)) (fun _ _ _ h=>h) (Or.inl ⟨by rfl,?_⟩) ?_ ?_
          rotate_left
          ·intro w'
           go_simp
           with_reducible rfl
          rotate_left
          ·simp only [Act.put,sA_,sB_,sC_,i64_w,i32_w]
           rfl
          refine one_ (i:=26) (N:=some 56) #[true,true,true,true,true,true,true,true,true,true,true,true,true,true,true,true,true,true,true,true,true,true,true,true,true,true,true,false,false] rfl rfl (one_of HT_.out (by kernel_rfl)) (by decide) (fun K hK=>?_)
          refine goes_ Try.func35 (by kernel_rfl) rfl #[.int .u64 (IntKind.u64.wrap ((l0_4.length : Int))),.int .i64 1] (by rfl) rfl rfl (by (try simp only [List.map_toArray,List.map_cons,List.map_nil]);first|done|rfl|(simp only [List.length_drop,List.length_take];rfl)) ?_
          with_reducible refine (girderref01_Put.calls (IntKind.u64.wrap ((l0_4.length : Int))) 1 t175 _ A24.out).mono ?_
          rintro e w33 ⟨rfl,hb⟩
          refine ⟨_,rfl,?_⟩
          have n0_:=Aside0.mk (blk_below (g:=gb169) (o:=.cells #[.int .u32 a0_0,.int .u64 a0_1,.int .i64 a0_2,.string a0_3,.slice A0_4 l0_4.length c0_4] 35 (0,0)) (by (with_reducible repeat (first|refine blk_drewN ?_ _|refine blk_drew ?_|refine blk_alloc ?_ _));exact BK169.out) hb)
          have n1_:=Aside0.mk (below_step (by repeat (first|(with_reducible first|exact HB.out|apply below_alloc|apply pw_below_drewN|apply below_drew1|refine below_set ?_ GE169.out)|exact HB.out)) hb)
          clear BK169
          clear HB
          have BK169:=n0_
          have HB:=n1_
          clear n0_ n1_
          (try clear hb)
          (try clear hb2)
          (try clear hk)
          (try clear hi)
          refine hK.out _ _ ⟨(blk_cell BK169.out 0).trans rfl,(blk_cell BK169.out 1).trans rfl,(blk_cell BK169.out 2).trans rfl,(blk_cell BK169.out 3).trans rfl,(blk_cell BK169.out 4).trans rfl⟩ (fun hHeld=>?_)
          clear hK K
          refine norm_ (a':=?_) ?_ ?_
          rotate_left
          ·show Act.put _ (some 56) _=_
           simp only [Act.put,sA_,sB_,sC_,i64_w,i32_w]
           rfl
          refine pure_ (i:=27) (N:=some 57) (v:=?_) (a':=?_) #[true,true,true,true,true,true,true,true,true,true,true,true,true,true,true,true,true,true,true,true,true,true,true,true,true,true,true,true,false] rfl rfl (any_of HT_.out (by kernel_rfl)) (fun _ _ _ h=>h) (Or.inl ⟨by rfl,?_⟩) ?_ ?_
          rotate_left
          ·intro w'
           go_simp
           with_reducible rfl
          rotate_left
          ·simp only [Act.put,sA_,sB_,sC_,i64_w,i32_w]
           rfl
          refine pure_ (i:=28) (N:=some 4) (v:=?_) (a':=?_) #[true,true,true,true,true,true,true,true,true,true,true,true,true,true,true,true,true,true,true,true,true,true,true,true,true,true,true,true,true] rfl rfl (any_of HT_.out (by kernel_rfl)) (fun _ _ _ h=>h) (Or.inl ⟨by rfl,?_⟩) ?_ ?_
          rotate_left
          ·intro w'
           go_simp
           with_reducible rfl
          rotate_left
          ·simp only [Act.put,sA_,sB_,sC_,i64_w,i32_w]
           rfl
          refine done_ (done_of HT_.out (by kernel_rfl)) ?_
          try go_wp2
          go_loopg [4,5] kj1 (fun kq v4 v5 w'=>∃ (x4_2 : ByteArray) (x5_2 : Int),v4=.string x4_2∧v5=.int .i64 x5_2∧Aside0 (girderref03_Encode.l0 kq x4_2 x5_2 a0_0 a0_1 a0_2 a0_3 l0_4=some (r1,r2))∧Aside0 (kq≤kj1)∧Aside0 (w'.heap[gb169]?=some (.cells #[.int .u32 a0_0,.int .u64 a0_1,.int .i64 a0_2,.string a0_3,(.slice A0_4 l0_4.length c0_4)] 35 (0,0)))∧Aside0 (Below w.heap.size w w'))
          case atStart=>exact ⟨(((((t171 ++ t172) ++ t173) ++ t174) ++ a0_3) ++ t175),(0),(by first|rfl|(simp;done)|(simp [*];done)),(by first|rfl|(simp;done)|(simp [*];done)),H',⟨Nat.le_refl _⟩,⟨by (with_reducible repeat (first|refine blk_drewN ?_ _|refine blk_drew ?_|refine blk_alloc ?_ _));exact BK169.out⟩,⟨by repeat (first|(with_reducible first|exact HB.out|apply below_alloc|apply pw_below_drewN|apply below_drew1|refine below_set ?_ GE169.out)|exact HB.out)⟩⟩
          case round =>
           clear H'
           try clear c1
           try clear c2
           try clear p2
           try clear c3
           try clear c4
           try clear c4b0
           try clear c6
           try clear c6b0
           try clear c8
           try clear c8b0
           try clear c8b1
           try clear c9
           try clear c11
           try clear c13
           try clear c13b0
           try clear c15
           try clear c18
           try clear c18b0
           try clear c18b1
           try clear c18b2
           try clear c20
           try clear c20b0
           try clear c20b1
           try clear c20b2
           try clear c22
           try clear c22b0
           try clear c22b1
           try clear c22b2
           try clear c23
           try clear c23b0
           try clear c23b1
           try clear c23b2
           try clear c25
           try clear c25b0
           try clear c25b1
           try clear c25b2
           try clear hcz10_0
           try clear hcz10_1
           try clear hcz10_2
           try clear hcz10_3
           try clear hcz10_4
           try clear hcz14_0
           try clear hcz14_1
           try clear hcz14_2
           try clear hcz14_3
           try clear hcz14_4
           try clear hcz26_0
           try clear hcz26_1
           try clear hcz26_2
           try clear hcz26_3
           try clear hcz26_4
           try clear hcz5_0
           try clear hcz5_1
           try clear hcz5_2
           try clear hcz5_3
           try clear hcz5_4
           try clear hcz7_0
           try clear hcz7_1
           try clear hcz7_2
           try clear hcz7_3
           try clear hcz7_4
           try clear hcz9_0
           try clear hcz9_1
           try clear hcz9_2
           try clear hcz9_3
           try clear hcz9_4
           try clear hfz10_0
           try clear hfz10_1
           try clear hfz10_2
           try clear hfz10_3
           try clear hfz10_4
           try clear hfz14_0
           try clear hfz14_1
           try clear hfz14_2
           try clear hfz14_3
           try clear hfz14_4
           try clear hfz26_0
           try clear hfz26_1
           try clear hfz26_2
           try clear hfz26_3
           try clear hfz26_4
           try clear hfz5_0
           try clear hfz5_1
           try clear hfz5_2
           try clear hfz5_3
           try clear hfz5_4
           try clear hfz7_0
           try clear hfz7_1
           try clear hfz7_2
           try clear hfz7_3
           try clear hfz7_4
           try clear hfz9_0
           try clear hfz9_1
           try clear hfz9_2
           try clear hfz9_3
           try clear hfz9_4
           try clear p2
           obtain ⟨x4_2,x5_2,rfl,rfl,HA,HK2,BK169,HB⟩:=hrel
           cases gk with
           | zero=>exact absurd HA.out (by simp [girderref03_Encode.l0])
           | succ k2 =>
            have H:=HA.out
            clear HA
            simp only [girderref03_Encode.l0] at H
            by_cases c34 : x5_2 < (l0_4.length : Int)
            ·rw [if_pos c34] at H
             have c34b0 : decide (x5_2 < (l0_4.length : Int))=true:=decide_eq_true c34
             clear c34
             by_cases c35 : 0≤x5_2
             ·rw [if_pos c35] at H
              have c35b0 : decide (0≤x5_2)=true:=decide_eq_true c35
              clear c35
              replace H:=Option.bind_eq_some_iff.mp H
              obtain ⟨t177,A360,H⟩:=H
              replace H : (if x4_2.size + t177.size≤9223372036854775807 then (girderref03_Encode.l0 k2 (x4_2 ++ t177) (wrap64 (x5_2 + 1)) a0_0 a0_1 a0_2 a0_3 l0_4) else (none))=some (r1,r2):=H
              have A36:=Aside0.mk A360
              clear A360
              by_cases c37 : x4_2.size + t177.size≤9223372036854775807
              ·rw [if_pos c37] at H
               have c37b0:=eq_true c37
               have c37b1 : decide (x4_2.size + t177.size≤9223372036854775807)=true:=decide_eq_true c37
               try have c37b2 : (9223372036854775807 < x4_2.size + t177.size)=False:=eq_false (Nat.not_lt.2 c37)
               have H':=Aside0.mk H
               clear H
               have hcz38_0 : wr.cell? ⟨gb169,0,none⟩=some (.int .u32 a0_0):=(blk_cell BK169.out 0).trans rfl
               have hcz38_1 : wr.cell? ⟨gb169,1,none⟩=some (.int .u64 a0_1):=(blk_cell BK169.out 1).trans rfl
               have hcz38_2 : wr.cell? ⟨gb169,2,none⟩=some (.int .i64 a0_2):=(blk_cell BK169.out 2).trans rfl
               have hcz38_3 : wr.cell? ⟨gb169,3,none⟩=some (.string a0_3):=(blk_cell BK169.out 3).trans rfl
               have hcz38_4 : wr.cell? ⟨gb169,4,none⟩=some (.slice A0_4 l0_4.length c0_4):=(blk_cell BK169.out 4).trans rfl
               have hfz38_0:=blk_frozen BK169.out 0
               have hfz38_1:=blk_frozen BK169.out 1
               have hfz38_2:=blk_frozen BK169.out 2
               have hfz38_3:=blk_frozen BK169.out 3
               have hfz38_4:=blk_frozen BK169.out 4
               have p176 : 0≤(x5_2 : Int):=of_decide_eq_true (by first|(with_reducible assumption)|assumption)
               have q176 : x5_2 < (l0_4.length : Int):=of_decide_eq_true (by first|(with_reducible assumption)|assumption)
               obtain ⟨ad176,e176,hx176_0⟩:=Kd.at_string HR0_4.out x5_2 p176 q176
               cases e176
               replace hx176_0:=(HB.out.cell (World.block_lt_of_cell? w _ hx176_0)).trans hx176_0
               replace p176:=eq_true p176
               replace q176:=eq_true q176
               go_wp2_with (first|((with_reducible refine gate_callee (f:=35) rfl ?_);refine goesL_ (some 73) rfl rfl Try.func35 (by kernel_rfl) rfl #[.int .u64 (IntKind.u64.wrap (((rdOf ByteArray.empty l0_4 x5_2).size : Int))),.int .i64 2] rfl (by (try simp only [List.map_toArray,List.map_cons,List.map_nil]);first|done|rfl|(simp only [List.length_drop,List.length_take];rfl)) ?_;(with_reducible refine (girderref01_Put.calls (IntKind.u64.wrap (((rdOf ByteArray.empty l0_4 x5_2).size : Int))) 2 t177 _ A36.out).mono ?_);rintro e w39 ⟨rfl,hb⟩;refine ⟨_,rfl,?_⟩;have n0_:=Aside0.mk (blk_below (g:=gb169) (o:=.cells #[.int .u32 a0_0,.int .u64 a0_1,.int .i64 a0_2,.string a0_3,.slice (some ad176) l0_4.length c0_4] 35 (0,0)) (by (with_reducible repeat (first|refine blk_drewN ?_ _|refine blk_drew ?_|refine blk_alloc ?_ _));exact BK169.out) hb);have n1_:=Aside0.mk (below_step (by repeat (first|(with_reducible first|exact HB.out|apply below_alloc|apply pw_below_drewN|apply below_drew1|refine below_set ?_ GE169.out)|exact HB.out)) hb);clear BK169;clear HB;have BK169:=n0_;have HB:=n1_;clear n0_ n1_;(try clear hb);(try clear hb2);(try clear hk);(try clear hi)))
               go_roundg k2
               case measure=>have:=HJ1.out;have:=HK2.out;omega
               case rel=>exact ⟨(x4_2 ++ t177),(wrap64 (x5_2 + 1)),(by first|rfl|(simp;done)|(simp [*];done)),(by first|rfl|(simp;done)|(simp [*];done)),H',⟨by have:=HJ1.out;have:=HK2.out;omega⟩,⟨by (with_reducible repeat (first|refine blk_drewN ?_ _|refine blk_drew ?_|refine blk_alloc ?_ _));exact BK169.out⟩,⟨by repeat (first|(with_reducible first|exact HB.out|apply below_alloc|apply pw_below_drewN|apply below_drew1|refine below_set ?_ GE169.out)|exact HB.out)⟩⟩
              ·rw [if_neg c37] at H
               exact absurd H (by simp)
             ·rw [if_neg c35] at H
              exact absurd H (by simp)
            ·rw [if_neg c34] at H
             have c34b0 : decide (x5_2 < (l0_4.length : Int))=false:=decide_eq_false c34
             clear c34
             have H':=Aside0.mk H
             clear H
             have hcz40_0 : wr.cell? ⟨gb169,0,none⟩=some (.int .u32 a0_0):=(blk_cell BK169.out 0).trans rfl
             have hcz40_1 : wr.cell? ⟨gb169,1,none⟩=some (.int .u64 a0_1):=(blk_cell BK169.out 1).trans rfl
             have hcz40_2 : wr.cell? ⟨gb169,2,none⟩=some (.int .i64 a0_2):=(blk_cell BK169.out 2).trans rfl
             have hcz40_3 : wr.cell? ⟨gb169,3,none⟩=some (.string a0_3):=(blk_cell BK169.out 3).trans rfl
             have hcz40_4 : wr.cell? ⟨gb169,4,none⟩=some (.slice A0_4 l0_4.length c0_4):=(blk_cell BK169.out 4).trans rfl
             have hfz40_0:=blk_frozen BK169.out 0
             have hfz40_1:=blk_frozen BK169.out 1
             have hfz40_2:=blk_frozen BK169.out 2
             have hfz40_3:=blk_frozen BK169.out 3
             have hfz40_4:=blk_frozen BK169.out 4
             go_wp2
             go_loopg [4,6] k2 (fun kq v4 v6 w'=>∃ (x4_3 : ByteArray) (x6_3 : Int),v4=.string x4_3∧v6=.int .i64 x6_3∧Aside0 (girderref03_Encode.l1 kq x4_3 x6_3 a0_0 a0_1 a0_2 a0_3 l0_4=some (r1,r2))∧Aside0 (kq≤k2)∧Aside0 (w'.heap[gb169]?=some (.cells #[.int .u32 a0_0,.int .u64 a0_1,.int .i64 a0_2,.string a0_3,(.slice A0_4 l0_4.length c0_4)] 35 (0,0)))∧Aside0 (Below w.heap.size w w'))
             case atStart=>exact ⟨(x4_2),(0),(by first|rfl|(simp;done)|(simp [*];done)),(by first|rfl|(simp;done)|(simp [*];done)),H',⟨Nat.le_refl _⟩,⟨by (with_reducible repeat (first|refine blk_drewN ?_ _|refine blk_drew ?_|refine blk_alloc ?_ _));exact BK169.out⟩,⟨by repeat (first|(with_reducible first|exact HB.out|apply below_alloc|apply pw_below_drewN|apply below_drew1|refine below_set ?_ GE169.out)|exact HB.out)⟩⟩
             case round =>
              clear H'
              try clear c1
              try clear p1
              try clear q1
              try clear hx1
              try clear c2
              try clear p2
              try clear c3
              try clear c4
              try clear c4b0
              try clear c6
              try clear c6b0
              try clear p6
              try clear c8
              try clear c8b0
              try clear c8b1
              try clear c9
              try clear c11
              try clear c13
              try clear c13b0
              try clear c15
              try clear p17
              try clear q17
              try clear hx17
              try clear c18
              try clear c18b0
              try clear c18b1
              try clear c18b2
              try clear c20
              try clear c20b0
              try clear c20b1
              try clear c20b2
              try clear c22
              try clear c22b0
              try clear c22b1
              try clear c22b2
              try clear c23
              try clear c23b0
              try clear c23b1
              try clear c23b2
              try clear c25
              try clear c25b0
              try clear c25b1
              try clear c25b2
              try clear c34
              try clear c34b0
              try clear c35
              try clear c35b0
              try clear c37
              try clear c37b0
              try clear c37b1
              try clear c37b2
              try clear hcz10_0
              try clear hcz10_1
              try clear hcz10_2
              try clear hcz10_3
              try clear hcz10_4
              try clear hcz14_0
              try clear hcz14_1
              try clear hcz14_2
              try clear hcz14_3
              try clear hcz14_4
              try clear hcz26_0
              try clear hcz26_1
              try clear hcz26_2
              try clear hcz26_3
              try clear hcz26_4
              try clear hcz38_0
              try clear hcz38_1
              try clear hcz38_2
              try clear hcz38_3
              try clear hcz38_4
              try clear hcz40_0
              try clear hcz40_1
              try clear hcz40_2
              try clear hcz40_3
              try clear hcz40_4
              try clear hcz5_0
              try clear hcz5_1
              try clear hcz5_2
              try clear hcz5_3
              try clear hcz5_4
              try clear hcz7_0
              try clear hcz7_1
              try clear hcz7_2
              try clear hcz7_3
              try clear hcz7_4
              try clear hcz9_0
              try clear hcz9_1
              try clear hcz9_2
              try clear hcz9_3
              try clear hcz9_4
              try clear hfz10_0
              try clear hfz10_1
              try clear hfz10_2
              try clear hfz10_3
              try clear hfz10_4
              try clear hfz14_0
              try clear hfz14_1
              try clear hfz14_2
              try clear hfz14_3
              try clear hfz14_4
              try clear hfz26_0
              try clear hfz26_1
              try clear hfz26_2
              try clear hfz26_3
              try clear hfz26_4
              try clear hfz38_0
              try clear hfz38_1
              try clear hfz38_2
              try clear hfz38_3
              try clear hfz38_4
              try clear hfz40_0
              try clear hfz40_1
              try clear hfz40_2
              try clear hfz40_3
              try clear hfz40_4
              try clear hfz5_0
              try clear hfz5_1
              try clear hfz5_2
              try clear hfz5_3
              try clear hfz5_4
              try clear hfz7_0
              try clear hfz7_1
              try clear hfz7_2
              try clear hfz7_3
              try clear hfz7_4
              try clear hfz9_0
              try clear hfz9_1
              try clear hfz9_2
              try clear hfz9_3
              try clear hfz9_4
              try clear hx176_0
              try clear p176
              try clear p2
              try clear q176
              obtain ⟨x4_3,x6_3,rfl,rfl,HA,HK3,BK169,HB⟩:=hrel
              cases gk with
              | zero=>exact absurd HA.out (by simp [girderref03_Encode.l1])
              | succ k3 =>
               have H:=HA.out
               clear HA
               simp only [girderref03_Encode.l1] at H
               by_cases c41 : x6_3 < (l0_4.length : Int)
               ·rw [if_pos c41] at H
                have c41b0 : decide (x6_3 < (l0_4.length : Int))=true:=decide_eq_true c41
                clear c41
                by_cases c42 : 0≤x6_3
                ·rw [if_pos c42] at H
                 have c42b0 : decide (0≤x6_3)=true:=decide_eq_true c42
                 clear c42
                 by_cases c43 : x4_3.size + (rdOf ByteArray.empty l0_4 x6_3).size≤9223372036854775807
                 ·rw [if_pos c43] at H
                  have c43b0:=eq_true c43
                  have c43b1 : decide (x4_3.size + (rdOf ByteArray.empty l0_4 x6_3).size≤9223372036854775807)=true:=decide_eq_true c43
                  try have c43b2 : (9223372036854775807 < x4_3.size + (rdOf ByteArray.empty l0_4 x6_3).size)=False:=eq_false (Nat.not_lt.2 c43)
                  have H':=Aside0.mk H
                  clear H
                  have hcz44_0 : wr.cell? ⟨gb169,0,none⟩=some (.int .u32 a0_0):=(blk_cell BK169.out 0).trans rfl
                  have hcz44_1 : wr.cell? ⟨gb169,1,none⟩=some (.int .u64 a0_1):=(blk_cell BK169.out 1).trans rfl
                  have hcz44_2 : wr.cell? ⟨gb169,2,none⟩=some (.int .i64 a0_2):=(blk_cell BK169.out 2).trans rfl
                  have hcz44_3 : wr.cell? ⟨gb169,3,none⟩=some (.string a0_3):=(blk_cell BK169.out 3).trans rfl
                  have hcz44_4 : wr.cell? ⟨gb169,4,none⟩=some (.slice A0_4 l0_4.length c0_4):=(blk_cell BK169.out 4).trans rfl
                  have hfz44_0:=blk_frozen BK169.out 0
                  have hfz44_1:=blk_frozen BK169.out 1
                  have hfz44_2:=blk_frozen BK169.out 2
                  have hfz44_3:=blk_frozen BK169.out 3
                  have hfz44_4:=blk_frozen BK169.out 4
                  have p178 : 0≤(x6_3 : Int):=of_decide_eq_true (by first|(with_reducible assumption)|assumption)
                  have q178 : x6_3 < (l0_4.length : Int):=of_decide_eq_true (by first|(with_reducible assumption)|assumption)
                  obtain ⟨ad178,e178,hx178_0⟩:=Kd.at_string HR0_4.out x6_3 p178 q178
                  cases e178
                  replace hx178_0:=(HB.out.cell (World.block_lt_of_cell? w _ hx178_0)).trans hx178_0
                  replace p178:=eq_true p178
                  replace q178:=eq_true q178
                  go_wp2
                  go_roundg k3
                  case measure=>have:=HJ1.out;have:=HK2.out;have:=HK3.out;omega
                  case rel=>exact ⟨(x4_3 ++ (rdOf ByteArray.empty l0_4 x6_3)),(wrap64 (x6_3 + 1)),(by first|rfl|(simp;done)|(simp [*];done)),(by first|rfl|(simp;done)|(simp [*];done)),H',⟨by have:=HJ1.out;have:=HK2.out;have:=HK3.out;omega⟩,⟨by (with_reducible repeat (first|refine blk_drewN ?_ _|refine blk_drew ?_|refine blk_alloc ?_ _));exact BK169.out⟩,⟨by repeat (first|(with_reducible first|exact HB.out|apply below_alloc|apply pw_below_drewN|apply below_drew1|refine below_set ?_ GE169.out)|exact HB.out)⟩⟩
                 ·rw [if_neg c43] at H
                  exact absurd H (by simp)
                ·rw [if_neg c42] at H
                 exact absurd H (by simp)
               ·rw [if_neg c41] at H
                have c41b0 : decide (x6_3 < (l0_4.length : Int))=false:=decide_eq_false c41
                clear c41
                obtain ⟨ji45,hji45⟩ : ∃ j_ : Int,(wrap64 (500 - (x4_3.size : Int)))=j_:=⟨_,rfl⟩
                replace H : (if 0≤(ji45) then (if (ji45 : Int).toNat≤281474976710656 then ((some (List.replicate (ji45 : Int).toNat 0 : List Int)).bind fun y179=>((girderref01_Put.f a0_1 8).bind fun t182=>(if (strOfNums y179).size + t182.size≤9223372036854775807 then (if x4_3.size + ((strOfNums y179) ++ t182).size≤9223372036854775807 then ((girderref01_More.f 0 (x4_3 ++ ((strOfNums y179) ++ t182))).bind fun t183=>((girderref01_Put.f (IntKind.u64.wrap (t183)) 4).bind fun t184=>(if t184.size + (x4_3 ++ ((strOfNums y179) ++ t182)).size≤9223372036854775807 then (some (t184 ++ (x4_3 ++ ((strOfNums y179) ++ t182)),0)) else (none)))) else (none)) else (none)))) else (none)) else (none))=some (r1,r2):=by first|(rw [hji45] at H;exact H)|(simp only [hji45] at H ⊢;exact H)
                have hji45w : (IntKind.i64.wrap (500 - (x4_3.size : Int)))=ji45:=(i64_w _).trans hji45
                by_cases c46 : 0≤(ji45)
                ·rw [if_pos c46] at H
                 have c46b0:=eq_true c46
                 have c46b1 : decide (0≤(ji45))=true:=decide_eq_true c46
                 clear c46
                 by_cases c47 : (ji45 : Int).toNat≤281474976710656
                 ·rw [if_pos c47] at H
                  have c47b0:=eq_true c47
                  have c47b1 : decide ((ji45 : Int).toNat≤281474976710656)=true:=decide_eq_true c47
                  clear c47
                  obtain ⟨y179,hy179⟩ : ∃ y_ : List Int,y_=(List.replicate (ji45 : Int).toNat 0):=⟨_,rfl⟩
                  replace H : ((girderref01_Put.f a0_1 8).bind fun t182=>(if (strOfNums y179).size + t182.size≤9223372036854775807 then (if x4_3.size + ((strOfNums y179) ++ t182).size≤9223372036854775807 then ((girderref01_More.f 0 (x4_3 ++ ((strOfNums y179) ++ t182))).bind fun t183=>((girderref01_Put.f (IntKind.u64.wrap (t183)) 4).bind fun t184=>(if t184.size + (x4_3 ++ ((strOfNums y179) ++ t182)).size≤9223372036854775807 then (some (t184 ++ (x4_3 ++ ((strOfNums y179) ++ t182)),0)) else (none)))) else (none)) else (none)))=some (r1,r2):=by first|(rw [hy179];with_reducible exact H)|(have H2_:=(Option.bind_some _ _).symm.trans H;rw [hy179];with_reducible exact H2_)|(have H2_:=(Option.bind_some _ _).symm.trans H;with_reducible exact H2_)|with_reducible exact H|(rw [hy179];exact H)|exact H
                  have Ny179:=Aside0.mk hy179
                  clear hy179
                  replace H:=Option.bind_eq_some_iff.mp H
                  obtain ⟨t182,A480,H⟩:=H
                  replace H : (if (strOfNums y179).size + t182.size≤9223372036854775807 then (if x4_3.size + ((strOfNums y179) ++ t182).size≤9223372036854775807 then ((girderref01_More.f 0 (x4_3 ++ ((strOfNums y179) ++ t182))).bind fun t183=>((girderref01_Put.f (IntKind.u64.wrap (t183)) 4).bind fun t184=>(if t184.size + (x4_3 ++ ((strOfNums y179) ++ t182)).size≤9223372036854775807 then (some (t184 ++ (x4_3 ++ ((strOfNums y179) ++ t182)),0)) else (none)))) else (none)) else (none))=some (r1,r2):=H
                  have A48:=Aside0.mk A480
                  clear A480
                  by_cases c49 : (strOfNums y179).size + t182.size≤9223372036854775807
                  ·rw [if_pos c49] at H
                   have c49b0:=eq_true c49
                   have c49b1 : decide ((strOfNums y179).size + t182.size≤9223372036854775807)=true:=decide_eq_true c49
                   try have c49b2 : (9223372036854775807 < (strOfNums y179).size + t182.size)=False:=eq_false (Nat.not_lt.2 c49)
                   by_cases c50 : x4_3.size + ((strOfNums y179) ++ t182).size≤9223372036854775807
                   ·rw [if_pos c50] at H
                    have c50b0:=eq_true c50
                    have c50b1 : decide (x4_3.size + ((strOfNums y179) ++ t182).size≤9223372036854775807)=true:=decide_eq_true c50
                    try have c50b2 : (9223372036854775807 < x4_3.size + ((strOfNums y179) ++ t182).size)=False:=eq_false (Nat.not_lt.2 c50)
                    try have c50b3:=c50b2
                    try simp only [ByteArray.size_append] at c50b3
                    replace H:=Option.bind_eq_some_iff.mp H
                    obtain ⟨t183,A510,H⟩:=H
                    replace H : ((girderref01_Put.f (IntKind.u64.wrap (t183)) 4).bind fun t184=>(if t184.size + (x4_3 ++ ((strOfNums y179) ++ t182)).size≤9223372036854775807 then (some (t184 ++ (x4_3 ++ ((strOfNums y179) ++ t182)),0)) else (none)))=some (r1,r2):=H
                    have A51:=Aside0.mk A510
                    clear A510
                    replace H:=Option.bind_eq_some_iff.mp H
                    obtain ⟨t184,A520,H⟩:=H
                    replace H : (if t184.size + (x4_3 ++ ((strOfNums y179) ++ t182)).size≤9223372036854775807 then (some (t184 ++ (x4_3 ++ ((strOfNums y179) ++ t182)),0)) else (none))=some (r1,r2):=H
                    have A52:=Aside0.mk A520
                    clear A520
                    by_cases c53 : t184.size + (x4_3 ++ ((strOfNums y179) ++ t182)).size≤9223372036854775807
                    ·rw [if_pos c53] at H
                     have c53b0:=eq_true c53
                     have c53b1 : decide (t184.size + (x4_3 ++ ((strOfNums y179) ++ t182)).size≤9223372036854775807)=true:=decide_eq_true c53
                     try have c53b2 : (9223372036854775807 < t184.size + (x4_3 ++ ((strOfNums y179) ++ t182)).size)=False:=eq_false (Nat.not_lt.2 c53)
                     try have c53b3:=c53b2
                     try simp only [ByteArray.size_append] at c53b3
                     simp only [Option.some.injEq,Prod.mk.injEq] at H
                     obtain ⟨rfl,rfl⟩:=H
                     have hcz54_0 : wr.cell? ⟨gb169,0,none⟩=some (.int .u32 a0_0):=(blk_cell BK169.out 0).trans rfl
                     have hcz54_1 : wr.cell? ⟨gb169,1,none⟩=some (.int .u64 a0_1):=(blk_cell BK169.out 1).trans rfl
                     have hcz54_2 : wr.cell? ⟨gb169,2,none⟩=some (.int .i64 a0_2):=(blk_cell BK169.out 2).trans rfl
                     have hcz54_3 : wr.cell? ⟨gb169,3,none⟩=some (.string a0_3):=(blk_cell BK169.out 3).trans rfl
                     have hcz54_4 : wr.cell? ⟨gb169,4,none⟩=some (.slice A0_4 l0_4.length c0_4):=(blk_cell BK169.out 4).trans rfl
                     have hfz54_0:=blk_frozen BK169.out 0
                     have hfz54_1:=blk_frozen BK169.out 1
                     have hfz54_2:=blk_frozen BK169.out 2
                     have hfz54_3:=blk_frozen BK169.out 3
                     have hfz54_4:=blk_frozen BK169.out 4
                     try go_wp2
                     have n0_:=Aside0.mk (blk_drew BK169.out)
                     have n1_:=Aside0.mk (below_drew1 HB.out)
                     clear BK169
                     clear HB
                     have BK169:=n0_
                     have HB:=n1_
                     clear n0_ n1_
                     refine start_ (n:=12) (S:=fun w'=>w'.cell? ⟨gb169,0,none⟩=some (.int .u32 a0_0)∧w'.cell? ⟨gb169,1,none⟩=some (.int .u64 a0_1)∧w'.cell? ⟨gb169,2,none⟩=some (.int .i64 a0_2)∧w'.cell? ⟨gb169,3,none⟩=some (.string a0_3)∧w'.cell? ⟨gb169,4,none⟩=some (.slice A0_4 l0_4.length c0_4)) (ds:=[]) #[false,false,false,false,false,false,false,false,false,false,false,false] (by kernel_rfl) rfl rfl ⟨(blk_cell BK169.out 0).trans rfl,(blk_cell BK169.out 1).trans rfl,(blk_cell BK169.out 2).trans rfl,(blk_cell BK169.out 3).trans rfl,(blk_cell BK169.out 4).trans rfl⟩ (fun hHeld=>?_);refine with_tabW girderref03_Encode.tab14 girderref03_Encode.bits14 (fun HT_ HW_=>?_)
                     generalize wr.drew=w55 at BK169 HB hHeld ⊢
                     refine pure_ (i:=0) (N:=some 89) (v:=?_) (a':=?_) #[true,false,false,false,false,false,false,false,false,false,false,false] rfl rfl (any_of HT_.out (by kernel_rfl)) (fun _ _ _ h=>h) (Or.inl ⟨by rfl,?_⟩) ?_ ?_
                     rotate_left
                     ·intro w'
                      go_simp
                      with_reducible rfl
                     rotate_left
                     ·simp only [Act.put,sA_,sB_,sC_,i64_w,i32_w]
                      rfl
                     refine pure_ (i:=1) (N:=some 90) (v:=?_) (a':=?_) #[true,true,false,false,false,false,false,false,false,false,false,false] rfl rfl (any_of HT_.out (by kernel_rfl)) (fun _ _ _ h=>h) (Or.inl ⟨by rfl,?_⟩) ?_ ?_
                     rotate_left
                     ·intro w'
                      go_simp
                      with_reducible rfl
                     rotate_left
                     ·simp only [Act.put,sA_,sB_,sC_,i64_w,i32_w]
                      rfl
                     refine pure_ (i:=2) (N:=some 91) (v:=?_) (a':=?_) #[true,true,true,false,false,false,false,false,false,false,false,false] rfl rfl (any_of HT_.out (by kernel_rfl)) (fun _ _ _ h=>h) (Or.inl ⟨by rfl,?_⟩) ?_ ?_
                     rotate_left
                     ·intro w'
                      go_simp
                      with_reducible rfl
                     rotate_left
                     ·simp only [Act.put,sA_,sB_,sC_,i64_w,i32_w]
                      rfl
                     refine pure_ (i:=3) (N:=some 92) (v:=?_) (a':=?_) #[true,true,true,true,false,false,false,false,false,false,false,false] rfl rfl (any_of HT_.out (by kernel_rfl)) (fun _ _ _ h=>h) (Or.inl ⟨by rfl,?_⟩) ?_ ?_
                     rotate_left
                     ·intro w'
                      go_simp
                      with_reducible rfl
                     rotate_left
                     ·simp only [Act.put,sA_,sB_,sC_,i64_w,i32_w]
                      rfl
                     refine pure_ (i:=6) (N:=some 95) (v:=?_) (a':=?_) #[true,true,true,true,false,false,true,false,false,false,false,false] rfl rfl (any_of HT_.out (by kernel_rfl)) (fun _ _ _ h=>h) (Or.inl ⟨by rfl,?_⟩) ?_ ?_
                     rotate_left
                     ·intro w'
                      go_simp
                      with_reducible rfl
                     rotate_left
                     ·simp only [Act.put,sA_,sB_,sC_,i64_w,i32_w]
                      rfl
                     refine take_ (i:=7) (N:=some 96) (v:=?_) (a':=?_) #[true,true,true,true,false,false,true,true,false,false,false,false] rfl rfl (take_ofW HT_.out HW_.out (by kernel_rfl)) (fun _ _ _ h=>h) (Or.inl ⟨by rfl,?_⟩) hHeld ?_ ?_
                     rotate_left
                     ·rintro w' ⟨s0,s1,s2,s3,s4⟩
                      go_simp
                      with_reducible rfl
                     rotate_left
                     ·simp only [Act.put,sA_,sB_,sC_,i64_w,i32_w]
                      rfl
                     refine join_ (σ:=Value) 3 #[true,true,true,true,true,true,true,true,true,false,false,false] (fun s_=>[(93,s_),(94,.string (strOfNums y179)),(97,.string t182)]) (fun s_ w'=>(w'.cell? ⟨gb169,0,none⟩=some (.int .u32 a0_0)∧w'.cell? ⟨gb169,1,none⟩=some (.int .u64 a0_1)∧w'.cell? ⟨gb169,2,none⟩=some (.int .i64 a0_2)∧w'.cell? ⟨gb169,3,none⟩=some (.string a0_3)∧w'.cell? ⟨gb169,4,none⟩=some (.slice A0_4 l0_4.length c0_4))∧(Kd.R (Kd.int .u8) 5 w' w.heap.size (fun _=>True) s_ y179)∧(w'.heap[gb169]?=some (.cells #[.int .u32 a0_0,.int .u64 a0_1,.int .i64 a0_2,.string a0_3,.slice A0_4 l0_4.length c0_4] 35 (0,0)))∧(Below w.heap.size w w')) ?_ ?_
                     rotate_left
                     ·intro hCont
                      refine two_ (i:=4) (j:=8) (Ni:=some 93) (Nj:=some 97) #[true,true,true,true,true,false,true,true,false,false,false,false] #[true,true,true,true,false,false,true,true,true,false,false,false] rfl rfl rfl rfl (two_of HT_.out (by kernel_rfl)) (by decide) (by decide) (fun K hK=>?_) (fun K hK=>?_)
                      ·skip
                       refine Kd.R_make_step (Kd.int .u8) _ 5 (by rfl) (N:=93) rfl 55 _ _ rfl ji45 rfl rfl Try.underlying55 (.int .u8 0) 1 info5 rfl (by decide) (by omega) 0 (ok:=fun _=>True) (okp:=fun _=>True) rfl (fun _ hk=>hk) trivial (of_decide_eq_true (by first|(with_reducible assumption)|assumption)) (Nat.le_trans (Nat.mul_le_mul_right _ (of_decide_eq_true (by first|(with_reducible assumption)|assumption) : ji45.toNat≤281474976710656)) (by omega)) (Below.refl _ _) (Nat.le_refl _) ?_
                       intro v180 w56 ho57 hb hg_ hnew_
                       clear hg_ hnew_
                       (first|rw [← Ny179.out] at ho57|(simp only [Int.reduceToNat] at ho57;rw [← Ny179.out] at ho57))
                       have n0_:=Aside0.mk (Kd.R_lower ho57 (below_size (by repeat (first|(with_reducible first|exact HB.out|apply below_alloc|apply pw_below_drewN|apply below_drew1|refine below_set ?_ GE169.out)|exact HB.out))))
                       have n1_:=Aside0.mk (blk_below (g:=gb169) (o:=.cells #[.int .u32 a0_0,.int .u64 a0_1,.int .i64 a0_2,.string a0_3,.slice A0_4 l0_4.length c0_4] 35 (0,0)) (by (with_reducible repeat (first|refine blk_drewN ?_ _|refine blk_drew ?_|refine blk_alloc ?_ _));exact BK169.out) hb)
                       have n2_:=Aside0.mk (below_step (by repeat (first|(with_reducible first|exact HB.out|apply below_alloc|apply pw_below_drewN|apply below_drew1|refine below_set ?_ GE169.out)|exact HB.out)) hb)
                       clear BK169
                       clear HB
                       have HO181:=n0_
                       have BK169:=n1_
                       have HB:=n2_
                       clear n0_ n1_ n2_
                       clear hb ho57
                       refine hK.out _ _ ⟨(blk_cell BK169.out 0).trans rfl,(blk_cell BK169.out 1).trans rfl,(blk_cell BK169.out 2).trans rfl,(blk_cell BK169.out 3).trans rfl,(blk_cell BK169.out 4).trans rfl⟩ (fun hHeld=>?_)
                       clear hK K
                       refine norm_ (a':=?_) ?_ ?_
                       rotate_left
                       ·show Act.put _ (some 93) _=_
                        simp only [Act.put,sA_,sB_,sC_,i64_w,i32_w]
                        rfl
                       refine two_ (i:=5) (j:=8) (Ni:=some 94) (Nj:=some 97) #[true,true,true,true,true,true,true,true,false,false,false,false] #[true,true,true,true,true,false,true,true,true,false,false,false] rfl rfl rfl rfl (two_of HT_.out (by kernel_rfl)) (by decide) (by decide) (fun K hK=>?_) (fun K hK=>?_)
                       ·skip
                        have hcv58:=own_string (P:=Try.prog) Try.underlying55 Try.underlying5 Try.underlying9 (Kd.own_of_R HO181.out)
                        refine value_ (w1:=?_) (v:=?_) (by rfl) rfl ?_ ?_
                        rotate_left 2
                        ·go_simp
                         constructor
                         ·rfl
                         ·rfl
                        clear hcv58
                        refine hK.out _ _ ⟨(blk_cell BK169.out 0).trans rfl,(blk_cell BK169.out 1).trans rfl,(blk_cell BK169.out 2).trans rfl,(blk_cell BK169.out 3).trans rfl,(blk_cell BK169.out 4).trans rfl⟩ (fun hHeld=>?_)
                        clear hK K
                        refine norm_ (a':=?_) ?_ ?_
                        rotate_left
                        ·show Act.put _ (some 94) _=_
                         simp only [Act.put,sA_,sB_,sC_,i64_w,i32_w]
                         rfl
                        refine one_ (i:=8) (N:=some 97) #[true,true,true,true,true,true,true,true,true,false,false,false] rfl rfl (one_of HT_.out (by kernel_rfl)) (by decide) (fun K hK=>?_)
                        refine goes_ Try.func35 (by kernel_rfl) rfl #[.int .u64 a0_1,.int .i64 8] (by rfl) rfl rfl (by (try simp only [List.map_toArray,List.map_cons,List.map_nil]);first|done|rfl|(simp only [List.length_drop,List.length_take];rfl)) ?_
                        with_reducible refine (girderref01_Put.calls a0_1 8 t182 _ A48.out).mono ?_
                        rintro e w59 ⟨rfl,hb⟩
                        refine ⟨_,rfl,?_⟩
                        have n0_:=Aside0.mk (Kd.R_below (by (with_reducible repeat (first|apply Kd.R_alloc|apply Kd.R_drewN|apply Kd.R_drew));exact HO181.out) hb)
                        have n1_:=Aside0.mk (blk_below (g:=gb169) (o:=.cells #[.int .u32 a0_0,.int .u64 a0_1,.int .i64 a0_2,.string a0_3,.slice A0_4 l0_4.length c0_4] 35 (0,0)) (by (with_reducible repeat (first|refine blk_drewN ?_ _|refine blk_drew ?_|refine blk_alloc ?_ _));exact BK169.out) hb)
                        have n2_:=Aside0.mk (below_step (by repeat (first|(with_reducible first|exact HB.out|apply below_alloc|apply pw_below_drewN|apply below_drew1|refine below_set ?_ GE169.out)|exact HB.out)) hb)
                        clear HO181
                        clear BK169
                        clear HB
                        have HO181:=n0_
                        have BK169:=n1_
                        have HB:=n2_
                        clear n0_ n1_ n2_
                        (try clear hb)
                        (try clear hb2)
                        (try clear hk)
                        (try clear hi)
                        refine hK.out _ _ ⟨(blk_cell BK169.out 0).trans rfl,(blk_cell BK169.out 1).trans rfl,(blk_cell BK169.out 2).trans rfl,(blk_cell BK169.out 3).trans rfl,(blk_cell BK169.out 4).trans rfl⟩ (fun hHeld=>?_)
                        clear hK K
                        refine norm_ (a':=?_) ?_ ?_
                        rotate_left
                        ·show Act.put _ (some 97) _=_
                         simp only [Act.put,sA_,sB_,sC_,i64_w,i32_w]
                         rfl
                        exact norm_ (by simp only [putAll,Act.put,sA_,sB_,sC_]) (hCont (v180) _ ⟨hHeld,(by (with_reducible repeat (first|apply Kd.R_alloc|apply Kd.R_drewN|apply Kd.R_drew));exact HO181.out),(by (with_reducible repeat (first|refine blk_drewN ?_ _|refine blk_drew ?_|refine blk_alloc ?_ _));exact BK169.out),(by repeat (first|(with_reducible first|exact HB.out|apply below_alloc|apply pw_below_drewN|apply below_drew1|refine below_set ?_ GE169.out)|exact HB.out))⟩)
                       ·skip
                        refine goes_ Try.func35 (by kernel_rfl) rfl #[.int .u64 a0_1,.int .i64 8] (by rfl) rfl rfl (by (try simp only [List.map_toArray,List.map_cons,List.map_nil]);first|done|rfl|(simp only [List.length_drop,List.length_take];rfl)) ?_
                        with_reducible refine (girderref01_Put.calls a0_1 8 t182 _ A48.out).mono ?_
                        rintro e w58 ⟨rfl,hb⟩
                        refine ⟨_,rfl,?_⟩
                        have n0_:=Aside0.mk (Kd.R_below (by (with_reducible repeat (first|apply Kd.R_alloc|apply Kd.R_drewN|apply Kd.R_drew));exact HO181.out) hb)
                        have n1_:=Aside0.mk (blk_below (g:=gb169) (o:=.cells #[.int .u32 a0_0,.int .u64 a0_1,.int .i64 a0_2,.string a0_3,.slice A0_4 l0_4.length c0_4] 35 (0,0)) (by (with_reducible repeat (first|refine blk_drewN ?_ _|refine blk_drew ?_|refine blk_alloc ?_ _));exact BK169.out) hb)
                        have n2_:=Aside0.mk (below_step (by repeat (first|(with_reducible first|exact HB.out|apply below_alloc|apply pw_below_drewN|apply below_drew1|refine below_set ?_ GE169.out)|exact HB.out)) hb)
                        clear HO181
                        clear BK169
                        clear HB
                        have HO181:=n0_
                        have BK169:=n1_
                        have HB:=n2_
                        clear n0_ n1_ n2_
                        (try clear hb)
                        (try clear hb2)
                        (try clear hk)
                        (try clear hi)
                        refine hK.out _ _ ⟨(blk_cell BK169.out 0).trans rfl,(blk_cell BK169.out 1).trans rfl,(blk_cell BK169.out 2).trans rfl,(blk_cell BK169.out 3).trans rfl,(blk_cell BK169.out 4).trans rfl⟩ (fun hHeld=>?_)
                        clear hK K
                        refine norm_ (a':=?_) ?_ ?_
                        rotate_left
                        ·show Act.put _ (some 97) _=_
                         simp only [Act.put,sA_,sB_,sC_,i64_w,i32_w]
                         rfl
                        refine one_ (i:=5) (N:=some 94) #[true,true,true,true,true,true,true,true,true,false,false,false] rfl rfl (one_of HT_.out (by kernel_rfl)) (by decide) (fun K hK=>?_)
                        have hcv59:=own_string (P:=Try.prog) Try.underlying55 Try.underlying5 Try.underlying9 (Kd.own_of_R HO181.out)
                        refine value_ (w1:=?_) (v:=?_) (by rfl) rfl ?_ ?_
                        rotate_left 2
                        ·go_simp
                         constructor
                         ·rfl
                         ·rfl
                        clear hcv59
                        refine hK.out _ _ ⟨(blk_cell BK169.out 0).trans rfl,(blk_cell BK169.out 1).trans rfl,(blk_cell BK169.out 2).trans rfl,(blk_cell BK169.out 3).trans rfl,(blk_cell BK169.out 4).trans rfl⟩ (fun hHeld=>?_)
                        clear hK K
                        refine norm_ (a':=?_) ?_ ?_
                        rotate_left
                        ·show Act.put _ (some 94) _=_
                         simp only [Act.put,sA_,sB_,sC_,i64_w,i32_w]
                         rfl
                        exact norm_ (by simp only [putAll,Act.put,sA_,sB_,sC_]) (hCont (v180) _ ⟨hHeld,(by (with_reducible repeat (first|apply Kd.R_alloc|apply Kd.R_drewN|apply Kd.R_drew));exact HO181.out),(by (with_reducible repeat (first|refine blk_drewN ?_ _|refine blk_drew ?_|refine blk_alloc ?_ _));exact BK169.out),(by repeat (first|(with_reducible first|exact HB.out|apply below_alloc|apply pw_below_drewN|apply below_drew1|refine below_set ?_ GE169.out)|exact HB.out))⟩)
                      ·skip
                       refine goes_ Try.func35 (by kernel_rfl) rfl #[.int .u64 a0_1,.int .i64 8] (by rfl) rfl rfl (by (try simp only [List.map_toArray,List.map_cons,List.map_nil]);first|done|rfl|(simp only [List.length_drop,List.length_take];rfl)) ?_
                       with_reducible refine (girderref01_Put.calls a0_1 8 t182 _ A48.out).mono ?_
                       rintro e w56 ⟨rfl,hb⟩
                       refine ⟨_,rfl,?_⟩
                       have n0_:=Aside0.mk (blk_below (g:=gb169) (o:=.cells #[.int .u32 a0_0,.int .u64 a0_1,.int .i64 a0_2,.string a0_3,.slice A0_4 l0_4.length c0_4] 35 (0,0)) (by (with_reducible repeat (first|refine blk_drewN ?_ _|refine blk_drew ?_|refine blk_alloc ?_ _));exact BK169.out) hb)
                       have n1_:=Aside0.mk (below_step (by repeat (first|(with_reducible first|exact HB.out|apply below_alloc|apply pw_below_drewN|apply below_drew1|refine below_set ?_ GE169.out)|exact HB.out)) hb)
                       clear BK169
                       clear HB
                       have BK169:=n0_
                       have HB:=n1_
                       clear n0_ n1_
                       (try clear hb)
                       (try clear hb2)
                       (try clear hk)
                       (try clear hi)
                       refine hK.out _ _ ⟨(blk_cell BK169.out 0).trans rfl,(blk_cell BK169.out 1).trans rfl,(blk_cell BK169.out 2).trans rfl,(blk_cell BK169.out 3).trans rfl,(blk_cell BK169.out 4).trans rfl⟩ (fun hHeld=>?_)
                       clear hK K
                       refine norm_ (a':=?_) ?_ ?_
                       rotate_left
                       ·show Act.put _ (some 97) _=_
                        simp only [Act.put,sA_,sB_,sC_,i64_w,i32_w]
                        rfl
                       refine one_ (i:=4) (N:=some 93) #[true,true,true,true,true,false,true,true,true,false,false,false] rfl rfl (one_of HT_.out (by kernel_rfl)) (by decide) (fun K hK=>?_)
                       refine Kd.R_make_step (Kd.int .u8) _ 5 (by rfl) (N:=93) rfl 55 _ _ rfl ji45 rfl rfl Try.underlying55 (.int .u8 0) 1 info5 rfl (by decide) (by omega) 0 (ok:=fun _=>True) (okp:=fun _=>True) rfl (fun _ hk=>hk) trivial (of_decide_eq_true (by first|(with_reducible assumption)|assumption)) (Nat.le_trans (Nat.mul_le_mul_right _ (of_decide_eq_true (by first|(with_reducible assumption)|assumption) : ji45.toNat≤281474976710656)) (by omega)) (Below.refl _ _) (Nat.le_refl _) ?_
                       intro v180 w57 ho58 hb hg_ hnew_
                       clear hg_ hnew_
                       (first|rw [← Ny179.out] at ho58|(simp only [Int.reduceToNat] at ho58;rw [← Ny179.out] at ho58))
                       have n0_:=Aside0.mk (Kd.R_lower ho58 (below_size (by repeat (first|(with_reducible first|exact HB.out|apply below_alloc|apply pw_below_drewN|apply below_drew1|refine below_set ?_ GE169.out)|exact HB.out))))
                       have n1_:=Aside0.mk (blk_below (g:=gb169) (o:=.cells #[.int .u32 a0_0,.int .u64 a0_1,.int .i64 a0_2,.string a0_3,.slice A0_4 l0_4.length c0_4] 35 (0,0)) (by (with_reducible repeat (first|refine blk_drewN ?_ _|refine blk_drew ?_|refine blk_alloc ?_ _));exact BK169.out) hb)
                       have n2_:=Aside0.mk (below_step (by repeat (first|(with_reducible first|exact HB.out|apply below_alloc|apply pw_below_drewN|apply below_drew1|refine below_set ?_ GE169.out)|exact HB.out)) hb)
                       clear BK169
                       clear HB
                       have HO181:=n0_
                       have BK169:=n1_
                       have HB:=n2_
                       clear n0_ n1_ n2_
                       clear hb ho58
                       refine hK.out _ _ ⟨(blk_cell BK169.out 0).trans rfl,(blk_cell BK169.out 1).trans rfl,(blk_cell BK169.out 2).trans rfl,(blk_cell BK169.out 3).trans rfl,(blk_cell BK169.out 4).trans rfl⟩ (fun hHeld=>?_)
                       clear hK K
                       refine norm_ (a':=?_) ?_ ?_
                       rotate_left
                       ·show Act.put _ (some 93) _=_
                        simp only [Act.put,sA_,sB_,sC_,i64_w,i32_w]
                        rfl
                       refine one_ (i:=5) (N:=some 94) #[true,true,true,true,true,true,true,true,true,false,false,false] rfl rfl (one_of HT_.out (by kernel_rfl)) (by decide) (fun K hK=>?_)
                       have hcv59:=own_string (P:=Try.prog) Try.underlying55 Try.underlying5 Try.underlying9 (Kd.own_of_R HO181.out)
                       refine value_ (w1:=?_) (v:=?_) (by rfl) rfl ?_ ?_
                       rotate_left 2
                       ·go_simp
                        constructor
                        ·rfl
                        ·rfl
                       clear hcv59
                       refine hK.out _ _ ⟨(blk_cell BK169.out 0).trans rfl,(blk_cell BK169.out 1).trans rfl,(blk_cell BK169.out 2).trans rfl,(blk_cell BK169.out 3).trans rfl,(blk_cell BK169.out 4).trans rfl⟩ (fun hHeld=>?_)
                       clear hK K
                       refine norm_ (a':=?_) ?_ ?_
                       rotate_left
                       ·show Act.put _ (some 94) _=_
                        simp only [Act.put,sA_,sB_,sC_,i64_w,i32_w]
                        rfl
                       exact norm_ (by simp only [putAll,Act.put,sA_,sB_,sC_]) (hCont (v180) _ ⟨hHeld,(by (with_reducible repeat (first|apply Kd.R_alloc|apply Kd.R_drewN|apply Kd.R_drew));exact HO181.out),(by (with_reducible repeat (first|refine blk_drewN ?_ _|refine blk_drew ?_|refine blk_alloc ?_ _));exact BK169.out),(by repeat (first|(with_reducible first|exact HB.out|apply below_alloc|apply pw_below_drewN|apply below_drew1|refine below_set ?_ GE169.out)|exact HB.out))⟩)
                     rintro v180 w60 ⟨hS_,h0_,h1_,h2_⟩
                     have n0_ : Aside0 (Kd.R (Kd.int .u8) 5 w60 w.heap.size (fun _=>True) v180 y179):=⟨h0_⟩
                     have n1_ : Aside0 (w60.heap[gb169]?=some (.cells #[.int .u32 a0_0,.int .u64 a0_1,.int .i64 a0_2,.string a0_3,.slice A0_4 l0_4.length c0_4] 35 (0,0))):=⟨h1_⟩
                     have n2_ : Aside0 (Below w.heap.size w w60):=⟨h2_⟩
                     clear BK169
                     clear HB
                     clear h0_ h1_ h2_
                     have HO181:=n0_
                     have BK169:=n1_
                     have HB:=n2_
                     clear n0_ n1_ n2_
                     have hHeld : w60.cell? ⟨gb169,0,none⟩=some (.int .u32 a0_0)∧w60.cell? ⟨gb169,1,none⟩=some (.int .u64 a0_1)∧w60.cell? ⟨gb169,2,none⟩=some (.int .i64 a0_2)∧w60.cell? ⟨gb169,3,none⟩=some (.string a0_3)∧w60.cell? ⟨gb169,4,none⟩=some (.slice A0_4 l0_4.length c0_4):=hS_
                     refine norm_ (a':=?_) ?_ ?_
                     rotate_left
                     ·simp only [putAll,Act.put,sA_,sB_,sC_]
                      rfl
                     refine pure_ (i:=9) (N:=some 98) (v:=?_) (a':=?_) #[true,true,true,true,true,true,true,true,true,true,false,false] rfl rfl (any_of HT_.out (by kernel_rfl)) (fun _ _ _ h=>h) (Or.inl ⟨by rfl,?_⟩) ?_ ?_
                     rotate_left
                     ·intro w'
                      go_simp
                      with_reducible rfl
                     rotate_left
                     ·simp only [Act.put,sA_,sB_,sC_,i64_w,i32_w]
                      rfl
                     refine pure_ (i:=10) (N:=some 99) (v:=?_) (a':=?_) #[true,true,true,true,true,true,true,true,true,true,true,false] rfl rfl (any_of HT_.out (by kernel_rfl)) (fun _ _ _ h=>h) (Or.inl ⟨by rfl,?_⟩) ?_ ?_
                     rotate_left
                     ·intro w'
                      go_simp
                      with_reducible rfl
                     rotate_left
                     ·simp only [Act.put,sA_,sB_,sC_,i64_w,i32_w]
                      rfl
                     refine pure_ (i:=11) (N:=some 4) (v:=?_) (a':=?_) #[true,true,true,true,true,true,true,true,true,true,true,true] rfl rfl (any_of HT_.out (by kernel_rfl)) (fun _ _ _ h=>h) (Or.inl ⟨by rfl,?_⟩) ?_ ?_
                     rotate_left
                     ·intro w'
                      go_simp
                      with_reducible rfl
                     rotate_left
                     ·simp only [Act.put,sA_,sB_,sC_,i64_w,i32_w]
                      rfl
                     refine done_ (done_of HT_.out (by kernel_rfl)) ?_
                     try go_wp2_with (first|((with_reducible refine gate_callee (f:=36) rfl ?_);refine goesL_ (some 101) rfl rfl Try.func36 (by kernel_rfl) rfl #[.int .u32 0,.string (x4_3 ++ ((strOfNums y179) ++ t182))] rfl (by (try simp only [List.map_toArray,List.map_cons,List.map_nil]);first|done|rfl|(simp only [List.length_drop,List.length_take];rfl)) ?_;(with_reducible refine (girderref01_More.calls 0 (x4_3 ++ ((strOfNums y179) ++ t182)) t183 _ A51.out).mono ?_);rintro e w' ⟨rfl,⟨nd,rfl⟩⟩;refine ⟨_,rfl,?_⟩)|((with_reducible refine gate_callee (f:=35) rfl ?_);refine goesL_ (some 103) rfl rfl Try.func35 (by kernel_rfl) rfl #[.int .u64 (IntKind.u64.wrap (t183)),.int .i64 4] rfl (by (try simp only [List.map_toArray,List.map_cons,List.map_nil]);first|done|rfl|(simp only [List.length_drop,List.length_take];rfl)) ?_;(with_reducible refine (girderref01_Put.calls (IntKind.u64.wrap (t183)) 4 t184 _ A52.out).mono ?_);rintro e w61 ⟨rfl,hb⟩;refine ⟨_,rfl,?_⟩;have n0_:=Aside0.mk (Kd.R_below (by (with_reducible repeat (first|apply Kd.R_alloc|apply Kd.R_drewN|apply Kd.R_drew));exact HO181.out) hb);have n1_:=Aside0.mk (blk_below (g:=gb169) (o:=.cells #[.int .u32 a0_0,.int .u64 a0_1,.int .i64 a0_2,.string a0_3,.slice A0_4 l0_4.length c0_4] 35 (0,0)) (by (with_reducible repeat (first|refine blk_drewN ?_ _|refine blk_drew ?_|refine blk_alloc ?_ _));exact BK169.out) hb);have n2_:=Aside0.mk (below_step (by repeat (first|(with_reducible first|exact HB.out|apply below_alloc|apply pw_below_drewN|apply below_drew1|refine below_set ?_ GE169.out)|exact HB.out)) hb);clear HO181;clear BK169;clear HB;have HO181:=n0_;have BK169:=n1_;have HB:=n2_;clear n0_ n1_ n2_;(try clear hb);(try clear hb2);(try clear hk);(try clear hi)))
                     go_ret2
                     exact ⟨by first|rfl|(simp [errW_none,errW_some] <;> rfl)|(simp only [← hji45];first|rfl|(simp [errW_none,errW_some] <;> rfl))|(simp [*,errW_none,errW_some] <;> rfl),by repeat (first|(with_reducible first|exact HB.out|apply below_alloc|apply pw_below_drewN|apply below_drew1|refine below_set ?_ GE169.out)|exact HB.out)⟩
                    ·rw [if_neg c53] at H
                     exact absurd H (by simp)
                   ·rw [if_neg c50] at H
                    exact absurd H (by simp)
                  ·rw [if_neg c49] at H
                   exact absurd H (by simp)
                 ·rw [if_neg c47] at H
                  exact absurd H (by simp)
                ·rw [if_neg c46] at H
                 exact absurd H (by simp)
         ·rw [if_neg c25] at H
          exact absurd H (by simp)
        ·rw [if_neg c23] at H
         exact absurd H (by simp)
       ·rw [if_neg c22] at H
        exact absurd H (by simp)
      ·rw [if_neg c20] at H
       exact absurd H (by simp)
     ·rw [if_neg c18] at H
      exact absurd H (by simp)
end Go.Proofs.Yteokjmjfjdgmpaa.PPg
end
section
namespace Go.Proofs.Yteokjmjfjdgmpaa.PPg
open Go.RowKit Go.Proofs.YteokjmjfjdgmpaaW.PrintWords Go.Proofs.YteokjmjfjdgmpaaW.PrintLast Go.Proofs.YteokjmjfjdgmpaaW.PrintMore
attribute [local go_sem] max2_int min2_int max_two min_two max_three min_three max_four min_four
set_option linter.unusedVariables false
set_option linter.unusedSimpArgs false
def girderref01_Number.f (a0 : ByteArray) : Option (Int):=if a0.size≤9223372036854775807 then some ((Go.Gi.numL a0.data.toList % 18446744073709551616 : Nat) : Int) else none
set_option maxHeartbeats 8000000 in
set_option maxRecDepth 100000 in
theorem girderref01_Number.calls (a0 : ByteArray) (r : Int) (w : World) (h : girderref01_Number.f a0=some r) :
  Calls Try.prog 43 #[.string a0] w fun e w'=>e=.returned (.int .u64 r)∧Drawn0 w w':=by
 unfold girderref01_Number.f at h
 split at h
 ·rename_i hc
  obtain rfl:=Option.some.inj h
  exact (rnumber_any a0 w (by unfold maxLen;omega)).mono fun e w' ⟨x,y⟩=>⟨x,y ▸ Drawn0.refl _⟩
 ·cases h
end Go.Proofs.Yteokjmjfjdgmpaa.PPg
end
section
namespace Go.Proofs.Yteokjmjfjdgmpaa.PPg
open Go.RowKit Go.Proofs.YteokjmjfjdgmpaaW.PrintWords Go.Proofs.YteokjmjfjdgmpaaW.PrintLast Go.Proofs.YteokjmjfjdgmpaaW.PrintMore
attribute [local go_sem] max2_int min2_int max_two min_two max_three min_three max_four min_four
set_option linter.unusedVariables false
set_option linter.unusedSimpArgs false
def girderref01_Reader_Number.f (a0_0 : ByteArray) (a0_1 : Int) (a0_2 : Int) (a1 : Int) : Option (ByteArray × Int × Int × Int):=if 0≤a0_1∧a0_1≤(a0_0.size : Int)∧a0_0.size≤9223372036854775807 then some (a0_0,((Go.Gi.rNum a0_0.data.toList a0_1.toNat a0_2 a1).2.1 : Int),(Go.Gi.rNum a0_0.data.toList a0_1.toNat a0_2 a1).2.2,((Go.Gi.rNum a0_0.data.toList a0_1.toNat a0_2 a1).1 : Int)) else none
set_option maxHeartbeats 8000000 in
set_option maxRecDepth 100000 in
theorem girderref01_Reader_Number.calls (a0_0 : ByteArray) (a0_1 : Int) (a0_2 : Int) (a1 : Int) (r1 : ByteArray) (r2 : Int) (r3 : Int) (r4 : Int) (w : World) (h : girderref01_Reader_Number.f a0_0 a0_1 a0_2 a1=some (r1,r2,r3,r4)) :
  Calls Try.prog 44 #[.agg #[.string a0_0,.int .i64 a0_1,.int .i64 a0_2],.int .i64 a1] w fun e w'=>e=.returned (.tuple #[.agg #[.string r1,.int .i64 r2,.int .i64 r3],.int .u64 r4])∧Below w.heap.size w w':=by
 unfold girderref01_Reader_Number.f at h
 split at h
 ·rename_i hc
  obtain ⟨h1,h2,h3⟩:=hc
  injection h with h
  injection h with e1 h
  injection h with e2 h
  injection h with e3 e4
  subst e1 e2 e3 e4
  obtain ⟨a,rfl⟩:=Int.eq_ofNat_of_zero_le h1
  rw [Int.toNat_natCast]
  exact rnum_any a0_0 a a0_2 a1 w (by unfold maxLen;omega) (by omega)
 ·cases h
end Go.Proofs.Yteokjmjfjdgmpaa.PPg
end
