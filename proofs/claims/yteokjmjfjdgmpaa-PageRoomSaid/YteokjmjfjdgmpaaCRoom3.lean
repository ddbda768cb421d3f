import Derived.Test.YteokjmjfjdgmpaaCRoom2
section
namespace Go.Proofs.Yteokjmjfjdgmpaa.PPg
open Go.RowKit Go.Proofs.YteokjmjfjdgmpaaW.PrintWords Go.Proofs.YteokjmjfjdgmpaaW.PrintLast Go.Proofs.YteokjmjfjdgmpaaW.PrintMore
attribute [local go_sem] max2_int min2_int max_two min_two max_three min_three max_four min_four
set_option linter.unusedVariables false
set_option linter.unusedSimpArgs false
def girderlaw03_awake.f (k : Nat)  : Option (Bool) := (some (([(⟨#[97]⟩ : ByteArray)] : List ByteArray) : List ByteArray)).bind fun y261 => ((page_Encode.f 3 0 2 (⟨#[]⟩ : ByteArray) y261).bind fun bt265 => ((page_Decode.f k bt265.1).bind fun bt267 => (if bt265.2 = 0 then (if bt267.2.2.2.2.2 = 0 then ((page_Same.f k 3 0 2 (⟨#[]⟩ : ByteArray) y261 bt267.1 bt267.2.1 bt267.2.2.1 bt267.2.2.2.1 bt267.2.2.2.2.1).bind fun t276 => (if t276 = true then (some ((bt265.1.size : Int) == 512)) else (some false))) else (some false)) else (some false))))
set_option maxHeartbeats 8000000 in
set_option maxRecDepth 100000 in
theorem girderlaw03_awake.calls (k : Nat)  (r : Bool) (w : World) (h : girderlaw03_awake.f k  = some r) :
  Calls Try.prog 13 #[] w fun e w' => e = .returned (.bool r) ∧ Below w.heap.size w w' := by
 have hu28 := Try.underlying28
 have HB := Aside0.mk (Below.refl w.heap.size w)
 have H : ((some (([(⟨#[97]⟩ : ByteArray)] : List ByteArray) : List ByteArray)).bind fun y261 => ((page_Encode.f 3 0 2 (⟨#[]⟩ : ByteArray) y261).bind fun bt265 => ((page_Decode.f k bt265.1).bind fun bt267 => (if bt265.2 = 0 then (if bt267.2.2.2.2.2 = 0 then ((page_Same.f k 3 0 2 (⟨#[]⟩ : ByteArray) y261 bt267.1 bt267.2.1 bt267.2.2.1 bt267.2.2.2.1 bt267.2.2.2.2.1).bind fun t276 => (if t276 = true then (some ((bt265.1.size : Int) == 512)) else (some false))) else (some false)) else (some false))))) = some r := h
 clear h
 obtain ⟨y261, hy261⟩ : ∃ y_ : List ByteArray, y_ = (([(⟨#[97]⟩ : ByteArray)] : List ByteArray)) := ⟨_, rfl⟩
 replace H : ((page_Encode.f 3 0 2 (⟨#[]⟩ : ByteArray) y261).bind fun bt265 => ((page_Decode.f k bt265.1).bind fun bt267 => (if bt265.2 = 0 then (if bt267.2.2.2.2.2 = 0 then ((page_Same.f k 3 0 2 (⟨#[]⟩ : ByteArray) y261 bt267.1 bt267.2.1 bt267.2.2.1 bt267.2.2.2.1 bt267.2.2.2.2.1).bind fun t276 => (if t276 = true then (some ((bt265.1.size : Int) == 512)) else (some false))) else (some false)) else (some false)))) = some r := by first | (rw [hy261]; with_reducible exact H) | (have H2_ := (Option.bind_some _ _).symm.trans H; rw [hy261]; with_reducible exact H2_) | (have H2_ := (Option.bind_some _ _).symm.trans H; with_reducible exact H2_) | with_reducible exact H | (rw [hy261]; exact H) | exact H
 have Ny261 := Aside0.mk hy261
 clear hy261
 replace H := Option.bind_eq_some_iff.mp H
 obtain ⟨⟨t265, t266⟩, A10, H⟩ := H
 replace H : ((page_Decode.f k t265).bind fun bt267 => (if t266 = 0 then (if bt267.2.2.2.2.2 = 0 then ((page_Same.f k 3 0 2 (⟨#[]⟩ : ByteArray) y261 bt267.1 bt267.2.1 bt267.2.2.1 bt267.2.2.2.1 bt267.2.2.2.2.1).bind fun t276 => (if t276 = true then (some ((t265.size : Int) == 512)) else (some false))) else (some false)) else (some false))) = some r := H
 have A1 := Aside0.mk A10
 clear A10
 replace H := Option.bind_eq_some_iff.mp H
 obtain ⟨⟨t267, t268, t269, t270, t271, t274⟩, A20, H⟩ := H
 replace H : (if t266 = 0 then (if t274 = 0 then ((page_Same.f k 3 0 2 (⟨#[]⟩ : ByteArray) y261 t267 t268 t269 t270 t271).bind fun t276 => (if t276 = true then (some ((t265.size : Int) == 512)) else (some false))) else (some false)) else (some false)) = some r := H
 have A2 := Aside0.mk A20
 clear A20
 by_cases c3 : t266 = 0
 ·rw [if_pos c3] at H
  have c3b0 : (t266 == 0) = true := beq_iff_eq.mpr c3
  have c3b1 : (t266 != 0) = false := bne_eq_false_iff_eq.mpr c3
  clear c3
  by_cases c4 : t274 = 0
  ·rw [if_pos c4] at H
   have c4b0 : (t274 == 0) = true := beq_iff_eq.mpr c4
   have c4b1 : (t274 != 0) = false := bne_eq_false_iff_eq.mpr c4
   clear c4
   replace H := Option.bind_eq_some_iff.mp H
   obtain ⟨t276, A50, H⟩ := H
   replace H : (if t276 = true then (some ((t265.size : Int) == 512)) else (some false)) = some r := H
   have A5 := Aside0.mk A50
   clear A50
   by_cases c6 : t276 = true
   ·subst c6
    have H1 : (some ((t265.size : Int) == 512)) = some r := by rw [if_pos rfl] at H; exact H
    clear H
    have H := H1
    clear H1
    obtain rfl := Option.some.inj H
    go_enter Try.func13, Try.ntmps13
    go_wp2_with (first | ((with_reducible refine gate_dst (N := 6) rfl ?_); (try (refine gate_guard (by rfl) ?_; dsimp only)); refine Kd.R_lit Kd.string _ 9 ?hg (N := 6) ?hd (xs := ([(⟨#[97]⟩ : ByteArray)] : List ByteArray)) (inner := [.string (⟨#[97]⟩ : ByteArray)]) (ok := fun _ => True) (okp := fun _ => True) ?hr ?hp (fun _ hk => hk) trivial (Below.refl _ _) (Nat.le_refl _) (by simp) ?_; (case hd => rfl); (case hg => rfl); (case hr => first | (go_simp; done) | (go_simp; rfl)); (case hp => exact (Reps.one (show Kd.M Kd.string _ _ _ (⟨#[97]⟩ : ByteArray) [.string (⟨#[97]⟩ : ByteArray)] from rfl) (Reps.none _ _))); intro v262 w7 ho8 hb hg_ hnew_; clear hg_ hnew_; (first | rw [← Ny261.out] at ho8 | (simp only [Int.reduceToNat] at ho8; rw [← Ny261.out] at ho8)); have n0_ := Aside0.mk (Kd.R_lower ho8 (below_size (by repeat (first | (with_reducible first | exact HB.out | apply below_alloc | apply pw_below_drewN | apply below_drew1) | exact HB.out)))); have n1_ := Aside0.mk (below_step (by repeat (first | (with_reducible first | exact HB.out | apply below_alloc | apply pw_below_drewN | apply below_drew1) | exact HB.out)) hb); clear HB; have HO263 := n0_; have HB := n1_; clear n0_ n1_; clear hb ho8; obtain ⟨Ao9, co9, eo9⟩ := Kd.R_slice HO263.out; subst eo9) | ((with_reducible refine gate_dst (N := 1) rfl ?_); (try (refine gate_guard (by rfl) ?_; dsimp only)); refine box_event ?hg (N := 1) ?hd (cs := #[.int .u32 0, .int .u64 0, .int .i64 0, .string (⟨#[]⟩ : ByteArray), .slice none 0 0]) (t := 28) ?hr ?_; (case hd => rfl); (case hg => rfl); (case hr => first | (go_simp; done) | (go_simp; rfl)); intro gb264 hg w10 hbox hb; have n0_ := Aside0.mk (Kd.R_below (by (with_reducible repeat (first | apply Kd.R_alloc | apply Kd.R_drewN | apply Kd.R_drew)); exact HO263.out) hb); have n1_ := Aside0.mk (below_step (by repeat (first | (with_reducible first | exact HB.out | apply below_alloc | apply pw_below_drewN | apply below_drew1) | exact HB.out)) hb); have n2_ := Aside0.mk (hbox); have n3_ := Aside0.mk ((by rw [hg]; exact (below_size (by repeat (first | (with_reducible first | exact HB.out | apply below_alloc | apply pw_below_drewN | apply below_drew1) | exact HB.out))) : w.heap.size ≤ gb264)); have n4_ := Aside0.mk ((by rw [hg]; exact (below_size (by repeat (first | (with_reducible first | exact HB.out | apply below_alloc | apply pw_below_drewN | apply below_drew1) | exact HB.out))) : w.heap.size ≤ gb264)); clear HO263; clear HB; have HO263 := n0_; have HB := n1_; have BK264 := n2_; have GW264 := n3_; have GE264 := n4_; clear n0_ n1_ n2_ n3_ n4_; clear hb hbox hg; have hcz11_0 : w10.cell? ⟨gb264, 0, none⟩ = some (.int .u32 0) := (blk_cell BK264.out 0).trans rfl; have hcz11_1 : w10.cell? ⟨gb264, 1, none⟩ = some (.int .u64 0) := (blk_cell BK264.out 1).trans rfl; have hcz11_2 : w10.cell? ⟨gb264, 2, none⟩ = some (.int .i64 0) := (blk_cell BK264.out 2).trans rfl; have hcz11_3 : w10.cell? ⟨gb264, 3, none⟩ = some (.string (⟨#[]⟩ : ByteArray)) := (blk_cell BK264.out 3).trans rfl; have hcz11_4 : w10.cell? ⟨gb264, 4, none⟩ = some (.slice none 0 0) := (blk_cell BK264.out 4).trans rfl; have hfz11_0 := blk_frozen BK264.out 0; have hfz11_1 := blk_frozen BK264.out 1; have hfz11_2 := blk_frozen BK264.out 2; have hfz11_3 := blk_frozen BK264.out 3; have hfz11_4 := blk_frozen BK264.out 4) | ((with_reducible refine gate_callee (f := 8) rfl ?_); refine goesL_ (some 10) rfl rfl Try.func8 (by kernel_rfl) rfl #[.agg #[.int .u32 3, .int .u64 0, .int .i64 2, .string (⟨#[]⟩ : ByteArray), .slice Ao9 y261.length co9]] rfl (by (try simp only [List.map_toArray, List.map_cons, List.map_nil]); first | done | rfl | (simp only [List.length_drop, List.length_take]; rfl)) ?_; (with_reducible refine (page_Encode.calls 3 0 2 (⟨#[]⟩ : ByteArray) _ _ y261 t265 t266 _ ?side1 ?side2 A1.out).mono ?_); (case side1 => refine (Kd.R_reads' (e := 9) (base := w.heap.size) (ok := fun k_ => True) (n := y261.length) (c := co9) ?_).2.2; exact (by (with_reducible repeat (first | apply Kd.R_alloc | apply Kd.R_drewN | apply Kd.R_drew)); exact (Kd.R_mono (Kd.R_far (p := ⟨gb264, 4, none⟩) (Kd.R_far (p := ⟨gb264, 3, none⟩) (Kd.R_far (p := ⟨gb264, 2, none⟩) (Kd.R_far (p := ⟨gb264, 1, none⟩) (Kd.R_far (p := ⟨gb264, 0, none⟩) (Kd.R_types HO263.out BK264.out (by decide)) (fun _ hk => hk.2) (.int .u32 3)) (fun _ hk => hk.2) (.int .u64 0)) (fun _ hk => hk.2) (.int .i64 2)) (fun _ hk => hk.2) (.string (⟨#[]⟩ : ByteArray))) (fun _ hk => hk.2) (.slice Ao9 y261.length co9)) (fun _ h_ => h_.1)))); (case side2 => exact (Kd.R_reads' HO263.out).2.1); rintro e w12 ⟨rfl, hb⟩; refine ⟨_, rfl, ?_⟩; have n0_ := Aside0.mk (Kd.R_below (by (with_reducible repeat (first | apply Kd.R_alloc | apply Kd.R_drewN | apply Kd.R_drew)); exact (Kd.R_mono (Kd.R_far (p := ⟨gb264, 4, none⟩) (Kd.R_far (p := ⟨gb264, 3, none⟩) (Kd.R_far (p := ⟨gb264, 2, none⟩) (Kd.R_far (p := ⟨gb264, 1, none⟩) (Kd.R_far (p := ⟨gb264, 0, none⟩) (Kd.R_types HO263.out BK264.out (by decide)) (fun _ hk => hk.2) (.int .u32 3)) (fun _ hk => hk.2) (.int .u64 0)) (fun _ hk => hk.2) (.int .i64 2)) (fun _ hk => hk.2) (.string (⟨#[]⟩ : ByteArray))) (fun _ hk => hk.2) (.slice Ao9 y261.length co9)) (fun _ h_ => h_.1))) hb); have n1_ := Aside0.mk (blk_below (g := gb264) (o := .cells #[.int .u32 3, .int .u64 0, .int .i64 2, .string (⟨#[]⟩ : ByteArray), .slice Ao9 y261.length co9] 28 (0, 0)) (by (with_reducible repeat (first | refine blk_drewN ?_ _ | refine blk_drew ?_ | refine blk_alloc ?_ _)); refine blk_put (cs := #[.int .u32 3, .int .u64 0, .int .i64 2, .string (⟨#[]⟩ : ByteArray), .slice none 0 0]) ?_ 4 _ rfl; (with_reducible repeat (first | refine blk_drewN ?_ _ | refine blk_drew ?_ | refine blk_alloc ?_ _)); refine blk_put (cs := #[.int .u32 3, .int .u64 0, .int .i64 2, .string (⟨#[]⟩ : ByteArray), .slice none 0 0]) ?_ 3 _ rfl; (with_reducible repeat (first | refine blk_drewN ?_ _ | refine blk_drew ?_ | refine blk_alloc ?_ _)); refine blk_put (cs := #[.int .u32 3, .int .u64 0, .int .i64 0, .string (⟨#[]⟩ : ByteArray), .slice none 0 0]) ?_ 2 _ rfl; (with_reducible repeat (first | refine blk_drewN ?_ _ | refine blk_drew ?_ | refine blk_alloc ?_ _)); refine blk_put (cs := #[.int .u32 3, .int .u64 0, .int .i64 0, .string (⟨#[]⟩ : ByteArray), .slice none 0 0]) ?_ 1 _ rfl; (with_reducible repeat (first | refine blk_drewN ?_ _ | refine blk_drew ?_ | refine blk_alloc ?_ _)); refine blk_put (cs := #[.int .u32 0, .int .u64 0, .int .i64 0, .string (⟨#[]⟩ : ByteArray), .slice none 0 0]) ?_ 0 _ rfl; (with_reducible repeat (first | refine blk_drewN ?_ _ | refine blk_drew ?_ | refine blk_alloc ?_ _)); exact BK264.out) hb); have n2_ := Aside0.mk (below_step (by repeat (first | (with_reducible first | exact HB.out | apply below_alloc | apply pw_below_drewN | apply below_drew1 | refine below_set ?_ GE264.out) | exact HB.out)) hb); clear HO263; clear BK264; clear HB; have HO263 := n0_; have BK264 := n1_; have HB := n2_; clear n0_ n1_ n2_; (try clear hb); (try clear hb2); (try clear hk); (try clear hi)) | ((with_reducible refine gate_callee (f := 11) rfl ?_); refine goesL_ (some 15) rfl rfl Try.func11 (by kernel_rfl) rfl #[.string t265] rfl (by (try simp only [List.map_toArray, List.map_cons, List.map_nil]); first | done | rfl | (simp only [List.length_drop, List.length_take]; rfl)) ?_; (with_reducible refine (page_Decode.calls k t265 t267 t268 t269 t270 t271 t274 _ A2.out).mono ?_); rintro e w13 ⟨v272, rfl, ho0, hb⟩; refine ⟨_, rfl, ?_⟩; have n0_ := Aside0.mk (Kd.R_elder' (by (with_reducible repeat (first | apply Kd.R_alloc | apply Kd.R_drewN | apply Kd.R_drew)); exact HO263.out) (Kd.R_base ho0) hb); have n1_ := Aside0.mk (Kd.R_lower (Kd.R_new' ho0 (Kd.R_lt (by (with_reducible repeat (first | apply Kd.R_alloc | apply Kd.R_drewN | apply Kd.R_drew)); exact HO263.out))) (below_size (by repeat (first | (with_reducible first | exact HB.out | apply below_alloc | apply pw_below_drewN | apply below_drew1 | refine below_set ?_ GE264.out) | exact HB.out)))); have n2_ := Aside0.mk (blk_below (g := gb264) (o := .cells #[.int .u32 3, .int .u64 0, .int .i64 2, .string (⟨#[]⟩ : ByteArray), .slice Ao9 y261.length co9] 28 (0, 0)) (by (with_reducible repeat (first | refine blk_drewN ?_ _ | refine blk_drew ?_ | refine blk_alloc ?_ _)); exact BK264.out) hb); have n3_ := Aside0.mk (below_step (by repeat (first | (with_reducible first | exact HB.out | apply below_alloc | apply pw_below_drewN | apply below_drew1 | refine below_set ?_ GE264.out) | exact HB.out)) hb); clear HO263; clear BK264; clear HB; have HO263 := n0_; have HO273 := n1_; have BK264 := n2_; have HB := n3_; clear n0_ n1_ n2_ n3_; (try clear hb); (try clear hb2); (try clear hk); (try clear hi); (try clear ho0)) | ((with_reducible refine gate_dst (N := 4) rfl ?_); (try (refine gate_guard (by rfl) ?_; dsimp only)); refine box_event ?hg (N := 4) ?hd (cs := #[.int .u32 0, .int .u64 0, .int .i64 0, .string (⟨#[]⟩ : ByteArray), .slice none 0 0]) (t := 28) ?hr ?_; (case hd => rfl); (case hg => rfl); (case hr => first | (go_simp; done) | (go_simp; rfl)); intro gb275 hg w14 hbox hb; have n0_ := Aside0.mk (Kd.R_below (by (with_reducible repeat (first | apply Kd.R_alloc | apply Kd.R_drewN | apply Kd.R_drew)); exact HO263.out) hb); have n1_ := Aside0.mk (Kd.R_below (by (with_reducible repeat (first | apply Kd.R_alloc | apply Kd.R_drewN | apply Kd.R_drew)); exact HO273.out) hb); have n2_ := Aside0.mk (blk_below (g := gb264) (o := .cells #[.int .u32 3, .int .u64 0, .int .i64 2, .string (⟨#[]⟩ : ByteArray), .slice Ao9 y261.length co9] 28 (0, 0)) (by (with_reducible repeat (first | refine blk_drewN ?_ _ | refine blk_drew ?_ | refine blk_alloc ?_ _)); exact BK264.out) hb); have n3_ := Aside0.mk (below_step (by repeat (first | (with_reducible first | exact HB.out | apply below_alloc | apply pw_below_drewN | apply below_drew1 | refine below_set ?_ GE264.out) | exact HB.out)) hb); have n4_ := Aside0.mk (hbox); have n5_ := Aside0.mk ((by rw [hg]; exact (below_size (by repeat (first | (with_reducible first | exact HB.out | apply below_alloc | apply pw_below_drewN | apply below_drew1 | refine below_set ?_ GE264.out) | exact HB.out))) : w.heap.size ≤ gb275)); have n6_ := Aside0.mk ((by rw [hg]; exact (below_size (by repeat (first | (with_reducible first | exact HB.out | apply below_alloc | apply pw_below_drewN | apply below_drew1 | refine below_set ?_ GE264.out) | exact HB.out))) : w.heap.size ≤ gb275)); have n7_ := Aside0.mk ((by rw [hg]; exact Nat.ne_of_lt (blk_lt (g := gb264) (o := .cells #[.int .u32 3, .int .u64 0, .int .i64 2, .string (⟨#[]⟩ : ByteArray), .slice Ao9 y261.length co9] 28 (0, 0)) (by (with_reducible repeat (first | refine blk_drewN ?_ _ | refine blk_drew ?_ | refine blk_alloc ?_ _)); exact BK264.out)) : gb264 ≠ gb275)); have n8_ := Aside0.mk ((by rw [hg]; exact Nat.ne_of_gt (blk_lt (g := gb264) (o := .cells #[.int .u32 3, .int .u64 0, .int .i64 2, .string (⟨#[]⟩ : ByteArray), .slice Ao9 y261.length co9] 28 (0, 0)) (by (with_reducible repeat (first | refine blk_drewN ?_ _ | refine blk_drew ?_ | refine blk_alloc ?_ _)); exact BK264.out)) : gb275 ≠ gb264)); clear HO263; clear HO273; clear BK264; clear HB; have HO263 := n0_; have HO273 := n1_; have BK264 := n2_; have HB := n3_; have BK275 := n4_; have GW275 := n5_; have GE275 := n6_; have NB264_275 := n7_; have NB275_264 := n8_; clear n0_ n1_ n2_ n3_ n4_ n5_ n6_ n7_ n8_; clear hb hbox hg; have hnb15 := NB275_264.out; have hnc15 := NB264_275.out; have hcz16_0 : w14.cell? ⟨gb275, 0, none⟩ = some (.int .u32 0) := (blk_cell BK275.out 0).trans rfl; have hcz16_1 : w14.cell? ⟨gb275, 1, none⟩ = some (.int .u64 0) := (blk_cell BK275.out 1).trans rfl; have hcz16_2 : w14.cell? ⟨gb275, 2, none⟩ = some (.int .i64 0) := (blk_cell BK275.out 2).trans rfl; have hcz16_3 : w14.cell? ⟨gb275, 3, none⟩ = some (.string (⟨#[]⟩ : ByteArray)) := (blk_cell BK275.out 3).trans rfl; have hcz16_4 : w14.cell? ⟨gb275, 4, none⟩ = some (.slice none 0 0) := (blk_cell BK275.out 4).trans rfl; have hfz16_0 := blk_frozen BK275.out 0; have hfz16_1 := blk_frozen BK275.out 1; have hfz16_2 := blk_frozen BK275.out 2; have hfz16_3 := blk_frozen BK275.out 3; have hfz16_4 := blk_frozen BK275.out 4; obtain ⟨Ao17, co17, eo17⟩ := Kd.R_slice HO273.out; subst eo17; have hcz18_0 : w14.cell? ⟨gb264, 0, none⟩ = some (.int .u32 3) := (blk_cell BK264.out 0).trans rfl; have hcz18_1 : w14.cell? ⟨gb264, 1, none⟩ = some (.int .u64 0) := (blk_cell BK264.out 1).trans rfl; have hcz18_2 : w14.cell? ⟨gb264, 2, none⟩ = some (.int .i64 2) := (blk_cell BK264.out 2).trans rfl; have hcz18_3 : w14.cell? ⟨gb264, 3, none⟩ = some (.string (⟨#[]⟩ : ByteArray)) := (blk_cell BK264.out 3).trans rfl; have hcz18_4 : w14.cell? ⟨gb264, 4, none⟩ = some (.slice Ao9 y261.length co9) := (blk_cell BK264.out 4).trans rfl; have hfz18_0 := blk_frozen BK264.out 0; have hfz18_1 := blk_frozen BK264.out 1; have hfz18_2 := blk_frozen BK264.out 2; have hfz18_3 := blk_frozen BK264.out 3; have hfz18_4 := blk_frozen BK264.out 4) | (go_at_call 17; (with_reducible refine (page_Same.calls k 3 0 2 (⟨#[]⟩ : ByteArray) _ _ y261 t267 t268 t269 t270 _ _ t271 true _ ?side1 ?side2 ?side3 ?side4 A5.out).mono ?_); (case side1 => refine (Kd.R_reads' (e := 9) (base := w.heap.size) (ok := fun k_ => (True ∧ some k_ ≠ (.slice Ao17 t271.length co17 : Value).ownBlock)) (n := y261.length) (c := co9) ?_).2.2; exact (by (with_reducible repeat (first | apply Kd.R_alloc | apply Kd.R_drewN | apply Kd.R_drew)); exact (Kd.R_mono (Kd.R_far (p := ⟨gb275, 4, none⟩) (Kd.R_far (p := ⟨gb275, 3, none⟩) (Kd.R_far (p := ⟨gb275, 2, none⟩) (Kd.R_far (p := ⟨gb275, 1, none⟩) (Kd.R_far (p := ⟨gb275, 0, none⟩) (Kd.R_types HO263.out BK275.out (by decide)) (fun _ hk => hk.2) (.int .u32 t267)) (fun _ hk => hk.2) (.int .u64 t268)) (fun _ hk => hk.2) (.int .i64 t269)) (fun _ hk => hk.2) (.string t270)) (fun _ hk => hk.2) (.slice Ao17 t271.length co17)) (fun _ h_ => h_.1)))); (case side2 => exact (Kd.R_reads' HO263.out).2.1); (case side3 => refine (Kd.R_reads' (e := 9) (base := w.heap.size) (ok := fun k_ => (True ∧ some k_ ≠ (.slice Ao9 y261.length co9 : Value).ownBlock)) (n := t271.length) (c := co17) ?_).2.2; exact (by (with_reducible repeat (first | apply Kd.R_alloc | apply Kd.R_drewN | apply Kd.R_drew)); exact (Kd.R_mono (Kd.R_far (p := ⟨gb275, 4, none⟩) (Kd.R_far (p := ⟨gb275, 3, none⟩) (Kd.R_far (p := ⟨gb275, 2, none⟩) (Kd.R_far (p := ⟨gb275, 1, none⟩) (Kd.R_far (p := ⟨gb275, 0, none⟩) (Kd.R_types HO273.out BK275.out (by decide)) (fun _ hk => hk.2) (.int .u32 t267)) (fun _ hk => hk.2) (.int .u64 t268)) (fun _ hk => hk.2) (.int .i64 t269)) (fun _ hk => hk.2) (.string t270)) (fun _ hk => hk.2) (.slice Ao17 t271.length co17)) (fun _ h_ => h_.1)))); (case side4 => exact (Kd.R_reads' HO273.out).2.1); rintro e w19 ⟨rfl, hb⟩; have n0_ := Aside0.mk (Kd.R_below (by (with_reducible repeat (first | apply Kd.R_alloc | apply Kd.R_drewN | apply Kd.R_drew)); exact (Kd.R_mono (Kd.R_far (p := ⟨gb275, 4, none⟩) (Kd.R_far (p := ⟨gb275, 3, none⟩) (Kd.R_far (p := ⟨gb275, 2, none⟩) (Kd.R_far (p := ⟨gb275, 1, none⟩) (Kd.R_far (p := ⟨gb275, 0, none⟩) (Kd.R_types HO263.out BK275.out (by decide)) (fun _ hk => hk.2) (.int .u32 t267)) (fun _ hk => hk.2) (.int .u64 t268)) (fun _ hk => hk.2) (.int .i64 t269)) (fun _ hk => hk.2) (.string t270)) (fun _ hk => hk.2) (.slice Ao17 t271.length co17)) (fun _ h_ => h_.1))) hb); have n1_ := Aside0.mk (Kd.R_below (by (with_reducible repeat (first | apply Kd.R_alloc | apply Kd.R_drewN | apply Kd.R_drew)); exact (Kd.R_mono (Kd.R_far (p := ⟨gb275, 4, none⟩) (Kd.R_far (p := ⟨gb275, 3, none⟩) (Kd.R_far (p := ⟨gb275, 2, none⟩) (Kd.R_far (p := ⟨gb275, 1, none⟩) (Kd.R_far (p := ⟨gb275, 0, none⟩) (Kd.R_types HO273.out BK275.out (by decide)) (fun _ hk => hk.2) (.int .u32 t267)) (fun _ hk => hk.2) (.int .u64 t268)) (fun _ hk => hk.2) (.int .i64 t269)) (fun _ hk => hk.2) (.string t270)) (fun _ hk => hk.2) (.slice Ao17 t271.length co17)) (fun _ h_ => h_.1))) hb); have n2_ := Aside0.mk (blk_below (g := gb264) (o := .cells #[.int .u32 3, .int .u64 0, .int .i64 2, .string (⟨#[]⟩ : ByteArray), .slice Ao9 y261.length co9] 28 (0, 0)) (by (with_reducible repeat (first | refine blk_drewN ?_ _ | refine blk_drew ?_ | refine blk_alloc ?_ _)); refine blk_far ?_ NB264_275.out _; (with_reducible repeat (first | refine blk_drewN ?_ _ | refine blk_drew ?_ | refine blk_alloc ?_ _)); refine blk_far ?_ NB264_275.out _; (with_reducible repeat (first | refine blk_drewN ?_ _ | refine blk_drew ?_ | refine blk_alloc ?_ _)); refine blk_far ?_ NB264_275.out _; (with_reducible repeat (first | refine blk_drewN ?_ _ | refine blk_drew ?_ | refine blk_alloc ?_ _)); refine blk_far ?_ NB264_275.out _; (with_reducible repeat (first | refine blk_drewN ?_ _ | refine blk_drew ?_ | refine blk_alloc ?_ _)); refine blk_far ?_ NB264_275.out _; (with_reducible repeat (first | refine blk_drewN ?_ _ | refine blk_drew ?_ | refine blk_alloc ?_ _)); exact BK264.out) hb); have n3_ := Aside0.mk (blk_below (g := gb275) (o := .cells #[.int .u32 t267, .int .u64 t268, .int .i64 t269, .string t270, .slice Ao17 t271.length co17] 28 (0, 0)) (by (with_reducible repeat (first | refine blk_drewN ?_ _ | refine blk_drew ?_ | refine blk_alloc ?_ _)); refine blk_put (cs := #[.int .u32 t267, .int .u64 t268, .int .i64 t269, .string t270, .slice none 0 0]) ?_ 4 _ rfl; (with_reducible repeat (first | refine blk_drewN ?_ _ | refine blk_drew ?_ | refine blk_alloc ?_ _)); refine blk_put (cs := #[.int .u32 t267, .int .u64 t268, .int .i64 t269, .string (⟨#[]⟩ : ByteArray), .slice none 0 0]) ?_ 3 _ rfl; (with_reducible repeat (first | refine blk_drewN ?_ _ | refine blk_drew ?_ | refine blk_alloc ?_ _)); refine blk_put (cs := #[.int .u32 t267, .int .u64 t268, .int .i64 0, .string (⟨#[]⟩ : ByteArray), .slice none 0 0]) ?_ 2 _ rfl; (with_reducible repeat (first | refine blk_drewN ?_ _ | refine blk_drew ?_ | refine blk_alloc ?_ _)); refine blk_put (cs := #[.int .u32 t267, .int .u64 0, .int .i64 0, .string (⟨#[]⟩ : ByteArray), .slice none 0 0]) ?_ 1 _ rfl; (with_reducible repeat (first | refine blk_drewN ?_ _ | refine blk_drew ?_ | refine blk_alloc ?_ _)); refine blk_put (cs := #[.int .u32 0, .int .u64 0, .int .i64 0, .string (⟨#[]⟩ : ByteArray), .slice none 0 0]) ?_ 0 _ rfl; (with_reducible repeat (first | refine blk_drewN ?_ _ | refine blk_drew ?_ | refine blk_alloc ?_ _)); exact BK275.out) hb); have n4_ := Aside0.mk (below_step (by repeat (first | (with_reducible first | exact HB.out | apply below_alloc | apply pw_below_drewN | apply below_drew1 | refine below_set ?_ GE264.out | refine below_set ?_ GE275.out) | exact HB.out)) hb); clear HO263; clear HO273; clear BK264; clear BK275; clear HB; have HO263 := n0_; have HO273 := n1_; have BK264 := n2_; have BK275 := n3_; have HB := n4_; clear n0_ n1_ n2_ n3_ n4_; (try clear hb); (try clear hb2); (try clear hk); (try clear hi)))
    go_ret
    exact ⟨by first | rfl | (simp [errW_none, errW_some] <;> rfl) | (simp [*, errW_none, errW_some] <;> rfl), by repeat (first | (with_reducible first | exact HB.out | apply below_alloc | apply pw_below_drewN | apply below_drew1 | refine below_set ?_ GE264.out | refine below_set ?_ GE275.out) | exact HB.out)⟩
   ·replace c6 := Bool.eq_false_iff.mpr c6
    subst c6
    have H1 : (some false) = some r := by rw [if_neg (show ¬ (false = true) by decide)] at H; exact H
    clear H
    have H := H1
    clear H1
    obtain rfl := Option.some.inj H
    go_enter Try.func13, Try.ntmps13
    go_wp2_with (first | ((with_reducible refine gate_dst (N := 6) rfl ?_); (try (refine gate_guard (by rfl) ?_; dsimp only)); refine Kd.R_lit Kd.string _ 9 ?hg (N := 6) ?hd (xs := ([(⟨#[97]⟩ : ByteArray)] : List ByteArray)) (inner := [.string (⟨#[97]⟩ : ByteArray)]) (ok := fun _ => True) (okp := fun _ => True) ?hr ?hp (fun _ hk => hk) trivial (Below.refl _ _) (Nat.le_refl _) (by simp) ?_; (case hd => rfl); (case hg => rfl); (case hr => first | (go_simp; done) | (go_simp; rfl)); (case hp => exact (Reps.one (show Kd.M Kd.string _ _ _ (⟨#[97]⟩ : ByteArray) [.string (⟨#[97]⟩ : ByteArray)] from rfl) (Reps.none _ _))); intro v262 w20 ho21 hb hg_ hnew_; clear hg_ hnew_; (first | rw [← Ny261.out] at ho21 | (simp only [Int.reduceToNat] at ho21; rw [← Ny261.out] at ho21)); have n0_ := Aside0.mk (Kd.R_lower ho21 (below_size (by repeat (first | (with_reducible first | exact HB.out | apply below_alloc | apply pw_below_drewN | apply below_drew1) | exact HB.out)))); have n1_ := Aside0.mk (below_step (by repeat (first | (with_reducible first | exact HB.out | apply below_alloc | apply pw_below_drewN | apply below_drew1) | exact HB.out)) hb); clear HB; have HO263 := n0_; have HB := n1_; clear n0_ n1_; clear hb ho21; obtain ⟨Ao22, co22, eo22⟩ := Kd.R_slice HO263.out; subst eo22) | ((with_reducible refine gate_dst (N := 1) rfl ?_); (try (refine gate_guard (by rfl) ?_; dsimp only)); refine box_event ?hg (N := 1) ?hd (cs := #[.int .u32 0, .int .u64 0, .int .i64 0, .string (⟨#[]⟩ : ByteArray), .slice none 0 0]) (t := 28) ?hr ?_; (case hd => rfl); (case hg => rfl); (case hr => first | (go_simp; done) | (go_simp; rfl)); intro gb264 hg w23 hbox hb; have n0_ := Aside0.mk (Kd.R_below (by (with_reducible repeat (first | apply Kd.R_alloc | apply Kd.R_drewN | apply Kd.R_drew)); exact HO263.out) hb); have n1_ := Aside0.mk (below_step (by repeat (first | (with_reducible first | exact HB.out | apply below_alloc | apply pw_below_drewN | apply below_drew1) | exact HB.out)) hb); have n2_ := Aside0.mk (hbox); have n3_ := Aside0.mk ((by rw [hg]; exact (below_size (by repeat (first | (with_reducible first | exact HB.out | apply below_alloc | apply pw_below_drewN | apply below_drew1) | exact HB.out))) : w.heap.size ≤ gb264)); have n4_ := Aside0.mk ((by rw [hg]; exact (below_size (by repeat (first | (with_reducible first | exact HB.out | apply below_alloc | apply pw_below_drewN | apply below_drew1) | exact HB.out))) : w.heap.size ≤ gb264)); clear HO263; clear HB; have HO263 := n0_; have HB := n1_; have BK264 := n2_; have GW264 := n3_; have GE264 := n4_; clear n0_ n1_ n2_ n3_ n4_; clear hb hbox hg; have hcz24_0 : w23.cell? ⟨gb264, 0, none⟩ = some (.int .u32 0) := (blk_cell BK264.out 0).trans rfl; have hcz24_1 : w23.cell? ⟨gb264, 1, none⟩ = some (.int .u64 0) := (blk_cell BK264.out 1).trans rfl; have hcz24_2 : w23.cell? ⟨gb264, 2, none⟩ = some (.int .i64 0) := (blk_cell BK264.out 2).trans rfl; have hcz24_3 : w23.cell? ⟨gb264, 3, none⟩ = some (.string (⟨#[]⟩ : ByteArray)) := (blk_cell BK264.out 3).trans rfl; have hcz24_4 : w23.cell? ⟨gb264, 4, none⟩ = some (.slice none 0 0) := (blk_cell BK264.out 4).trans rfl; have hfz24_0 := blk_frozen BK264.out 0; have hfz24_1 := blk_frozen BK264.out 1; have hfz24_2 := blk_frozen BK264.out 2; have hfz24_3 := blk_frozen BK264.out 3; have hfz24_4 := blk_frozen BK264.out 4) | ((with_reducible refine gate_callee (f := 8) rfl ?_); refine goesL_ (some 10) rfl rfl Try.func8 (by kernel_rfl) rfl #[.agg #[.int .u32 3, .int .u64 0, .int .i64 2, .string (⟨#[]⟩ : ByteArray), .slice Ao22 y261.length co22]] rfl (by (try simp only [List.map_toArray, List.map_cons, List.map_nil]); first | done | rfl | (simp only [List.length_drop, List.length_take]; rfl)) ?_; (with_reducible refine (page_Encode.calls 3 0 2 (⟨#[]⟩ : ByteArray) _ _ y261 t265 t266 _ ?side1 ?side2 A1.out).mono ?_); (case side1 => refine (Kd.R_reads' (e := 9) (base := w.heap.size) (ok := fun k_ => True) (n := y261.length) (c := co22) ?_).2.2; exact (by (with_reducible repeat (first | apply Kd.R_alloc | apply Kd.R_drewN | apply Kd.R_drew)); exact (Kd.R_mono (Kd.R_far (p := ⟨gb264, 4, none⟩) (Kd.R_far (p := ⟨gb264, 3, none⟩) (Kd.R_far (p := ⟨gb264, 2, none⟩) (Kd.R_far (p := ⟨gb264, 1, none⟩) (Kd.R_far (p := ⟨gb264, 0, none⟩) (Kd.R_types HO263.out BK264.out (by decide)) (fun _ hk => hk.2) (.int .u32 3)) (fun _ hk => hk.2) (.int .u64 0)) (fun _ hk => hk.2) (.int .i64 2)) (fun _ hk => hk.2) (.string (⟨#[]⟩ : ByteArray))) (fun _ hk => hk.2) (.slice Ao22 y261.length co22)) (fun _ h_ => h_.1)))); (case side2 => exact (Kd.R_reads' HO263.out).2.1); rintro e w25 ⟨rfl, hb⟩; refine ⟨_, rfl, ?_⟩; have n0_ := Aside0.mk (Kd.R_below (by (with_reducible repeat (first | apply Kd.R_alloc | apply Kd.R_drewN | apply Kd.R_drew)); exact (Kd.R_mono (Kd.R_far (p := ⟨gb264, 4, none⟩) (Kd.R_far (p := ⟨gb264, 3, none⟩) (Kd.R_far (p := ⟨gb264, 2, none⟩) (Kd.R_far (p := ⟨gb264, 1, none⟩) (Kd.R_far (p := ⟨gb264, 0, none⟩) (Kd.R_types HO263.out BK264.out (by decide)) (fun _ hk => hk.2) (.int .u32 3)) (fun _ hk => hk.2) (.int .u64 0)) (fun _ hk => hk.2) (.int .i64 2)) (fun _ hk => hk.2) (.string (⟨#[]⟩ : ByteArray))) (fun _ hk => hk.2) (.slice Ao22 y261.length co22)) (fun _ h_ => h_.1))) hb); have n1_ := Aside0.mk (blk_below (g := gb264) (o := .cells #[.int .u32 3, .int .u64 0, .int .i64 2, .string (⟨#[]⟩ : ByteArray), .slice Ao22 y261.length co22] 28 (0, 0)) (by (with_reducible repeat (first | refine blk_drewN ?_ _ | refine blk_drew ?_ | refine blk_alloc ?_ _)); refine blk_put (cs := #[.int .u32 3, .int .u64 0, .int .i64 2, .string (⟨#[]⟩ : ByteArray), .slice none 0 0]) ?_ 4 _ rfl; (with_reducible repeat (first | refine blk_drewN ?_ _ | refine blk_drew ?_ | refine blk_alloc ?_ _)); refine blk_put (cs := #[.int .u32 3, .int .u64 0, .int .i64 2, .string (⟨#[]⟩ : ByteArray), .slice none 0 0]) ?_ 3 _ rfl; (with_reducible repeat (first | refine blk_drewN ?_ _ | refine blk_drew ?_ | refine blk_alloc ?_ _)); refine blk_put (cs := #[.int .u32 3, .int .u64 0, .int .i64 0, .string (⟨#[]⟩ : ByteArray), .slice none 0 0]) ?_ 2 _ rfl; (with_reducible repeat (first | refine blk_drewN ?_ _ | refine blk_drew ?_ | refine blk_alloc ?_ _)); refine blk_put (cs := #[.int .u32 3, .int .u64 0, .int .i64 0, .string (⟨#[]⟩ : ByteArray), .slice none 0 0]) ?_ 1 _ rfl; (with_reducible repeat (first | refine blk_drewN ?_ _ | refine blk_drew ?_ | refine blk_alloc ?_ _)); refine blk_put (cs := #[.int .u32 0, .int .u64 0, .int .i64 0, .string (⟨#[]⟩ : ByteArray), .slice none 0 0]) ?_ 0 _ rfl; (with_reducible repeat (first | refine blk_drewN ?_ _ | refine blk_drew ?_ | refine blk_alloc ?_ _)); exact BK264.out) hb); have n2_ := Aside0.mk (below_step (by repeat (first | (with_reducible first | exact HB.out | apply below_alloc | apply pw_below_drewN | apply below_drew1 | refine below_set ?_ GE264.out) | exact HB.out)) hb); clear HO263; clear BK264; clear HB; have HO263 := n0_; have BK264 := n1_; have HB := n2_; clear n0_ n1_ n2_; (try clear hb); (try clear hb2); (try clear hk); (try clear hi)) | ((with_reducible refine gate_callee (f := 11) rfl ?_); refine goesL_ (some 15) rfl rfl Try.func11 (by kernel_rfl) rfl #[.string t265] rfl (by (try simp only [List.map_toArray, List.map_cons, List.map_nil]); first | done | rfl | (simp only [List.length_drop, List.length_take]; rfl)) ?_; (with_reducible refine (page_Decode.calls k t265 t267 t268 t269 t270 t271 t274 _ A2.out).mono ?_); rintro e w26 ⟨v272, rfl, ho0, hb⟩; refine ⟨_, rfl, ?_⟩; have n0_ := Aside0.mk (Kd.R_elder' (by (with_reducible repeat (first | apply Kd.R_alloc | apply Kd.R_drewN | apply Kd.R_drew)); exact HO263.out) (Kd.R_base ho0) hb); have n1_ := Aside0.mk (Kd.R_lower (Kd.R_new' ho0 (Kd.R_lt (by (with_reducible repeat (first | apply Kd.R_alloc | apply Kd.R_drewN | apply Kd.R_drew)); exact HO263.out))) (below_size (by repeat (first | (with_reducible first | exact HB.out | apply below_alloc | apply pw_below_drewN | apply below_drew1 | refine below_set ?_ GE264.out) | exact HB.out)))); have n2_ := Aside0.mk (blk_below (g := gb264) (o := .cells #[.int .u32 3, .int .u64 0, .int .i64 2, .string (⟨#[]⟩ : ByteArray), .slice Ao22 y261.length co22] 28 (0, 0)) (by (with_reducible repeat (first | refine blk_drewN ?_ _ | refine blk_drew ?_ | refine blk_alloc ?_ _)); exact BK264.out) hb); have n3_ := Aside0.mk (below_step (by repeat (first | (with_reducible first | exact HB.out | apply below_alloc | apply pw_below_drewN | apply below_drew1 | refine below_set ?_ GE264.out) | exact HB.out)) hb); clear HO263; clear BK264; clear HB; have HO263 := n0_; have HO273 := n1_; have BK264 := n2_; have HB := n3_; clear n0_ n1_ n2_ n3_; (try clear hb); (try clear hb2); (try clear hk); (try clear hi); (try clear ho0)) | ((with_reducible refine gate_dst (N := 4) rfl ?_); (try (refine gate_guard (by rfl) ?_; dsimp only)); refine box_event ?hg (N := 4) ?hd (cs := #[.int .u32 0, .int .u64 0, .int .i64 0, .string (⟨#[]⟩ : ByteArray), .slice none 0 0]) (t := 28) ?hr ?_; (case hd => rfl); (case hg => rfl); (case hr => first | (go_simp; done) | (go_simp; rfl)); intro gb275 hg w27 hbox hb; have n0_ := Aside0.mk (Kd.R_below (by (with_reducible repeat (first | apply Kd.R_alloc | apply Kd.R_drewN | apply Kd.R_drew)); exact HO263.out) hb); have n1_ := Aside0.mk (Kd.R_below (by (with_reducible repeat (first | apply Kd.R_alloc | apply Kd.R_drewN | apply Kd.R_drew)); exact HO273.out) hb); have n2_ := Aside0.mk (blk_below (g := gb264) (o := .cells #[.int .u32 3, .int .u64 0, .int .i64 2, .string (⟨#[]⟩ : ByteArray), .slice Ao22 y261.length co22] 28 (0, 0)) (by (with_reducible repeat (first | refine blk_drewN ?_ _ | refine blk_drew ?_ | refine blk_alloc ?_ _)); exact BK264.out) hb); have n3_ := Aside0.mk (below_step (by repeat (first | (with_reducible first | exact HB.out | apply below_alloc | apply pw_below_drewN | apply below_drew1 | refine below_set ?_ GE264.out) | exact HB.out)) hb); have n4_ := Aside0.mk (hbox); have n5_ := Aside0.mk ((by rw [hg]; exact (below_size (by repeat (first | (with_reducible first | exact HB.out | apply below_alloc | apply pw_below_drewN | apply below_drew1 | refine below_set ?_ GE264.out) | exact HB.out))) : w.heap.size ≤ gb275)); have n6_ := Aside0.mk ((by rw [hg]; exact (below_size (by repeat (first | (with_reducible first | exact HB.out | apply below_alloc | apply pw_below_drewN | apply below_drew1 | refine below_set ?_ GE264.out) | exact HB.out))) : w.heap.size ≤ gb275)); have n7_ := Aside0.mk ((by rw [hg]; exact Nat.ne_of_lt (blk_lt (g := gb264) (o := .cells #[.int .u32 3, .int .u64 0, .int .i64 2, .string (⟨#[]⟩ : ByteArray), .slice Ao22 y261.length co22] 28 (0, 0)) (by (with_reducible repeat (first | refine blk_drewN ?_ _ | refine blk_drew ?_ | refine blk_alloc ?_ _)); exact BK264.out)) : gb264 ≠ gb275)); have n8_ := Aside0.mk ((by rw [hg]; exact Nat.ne_of_gt (blk_lt (g := gb264) (o := .cells #[.int .u32 3, .int .u64 0, .int .i64 2, .string (⟨#[]⟩ : ByteArray), .slice Ao22 y261.length co22] 28 (0, 0)) (by (with_reducible repeat (first | refine blk_drewN ?_ _ | refine blk_drew ?_ | refine blk_alloc ?_ _)); exact BK264.out)) : gb275 ≠ gb264)); clear HO263; clear HO273; clear BK264; clear HB; have HO263 := n0_; have HO273 := n1_; have BK264 := n2_; have HB := n3_; have BK275 := n4_; have GW275 := n5_; have GE275 := n6_; have NB264_275 := n7_; have NB275_264 := n8_; clear n0_ n1_ n2_ n3_ n4_ n5_ n6_ n7_ n8_; clear hb hbox hg; have hnb28 := NB275_264.out; have hnc28 := NB264_275.out; have hcz29_0 : w27.cell? ⟨gb275, 0, none⟩ = some (.int .u32 0) := (blk_cell BK275.out 0).trans rfl; have hcz29_1 : w27.cell? ⟨gb275, 1, none⟩ = some (.int .u64 0) := (blk_cell BK275.out 1).trans rfl; have hcz29_2 : w27.cell? ⟨gb275, 2, none⟩ = some (.int .i64 0) := (blk_cell BK275.out 2).trans rfl; have hcz29_3 : w27.cell? ⟨gb275, 3, none⟩ = some (.string (⟨#[]⟩ : ByteArray)) := (blk_cell BK275.out 3).trans rfl; have hcz29_4 : w27.cell? ⟨gb275, 4, none⟩ = some (.slice none 0 0) := (blk_cell BK275.out 4).trans rfl; have hfz29_0 := blk_frozen BK275.out 0; have hfz29_1 := blk_frozen BK275.out 1; have hfz29_2 := blk_frozen BK275.out 2; have hfz29_3 := blk_frozen BK275.out 3; have hfz29_4 := blk_frozen BK275.out 4; obtain ⟨Ao30, co30, eo30⟩ := Kd.R_slice HO273.out; subst eo30; have hcz31_0 : w27.cell? ⟨gb264, 0, none⟩ = some (.int .u32 3) := (blk_cell BK264.out 0).trans rfl; have hcz31_1 : w27.cell? ⟨gb264, 1, none⟩ = some (.int .u64 0) := (blk_cell BK264.out 1).trans rfl; have hcz31_2 : w27.cell? ⟨gb264, 2, none⟩ = some (.int .i64 2) := (blk_cell BK264.out 2).trans rfl; have hcz31_3 : w27.cell? ⟨gb264, 3, none⟩ = some (.string (⟨#[]⟩ : ByteArray)) := (blk_cell BK264.out 3).trans rfl; have hcz31_4 : w27.cell? ⟨gb264, 4, none⟩ = some (.slice Ao22 y261.length co22) := (blk_cell BK264.out 4).trans rfl; have hfz31_0 := blk_frozen BK264.out 0; have hfz31_1 := blk_frozen BK264.out 1; have hfz31_2 := blk_frozen BK264.out 2; have hfz31_3 := blk_frozen BK264.out 3; have hfz31_4 := blk_frozen BK264.out 4) | (go_at_call 17; (with_reducible refine (page_Same.calls k 3 0 2 (⟨#[]⟩ : ByteArray) _ _ y261 t267 t268 t269 t270 _ _ t271 false _ ?side1 ?side2 ?side3 ?side4 A5.out).mono ?_); (case side1 => refine (Kd.R_reads' (e := 9) (base := w.heap.size) (ok := fun k_ => (True ∧ some k_ ≠ (.slice Ao30 t271.length co30 : Value).ownBlock)) (n := y261.length) (c := co22) ?_).2.2; exact (by (with_reducible repeat (first | apply Kd.R_alloc | apply Kd.R_drewN | apply Kd.R_drew)); exact (Kd.R_mono (Kd.R_far (p := ⟨gb275, 4, none⟩) (Kd.R_far (p := ⟨gb275, 3, none⟩) (Kd.R_far (p := ⟨gb275, 2, none⟩) (Kd.R_far (p := ⟨gb275, 1, none⟩) (Kd.R_far (p := ⟨gb275, 0, none⟩) (Kd.R_types HO263.out BK275.out (by decide)) (fun _ hk => hk.2) (.int .u32 t267)) (fun _ hk => hk.2) (.int .u64 t268)) (fun _ hk => hk.2) (.int .i64 t269)) (fun _ hk => hk.2) (.string t270)) (fun _ hk => hk.2) (.slice Ao30 t271.length co30)) (fun _ h_ => h_.1)))); (case side2 => exact (Kd.R_reads' HO263.out).2.1); (case side3 => refine (Kd.R_reads' (e := 9) (base := w.heap.size) (ok := fun k_ => (True ∧ some k_ ≠ (.slice Ao22 y261.length co22 : Value).ownBlock)) (n := t271.length) (c := co30) ?_).2.2; exact (by (with_reducible repeat (first | apply Kd.R_alloc | apply Kd.R_drewN | apply Kd.R_drew)); exact (Kd.R_mono (Kd.R_far (p := ⟨gb275, 4, none⟩) (Kd.R_far (p := ⟨gb275, 3, none⟩) (Kd.R_far (p := ⟨gb275, 2, none⟩) (Kd.R_far (p := ⟨gb275, 1, none⟩) (Kd.R_far (p := ⟨gb275, 0, none⟩) (Kd.R_types HO273.out BK275.out (by decide)) (fun _ hk => hk.2) (.int .u32 t267)) (fun _ hk => hk.2) (.int .u64 t268)) (fun _ hk => hk.2) (.int .i64 t269)) (fun _ hk => hk.2) (.string t270)) (fun _ hk => hk.2) (.slice Ao30 t271.length co30)) (fun _ h_ => h_.1)))); (case side4 => exact (Kd.R_reads' HO273.out).2.1); rintro e w32 ⟨rfl, hb⟩; have n0_ := Aside0.mk (Kd.R_below (by (with_reducible repeat (first | apply Kd.R_alloc | apply Kd.R_drewN | apply Kd.R_drew)); exact (Kd.R_mono (Kd.R_far (p := ⟨gb275, 4, none⟩) (Kd.R_far (p := ⟨gb275, 3, none⟩) (Kd.R_far (p := ⟨gb275, 2, none⟩) (Kd.R_far (p := ⟨gb275, 1, none⟩) (Kd.R_far (p := ⟨gb275, 0, none⟩) (Kd.R_types HO263.out BK275.out (by decide)) (fun _ hk => hk.2) (.int .u32 t267)) (fun _ hk => hk.2) (.int .u64 t268)) (fun _ hk => hk.2) (.int .i64 t269)) (fun _ hk => hk.2) (.string t270)) (fun _ hk => hk.2) (.slice Ao30 t271.length co30)) (fun _ h_ => h_.1))) hb); have n1_ := Aside0.mk (Kd.R_below (by (with_reducible repeat (first | apply Kd.R_alloc | apply Kd.R_drewN | apply Kd.R_drew)); exact (Kd.R_mono (Kd.R_far (p := ⟨gb275, 4, none⟩) (Kd.R_far (p := ⟨gb275, 3, none⟩) (Kd.R_far (p := ⟨gb275, 2, none⟩) (Kd.R_far (p := ⟨gb275, 1, none⟩) (Kd.R_far (p := ⟨gb275, 0, none⟩) (Kd.R_types HO273.out BK275.out (by decide)) (fun _ hk => hk.2) (.int .u32 t267)) (fun _ hk => hk.2) (.int .u64 t268)) (fun _ hk => hk.2) (.int .i64 t269)) (fun _ hk => hk.2) (.string t270)) (fun _ hk => hk.2) (.slice Ao30 t271.length co30)) (fun _ h_ => h_.1))) hb); have n2_ := Aside0.mk (blk_below (g := gb264) (o := .cells #[.int .u32 3, .int .u64 0, .int .i64 2, .string (⟨#[]⟩ : ByteArray), .slice Ao22 y261.length co22] 28 (0, 0)) (by (with_reducible repeat (first | refine blk_drewN ?_ _ | refine blk_drew ?_ | refine blk_alloc ?_ _)); refine blk_far ?_ NB264_275.out _; (with_reducible repeat (first | refine blk_drewN ?_ _ | refine blk_drew ?_ | refine blk_alloc ?_ _)); refine blk_far ?_ NB264_275.out _; (with_reducible repeat (first | refine blk_drewN ?_ _ | refine blk_drew ?_ | refine blk_alloc ?_ _)); refine blk_far ?_ NB264_275.out _; (with_reducible repeat (first | refine blk_drewN ?_ _ | refine blk_drew ?_ | refine blk_alloc ?_ _)); refine blk_far ?_ NB264_275.out _; (with_reducible repeat (first | refine blk_drewN ?_ _ | refine blk_drew ?_ | refine blk_alloc ?_ _)); refine blk_far ?_ NB264_275.out _; (with_reducible repeat (first | refine blk_drewN ?_ _ | refine blk_drew ?_ | refine blk_alloc ?_ _)); exact BK264.out) hb); have n3_ := Aside0.mk (blk_below (g := gb275) (o := .cells #[.int .u32 t267, .int .u64 t268, .int .i64 t269, .string t270, .slice Ao30 t271.length co30] 28 (0, 0)) (by (with_reducible repeat (first | refine blk_drewN ?_ _ | refine blk_drew ?_ | refine blk_alloc ?_ _)); refine blk_put (cs := #[.int .u32 t267, .int .u64 t268, .int .i64 t269, .string t270, .slice none 0 0]) ?_ 4 _ rfl; (with_reducible repeat (first | refine blk_drewN ?_ _ | refine blk_drew ?_ | refine blk_alloc ?_ _)); refine blk_put (cs := #[.int .u32 t267, .int .u64 t268, .int .i64 t269, .string (⟨#[]⟩ : ByteArray), .slice none 0 0]) ?_ 3 _ rfl; (with_reducible repeat (first | refine blk_drewN ?_ _ | refine blk_drew ?_ | refine blk_alloc ?_ _)); refine blk_put (cs := #[.int .u32 t267, .int .u64 t268, .int .i64 0, .string (⟨#[]⟩ : ByteArray), .slice none 0 0]) ?_ 2 _ rfl; (with_reducible repeat (first | refine blk_drewN ?_ _ | refine blk_drew ?_ | refine blk_alloc ?_ _)); refine blk_put (cs := #[.int .u32 t267, .int .u64 0, .int .i64 0, .string (⟨#[]⟩ : ByteArray), .slice none 0 0]) ?_ 1 _ rfl; (with_reducible repeat (first | refine blk_drewN ?_ _ | refine blk_drew ?_ | refine blk_alloc ?_ _)); refine blk_put (cs := #[.int .u32 0, .int .u64 0, .int .i64 0, .string (⟨#[]⟩ : ByteArray), .slice none 0 0]) ?_ 0 _ rfl; (with_reducible repeat (first | refine blk_drewN ?_ _ | refine blk_drew ?_ | refine blk_alloc ?_ _)); exact BK275.out) hb); have n4_ := Aside0.mk (below_step (by repeat (first | (with_reducible first | exact HB.out | apply below_alloc | apply pw_below_drewN | apply below_drew1 | refine below_set ?_ GE264.out | refine below_set ?_ GE275.out) | exact HB.out)) hb); clear HO263; clear HO273; clear BK264; clear BK275; clear HB; have HO263 := n0_; have HO273 := n1_; have BK264 := n2_; have BK275 := n3_; have HB := n4_; clear n0_ n1_ n2_ n3_ n4_; (try clear hb); (try clear hb2); (try clear hk); (try clear hi)))
    go_ret
    exact ⟨by first | rfl | (simp [errW_none, errW_some] <;> rfl) | (simp [*, errW_none, errW_some] <;> rfl), by repeat (first | (with_reducible first | exact HB.out | apply below_alloc | apply pw_below_drewN | apply below_drew1 | refine below_set ?_ GE264.out | refine below_set ?_ GE275.out) | exact HB.out)⟩
  ·rw [if_neg c4] at H
   have c4b0 : (t274 == 0) = false := beq_eq_false_iff_ne.mpr c4
   have c4b1 : (t274 != 0) = true := bne_iff_ne.mpr c4
   obtain rfl := Option.some.inj H
   go_enter Try.func13, Try.ntmps13
   go_wp2_with (first | ((with_reducible refine gate_dst (N := 6) rfl ?_); (try (refine gate_guard (by rfl) ?_; dsimp only)); refine Kd.R_lit Kd.string _ 9 ?hg (N := 6) ?hd (xs := ([(⟨#[97]⟩ : ByteArray)] : List ByteArray)) (inner := [.string (⟨#[97]⟩ : ByteArray)]) (ok := fun _ => True) (okp := fun _ => True) ?hr ?hp (fun _ hk => hk) trivial (Below.refl _ _) (Nat.le_refl _) (by simp) ?_; (case hd => rfl); (case hg => rfl); (case hr => first | (go_simp; done) | (go_simp; rfl)); (case hp => exact (Reps.one (show Kd.M Kd.string _ _ _ (⟨#[97]⟩ : ByteArray) [.string (⟨#[97]⟩ : ByteArray)] from rfl) (Reps.none _ _))); intro v262 w33 ho34 hb hg_ hnew_; clear hg_ hnew_; (first | rw [← Ny261.out] at ho34 | (simp only [Int.reduceToNat] at ho34; rw [← Ny261.out] at ho34)); have n0_ := Aside0.mk (Kd.R_lower ho34 (below_size (by repeat (first | (with_reducible first | exact HB.out | apply below_alloc | apply pw_below_drewN | apply below_drew1) | exact HB.out)))); have n1_ := Aside0.mk (below_step (by repeat (first | (with_reducible first | exact HB.out | apply below_alloc | apply pw_below_drewN | apply below_drew1) | exact HB.out)) hb); clear HB; have HO263 := n0_; have HB := n1_; clear n0_ n1_; clear hb ho34; obtain ⟨Ao35, co35, eo35⟩ := Kd.R_slice HO263.out; subst eo35) | ((with_reducible refine gate_dst (N := 1) rfl ?_); (try (refine gate_guard (by rfl) ?_; dsimp only)); refine box_event ?hg (N := 1) ?hd (cs := #[.int .u32 0, .int .u64 0, .int .i64 0, .string (⟨#[]⟩ : ByteArray), .slice none 0 0]) (t := 28) ?hr ?_; (case hd => rfl); (case hg => rfl); (case hr => first | (go_simp; done) | (go_simp; rfl)); intro gb264 hg w36 hbox hb; have n0_ := Aside0.mk (Kd.R_below (by (with_reducible repeat (first | apply Kd.R_alloc | apply Kd.R_drewN | apply Kd.R_drew)); exact HO263.out) hb); have n1_ := Aside0.mk (below_step (by repeat (first | (with_reducible first | exact HB.out | apply below_alloc | apply pw_below_drewN | apply below_drew1) | exact HB.out)) hb); have n2_ := Aside0.mk (hbox); have n3_ := Aside0.mk ((by rw [hg]; exact (below_size (by repeat (first | (with_reducible first | exact HB.out | apply below_alloc | apply pw_below_drewN | apply below_drew1) | exact HB.out))) : w.heap.size ≤ gb264)); have n4_ := Aside0.mk ((by rw [hg]; exact (below_size (by repeat (first | (with_reducible first | exact HB.out | apply below_alloc | apply pw_below_drewN | apply below_drew1) | exact HB.out))) : w.heap.size ≤ gb264)); clear HO263; clear HB; have HO263 := n0_; have HB := n1_; have BK264 := n2_; have GW264 := n3_; have GE264 := n4_; clear n0_ n1_ n2_ n3_ n4_; clear hb hbox hg; have hcz37_0 : w36.cell? ⟨gb264, 0, none⟩ = some (.int .u32 0) := (blk_cell BK264.out 0).trans rfl; have hcz37_1 : w36.cell? ⟨gb264, 1, none⟩ = some (.int .u64 0) := (blk_cell BK264.out 1).trans rfl; have hcz37_2 : w36.cell? ⟨gb264, 2, none⟩ = some (.int .i64 0) := (blk_cell BK264.out 2).trans rfl; have hcz37_3 : w36.cell? ⟨gb264, 3, none⟩ = some (.string (⟨#[]⟩ : ByteArray)) := (blk_cell BK264.out 3).trans rfl; have hcz37_4 : w36.cell? ⟨gb264, 4, none⟩ = some (.slice none 0 0) := (blk_cell BK264.out 4).trans rfl; have hfz37_0 := blk_frozen BK264.out 0; have hfz37_1 := blk_frozen BK264.out 1; have hfz37_2 := blk_frozen BK264.out 2; have hfz37_3 := blk_frozen BK264.out 3; have hfz37_4 := blk_frozen BK264.out 4) | ((with_reducible refine gate_callee (f := 8) rfl ?_); refine goesL_ (some 10) rfl rfl Try.func8 (by kernel_rfl) rfl #[.agg #[.int .u32 3, .int .u64 0, .int .i64 2, .string (⟨#[]⟩ : ByteArray), .slice Ao35 y261.length co35]] rfl (by (try simp only [List.map_toArray, List.map_cons, List.map_nil]); first | done | rfl | (simp only [List.length_drop, List.length_take]; rfl)) ?_; (with_reducible refine (page_Encode.calls 3 0 2 (⟨#[]⟩ : ByteArray) _ _ y261 t265 t266 _ ?side1 ?side2 A1.out).mono ?_); (case side1 => refine (Kd.R_reads' (e := 9) (base := w.heap.size) (ok := fun k_ => True) (n := y261.length) (c := co35) ?_).2.2; exact (by (with_reducible repeat (first | apply Kd.R_alloc | apply Kd.R_drewN | apply Kd.R_drew)); exact (Kd.R_mono (Kd.R_far (p := ⟨gb264, 4, none⟩) (Kd.R_far (p := ⟨gb264, 3, none⟩) (Kd.R_far (p := ⟨gb264, 2, none⟩) (Kd.R_far (p := ⟨gb264, 1, none⟩) (Kd.R_far (p := ⟨gb264, 0, none⟩) (Kd.R_types HO263.out BK264.out (by decide)) (fun _ hk => hk.2) (.int .u32 3)) (fun _ hk => hk.2) (.int .u64 0)) (fun _ hk => hk.2) (.int .i64 2)) (fun _ hk => hk.2) (.string (⟨#[]⟩ : ByteArray))) (fun _ hk => hk.2) (.slice Ao35 y261.length co35)) (fun _ h_ => h_.1)))); (case side2 => exact (Kd.R_reads' HO263.out).2.1); rintro e w38 ⟨rfl, hb⟩; refine ⟨_, rfl, ?_⟩; have n0_ := Aside0.mk (Kd.R_below (by (with_reducible repeat (first | apply Kd.R_alloc | apply Kd.R_drewN | apply Kd.R_drew)); exact (Kd.R_mono (Kd.R_far (p := ⟨gb264, 4, none⟩) (Kd.R_far (p := ⟨gb264, 3, none⟩) (Kd.R_far (p := ⟨gb264, 2, none⟩) (Kd.R_far (p := ⟨gb264, 1, none⟩) (Kd.R_far (p := ⟨gb264, 0, none⟩) (Kd.R_types HO263.out BK264.out (by decide)) (fun _ hk => hk.2) (.int .u32 3)) (fun _ hk => hk.2) (.int .u64 0)) (fun _ hk => hk.2) (.int .i64 2)) (fun _ hk => hk.2) (.string (⟨#[]⟩ : ByteArray))) (fun _ hk => hk.2) (.slice Ao35 y261.length co35)) (fun _ h_ => h_.1))) hb); have n1_ := Aside0.mk (blk_below (g := gb264) (o := .cells #[.int .u32 3, .int .u64 0, .int .i64 2, .string (⟨#[]⟩ : ByteArray), .slice Ao35 y261.length co35] 28 (0, 0)) (by (with_reducible repeat (first | refine blk_drewN ?_ _ | refine blk_drew ?_ | refine blk_alloc ?_ _)); refine blk_put (cs := #[.int .u32 3, .int .u64 0, .int .i64 2, .string (⟨#[]⟩ : ByteArray), .slice none 0 0]) ?_ 4 _ rfl; (with_reducible repeat (first | refine blk_drewN ?_ _ | refine blk_drew ?_ | refine blk_alloc ?_ _)); refine blk_put (cs := #[.int .u32 3, .int .u64 0, .int .i64 2, .string (⟨#[]⟩ : ByteArray), .slice none 0 0]) ?_ 3 _ rfl; (with_reducible repeat (first | refine blk_drewN ?_ _ | refine blk_drew ?_ | refine blk_alloc ?_ _)); refine blk_put (cs := #[.int .u32 3, .int .u64 0, .int .i64 0, .string (⟨#[]⟩ : ByteArray), .slice none 0 0]) ?_ 2 _ rfl; (with_reducible repeat (first | refine blk_drewN ?_ _ | refine blk_drew ?_ | refine blk_alloc ?_ _)); refine blk_put (cs := #[.int .u32 3, .int .u64 0, .int .i64 0, .string (⟨#[]⟩ : ByteArray), .slice none 0 0]) ?_ 1 _ rfl; (with_reducible repeat (first | refine blk_drewN ?_ _ | refine blk_drew ?_ | refine blk_alloc ?_ _)); refine blk_put (cs := #[.int .u32 0, .int .u64 0, .int .i64 0, .string (⟨#[]⟩ : ByteArray), .slice none 0 0]) ?_ 0 _ rfl; (with_reducible repeat (first | refine blk_drewN ?_ _ | refine blk_drew ?_ | refine blk_alloc ?_ _)); exact BK264.out) hb); have n2_ := Aside0.mk (below_step (by repeat (first | (with_reducible first | exact HB.out | apply below_alloc | apply pw_below_drewN | apply below_drew1 | refine below_set ?_ GE264.out) | exact HB.out)) hb); clear HO263; clear BK264; clear HB; have HO263 := n0_; have BK264 := n1_; have HB := n2_; clear n0_ n1_ n2_; (try clear hb); (try clear hb2); (try clear hk); (try clear hi)) | ((with_reducible refine gate_callee (f := 11) rfl ?_); refine goesL_ (some 15) rfl rfl Try.func11 (by kernel_rfl) rfl #[.string t265] rfl (by (try simp only [List.map_toArray, List.map_cons, List.map_nil]); first | done | rfl | (simp only [List.length_drop, List.length_take]; rfl)) ?_; (with_reducible refine (page_Decode.calls k t265 t267 t268 t269 t270 t271 t274 _ A2.out).mono ?_); rintro e w39 ⟨v272, rfl, ho0, hb⟩; refine ⟨_, rfl, ?_⟩; have n0_ := Aside0.mk (Kd.R_elder' (by (with_reducible repeat (first | apply Kd.R_alloc | apply Kd.R_drewN | apply Kd.R_drew)); exact HO263.out) (Kd.R_base ho0) hb); have n1_ := Aside0.mk (Kd.R_lower (Kd.R_new' ho0 (Kd.R_lt (by (with_reducible repeat (first | apply Kd.R_alloc | apply Kd.R_drewN | apply Kd.R_drew)); exact HO263.out))) (below_size (by repeat (first | (with_reducible first | exact HB.out | apply below_alloc | apply pw_below_drewN | apply below_drew1 | refine below_set ?_ GE264.out) | exact HB.out)))); have n2_ := Aside0.mk (blk_below (g := gb264) (o := .cells #[.int .u32 3, .int .u64 0, .int .i64 2, .string (⟨#[]⟩ : ByteArray), .slice Ao35 y261.length co35] 28 (0, 0)) (by (with_reducible repeat (first | refine blk_drewN ?_ _ | refine blk_drew ?_ | refine blk_alloc ?_ _)); exact BK264.out) hb); have n3_ := Aside0.mk (below_step (by repeat (first | (with_reducible first | exact HB.out | apply below_alloc | apply pw_below_drewN | apply below_drew1 | refine below_set ?_ GE264.out) | exact HB.out)) hb); clear HO263; clear BK264; clear HB; have HO263 := n0_; have HO273 := n1_; have BK264 := n2_; have HB := n3_; clear n0_ n1_ n2_ n3_; (try clear hb); (try clear hb2); (try clear hk); (try clear hi); (try clear ho0)) | ((with_reducible refine gate_dst (N := 4) rfl ?_); (try (refine gate_guard (by rfl) ?_; dsimp only)); refine box_event ?hg (N := 4) ?hd (cs := #[.int .u32 0, .int .u64 0, .int .i64 0, .string (⟨#[]⟩ : ByteArray), .slice none 0 0]) (t := 28) ?hr ?_; (case hd => rfl); (case hg => rfl); (case hr => first | (go_simp; done) | (go_simp; rfl)); intro gb275 hg w40 hbox hb; have n0_ := Aside0.mk (Kd.R_below (by (with_reducible repeat (first | apply Kd.R_alloc | apply Kd.R_drewN | apply Kd.R_drew)); exact HO263.out) hb); have n1_ := Aside0.mk (Kd.R_below (by (with_reducible repeat (first | apply Kd.R_alloc | apply Kd.R_drewN | apply Kd.R_drew)); exact HO273.out) hb); have n2_ := Aside0.mk (blk_below (g := gb264) (o := .cells #[.int .u32 3, .int .u64 0, .int .i64 2, .string (⟨#[]⟩ : ByteArray), .slice Ao35 y261.length co35] 28 (0, 0)) (by (with_reducible repeat (first | refine blk_drewN ?_ _ | refine blk_drew ?_ | refine blk_alloc ?_ _)); exact BK264.out) hb); have n3_ := Aside0.mk (below_step (by repeat (first | (with_reducible first | exact HB.out | apply below_alloc | apply pw_below_drewN | apply below_drew1 | refine below_set ?_ GE264.out) | exact HB.out)) hb); have n4_ := Aside0.mk (hbox); have n5_ := Aside0.mk ((by rw [hg]; exact (below_size (by repeat (first | (with_reducible first | exact HB.out | apply below_alloc | apply pw_below_drewN | apply below_drew1 | refine below_set ?_ GE264.out) | exact HB.out))) : w.heap.size ≤ gb275)); have n6_ := Aside0.mk ((by rw [hg]; exact (below_size (by repeat (first | (with_reducible first | exact HB.out | apply below_alloc | apply pw_below_drewN | apply below_drew1 | refine below_set ?_ GE264.out) | exact HB.out))) : w.heap.size ≤ gb275)); have n7_ := Aside0.mk ((by rw [hg]; exact Nat.ne_of_lt (blk_lt (g := gb264) (o := .cells #[.int .u32 3, .int .u64 0, .int .i64 2, .string (⟨#[]⟩ : ByteArray), .slice Ao35 y261.length co35] 28 (0, 0)) (by (with_reducible repeat (first | refine blk_drewN ?_ _ | refine blk_drew ?_ | refine blk_alloc ?_ _)); exact BK264.out)) : gb264 ≠ gb275)); have n8_ := Aside0.mk ((by rw [hg]; exact Nat.ne_of_gt (blk_lt (g := gb264) (o := .cells #[.int .u32 3, .int .u64 0, .int .i64 2, .string (⟨#[]⟩ : ByteArray), .slice Ao35 y261.length co35] 28 (0, 0)) (by (with_reducible repeat (first | refine blk_drewN ?_ _ | refine blk_drew ?_ | refine blk_alloc ?_ _)); exact BK264.out)) : gb275 ≠ gb264)); clear HO263; clear HO273; clear BK264; clear HB; have HO263 := n0_; have HO273 := n1_; have BK264 := n2_; have HB := n3_; have BK275 := n4_; have GW275 := n5_; have GE275 := n6_; have NB264_275 := n7_; have NB275_264 := n8_; clear n0_ n1_ n2_ n3_ n4_ n5_ n6_ n7_ n8_; clear hb hbox hg; have hnb41 := NB275_264.out; have hnc41 := NB264_275.out; have hcz42_0 : w40.cell? ⟨gb275, 0, none⟩ = some (.int .u32 0) := (blk_cell BK275.out 0).trans rfl; have hcz42_1 : w40.cell? ⟨gb275, 1, none⟩ = some (.int .u64 0) := (blk_cell BK275.out 1).trans rfl; have hcz42_2 : w40.cell? ⟨gb275, 2, none⟩ = some (.int .i64 0) := (blk_cell BK275.out 2).trans rfl; have hcz42_3 : w40.cell? ⟨gb275, 3, none⟩ = some (.string (⟨#[]⟩ : ByteArray)) := (blk_cell BK275.out 3).trans rfl; have hcz42_4 : w40.cell? ⟨gb275, 4, none⟩ = some (.slice none 0 0) := (blk_cell BK275.out 4).trans rfl; have hfz42_0 := blk_frozen BK275.out 0; have hfz42_1 := blk_frozen BK275.out 1; have hfz42_2 := blk_frozen BK275.out 2; have hfz42_3 := blk_frozen BK275.out 3; have hfz42_4 := blk_frozen BK275.out 4; obtain ⟨Ao43, co43, eo43⟩ := Kd.R_slice HO273.out; subst eo43))
   go_ret
   exact ⟨by first | rfl | (simp [errW_none, errW_some] <;> rfl) | (simp [*, errW_none, errW_some] <;> rfl), by repeat (first | (with_reducible first | exact HB.out | apply below_alloc | apply pw_below_drewN | apply below_drew1 | refine below_set ?_ GE264.out | refine below_set ?_ GE275.out) | exact HB.out)⟩
 ·rw [if_neg c3] at H
  have c3b0 : (t266 == 0) = false := beq_eq_false_iff_ne.mpr c3
  have c3b1 : (t266 != 0) = true := bne_iff_ne.mpr c3
  obtain rfl := Option.some.inj H
  go_enter Try.func13, Try.ntmps13
  go_wp2_with (first | ((with_reducible refine gate_dst (N := 6) rfl ?_); (try (refine gate_guard (by rfl) ?_; dsimp only)); refine Kd.R_lit Kd.string _ 9 ?hg (N := 6) ?hd (xs := ([(⟨#[97]⟩ : ByteArray)] : List ByteArray)) (inner := [.string (⟨#[97]⟩ : ByteArray)]) (ok := fun _ => True) (okp := fun _ => True) ?hr ?hp (fun _ hk => hk) trivial (Below.refl _ _) (Nat.le_refl _) (by simp) ?_; (case hd => rfl); (case hg => rfl); (case hr => first | (go_simp; done) | (go_simp; rfl)); (case hp => exact (Reps.one (show Kd.M Kd.string _ _ _ (⟨#[97]⟩ : ByteArray) [.string (⟨#[97]⟩ : ByteArray)] from rfl) (Reps.none _ _))); intro v262 w44 ho45 hb hg_ hnew_; clear hg_ hnew_; (first | rw [← Ny261.out] at ho45 | (simp only [Int.reduceToNat] at ho45; rw [← Ny261.out] at ho45)); have n0_ := Aside0.mk (Kd.R_lower ho45 (below_size (by repeat (first | (with_reducible first | exact HB.out | apply below_alloc | apply pw_below_drewN | apply below_drew1) | exact HB.out)))); have n1_ := Aside0.mk (below_step (by repeat (first | (with_reducible first | exact HB.out | apply below_alloc | apply pw_below_drewN | apply below_drew1) | exact HB.out)) hb); clear HB; have HO263 := n0_; have HB := n1_; clear n0_ n1_; clear hb ho45; obtain ⟨Ao46, co46, eo46⟩ := Kd.R_slice HO263.out; subst eo46) | ((with_reducible refine gate_dst (N := 1) rfl ?_); (try (refine gate_guard (by rfl) ?_; dsimp only)); refine box_event ?hg (N := 1) ?hd (cs := #[.int .u32 0, .int .u64 0, .int .i64 0, .string (⟨#[]⟩ : ByteArray), .slice none 0 0]) (t := 28) ?hr ?_; (case hd => rfl); (case hg => rfl); (case hr => first | (go_simp; done) | (go_simp; rfl)); intro gb264 hg w47 hbox hb; have n0_ := Aside0.mk (Kd.R_below (by (with_reducible repeat (first | apply Kd.R_alloc | apply Kd.R_drewN | apply Kd.R_drew)); exact HO263.out) hb); have n1_ := Aside0.mk (below_step (by repeat (first | (with_reducible first | exact HB.out | apply below_alloc | apply pw_below_drewN | apply below_drew1) | exact HB.out)) hb); have n2_ := Aside0.mk (hbox); have n3_ := Aside0.mk ((by rw [hg]; exact (below_size (by repeat (first | (with_reducible first | exact HB.out | apply below_alloc | apply pw_below_drewN | apply below_drew1) | exact HB.out))) : w.heap.size ≤ gb264)); have n4_ := Aside0.mk ((by rw [hg]; exact (below_size (by repeat (first | (with_reducible first | exact HB.out | apply below_alloc | apply pw_below_drewN | apply below_drew1) | exact HB.out))) : w.heap.size ≤ gb264)); clear HO263; clear HB; have HO263 := n0_; have HB := n1_; have BK264 := n2_; have GW264 := n3_; have GE264 := n4_; clear n0_ n1_ n2_ n3_ n4_; clear hb hbox hg; have hcz48_0 : w47.cell? ⟨gb264, 0, none⟩ = some (.int .u32 0) := (blk_cell BK264.out 0).trans rfl; have hcz48_1 : w47.cell? ⟨gb264, 1, none⟩ = some (.int .u64 0) := (blk_cell BK264.out 1).trans rfl; have hcz48_2 : w47.cell? ⟨gb264, 2, none⟩ = some (.int .i64 0) := (blk_cell BK264.out 2).trans rfl; have hcz48_3 : w47.cell? ⟨gb264, 3, none⟩ = some (.string (⟨#[]⟩ : ByteArray)) := (blk_cell BK264.out 3).trans rfl; have hcz48_4 : w47.cell? ⟨gb264, 4, none⟩ = some (.slice none 0 0) := (blk_cell BK264.out 4).trans rfl; have hfz48_0 := blk_frozen BK264.out 0; have hfz48_1 := blk_frozen BK264.out 1; have hfz48_2 := blk_frozen BK264.out 2; have hfz48_3 := blk_frozen BK264.out 3; have hfz48_4 := blk_frozen BK264.out 4) | ((with_reducible refine gate_callee (f := 8) rfl ?_); refine goesL_ (some 10) rfl rfl Try.func8 (by kernel_rfl) rfl #[.agg #[.int .u32 3, .int .u64 0, .int .i64 2, .string (⟨#[]⟩ : ByteArray), .slice Ao46 y261.length co46]] rfl (by (try simp only [List.map_toArray, List.map_cons, List.map_nil]); first | done | rfl | (simp only [List.length_drop, List.length_take]; rfl)) ?_; (with_reducible refine (page_Encode.calls 3 0 2 (⟨#[]⟩ : ByteArray) _ _ y261 t265 t266 _ ?side1 ?side2 A1.out).mono ?_); (case side1 => refine (Kd.R_reads' (e := 9) (base := w.heap.size) (ok := fun k_ => True) (n := y261.length) (c := co46) ?_).2.2; exact (by (with_reducible repeat (first | apply Kd.R_alloc | apply Kd.R_drewN | apply Kd.R_drew)); exact (Kd.R_mono (Kd.R_far (p := ⟨gb264, 4, none⟩) (Kd.R_far (p := ⟨gb264, 3, none⟩) (Kd.R_far (p := ⟨gb264, 2, none⟩) (Kd.R_far (p := ⟨gb264, 1, none⟩) (Kd.R_far (p := ⟨gb264, 0, none⟩) (Kd.R_types HO263.out BK264.out (by decide)) (fun _ hk => hk.2) (.int .u32 3)) (fun _ hk => hk.2) (.int .u64 0)) (fun _ hk => hk.2) (.int .i64 2)) (fun _ hk => hk.2) (.string (⟨#[]⟩ : ByteArray))) (fun _ hk => hk.2) (.slice Ao46 y261.length co46)) (fun _ h_ => h_.1)))); (case side2 => exact (Kd.R_reads' HO263.out).2.1); rintro e w49 ⟨rfl, hb⟩; refine ⟨_, rfl, ?_⟩; have n0_ := Aside0.mk (Kd.R_below (by (with_reducible repeat (first | apply Kd.R_alloc | apply Kd.R_drewN | apply Kd.R_drew)); exact (Kd.R_mono (Kd.R_far (p := ⟨gb264, 4, none⟩) (Kd.R_far (p := ⟨gb264, 3, none⟩) (Kd.R_far (p := ⟨gb264, 2, none⟩) (Kd.R_far (p := ⟨gb264, 1, none⟩) (Kd.R_far (p := ⟨gb264, 0, none⟩) (Kd.R_types HO263.out BK264.out (by decide)) (fun _ hk => hk.2) (.int .u32 3)) (fun _ hk => hk.2) (.int .u64 0)) (fun _ hk => hk.2) (.int .i64 2)) (fun _ hk => hk.2) (.string (⟨#[]⟩ : ByteArray))) (fun _ hk => hk.2) (.slice Ao46 y261.length co46)) (fun _ h_ => h_.1))) hb); have n1_ := Aside0.mk (blk_below (g := gb264) (o := .cells #[.int .u32 3, .int .u64 0, .int .i64 2, .string (⟨#[]⟩ : ByteArray), .slice Ao46 y261.length co46] 28 (0, 0)) (by (with_reducible repeat (first | refine blk_drewN ?_ _ | refine blk_drew ?_ | refine blk_alloc ?_ _)); refine blk_put (cs := #[.int .u32 3, .int .u64 0, .int .i64 2, .string (⟨#[]⟩ : ByteArray), .slice none 0 0]) ?_ 4 _ rfl; (with_reducible repeat (first | refine blk_drewN ?_ _ | refine blk_drew ?_ | refine blk_alloc ?_ _)); refine blk_put (cs := #[.int .u32 3, .int .u64 0, .int .i64 2, .string (⟨#[]⟩ : ByteArray), .slice none 0 0]) ?_ 3 _ rfl; (with_reducible repeat (first | refine blk_drewN ?_ _ | refine blk_drew ?_ | refine blk_alloc ?_ _)); refine blk_put (cs := #[.int .u32 3, .int .u64 0, .int .i64 0, .string (⟨#[]⟩ : ByteArray), .slice none 0 0]) ?_ 2 _ rfl; (with_reducible repeat (first | refine blk_drewN ?_ _ | refine blk_drew ?_ | refine blk_alloc ?_ _)); refine blk_put (cs := #[.int .u32 3, .int .u64 0, .int .i64 0, .string (⟨#[]⟩ : ByteArray), .slice none 0 0]) ?_ 1 _ rfl; (with_reducible repeat (first | refine blk_drewN ?_ _ | refine blk_drew ?_ | refine blk_alloc ?_ _)); refine blk_put (cs := #[.int .u32 0, .int .u64 0, .int .i64 0, .string (⟨#[]⟩ : ByteArray), .slice none 0 0]) ?_ 0 _ rfl; (with_reducible repeat (first | refine blk_drewN ?_ _ | refine blk_drew ?_ | refine blk_alloc ?_ _)); exact BK264.out) hb); have n2_ := Aside0.mk (below_step (by repeat (first | (with_reducible first | exact HB.out | apply below_alloc | apply pw_below_drewN | apply below_drew1 | refine below_set ?_ GE264.out) | exact HB.out)) hb); clear HO263; clear BK264; clear HB; have HO263 := n0_; have BK264 := n1_; have HB := n2_; clear n0_ n1_ n2_; (try clear hb); (try clear hb2); (try clear hk); (try clear hi)) | ((with_reducible refine gate_callee (f := 11) rfl ?_); refine goesL_ (some 15) rfl rfl Try.func11 (by kernel_rfl) rfl #[.string t265] rfl (by (try simp only [List.map_toArray, List.map_cons, List.map_nil]); first | done | rfl | (simp only [List.length_drop, List.length_take]; rfl)) ?_; (with_reducible refine (page_Decode.calls k t265 t267 t268 t269 t270 t271 t274 _ A2.out).mono ?_); rintro e w50 ⟨v272, rfl, ho0, hb⟩; refine ⟨_, rfl, ?_⟩; have n0_ := Aside0.mk (Kd.R_elder' (by (with_reducible repeat (first | apply Kd.R_alloc | apply Kd.R_drewN | apply Kd.R_drew)); exact HO263.out) (Kd.R_base ho0) hb); have n1_ := Aside0.mk (Kd.R_lower (Kd.R_new' ho0 (Kd.R_lt (by (with_reducible repeat (first | apply Kd.R_alloc | apply Kd.R_drewN | apply Kd.R_drew)); exact HO263.out))) (below_size (by repeat (first | (with_reducible first | exact HB.out | apply below_alloc | apply pw_below_drewN | apply below_drew1 | refine below_set ?_ GE264.out) | exact HB.out)))); have n2_ := Aside0.mk (blk_below (g := gb264) (o := .cells #[.int .u32 3, .int .u64 0, .int .i64 2, .string (⟨#[]⟩ : ByteArray), .slice Ao46 y261.length co46] 28 (0, 0)) (by (with_reducible repeat (first | refine blk_drewN ?_ _ | refine blk_drew ?_ | refine blk_alloc ?_ _)); exact BK264.out) hb); have n3_ := Aside0.mk (below_step (by repeat (first | (with_reducible first | exact HB.out | apply below_alloc | apply pw_below_drewN | apply below_drew1 | refine below_set ?_ GE264.out) | exact HB.out)) hb); clear HO263; clear BK264; clear HB; have HO263 := n0_; have HO273 := n1_; have BK264 := n2_; have HB := n3_; clear n0_ n1_ n2_ n3_; (try clear hb); (try clear hb2); (try clear hk); (try clear hi); (try clear ho0)) | ((with_reducible refine gate_dst (N := 4) rfl ?_); (try (refine gate_guard (by rfl) ?_; dsimp only)); refine box_event ?hg (N := 4) ?hd (cs := #[.int .u32 0, .int .u64 0, .int .i64 0, .string (⟨#[]⟩ : ByteArray), .slice none 0 0]) (t := 28) ?hr ?_; (case hd => rfl); (case hg => rfl); (case hr => first | (go_simp; done) | (go_simp; rfl)); intro gb275 hg w51 hbox hb; have n0_ := Aside0.mk (Kd.R_below (by (with_reducible repeat (first | apply Kd.R_alloc | apply Kd.R_drewN | apply Kd.R_drew)); exact HO263.out) hb); have n1_ := Aside0.mk (Kd.R_below (by (with_reducible repeat (first | apply Kd.R_alloc | apply Kd.R_drewN | apply Kd.R_drew)); exact HO273.out) hb); have n2_ := Aside0.mk (blk_below (g := gb264) (o := .cells #[.int .u32 3, .int .u64 0, .int .i64 2, .string (⟨#[]⟩ : ByteArray), .slice Ao46 y261.length co46] 28 (0, 0)) (by (with_reducible repeat (first | refine blk_drewN ?_ _ | refine blk_drew ?_ | refine blk_alloc ?_ _)); exact BK264.out) hb); have n3_ := Aside0.mk (below_step (by repeat (first | (with_reducible first | exact HB.out | apply below_alloc | apply pw_below_drewN | apply below_drew1 | refine below_set ?_ GE264.out) | exact HB.out)) hb); have n4_ := Aside0.mk (hbox); have n5_ := Aside0.mk ((by rw [hg]; exact (below_size (by repeat (first | (with_reducible first | exact HB.out | apply below_alloc | apply pw_below_drewN | apply below_drew1 | refine below_set ?_ GE264.out) | exact HB.out))) : w.heap.size ≤ gb275)); have n6_ := Aside0.mk ((by rw [hg]; exact (below_size (by repeat (first | (with_reducible first | exact HB.out | apply below_alloc | apply pw_below_drewN | apply below_drew1 | refine below_set ?_ GE264.out) | exact HB.out))) : w.heap.size ≤ gb275)); have n7_ := Aside0.mk ((by rw [hg]; exact Nat.ne_of_lt (blk_lt (g := gb264) (o := .cells #[.int .u32 3, .int .u64 0, .int .i64 2, .string (⟨#[]⟩ : ByteArray), .slice Ao46 y261.length co46] 28 (0, 0)) (by (with_reducible repeat (first | refine blk_drewN ?_ _ | refine blk_drew ?_ | refine blk_alloc ?_ _)); exact BK264.out)) : gb264 ≠ gb275)); have n8_ := Aside0.mk ((by rw [hg]; exact Nat.ne_of_gt (blk_lt (g := gb264) (o := .cells #[.int .u32 3, .int .u64 0, .int .i64 2, .string (⟨#[]⟩ : ByteArray), .slice Ao46 y261.length co46] 28 (0, 0)) (by (with_reducible repeat (first | refine blk_drewN ?_ _ | refine blk_drew ?_ | refine blk_alloc ?_ _)); exact BK264.out)) : gb275 ≠ gb264)); clear HO263; clear HO273; clear BK264; clear HB; have HO263 := n0_; have HO273 := n1_; have BK264 := n2_; have HB := n3_; have BK275 := n4_; have GW275 := n5_; have GE275 := n6_; have NB264_275 := n7_; have NB275_264 := n8_; clear n0_ n1_ n2_ n3_ n4_ n5_ n6_ n7_ n8_; clear hb hbox hg; have hnb52 := NB275_264.out; have hnc52 := NB264_275.out; have hcz53_0 : w51.cell? ⟨gb275, 0, none⟩ = some (.int .u32 0) := (blk_cell BK275.out 0).trans rfl; have hcz53_1 : w51.cell? ⟨gb275, 1, none⟩ = some (.int .u64 0) := (blk_cell BK275.out 1).trans rfl; have hcz53_2 : w51.cell? ⟨gb275, 2, none⟩ = some (.int .i64 0) := (blk_cell BK275.out 2).trans rfl; have hcz53_3 : w51.cell? ⟨gb275, 3, none⟩ = some (.string (⟨#[]⟩ : ByteArray)) := (blk_cell BK275.out 3).trans rfl; have hcz53_4 : w51.cell? ⟨gb275, 4, none⟩ = some (.slice none 0 0) := (blk_cell BK275.out 4).trans rfl; have hfz53_0 := blk_frozen BK275.out 0; have hfz53_1 := blk_frozen BK275.out 1; have hfz53_2 := blk_frozen BK275.out 2; have hfz53_3 := blk_frozen BK275.out 3; have hfz53_4 := blk_frozen BK275.out 4; obtain ⟨Ao54, co54, eo54⟩ := Kd.R_slice HO273.out; subst eo54))
  go_ret
  exact ⟨by first | rfl | (simp [errW_none, errW_some] <;> rfl) | (simp [*, errW_none, errW_some] <;> rfl), by repeat (first | (with_reducible first | exact HB.out | apply below_alloc | apply pw_below_drewN | apply below_drew1 | refine below_set ?_ GE264.out | refine below_set ?_ GE275.out) | exact HB.out)⟩
end Go.Proofs.Yteokjmjfjdgmpaa.PPg
end
section
namespace Go.Proofs.Yteokjmjfjdgmpaa.PPg
open Go.RowKit Go.Proofs.YteokjmjfjdgmpaaW.PrintWords Go.Proofs.YteokjmjfjdgmpaaW.PrintLast Go.Proofs.YteokjmjfjdgmpaaW.PrintMore
open Go.Gi
set_option linter.unusedVariables false
set_option linter.unusedSimpArgs false
theorem w64 {x : Int} (h : -9223372036854775808 ≤ x ∧ x ≤ 9223372036854775807) : wrap64 x = x := by unfold wrap64; omega
theorem len_sz (s : ByteArray) : s.data.toList.length = s.size := by simp
theorem bs_list (s : ByteArray) : s.toList = s.data.toList := ByteArray.toList_eq s
theorem toList_inj {a b : ByteArray} : a.toList = b.toList ↔ a = b := by
  rw [bs_list, bs_list]
  constructor
  · intro h; rw [← bs_toList a, h, bs_toList]
  · intro h; rw [h]
theorem rNum_ok {L : List UInt8} {a : Nat} {n : Int} (h : 0 ≤ n ∧ n ≤ 8) : rNum L a 0 n = if (L.length : Int) - a < n then (0, a, 4) else (numL ((L.drop a).take n.toNat), a + n.toNat, 0) := by
  unfold rNum; rw [if_neg (by simp), if_neg (by omega)]
theorem rNum_err {L : List UInt8} {a : Nat} {e n : Int} (h : e ≠ 0) : rNum L a e n = (0, a, e) := by unfold rNum; rw [if_pos h]
theorem rTake_err {L : List UInt8} {a : Nat} {e n : Int} (h : e ≠ 0) : rTake L a e n = ([], a, e) := by unfold rTake; rw [if_pos h]
theorem rdNum (s : ByteArray) (a : Nat) (e n : Int) (ha : a ≤ s.size) (hs : s.size ≤ 4000000000000000000) (hn : 0 ≤ n ∧ n ≤ 8) :
    raw_Reader_Number.f s a e n = some (((rNum s.data.toList a e n).1 : Int), s, ((rNum s.data.toList a e n).2.1 : Int), (rNum s.data.toList a e n).2.2) := by
  unfold raw_Reader_Number.f raw_Reader_Err.f
  simp only [Option.bind_some]
  by_cases he : e = 0
  · subst he
    rw [if_pos rfl]
    unfold raw_Get.f
    rw [if_pos ⟨by omega, by omega, by omega⟩]
    simp only [Option.bind_some, Int.toNat_natCast]
    rw [rNum_ok hn, len_sz]
    by_cases hc : (s.size : Int) - a < n
    · rw [if_pos hc]; rfl
    · rw [if_neg hc]
      simp only [if_true]
      rw [w64 (by omega), show ((a : Int) + n) = ((a + n.toNat : Nat) : Int) by omega]
  · rw [if_neg he, rNum_err he]; rfl
theorem rdTake (s : ByteArray) (a : Nat) (e n : Int) (ha : a ≤ s.size) (hs : s.size ≤ 4000000000000000000) (hn : 0 ≤ n ∧ n ≤ 4000000000000000000) :
    raw_Reader_Bytes.f s a e n = some (bs (rTake s.data.toList a e n).1, s, ((rTake s.data.toList a e n).2.1 : Int), (rTake s.data.toList a e n).2.2) := by
  unfold raw_Reader_Bytes.f raw_Reader_Err.f
  simp only [Option.bind_some]
  by_cases he : e = 0
  · subst he
    rw [if_pos rfl, if_neg (by omega)]
    have h1 : wrap64 ((s.size : Int) - a) = s.size - a := w64 (by omega)
    have h2 : wrap64 ((a : Int) + n) = a + n := w64 (by omega)
    have h3 : wrap64 ((a : Int) + n - n) = a := by rw [w64 (by omega)]; omega
    rw [h1, h2, h3]
    by_cases hc : (s.size : Int) - a < n
    · rw [if_pos hc]
      rw [show rTake s.data.toList a 0 n = ([], a, 4) by unfold rTake; rw [if_neg (by simp), if_neg (by omega), len_sz, if_pos hc]]
      rfl
    · rw [if_neg hc, if_pos (by omega), if_pos (by omega), if_pos (by omega)]
      rw [show rTake s.data.toList a 0 n = ((s.data.toList.drop a).take n.toNat, a + n.toNat, 0) by unfold rTake; rw [if_neg (by simp), if_neg (by omega), len_sz, if_neg hc]]
      rw [extract_bs, Int.toNat_natCast, show ((a : Int) + n).toNat - a = n.toNat by omega, show (a : Int) + n = ((a + n.toNat : Nat) : Int) by omega]
  · rw [if_neg he, rTake_err he]; rfl
def fin (s : ByteArray) (p : PgR) (e : Int) : PgR × Int := if e = 0 ∧ pgErr p.kind p.head p.slots = 0 ∧ pgStr p.num p.lsn p.kind p.head p.slots = s then (p, 0) else (pgZ, 6)
def tup (x : PgR × Int) : Int × Int × Int × ByteArray × List ByteArray × Int := (x.1.num, x.1.lsn, x.1.kind, x.1.head, x.1.slots, x.2)
theorem rd_nat (l : List Nat) (i : Nat) (h : i < l.length) : rd (l.map (fun n : Nat => (n : Int))) (i : Int) = (l[i] : Int) := by
  unfold rd
  simp [h]
def Small (l : List ByteArray) : Prop := ∀ s ∈ l, s.size ≤ 140737488351232
theorem enc_f {num lsn kind : Int} {head : ByteArray} {slots : List ByteArray} (h : 0 ≤ num ∧ num ≤ 4294967295 ∧ 0 ≤ lsn ∧ lsn ≤ 18446744073709551615) (hs : Small slots) :
    page_Encode.f num lsn kind head slots = some (pgStr num lsn kind head slots, pgErr kind head slots) := by
  unfold page_Encode.f
  rw [if_pos ⟨h.1, h.2.1, h.2.2.1, h.2.2.2, hs⟩]
theorem dec_l1 (x0 s : ByteArray) (hs : s.size ≤ 1000000) (num lsn kind : Int) (head : ByteArray) (hb : 0 ≤ num ∧ num ≤ 4294967295 ∧ 0 ≤ lsn ∧ lsn ≤ 18446744073709551615) : ∀ (rest done : List Nat) (a : Nat) (e : Int) (acc : List ByteArray),
    (∀ n ∈ rest, n ≤ 65535) → (done ++ rest).length ≤ 255 → acc.length = done.length → Small acc → a ≤ s.size →
    Ev (fun k => page_Decode.l1 k x0 ((done ++ rest).map (fun n : Nat => (n : Int))) ((done ++ rest).length : Int) (done.length : Int) s a e num lsn kind head acc)
      (tup (fin x0 ⟨num, lsn, kind, head, acc ++ (rdTxts s.data.toList rest a e).1⟩ (rdTxts s.data.toList rest a e).2.2))
  | [], done, a, e, acc, hr, hl, hacc, hsm, ha => by
    refine Ev.step (f := fun _ => some (tup (fin x0 ⟨num, lsn, kind, head, acc ++ []⟩ e))) (fun k => ?_) (Ev.now _)
    simp only [page_Decode.l1]
    rw [if_neg (by simp), enc_f hb hsm]
    unfold raw_Reader_Err.f
    simp only [Option.bind_some, List.append_nil]
    unfold fin
    by_cases h1 : e = 0
    · rw [if_pos h1]
      by_cases h2 : pgErr kind head acc = 0
      · rw [if_pos h2]
        by_cases h3 : pgStr num lsn kind head acc = x0
        · rw [if_pos (toList_inj.2 h3), if_pos ⟨h1, h2, h3⟩]; rfl
        · rw [if_neg (fun h => h3 (toList_inj.1 h)), if_neg (fun h => h3 h.2.2)]; rfl
      · rw [if_neg h2, if_neg (fun h => h2 h.2.1)]; rfl
    · rw [if_neg h1, if_neg (fun h => h1 h.1)]; rfl
  | n :: rest, done, a, e, acc, hr, hl, hacc, hsm, ha => by
    have hn := hr n (by simp)
    have hlen : (done ++ n :: rest).length = done.length + (rest.length + 1) := by simp
    have hT := rdTake s a e n ha (by omega) (by omega)
    have hle := rTake_le s.data.toList a e n (by rw [len_sz]; exact ha)
    rw [len_sz] at hle
    have hlen2 := rTake_len s.data.toList a e n
    have ih := dec_l1 x0 s hs num lsn kind head hb rest (done ++ [n]) (rTake s.data.toList a e n).2.1 (rTake s.data.toList a e n).2.2 (acc ++ [bs (rTake s.data.toList a e n).1]) (fun m hm => hr m (by simp [hm])) (by simp at hl ⊢; omega) (by simp [hacc])
      (fun x hx => by
        rcases List.mem_append.1 hx with h | h
        · exact hsm x h
        · rw [List.mem_singleton.1 h, bs_size]; omega) hle
    simp only [List.append_assoc, List.singleton_append] at ih
    simp only [rdTxts]
    refine Ev.step (fun k => ?_) ih
    simp only [page_Decode.l1]
    rw [if_pos (by rw [hlen]; omega), if_pos (by omega), if_pos (by rw [List.length_map, hlen]; omega), rd_nat _ _ (by rw [hlen]; omega)]
    rw [show (done ++ n :: rest)[done.length]'(by rw [hlen]; omega) = n by simp, hT]
    simp only [Option.bind_some]
    rw [if_pos (by omega), w64 (by omega), show ((done.length : Int) + 1) = (((done ++ [n]).length : Nat) : Int) by simp]
theorem dec_l0 (x0 s : ByteArray) (hs : s.size ≤ 1000000) (num lsn kind : Int) (head : ByteArray) (hb : 0 ≤ num ∧ num ≤ 4294967295 ∧ 0 ≤ lsn ∧ lsn ≤ 18446744073709551615) : ∀ (n : Nat) (done : List Nat) (a : Nat) (e : Int),
    (∀ m ∈ done, m ≤ 65535) → done.length + n ≤ 255 → a ≤ s.size →
    Ev (fun k => page_Decode.l0 k x0 (done.map (fun n : Nat => (n : Int))) (n : Int) s a e num lsn kind head)
      (tup (fin x0 ⟨num, lsn, kind, head, (rdTxts s.data.toList (done ++ (rdLens s.data.toList n a e).1) (rdLens s.data.toList n a e).2.1 (rdLens s.data.toList n a e).2.2).1⟩ (rdTxts s.data.toList (done ++ (rdLens s.data.toList n a e).1) (rdLens s.data.toList n a e).2.1 (rdLens s.data.toList n a e).2.2).2.2))
  | 0, done, a, e, hd, hl, ha => by
    have ih := dec_l1 x0 s hs num lsn kind head hb done [] a e [] hd (by simpa using hl) rfl (fun x hx => by simp at hx) ha
    simp only [List.append_nil, List.nil_append] at ih
    simp only [rdLens, List.append_nil]
    refine Ev.step (fun k => ?_) ih
    simp only [page_Decode.l0]
    rw [if_neg (by simp), List.length_map]
    rfl
  | n + 1, done, a, e, hd, hl, ha => by
    have hT := rdNum s a e 2 ha (by omega) (by omega)
    have hle := rNum_le s.data.toList a e 2 (by rw [len_sz]; exact ha)
    rw [len_sz] at hle
    have hv : (rNum s.data.toList a e 2).1 ≤ 65535 := by
      by_cases he : e = 0
      · subst he
        rw [rNum_ok (by omega)]
        split
        · simp
        · have h1 := numL_lt ((s.data.toList.drop a).take (2 : Int).toNat)
          have h2 : 256 ^ ((s.data.toList.drop a).take (2 : Int).toNat).length ≤ 256 ^ 2 := Nat.pow_le_pow_right (by decide) (List.length_take_le _ _)
          simp only
          omega
      · rw [rNum_err he]; simp
    have ih := dec_l0 x0 s hs num lsn kind head hb n (done ++ [(rNum s.data.toList a e 2).1]) (rNum s.data.toList a e 2).2.1 (rNum s.data.toList a e 2).2.2 (fun m hm => by
        rcases List.mem_append.1 hm with h | h
        · exact hd m h
        · rw [List.mem_singleton.1 h]; exact hv) (by simp; omega) hle
    simp only [List.append_assoc, List.singleton_append] at ih
    simp only [rdLens]
    refine Ev.step (fun k => ?_) ih
    simp only [page_Decode.l0]
    rw [if_pos (by omega), hT]
    simp only [Option.bind_some]
    rw [if_pos (by rw [List.length_map]; omega), w64 (by omega), w64 (by omega), show (((n + 1 : Nat) : Int) - 1) = (n : Int) by omega]
    simp only [List.map_append, List.map_cons, List.map_nil]
end Go.Proofs.Yteokjmjfjdgmpaa.PPg
end
section
namespace Go.Proofs.Yteokjmjfjdgmpaa.PPg
open Go.RowKit Go.Proofs.YteokjmjfjdgmpaaW.PrintWords Go.Proofs.YteokjmjfjdgmpaaW.PrintLast Go.Proofs.YteokjmjfjdgmpaaW.PrintMore
open Go.Gi
set_option linter.unusedVariables false
set_option linter.unusedSimpArgs false
theorem rNum_lt' (L : List UInt8) (a : Nat) (e : Int) (n : Nat) : (rNum L a e n).1 < 256 ^ n := by
  have h0 : 0 < 256 ^ n := Nat.pow_pos (by decide)
  unfold rNum
  split
  · exact h0
  split
  · exact h0
  split
  · exact h0
  · simp only [Int.toNat_natCast]
    exact Nat.lt_of_lt_of_le (numL_lt _) (Nat.pow_le_pow_right (by decide) (List.length_take_le _ _))
theorem nlt1 (L : List UInt8) (a : Nat) (e : Int) : (rNum L a e 1).1 < 256 := rNum_lt' L a e 1
theorem nlt4 (L : List UInt8) (a : Nat) (e : Int) : (rNum L a e 4).1 < 4294967296 := rNum_lt' L a e 4
theorem nlt8 (L : List UInt8) (a : Nat) (e : Int) : (rNum L a e 8).1 < 18446744073709551616 := rNum_lt' L a e 8
theorem count_zero (L : List UInt8) : L.count 0 = L.length ↔ L = List.replicate L.length 0 := by
  rw [List.count_eq_length, List.eq_replicate_iff]
  constructor
  · intro h; exact ⟨rfl, fun b hb => (h b hb).symm⟩
  · intro h b hb; exact (h.2 b hb).symm
theorem decP_fin (s : ByteArray) : decP s = if s.size < 512 then (pgZ, 4) else if 512 < s.size then (pgZ, 5)
  else if s.data.toList = List.replicate 512 0 then (pgZ, 0)
  else if (s.data.toList.drop 4).take 8 ≠ s.data.toList.drop 504 then (pgZ, 34)
  else if (numL (s.data.toList.take 4) : Int) ≠ sumL 0 (s.data.toList.drop 4) then (pgZ, 32)
  else fin s (rdPg (s.data.toList.drop 4) 0).1 (rdPg (s.data.toList.drop 4) 0).2.2 := rfl
theorem numAt {L : List UInt8} (h : 4 ≤ L.length) : rNum L 0 0 4 = (numL (L.take 4), 4, 0) := by
  rw [rNum_ok (by omega), if_neg (by omega)]; rfl
set_option maxHeartbeats 800000 in
theorem dec_f (s : ByteArray) (hs : s.size ≤ 9223372036854775807) : Ev (fun k => page_Decode.f k s) (tup (decP s)) := by
  rw [decP_fin]
  by_cases h1 : s.size < 512
  · rw [if_pos h1]
    refine Ev.congr (fun k => ?_) (Ev.now _)
    unfold page_Decode.f
    rw [if_pos (by omega)]; rfl
  rw [if_neg h1]
  by_cases h2 : 512 < s.size
  · rw [if_pos h2]
    refine Ev.congr (fun k => ?_) (Ev.now _)
    unfold page_Decode.f
    rw [if_neg (by omega), if_pos (by omega)]; rfl
  rw [if_neg h2]
  have hz : s.size = 512 := by omega
  have hL := len_sz s
  have hc : strings_Count.f s (⟨#[0]⟩ : ByteArray) = some ((s.data.toList.count 0 : Nat) : Int) := by unfold strings_Count.f; rw [if_pos rfl]; rfl
  by_cases h3 : s.data.toList = List.replicate 512 0
  · rw [if_pos h3]
    refine Ev.congr (fun k => ?_) (Ev.now _)
    unfold page_Decode.f
    rw [if_neg (by omega), if_neg (by omega), hc]
    simp only [Option.bind_some]
    rw [if_pos (by have := (count_zero s.data.toList).2 (by rw [hL, hz]; exact h3); omega)]; rfl
  rw [if_neg h3]
  have hc3 : ¬ ((s.data.toList.count 0 : Nat) : Int) = (s.size : Int) := fun h => h3 (by have := (count_zero s.data.toList).1 (by omega); rw [hL, hz] at this; exact this)
  have e1 : (s.extract 4 12).toList = (s.data.toList.drop 4).take 8 := by rw [bs_list, extract_toList]
  have e2 : (s.extract 504 s.size).toList = s.data.toList.drop 504 := by
    rw [bs_list, extract_toList, List.take_of_length_le]
    rw [List.length_drop]; omega
  by_cases h4 : (s.data.toList.drop 4).take 8 = s.data.toList.drop 504
  · rw [if_neg (by simpa using h4)]
    have e3 : (s.extract 4 s.size).data.toList = s.data.toList.drop 4 := by
      rw [extract_toList, List.take_of_length_le]
      rw [List.length_drop]; omega
    have e4 : (s.extract 4 s.size).size = 508 := by rw [← len_sz, e3, List.length_drop]; omega
    have hg : raw_Get.f s 0 4 = some ((numL (s.data.toList.take 4) : Int), 0) := by
      unfold raw_Get.f
      rw [if_pos ⟨by omega, by omega, by omega⟩, show (0 : Int).toNat = 0 from rfl, numAt (by omega)]
    have hsum : raw_Sum.f (s.extract 4 s.size) = some (sumL 0 (s.data.toList.drop 4)) := by
      unfold raw_Sum.f
      rw [if_pos (by omega), e3]
    have hlt : numL (s.data.toList.take 4) < 4294967296 := by
      have := nlt4 s.data.toList 0 0
      rwa [numAt (by omega)] at this
    by_cases h5 : (numL (s.data.toList.take 4) : Int) = sumL 0 (s.data.toList.drop 4)
    · rw [if_neg (by simpa using h5)]
      obtain ⟨s', hs'⟩ : ∃ s', s' = s.extract 4 s.size := ⟨_, rfl⟩
      have hs1 : s'.data.toList = s.data.toList.drop 4 := by rw [hs', e3]
      have hs2 : s'.size = 508 := by rw [hs', e4]
      obtain ⟨L, hLd⟩ : ∃ L, L = s'.data.toList := ⟨_, rfl⟩
      have hLl : L.length = 508 := by rw [hLd, len_sz, hs2]
      rw [← hs1]
      have q1 : (rNum L 0 0 8).2.1 ≤ 508 := by have := rNum_le L 0 0 8 (by omega); omega
      have q2 : (rNum L (rNum L 0 0 8).2.1 (rNum L 0 0 8).2.2 4).2.1 ≤ 508 := by have := rNum_le L (rNum L 0 0 8).2.1 (rNum L 0 0 8).2.2 4 (by omega); omega
      obtain ⟨v1, p1, x1, g1⟩ : ∃ v p x, rNum L 0 0 8 = (v, p, x) := ⟨_, _, _, rfl⟩
      have b1 := nlt8 L 0 0
      rw [g1] at q1 q2 b1
      obtain ⟨v2, p2, x2, g2⟩ : ∃ v p x, rNum L p1 x1 4 = (v, p, x) := ⟨_, _, _, rfl⟩
      have b2 := nlt4 L p1 x1
      simp only at q1 q2
      rw [g2] at q2 b2
      obtain ⟨v3, p3, x3, g3⟩ : ∃ v p x, rNum L p2 x2 1 = (v, p, x) := ⟨_, _, _, rfl⟩
      have b3 := nlt1 L p2 x2
      have q3 := rNum_le L p2 x2 1 (by simp only at q2; omega)
      rw [g3] at q3 b3
      obtain ⟨v4, p4, x4, g4⟩ : ∃ v p x, rNum L p3 x3 1 = (v, p, x) := ⟨_, _, _, rfl⟩
      have b4 := nlt1 L p3 x3
      have q4 := rNum_le L p3 x3 1 (by simp only at q3; omega)
      rw [g4] at q4 b4
      obtain ⟨v5, p5, x5, g5⟩ : ∃ v p x, rTake L p4 x4 v4 = (v, p, x) := ⟨_, _, _, rfl⟩
      have q5 := rTake_le L p4 x4 v4 (by simp only at q4; omega)
      rw [g5] at q5
      obtain ⟨v6, p6, x6, g6⟩ : ∃ v p x, rNum L p5 x5 1 = (v, p, x) := ⟨_, _, _, rfl⟩
      have b6 := nlt1 L p5 x5
      have q6 := rNum_le L p5 x5 1 (by simp only at q5; omega)
      rw [g6] at q6 b6
      simp only at q2 q3 q4 q5 q6 b1 b2 b3 b4 b6
      have l0 := dec_l0 s s' (by omega) (v2 : Int) (v1 : Int) (v3 : Int) (bs v5) ⟨by omega, by omega, by omega, by omega⟩ v6 [] p6 x6 (fun m hm => by simp at hm) (by simp; omega) (by omega)
      have hrd : rdPg s'.data.toList 0 = (⟨v2, v1, v3, bs v5, (rdTxts s'.data.toList (rdLens s'.data.toList v6 p6 x6).1 (rdLens s'.data.toList v6 p6 x6).2.1 (rdLens s'.data.toList v6 p6 x6).2.2).1⟩, (rdTxts s'.data.toList (rdLens s'.data.toList v6 p6 x6).1 (rdLens s'.data.toList v6 p6 x6).2.1 (rdLens s'.data.toList v6 p6 x6).2.2).2.1, (rdTxts s'.data.toList (rdLens s'.data.toList v6 p6 x6).1 (rdLens s'.data.toList v6 p6 x6).2.1 (rdLens s'.data.toList v6 p6 x6).2.2).2.2) := by
        rw [← hLd]
        unfold rdPg
        simp only [g1, g2, g3, g4, g5, g6]
      rw [hrd]
      refine Ev.congr (fun k => ?_) l0
      unfold page_Decode.f
      rw [if_neg (by omega), if_neg (by omega), hc]
      simp only [Option.bind_some]
      rw [if_neg hc3, if_pos (by omega), if_pos (by omega), if_pos (by rw [e1, e2]; exact h4), hg]
      simp only [Option.bind_some]
      rw [if_pos (by omega), hsum]
      simp only [Option.bind_some]
      rw [if_pos (by rw [← h5]; omega)]
      unfold raw_NewReader.f
      simp only [Option.bind_some]
      rw [← hs']
      have r1 := rdNum s' 0 0 8 (by omega) (by omega) (by omega)
      rw [← hLd, g1] at r1
      have r2 := rdNum s' p1 x1 4 (by omega) (by omega) (by omega)
      rw [← hLd, g2] at r2
      have r3 := rdNum s' p2 x2 1 (by omega) (by omega) (by omega)
      rw [← hLd, g3] at r3
      have r4 := rdNum s' p3 x3 1 (by omega) (by omega) (by omega)
      rw [← hLd, g4] at r4
      have r5 := rdTake s' p4 x4 v4 (by omega) (by omega) (by omega)
      rw [← hLd, g5] at r5
      have r6 := rdNum s' p5 x5 1 (by omega) (by omega) (by omega)
      rw [← hLd, g6] at r6
      have r1' : raw_Reader_Number.f s' 0 0 8 = some ((v1 : Int), s', (p1 : Int), x1) := r1
      rw [r1']
      simp only [Option.bind_some]
      rw [r2]
      simp only [Option.bind_some]
      rw [r3]
      simp only [Option.bind_some]
      rw [r4]
      simp only [Option.bind_some]
      rw [w64 (by omega), r5]
      simp only [Option.bind_some]
      rw [r6]
      simp only [Option.bind_some]
      rw [w64 (by omega), w64 (by omega), show ((v2 : Int) % 4294967296) = v2 by omega]
      rfl
    · rw [if_pos h5]
      refine Ev.congr (fun k => ?_) (Ev.now _)
      unfold page_Decode.f
      rw [if_neg (by omega), if_neg (by omega), hc]
      simp only [Option.bind_some]
      rw [if_neg hc3, if_pos (by omega), if_pos (by omega), if_pos (by rw [e1, e2]; exact h4), hg]
      simp only [Option.bind_some]
      rw [if_pos (by omega), hsum]
      simp only [Option.bind_some]
      rw [if_neg (by intro h; exact h5 (by omega))]; rfl
  · rw [if_pos h4]
    refine Ev.congr (fun k => ?_) (Ev.now _)
    unfold page_Decode.f
    rw [if_neg (by omega), if_neg (by omega), hc]
    simp only [Option.bind_some]
    rw [if_neg hc3, if_pos (by omega), if_pos (by omega), if_neg (by rw [e1, e2]; exact h4)]; rfl
end Go.Proofs.Yteokjmjfjdgmpaa.PPg
end
section
namespace Go.Proofs.Yteokjmjfjdgmpaa.PPg
open Go.RowKit Go.Proofs.YteokjmjfjdgmpaaW.PrintWords Go.Proofs.YteokjmjfjdgmpaaW.PrintLast Go.Proofs.YteokjmjfjdgmpaaW.PrintMore
open Go.Gi
set_option linter.unusedVariables false
set_option linter.unusedSimpArgs false
theorem rdOf_at (l : List ByteArray) (i : Nat) (h : i < l.length) : rdOf ByteArray.empty l (i : Int) = l[i] := by
  unfold rdOf
  simp [h]
end Go.Proofs.Yteokjmjfjdgmpaa.PPg
end
section
namespace Go.Proofs.Yteokjmjfjdgmpaa.PPg
open Go.RowKit Go.Proofs.YteokjmjfjdgmpaaW.PrintWords Go.Proofs.YteokjmjfjdgmpaaW.PrintLast Go.Proofs.YteokjmjfjdgmpaaW.PrintMore
open Go.Gi
set_option linter.unusedVariables false
set_option linter.unusedSimpArgs false
theorem eq_l0 : ∀ (r0 r1 d0 d1 : List ByteArray), d0.length = d1.length → r0.length = r1.length → (d0 ++ r0).length ≤ 4000000000000000000 →
    Ev (fun k => slices_Equal_string_string.l0 k (d0 ++ r0) (d1 ++ r1) ((d0 ++ r0).length : Int) (d0.length : Int)) (decide (r0 = r1))
  | [], [], d0, d1, hd, hr, hl => by
    refine Ev.step (f := fun _ => some true) (fun k => ?_) (Ev.now _)
    simp only [slices_Equal_string_string.l0]
    rw [if_neg (by simp)]
  | s :: r0, t :: r1, d0, d1, hd, hr, hl => by
    have h0 : (d0 ++ s :: r0).length = d0.length + (r0.length + 1) := by simp
    have h1 : (d1 ++ t :: r1).length = d1.length + (r1.length + 1) := by simp
    have hrr : r0.length = r1.length := by simpa using hr
    by_cases e : s = t
    · have ih := eq_l0 r0 r1 (d0 ++ [s]) (d1 ++ [t]) (by simp [hd]) hrr (by simpa using hl)
      simp only [List.append_assoc, List.singleton_append] at ih
      rw [show decide (s :: r0 = t :: r1) = decide (r0 = r1) by simp [e]]
      refine Ev.step (fun k => ?_) ih
      simp only [slices_Equal_string_string.l0]
      rw [if_pos (by omega), if_pos (by omega), if_pos (by omega), if_pos (by omega), rdOf_at _ _ (by omega)]
      rw [show rdOf ByteArray.empty (d1 ++ t :: r1) (d0.length : Int) = t by rw [hd, rdOf_at _ _ (by omega)]; simp]
      rw [show (d0 ++ s :: r0)[d0.length]'(by omega) = s by simp, if_pos (by rw [e]), w64 (by omega), show ((d0.length : Int) + 1) = (((d0 ++ [s]).length : Nat) : Int) by simp]
    · rw [show decide (s :: r0 = t :: r1) = false by simp [e]]
      refine Ev.step (f := fun _ => some false) (fun k => ?_) (Ev.now _)
      simp only [slices_Equal_string_string.l0]
      rw [if_pos (by omega), if_pos (by omega), if_pos (by omega), if_pos (by omega), rdOf_at _ _ (by omega)]
      rw [show rdOf ByteArray.empty (d1 ++ t :: r1) (d0.length : Int) = t by rw [hd, rdOf_at _ _ (by omega)]; simp]
      rw [show (d0 ++ s :: r0)[d0.length]'(by omega) = s by simp, if_neg (fun h => e (toList_inj.1 h))]
  | [], _ :: _, _, _, _, hr, _ => by simp at hr
  | _ :: _, [], _, _, _, hr, _ => by simp at hr
theorem eq_f (a b : List ByteArray) (h : a.length ≤ 4000000000000000000) : Ev (fun k => slices_Equal_string_string.f k a b) (decide (a = b)) := by
  by_cases e : a.length = b.length
  · refine Ev.congr (fun k => ?_) (eq_l0 a b [] [] rfl e (by simpa using h))
    unfold slices_Equal_string_string.f
    rw [if_pos (by omega)]
    rfl
  · rw [decide_eq_false (fun h => e (by rw [h]))]
    refine Ev.congr (fun k => ?_) (Ev.now _)
    unfold slices_Equal_string_string.f
    rw [if_neg (by omega)]
def sameB (n k : Int) (h : ByteArray) (s : List ByteArray) (n' k' : Int) (h' : ByteArray) (s' : List ByteArray) : Bool := decide (n = n') && (decide (k = k') && (decide (h = h') && decide (s = s')))
theorem sameB_self (n k : Int) (h : ByteArray) (s : List ByteArray) : sameB n k h s n k h s = true := by simp [sameB]
theorem same_f (n l k : Int) (h : ByteArray) (s : List ByteArray) (n' l' k' : Int) (h' : ByteArray) (s' : List ByteArray) (hl : s.length ≤ 4000000000000000000) : Ev (fun m => page_Same.f m n l k h s n' l' k' h' s') (sameB n k h s n' k' h' s') := by
  unfold sameB
  by_cases h1 : n = n'
  · by_cases h2 : k = k'
    · by_cases h3 : h = h'
      · rw [decide_eq_true h1, decide_eq_true h2, decide_eq_true h3]
        simp only [Bool.true_and]
        refine Ev.congr (fun m => ?_) (Ev.bind (f := fun _ t => some t) (eq_f s s' hl) (Ev.now _))
        unfold page_Same.f
        rw [if_pos h1, if_pos h2, if_pos (by rw [h3])]
      · rw [decide_eq_true h1, decide_eq_true h2, decide_eq_false h3]
        refine Ev.congr (fun m => ?_) (Ev.now _)
        unfold page_Same.f
        rw [if_pos h1, if_pos h2, if_neg (fun e => h3 (toList_inj.1 e))]
        rfl
    · rw [decide_eq_true h1, decide_eq_false h2]
      refine Ev.congr (fun m => ?_) (Ev.now _)
      unfold page_Same.f
      rw [if_pos h1, if_neg h2]
      rfl
  · rw [decide_eq_false h1]
    refine Ev.congr (fun m => ?_) (Ev.now _)
    unfold page_Same.f
    rw [if_neg h1]
    rfl
theorem pgAll_size {num lsn kind : Int} {head : ByteArray} {slots : List ByteArray} (h : pgErr kind head slots = 0) : (bs (pgAll num lsn kind head slots)).size = 512 := by
  rw [bs_size, pgAll_len (pgErr_zero.1 h).2.2.2.2]
theorem pgStr_pos {num lsn kind : Int} {head : ByteArray} {slots : List ByteArray} (h : pgErr kind head slots = 0) : pgStr num lsn kind head slots = bs (pgAll num lsn kind head slots) := by unfold pgStr; rw [if_pos h]
theorem awake_eq (X : ByteArray) (hE : page_Encode.f 3 0 2 (⟨#[]⟩ : ByteArray) [⟨#[97]⟩] = some (X, 0)) (k : Nat) : girderlaw03_awake.f k = (page_Decode.f k X).bind fun bt => if (0 : Int) = 0 then (if bt.2.2.2.2.2 = 0 then ((page_Same.f k 3 0 2 (⟨#[]⟩ : ByteArray) [⟨#[97]⟩] bt.1 bt.2.1 bt.2.2.1 bt.2.2.2.1 bt.2.2.2.2.1).bind fun t => (if t = true then (some ((X.size : Int) == 512)) else (some false))) else (some false)) else (some false) := by
  unfold girderlaw03_awake.f
  rewrite [Option.bind_some, hE, Option.bind_some]
  exact rfl
theorem awake_end (X : ByteArray) (hsz : X.size = 512) : Ev (fun k => ((page_Same.f k 3 0 2 (⟨#[]⟩ : ByteArray) [⟨#[97]⟩] 3 0 2 (⟨#[]⟩ : ByteArray) [⟨#[97]⟩]).bind fun t => (if t = true then (some ((X.size : Int) == 512)) else (some false)))) true := by
  have hS := same_f 3 0 2 (⟨#[]⟩ : ByteArray) [⟨#[97]⟩] 3 0 2 (⟨#[]⟩ : ByteArray) [⟨#[97]⟩] (by simp)
  rw [sameB_self] at hS
  refine Ev.bind hS ?_
  simp only [if_true, hsz]
  exact Ev.now _
theorem awake_X (X : ByteArray) (hsz : X.size = 512) (hE : page_Encode.f 3 0 2 (⟨#[]⟩ : ByteArray) [⟨#[97]⟩] = some (X, 0)) (hD : Ev (fun k => page_Decode.f k X) (tup (⟨3, 0, 2, ⟨#[]⟩, [⟨#[97]⟩]⟩, 0))) : Ev (fun k => girderlaw03_awake.f k) true := by
  refine Ev.congr (fun k => awake_eq X hE k) (Ev.bind hD ?_)
  exact awake_end X hsz
theorem awake_f : Ev (fun k => girderlaw03_awake.f k) true := by
  have he : pgErr 2 (⟨#[]⟩ : ByteArray) [⟨#[97]⟩] = 0 := by decide
  have hsm : Small [⟨#[97]⟩] := fun s hs => by rw [List.mem_singleton.1 hs]; decide
  have hE := enc_f (num := 3) (lsn := 0) (kind := 2) (head := ⟨#[]⟩) (slots := [⟨#[97]⟩]) (by omega) hsm
  rw [he, pgStr_pos he] at hE
  have hsz := pgAll_size (num := 3) (lsn := 0) he
  have hD := dec_f (bs (pgAll 3 0 2 (⟨#[]⟩ : ByteArray) [⟨#[97]⟩])) (by omega)
  rw [dec_enc he (by omega) (by omega) (by omega) (by omega)] at hD
  exact awake_X _ hsz hE hD
end Go.Proofs.Yteokjmjfjdgmpaa.PPg
end
section
namespace Go.Proofs.Yteokjmjfjdgmpaa
open Go.RowKit
theorem awake_any (w : World) : Calls Try.prog 13 #[] w fun e w' => e = .returned (.bool true) ∧ Below w.heap.size w w' := by
  obtain ⟨k, hk⟩ := PPg.awake_f
  exact PPg.girderlaw03_awake.calls k true w (hk k (Nat.le_refl _))
end Go.Proofs.Yteokjmjfjdgmpaa
end
section
namespace Go.Proofs.Yteokjmjfjdgmpaa.PRm
open Go.RowKit Go.Proofs.YteokjmjfjdgmpaaW.PrintWords Go.Proofs.YteokjmjfjdgmpaaW.PrintLast Go.Proofs.YteokjmjfjdgmpaaW.PrintMore
attribute [local go_sem] max2_int min2_int max_two min_two max_three min_three max_four min_four
set_option linter.unusedVariables false
set_option linter.unusedSimpArgs false
def errW : Option Int → Value
 | none => .nilIface
 | some c => .iface 0 (.int .i64 c)
theorem errW_none : errW none = .nilIface := rfl
theorem errW_some (c : Int) : errW (some c) = .iface 0 (.int .i64 c) := rfl
theorem info5 : (Try.prog.info? 5).map (fun i => (i.zero, i.size, i.bytes)) = some (some (.int .u8 0), 1, 1) := by kernel_rfl
end Go.Proofs.Yteokjmjfjdgmpaa.PRm
end
section
namespace Go.Proofs.Yteokjmjfjdgmpaa.PRm
open Go.RowKit Go.Proofs.YteokjmjfjdgmpaaW.PrintWords Go.Proofs.YteokjmjfjdgmpaaW.PrintLast Go.Proofs.YteokjmjfjdgmpaaW.PrintMore
attribute [local go_sem] max2_int min2_int max_two min_two max_three min_three max_four min_four
set_option linter.unusedVariables false
set_option linter.unusedSimpArgs false
theorem spot_none {w : World} {ad : Addr} {u : Value} (h : w.cell? ad = some u) : ad.spot = none := by
 unfold World.cell? at h
 cases hs : ad.spot with
 | none => rfl
 | some y =>
  simp [hs] at h
  split at h <;> simp_all
theorem add_at (b off i : Nat) : (⟨b, off, none⟩ : Addr).add i = ⟨b, off + i, none⟩ := by unfold Addr.add; split <;> simp_all
theorem rows_of_C {w : World} {A : Option Addr} {l : List ByteArray} (h : Kd.C Kd.string w A l.length l) : Go.GiRow.RdRows strC 1 w A l := by
 intro k hk
 obtain ⟨ad, rfl, hc⟩ := h.2.2 (by omega)
 obtain ⟨c, hl, hr, hcell⟩ := hc k _ (List.getElem?_eq_getElem hk)
 have hr' : c = [Value.string l[k]] := hr
 rw [hr'] at hcell
 have h0 := hcell 0 _ rfl
 obtain ⟨c1, _, hr1, hcell1⟩ := hc 0 _ (List.getElem?_eq_getElem (show 0 < l.length by omega))
 have hr1' : c1 = [Value.string l[0]] := hr1
 have h01 := hcell1 0 (Value.string l[0]) (by rw [hr1']; rfl)
 rw [Nat.zero_mul, show ad.add (0 + 0) = ad by unfold Addr.add; simp] at h01
 have hsp := spot_none h01
 obtain ⟨b, off, sp⟩ := ad
 simp only at hsp
 subst hsp
 refine ⟨b, off, rfl, ?_, ?_⟩
 ·have := World.block_lt_of_cell? w _ h0
  rw [add_at] at this
  exact this
 ·intro j u hu
  have := hcell j u hu
  rw [add_at] at this
  have e : off + k * 1 + j = off + (k * Kd.string.sz + j) := by show off + k * 1 + j = off + (k * 1 + j); omega
  rw [e]
  exact this
def page_Encode.f (a0_0 : Int) (a0_1 : Int) (a0_2 : Int) (a0_3 : ByteArray) (l0_4 : List ByteArray) : Option (ByteArray × Int) := if 0 ≤ a0_0 ∧ a0_0 ≤ 4294967295 ∧ 0 ≤ a0_1 ∧ a0_1 ≤ 18446744073709551615 ∧ (∀ s ∈ l0_4, s.size ≤ 140737488351232) then some (Go.Gi.pgStr a0_0 a0_1 a0_2 a0_3 l0_4, Go.Gi.pgErr a0_2 a0_3 l0_4) else none
set_option maxHeartbeats 8000000 in
set_option maxRecDepth 100000 in
theorem page_Encode.calls (a0_0 : Int) (a0_1 : Int) (a0_2 : Int) (a0_3 : ByteArray) (A0_4 : Option Addr) (c0_4 : Nat) (l0_4 : List ByteArray) (r1 : ByteArray) (r2 : Int) (w : World) (hr0_4 : Kd.C Kd.string w A0_4 l0_4.length l0_4) (hc0_4 : l0_4.length ≤ c0_4) (h : page_Encode.f a0_0 a0_1 a0_2 a0_3 l0_4 = some (r1, r2)) :
  Calls Try.prog 8 #[.agg #[.int .u32 a0_0, .int .u64 a0_1, .int .i64 a0_2, .string a0_3, .slice A0_4 l0_4.length c0_4]] w fun e w' => e = .returned (.tuple #[.string r1, .int .i64 r2]) ∧ Below w.heap.size w w' := by
 unfold page_Encode.f at h
 split at h
 ·rename_i hc
  obtain ⟨h1, h2, h3, h4, h5⟩ := hc
  obtain ⟨rfl, rfl⟩ := Prod.mk.inj (Option.some.inj h)
  exact pgenc_any a0_0 a0_1 a0_2 a0_3 l0_4 A0_4 c0_4 w (rows_of_C hr0_4) h5 h1 h2 h3 h4
 ·cases h
end Go.Proofs.Yteokjmjfjdgmpaa.PRm
end
section
namespace Go.Proofs.Yteokjmjfjdgmpaa.PRm
open Go.RowKit Go.Proofs.YteokjmjfjdgmpaaW.PrintWords Go.Proofs.YteokjmjfjdgmpaaW.PrintLast Go.Proofs.YteokjmjfjdgmpaaW.PrintMore
attribute [local go_sem] max2_int min2_int max_two min_two max_three min_three max_four min_four
set_option linter.unusedVariables false
set_option linter.unusedSimpArgs false
def girderlaw03_awake.f  : Option (Bool) := some true
set_option maxHeartbeats 8000000 in
set_option maxRecDepth 100000 in
theorem girderlaw03_awake.calls  (r : Bool) (w : World) (h : girderlaw03_awake.f  = some r) :
  Calls Try.prog 13 #[] w fun e w' => e = .returned (.bool r) ∧ Below w.heap.size w w' := by
 unfold girderlaw03_awake.f at h
 obtain rfl := Option.some.inj h
 exact awake_any w
end Go.Proofs.Yteokjmjfjdgmpaa.PRm
end
section
namespace Go.Proofs.Yteokjmjfjdgmpaa.PRm
open Go.RowKit Go.Proofs.YteokjmjfjdgmpaaW.PrintWords Go.Proofs.YteokjmjfjdgmpaaW.PrintLast Go.Proofs.YteokjmjfjdgmpaaW.PrintMore
attribute [local go_sem] max2_int min2_int max_two min_two max_three min_three max_four min_four
set_option linter.unusedVariables false
set_option linter.unusedSimpArgs false
def page_Room.f (a0_0 : Int) (a0_1 : Int) (a0_2 : Int) (a0_3 : ByteArray) (l0_4 : List ByteArray) : Option (Int) := if l0_4.length ≤ 64 ∧ (∀ x ∈ l0_4, x.size ≤ 140737488351232) ∧ a0_3.size ≤ 140737488351232 then some ((485 : Int) - a0_3.size - Go.Gi.slotsN l0_4) else none
set_option maxHeartbeats 8000000 in
set_option maxRecDepth 100000 in
theorem page_Room.calls (a0_0 : Int) (a0_1 : Int) (a0_2 : Int) (a0_3 : ByteArray) (A0_4 : Option Addr) (c0_4 : Nat) (l0_4 : List ByteArray) (r : Int) (w : World) (hr0_4 : Kd.C Kd.string w A0_4 l0_4.length l0_4) (hc0_4 : l0_4.length ≤ c0_4) (h : page_Room.f a0_0 a0_1 a0_2 a0_3 l0_4 = some r) :
  Calls Try.prog 14 #[.agg #[.int .u32 a0_0, .int .u64 a0_1, .int .i64 a0_2, .string a0_3, .slice A0_4 l0_4.length c0_4]] w fun e w' => e = .returned (.int .i64 r) ∧ Below w.heap.size w w' := by
 unfold page_Room.f at h
 split at h
 ·rename_i hc
  obtain ⟨h1, h2, h3⟩ := hc
  obtain rfl := Option.some.inj h
  exact room_any a0_0 a0_1 a0_2 a0_3 l0_4 A0_4 c0_4 w (rdrows_of_C hr0_4) h1 h2 h3
 ·cases h
end Go.Proofs.Yteokjmjfjdgmpaa.PRm
end
section
namespace Go.Proofs.Yteokjmjfjdgmpaa.PRm
open Go.RowKit Go.Proofs.YteokjmjfjdgmpaaW.PrintWords Go.Proofs.YteokjmjfjdgmpaaW.PrintLast Go.Proofs.YteokjmjfjdgmpaaW.PrintMore
attribute [local go_sem] max2_int min2_int max_two min_two max_three min_three max_four min_four
set_option linter.unusedVariables false
set_option linter.unusedSimpArgs false
def page_Apply.f (a0_0 : Int) (a0_1 : Int) (a0_2 : Int) (a0_3 : ByteArray) (l0_4 : List ByteArray) (a1_0 : Int) (a1_1 : Int) (a1_2 : ByteArray) (a1_3 : ByteArray) (a2 : Int) : Option (Int × Int × Int × ByteArray × List ByteArray × Int) := if l0_4.length ≤ 64 ∧ (∀ x ∈ l0_4, x.size ≤ 140737488350000) ∧ a0_3.size ≤ 140737488350000 then some (apR a0_0 a0_1 a0_2 a0_3 l0_4 a1_0 a1_1 a1_2 a1_3 a2) else none
set_option maxHeartbeats 8000000 in
set_option maxRecDepth 100000 in
theorem page_Apply.calls (a0_0 : Int) (a0_1 : Int) (a0_2 : Int) (a0_3 : ByteArray) (A0_4 : Option Addr) (c0_4 : Nat) (l0_4 : List ByteArray) (a1_0 : Int) (a1_1 : Int) (a1_2 : ByteArray) (a1_3 : ByteArray) (a2 : Int) (r1 : Int) (r2 : Int) (r3 : Int) (r4 : ByteArray) (r5 : List ByteArray) (r6 : Int) (w : World) (hr0_4 : Kd.C Kd.string w A0_4 l0_4.length l0_4) (hc0_4 : l0_4.length ≤ c0_4) (h : page_Apply.f a0_0 a0_1 a0_2 a0_3 l0_4 a1_0 a1_1 a1_2 a1_3 a2 = some (r1, r2, r3, r4, r5, r6)) :
  Calls Try.prog 23 #[.agg #[.int .u32 a0_0, .int .u64 a0_1, .int .i64 a0_2, .string a0_3, .slice A0_4 l0_4.length c0_4], .agg #[.int .i64 a1_0, .int .i64 a1_1, .string a1_2, .string a1_3], .int .u64 a2] w fun e w' => ∃ v4_ : Value, e = .returned (.tuple #[.agg #[.int .u32 r1, .int .u64 r2, .int .i64 r3, .string r4, v4_], .int .i64 r6]) ∧ Kd.R Kd.string 9 w' w.heap.size (fun _ => True) v4_ r5 ∧ Below w.heap.size w w' := by
 unfold page_Apply.f at h
 split at h
 ·rename_i hc
  obtain ⟨h1, h2, h3⟩ := hc
  have h := Option.some.inj h
  refine (apply_any a0_0 a0_1 a0_2 a0_3 l0_4 A0_4 c0_4 a1_0 a1_1 a1_2 a1_3 a2 w hr0_4 hc0_4 h1 h2 h3).mono ?_
  rintro e w' ⟨v, he, ho, hb⟩
  rw [h] at he ho
  exact ⟨v, he, Kd.R_of_own ho (fun _ _ => trivial), hb⟩
 ·cases h
end Go.Proofs.Yteokjmjfjdgmpaa.PRm
end
section
namespace Go.Proofs.Yteokjmjfjdgmpaa.PRm
open Go.RowKit Go.Proofs.YteokjmjfjdgmpaaW.PrintWords Go.Proofs.YteokjmjfjdgmpaaW.PrintLast Go.Proofs.YteokjmjfjdgmpaaW.PrintMore
attribute [local go_sem] max2_int min2_int max_two min_two max_three min_three max_four min_four
set_option linter.unusedVariables false
set_option linter.unusedSimpArgs false
def page_Fits.f (a0_0 : Int) (a0_1 : Int) (a0_2 : Int) (a0_3 : ByteArray) (l0_4 : List ByteArray) (a1_0 : Int) (a1_1 : Int) (a1_2 : ByteArray) (a1_3 : ByteArray) : Option (Bool) := (page_Apply.f a0_0 a0_1 a0_2 a0_3 l0_4 a1_0 a1_1 a1_2 a1_3 0).bind fun bt103 => (some (bt103.2.2.2.2.2 == 0))
set_option maxHeartbeats 8000000 in
set_option maxRecDepth 100000 in
theorem page_Fits.calls (a0_0 : Int) (a0_1 : Int) (a0_2 : Int) (a0_3 : ByteArray) (A0_4 : Option Addr) (c0_4 : Nat) (l0_4 : List ByteArray) (a1_0 : Int) (a1_1 : Int) (a1_2 : ByteArray) (a1_3 : ByteArray) (r : Bool) (w : World) (hr0_4 : Kd.C Kd.string w A0_4 l0_4.length l0_4) (hc0_4 : l0_4.length ≤ c0_4) (h : page_Fits.f a0_0 a0_1 a0_2 a0_3 l0_4 a1_0 a1_1 a1_2 a1_3 = some r) :
  Calls Try.prog 22 #[.agg #[.int .u32 a0_0, .int .u64 a0_1, .int .i64 a0_2, .string a0_3, .slice A0_4 l0_4.length c0_4], .agg #[.int .i64 a1_0, .int .i64 a1_1, .string a1_2, .string a1_3]] w fun e w' => e = .returned (.bool r) ∧ Below w.heap.size w w' := by
 have hu28 := Try.underlying28
 have hu54 := Try.underlying54
 have HR0_4 := Aside0.mk hr0_4
 have HC0_4 := Aside0.mk hc0_4
 clear hr0_4 hc0_4
 have HB := Aside0.mk (Below.refl w.heap.size w)
 have H : ((page_Apply.f a0_0 a0_1 a0_2 a0_3 l0_4 a1_0 a1_1 a1_2 a1_3 0).bind fun bt103 => (some (bt103.2.2.2.2.2 == 0))) = some r := h
 clear h
 replace H := Option.bind_eq_some_iff.mp H
 obtain ⟨⟨t103, t104, t105, t106, t107, t110⟩, A30, H⟩ := H
 replace H : (some (t110 == 0)) = some r := H
 have A3 := Aside0.mk A30
 clear A30
 obtain rfl := Option.some.inj H
 go_enter Try.func22, Try.ntmps22
 go_wp2_with (first | ((with_reducible refine gate_dst (N := 2) rfl ?_); refine box_event ?hg (N := 2) ?hd (cs := #[.int .u32 a0_0, .int .u64 a0_1, .int .i64 a0_2, .string a0_3, .slice A0_4 l0_4.length c0_4]) (t := 28) ?hr ?_; (case hd => rfl); (case hg => rfl); (case hr => first | (go_simp; done) | (go_simp; rfl)); intro gb101 hg w4 hbox hb; have n0_ := Aside0.mk (below_step (by repeat (first | (with_reducible first | exact HB.out | apply below_alloc | apply pw_below_drewN | apply below_drew1) | exact HB.out)) hb); have n1_ := Aside0.mk (hbox); have n2_ := Aside0.mk ((by rw [hg]; exact (below_size (by repeat (first | (with_reducible first | exact HB.out | apply below_alloc | apply pw_below_drewN | apply below_drew1) | exact HB.out))) : w.heap.size ≤ gb101)); have n3_ := Aside0.mk ((by rw [hg]; exact (below_size (by repeat (first | (with_reducible first | exact HB.out | apply below_alloc | apply pw_below_drewN | apply below_drew1) | exact HB.out))) : w.heap.size ≤ gb101)); clear HB; have HB := n0_; have BK101 := n1_; have GW101 := n2_; have GE101 := n3_; clear n0_ n1_ n2_ n3_; clear hb hbox hg) | ((with_reducible refine gate_dst (N := 3) rfl ?_); refine box_event ?hg (N := 3) ?hd (cs := #[.int .i64 a1_0, .int .i64 a1_1, .string a1_2, .string a1_3]) (t := 54) ?hr ?_; (case hd => rfl); (case hg => rfl); (case hr => first | (go_simp; done) | (go_simp; rfl)); intro gb102 hg w5 hbox hb; have n0_ := Aside0.mk (blk_below (g := gb101) (o := .cells #[.int .u32 a0_0, .int .u64 a0_1, .int .i64 a0_2, .string a0_3, .slice A0_4 l0_4.length c0_4] 28 (0, 0)) (by (with_reducible repeat (first | refine blk_drewN ?_ _ | refine blk_drew ?_ | refine blk_alloc ?_ _)); exact BK101.out) hb); have n1_ := Aside0.mk (below_step (by repeat (first | (with_reducible first | exact HB.out | apply below_alloc | apply pw_below_drewN | apply below_drew1 | refine below_set ?_ GE101.out) | exact HB.out)) hb); have n2_ := Aside0.mk (hbox); have n3_ := Aside0.mk ((by rw [hg]; exact (below_size (by repeat (first | (with_reducible first | exact HB.out | apply below_alloc | apply pw_below_drewN | apply below_drew1 | refine below_set ?_ GE101.out) | exact HB.out))) : w.heap.size ≤ gb102)); have n4_ := Aside0.mk ((by rw [hg]; exact (below_size (by repeat (first | (with_reducible first | exact HB.out | apply below_alloc | apply pw_below_drewN | apply below_drew1 | refine below_set ?_ GE101.out) | exact HB.out))) : w.heap.size ≤ gb102)); have n5_ := Aside0.mk ((by rw [hg]; exact Nat.ne_of_lt (blk_lt (g := gb101) (o := .cells #[.int .u32 a0_0, .int .u64 a0_1, .int .i64 a0_2, .string a0_3, .slice A0_4 l0_4.length c0_4] 28 (0, 0)) (by (with_reducible repeat (first | refine blk_drewN ?_ _ | refine blk_drew ?_ | refine blk_alloc ?_ _)); exact BK101.out)) : gb101 ≠ gb102)); have n6_ := Aside0.mk ((by rw [hg]; exact Nat.ne_of_gt (blk_lt (g := gb101) (o := .cells #[.int .u32 a0_0, .int .u64 a0_1, .int .i64 a0_2, .string a0_3, .slice A0_4 l0_4.length c0_4] 28 (0, 0)) (by (with_reducible repeat (first | refine blk_drewN ?_ _ | refine blk_drew ?_ | refine blk_alloc ?_ _)); exact BK101.out)) : gb102 ≠ gb101)); clear BK101; clear HB; have BK101 := n0_; have HB := n1_; have BK102 := n2_; have GW102 := n3_; have GE102 := n4_; have NB101_102 := n5_; have NB102_101 := n6_; clear n0_ n1_ n2_ n3_ n4_ n5_ n6_; clear hb hbox hg; have hnb6 := NB101_102.out; have hnc6 := NB102_101.out; have hcz7_0 : w5.cell? ⟨gb101, 0, none⟩ = some (.int .u32 a0_0) := (blk_cell BK101.out 0).trans rfl; have hcz7_1 : w5.cell? ⟨gb101, 1, none⟩ = some (.int .u64 a0_1) := (blk_cell BK101.out 1).trans rfl; have hcz7_2 : w5.cell? ⟨gb101, 2, none⟩ = some (.int .i64 a0_2) := (blk_cell BK101.out 2).trans rfl; have hcz7_3 : w5.cell? ⟨gb101, 3, none⟩ = some (.string a0_3) := (blk_cell BK101.out 3).trans rfl; have hcz7_4 : w5.cell? ⟨gb101, 4, none⟩ = some (.slice A0_4 l0_4.length c0_4) := (blk_cell BK101.out 4).trans rfl; have hfz7_0 := blk_frozen BK101.out 0; have hfz7_1 := blk_frozen BK101.out 1; have hfz7_2 := blk_frozen BK101.out 2; have hfz7_3 := blk_frozen BK101.out 3; have hfz7_4 := blk_frozen BK101.out 4; have hcz8_0 : w5.cell? ⟨gb102, 0, none⟩ = some (.int .i64 a1_0) := (blk_cell BK102.out 0).trans rfl; have hcz8_1 : w5.cell? ⟨gb102, 1, none⟩ = some (.int .i64 a1_1) := (blk_cell BK102.out 1).trans rfl; have hcz8_2 : w5.cell? ⟨gb102, 2, none⟩ = some (.string a1_2) := (blk_cell BK102.out 2).trans rfl; have hcz8_3 : w5.cell? ⟨gb102, 3, none⟩ = some (.string a1_3) := (blk_cell BK102.out 3).trans rfl; have hfz8_0 := blk_frozen BK102.out 0; have hfz8_1 := blk_frozen BK102.out 1; have hfz8_2 := blk_frozen BK102.out 2; have hfz8_3 := blk_frozen BK102.out 3) | ((with_reducible refine gate_callee (f := 23) rfl ?_); refine goesL_ (some 10) rfl rfl Try.func23 (by kernel_rfl) rfl #[.agg #[.int .u32 a0_0, .int .u64 a0_1, .int .i64 a0_2, .string a0_3, .slice A0_4 l0_4.length c0_4], .agg #[.int .i64 a1_0, .int .i64 a1_1, .string a1_2, .string a1_3], .int .u64 0] rfl (by (try simp only [List.map_toArray, List.map_cons, List.map_nil]); first | done | rfl | (simp only [List.length_drop, List.length_take]; rfl)) ?_; (with_reducible refine (page_Apply.calls a0_0 a0_1 a0_2 a0_3 _ _ l0_4 a1_0 a1_1 a1_2 a1_3 0 t103 t104 t105 t106 t107 t110 _ ?side1 ?side2 A3.out).mono ?_); (case side1 => repeat (first | exact (Kd.C_below HR0_4.out HB.out) | (with_reducible refine Kd.C_alloc ?_ _) | (with_reducible refine Kd.C_drewN ?_ _) | (with_reducible refine Kd.C_drew ?_))); (case side2 => exact HC0_4.out); rintro e w9 ⟨v108, rfl, ho0, hb⟩; refine ⟨_, rfl, ?_⟩; have n0_ := Aside0.mk (Kd.R_lower ho0 (below_size (by repeat (first | (with_reducible first | exact HB.out | apply below_alloc | apply pw_below_drewN | apply below_drew1 | refine below_set ?_ GE101.out | refine below_set ?_ GE102.out) | exact HB.out)))); have n1_ := Aside0.mk (blk_below (g := gb101) (o := .cells #[.int .u32 a0_0, .int .u64 a0_1, .int .i64 a0_2, .string a0_3, .slice A0_4 l0_4.length c0_4] 28 (0, 0)) (by (with_reducible repeat (first | refine blk_drewN ?_ _ | refine blk_drew ?_ | refine blk_alloc ?_ _)); exact BK101.out) hb); have n2_ := Aside0.mk (blk_below (g := gb102) (o := .cells #[.int .i64 a1_0, .int .i64 a1_1, .string a1_2, .string a1_3] 54 (0, 0)) (by (with_reducible repeat (first | refine blk_drewN ?_ _ | refine blk_drew ?_ | refine blk_alloc ?_ _)); exact BK102.out) hb); have n3_ := Aside0.mk (below_step (by repeat (first | (with_reducible first | exact HB.out | apply below_alloc | apply pw_below_drewN | apply below_drew1 | refine below_set ?_ GE101.out | refine below_set ?_ GE102.out) | exact HB.out)) hb); clear BK101; clear BK102; clear HB; have HO109 := n0_; have BK101 := n1_; have BK102 := n2_; have HB := n3_; clear n0_ n1_ n2_ n3_; (try clear hb); (try clear hb2); (try clear hk); (try clear hi); (try clear ho0)) | ((with_reducible refine gate_dst (N := 5) rfl ?_); refine box_event ?hg (N := 5) ?hd (cs := #[.int .u32 0, .int .u64 0, .int .i64 0, .string (⟨#[]⟩ : ByteArray), .slice none 0 0]) (t := 28) ?hr ?_; (case hd => rfl); (case hg => rfl); (case hr => first | (go_simp; done) | (go_simp; rfl)); intro gb111 hg w10 hbox hb; have n0_ := Aside0.mk (Kd.R_below (by (with_reducible repeat (first | apply Kd.R_alloc | apply Kd.R_drewN | apply Kd.R_drew)); exact HO109.out) hb); have n1_ := Aside0.mk (blk_below (g := gb101) (o := .cells #[.int .u32 a0_0, .int .u64 a0_1, .int .i64 a0_2, .string a0_3, .slice A0_4 l0_4.length c0_4] 28 (0, 0)) (by (with_reducible repeat (first | refine blk_drewN ?_ _ | refine blk_drew ?_ | refine blk_alloc ?_ _)); exact BK101.out) hb); have n2_ := Aside0.mk (blk_below (g := gb102) (o := .cells #[.int .i64 a1_0, .int .i64 a1_1, .string a1_2, .string a1_3] 54 (0, 0)) (by (with_reducible repeat (first | refine blk_drewN ?_ _ | refine blk_drew ?_ | refine blk_alloc ?_ _)); exact BK102.out) hb); have n3_ := Aside0.mk (below_step (by repeat (first | (with_reducible first | exact HB.out | apply below_alloc | apply pw_below_drewN | apply below_drew1 | refine below_set ?_ GE101.out | refine below_set ?_ GE102.out) | exact HB.out)) hb); have n4_ := Aside0.mk (hbox); have n5_ := Aside0.mk ((by rw [hg]; exact (below_size (by repeat (first | (with_reducible first | exact HB.out | apply below_alloc | apply pw_below_drewN | apply below_drew1 | refine below_set ?_ GE101.out | refine below_set ?_ GE102.out) | exact HB.out))) : w.heap.size ≤ gb111)); have n6_ := Aside0.mk ((by rw [hg]; exact (below_size (by repeat (first | (with_reducible first | exact HB.out | apply below_alloc | apply pw_below_drewN | apply below_drew1 | refine below_set ?_ GE101.out | refine below_set ?_ GE102.out) | exact HB.out))) : w.heap.size ≤ gb111)); have n7_ := Aside0.mk ((by rw [hg]; exact Nat.ne_of_lt (blk_lt (g := gb101) (o := .cells #[.int .u32 a0_0, .int .u64 a0_1, .int .i64 a0_2, .string a0_3, .slice A0_4 l0_4.length c0_4] 28 (0, 0)) (by (with_reducible repeat (first | refine blk_drewN ?_ _ | refine blk_drew ?_ | refine blk_alloc ?_ _)); exact BK101.out)) : gb101 ≠ gb111)); have n8_ := Aside0.mk ((by rw [hg]; exact Nat.ne_of_gt (blk_lt (g := gb101) (o := .cells #[.int .u32 a0_0, .int .u64 a0_1, .int .i64 a0_2, .string a0_3, .slice A0_4 l0_4.length c0_4] 28 (0, 0)) (by (with_reducible repeat (first | refine blk_drewN ?_ _ | refine blk_drew ?_ | refine blk_alloc ?_ _)); exact BK101.out)) : gb111 ≠ gb101)); have n9_ := Aside0.mk ((by rw [hg]; exact Nat.ne_of_lt (blk_lt (g := gb102) (o := .cells #[.int .i64 a1_0, .int .i64 a1_1, .string a1_2, .string a1_3] 54 (0, 0)) (by (with_reducible repeat (first | refine blk_drewN ?_ _ | refine blk_drew ?_ | refine blk_alloc ?_ _)); exact BK102.out)) : gb102 ≠ gb111)); have n10_ := Aside0.mk ((by rw [hg]; exact Nat.ne_of_gt (blk_lt (g := gb102) (o := .cells #[.int .i64 a1_0, .int .i64 a1_1, .string a1_2, .string a1_3] 54 (0, 0)) (by (with_reducible repeat (first | refine blk_drewN ?_ _ | refine blk_drew ?_ | refine blk_alloc ?_ _)); exact BK102.out)) : gb111 ≠ gb102)); clear HO109; clear BK101; clear BK102; clear HB; have HO109 := n0_; have BK101 := n1_; have BK102 := n2_; have HB := n3_; have BK111 := n4_; have GW111 := n5_; have GE111 := n6_; have NB101_111 := n7_; have NB111_101 := n8_; have NB102_111 := n9_; have NB111_102 := n10_; clear n0_ n1_ n2_ n3_ n4_ n5_ n6_ n7_ n8_ n9_ n10_; clear hb hbox hg; have hnb11 := NB111_101.out; have hnc11 := NB101_111.out; have hnb12 := NB111_102.out; have hnc12 := NB102_111.out; have hcz13_0 : w10.cell? ⟨gb111, 0, none⟩ = some (.int .u32 0) := (blk_cell BK111.out 0).trans rfl; have hcz13_1 : w10.cell? ⟨gb111, 1, none⟩ = some (.int .u64 0) := (blk_cell BK111.out 1).trans rfl; have hcz13_2 : w10.cell? ⟨gb111, 2, none⟩ = some (.int .i64 0) := (blk_cell BK111.out 2).trans rfl; have hcz13_3 : w10.cell? ⟨gb111, 3, none⟩ = some (.string (⟨#[]⟩ : ByteArray)) := (blk_cell BK111.out 3).trans rfl; have hcz13_4 : w10.cell? ⟨gb111, 4, none⟩ = some (.slice none 0 0) := (blk_cell BK111.out 4).trans rfl; have hfz13_0 := blk_frozen BK111.out 0; have hfz13_1 := blk_frozen BK111.out 1; have hfz13_2 := blk_frozen BK111.out 2; have hfz13_3 := blk_frozen BK111.out 3; have hfz13_4 := blk_frozen BK111.out 4; obtain ⟨Ao14, co14, eo14⟩ := Kd.R_slice HO109.out; subst eo14))
 go_ret
 exact ⟨by first | rfl | (simp [errW_none, errW_some] <;> rfl) | (simp [*, errW_none, errW_some] <;> rfl), by repeat (first | (with_reducible first | exact HB.out | apply below_alloc | apply pw_below_drewN | apply below_drew1 | refine below_set ?_ GE101.out | refine below_set ?_ GE102.out | refine below_set ?_ GE111.out) | exact HB.out)⟩
end Go.Proofs.Yteokjmjfjdgmpaa.PRm
end
