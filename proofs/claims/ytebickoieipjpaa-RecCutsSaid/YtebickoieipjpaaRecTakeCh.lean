import Derived.Test.YtebickoieipjpaaRecTake
import Derived.Test.YtebickoieipjpaaRecPut
namespace Go.Proofs.Ytebickoieipjpaa
open Go.RowKit Go.Gi
set_option maxRecDepth 20000
set_option linter.unusedSimpArgs false
set_option linter.unusedVariables false

theorem frozX {w : World} {g T : Nat} {cs : Array Value} (h : Blk w g T cs) : w.frozen? ⟨g, 4, none⟩ = false ∧ w.frozen? ⟨g, 5, none⟩ = false ∧ w.frozen? ⟨g, 6, none⟩ = false ∧ w.frozen? ⟨g, 7, none⟩ = false ∧ w.frozen? ⟨g, 8, none⟩ = false ∧ w.frozen? ⟨g, 9, none⟩ = false ∧ w.frozen? ⟨g, 10, none⟩ = false ∧ w.frozen? ⟨g, 11, none⟩ = false ∧ w.frozen? ⟨g, 12, none⟩ = false ∧ w.frozen? ⟨g, 13, none⟩ = false ∧ w.frozen? ⟨g, 14, none⟩ = false :=
  ⟨h.frozen 4, h.frozen 5, h.frozen 6, h.frozen 7, h.frozen 8, h.frozen 9, h.frozen 10, h.frozen 11, h.frozen 12, h.frozen 13, h.frozen 14⟩

set_option maxHeartbeats 16000000 in
theorem takeChange_any {w : World} {g b B : Nat} {L : List UInt8} {a : Nat} {e : Int} (hR : RS w 99 g L a e) {kind tx prev next : Int} {VA VB : Value} (hB : Blk w b 35 #[.int .i64 kind, .int .i64 tx, .int .u64 prev, .int .u64 next, .int .u32 0, .int .i64 0, .int .i64 0, .string (bs []), .string (bs []), .int .i64 0, .int .i64 0, .string (bs []), .int .u32 0, .int .i64 0, .bool false, VA, VB]) (hne : b ≠ g) (hBs : B ≤ w.heap.size) (hBg : B ≤ g) (hBb : B ≤ b) :
    Calls Try.prog 24 #[.pointer (some ⟨g, 0, none⟩), .pointer (some ⟨b, 0, none⟩)] w fun e' w' => e' = .returned (.tuple #[]) ∧ RS w' 99 g L (rdCh L a e).2.1 (rdCh L a e).2.2 ∧
      Blk w' b 35 #[.int .i64 kind, .int .i64 tx, .int .u64 prev, .int .u64 next, .int .u32 (rdCh L a e).1.page, .int .i64 (rdCh L a e).1.ok, .int .i64 (rdCh L a e).1.oa, .string (bs (rdCh L a e).1.os), .string (bs (rdCh L a e).1.oo), .int .i64 (rdCh L a e).1.undo, .int .i64 (rdCh L a e).1.index, .string (bs (rdCh L a e).1.key), .int .u32 (rdCh L a e).1.rpage, .int .i64 (rdCh L a e).1.rslot, .bool (rdCh L a e).1.live, VA, VB] ∧ Below B w w' := by
  obtain ⟨v1, a1, e1, h1⟩ : ∃ v a' e', rNum L a e 4 = (v, a', e') := ⟨_, _, _, rfl⟩
  have b1 : v1 < 4294967296 := by have := rNum_lt L a e 4; rw [show (((4 : Nat) : Int)) = (4 : Int) from rfl, h1] at this; simpa using this
  obtain ⟨v2, a2, e2, h2⟩ : ∃ v a' e', rNum L a1 e1 1 = (v, a', e') := ⟨_, _, _, rfl⟩
  have b2 : v2 < 256 := by have := rNum_lt L a1 e1 1; rw [show (((1 : Nat) : Int)) = (1 : Int) from rfl, h2] at this; simpa using this
  obtain ⟨v3, a3, e3, h3⟩ : ∃ v a' e', rNum L a2 e2 2 = (v, a', e') := ⟨_, _, _, rfl⟩
  have b3 : v3 < 65536 := by have := rNum_lt L a2 e2 2; rw [show (((2 : Nat) : Int)) = (2 : Int) from rfl, h3] at this; simpa using this
  obtain ⟨v4, a4, e4, h4⟩ : ∃ v a' e', rText L a3 e3 512 = (v, a', e') := ⟨_, _, _, rfl⟩
  obtain ⟨v5, a5, e5, h5⟩ : ∃ v a' e', rText L a4 e4 512 = (v, a', e') := ⟨_, _, _, rfl⟩
  obtain ⟨v6, a6, e6, h6⟩ : ∃ v a' e', rNum L a5 e5 1 = (v, a', e') := ⟨_, _, _, rfl⟩
  have b6 : v6 < 256 := by have := rNum_lt L a5 e5 1; rw [show (((1 : Nat) : Int)) = (1 : Int) from rfl, h6] at this; simpa using this
  obtain ⟨v7, a7, e7, h7⟩ : ∃ v a' e', rNum L a6 e6 2 = (v, a', e') := ⟨_, _, _, rfl⟩
  have b7 : v7 < 65536 := by have := rNum_lt L a6 e6 2; rw [show (((2 : Nat) : Int)) = (2 : Int) from rfl, h7] at this; simpa using this
  obtain ⟨v8, a8, e8, h8⟩ : ∃ v a' e', rText L a7 e7 64 = (v, a', e') := ⟨_, _, _, rfl⟩
  obtain ⟨v9, a9, e9, h9⟩ : ∃ v a' e', rNum L a8 e8 4 = (v, a', e') := ⟨_, _, _, rfl⟩
  have b9 : v9 < 4294967296 := by have := rNum_lt L a8 e8 4; rw [show (((4 : Nat) : Int)) = (4 : Int) from rfl, h9] at this; simpa using this
  obtain ⟨v10, a10, e10, h10⟩ : ∃ v a' e', rNum L a9 e9 2 = (v, a', e') := ⟨_, _, _, rfl⟩
  have b10 : v10 < 65536 := by have := rNum_lt L a9 e9 2; rw [show (((2 : Nat) : Int)) = (2 : Int) from rfl, h10] at this; simpa using this
  obtain ⟨v11, a11, e11, h11⟩ : ∃ v a' e', rBool L a10 e10 = (v, a', e') := ⟨_, _, _, rfl⟩
  have H1 := Lib.hid h1
  have H2 := Lib.hid h2
  have H3 := Lib.hid h3
  have H4 := Lib.hid h4
  have H5 := Lib.hid h5
  have H6 := Lib.hid h6
  have H7 := Lib.hid h7
  have H8 := Lib.hid h8
  have H9 := Lib.hid h9
  have H10 := Lib.hid h10
  have H11 := Lib.hid h11
  have HF0 := Lib.hid (show ¬ (v6 : Int) = 2 → rdCh L a e = (⟨v1, v2, v3, v4, v5, v6, 0, [], 0, 0, false⟩, a6, e6) from fun hu => by simp only [rdCh, h1, h2, h3, h4, h5, h6]; rw [if_neg hu])
  have HF1 := Lib.hid (show (v6 : Int) = 2 → rdCh L a e = (⟨v1, v2, v3, v4, v5, v6, v7, v8, v9, v10, v11⟩, a11, e11) from fun hu => by simp only [rdCh, h1, h2, h3, h4, h5, h6, h7, h8, h9, h10, h11]; rw [if_pos hu])
  generalize rdCh L a e = RES at *
  clear h1 h2 h3 h4 h5 h6 h7 h8 h9 h10 h11
  have HR := Lib.hid hR
  have HB := Lib.hid hB
  have HK := Lib.hid (show Below B w w from ⟨rfl, rfl, rfl, Nat.le_refl _, fun _ _ => rfl⟩)
  have Hne := Lib.hid hne
  have Hbs := Lib.hid hBs
  have Hbg := Lib.hid hBg
  have Hbb := Lib.hid hBb
  obtain ⟨f4, f5, f6, f7, f8, f9, f10, f11, f12, f13, f14⟩ := frozX hB
  obtain ⟨c4, c5, c6, c7, c8, c9, c10, c11, c12, c13, c14⟩ := cells17 hB
  clear hR hB hne hBs hBg hBb
  go_enter Try.func24, Try.ntmps24
  go_upto_region 0 with fail
  go_cut [] from 4 to 9 (fun wx => RS wx 99 g L a1 e1 ∧ Blk wx b 35 #[.int .i64 kind, .int .i64 tx, .int .u64 prev, .int .u64 next, .int .u32 v1, .int .i64 0, .int .i64 0, .string (bs []), .string (bs []), .int .i64 0, .int .i64 0, .string (bs []), .int .u32 0, .int .i64 0, .bool false, VA, VB] ∧ Below B w wx)
  case first =>
    go_wp2_with (first | (go_at_call 23; refine (num_st HR.out _ _ _ _ (by first | exact H1.out | exact H2.out | exact H3.out | exact H6.out | exact H7.out | exact H9.out | exact H10.out)).mono ?_; rintro e' w1 ⟨rfl, hr1, hg1⟩; have HR1 := Lib.hid hr1; have HB1 := Lib.hid (HB.out.grown hg1 (by simp [Hne.out])); have HK1 := Lib.hid (bgrownB HK.out hg1 Hbs.out Hbg.out); clear HR HB HK hr1 hg1 f4 f5 f6 f7 f8 f9 f10 f11 f12 f13 f14 c4 c5 c6 c7 c8 c9 c10 c11 c12 c13 c14; have HR := HR1; have HB := HB1; have HK := HK1; clear HR1 HB1 HK1; obtain ⟨f4, f5, f6, f7, f8, f9, f10, f11, f12, f13, f14⟩ := frozX HB.out; obtain ⟨c4, c5, c6, c7, c8, c9, c10, c11, c12, c13, c14⟩ := cells17 HB.out))
    go_meet
    exact ⟨(RS.far HR.out Hne.out), (HB.out.set_ 4 (.int .u32 v1)), (bsetB HK.out Hbb.out (.int .u32 v1))⟩
  case rest =>
  obtain ⟨hr2, hb2, hk2⟩ := hcut
  clear HR HB HK f4 f5 f6 f7 f8 f9 f10 f11 f12 f13 f14 c4 c5 c6 c7 c8 c9 c10 c11 c12 c13 c14
  have HR := Lib.hid hr2
  have HB := Lib.hid hb2
  have HK := Lib.hid hk2
  clear hr2 hb2 hk2
  obtain ⟨f4, f5, f6, f7, f8, f9, f10, f11, f12, f13, f14⟩ := frozX HB.out
  obtain ⟨c4, c5, c6, c7, c8, c9, c10, c11, c12, c13, c14⟩ := cells17 HB.out
  go_upto_region 1 with fail
  go_cut [] from 10 to 19 (fun wx => RS wx 99 g L a3 e3 ∧ Blk wx b 35 #[.int .i64 kind, .int .i64 tx, .int .u64 prev, .int .u64 next, .int .u32 v1, .int .i64 v2, .int .i64 v3, .string (bs []), .string (bs []), .int .i64 0, .int .i64 0, .string (bs []), .int .u32 0, .int .i64 0, .bool false, VA, VB] ∧ Below B w wx)
  case first =>
    go_wp2_with (first | (go_at_call 23; refine (num_st HR.out _ _ _ _ (by first | exact H1.out | exact H2.out | exact H3.out | exact H6.out | exact H7.out | exact H9.out | exact H10.out)).mono ?_; rintro e' w1 ⟨rfl, hr1, hg1⟩; have HR1 := Lib.hid hr1; have HB1 := Lib.hid (HB.out.grown hg1 (by simp [Hne.out])); have HK1 := Lib.hid (bgrownB HK.out hg1 Hbs.out Hbg.out); clear HR HB HK hr1 hg1 f4 f5 f6 f7 f8 f9 f10 f11 f12 f13 f14 c4 c5 c6 c7 c8 c9 c10 c11 c12 c13 c14; have HR := HR1; have HB := HB1; have HK := HK1; clear HR1 HB1 HK1; obtain ⟨f4, f5, f6, f7, f8, f9, f10, f11, f12, f13, f14⟩ := frozX HB.out; obtain ⟨c4, c5, c6, c7, c8, c9, c10, c11, c12, c13, c14⟩ := cells17 HB.out))
    go_meet
    exact ⟨(RS.far (RS.far (RS.far (RS.far HR.out Hne.out) Hne.out) Hne.out) Hne.out), ((((HB.out.set_ 5 (.int .i64 v2)).set_ 6 (.int .i64 v3)).set_ 7 (.string (bs []))).set_ 8 (.string (bs []))), (bsetB (bsetB (bsetB (bsetB HK.out Hbb.out (.int .i64 v2)) Hbb.out (.int .i64 v3)) Hbb.out (.string (bs []))) Hbb.out (.string (bs [])))⟩
  case rest =>
  obtain ⟨hr2, hb2, hk2⟩ := hcut
  clear HR HB HK f4 f5 f6 f7 f8 f9 f10 f11 f12 f13 f14 c4 c5 c6 c7 c8 c9 c10 c11 c12 c13 c14
  have HR := Lib.hid hr2
  have HB := Lib.hid hb2
  have HK := Lib.hid hk2
  clear hr2 hb2 hk2
  obtain ⟨f4, f5, f6, f7, f8, f9, f10, f11, f12, f13, f14⟩ := frozX HB.out
  obtain ⟨c4, c5, c6, c7, c8, c9, c10, c11, c12, c13, c14⟩ := cells17 HB.out
  go_upto_region 2 with fail
  go_cut [] from 20 to 25 (fun wx => RS wx 99 g L a4 e4 ∧ Blk wx b 35 #[.int .i64 kind, .int .i64 tx, .int .u64 prev, .int .u64 next, .int .u32 v1, .int .i64 v2, .int .i64 v3, .string (bs v4), .string (bs []), .int .i64 0, .int .i64 0, .string (bs []), .int .u32 0, .int .i64 0, .bool false, VA, VB] ∧ Below B w wx)
  case first =>
    go_wp2_with (first | (go_at_call 43; refine (text_st HR.out _ _ _ _ (by first | exact H4.out | exact H5.out | exact H8.out)).mono ?_; rintro e' w1 ⟨rfl, hr1, hg1⟩; have HR1 := Lib.hid hr1; have HB1 := Lib.hid (HB.out.grown hg1 (by simp [Hne.out])); have HK1 := Lib.hid (bgrownB HK.out hg1 Hbs.out Hbg.out); clear HR HB HK hr1 hg1 f4 f5 f6 f7 f8 f9 f10 f11 f12 f13 f14 c4 c5 c6 c7 c8 c9 c10 c11 c12 c13 c14; have HR := HR1; have HB := HB1; have HK := HK1; clear HR1 HB1 HK1; obtain ⟨f4, f5, f6, f7, f8, f9, f10, f11, f12, f13, f14⟩ := frozX HB.out; obtain ⟨c4, c5, c6, c7, c8, c9, c10, c11, c12, c13, c14⟩ := cells17 HB.out))
    go_meet
    exact ⟨(RS.far HR.out Hne.out), (HB.out.set_ 7 (.string (bs v4))), (bsetB HK.out Hbb.out (.string (bs v4)))⟩
  case rest =>
  obtain ⟨hr2, hb2, hk2⟩ := hcut
  clear HR HB HK f4 f5 f6 f7 f8 f9 f10 f11 f12 f13 f14 c4 c5 c6 c7 c8 c9 c10 c11 c12 c13 c14
  have HR := Lib.hid hr2
  have HB := Lib.hid hb2
  have HK := Lib.hid hk2
  clear hr2 hb2 hk2
  obtain ⟨f4, f5, f6, f7, f8, f9, f10, f11, f12, f13, f14⟩ := frozX HB.out
  obtain ⟨c4, c5, c6, c7, c8, c9, c10, c11, c12, c13, c14⟩ := cells17 HB.out
  go_upto_region 3 with fail
  go_cut [] from 26 to 31 (fun wx => RS wx 99 g L a5 e5 ∧ Blk wx b 35 #[.int .i64 kind, .int .i64 tx, .int .u64 prev, .int .u64 next, .int .u32 v1, .int .i64 v2, .int .i64 v3, .string (bs v4), .string (bs v5), .int .i64 0, .int .i64 0, .string (bs []), .int .u32 0, .int .i64 0, .bool false, VA, VB] ∧ Below B w wx)
  case first =>
    go_wp2_with (first | (go_at_call 43; refine (text_st HR.out _ _ _ _ (by first | exact H4.out | exact H5.out | exact H8.out)).mono ?_; rintro e' w1 ⟨rfl, hr1, hg1⟩; have HR1 := Lib.hid hr1; have HB1 := Lib.hid (HB.out.grown hg1 (by simp [Hne.out])); have HK1 := Lib.hid (bgrownB HK.out hg1 Hbs.out Hbg.out); clear HR HB HK hr1 hg1 f4 f5 f6 f7 f8 f9 f10 f11 f12 f13 f14 c4 c5 c6 c7 c8 c9 c10 c11 c12 c13 c14; have HR := HR1; have HB := HB1; have HK := HK1; clear HR1 HB1 HK1; obtain ⟨f4, f5, f6, f7, f8, f9, f10, f11, f12, f13, f14⟩ := frozX HB.out; obtain ⟨c4, c5, c6, c7, c8, c9, c10, c11, c12, c13, c14⟩ := cells17 HB.out))
    go_meet
    exact ⟨(RS.far HR.out Hne.out), (HB.out.set_ 8 (.string (bs v5))), (bsetB HK.out Hbb.out (.string (bs v5)))⟩
  case rest =>
  obtain ⟨hr2, hb2, hk2⟩ := hcut
  clear HR HB HK f4 f5 f6 f7 f8 f9 f10 f11 f12 f13 f14 c4 c5 c6 c7 c8 c9 c10 c11 c12 c13 c14
  have HR := Lib.hid hr2
  have HB := Lib.hid hb2
  have HK := Lib.hid hk2
  clear hr2 hb2 hk2
  obtain ⟨f4, f5, f6, f7, f8, f9, f10, f11, f12, f13, f14⟩ := frozX HB.out
  obtain ⟨c4, c5, c6, c7, c8, c9, c10, c11, c12, c13, c14⟩ := cells17 HB.out
  go_upto_region 4 with fail
  go_cut [] from 32 to 37 (fun wx => RS wx 99 g L a6 e6 ∧ Blk wx b 35 #[.int .i64 kind, .int .i64 tx, .int .u64 prev, .int .u64 next, .int .u32 v1, .int .i64 v2, .int .i64 v3, .string (bs v4), .string (bs v5), .int .i64 v6, .int .i64 0, .string (bs []), .int .u32 0, .int .i64 0, .bool false, VA, VB] ∧ Below B w wx)
  case first =>
    go_wp2_with (first | (go_at_call 23; refine (num_st HR.out _ _ _ _ (by first | exact H1.out | exact H2.out | exact H3.out | exact H6.out | exact H7.out | exact H9.out | exact H10.out)).mono ?_; rintro e' w1 ⟨rfl, hr1, hg1⟩; have HR1 := Lib.hid hr1; have HB1 := Lib.hid (HB.out.grown hg1 (by simp [Hne.out])); have HK1 := Lib.hid (bgrownB HK.out hg1 Hbs.out Hbg.out); clear HR HB HK hr1 hg1 f4 f5 f6 f7 f8 f9 f10 f11 f12 f13 f14 c4 c5 c6 c7 c8 c9 c10 c11 c12 c13 c14; have HR := HR1; have HB := HB1; have HK := HK1; clear HR1 HB1 HK1; obtain ⟨f4, f5, f6, f7, f8, f9, f10, f11, f12, f13, f14⟩ := frozX HB.out; obtain ⟨c4, c5, c6, c7, c8, c9, c10, c11, c12, c13, c14⟩ := cells17 HB.out))
    go_meet
    exact ⟨(RS.far HR.out Hne.out), (HB.out.set_ 9 (.int .i64 v6)), (bsetB HK.out Hbb.out (.int .i64 v6))⟩
  case rest =>
  obtain ⟨hr2, hb2, hk2⟩ := hcut
  clear HR HB HK f4 f5 f6 f7 f8 f9 f10 f11 f12 f13 f14 c4 c5 c6 c7 c8 c9 c10 c11 c12 c13 c14
  have HR := Lib.hid hr2
  have HB := Lib.hid hb2
  have HK := Lib.hid hk2
  clear hr2 hb2 hk2
  obtain ⟨f4, f5, f6, f7, f8, f9, f10, f11, f12, f13, f14⟩ := frozX HB.out
  obtain ⟨c4, c5, c6, c7, c8, c9, c10, c11, c12, c13, c14⟩ := cells17 HB.out
  by_cases hu : (v6 : Int) = 2
  · have hub : ((v6 : Int) == 2) = true := by simp [hu]
    have HU := Lib.hid hu
    clear hu
    go_upto_region 6 with fail
    go_cut [] from 43 to 48 (fun wx => RS wx 99 g L a7 e7 ∧ Blk wx b 35 #[.int .i64 kind, .int .i64 tx, .int .u64 prev, .int .u64 next, .int .u32 v1, .int .i64 v2, .int .i64 v3, .string (bs v4), .string (bs v5), .int .i64 v6, .int .i64 v7, .string (bs []), .int .u32 0, .int .i64 0, .bool false, VA, VB] ∧ Below B w wx)
    case first =>
      go_wp2_with (first | (go_at_call 23; refine (num_st HR.out _ _ _ _ (by first | exact H1.out | exact H2.out | exact H3.out | exact H6.out | exact H7.out | exact H9.out | exact H10.out)).mono ?_; rintro e' w1 ⟨rfl, hr1, hg1⟩; have HR1 := Lib.hid hr1; have HB1 := Lib.hid (HB.out.grown hg1 (by simp [Hne.out])); have HK1 := Lib.hid (bgrownB HK.out hg1 Hbs.out Hbg.out); clear HR HB HK hr1 hg1 f4 f5 f6 f7 f8 f9 f10 f11 f12 f13 f14 c4 c5 c6 c7 c8 c9 c10 c11 c12 c13 c14; have HR := HR1; have HB := HB1; have HK := HK1; clear HR1 HB1 HK1; obtain ⟨f4, f5, f6, f7, f8, f9, f10, f11, f12, f13, f14⟩ := frozX HB.out; obtain ⟨c4, c5, c6, c7, c8, c9, c10, c11, c12, c13, c14⟩ := cells17 HB.out))
      go_meet
      exact ⟨(RS.far HR.out Hne.out), (HB.out.set_ 10 (.int .i64 v7)), (bsetB HK.out Hbb.out (.int .i64 v7))⟩
    case rest =>
    obtain ⟨hr2, hb2, hk2⟩ := hcut
    clear HR HB HK f4 f5 f6 f7 f8 f9 f10 f11 f12 f13 f14 c4 c5 c6 c7 c8 c9 c10 c11 c12 c13 c14
    have HR := Lib.hid hr2
    have HB := Lib.hid hb2
    have HK := Lib.hid hk2
    clear hr2 hb2 hk2
    obtain ⟨f4, f5, f6, f7, f8, f9, f10, f11, f12, f13, f14⟩ := frozX HB.out
    obtain ⟨c4, c5, c6, c7, c8, c9, c10, c11, c12, c13, c14⟩ := cells17 HB.out
    go_upto_region 7 with fail
    go_cut [] from 49 to 54 (fun wx => RS wx 99 g L a8 e8 ∧ Blk wx b 35 #[.int .i64 kind, .int .i64 tx, .int .u64 prev, .int .u64 next, .int .u32 v1, .int .i64 v2, .int .i64 v3, .string (bs v4), .string (bs v5), .int .i64 v6, .int .i64 v7, .string (bs v8), .int .u32 0, .int .i64 0, .bool false, VA, VB] ∧ Below B w wx)
    case first =>
      go_wp2_with (first | (go_at_call 43; refine (text_st HR.out _ _ _ _ (by first | exact H4.out | exact H5.out | exact H8.out)).mono ?_; rintro e' w1 ⟨rfl, hr1, hg1⟩; have HR1 := Lib.hid hr1; have HB1 := Lib.hid (HB.out.grown hg1 (by simp [Hne.out])); have HK1 := Lib.hid (bgrownB HK.out hg1 Hbs.out Hbg.out); clear HR HB HK hr1 hg1 f4 f5 f6 f7 f8 f9 f10 f11 f12 f13 f14 c4 c5 c6 c7 c8 c9 c10 c11 c12 c13 c14; have HR := HR1; have HB := HB1; have HK := HK1; clear HR1 HB1 HK1; obtain ⟨f4, f5, f6, f7, f8, f9, f10, f11, f12, f13, f14⟩ := frozX HB.out; obtain ⟨c4, c5, c6, c7, c8, c9, c10, c11, c12, c13, c14⟩ := cells17 HB.out))
      go_meet
      exact ⟨(RS.far HR.out Hne.out), (HB.out.set_ 11 (.string (bs v8))), (bsetB HK.out Hbb.out (.string (bs v8)))⟩
    case rest =>
    obtain ⟨hr2, hb2, hk2⟩ := hcut
    clear HR HB HK f4 f5 f6 f7 f8 f9 f10 f11 f12 f13 f14 c4 c5 c6 c7 c8 c9 c10 c11 c12 c13 c14
    have HR := Lib.hid hr2
    have HB := Lib.hid hb2
    have HK := Lib.hid hk2
    clear hr2 hb2 hk2
    obtain ⟨f4, f5, f6, f7, f8, f9, f10, f11, f12, f13, f14⟩ := frozX HB.out
    obtain ⟨c4, c5, c6, c7, c8, c9, c10, c11, c12, c13, c14⟩ := cells17 HB.out
    go_upto_region 8 with fail
    go_cut [] from 55 to 65 (fun wx => RS wx 99 g L a10 e10 ∧ Blk wx b 35 #[.int .i64 kind, .int .i64 tx, .int .u64 prev, .int .u64 next, .int .u32 v1, .int .i64 v2, .int .i64 v3, .string (bs v4), .string (bs v5), .int .i64 v6, .int .i64 v7, .string (bs v8), .int .u32 v9, .int .i64 v10, .bool false, VA, VB] ∧ Below B w wx)
    case first =>
      go_wp2_with (first | (go_at_call 23; refine (num_st HR.out _ _ _ _ (by first | exact H1.out | exact H2.out | exact H3.out | exact H6.out | exact H7.out | exact H9.out | exact H10.out)).mono ?_; rintro e' w1 ⟨rfl, hr1, hg1⟩; have HR1 := Lib.hid hr1; have HB1 := Lib.hid (HB.out.grown hg1 (by simp [Hne.out])); have HK1 := Lib.hid (bgrownB HK.out hg1 Hbs.out Hbg.out); clear HR HB HK hr1 hg1 f4 f5 f6 f7 f8 f9 f10 f11 f12 f13 f14 c4 c5 c6 c7 c8 c9 c10 c11 c12 c13 c14; have HR := HR1; have HB := HB1; have HK := HK1; clear HR1 HB1 HK1; obtain ⟨f4, f5, f6, f7, f8, f9, f10, f11, f12, f13, f14⟩ := frozX HB.out; obtain ⟨c4, c5, c6, c7, c8, c9, c10, c11, c12, c13, c14⟩ := cells17 HB.out))
      go_meet
      exact ⟨(RS.far (RS.far HR.out Hne.out) Hne.out), ((HB.out.set_ 12 (.int .u32 v9)).set_ 13 (.int .i64 v10)), (bsetB (bsetB HK.out Hbb.out (.int .u32 v9)) Hbb.out (.int .i64 v10))⟩
    case rest =>
    obtain ⟨hr2, hb2, hk2⟩ := hcut
    clear HR HB HK f4 f5 f6 f7 f8 f9 f10 f11 f12 f13 f14 c4 c5 c6 c7 c8 c9 c10 c11 c12 c13 c14
    have HR := Lib.hid hr2
    have HB := Lib.hid hb2
    have HK := Lib.hid hk2
    clear hr2 hb2 hk2
    obtain ⟨f4, f5, f6, f7, f8, f9, f10, f11, f12, f13, f14⟩ := frozX HB.out
    obtain ⟨c4, c5, c6, c7, c8, c9, c10, c11, c12, c13, c14⟩ := cells17 HB.out
    go_wp2_with (first | (go_at_call 44; refine (bool_st HR.out _ _ _ H11.out).mono ?_; rintro e' w1 ⟨rfl, hr1, hg1⟩; have HR1 := Lib.hid hr1; have HB1 := Lib.hid (HB.out.grown hg1 (by simp [Hne.out])); have HK1 := Lib.hid (bgrownB HK.out hg1 Hbs.out Hbg.out); clear HR HB HK hr1 hg1 f4 f5 f6 f7 f8 f9 f10 f11 f12 f13 f14 c4 c5 c6 c7 c8 c9 c10 c11 c12 c13 c14; have HR := HR1; have HB := HB1; have HK := HK1; clear HR1 HB1 HK1; obtain ⟨f4, f5, f6, f7, f8, f9, f10, f11, f12, f13, f14⟩ := frozX HB.out; obtain ⟨c4, c5, c6, c7, c8, c9, c10, c11, c12, c13, c14⟩ := cells17 HB.out))
    go_end0
    rw [HF1.out HU.out]
    exact ⟨rfl, (RS.far HR.out Hne.out), (HB.out.set_ 14 (.bool v11)), (bsetB HK.out Hbb.out (.bool v11))⟩
  · have hub : ((v6 : Int) == 2) = false := by simp [hu]
    have HU := Lib.hid hu
    clear hu
    go_wp2
    go_end0
    rw [HF0.out HU.out]
    exact ⟨rfl, HR.out, HB.out, HK.out⟩
end Go.Proofs.Ytebickoieipjpaa
