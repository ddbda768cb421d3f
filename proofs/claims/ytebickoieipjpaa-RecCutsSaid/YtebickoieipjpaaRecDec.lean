import Derived.Test.YtebickoieipjpaaRecDecP
import Derived.Test.YtebickoieipjpaaRowOwn
import Derived.Test.YtebickoieipjpaaRecTakeCh
import Derived.Test.YtebickoieipjpaaRecEnc
namespace Go.Proofs.Ytebickoieipjpaa
open Go.RowKit Go.Gi Go.GiRow
set_option maxRecDepth 20000
set_option linter.unusedSimpArgs false
set_option linter.unusedVariables false

theorem rdNext_yes {L : List UInt8} {k : Int} {a : Nat} {e : Int} {q : Nat × Nat × Int} (h : rdNext L k a e = q) (hk : isNext k) : rNum L a e 8 = q := by unfold rdNext at h; rwa [if_pos hk] at h
theorem rdNext_no {L : List UInt8} {k : Int} {a : Nat} {e : Int} {v a' : Nat} {e' : Int} (h : rdNext L k a e = (v, a', e')) (hk : ¬ isNext k) : v = 0 ∧ a' = a ∧ e' = e := by
  unfold rdNext at h; rw [if_neg hk] at h; injection h with h1 h2; injection h2 with h2 h3; exact ⟨h1.symm, h2.symm, h3.symm⟩
theorem rdChIf_yes {L : List UInt8} {k : Int} {a : Nat} {e : Int} {q : ChR × Nat × Int} (h : rdChIf L k a e = q) (hk : isChange k) : rdCh L a e = q := by unfold rdChIf at h; rwa [if_pos hk] at h
theorem rdChIf_no {L : List UInt8} {k : Int} {a : Nat} {e : Int} {v : ChR} {a' : Nat} {e' : Int} (h : rdChIf L k a e = (v, a', e')) (hk : ¬ isChange k) : v = zCh ∧ a' = a ∧ e' = e := by
  unfold rdChIf at h; rw [if_neg hk] at h; injection h with h1 h2; injection h2 with h2 h3; exact ⟨h1.symm, h2.symm, h3.symm⟩
theorem rdTabIf_yes {L : List UInt8} {k : Int} {a : Nat} {e : Int} {q : TabR × Nat × Int} (h : rdTabIf L k a e = q) (hk : k = 8) : rdTab L a e = q := by unfold rdTabIf at h; rwa [if_pos hk] at h
theorem rdTabIf_no {L : List UInt8} {k : Int} {a : Nat} {e : Int} {v : TabR} {a' : Nat} {e' : Int} (h : rdTabIf L k a e = (v, a', e')) (hk : ¬ k = 8) : v = ⟨[], []⟩ ∧ a' = a ∧ e' = e := by
  unfold rdTabIf at h; rw [if_neg hk] at h; injection h with h1 h2; injection h2 with h2 h3; exact ⟨h1.symm, h2.symm, h3.symm⟩
theorem infoTS : (Try.prog.info? 70).map (fun i => (i.zero, i.size, i.bytes)) = some (some (.agg #[.int .i64 0, .int .i64 0, .int .u64 0, .int .u64 0]), 4, 32) := by kernel_rfl
theorem infoTD : (Try.prog.info? 72).map (fun i => (i.zero, i.size, i.bytes)) = some (some (.agg #[.int .u32 0, .int .u64 0]), 2, 16) := by kernel_rfl
theorem own_rd {α : Type} {enc : α → List Value} {size : Nat} {w : World} {base TE c : Nat} {A : Option Addr} {l : List α} (henc : ∀ a, (enc a).length = size) (ho : w.ownsRow base TE size (.slice A l.length c) l.length (l.map enc).flatten) : RdRows enc size w A l := by
  obtain ⟨A', c', e, h⟩ := own_rows henc ho
  injection e with e1 e2 e3
  subst e1
  exact fun k hk => by
    obtain ⟨b, off, h1, h2, h3, h4⟩ := h k hk
    exact ⟨b, off, h1, h3, h4⟩
theorem end_st {g : Nat} {L : List UInt8} {a : Nat} {e : Int} {w : World} (h : RS w 99 g L a e) :
    Calls Try.prog 26 #[.pointer (some ⟨g, 0, none⟩)] w fun e' w' => e' = .returned (.int .i64 (rEnd L a e)) ∧ w.grownBy w' (some g) := by
  have := rend_any h.rd h.long (by rw [bs_size]; exact h.at_)
  rw [toList_bs] at this
  exact this.mono fun _ _ ⟨x, y, z⟩ => ⟨x, z⟩

set_option maxHeartbeats 16000000 in
theorem decode_any (L : List UInt8) (w : World) (hL : L.length ≤ 9223372036854775807) :
    Calls Try.prog 9 #[.string (bs L)] w fun e' w' =>
      ((decOk L → ∃ A c B d, e' = .returned (.tuple #[(rdRec L).1.val A c B d, .int .i64 0]) ∧ RdRows StR.cells 4 w' A (rdRec L).1.txs ∧ RdRows DiR.cells 2 w' B (rdRec L).1.dirty)
        ∧ (¬ decOk L → e' = .returned (.tuple #[.agg #[.int .i64 0, .int .i64 0, .int .u64 0, .int .u64 0, .int .u32 0, .int .i64 0, .int .i64 0, .string (bs []), .string (bs []), .int .i64 0, .int .i64 0, .string (bs []), .int .u32 0, .int .i64 0, .bool false, .slice none 0 0, .slice none 0 0], .int .i64 40]))) ∧ Below w.heap.size w w' := by
  have hlong : (bs L).size ≤ maxLen := by rw [bs_size]; unfold maxLen; omega
  obtain ⟨v1, a1, e1, h1⟩ : ∃ v a' e', rNum L 0 0 1 = (v, a', e') := ⟨_, _, _, rfl⟩
  obtain ⟨v2, a2, e2, h2⟩ : ∃ v a' e', rNum L a1 e1 4 = (v, a', e') := ⟨_, _, _, rfl⟩
  obtain ⟨v3, a3, e3, h3⟩ : ∃ v a' e', rNum L a2 e2 8 = (v, a', e') := ⟨_, _, _, rfl⟩
  obtain ⟨v4, a4, e4, h4⟩ : ∃ v a' e', rdNext L v1 a3 e3 = (v, a', e') := ⟨_, _, _, rfl⟩
  obtain ⟨c5, a5, e5, h5⟩ : ∃ v a' e', rdChIf L v1 a4 e4 = (v, a', e') := ⟨_, _, _, rfl⟩
  obtain ⟨t6, a6, e6, h6⟩ : ∃ v a' e', rdTabIf L v1 a5 e5 = (v, a', e') := ⟨_, _, _, rfl⟩
  have hrec : rdRec L = (mkRec v1 v2 v3 v4 c5 t6, a6, e6) := by simp only [rdRec, h1, h2, h3, h4, h5, h6]
  have hb1 : v1 < 256 := by have := rNum_lt L 0 0 1; rw [show ((1 : Nat) : Int) = (1 : Int) from rfl, h1] at this; simpa using this
  have hb2 : v2 < 4294967296 := by have := rNum_lt L a1 e1 4; rw [show ((4 : Nat) : Int) = (4 : Int) from rfl, h2] at this; simpa using this
  have hb3 : v3 < 18446744073709551616 := by have := rNum_lt L a2 e2 8; rw [show ((8 : Nat) : Int) = (8 : Int) from rfl, h3] at this; simpa using this
  unfold decOk
  rw [hrec]
  simp only
  obtain ⟨RR, hRR⟩ : ∃ RR, RR = mkRec v1 v2 v3 v4 c5 t6 := ⟨_, rfl⟩
  rw [← hRR]
  obtain ⟨E, hE⟩ : ∃ E, rEnd L a6 e6 = E := ⟨_, rfl⟩
  rw [hE]
  generalize hPOST : (fun (e' : Ending) (w' : World) => ((E = 0 ∧ recOk RR → ∃ A c B d, e' = Ending.returned (.tuple #[RR.val A c B d, .int .i64 0]) ∧ RdRows StR.cells 4 w' A RR.txs ∧ RdRows DiR.cells 2 w' B RR.dirty) ∧ (¬ (E = 0 ∧ recOk RR) → e' = Ending.returned (.tuple #[.agg #[.int .i64 0, .int .i64 0, .int .u64 0, .int .u64 0, .int .u32 0, .int .i64 0, .int .i64 0, .string (bs []), .string (bs []), .int .i64 0, .int .i64 0, .string (bs []), .int .u32 0, .int .i64 0, .bool false, .slice none 0 0, .slice none 0 0], .int .i64 40]))) ∧ Below w.heap.size w w') = POST
  have HPOST := Lib.hid hPOST
  have H1 := Lib.hid h1
  have H2 := Lib.hid h2
  have H3 := Lib.hid h3
  have H4 := Lib.hid h4
  have H5 := Lib.hid h5
  have H6 := Lib.hid h6
  have HE := Lib.hid hE
  have HRR := Lib.hid hRR
  have Hlong := Lib.hid hlong
  clear h1 h2 h3 h4 h5 h6 hrec hRR hE hlong hL hPOST
  go_enter Try.func9, Try.ntmps9
  go_upto_region 1 with fail
  have hZ : Blk (w.alloc (.cells #[.int .i64 0, .int .i64 0, .int .u64 0, .int .u64 0, .int .u32 0, .int .i64 0, .int .i64 0, .string ⟨#[]⟩, .string ⟨#[]⟩, .int .i64 0, .int .i64 0, .string ⟨#[]⟩, .int .u32 0, .int .i64 0, .bool false, .slice none 0 0, .slice none 0 0] 35)) w.heap.size 35 #[.int .i64 0, .int .i64 0, .int .u64 0, .int .u64 0, .int .u32 0, .int .i64 0, .int .i64 0, .string (bs []), .string (bs []), .int .i64 0, .int .i64 0, .string (bs []), .int .u32 0, .int .i64 0, .bool false, .slice none 0 0, .slice none 0 0] := Blk.new w 35 #[.int .i64 0, .int .i64 0, .int .u64 0, .int .u64 0, .int .u32 0, .int .i64 0, .int .i64 0, .string ⟨#[]⟩, .string ⟨#[]⟩, .int .i64 0, .int .i64 0, .string ⟨#[]⟩, .int .u32 0, .int .i64 0, .bool false, .slice none 0 0, .slice none 0 0]
  have hK := balloc (Below.refl w.heap.size w) (.cells #[.int .i64 0, .int .i64 0, .int .u64 0, .int .u64 0, .int .u32 0, .int .i64 0, .int .i64 0, .string ⟨#[]⟩, .string ⟨#[]⟩, .int .i64 0, .int .i64 0, .string ⟨#[]⟩, .int .u32 0, .int .i64 0, .bool false, .slice none 0 0, .slice none 0 0] 35)
  have hsz : (w.alloc (.cells #[.int .i64 0, .int .i64 0, .int .u64 0, .int .u64 0, .int .u32 0, .int .i64 0, .int .i64 0, .string ⟨#[]⟩, .string ⟨#[]⟩, .int .i64 0, .int .i64 0, .string ⟨#[]⟩, .int .u32 0, .int .i64 0, .bool false, .slice none 0 0, .slice none 0 0] 35)).heap.size = w.heap.size + 1 := by simp
  generalize w.alloc (.cells #[.int .i64 0, .int .i64 0, .int .u64 0, .int .u64 0, .int .u32 0, .int .i64 0, .int .i64 0, .string ⟨#[]⟩, .string ⟨#[]⟩, .int .i64 0, .int .i64 0, .string ⟨#[]⟩, .int .u32 0, .int .i64 0, .bool false, .slice none 0 0, .slice none 0 0] 35) = w0 at *
  have HK0 := Lib.hid hK
  have HZ := Lib.hid hZ
  have Hsz := Lib.hid hsz
  clear hK hZ hsz
  generalize hrb : w.heap.size = rb at *
  have Hrb := Lib.hid hrb
  clear hrb
  go_upto_region 2 with (go_at_call 22; refine (newReader_any _ _).mono ?_; rintro e' W1 ⟨g, rfl, hr1, hg, hb1⟩; have HR := Lib.hid (show RS W1 99 g L 0 0 from ⟨hr1, Nat.zero_le _, Hlong.out⟩); have Hbg := Lib.hid (show rb + 1 ≤ g by rw [hg, Hsz.out]; exact Nat.le_refl _); have HZ1 := Lib.hid (HZ.out.step hb1); have HB0 := Lib.hid (HK0.out.trans (hb1.mono (by rw [Hsz.out]; omega))); clear hr1 hg hb1 HK0 HZ; have HZ := HZ1; clear HZ1)
  have HgZ := Lib.hid (show rb ≠ g by have := Hbg.out; omega)
  have HK := Lib.hid (show Below (rb + 1) W1 W1 from ⟨rfl, rfl, rfl, Nat.le_refl _, fun _ _ => rfl⟩)
  have HL1 := Lib.hid (show rb + 1 ≤ W1.heap.size from Nat.le_trans Hbg.out (Nat.le_of_lt HR.out.rd.lt))
  go_cut [5] from 13 to 21 (fun s5 wx => ∃ b, s5 = .pointer (some ⟨b, 0, none⟩) ∧ RS wx 99 g L a3 e3 ∧ Blk wx b 35 #[.int .i64 v1, .int .i64 v2, .int .u64 v3, .int .u64 0, .int .u32 0, .int .i64 0, .int .i64 0, .string (bs []), .string (bs []), .int .i64 0, .int .i64 0, .string (bs []), .int .u32 0, .int .i64 0, .bool false, .slice none 0 0, .slice none 0 0] ∧ Below (rb + 1) W1 wx ∧ rb + 1 ≤ b ∧ b ≠ g)
  case first =>
    go_wp2_with (first | (go_at_call 23; refine (num_st HR.out _ _ _ _ (by first | exact H1.out | exact H2.out | exact H3.out)).mono ?_; rintro e2 w1 ⟨rfl, hr1, hg1⟩; have HK1 := Lib.hid (bgrownB HK.out hg1 HL1.out Hbg.out); have HR1 := Lib.hid hr1; clear HR HK hr1 hg1; have HR := HR1; have HK := HK1; clear HR1 HK1) | (refine wpList_store_row rfl 35 (.tmp 5) (.tmp 21) rfl _ _ rfl rfl 35 _ (Blk.new _ _ _) rfl (by kernel_rfl) (by decide) ?_))
    go_meet
    exact ⟨_, rfl, HR.out.step (balloc (Below.refl _ _) _), Blk.new _ _ _, HK.out.alloc (Nat.le_trans HL1.out HK.out.size) _, Nat.le_trans HL1.out HK.out.size, Nat.ne_of_gt HR.out.rd.lt⟩
  case rest =>
  obtain ⟨b, rfl, hr2, hb2, hk2, hbb, hne⟩ := hcut
  clear HR HK
  have HR := Lib.hid hr2
  have HB := Lib.hid hb2
  have HK := Lib.hid hk2
  have Hbb := Lib.hid hbb
  have Hne := Lib.hid hne
  have c0 : wc.cell? ⟨b, 0, none⟩ = some (.int .i64 v1) := hb2.cell 0
  have f3 := hb2.frozen 3
  have c3 : wc.cell? ⟨b, 3, none⟩ = some (.int .u64 0) := hb2.cell 3
  clear hr2 hb2 hk2 hbb hne
  go_upto_if 29 with (go_at_call 19; refine (named_any _ _).mono ?_; rintro e' w' ⟨⟨ch, nx, tb, rfl, hch, hnx, htb⟩, hw'⟩; obtain rfl := hw'.symm; have Hch := Lib.hid hch; have Hnx := Lib.hid hnx; have Htb := Lib.hid htb; clear hch hnx htb)
  go_cut [] from 30 to 32 (fun wx => RS wx 99 g L a4 e4 ∧ Blk wx b 35 #[.int .i64 v1, .int .i64 v2, .int .u64 v3, .int .u64 v4, .int .u32 0, .int .i64 0, .int .i64 0, .string (bs []), .string (bs []), .int .i64 0, .int .i64 0, .string (bs []), .int .u32 0, .int .i64 0, .bool false, .slice none 0 0, .slice none 0 0] ∧ Below (rb + 1) W1 wx)
  case first =>
    cases nx
    · obtain ⟨z1, z2, z3⟩ := rdNext_no H4.out (Hnx.out.not rfl)
      subst z1 z2 z3
      go_wp2
      go_meet
      exact ⟨HR.out, HB.out, HK.out⟩
    · have H4' := Lib.hid (rdNext_yes H4.out (Hnx.out.1 rfl))
      go_wp2_with (first | (go_at_call 23; refine (num_st HR.out _ _ _ _ H4'.out).mono ?_; rintro e2 w1 ⟨rfl, hr1, hg1⟩; have HK1 := Lib.hid (bgrownB HK.out hg1 HL1.out Hbg.out); have HB1 := Lib.hid (HB.out.grown hg1 (by simp [Hne.out])); have HR1 := Lib.hid hr1; clear HR HK HB hr1 hg1 c0 f3 c3; have HR := HR1; have HK := HK1; have HB := HB1; clear HR1 HK1 HB1; have f3 := HB.out.frozen 3; have c3 : w1.cell? ⟨b, 3, none⟩ = some (.int .u64 0) := HB.out.cell 3))
      go_meet
      exact ⟨RS.far HR.out Hne.out, HB.out.set_ 3 (.int .u64 v4), bsetB HK.out Hbb.out _⟩
  case rest =>
  obtain ⟨hr2, hb2, hk2⟩ := hcut
  clear HR HK HB c0 f3 c3
  have HR := Lib.hid hr2
  have HB := Lib.hid hb2
  have HK := Lib.hid hk2
  clear hr2 hb2 hk2
  go_upto_if 33 with fail
  go_cut [] from 34 to 35 (fun wx => RS wx 99 g L a5 e5 ∧ Blk wx b 35 #[.int .i64 v1, .int .i64 v2, .int .u64 v3, .int .u64 v4, .int .u32 c5.page, .int .i64 c5.ok, .int .i64 c5.oa, .string (bs c5.os), .string (bs c5.oo), .int .i64 c5.undo, .int .i64 c5.index, .string (bs c5.key), .int .u32 c5.rpage, .int .i64 c5.rslot, .bool c5.live, .slice none 0 0, .slice none 0 0] ∧ Below (rb + 1) W1 wx)
  case first =>
    cases ch
    · obtain ⟨z1, z2, z3⟩ := rdChIf_no H5.out (Hch.out.not rfl)
      subst z1 z2 z3
      go_wp2
      go_meet
      exact ⟨HR.out, HB.out, HK.out⟩
    · have H5' := Lib.hid (rdChIf_yes H5.out (Hch.out.1 rfl))
      go_wp2_with (first | (go_at_call 24; refine (takeChange_any HR.out HB.out Hne.out (Nat.le_trans HL1.out HK.out.size) Hbg.out Hbb.out).mono ?_; rintro e2 w1 ⟨rfl, hr1, hb1, hk1⟩; rw [H5'.out] at hr1 hb1; have HK1 := Lib.hid (HK.out.trans hk1); have HB1 := Lib.hid hb1; have HR1 := Lib.hid hr1; clear HR HK HB hr1 hb1 hk1; have HR := HR1; have HK := HK1; have HB := HB1; clear HR1 HK1 HB1))
      go_meet
      exact ⟨HR.out, HB.out, HK.out⟩
  case rest =>
  obtain ⟨hr2, hb2, hk2⟩ := hcut
  clear HR HK HB
  have HR := Lib.hid hr2
  have HB := Lib.hid hb2
  have HK := Lib.hid hk2
  clear hr2 hb2 hk2
  go_upto_if 36 with fail
  go_cut [9, 10] from 37 to 87 (fun s9 s10 wx => ∃ vT vD, RS wx 99 g L a6 e6 ∧ Blk wx b 35 #[.int .i64 v1, .int .i64 v2, .int .u64 v3, .int .u64 v4, .int .u32 c5.page, .int .i64 c5.ok, .int .i64 c5.oa, .string (bs c5.os), .string (bs c5.oo), .int .i64 c5.undo, .int .i64 c5.index, .string (bs c5.key), .int .u32 c5.rpage, .int .i64 c5.rslot, .bool c5.live, vT, vD] ∧ wx.ownsRow (rb + 1) 70 4 vT t6.txs.length (t6.txs.map StR.cells).flatten ∧ wx.ownsRow (rb + 1) 72 2 vD t6.dirty.length (t6.dirty.map DiR.cells).flatten ∧ Below (rb + 1) W1 wx)
  case first =>
    cases tb
    · obtain ⟨z1, z2, z3⟩ := rdTabIf_no H6.out (Htb.out.not rfl)
      subst z1 z2 z3
      go_wp2
      go_meet
      exact ⟨_, _, HR.out, HB.out, World.ownsRow_nil _ _ _ _, World.ownsRow_nil _ _ _ _, HK.out⟩
    · have H6' := Lib.hid (rdTabIf_yes H6.out (Htb.out.1 rfl))
      obtain ⟨n1, b1, g1, j1⟩ : ∃ v a' e', rNum L a5 e5 2 = (v, a', e') := ⟨_, _, _, rfl⟩
      obtain ⟨ts, b2, g2, j2⟩ : ∃ v a' e', rdMany (rdSt L) n1 [] b1 g1 = (v, a', e') := ⟨_, _, _, rfl⟩
      obtain ⟨n3, b3, g3, j3⟩ : ∃ v a' e', rNum L b2 g2 2 = (v, a', e') := ⟨_, _, _, rfl⟩
      obtain ⟨ds, b4, g4, j4⟩ : ∃ v a' e', rdMany (rdDi L) n3 [] b3 g3 = (v, a', e') := ⟨_, _, _, rfl⟩
      have hn1 : n1 < 65536 := by have := rNum_lt L a5 e5 2; rw [show ((2 : Nat) : Int) = (2 : Int) from rfl, j1] at this; simpa using this
      have hn3 : n3 < 65536 := by have := rNum_lt L b2 g2 2; rw [show ((2 : Nat) : Int) = (2 : Int) from rfl, j3] at this; simpa using this
      have hq : rdTab L a5 e5 = (⟨ts, ds⟩, b4, g4) := by simp only [rdTab, j1, j2, j3, j4]
      rw [H6'.out] at hq
      injection hq with hq1 hq2
      injection hq2 with hq2 hq3
      subst hq1 hq2 hq3
      have J1 := Lib.hid j1
      have J2 := Lib.hid j2
      have J3 := Lib.hid j3
      have J4 := Lib.hid j4
      clear j1 j2 j3 j4
      obtain ⟨i0, hi, hz0, hz1, hz2⟩ := info_parts infoTS
      obtain ⟨i1, hi1, hy0, hy1, hy2⟩ := info_parts infoTD
      have I0 := Lib.hid hi
      have I1 := Lib.hid hi1
      clear hi hi1
      go_wp2_with (first | (go_at_call 23; refine (num_st HR.out _ _ _ _ J1.out).mono ?_; rintro e2 w2 ⟨rfl, hr1, hg1⟩; have HK1 := Lib.hid (bgrownB HK.out hg1 HL1.out Hbg.out); have HB1 := Lib.hid (HB.out.grown hg1 (by simp [Hne.out])); have HR1 := Lib.hid hr1; clear HR HK HB hr1 hg1; have HR := HR1; have HK := HK1; have HB := HB1; clear HR1 HK1 HB1))
      go_loopw [9] (fun s9 wr => ∃ (k : Nat) (acc : List StR) (a : Nat) (e : Int) (vT : Value), s9 = .int .i64 k ∧ rdMany (rdSt L) k acc a e = (ts, b2, g2) ∧ acc.length + k ≤ 65535 ∧ RS wr 99 g L a e ∧ Blk wr b 35 #[.int .i64 v1, .int .i64 v2, .int .u64 v3, .int .u64 v4, .int .u32 c5.page, .int .i64 c5.ok, .int .i64 c5.oa, .string (bs c5.os), .string (bs c5.oo), .int .i64 c5.undo, .int .i64 c5.index, .string (bs c5.key), .int .u32 c5.rpage, .int .i64 c5.rslot, .bool c5.live, vT, .slice none 0 0] ∧ wr.ownsRow (rb + 1) 70 4 vT acc.length (acc.map StR.cells).flatten ∧ Below (rb + 1) W1 wr)
        (fun s9 _ => (intOf s9).toNat)
      case atStart => exact ⟨n1, [], _, _, _, rfl, J2.out, by simp; omega, HR.out, HB.out, World.ownsRow_nil _ _ _ _, HK.out⟩
      case round =>
        obtain ⟨k, acc, a, e, vT, rfl, hm, hlen, hr1, hb1, ht1, hk1⟩ := hrel
        clear HR HK HB
        have HR := Lib.hid hr1
        have HB := Lib.hid hb1
        have HK := Lib.hid hk1
        have HT := Lib.hid ht1
        have HM := Lib.hid hm
        clear hr1 hb1 hk1 ht1 hm
        by_cases hgo : 0 < k ∧ e = 0
        · obtain ⟨hk0, rfl⟩ := hgo
          obtain ⟨k', rfl⟩ : ∃ k', k = k' + 1 := ⟨k - 1, by omega⟩
          have hk2 : (0 : Int) < ((k' + 1 : Nat) : Int) := by omega
          obtain ⟨x1, p1, q1, s1⟩ : ∃ v a' e', rNum L a 0 4 = (v, a', e') := ⟨_, _, _, rfl⟩
          obtain ⟨x2, p2, q2, s2⟩ : ∃ v a' e', rNum L p1 q1 1 = (v, a', e') := ⟨_, _, _, rfl⟩
          obtain ⟨x3, p3, q3, s3⟩ : ∃ v a' e', rNum L p2 q2 8 = (v, a', e') := ⟨_, _, _, rfl⟩
          obtain ⟨x4, p4, q4, s4⟩ : ∃ v a' e', rNum L p3 q3 8 = (v, a', e') := ⟨_, _, _, rfl⟩
          have hx1 : x1 < 4294967296 := by have := rNum_lt L a 0 4; rw [show ((4 : Nat) : Int) = (4 : Int) from rfl, s1] at this; simpa using this
          have hx2 : x2 < 256 := by have := rNum_lt L p1 q1 1; rw [show ((1 : Nat) : Int) = (1 : Int) from rfl, s2] at this; simpa using this
          have HF := Lib.hid (rdMany_go HM.out (show rdSt L a 0 = (⟨x1, x2, x3, x4⟩, p4, q4) by simp only [rdSt, s1, s2, s3, s4]))
          have S1 := Lib.hid s1
          have S2 := Lib.hid s2
          have S3 := Lib.hid s3
          have S4 := Lib.hid s4
          clear s1 s2 s3 s4 HM
          have hwx1 : IntKind.i64.wrap (x1 : Int) = x1 := IntWalk.i64_in _ (by omega)
          have hwx2 : IntKind.i64.wrap (x2 : Int) = x2 := IntWalk.i64_in _ (by omega)
          have c15 : wr.cell? ⟨b, 15, none⟩ = some vT := HB.out.cell 15
          have f15 := HB.out.frozen 15
          have hbz := HB.out.lt
          go_wp2_with (go_at_call 25; refine (err_any HR.out.rd).mono ?_; rintro e2 w2 ⟨rfl, rfl⟩)
          go_region_law ((first | (go_simp; go_at_call 23; refine (num_st (by exact ⟨HR.out.rd, HR.out.at_, HR.out.long⟩) _ _ _ _ (by first | exact S1.out | exact S2.out | exact S3.out | exact S4.out)).mono ?_; rintro e2 w3 ⟨rfl, hr1, hg0⟩; have hg1 := grown_of HB.out hg0 rfl rfl rfl rfl; have HK1 := Lib.hid (bgrownB HK.out hg1 HL1.out Hbg.out); have HB1 := Lib.hid (HB.out.grown hg1 (by simp [Hne.out])); have HT1 := Lib.hid (own_grown HT.out hg1 HR.out.rd (by decide)); have HR1 := Lib.hid hr1; clear HR HK HB HT hr1 hg0 hg1 c15 f15 hbz; have HR := HR1; have HK := HK1; have HB := HB1; have HT := HT1; clear HR1 HK1 HB1 HT1; have c15 : w3.cell? ⟨b, 15, none⟩ = some vT := HB.out.cell 15; have f15 := HB.out.frozen 15; have hbz := HB.out.lt) | (refine step_append_own rfl _ _ 32 rfl (rb + 1) 70 i0 _ 4 32 Try.underlying32 I0.out hz0 hz1 hz2 rfl (by decide) _ acc.length _ rfl (own_below HT.out (by repeat (first | (with_reducible exact Below.refl _ _) | (with_reducible apply balloc) | (with_reducible apply bdrew) | (with_reducible apply bdrewN)))) _ 1 _ [.int .i64 x1, .int .i64 x2, .int .u64 x3, .int .u64 x4] rfl rfl (cells_new _ _ _) (by simp [Value.oneCell']) (by unfold maxLen; omega) (by omega) (by have h1 := HL1.out; have h2 := HK.out.size; simp; omega) ?_; intro v' w5 hown' hgrow _; obtain ⟨A5, m5, rfl⟩ := own_slice hown'; have HB2 := Lib.hid (Blk.grown (HB.out.step (by repeat (first | (with_reducible exact Below.refl _ _) | (with_reducible apply balloc) | (with_reducible apply bdrew) | (with_reducible apply bdrewN)))) hgrow (fun e => own_ne_blk HT.out HB.out (by decide) e.symm)); have HR2 := Lib.hid (show RS w5 99 g L _ _ from ⟨Rd.grown (HR.out.rd.step (by repeat (first | (with_reducible exact Below.refl _ _) | (with_reducible apply balloc) | (with_reducible apply bdrew) | (with_reducible apply bdrewN)))) hgrow (fun e => own_ne_blk HT.out HR.out.rd (by decide) e.symm), HR.out.at_, HR.out.long⟩); have HK2 := Lib.hid ((HK.out.trans ((show Below _ _ _ from (by repeat (first | (with_reducible exact Below.refl _ _) | (with_reducible apply balloc) | (with_reducible apply bdrew) | (with_reducible apply bdrewN)))).mono (Nat.le_trans HL1.out HK.out.size))).grown hgrow (by have h1 := HL1.out; have h2 := HK.out.size; simp; omega) (fun k hk => (HT.out.lt k hk).1)); have HT2 := Lib.hid hown'; clear HR HK HB HT hown' hgrow c15 f15 hbz; have HR := HR2; have HK := HK2; have HB := HB2; have HT := HT2; clear HR2 HK2 HB2 HT2; have c15 : w5.cell? ⟨b, 15, none⟩ = some vT := HB.out.cell 15; have f15 := HB.out.frozen 15; have hbz := HB.out.lt)))
          all_goals
            go_wp2
            go_roundw
            case rel => exact ⟨k', acc ++ [⟨x1, x2, x3, x4⟩], p4, q4, _, rfl, HF.out, by simp; omega, RS.far HR.out Hne.out, HB.out.set_ 15 _, by have := own_set (b := b) (o := 15) (u := .slice A5 (acc.length + 1) m5) HT.out HB.out (by decide); rw [List.length_append, flat_snoc]; exact this, bsetB HK.out Hbb.out _⟩
            case measure => simp [intOf]
        · obtain ⟨rfl, rfl, rfl⟩ := rdMany_stop HM.out hgo
          have hex : k = 0 ∨ (0 < k ∧ ¬ g2 = 0) := by
            rcases Nat.eq_zero_or_pos k with h | h
            · exact .inl h
            · exact .inr ⟨h, fun he => hgo ⟨h, he⟩⟩
          clear hgo HM
          rcases hex with rfl | ⟨hk0, he0⟩
          all_goals
            try (have hk1 : (0 : Int) < (k : Int) := by omega)
            try (have heb : (g2 == 0) = false := by simp [he0])
            go_wp2_with (first | (go_at_call 25; refine (err_any HR.out.rd).mono ?_; rintro e2 w2 ⟨rfl, rfl⟩) | (go_at_call 23; refine (num_st HR.out _ _ _ _ J3.out).mono ?_; rintro e2 w2 ⟨rfl, hr1, hg1⟩; have HK1 := Lib.hid (bgrownB HK.out hg1 HL1.out Hbg.out); have HB1 := Lib.hid (HB.out.grown hg1 (by simp [Hne.out])); have HT1 := Lib.hid (own_grown HT.out hg1 HR.out.rd (by decide)); have HR1 := Lib.hid hr1; clear HR HK HB HT hr1 hg1; have HR := HR1; have HK := HK1; have HB := HB1; have HT := HT1; clear HR1 HK1 HB1 HT1))
            try clear hk1
            try clear heb
            clear hlen
            go_loopw [10] (fun s10 wr => ∃ (k : Nat) (dacc : List DiR) (a : Nat) (e : Int) (vD : Value), s10 = .int .i64 k ∧ rdMany (rdDi L) k dacc a e = (ds, a6, e6) ∧ dacc.length + k ≤ 65535 ∧ RS wr 99 g L a e ∧ Blk wr b 35 #[.int .i64 v1, .int .i64 v2, .int .u64 v3, .int .u64 v4, .int .u32 c5.page, .int .i64 c5.ok, .int .i64 c5.oa, .string (bs c5.os), .string (bs c5.oo), .int .i64 c5.undo, .int .i64 c5.index, .string (bs c5.key), .int .u32 c5.rpage, .int .i64 c5.rslot, .bool c5.live, vT, vD] ∧ wr.ownsRow (rb + 1) 70 4 vT ts.length (ts.map StR.cells).flatten ∧ wr.ownsRow (rb + 1) 72 2 vD dacc.length (dacc.map DiR.cells).flatten ∧ Below (rb + 1) W1 wr)
              (fun s10 _ => (intOf s10).toNat)
            case atStart => exact ⟨n3, [], _, _, _, rfl, J4.out, by simp; omega, HR.out, HB.out, HT.out, World.ownsRow_nil _ _ _ _, HK.out⟩
            case round =>
              obtain ⟨k, dacc, a, e, vD, rfl, hm, hlen, hr1, hb1, ht1, hd1, hk1⟩ := hrel
              clear HR HK HB HT
              have HR := Lib.hid hr1
              have HB := Lib.hid hb1
              have HK := Lib.hid hk1
              have HT := Lib.hid ht1
              have HD := Lib.hid hd1
              have HM := Lib.hid hm
              clear hr1 hb1 hk1 ht1 hd1 hm
              by_cases hgo : 0 < k ∧ e = 0
              · obtain ⟨hk0, rfl⟩ := hgo
                obtain ⟨k', rfl⟩ : ∃ k', k = k' + 1 := ⟨k - 1, by omega⟩
                have hk2 : (0 : Int) < ((k' + 1 : Nat) : Int) := by omega
                obtain ⟨x1, p1, q1, s1⟩ : ∃ v a' e', rNum L a 0 4 = (v, a', e') := ⟨_, _, _, rfl⟩
                obtain ⟨x2, p2, q2, s2⟩ : ∃ v a' e', rNum L p1 q1 8 = (v, a', e') := ⟨_, _, _, rfl⟩
                have hx1 : x1 < 4294967296 := by have := rNum_lt L a 0 4; rw [show ((4 : Nat) : Int) = (4 : Int) from rfl, s1] at this; simpa using this
                have HF := Lib.hid (rdMany_go HM.out (show rdDi L a 0 = (⟨x1, x2⟩, p2, q2) by simp only [rdDi, s1, s2]))
                have S1 := Lib.hid s1
                have S2 := Lib.hid s2
                clear s1 s2 HM
                have hwx1 : IntKind.u32.wrap (x1 : Int) = x1 := by rw [IntKind.wrap_u32]; omega
                have c16 : wr.cell? ⟨b, 16, none⟩ = some vD := HB.out.cell 16
                have f16 := HB.out.frozen 16
                have hbz := HB.out.lt
                go_wp2_with (go_at_call 25; refine (err_any HR.out.rd).mono ?_; rintro e2 w2 ⟨rfl, rfl⟩)
                go_region_law ((first | (go_simp; go_at_call 23; refine (num_st (by exact ⟨HR.out.rd, HR.out.at_, HR.out.long⟩) _ _ _ _ (by first | exact S1.out | exact S2.out)).mono ?_; rintro e2 w3 ⟨rfl, hr1, hg0⟩; have hg1 := grown_of HB.out hg0 rfl rfl rfl rfl; have HK1 := Lib.hid (bgrownB HK.out hg1 HL1.out Hbg.out); have HB1 := Lib.hid (HB.out.grown hg1 (by simp [Hne.out])); have HT1 := Lib.hid (own_grown HT.out hg1 HR.out.rd (by decide)); have HD1 := Lib.hid (own_grown HD.out hg1 HR.out.rd (by decide)); have HR1 := Lib.hid hr1; clear HR HK HB HT HD hr1 hg0 hg1 c16 f16 hbz; have HR := HR1; have HK := HK1; have HB := HB1; have HT := HT1; have HD := HD1; clear HR1 HK1 HB1 HT1 HD1; have c16 : w3.cell? ⟨b, 16, none⟩ = some vD := HB.out.cell 16; have f16 := HB.out.frozen 16; have hbz := HB.out.lt) | (refine step_append_own rfl _ _ 33 rfl (rb + 1) 72 i1 _ 2 16 Try.underlying33 I1.out hy0 hy1 hy2 rfl (by decide) _ dacc.length _ rfl (own_below HD.out (by repeat (first | (with_reducible exact Below.refl _ _) | (with_reducible apply balloc) | (with_reducible apply bdrew) | (with_reducible apply bdrewN)))) _ 1 _ [.int .u32 x1, .int .u64 x2] rfl rfl (cells_new _ _ _) (by simp [Value.oneCell']) (by unfold maxLen; omega) (by omega) (by have h1 := HL1.out; have h2 := HK.out.size; simp; omega) ?_; intro v' w5 hown' hgrow _; obtain ⟨A5, m5, rfl⟩ := own_slice hown'; have HB2 := Lib.hid (Blk.grown (HB.out.step (by repeat (first | (with_reducible exact Below.refl _ _) | (with_reducible apply balloc) | (with_reducible apply bdrew) | (with_reducible apply bdrewN)))) hgrow (fun e => own_ne_blk HD.out HB.out (by decide) e.symm)); have HR2 := Lib.hid (show RS w5 99 g L _ _ from ⟨Rd.grown (HR.out.rd.step (by repeat (first | (with_reducible exact Below.refl _ _) | (with_reducible apply balloc) | (with_reducible apply bdrew) | (with_reducible apply bdrewN)))) hgrow (fun e => own_ne_blk HD.out HR.out.rd (by decide) e.symm), HR.out.at_, HR.out.long⟩); have HK2 := Lib.hid ((HK.out.trans ((show Below _ _ _ from (by repeat (first | (with_reducible exact Below.refl _ _) | (with_reducible apply balloc) | (with_reducible apply bdrew) | (with_reducible apply bdrewN)))).mono (Nat.le_trans HL1.out HK.out.size))).grown hgrow (by have h1 := HL1.out; have h2 := HK.out.size; simp; omega) (fun k hk => (HD.out.lt k hk).1)); have HT2 := Lib.hid ((own_below HT.out (by repeat (first | (with_reducible exact Below.refl _ _) | (with_reducible apply balloc) | (with_reducible apply bdrew) | (with_reducible apply bdrewN)))).kept hgrow (own_ne_own HT.out HD.out (by decide))); have HD2 := Lib.hid hown'; clear HR HK HB HT HD hown' hgrow c16 f16 hbz; have HR := HR2; have HK := HK2; have HB := HB2; have HT := HT2; have HD := HD2; clear HR2 HK2 HB2 HT2 HD2; have c16 : w5.cell? ⟨b, 16, none⟩ = some vD := HB.out.cell 16; have f16 := HB.out.frozen 16)))
                all_goals
                  go_wp2
                  go_roundw
                  case rel => exact ⟨k', dacc ++ [⟨x1, x2⟩], p2, q2, _, rfl, HF.out, by simp; omega, RS.far HR.out Hne.out, HB.out.set_ 16 _, own_set HT.out HB.out (by decide), by have := own_set (b := b) (o := 16) (u := .slice A5 (dacc.length + 1) m5) HD.out HB.out (by decide); rw [List.length_append, flat_snoc]; exact this, bsetB HK.out Hbb.out _⟩
                  case measure => simp [intOf]
              · have hex : k = 0 ∨ (0 < k ∧ ¬ e = 0) := by
                  rcases Nat.eq_zero_or_pos k with h | h
                  · exact .inl h
                  · exact .inr ⟨h, fun he => hgo ⟨h, he⟩⟩
                obtain ⟨rfl, rfl, rfl⟩ := rdMany_stop HM.out hgo
                clear hgo HM
                rcases hex with rfl | ⟨hk0, he0⟩
                · go_wp2_with (go_at_call 25; refine (err_any HR.out.rd).mono ?_; rintro e2 w2 ⟨rfl, rfl⟩)
                  go_meet
                  exact ⟨vT, vD, HR.out, HB.out, HT.out, HD.out, HK.out⟩
                · have hk1 : (0 : Int) < (k : Int) := by omega
                  have heb := beq_eq_false_iff_ne.2 he0
                  go_wp2_with (go_at_call 25; refine (err_any HR.out.rd).mono ?_; rintro e2 w2 ⟨rfl, rfl⟩)
                  go_meet
                  exact ⟨vT, vD, HR.out, HB.out, HT.out, HD.out, HK.out⟩
  case rest =>
  obtain ⟨vT, vD, hr2, hb2, ht2, hd2, hk2⟩ := hcut
  clear HR HK HB
  have HR := Lib.hid hr2
  have HB := Lib.hid hb2
  have HK := Lib.hid hk2
  have HT := Lib.hid ht2
  have HD := Lib.hid hd2
  clear hr2 hb2 ht2 hd2 hk2
  have hzz : Blk wc rb 35 #[.int .i64 0, .int .i64 0, .int .u64 0, .int .u64 0, .int .u32 0, .int .i64 0, .int .i64 0, .string (bs []), .string (bs []), .int .i64 0, .int .i64 0, .string (bs []), .int .u32 0, .int .i64 0, .bool false, .slice none 0 0, .slice none 0 0] := HZ.out.below HK.out (Nat.lt_succ_self rb)
  have HZ6 := Lib.hid hzz
  have HBW := Lib.hid (show Below rb w wc from HB0.out.trans (HK.out.mono (Nat.le_succ rb)))
  clear hzz
  have hlen := tab_len H6.out
  obtain ⟨A, c, rfl, hrA⟩ := own_rows (enc := StR.cells) (fun _ => rfl) HT.out
  obtain ⟨B, d, rfl, hrB⟩ := own_rows (enc := DiR.cells) (fun _ => rfl) HD.out
  have hRA : RdRows StR.cells 4 wc A t6.txs := fun k hk => by
    obtain ⟨b, off, h1, h2, h3, h4⟩ := hrA k hk
    exact ⟨b, off, h1, h3, h4⟩
  have hRB : RdRows DiR.cells 2 wc B t6.dirty := fun k hk => by
    obtain ⟨b, off, h1, h2, h3, h4⟩ := hrB k hk
    exact ⟨b, off, h1, h3, h4⟩
  have hAb : ∀ k, k < t6.txs.length → ∃ b off, A = some ⟨b, off, none⟩ ∧ rb + 1 ≤ b := fun k hk => by
    obtain ⟨b, off, h1, h2, _⟩ := hrA k hk
    exact ⟨b, off, h1, h2⟩
  have HRA := Lib.hid hRA
  have HRB := Lib.hid hRB
  have hck := fun (w' : World) (hA : RdRows StR.cells 4 w' A t6.txs) => rcheck_any RR A c B d w' (by rw [HRR.out]; exact hA) (by rw [HRR.out]; show t6.txs.length ≤ _; omega) (by rw [HRR.out]; show t6.dirty.length ≤ _; omega)
  have hval : RR.val A c B d = .agg #[.int .i64 v1, .int .i64 v2, .int .u64 v3, .int .u64 v4, .int .u32 c5.page, .int .i64 c5.ok, .int .i64 c5.oa, .string (bs c5.os), .string (bs c5.oo), .int .i64 c5.undo, .int .i64 c5.index, .string (bs c5.key), .int .u32 c5.rpage, .int .i64 c5.rslot, .bool c5.live, .slice A t6.txs.length c, .slice B t6.dirty.length d] := by rw [HRR.out]; rfl
  rw [hval] at hck
  have HV := Lib.hid hval
  have HCK := Lib.hid hck
  have hend := end_st HR.out
  rw [HE.out] at hend
  have HEnd := Lib.hid hend
  clear hrA hrB hRA hRB hck hval hend hlen hAb
  by_cases hE0 : E = 0
  · subst hE0
    by_cases hok : recOk RR
    · have HOK := Lib.hid (recE_pos hok)
      have HOk := Lib.hid hok
      clear hok
      go_wp2_with (first | (go_at_call 26; refine HEnd.out.mono ?_; rintro e2 w1 ⟨rfl, hg1⟩; have HB1 := Lib.hid (HB.out.grown hg1 (by simp [Hne.out])); have HZ1 := Lib.hid (HZ6.out.grown hg1 (by simp [HgZ.out])); have HT1 := Lib.hid (own_grown HT.out hg1 HR.out.rd (by decide)); have HD1 := Lib.hid (own_grown HD.out hg1 HR.out.rd (by decide)); have HW1 := Lib.hid (bgrownB HBW.out hg1 (Nat.le_of_eq Hrb.out.symm) (Nat.le_trans (Nat.le_succ rb) Hbg.out)); clear hg1) | (refine wpList_load_row_on rfl 35 (.tmp 5) rfl b rfl 35 _ (0, 0) _ HB1.out Try.underlying35 rfl (by kernel_rfl) ?_) | (go_at_call 16; refine (HCK.out _ (own_rd (fun _ => rfl) HT1.out)).mono ?_; rintro e2 w2 ⟨rfl, hb2⟩; rw [HOK.out]; have HB2 := Lib.hid (HB1.out.step hb2); have HZ2 := Lib.hid (HZ1.out.step hb2); have HT2 := Lib.hid (own_below HT1.out hb2); have HD2 := Lib.hid (own_below HD1.out hb2); have HW2 := Lib.hid (HW1.out.trans (hb2.mono (Nat.le_of_lt HZ1.out.lt))); clear hb2) | (refine wpList_load_row rfl 35 (.tmp 5) rfl b rfl 35 _ (0, 0) _ HB2.out Try.underlying35 rfl (by kernel_rfl) ?_) | (refine wpList_store_row rfl 35 (.tmp 2) (.tmp 97) rfl rb _ rfl rfl 35 _ HZ2.out (by kernel_rfl) rfl (by simp [Value.oneCell']) ?_))
      try simp only [Act.put, List.setIfInBounds_toArray, List.set_cons_succ, List.set_cons_zero]
      refine bodyPost_ret (v := .tuple #[.agg #[.int .i64 v1, .int .i64 v2, .int .u64 v3, .int .u64 v4, .int .u32 c5.page, .int .i64 c5.ok, .int .i64 c5.oa, .string (bs c5.os), .string (bs c5.oo), .int .i64 c5.undo, .int .i64 c5.index, .string (bs c5.key), .int .u32 c5.rpage, .int .i64 c5.rslot, .bool c5.live, .slice A t6.txs.length c, .slice B t6.dirty.length d], .int .i64 0]) (results_ct (fn := Try.f9) (p := 2) (q := 3) (ty := 35) rfl _ _ rb 35 _ (0, 0) _ rfl (blk_setRow HZ2.out) Try.underlying35 rfl (by kernel_rfl)) rfl ?_
      rw [← HPOST.out]
      refine ⟨⟨fun _ => ⟨A, c, B, d, by rw [HV.out], by rw [HRR.out]; exact own_rd (fun _ => rfl) (own_setRow HT2.out HZ2.out (by decide)), by rw [HRR.out]; exact own_rd (fun _ => rfl) (own_setRow HD2.out HZ2.out (by decide))⟩, fun h => absurd ⟨?_, HOk.out⟩ h⟩, setRow_below HW2.out (Nat.le_refl _) _⟩
      first | exact trivial | rfl
    · have HOK := Lib.hid (recE_neg hok)
      have HOk := Lib.hid hok
      clear hok
      go_wp2_with (first | (go_at_call 26; refine HEnd.out.mono ?_; rintro e2 w1 ⟨rfl, hg1⟩; have HB1 := Lib.hid (HB.out.grown hg1 (by simp [Hne.out])); have HZ1 := Lib.hid (HZ6.out.grown hg1 (by simp [HgZ.out])); have HT1 := Lib.hid (own_grown HT.out hg1 HR.out.rd (by decide)); have HD1 := Lib.hid (own_grown HD.out hg1 HR.out.rd (by decide)); have HW1 := Lib.hid (bgrownB HBW.out hg1 (Nat.le_of_eq Hrb.out.symm) (Nat.le_trans (Nat.le_succ rb) Hbg.out)); clear hg1) | (refine wpList_load_row_on rfl 35 (.tmp 5) rfl b rfl 35 _ (0, 0) _ HB1.out Try.underlying35 rfl (by kernel_rfl) ?_) | (go_at_call 16; refine (HCK.out _ (own_rd (fun _ => rfl) HT1.out)).mono ?_; rintro e2 w2 ⟨rfl, hb2⟩; rw [HOK.out]; have HB2 := Lib.hid (HB1.out.step hb2); have HZ2 := Lib.hid (HZ1.out.step hb2); have HT2 := Lib.hid (own_below HT1.out hb2); have HD2 := Lib.hid (own_below HD1.out hb2); have HW2 := Lib.hid (HW1.out.trans (hb2.mono (Nat.le_of_lt HZ1.out.lt))); clear hb2) | (refine wpList_store_row rfl 35 (.tmp 2) (.tmp 96) rfl rb _ rfl rfl 35 _ HZ2.out (by kernel_rfl) rfl (by simp [Value.oneCell']) ?_))
      try simp only [Act.put, List.setIfInBounds_toArray, List.set_cons_succ, List.set_cons_zero]
      refine bodyPost_ret (v := .tuple #[.agg #[.int .i64 0, .int .i64 0, .int .u64 0, .int .u64 0, .int .u32 0, .int .i64 0, .int .i64 0, .string (bs []), .string (bs []), .int .i64 0, .int .i64 0, .string (bs []), .int .u32 0, .int .i64 0, .bool false, .slice none 0 0, .slice none 0 0], .int .i64 40]) (results_ct (fn := Try.f9) (p := 2) (q := 3) (ty := 35) rfl _ _ rb 35 _ (0, 0) _ rfl (blk_setRow HZ2.out) Try.underlying35 rfl (by kernel_rfl)) rfl ?_
      rw [← HPOST.out]
      exact ⟨⟨fun h => absurd h.2 HOk.out, fun _ => rfl⟩, setRow_below HW2.out (Nat.le_refl _) _⟩
  · have hEb : (E != 0) = true := by simp [hE0]
    have HE0 := Lib.hid hE0
    clear hE0
    go_wp2_with (first | (go_at_call 26; refine HEnd.out.mono ?_; rintro e2 w1 ⟨rfl, hg1⟩; have HB1 := Lib.hid (HB.out.grown hg1 (by simp [Hne.out])); have HZ1 := Lib.hid (HZ6.out.grown hg1 (by simp [HgZ.out])); have HT1 := Lib.hid (own_grown HT.out hg1 HR.out.rd (by decide)); have HD1 := Lib.hid (own_grown HD.out hg1 HR.out.rd (by decide)); have HW1 := Lib.hid (bgrownB HBW.out hg1 (Nat.le_of_eq Hrb.out.symm) (Nat.le_trans (Nat.le_succ rb) Hbg.out)); clear hg1) | (refine wpList_store_row rfl 35 (.tmp 2) (.tmp 96) rfl rb _ rfl rfl 35 _ HZ1.out (by kernel_rfl) rfl (by simp [Value.oneCell']) ?_))
    try simp only [Act.put, List.setIfInBounds_toArray, List.set_cons_succ, List.set_cons_zero]
    refine bodyPost_ret (v := .tuple #[.agg #[.int .i64 0, .int .i64 0, .int .u64 0, .int .u64 0, .int .u32 0, .int .i64 0, .int .i64 0, .string (bs []), .string (bs []), .int .i64 0, .int .i64 0, .string (bs []), .int .u32 0, .int .i64 0, .bool false, .slice none 0 0, .slice none 0 0], .int .i64 40]) (results_ct (fn := Try.f9) (p := 2) (q := 3) (ty := 35) rfl _ _ rb 35 _ (0, 0) _ rfl (blk_setRow HZ1.out) Try.underlying35 rfl (by kernel_rfl)) rfl ?_
    rw [← HPOST.out]
    exact ⟨⟨fun h => absurd h.1 HE0.out, fun _ => rfl⟩, setRow_below HW1.out (Nat.le_refl _) _⟩
end Go.Proofs.Ytebickoieipjpaa
