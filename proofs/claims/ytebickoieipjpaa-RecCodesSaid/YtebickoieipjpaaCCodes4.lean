/- Records are told as bytes, and read again; what may be none is refused, as the document has it: for every record; no condition. -/
import Derived.Test.YtebickoieipjpaaCCodes3
section
namespace Go.Proofs.Ytebickoieipjpaa
open Go.RowKit Go.Gi Go.GiRow
set_option maxRecDepth 20000
set_option linter.unusedSimpArgs false
set_option linter.unusedVariables false
theorem rdNext_yes {L : List UInt8} {k : Int} {a : Nat} {e : Int} {q : Nat × Nat × Int} (h : rdNext L k a e = q) (hk : isNext k) : rNum L a e 8 = q := by unfold rdNext at h; rwa [if_pos hk] at h
theorem rdNext_no {L : List UInt8} {k : Int} {a : Nat} {e : Int} {v a' : Nat} {e' : Int} (h : rdNext L k a e = (v, a', e')) (hk : ¬ isNext k) : v = 0 ∧ a' = a ∧ e' = e := by
  unfold rdNext at h; rw [if_neg hk] at h; injection h with h1 h2; injection h2 with h2 h3; exact ⟨h1.symm, h2.symm, h3.symm⟩
theorem rdChIf_yes {L : List UInt8} {k : Int} {a : Nat} {e : Int} {q : ChR × Nat × Int} (h : rdChIf L k a e = q) (hk : isChange k) : rdCh L a e = q := by unfold rdChIf at h; rwa [if_pos hk] at h
theorem rdChIf_no {L : List UInt8} {k : Int} {a : Nat} {e : Int} {v : ChR} {a' : Nat} {e' : Int} (h : rdChIf L k a e = (v, a', e')) (hk : ¬ isChange k) : v = zCh ∧ a' = a ∧ e' = e := by
  unfold rdChIf at h; rw [if_neg hk] at h; injection h with h1 h2; injection h2 with h2 h3; exact ⟨h1.symm, h2.symm, h3.symm⟩
theorem rdTabIf_yes {L : List UInt8} {k : Int} {a : Nat} {e : Int} {q : TabR × Nat × Int} (h : rdTabIf L k a e = q) (hk : k = 8) : rdTab L a e = q := by unfold rdTabIf at h; rwa [if_pos hk] at h
theorem rdTabIf_no {L : List UInt8} {k : Int} {a : Nat} {e : Int} {v : TabR} {a' : Nat} {e' : Int} (h : rdTabIf L k a e = (v, a', e')) (hk : ¬ k = 8) : v = ⟨[], []⟩ ∧ a' = a ∧ e' = e := by
  unfold rdTabIf at h; rw [if_neg hk] at h; injection h with h1 h2; injection h2 with h2 h3; exact ⟨h1.symm, h2.symm, h3.symm⟩
theorem infoTS : (Try.prog.info? 70).map (fun i => (i.zero, i.size, i.bytes)) = some (some (.agg #[.int .i64 0, .int .i64 0, .int .u64 0, .int .u64 0]), 4, 32) := by kernel_rfl
theorem infoTD : (Try.prog.info? 72).map (fun i => (i.zero, i.size, i.bytes)) = some (some (.agg #[.int .u32 0, .int .u64 0]), 2, 16) := by kernel_rfl
theorem own_rd {α : Type} {enc : α → List Value} {size : Nat} {w : World} {base TE c : Nat} {A : Option Addr} {l : List α} (henc : ∀ a, (enc a).length = size) (ho : w.ownsRow base TE size (.slice A l.length c) l.length (l.map enc).flatten) : RdRows enc size w A l := by
  obtain ⟨A', c', e, h⟩ := own_rows henc ho
  injection e with e1 e2 e3
  subst e1
  exact fun k hk => by
    obtain ⟨b, off, h1, h2, h3, h4⟩ := h k hk
    exact ⟨b, off, h1, h3, h4⟩
theorem end_st {g : Nat} {L : List UInt8} {a : Nat} {e : Int} {w : World} (h : RS w 99 g L a e) :
    Calls Try.prog 26 #[.pointer (some ⟨g, 0, none⟩)] w fun e' w' => e' = .returned (.int .i64 (rEnd L a e)) ∧ w.grownBy w' (some g) := by
  have := rend_any h.rd h.long (by rw [bs_size]; exact h.at_)
  rw [toList_bs] at this
  exact this.mono fun _ _ ⟨x, y, z⟩ => ⟨x, z⟩
set_option maxHeartbeats 16000000 in
theorem decode_own (L : List UInt8) (w : World) (hL : L.length ≤ 9223372036854775807) :
    Calls Try.prog 9 #[.string (bs L)] w fun e' w' =>
      ((decOk L → ∃ A c B d, e' = .returned (.tuple #[(rdRec L).1.val A c B d, .int .i64 0]) ∧ w'.ownsRow (w.heap.size + 1) 70 4 (.slice A (rdRec L).1.txs.length c) (rdRec L).1.txs.length ((rdRec L).1.txs.map StR.cells).flatten ∧ w'.ownsRow (w.heap.size + 1) 72 2 (.slice B (rdRec L).1.dirty.length d) (rdRec L).1.dirty.length ((rdRec L).1.dirty.map DiR.cells).flatten)
        ∧ (¬ decOk L → e' = .returned (.tuple #[.agg #[.int .i64 0, .int .i64 0, .int .u64 0, .int .u64 0, .int .u32 0, .int .i64 0, .int .i64 0, .string (bs []), .string (bs []), .int .i64 0, .int .i64 0, .string (bs []), .int .u32 0, .int .i64 0, .bool false, .slice none 0 0, .slice none 0 0], .int .i64 40]))) ∧ Below w.heap.size w w' := by
  have hlong : (bs L).size ≤ maxLen := by rw [bs_size]; unfold maxLen; omega
  obtain ⟨v1, a1, e1, h1⟩ : ∃ v a' e', rNum L 0 0 1 = (v, a', e') := ⟨_, _, _, rfl⟩
  obtain ⟨v2, a2, e2, h2⟩ : ∃ v a' e', rNum L a1 e1 4 = (v, a', e') := ⟨_, _, _, rfl⟩
  obtain ⟨v3, a3, e3, h3⟩ : ∃ v a' e', rNum L a2 e2 8 = (v, a', e') := ⟨_, _, _, rfl⟩
  obtain ⟨v4, a4, e4, h4⟩ : ∃ v a' e', rdNext L v1 a3 e3 = (v, a', e') := ⟨_, _, _, rfl⟩
  obtain ⟨c5, a5, e5, h5⟩ : ∃ v a' e', rdChIf L v1 a4 e4 = (v, a', e') := ⟨_, _, _, rfl⟩
  obtain ⟨t6, a6, e6, h6⟩ : ∃ v a' e', rdTabIf L v1 a5 e5 = (v, a', e') := ⟨_, _, _, rfl⟩
  have hrec : rdRec L = (mkRec v1 v2 v3 v4 c5 t6, a6, e6) := by simp only [rdRec, h1, h2, h3, h4, h5, h6]
  have hb1 : v1 < 256 := by have := rNum_lt L 0 0 1; rw [show ((1 : Nat) : Int) = (1 : Int) from rfl, h1] at this; simpa using this
  have hb2 : v2 < 4294967296 := by have := rNum_lt L a1 e1 4; rw [show ((4 : Nat) : Int) = (4 : Int) from rfl, h2] at this; simpa using this
  have hb3 : v3 < 18446744073709551616 := by have := rNum_lt L a2 e2 8; rw [show ((8 : Nat) : Int) = (8 : Int) from rfl, h3] at this; simpa using this
  unfold decOk
  rw [hrec]
  simp only
  obtain ⟨RR, hRR⟩ : ∃ RR, RR = mkRec v1 v2 v3 v4 c5 t6 := ⟨_, rfl⟩
  rw [← hRR]
  obtain ⟨E, hE⟩ : ∃ E, rEnd L a6 e6 = E := ⟨_, rfl⟩
  rw [hE]
  generalize hPOST : (fun (e' : Ending) (w' : World) => ((E = 0 ∧ recOk RR → ∃ A c B d, e' = Ending.returned (.tuple #[RR.val A c B d, .int .i64 0]) ∧ w'.ownsRow (w.heap.size + 1) 70 4 (.slice A RR.txs.length c) RR.txs.length (RR.txs.map StR.cells).flatten ∧ w'.ownsRow (w.heap.size + 1) 72 2 (.slice B RR.dirty.length d) RR.dirty.length (RR.dirty.map DiR.cells).flatten) ∧ (¬ (E = 0 ∧ recOk RR) → e' = Ending.returned (.tuple #[.agg #[.int .i64 0, .int .i64 0, .int .u64 0, .int .u64 0, .int .u32 0, .int .i64 0, .int .i64 0, .string (bs []), .string (bs []), .int .i64 0, .int .i64 0, .string (bs []), .int .u32 0, .int .i64 0, .bool false, .slice none 0 0, .slice none 0 0], .int .i64 40]))) ∧ Below w.heap.size w w') = POST
  have HPOST := Lib.hid hPOST
  have H1 := Lib.hid h1
  have H2 := Lib.hid h2
  have H3 := Lib.hid h3
  have H4 := Lib.hid h4
  have H5 := Lib.hid h5
  have H6 := Lib.hid h6
  have HE := Lib.hid hE
  have HRR := Lib.hid hRR
  have Hlong := Lib.hid hlong
  clear h1 h2 h3 h4 h5 h6 hrec hRR hE hlong hL hPOST
  go_enter Try.func9, Try.ntmps9
  go_upto_region 1 with fail
  have hZ : Blk (w.alloc (.cells #[.int .i64 0, .int .i64 0, .int .u64 0, .int .u64 0, .int .u32 0, .int .i64 0, .int .i64 0, .string ⟨#[]⟩, .string ⟨#[]⟩, .int .i64 0, .int .i64 0, .string ⟨#[]⟩, .int .u32 0, .int .i64 0, .bool false, .slice none 0 0, .slice none 0 0] 35)) w.heap.size 35 #[.int .i64 0, .int .i64 0, .int .u64 0, .int .u64 0, .int .u32 0, .int .i64 0, .int .i64 0, .string (bs []), .string (bs []), .int .i64 0, .int .i64 0, .string (bs []), .int .u32 0, .int .i64 0, .bool false, .slice none 0 0, .slice none 0 0] := Blk.new w 35 #[.int .i64 0, .int .i64 0, .int .u64 0, .int .u64 0, .int .u32 0, .int .i64 0, .int .i64 0, .string ⟨#[]⟩, .string ⟨#[]⟩, .int .i64 0, .int .i64 0, .string ⟨#[]⟩, .int .u32 0, .int .i64 0, .bool false, .slice none 0 0, .slice none 0 0]
  have hK := balloc (Below.refl w.heap.size w) (.cells #[.int .i64 0, .int .i64 0, .int .u64 0, .int .u64 0, .int .u32 0, .int .i64 0, .int .i64 0, .string ⟨#[]⟩, .string ⟨#[]⟩, .int .i64 0, .int .i64 0, .string ⟨#[]⟩, .int .u32 0, .int .i64 0, .bool false, .slice none 0 0, .slice none 0 0] 35)
  have hsz : (w.alloc (.cells #[.int .i64 0, .int .i64 0, .int .u64 0, .int .u64 0, .int .u32 0, .int .i64 0, .int .i64 0, .string ⟨#[]⟩, .string ⟨#[]⟩, .int .i64 0, .int .i64 0, .string ⟨#[]⟩, .int .u32 0, .int .i64 0, .bool false, .slice none 0 0, .slice none 0 0] 35)).heap.size = w.heap.size + 1 := by simp
  generalize w.alloc (.cells #[.int .i64 0, .int .i64 0, .int .u64 0, .int .u64 0, .int .u32 0, .int .i64 0, .int .i64 0, .string ⟨#[]⟩, .string ⟨#[]⟩, .int .i64 0, .int .i64 0, .string ⟨#[]⟩, .int .u32 0, .int .i64 0, .bool false, .slice none 0 0, .slice none 0 0] 35) = w0 at *
  have HK0 := Lib.hid hK
  have HZ := Lib.hid hZ
  have Hsz := Lib.hid hsz
  clear hK hZ hsz
  generalize hrb : w.heap.size = rb at *
  have Hrb := Lib.hid hrb
  clear hrb
  go_upto_region 2 with (go_at_call 22; refine (newReader_any _ _).mono ?_; rintro e' W1 ⟨g, rfl, hr1, hg, hb1⟩; have HR := Lib.hid (show RS W1 99 g L 0 0 from ⟨hr1, Nat.zero_le _, Hlong.out⟩); have Hbg := Lib.hid (show rb + 1 ≤ g by rw [hg, Hsz.out]; exact Nat.le_refl _); have HZ1 := Lib.hid (HZ.out.step hb1); have HB0 := Lib.hid (HK0.out.trans (hb1.mono (by rw [Hsz.out]; omega))); clear hr1 hg hb1 HK0 HZ; have HZ := HZ1; clear HZ1)
  have HgZ := Lib.hid (show rb ≠ g by have := Hbg.out; omega)
  have HK := Lib.hid (show Below (rb + 1) W1 W1 from ⟨rfl, rfl, rfl, Nat.le_refl _, fun _ _ => rfl⟩)
  have HL1 := Lib.hid (show rb + 1 ≤ W1.heap.size from Nat.le_trans Hbg.out (Nat.le_of_lt HR.out.rd.lt))
  go_cut [5] from 13 to 21 (fun s5 wx => ∃ b, s5 = .pointer (some ⟨b, 0, none⟩) ∧ RS wx 99 g L a3 e3 ∧ Blk wx b 35 #[.int .i64 v1, .int .i64 v2, .int .u64 v3, .int .u64 0, .int .u32 0, .int .i64 0, .int .i64 0, .string (bs []), .string (bs []), .int .i64 0, .int .i64 0, .string (bs []), .int .u32 0, .int .i64 0, .bool false, .slice none 0 0, .slice none 0 0] ∧ Below (rb + 1) W1 wx ∧ rb + 1 ≤ b ∧ b ≠ g)
  case first =>
    go_wp2_with (first | (go_at_call 23; refine (num_st HR.out _ _ _ _ (by first | exact H1.out | exact H2.out | exact H3.out)).mono ?_; rintro e2 w1 ⟨rfl, hr1, hg1⟩; have HK1 := Lib.hid (bgrownB HK.out hg1 HL1.out Hbg.out); have HR1 := Lib.hid hr1; clear HR HK hr1 hg1; have HR := HR1; have HK := HK1; clear HR1 HK1) | (refine wpList_store_row rfl 35 (.tmp 5) (.tmp 21) rfl _ _ rfl rfl 35 _ (Blk.new _ _ _) rfl (by kernel_rfl) (by decide) ?_))
    go_meet
    exact ⟨_, rfl, HR.out.step (balloc (Below.refl _ _) _), Blk.new _ _ _, HK.out.alloc (Nat.le_trans HL1.out HK.out.size) _, Nat.le_trans HL1.out HK.out.size, Nat.ne_of_gt HR.out.rd.lt⟩
  case rest =>
  obtain ⟨b, rfl, hr2, hb2, hk2, hbb, hne⟩ := hcut
  clear HR HK
  have HR := Lib.hid hr2
  have HB := Lib.hid hb2
  have HK := Lib.hid hk2
  have Hbb := Lib.hid hbb
  have Hne := Lib.hid hne
  have c0 : wc.cell? ⟨b, 0, none⟩ = some (.int .i64 v1) := hb2.cell 0
  have f3 := hb2.frozen 3
  have c3 : wc.cell? ⟨b, 3, none⟩ = some (.int .u64 0) := hb2.cell 3
  clear hr2 hb2 hk2 hbb hne
  go_upto_if 29 with (go_at_call 19; refine (named_any _ _).mono ?_; rintro e' w' ⟨⟨ch, nx, tb, rfl, hch, hnx, htb⟩, hw'⟩; obtain rfl := hw'.symm; have Hch := Lib.hid hch; have Hnx := Lib.hid hnx; have Htb := Lib.hid htb; clear hch hnx htb)
  go_cut [] from 30 to 32 (fun wx => RS wx 99 g L a4 e4 ∧ Blk wx b 35 #[.int .i64 v1, .int .i64 v2, .int .u64 v3, .int .u64 v4, .int .u32 0, .int .i64 0, .int .i64 0, .string (bs []), .string (bs []), .int .i64 0, .int .i64 0, .string (bs []), .int .u32 0, .int .i64 0, .bool false, .slice none 0 0, .slice none 0 0] ∧ Below (rb + 1) W1 wx)
  case first =>
    cases nx
    · obtain ⟨z1, z2, z3⟩ := rdNext_no H4.out (Hnx.out.not rfl)
      subst z1 z2 z3
      go_wp2
      go_meet
      exact ⟨HR.out, HB.out, HK.out⟩
    · have H4' := Lib.hid (rdNext_yes H4.out (Hnx.out.1 rfl))
      go_wp2_with (first | (go_at_call 23; refine (num_st HR.out _ _ _ _ H4'.out).mono ?_; rintro e2 w1 ⟨rfl, hr1, hg1⟩; have HK1 := Lib.hid (bgrownB HK.out hg1 HL1.out Hbg.out); have HB1 := Lib.hid (HB.out.grown hg1 (by simp [Hne.out])); have HR1 := Lib.hid hr1; clear HR HK HB hr1 hg1 c0 f3 c3; have HR := HR1; have HK := HK1; have HB := HB1; clear HR1 HK1 HB1; have f3 := HB.out.frozen 3; have c3 : w1.cell? ⟨b, 3, none⟩ = some (.int .u64 0) := HB.out.cell 3))
      go_meet
      exact ⟨RS.far HR.out Hne.out, HB.out.set_ 3 (.int .u64 v4), bsetB HK.out Hbb.out _⟩
  case rest =>
  obtain ⟨hr2, hb2, hk2⟩ := hcut
  clear HR HK HB c0 f3 c3
  have HR := Lib.hid hr2
  have HB := Lib.hid hb2
  have HK := Lib.hid hk2
  clear hr2 hb2 hk2
  go_upto_if 33 with fail
  go_cut [] from 34 to 35 (fun wx => RS wx 99 g L a5 e5 ∧ Blk wx b 35 #[.int .i64 v1, .int .i64 v2, .int .u64 v3, .int .u64 v4, .int .u32 c5.page, .int .i64 c5.ok, .int .i64 c5.oa, .string (bs c5.os), .string (bs c5.oo), .int .i64 c5.undo, .int .i64 c5.index, .string (bs c5.key), .int .u32 c5.rpage, .int .i64 c5.rslot, .bool c5.live, .slice none 0 0, .slice none 0 0] ∧ Below (rb + 1) W1 wx)
  case first =>
    cases ch
    · obtain ⟨z1, z2, z3⟩ := rdChIf_no H5.out (Hch.out.not rfl)
      subst z1 z2 z3
      go_wp2
      go_meet
      exact ⟨HR.out, HB.out, HK.out⟩
    · have H5' := Lib.hid (rdChIf_yes H5.out (Hch.out.1 rfl))
      go_wp2_with (first | (go_at_call 24; refine (takeChange_any HR.out HB.out Hne.out (Nat.le_trans HL1.out HK.out.size) Hbg.out Hbb.out).mono ?_; rintro e2 w1 ⟨rfl, hr1, hb1, hk1⟩; rw [H5'.out] at hr1 hb1; have HK1 := Lib.hid (HK.out.trans hk1); have HB1 := Lib.hid hb1; have HR1 := Lib.hid hr1; clear HR HK HB hr1 hb1 hk1; have HR := HR1; have HK := HK1; have HB := HB1; clear HR1 HK1 HB1))
      go_meet
      exact ⟨HR.out, HB.out, HK.out⟩
  case rest =>
  obtain ⟨hr2, hb2, hk2⟩ := hcut
  clear HR HK HB
  have HR := Lib.hid hr2
  have HB := Lib.hid hb2
  have HK := Lib.hid hk2
  clear hr2 hb2 hk2
  go_upto_if 36 with fail
  go_cut [9, 10] from 37 to 87 (fun s9 s10 wx => ∃ vT vD, RS wx 99 g L a6 e6 ∧ Blk wx b 35 #[.int .i64 v1, .int .i64 v2, .int .u64 v3, .int .u64 v4, .int .u32 c5.page, .int .i64 c5.ok, .int .i64 c5.oa, .string (bs c5.os), .string (bs c5.oo), .int .i64 c5.undo, .int .i64 c5.index, .string (bs c5.key), .int .u32 c5.rpage, .int .i64 c5.rslot, .bool c5.live, vT, vD] ∧ wx.ownsRow (rb + 1) 70 4 vT t6.txs.length (t6.txs.map StR.cells).flatten ∧ wx.ownsRow (rb + 1) 72 2 vD t6.dirty.length (t6.dirty.map DiR.cells).flatten ∧ Below (rb + 1) W1 wx)
  case first =>
    cases tb
    · obtain ⟨z1, z2, z3⟩ := rdTabIf_no H6.out (Htb.out.not rfl)
      subst z1 z2 z3
      go_wp2
      go_meet
      exact ⟨_, _, HR.out, HB.out, World.ownsRow_nil _ _ _ _, World.ownsRow_nil _ _ _ _, HK.out⟩
    · have H6' := Lib.hid (rdTabIf_yes H6.out (Htb.out.1 rfl))
      obtain ⟨n1, b1, g1, j1⟩ : ∃ v a' e', rNum L a5 e5 2 = (v, a', e') := ⟨_, _, _, rfl⟩
      obtain ⟨ts, b2, g2, j2⟩ : ∃ v a' e', rdMany (rdSt L) n1 [] b1 g1 = (v, a', e') := ⟨_, _, _, rfl⟩
      obtain ⟨n3, b3, g3, j3⟩ : ∃ v a' e', rNum L b2 g2 2 = (v, a', e') := ⟨_, _, _, rfl⟩
      obtain ⟨ds, b4, g4, j4⟩ : ∃ v a' e', rdMany (rdDi L) n3 [] b3 g3 = (v, a', e') := ⟨_, _, _, rfl⟩
      have hn1 : n1 < 65536 := by have := rNum_lt L a5 e5 2; rw [show ((2 : Nat) : Int) = (2 : Int) from rfl, j1] at this; simpa using this
      have hn3 : n3 < 65536 := by have := rNum_lt L b2 g2 2; rw [show ((2 : Nat) : Int) = (2 : Int) from rfl, j3] at this; simpa using this
      have hq : rdTab L a5 e5 = (⟨ts, ds⟩, b4, g4) := by simp only [rdTab, j1, j2, j3, j4]
      rw [H6'.out] at hq
      injection hq with hq1 hq2
      injection hq2 with hq2 hq3
      subst hq1 hq2 hq3
      have J1 := Lib.hid j1
      have J2 := Lib.hid j2
      have J3 := Lib.hid j3
      have J4 := Lib.hid j4
      clear j1 j2 j3 j4
      obtain ⟨i0, hi, hz0, hz1, hz2⟩ := info_parts infoTS
      obtain ⟨i1, hi1, hy0, hy1, hy2⟩ := info_parts infoTD
      have I0 := Lib.hid hi
      have I1 := Lib.hid hi1
      clear hi hi1
      go_wp2_with (first | (go_at_call 23; refine (num_st HR.out _ _ _ _ J1.out).mono ?_; rintro e2 w2 ⟨rfl, hr1, hg1⟩; have HK1 := Lib.hid (bgrownB HK.out hg1 HL1.out Hbg.out); have HB1 := Lib.hid (HB.out.grown hg1 (by simp [Hne.out])); have HR1 := Lib.hid hr1; clear HR HK HB hr1 hg1; have HR := HR1; have HK := HK1; have HB := HB1; clear HR1 HK1 HB1))
      go_loopw [9] (fun s9 wr => ∃ (k : Nat) (acc : List StR) (a : Nat) (e : Int) (vT : Value), s9 = .int .i64 k ∧ rdMany (rdSt L) k acc a e = (ts, b2, g2) ∧ acc.length + k ≤ 65535 ∧ RS wr 99 g L a e ∧ Blk wr b 35 #[.int .i64 v1, .int .i64 v2, .int .u64 v3, .int .u64 v4, .int .u32 c5.page, .int .i64 c5.ok, .int .i64 c5.oa, .string (bs c5.os), .string (bs c5.oo), .int .i64 c5.undo, .int .i64 c5.index, .string (bs c5.key), .int .u32 c5.rpage, .int .i64 c5.rslot, .bool c5.live, vT, .slice none 0 0] ∧ wr.ownsRow (rb + 1) 70 4 vT acc.length (acc.map StR.cells).flatten ∧ Below (rb + 1) W1 wr)
        (fun s9 _ => (intOf s9).toNat)
      case atStart => exact ⟨n1, [], _, _, _, rfl, J2.out, by simp; omega, HR.out, HB.out, World.ownsRow_nil _ _ _ _, HK.out⟩
      case round =>
        obtain ⟨k, acc, a, e, vT, rfl, hm, hlen, hr1, hb1, ht1, hk1⟩ := hrel
        clear HR HK HB
        have HR := Lib.hid hr1
        have HB := Lib.hid hb1
        have HK := Lib.hid hk1
        have HT := Lib.hid ht1
        have HM := Lib.hid hm
        clear hr1 hb1 hk1 ht1 hm
        by_cases hgo : 0 < k ∧ e = 0
        · obtain ⟨hk0, rfl⟩ := hgo
          obtain ⟨k', rfl⟩ : ∃ k', k = k' + 1 := ⟨k - 1, by omega⟩
          have hk2 : (0 : Int) < ((k' + 1 : Nat) : Int) := by omega
          obtain ⟨x1, p1, q1, s1⟩ : ∃ v a' e', rNum L a 0 4 = (v, a', e') := ⟨_, _, _, rfl⟩
          obtain ⟨x2, p2, q2, s2⟩ : ∃ v a' e', rNum L p1 q1 1 = (v, a', e') := ⟨_, _, _, rfl⟩
          obtain ⟨x3, p3, q3, s3⟩ : ∃ v a' e', rNum L p2 q2 8 = (v, a', e') := ⟨_, _, _, rfl⟩
          obtain ⟨x4, p4, q4, s4⟩ : ∃ v a' e', rNum L p3 q3 8 = (v, a', e') := ⟨_, _, _, rfl⟩
          have hx1 : x1 < 4294967296 := by have := rNum_lt L a 0 4; rw [show ((4 : Nat) : Int) = (4 : Int) from rfl, s1] at this; simpa using this
          have hx2 : x2 < 256 := by have := rNum_lt L p1 q1 1; rw [show ((1 : Nat) : Int) = (1 : Int) from rfl, s2] at this; simpa using this
          have HF := Lib.hid (rdMany_go HM.out (show rdSt L a 0 = (⟨x1, x2, x3, x4⟩, p4, q4) by simp only [rdSt, s1, s2, s3, s4]))
          have S1 := Lib.hid s1
          have S2 := Lib.hid s2
          have S3 := Lib.hid s3
          have S4 := Lib.hid s4
          clear s1 s2 s3 s4 HM
          have hwx1 : IntKind.i64.wrap (x1 : Int) = x1 := IntWalk.i64_in _ (by omega)
          have hwx2 : IntKind.i64.wrap (x2 : Int) = x2 := IntWalk.i64_in _ (by omega)
          have c15 : wr.cell? ⟨b, 15, none⟩ = some vT := HB.out.cell 15
          have f15 := HB.out.frozen 15
          have hbz := HB.out.lt
          go_wp2_with (go_at_call 25; refine (err_any HR.out.rd).mono ?_; rintro e2 w2 ⟨rfl, rfl⟩)
          go_region_law ((first | (go_simp; go_at_call 23; refine (num_st (by exact ⟨HR.out.rd, HR.out.at_, HR.out.long⟩) _ _ _ _ (by first | exact S1.out | exact S2.out | exact S3.out | exact S4.out)).mono ?_; rintro e2 w3 ⟨rfl, hr1, hg0⟩; have hg1 := grown_of HB.out hg0 rfl rfl rfl rfl; have HK1 := Lib.hid (bgrownB HK.out hg1 HL1.out Hbg.out); have HB1 := Lib.hid (HB.out.grown hg1 (by simp [Hne.out])); have HT1 := Lib.hid (own_grown HT.out hg1 HR.out.rd (by decide)); have HR1 := Lib.hid hr1; clear HR HK HB HT hr1 hg0 hg1 c15 f15 hbz; have HR := HR1; have HK := HK1; have HB := HB1; have HT := HT1; clear HR1 HK1 HB1 HT1; have c15 : w3.cell? ⟨b, 15, none⟩ = some vT := HB.out.cell 15; have f15 := HB.out.frozen 15; have hbz := HB.out.lt) | (refine step_append_own rfl _ _ 32 rfl (rb + 1) 70 i0 _ 4 32 Try.underlying32 I0.out hz0 hz1 hz2 rfl (by decide) _ acc.length _ rfl (own_below HT.out (by repeat (first | (with_reducible exact Below.refl _ _) | (with_reducible apply balloc) | (with_reducible apply bdrew) | (with_reducible apply bdrewN)))) _ 1 _ [.int .i64 x1, .int .i64 x2, .int .u64 x3, .int .u64 x4] rfl rfl (cells_new _ _ _) (by simp [Value.oneCell']) (by unfold maxLen; omega) (by omega) (by have h1 := HL1.out; have h2 := HK.out.size; simp; omega) ?_; intro v' w5 hown' hgrow _; obtain ⟨A5, m5, rfl⟩ := own_slice hown'; have HB2 := Lib.hid (Blk.grown (HB.out.step (by repeat (first | (with_reducible exact Below.refl _ _) | (with_reducible apply balloc) | (with_reducible apply bdrew) | (with_reducible apply bdrewN)))) hgrow (fun e => own_ne_blk HT.out HB.out (by decide) e.symm)); have HR2 := Lib.hid (show RS w5 99 g L _ _ from ⟨Rd.grown (HR.out.rd.step (by repeat (first | (with_reducible exact Below.refl _ _) | (with_reducible apply balloc) | (with_reducible apply bdrew) | (with_reducible apply bdrewN)))) hgrow (fun e => own_ne_blk HT.out HR.out.rd (by decide) e.symm), HR.out.at_, HR.out.long⟩); have HK2 := Lib.hid ((HK.out.trans ((show Below _ _ _ from (by repeat (first | (with_reducible exact Below.refl _ _) | (with_reducible apply balloc) | (with_reducible apply bdrew) | (with_reducible apply bdrewN)))).mono (Nat.le_trans HL1.out HK.out.size))).grown hgrow (by have h1 := HL1.out; have h2 := HK.out.size; simp; omega) (fun k hk => (HT.out.lt k hk).1)); have HT2 := Lib.hid hown'; clear HR HK HB HT hown' hgrow c15 f15 hbz; have HR := HR2; have HK := HK2; have HB := HB2; have HT := HT2; clear HR2 HK2 HB2 HT2; have c15 : w5.cell? ⟨b, 15, none⟩ = some vT := HB.out.cell 15; have f15 := HB.out.frozen 15; have hbz := HB.out.lt)))
          all_goals
            go_wp2
            go_roundw
            case rel => exact ⟨k', acc ++ [⟨x1, x2, x3, x4⟩], p4, q4, _, rfl, HF.out, by simp; omega, RS.far HR.out Hne.out, HB.out.set_ 15 _, by have := own_set (b := b) (o := 15) (u := .slice A5 (acc.length + 1) m5) HT.out HB.out (by decide); rw [List.length_append, flat_snoc]; exact this, bsetB HK.out Hbb.out _⟩
            case measure => simp [intOf]
        · obtain ⟨rfl, rfl, rfl⟩ := rdMany_stop HM.out hgo
          have hex : k = 0 ∨ (0 < k ∧ ¬ g2 = 0) := by
            rcases Nat.eq_zero_or_pos k with h | h
            · exact .inl h
            · exact .inr ⟨h, fun he => hgo ⟨h, he⟩⟩
          clear hgo HM
          rcases hex with rfl | ⟨hk0, he0⟩
          all_goals
            try (have hk1 : (0 : Int) < (k : Int) := by omega)
            try (have heb : (g2 == 0) = false := by simp [he0])
            go_wp2_with (first | (go_at_call 25; refine (err_any HR.out.rd).mono ?_; rintro e2 w2 ⟨rfl, rfl⟩) | (go_at_call 23; refine (num_st HR.out _ _ _ _ J3.out).mono ?_; rintro e2 w2 ⟨rfl, hr1, hg1⟩; have HK1 := Lib.hid (bgrownB HK.out hg1 HL1.out Hbg.out); have HB1 := Lib.hid (HB.out.grown hg1 (by simp [Hne.out])); have HT1 := Lib.hid (own_grown HT.out hg1 HR.out.rd (by decide)); have HR1 := Lib.hid hr1; clear HR HK HB HT hr1 hg1; have HR := HR1; have HK := HK1; have HB := HB1; have HT := HT1; clear HR1 HK1 HB1 HT1))
            try clear hk1
            try clear heb
            clear hlen
            go_loopw [10] (fun s10 wr => ∃ (k : Nat) (dacc : List DiR) (a : Nat) (e : Int) (vD : Value), s10 = .int .i64 k ∧ rdMany (rdDi L) k dacc a e = (ds, a6, e6) ∧ dacc.length + k ≤ 65535 ∧ RS wr 99 g L a e ∧ Blk wr b 35 #[.int .i64 v1, .int .i64 v2, .int .u64 v3, .int .u64 v4, .int .u32 c5.page, .int .i64 c5.ok, .int .i64 c5.oa, .string (bs c5.os), .string (bs c5.oo), .int .i64 c5.undo, .int .i64 c5.index, .string (bs c5.key), .int .u32 c5.rpage, .int .i64 c5.rslot, .bool c5.live, vT, vD] ∧ wr.ownsRow (rb + 1) 70 4 vT ts.length (ts.map StR.cells).flatten ∧ wr.ownsRow (rb + 1) 72 2 vD dacc.length (dacc.map DiR.cells).flatten ∧ Below (rb + 1) W1 wr)
              (fun s10 _ => (intOf s10).toNat)
            case atStart => exact ⟨n3, [], _, _, _, rfl, J4.out, by simp; omega, HR.out, HB.out, HT.out, World.ownsRow_nil _ _ _ _, HK.out⟩
            case round =>
              obtain ⟨k, dacc, a, e, vD, rfl, hm, hlen, hr1, hb1, ht1, hd1, hk1⟩ := hrel
              clear HR HK HB HT
              have HR := Lib.hid hr1
              have HB := Lib.hid hb1
              have HK := Lib.hid hk1
              have HT := Lib.hid ht1
              have HD := Lib.hid hd1
              have HM := Lib.hid hm
              clear hr1 hb1 hk1 ht1 hd1 hm
              by_cases hgo : 0 < k ∧ e = 0
              · obtain ⟨hk0, rfl⟩ := hgo
                obtain ⟨k', rfl⟩ : ∃ k', k = k' + 1 := ⟨k - 1, by omega⟩
                have hk2 : (0 : Int) < ((k' + 1 : Nat) : Int) := by omega
                obtain ⟨x1, p1, q1, s1⟩ : ∃ v a' e', rNum L a 0 4 = (v, a', e') := ⟨_, _, _, rfl⟩
                obtain ⟨x2, p2, q2, s2⟩ : ∃ v a' e', rNum L p1 q1 8 = (v, a', e') := ⟨_, _, _, rfl⟩
                have hx1 : x1 < 4294967296 := by have := rNum_lt L a 0 4; rw [show ((4 : Nat) : Int) = (4 : Int) from rfl, s1] at this; simpa using this
                have HF := Lib.hid (rdMany_go HM.out (show rdDi L a 0 = (⟨x1, x2⟩, p2, q2) by simp only [rdDi, s1, s2]))
                have S1 := Lib.hid s1
                have S2 := Lib.hid s2
                clear s1 s2 HM
                have hwx1 : IntKind.u32.wrap (x1 : Int) = x1 := by rw [IntKind.wrap_u32]; omega
                have c16 : wr.cell? ⟨b, 16, none⟩ = some vD := HB.out.cell 16
                have f16 := HB.out.frozen 16
                have hbz := HB.out.lt
                go_wp2_with (go_at_call 25; refine (err_any HR.out.rd).mono ?_; rintro e2 w2 ⟨rfl, rfl⟩)
                go_region_law ((first | (go_simp; go_at_call 23; refine (num_st (by exact ⟨HR.out.rd, HR.out.at_, HR.out.long⟩) _ _ _ _ (by first | exact S1.out | exact S2.out)).mono ?_; rintro e2 w3 ⟨rfl, hr1, hg0⟩; have hg1 := grown_of HB.out hg0 rfl rfl rfl rfl; have HK1 := Lib.hid (bgrownB HK.out hg1 HL1.out Hbg.out); have HB1 := Lib.hid (HB.out.grown hg1 (by simp [Hne.out])); have HT1 := Lib.hid (own_grown HT.out hg1 HR.out.rd (by decide)); have HD1 := Lib.hid (own_grown HD.out hg1 HR.out.rd (by decide)); have HR1 := Lib.hid hr1; clear HR HK HB HT HD hr1 hg0 hg1 c16 f16 hbz; have HR := HR1; have HK := HK1; have HB := HB1; have HT := HT1; have HD := HD1; clear HR1 HK1 HB1 HT1 HD1; have c16 : w3.cell? ⟨b, 16, none⟩ = some vD := HB.out.cell 16; have f16 := HB.out.frozen 16; have hbz := HB.out.lt) | (refine step_append_own rfl _ _ 33 rfl (rb + 1) 72 i1 _ 2 16 Try.underlying33 I1.out hy0 hy1 hy2 rfl (by decide) _ dacc.length _ rfl (own_below HD.out (by repeat (first | (with_reducible exact Below.refl _ _) | (with_reducible apply balloc) | (with_reducible apply bdrew) | (with_reducible apply bdrewN)))) _ 1 _ [.int .u32 x1, .int .u64 x2] rfl rfl (cells_new _ _ _) (by simp [Value.oneCell']) (by unfold maxLen; omega) (by omega) (by have h1 := HL1.out; have h2 := HK.out.size; simp; omega) ?_; intro v' w5 hown' hgrow _; obtain ⟨A5, m5, rfl⟩ := own_slice hown'; have HB2 := Lib.hid (Blk.grown (HB.out.step (by repeat (first | (with_reducible exact Below.refl _ _) | (with_reducible apply balloc) | (with_reducible apply bdrew) | (with_reducible apply bdrewN)))) hgrow (fun e => own_ne_blk HD.out HB.out (by decide) e.symm)); have HR2 := Lib.hid (show RS w5 99 g L _ _ from ⟨Rd.grown (HR.out.rd.step (by repeat (first | (with_reducible exact Below.refl _ _) | (with_reducible apply balloc) | (with_reducible apply bdrew) | (with_reducible apply bdrewN)))) hgrow (fun e => own_ne_blk HD.out HR.out.rd (by decide) e.symm), HR.out.at_, HR.out.long⟩); have HK2 := Lib.hid ((HK.out.trans ((show Below _ _ _ from (by repeat (first | (with_reducible exact Below.refl _ _) | (with_reducible apply balloc) | (with_reducible apply bdrew) | (with_reducible apply bdrewN)))).mono (Nat.le_trans HL1.out HK.out.size))).grown hgrow (by have h1 := HL1.out; have h2 := HK.out.size; simp; omega) (fun k hk => (HD.out.lt k hk).1)); have HT2 := Lib.hid ((own_below HT.out (by repeat (first | (with_reducible exact Below.refl _ _) | (with_reducible apply balloc) | (with_reducible apply bdrew) | (with_reducible apply bdrewN)))).kept hgrow (own_ne_own HT.out HD.out (by decide))); have HD2 := Lib.hid hown'; clear HR HK HB HT HD hown' hgrow c16 f16 hbz; have HR := HR2; have HK := HK2; have HB := HB2; have HT := HT2; have HD := HD2; clear HR2 HK2 HB2 HT2 HD2; have c16 : w5.cell? ⟨b, 16, none⟩ = some vD := HB.out.cell 16; have f16 := HB.out.frozen 16)))
                all_goals
                  go_wp2
                  go_roundw
                  case rel => exact ⟨k', dacc ++ [⟨x1, x2⟩], p2, q2, _, rfl, HF.out, by simp; omega, RS.far HR.out Hne.out, HB.out.set_ 16 _, own_set HT.out HB.out (by decide), by have := own_set (b := b) (o := 16) (u := .slice A5 (dacc.length + 1) m5) HD.out HB.out (by decide); rw [List.length_append, flat_snoc]; exact this, bsetB HK.out Hbb.out _⟩
                  case measure => simp [intOf]
              · have hex : k = 0 ∨ (0 < k ∧ ¬ e = 0) := by
                  rcases Nat.eq_zero_or_pos k with h | h
                  · exact .inl h
                  · exact .inr ⟨h, fun he => hgo ⟨h, he⟩⟩
                obtain ⟨rfl, rfl, rfl⟩ := rdMany_stop HM.out hgo
                clear hgo HM
                rcases hex with rfl | ⟨hk0, he0⟩
                · go_wp2_with (go_at_call 25; refine (err_any HR.out.rd).mono ?_; rintro e2 w2 ⟨rfl, rfl⟩)
                  go_meet
                  exact ⟨vT, vD, HR.out, HB.out, HT.out, HD.out, HK.out⟩
                · have hk1 : (0 : Int) < (k : Int) := by omega
                  have heb := beq_eq_false_iff_ne.2 he0
                  go_wp2_with (go_at_call 25; refine (err_any HR.out.rd).mono ?_; rintro e2 w2 ⟨rfl, rfl⟩)
                  go_meet
                  exact ⟨vT, vD, HR.out, HB.out, HT.out, HD.out, HK.out⟩
  case rest =>
  obtain ⟨vT, vD, hr2, hb2, ht2, hd2, hk2⟩ := hcut
  clear HR HK HB
  have HR := Lib.hid hr2
  have HB := Lib.hid hb2
  have HK := Lib.hid hk2
  have HT := Lib.hid ht2
  have HD := Lib.hid hd2
  clear hr2 hb2 ht2 hd2 hk2
  have hzz : Blk wc rb 35 #[.int .i64 0, .int .i64 0, .int .u64 0, .int .u64 0, .int .u32 0, .int .i64 0, .int .i64 0, .string (bs []), .string (bs []), .int .i64 0, .int .i64 0, .string (bs []), .int .u32 0, .int .i64 0, .bool false, .slice none 0 0, .slice none 0 0] := HZ.out.below HK.out (Nat.lt_succ_self rb)
  have HZ6 := Lib.hid hzz
  have HBW := Lib.hid (show Below rb w wc from HB0.out.trans (HK.out.mono (Nat.le_succ rb)))
  clear hzz
  have hlen := tab_len H6.out
  obtain ⟨A, c, rfl, hrA⟩ := own_rows (enc := StR.cells) (fun _ => rfl) HT.out
  obtain ⟨B, d, rfl, hrB⟩ := own_rows (enc := DiR.cells) (fun _ => rfl) HD.out
  have hRA : RdRows StR.cells 4 wc A t6.txs := fun k hk => by
    obtain ⟨b, off, h1, h2, h3, h4⟩ := hrA k hk
    exact ⟨b, off, h1, h3, h4⟩
  have hRB : RdRows DiR.cells 2 wc B t6.dirty := fun k hk => by
    obtain ⟨b, off, h1, h2, h3, h4⟩ := hrB k hk
    exact ⟨b, off, h1, h3, h4⟩
  have hAb : ∀ k, k < t6.txs.length → ∃ b off, A = some ⟨b, off, none⟩ ∧ rb + 1 ≤ b := fun k hk => by
    obtain ⟨b, off, h1, h2, _⟩ := hrA k hk
    exact ⟨b, off, h1, h2⟩
  have HRA := Lib.hid hRA
  have HRB := Lib.hid hRB
  have hck := fun (w' : World) (hA : RdRows StR.cells 4 w' A t6.txs) => rcheck_any RR A c B d w' (by rw [HRR.out]; exact hA) (by rw [HRR.out]; show t6.txs.length ≤ _; omega) (by rw [HRR.out]; show t6.dirty.length ≤ _; omega)
  have hval : RR.val A c B d = .agg #[.int .i64 v1, .int .i64 v2, .int .u64 v3, .int .u64 v4, .int .u32 c5.page, .int .i64 c5.ok, .int .i64 c5.oa, .string (bs c5.os), .string (bs c5.oo), .int .i64 c5.undo, .int .i64 c5.index, .string (bs c5.key), .int .u32 c5.rpage, .int .i64 c5.rslot, .bool c5.live, .slice A t6.txs.length c, .slice B t6.dirty.length d] := by rw [HRR.out]; rfl
  rw [hval] at hck
  have HV := Lib.hid hval
  have HCK := Lib.hid hck
  have hend := end_st HR.out
  rw [HE.out] at hend
  have HEnd := Lib.hid hend
  clear hrA hrB hRA hRB hck hval hend hlen hAb
  by_cases hE0 : E = 0
  · subst hE0
    by_cases hok : recOk RR
    · have HOK := Lib.hid (recE_pos hok)
      have HOk := Lib.hid hok
      clear hok
      go_wp2_with (first | (go_at_call 26; refine HEnd.out.mono ?_; rintro e2 w1 ⟨rfl, hg1⟩; have HB1 := Lib.hid (HB.out.grown hg1 (by simp [Hne.out])); have HZ1 := Lib.hid (HZ6.out.grown hg1 (by simp [HgZ.out])); have HT1 := Lib.hid (own_grown HT.out hg1 HR.out.rd (by decide)); have HD1 := Lib.hid (own_grown HD.out hg1 HR.out.rd (by decide)); have HW1 := Lib.hid (bgrownB HBW.out hg1 (Nat.le_of_eq Hrb.out.symm) (Nat.le_trans (Nat.le_succ rb) Hbg.out)); clear hg1) | (refine wpList_load_row_on rfl 35 (.tmp 5) rfl b rfl 35 _ (0, 0) _ HB1.out Try.underlying35 rfl (by kernel_rfl) ?_) | (go_at_call 16; refine (HCK.out _ (own_rd (fun _ => rfl) HT1.out)).mono ?_; rintro e2 w2 ⟨rfl, hb2⟩; rw [HOK.out]; have HB2 := Lib.hid (HB1.out.step hb2); have HZ2 := Lib.hid (HZ1.out.step hb2); have HT2 := Lib.hid (own_below HT1.out hb2); have HD2 := Lib.hid (own_below HD1.out hb2); have HW2 := Lib.hid (HW1.out.trans (hb2.mono (Nat.le_of_lt HZ1.out.lt))); clear hb2) | (refine wpList_load_row rfl 35 (.tmp 5) rfl b rfl 35 _ (0, 0) _ HB2.out Try.underlying35 rfl (by kernel_rfl) ?_) | (refine wpList_store_row rfl 35 (.tmp 2) (.tmp 97) rfl rb _ rfl rfl 35 _ HZ2.out (by kernel_rfl) rfl (by simp [Value.oneCell']) ?_))
      try simp only [Act.put, List.setIfInBounds_toArray, List.set_cons_succ, List.set_cons_zero]
      refine bodyPost_ret (v := .tuple #[.agg #[.int .i64 v1, .int .i64 v2, .int .u64 v3, .int .u64 v4, .int .u32 c5.page, .int .i64 c5.ok, .int .i64 c5.oa, .string (bs c5.os), .string (bs c5.oo), .int .i64 c5.undo, .int .i64 c5.index, .string (bs c5.key), .int .u32 c5.rpage, .int .i64 c5.rslot, .bool c5.live, .slice A t6.txs.length c, .slice B t6.dirty.length d], .int .i64 0]) (results_ct (fn := Try.f9) (p := 2) (q := 3) (ty := 35) rfl _ _ rb 35 _ (0, 0) _ rfl (blk_setRow HZ2.out) Try.underlying35 rfl (by kernel_rfl)) rfl ?_
      rw [← HPOST.out]
      refine ⟨⟨fun _ => ⟨A, c, B, d, by rw [HV.out], by rw [HRR.out]; exact (own_setRow HT2.out HZ2.out (by decide)), by rw [HRR.out]; exact (own_setRow HD2.out HZ2.out (by decide))⟩, fun h => absurd ⟨?_, HOk.out⟩ h⟩, setRow_below HW2.out (Nat.le_refl _) _⟩
      first | exact trivial | rfl
    · have HOK := Lib.hid (recE_neg hok)
      have HOk := Lib.hid hok
      clear hok
      go_wp2_with (first | (go_at_call 26; refine HEnd.out.mono ?_; rintro e2 w1 ⟨rfl, hg1⟩; have HB1 := Lib.hid (HB.out.grown hg1 (by simp [Hne.out])); have HZ1 := Lib.hid (HZ6.out.grown hg1 (by simp [HgZ.out])); have HT1 := Lib.hid (own_grown HT.out hg1 HR.out.rd (by decide)); have HD1 := Lib.hid (own_grown HD.out hg1 HR.out.rd (by decide)); have HW1 := Lib.hid (bgrownB HBW.out hg1 (Nat.le_of_eq Hrb.out.symm) (Nat.le_trans (Nat.le_succ rb) Hbg.out)); clear hg1) | (refine wpList_load_row_on rfl 35 (.tmp 5) rfl b rfl 35 _ (0, 0) _ HB1.out Try.underlying35 rfl (by kernel_rfl) ?_) | (go_at_call 16; refine (HCK.out _ (own_rd (fun _ => rfl) HT1.out)).mono ?_; rintro e2 w2 ⟨rfl, hb2⟩; rw [HOK.out]; have HB2 := Lib.hid (HB1.out.step hb2); have HZ2 := Lib.hid (HZ1.out.step hb2); have HT2 := Lib.hid (own_below HT1.out hb2); have HD2 := Lib.hid (own_below HD1.out hb2); have HW2 := Lib.hid (HW1.out.trans (hb2.mono (Nat.le_of_lt HZ1.out.lt))); clear hb2) | (refine wpList_store_row rfl 35 (.tmp 2) (.tmp 96) rfl rb _ rfl rfl 35 _ HZ2.out (by kernel_rfl) rfl (by simp [Value.oneCell']) ?_))
      try simp only [Act.put, List.setIfInBounds_toArray, List.set_cons_succ, List.set_cons_zero]
      refine bodyPost_ret (v := .tuple #[.agg #[.int .i64 0, .int .i64 0, .int .u64 0, .int .u64 0, .int .u32 0, .int .i64 0, .int .i64 0, .string (bs []), .string (bs []), .int .i64 0, .int .i64 0, .string (bs []), .int .u32 0, .int .i64 0, .bool false, .slice none 0 0, .slice none 0 0], .int .i64 40]) (results_ct (fn := Try.f9) (p := 2) (q := 3) (ty := 35) rfl _ _ rb 35 _ (0, 0) _ rfl (blk_setRow HZ2.out) Try.underlying35 rfl (by kernel_rfl)) rfl ?_
      rw [← HPOST.out]
      exact ⟨⟨fun h => absurd h.2 HOk.out, fun _ => rfl⟩, setRow_below HW2.out (Nat.le_refl _) _⟩
  · have hEb : (E != 0) = true := by simp [hE0]
    have HE0 := Lib.hid hE0
    clear hE0
    go_wp2_with (first | (go_at_call 26; refine HEnd.out.mono ?_; rintro e2 w1 ⟨rfl, hg1⟩; have HB1 := Lib.hid (HB.out.grown hg1 (by simp [Hne.out])); have HZ1 := Lib.hid (HZ6.out.grown hg1 (by simp [HgZ.out])); have HT1 := Lib.hid (own_grown HT.out hg1 HR.out.rd (by decide)); have HD1 := Lib.hid (own_grown HD.out hg1 HR.out.rd (by decide)); have HW1 := Lib.hid (bgrownB HBW.out hg1 (Nat.le_of_eq Hrb.out.symm) (Nat.le_trans (Nat.le_succ rb) Hbg.out)); clear hg1) | (refine wpList_store_row rfl 35 (.tmp 2) (.tmp 96) rfl rb _ rfl rfl 35 _ HZ1.out (by kernel_rfl) rfl (by simp [Value.oneCell']) ?_))
    try simp only [Act.put, List.setIfInBounds_toArray, List.set_cons_succ, List.set_cons_zero]
    refine bodyPost_ret (v := .tuple #[.agg #[.int .i64 0, .int .i64 0, .int .u64 0, .int .u64 0, .int .u32 0, .int .i64 0, .int .i64 0, .string (bs []), .string (bs []), .int .i64 0, .int .i64 0, .string (bs []), .int .u32 0, .int .i64 0, .bool false, .slice none 0 0, .slice none 0 0], .int .i64 40]) (results_ct (fn := Try.f9) (p := 2) (q := 3) (ty := 35) rfl _ _ rb 35 _ (0, 0) _ rfl (blk_setRow HZ1.out) Try.underlying35 rfl (by kernel_rfl)) rfl ?_
    rw [← HPOST.out]
    exact ⟨⟨fun h => absurd h.1 HE0.out, fun _ => rfl⟩, setRow_below HW1.out (Nat.le_refl _) _⟩
theorem decode_any (L : List UInt8) (w : World) (hL : L.length ≤ 9223372036854775807) :
    Calls Try.prog 9 #[.string (bs L)] w fun e' w' =>
      ((decOk L → ∃ A c B d, e' = .returned (.tuple #[(rdRec L).1.val A c B d, .int .i64 0]) ∧ RdRows StR.cells 4 w' A (rdRec L).1.txs ∧ RdRows DiR.cells 2 w' B (rdRec L).1.dirty)
        ∧ (¬ decOk L → e' = .returned (.tuple #[.agg #[.int .i64 0, .int .i64 0, .int .u64 0, .int .u64 0, .int .u32 0, .int .i64 0, .int .i64 0, .string (bs []), .string (bs []), .int .i64 0, .int .i64 0, .string (bs []), .int .u32 0, .int .i64 0, .bool false, .slice none 0 0, .slice none 0 0], .int .i64 40]))) ∧ Below w.heap.size w w' :=
  (decode_own L w hL).mono fun e w' ⟨⟨h1, h2⟩, h3⟩ => ⟨⟨fun h => by
    obtain ⟨A, c, B, d, e, hA, hB⟩ := h1 h
    exact ⟨A, c, B, d, e, own_rd (fun _ => rfl) hA, own_rd (fun _ => rfl) hB⟩, h2⟩, h3⟩
end Go.Proofs.Ytebickoieipjpaa
end
section
namespace Go.Proofs.Ytebickoieipjpaa
open Go.RowKit Go.Gi Go.GiRow
set_option maxRecDepth 20000
set_option linter.unusedSimpArgs false
set_option linter.unusedVariables false
theorem isListL {P : Program} {ops : Array Oper} {Q : Exit → Act → World → Prop} {l : List Oper} {a : Act} {w : World} (h : wpList P ops Q l a w) : wpList P ops Q l a w := h
theorem long_no (r : RecR) {A : Option Addr} {c : Nat} {B : Option Addr} {d : Nat} {w : World} (hr : RowsR w r A c B d) (hn : ¬ recOk r) :
    Calls Try.prog 15 #[r.val A c B d] w fun e w' => e = .returned (.tuple #[.int .i64 0, .int .i64 40]) ∧ Below w.heap.size w w' := by
  have hbA := hr.bA
  have hbB := hr.bB
  have HR := Lib.hid hr
  have HN := Lib.hid hn
  clear hr hn
  have HB := Lib.hid (Blk.new w 35 (r.cells A c B d))
  have HK := Lib.hid (balloc (Below.refl w.heap.size w) (.cells (r.cells A c B d) 35))
  unfold RecR.val
  go_enter Try.func15, Try.ntmps15
  go_upto_region 1 with fail
  generalize w.alloc (.cells (r.cells A c B d) 35) = w1 at *
  go_wp2_with (first | (with_reducible (refine isListL ?_; with_unfolding_all refine wpList_load_row rfl 35 (.tmp 1) rfl w.heap.size (by kernel_rfl) 35 (r.cells A c B d) (0, 0) _ HB.out Try.underlying35 rfl (by kernel_rfl) ?_)) | (go_at_call 7; refine (encode_no r A c B d _ (HR.out.below HK.out).rdA (by omega) (by omega) HN.out).mono ?_; rintro e w2 ⟨rfl, hb5⟩))
  go_ret2
  exact ⟨rfl, bstep HK.out hb5⟩
theorem long_ok (r : RecR) {A : Option Addr} {c : Nat} {B : Option Addr} {d : Nat} {w : World} (hr : RowsR w r A c B d) (hw : RecW r) (hn : recOk r) (hl : (recB r).length ≤ 9000000000000000000) :
    Calls Try.prog 15 #[r.val A c B d] w fun e w' => e = .returned (.tuple #[.int .i64 (((recB r).length + 12 : Nat) : Int), .int .i64 0]) ∧ Below w.heap.size w w' := by
  have HR := Lib.hid hr
  have HN := Lib.hid hn
  have HW := Lib.hid hw
  clear hr hn hw
  have HB := Lib.hid (Blk.new w 35 (r.cells A c B d))
  have HK := Lib.hid (balloc (Below.refl w.heap.size w) (.cells (r.cells A c B d) 35))
  have hsz : (bs (recB r)).size = (recB r).length := bs_size _
  unfold RecR.val
  go_enter Try.func15, Try.ntmps15
  go_upto_region 1 with fail
  generalize w.alloc (.cells (r.cells A c B d) 35) = w1 at *
  go_wp2_with (first | (with_reducible (refine isListL ?_; with_unfolding_all refine wpList_load_row rfl 35 (.tmp 1) rfl w.heap.size (by kernel_rfl) 35 (r.cells A c B d) (0, 0) _ HB.out Try.underlying35 rfl (by kernel_rfl) ?_)) | (go_at_call 7; refine (encode_ok r A c B d _ (HR.out.below HK.out).rdA (HR.out.below HK.out).rdB HW.out HN.out).mono ?_; rintro e w2 ⟨rfl, hb5⟩))
  go_ret2
  exact ⟨by simp [Array.getD]; try omega, bstep HK.out hb5⟩
end Go.Proofs.Ytebickoieipjpaa
end
section
namespace Go.Proofs.Ytebickoieipjpaa
open Go.RowKit Go.Gi Go.GiRow Go.Proofs.YtebickoieipjpaaW.PrintWords Go.Proofs.YtebickoieipjpaaW.PrintLast Go.Proofs.YtebickoieipjpaaW.PrintMore PRr
set_option maxRecDepth 20000
set_option linter.unusedSimpArgs false
set_option linter.unusedVariables false
theorem C_of_rd {α β : Type} {k : Kd β} {of : α → β} {cells : α → List Value} {n : Nat} (hsz : k.sz = n) (hlen : ∀ a, (cells a).length = n) {w : World} (hK : ∀ a, k.K w (of a) (cells a)) {A : Option Addr} {l : List α} (h : RdRows cells n w A l) (hl : l.length ≤ 9223372036854775807) : Kd.C k w A l.length (l.map of) := by
  refine ⟨List.length_map _, hl, fun h0 => ?_⟩
  obtain ⟨b, off, rfl, _, _⟩ := h 0 h0
  refine ⟨_, rfl, fun j p hp => ?_⟩
  obtain ⟨hj, e⟩ := List.getElem?_eq_some_iff.1 hp
  rw [List.length_map] at hj
  rw [List.getElem_map] at e
  obtain ⟨b2, off2, e2, _, hc⟩ := h j hj
  injection e2 with e2
  injection e2 with e3 e4 _
  subst e3 e4 e
  refine ⟨cells l[j], by rw [hlen, hsz], hK _, fun i u hu => ?_⟩
  rw [hsz, show (⟨b, off, none⟩ : Addr).add (j * n + i) = ⟨b, off + j * n + i, none⟩ by unfold Addr.add; split <;> simp_all [Nat.add_assoc]]
  exact hc i u hu
theorem own_cap {w : World} {base T size n c m : Nat} {A : Option Addr} {xs : List Value} (h : w.ownsRow base T size (.slice A n c) m xs) : n ≤ c := by
  rcases h.2 with ⟨e, _⟩ | ⟨g, cap, cur, e, _, _, hn, _⟩
  · injection e with _ e2 e3
    omega
  · injection e with _ e2 e3
    subst e2 e3
    exact hn
structure RowsF (w : World) (r : RecR) (A : Option Addr) (c : Nat) (B : Option Addr) (d : Nat) : Prop where
  hA : Kd.C k56 w A r.txs.length (r.txs.map sSt)
  hc : r.txs.length ≤ c
  hB : Kd.C k58 w B r.dirty.length (r.dirty.map sDi)
  hd : r.dirty.length ≤ d
theorem RowsF.below {w w' : World} {r : RecR} {A : Option Addr} {c : Nat} {B : Option Addr} {d : Nat} (h : RowsF w r A c B d) (hb : Below w.heap.size w w') : RowsF w' r A c B d := ⟨Kd.C_below h.hA hb, h.hc, Kd.C_below h.hB hb, h.hd⟩
theorem own_F {w : World} {r : RecR} {b1 b2 : Nat} {vT vD : Value} (hT : w.ownsRow b1 56 4 vT r.txs.length (r.txs.map StR.cells).flatten) (hD : w.ownsRow b2 58 2 vD r.dirty.length (r.dirty.map DiR.cells).flatten)
    (h1 : r.txs.length ≤ 9223372036854775807) (h2 : r.dirty.length ≤ 9223372036854775807) : ∃ A c B d, vT = .slice A r.txs.length c ∧ vD = .slice B r.dirty.length d ∧ RowsF w r A c B d := by
  obtain ⟨A, c, rfl, _⟩ := own_rows (enc := StR.cells) (fun _ => rfl) hT
  obtain ⟨B, d, rfl, _⟩ := own_rows (enc := DiR.cells) (fun _ => rfl) hD
  exact ⟨A, c, B, d, rfl, rfl, C_of_rd (k := k56) (of := sSt) rfl (fun _ => rfl) (fun a => k56_mk w (sSt a)) (own_rd (fun _ => rfl) hT) h1, own_cap hT, C_of_rd (k := k58) (of := sDi) rfl (fun _ => rfl) (fun a => k58_mk w (sDi a)) (own_rd (fun _ => rfl) hD) h2, own_cap hD⟩
theorem own_R {w : World} {r : RecR} {b1 b2 : Nat} {A B : Option Addr} {c d : Nat} (hT : w.ownsRow b1 70 4 (.slice A r.txs.length c) r.txs.length (r.txs.map StR.cells).flatten) (hD : w.ownsRow b2 72 2 (.slice B r.dirty.length d) r.dirty.length (r.dirty.map DiR.cells).flatten)
    (h1 : r.txs.length * 32 ≤ 140737488351232) (h2 : r.dirty.length * 16 ≤ 140737488351232) : RowsR w r A c B d :=
  ⟨C_of_rd (k := PRs.k70) (of := ofSt) rfl (fun _ => rfl) (fun a => PRs.k70_mk w (ofSt a)) (own_rd (fun _ => rfl) hT) (by omega), own_cap hT, C_of_rd (k := PRs.k72) (of := ofDi) rfl (fun _ => rfl) (fun a => PRs.k72_mk w (ofDi a)) (own_rd (fun _ => rfl) hD) (by omega), own_cap hD, h1, h2⟩
theorem recOk_len {r : RecR} (h : recOk r) : r.txs.length ≤ 64 ∧ r.dirty.length ≤ 256 := by
  obtain ⟨⟨_, h6⟩, _⟩ := h
  exact h6.2
theorem ref_F {r : RecR} {A : Option Addr} {c : Nat} {B : Option Addr} {d : Nat} {w : World} (h : RowsR w r A c B d) :
    Calls Try.prog 13 #[.agg (r.cells A c B d)] w fun e w' => ∃ A1 c1 B1 d1, e = .returned (.agg (rfs r (.slice A1 r.txs.length c1) (.slice B1 r.dirty.length d1))) ∧ RowsF w' r A1 c1 B1 d1 ∧ Below w.heap.size w w' := by
  have hA := h.bA
  have hB := h.bB
  refine (ref_any r A c B d w h.rdA h.rdB hA hB).mono ?_
  rintro e w' ⟨⟨vT, vD, rfl, h1, h2⟩, hb⟩
  obtain ⟨A1, c1, B1, d1, rfl, rfl, hF⟩ := own_F h1 h2 (by omega) (by omega)
  exact ⟨A1, c1, B1, d1, rfl, hF, hb⟩
theorem may04_F {r : RecR} {A : Option Addr} {c : Nat} {B : Option Addr} {d : Nat} {w : World} (h : RowsF w r A c B d) (hl : r.txs.length * 32 ≤ 140737488351232) (hd : r.dirty.length * 16 ≤ 140737488351232) :
    Calls Try.prog 14 #[.agg (rfs r (.slice A r.txs.length c) (.slice B r.dirty.length d))] w fun e w' => (∃ b, e = .returned (.bool b) ∧ (b = true ↔ recOk r)) ∧ Below w.heap.size w w' :=
  may04_any r A c B d w (rd_of_C (k := k56) (of := sSt) rfl (by decide) (fun _ _ _ h => k56_open h) (fun _ => rfl) h.hA) hl hd
theorem bytes04_F {r : RecR} {A : Option Addr} {c : Nat} {B : Option Addr} {d : Nat} {w : World} (h : RowsF w r A c B d) (hr : recOk r) (hw : RecW r) :
    Calls Try.prog 12 #[.agg (rfs r (.slice A r.txs.length c) (.slice B r.dirty.length d))] w fun e w' => e = .returned (.string (bs (recB r))) ∧ Below w.heap.size w w' := bytes04_C h.hA h.hc h.hB h.hd hr hw
theorem dec_yes (L : List UInt8) (hL : L.length ≤ 9223372036854775807) (h : decOk L) (w : World) :
    Calls Try.prog 9 #[.string (bs L)] w fun e w' => ∃ A c B d, e = .returned (.tuple #[.agg ((rdRec L).1.cells A c B d), .int .i64 0]) ∧ RowsR w' (rdRec L).1 A c B d ∧ Below w.heap.size w w' := by
  refine (decode_own L w hL).mono ?_
  rintro e w' ⟨⟨h1, _⟩, hb⟩
  obtain ⟨A, c, B, d, e1, hA, hB⟩ := h1 h
  have hl := recOk_len h.2
  exact ⟨A, c, B, d, e1, own_R hA hB (by omega) (by omega), hb⟩
theorem same_R {r s : RecR} {A : Option Addr} {c : Nat} {B : Option Addr} {d : Nat} {A' : Option Addr} {c' : Nat} {B' : Option Addr} {d' : Nat} {w : World} (hr : RowsR w r A c B d) (hs : RowsR w s A' c' B' d') (e0 : r = s) :
    Calls Try.prog 11 #[.agg (r.cells A c B d), .agg (s.cells A' c' B' d')] w fun e w' => e = .returned (.bool true) ∧ Below w.heap.size w w' :=
  (rsame_any r s hr hs).mono fun e w' ⟨⟨b, h1, h2⟩, hb⟩ => ⟨by rw [h1, h2.2 e0], hb⟩
end Go.Proofs.Ytebickoieipjpaa
end
section
namespace Go.Proofs.Ytebickoieipjpaa
open Go.RowKit Go.Gi Go.GiRow
set_option maxRecDepth 20000
set_option linter.unusedSimpArgs false
set_option linter.unusedVariables false
def rec0 : RecR := ⟨4, 3, 9, 0, 0, 0, 0, [], [], 0, 0, [], 0, 0, false, [], []⟩
theorem rec0_ok : recOk rec0 := by
  refine ⟨⟨⟨⟨⟨⟨?_, ?_⟩, ?_⟩, ?_⟩, ?_⟩, ?_⟩, ?_⟩
  · unfold okHead rec0; simp
  · unfold okUndo rec0; simp
  · rw [okOp_no (by unfold isChange rec0; simp)]; unfold rec0; simp
  · rw [okKey_no (by unfold rec0; simp)]; unfold rec0; simp
  · unfold okNext rec0; simp
  · unfold okLong rec0; simp
  · intro t ht; unfold rec0 at ht; simp at ht
theorem rec0_w : RecW rec0 := ⟨by unfold rec0; simp, by unfold rec0; simp, by unfold rec0; simp, by unfold rec0; simp, by unfold rec0; simp, by unfold rec0; simp⟩
theorem rec0_len : (recB rec0).length = 13 := by decide +kernel
theorem rd0 {α : Type} (enc : α → List Value) (n : Nat) (w : World) (A : Option Addr) : RdRows enc n w A [] := fun k hk => absurd hk (by simp)
theorem bs_prefix (s : List UInt8) (k : Nat) : (bs s).extract 0 k = bs (s.take k) := by rw [extract_bs, toList_bs]; simp
attribute [local go_sem] bs_size bs_append bs_prefix bs_empty
set_option maxHeartbeats 16000000 in
theorem awake04 (w : World) : Calls Try.prog 8 #[] w fun e w' => e = .returned (.bool true) ∧ Below w.heap.size w w' := by
  have henc := fun W => encode_ok rec0 none 0 none 0 W (rd0 _ _ _ _) (rd0 _ _ _ _) rec0_w rec0_ok
  have HENC := Lib.hid henc
  have hdec := fun W => decode_any (recB rec0) W (by rw [rec0_len]; decide)
  have HDEC := Lib.hid hdec
  have hl0 := rec0_len
  have HD := Lib.hid (dec_of_told rec0 rec0_ok rec0_w)
  clear henc hdec
  generalize recB rec0 = L0 at *
  go_enter Try.func8, Try.ntmps8
  go_upto_region 3 with (first | (go_at_call 7; refine (HENC.out _).mono ?_; rintro e w1 ⟨rfl, hb1⟩; have HB1 := Lib.hid hb1; clear hb1) | (go_at_call 9; refine (HDEC.out _).mono ?_; rintro e w2 ⟨⟨hy, _⟩, hb2⟩; obtain ⟨A, c, B, d, rfl, _, _⟩ := hy HD.out.1; rw [HD.out.2]; unfold rec0 RecR.val RecR.cells; have HB2 := Lib.hid (bstep HB1.out hb2); clear hb2 hy))
  go_wp2
  go_ret
  exact ⟨rfl, HB2.out.alloc HB2.out.size _⟩
end Go.Proofs.Ytebickoieipjpaa
end
section
namespace Go.Proofs.Ytebickoieipjpaa
open Go.RowKit Go.Gi Go.GiRow Go.Proofs.YtebickoieipjpaaW.PrintWords Go.Proofs.YtebickoieipjpaaW.PrintLast Go.Proofs.YtebickoieipjpaaW.PrintMore
set_option maxRecDepth 20000
set_option linter.unusedSimpArgs false
set_option linter.unusedVariables false
theorem cells_one (r : RecR) (A : Option Addr) (c : Nat) (B : Option Addr) (d : Nat) : (r.cells A c B d).all (·.oneCell') = true := by unfold RecR.cells; simp [Value.oneCell']
end Go.Proofs.Ytebickoieipjpaa
end
section
namespace Go.Proofs.Ytebickoieipjpaa
open Go.RowKit Go.Gi Go.GiRow Go.Proofs.YtebickoieipjpaaW.PrintWords Go.Proofs.YtebickoieipjpaaW.PrintLast Go.Proofs.YtebickoieipjpaaW.PrintMore
set_option maxRecDepth 20000
set_option linter.unusedSimpArgs false
set_option linter.unusedVariables false
theorem enc_no {r : RecR} {A : Option Addr} {c : Nat} {B : Option Addr} {d : Nat} {w : World} (h : RowsR w r A c B d) (hn : ¬ recOk r) :
    Calls Try.prog 7 #[.agg (r.cells A c B d)] w fun e w' => e = .returned (.tuple #[.string ⟨#[]⟩, .int .i64 40]) ∧ Below w.heap.size w w' :=
  encode_no r A c B d w h.rdA (by have h_ := h.bA; omega) (by have h_ := h.bB; omega) hn
theorem enc_ok {r : RecR} {A : Option Addr} {c : Nat} {B : Option Addr} {d : Nat} {w : World} (h : RowsR w r A c B d) (hw : RecW r) (hn : recOk r) :
    Calls Try.prog 7 #[.agg (r.cells A c B d)] w fun e w' => e = .returned (.tuple #[.string (bs (recB r)), .int .i64 0]) ∧ Below w.heap.size w w' :=
  encode_ok r A c B d w h.rdA h.rdB hw hn
theorem chk_is {r : RecR} {A : Option Addr} {c : Nat} {B : Option Addr} {d : Nat} {w : World} (h : RowsR w r A c B d) {e0 : Int} (he : recE r = e0) :
    Calls Try.prog 16 #[.agg (r.cells A c B d)] w fun e w' => e = .returned (.int .i64 e0) ∧ Below w.heap.size w w' := by
  subst he
  exact rcheck_any r A c B d w h.rdA (by have h_ := h.bA; omega) (by have h_ := h.bB; omega)
theorem recB_le6 {r : RecR} (hr : recOk r) : (recB r).length ≤ 1000000 := by
  obtain ⟨⟨⟨⟨⟨⟨g1, g2⟩, g3⟩, g4⟩, g5⟩, g6⟩, g7⟩ := hr
  have h1 : (chB r).length ≤ 2000 ∨ ¬ isChange r.kind := by
    by_cases hc : isChange r.kind
    · left
      have ho := ((okOp_yes hc).1 g3).2
      unfold opOk at ho
      by_cases hu : r.undo = 2
      · have hk := (okKey_yes hu).1 g4
        rw [chB_yes r hu]
        unfold keyB
        simp only [List.length_append, putL_length, txB, List.length_cons, List.length_nil]
        omega
      · rw [chB_no r hu]
        simp only [List.length_append, putL_length, txB]
        omega
    · exact .inr hc
  have hst : ∀ l : List StR, (stsB l).length = 21 * l.length := by
    intro l
    induction l with
    | nil => rfl
    | cons a l ih => unfold stsB at ih ⊢; rw [List.map_cons, List.flatten_cons, List.length_append, ih, stB_len, List.length_cons]; omega
  have hdi : ∀ l : List DiR, (disB l).length = 12 * l.length := by
    intro l
    induction l with
    | nil => rfl
    | cons a l ih => unfold disB at ih ⊢; rw [List.map_cons, List.flatten_cons, List.length_append, ih, diB_len, List.length_cons]; omega
  have h2 : (tabB r).length ≤ 100000 := by
    unfold tabB
    simp only [List.length_append, putL_length, hst, hdi]
    have := g6.2
    omega
  unfold recB headB
  simp only [List.length_append, putL_length]
  have h3 : (if isNext r.kind then putL 8 r.next.toNat else []).length ≤ 8 := by split <;> simp [putL_length]
  have h4 : (if isChange r.kind then chB r else []).length ≤ 2000 := by
    split
    · rename_i hc; exact h1.resolve_right (fun h => h hc)
    · simp
  have h5 : (if r.kind = 8 then tabB r else []).length ≤ 100000 := by split <;> simp [h2]
  omega
theorem dec_told {r : RecR} (hl : (recB r).length ≤ 9223372036854775807) (h : decOk (recB r) ∧ (rdRec (recB r)).1 = r) (w : World) :
    Calls Try.prog 9 #[.string (bs (recB r))] w fun e w' => ∃ A c B d, e = .returned (.tuple #[.agg (r.cells A c B d), .int .i64 0]) ∧ RowsR w' r A c B d ∧ Below w.heap.size w w' := by
  have := dec_yes (recB r) hl h.1 w
  rw [h.2] at this
  exact this
set_option maxHeartbeats 16000000 in
theorem recCodes_any (r : RecR) {A : Option Addr} {c : Nat} {B : Option Addr} {d : Nat} {w : World} (hR : RowsR w r A c B d) (hw : RecW r) :
    Calls Try.prog 6 #[r.val A c B d] w fun e w' => e = .returned (.bool true) ∧ Below w.heap.size w w' := by
  have hbA := hR.bA
  have hbB := hR.bB
  have HW := Lib.hid hw
  have HR := Lib.hid hR
  clear hw hR
  unfold RecR.val
  have H1 := Lib.hid (Blk.new w 35 (r.cells A c B d))
  have HK := Lib.hid (balloc (Below.refl w.heap.size w) (.cells (r.cells A c B d) 35))
  have n_R := Lib.hid (HR.out.below (balloc (Below.refl w.heap.size w) (.cells (r.cells A c B d) 35)))
  clear HR
  have HR := n_R
  clear n_R
  by_cases hok : recOk r
  · have HOK := Lib.hid hok
    clear hok
    have hlen := recB_le6 HOK.out
    have Hlen := Lib.hid hlen
    have hsz : (bs (recB r)).size = (recB r).length := bs_size _
    have Hdec := Lib.hid (dec_of_told r HOK.out HW.out)
    have hub_ := Try.underlying4
    go_enter Try.func6, Try.ntmps6
    go_upto_region 1 with fail
    generalize w.alloc (.cells (r.cells A c B d) 35) = w0 at *
    go_upto_region 9 with (first | (with_reducible refine isLoadN 35 (.tmp 1) ?_; with_unfolding_all refine wpList_load_row rfl 35 (.tmp 1) rfl w.heap.size (by kernel_rfl) 35 (r.cells A c B d) (0, 0) _ H1.out Try.underlying35 rfl (by kernel_rfl) ?_) | (with_reducible refine isLoadG 35 (.tmp 1) ?_; with_unfolding_all refine wpList_load_row_on rfl 35 (.tmp 1) rfl w.heap.size (by kernel_rfl) 35 (r.cells A c B d) (0, 0) _ H1.out Try.underlying35 rfl (by kernel_rfl) ?_) | (go_at_call 7; refine (enc_ok HR.out HW.out HOK.out).mono ?_; rintro e' w2 ⟨rfl, hb5⟩; have n_H1 := Lib.hid (H1.out.step hb5); have n_HR := Lib.hid (HR.out.below hb5); have n_HK := Lib.hid (bstep HK.out hb5); clear hb5 H1 HR HK; have H1 := n_H1; have HR := n_HR; have HK := n_HK; clear n_H1 n_HR n_HK) | (go_at_call 15; refine (long_ok r HR.out HW.out HOK.out (by omega)).mono ?_; rintro e' w2 ⟨rfl, hb5⟩; have n_H1 := Lib.hid (H1.out.step hb5); have n_HR := Lib.hid (HR.out.below hb5); have n_HK := Lib.hid (bstep HK.out hb5); clear hb5 H1 HR HK; have H1 := n_H1; have HR := n_HR; have HK := n_HK; clear n_H1 n_HR n_HK) | (go_at_call 13; (with_reducible refine (ref_F HR.out).mono ?_); rintro e' w4 ⟨A1, c1, B1, d1, rfl, hf, hb5⟩; have HF1 := Lib.hid hf; clear hf; have n_H1 := Lib.hid (H1.out.step hb5); have n_HR := Lib.hid (HR.out.below hb5); have n_HK := Lib.hid (bstep HK.out hb5); clear hb5 H1 HR HK; have H1 := n_H1; have HR := n_HR; have HK := n_HK; clear n_H1 n_HR n_HK) | (go_at_call 14; refine (may04_F HF1.out hbA hbB).mono ?_; rintro e' w5 ⟨⟨bm, rfl, hbm⟩, hb5⟩; obtain rfl := (show bm = true from hbm.2 HOK.out); have n_H1 := Lib.hid (H1.out.step hb5); have n_HR := Lib.hid (HR.out.below hb5); have n_HK := Lib.hid (bstep HK.out hb5); clear hb5 H1 HR HK; have H1 := n_H1; have HR := n_HR; have HK := n_HK; clear n_H1 n_HR n_HK; clear HF1 hbm) | (go_at_call 8; refine (awake04 _).mono ?_; rintro e' w3 ⟨rfl, hb5⟩; have n_H1 := Lib.hid (H1.out.step hb5); have n_HR := Lib.hid (HR.out.below hb5); have n_HK := Lib.hid (bstep HK.out hb5); clear hb5 H1 HR HK; have H1 := n_H1; have HR := n_HR; have HK := n_HK; clear n_H1 n_HR n_HK) | (go_at_call 16; refine (chk_is HR.out (recE_pos HOK.out)).mono ?_; rintro e' w2 ⟨rfl, hb5⟩; have n_H1 := Lib.hid (H1.out.step hb5); have n_HR := Lib.hid (HR.out.below hb5); have n_HK := Lib.hid (bstep HK.out hb5); clear hb5 H1 HR HK; have H1 := n_H1; have HR := n_HR; have HK := n_HK; clear n_H1 n_HR n_HK) | (go_at_call 9; refine (dec_told (by omega) Hdec.out _).mono ?_; rintro e' wd ⟨A2, c2, B2, d2, rfl, hx, hb5⟩; have HX := Lib.hid hx; clear hx; have n_H1 := Lib.hid (H1.out.step hb5); have n_HR := Lib.hid (HR.out.below hb5); have n_HK := Lib.hid (bstep HK.out hb5); clear hb5 H1 HR HK; have H1 := n_H1; have HR := n_HR; have HK := n_HK; clear n_H1 n_HR n_HK) | (with_reducible refine isStoreN 35 (.tmp 8) (.tmp 68) ?_; with_unfolding_all refine wpList_store_row rfl 35 (.tmp 8) (.tmp 68) rfl wd.heap.size (r.cells A2 c2 B2 d2) (by kernel_rfl) (by kernel_rfl) 35 #[.int .i64 0, .int .i64 0, .int .u64 0, .int .u64 0, .int .u32 0, .int .i64 0, .int .i64 0, .string ⟨#[]⟩, .string ⟨#[]⟩, .int .i64 0, .int .i64 0, .string ⟨#[]⟩, .int .u32 0, .int .i64 0, .bool false, .slice none 0 0, .slice none 0 0] (Blk.new wd 35 #[.int .i64 0, .int .i64 0, .int .u64 0, .int .u64 0, .int .u32 0, .int .i64 0, .int .i64 0, .string ⟨#[]⟩, .string ⟨#[]⟩, .int .i64 0, .int .i64 0, .string ⟨#[]⟩, .int .u32 0, .int .i64 0, .bool false, .slice none 0 0, .slice none 0 0]) (by kernel_rfl) rfl (cells_one _ _ _ _ _) ?_) | (with_reducible refine isGuarded ?_; refine guardOn (by with_unfolding_all rfl) ?_; intro _ _) | (rw [run_neq_bool _ _ _ _ Try.underlying4]))
    have H8 := Lib.hid (blk_setRow (cs' := (r.cells A2 c2 B2 d2)) (Blk.new wd 35 #[.int .i64 0, .int .i64 0, .int .u64 0, .int .u64 0, .int .u32 0, .int .i64 0, .int .i64 0, .string ⟨#[]⟩, .string ⟨#[]⟩, .int .i64 0, .int .i64 0, .string ⟨#[]⟩, .int .u32 0, .int .i64 0, .bool false, .slice none 0 0, .slice none 0 0]))
    have hb5 := setRow_below (balloc (Below.refl wd.heap.size wd) (.cells #[.int .i64 0, .int .i64 0, .int .u64 0, .int .u64 0, .int .u32 0, .int .i64 0, .int .i64 0, .string ⟨#[]⟩, .string ⟨#[]⟩, .int .i64 0, .int .i64 0, .string ⟨#[]⟩, .int .u32 0, .int .i64 0, .bool false, .slice none 0 0, .slice none 0 0] 35)) (Nat.le_refl wd.heap.size) (r.cells A2 c2 B2 d2)
    have n_H1 := Lib.hid (H1.out.step hb5)
    have n_HR := Lib.hid (HR.out.below hb5)
    have n_HK := Lib.hid (bstep HK.out hb5)
    have n_HX := Lib.hid (HX.out.below hb5)
    clear hb5 H1 HR HK HX
    have H1 := n_H1
    have HR := n_HR
    have HK := n_HK
    have HX := n_HX
    clear n_H1 n_HR n_HK n_HX
    generalize ((wd.alloc (.cells #[.int .i64 0, .int .i64 0, .int .u64 0, .int .u64 0, .int .u32 0, .int .i64 0, .int .i64 0, .string ⟨#[]⟩, .string ⟨#[]⟩, .int .i64 0, .int .i64 0, .string ⟨#[]⟩, .int .u32 0, .int .i64 0, .bool false, .slice none 0 0, .slice none 0 0] 35)).setRow wd.heap.size (r.cells A2 c2 B2 d2)) = xg at *
    generalize wd.heap.size = g8 at *
    have k1_ : ((bs (recB r)).toList == (bs (recB r)).toList) = true := by simp
    have k2_ : IntKind.i64.wrap (((recB r).length : Int) + 12) = (((recB r).length : Int) + 12) := by rw [IntKind.wrap_i64]; omega
    go_wp2_with (first | (with_reducible refine isLoadN 35 (.tmp 1) ?_; with_unfolding_all refine wpList_load_row rfl 35 (.tmp 1) rfl w.heap.size (by kernel_rfl) 35 (r.cells A c B d) (0, 0) _ H1.out Try.underlying35 rfl (by kernel_rfl) ?_) | (with_reducible refine isLoadG 35 (.tmp 1) ?_; with_unfolding_all refine wpList_load_row_on rfl 35 (.tmp 1) rfl w.heap.size (by kernel_rfl) 35 (r.cells A c B d) (0, 0) _ H1.out Try.underlying35 rfl (by kernel_rfl) ?_) | (with_reducible refine isLoadG 35 (.tmp 8) ?_; with_unfolding_all refine wpList_load_row_on rfl 35 (.tmp 8) rfl g8 (by kernel_rfl) 35 (r.cells A2 c2 B2 d2) (0, 0) _ H8.out Try.underlying35 rfl (by kernel_rfl) ?_) | (go_at_call 13; (with_reducible refine (ref_F HR.out).mono ?_); rintro e' w4 ⟨A1, c1, B1, d1, rfl, hf, hb5⟩; have HF1 := Lib.hid hf; clear hf; have n_H1 := Lib.hid (H1.out.step hb5); have n_HR := Lib.hid (HR.out.below hb5); have n_HK := Lib.hid (bstep HK.out hb5); have n_HX := Lib.hid (HX.out.below hb5); have n_H8 := Lib.hid (H8.out.step hb5); clear hb5 H1 HR HK HX H8; have H1 := n_H1; have HR := n_HR; have HK := n_HK; have HX := n_HX; have H8 := n_H8; clear n_H1 n_HR n_HK n_HX n_H8) | (go_at_call 13; (with_reducible refine (ref_F HX.out).mono ?_); rintro e' w4 ⟨A1, c1, B1, d1, rfl, hf, hb5⟩; have HF1 := Lib.hid hf; clear hf; have n_H1 := Lib.hid (H1.out.step hb5); have n_HR := Lib.hid (HR.out.below hb5); have n_HK := Lib.hid (bstep HK.out hb5); have n_HX := Lib.hid (HX.out.below hb5); have n_H8 := Lib.hid (H8.out.step hb5); clear hb5 H1 HR HK HX H8; have H1 := n_H1; have HR := n_HR; have HK := n_HK; have HX := n_HX; have H8 := n_H8; clear n_H1 n_HR n_HK n_HX n_H8) | (go_at_call 12; refine (bytes04_F HF1.out HOK.out HW.out).mono ?_; rintro e' w6 ⟨rfl, hb5⟩; have n_H1 := Lib.hid (H1.out.step hb5); have n_HR := Lib.hid (HR.out.below hb5); have n_HK := Lib.hid (bstep HK.out hb5); have n_HX := Lib.hid (HX.out.below hb5); have n_H8 := Lib.hid (H8.out.step hb5); clear hb5 H1 HR HK HX H8; have H1 := n_H1; have HR := n_HR; have HK := n_HK; have HX := n_HX; have H8 := n_H8; clear n_H1 n_HR n_HK n_HX n_H8; clear HF1) | (go_at_call 11; refine (same_R HX.out HR.out rfl).mono ?_; rintro e' w7 ⟨rfl, hb5⟩; have n_H1 := Lib.hid (H1.out.step hb5); have n_HR := Lib.hid (HR.out.below hb5); have n_HK := Lib.hid (bstep HK.out hb5); have n_HX := Lib.hid (HX.out.below hb5); have n_H8 := Lib.hid (H8.out.step hb5); clear hb5 H1 HR HK HX H8; have H1 := n_H1; have HR := n_HR; have HK := n_HK; have HX := n_HX; have H8 := n_H8; clear n_H1 n_HR n_HK n_HX n_H8) | (with_reducible refine isGuarded ?_; refine guardOn (by with_unfolding_all rfl) ?_; intro _ _) | (rw [run_neq_bool _ _ _ _ Try.underlying4]))
    go_ret
    exact ⟨rfl, HK.out⟩
  · have HOK := Lib.hid hok
    clear hok
    have hub_ := Try.underlying4
    go_enter Try.func6, Try.ntmps6
    go_upto_region 1 with fail
    generalize w.alloc (.cells (r.cells A c B d) 35) = w0 at *
    go_wp2_with (first | (with_reducible refine isLoadN 35 (.tmp 1) ?_; with_unfolding_all refine wpList_load_row rfl 35 (.tmp 1) rfl w.heap.size (by kernel_rfl) 35 (r.cells A c B d) (0, 0) _ H1.out Try.underlying35 rfl (by kernel_rfl) ?_) | (with_reducible refine isLoadG 35 (.tmp 1) ?_; with_unfolding_all refine wpList_load_row_on rfl 35 (.tmp 1) rfl w.heap.size (by kernel_rfl) 35 (r.cells A c B d) (0, 0) _ H1.out Try.underlying35 rfl (by kernel_rfl) ?_) | (go_at_call 7; refine (enc_no HR.out HOK.out).mono ?_; rintro e' w2 ⟨rfl, hb5⟩; have n_H1 := Lib.hid (H1.out.step hb5); have n_HR := Lib.hid (HR.out.below hb5); have n_HK := Lib.hid (bstep HK.out hb5); clear hb5 H1 HR HK; have H1 := n_H1; have HR := n_HR; have HK := n_HK; clear n_H1 n_HR n_HK) | (go_at_call 15; refine (long_no r HR.out HOK.out).mono ?_; rintro e' w2 ⟨rfl, hb5⟩; have n_H1 := Lib.hid (H1.out.step hb5); have n_HR := Lib.hid (HR.out.below hb5); have n_HK := Lib.hid (bstep HK.out hb5); clear hb5 H1 HR HK; have H1 := n_H1; have HR := n_HR; have HK := n_HK; clear n_H1 n_HR n_HK) | (go_at_call 13; (with_reducible refine (ref_F HR.out).mono ?_); rintro e' w4 ⟨A1, c1, B1, d1, rfl, hf, hb5⟩; have HF1 := Lib.hid hf; clear hf; have n_H1 := Lib.hid (H1.out.step hb5); have n_HR := Lib.hid (HR.out.below hb5); have n_HK := Lib.hid (bstep HK.out hb5); clear hb5 H1 HR HK; have H1 := n_H1; have HR := n_HR; have HK := n_HK; clear n_H1 n_HR n_HK) | (go_at_call 14; refine (may04_F HF1.out hbA hbB).mono ?_; rintro e' w5 ⟨⟨bm, rfl, hbm⟩, hb5⟩; obtain rfl := (show bm = false from by cases bm <;> first | rfl | exact absurd (hbm.1 rfl) HOK.out); have n_H1 := Lib.hid (H1.out.step hb5); have n_HR := Lib.hid (HR.out.below hb5); have n_HK := Lib.hid (bstep HK.out hb5); clear hb5 H1 HR HK; have H1 := n_H1; have HR := n_HR; have HK := n_HK; clear n_H1 n_HR n_HK; clear HF1 hbm) | (go_at_call 8; refine (awake04 _).mono ?_; rintro e' w3 ⟨rfl, hb5⟩; have n_H1 := Lib.hid (H1.out.step hb5); have n_HR := Lib.hid (HR.out.below hb5); have n_HK := Lib.hid (bstep HK.out hb5); clear hb5 H1 HR HK; have H1 := n_H1; have HR := n_HR; have HK := n_HK; clear n_H1 n_HR n_HK) | (go_at_call 16; refine (chk_is HR.out (recE_neg HOK.out)).mono ?_; rintro e' w2 ⟨rfl, hb5⟩; have n_H1 := Lib.hid (H1.out.step hb5); have n_HR := Lib.hid (HR.out.below hb5); have n_HK := Lib.hid (bstep HK.out hb5); clear hb5 H1 HR HK; have H1 := n_H1; have HR := n_HR; have HK := n_HK; clear n_H1 n_HR n_HK) | (with_reducible refine isGuarded ?_; refine guardOn (by with_unfolding_all rfl) ?_; intro _ _) | (rw [run_neq_bool _ _ _ _ Try.underlying4]))
    go_ret
    exact ⟨rfl, HK.out⟩
end Go.Proofs.Ytebickoieipjpaa
end
section
namespace Go.Proofs.Ytebickoieipjpaa.recCodesRow
open Go.ChangeShapes Go.WideShapes Go.ChangeAt Go.RowKit Go.GiRow Go.Proofs.YtebickoieipjpaaW.PrintWords OpenK
open Go.ChangeMaps (open_string shut_string)
theorem own : ownKnob Try.prog.godebug = none := by kernel_rfl
theorem laid : laidOutB Try.prog = true := by kernel_rfl
set_option maxRecDepth 100000 in
set_option maxHeartbeats 6400000 in
theorem lifted (os : Os) (started : os.Started) (H : Type) (enc : TypeId × Value → H) :
    ReturnsInHanded {} Try.checked os 6 .any (Rows.recCodesSpec.pre6 enc Try.prog Try.f6 Rows.recCodesRow.domain false) (Rows.recCodesSpec.post enc Try.prog Try.f6 false true false false) := by
  refine returnsInHanded_of_change_sized (C := Try.checked) own started (by kernel_rfl) Try.func6
    (ChangeSpec.witness6 (enc := enc) (C := Try.checked) false ⟨#[], #[.agg #[.int .i64 0, .int .i64 0, .int .u64 0, .int .u64 0, .int .u32 0, .int .i64 0, .int .i64 0, .string ByteArray.empty, .string ByteArray.empty, .int .i64 0, .int .i64 0, .string ByteArray.empty, .int .u32 0, .int .i64 0, .bool false, .slice none 0 0, .slice none 0 0]], []⟩ 8 (by kernel_rfl) (by kernel_rfl) (by kernel_rfl) (by kernel_rfl)) ?_
  intro W base args ds gs before hval0 hW _ hsz0 _
  have hsz : (DataW.weightsEach Try.prog (Try.f6.params.toList ++ Rows.recCodesSpec.plain.varTypes Try.prog) (ds ++ gs)).all (· ≤ reachBytes) = true := hsz0
  have hval : ∀ (j : Nat) t v, Try.f6.params[j]? = some t → args[j]? = some v → Value.okWide Try.prog W .any base t v := hval0
  have hW' := hW
  obtain ⟨p, q, hA0, hV, rfl, _, _⟩ := hW
  have hA : DataW.TrodAll enc Try.prog W 0 (fun _ => true) true Try.f6.params.toList args.toList ds p := hA0
  rw [Try.params6] at hA hval hsz
  obtain ⟨v0, vs0, d0, ds0, p0, q0, hargs, rfl, rfl, h0, r0⟩ := trodAll_cons hA
  obtain ⟨rfl, rfl, rfl⟩ := trodAll_nil r0
  obtain rfl : args = #[v0] := by cases args; simp_all
  obtain ⟨rfl, rfl⟩ := trodVars_none hV
  obtain ⟨rr0, A0, c0, B0, e0, rfl, hR0, hw0⟩ := rec_open3 (hval 0 35 v0 rfl rfl) h0 (OpenK.light_each hsz 0 _ _ rfl rfl)
  refine (recCodes_any rr0 hR0 hw0).mono fun e W' ⟨he, bel⟩ => ?_
  subst he
  refine ⟨_, rfl, law_post (tb := 4) laid (by kernel_rfl) rfl Try.underlying4 rfl (fun ds hds => ?_) hW' bel⟩
  match ds, hds with
  | [_], _ => rfl
theorem over : Rows.recCodesRow.holds Try.pinned (OpenSpec.ofChange Rows.recCodesSpec) :=
  OpenClaim.holds_of_wide 6 Try.f6 rfl rfl rfl rfl rfl rfl rfl ⟨rfl, rfl, rfl, rfl, rfl⟩ rfl rfl rfl rfl rfl (by kernel_rfl) Try.func6 (by kernel_rfl)
    (of_decide_eq_true (by kernel_rfl)) (by unfold Func.isWrapper; first | (rw [if_pos (by decide +kernel)]; kernel_rfl) | (rw [if_neg (by decide +kernel)]; exact ⟨rfl, rfl⟩))
    (fun os started H enc _ => lifted os started H enc)
end Go.Proofs.Ytebickoieipjpaa.recCodesRow
namespace Go.Proofs.Ytebickoieipjpaa
/-- The row, under a short name, for the claim. -/
theorem recCodes_holds : Rows.RecCodesSaid := recCodesRow.over
#print axioms recCodes_holds
end Go.Proofs.Ytebickoieipjpaa
end
