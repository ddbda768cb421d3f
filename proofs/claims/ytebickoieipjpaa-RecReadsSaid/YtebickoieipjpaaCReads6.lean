/- Any bytes are read as a record, or refused, as the document has it: for every string; no condition. -/
import Derived.Test.YtebickoieipjpaaCReads5
section
namespace Go.Proofs.Ytebickoieipjpaa
open Go.RowKit Go.Gi Go.GiRow
set_option maxRecDepth 20000
set_option linter.unusedSimpArgs false
set_option linter.unusedVariables false
theorem cellsR {w : World} {g T : Nat} {kind tx prev next page ok oa : Int} {os oo : List UInt8} {undo index : Int} {key : List UInt8} {rpage rslot : Int} {live : Bool} {VA VB : Value}
    (h : Blk w g T #[.int .i64 kind, .int .i64 tx, .int .u64 prev, .int .u64 next, .int .u32 page, .int .i64 ok, .int .i64 oa, .string (bs os), .string (bs oo), .int .i64 undo, .int .i64 index, .string (bs key), .int .u32 rpage, .int .i64 rslot, .bool live, VA, VB]) : w.cell? ⟨g, 0, none⟩ = some (.int .i64 kind) ∧ w.cell? ⟨g, 1, none⟩ = some (.int .i64 tx) ∧ w.cell? ⟨g, 2, none⟩ = some (.int .u64 prev) ∧ w.cell? ⟨g, 3, none⟩ = some (.int .u64 next) ∧ w.cell? ⟨g, 15, none⟩ = some VA ∧ w.cell? ⟨g, 16, none⟩ = some VB :=
  ⟨h.cell 0, h.cell 1, h.cell 2, h.cell 3, h.cell 15, h.cell 16⟩
set_option maxHeartbeats 16000000 in
theorem encode_ok (r : RecR) (A : Option Addr) (c : Nat) (B : Option Addr) (d : Nat) (w : World) (hA : RdRows StR.cells 4 w A r.txs) (hD : RdRows DiR.cells 2 w B r.dirty) (hw : RecW r) (hn : recOk r) :
    Calls Try.prog 7 #[r.val A c B d] w fun e w' => e = .returned (.tuple #[.string (bs (recB r)), .int .i64 0]) ∧ Below w.heap.size w w' := by
  obtain ⟨⟨⟨⟨⟨⟨h1, h2⟩, h3⟩, h4⟩, h5⟩, h6⟩, h7⟩ := id hn
  have g3 := h3
  have g4 := h4
  have hl : r.txs.length ≤ 64 := h6.2.1
  have hd : r.dirty.length ≤ 256 := h6.2.2
  have hc := fun (w' : World) (hb : Below w.heap.size w w') => rcheck_any r A c B d w' (fun k hk => by
    obtain ⟨b, off, e, h1, h2⟩ := hA k hk
    exact ⟨b, off, e, Nat.lt_of_lt_of_le h1 hb.size, fun j u hu => (hb.cell (p := ⟨b, off + k * 4 + j, none⟩) h1).trans (h2 j u hu)⟩) (by omega) (by omega)
  have HC := Lib.hid hc
  have HE := Lib.hid (recE_pos hn)
  have hpc := fun (hch : isChange r.kind) (w' : World) (g : Nat) (ro : Option Nat) (l : List UInt8) (hw' : Wr w' 94 5 w.heap.size g ro l) (hll : l.length ≤ 1000) => putChange_any hw' r A c B d hll hw.page hw.rpage
    (by have := ((okOp_yes hch).1 h3).2; unfold opOk at this; omega) (by have := ((okOp_yes hch).1 h3).2; unfold opOk at this; omega) (by have := ((okOp_yes hch).1 h3).2.1; omega) (by have := ((okOp_yes hch).1 h3).2.2.1; omega) h2
    (by by_cases hu : r.undo = 2
        · have := (okKey_yes hu).1 h4; omega
        · have := (okKey_no hu).1 h4; omega)
    (by by_cases hu : r.undo = 2
        · have := (okKey_yes hu).1 h4; omega
        · have := (okKey_no hu).1 h4; omega)
    (by by_cases hu : r.undo = 2
        · have := (okKey_yes hu).1 h4; omega
        · have := (okKey_no hu).1 h4; omega)
  have HPC := Lib.hid hpc
  have HSt := Lib.hid h7
  obtain ⟨w1, w2, w3, w4, w5, w6⟩ := hw
  obtain ⟨q1, q2, q3, q4⟩ := h1
  have HA := Lib.hid hA
  have HD := Lib.hid hD
  have HWs := Lib.hid w5
  have HWd := Lib.hid w6
  clear hc hpc hA hD hn h2 h3 h4 h5 h6 h7 w5 w6
  unfold recB
  obtain ⟨L1, hL1⟩ : ∃ L, L = headB r := ⟨_, rfl⟩
  obtain ⟨L2, hL2⟩ : ∃ L, L = chB r := ⟨_, rfl⟩
  obtain ⟨L3, hL3⟩ : ∃ L, L = tabB r := ⟨_, rfl⟩
  rw [← hL1, ← hL2, ← hL3]
  rw [← hL2] at HPC
  have HL1 := Lib.hid hL1
  have HL3 := Lib.hid hL3
  have hL1L : L1.length = 13 := by rw [hL1]; simp [headB, putL_length]
  have hL2L : L2.length ≤ 2000 := by
    by_cases hch : isChange r.kind
    · have := ((okOp_yes hch).1 g3).2
      unfold opOk at this
      have hkk : r.key.length ≤ 64 := by
        by_cases hu : r.undo = 2
        · have := (okKey_yes hu).1 g4; omega
        · have := (okKey_no hu).1 g4; omega
      rw [hL2]
      exact chB_len r (by omega) (by omega) hkk
    · have := ((okOp_no hch).1 g3)
      have hkk : r.key.length ≤ 64 := by
        by_cases hu : r.undo = 2
        · have := (okKey_yes hu).1 g4; omega
        · have := (okKey_no hu).1 g4; omega
      rw [hL2]
      exact chB_len r (by omega) (by omega) hkk
  clear hL1 hL2 hL3 g3 g4
  generalize hLL : L1 ++ (if isNext r.kind then putL 8 r.next.toNat else []) ++ (if isChange r.kind then L2 else []) ++ (if r.kind = 8 then L3 else []) = LL
  have HLL0 := Lib.hid hLL
  have HLL := Lib.hid (show L1.length = 13 ∧ L2.length ≤ 2000 from ⟨hL1L, hL2L⟩)
  clear hLL hL1L hL2L
  obtain ⟨kind, tx, prev, next, page, ok, oa, os, oo, undo, index, key, rpage, rslot, live, txs, dirty⟩ := r
  unfold headB at HL1
  unfold tabB at HL3
  unfold RecR.val RecR.cells at HC HPC ⊢
  simp only at HC HPC HE HA HD HSt HWs HWd HL1 HL3 HLL0 w1 w2 w3 w4 q1 q2 q3 q4 hl hd ⊢
  generalize hVA : Value.slice A txs.length c = VA at *
  generalize hVB : Value.slice B dirty.length d = VB at *
  have HVA := Lib.hid hVA
  have HVB := Lib.hid hVB
  clear hVA hVB
  go_enter Try.func7, Try.ntmps7
  go_upto_region 1 with fail
  have hB := Blk.new w 35 #[.int .i64 kind, .int .i64 tx, .int .u64 prev, .int .u64 next, .int .u32 page, .int .i64 ok, .int .i64 oa, .string (bs os), .string (bs oo), .int .i64 undo, .int .i64 index, .string (bs key), .int .u32 rpage, .int .i64 rslot, .bool live, VA, VB]
  have hW := balloc (Below.refl w.heap.size w) (.cells #[.int .i64 kind, .int .i64 tx, .int .u64 prev, .int .u64 next, .int .u32 page, .int .i64 ok, .int .i64 oa, .string (bs os), .string (bs oo), .int .i64 undo, .int .i64 index, .string (bs key), .int .u32 rpage, .int .i64 rslot, .bool live, VA, VB] 35)
  obtain ⟨c0, c1, c2, c3, c15, c16⟩ := cellsR hB
  have HB := Lib.hid hB
  have HK := Lib.hid hW
  clear hB hW
  generalize w.alloc (.cells #[.int .i64 kind, .int .i64 tx, .int .u64 prev, .int .u64 next, .int .u32 page, .int .i64 ok, .int .i64 oa, .string (bs os), .string (bs oo), .int .i64 undo, .int .i64 index, .string (bs key), .int .u32 rpage, .int .i64 rslot, .bool live, VA, VB] 35) = w0 at *
  go_upto_region 9 with (first | (refine wpList_load_row rfl 35 (.tmp 1) rfl w.heap.size rfl 35 #[.int .i64 kind, .int .i64 tx, .int .u64 prev, .int .u64 next, .int .u32 page, .int .i64 ok, .int .i64 oa, .string (bs os), .string (bs oo), .int .i64 undo, .int .i64 index, .string (bs key), .int .u32 rpage, .int .i64 rslot, .bool live, VA, VB] (0, 0) _ HB.out Try.underlying35 rfl (by kernel_rfl) ?_) | (go_at_call 16; refine (HC.out _ HK.out).mono ?_; rintro e w1 ⟨rfl, hb1⟩; clear c0 c1 c2 c3 c15 c16; obtain ⟨c0, c1, c2, c3, c15, c16⟩ := cellsR (HB.out.step hb1); have HB1 := Lib.hid (HB.out.step hb1); have HK1 := Lib.hid (bstep HK.out hb1); clear hb1 HB HK; have HB := HB1; have HK := HK1; clear HB1 HK1; rw [HE.out]) | (go_at_call 17; refine (newWriter_any _ w.heap.size HK.out.size).mono ?_; rintro e w1 ⟨g, rfl, h1, hg, hb1⟩; have HW := Lib.hid h1; clear c0 c1 c2 c3 c15 c16; obtain ⟨c0, c1, c2, c3, c15, c16⟩ := cellsR (HB.out.step hb1); have HB1 := Lib.hid (HB.out.step hb1); have HK1 := Lib.hid (bstep HK.out hb1); clear hb1 h1 hg HB HK; have HB := HB1; have HK := HK1; clear HB1 HK1) | (go_at_call 18; refine (wnumber_any HW.out _ _ (by omega) (by omega) (by have := HLL.out; first | (simp [clamp8, putL_length]; done) | (simp [clamp8, putL_length]; omega))).mono ?_; rintro e w1 ⟨rfl, r1, h1, k1⟩; clear c0 c1 c2 c3 c15 c16; obtain ⟨c0, c1, c2, c3, c15, c16⟩ := cellsR (WK.blk HW.out k1 HB.out (by decide) (by decide)); have HB1 := Lib.hid (WK.blk HW.out k1 HB.out (by decide) (by decide)); have HK1 := Lib.hid (k1.below HK.out HW.out.1 (fun j e => (HW.out.row j e).1)); have HW1 := Lib.hid h1; clear HW HB HK h1 k1; have HW := HW1; have HB := HB1; have HK := HK1; clear HW1 HB1 HK1) | (go_at_call 19; refine (named_any _ _).mono ?_; rintro e w' ⟨⟨ch, nx, tb, rfl, hch, hnx, htb⟩, hw'⟩; obtain rfl := hw'.symm; have Hch := Lib.hid hch; have Hnx := Lib.hid hnx; have Htb := Lib.hid htb; clear hch hnx htb))
  have hw1 := HW.out
  rw [List.nil_append, c8_1, c8_4, c8_8, ← HL1.out] at hw1
  have HW1 := Lib.hid hw1
  clear HW hw1
  have HW := HW1
  clear HW1
  go_upto_if 40 with fail
  go_cut [] from 41 to 44 (fun wx => ∃ rx, Wr wx 94 5 w.heap.size g rx (L1 ++ sel nx (putL 8 next.toNat)) ∧ Blk wx w.heap.size 35 #[.int .i64 kind, .int .i64 tx, .int .u64 prev, .int .u64 next, .int .u32 page, .int .i64 ok, .int .i64 oa, .string (bs os), .string (bs oo), .int .i64 undo, .int .i64 index, .string (bs key), .int .u32 rpage, .int .i64 rslot, .bool live, VA, VB] ∧ Below w.heap.size w wx)
  case first =>
    cases nx
    · go_wp2
      go_meet
      exact ⟨_, by rw [sel_false, List.append_nil]; exact HW.out, HB.out, HK.out⟩
    · go_wp2_with (first | (go_at_call 18; refine (wnumber_any HW.out _ _ (by omega) (by omega) (by have := HLL.out; first | (simp [clamp8, putL_length]; done) | (simp [clamp8, putL_length]; omega))).mono ?_; rintro e w1 ⟨rfl, r1, h1, k1⟩; clear c0 c1 c2 c3 c15 c16; obtain ⟨c0, c1, c2, c3, c15, c16⟩ := cellsR (WK.blk HW.out k1 HB.out (by decide) (by decide)); have HB1 := Lib.hid (WK.blk HW.out k1 HB.out (by decide) (by decide)); have HK1 := Lib.hid (k1.below HK.out HW.out.1 (fun j e => (HW.out.row j e).1)); have HW1 := Lib.hid h1; clear HW HB HK h1 k1; have HW := HW1; have HB := HB1; have HK := HK1; clear HW1 HB1 HK1))
      go_meet
      exact ⟨_, by rw [sel_true, ← c8_8]; exact HW.out, HB.out, HK.out⟩
  case rest =>
  obtain ⟨r2, hw2, hb2, hk2⟩ := hcut
  clear c0 c1 c2 c3 c15 c16
  obtain ⟨c0, c1, c2, c3, c15, c16⟩ := cellsR hb2
  clear HW HB HK
  have HW := Lib.hid hw2
  have HB := Lib.hid hb2
  have HK := Lib.hid hk2
  clear hw2 hb2 hk2
  go_upto_if 45 with fail
  go_cut [] from 46 to 48 (fun wx => ∃ rx, Wr wx 94 5 w.heap.size g rx (L1 ++ sel nx (putL 8 next.toNat) ++ sel ch L2) ∧ Blk wx w.heap.size 35 #[.int .i64 kind, .int .i64 tx, .int .u64 prev, .int .u64 next, .int .u32 page, .int .i64 ok, .int .i64 oa, .string (bs os), .string (bs oo), .int .i64 undo, .int .i64 index, .string (bs key), .int .u32 rpage, .int .i64 rslot, .bool live, VA, VB] ∧ Below w.heap.size w wx)
  case first =>
    cases ch
    · go_wp2
      go_meet
      exact ⟨_, by rw [sel_false, List.append_nil]; exact HW.out, HB.out, HK.out⟩
    · go_wp2_with (first | (refine wpList_load_row rfl 35 (.tmp 1) rfl w.heap.size rfl 35 #[.int .i64 kind, .int .i64 tx, .int .u64 prev, .int .u64 next, .int .u32 page, .int .i64 ok, .int .i64 oa, .string (bs os), .string (bs oo), .int .i64 undo, .int .i64 index, .string (bs key), .int .u32 rpage, .int .i64 rslot, .bool live, VA, VB] (0, 0) _ HB.out Try.underlying35 rfl (by kernel_rfl) ?_) | (go_at_call 20; refine (HPC.out (Hch.out.1 rfl) _ _ _ _ HW.out (by have h1 := HLL.out; have h2 := sel_len nx (putL 8 next.toNat); rw [putL_length] at h2; rw [List.length_append]; omega)).mono ?_; rintro e w1 ⟨rfl, r1, h1, k1⟩; clear c0 c1 c2 c3 c15 c16; obtain ⟨c0, c1, c2, c3, c15, c16⟩ := cellsR (WK.blk HW.out k1 HB.out (by decide) (by decide)); have HB1 := Lib.hid (WK.blk HW.out k1 HB.out (by decide) (by decide)); have HK1 := Lib.hid (k1.below HK.out HW.out.1 (fun j e => (HW.out.row j e).1)); have HW1 := Lib.hid h1; clear HW HB HK h1 k1; have HW := HW1; have HB := HB1; have HK := HK1; clear HW1 HB1 HK1))
      go_meet
      exact ⟨_, HW.out, HB.out, HK.out⟩
  case rest =>
  obtain ⟨r3, hw2, hb2, hk2⟩ := hcut
  clear c0 c1 c2 c3 c15 c16
  obtain ⟨c0, c1, c2, c3, c15, c16⟩ := cellsR hb2
  clear HW HB HK
  have HW := Lib.hid hw2
  have HB := Lib.hid hb2
  have HK := Lib.hid hk2
  clear hw2 hb2 hk2
  have hfin : L1 ++ sel nx (putL 8 next.toNat) ++ sel ch L2 ++ sel tb L3 = LL := by
    rw [sel_eq Hnx.out, sel_eq Hch.out, sel_eq Htb.out, HLL0.out]
  have HFin := Lib.hid hfin
  clear hfin HLL0
  have hlb : (L1 ++ sel nx (putL 8 next.toNat) ++ sel ch L2).length ≤ 2021 := by
    have h1 := HLL.out; have h2 := sel_len nx (putL 8 next.toNat); have h3 := sel_len ch L2
    rw [putL_length] at h2
    simp only [List.length_append]; omega
  generalize L1 ++ sel nx (putL 8 next.toNat) ++ sel ch L2 = L4 at *
  cases tb
  · have e : L4 = LL := by rw [← HFin.out, sel_false, List.append_nil]
    have HE4 := Lib.hid e
    clear e
    go_wp2_with (first | (go_at_call 21; refine (wall_any HW.out).mono ?_; rintro e w1 ⟨rfl, rfl⟩))
    go_returns
    rw [HE4.out]
    exact ⟨rfl, HK.out⟩
  · have eA := HVA.out
    have eB := HVB.out
    subst eA eB
    have hLfin : L4 ++ putL 2 txs.length ++ stsB txs ++ putL 2 dirty.length ++ disB dirty = LL := by
      rw [← HFin.out, sel_true, HL3.out]; simp only [List.append_assoc]
    have HLfin := Lib.hid hLfin
    clear hLfin HFin HL3
    go_wp2_with (first | (go_at_call 18; refine (wnumber_any HW.out _ _ (by omega) (by omega) (by have := HLL.out; first | (simp [clamp8, putL_length]; done) | (simp [clamp8, putL_length]; omega))).mono ?_; rintro e w1 ⟨rfl, r1, h1, k1⟩; clear c0 c1 c2 c3 c15 c16; obtain ⟨c0, c1, c2, c3, c15, c16⟩ := cellsR (WK.blk HW.out k1 HB.out (by decide) (by decide)); have HB1 := Lib.hid (WK.blk HW.out k1 HB.out (by decide) (by decide)); have HK1 := Lib.hid (k1.below HK.out HW.out.1 (fun j e => (HW.out.row j e).1)); have HW1 := Lib.hid h1; clear HW HB HK h1 k1; have HW := HW1; have HB := HB1; have HK := HK1; clear HW1 HB1 HK1))
    have hw1 := HW.out
    rw [c8_2, Int.toNat_natCast] at hw1
    have HW1 := Lib.hid hw1
    clear HW hw1
    have HW := HW1
    clear HW1
    go_loopw [59] (fun i wr => ∃ (k : Nat) (rx : Option Nat), k ≤ txs.length ∧ i = .int .i64 k ∧ Wr wr 94 5 w.heap.size g rx (L4 ++ putL 2 txs.length ++ stsB (txs.take k)) ∧ Blk wr w.heap.size 35 #[.int .i64 kind, .int .i64 tx, .int .u64 prev, .int .u64 next, .int .u32 page, .int .i64 ok, .int .i64 oa, .string (bs os), .string (bs oo), .int .i64 undo, .int .i64 index, .string (bs key), .int .u32 rpage, .int .i64 rslot, .bool live, (.slice A txs.length c), (.slice B dirty.length d)] ∧ Below w.heap.size w wr)
      (fun i _ => txs.length - (intOf i).toNat)
    case atStart => exact ⟨0, r1, Nat.zero_le _, rfl, by simpa [stsB] using HW.out, HB.out, HK.out⟩
    case round =>
      obtain ⟨k, rx, hk, rfl, hwr, hbr, hkr⟩ := hrel
      clear c0 c1 c2 c3 c15 c16 HW HB HK
      have HW := Lib.hid hwr
      have HB := Lib.hid hbr
      have HK := Lib.hid hkr
      clear hwr hbr hkr
      by_cases hlt : k < txs.length
      · have i1 : (k : Int) < txs.length := by omega
        obtain ⟨ab, off, rfl, hab, hc⟩ := HA.out k hlt
        have y0 := (HK.out.cell (p := ⟨ab, off + k * 4, none⟩) hab).trans (hc 0 _ rfl)
        have y1 := (HK.out.cell (p := ⟨ab, off + k * 4 + 1, none⟩) hab).trans (hc 1 _ rfl)
        have y2 := (HK.out.cell (p := ⟨ab, off + k * 4 + 2, none⟩) hab).trans (hc 2 _ rfl)
        have y3 := (HK.out.cell (p := ⟨ab, off + k * 4 + 3, none⟩) hab).trans (hc 3 _ rfl)
        clear hc
        have hT := Lib.hid (stsB_take txs k hlt)
        have hlk : (stsB (txs.take k)).length ≤ 1344 := by rw [stsB_len, List.length_take]; omega
        obtain ⟨p1, p2, p3, p4⟩ := HSt.out _ (List.getElem_mem hlt)
        obtain ⟨⟨p5, p6⟩, p7, p8⟩ := HWs.out _ (List.getElem_mem hlt)
        generalize stsB (txs.take k) = tl at *
        generalize txs[k] = st at *
        obtain ⟨stx, sst, slast, snext⟩ := st
        simp only at y0 y1 y2 y3 p1 p2 p3 p4 p5 p6 p7 p8
        go_upto_region 18 with fail
        have hT1 := Blk.new wr 70 #[.int .i64 stx, .int .i64 sst, .int .u64 slast, .int .u64 snext]
        have hW1 := HW.out.alloc (.cells #[.int .i64 stx, .int .i64 sst, .int .u64 slast, .int .u64 snext] 70)
        have hB1 := HB.out.alloc (.cells #[.int .i64 stx, .int .i64 sst, .int .u64 slast, .int .u64 snext] 70)
        have hK1 := balloc HK.out (.cells #[.int .i64 stx, .int .i64 sst, .int .u64 slast, .int .u64 snext] 70)
        clear y0 y1 y2 y3 HW HB HK
        generalize wr.alloc (.cells #[.int .i64 stx, .int .i64 sst, .int .u64 slast, .int .u64 snext] 70) = w5 at *
        generalize wr.heap.size = b5 at *
        have d0 : w5.cell? ⟨b5, 0, none⟩ = some (.int .i64 stx) := hT1.cell 0
        have d1 : w5.cell? ⟨b5, 1, none⟩ = some (.int .i64 sst) := hT1.cell 1
        have d2 : w5.cell? ⟨b5, 2, none⟩ = some (.int .u64 slast) := hT1.cell 2
        have d3 : w5.cell? ⟨b5, 3, none⟩ = some (.int .u64 snext) := hT1.cell 3
        have HW := Lib.hid hW1
        have HB := Lib.hid hB1
        have HK := Lib.hid hK1
        have HT := Lib.hid hT1
        clear hT1 hW1 hB1 hK1
        go_wp2_with (go_at_call 18; refine (wnumber_any HW.out _ _ (by omega) (by omega) (by simp [clamp8, putL_length]; omega)).mono ?_; rintro e w1 ⟨rfl, r1, h1, k1⟩; have HB1 := Lib.hid (WK.blk HW.out k1 HB.out (by decide) (by decide)); have HT1 := Lib.hid (WK.blk HW.out k1 HT.out (by decide) (by decide)); have HK1 := Lib.hid (k1.below HK.out HW.out.1 (fun j e => (HW.out.row j e).1)); have HW1 := Lib.hid h1; clear HW HB HK HT h1 k1 d0 d1 d2 d3; have HW := HW1; have HB := HB1; have HK := HK1; have HT := HT1; clear HW1 HB1 HK1 HT1; have d0 : w1.cell? ⟨b5, 0, none⟩ = some (.int .i64 stx) := HT.out.cell 0; have d1 : w1.cell? ⟨b5, 1, none⟩ = some (.int .i64 sst) := HT.out.cell 1; have d2 : w1.cell? ⟨b5, 2, none⟩ = some (.int .u64 slast) := HT.out.cell 2; have d3 : w1.cell? ⟨b5, 3, none⟩ = some (.int .u64 snext) := HT.out.cell 3)
        go_roundw
        case rel =>
          refine ⟨k + 1, r1, by omega, by go_num, ?_, HB.out, HK.out⟩
          have := HW.out
          rw [hT.out]
          simp only [stB, c8_1, c8_4, c8_8, List.append_assoc] at this ⊢
          exact this
        case measure => simp [intOf]; omega
      · obtain rfl : k = txs.length := by omega
        rw [List.take_length] at HW
        obtain ⟨c0, c1, c2, c3, c15, c16⟩ := cellsR HB.out
        have hls : (stsB txs).length ≤ 1344 := by rw [stsB_len]; omega
        generalize stsB txs = tl at *
        go_wp2_with (first | (go_at_call 18; refine (wnumber_any HW.out _ _ (by omega) (by omega) (by have := HLL.out; first | (simp [clamp8, putL_length]; done) | (simp [clamp8, putL_length]; omega))).mono ?_; rintro e w1 ⟨rfl, r1, h1, k1⟩; clear c0 c1 c2 c3 c15 c16; obtain ⟨c0, c1, c2, c3, c15, c16⟩ := cellsR (WK.blk HW.out k1 HB.out (by decide) (by decide)); have HB1 := Lib.hid (WK.blk HW.out k1 HB.out (by decide) (by decide)); have HK1 := Lib.hid (k1.below HK.out HW.out.1 (fun j e => (HW.out.row j e).1)); have HW1 := Lib.hid h1; clear HW HB HK h1 k1; have HW := HW1; have HB := HB1; have HK := HK1; clear HW1 HB1 HK1))
        have hw1 := HW.out
        rw [c8_2, Int.toNat_natCast] at hw1
        have HW1 := Lib.hid hw1
        clear HW hw1
        have HW := HW1
        clear HW1
        go_loopw [91] (fun i wr => ∃ (k : Nat) (rx : Option Nat), k ≤ dirty.length ∧ i = .int .i64 k ∧ Wr wr 94 5 w.heap.size g rx (L4 ++ putL 2 txs.length ++ tl ++ putL 2 dirty.length ++ disB (dirty.take k)) ∧ Below w.heap.size w wr)
          (fun i _ => dirty.length - (intOf i).toNat)
        case atStart => exact ⟨0, r1, Nat.zero_le _, rfl, by simpa [disB] using HW.out, HK.out⟩
        case round =>
          obtain ⟨k, rx, hk, rfl, hwr, hkr⟩ := hrel
          clear c0 c1 c2 c3 c15 c16 HW HB HK
          have HW := Lib.hid hwr
          have HK := Lib.hid hkr
          clear hwr hkr
          by_cases hlt : k < dirty.length
          · have i1 : (k : Int) < dirty.length := by omega
            obtain ⟨ab, off, rfl, hab, hc⟩ := HD.out k hlt
            have y0 := (HK.out.cell (p := ⟨ab, off + k * 2, none⟩) hab).trans (hc 0 _ rfl)
            have y1 := (HK.out.cell (p := ⟨ab, off + k * 2 + 1, none⟩) hab).trans (hc 1 _ rfl)
            clear hc
            have hT := Lib.hid (disB_take dirty k hlt)
            have hlk : (disB (dirty.take k)).length ≤ 3072 := by rw [disB_len, List.length_take]; omega
            obtain ⟨⟨p5, p6⟩, p7, p8⟩ := HWd.out _ (List.getElem_mem hlt)
            generalize disB (dirty.take k) = dl at *
            generalize dirty[k] = st at *
            obtain ⟨dpage, dlsn⟩ := st
            simp only at y0 y1 p5 p6 p7 p8
            go_upto_region 27 with fail
            have hT1 := Blk.new wr 72 #[.int .u32 dpage, .int .u64 dlsn]
            have hW1 := HW.out.alloc (.cells #[.int .u32 dpage, .int .u64 dlsn] 72)
            have hK1 := balloc HK.out (.cells #[.int .u32 dpage, .int .u64 dlsn] 72)
            clear y0 y1 HW HK
            generalize wr.alloc (.cells #[.int .u32 dpage, .int .u64 dlsn] 72) = w5 at *
            generalize wr.heap.size = b5 at *
            have d0 : w5.cell? ⟨b5, 0, none⟩ = some (.int .u32 dpage) := hT1.cell 0
            have d1 : w5.cell? ⟨b5, 1, none⟩ = some (.int .u64 dlsn) := hT1.cell 1
            have HW := Lib.hid hW1
            have HK := Lib.hid hK1
            have HT := Lib.hid hT1
            clear hT1 hW1 hK1
            go_wp2_with (go_at_call 18; refine (wnumber_any HW.out _ _ (by omega) (by omega) (by simp [clamp8, putL_length]; omega)).mono ?_; rintro e w1 ⟨rfl, r1, h1, k1⟩; have HT1 := Lib.hid (WK.blk HW.out k1 HT.out (by decide) (by decide)); have HK1 := Lib.hid (k1.below HK.out HW.out.1 (fun j e => (HW.out.row j e).1)); have HW1 := Lib.hid h1; clear HW HK HT h1 k1 d0 d1; have HW := HW1; have HK := HK1; have HT := HT1; clear HW1 HK1 HT1; have d0 : w1.cell? ⟨b5, 0, none⟩ = some (.int .u32 dpage) := HT.out.cell 0; have d1 : w1.cell? ⟨b5, 1, none⟩ = some (.int .u64 dlsn) := HT.out.cell 1)
            go_roundw
            case rel =>
              refine ⟨k + 1, r1, by omega, by go_num, ?_, HK.out⟩
              have := HW.out
              rw [hT.out]
              simp only [diB, c8_1, c8_4, c8_8, List.append_assoc] at this ⊢
              exact this
            case measure => simp [intOf]; omega
          · obtain rfl : k = dirty.length := by omega
            rw [List.take_length, HLfin.out] at HW
            go_wp2_with (first | (go_at_call 21; refine (wall_any HW.out).mono ?_; rintro e w1 ⟨rfl, rfl⟩))
            go_returns
            exact ⟨rfl, HK.out⟩
end Go.Proofs.Ytebickoieipjpaa
end
section
namespace Go.Proofs.Ytebickoieipjpaa
open Go.RowKit Go.Gi Go.GiRow
set_option maxRecDepth 20000
set_option linter.unusedSimpArgs false
set_option linter.unusedVariables false
theorem rdNext_yes {L : List UInt8} {k : Int} {a : Nat} {e : Int} {q : Nat × Nat × Int} (h : rdNext L k a e = q) (hk : isNext k) : rNum L a e 8 = q := by unfold rdNext at h; rwa [if_pos hk] at h
theorem rdNext_no {L : List UInt8} {k : Int} {a : Nat} {e : Int} {v a' : Nat} {e' : Int} (h : rdNext L k a e = (v, a', e')) (hk : ¬ isNext k) : v = 0 ∧ a' = a ∧ e' = e := by
  unfold rdNext at h; rw [if_neg hk] at h; injection h with h1 h2; injection h2 with h2 h3; exact ⟨h1.symm, h2.symm, h3.symm⟩
theorem rdChIf_yes {L : List UInt8} {k : Int} {a : Nat} {e : Int} {q : ChR × Nat × Int} (h : rdChIf L k a e = q) (hk : isChange k) : rdCh L a e = q := by unfold rdChIf at h; rwa [if_pos hk] at h
theorem rdChIf_no {L : List UInt8} {k : Int} {a : Nat} {e : Int} {v : ChR} {a' : Nat} {e' : Int} (h : rdChIf L k a e = (v, a', e')) (hk : ¬ isChange k) : v = zCh ∧ a' = a ∧ e' = e := by
  unfold rdChIf at h; rw [if_neg hk] at h; injection h with h1 h2; injection h2 with h2 h3; exact ⟨h1.symm, h2.symm, h3.symm⟩
theorem rdTabIf_yes {L : List UInt8} {k : Int} {a : Nat} {e : Int} {q : TabR × Nat × Int} (h : rdTabIf L k a e = q) (hk : k = 8) : rdTab L a e = q := by unfold rdTabIf at h; rwa [if_pos hk] at h
theorem rdTabIf_no {L : List UInt8} {k : Int} {a : Nat} {e : Int} {v : TabR} {a' : Nat} {e' : Int} (h : rdTabIf L k a e = (v, a', e')) (hk : ¬ k = 8) : v = ⟨[], []⟩ ∧ a' = a ∧ e' = e := by
  unfold rdTabIf at h; rw [if_neg hk] at h; injection h with h1 h2; injection h2 with h2 h3; exact ⟨h1.symm, h2.symm, h3.symm⟩
theorem infoTS : (Try.prog.info? 70).map (fun i => (i.zero, i.size, i.bytes)) = some (some (.agg #[.int .i64 0, .int .i64 0, .int .u64 0, .int .u64 0]), 4, 32) := by kernel_rfl
theorem infoTD : (Try.prog.info? 72).map (fun i => (i.zero, i.size, i.bytes)) = some (some (.agg #[.int .u32 0, .int .u64 0]), 2, 16) := by kernel_rfl
theorem own_rd {α : Type} {enc : α → List Value} {size : Nat} {w : World} {base TE c : Nat} {A : Option Addr} {l : List α} (henc : ∀ a, (enc a).length = size) (ho : w.ownsRow base TE size (.slice A l.length c) l.length (l.map enc).flatten) : RdRows enc size w A l := by
  obtain ⟨A', c', e, h⟩ := own_rows henc ho
  injection e with e1 e2 e3
  subst e1
  exact fun k hk => by
    obtain ⟨b, off, h1, h2, h3, h4⟩ := h k hk
    exact ⟨b, off, h1, h3, h4⟩
theorem end_st {g : Nat} {L : List UInt8} {a : Nat} {e : Int} {w : World} (h : RS w 99 g L a e) :
    Calls Try.prog 26 #[.pointer (some ⟨g, 0, none⟩)] w fun e' w' => e' = .returned (.int .i64 (rEnd L a e)) ∧ w.grownBy w' (some g) := by
  have := rend_any h.rd h.long (by rw [bs_size]; exact h.at_)
  rw [toList_bs] at this
  exact this.mono fun _ _ ⟨x, y, z⟩ => ⟨x, z⟩
set_option maxHeartbeats 16000000 in
theorem decode_own (L : List UInt8) (w : World) (hL : L.length ≤ 9223372036854775807) :
    Calls Try.prog 9 #[.string (bs L)] w fun e' w' =>
      ((decOk L → ∃ A c B d, e' = .returned (.tuple #[(rdRec L).1.val A c B d, .int .i64 0]) ∧ w'.ownsRow (w.heap.size + 1) 70 4 (.slice A (rdRec L).1.txs.length c) (rdRec L).1.txs.length ((rdRec L).1.txs.map StR.cells).flatten ∧ w'.ownsRow (w.heap.size + 1) 72 2 (.slice B (rdRec L).1.dirty.length d) (rdRec L).1.dirty.length ((rdRec L).1.dirty.map DiR.cells).flatten)
        ∧ (¬ decOk L → e' = .returned (.tuple #[.agg #[.int .i64 0, .int .i64 0, .int .u64 0, .int .u64 0, .int .u32 0, .int .i64 0, .int .i64 0, .string (bs []), .string (bs []), .int .i64 0, .int .i64 0, .string (bs []), .int .u32 0, .int .i64 0, .bool false, .slice none 0 0, .slice none 0 0], .int .i64 40]))) ∧ Below w.heap.size w w' := by
  have hlong : (bs L).size ≤ maxLen := by rw [bs_size]; unfold maxLen; omega
  obtain ⟨v1, a1, e1, h1⟩ : ∃ v a' e', rNum L 0 0 1 = (v, a', e') := ⟨_, _, _, rfl⟩
  obtain ⟨v2, a2, e2, h2⟩ : ∃ v a' e', rNum L a1 e1 4 = (v, a', e') := ⟨_, _, _, rfl⟩
  obtain ⟨v3, a3, e3, h3⟩ : ∃ v a' e', rNum L a2 e2 8 = (v, a', e') := ⟨_, _, _, rfl⟩
  obtain ⟨v4, a4, e4, h4⟩ : ∃ v a' e', rdNext L v1 a3 e3 = (v, a', e') := ⟨_, _, _, rfl⟩
  obtain ⟨c5, a5, e5, h5⟩ : ∃ v a' e', rdChIf L v1 a4 e4 = (v, a', e') := ⟨_, _, _, rfl⟩
  obtain ⟨t6, a6, e6, h6⟩ : ∃ v a' e', rdTabIf L v1 a5 e5 = (v, a', e') := ⟨_, _, _, rfl⟩
  have hrec : rdRec L = (mkRec v1 v2 v3 v4 c5 t6, a6, e6) := by simp only [rdRec, h1, h2, h3, h4, h5, h6]
  have hb1 : v1 < 256 := by have := rNum_lt L 0 0 1; rw [show ((1 : Nat) : Int) = (1 : Int) from rfl, h1] at this; simpa using this
  have hb2 : v2 < 4294967296 := by have := rNum_lt L a1 e1 4; rw [show ((4 : Nat) : Int) = (4 : Int) from rfl, h2] at this; simpa using this
  have hb3 : v3 < 18446744073709551616 := by have := rNum_lt L a2 e2 8; rw [show ((8 : Nat) : Int) = (8 : Int) from rfl, h3] at this; simpa using this
  unfold decOk
  rw [hrec]
  simp only
  obtain ⟨RR, hRR⟩ : ∃ RR, RR = mkRec v1 v2 v3 v4 c5 t6 := ⟨_, rfl⟩
  rw [← hRR]
  obtain ⟨E, hE⟩ : ∃ E, rEnd L a6 e6 = E := ⟨_, rfl⟩
  rw [hE]
  generalize hPOST : (fun (e' : Ending) (w' : World) => ((E = 0 ∧ recOk RR → ∃ A c B d, e' = Ending.returned (.tuple #[RR.val A c B d, .int .i64 0]) ∧ w'.ownsRow (w.heap.size + 1) 70 4 (.slice A RR.txs.length c) RR.txs.length (RR.txs.map StR.cells).flatten ∧ w'.ownsRow (w.heap.size + 1) 72 2 (.slice B RR.dirty.length d) RR.dirty.length (RR.dirty.map DiR.cells).flatten) ∧ (¬ (E = 0 ∧ recOk RR) → e' = Ending.returned (.tuple #[.agg #[.int .i64 0, .int .i64 0, .int .u64 0, .int .u64 0, .int .u32 0, .int .i64 0, .int .i64 0, .string (bs []), .string (bs []), .int .i64 0, .int .i64 0, .string (bs []), .int .u32 0, .int .i64 0, .bool false, .slice none 0 0, .slice none 0 0], .int .i64 40]))) ∧ Below w.heap.size w w') = POST
  have HPOST := Lib.hid hPOST
  have H1 := Lib.hid h1
  have H2 := Lib.hid h2
  have H3 := Lib.hid h3
  have H4 := Lib.hid h4
  have H5 := Lib.hid h5
  have H6 := Lib.hid h6
  have HE := Lib.hid hE
  have HRR := Lib.hid hRR
  have Hlong := Lib.hid hlong
  clear h1 h2 h3 h4 h5 h6 hrec hRR hE hlong hL hPOST
  go_enter Try.func9, Try.ntmps9
  go_upto_region 1 with fail
  have hZ : Blk (w.alloc (.cells #[.int .i64 0, .int .i64 0, .int .u64 0, .int .u64 0, .int .u32 0, .int .i64 0, .int .i64 0, .string ⟨#[]⟩, .string ⟨#[]⟩, .int .i64 0, .int .i64 0, .string ⟨#[]⟩, .int .u32 0, .int .i64 0, .bool false, .slice none 0 0, .slice none 0 0] 35)) w.heap.size 35 #[.int .i64 0, .int .i64 0, .int .u64 0, .int .u64 0, .int .u32 0, .int .i64 0, .int .i64 0, .string (bs []), .string (bs []), .int .i64 0, .int .i64 0, .string (bs []), .int .u32 0, .int .i64 0, .bool false, .slice none 0 0, .slice none 0 0] := Blk.new w 35 #[.int .i64 0, .int .i64 0, .int .u64 0, .int .u64 0, .int .u32 0, .int .i64 0, .int .i64 0, .string ⟨#[]⟩, .string ⟨#[]⟩, .int .i64 0, .int .i64 0, .string ⟨#[]⟩, .int .u32 0, .int .i64 0, .bool false, .slice none 0 0, .slice none 0 0]
  have hK := balloc (Below.refl w.heap.size w) (.cells #[.int .i64 0, .int .i64 0, .int .u64 0, .int .u64 0, .int .u32 0, .int .i64 0, .int .i64 0, .string ⟨#[]⟩, .string ⟨#[]⟩, .int .i64 0, .int .i64 0, .string ⟨#[]⟩, .int .u32 0, .int .i64 0, .bool false, .slice none 0 0, .slice none 0 0] 35)
  have hsz : (w.alloc (.cells #[.int .i64 0, .int .i64 0, .int .u64 0, .int .u64 0, .int .u32 0, .int .i64 0, .int .i64 0, .string ⟨#[]⟩, .string ⟨#[]⟩, .int .i64 0, .int .i64 0, .string ⟨#[]⟩, .int .u32 0, .int .i64 0, .bool false, .slice none 0 0, .slice none 0 0] 35)).heap.size = w.heap.size + 1 := by simp
  generalize w.alloc (.cells #[.int .i64 0, .int .i64 0, .int .u64 0, .int .u64 0, .int .u32 0, .int .i64 0, .int .i64 0, .string ⟨#[]⟩, .string ⟨#[]⟩, .int .i64 0, .int .i64 0, .string ⟨#[]⟩, .int .u32 0, .int .i64 0, .bool false, .slice none 0 0, .slice none 0 0] 35) = w0 at *
  have HK0 := Lib.hid hK
  have HZ := Lib.hid hZ
  have Hsz := Lib.hid hsz
  clear hK hZ hsz
  generalize hrb : w.heap.size = rb at *
  have Hrb := Lib.hid hrb
  clear hrb
  go_upto_region 2 with (go_at_call 22; refine (newReader_any _ _).mono ?_; rintro e' W1 ⟨g, rfl, hr1, hg, hb1⟩; have HR := Lib.hid (show RS W1 99 g L 0 0 from ⟨hr1, Nat.zero_le _, Hlong.out⟩); have Hbg := Lib.hid (show rb + 1 ≤ g by rw [hg, Hsz.out]; exact Nat.le_refl _); have HZ1 := Lib.hid (HZ.out.step hb1); have HB0 := Lib.hid (HK0.out.trans (hb1.mono (by rw [Hsz.out]; omega))); clear hr1 hg hb1 HK0 HZ; have HZ := HZ1; clear HZ1)
  have HgZ := Lib.hid (show rb ≠ g by have := Hbg.out; omega)
  have HK := Lib.hid (show Below (rb + 1) W1 W1 from ⟨rfl, rfl, rfl, Nat.le_refl _, fun _ _ => rfl⟩)
  have HL1 := Lib.hid (show rb + 1 ≤ W1.heap.size from Nat.le_trans Hbg.out (Nat.le_of_lt HR.out.rd.lt))
  go_cut [5] from 13 to 21 (fun s5 wx => ∃ b, s5 = .pointer (some ⟨b, 0, none⟩) ∧ RS wx 99 g L a3 e3 ∧ Blk wx b 35 #[.int .i64 v1, .int .i64 v2, .int .u64 v3, .int .u64 0, .int .u32 0, .int .i64 0, .int .i64 0, .string (bs []), .string (bs []), .int .i64 0, .int .i64 0, .string (bs []), .int .u32 0, .int .i64 0, .bool false, .slice none 0 0, .slice none 0 0] ∧ Below (rb + 1) W1 wx ∧ rb + 1 ≤ b ∧ b ≠ g)
  case first =>
    go_wp2_with (first | (go_at_call 23; refine (num_st HR.out _ _ _ _ (by first | exact H1.out | exact H2.out | exact H3.out)).mono ?_; rintro e2 w1 ⟨rfl, hr1, hg1⟩; have HK1 := Lib.hid (bgrownB HK.out hg1 HL1.out Hbg.out); have HR1 := Lib.hid hr1; clear HR HK hr1 hg1; have HR := HR1; have HK := HK1; clear HR1 HK1) | (refine wpList_store_row rfl 35 (.tmp 5) (.tmp 21) rfl _ _ rfl rfl 35 _ (Blk.new _ _ _) rfl (by kernel_rfl) (by decide) ?_))
    go_meet
    exact ⟨_, rfl, HR.out.step (balloc (Below.refl _ _) _), Blk.new _ _ _, HK.out.alloc (Nat.le_trans HL1.out HK.out.size) _, Nat.le_trans HL1.out HK.out.size, Nat.ne_of_gt HR.out.rd.lt⟩
  case rest =>
  obtain ⟨b, rfl, hr2, hb2, hk2, hbb, hne⟩ := hcut
  clear HR HK
  have HR := Lib.hid hr2
  have HB := Lib.hid hb2
  have HK := Lib.hid hk2
  have Hbb := Lib.hid hbb
  have Hne := Lib.hid hne
  have c0 : wc.cell? ⟨b, 0, none⟩ = some (.int .i64 v1) := hb2.cell 0
  have f3 := hb2.frozen 3
  have c3 : wc.cell? ⟨b, 3, none⟩ = some (.int .u64 0) := hb2.cell 3
  clear hr2 hb2 hk2 hbb hne
  go_upto_if 29 with (go_at_call 19; refine (named_any _ _).mono ?_; rintro e' w' ⟨⟨ch, nx, tb, rfl, hch, hnx, htb⟩, hw'⟩; obtain rfl := hw'.symm; have Hch := Lib.hid hch; have Hnx := Lib.hid hnx; have Htb := Lib.hid htb; clear hch hnx htb)
  go_cut [] from 30 to 32 (fun wx => RS wx 99 g L a4 e4 ∧ Blk wx b 35 #[.int .i64 v1, .int .i64 v2, .int .u64 v3, .int .u64 v4, .int .u32 0, .int .i64 0, .int .i64 0, .string (bs []), .string (bs []), .int .i64 0, .int .i64 0, .string (bs []), .int .u32 0, .int .i64 0, .bool false, .slice none 0 0, .slice none 0 0] ∧ Below (rb + 1) W1 wx)
  case first =>
    cases nx
    · obtain ⟨z1, z2, z3⟩ := rdNext_no H4.out (Hnx.out.not rfl)
      subst z1 z2 z3
      go_wp2
      go_meet
      exact ⟨HR.out, HB.out, HK.out⟩
    · have H4' := Lib.hid (rdNext_yes H4.out (Hnx.out.1 rfl))
      go_wp2_with (first | (go_at_call 23; refine (num_st HR.out _ _ _ _ H4'.out).mono ?_; rintro e2 w1 ⟨rfl, hr1, hg1⟩; have HK1 := Lib.hid (bgrownB HK.out hg1 HL1.out Hbg.out); have HB1 := Lib.hid (HB.out.grown hg1 (by simp [Hne.out])); have HR1 := Lib.hid hr1; clear HR HK HB hr1 hg1 c0 f3 c3; have HR := HR1; have HK := HK1; have HB := HB1; clear HR1 HK1 HB1; have f3 := HB.out.frozen 3; have c3 : w1.cell? ⟨b, 3, none⟩ = some (.int .u64 0) := HB.out.cell 3))
      go_meet
      exact ⟨RS.far HR.out Hne.out, HB.out.set_ 3 (.int .u64 v4), bsetB HK.out Hbb.out _⟩
  case rest =>
  obtain ⟨hr2, hb2, hk2⟩ := hcut
  clear HR HK HB c0 f3 c3
  have HR := Lib.hid hr2
  have HB := Lib.hid hb2
  have HK := Lib.hid hk2
  clear hr2 hb2 hk2
  go_upto_if 33 with fail
  go_cut [] from 34 to 35 (fun wx => RS wx 99 g L a5 e5 ∧ Blk wx b 35 #[.int .i64 v1, .int .i64 v2, .int .u64 v3, .int .u64 v4, .int .u32 c5.page, .int .i64 c5.ok, .int .i64 c5.oa, .string (bs c5.os), .string (bs c5.oo), .int .i64 c5.undo, .int .i64 c5.index, .string (bs c5.key), .int .u32 c5.rpage, .int .i64 c5.rslot, .bool c5.live, .slice none 0 0, .slice none 0 0] ∧ Below (rb + 1) W1 wx)
  case first =>
    cases ch
    · obtain ⟨z1, z2, z3⟩ := rdChIf_no H5.out (Hch.out.not rfl)
      subst z1 z2 z3
      go_wp2
      go_meet
      exact ⟨HR.out, HB.out, HK.out⟩
    · have H5' := Lib.hid (rdChIf_yes H5.out (Hch.out.1 rfl))
      go_wp2_with (first | (go_at_call 24; refine (takeChange_any HR.out HB.out Hne.out (Nat.le_trans HL1.out HK.out.size) Hbg.out Hbb.out).mono ?_; rintro e2 w1 ⟨rfl, hr1, hb1, hk1⟩; rw [H5'.out] at hr1 hb1; have HK1 := Lib.hid (HK.out.trans hk1); have HB1 := Lib.hid hb1; have HR1 := Lib.hid hr1; clear HR HK HB hr1 hb1 hk1; have HR := HR1; have HK := HK1; have HB := HB1; clear HR1 HK1 HB1))
      go_meet
      exact ⟨HR.out, HB.out, HK.out⟩
  case rest =>
  obtain ⟨hr2, hb2, hk2⟩ := hcut
  clear HR HK HB
  have HR := Lib.hid hr2
  have HB := Lib.hid hb2
  have HK := Lib.hid hk2
  clear hr2 hb2 hk2
  go_upto_if 36 with fail
  go_cut [9, 10] from 37 to 87 (fun s9 s10 wx => ∃ vT vD, RS wx 99 g L a6 e6 ∧ Blk wx b 35 #[.int .i64 v1, .int .i64 v2, .int .u64 v3, .int .u64 v4, .int .u32 c5.page, .int .i64 c5.ok, .int .i64 c5.oa, .string (bs c5.os), .string (bs c5.oo), .int .i64 c5.undo, .int .i64 c5.index, .string (bs c5.key), .int .u32 c5.rpage, .int .i64 c5.rslot, .bool c5.live, vT, vD] ∧ wx.ownsRow (rb + 1) 70 4 vT t6.txs.length (t6.txs.map StR.cells).flatten ∧ wx.ownsRow (rb + 1) 72 2 vD t6.dirty.length (t6.dirty.map DiR.cells).flatten ∧ Below (rb + 1) W1 wx)
  case first =>
    cases tb
    · obtain ⟨z1, z2, z3⟩ := rdTabIf_no H6.out (Htb.out.not rfl)
      subst z1 z2 z3
      go_wp2
      go_meet
      exact ⟨_, _, HR.out, HB.out, World.ownsRow_nil _ _ _ _, World.ownsRow_nil _ _ _ _, HK.out⟩
    · have H6' := Lib.hid (rdTabIf_yes H6.out (Htb.out.1 rfl))
      obtain ⟨n1, b1, g1, j1⟩ : ∃ v a' e', rNum L a5 e5 2 = (v, a', e') := ⟨_, _, _, rfl⟩
      obtain ⟨ts, b2, g2, j2⟩ : ∃ v a' e', rdMany (rdSt L) n1 [] b1 g1 = (v, a', e') := ⟨_, _, _, rfl⟩
      obtain ⟨n3, b3, g3, j3⟩ : ∃ v a' e', rNum L b2 g2 2 = (v, a', e') := ⟨_, _, _, rfl⟩
      obtain ⟨ds, b4, g4, j4⟩ : ∃ v a' e', rdMany (rdDi L) n3 [] b3 g3 = (v, a', e') := ⟨_, _, _, rfl⟩
      have hn1 : n1 < 65536 := by have := rNum_lt L a5 e5 2; rw [show ((2 : Nat) : Int) = (2 : Int) from rfl, j1] at this; simpa using this
      have hn3 : n3 < 65536 := by have := rNum_lt L b2 g2 2; rw [show ((2 : Nat) : Int) = (2 : Int) from rfl, j3] at this; simpa using this
      have hq : rdTab L a5 e5 = (⟨ts, ds⟩, b4, g4) := by simp only [rdTab, j1, j2, j3, j4]
      rw [H6'.out] at hq
      injection hq with hq1 hq2
      injection hq2 with hq2 hq3
      subst hq1 hq2 hq3
      have J1 := Lib.hid j1
      have J2 := Lib.hid j2
      have J3 := Lib.hid j3
      have J4 := Lib.hid j4
      clear j1 j2 j3 j4
      obtain ⟨i0, hi, hz0, hz1, hz2⟩ := info_parts infoTS
      obtain ⟨i1, hi1, hy0, hy1, hy2⟩ := info_parts infoTD
      have I0 := Lib.hid hi
      have I1 := Lib.hid hi1
      clear hi hi1
      go_wp2_with (first | (go_at_call 23; refine (num_st HR.out _ _ _ _ J1.out).mono ?_; rintro e2 w2 ⟨rfl, hr1, hg1⟩; have HK1 := Lib.hid (bgrownB HK.out hg1 HL1.out Hbg.out); have HB1 := Lib.hid (HB.out.grown hg1 (by simp [Hne.out])); have HR1 := Lib.hid hr1; clear HR HK HB hr1 hg1; have HR := HR1; have HK := HK1; have HB := HB1; clear HR1 HK1 HB1))
      go_loopw [9] (fun s9 wr => ∃ (k : Nat) (acc : List StR) (a : Nat) (e : Int) (vT : Value), s9 = .int .i64 k ∧ rdMany (rdSt L) k acc a e = (ts, b2, g2) ∧ acc.length + k ≤ 65535 ∧ RS wr 99 g L a e ∧ Blk wr b 35 #[.int .i64 v1, .int .i64 v2, .int .u64 v3, .int .u64 v4, .int .u32 c5.page, .int .i64 c5.ok, .int .i64 c5.oa, .string (bs c5.os), .string (bs c5.oo), .int .i64 c5.undo, .int .i64 c5.index, .string (bs c5.key), .int .u32 c5.rpage, .int .i64 c5.rslot, .bool c5.live, vT, .slice none 0 0] ∧ wr.ownsRow (rb + 1) 70 4 vT acc.length (acc.map StR.cells).flatten ∧ Below (rb + 1) W1 wr)
        (fun s9 _ => (intOf s9).toNat)
      case atStart => exact ⟨n1, [], _, _, _, rfl, J2.out, by simp; omega, HR.out, HB.out, World.ownsRow_nil _ _ _ _, HK.out⟩
      case round =>
        obtain ⟨k, acc, a, e, vT, rfl, hm, hlen, hr1, hb1, ht1, hk1⟩ := hrel
        clear HR HK HB
        have HR := Lib.hid hr1
        have HB := Lib.hid hb1
        have HK := Lib.hid hk1
        have HT := Lib.hid ht1
        have HM := Lib.hid hm
        clear hr1 hb1 hk1 ht1 hm
        by_cases hgo : 0 < k ∧ e = 0
        · obtain ⟨hk0, rfl⟩ := hgo
          obtain ⟨k', rfl⟩ : ∃ k', k = k' + 1 := ⟨k - 1, by omega⟩
          have hk2 : (0 : Int) < ((k' + 1 : Nat) : Int) := by omega
          obtain ⟨x1, p1, q1, s1⟩ : ∃ v a' e', rNum L a 0 4 = (v, a', e') := ⟨_, _, _, rfl⟩
          obtain ⟨x2, p2, q2, s2⟩ : ∃ v a' e', rNum L p1 q1 1 = (v, a', e') := ⟨_, _, _, rfl⟩
          obtain ⟨x3, p3, q3, s3⟩ : ∃ v a' e', rNum L p2 q2 8 = (v, a', e') := ⟨_, _, _, rfl⟩
          obtain ⟨x4, p4, q4, s4⟩ : ∃ v a' e', rNum L p3 q3 8 = (v, a', e') := ⟨_, _, _, rfl⟩
          have hx1 : x1 < 4294967296 := by have := rNum_lt L a 0 4; rw [show ((4 : Nat) : Int) = (4 : Int) from rfl, s1] at this; simpa using this
          have hx2 : x2 < 256 := by have := rNum_lt L p1 q1 1; rw [show ((1 : Nat) : Int) = (1 : Int) from rfl, s2] at this; simpa using this
          have HF := Lib.hid (rdMany_go HM.out (show rdSt L a 0 = (⟨x1, x2, x3, x4⟩, p4, q4) by simp only [rdSt, s1, s2, s3, s4]))
          have S1 := Lib.hid s1
          have S2 := Lib.hid s2
          have S3 := Lib.hid s3
          have S4 := Lib.hid s4
          clear s1 s2 s3 s4 HM
          have hwx1 : IntKind.i64.wrap (x1 : Int) = x1 := IntWalk.i64_in _ (by omega)
          have hwx2 : IntKind.i64.wrap (x2 : Int) = x2 := IntWalk.i64_in _ (by omega)
          have c15 : wr.cell? ⟨b, 15, none⟩ = some vT := HB.out.cell 15
          have f15 := HB.out.frozen 15
          have hbz := HB.out.lt
          go_wp2_with (go_at_call 25; refine (err_any HR.out.rd).mono ?_; rintro e2 w2 ⟨rfl, rfl⟩)
          go_region_law ((first | (go_simp; go_at_call 23; refine (num_st (by exact ⟨HR.out.rd, HR.out.at_, HR.out.long⟩) _ _ _ _ (by first | exact S1.out | exact S2.out | exact S3.out | exact S4.out)).mono ?_; rintro e2 w3 ⟨rfl, hr1, hg0⟩; have hg1 := grown_of HB.out hg0 rfl rfl rfl rfl; have HK1 := Lib.hid (bgrownB HK.out hg1 HL1.out Hbg.out); have HB1 := Lib.hid (HB.out.grown hg1 (by simp [Hne.out])); have HT1 := Lib.hid (own_grown HT.out hg1 HR.out.rd (by decide)); have HR1 := Lib.hid hr1; clear HR HK HB HT hr1 hg0 hg1 c15 f15 hbz; have HR := HR1; have HK := HK1; have HB := HB1; have HT := HT1; clear HR1 HK1 HB1 HT1; have c15 : w3.cell? ⟨b, 15, none⟩ = some vT := HB.out.cell 15; have f15 := HB.out.frozen 15; have hbz := HB.out.lt) | (refine step_append_own rfl _ _ 32 rfl (rb + 1) 70 i0 _ 4 32 Try.underlying32 I0.out hz0 hz1 hz2 rfl (by decide) _ acc.length _ rfl (own_below HT.out (by repeat (first | (with_reducible exact Below.refl _ _) | (with_reducible apply balloc) | (with_reducible apply bdrew) | (with_reducible apply bdrewN)))) _ 1 _ [.int .i64 x1, .int .i64 x2, .int .u64 x3, .int .u64 x4] rfl rfl (cells_new _ _ _) (by simp [Value.oneCell']) (by unfold maxLen; omega) (by omega) (by have h1 := HL1.out; have h2 := HK.out.size; simp; omega) ?_; intro v' w5 hown' hgrow _; obtain ⟨A5, m5, rfl⟩ := own_slice hown'; have HB2 := Lib.hid (Blk.grown (HB.out.step (by repeat (first | (with_reducible exact Below.refl _ _) | (with_reducible apply balloc) | (with_reducible apply bdrew) | (with_reducible apply bdrewN)))) hgrow (fun e => own_ne_blk HT.out HB.out (by decide) e.symm)); have HR2 := Lib.hid (show RS w5 99 g L _ _ from ⟨Rd.grown (HR.out.rd.step (by repeat (first | (with_reducible exact Below.refl _ _) | (with_reducible apply balloc) | (with_reducible apply bdrew) | (with_reducible apply bdrewN)))) hgrow (fun e => own_ne_blk HT.out HR.out.rd (by decide) e.symm), HR.out.at_, HR.out.long⟩); have HK2 := Lib.hid ((HK.out.trans ((show Below _ _ _ from (by repeat (first | (with_reducible exact Below.refl _ _) | (with_reducible apply balloc) | (with_reducible apply bdrew) | (with_reducible apply bdrewN)))).mono (Nat.le_trans HL1.out HK.out.size))).grown hgrow (by have h1 := HL1.out; have h2 := HK.out.size; simp; omega) (fun k hk => (HT.out.lt k hk).1)); have HT2 := Lib.hid hown'; clear HR HK HB HT hown' hgrow c15 f15 hbz; have HR := HR2; have HK := HK2; have HB := HB2; have HT := HT2; clear HR2 HK2 HB2 HT2; have c15 : w5.cell? ⟨b, 15, none⟩ = some vT := HB.out.cell 15; have f15 := HB.out.frozen 15; have hbz := HB.out.lt)))
          all_goals
            go_wp2
            go_roundw
            case rel => exact ⟨k', acc ++ [⟨x1, x2, x3, x4⟩], p4, q4, _, rfl, HF.out, by simp; omega, RS.far HR.out Hne.out, HB.out.set_ 15 _, by have := own_set (b := b) (o := 15) (u := .slice A5 (acc.length + 1) m5) HT.out HB.out (by decide); rw [List.length_append, flat_snoc]; exact this, bsetB HK.out Hbb.out _⟩
            case measure => simp [intOf]
        · obtain ⟨rfl, rfl, rfl⟩ := rdMany_stop HM.out hgo
          have hex : k = 0 ∨ (0 < k ∧ ¬ g2 = 0) := by
            rcases Nat.eq_zero_or_pos k with h | h
            · exact .inl h
            · exact .inr ⟨h, fun he => hgo ⟨h, he⟩⟩
          clear hgo HM
          rcases hex with rfl | ⟨hk0, he0⟩
          all_goals
            try (have hk1 : (0 : Int) < (k : Int) := by omega)
            try (have heb : (g2 == 0) = false := by simp [he0])
            go_wp2_with (first | (go_at_call 25; refine (err_any HR.out.rd).mono ?_; rintro e2 w2 ⟨rfl, rfl⟩) | (go_at_call 23; refine (num_st HR.out _ _ _ _ J3.out).mono ?_; rintro e2 w2 ⟨rfl, hr1, hg1⟩; have HK1 := Lib.hid (bgrownB HK.out hg1 HL1.out Hbg.out); have HB1 := Lib.hid (HB.out.grown hg1 (by simp [Hne.out])); have HT1 := Lib.hid (own_grown HT.out hg1 HR.out.rd (by decide)); have HR1 := Lib.hid hr1; clear HR HK HB HT hr1 hg1; have HR := HR1; have HK := HK1; have HB := HB1; have HT := HT1; clear HR1 HK1 HB1 HT1))
            try clear hk1
            try clear heb
            clear hlen
            go_loopw [10] (fun s10 wr => ∃ (k : Nat) (dacc : List DiR) (a : Nat) (e : Int) (vD : Value), s10 = .int .i64 k ∧ rdMany (rdDi L) k dacc a e = (ds, a6, e6) ∧ dacc.length + k ≤ 65535 ∧ RS wr 99 g L a e ∧ Blk wr b 35 #[.int .i64 v1, .int .i64 v2, .int .u64 v3, .int .u64 v4, .int .u32 c5.page, .int .i64 c5.ok, .int .i64 c5.oa, .string (bs c5.os), .string (bs c5.oo), .int .i64 c5.undo, .int .i64 c5.index, .string (bs c5.key), .int .u32 c5.rpage, .int .i64 c5.rslot, .bool c5.live, vT, vD] ∧ wr.ownsRow (rb + 1) 70 4 vT ts.length (ts.map StR.cells).flatten ∧ wr.ownsRow (rb + 1) 72 2 vD dacc.length (dacc.map DiR.cells).flatten ∧ Below (rb + 1) W1 wr)
              (fun s10 _ => (intOf s10).toNat)
            case atStart => exact ⟨n3, [], _, _, _, rfl, J4.out, by simp; omega, HR.out, HB.out, HT.out, World.ownsRow_nil _ _ _ _, HK.out⟩
            case round =>
              obtain ⟨k, dacc, a, e, vD, rfl, hm, hlen, hr1, hb1, ht1, hd1, hk1⟩ := hrel
              clear HR HK HB HT
              have HR := Lib.hid hr1
              have HB := Lib.hid hb1
              have HK := Lib.hid hk1
              have HT := Lib.hid ht1
              have HD := Lib.hid hd1
              have HM := Lib.hid hm
              clear hr1 hb1 hk1 ht1 hd1 hm
              by_cases hgo : 0 < k ∧ e = 0
              · obtain ⟨hk0, rfl⟩ := hgo
                obtain ⟨k', rfl⟩ : ∃ k', k = k' + 1 := ⟨k - 1, by omega⟩
                have hk2 : (0 : Int) < ((k' + 1 : Nat) : Int) := by omega
                obtain ⟨x1, p1, q1, s1⟩ : ∃ v a' e', rNum L a 0 4 = (v, a', e') := ⟨_, _, _, rfl⟩
                obtain ⟨x2, p2, q2, s2⟩ : ∃ v a' e', rNum L p1 q1 8 = (v, a', e') := ⟨_, _, _, rfl⟩
                have hx1 : x1 < 4294967296 := by have := rNum_lt L a 0 4; rw [show ((4 : Nat) : Int) = (4 : Int) from rfl, s1] at this; simpa using this
                have HF := Lib.hid (rdMany_go HM.out (show rdDi L a 0 = (⟨x1, x2⟩, p2, q2) by simp only [rdDi, s1, s2]))
                have S1 := Lib.hid s1
                have S2 := Lib.hid s2
                clear s1 s2 HM
                have hwx1 : IntKind.u32.wrap (x1 : Int) = x1 := by rw [IntKind.wrap_u32]; omega
                have c16 : wr.cell? ⟨b, 16, none⟩ = some vD := HB.out.cell 16
                have f16 := HB.out.frozen 16
                have hbz := HB.out.lt
                go_wp2_with (go_at_call 25; refine (err_any HR.out.rd).mono ?_; rintro e2 w2 ⟨rfl, rfl⟩)
                go_region_law ((first | (go_simp; go_at_call 23; refine (num_st (by exact ⟨HR.out.rd, HR.out.at_, HR.out.long⟩) _ _ _ _ (by first | exact S1.out | exact S2.out)).mono ?_; rintro e2 w3 ⟨rfl, hr1, hg0⟩; have hg1 := grown_of HB.out hg0 rfl rfl rfl rfl; have HK1 := Lib.hid (bgrownB HK.out hg1 HL1.out Hbg.out); have HB1 := Lib.hid (HB.out.grown hg1 (by simp [Hne.out])); have HT1 := Lib.hid (own_grown HT.out hg1 HR.out.rd (by decide)); have HD1 := Lib.hid (own_grown HD.out hg1 HR.out.rd (by decide)); have HR1 := Lib.hid hr1; clear HR HK HB HT HD hr1 hg0 hg1 c16 f16 hbz; have HR := HR1; have HK := HK1; have HB := HB1; have HT := HT1; have HD := HD1; clear HR1 HK1 HB1 HT1 HD1; have c16 : w3.cell? ⟨b, 16, none⟩ = some vD := HB.out.cell 16; have f16 := HB.out.frozen 16; have hbz := HB.out.lt) | (refine step_append_own rfl _ _ 33 rfl (rb + 1) 72 i1 _ 2 16 Try.underlying33 I1.out hy0 hy1 hy2 rfl (by decide) _ dacc.length _ rfl (own_below HD.out (by repeat (first | (with_reducible exact Below.refl _ _) | (with_reducible apply balloc) | (with_reducible apply bdrew) | (with_reducible apply bdrewN)))) _ 1 _ [.int .u32 x1, .int .u64 x2] rfl rfl (cells_new _ _ _) (by simp [Value.oneCell']) (by unfold maxLen; omega) (by omega) (by have h1 := HL1.out; have h2 := HK.out.size; simp; omega) ?_; intro v' w5 hown' hgrow _; obtain ⟨A5, m5, rfl⟩ := own_slice hown'; have HB2 := Lib.hid (Blk.grown (HB.out.step (by repeat (first | (with_reducible exact Below.refl _ _) | (with_reducible apply balloc) | (with_reducible apply bdrew) | (with_reducible apply bdrewN)))) hgrow (fun e => own_ne_blk HD.out HB.out (by decide) e.symm)); have HR2 := Lib.hid (show RS w5 99 g L _ _ from ⟨Rd.grown (HR.out.rd.step (by repeat (first | (with_reducible exact Below.refl _ _) | (with_reducible apply balloc) | (with_reducible apply bdrew) | (with_reducible apply bdrewN)))) hgrow (fun e => own_ne_blk HD.out HR.out.rd (by decide) e.symm), HR.out.at_, HR.out.long⟩); have HK2 := Lib.hid ((HK.out.trans ((show Below _ _ _ from (by repeat (first | (with_reducible exact Below.refl _ _) | (with_reducible apply balloc) | (with_reducible apply bdrew) | (with_reducible apply bdrewN)))).mono (Nat.le_trans HL1.out HK.out.size))).grown hgrow (by have h1 := HL1.out; have h2 := HK.out.size; simp; omega) (fun k hk => (HD.out.lt k hk).1)); have HT2 := Lib.hid ((own_below HT.out (by repeat (first | (with_reducible exact Below.refl _ _) | (with_reducible apply balloc) | (with_reducible apply bdrew) | (with_reducible apply bdrewN)))).kept hgrow (own_ne_own HT.out HD.out (by decide))); have HD2 := Lib.hid hown'; clear HR HK HB HT HD hown' hgrow c16 f16 hbz; have HR := HR2; have HK := HK2; have HB := HB2; have HT := HT2; have HD := HD2; clear HR2 HK2 HB2 HT2 HD2; have c16 : w5.cell? ⟨b, 16, none⟩ = some vD := HB.out.cell 16; have f16 := HB.out.frozen 16)))
                all_goals
                  go_wp2
                  go_roundw
                  case rel => exact ⟨k', dacc ++ [⟨x1, x2⟩], p2, q2, _, rfl, HF.out, by simp; omega, RS.far HR.out Hne.out, HB.out.set_ 16 _, own_set HT.out HB.out (by decide), by have := own_set (b := b) (o := 16) (u := .slice A5 (dacc.length + 1) m5) HD.out HB.out (by decide); rw [List.length_append, flat_snoc]; exact this, bsetB HK.out Hbb.out _⟩
                  case measure => simp [intOf]
              · have hex : k = 0 ∨ (0 < k ∧ ¬ e = 0) := by
                  rcases Nat.eq_zero_or_pos k with h | h
                  · exact .inl h
                  · exact .inr ⟨h, fun he => hgo ⟨h, he⟩⟩
                obtain ⟨rfl, rfl, rfl⟩ := rdMany_stop HM.out hgo
                clear hgo HM
                rcases hex with rfl | ⟨hk0, he0⟩
                · go_wp2_with (go_at_call 25; refine (err_any HR.out.rd).mono ?_; rintro e2 w2 ⟨rfl, rfl⟩)
                  go_meet
                  exact ⟨vT, vD, HR.out, HB.out, HT.out, HD.out, HK.out⟩
                · have hk1 : (0 : Int) < (k : Int) := by omega
                  have heb := beq_eq_false_iff_ne.2 he0
                  go_wp2_with (go_at_call 25; refine (err_any HR.out.rd).mono ?_; rintro e2 w2 ⟨rfl, rfl⟩)
                  go_meet
                  exact ⟨vT, vD, HR.out, HB.out, HT.out, HD.out, HK.out⟩
  case rest =>
  obtain ⟨vT, vD, hr2, hb2, ht2, hd2, hk2⟩ := hcut
  clear HR HK HB
  have HR := Lib.hid hr2
  have HB := Lib.hid hb2
  have HK := Lib.hid hk2
  have HT := Lib.hid ht2
  have HD := Lib.hid hd2
  clear hr2 hb2 ht2 hd2 hk2
  have hzz : Blk wc rb 35 #[.int .i64 0, .int .i64 0, .int .u64 0, .int .u64 0, .int .u32 0, .int .i64 0, .int .i64 0, .string (bs []), .string (bs []), .int .i64 0, .int .i64 0, .string (bs []), .int .u32 0, .int .i64 0, .bool false, .slice none 0 0, .slice none 0 0] := HZ.out.below HK.out (Nat.lt_succ_self rb)
  have HZ6 := Lib.hid hzz
  have HBW := Lib.hid (show Below rb w wc from HB0.out.trans (HK.out.mono (Nat.le_succ rb)))
  clear hzz
  have hlen := tab_len H6.out
  obtain ⟨A, c, rfl, hrA⟩ := own_rows (enc := StR.cells) (fun _ => rfl) HT.out
  obtain ⟨B, d, rfl, hrB⟩ := own_rows (enc := DiR.cells) (fun _ => rfl) HD.out
  have hRA : RdRows StR.cells 4 wc A t6.txs := fun k hk => by
    obtain ⟨b, off, h1, h2, h3, h4⟩ := hrA k hk
    exact ⟨b, off, h1, h3, h4⟩
  have hRB : RdRows DiR.cells 2 wc B t6.dirty := fun k hk => by
    obtain ⟨b, off, h1, h2, h3, h4⟩ := hrB k hk
    exact ⟨b, off, h1, h3, h4⟩
  have hAb : ∀ k, k < t6.txs.length → ∃ b off, A = some ⟨b, off, none⟩ ∧ rb + 1 ≤ b := fun k hk => by
    obtain ⟨b, off, h1, h2, _⟩ := hrA k hk
    exact ⟨b, off, h1, h2⟩
  have HRA := Lib.hid hRA
  have HRB := Lib.hid hRB
  have hck := fun (w' : World) (hA : RdRows StR.cells 4 w' A t6.txs) => rcheck_any RR A c B d w' (by rw [HRR.out]; exact hA) (by rw [HRR.out]; show t6.txs.length ≤ _; omega) (by rw [HRR.out]; show t6.dirty.length ≤ _; omega)
  have hval : RR.val A c B d = .agg #[.int .i64 v1, .int .i64 v2, .int .u64 v3, .int .u64 v4, .int .u32 c5.page, .int .i64 c5.ok, .int .i64 c5.oa, .string (bs c5.os), .string (bs c5.oo), .int .i64 c5.undo, .int .i64 c5.index, .string (bs c5.key), .int .u32 c5.rpage, .int .i64 c5.rslot, .bool c5.live, .slice A t6.txs.length c, .slice B t6.dirty.length d] := by rw [HRR.out]; rfl
  rw [hval] at hck
  have HV := Lib.hid hval
  have HCK := Lib.hid hck
  have hend := end_st HR.out
  rw [HE.out] at hend
  have HEnd := Lib.hid hend
  clear hrA hrB hRA hRB hck hval hend hlen hAb
  by_cases hE0 : E = 0
  · subst hE0
    by_cases hok : recOk RR
    · have HOK := Lib.hid (recE_pos hok)
      have HOk := Lib.hid hok
      clear hok
      go_wp2_with (first | (go_at_call 26; refine HEnd.out.mono ?_; rintro e2 w1 ⟨rfl, hg1⟩; have HB1 := Lib.hid (HB.out.grown hg1 (by simp [Hne.out])); have HZ1 := Lib.hid (HZ6.out.grown hg1 (by simp [HgZ.out])); have HT1 := Lib.hid (own_grown HT.out hg1 HR.out.rd (by decide)); have HD1 := Lib.hid (own_grown HD.out hg1 HR.out.rd (by decide)); have HW1 := Lib.hid (bgrownB HBW.out hg1 (Nat.le_of_eq Hrb.out.symm) (Nat.le_trans (Nat.le_succ rb) Hbg.out)); clear hg1) | (refine wpList_load_row_on rfl 35 (.tmp 5) rfl b rfl 35 _ (0, 0) _ HB1.out Try.underlying35 rfl (by kernel_rfl) ?_) | (go_at_call 16; refine (HCK.out _ (own_rd (fun _ => rfl) HT1.out)).mono ?_; rintro e2 w2 ⟨rfl, hb2⟩; rw [HOK.out]; have HB2 := Lib.hid (HB1.out.step hb2); have HZ2 := Lib.hid (HZ1.out.step hb2); have HT2 := Lib.hid (own_below HT1.out hb2); have HD2 := Lib.hid (own_below HD1.out hb2); have HW2 := Lib.hid (HW1.out.trans (hb2.mono (Nat.le_of_lt HZ1.out.lt))); clear hb2) | (refine wpList_load_row rfl 35 (.tmp 5) rfl b rfl 35 _ (0, 0) _ HB2.out Try.underlying35 rfl (by kernel_rfl) ?_) | (refine wpList_store_row rfl 35 (.tmp 2) (.tmp 97) rfl rb _ rfl rfl 35 _ HZ2.out (by kernel_rfl) rfl (by simp [Value.oneCell']) ?_))
      try simp only [Act.put, List.setIfInBounds_toArray, List.set_cons_succ, List.set_cons_zero]
      refine bodyPost_ret (v := .tuple #[.agg #[.int .i64 v1, .int .i64 v2, .int .u64 v3, .int .u64 v4, .int .u32 c5.page, .int .i64 c5.ok, .int .i64 c5.oa, .string (bs c5.os), .string (bs c5.oo), .int .i64 c5.undo, .int .i64 c5.index, .string (bs c5.key), .int .u32 c5.rpage, .int .i64 c5.rslot, .bool c5.live, .slice A t6.txs.length c, .slice B t6.dirty.length d], .int .i64 0]) (results_ct (fn := Try.f9) (p := 2) (q := 3) (ty := 35) rfl _ _ rb 35 _ (0, 0) _ rfl (blk_setRow HZ2.out) Try.underlying35 rfl (by kernel_rfl)) rfl ?_
      rw [← HPOST.out]
      refine ⟨⟨fun _ => ⟨A, c, B, d, by rw [HV.out], by rw [HRR.out]; exact (own_setRow HT2.out HZ2.out (by decide)), by rw [HRR.out]; exact (own_setRow HD2.out HZ2.out (by decide))⟩, fun h => absurd ⟨?_, HOk.out⟩ h⟩, setRow_below HW2.out (Nat.le_refl _) _⟩
      first | exact trivial | rfl
    · have HOK := Lib.hid (recE_neg hok)
      have HOk := Lib.hid hok
      clear hok
      go_wp2_with (first | (go_at_call 26; refine HEnd.out.mono ?_; rintro e2 w1 ⟨rfl, hg1⟩; have HB1 := Lib.hid (HB.out.grown hg1 (by simp [Hne.out])); have HZ1 := Lib.hid (HZ6.out.grown hg1 (by simp [HgZ.out])); have HT1 := Lib.hid (own_grown HT.out hg1 HR.out.rd (by decide)); have HD1 := Lib.hid (own_grown HD.out hg1 HR.out.rd (by decide)); have HW1 := Lib.hid (bgrownB HBW.out hg1 (Nat.le_of_eq Hrb.out.symm) (Nat.le_trans (Nat.le_succ rb) Hbg.out)); clear hg1) | (refine wpList_load_row_on rfl 35 (.tmp 5) rfl b rfl 35 _ (0, 0) _ HB1.out Try.underlying35 rfl (by kernel_rfl) ?_) | (go_at_call 16; refine (HCK.out _ (own_rd (fun _ => rfl) HT1.out)).mono ?_; rintro e2 w2 ⟨rfl, hb2⟩; rw [HOK.out]; have HB2 := Lib.hid (HB1.out.step hb2); have HZ2 := Lib.hid (HZ1.out.step hb2); have HT2 := Lib.hid (own_below HT1.out hb2); have HD2 := Lib.hid (own_below HD1.out hb2); have HW2 := Lib.hid (HW1.out.trans (hb2.mono (Nat.le_of_lt HZ1.out.lt))); clear hb2) | (refine wpList_store_row rfl 35 (.tmp 2) (.tmp 96) rfl rb _ rfl rfl 35 _ HZ2.out (by kernel_rfl) rfl (by simp [Value.oneCell']) ?_))
      try simp only [Act.put, List.setIfInBounds_toArray, List.set_cons_succ, List.set_cons_zero]
      refine bodyPost_ret (v := .tuple #[.agg #[.int .i64 0, .int .i64 0, .int .u64 0, .int .u64 0, .int .u32 0, .int .i64 0, .int .i64 0, .string (bs []), .string (bs []), .int .i64 0, .int .i64 0, .string (bs []), .int .u32 0, .int .i64 0, .bool false, .slice none 0 0, .slice none 0 0], .int .i64 40]) (results_ct (fn := Try.f9) (p := 2) (q := 3) (ty := 35) rfl _ _ rb 35 _ (0, 0) _ rfl (blk_setRow HZ2.out) Try.underlying35 rfl (by kernel_rfl)) rfl ?_
      rw [← HPOST.out]
      exact ⟨⟨fun h => absurd h.2 HOk.out, fun _ => rfl⟩, setRow_below HW2.out (Nat.le_refl _) _⟩
  · have hEb : (E != 0) = true := by simp [hE0]
    have HE0 := Lib.hid hE0
    clear hE0
    go_wp2_with (first | (go_at_call 26; refine HEnd.out.mono ?_; rintro e2 w1 ⟨rfl, hg1⟩; have HB1 := Lib.hid (HB.out.grown hg1 (by simp [Hne.out])); have HZ1 := Lib.hid (HZ6.out.grown hg1 (by simp [HgZ.out])); have HT1 := Lib.hid (own_grown HT.out hg1 HR.out.rd (by decide)); have HD1 := Lib.hid (own_grown HD.out hg1 HR.out.rd (by decide)); have HW1 := Lib.hid (bgrownB HBW.out hg1 (Nat.le_of_eq Hrb.out.symm) (Nat.le_trans (Nat.le_succ rb) Hbg.out)); clear hg1) | (refine wpList_store_row rfl 35 (.tmp 2) (.tmp 96) rfl rb _ rfl rfl 35 _ HZ1.out (by kernel_rfl) rfl (by simp [Value.oneCell']) ?_))
    try simp only [Act.put, List.setIfInBounds_toArray, List.set_cons_succ, List.set_cons_zero]
    refine bodyPost_ret (v := .tuple #[.agg #[.int .i64 0, .int .i64 0, .int .u64 0, .int .u64 0, .int .u32 0, .int .i64 0, .int .i64 0, .string (bs []), .string (bs []), .int .i64 0, .int .i64 0, .string (bs []), .int .u32 0, .int .i64 0, .bool false, .slice none 0 0, .slice none 0 0], .int .i64 40]) (results_ct (fn := Try.f9) (p := 2) (q := 3) (ty := 35) rfl _ _ rb 35 _ (0, 0) _ rfl (blk_setRow HZ1.out) Try.underlying35 rfl (by kernel_rfl)) rfl ?_
    rw [← HPOST.out]
    exact ⟨⟨fun h => absurd h.1 HE0.out, fun _ => rfl⟩, setRow_below HW1.out (Nat.le_refl _) _⟩
theorem decode_any (L : List UInt8) (w : World) (hL : L.length ≤ 9223372036854775807) :
    Calls Try.prog 9 #[.string (bs L)] w fun e' w' =>
      ((decOk L → ∃ A c B d, e' = .returned (.tuple #[(rdRec L).1.val A c B d, .int .i64 0]) ∧ RdRows StR.cells 4 w' A (rdRec L).1.txs ∧ RdRows DiR.cells 2 w' B (rdRec L).1.dirty)
        ∧ (¬ decOk L → e' = .returned (.tuple #[.agg #[.int .i64 0, .int .i64 0, .int .u64 0, .int .u64 0, .int .u32 0, .int .i64 0, .int .i64 0, .string (bs []), .string (bs []), .int .i64 0, .int .i64 0, .string (bs []), .int .u32 0, .int .i64 0, .bool false, .slice none 0 0, .slice none 0 0], .int .i64 40]))) ∧ Below w.heap.size w w' :=
  (decode_own L w hL).mono fun e w' ⟨⟨h1, h2⟩, h3⟩ => ⟨⟨fun h => by
    obtain ⟨A, c, B, d, e, hA, hB⟩ := h1 h
    exact ⟨A, c, B, d, e, own_rd (fun _ => rfl) hA, own_rd (fun _ => rfl) hB⟩, h2⟩, h3⟩
end Go.Proofs.Ytebickoieipjpaa
end
section
namespace Go.Proofs.Ytebickoieipjpaa
open Go.RowKit Go.Gi Go.GiRow Go.Proofs.YtebickoieipjpaaW.PrintWords Go.Proofs.YtebickoieipjpaaW.PrintLast Go.Proofs.YtebickoieipjpaaW.PrintMore PRr
set_option maxRecDepth 20000
set_option linter.unusedSimpArgs false
set_option linter.unusedVariables false
theorem C_of_rd {α β : Type} {k : Kd β} {of : α → β} {cells : α → List Value} {n : Nat} (hsz : k.sz = n) (hlen : ∀ a, (cells a).length = n) {w : World} (hK : ∀ a, k.K w (of a) (cells a)) {A : Option Addr} {l : List α} (h : RdRows cells n w A l) (hl : l.length ≤ 9223372036854775807) : Kd.C k w A l.length (l.map of) := by
  refine ⟨List.length_map _, hl, fun h0 => ?_⟩
  obtain ⟨b, off, rfl, _, _⟩ := h 0 h0
  refine ⟨_, rfl, fun j p hp => ?_⟩
  obtain ⟨hj, e⟩ := List.getElem?_eq_some_iff.1 hp
  rw [List.length_map] at hj
  rw [List.getElem_map] at e
  obtain ⟨b2, off2, e2, _, hc⟩ := h j hj
  injection e2 with e2
  injection e2 with e3 e4 _
  subst e3 e4 e
  refine ⟨cells l[j], by rw [hlen, hsz], hK _, fun i u hu => ?_⟩
  rw [hsz, show (⟨b, off, none⟩ : Addr).add (j * n + i) = ⟨b, off + j * n + i, none⟩ by unfold Addr.add; split <;> simp_all [Nat.add_assoc]]
  exact hc i u hu
theorem own_cap {w : World} {base T size n c m : Nat} {A : Option Addr} {xs : List Value} (h : w.ownsRow base T size (.slice A n c) m xs) : n ≤ c := by
  rcases h.2 with ⟨e, _⟩ | ⟨g, cap, cur, e, _, _, hn, _⟩
  · injection e with _ e2 e3
    omega
  · injection e with _ e2 e3
    subst e2 e3
    exact hn
structure RowsF (w : World) (r : RecR) (A : Option Addr) (c : Nat) (B : Option Addr) (d : Nat) : Prop where
  hA : Kd.C k56 w A r.txs.length (r.txs.map sSt)
  hc : r.txs.length ≤ c
  hB : Kd.C k58 w B r.dirty.length (r.dirty.map sDi)
  hd : r.dirty.length ≤ d
theorem RowsF.below {w w' : World} {r : RecR} {A : Option Addr} {c : Nat} {B : Option Addr} {d : Nat} (h : RowsF w r A c B d) (hb : Below w.heap.size w w') : RowsF w' r A c B d := ⟨Kd.C_below h.hA hb, h.hc, Kd.C_below h.hB hb, h.hd⟩
theorem own_F {w : World} {r : RecR} {b1 b2 : Nat} {vT vD : Value} (hT : w.ownsRow b1 56 4 vT r.txs.length (r.txs.map StR.cells).flatten) (hD : w.ownsRow b2 58 2 vD r.dirty.length (r.dirty.map DiR.cells).flatten)
    (h1 : r.txs.length ≤ 9223372036854775807) (h2 : r.dirty.length ≤ 9223372036854775807) : ∃ A c B d, vT = .slice A r.txs.length c ∧ vD = .slice B r.dirty.length d ∧ RowsF w r A c B d := by
  obtain ⟨A, c, rfl, _⟩ := own_rows (enc := StR.cells) (fun _ => rfl) hT
  obtain ⟨B, d, rfl, _⟩ := own_rows (enc := DiR.cells) (fun _ => rfl) hD
  exact ⟨A, c, B, d, rfl, rfl, C_of_rd (k := k56) (of := sSt) rfl (fun _ => rfl) (fun a => k56_mk w (sSt a)) (own_rd (fun _ => rfl) hT) h1, own_cap hT, C_of_rd (k := k58) (of := sDi) rfl (fun _ => rfl) (fun a => k58_mk w (sDi a)) (own_rd (fun _ => rfl) hD) h2, own_cap hD⟩
theorem own_R {w : World} {r : RecR} {b1 b2 : Nat} {A B : Option Addr} {c d : Nat} (hT : w.ownsRow b1 70 4 (.slice A r.txs.length c) r.txs.length (r.txs.map StR.cells).flatten) (hD : w.ownsRow b2 72 2 (.slice B r.dirty.length d) r.dirty.length (r.dirty.map DiR.cells).flatten)
    (h1 : r.txs.length * 32 ≤ 140737488351232) (h2 : r.dirty.length * 16 ≤ 140737488351232) : RowsR w r A c B d :=
  ⟨C_of_rd (k := PRs.k70) (of := ofSt) rfl (fun _ => rfl) (fun a => PRs.k70_mk w (ofSt a)) (own_rd (fun _ => rfl) hT) (by omega), own_cap hT, C_of_rd (k := PRs.k72) (of := ofDi) rfl (fun _ => rfl) (fun a => PRs.k72_mk w (ofDi a)) (own_rd (fun _ => rfl) hD) (by omega), own_cap hD, h1, h2⟩
theorem recOk_len {r : RecR} (h : recOk r) : r.txs.length ≤ 64 ∧ r.dirty.length ≤ 256 := by
  obtain ⟨⟨_, h6⟩, _⟩ := h
  exact h6.2
theorem ref_F {r : RecR} {A : Option Addr} {c : Nat} {B : Option Addr} {d : Nat} {w : World} (h : RowsR w r A c B d) :
    Calls Try.prog 13 #[.agg (r.cells A c B d)] w fun e w' => ∃ A1 c1 B1 d1, e = .returned (.agg (rfs r (.slice A1 r.txs.length c1) (.slice B1 r.dirty.length d1))) ∧ RowsF w' r A1 c1 B1 d1 ∧ Below w.heap.size w w' := by
  have hA := h.bA
  have hB := h.bB
  refine (ref_any r A c B d w h.rdA h.rdB hA hB).mono ?_
  rintro e w' ⟨⟨vT, vD, rfl, h1, h2⟩, hb⟩
  obtain ⟨A1, c1, B1, d1, rfl, rfl, hF⟩ := own_F h1 h2 (by omega) (by omega)
  exact ⟨A1, c1, B1, d1, rfl, hF, hb⟩
theorem may04_F {r : RecR} {A : Option Addr} {c : Nat} {B : Option Addr} {d : Nat} {w : World} (h : RowsF w r A c B d) (hl : r.txs.length * 32 ≤ 140737488351232) (hd : r.dirty.length * 16 ≤ 140737488351232) :
    Calls Try.prog 14 #[.agg (rfs r (.slice A r.txs.length c) (.slice B r.dirty.length d))] w fun e w' => (∃ b, e = .returned (.bool b) ∧ (b = true ↔ recOk r)) ∧ Below w.heap.size w w' :=
  may04_any r A c B d w (rd_of_C (k := k56) (of := sSt) rfl (by decide) (fun _ _ _ h => k56_open h) (fun _ => rfl) h.hA) hl hd
theorem bytes04_F {r : RecR} {A : Option Addr} {c : Nat} {B : Option Addr} {d : Nat} {w : World} (h : RowsF w r A c B d) (hr : recOk r) (hw : RecW r) :
    Calls Try.prog 12 #[.agg (rfs r (.slice A r.txs.length c) (.slice B r.dirty.length d))] w fun e w' => e = .returned (.string (bs (recB r))) ∧ Below w.heap.size w w' := bytes04_C h.hA h.hc h.hB h.hd hr hw
theorem rdec_yes (L : List UInt8) (hL : L.length ≤ 9223372036854775807) (h : decOk L) (w : World) :
    Calls Try.prog 10 #[.string (bs L)] w fun e w' => ∃ A c B d, e = .returned (.tuple #[.agg (rfs (rdRec L).1 (.slice A (rdRec L).1.txs.length c) (.slice B (rdRec L).1.dirty.length d)), .bool true]) ∧ RowsF w' (rdRec L).1 A c B d ∧ Below w.heap.size w w' := by
  refine (rdec04_any L hL w).mono ?_
  rintro e w' ⟨⟨h1, _⟩, hb⟩
  obtain ⟨A, c, B, d, e1, hA, hc, hB, hd⟩ := h1 ((rfOk_iff L).2 h)
  rw [rfOk_rec h] at e1 hA hc hB hd
  exact ⟨A, c, B, d, e1, ⟨hA, hc, hB, hd⟩, hb⟩
theorem rdec_no (L : List UInt8) (hL : L.length ≤ 9223372036854775807) (h : ¬ decOk L) (w : World) :
    Calls Try.prog 10 #[.string (bs L)] w fun e w' => e = .returned (.tuple #[.agg #[.int .i64 0, .int .i64 0, .int .u64 0, .int .u64 0, .int .u32 0, .int .i64 0, .int .i64 0, .string ⟨#[]⟩, .string ⟨#[]⟩, .int .i64 0, .int .i64 0, .string ⟨#[]⟩, .int .u32 0, .int .i64 0, .bool false, .slice none 0 0, .slice none 0 0], .bool false]) ∧ Below w.heap.size w w' :=
  (rdec04_any L hL w).mono fun e w' ⟨⟨_, h2⟩, hb⟩ => ⟨h2 (fun h3 => h ((rfOk_iff L).1 h3)), hb⟩
theorem dec_yes (L : List UInt8) (hL : L.length ≤ 9223372036854775807) (h : decOk L) (w : World) :
    Calls Try.prog 9 #[.string (bs L)] w fun e w' => ∃ A c B d, e = .returned (.tuple #[.agg ((rdRec L).1.cells A c B d), .int .i64 0]) ∧ RowsR w' (rdRec L).1 A c B d ∧ Below w.heap.size w w' := by
  refine (decode_own L w hL).mono ?_
  rintro e w' ⟨⟨h1, _⟩, hb⟩
  obtain ⟨A, c, B, d, e1, hA, hB⟩ := h1 h
  have hl := recOk_len h.2
  exact ⟨A, c, B, d, e1, own_R hA hB (by omega) (by omega), hb⟩
def zR : RecR := mkRec 0 0 0 0 zCh ⟨[], []⟩
theorem dec_no (L : List UInt8) (hL : L.length ≤ 9223372036854775807) (h : ¬ decOk L) (w : World) :
    Calls Try.prog 9 #[.string (bs L)] w fun e w' => e = .returned (.tuple #[.agg (zR.cells none 0 none 0), .int .i64 40]) ∧ Below w.heap.size w w' :=
  (decode_own L w hL).mono fun e w' ⟨⟨_, h2⟩, hb⟩ => ⟨h2 h, hb⟩
theorem zR_rows (w : World) : RowsR w zR none 0 none 0 :=
  ⟨⟨rfl, by decide, fun h => absurd h (by decide)⟩, Nat.le_refl _, ⟨rfl, by decide, fun h => absurd h (by decide)⟩, Nat.le_refl _, by decide, by decide⟩
theorem same_R {r s : RecR} {A : Option Addr} {c : Nat} {B : Option Addr} {d : Nat} {A' : Option Addr} {c' : Nat} {B' : Option Addr} {d' : Nat} {w : World} (hr : RowsR w r A c B d) (hs : RowsR w s A' c' B' d') (e0 : r = s) :
    Calls Try.prog 11 #[.agg (r.cells A c B d), .agg (s.cells A' c' B' d')] w fun e w' => e = .returned (.bool true) ∧ Below w.heap.size w w' :=
  (rsame_any r s hr hs).mono fun e w' ⟨⟨b, h1, h2⟩, hb⟩ => ⟨by rw [h1, h2.2 e0], hb⟩
end Go.Proofs.Ytebickoieipjpaa
end
section
namespace Go.Proofs.Ytebickoieipjpaa
open Go.RowKit Go.Gi Go.GiRow
set_option maxRecDepth 20000
set_option linter.unusedSimpArgs false
set_option linter.unusedVariables false
def rec0 : RecR := ⟨4, 3, 9, 0, 0, 0, 0, [], [], 0, 0, [], 0, 0, false, [], []⟩
theorem rec0_ok : recOk rec0 := by
  refine ⟨⟨⟨⟨⟨⟨?_, ?_⟩, ?_⟩, ?_⟩, ?_⟩, ?_⟩, ?_⟩
  · unfold okHead rec0; simp
  · unfold okUndo rec0; simp
  · rw [okOp_no (by unfold isChange rec0; simp)]; unfold rec0; simp
  · rw [okKey_no (by unfold rec0; simp)]; unfold rec0; simp
  · unfold okNext rec0; simp
  · unfold okLong rec0; simp
  · intro t ht; unfold rec0 at ht; simp at ht
theorem rec0_w : RecW rec0 := ⟨by unfold rec0; simp, by unfold rec0; simp, by unfold rec0; simp, by unfold rec0; simp, by unfold rec0; simp, by unfold rec0; simp⟩
theorem rec0_len : (recB rec0).length = 13 := by decide +kernel
theorem rd0 {α : Type} (enc : α → List Value) (n : Nat) (w : World) (A : Option Addr) : RdRows enc n w A [] := fun k hk => absurd hk (by simp)
theorem bs_prefix (s : List UInt8) (k : Nat) : (bs s).extract 0 k = bs (s.take k) := by rw [extract_bs, toList_bs]; simp
attribute [local go_sem] bs_size bs_append bs_prefix bs_empty
set_option maxHeartbeats 16000000 in
theorem awake04 (w : World) : Calls Try.prog 8 #[] w fun e w' => e = .returned (.bool true) ∧ Below w.heap.size w w' := by
  have henc := fun W => encode_ok rec0 none 0 none 0 W (rd0 _ _ _ _) (rd0 _ _ _ _) rec0_w rec0_ok
  have HENC := Lib.hid henc
  have hdec := fun W => decode_any (recB rec0) W (by rw [rec0_len]; decide)
  have HDEC := Lib.hid hdec
  have hl0 := rec0_len
  have HD := Lib.hid (dec_of_told rec0 rec0_ok rec0_w)
  clear henc hdec
  generalize recB rec0 = L0 at *
  go_enter Try.func8, Try.ntmps8
  go_upto_region 3 with (first | (go_at_call 7; refine (HENC.out _).mono ?_; rintro e w1 ⟨rfl, hb1⟩; have HB1 := Lib.hid hb1; clear hb1) | (go_at_call 9; refine (HDEC.out _).mono ?_; rintro e w2 ⟨⟨hy, _⟩, hb2⟩; obtain ⟨A, c, B, d, rfl, _, _⟩ := hy HD.out.1; rw [HD.out.2]; unfold rec0 RecR.val RecR.cells; have HB2 := Lib.hid (bstep HB1.out hb2); clear hb2 hy))
  go_wp2
  go_ret
  exact ⟨rfl, HB2.out.alloc HB2.out.size _⟩
end Go.Proofs.Ytebickoieipjpaa
end
section
namespace Go.Proofs.Ytebickoieipjpaa
open Go.RowKit Go.Gi Go.GiRow Go.Proofs.YtebickoieipjpaaW.PrintWords Go.Proofs.YtebickoieipjpaaW.PrintLast Go.Proofs.YtebickoieipjpaaW.PrintMore
set_option maxRecDepth 20000
set_option linter.unusedSimpArgs false
set_option linter.unusedVariables false
theorem cells_one (r : RecR) (A : Option Addr) (c : Nat) (B : Option Addr) (d : Nat) : (r.cells A c B d).all (·.oneCell') = true := by unfold RecR.cells; simp [Value.oneCell']
theorem rfs_one (r : RecR) (A : Option Addr) (n c : Nat) (B : Option Addr) (m d : Nat) : (rfs r (.slice A n c) (.slice B m d)).all (·.oneCell') = true := by unfold rfs; simp [Value.oneCell']
set_option maxHeartbeats 16000000 in
theorem recReads_any (L : List UInt8) (w : World) (hL : L.length ≤ 140737488351232) :
    Calls Try.prog 4 #[.string (bs L)] w fun e w' => e = .returned (.bool true) ∧ Below w.heap.size w w' := by
  have HL := Lib.hid (show L.length ≤ 9223372036854775807 by omega)
  clear hL
  by_cases hdec : decOk L
  · have HD := Lib.hid hdec
    clear hdec
    go_enter Try.func4, Try.ntmps4
    go_upto_region 2 with (first | (go_at_call 9; refine (dec_yes L HL.out HD.out _).mono ?_; rintro e' w1 ⟨A, c, B, d, rfl, hr, hb5⟩; have HR := Lib.hid hr; have HK := Lib.hid hb5; clear hr hb5) | (with_reducible refine isStoreN 35 (.tmp 3) (.tmp 10) ?_; with_unfolding_all refine wpList_store_row rfl 35 (.tmp 3) (.tmp 10) rfl w1.heap.size ((rdRec L).1.cells A c B d) (by kernel_rfl) (by kernel_rfl) 35 #[.int .i64 0, .int .i64 0, .int .u64 0, .int .u64 0, .int .u32 0, .int .i64 0, .int .i64 0, .string ⟨#[]⟩, .string ⟨#[]⟩, .int .i64 0, .int .i64 0, .string ⟨#[]⟩, .int .u32 0, .int .i64 0, .bool false, .slice none 0 0, .slice none 0 0] (Blk.new w1 35 #[.int .i64 0, .int .i64 0, .int .u64 0, .int .u64 0, .int .u32 0, .int .i64 0, .int .i64 0, .string ⟨#[]⟩, .string ⟨#[]⟩, .int .i64 0, .int .i64 0, .string ⟨#[]⟩, .int .u32 0, .int .i64 0, .bool false, .slice none 0 0, .slice none 0 0]) (by kernel_rfl) rfl (cells_one _ _ _ _ _) ?_))
    have hB := Lib.hid (blk_setRow (cs' := ((rdRec L).1.cells A c B d)) (Blk.new w1 35 #[.int .i64 0, .int .i64 0, .int .u64 0, .int .u64 0, .int .u32 0, .int .i64 0, .int .i64 0, .string ⟨#[]⟩, .string ⟨#[]⟩, .int .i64 0, .int .i64 0, .string ⟨#[]⟩, .int .u32 0, .int .i64 0, .bool false, .slice none 0 0, .slice none 0 0]))
    have hb5 := setRow_below (balloc (Below.refl w1.heap.size w1) (.cells #[.int .i64 0, .int .i64 0, .int .u64 0, .int .u64 0, .int .u32 0, .int .i64 0, .int .i64 0, .string ⟨#[]⟩, .string ⟨#[]⟩, .int .i64 0, .int .i64 0, .string ⟨#[]⟩, .int .u32 0, .int .i64 0, .bool false, .slice none 0 0, .slice none 0 0] 35)) (Nat.le_refl w1.heap.size) ((rdRec L).1.cells A c B d)
    have n_HK := Lib.hid (bstep HK.out hb5)
    have n_HR := Lib.hid (HR.out.below hb5)
    clear hb5 HK HR
    have HK := n_HK
    have HR := n_HR
    clear n_HK n_HR
    generalize ((w1.alloc (.cells #[.int .i64 0, .int .i64 0, .int .u64 0, .int .u64 0, .int .u32 0, .int .i64 0, .int .i64 0, .string ⟨#[]⟩, .string ⟨#[]⟩, .int .i64 0, .int .i64 0, .string ⟨#[]⟩, .int .u32 0, .int .i64 0, .bool false, .slice none 0 0, .slice none 0 0] 35)).setRow w1.heap.size ((rdRec L).1.cells A c B d)) = xg3 at *
    generalize w1.heap.size = g3 at *
    have H3 := hB
    clear hB
    go_upto_region 3 with (first | (go_at_call 10; refine (rdec_yes L HL.out HD.out _).mono ?_; rintro e' w2 ⟨A', c', B', d', rfl, hr, hb5⟩; have HF := Lib.hid hr; clear hr; have n_H3 := Lib.hid (H3.out.step hb5); have n_HK := Lib.hid (bstep HK.out hb5); have n_HR := Lib.hid (HR.out.below hb5); clear hb5 H3 HK HR; have H3 := n_H3; have HK := n_HK; have HR := n_HR; clear n_H3 n_HK n_HR) | (with_reducible refine isStoreN 47 (.tmp 5) (.tmp 15) ?_; with_unfolding_all refine wpList_store_row rfl 47 (.tmp 5) (.tmp 15) rfl w2.heap.size (rfs (rdRec L).1 (.slice A' (rdRec L).1.txs.length c') (.slice B' (rdRec L).1.dirty.length d')) (by kernel_rfl) (by kernel_rfl) 47 #[.int .i64 0, .int .i64 0, .int .u64 0, .int .u64 0, .int .u32 0, .int .i64 0, .int .i64 0, .string ⟨#[]⟩, .string ⟨#[]⟩, .int .i64 0, .int .i64 0, .string ⟨#[]⟩, .int .u32 0, .int .i64 0, .bool false, .slice none 0 0, .slice none 0 0] (Blk.new w2 47 #[.int .i64 0, .int .i64 0, .int .u64 0, .int .u64 0, .int .u32 0, .int .i64 0, .int .i64 0, .string ⟨#[]⟩, .string ⟨#[]⟩, .int .i64 0, .int .i64 0, .string ⟨#[]⟩, .int .u32 0, .int .i64 0, .bool false, .slice none 0 0, .slice none 0 0]) (by kernel_rfl) rfl (rfs_one _ _ _ _ _ _ _) ?_))
    have hB := Lib.hid (blk_setRow (cs' := (rfs (rdRec L).1 (.slice A' (rdRec L).1.txs.length c') (.slice B' (rdRec L).1.dirty.length d'))) (Blk.new w2 47 #[.int .i64 0, .int .i64 0, .int .u64 0, .int .u64 0, .int .u32 0, .int .i64 0, .int .i64 0, .string ⟨#[]⟩, .string ⟨#[]⟩, .int .i64 0, .int .i64 0, .string ⟨#[]⟩, .int .u32 0, .int .i64 0, .bool false, .slice none 0 0, .slice none 0 0]))
    have hb5 := setRow_below (balloc (Below.refl w2.heap.size w2) (.cells #[.int .i64 0, .int .i64 0, .int .u64 0, .int .u64 0, .int .u32 0, .int .i64 0, .int .i64 0, .string ⟨#[]⟩, .string ⟨#[]⟩, .int .i64 0, .int .i64 0, .string ⟨#[]⟩, .int .u32 0, .int .i64 0, .bool false, .slice none 0 0, .slice none 0 0] 47)) (Nat.le_refl w2.heap.size) (rfs (rdRec L).1 (.slice A' (rdRec L).1.txs.length c') (.slice B' (rdRec L).1.dirty.length d'))
    have n_H3 := Lib.hid (H3.out.step hb5)
    have n_HK := Lib.hid (bstep HK.out hb5)
    have n_HR := Lib.hid (HR.out.below hb5)
    have n_HF := Lib.hid (HF.out.below hb5)
    clear hb5 H3 HK HR HF
    have H3 := n_H3
    have HK := n_HK
    have HR := n_HR
    have HF := n_HF
    clear n_H3 n_HK n_HR n_HF
    generalize ((w2.alloc (.cells #[.int .i64 0, .int .i64 0, .int .u64 0, .int .u64 0, .int .u32 0, .int .i64 0, .int .i64 0, .string ⟨#[]⟩, .string ⟨#[]⟩, .int .i64 0, .int .i64 0, .string ⟨#[]⟩, .int .u32 0, .int .i64 0, .bool false, .slice none 0 0, .slice none 0 0] 47)).setRow w2.heap.size (rfs (rdRec L).1 (.slice A' (rdRec L).1.txs.length c') (.slice B' (rdRec L).1.dirty.length d'))) = xg5 at *
    generalize w2.heap.size = g5 at *
    have H5 := hB
    clear hB
    have hl := recOk_len HD.out.2
    have HL2 := Lib.hid hl
    clear hl
    go_upto_region 5 with fail
    refine start_ (n := 19) (S := fun w' => Blk w' g3 35 ((rdRec L).1.cells A c B d) ∧ Blk w' g5 47 (rfs (rdRec L).1 (.slice A' (rdRec L).1.txs.length c') (.slice B' (rdRec L).1.dirty.length d'))) (ds := []) #[false, false, false, false, false, false, false, false, false, false, false, false, false, false, false, false, false, false, false] (by kernel_rfl) rfl rfl ⟨H3.out, H5.out⟩ (fun hHeld => ?_)
    clear hHeld
    have hb5 := bdrew (Below.refl _ xg5)
    have n_H3 := Lib.hid (H3.out.step hb5)
    have n_HK := Lib.hid (bstep HK.out hb5)
    have n_HR := Lib.hid (HR.out.below hb5)
    have n_HF := Lib.hid (HF.out.below hb5)
    have n_H5 := Lib.hid (H5.out.step hb5)
    clear hb5 H3 HK HR HF H5
    have H3 := n_H3
    have HK := n_HK
    have HR := n_HR
    have HF := n_HF
    have H5 := n_H5
    clear n_H3 n_HK n_HR n_HF n_H5
    generalize xg5.drew = y0 at *
    refine one_ (i := 0) (N := some 29) #[true, false, false, false, false, false, false, false, false, false, false, false, false, false, false, false, false, false, false] rfl rfl (by kernel_rfl) (by decide) (fun K hK => ?_)
    refine goes_ Try.func8 (by kernel_rfl) rfl #[] (by rfl) rfl rfl (by (try simp only [List.map_toArray, List.map_cons, List.map_nil]); first | done | rfl) ?_
    refine (awake04 _).mono ?_
    rintro e_ y1 ⟨rfl, hb5⟩
    have n_H3 := Lib.hid (H3.out.step hb5)
    have n_HK := Lib.hid (bstep HK.out hb5)
    have n_HR := Lib.hid (HR.out.below hb5)
    have n_HF := Lib.hid (HF.out.below hb5)
    have n_H5 := Lib.hid (H5.out.step hb5)
    clear hb5 H3 HK HR HF H5
    have H3 := n_H3
    have HK := n_HK
    have HR := n_HR
    have HF := n_HF
    have H5 := n_H5
    clear n_H3 n_HK n_HR n_HF n_H5
    refine ⟨_, rfl, ?_⟩
    refine hK.out _ _ ⟨H3.out, H5.out⟩ (fun hHeld => ?_)
    clear hK K hHeld
    refine norm_ (a' := ?_) ?_ ?_
    rotate_left
    · show Act.put _ (some 29) _ = _
      simp only [Act.put, List.setIfInBounds_toArray, List.set_cons_zero, List.set_cons_succ]
      rfl
    refine pure_ (i := 1) (N := some 30) (v := ?_) (a' := ?_) #[true, true, false, false, false, false, false, false, false, false, false, false, false, false, false, false, false, false, false] rfl rfl (by kernel_rfl) (fun _ _ _ h => h) (Or.inl ⟨by rfl, ?_⟩) ?_ ?_
    rotate_left
    · intro w'
      go_simp
      with_reducible rfl
    rotate_left
    · simp only [Act.put, List.setIfInBounds_toArray, List.set_cons_zero, List.set_cons_succ, i64_w, i32_w]
      rfl
    refine pure_ (i := 2) (N := some 31) (v := ?_) (a' := ?_) #[true, true, true, false, false, false, false, false, false, false, false, false, false, false, false, false, false, false, false] rfl rfl (by kernel_rfl) (fun _ _ _ h => h) (Or.inl ⟨by rfl, ?_⟩) ?_ ?_
    rotate_left
    · intro w'
      go_simp
      with_reducible rfl
    rotate_left
    · simp only [Act.put, List.setIfInBounds_toArray, List.set_cons_zero, List.set_cons_succ, i64_w, i32_w]
      rfl
    refine pure_ (i := 3) (N := some 32) (v := ?_) (a' := ?_) #[true, true, true, true, false, false, false, false, false, false, false, false, false, false, false, false, false, false, false] rfl rfl (by kernel_rfl) (fun _ _ _ h => h) (Or.inl ⟨by rfl, ?_⟩) ?_ ?_
    rotate_left
    · intro w'
      go_simp
      with_reducible rfl
    rotate_left
    · simp only [Act.put, List.setIfInBounds_toArray, List.set_cons_zero, List.set_cons_succ, i64_w, i32_w]
      rfl
    refine pure_ (i := 4) (N := some 33) (v := ?_) (a' := ?_) #[true, true, true, true, true, false, false, false, false, false, false, false, false, false, false, false, false, false, false] rfl rfl (by kernel_rfl) (fun _ _ _ h => h) (Or.inl ⟨by rfl, ?_⟩) ?_ ?_
    rotate_left
    · intro w'
      go_simp
      with_reducible rfl
    rotate_left
    · simp only [Act.put, List.setIfInBounds_toArray, List.set_cons_zero, List.set_cons_succ, i64_w, i32_w]
      rfl
    refine pure_ (i := 5) (N := some 34) (v := ?_) (a' := ?_) #[true, true, true, true, true, true, false, false, false, false, false, false, false, false, false, false, false, false, false] rfl rfl (by kernel_rfl) (fun _ _ _ h => h) (Or.inl ⟨by rfl, ?_⟩) ?_ ?_
    rotate_left
    · intro w'
      go_simp
      with_reducible rfl
    rotate_left
    · simp only [Act.put, List.setIfInBounds_toArray, List.set_cons_zero, List.set_cons_succ, i64_w, i32_w]
      rfl
    refine take_ (i := 6) (N := some 35) (v := .agg ((rdRec L).1.cells A c B d)) (a' := ?_) #[true, true, true, true, true, true, true, false, false, false, false, false, false, false, false, false, false, false, false] rfl rfl (by kernel_rfl) (fun _ _ _ h => h) (yields_row 35 (.tmp 3) rfl (by rfl) g3 rfl 35 ((rdRec L).1.cells A c B d) (0, 0) _ (fun w_ h => h.1) Try.underlying35 rfl (by kernel_rfl)) ⟨H3.out, H5.out⟩ ?_ ?_
    rotate_left
    · simp only [Act.put, List.setIfInBounds_toArray, List.set_cons_zero, List.set_cons_succ]
      rfl
    refine take_ (i := 9) (N := some 38) (v := .agg (rfs (rdRec L).1 (.slice A' (rdRec L).1.txs.length c') (.slice B' (rdRec L).1.dirty.length d'))) (a' := ?_) #[true, true, true, true, true, true, true, false, false, true, false, false, false, false, false, false, false, false, false] rfl rfl (by kernel_rfl) (fun _ _ _ h => h) (yields_row 47 (.tmp 5) rfl (by rfl) g5 rfl 47 (rfs (rdRec L).1 (.slice A' (rdRec L).1.txs.length c') (.slice B' (rdRec L).1.dirty.length d')) (0, 0) _ (fun w_ h => h.2) Try.underlying47 rfl (by kernel_rfl)) ⟨H3.out, H5.out⟩ ?_ ?_
    rotate_left
    · simp only [Act.put, List.setIfInBounds_toArray, List.set_cons_zero, List.set_cons_succ]
      rfl
    refine one_ (i := 7) (N := some 36) #[true, true, true, true, true, true, true, true, false, true, false, false, false, false, false, false, false, false, false] rfl rfl (by kernel_rfl) (by decide) (fun K hK => ?_)
    refine goes_ Try.func13 (by kernel_rfl) rfl #[.agg ((rdRec L).1.cells A c B d)] (by rfl) rfl rfl (by (try simp only [List.map_toArray, List.map_cons, List.map_nil]); first | done | rfl) ?_
    refine (ref_F HR.out).mono ?_
    rintro e_ y2 ⟨A1, c1, B1, d1, rfl, hf, hb5⟩
    have HF1 := Lib.hid hf
    clear hf
    have n_H3 := Lib.hid (H3.out.step hb5)
    have n_HK := Lib.hid (bstep HK.out hb5)
    have n_HR := Lib.hid (HR.out.below hb5)
    have n_HF := Lib.hid (HF.out.below hb5)
    have n_H5 := Lib.hid (H5.out.step hb5)
    clear hb5 H3 HK HR HF H5
    have H3 := n_H3
    have HK := n_HK
    have HR := n_HR
    have HF := n_HF
    have H5 := n_H5
    clear n_H3 n_HK n_HR n_HF n_H5
    refine ⟨_, rfl, ?_⟩
    refine hK.out _ _ ⟨H3.out, H5.out⟩ (fun hHeld => ?_)
    clear hK K hHeld
    refine norm_ (a' := ?_) ?_ ?_
    rotate_left
    · show Act.put _ (some 36) _ = _
      simp only [Act.put, List.setIfInBounds_toArray, List.set_cons_zero, List.set_cons_succ]
      rfl
    refine one_ (i := 8) (N := some 37) #[true, true, true, true, true, true, true, true, true, true, false, false, false, false, false, false, false, false, false] rfl rfl (by kernel_rfl) (by decide) (fun K hK => ?_)
    refine goes_ Try.func12 (by kernel_rfl) rfl #[.agg (rfs (rdRec L).1 (.slice A1 (rdRec L).1.txs.length c1) (.slice B1 (rdRec L).1.dirty.length d1))] (by rfl) rfl rfl (by (try simp only [List.map_toArray, List.map_cons, List.map_nil]); first | done | rfl) ?_
    refine (bytes04_F HF1.out HD.out.2 (rd_wf L)).mono ?_
    rintro e_ y3 ⟨rfl, hb5⟩
    have n_H3 := Lib.hid (H3.out.step hb5)
    have n_HK := Lib.hid (bstep HK.out hb5)
    have n_HR := Lib.hid (HR.out.below hb5)
    have n_HF := Lib.hid (HF.out.below hb5)
    have n_H5 := Lib.hid (H5.out.step hb5)
    clear hb5 H3 HK HR HF H5
    have H3 := n_H3
    have HK := n_HK
    have HR := n_HR
    have HF := n_HF
    have H5 := n_H5
    clear n_H3 n_HK n_HR n_HF n_H5
    refine ⟨_, rfl, ?_⟩
    refine hK.out _ _ ⟨H3.out, H5.out⟩ (fun hHeld => ?_)
    clear hK K hHeld
    refine norm_ (a' := ?_) ?_ ?_
    rotate_left
    · show Act.put _ (some 37) _ = _
      simp only [Act.put, List.setIfInBounds_toArray, List.set_cons_zero, List.set_cons_succ]
      rfl
    refine one_ (i := 10) (N := some 39) #[true, true, true, true, true, true, true, true, true, true, true, false, false, false, false, false, false, false, false] rfl rfl (by kernel_rfl) (by decide) (fun K hK => ?_)
    refine goes_ Try.func12 (by kernel_rfl) rfl #[.agg (rfs (rdRec L).1 (.slice A' (rdRec L).1.txs.length c') (.slice B' (rdRec L).1.dirty.length d'))] (by rfl) rfl rfl (by (try simp only [List.map_toArray, List.map_cons, List.map_nil]); first | done | rfl) ?_
    refine (bytes04_F HF.out HD.out.2 (rd_wf L)).mono ?_
    rintro e_ y4 ⟨rfl, hb5⟩
    have n_H3 := Lib.hid (H3.out.step hb5)
    have n_HK := Lib.hid (bstep HK.out hb5)
    have n_HR := Lib.hid (HR.out.below hb5)
    have n_HF := Lib.hid (HF.out.below hb5)
    have n_H5 := Lib.hid (H5.out.step hb5)
    clear hb5 H3 HK HR HF H5
    have H3 := n_H3
    have HK := n_HK
    have HR := n_HR
    have HF := n_HF
    have H5 := n_H5
    clear n_H3 n_HK n_HR n_HF n_H5
    refine ⟨_, rfl, ?_⟩
    refine hK.out _ _ ⟨H3.out, H5.out⟩ (fun hHeld => ?_)
    clear hK K hHeld
    refine norm_ (a' := ?_) ?_ ?_
    rotate_left
    · show Act.put _ (some 39) _ = _
      simp only [Act.put, List.setIfInBounds_toArray, List.set_cons_zero, List.set_cons_succ]
      rfl
    refine pure_ (i := 11) (N := some 40) (v := .bool true) (a' := ?_) #[true, true, true, true, true, true, true, true, true, true, true, true, false, false, false, false, false, false, false] rfl rfl (by kernel_rfl) (fun _ _ _ h => h) (Or.inl ⟨by rfl, ?_⟩) ?_ ?_
    · intro w'
      go_simp
    rotate_left
    · simp only [Act.put, List.setIfInBounds_toArray, List.set_cons_zero, List.set_cons_succ, i64_w, i32_w]
      rfl
    refine pure_ (i := 12) (N := some 41) (v := ?_) (a' := ?_) #[true, true, true, true, true, true, true, true, true, true, true, true, true, false, false, false, false, false, false] rfl rfl (by kernel_rfl) (fun _ _ _ h => h) (Or.inl ⟨by rfl, ?_⟩) ?_ ?_
    rotate_left
    · intro w'
      go_simp
      with_reducible rfl
    rotate_left
    · simp only [Act.put, List.setIfInBounds_toArray, List.set_cons_zero, List.set_cons_succ, i64_w, i32_w]
      rfl
    refine pure_ (i := 13) (N := some 42) (v := ?_) (a' := ?_) #[true, true, true, true, true, true, true, true, true, true, true, true, true, true, false, false, false, false, false] rfl rfl (by kernel_rfl) (fun _ _ _ h => h) (Or.inl ⟨by rfl, ?_⟩) ?_ ?_
    rotate_left
    · intro w'
      go_simp
      with_reducible rfl
    rotate_left
    · simp only [Act.put, List.setIfInBounds_toArray, List.set_cons_zero, List.set_cons_succ, i64_w, i32_w]
      rfl
    refine take_ (i := 14) (N := some 43) (v := .agg ((rdRec L).1.cells A c B d)) (a' := ?_) #[true, true, true, true, true, true, true, true, true, true, true, true, true, true, true, false, false, false, false] rfl rfl (by kernel_rfl) (fun _ _ _ h => h) (yields_row 35 (.tmp 3) rfl (by rfl) g3 rfl 35 ((rdRec L).1.cells A c B d) (0, 0) _ (fun w_ h => h.1) Try.underlying35 rfl (by kernel_rfl)) ⟨H3.out, H5.out⟩ ?_ ?_
    rotate_left
    · simp only [Act.put, List.setIfInBounds_toArray, List.set_cons_zero, List.set_cons_succ]
      rfl
    clear HF1
    refine one_ (i := 15) (N := some 44) #[true, true, true, true, true, true, true, true, true, true, true, true, true, true, true, true, false, false, false] rfl rfl (by kernel_rfl) (by decide) (fun K hK => ?_)
    refine goes_ Try.func13 (by kernel_rfl) rfl #[.agg ((rdRec L).1.cells A c B d)] (by rfl) rfl rfl (by (try simp only [List.map_toArray, List.map_cons, List.map_nil]); first | done | rfl) ?_
    refine (ref_F HR.out).mono ?_
    rintro e_ y5 ⟨A2, c2, B2, d2, rfl, hf, hb5⟩
    have HF1 := Lib.hid hf
    clear hf
    have n_H3 := Lib.hid (H3.out.step hb5)
    have n_HK := Lib.hid (bstep HK.out hb5)
    have n_HR := Lib.hid (HR.out.below hb5)
    have n_HF := Lib.hid (HF.out.below hb5)
    have n_H5 := Lib.hid (H5.out.step hb5)
    clear hb5 H3 HK HR HF H5
    have H3 := n_H3
    have HK := n_HK
    have HR := n_HR
    have HF := n_HF
    have H5 := n_H5
    clear n_H3 n_HK n_HR n_HF n_H5
    refine ⟨_, rfl, ?_⟩
    refine hK.out _ _ ⟨H3.out, H5.out⟩ (fun hHeld => ?_)
    clear hK K hHeld
    refine norm_ (a' := ?_) ?_ ?_
    rotate_left
    · show Act.put _ (some 44) _ = _
      simp only [Act.put, List.setIfInBounds_toArray, List.set_cons_zero, List.set_cons_succ]
      rfl
    refine one_ (i := 16) (N := some 45) #[true, true, true, true, true, true, true, true, true, true, true, true, true, true, true, true, true, false, false] rfl rfl (by kernel_rfl) (by decide) (fun K hK => ?_)
    refine goes_ Try.func14 (by kernel_rfl) rfl #[.agg (rfs (rdRec L).1 (.slice A2 (rdRec L).1.txs.length c2) (.slice B2 (rdRec L).1.dirty.length d2))] (by rfl) rfl rfl (by (try simp only [List.map_toArray, List.map_cons, List.map_nil]); first | done | rfl) ?_
    refine (may04_F HF1.out (by have h_ := HL2.out; omega) (by have h_ := HL2.out; omega)).mono ?_
    rintro e_ y6 ⟨⟨bm, rfl, hbm⟩, hb5⟩
    obtain rfl := hbm.2 HD.out.2
    clear hbm
    have n_H3 := Lib.hid (H3.out.step hb5)
    have n_HK := Lib.hid (bstep HK.out hb5)
    have n_HR := Lib.hid (HR.out.below hb5)
    have n_HF := Lib.hid (HF.out.below hb5)
    have n_H5 := Lib.hid (H5.out.step hb5)
    clear hb5 H3 HK HR HF H5
    have H3 := n_H3
    have HK := n_HK
    have HR := n_HR
    have HF := n_HF
    have H5 := n_H5
    clear n_H3 n_HK n_HR n_HF n_H5
    refine ⟨_, rfl, ?_⟩
    refine hK.out _ _ ⟨H3.out, H5.out⟩ (fun hHeld => ?_)
    clear hK K hHeld
    refine norm_ (a' := ?_) ?_ ?_
    rotate_left
    · show Act.put _ (some 45) _ = _
      simp only [Act.put, List.setIfInBounds_toArray, List.set_cons_zero, List.set_cons_succ]
      rfl
    refine pure_ (i := 17) (N := some 46) (v := ?_) (a' := ?_) #[true, true, true, true, true, true, true, true, true, true, true, true, true, true, true, true, true, true, false] rfl rfl (by kernel_rfl) (fun _ _ _ h => h) (Or.inl ⟨by rfl, ?_⟩) ?_ ?_
    rotate_left
    · intro w'
      go_simp
      with_reducible rfl
    rotate_left
    · simp only [Act.put, List.setIfInBounds_toArray, List.set_cons_zero, List.set_cons_succ, i64_w, i32_w]
      rfl
    refine pure_ (i := 18) (N := some 2) (v := ?_) (a' := ?_) #[true, true, true, true, true, true, true, true, true, true, true, true, true, true, true, true, true, true, true] rfl rfl (by kernel_rfl) (fun _ _ _ h => h) (Or.inl ⟨by rfl, ?_⟩) ?_ ?_
    rotate_left
    · intro w'
      go_simp
      with_reducible rfl
    rotate_left
    · simp only [Act.put, List.setIfInBounds_toArray, List.set_cons_zero, List.set_cons_succ, i64_w, i32_w]
      rfl
    refine done_ (by kernel_rfl) ?_
    go_wp2_with fail
    go_ret
    exact ⟨rfl, HK.out⟩
  · have HD := Lib.hid hdec
    clear hdec
    go_enter Try.func4, Try.ntmps4
    go_upto_region 2 with (first | (go_at_call 9; refine (dec_no L HL.out HD.out _).mono ?_; rintro e' w1 ⟨rfl, hb5⟩; have HK := Lib.hid hb5; clear hb5) | (with_reducible refine isStoreN 35 (.tmp 3) (.tmp 10) ?_; with_unfolding_all refine wpList_store_row rfl 35 (.tmp 3) (.tmp 10) rfl w1.heap.size (zR.cells none 0 none 0) (by kernel_rfl) (by kernel_rfl) 35 #[.int .i64 0, .int .i64 0, .int .u64 0, .int .u64 0, .int .u32 0, .int .i64 0, .int .i64 0, .string ⟨#[]⟩, .string ⟨#[]⟩, .int .i64 0, .int .i64 0, .string ⟨#[]⟩, .int .u32 0, .int .i64 0, .bool false, .slice none 0 0, .slice none 0 0] (Blk.new w1 35 #[.int .i64 0, .int .i64 0, .int .u64 0, .int .u64 0, .int .u32 0, .int .i64 0, .int .i64 0, .string ⟨#[]⟩, .string ⟨#[]⟩, .int .i64 0, .int .i64 0, .string ⟨#[]⟩, .int .u32 0, .int .i64 0, .bool false, .slice none 0 0, .slice none 0 0]) (by kernel_rfl) rfl (cells_one _ _ _ _ _) ?_))
    have hB := Lib.hid (blk_setRow (cs' := (zR.cells none 0 none 0)) (Blk.new w1 35 #[.int .i64 0, .int .i64 0, .int .u64 0, .int .u64 0, .int .u32 0, .int .i64 0, .int .i64 0, .string ⟨#[]⟩, .string ⟨#[]⟩, .int .i64 0, .int .i64 0, .string ⟨#[]⟩, .int .u32 0, .int .i64 0, .bool false, .slice none 0 0, .slice none 0 0]))
    have hb5 := setRow_below (balloc (Below.refl w1.heap.size w1) (.cells #[.int .i64 0, .int .i64 0, .int .u64 0, .int .u64 0, .int .u32 0, .int .i64 0, .int .i64 0, .string ⟨#[]⟩, .string ⟨#[]⟩, .int .i64 0, .int .i64 0, .string ⟨#[]⟩, .int .u32 0, .int .i64 0, .bool false, .slice none 0 0, .slice none 0 0] 35)) (Nat.le_refl w1.heap.size) (zR.cells none 0 none 0)
    have n_HK := Lib.hid (bstep HK.out hb5)
    clear hb5 HK
    have HK := n_HK
    clear n_HK
    generalize ((w1.alloc (.cells #[.int .i64 0, .int .i64 0, .int .u64 0, .int .u64 0, .int .u32 0, .int .i64 0, .int .i64 0, .string ⟨#[]⟩, .string ⟨#[]⟩, .int .i64 0, .int .i64 0, .string ⟨#[]⟩, .int .u32 0, .int .i64 0, .bool false, .slice none 0 0, .slice none 0 0] 35)).setRow w1.heap.size (zR.cells none 0 none 0)) = xg3 at *
    generalize w1.heap.size = g3 at *
    have H3 := hB
    clear hB
    go_upto_region 3 with (first | (go_at_call 10; refine (rdec_no L HL.out HD.out _).mono ?_; rintro e' w2 ⟨rfl, hb5⟩; have n_H3 := Lib.hid (H3.out.step hb5); have n_HK := Lib.hid (bstep HK.out hb5); clear hb5 H3 HK; have H3 := n_H3; have HK := n_HK; clear n_H3 n_HK) | (with_reducible refine isStoreN 47 (.tmp 5) (.tmp 15) ?_; with_unfolding_all refine wpList_store_row rfl 47 (.tmp 5) (.tmp 15) rfl w2.heap.size #[.int .i64 0, .int .i64 0, .int .u64 0, .int .u64 0, .int .u32 0, .int .i64 0, .int .i64 0, .string ⟨#[]⟩, .string ⟨#[]⟩, .int .i64 0, .int .i64 0, .string ⟨#[]⟩, .int .u32 0, .int .i64 0, .bool false, .slice none 0 0, .slice none 0 0] (by kernel_rfl) (by kernel_rfl) 47 #[.int .i64 0, .int .i64 0, .int .u64 0, .int .u64 0, .int .u32 0, .int .i64 0, .int .i64 0, .string ⟨#[]⟩, .string ⟨#[]⟩, .int .i64 0, .int .i64 0, .string ⟨#[]⟩, .int .u32 0, .int .i64 0, .bool false, .slice none 0 0, .slice none 0 0] (Blk.new w2 47 #[.int .i64 0, .int .i64 0, .int .u64 0, .int .u64 0, .int .u32 0, .int .i64 0, .int .i64 0, .string ⟨#[]⟩, .string ⟨#[]⟩, .int .i64 0, .int .i64 0, .string ⟨#[]⟩, .int .u32 0, .int .i64 0, .bool false, .slice none 0 0, .slice none 0 0]) (by kernel_rfl) rfl (by simp [Value.oneCell']) ?_))
    have hB := Lib.hid (blk_setRow (cs' := #[.int .i64 0, .int .i64 0, .int .u64 0, .int .u64 0, .int .u32 0, .int .i64 0, .int .i64 0, .string ⟨#[]⟩, .string ⟨#[]⟩, .int .i64 0, .int .i64 0, .string ⟨#[]⟩, .int .u32 0, .int .i64 0, .bool false, .slice none 0 0, .slice none 0 0]) (Blk.new w2 47 #[.int .i64 0, .int .i64 0, .int .u64 0, .int .u64 0, .int .u32 0, .int .i64 0, .int .i64 0, .string ⟨#[]⟩, .string ⟨#[]⟩, .int .i64 0, .int .i64 0, .string ⟨#[]⟩, .int .u32 0, .int .i64 0, .bool false, .slice none 0 0, .slice none 0 0]))
    have hb5 := setRow_below (balloc (Below.refl w2.heap.size w2) (.cells #[.int .i64 0, .int .i64 0, .int .u64 0, .int .u64 0, .int .u32 0, .int .i64 0, .int .i64 0, .string ⟨#[]⟩, .string ⟨#[]⟩, .int .i64 0, .int .i64 0, .string ⟨#[]⟩, .int .u32 0, .int .i64 0, .bool false, .slice none 0 0, .slice none 0 0] 47)) (Nat.le_refl w2.heap.size) #[.int .i64 0, .int .i64 0, .int .u64 0, .int .u64 0, .int .u32 0, .int .i64 0, .int .i64 0, .string ⟨#[]⟩, .string ⟨#[]⟩, .int .i64 0, .int .i64 0, .string ⟨#[]⟩, .int .u32 0, .int .i64 0, .bool false, .slice none 0 0, .slice none 0 0]
    have n_H3 := Lib.hid (H3.out.step hb5)
    have n_HK := Lib.hid (bstep HK.out hb5)
    clear hb5 H3 HK
    have H3 := n_H3
    have HK := n_HK
    clear n_H3 n_HK
    generalize ((w2.alloc (.cells #[.int .i64 0, .int .i64 0, .int .u64 0, .int .u64 0, .int .u32 0, .int .i64 0, .int .i64 0, .string ⟨#[]⟩, .string ⟨#[]⟩, .int .i64 0, .int .i64 0, .string ⟨#[]⟩, .int .u32 0, .int .i64 0, .bool false, .slice none 0 0, .slice none 0 0] 47)).setRow w2.heap.size #[.int .i64 0, .int .i64 0, .int .u64 0, .int .u64 0, .int .u32 0, .int .i64 0, .int .i64 0, .string ⟨#[]⟩, .string ⟨#[]⟩, .int .i64 0, .int .i64 0, .string ⟨#[]⟩, .int .u32 0, .int .i64 0, .bool false, .slice none 0 0, .slice none 0 0]) = xg5 at *
    generalize w2.heap.size = g5 at *
    have H5 := hB
    clear hB
    go_wp2_with (first | (with_reducible refine isLoadG 35 (.tmp 3) ?_; with_unfolding_all refine wpList_load_row_on rfl 35 (.tmp 3) rfl g3 (by kernel_rfl) 35 (zR.cells none 0 none 0) (0, 0) _ H3.out Try.underlying35 rfl (by kernel_rfl) ?_) | (go_at_call 8; refine (awake04 _).mono ?_; rintro e' w3 ⟨rfl, hb5⟩; have n_H3 := Lib.hid (H3.out.step hb5); have n_HK := Lib.hid (bstep HK.out hb5); have n_H5 := Lib.hid (H5.out.step hb5); clear hb5 H3 HK H5; have H3 := n_H3; have HK := n_HK; have H5 := n_H5; clear n_H3 n_HK n_H5) | (go_at_call 11; refine (same_R (zR_rows _) (zR_rows _) rfl).mono ?_; rintro e' w4 ⟨rfl, hb5⟩; have n_H3 := Lib.hid (H3.out.step hb5); have n_HK := Lib.hid (bstep HK.out hb5); have n_H5 := Lib.hid (H5.out.step hb5); clear hb5 H3 HK H5; have H3 := n_H3; have HK := n_HK; have H5 := n_H5; clear n_H3 n_HK n_H5) | (with_reducible refine isGuarded ?_; refine guardOn (by with_unfolding_all rfl) ?_; intro _ _))
    go_ret
    exact ⟨rfl, HK.out⟩
end Go.Proofs.Ytebickoieipjpaa
end
section
namespace Go.Proofs.Ytebickoieipjpaa.recReadsRow
open Go.ChangeShapes Go.WideShapes Go.ChangeAt Go.RowKit Go.GiRow Go.Proofs.YtebickoieipjpaaW.PrintWords
open Go.ChangeMaps (open_string shut_string)
theorem own : ownKnob Try.prog.godebug = none := by kernel_rfl
theorem laid : laidOutB Try.prog = true := by kernel_rfl
set_option maxRecDepth 100000 in
set_option maxHeartbeats 6400000 in
theorem lifted (os : Os) (started : os.Started) (H : Type) (enc : TypeId × Value → H) :
    ReturnsInHanded {} Try.checked os 4 .any (Rows.recReadsSpec.pre6 enc Try.prog Try.f4 Rows.recReadsRow.domain false) (Rows.recReadsSpec.post enc Try.prog Try.f4 false true false false) := by
  refine returnsInHanded_of_change_sized (C := Try.checked) own started (by kernel_rfl) Try.func4
    (ChangeSpec.witness6 (enc := enc) (C := Try.checked) false ⟨#[], #[.string ByteArray.empty], []⟩ 8 (by kernel_rfl) (by kernel_rfl) (by kernel_rfl) (by kernel_rfl)) ?_
  intro W base args ds gs before hval0 hW _ hsz0 _
  have hsz : (DataW.weightsEach Try.prog (Try.f4.params.toList ++ Rows.recReadsSpec.plain.varTypes Try.prog) (ds ++ gs)).all (· ≤ reachBytes) = true := hsz0
  have hval : ∀ (j : Nat) t v, Try.f4.params[j]? = some t → args[j]? = some v → Value.okWide Try.prog W .any base t v := hval0
  have hW' := hW
  obtain ⟨p, q, hA0, hV, rfl, _, _⟩ := hW
  have hA : DataW.TrodAll enc Try.prog W 0 (fun _ => true) true Try.f4.params.toList args.toList ds p := hA0
  rw [Try.params4] at hA hval hsz
  obtain ⟨v0, vs0, d0, ds0, p0, q0, hargs, rfl, rfl, h0, r0⟩ := trodAll_cons hA
  obtain ⟨rfl, rfl, rfl⟩ := trodAll_nil r0
  obtain rfl : args = #[v0] := by cases args; simp_all
  obtain ⟨rfl, rfl⟩ := trodVars_none hV
  obtain ⟨a0, rfl, rfl, rfl, y0⟩ := open_string Try.underlying9 (hval 0 9 v0 rfl rfl) h0
  have w0 : a0.size ≤ 140737488351232 := by
    have z := sized_string hsz (j := 0) (t := 9) rfl rfl
    rw [Array.length_toList] at z
    exact z
  obtain ⟨ml0, rfl⟩ : ∃ ml, a0 = Gi.bs ml := ⟨_, (Gi.bs_toList a0).symm⟩
  rw [Gi.bs_size] at w0
  refine (recReads_any ml0 W w0).mono fun e W' ⟨he, bel⟩ => ?_
  subst he
  refine ⟨_, rfl, law_post (tb := 4) laid (by kernel_rfl) rfl Try.underlying4 rfl (fun ds hds => ?_) hW' bel⟩
  match ds, hds with
  | [_], _ => rfl
theorem over : Rows.recReadsRow.holds Try.pinned (OpenSpec.ofChange Rows.recReadsSpec) :=
  OpenClaim.holds_of_wide 4 Try.f4 rfl rfl rfl rfl rfl rfl rfl ⟨rfl, rfl, rfl, rfl, rfl⟩ rfl rfl rfl rfl rfl (by kernel_rfl) Try.func4 (by kernel_rfl)
    (of_decide_eq_true (by kernel_rfl)) (by unfold Func.isWrapper; first | (rw [if_pos (by decide +kernel)]; kernel_rfl) | (rw [if_neg (by decide +kernel)]; exact ⟨rfl, rfl⟩))
    (fun os started H enc _ => lifted os started H enc)
end Go.Proofs.Ytebickoieipjpaa.recReadsRow
namespace Go.Proofs.Ytebickoieipjpaa
/-- The row, under a short name, for the claim. -/
theorem recReads_holds : Rows.RecReadsSaid := recReadsRow.over
#print axioms recReads_holds
end Go.Proofs.Ytebickoieipjpaa
end
