import Derived.Test.YtebickoieipjpaaRecPut
import Derived.Test.YtebickoieipjpaaRecChk
namespace Go.Proofs.Ytebickoieipjpaa
open Go.RowKit Go.Gi Go.GiRow
set_option maxRecDepth 20000
set_option linter.unusedSimpArgs false
set_option linter.unusedVariables false

theorem cellsR {w : World} {g T : Nat} {kind tx prev next page ok oa : Int} {os oo : List UInt8} {undo index : Int} {key : List UInt8} {rpage rslot : Int} {live : Bool} {VA VB : Value}
    (h : Blk w g T #[.int .i64 kind, .int .i64 tx, .int .u64 prev, .int .u64 next, .int .u32 page, .int .i64 ok, .int .i64 oa, .string (bs os), .string (bs oo), .int .i64 undo, .int .i64 index, .string (bs key), .int .u32 rpage, .int .i64 rslot, .bool live, VA, VB]) : w.cell? ⟨g, 0, none⟩ = some (.int .i64 kind) ∧ w.cell? ⟨g, 1, none⟩ = some (.int .i64 tx) ∧ w.cell? ⟨g, 2, none⟩ = some (.int .u64 prev) ∧ w.cell? ⟨g, 3, none⟩ = some (.int .u64 next) ∧ w.cell? ⟨g, 15, none⟩ = some VA ∧ w.cell? ⟨g, 16, none⟩ = some VB :=
  ⟨h.cell 0, h.cell 1, h.cell 2, h.cell 3, h.cell 15, h.cell 16⟩

set_option maxHeartbeats 16000000 in
theorem encode_no (r : RecR) (A : Option Addr) (c : Nat) (B : Option Addr) (d : Nat) (w : World) (hA : RdRows StR.cells 4 w A r.txs) (hl : r.txs.length ≤ 9223372036854775807) (hd : r.dirty.length ≤ 9223372036854775807) (hn : ¬ recOk r) :
    Calls Try.prog 7 #[r.val A c B d] w fun e w' => e = .returned (.tuple #[.string ⟨#[]⟩, .int .i64 40]) ∧ Below w.heap.size w w' := by
  have hc := fun (w' : World) (hb : Below w.heap.size w w') => rcheck_any r A c B d w' (fun k hk => by
    obtain ⟨b, off, e, h1, h2⟩ := hA k hk
    exact ⟨b, off, e, Nat.lt_of_lt_of_le h1 hb.size, fun j u hu => (hb.cell (p := ⟨b, off + k * 4 + j, none⟩) h1).trans (h2 j u hu)⟩) hl hd
  have HC := Lib.hid hc
  have HE := Lib.hid (recE_neg hn)
  clear hc hn hA hl hd
  obtain ⟨kind, tx, prev, next, page, ok, oa, os, oo, undo, index, key, rpage, rslot, live, txs, dirty⟩ := r
  unfold RecR.val RecR.cells at HC ⊢
  simp only at HC ⊢
  generalize Value.slice A txs.length c = VA at *
  generalize Value.slice B dirty.length d = VB at *
  go_enter Try.func7, Try.ntmps7
  go_upto_region 1 with fail
  have hB := Blk.new w 35 #[.int .i64 kind, .int .i64 tx, .int .u64 prev, .int .u64 next, .int .u32 page, .int .i64 ok, .int .i64 oa, .string (bs os), .string (bs oo), .int .i64 undo, .int .i64 index, .string (bs key), .int .u32 rpage, .int .i64 rslot, .bool live, VA, VB]
  have hW := balloc (Below.refl w.heap.size w) (.cells #[.int .i64 kind, .int .i64 tx, .int .u64 prev, .int .u64 next, .int .u32 page, .int .i64 ok, .int .i64 oa, .string (bs os), .string (bs oo), .int .i64 undo, .int .i64 index, .string (bs key), .int .u32 rpage, .int .i64 rslot, .bool live, VA, VB] 35)
  obtain ⟨c0, c1, c2, c3, c15, c16⟩ := cellsR hB
  have HW := Lib.hid hW
  have HB := Lib.hid hB
  clear hB hW
  generalize w.alloc (.cells #[.int .i64 kind, .int .i64 tx, .int .u64 prev, .int .u64 next, .int .u32 page, .int .i64 ok, .int .i64 oa, .string (bs os), .string (bs oo), .int .i64 undo, .int .i64 index, .string (bs key), .int .u32 rpage, .int .i64 rslot, .bool live, VA, VB] 35) = w0 at *
  go_wp2_with (first | (refine wpList_load_row rfl 35 (.tmp 1) rfl w.heap.size rfl 35 #[.int .i64 kind, .int .i64 tx, .int .u64 prev, .int .u64 next, .int .u32 page, .int .i64 ok, .int .i64 oa, .string (bs os), .string (bs oo), .int .i64 undo, .int .i64 index, .string (bs key), .int .u32 rpage, .int .i64 rslot, .bool live, VA, VB] (0, 0) _ HB.out Try.underlying35 rfl (by kernel_rfl) ?_) | go_at_call 16; refine (HC.out _ HW.out).mono ?_; rintro e w1 ⟨rfl, hb1⟩; have HB1 := Lib.hid (bstep HW.out hb1); clear hb1; rw [HE.out])
  go_returns
  exact ⟨rfl, HB1.out⟩

set_option maxHeartbeats 16000000 in
theorem encode_ok (r : RecR) (A : Option Addr) (c : Nat) (B : Option Addr) (d : Nat) (w : World) (hA : RdRows StR.cells 4 w A r.txs) (hD : RdRows DiR.cells 2 w B r.dirty) (hw : RecW r) (hn : recOk r) :
    Calls Try.prog 7 #[r.val A c B d] w fun e w' => e = .returned (.tuple #[.string (bs (recB r)), .int .i64 0]) ∧ Below w.heap.size w w' := by
  obtain ⟨⟨⟨⟨⟨⟨h1, h2⟩, h3⟩, h4⟩, h5⟩, h6⟩, h7⟩ := id hn
  have g3 := h3
  have g4 := h4
  have hl : r.txs.length ≤ 64 := h6.2.1
  have hd : r.dirty.length ≤ 256 := h6.2.2
  have hc := fun (w' : World) (hb : Below w.heap.size w w') => rcheck_any r A c B d w' (fun k hk => by
    obtain ⟨b, off, e, h1, h2⟩ := hA k hk
    exact ⟨b, off, e, Nat.lt_of_lt_of_le h1 hb.size, fun j u hu => (hb.cell (p := ⟨b, off + k * 4 + j, none⟩) h1).trans (h2 j u hu)⟩) (by omega) (by omega)
  have HC := Lib.hid hc
  have HE := Lib.hid (recE_pos hn)
  have hpc := fun (hch : isChange r.kind) (w' : World) (g : Nat) (ro : Option Nat) (l : List UInt8) (hw' : Wr w' 94 5 w.heap.size g ro l) (hll : l.length ≤ 1000) => putChange_any hw' r A c B d hll hw.page hw.rpage
    (by have := ((okOp_yes hch).1 h3).2; unfold opOk at this; omega) (by have := ((okOp_yes hch).1 h3).2; unfold opOk at this; omega) (by have := ((okOp_yes hch).1 h3).2.1; omega) (by have := ((okOp_yes hch).1 h3).2.2.1; omega) h2
    (by by_cases hu : r.undo = 2
        · have := (okKey_yes hu).1 h4; omega
        · have := (okKey_no hu).1 h4; omega)
    (by by_cases hu : r.undo = 2
        · have := (okKey_yes hu).1 h4; omega
        · have := (okKey_no hu).1 h4; omega)
    (by by_cases hu : r.undo = 2
        · have := (okKey_yes hu).1 h4; omega
        · have := (okKey_no hu).1 h4; omega)
  have HPC := Lib.hid hpc
  have HSt := Lib.hid h7
  obtain ⟨w1, w2, w3, w4, w5, w6⟩ := hw
  obtain ⟨q1, q2, q3, q4⟩ := h1
  have HA := Lib.hid hA
  have HD := Lib.hid hD
  have HWs := Lib.hid w5
  have HWd := Lib.hid w6
  clear hc hpc hA hD hn h2 h3 h4 h5 h6 h7 w5 w6
  unfold recB
  obtain ⟨L1, hL1⟩ : ∃ L, L = headB r := ⟨_, rfl⟩
  obtain ⟨L2, hL2⟩ : ∃ L, L = chB r := ⟨_, rfl⟩
  obtain ⟨L3, hL3⟩ : ∃ L, L = tabB r := ⟨_, rfl⟩
  rw [← hL1, ← hL2, ← hL3]
  rw [← hL2] at HPC
  have HL1 := Lib.hid hL1
  have HL3 := Lib.hid hL3
  have hL1L : L1.length = 13 := by rw [hL1]; simp [headB, putL_length]
  have hL2L : L2.length ≤ 2000 := by
    by_cases hch : isChange r.kind
    · have := ((okOp_yes hch).1 g3).2
      unfold opOk at this
      have hkk : r.key.length ≤ 64 := by
        by_cases hu : r.undo = 2
        · have := (okKey_yes hu).1 g4; omega
        · have := (okKey_no hu).1 g4; omega
      rw [hL2]
      exact chB_len r (by omega) (by omega) hkk
    · have := ((okOp_no hch).1 g3)
      have hkk : r.key.length ≤ 64 := by
        by_cases hu : r.undo = 2
        · have := (okKey_yes hu).1 g4; omega
        · have := (okKey_no hu).1 g4; omega
      rw [hL2]
      exact chB_len r (by omega) (by omega) hkk
  clear hL1 hL2 hL3 g3 g4
  generalize hLL : L1 ++ (if isNext r.kind then putL 8 r.next.toNat else []) ++ (if isChange r.kind then L2 else []) ++ (if r.kind = 8 then L3 else []) = LL
  have HLL0 := Lib.hid hLL
  have HLL := Lib.hid (show L1.length = 13 ∧ L2.length ≤ 2000 from ⟨hL1L, hL2L⟩)
  clear hLL hL1L hL2L
  obtain ⟨kind, tx, prev, next, page, ok, oa, os, oo, undo, index, key, rpage, rslot, live, txs, dirty⟩ := r
  unfold headB at HL1
  unfold tabB at HL3
  unfold RecR.val RecR.cells at HC HPC ⊢
  simp only at HC HPC HE HA HD HSt HWs HWd HL1 HL3 HLL0 w1 w2 w3 w4 q1 q2 q3 q4 hl hd ⊢
  generalize hVA : Value.slice A txs.length c = VA at *
  generalize hVB : Value.slice B dirty.length d = VB at *
  have HVA := Lib.hid hVA
  have HVB := Lib.hid hVB
  clear hVA hVB
  go_enter Try.func7, Try.ntmps7
  go_upto_region 1 with fail
  have hB := Blk.new w 35 #[.int .i64 kind, .int .i64 tx, .int .u64 prev, .int .u64 next, .int .u32 page, .int .i64 ok, .int .i64 oa, .string (bs os), .string (bs oo), .int .i64 undo, .int .i64 index, .string (bs key), .int .u32 rpage, .int .i64 rslot, .bool live, VA, VB]
  have hW := balloc (Below.refl w.heap.size w) (.cells #[.int .i64 kind, .int .i64 tx, .int .u64 prev, .int .u64 next, .int .u32 page, .int .i64 ok, .int .i64 oa, .string (bs os), .string (bs oo), .int .i64 undo, .int .i64 index, .string (bs key), .int .u32 rpage, .int .i64 rslot, .bool live, VA, VB] 35)
  obtain ⟨c0, c1, c2, c3, c15, c16⟩ := cellsR hB
  have HB := Lib.hid hB
  have HK := Lib.hid hW
  clear hB hW
  generalize w.alloc (.cells #[.int .i64 kind, .int .i64 tx, .int .u64 prev, .int .u64 next, .int .u32 page, .int .i64 ok, .int .i64 oa, .string (bs os), .string (bs oo), .int .i64 undo, .int .i64 index, .string (bs key), .int .u32 rpage, .int .i64 rslot, .bool live, VA, VB] 35) = w0 at *
  go_upto_region 9 with (first | (refine wpList_load_row rfl 35 (.tmp 1) rfl w.heap.size rfl 35 #[.int .i64 kind, .int .i64 tx, .int .u64 prev, .int .u64 next, .int .u32 page, .int .i64 ok, .int .i64 oa, .string (bs os), .string (bs oo), .int .i64 undo, .int .i64 index, .string (bs key), .int .u32 rpage, .int .i64 rslot, .bool live, VA, VB] (0, 0) _ HB.out Try.underlying35 rfl (by kernel_rfl) ?_) | (go_at_call 16; refine (HC.out _ HK.out).mono ?_; rintro e w1 ⟨rfl, hb1⟩; clear c0 c1 c2 c3 c15 c16; obtain ⟨c0, c1, c2, c3, c15, c16⟩ := cellsR (HB.out.step hb1); have HB1 := Lib.hid (HB.out.step hb1); have HK1 := Lib.hid (bstep HK.out hb1); clear hb1 HB HK; have HB := HB1; have HK := HK1; clear HB1 HK1; rw [HE.out]) | (go_at_call 17; refine (newWriter_any _ w.heap.size HK.out.size).mono ?_; rintro e w1 ⟨g, rfl, h1, hg, hb1⟩; have HW := Lib.hid h1; clear c0 c1 c2 c3 c15 c16; obtain ⟨c0, c1, c2, c3, c15, c16⟩ := cellsR (HB.out.step hb1); have HB1 := Lib.hid (HB.out.step hb1); have HK1 := Lib.hid (bstep HK.out hb1); clear hb1 h1 hg HB HK; have HB := HB1; have HK := HK1; clear HB1 HK1) | (go_at_call 18; refine (wnumber_any HW.out _ _ (by omega) (by omega) (by have := HLL.out; first | (simp [clamp8, putL_length]; done) | (simp [clamp8, putL_length]; omega))).mono ?_; rintro e w1 ⟨rfl, r1, h1, k1⟩; clear c0 c1 c2 c3 c15 c16; obtain ⟨c0, c1, c2, c3, c15, c16⟩ := cellsR (WK.blk HW.out k1 HB.out (by decide) (by decide)); have HB1 := Lib.hid (WK.blk HW.out k1 HB.out (by decide) (by decide)); have HK1 := Lib.hid (k1.below HK.out HW.out.1 (fun j e => (HW.out.row j e).1)); have HW1 := Lib.hid h1; clear HW HB HK h1 k1; have HW := HW1; have HB := HB1; have HK := HK1; clear HW1 HB1 HK1) | (go_at_call 19; refine (named_any _ _).mono ?_; rintro e w' ⟨⟨ch, nx, tb, rfl, hch, hnx, htb⟩, hw'⟩; obtain rfl := hw'.symm; have Hch := Lib.hid hch; have Hnx := Lib.hid hnx; have Htb := Lib.hid htb; clear hch hnx htb))
  have hw1 := HW.out
  rw [List.nil_append, c8_1, c8_4, c8_8, ← HL1.out] at hw1
  have HW1 := Lib.hid hw1
  clear HW hw1
  have HW := HW1
  clear HW1
  go_upto_if 40 with fail
  go_cut [] from 41 to 44 (fun wx => ∃ rx, Wr wx 94 5 w.heap.size g rx (L1 ++ sel nx (putL 8 next.toNat)) ∧ Blk wx w.heap.size 35 #[.int .i64 kind, .int .i64 tx, .int .u64 prev, .int .u64 next, .int .u32 page, .int .i64 ok, .int .i64 oa, .string (bs os), .string (bs oo), .int .i64 undo, .int .i64 index, .string (bs key), .int .u32 rpage, .int .i64 rslot, .bool live, VA, VB] ∧ Below w.heap.size w wx)
  case first =>
    cases nx
    · go_wp2
      go_meet
      exact ⟨_, by rw [sel_false, List.append_nil]; exact HW.out, HB.out, HK.out⟩
    · go_wp2_with (first | (go_at_call 18; refine (wnumber_any HW.out _ _ (by omega) (by omega) (by have := HLL.out; first | (simp [clamp8, putL_length]; done) | (simp [clamp8, putL_length]; omega))).mono ?_; rintro e w1 ⟨rfl, r1, h1, k1⟩; clear c0 c1 c2 c3 c15 c16; obtain ⟨c0, c1, c2, c3, c15, c16⟩ := cellsR (WK.blk HW.out k1 HB.out (by decide) (by decide)); have HB1 := Lib.hid (WK.blk HW.out k1 HB.out (by decide) (by decide)); have HK1 := Lib.hid (k1.below HK.out HW.out.1 (fun j e => (HW.out.row j e).1)); have HW1 := Lib.hid h1; clear HW HB HK h1 k1; have HW := HW1; have HB := HB1; have HK := HK1; clear HW1 HB1 HK1))
      go_meet
      exact ⟨_, by rw [sel_true, ← c8_8]; exact HW.out, HB.out, HK.out⟩
  case rest =>
  obtain ⟨r2, hw2, hb2, hk2⟩ := hcut
  clear c0 c1 c2 c3 c15 c16
  obtain ⟨c0, c1, c2, c3, c15, c16⟩ := cellsR hb2
  clear HW HB HK
  have HW := Lib.hid hw2
  have HB := Lib.hid hb2
  have HK := Lib.hid hk2
  clear hw2 hb2 hk2
  go_upto_if 45 with fail
  go_cut [] from 46 to 48 (fun wx => ∃ rx, Wr wx 94 5 w.heap.size g rx (L1 ++ sel nx (putL 8 next.toNat) ++ sel ch L2) ∧ Blk wx w.heap.size 35 #[.int .i64 kind, .int .i64 tx, .int .u64 prev, .int .u64 next, .int .u32 page, .int .i64 ok, .int .i64 oa, .string (bs os), .string (bs oo), .int .i64 undo, .int .i64 index, .string (bs key), .int .u32 rpage, .int .i64 rslot, .bool live, VA, VB] ∧ Below w.heap.size w wx)
  case first =>
    cases ch
    · go_wp2
      go_meet
      exact ⟨_, by rw [sel_false, List.append_nil]; exact HW.out, HB.out, HK.out⟩
    · go_wp2_with (first | (refine wpList_load_row rfl 35 (.tmp 1) rfl w.heap.size rfl 35 #[.int .i64 kind, .int .i64 tx, .int .u64 prev, .int .u64 next, .int .u32 page, .int .i64 ok, .int .i64 oa, .string (bs os), .string (bs oo), .int .i64 undo, .int .i64 index, .string (bs key), .int .u32 rpage, .int .i64 rslot, .bool live, VA, VB] (0, 0) _ HB.out Try.underlying35 rfl (by kernel_rfl) ?_) | (go_at_call 20; refine (HPC.out (Hch.out.1 rfl) _ _ _ _ HW.out (by have h1 := HLL.out; have h2 := sel_len nx (putL 8 next.toNat); rw [putL_length] at h2; rw [List.length_append]; omega)).mono ?_; rintro e w1 ⟨rfl, r1, h1, k1⟩; clear c0 c1 c2 c3 c15 c16; obtain ⟨c0, c1, c2, c3, c15, c16⟩ := cellsR (WK.blk HW.out k1 HB.out (by decide) (by decide)); have HB1 := Lib.hid (WK.blk HW.out k1 HB.out (by decide) (by decide)); have HK1 := Lib.hid (k1.below HK.out HW.out.1 (fun j e => (HW.out.row j e).1)); have HW1 := Lib.hid h1; clear HW HB HK h1 k1; have HW := HW1; have HB := HB1; have HK := HK1; clear HW1 HB1 HK1))
      go_meet
      exact ⟨_, HW.out, HB.out, HK.out⟩
  case rest =>
  obtain ⟨r3, hw2, hb2, hk2⟩ := hcut
  clear c0 c1 c2 c3 c15 c16
  obtain ⟨c0, c1, c2, c3, c15, c16⟩ := cellsR hb2
  clear HW HB HK
  have HW := Lib.hid hw2
  have HB := Lib.hid hb2
  have HK := Lib.hid hk2
  clear hw2 hb2 hk2
  have hfin : L1 ++ sel nx (putL 8 next.toNat) ++ sel ch L2 ++ sel tb L3 = LL := by
    rw [sel_eq Hnx.out, sel_eq Hch.out, sel_eq Htb.out, HLL0.out]
  have HFin := Lib.hid hfin
  clear hfin HLL0
  have hlb : (L1 ++ sel nx (putL 8 next.toNat) ++ sel ch L2).length ≤ 2021 := by
    have h1 := HLL.out; have h2 := sel_len nx (putL 8 next.toNat); have h3 := sel_len ch L2
    rw [putL_length] at h2
    simp only [List.length_append]; omega
  generalize L1 ++ sel nx (putL 8 next.toNat) ++ sel ch L2 = L4 at *
  cases tb
  · have e : L4 = LL := by rw [← HFin.out, sel_false, List.append_nil]
    have HE4 := Lib.hid e
    clear e
    go_wp2_with (first | (go_at_call 21; refine (wall_any HW.out).mono ?_; rintro e w1 ⟨rfl, rfl⟩))
    go_returns
    rw [HE4.out]
    exact ⟨rfl, HK.out⟩
  · have eA := HVA.out
    have eB := HVB.out
    subst eA eB
    have hLfin : L4 ++ putL 2 txs.length ++ stsB txs ++ putL 2 dirty.length ++ disB dirty = LL := by
      rw [← HFin.out, sel_true, HL3.out]; simp only [List.append_assoc]
    have HLfin := Lib.hid hLfin
    clear hLfin HFin HL3
    go_wp2_with (first | (go_at_call 18; refine (wnumber_any HW.out _ _ (by omega) (by omega) (by have := HLL.out; first | (simp [clamp8, putL_length]; done) | (simp [clamp8, putL_length]; omega))).mono ?_; rintro e w1 ⟨rfl, r1, h1, k1⟩; clear c0 c1 c2 c3 c15 c16; obtain ⟨c0, c1, c2, c3, c15, c16⟩ := cellsR (WK.blk HW.out k1 HB.out (by decide) (by decide)); have HB1 := Lib.hid (WK.blk HW.out k1 HB.out (by decide) (by decide)); have HK1 := Lib.hid (k1.below HK.out HW.out.1 (fun j e => (HW.out.row j e).1)); have HW1 := Lib.hid h1; clear HW HB HK h1 k1; have HW := HW1; have HB := HB1; have HK := HK1; clear HW1 HB1 HK1))
    have hw1 := HW.out
    rw [c8_2, Int.toNat_natCast] at hw1
    have HW1 := Lib.hid hw1
    clear HW hw1
    have HW := HW1
    clear HW1
    go_loopw [59] (fun i wr => ∃ (k : Nat) (rx : Option Nat), k ≤ txs.length ∧ i = .int .i64 k ∧ Wr wr 94 5 w.heap.size g rx (L4 ++ putL 2 txs.length ++ stsB (txs.take k)) ∧ Blk wr w.heap.size 35 #[.int .i64 kind, .int .i64 tx, .int .u64 prev, .int .u64 next, .int .u32 page, .int .i64 ok, .int .i64 oa, .string (bs os), .string (bs oo), .int .i64 undo, .int .i64 index, .string (bs key), .int .u32 rpage, .int .i64 rslot, .bool live, (.slice A txs.length c), (.slice B dirty.length d)] ∧ Below w.heap.size w wr)
      (fun i _ => txs.length - (intOf i).toNat)
    case atStart => exact ⟨0, r1, Nat.zero_le _, rfl, by simpa [stsB] using HW.out, HB.out, HK.out⟩
    case round =>
      obtain ⟨k, rx, hk, rfl, hwr, hbr, hkr⟩ := hrel
      clear c0 c1 c2 c3 c15 c16 HW HB HK
      have HW := Lib.hid hwr
      have HB := Lib.hid hbr
      have HK := Lib.hid hkr
      clear hwr hbr hkr
      by_cases hlt : k < txs.length
      · have i1 : (k : Int) < txs.length := by omega
        obtain ⟨ab, off, rfl, hab, hc⟩ := HA.out k hlt
        have y0 := (HK.out.cell (p := ⟨ab, off + k * 4, none⟩) hab).trans (hc 0 _ rfl)
        have y1 := (HK.out.cell (p := ⟨ab, off + k * 4 + 1, none⟩) hab).trans (hc 1 _ rfl)
        have y2 := (HK.out.cell (p := ⟨ab, off + k * 4 + 2, none⟩) hab).trans (hc 2 _ rfl)
        have y3 := (HK.out.cell (p := ⟨ab, off + k * 4 + 3, none⟩) hab).trans (hc 3 _ rfl)
        clear hc
        have hT := Lib.hid (stsB_take txs k hlt)
        have hlk : (stsB (txs.take k)).length ≤ 1344 := by rw [stsB_len, List.length_take]; omega
        obtain ⟨p1, p2, p3, p4⟩ := HSt.out _ (List.getElem_mem hlt)
        obtain ⟨⟨p5, p6⟩, p7, p8⟩ := HWs.out _ (List.getElem_mem hlt)
        generalize stsB (txs.take k) = tl at *
        generalize txs[k] = st at *
        obtain ⟨stx, sst, slast, snext⟩ := st
        simp only at y0 y1 y2 y3 p1 p2 p3 p4 p5 p6 p7 p8
        go_upto_region 18 with fail
        have hT1 := Blk.new wr 70 #[.int .i64 stx, .int .i64 sst, .int .u64 slast, .int .u64 snext]
        have hW1 := HW.out.alloc (.cells #[.int .i64 stx, .int .i64 sst, .int .u64 slast, .int .u64 snext] 70)
        have hB1 := HB.out.alloc (.cells #[.int .i64 stx, .int .i64 sst, .int .u64 slast, .int .u64 snext] 70)
        have hK1 := balloc HK.out (.cells #[.int .i64 stx, .int .i64 sst, .int .u64 slast, .int .u64 snext] 70)
        clear y0 y1 y2 y3 HW HB HK
        generalize wr.alloc (.cells #[.int .i64 stx, .int .i64 sst, .int .u64 slast, .int .u64 snext] 70) = w5 at *
        generalize wr.heap.size = b5 at *
        have d0 : w5.cell? ⟨b5, 0, none⟩ = some (.int .i64 stx) := hT1.cell 0
        have d1 : w5.cell? ⟨b5, 1, none⟩ = some (.int .i64 sst) := hT1.cell 1
        have d2 : w5.cell? ⟨b5, 2, none⟩ = some (.int .u64 slast) := hT1.cell 2
        have d3 : w5.cell? ⟨b5, 3, none⟩ = some (.int .u64 snext) := hT1.cell 3
        have HW := Lib.hid hW1
        have HB := Lib.hid hB1
        have HK := Lib.hid hK1
        have HT := Lib.hid hT1
        clear hT1 hW1 hB1 hK1
        go_wp2_with (go_at_call 18; refine (wnumber_any HW.out _ _ (by omega) (by omega) (by simp [clamp8, putL_length]; omega)).mono ?_; rintro e w1 ⟨rfl, r1, h1, k1⟩; have HB1 := Lib.hid (WK.blk HW.out k1 HB.out (by decide) (by decide)); have HT1 := Lib.hid (WK.blk HW.out k1 HT.out (by decide) (by decide)); have HK1 := Lib.hid (k1.below HK.out HW.out.1 (fun j e => (HW.out.row j e).1)); have HW1 := Lib.hid h1; clear HW HB HK HT h1 k1 d0 d1 d2 d3; have HW := HW1; have HB := HB1; have HK := HK1; have HT := HT1; clear HW1 HB1 HK1 HT1; have d0 : w1.cell? ⟨b5, 0, none⟩ = some (.int .i64 stx) := HT.out.cell 0; have d1 : w1.cell? ⟨b5, 1, none⟩ = some (.int .i64 sst) := HT.out.cell 1; have d2 : w1.cell? ⟨b5, 2, none⟩ = some (.int .u64 slast) := HT.out.cell 2; have d3 : w1.cell? ⟨b5, 3, none⟩ = some (.int .u64 snext) := HT.out.cell 3)
        go_roundw
        case rel =>
          refine ⟨k + 1, r1, by omega, by go_num, ?_, HB.out, HK.out⟩
          have := HW.out
          rw [hT.out]
          simp only [stB, c8_1, c8_4, c8_8, List.append_assoc] at this ⊢
          exact this
        case measure => simp [intOf]; omega
      · obtain rfl : k = txs.length := by omega
        rw [List.take_length] at HW
        obtain ⟨c0, c1, c2, c3, c15, c16⟩ := cellsR HB.out
        have hls : (stsB txs).length ≤ 1344 := by rw [stsB_len]; omega
        generalize stsB txs = tl at *
        go_wp2_with (first | (go_at_call 18; refine (wnumber_any HW.out _ _ (by omega) (by omega) (by have := HLL.out; first | (simp [clamp8, putL_length]; done) | (simp [clamp8, putL_length]; omega))).mono ?_; rintro e w1 ⟨rfl, r1, h1, k1⟩; clear c0 c1 c2 c3 c15 c16; obtain ⟨c0, c1, c2, c3, c15, c16⟩ := cellsR (WK.blk HW.out k1 HB.out (by decide) (by decide)); have HB1 := Lib.hid (WK.blk HW.out k1 HB.out (by decide) (by decide)); have HK1 := Lib.hid (k1.below HK.out HW.out.1 (fun j e => (HW.out.row j e).1)); have HW1 := Lib.hid h1; clear HW HB HK h1 k1; have HW := HW1; have HB := HB1; have HK := HK1; clear HW1 HB1 HK1))
        have hw1 := HW.out
        rw [c8_2, Int.toNat_natCast] at hw1
        have HW1 := Lib.hid hw1
        clear HW hw1
        have HW := HW1
        clear HW1
        go_loopw [91] (fun i wr => ∃ (k : Nat) (rx : Option Nat), k ≤ dirty.length ∧ i = .int .i64 k ∧ Wr wr 94 5 w.heap.size g rx (L4 ++ putL 2 txs.length ++ tl ++ putL 2 dirty.length ++ disB (dirty.take k)) ∧ Below w.heap.size w wr)
          (fun i _ => dirty.length - (intOf i).toNat)
        case atStart => exact ⟨0, r1, Nat.zero_le _, rfl, by simpa [disB] using HW.out, HK.out⟩
        case round =>
          obtain ⟨k, rx, hk, rfl, hwr, hkr⟩ := hrel
          clear c0 c1 c2 c3 c15 c16 HW HB HK
          have HW := Lib.hid hwr
          have HK := Lib.hid hkr
          clear hwr hkr
          by_cases hlt : k < dirty.length
          · have i1 : (k : Int) < dirty.length := by omega
            obtain ⟨ab, off, rfl, hab, hc⟩ := HD.out k hlt
            have y0 := (HK.out.cell (p := ⟨ab, off + k * 2, none⟩) hab).trans (hc 0 _ rfl)
            have y1 := (HK.out.cell (p := ⟨ab, off + k * 2 + 1, none⟩) hab).trans (hc 1 _ rfl)
            clear hc
            have hT := Lib.hid (disB_take dirty k hlt)
            have hlk : (disB (dirty.take k)).length ≤ 3072 := by rw [disB_len, List.length_take]; omega
            obtain ⟨⟨p5, p6⟩, p7, p8⟩ := HWd.out _ (List.getElem_mem hlt)
            generalize disB (dirty.take k) = dl at *
            generalize dirty[k] = st at *
            obtain ⟨dpage, dlsn⟩ := st
            simp only at y0 y1 p5 p6 p7 p8
            go_upto_region 27 with fail
            have hT1 := Blk.new wr 72 #[.int .u32 dpage, .int .u64 dlsn]
            have hW1 := HW.out.alloc (.cells #[.int .u32 dpage, .int .u64 dlsn] 72)
            have hK1 := balloc HK.out (.cells #[.int .u32 dpage, .int .u64 dlsn] 72)
            clear y0 y1 HW HK
            generalize wr.alloc (.cells #[.int .u32 dpage, .int .u64 dlsn] 72) = w5 at *
            generalize wr.heap.size = b5 at *
            have d0 : w5.cell? ⟨b5, 0, none⟩ = some (.int .u32 dpage) := hT1.cell 0
            have d1 : w5.cell? ⟨b5, 1, none⟩ = some (.int .u64 dlsn) := hT1.cell 1
            have HW := Lib.hid hW1
            have HK := Lib.hid hK1
            have HT := Lib.hid hT1
            clear hT1 hW1 hK1
            go_wp2_with (go_at_call 18; refine (wnumber_any HW.out _ _ (by omega) (by omega) (by simp [clamp8, putL_length]; omega)).mono ?_; rintro e w1 ⟨rfl, r1, h1, k1⟩; have HT1 := Lib.hid (WK.blk HW.out k1 HT.out (by decide) (by decide)); have HK1 := Lib.hid (k1.below HK.out HW.out.1 (fun j e => (HW.out.row j e).1)); have HW1 := Lib.hid h1; clear HW HK HT h1 k1 d0 d1; have HW := HW1; have HK := HK1; have HT := HT1; clear HW1 HK1 HT1; have d0 : w1.cell? ⟨b5, 0, none⟩ = some (.int .u32 dpage) := HT.out.cell 0; have d1 : w1.cell? ⟨b5, 1, none⟩ = some (.int .u64 dlsn) := HT.out.cell 1)
            go_roundw
            case rel =>
              refine ⟨k + 1, r1, by omega, by go_num, ?_, HK.out⟩
              have := HW.out
              rw [hT.out]
              simp only [diB, c8_1, c8_4, c8_8, List.append_assoc] at this ⊢
              exact this
            case measure => simp [intOf]; omega
          · obtain rfl : k = dirty.length := by omega
            rw [List.take_length, HLfin.out] at HW
            go_wp2_with (first | (go_at_call 21; refine (wall_any HW.out).mono ?_; rintro e w1 ⟨rfl, rfl⟩))
            go_returns
            exact ⟨rfl, HK.out⟩
end Go.Proofs.Ytebickoieipjpaa
