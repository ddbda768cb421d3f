import Derived.Test.YtebickoieipjpaaLaw04
namespace Go.Proofs.Ytebickoieipjpaa
open Go.RowKit Go.Gi Go.GiRow
set_option maxRecDepth 20000
set_option linter.unusedSimpArgs false
set_option linter.unusedVariables false
attribute [local go_sem] bs_size bs_append bs_prefix bs_empty
set_option maxHeartbeats 16000000 in
theorem recCuts_no (r : RecR) (A : Option Addr) (c : Nat) (B : Option Addr) (d : Nat) (cut : Int) (more : List UInt8) (w : World) (hA : RdRows StR.cells 4 w A r.txs) (hD : RdRows DiR.cells 2 w B r.dirty) (hw : RecW r)
    (hl : r.txs.length ≤ 9223372036854775807) (hd : r.dirty.length ≤ 9223372036854775807) (hm : more.length ≤ 140737488351232) (hr : ¬ recOk r) :
    Calls Try.prog 3 #[r.val A c B d, .int .i64 cut, .string (bs more)] w fun e w' => e = .returned (.bool true) ∧ Below w.heap.size w w' := by
  have henc := fun W (hb : Below w.heap.size w W) => encode_no r A c B d W (rows_below hA hb) hl hd hr
  have HENC := Lib.hid henc
  clear henc hA hD hw hl hd hr
  obtain ⟨kind, tx, prev, next, page, ok, oa, os, oo, undo, index, key, rpage, rslot, live, txs, dirty⟩ := r
  unfold RecR.val RecR.cells at HENC ⊢
  simp only at HENC ⊢
  generalize Value.slice A txs.length c = VA at *
  generalize Value.slice B dirty.length d = VB at *
  go_enter Try.func3, Try.ntmps3
  go_upto_region 1 with fail
  have hB := Blk.new w 35 #[.int .i64 kind, .int .i64 tx, .int .u64 prev, .int .u64 next, .int .u32 page, .int .i64 ok, .int .i64 oa, .string (bs os), .string (bs oo), .int .i64 undo, .int .i64 index, .string (bs key), .int .u32 rpage, .int .i64 rslot, .bool live, VA, VB]
  have hW := balloc (Below.refl w.heap.size w) (.cells #[.int .i64 kind, .int .i64 tx, .int .u64 prev, .int .u64 next, .int .u32 page, .int .i64 ok, .int .i64 oa, .string (bs os), .string (bs oo), .int .i64 undo, .int .i64 index, .string (bs key), .int .u32 rpage, .int .i64 rslot, .bool live, VA, VB] 35)
  have HB := Lib.hid hB
  have HK := Lib.hid hW
  clear hB hW
  generalize w.alloc (.cells #[.int .i64 kind, .int .i64 tx, .int .u64 prev, .int .u64 next, .int .u32 page, .int .i64 ok, .int .i64 oa, .string (bs os), .string (bs oo), .int .i64 undo, .int .i64 index, .string (bs key), .int .u32 rpage, .int .i64 rslot, .bool live, VA, VB] 35) = w0 at *
  go_upto_region 3 with (first | (refine wpList_load_row rfl 35 (.tmp 3) rfl w.heap.size rfl 35 #[.int .i64 kind, .int .i64 tx, .int .u64 prev, .int .u64 next, .int .u32 page, .int .i64 ok, .int .i64 oa, .string (bs os), .string (bs oo), .int .i64 undo, .int .i64 index, .string (bs key), .int .u32 rpage, .int .i64 rslot, .bool live, VA, VB] (0, 0) _ HB.out Try.underlying35 rfl (by kernel_rfl) ?_) | (go_at_call 7; refine (HENC.out _ HK.out).mono ?_; rintro e w1 ⟨rfl, hb1⟩; have HK1 := Lib.hid (bstep HK.out hb1); clear hb1) | (go_at_call 8; refine (awake04 _).mono ?_; rintro e w2 ⟨rfl, hb2⟩; have HK2 := Lib.hid (bstep HK1.out hb2); clear hb2))
  go_wp2_with (first | (go_at_call 8; refine (awake04 _).mono ?_; rintro e w3 ⟨rfl, hb2⟩; have HK3 := Lib.hid (bstep HK2.out hb2); clear hb2))
  go_ret
  exact ⟨rfl, HK3.out⟩
end Go.Proofs.Ytebickoieipjpaa
