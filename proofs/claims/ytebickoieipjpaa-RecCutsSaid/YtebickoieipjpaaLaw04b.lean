import Derived.Test.YtebickoieipjpaaLaw04
namespace Go.Proofs.Ytebickoieipjpaa
open Go.RowKit Go.Gi Go.GiRow
set_option maxRecDepth 20000
set_option linter.unusedSimpArgs false
set_option linter.unusedVariables false
attribute [local go_sem] bs_size bs_append bs_prefix bs_empty
set_option maxHeartbeats 16000000 in
theorem recCuts_more (r : RecR) (A : Option Addr) (c : Nat) (B : Option Addr) (d : Nat) (cut : Int) (more : List UInt8) (w : World) (hA : RdRows StR.cells 4 w A r.txs) (hD : RdRows DiR.cells 2 w B r.dirty) (hw : RecW r)
    (hl : r.txs.length ≤ 9223372036854775807) (hd : r.dirty.length ≤ 9223372036854775807) (hm : more.length ≤ 140737488351232) (hr : recOk r) (hm0 : ¬ more = []) :
    Calls Try.prog 3 #[r.val A c B d, .int .i64 cut, .string (bs more)] w fun e w' => e = .returned (.bool true) ∧ Below w.heap.size w w' := by
  obtain ⟨hl0, hl1⟩ := recB_len r hr
  have henc := fun W (hb : Below w.heap.size w W) => encode_ok r A c B d W (rows_below hA hb) (rows_below hD hb) hw hr
  have HENC := Lib.hid henc
  have hD1 := dec_cut r hr hw
  have hD2 := dec_more r hr hw
  have hD3 := (dec_of_told r hr hw).1
  have HD1 := Lib.hid hD1
  have HD2 := Lib.hid hD2
  have HD3 := Lib.hid hD3
  clear henc hD1 hD2 hD3 hA hD hw hl hd hr
  generalize recB r = s at *
  obtain ⟨k, hk, hkk, hr1, hr2, hr3⟩ := cut_law cut s.length hl0 (by omega)
  generalize hrr : cut.tmod s.length = q at *
  obtain ⟨kind, tx, prev, next, page, ok, oa, os, oo, undo, index, key, rpage, rslot, live, txs, dirty⟩ := r
  unfold RecR.val RecR.cells at HENC ⊢
  simp only at HENC ⊢
  generalize Value.slice A txs.length c = VA at *
  generalize Value.slice B dirty.length d = VB at *
  have hsnz : ¬ (s.length : Int) = 0 := by omega
  have hcat : s.length + more.length ≤ 9223372036854775807 := by omega
  have hdk := Lib.hid (fun W => decode_any (s.take k) W (by rw [List.length_take]; omega))
  have hdm := Lib.hid (fun W => decode_any (s ++ more) W (by rw [List.length_append]; exact hcat))
  go_enter Try.func3, Try.ntmps3
  go_upto_region 1 with fail
  have hB := Blk.new w 35 #[.int .i64 kind, .int .i64 tx, .int .u64 prev, .int .u64 next, .int .u32 page, .int .i64 ok, .int .i64 oa, .string (bs os), .string (bs oo), .int .i64 undo, .int .i64 index, .string (bs key), .int .u32 rpage, .int .i64 rslot, .bool live, VA, VB]
  have hW := balloc (Below.refl w.heap.size w) (.cells #[.int .i64 kind, .int .i64 tx, .int .u64 prev, .int .u64 next, .int .u32 page, .int .i64 ok, .int .i64 oa, .string (bs os), .string (bs oo), .int .i64 undo, .int .i64 index, .string (bs key), .int .u32 rpage, .int .i64 rslot, .bool live, VA, VB] 35)
  have HB := Lib.hid hB
  have HK := Lib.hid hW
  clear hB hW
  generalize w.alloc (.cells #[.int .i64 kind, .int .i64 tx, .int .u64 prev, .int .u64 next, .int .u32 page, .int .i64 ok, .int .i64 oa, .string (bs os), .string (bs oo), .int .i64 undo, .int .i64 index, .string (bs key), .int .u32 rpage, .int .i64 rslot, .bool live, VA, VB] 35) = w0 at *
  go_upto_region 5 with (first | (refine wpList_load_row rfl 35 (.tmp 3) rfl w.heap.size rfl 35 #[.int .i64 kind, .int .i64 tx, .int .u64 prev, .int .u64 next, .int .u32 page, .int .i64 ok, .int .i64 oa, .string (bs os), .string (bs oo), .int .i64 undo, .int .i64 index, .string (bs key), .int .u32 rpage, .int .i64 rslot, .bool live, VA, VB] (0, 0) _ HB.out Try.underlying35 rfl (by kernel_rfl) ?_) | (go_at_call 7; refine (HENC.out _ HK.out).mono ?_; rintro e w1 ⟨rfl, hb1⟩; have HK1 := Lib.hid (bstep HK.out hb1); clear hb1) | (go_at_call 8; refine (awake04 _).mono ?_; rintro e w2 ⟨rfl, hb2⟩; have HK2 := Lib.hid (bstep HK1.out hb2); clear hb2))
  have hks : (k : Int) ≤ s.length := by omega
  have hml : ¬ more.length = 0 := fun h => hm0 (List.eq_nil_of_length_eq_zero h)
  go_upto_region 6 with (first | (go_at_call 9; with_reducible refine (hdk.out _).mono ?_; rintro e w3 ⟨⟨_, hn⟩, hb3⟩; obtain rfl := hn (HD1.out k hk); have HK3 := Lib.hid (bstep HK2.out hb3); clear hn hb3))
  go_upto_region 9 with (first | (go_at_call 9; with_reducible refine (hdm.out _).mono ?_; rintro e w4 ⟨⟨_, hn⟩, hb4⟩; obtain rfl := hn (HD2.out more hm0); have HK4 := Lib.hid (bstep (by repeat (first | (with_reducible exact HK3.out) | (with_reducible apply balloc))) hb4); clear hn hb4))
  go_wp2
  go_ret
  exact ⟨rfl, by repeat (first | (with_reducible exact HK4.out) | (with_reducible apply balloc))⟩
end Go.Proofs.Ytebickoieipjpaa
