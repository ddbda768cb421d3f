import Derived.Test.YtebickoieipjpaaRecBytes
import Derived.Test.YtebickoieipjpaaWriter
import Derived.Test.YtebickoieipjpaaEv
import Derived.Deep.DeepCutAuto
import Derived.Handy
namespace Go.Proofs.Ytebickoieipjpaa
open Go.RowKit Go.Gi
set_option maxRecDepth 20000
set_option linter.unusedSimpArgs false
set_option linter.unusedVariables false

theorem cells17 {w : World} {g T : Nat} {kind tx prev next page ok oa : Int} {os oo : List UInt8} {undo index : Int} {key : List UInt8} {rpage rslot : Int} {live : Bool} {V10 V11 : Value}
    (h : Blk w g T #[.int .i64 kind, .int .i64 tx, .int .u64 prev, .int .u64 next, .int .u32 page, .int .i64 ok, .int .i64 oa, .string (bs os), .string (bs oo), .int .i64 undo, .int .i64 index, .string (bs key), .int .u32 rpage, .int .i64 rslot, .bool live, V10, V11]) :
    w.cell? ⟨g, 4, none⟩ = some (.int .u32 page) ∧ w.cell? ⟨g, 5, none⟩ = some (.int .i64 ok) ∧ w.cell? ⟨g, 6, none⟩ = some (.int .i64 oa) ∧ w.cell? ⟨g, 7, none⟩ = some (.string (bs os)) ∧ w.cell? ⟨g, 8, none⟩ = some (.string (bs oo))
    ∧ w.cell? ⟨g, 9, none⟩ = some (.int .i64 undo) ∧ w.cell? ⟨g, 10, none⟩ = some (.int .i64 index) ∧ w.cell? ⟨g, 11, none⟩ = some (.string (bs key)) ∧ w.cell? ⟨g, 12, none⟩ = some (.int .u32 rpage) ∧ w.cell? ⟨g, 13, none⟩ = some (.int .i64 rslot) ∧ w.cell? ⟨g, 14, none⟩ = some (.bool live) :=
  ⟨h.cell 4, h.cell 5, h.cell 6, h.cell 7, h.cell 8, h.cell 9, h.cell 10, h.cell 11, h.cell 12, h.cell 13, h.cell 14⟩

set_option maxHeartbeats 16000000 in
theorem putChange_any {w : World} {base g : Nat} {ro : Option Nat} {l : List UInt8} (h : Wr w 94 5 base g ro l) (r : RecR) (A : Option Addr) (c : Nat) (B : Option Addr) (d : Nat) (hl : l.length ≤ 1000)
    (hp : 0 ≤ r.page ∧ r.page ≤ 4294967295) (hrp : 0 ≤ r.rpage ∧ r.rpage ≤ 4294967295) (hk : 0 ≤ r.ok ∧ r.ok ≤ 65535) (ha : 0 ≤ r.oa ∧ r.oa ≤ 65535) (hs : r.os.length ≤ 65535) (ho : r.oo.length ≤ 65535) (hu : 0 ≤ r.undo ∧ r.undo ≤ 2) (hi : 0 ≤ r.index ∧ r.index ≤ 65535) (hkk : r.key.length ≤ 65535) (hrs : 0 ≤ r.rslot ∧ r.rslot ≤ 65535) :
    Calls Try.prog 20 #[.pointer (some ⟨g, 0, none⟩), r.val A c B d] w fun e w' => e = .returned (.tuple #[]) ∧ ∃ ro', Wr w' 94 5 base g ro' (l ++ chB r) ∧ WK w w' g ro ro' := by
  obtain ⟨kind, tx, prev, next, page, ok, oa, os, oo, undo, index, key, rpage, rslot, live, txs, dirty⟩ := r
  unfold chB keyB txB
  simp only [] at hp hrp hk ha hs ho hu hi hkk hrs ⊢
  show Calls Try.prog 20 #[.pointer (some ⟨g, 0, none⟩), .agg #[.int .i64 kind, .int .i64 tx, .int .u64 prev, .int .u64 next, .int .u32 page, .int .i64 ok, .int .i64 oa, .string (bs os), .string (bs oo), .int .i64 undo, .int .i64 index, .string (bs key), .int .u32 rpage, .int .i64 rslot, .bool live, .slice A txs.length c, .slice B dirty.length d]] w _
  generalize hL : l ++ (putL 4 page.toNat ++ putL 1 ok.toNat ++ putL 2 oa.toNat ++ (putL 2 os.length ++ os) ++ (putL 2 oo.length ++ oo) ++ putL 1 undo.toNat ++ (if undo = 2 then putL 2 index.toNat ++ (putL 2 key.length ++ key) ++ putL 4 rpage.toNat ++ putL 2 rslot.toNat ++ [if live = true then 1 else 0] else [])) = L
  have HL := Lib.hid hL
  clear hL
  have HW := Lib.hid h
  clear h
  generalize Value.slice A txs.length c = VA
  generalize Value.slice B dirty.length d = VB
  have hs' : (bs os).size ≤ 65535 := by rw [bs_size]; exact hs
  have ho' : (bs oo).size ≤ 65535 := by rw [bs_size]; exact ho
  have hkk' : (bs key).size ≤ 65535 := by rw [bs_size]; exact hkk
  have Hs := Lib.hid hs'
  have Ho := Lib.hid ho'
  have Hk := Lib.hid hkk'
  clear hs' ho' hkk'
  go_enter Try.func20, Try.ntmps20
  go_upto_region 1 with fail
  have hB := Blk.new w 35 #[.int .i64 kind, .int .i64 tx, .int .u64 prev, .int .u64 next, .int .u32 page, .int .i64 ok, .int .i64 oa, .string (bs os), .string (bs oo), .int .i64 undo, .int .i64 index, .string (bs key), .int .u32 rpage, .int .i64 rslot, .bool live, VA, VB]
  have hW := balloc (Below.refl w.heap.size w) (.cells #[.int .i64 kind, .int .i64 tx, .int .u64 prev, .int .u64 next, .int .u32 page, .int .i64 ok, .int .i64 oa, .string (bs os), .string (bs oo), .int .i64 undo, .int .i64 index, .string (bs key), .int .u32 rpage, .int .i64 rslot, .bool live, VA, VB] 35)
  generalize w.alloc (.cells #[.int .i64 kind, .int .i64 tx, .int .u64 prev, .int .u64 next, .int .u32 page, .int .i64 ok, .int .i64 oa, .string (bs os), .string (bs oo), .int .i64 undo, .int .i64 index, .string (bs key), .int .u32 rpage, .int .i64 rslot, .bool live, VA, VB] 35) = w0 at *
  generalize Value.agg #[.int .i64 kind, .int .i64 tx, .int .u64 prev, .int .u64 next, .int .u32 page, .int .i64 ok, .int .i64 oa, .string (bs os), .string (bs oo), .int .i64 undo, .int .i64 index, .string (bs key), .int .u32 rpage, .int .i64 rslot, .bool live, VA, VB] = V0 at *
  generalize hg1 : w.heap.size = g1 at *
  have HG := Lib.hid hg1
  obtain ⟨c4, c5, c6, c7, c8, c9, c10, c11, c12, c13, c14⟩ := cells17 hB
  have HK := Lib.hid (WK.pre (by rw [hg1]; exact hW) (WK.refl w0 g ro))
  have HW0 := Lib.hid (HW.out.step (by rw [hg1]; exact hW))
  have HB := Lib.hid hB
  clear hB hW hg1 HW
  have HW := HW0
  clear HW0
  by_cases hu2 : undo = 2
  · have hub : (undo == 2) = true := by simp [hu2]
    have HU := Lib.hid hu2
    clear hu2
    go_wp2_with (first | (go_at_call 18; refine (wnumber_any HW.out _ _ (by omega) (by omega) (by simp [clamp8, putL_length]; omega)).mono ?_; rintro e w1 ⟨rfl, r1, h1, k1⟩; clear c4 c5 c6 c7 c8 c9 c10 c11 c12 c13 c14; obtain ⟨c4, c5, c6, c7, c8, c9, c10, c11, c12, c13, c14⟩ := cells17 (WK.blk HW.out k1 HB.out (by decide) (by decide)); have HB1 := Lib.hid (WK.blk HW.out k1 HB.out (by decide) (by decide)); have HK1 := Lib.hid (HK.out.trans k1); have HW1 := Lib.hid h1; clear HW HB HK h1 k1; have HW := HW1; have HB := HB1; have HK := HK1; clear HW1 HB1 HK1) | (go_at_call 40; refine (wtext_ok HW.out _ (by first | exact Hs.out | exact Ho.out | exact Hk.out) (by simp [clamp8, putL_length]; omega)).mono ?_; rintro e w1 ⟨rfl, r1, h1, k1⟩; rw [toList_bs, bs_size] at h1; clear c4 c5 c6 c7 c8 c9 c10 c11 c12 c13 c14; obtain ⟨c4, c5, c6, c7, c8, c9, c10, c11, c12, c13, c14⟩ := cells17 (WK.blk HW.out k1 HB.out (by decide) (by decide)); have HB1 := Lib.hid (WK.blk HW.out k1 HB.out (by decide) (by decide)); have HK1 := Lib.hid (HK.out.trans k1); have HW1 := Lib.hid h1; clear HW HB HK h1 k1; have HW := HW1; have HB := HB1; have HK := HK1; clear HW1 HB1 HK1) | (go_at_call 41; refine (wbool_any HW.out _ (by simp [clamp8, putL_length]; omega)).mono ?_; rintro e w1 ⟨rfl, r1, h1, k1⟩; clear c4 c5 c6 c7 c8 c9 c10 c11 c12 c13 c14; obtain ⟨c4, c5, c6, c7, c8, c9, c10, c11, c12, c13, c14⟩ := cells17 (WK.blk HW.out k1 HB.out (by decide) (by decide)); have HB1 := Lib.hid (WK.blk HW.out k1 HB.out (by decide) (by decide)); have HK1 := Lib.hid (HK.out.trans k1); have HW1 := Lib.hid h1; clear HW HB HK h1 k1; have HW := HW1; have HB := HB1; have HK := HK1; clear HW1 HB1 HK1))
    go_end0
    refine ⟨rfl, r1, ?_, HK.out⟩
    rw [← HL.out, if_pos HU.out]
    have := HW.out
    simp only [c8_1, c8_2, c8_4, c8_8, List.append_assoc] at this ⊢
    exact this
  · have hub : (undo == 2) = false := by simp [hu2]
    have HU := Lib.hid hu2
    clear hu2
    go_wp2_with (first | (go_at_call 18; refine (wnumber_any HW.out _ _ (by omega) (by omega) (by simp [clamp8, putL_length]; omega)).mono ?_; rintro e w1 ⟨rfl, r1, h1, k1⟩; clear c4 c5 c6 c7 c8 c9 c10 c11 c12 c13 c14; obtain ⟨c4, c5, c6, c7, c8, c9, c10, c11, c12, c13, c14⟩ := cells17 (WK.blk HW.out k1 HB.out (by decide) (by decide)); have HB1 := Lib.hid (WK.blk HW.out k1 HB.out (by decide) (by decide)); have HK1 := Lib.hid (HK.out.trans k1); have HW1 := Lib.hid h1; clear HW HB HK h1 k1; have HW := HW1; have HB := HB1; have HK := HK1; clear HW1 HB1 HK1) | (go_at_call 40; refine (wtext_ok HW.out _ (by first | exact Hs.out | exact Ho.out | exact Hk.out) (by simp [clamp8, putL_length]; omega)).mono ?_; rintro e w1 ⟨rfl, r1, h1, k1⟩; rw [toList_bs, bs_size] at h1; clear c4 c5 c6 c7 c8 c9 c10 c11 c12 c13 c14; obtain ⟨c4, c5, c6, c7, c8, c9, c10, c11, c12, c13, c14⟩ := cells17 (WK.blk HW.out k1 HB.out (by decide) (by decide)); have HB1 := Lib.hid (WK.blk HW.out k1 HB.out (by decide) (by decide)); have HK1 := Lib.hid (HK.out.trans k1); have HW1 := Lib.hid h1; clear HW HB HK h1 k1; have HW := HW1; have HB := HB1; have HK := HK1; clear HW1 HB1 HK1) | (go_at_call 41; refine (wbool_any HW.out _ (by simp [clamp8, putL_length]; omega)).mono ?_; rintro e w1 ⟨rfl, r1, h1, k1⟩; clear c4 c5 c6 c7 c8 c9 c10 c11 c12 c13 c14; obtain ⟨c4, c5, c6, c7, c8, c9, c10, c11, c12, c13, c14⟩ := cells17 (WK.blk HW.out k1 HB.out (by decide) (by decide)); have HB1 := Lib.hid (WK.blk HW.out k1 HB.out (by decide) (by decide)); have HK1 := Lib.hid (HK.out.trans k1); have HW1 := Lib.hid h1; clear HW HB HK h1 k1; have HW := HW1; have HB := HB1; have HK := HK1; clear HW1 HB1 HK1))
    go_end0
    refine ⟨rfl, r1, ?_, HK.out⟩
    rw [← HL.out, if_neg HU.out]
    have := HW.out
    simp only [c8_1, c8_2, c8_4, c8_8, List.append_assoc, List.append_nil] at this ⊢
    exact this
end Go.Proofs.Ytebickoieipjpaa
