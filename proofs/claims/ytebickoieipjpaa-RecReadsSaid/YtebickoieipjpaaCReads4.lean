import Derived.Test.YtebickoieipjpaaCReads3
section
namespace Go.Proofs.Ytebickoieipjpaa.PRr
open Go.RowKit Go.Gi Go.Proofs.Ytebickoieipjpaa Go.Proofs.YtebickoieipjpaaW.PrintWords Go.Proofs.YtebickoieipjpaaW.PrintLast Go.Proofs.YtebickoieipjpaaW.PrintMore
set_option maxRecDepth 20000
set_option linter.unusedSimpArgs false
set_option linter.unusedVariables false
def sSt (t : StR) : S56 := ⟨t.tx, t.st, t.last, t.next⟩
def sDi (t : DiR) : S58 := ⟨t.page, t.lsn⟩
theorem put_f {n long : Int} {c : Nat} (h0 : 0 ≤ n) (h1 : n ≤ 18446744073709551615) (hc : clamp8 long = c) : girderref01_Put.f n long = some (bs (putL c n.toNat)) := by
  unfold girderref01_Put.f
  rw [if_pos ⟨h0, h1⟩, hc]
theorem putw_f {n long : Int} {c : Nat} (h0 : 0 ≤ n) (h1 : n ≤ 9223372036854775807) (hc : clamp8 long = c) : girderref01_Put.f (IntKind.u64.wrap n) long = some (bs (putL c n.toNat)) := by
  rw [show IntKind.u64.wrap n = n by rw [IntKind.wrap_u64]; omega]
  exact put_f h0 (by omega) hc
theorem text_f {s : List UInt8} (h : s.length ≤ 1000000) : girderref04_text.f (bs s) = some (bs (txB s)) := by
  unfold girderref04_text.f txB
  rw [if_pos (by rw [bs_size]; omega), bs_size, toList_bs]
theorem cat_f {a b : List UInt8} (h : a.length + b.length ≤ 1000000000) {α : Type} (X : ByteArray → Option α) : (if (bs a).size + (bs b).size ≤ 9223372036854775807 then X (bs a ++ bs b) else none) = X (bs (a ++ b)) := by
  rw [bs_size, bs_size, if_pos (by omega), bs_append]
theorem rdDi_at (l : List DiR) (i : Nat) (h : i < l.length) : rd_T58 (l.map sDi) (i : Int) = sDi l[i] := by
  unfold rd_T58
  simp [List.getD_eq_getElem?_getD, List.getElem?_eq_getElem h]
section
variable (a0 a1 a2 a3 a4 a5 a6 : Int) (a7 a8 : ByteArray) (a9 a10 : Int) (a11 : ByteArray) (a12 a13 : Int) (a14 : Bool) (T : List S56)
theorem l1_f (D : List DiR) (hD : ∀ t ∈ D, (0 ≤ t.page ∧ t.page ≤ 4294967295) ∧ 0 ≤ t.lsn ∧ t.lsn ≤ 18446744073709551615) (hl : D.length ≤ 256) : ∀ (n i k : Nat) (acc : List UInt8), i + n = D.length → n < k → acc.length + 12 * n ≤ 100000000 →
    girderref04_Bytes.l1 k (bs acc) i a0 a1 a2 a3 a4 a5 a6 a7 a8 a9 a10 a11 a12 a13 a14 T (D.map sDi) = some (bs (acc ++ disB (D.drop i))) := by
  intro n
  induction n with
  | zero =>
    intro i k acc h1 h2 h3
    obtain ⟨k, rfl⟩ : ∃ m, k = m + 1 := ⟨k - 1, by omega⟩
    rw [girderref04_Bytes.l1, if_neg (by simp; omega), List.drop_of_length_le (by omega)]
    simp [disB]
  | succ n ih =>
    intro i k acc h1 h2 h3
    obtain ⟨k, rfl⟩ : ∃ m, k = m + 1 := ⟨k - 1, by omega⟩
    have hi : i < D.length := by omega
    have hd := hD _ (List.getElem_mem hi)
    have hlen := diB_len D[i]
    rw [girderref04_Bytes.l1, if_pos (by simp; omega), if_pos (by omega), rdDi_at D i hi]
    rw [show (sDi D[i]).f0 = D[i].page from rfl, show (sDi D[i]).f1 = D[i].lsn from rfl, putw_f (c := 4) hd.1.1 (by omega) rfl, Option.bind_some, put_f (c := 8) hd.2.1 hd.2.2 rfl, Option.bind_some]
    rw [cat_f (by simp [putL_length]) (fun z => if (bs acc).size + z.size ≤ 9223372036854775807 then girderref04_Bytes.l1 k (bs acc ++ z) (wrap64 ((i : Int) + 1)) a0 a1 a2 a3 a4 a5 a6 a7 a8 a9 a10 a11 a12 a13 a14 T (D.map sDi) else none)]
    rw [cat_f (by simp [putL_length]; omega) (fun z => girderref04_Bytes.l1 k z (wrap64 ((i : Int) + 1)) a0 a1 a2 a3 a4 a5 a6 a7 a8 a9 a10 a11 a12 a13 a14 T (D.map sDi))]
    rw [show wrap64 ((i : Int) + 1) = ((i + 1 : Nat) : Int) by unfold wrap64; omega, ih (i + 1) k _ (by omega) (by omega) (by simp [putL_length]; omega)]
    have e : disB (D.drop i) = diB D[i] ++ disB (D.drop (i + 1)) := by rw [List.drop_eq_getElem_cons hi]; rfl
    rw [e]
    simp only [diB, List.append_assoc]
theorem rdSt_at (l : List StR) (i : Nat) (h : i < l.length) : rd_T56 (l.map sSt) (i : Int) = sSt l[i] := by
  unfold rd_T56
  simp [List.getD_eq_getElem?_getD, List.getElem?_eq_getElem h]
theorem l0_f (S : List StR) (hS : ∀ t ∈ S, okSt t) (hS2 : ∀ t ∈ S, (0 ≤ t.last ∧ t.last ≤ 18446744073709551615) ∧ 0 ≤ t.next ∧ t.next ≤ 18446744073709551615) (hs : S.length ≤ 64)
    (D : List DiR) (hD : ∀ t ∈ D, (0 ≤ t.page ∧ t.page ≤ 4294967295) ∧ 0 ≤ t.lsn ∧ t.lsn ≤ 18446744073709551615) (hl : D.length ≤ 256) : ∀ (n i k : Nat) (acc : List UInt8), i + n = S.length → n + D.length + 1 < k → acc.length + 21 * n ≤ 10000000 →
    girderref04_Bytes.l0 k (bs acc) i a0 a1 a2 a3 a4 a5 a6 a7 a8 a9 a10 a11 a12 a13 a14 (S.map sSt) (D.map sDi) = some (bs (acc ++ stsB (S.drop i) ++ putL 2 D.length ++ disB D)) := by
  intro n
  induction n with
  | zero =>
    intro i k acc h1 h2 h3
    obtain ⟨k, rfl⟩ : ∃ m, k = m + 1 := ⟨k - 1, by omega⟩
    rw [girderref04_Bytes.l0, if_neg (by simp; omega), List.length_map, putw_f (c := 2) (by omega) (by omega) rfl, Option.bind_some, Int.toNat_natCast]
    rw [cat_f (by simp [putL_length]; omega) (fun z => girderref04_Bytes.l1 k z 0 a0 a1 a2 a3 a4 a5 a6 a7 a8 a9 a10 a11 a12 a13 a14 (S.map sSt) (D.map sDi))]
    have := l1_f a0 a1 a2 a3 a4 a5 a6 a7 a8 a9 a10 a11 a12 a13 a14 (S.map sSt) D hD hl D.length 0 k (acc ++ putL 2 D.length) (by omega) (by omega) (by simp [putL_length]; omega)
    rw [List.drop_zero] at this
    rw [List.drop_of_length_le (by omega)]
    rw [show ((0 : Nat) : Int) = 0 from rfl] at this
    rw [this]
    simp [stsB]
  | succ n ih =>
    intro i k acc h1 h2 h3
    obtain ⟨k, rfl⟩ : ∃ m, k = m + 1 := ⟨k - 1, by omega⟩
    have hi : i < S.length := by omega
    have ho := hS _ (List.getElem_mem hi)
    have hd := hS2 _ (List.getElem_mem hi)
    unfold okSt at ho
    rw [girderref04_Bytes.l0, if_pos (by simp; omega), if_pos (by omega), rdSt_at S i hi]
    rw [show (sSt S[i]).f0 = S[i].tx from rfl, show (sSt S[i]).f1 = S[i].st from rfl, show (sSt S[i]).f2 = S[i].last from rfl, show (sSt S[i]).f3 = S[i].next from rfl, putw_f (c := 4) ho.1 (by omega) rfl, Option.bind_some, putw_f (c := 1) (by omega) (by omega) rfl, Option.bind_some, put_f (c := 8) hd.1.1 hd.1.2 rfl, put_f (c := 8) hd.2.1 hd.2.2 rfl]
    simp only [Option.bind_some, bs_append, bs_size, List.length_append, putL_length]
    rw [if_pos (by omega), if_pos (by omega), if_pos (by omega), if_pos (by omega)]
    rw [show wrap64 ((i : Int) + 1) = ((i + 1 : Nat) : Int) by unfold wrap64; omega, ih (i + 1) k _ (by omega) (by omega) (by simp [putL_length]; omega)]
    have e : stsB (S.drop i) = stB S[i] ++ stsB (S.drop (i + 1)) := by rw [List.drop_eq_getElem_cons hi]; rfl
    rw [e]
    simp only [stB, List.append_assoc]
end
end Go.Proofs.Ytebickoieipjpaa.PRr
end
section
namespace Go.Proofs.Ytebickoieipjpaa
open Go.RowKit Go.Gi Go.GiRow Go.Proofs.YtebickoieipjpaaW.PrintWords Go.Proofs.YtebickoieipjpaaW.PrintLast Go.Proofs.YtebickoieipjpaaW.PrintMore
set_option maxRecDepth 20000
set_option linter.unusedSimpArgs false
set_option linter.unusedVariables false
theorem infoRS : (Try.prog.info? 56).map (fun i => (i.zero, i.size, i.bytes)) = some (some (.agg #[.int .i64 0, .int .i64 0, .int .u64 0, .int .u64 0]), 4, 32) := by kernel_rfl
theorem infoRD : (Try.prog.info? 58).map (fun i => (i.zero, i.size, i.bytes)) = some (some (.agg #[.int .u32 0, .int .u64 0]), 2, 16) := by kernel_rfl
theorem refCells {w : World} {g T : Nat} {kind tx prev next page ok oa : Int} {os oo : List UInt8} {undo index : Int} {key : List UInt8} {rpage rslot : Int} {live : Bool} {VA VB : Value} (h : Blk w g T #[.int .i64 kind, .int .i64 tx, .int .u64 prev, .int .u64 next, .int .u32 page, .int .i64 ok, .int .i64 oa, .string (bs os), .string (bs oo), .int .i64 undo, .int .i64 index, .string (bs key), .int .u32 rpage, .int .i64 rslot, .bool live, VA, VB]) : w.cell? ⟨g, 0, none⟩ = some (.int .i64 kind) ∧ w.cell? ⟨g, 1, none⟩ = some (.int .i64 tx) ∧ w.cell? ⟨g, 2, none⟩ = some (.int .u64 prev) ∧ w.cell? ⟨g, 3, none⟩ = some (.int .u64 next) ∧ w.cell? ⟨g, 4, none⟩ = some (.int .u32 page) ∧ w.cell? ⟨g, 5, none⟩ = some (.int .i64 ok) ∧ w.cell? ⟨g, 6, none⟩ = some (.int .i64 oa) ∧ w.cell? ⟨g, 7, none⟩ = some (.string (bs os)) ∧ w.cell? ⟨g, 8, none⟩ = some (.string (bs oo)) ∧ w.cell? ⟨g, 9, none⟩ = some (.int .i64 undo) ∧ w.cell? ⟨g, 10, none⟩ = some (.int .i64 index) ∧ w.cell? ⟨g, 11, none⟩ = some (.string (bs key)) ∧ w.cell? ⟨g, 12, none⟩ = some (.int .u32 rpage) ∧ w.cell? ⟨g, 13, none⟩ = some (.int .i64 rslot) ∧ w.cell? ⟨g, 14, none⟩ = some (.bool live) ∧ w.cell? ⟨g, 15, none⟩ = some (VA) ∧ w.cell? ⟨g, 16, none⟩ = some (VB) :=
  ⟨h.cell 0, h.cell 1, h.cell 2, h.cell 3, h.cell 4, h.cell 5, h.cell 6, h.cell 7, h.cell 8, h.cell 9, h.cell 10, h.cell 11, h.cell 12, h.cell 13, h.cell 14, h.cell 15, h.cell 16⟩
theorem rflat_snoc {α : Type} (enc : α → List Value) (l : List α) (k : Nat) (h : k < l.length) : ((l.take (k + 1)).map enc).flatten = ((l.take k).map enc).flatten ++ enc l[k] := by
  rw [List.take_succ_eq_append_getElem h, List.map_append, List.flatten_append]; simp
def refVal (r : RecR) (vT vD : Value) : Value := .agg #[.int .i64 r.kind, .int .i64 r.tx, .int .u64 r.prev, .int .u64 r.next, .int .u32 r.page, .int .i64 r.ok, .int .i64 r.oa, .string (bs r.os), .string (bs r.oo), .int .i64 r.undo, .int .i64 r.index, .string (bs r.key), .int .u32 r.rpage, .int .i64 r.rslot, .bool r.live, vT, vD]
def RefPost (r : RecR) (w : World) (e : Ending) (w' : World) : Prop := (∃ vT vD, e = .returned (refVal r vT vD) ∧ w'.ownsRow w.heap.size 56 4 vT r.txs.length (r.txs.map StR.cells).flatten ∧ w'.ownsRow w.heap.size 58 2 vD r.dirty.length (r.dirty.map DiR.cells).flatten) ∧ Below w.heap.size w w'
set_option maxHeartbeats 16000000 in
theorem ref_any (r : RecR) (A : Option Addr) (c : Nat) (B : Option Addr) (d : Nat) (w : World) (hA : RdRows StR.cells 4 w A r.txs) (hD : RdRows DiR.cells 2 w B r.dirty) (hl : r.txs.length * 32 ≤ 140737488351232) (hd : r.dirty.length * 16 ≤ 140737488351232) :
    Calls Try.prog 13 #[r.val A c B d] w (RefPost r w) := by
  have HPOST : Hid (∀ e w', RefPost r w e w' = RefPost r w e w') := fun _ _ => rfl
  obtain ⟨kind, tx, prev, next, page, ok, oa, os, oo, undo, index, key, rpage, rslot, live, txs, dirty⟩ := r
  unfold RecR.val RecR.cells
  simp only at hA hD hl hd ⊢
  have HA := Lib.hid hA
  have HD := Lib.hid hD
  clear hA hD HPOST
  obtain ⟨VA, hVA⟩ : ∃ V, V = Value.slice A txs.length c := ⟨_, rfl⟩
  obtain ⟨VB, hVB⟩ : ∃ V, V = Value.slice B dirty.length d := ⟨_, rfl⟩
  rw [← hVA, ← hVB]
  obtain ⟨rr, hrr⟩ : ∃ rr, rr = RecR.mk kind tx prev next page ok oa os oo undo index key rpage rslot live txs dirty := ⟨_, rfl⟩
  rw [← hrr]
  obtain ⟨ab, hab⟩ : ∃ ab, ab = w.heap.size := ⟨_, rfl⟩
  have HVA := Lib.hid hVA
  have HVB := Lib.hid hVB
  have HRR := Lib.hid hrr
  have HAB := Lib.hid hab
  clear hVA hVB hrr hab
  go_enter Try.func13, Try.ntmps13
  go_upto_region 1 with fail
  have hB1 : Blk ((w.alloc (.cells #[.int .i64 kind, .int .i64 tx, .int .u64 prev, .int .u64 next, .int .u32 page, .int .i64 ok, .int .i64 oa, .string (bs os), .string (bs oo), .int .i64 undo, .int .i64 index, .string (bs key), .int .u32 rpage, .int .i64 rslot, .bool live, VA, VB] 35)).alloc (.cells #[.int .i64 0, .int .i64 0, .int .u64 0, .int .u64 0, .int .u32 0, .int .i64 0, .int .i64 0, .string ⟨#[]⟩, .string ⟨#[]⟩, .int .i64 0, .int .i64 0, .string ⟨#[]⟩, .int .u32 0, .int .i64 0, .bool false, .slice none 0 0, .slice none 0 0] 47)) w.heap.size 35 #[.int .i64 kind, .int .i64 tx, .int .u64 prev, .int .u64 next, .int .u32 page, .int .i64 ok, .int .i64 oa, .string (bs os), .string (bs oo), .int .i64 undo, .int .i64 index, .string (bs key), .int .u32 rpage, .int .i64 rslot, .bool live, VA, VB] := (Blk.new w 35 #[.int .i64 kind, .int .i64 tx, .int .u64 prev, .int .u64 next, .int .u32 page, .int .i64 ok, .int .i64 oa, .string (bs os), .string (bs oo), .int .i64 undo, .int .i64 index, .string (bs key), .int .u32 rpage, .int .i64 rslot, .bool live, VA, VB]).alloc _
  have hB2 := Blk.new (w.alloc (.cells #[.int .i64 kind, .int .i64 tx, .int .u64 prev, .int .u64 next, .int .u32 page, .int .i64 ok, .int .i64 oa, .string (bs os), .string (bs oo), .int .i64 undo, .int .i64 index, .string (bs key), .int .u32 rpage, .int .i64 rslot, .bool live, VA, VB] 35)) 47 #[.int .i64 0, .int .i64 0, .int .u64 0, .int .u64 0, .int .u32 0, .int .i64 0, .int .i64 0, .string ⟨#[]⟩, .string ⟨#[]⟩, .int .i64 0, .int .i64 0, .string ⟨#[]⟩, .int .u32 0, .int .i64 0, .bool false, .slice none 0 0, .slice none 0 0]
  have hK := balloc (balloc (Below.refl w.heap.size w) (.cells #[.int .i64 kind, .int .i64 tx, .int .u64 prev, .int .u64 next, .int .u32 page, .int .i64 ok, .int .i64 oa, .string (bs os), .string (bs oo), .int .i64 undo, .int .i64 index, .string (bs key), .int .u32 rpage, .int .i64 rslot, .bool live, VA, VB] 35)) (.cells #[.int .i64 0, .int .i64 0, .int .u64 0, .int .u64 0, .int .u32 0, .int .i64 0, .int .i64 0, .string ⟨#[]⟩, .string ⟨#[]⟩, .int .i64 0, .int .i64 0, .string ⟨#[]⟩, .int .u32 0, .int .i64 0, .bool false, .slice none 0 0, .slice none 0 0] 47)
  have hsz : (w.alloc (.cells #[.int .i64 kind, .int .i64 tx, .int .u64 prev, .int .u64 next, .int .u32 page, .int .i64 ok, .int .i64 oa, .string (bs os), .string (bs oo), .int .i64 undo, .int .i64 index, .string (bs key), .int .u32 rpage, .int .i64 rslot, .bool live, VA, VB] 35)).heap.size = w.heap.size + 1 := by simp
  have hsz2 : ((w.alloc (.cells #[.int .i64 kind, .int .i64 tx, .int .u64 prev, .int .u64 next, .int .u32 page, .int .i64 ok, .int .i64 oa, .string (bs os), .string (bs oo), .int .i64 undo, .int .i64 index, .string (bs key), .int .u32 rpage, .int .i64 rslot, .bool live, VA, VB] 35)).alloc (.cells #[.int .i64 0, .int .i64 0, .int .u64 0, .int .u64 0, .int .u32 0, .int .i64 0, .int .i64 0, .string ⟨#[]⟩, .string ⟨#[]⟩, .int .i64 0, .int .i64 0, .string ⟨#[]⟩, .int .u32 0, .int .i64 0, .bool false, .slice none 0 0, .slice none 0 0] 47)).heap.size = w.heap.size + 2 := by simp
  rw [hsz] at hB2
  have HB1 := Lib.hid hB1
  have HB2 := Lib.hid hB2
  have HK := Lib.hid hK
  have HZ := Lib.hid hsz2
  clear hB1 hB2 hK hsz hsz2
  generalize ((w.alloc (.cells #[.int .i64 kind, .int .i64 tx, .int .u64 prev, .int .u64 next, .int .u32 page, .int .i64 ok, .int .i64 oa, .string (bs os), .string (bs oo), .int .i64 undo, .int .i64 index, .string (bs key), .int .u32 rpage, .int .i64 rslot, .bool live, VA, VB] 35)).alloc (.cells #[.int .i64 0, .int .i64 0, .int .u64 0, .int .u64 0, .int .u32 0, .int .i64 0, .int .i64 0, .string ⟨#[]⟩, .string ⟨#[]⟩, .int .i64 0, .int .i64 0, .string ⟨#[]⟩, .int .u32 0, .int .i64 0, .bool false, .slice none 0 0, .slice none 0 0] 47)) = w0 at *
  obtain ⟨p0, p1, p2, p3, p4, p5, p6, p7, p8, p9, p10, p11, p12, p13, p14, p15, p16⟩ := refCells HB1.out
  go_upto_region 2 with ((refine wpList_store_row rfl 47 (.tmp 3) (.tmp 46) rfl w0.heap.size _ rfl rfl 47 _ (Blk.new w0 47 #[.int .i64 0, .int .i64 0, .int .u64 0, .int .u64 0, .int .u32 0, .int .i64 0, .int .i64 0, .string ⟨#[]⟩, .string ⟨#[]⟩, .int .i64 0, .int .i64 0, .string ⟨#[]⟩, .int .u32 0, .int .i64 0, .bool false, .slice none 0 0, .slice none 0 0]) (by kernel_rfl) rfl (by simp [Value.oneCell']) ?_))
  try simp only [Act.put, List.setIfInBounds_toArray, List.set_cons_succ, List.set_cons_zero]
  clear p0 p1 p2 p3 p4 p5 p6 p7 p8 p9 p10 p11 p12 p13 p14 p15 p16
  have hO : Blk ((w0.alloc (.cells #[.int .i64 0, .int .i64 0, .int .u64 0, .int .u64 0, .int .u32 0, .int .i64 0, .int .i64 0, .string ⟨#[]⟩, .string ⟨#[]⟩, .int .i64 0, .int .i64 0, .string ⟨#[]⟩, .int .u32 0, .int .i64 0, .bool false, .slice none 0 0, .slice none 0 0] 47)).setRow w0.heap.size #[.int .i64 kind, .int .i64 tx, .int .u64 prev, .int .u64 next, .int .u32 page, .int .i64 ok, .int .i64 oa, .string (bs os), .string (bs oo), .int .i64 undo, .int .i64 index, .string (bs key), .int .u32 rpage, .int .i64 rslot, .bool live, .slice none 0 0, .slice none 0 0]) w0.heap.size 47 #[.int .i64 kind, .int .i64 tx, .int .u64 prev, .int .u64 next, .int .u32 page, .int .i64 ok, .int .i64 oa, .string (bs os), .string (bs oo), .int .i64 undo, .int .i64 index, .string (bs key), .int .u32 rpage, .int .i64 rslot, .bool live, .slice none 0 0, .slice none 0 0] := blk_setRow (Blk.new w0 47 #[.int .i64 0, .int .i64 0, .int .u64 0, .int .u64 0, .int .u32 0, .int .i64 0, .int .i64 0, .string ⟨#[]⟩, .string ⟨#[]⟩, .int .i64 0, .int .i64 0, .string ⟨#[]⟩, .int .u32 0, .int .i64 0, .bool false, .slice none 0 0, .slice none 0 0])
  have hne : w.heap.size + 2 ≤ w0.heap.size := Nat.le_of_eq HZ.out.symm
  have hb1 : Blk ((w0.alloc (.cells #[.int .i64 0, .int .i64 0, .int .u64 0, .int .u64 0, .int .u32 0, .int .i64 0, .int .i64 0, .string ⟨#[]⟩, .string ⟨#[]⟩, .int .i64 0, .int .i64 0, .string ⟨#[]⟩, .int .u32 0, .int .i64 0, .bool false, .slice none 0 0, .slice none 0 0] 47)).setRow w0.heap.size #[.int .i64 kind, .int .i64 tx, .int .u64 prev, .int .u64 next, .int .u32 page, .int .i64 ok, .int .i64 oa, .string (bs os), .string (bs oo), .int .i64 undo, .int .i64 index, .string (bs key), .int .u32 rpage, .int .i64 rslot, .bool live, .slice none 0 0, .slice none 0 0]) w.heap.size 35 #[.int .i64 kind, .int .i64 tx, .int .u64 prev, .int .u64 next, .int .u32 page, .int .i64 ok, .int .i64 oa, .string (bs os), .string (bs oo), .int .i64 undo, .int .i64 index, .string (bs key), .int .u32 rpage, .int .i64 rslot, .bool live, VA, VB] := by
    refine Eq.trans (setRow_other _ _ _ _ (by omega)) (HB1.out.alloc _)
  have hb2 : Blk ((w0.alloc (.cells #[.int .i64 0, .int .i64 0, .int .u64 0, .int .u64 0, .int .u32 0, .int .i64 0, .int .i64 0, .string ⟨#[]⟩, .string ⟨#[]⟩, .int .i64 0, .int .i64 0, .string ⟨#[]⟩, .int .u32 0, .int .i64 0, .bool false, .slice none 0 0, .slice none 0 0] 47)).setRow w0.heap.size #[.int .i64 kind, .int .i64 tx, .int .u64 prev, .int .u64 next, .int .u32 page, .int .i64 ok, .int .i64 oa, .string (bs os), .string (bs oo), .int .i64 undo, .int .i64 index, .string (bs key), .int .u32 rpage, .int .i64 rslot, .bool live, .slice none 0 0, .slice none 0 0]) (w.heap.size + 1) 47 #[.int .i64 0, .int .i64 0, .int .u64 0, .int .u64 0, .int .u32 0, .int .i64 0, .int .i64 0, .string ⟨#[]⟩, .string ⟨#[]⟩, .int .i64 0, .int .i64 0, .string ⟨#[]⟩, .int .u32 0, .int .i64 0, .bool false, .slice none 0 0, .slice none 0 0] := by
    refine Eq.trans (setRow_other _ _ _ _ (by omega)) (HB2.out.alloc _)
  have hk : Below w.heap.size w ((w0.alloc (.cells #[.int .i64 0, .int .i64 0, .int .u64 0, .int .u64 0, .int .u32 0, .int .i64 0, .int .i64 0, .string ⟨#[]⟩, .string ⟨#[]⟩, .int .i64 0, .int .i64 0, .string ⟨#[]⟩, .int .u32 0, .int .i64 0, .bool false, .slice none 0 0, .slice none 0 0] 47)).setRow w0.heap.size #[.int .i64 kind, .int .i64 tx, .int .u64 prev, .int .u64 next, .int .u32 page, .int .i64 ok, .int .i64 oa, .string (bs os), .string (bs oo), .int .i64 undo, .int .i64 index, .string (bs key), .int .u32 rpage, .int .i64 rslot, .bool live, .slice none 0 0, .slice none 0 0]) := setRow_below (balloc HK.out _) (by omega) _
  have HO := Lib.hid hO
  have HX1 := Lib.hid hb1
  have HX2 := Lib.hid hb2
  have HX := Lib.hid hk
  obtain ⟨ob, hob⟩ : ∃ ob, ob = w0.heap.size := ⟨_, rfl⟩
  have HNE := Lib.hid hne
  clear hO hb1 hb2 hk hne HB1 HB2 HK HZ
  generalize ((w0.alloc (.cells #[.int .i64 0, .int .i64 0, .int .u64 0, .int .u64 0, .int .u32 0, .int .i64 0, .int .i64 0, .string ⟨#[]⟩, .string ⟨#[]⟩, .int .i64 0, .int .i64 0, .string ⟨#[]⟩, .int .u32 0, .int .i64 0, .bool false, .slice none 0 0, .slice none 0 0] 47)).setRow w0.heap.size #[.int .i64 kind, .int .i64 tx, .int .u64 prev, .int .u64 next, .int .u32 page, .int .i64 ok, .int .i64 oa, .string (bs os), .string (bs oo), .int .i64 undo, .int .i64 index, .string (bs key), .int .u32 rpage, .int .i64 rslot, .bool live, .slice none 0 0, .slice none 0 0]) = w1 at *
  rw [← hob] at *
  clear hob
  clear w0
  have HNE1 := Lib.hid (show ab + 2 ≤ ob from by rw [HAB.out]; exact HNE.out)
  have HOB := Lib.hid (show w.heap.size ≤ ob from Nat.le_trans (Nat.le_add_right _ 2) HNE.out)
  go_wp2
  go_loopw [4] (fun s4 wr => ∃ (k : Nat) (vT : Value), s4 = .int .i64 k ∧ k ≤ txs.length ∧ Blk wr w.heap.size 35 #[.int .i64 kind, .int .i64 tx, .int .u64 prev, .int .u64 next, .int .u32 page, .int .i64 ok, .int .i64 oa, .string (bs os), .string (bs oo), .int .i64 undo, .int .i64 index, .string (bs key), .int .u32 rpage, .int .i64 rslot, .bool live, VA, VB] ∧ Blk wr (w.heap.size + 1) 47 #[.int .i64 0, .int .i64 0, .int .u64 0, .int .u64 0, .int .u32 0, .int .i64 0, .int .i64 0, .string ⟨#[]⟩, .string ⟨#[]⟩, .int .i64 0, .int .i64 0, .string ⟨#[]⟩, .int .u32 0, .int .i64 0, .bool false, .slice none 0 0, .slice none 0 0] ∧ Blk wr ob 47 #[.int .i64 kind, .int .i64 tx, .int .u64 prev, .int .u64 next, .int .u32 page, .int .i64 ok, .int .i64 oa, .string (bs os), .string (bs oo), .int .i64 undo, .int .i64 index, .string (bs key), .int .u32 rpage, .int .i64 rslot, .bool live, vT, .slice none 0 0] ∧ wr.ownsRow w.heap.size 56 4 vT k ((txs.take k).map StR.cells).flatten ∧ Below w.heap.size w wr)
    (fun s4 _ => txs.length - (intOf s4).toNat)
  case atStart => exact ⟨0, _, rfl, Nat.zero_le _, HX1.out, HX2.out, HO.out, World.ownsRow_nil _ _ _ _, HX.out⟩
  case round =>
    obtain ⟨k, vT, rfl, hk, hb1, hb2, ho, ht, hx⟩ := hrel
    clear HX1 HX2 HO HX
    have HX1 := Lib.hid hb1
    have HX2 := Lib.hid hb2
    have HO := Lib.hid ho
    have HX := Lib.hid hx
    have HT := Lib.hid ht
    clear hb1 hb2 ho hx ht
    have q15 : wr.cell? ⟨w.heap.size, 15, none⟩ = some VA := HX1.out.cell 15
    have q16 : wr.cell? ⟨w.heap.size, 16, none⟩ = some VB := HX1.out.cell 16
    by_cases hlt : k < txs.length
    · have hal := HA.out k hlt
      obtain ⟨eb, off, hA, heb, hc⟩ := hal
      have HFL := Lib.hid (rflat_snoc StR.cells txs k hlt)
      generalize txs[k] = s at *
      obtain ⟨s0, s1, s2, s3⟩ := s
      have i0_ : (0 : Int) ≤ k := by omega
      have i1_ : (k : Int) < txs.length := by omega
      have hVAe := HVA.out
      rw [hA] at hVAe
      have HHD := Lib.hid hVAe
      rw [hVAe] at q15
      have HC := Lib.hid hc
      have HEB := Lib.hid heb
      have HLN := Lib.hid (show k + 1 ≤ txs.length ∧ txs.length * 32 ≤ 140737488351232 from ⟨hlt, hl⟩)
      clear hA hVAe hc heb q16
      go_upto_region 5 with fail
      clear q15
      have c15 := HO.out.cell 15
      have q15 := (HX1.out.cell 15).trans (congrArg some HHD.out)
      have y0 := (HX.out.cell (p := ⟨eb, off + k * 4, none⟩) HEB.out).trans (HC.out 0 _ rfl)
      have y1 := (HX.out.cell (p := ⟨eb, off + k * 4 + 1, none⟩) HEB.out).trans (HC.out 1 _ rfl)
      have y2 := (HX.out.cell (p := ⟨eb, off + k * 4 + 2, none⟩) HEB.out).trans (HC.out 2 _ rfl)
      have y3 := (HX.out.cell (p := ⟨eb, off + k * 4 + 3, none⟩) HEB.out).trans (HC.out 3 _ rfl)
      refine start_ (n := 31) (S := fun w' => w'.cell? ⟨ob, 15, none⟩ = some vT ∧ w'.cell? ⟨w.heap.size, 15, none⟩ = some (.slice (some ⟨eb, off, none⟩) txs.length c) ∧ w'.cell? ⟨eb, off + k * 4, none⟩ = some (.int .i64 s0) ∧ w'.cell? ⟨eb, off + k * 4 + 1, none⟩ = some (.int .i64 s1) ∧ w'.cell? ⟨eb, off + k * 4 + 2, none⟩ = some (.int .u64 s2) ∧ w'.cell? ⟨eb, off + k * 4 + 3, none⟩ = some (.int .u64 s3)) (ds := [30]) #[false, false, false, false, false, false, false, false, false, false, false, false, false, false, false, false, false, false, false, false, false, false, false, false, false, false, false, false, false, false, false] (by kernel_rfl) rfl rfl ⟨c15, q15, y0, y1, y2, y3⟩ (fun hHeld => ?_)
      refine pure_ (i := 0) (N := some 54) (v := ?_) (a' := ?_) #[true, false, false, false, false, false, false, false, false, false, false, false, false, false, false, false, false, false, false, false, false, false, false, false, false, false, false, false, false, false, false] rfl rfl (by kernel_rfl) (fun _ _ _ h => h) (Or.inl ⟨by rfl, ?_⟩) ?_ ?_
      rotate_left
      · intro w'
        go_simp
        with_reducible rfl
      rotate_left
      · simp only [Act.put, List.setIfInBounds_toArray, List.set_cons_zero, List.set_cons_succ, i64_w, i32_w]
        rfl
      refine take_ (i := 1) (N := some 55) (v := ?_) (a' := ?_) #[true, true, false, false, false, false, false, false, false, false, false, false, false, false, false, false, false, false, false, false, false, false, false, false, false, false, false, false, false, false, false] rfl rfl (by kernel_rfl) (fun _ _ _ h => h) (Or.inl ⟨by rfl, ?_⟩) hHeld ?_ ?_
      rotate_left
      · rintro w' ⟨s0, s1, s2, s3, s4, s5⟩
        go_simp
        with_reducible rfl
      rotate_left
      · simp only [Act.put, List.setIfInBounds_toArray, List.set_cons_zero, List.set_cons_succ, i64_w, i32_w]
        rfl
      refine pure_ (i := 2) (N := some 56) (v := ?_) (a' := ?_) #[true, true, true, false, false, false, false, false, false, false, false, false, false, false, false, false, false, false, false, false, false, false, false, false, false, false, false, false, false, false, false] rfl rfl (by kernel_rfl) (fun _ _ _ h => h) (Or.inl ⟨by rfl, ?_⟩) ?_ ?_
      rotate_left
      · intro w'
        go_simp
        with_reducible rfl
      rotate_left
      · simp only [Act.put, List.setIfInBounds_toArray, List.set_cons_zero, List.set_cons_succ, i64_w, i32_w]
        rfl
      refine take_ (i := 3) (N := some 57) (v := ?_) (a' := ?_) #[true, true, true, true, false, false, false, false, false, false, false, false, false, false, false, false, false, false, false, false, false, false, false, false, false, false, false, false, false, false, false] rfl rfl (by kernel_rfl) (fun _ _ _ h => h) (Or.inl ⟨by rfl, ?_⟩) hHeld ?_ ?_
      rotate_left
      · rintro w' ⟨s0, s1, s2, s3, s4, s5⟩
        go_simp
        with_reducible rfl
      rotate_left
      · simp only [Act.put, List.setIfInBounds_toArray, List.set_cons_zero, List.set_cons_succ, i64_w, i32_w]
        rfl
      refine pure_ (i := 4) (N := some 58) (v := ?_) (a' := ?_) #[true, true, true, true, true, false, false, false, false, false, false, false, false, false, false, false, false, false, false, false, false, false, false, false, false, false, false, false, false, false, false] rfl rfl (by kernel_rfl) (fun _ _ _ h => h) (Or.inl ⟨by rfl, ?_⟩) ?_ ?_
      rotate_left
      · intro w'
        go_simp
        with_reducible rfl
      rotate_left
      · simp only [Act.put, List.setIfInBounds_toArray, List.set_cons_zero, List.set_cons_succ, i64_w, i32_w]
        rfl
      refine pure_ (i := 5) (N := some 59) (v := ?_) (a' := ?_) #[true, true, true, true, true, true, false, false, false, false, false, false, false, false, false, false, false, false, false, false, false, false, false, false, false, false, false, false, false, false, false] rfl rfl (by kernel_rfl) (fun _ _ _ h => h) (Or.inl ⟨by rfl, ?_⟩) ?_ ?_
      rotate_left
      · intro w'
        go_simp
        with_reducible rfl
      rotate_left
      · simp only [Act.put, List.setIfInBounds_toArray, List.set_cons_zero, List.set_cons_succ, i64_w, i32_w]
        rfl
      refine pure_ (i := 6) (N := some 60) (v := ?_) (a' := ?_) #[true, true, true, true, true, true, true, false, false, false, false, false, false, false, false, false, false, false, false, false, false, false, false, false, false, false, false, false, false, false, false] rfl rfl (by kernel_rfl) (fun _ _ _ h => h) (Or.inl ⟨by rfl, ?_⟩) ?_ ?_
      rotate_left
      · intro w'
        go_simp
        with_reducible rfl
      rotate_left
      · simp only [Act.put, List.setIfInBounds_toArray, List.set_cons_zero, List.set_cons_succ, i64_w, i32_w]
        rfl
      refine take_ (i := 7) (N := some 61) (v := ?_) (a' := ?_) #[true, true, true, true, true, true, true, true, false, false, false, false, false, false, false, false, false, false, false, false, false, false, false, false, false, false, false, false, false, false, false] rfl rfl (by kernel_rfl) (fun _ _ _ h => h) (Or.inl ⟨by rfl, ?_⟩) hHeld ?_ ?_
      rotate_left
      · rintro w' ⟨s0, s1, s2, s3, s4, s5⟩
        go_simp
        with_reducible rfl
      rotate_left
      · simp only [Act.put, List.setIfInBounds_toArray, List.set_cons_zero, List.set_cons_succ, i64_w, i32_w]
        rfl
      refine pure_ (i := 8) (N := some 62) (v := ?_) (a' := ?_) #[true, true, true, true, true, true, true, true, true, false, false, false, false, false, false, false, false, false, false, false, false, false, false, false, false, false, false, false, false, false, false] rfl rfl (by kernel_rfl) (fun _ _ _ h => h) (Or.inl ⟨by rfl, ?_⟩) ?_ ?_
      rotate_left
      · intro w'
        go_simp
        with_reducible rfl
      rotate_left
      · simp only [Act.put, List.setIfInBounds_toArray, List.set_cons_zero, List.set_cons_succ, i64_w, i32_w]
        rfl
      refine take_ (i := 9) (N := some 63) (v := ?_) (a' := ?_) #[true, true, true, true, true, true, true, true, true, true, false, false, false, false, false, false, false, false, false, false, false, false, false, false, false, false, false, false, false, false, false] rfl rfl (by kernel_rfl) (fun _ _ _ h => h) (Or.inl ⟨by rfl, ?_⟩) hHeld ?_ ?_
      rotate_left
      · rintro w' ⟨s0, s1, s2, s3, s4, s5⟩
        go_simp
        with_reducible rfl
      rotate_left
      · simp only [Act.put, List.setIfInBounds_toArray, List.set_cons_zero, List.set_cons_succ, i64_w, i32_w]
        rfl
      refine pure_ (i := 10) (N := some 64) (v := ?_) (a' := ?_) #[true, true, true, true, true, true, true, true, true, true, true, false, false, false, false, false, false, false, false, false, false, false, false, false, false, false, false, false, false, false, false] rfl rfl (by kernel_rfl) (fun _ _ _ h => h) (Or.inl ⟨by rfl, ?_⟩) ?_ ?_
      rotate_left
      · intro w'
        go_simp
        with_reducible rfl
      rotate_left
      · simp only [Act.put, List.setIfInBounds_toArray, List.set_cons_zero, List.set_cons_succ, i64_w, i32_w]
        rfl
      refine pure_ (i := 11) (N := some 65) (v := ?_) (a' := ?_) #[true, true, true, true, true, true, true, true, true, true, true, true, false, false, false, false, false, false, false, false, false, false, false, false, false, false, false, false, false, false, false] rfl rfl (by kernel_rfl) (fun _ _ _ h => h) (Or.inl ⟨by rfl, ?_⟩) ?_ ?_
      rotate_left
      · intro w'
        go_simp
        with_reducible rfl
      rotate_left
      · simp only [Act.put, List.setIfInBounds_toArray, List.set_cons_zero, List.set_cons_succ, i64_w, i32_w]
        rfl
      refine pure_ (i := 12) (N := some 66) (v := ?_) (a' := ?_) #[true, true, true, true, true, true, true, true, true, true, true, true, true, false, false, false, false, false, false, false, false, false, false, false, false, false, false, false, false, false, false] rfl rfl (by kernel_rfl) (fun _ _ _ h => h) (Or.inl ⟨by rfl, ?_⟩) ?_ ?_
      rotate_left
      · intro w'
        go_simp
        with_reducible rfl
      rotate_left
      · simp only [Act.put, List.setIfInBounds_toArray, List.set_cons_zero, List.set_cons_succ, i64_w, i32_w]
        rfl
      refine take_ (i := 13) (N := some 67) (v := ?_) (a' := ?_) #[true, true, true, true, true, true, true, true, true, true, true, true, true, true, false, false, false, false, false, false, false, false, false, false, false, false, false, false, false, false, false] rfl rfl (by kernel_rfl) (fun _ _ _ h => h) (Or.inl ⟨by rfl, ?_⟩) hHeld ?_ ?_
      rotate_left
      · rintro w' ⟨s0, s1, s2, s3, s4, s5⟩
        go_simp
        with_reducible rfl
      rotate_left
      · simp only [Act.put, List.setIfInBounds_toArray, List.set_cons_zero, List.set_cons_succ, i64_w, i32_w]
        rfl
      refine pure_ (i := 14) (N := some 68) (v := ?_) (a' := ?_) #[true, true, true, true, true, true, true, true, true, true, true, true, true, true, true, false, false, false, false, false, false, false, false, false, false, false, false, false, false, false, false] rfl rfl (by kernel_rfl) (fun _ _ _ h => h) (Or.inl ⟨by rfl, ?_⟩) ?_ ?_
      rotate_left
      · intro w'
        go_simp
        with_reducible rfl
      rotate_left
      · simp only [Act.put, List.setIfInBounds_toArray, List.set_cons_zero, List.set_cons_succ, i64_w, i32_w]
        rfl
      refine take_ (i := 15) (N := some 69) (v := ?_) (a' := ?_) #[true, true, true, true, true, true, true, true, true, true, true, true, true, true, true, true, false, false, false, false, false, false, false, false, false, false, false, false, false, false, false] rfl rfl (by kernel_rfl) (fun _ _ _ h => h) (Or.inl ⟨by rfl, ?_⟩) hHeld ?_ ?_
      rotate_left
      · rintro w' ⟨s0, s1, s2, s3, s4, s5⟩
        go_simp
        with_reducible rfl
      rotate_left
      · simp only [Act.put, List.setIfInBounds_toArray, List.set_cons_zero, List.set_cons_succ, i64_w, i32_w]
        rfl
      refine pure_ (i := 16) (N := some 70) (v := ?_) (a' := ?_) #[true, true, true, true, true, true, true, true, true, true, true, true, true, true, true, true, true, false, false, false, false, false, false, false, false, false, false, false, false, false, false] rfl rfl (by kernel_rfl) (fun _ _ _ h => h) (Or.inl ⟨by rfl, ?_⟩) ?_ ?_
      rotate_left
      · intro w'
        go_simp
        with_reducible rfl
      rotate_left
      · simp only [Act.put, List.setIfInBounds_toArray, List.set_cons_zero, List.set_cons_succ, i64_w, i32_w]
        rfl
      refine pure_ (i := 17) (N := some 71) (v := ?_) (a' := ?_) #[true, true, true, true, true, true, true, true, true, true, true, true, true, true, true, true, true, true, false, false, false, false, false, false, false, false, false, false, false, false, false] rfl rfl (by kernel_rfl) (fun _ _ _ h => h) (Or.inl ⟨by rfl, ?_⟩) ?_ ?_
      rotate_left
      · intro w'
        go_simp
        with_reducible rfl
      rotate_left
      · simp only [Act.put, List.setIfInBounds_toArray, List.set_cons_zero, List.set_cons_succ, i64_w, i32_w]
        rfl
      refine pure_ (i := 18) (N := some 72) (v := ?_) (a' := ?_) #[true, true, true, true, true, true, true, true, true, true, true, true, true, true, true, true, true, true, true, false, false, false, false, false, false, false, false, false, false, false, false] rfl rfl (by kernel_rfl) (fun _ _ _ h => h) (Or.inl ⟨by rfl, ?_⟩) ?_ ?_
      rotate_left
      · intro w'
        go_simp
        with_reducible rfl
      rotate_left
      · simp only [Act.put, List.setIfInBounds_toArray, List.set_cons_zero, List.set_cons_succ, i64_w, i32_w]
        rfl
      refine take_ (i := 19) (N := some 73) (v := ?_) (a' := ?_) #[true, true, true, true, true, true, true, true, true, true, true, true, true, true, true, true, true, true, true, true, false, false, false, false, false, false, false, false, false, false, false] rfl rfl (by kernel_rfl) (fun _ _ _ h => h) (Or.inl ⟨by rfl, ?_⟩) hHeld ?_ ?_
      rotate_left
      · rintro w' ⟨s0, s1, s2, s3, s4, s5⟩
        go_simp
        with_reducible rfl
      rotate_left
      · simp only [Act.put, List.setIfInBounds_toArray, List.set_cons_zero, List.set_cons_succ, i64_w, i32_w]
        rfl
      refine pure_ (i := 20) (N := some 74) (v := ?_) (a' := ?_) #[true, true, true, true, true, true, true, true, true, true, true, true, true, true, true, true, true, true, true, true, true, false, false, false, false, false, false, false, false, false, false] rfl rfl (by kernel_rfl) (fun _ _ _ h => h) (Or.inl ⟨by rfl, ?_⟩) ?_ ?_
      rotate_left
      · intro w'
        go_simp
        with_reducible rfl
      rotate_left
      · simp only [Act.put, List.setIfInBounds_toArray, List.set_cons_zero, List.set_cons_succ, i64_w, i32_w]
        rfl
      refine take_ (i := 21) (N := some 75) (v := ?_) (a' := ?_) #[true, true, true, true, true, true, true, true, true, true, true, true, true, true, true, true, true, true, true, true, true, true, false, false, false, false, false, false, false, false, false] rfl rfl (by kernel_rfl) (fun _ _ _ h => h) (Or.inl ⟨by rfl, ?_⟩) hHeld ?_ ?_
      rotate_left
      · rintro w' ⟨s0, s1, s2, s3, s4, s5⟩
        go_simp
        with_reducible rfl
      rotate_left
      · simp only [Act.put, List.setIfInBounds_toArray, List.set_cons_zero, List.set_cons_succ, i64_w, i32_w]
        rfl
      refine pure_ (i := 22) (N := some 76) (v := ?_) (a' := ?_) #[true, true, true, true, true, true, true, true, true, true, true, true, true, true, true, true, true, true, true, true, true, true, true, false, false, false, false, false, false, false, false] rfl rfl (by kernel_rfl) (fun _ _ _ h => h) (Or.inl ⟨by rfl, ?_⟩) ?_ ?_
      rotate_left
      · intro w'
        go_simp
        with_reducible rfl
      rotate_left
      · simp only [Act.put, List.setIfInBounds_toArray, List.set_cons_zero, List.set_cons_succ, i64_w, i32_w]
        rfl
      refine pure_ (i := 23) (N := some 77) (v := ?_) (a' := ?_) #[true, true, true, true, true, true, true, true, true, true, true, true, true, true, true, true, true, true, true, true, true, true, true, true, false, false, false, false, false, false, false] rfl rfl (by kernel_rfl) (fun _ _ _ h => h) (Or.inl ⟨by rfl, ?_⟩) ?_ ?_
      rotate_left
      · intro w'
        go_simp
        with_reducible rfl
      rotate_left
      · simp only [Act.put, List.setIfInBounds_toArray, List.set_cons_zero, List.set_cons_succ, i64_w, i32_w]
        rfl
      refine pure_ (i := 24) (N := some 78) (v := ?_) (a' := ?_) #[true, true, true, true, true, true, true, true, true, true, true, true, true, true, true, true, true, true, true, true, true, true, true, true, true, false, false, false, false, false, false] rfl rfl (by kernel_rfl) (fun _ _ _ h => h) (Or.inl ⟨by rfl, ?_⟩) ?_ ?_
      rotate_left
      · intro w'
        go_simp
        with_reducible rfl
      rotate_left
      · simp only [Act.put, List.setIfInBounds_toArray, List.set_cons_zero, List.set_cons_succ, i64_w, i32_w]
        rfl
      refine take_ (i := 25) (N := some 79) (v := ?_) (a' := ?_) #[true, true, true, true, true, true, true, true, true, true, true, true, true, true, true, true, true, true, true, true, true, true, true, true, true, true, false, false, false, false, false] rfl rfl (by kernel_rfl) (fun _ _ _ h => h) (Or.inl ⟨by rfl, ?_⟩) hHeld ?_ ?_
      rotate_left
      · rintro w' ⟨s0, s1, s2, s3, s4, s5⟩
        go_simp
        with_reducible rfl
      rotate_left
      · simp only [Act.put, List.setIfInBounds_toArray, List.set_cons_zero, List.set_cons_succ, i64_w, i32_w]
        rfl
      refine pure_ (i := 26) (N := some 80) (v := ?_) (a' := ?_) #[true, true, true, true, true, true, true, true, true, true, true, true, true, true, true, true, true, true, true, true, true, true, true, true, true, true, true, false, false, false, false] rfl rfl (by kernel_rfl) (fun _ _ _ h => h) (Or.inl ⟨by rfl, ?_⟩) ?_ ?_
      rotate_left
      · intro w'
        go_simp
        with_reducible rfl
      rotate_left
      · simp only [Act.put, List.setIfInBounds_toArray, List.set_cons_zero, List.set_cons_succ, i64_w, i32_w]
        rfl
      clear c15 q15 y0 y1 y2 y3 hHeld
      have hb5 := bdrew (Below.refl wr.heap.size wr)
      have n_HO := Lib.hid (HO.out.step hb5)
      have n_HX1 := Lib.hid (HX1.out.step hb5)
      have n_HX2 := Lib.hid (HX2.out.step hb5)
      have n_HT := Lib.hid (own_below HT.out hb5)
      have n_HX := Lib.hid (bstep HX.out hb5)
      clear hb5 HO HX1 HX2 HT HX
      have HO := n_HO
      have HX1 := n_HX1
      have HX2 := n_HX2
      have HT := n_HT
      have HX := n_HX
      clear n_HO n_HX1 n_HX2 n_HT n_HX
      generalize wr.drew = x1 at *
      refine one_ (i := 27) (N := some 81) #[true, true, true, true, true, true, true, true, true, true, true, true, true, true, true, true, true, true, true, true, true, true, true, true, true, true, true, true, false, false, false] rfl rfl (by kernel_rfl) (by decide) (fun K hK => ?_)
      refine value_ (w1 := x1.alloc (.cells #[.int .i64 s0, .int .i64 s1, .int .u64 s2, .int .u64 s3] 56)) (v := .slice (some ⟨x1.heap.size, 0, none⟩) 1 1) (by rfl) rfl (by go_simp) ?_
      have hb5 := balloc (Below.refl x1.heap.size x1) (.cells #[.int .i64 s0, .int .i64 s1, .int .u64 s2, .int .u64 s3] 56)
      have hL := Blk.new x1 56 #[.int .i64 s0, .int .i64 s1, .int .u64 s2, .int .u64 s3]
      have n_HO := Lib.hid (HO.out.step hb5)
      have n_HX1 := Lib.hid (HX1.out.step hb5)
      have n_HX2 := Lib.hid (HX2.out.step hb5)
      have n_HT := Lib.hid (own_below HT.out hb5)
      have n_HX := Lib.hid (bstep HX.out hb5)
      clear hb5 HO HX1 HX2 HT HX
      have HO := n_HO
      have HX1 := n_HX1
      have HX2 := n_HX2
      have HT := n_HT
      have HX := n_HX
      clear n_HO n_HX1 n_HX2 n_HT n_HX
      generalize x1.alloc (.cells #[.int .i64 s0, .int .i64 s1, .int .u64 s2, .int .u64 s3] 56) = x2 at *
      generalize x1.heap.size = b18 at *
      have HL := Lib.hid hL
      clear hL
      have c15 := HO.out.cell 15
      have q15 := (HX1.out.cell 15).trans (congrArg some HHD.out)
      have y0 := (HX.out.cell (p := ⟨eb, off + k * 4, none⟩) HEB.out).trans (HC.out 0 _ rfl)
      have y1 := (HX.out.cell (p := ⟨eb, off + k * 4 + 1, none⟩) HEB.out).trans (HC.out 1 _ rfl)
      have y2 := (HX.out.cell (p := ⟨eb, off + k * 4 + 2, none⟩) HEB.out).trans (HC.out 2 _ rfl)
      have y3 := (HX.out.cell (p := ⟨eb, off + k * 4 + 3, none⟩) HEB.out).trans (HC.out 3 _ rfl)
      refine hK.out _ _ ⟨c15, q15, y0, y1, y2, y3⟩ (fun hHeld => ?_)
      clear hK K hHeld c15 q15 y0 y1 y2 y3
      refine norm_ (a' := ?_) ?_ ?_
      rotate_left
      · show Act.put _ (some 81) _ = _
        simp only [Act.put, List.setIfInBounds_toArray, List.set_cons_zero, List.set_cons_succ]
        rfl
      refine one_ (i := 28) (N := some 82) #[true, true, true, true, true, true, true, true, true, true, true, true, true, true, true, true, true, true, true, true, true, true, true, true, true, true, true, true, true, false, false] rfl rfl (by kernel_rfl) (by decide) (fun K hK => ?_)
      refine app1_step (by rfl) rfl (.tmp 55) (.tmp 81) 44 rfl 56 (.agg #[.int .i64 0, .int .i64 0, .int .u64 0, .int .u64 0]) 4 32 Try.underlying44 infoRS rfl (by decide) vT rfl w.heap.size k (((txs.take k).map StR.cells).flatten) HT.out ⟨b18, 0, none⟩ rfl [.int .i64 s0, .int .i64 s1, .int .u64 s2, .int .u64 s3] rfl (blk_cells HL.out) (by simp [Value.oneCell']) (by have h_ := HLN.out; unfold maxLen; omega) (by have h_ := HLN.out; omega) HX.out.size ?_
      intro v21 x3 ho hg hat
      obtain ⟨A21, c21, rfl⟩ := own_sl ho
      have n_HO := Lib.hid (HO.out.grown hg (fun e_ => own_ne_blk HT.out HO.out (by decide) e_.symm))
      have n_HX1 := Lib.hid (HX1.out.grown hg (fun e_ => own_ne_blk HT.out HX1.out (by decide) e_.symm))
      have n_HX2 := Lib.hid (HX2.out.grown hg (fun e_ => own_ne_blk HT.out HX2.out (by decide) e_.symm))
      have n_HX := Lib.hid (HX.out.grown hg HX.out.size (fun k_ e_ => (HT.out.lt k_ e_).1))
      have n_HT := Lib.hid ho
      clear ho hg hat HL HT HO HX1 HX2 HX
      have HO := n_HO
      have HX1 := n_HX1
      have HX2 := n_HX2
      have HX := n_HX
      have HT := n_HT
      clear n_HO n_HX1 n_HX2 n_HX n_HT
      have c15 := HO.out.cell 15
      have q15 := (HX1.out.cell 15).trans (congrArg some HHD.out)
      have y0 := (HX.out.cell (p := ⟨eb, off + k * 4, none⟩) HEB.out).trans (HC.out 0 _ rfl)
      have y1 := (HX.out.cell (p := ⟨eb, off + k * 4 + 1, none⟩) HEB.out).trans (HC.out 1 _ rfl)
      have y2 := (HX.out.cell (p := ⟨eb, off + k * 4 + 2, none⟩) HEB.out).trans (HC.out 2 _ rfl)
      have y3 := (HX.out.cell (p := ⟨eb, off + k * 4 + 3, none⟩) HEB.out).trans (HC.out 3 _ rfl)
      refine hK.out _ _ ⟨c15, q15, y0, y1, y2, y3⟩ (fun hHeld => ?_)
      clear hK K hHeld q15 y0 y1 y2 y3
      refine norm_ (a' := ?_) ?_ ?_
      rotate_left
      · show Act.put _ (some 82) _ = _
        simp only [Act.put, List.setIfInBounds_toArray, List.set_cons_zero, List.set_cons_succ]
        rfl
      refine pure_ (i := 29) (N := some 83) (v := ?_) (a' := ?_) #[true, true, true, true, true, true, true, true, true, true, true, true, true, true, true, true, true, true, true, true, true, true, true, true, true, true, true, true, true, true, false] rfl rfl (by kernel_rfl) (fun _ _ _ h => h) (Or.inl ⟨by rfl, ?_⟩) ?_ ?_
      rotate_left
      · intro w'
        go_simp
        with_reducible rfl
      rotate_left
      · simp only [Act.put, List.setIfInBounds_toArray, List.set_cons_zero, List.set_cons_succ, i64_w, i32_w]
        rfl
      have f15 := HO.out.frozen 15
      refine last_ (i := 30) (N := none) #[true, true, true, true, true, true, true, true, true, true, true, true, true, true, true, true, true, true, true, true, true, true, true, true, true, true, true, true, true, true, true] rfl rfl (by kernel_rfl) (by decide) (fun K hK => ?_)
      refine skip_ (w1 := (x3.setCell ⟨ob, 15, none⟩ (.slice A21 (k + 1) c21))) (by rfl) rfl ?_ ?_
      · go_simp
      refine hK.out _ _ ?_
      clear hK K
      refine done_ (by kernel_rfl) ?_
      go_wp2_with fail
      go_roundw
      case rel => exact ⟨k + 1, _, by go_num, by omega, HX1.out.far (by have := HOB.out; have := HNE.out; simp only []; omega) _, HX2.out.far (by have := HNE.out; simp only []; omega) _, HO.out.set_ 15 _, by have := own_set (b := ob) (o := 15) (u := .slice A21 (k + 1) c21) HT.out HO.out (by decide); rw [HFL.out]; exact this, bset HX.out HOB.out _⟩
      case measure => simp [intOf]; omega
    · obtain rfl : k = txs.length := by omega
      have q15' : wr.cell? ⟨w.heap.size, 15, none⟩ = some (Value.slice A txs.length c) := by rw [← HVA.out]; exact q15
      clear q15 hlt hk
      have HT0 := Lib.hid (show wr.ownsRow w.heap.size 56 4 vT txs.length (txs.map StR.cells).flatten by have := HT.out; rwa [List.take_length] at this)
      clear HT
      have HT := HT0
      clear HT0
      go_wp2
      go_loopw [5] (fun s5 wr => ∃ (k : Nat) (vD : Value), s5 = .int .i64 k ∧ k ≤ dirty.length ∧ Blk wr w.heap.size 35 #[.int .i64 kind, .int .i64 tx, .int .u64 prev, .int .u64 next, .int .u32 page, .int .i64 ok, .int .i64 oa, .string (bs os), .string (bs oo), .int .i64 undo, .int .i64 index, .string (bs key), .int .u32 rpage, .int .i64 rslot, .bool live, VA, VB] ∧ Blk wr (w.heap.size + 1) 47 #[.int .i64 0, .int .i64 0, .int .u64 0, .int .u64 0, .int .u32 0, .int .i64 0, .int .i64 0, .string ⟨#[]⟩, .string ⟨#[]⟩, .int .i64 0, .int .i64 0, .string ⟨#[]⟩, .int .u32 0, .int .i64 0, .bool false, .slice none 0 0, .slice none 0 0] ∧ Blk wr ob 47 #[.int .i64 kind, .int .i64 tx, .int .u64 prev, .int .u64 next, .int .u32 page, .int .i64 ok, .int .i64 oa, .string (bs os), .string (bs oo), .int .i64 undo, .int .i64 index, .string (bs key), .int .u32 rpage, .int .i64 rslot, .bool live, vT, vD] ∧ wr.ownsRow w.heap.size 56 4 vT txs.length (txs.map StR.cells).flatten ∧ wr.ownsRow w.heap.size 58 2 vD k ((dirty.take k).map DiR.cells).flatten ∧ Below w.heap.size w wr)
        (fun s5 _ => dirty.length - (intOf s5).toNat)
      case atStart => exact ⟨0, _, rfl, Nat.zero_le _, HX1.out, HX2.out, HO.out, HT.out, World.ownsRow_nil _ _ _ _, HX.out⟩
      case round =>
        clear q15' q16
        obtain ⟨k, vD, rfl, hk, hb1, hb2, ho, ht, hdd, hx⟩ := hrel
        clear HX1 HX2 HO HX HT
        have HX1 := Lib.hid hb1
        have HX2 := Lib.hid hb2
        have HO := Lib.hid ho
        have HX := Lib.hid hx
        have HT := Lib.hid ht
        have HDD := Lib.hid hdd
        clear hb1 hb2 ho hx ht hdd
        rename_i wr0 _ _
        have q16 : wr.cell? ⟨w.heap.size, 16, none⟩ = some VB := HX1.out.cell 16
        by_cases hlt : k < dirty.length
        · have hal := HD.out k hlt
          obtain ⟨eb, off, hA, heb, hc⟩ := hal
          have HFL := Lib.hid (rflat_snoc DiR.cells dirty k hlt)
          generalize dirty[k] = s at *
          obtain ⟨s0, s1⟩ := s
          have i0_ : (0 : Int) ≤ k := by omega
          have i1_ : (k : Int) < dirty.length := by omega
          have hVAe := HVB.out
          rw [hA] at hVAe
          have HHD := Lib.hid hVAe
          rw [hVAe] at q16
          have HC := Lib.hid hc
          have HEB := Lib.hid heb
          have HLN := Lib.hid (show k + 1 ≤ dirty.length ∧ dirty.length * 16 ≤ 140737488351232 from ⟨hlt, hd⟩)
          clear hA hVAe hc heb
          go_upto_region 9 with fail
          clear q16
          have c15 := HO.out.cell 16
          have q15 := (HX1.out.cell 16).trans (congrArg some HHD.out)
          have y0 := (HX.out.cell (p := ⟨eb, off + k * 2, none⟩) HEB.out).trans (HC.out 0 _ rfl)
          have y1 := (HX.out.cell (p := ⟨eb, off + k * 2 + 1, none⟩) HEB.out).trans (HC.out 1 _ rfl)
          refine start_ (n := 19) (S := fun w' => w'.cell? ⟨ob, 16, none⟩ = some vD ∧ w'.cell? ⟨w.heap.size, 16, none⟩ = some (.slice (some ⟨eb, off, none⟩) dirty.length d) ∧ w'.cell? ⟨eb, off + k * 2, none⟩ = some (.int .u32 s0) ∧ w'.cell? ⟨eb, off + k * 2 + 1, none⟩ = some (.int .u64 s1)) (ds := [18]) #[false, false, false, false, false, false, false, false, false, false, false, false, false, false, false, false, false, false, false] (by kernel_rfl) rfl rfl ⟨c15, q15, y0, y1⟩ (fun hHeld => ?_)
          refine pure_ (i := 0) (N := some 91) (v := ?_) (a' := ?_) #[true, false, false, false, false, false, false, false, false, false, false, false, false, false, false, false, false, false, false] rfl rfl (by kernel_rfl) (fun _ _ _ h => h) (Or.inl ⟨by rfl, ?_⟩) ?_ ?_
          rotate_left
          · intro w'
            go_simp
            with_reducible rfl
          rotate_left
          · simp only [Act.put, List.setIfInBounds_toArray, List.set_cons_zero, List.set_cons_succ, i64_w, i32_w]
            rfl
          refine take_ (i := 1) (N := some 92) (v := ?_) (a' := ?_) #[true, true, false, false, false, false, false, false, false, false, false, false, false, false, false, false, false, false, false] rfl rfl (by kernel_rfl) (fun _ _ _ h => h) (Or.inl ⟨by rfl, ?_⟩) hHeld ?_ ?_
          rotate_left
          · rintro w' ⟨s0, s1, s2, s3⟩
            go_simp
            with_reducible rfl
          rotate_left
          · simp only [Act.put, List.setIfInBounds_toArray, List.set_cons_zero, List.set_cons_succ, i64_w, i32_w]
            rfl
          refine pure_ (i := 2) (N := some 93) (v := ?_) (a' := ?_) #[true, true, true, false, false, false, false, false, false, false, false, false, false, false, false, false, false, false, false] rfl rfl (by kernel_rfl) (fun _ _ _ h => h) (Or.inl ⟨by rfl, ?_⟩) ?_ ?_
          rotate_left
          · intro w'
            go_simp
            with_reducible rfl
          rotate_left
          · simp only [Act.put, List.setIfInBounds_toArray, List.set_cons_zero, List.set_cons_succ, i64_w, i32_w]
            rfl
          refine take_ (i := 3) (N := some 94) (v := ?_) (a' := ?_) #[true, true, true, true, false, false, false, false, false, false, false, false, false, false, false, false, false, false, false] rfl rfl (by kernel_rfl) (fun _ _ _ h => h) (Or.inl ⟨by rfl, ?_⟩) hHeld ?_ ?_
          rotate_left
          · rintro w' ⟨s0, s1, s2, s3⟩
            go_simp
            with_reducible rfl
          rotate_left
          · simp only [Act.put, List.setIfInBounds_toArray, List.set_cons_zero, List.set_cons_succ, i64_w, i32_w]
            rfl
          refine pure_ (i := 4) (N := some 95) (v := ?_) (a' := ?_) #[true, true, true, true, true, false, false, false, false, false, false, false, false, false, false, false, false, false, false] rfl rfl (by kernel_rfl) (fun _ _ _ h => h) (Or.inl ⟨by rfl, ?_⟩) ?_ ?_
          rotate_left
          · intro w'
            go_simp
            with_reducible rfl
          rotate_left
          · simp only [Act.put, List.setIfInBounds_toArray, List.set_cons_zero, List.set_cons_succ, i64_w, i32_w]
            rfl
          refine pure_ (i := 5) (N := some 96) (v := ?_) (a' := ?_) #[true, true, true, true, true, true, false, false, false, false, false, false, false, false, false, false, false, false, false] rfl rfl (by kernel_rfl) (fun _ _ _ h => h) (Or.inl ⟨by rfl, ?_⟩) ?_ ?_
          rotate_left
          · intro w'
            go_simp
            with_reducible rfl
          rotate_left
          · simp only [Act.put, List.setIfInBounds_toArray, List.set_cons_zero, List.set_cons_succ, i64_w, i32_w]
            rfl
          refine pure_ (i := 6) (N := some 97) (v := ?_) (a' := ?_) #[true, true, true, true, true, true, true, false, false, false, false, false, false, false, false, false, false, false, false] rfl rfl (by kernel_rfl) (fun _ _ _ h => h) (Or.inl ⟨by rfl, ?_⟩) ?_ ?_
          rotate_left
          · intro w'
            go_simp
            with_reducible rfl
          rotate_left
          · simp only [Act.put, List.setIfInBounds_toArray, List.set_cons_zero, List.set_cons_succ, i64_w, i32_w]
            rfl
          refine take_ (i := 7) (N := some 98) (v := ?_) (a' := ?_) #[true, true, true, true, true, true, true, true, false, false, false, false, false, false, false, false, false, false, false] rfl rfl (by kernel_rfl) (fun _ _ _ h => h) (Or.inl ⟨by rfl, ?_⟩) hHeld ?_ ?_
          rotate_left
          · rintro w' ⟨s0, s1, s2, s3⟩
            go_simp
            with_reducible rfl
          rotate_left
          · simp only [Act.put, List.setIfInBounds_toArray, List.set_cons_zero, List.set_cons_succ, i64_w, i32_w]
            rfl
          refine pure_ (i := 8) (N := some 99) (v := ?_) (a' := ?_) #[true, true, true, true, true, true, true, true, true, false, false, false, false, false, false, false, false, false, false] rfl rfl (by kernel_rfl) (fun _ _ _ h => h) (Or.inl ⟨by rfl, ?_⟩) ?_ ?_
          rotate_left
          · intro w'
            go_simp
            with_reducible rfl
          rotate_left
          · simp only [Act.put, List.setIfInBounds_toArray, List.set_cons_zero, List.set_cons_succ, i64_w, i32_w]
            rfl
          refine take_ (i := 9) (N := some 100) (v := ?_) (a' := ?_) #[true, true, true, true, true, true, true, true, true, true, false, false, false, false, false, false, false, false, false] rfl rfl (by kernel_rfl) (fun _ _ _ h => h) (Or.inl ⟨by rfl, ?_⟩) hHeld ?_ ?_
          rotate_left
          · rintro w' ⟨s0, s1, s2, s3⟩
            go_simp
            with_reducible rfl
          rotate_left
          · simp only [Act.put, List.setIfInBounds_toArray, List.set_cons_zero, List.set_cons_succ, i64_w, i32_w]
            rfl
          refine pure_ (i := 10) (N := some 101) (v := ?_) (a' := ?_) #[true, true, true, true, true, true, true, true, true, true, true, false, false, false, false, false, false, false, false] rfl rfl (by kernel_rfl) (fun _ _ _ h => h) (Or.inl ⟨by rfl, ?_⟩) ?_ ?_
          rotate_left
          · intro w'
            go_simp
            with_reducible rfl
          rotate_left
          · simp only [Act.put, List.setIfInBounds_toArray, List.set_cons_zero, List.set_cons_succ, i64_w, i32_w]
            rfl
          refine pure_ (i := 11) (N := some 102) (v := ?_) (a' := ?_) #[true, true, true, true, true, true, true, true, true, true, true, true, false, false, false, false, false, false, false] rfl rfl (by kernel_rfl) (fun _ _ _ h => h) (Or.inl ⟨by rfl, ?_⟩) ?_ ?_
          rotate_left
          · intro w'
            go_simp
            with_reducible rfl
          rotate_left
          · simp only [Act.put, List.setIfInBounds_toArray, List.set_cons_zero, List.set_cons_succ, i64_w, i32_w]
            rfl
          refine pure_ (i := 12) (N := some 103) (v := ?_) (a' := ?_) #[true, true, true, true, true, true, true, true, true, true, true, true, true, false, false, false, false, false, false] rfl rfl (by kernel_rfl) (fun _ _ _ h => h) (Or.inl ⟨by rfl, ?_⟩) ?_ ?_
          rotate_left
          · intro w'
            go_simp
            with_reducible rfl
          rotate_left
          · simp only [Act.put, List.setIfInBounds_toArray, List.set_cons_zero, List.set_cons_succ, i64_w, i32_w]
            rfl
          refine take_ (i := 13) (N := some 104) (v := ?_) (a' := ?_) #[true, true, true, true, true, true, true, true, true, true, true, true, true, true, false, false, false, false, false] rfl rfl (by kernel_rfl) (fun _ _ _ h => h) (Or.inl ⟨by rfl, ?_⟩) hHeld ?_ ?_
          rotate_left
          · rintro w' ⟨s0, s1, s2, s3⟩
            go_simp
            with_reducible rfl
          rotate_left
          · simp only [Act.put, List.setIfInBounds_toArray, List.set_cons_zero, List.set_cons_succ, i64_w, i32_w]
            rfl
          refine pure_ (i := 14) (N := some 105) (v := ?_) (a' := ?_) #[true, true, true, true, true, true, true, true, true, true, true, true, true, true, true, false, false, false, false] rfl rfl (by kernel_rfl) (fun _ _ _ h => h) (Or.inl ⟨by rfl, ?_⟩) ?_ ?_
          rotate_left
          · intro w'
            go_simp
            with_reducible rfl
          rotate_left
          · simp only [Act.put, List.setIfInBounds_toArray, List.set_cons_zero, List.set_cons_succ, i64_w, i32_w]
            rfl
          clear c15 q15 y0 y1 hHeld
          have hb5 := bdrew (Below.refl wr.heap.size wr)
          have n_HO := Lib.hid (HO.out.step hb5)
          have n_HX1 := Lib.hid (HX1.out.step hb5)
          have n_HX2 := Lib.hid (HX2.out.step hb5)
          have n_HT := Lib.hid (own_below HT.out hb5)
          have n_HDD := Lib.hid (own_below HDD.out hb5)
          have n_HX := Lib.hid (bstep HX.out hb5)
          clear hb5 HO HX1 HX2 HT HDD HX
          have HO := n_HO
          have HX1 := n_HX1
          have HX2 := n_HX2
          have HT := n_HT
          have HDD := n_HDD
          have HX := n_HX
          clear n_HO n_HX1 n_HX2 n_HT n_HDD n_HX
          generalize wr.drew = x1 at *
          refine one_ (i := 15) (N := some 106) #[true, true, true, true, true, true, true, true, true, true, true, true, true, true, true, true, false, false, false] rfl rfl (by kernel_rfl) (by decide) (fun K hK => ?_)
          refine value_ (w1 := x1.alloc (.cells #[.int .u32 s0, .int .u64 s1] 58)) (v := .slice (some ⟨x1.heap.size, 0, none⟩) 1 1) (by rfl) rfl (by go_simp) ?_
          have hb5 := balloc (Below.refl x1.heap.size x1) (.cells #[.int .u32 s0, .int .u64 s1] 58)
          have hL := Blk.new x1 58 #[.int .u32 s0, .int .u64 s1]
          have n_HO := Lib.hid (HO.out.step hb5)
          have n_HX1 := Lib.hid (HX1.out.step hb5)
          have n_HX2 := Lib.hid (HX2.out.step hb5)
          have n_HT := Lib.hid (own_below HT.out hb5)
          have n_HDD := Lib.hid (own_below HDD.out hb5)
          have n_HX := Lib.hid (bstep HX.out hb5)
          clear hb5 HO HX1 HX2 HT HDD HX
          have HO := n_HO
          have HX1 := n_HX1
          have HX2 := n_HX2
          have HT := n_HT
          have HDD := n_HDD
          have HX := n_HX
          clear n_HO n_HX1 n_HX2 n_HT n_HDD n_HX
          generalize x1.alloc (.cells #[.int .u32 s0, .int .u64 s1] 58) = x2 at *
          generalize x1.heap.size = b18 at *
          have HL := Lib.hid hL
          clear hL
          have c15 := HO.out.cell 16
          have q15 := (HX1.out.cell 16).trans (congrArg some HHD.out)
          have y0 := (HX.out.cell (p := ⟨eb, off + k * 2, none⟩) HEB.out).trans (HC.out 0 _ rfl)
          have y1 := (HX.out.cell (p := ⟨eb, off + k * 2 + 1, none⟩) HEB.out).trans (HC.out 1 _ rfl)
          refine hK.out _ _ ⟨c15, q15, y0, y1⟩ (fun hHeld => ?_)
          clear hK K hHeld c15 q15 y0 y1
          refine norm_ (a' := ?_) ?_ ?_
          rotate_left
          · show Act.put _ (some 106) _ = _
            simp only [Act.put, List.setIfInBounds_toArray, List.set_cons_zero, List.set_cons_succ]
            rfl
          refine one_ (i := 16) (N := some 107) #[true, true, true, true, true, true, true, true, true, true, true, true, true, true, true, true, true, false, false] rfl rfl (by kernel_rfl) (by decide) (fun K hK => ?_)
          refine app1_step (by rfl) rfl (.tmp 92) (.tmp 106) 45 rfl 58 (.agg #[.int .u32 0, .int .u64 0]) 2 16 Try.underlying45 infoRD rfl (by decide) vD rfl w.heap.size k (((dirty.take k).map DiR.cells).flatten) HDD.out ⟨b18, 0, none⟩ rfl [.int .u32 s0, .int .u64 s1] rfl (blk_cells HL.out) (by simp [Value.oneCell']) (by have h_ := HLN.out; unfold maxLen; omega) (by have h_ := HLN.out; omega) HX.out.size ?_
          intro v21 x3 ho hg hat
          obtain ⟨A21, c21, rfl⟩ := own_sl ho
          have n_HO := Lib.hid (HO.out.grown hg (fun e_ => own_ne_blk HDD.out HO.out (by decide) e_.symm))
          have n_HX1 := Lib.hid (HX1.out.grown hg (fun e_ => own_ne_blk HDD.out HX1.out (by decide) e_.symm))
          have n_HX2 := Lib.hid (HX2.out.grown hg (fun e_ => own_ne_blk HDD.out HX2.out (by decide) e_.symm))
          have n_HT := Lib.hid (HT.out.kept hg (own_ne_own HT.out HDD.out (by decide)))
          have n_HX := Lib.hid (HX.out.grown hg HX.out.size (fun k_ e_ => (HDD.out.lt k_ e_).1))
          have n_HDD := Lib.hid ho
          clear ho hg hat HL HDD HO HX1 HX2 HT HX
          have HO := n_HO
          have HX1 := n_HX1
          have HX2 := n_HX2
          have HT := n_HT
          have HX := n_HX
          have HDD := n_HDD
          clear n_HO n_HX1 n_HX2 n_HT n_HX n_HDD
          have c15 := HO.out.cell 16
          have q15 := (HX1.out.cell 16).trans (congrArg some HHD.out)
          have y0 := (HX.out.cell (p := ⟨eb, off + k * 2, none⟩) HEB.out).trans (HC.out 0 _ rfl)
          have y1 := (HX.out.cell (p := ⟨eb, off + k * 2 + 1, none⟩) HEB.out).trans (HC.out 1 _ rfl)
          refine hK.out _ _ ⟨c15, q15, y0, y1⟩ (fun hHeld => ?_)
          clear hK K hHeld q15 y0 y1
          refine norm_ (a' := ?_) ?_ ?_
          rotate_left
          · show Act.put _ (some 107) _ = _
            simp only [Act.put, List.setIfInBounds_toArray, List.set_cons_zero, List.set_cons_succ]
            rfl
          refine pure_ (i := 17) (N := some 108) (v := ?_) (a' := ?_) #[true, true, true, true, true, true, true, true, true, true, true, true, true, true, true, true, true, true, false] rfl rfl (by kernel_rfl) (fun _ _ _ h => h) (Or.inl ⟨by rfl, ?_⟩) ?_ ?_
          rotate_left
          · intro w'
            go_simp
            with_reducible rfl
          rotate_left
          · simp only [Act.put, List.setIfInBounds_toArray, List.set_cons_zero, List.set_cons_succ, i64_w, i32_w]
            rfl
          have f15 := HO.out.frozen 16
          refine last_ (i := 18) (N := none) #[true, true, true, true, true, true, true, true, true, true, true, true, true, true, true, true, true, true, true] rfl rfl (by kernel_rfl) (by decide) (fun K hK => ?_)
          refine skip_ (w1 := (x3.setCell ⟨ob, 16, none⟩ (.slice A21 (k + 1) c21))) (by rfl) rfl ?_ ?_
          · go_simp
          refine hK.out _ _ ?_
          clear hK K
          refine done_ (by kernel_rfl) ?_
          go_wp2_with fail
          go_roundw
          case rel => exact ⟨k + 1, _, by go_num, by omega, HX1.out.far (by have := HOB.out; have := HNE.out; simp only []; omega) _, HX2.out.far (by have := HNE.out; simp only []; omega) _, HO.out.set_ 16 _, own_set HT.out HO.out (by decide), by have := own_set (b := ob) (o := 16) (u := .slice A21 (k + 1) c21) HDD.out HO.out (by decide); rw [HFL.out]; exact this, bset HX.out HOB.out _⟩
          case measure => simp [intOf]; omega
        · obtain rfl : k = dirty.length := by omega
          have q16' : wr.cell? ⟨w.heap.size, 16, none⟩ = some (Value.slice B dirty.length d) := by rw [← HVB.out]; exact q16
          clear q16 hlt hk
          have HD0 := Lib.hid (show wr.ownsRow w.heap.size 58 2 vD dirty.length (dirty.map DiR.cells).flatten by have := HDD.out; rwa [List.take_length] at this)
          clear HDD
          obtain ⟨AT, cT, rfl⟩ := own_sl HT.out
          obtain ⟨AD, cD, rfl⟩ := own_sl HD0.out
          go_wp2_with (first | (refine wpList_load_row rfl 47 (.tmp 3) rfl ob rfl 47 #[.int .i64 kind, .int .i64 tx, .int .u64 prev, .int .u64 next, .int .u32 page, .int .i64 ok, .int .i64 oa, .string (bs os), .string (bs oo), .int .i64 undo, .int .i64 index, .string (bs key), .int .u32 rpage, .int .i64 rslot, .bool live, .slice AT txs.length cT, .slice AD dirty.length cD] (0, 0) _ HO.out Try.underlying47 rfl (by kernel_rfl) ?_) | (refine wpList_store_row rfl 47 (.tmp 2) (.tmp 109) rfl (w.heap.size + 1) _ rfl rfl 47 _ HX2.out (by kernel_rfl) rfl (by simp [Value.oneCell']) ?_))
          try simp only [Act.put, List.setIfInBounds_toArray, List.set_cons_succ, List.set_cons_zero]
          refine bodyPost_ret (v := .agg #[.int .i64 kind, .int .i64 tx, .int .u64 prev, .int .u64 next, .int .u32 page, .int .i64 ok, .int .i64 oa, .string (bs os), .string (bs oo), .int .i64 undo, .int .i64 index, .string (bs key), .int .u32 rpage, .int .i64 rslot, .bool live, .slice AT txs.length cT, .slice AD dirty.length cD]) (results_cell_row (fn := Try.f13) (p := 2) (ty := 47) rfl _ _ (w.heap.size + 1) 47 _ (0, 0) _ rfl (blk_setRow HX2.out) Try.underlying47 rfl (by kernel_rfl)) rfl ?_
          rw [HRR.out]
          exact ⟨⟨_, _, rfl, own_setRow HT.out HX2.out (by decide), own_setRow HD0.out HX2.out (by decide)⟩, setRow_below HX.out (Nat.le_succ _) _⟩
end Go.Proofs.Ytebickoieipjpaa
end
section
namespace Go.Proofs.Ytebickoieipjpaa.PRs
open Go.RowKit Go.Proofs.YtebickoieipjpaaW.PrintWords Go.Proofs.YtebickoieipjpaaW.PrintLast Go.Proofs.YtebickoieipjpaaW.PrintMore
attribute [local go_sem] max2_int min2_int max_two min_two max_three min_three max_four min_four
set_option linter.unusedVariables false
set_option linter.unusedSimpArgs false
def errW : Option Int → Value
 | none=>.nilIface
 | some c=>.iface 0 (.int .i64 c)
theorem errW_none : errW none=.nilIface:=rfl
theorem errW_some (c : Int) : errW (some c)=.iface 0 (.int .i64 c):=rfl
structure S70 where
 f0 : Int
 f1 : Int
 f2 : Int
 f3 : Int
def z70 : S70:=⟨(0 : Int),(0 : Int),(0 : Int),(0 : Int)⟩
def k70 : Kd S70:=Kd.iso (Kd.pair (Kd.int .i64) (Kd.pair (Kd.int .i64) (Kd.pair (Kd.int .u64) (Kd.int .u64)))) (fun x : S70=>(x.f0,x.f1,x.f2,x.f3))
theorem k70_open {w : World} {x : S70} {cs : List Value} (h : k70.K w x cs) : cs=[.int .i64 x.f0,.int .i64 x.f1,.int .u64 x.f2,.int .u64 x.f3]:=by
 obtain ⟨_,_,rfl,rfl,⟨_,_,rfl,rfl,⟨_,_,rfl,rfl,rfl⟩⟩⟩:=h
 exact rfl
theorem k70_mk (w : World) (x : S70)  : k70.K w x [.int .i64 x.f0,.int .i64 x.f1,.int .u64 x.f2,.int .u64 x.f3]:=⟨[.int .i64 x.f0],[.int .i64 x.f1,.int .u64 x.f2,.int .u64 x.f3],rfl,rfl,⟨[.int .i64 x.f1],[.int .u64 x.f2,.int .u64 x.f3],rfl,rfl,⟨[.int .u64 x.f2],[.int .u64 x.f3],rfl,rfl,rfl⟩⟩⟩
def rd_T70 (xs : List S70) (i : Int) : S70:=xs.getD i.toNat z70
theorem at_T70 {w : World} {A : Option Addr} {n : Nat} {xs : List S70} (h : Kd.C k70 w A n xs) (i : Int) (h0 : 0≤i) (h1 : i < n) : ∃ ad ,A=some ad∧w.cell? (ad.add (i.toNat * 4))=some (.int .i64 (rd_T70 xs i).f0)∧w.cell? ⟨(ad.add (i.toNat * 4)).block,(ad.add (i.toNat * 4)).off + 1,none⟩=some (.int .i64 (rd_T70 xs i).f1)∧w.cell? ⟨(ad.add (i.toNat * 4)).block,(ad.add (i.toNat * 4)).off + 2,none⟩=some (.int .u64 (rd_T70 xs i).f2)∧w.cell? ⟨(ad.add (i.toNat * 4)).block,(ad.add (i.toNat * 4)).off + 3,none⟩=some (.int .u64 (rd_T70 xs i).f3):=by
 obtain ⟨ad,c,e,_,hK,hc0⟩:=Kd.C_get h z70 i h0 h1
 have hc : ∀ j u,c[j]?=some u → w.cell? (ad.add (i.toNat * 4 + j))=some u:=hc0
 obtain rfl:=k70_open hK
 exact ⟨ad,e,hc 0 _ rfl,by rw [← add_field _ _ 1 (by omega)];exact hc 1 _ rfl,by rw [← add_field _ _ 2 (by omega)];exact hc 2 _ rfl,by rw [← add_field _ _ 3 (by omega)];exact hc 3 _ rfl⟩
structure S72 where
 f0 : Int
 f1 : Int
def z72 : S72:=⟨(0 : Int),(0 : Int)⟩
def k72 : Kd S72:=Kd.iso (Kd.pair (Kd.int .u32) (Kd.int .u64)) (fun x : S72=>(x.f0,x.f1))
theorem k72_open {w : World} {x : S72} {cs : List Value} (h : k72.K w x cs) : cs=[.int .u32 x.f0,.int .u64 x.f1]:=by
 obtain ⟨_,_,rfl,rfl,rfl⟩:=h
 exact rfl
theorem k72_mk (w : World) (x : S72)  : k72.K w x [.int .u32 x.f0,.int .u64 x.f1]:=⟨[.int .u32 x.f0],[.int .u64 x.f1],rfl,rfl,rfl⟩
def rd_T72 (xs : List S72) (i : Int) : S72:=xs.getD i.toNat z72
theorem at_T72 {w : World} {A : Option Addr} {n : Nat} {xs : List S72} (h : Kd.C k72 w A n xs) (i : Int) (h0 : 0≤i) (h1 : i < n) : ∃ ad ,A=some ad∧w.cell? (ad.add (i.toNat * 2))=some (.int .u32 (rd_T72 xs i).f0)∧w.cell? ⟨(ad.add (i.toNat * 2)).block,(ad.add (i.toNat * 2)).off + 1,none⟩=some (.int .u64 (rd_T72 xs i).f1):=by
 obtain ⟨ad,c,e,_,hK,hc0⟩:=Kd.C_get h z72 i h0 h1
 have hc : ∀ j u,c[j]?=some u → w.cell? (ad.add (i.toNat * 2 + j))=some u:=hc0
 obtain rfl:=k72_open hK
 exact ⟨ad,e,hc 0 _ rfl,by rw [← add_field _ _ 1 (by omega)];exact hc 1 _ rfl⟩
end Go.Proofs.Ytebickoieipjpaa.PRs
end
section
namespace Go.Proofs.Ytebickoieipjpaa.PRs
open Go.RowKit Go.Proofs.YtebickoieipjpaaW.PrintWords Go.Proofs.YtebickoieipjpaaW.PrintLast Go.Proofs.YtebickoieipjpaaW.PrintMore
attribute [local go_sem] max2_int min2_int max_two min_two max_three min_three max_four min_four
set_option linter.unusedVariables false
set_option linter.unusedSimpArgs false
theorem eqA27 (d : Nat) (w : World) (x0 y0 : Int) (x1 y1 : Int) (x2 y2 : ByteArray) (x3 y3 : ByteArray) :
  (Op.equalIn (d + 2) 27 (.agg #[.int .i64 x0,.int .i64 x1,.string x2,.string x3]) (.agg #[.int .i64 y0,.int .i64 y1,.string y2,.string y3])).run Try.prog w=.ok (x0 == y0 && (x1 == y1 && (x2.toList == y2.toList && (x3.toList == y3.toList)))) w:=by
 refine eqA_of Try.underlying27 (by kernel_rfl) ?_
 refine eqf_cons (by rfl) (by go_simp;rfl) (by go_simp;rfl) (by go_simp) ?_
 refine eqf_cons (by rfl) (by go_simp;rfl) (by go_simp;rfl) (by go_simp) ?_
 refine eqf_cons (by rfl) (by go_simp;rfl) (by go_simp;rfl) (by go_simp) ?_
 exact eqf_last (by rfl) (by go_simp;rfl) (by go_simp;rfl) (by go_simp)
end Go.Proofs.Ytebickoieipjpaa.PRs
end
section
namespace Go.Proofs.Ytebickoieipjpaa.PRs
open Go.RowKit Go.Proofs.YtebickoieipjpaaW.PrintWords Go.Proofs.YtebickoieipjpaaW.PrintLast Go.Proofs.YtebickoieipjpaaW.PrintMore
attribute [local go_sem] max2_int min2_int max_two min_two max_three min_three max_four min_four
set_option linter.unusedVariables false
set_option linter.unusedSimpArgs false
theorem eqA29 (d : Nat) (w : World) (x0 y0 : Int) (x1 y1 : Int) :
  (Op.equalIn (d + 2) 29 (.agg #[.int .u32 x0,.int .i64 x1]) (.agg #[.int .u32 y0,.int .i64 y1])).run Try.prog w=.ok (x0 == y0 && (x1 == y1)) w:=by
 refine eqA_of Try.underlying29 (by kernel_rfl) ?_
 refine eqf_cons (by rfl) (by go_simp;rfl) (by go_simp;rfl) (by go_simp) ?_
 exact eqf_last (by rfl) (by go_simp;rfl) (by go_simp;rfl) (by go_simp)
theorem eqA31 (d : Nat) (w : World) (x0 y0 : ByteArray) (x1 y1 : Int) (x2 y2 : Int) :
  (Op.equalIn (d + 3) 31 (.agg #[.string x0,.int .u32 x1,.int .i64 x2]) (.agg #[.string y0,.int .u32 y1,.int .i64 y2])).run Try.prog w=.ok (x0.toList == y0.toList && ((x1 == y1 && (x2 == y2)))) w:=by
 refine eqA_of Try.underlying31 (by kernel_rfl) ?_
 refine eqf_cons (by rfl) (by go_simp;rfl) (by go_simp;rfl) (by go_simp) ?_
 exact eqf_last (by rfl) (by go_simp) (by go_simp) (eqA29 (d + 0) w _ _ _ _)
end Go.Proofs.Ytebickoieipjpaa.PRs
end
section
namespace Go.Proofs.Ytebickoieipjpaa.PRs
open Go.RowKit Go.Proofs.YtebickoieipjpaaW.PrintWords Go.Proofs.YtebickoieipjpaaW.PrintLast Go.Proofs.YtebickoieipjpaaW.PrintMore
attribute [local go_sem] max2_int min2_int max_two min_two max_three min_three max_four min_four
set_option linter.unusedVariables false
set_option linter.unusedSimpArgs false
theorem eqA70 (d : Nat) (w : World) (x0 y0 : Int) (x1 y1 : Int) (x2 y2 : Int) (x3 y3 : Int) :
  (Op.equalIn (d + 2) 70 (.agg #[.int .i64 x0,.int .i64 x1,.int .u64 x2,.int .u64 x3]) (.agg #[.int .i64 y0,.int .i64 y1,.int .u64 y2,.int .u64 y3])).run Try.prog w=.ok (x0 == y0 && (x1 == y1 && (x2 == y2 && (x3 == y3)))) w:=by
 refine eqA_of Try.underlying70 (by kernel_rfl) ?_
 refine eqf_cons (by rfl) (by go_simp;rfl) (by go_simp;rfl) (by go_simp) ?_
 refine eqf_cons (by rfl) (by go_simp;rfl) (by go_simp;rfl) (by go_simp) ?_
 refine eqf_cons (by rfl) (by go_simp;rfl) (by go_simp;rfl) (by go_simp) ?_
 exact eqf_last (by rfl) (by go_simp;rfl) (by go_simp;rfl) (by go_simp)
end Go.Proofs.Ytebickoieipjpaa.PRs
end
section
namespace Go.Proofs.Ytebickoieipjpaa.PRs
open Go.RowKit Go.Proofs.YtebickoieipjpaaW.PrintWords Go.Proofs.YtebickoieipjpaaW.PrintLast Go.Proofs.YtebickoieipjpaaW.PrintMore
attribute [local go_sem] max2_int min2_int max_two min_two max_three min_three max_four min_four
set_option linter.unusedVariables false
set_option linter.unusedSimpArgs false
attribute [local go_sem high] eqA70
def api_TxState.l0 : Nat → List (S70) → List (S70) → Int → Int → Option (Bool)
 | 0,_,_,_,_=>none
 | k + 1,x0,x1,x12,x13=>if x13 < x12 then (if 0≤x13 then (if x13 < (x0.length : Int) then (if x13 < (x1.length : Int) then (if (!(((rd_T70 x0 x13).f0) == ((rd_T70 x1 x13).f0)) || (!(((rd_T70 x0 x13).f1) == ((rd_T70 x1 x13).f1)) || (!(((rd_T70 x0 x13).f2) == ((rd_T70 x1 x13).f2)) || (!(((rd_T70 x0 x13).f3) == ((rd_T70 x1 x13).f3))))))=true then (some false) else (api_TxState.l0 k x0 x1 x12 (wrap64 (x13 + 1)))) else (none)) else (none)) else (none)) else (some true)
def api_TxState.f (k : Nat) (l0 : List (S70)) (l1 : List (S70)) : Option (Bool):=if (l0.length : Int)=(l1.length : Int) then (api_TxState.l0 k l0 l1 (l0.length : Int) 0) else (some false)
set_option maxHeartbeats 8000000 in
set_option maxRecDepth 100000 in
theorem api_TxState.calls (k : Nat) (A0 : Option Addr) (c0 : Nat) (l0 : List (S70)) (A1 : Option Addr) (c1 : Nat) (l1 : List (S70)) (r : Bool) (w : World) (hr0 : Kd.C k70 w A0 l0.length l0) (hc0 : l0.length≤c0) (hr1 : Kd.C k70 w A1 l1.length l1) (hc1 : l1.length≤c1) (h : api_TxState.f k l0 l1=some r) :
  Calls Try.prog 30 #[.slice A0 l0.length c0,.slice A1 l1.length c1] w fun e w'=>e=.returned (.bool r)∧Drawn0 w w':=by
 have hu70:=Try.underlying70
 have HR0:=Aside0.mk hr0
 have HC0:=Aside0.mk hc0
 clear hr0 hc0
 have HR1:=Aside0.mk hr1
 have HC1:=Aside0.mk hc1
 clear hr1 hc1
 have H : (if (l0.length : Int)=(l1.length : Int) then (api_TxState.l0 k l0 l1 (l0.length : Int) 0) else (some false))=some r:=h
 clear h
 by_cases c3 : (l0.length : Int)=(l1.length : Int)
 ·rw [if_pos c3] at H
  have c3b0 : ((l0.length : Int) == (l1.length : Int))=true:=beq_iff_eq.mpr c3
  have c3b1 : ((l0.length : Int) != (l1.length : Int))=false:=bne_eq_false_iff_eq.mpr c3
  have c3b2 : (l0.length == l1.length)=true:=by first|simpa using c3|(simp at c3 ⊢;omega)
  clear c3
  have H':=Aside0.mk H
  clear H
  go_enter Try.func30,Try.ntmps30
  go_wp2
  repeat (go_quiet (fail);try go_wp2)
  go_loopg [13] k (fun kq v13 w'=>∃ (x13_1 : Int),v13=.int .i64 x13_1∧Aside0 (api_TxState.l0 kq l0 l1 (l0.length : Int) x13_1=some r)∧Aside0 (kq≤k)∧Drawn0 w w')
  case atStart=>exact ⟨(0),(by first|rfl|(simp;done)|(simp [*];done)),H',⟨Nat.le_refl _⟩,by repeat (first|exact Drawn0.refl _|apply Drawn0.step)⟩
  case round =>
   clear H'
   try clear c1
   try clear p2
   try clear c3
   try clear c3b0
   try clear c3b1
   try clear c3b2
   obtain ⟨x13_1,rfl,HA,HK1,⟨m1,rfl⟩⟩:=hrel
   cases gk with
   | zero=>exact absurd HA.out (by simp [api_TxState.l0])
   | succ k1 =>
    have H:=HA.out
    clear HA
    simp only [api_TxState.l0] at H
    by_cases c4 : x13_1 < (l0.length : Int)
    ·rw [if_pos c4] at H
     have c4b0 : decide (x13_1 < (l0.length : Int))=true:=decide_eq_true c4
     clear c4
     by_cases c5 : 0≤x13_1
     ·rw [if_pos c5] at H
      have c5b0 : decide (0≤x13_1)=true:=decide_eq_true c5
      clear c5
      by_cases c6 : x13_1 < (l0.length : Int)
      ·rw [if_pos c6] at H
       have c6b0 : decide (x13_1 < (l0.length : Int))=true:=decide_eq_true c6
       clear c6
       by_cases c7 : x13_1 < (l1.length : Int)
       ·rw [if_pos c7] at H
        have c7b0 : decide (x13_1 < (l1.length : Int))=true:=decide_eq_true c7
        clear c7
        by_cases c8 : (!(((rd_T70 l0 x13_1).f0) == ((rd_T70 l1 x13_1).f0)) || (!(((rd_T70 l0 x13_1).f1) == ((rd_T70 l1 x13_1).f1)) || (!(((rd_T70 l0 x13_1).f2) == ((rd_T70 l1 x13_1).f2)) || (!(((rd_T70 l0 x13_1).f3) == ((rd_T70 l1 x13_1).f3))))))=true
        ·rw [if_pos c8] at H
         have c8b0 : (!(((rd_T70 l0 x13_1).f0) == ((rd_T70 l1 x13_1).f0)) || (!(((rd_T70 l0 x13_1).f1) == ((rd_T70 l1 x13_1).f1)) || (!(((rd_T70 l0 x13_1).f2) == ((rd_T70 l1 x13_1).f2)) || (!(((rd_T70 l0 x13_1).f3) == ((rd_T70 l1 x13_1).f3))))))=true:=c8
         clear c8
         obtain rfl:=Option.some.inj H
         have p101 : 0≤(x13_1 : Int):=of_decide_eq_true (by first|(with_reducible assumption)|assumption)
         have q101 : x13_1 < (l0.length : Int):=of_decide_eq_true (by first|(with_reducible assumption)|assumption)
         obtain ⟨ad101,e101,hx101_0,hx101_1,hx101_2,hx101_3⟩:=at_T70 HR0.out x13_1 p101 q101
         cases e101
         replace p101:=eq_true p101
         replace q101:=eq_true q101
         have p102 : 0≤(x13_1 : Int):=of_decide_eq_true (by first|(with_reducible assumption)|assumption)
         have q102 : x13_1 < (l1.length : Int):=of_decide_eq_true (by first|(with_reducible assumption)|assumption)
         obtain ⟨ad102,e102,hx102_0,hx102_1,hx102_2,hx102_3⟩:=at_T70 HR1.out x13_1 p102 q102
         cases e102
         replace p102:=eq_true p102
         replace q102:=eq_true q102
         go_wp2
         repeat (go_quiet (fail);try go_wp2)
         go_ret
         exact ⟨by first|rfl|(simp;done)|(simp [*];done),by repeat (first|exact Drawn0.refl _|apply Drawn0.step)⟩
        ·rw [if_neg c8] at H
         have c8b0 : (!(((rd_T70 l0 x13_1).f0) == ((rd_T70 l1 x13_1).f0)) || (!(((rd_T70 l0 x13_1).f1) == ((rd_T70 l1 x13_1).f1)) || (!(((rd_T70 l0 x13_1).f2) == ((rd_T70 l1 x13_1).f2)) || (!(((rd_T70 l0 x13_1).f3) == ((rd_T70 l1 x13_1).f3))))))=false:=by simpa using c8
         clear c8
         have H':=Aside0.mk H
         clear H
         have p101 : 0≤(x13_1 : Int):=of_decide_eq_true (by first|(with_reducible assumption)|assumption)
         have q101 : x13_1 < (l0.length : Int):=of_decide_eq_true (by first|(with_reducible assumption)|assumption)
         obtain ⟨ad101,e101,hx101_0,hx101_1,hx101_2,hx101_3⟩:=at_T70 HR0.out x13_1 p101 q101
         cases e101
         replace p101:=eq_true p101
         replace q101:=eq_true q101
         have p102 : 0≤(x13_1 : Int):=of_decide_eq_true (by first|(with_reducible assumption)|assumption)
         have q102 : x13_1 < (l1.length : Int):=of_decide_eq_true (by first|(with_reducible assumption)|assumption)
         obtain ⟨ad102,e102,hx102_0,hx102_1,hx102_2,hx102_3⟩:=at_T70 HR1.out x13_1 p102 q102
         cases e102
         replace p102:=eq_true p102
         replace q102:=eq_true q102
         go_wp2
         repeat (go_quiet (fail);try go_wp2)
         go_roundg k1
         case measure=>have:=HK1.out;omega
         case rel=>exact ⟨(wrap64 (x13_1 + 1)),(by first|rfl|(simp;done)|(simp [*];done)),H',⟨by have:=HK1.out;omega⟩,by repeat (first|exact Drawn0.refl _|apply Drawn0.step)⟩
       ·rw [if_neg c7] at H
        exact absurd H (by simp)
      ·rw [if_neg c6] at H
       exact absurd H (by simp)
     ·rw [if_neg c5] at H
      exact absurd H (by simp)
    ·rw [if_neg c4] at H
     have c4b0 : decide (x13_1 < (l0.length : Int))=false:=decide_eq_false c4
     clear c4
     obtain rfl:=Option.some.inj H
     go_wp2
     repeat (go_quiet (fail);try go_wp2)
     go_ret
     exact ⟨by first|rfl|(simp;done)|(simp [*];done),by repeat (first|exact Drawn0.refl _|apply Drawn0.step)⟩
 ·rw [if_neg c3] at H
  have c3b0 : ((l0.length : Int) == (l1.length : Int))=false:=beq_eq_false_iff_ne.mpr c3
  have c3b1 : ((l0.length : Int) != (l1.length : Int))=true:=bne_iff_ne.mpr c3
  have c3b2 : (l0.length == l1.length)=false:=by first|simpa using c3|(simp at c3 ⊢;omega)
  obtain rfl:=Option.some.inj H
  go_enter Try.func30,Try.ntmps30
  go_wp2
  repeat (go_quiet (fail);try go_wp2)
  go_ret
  exact ⟨by first|rfl|(simp;done)|(simp [*];done),by repeat (first|exact Drawn0.refl _|apply Drawn0.step)⟩
end Go.Proofs.Ytebickoieipjpaa.PRs
end
section
namespace Go.Proofs.Ytebickoieipjpaa.PRs
open Go.RowKit Go.Proofs.YtebickoieipjpaaW.PrintWords Go.Proofs.YtebickoieipjpaaW.PrintLast Go.Proofs.YtebickoieipjpaaW.PrintMore
attribute [local go_sem] max2_int min2_int max_two min_two max_three min_three max_four min_four
set_option linter.unusedVariables false
set_option linter.unusedSimpArgs false
theorem eqA72 (d : Nat) (w : World) (x0 y0 : Int) (x1 y1 : Int) :
  (Op.equalIn (d + 2) 72 (.agg #[.int .u32 x0,.int .u64 x1]) (.agg #[.int .u32 y0,.int .u64 y1])).run Try.prog w=.ok (x0 == y0 && (x1 == y1)) w:=by
 refine eqA_of Try.underlying72 (by kernel_rfl) ?_
 refine eqf_cons (by rfl) (by go_simp;rfl) (by go_simp;rfl) (by go_simp) ?_
 exact eqf_last (by rfl) (by go_simp;rfl) (by go_simp;rfl) (by go_simp)
end Go.Proofs.Ytebickoieipjpaa.PRs
end
section
namespace Go.Proofs.Ytebickoieipjpaa.PRs
open Go.RowKit Go.Proofs.YtebickoieipjpaaW.PrintWords Go.Proofs.YtebickoieipjpaaW.PrintLast Go.Proofs.YtebickoieipjpaaW.PrintMore
attribute [local go_sem] max2_int min2_int max_two min_two max_three min_three max_four min_four
set_option linter.unusedVariables false
set_option linter.unusedSimpArgs false
attribute [local go_sem high] eqA72
def api_Dirty.l0 : Nat → List (S72) → List (S72) → Int → Int → Option (Bool)
 | 0,_,_,_,_=>none
 | k + 1,x0,x1,x12,x13=>if x13 < x12 then (if 0≤x13 then (if x13 < (x0.length : Int) then (if x13 < (x1.length : Int) then (if (!(((rd_T72 x0 x13).f0) == ((rd_T72 x1 x13).f0)) || (!(((rd_T72 x0 x13).f1) == ((rd_T72 x1 x13).f1))))=true then (some false) else (api_Dirty.l0 k x0 x1 x12 (wrap64 (x13 + 1)))) else (none)) else (none)) else (none)) else (some true)
def api_Dirty.f (k : Nat) (l0 : List (S72)) (l1 : List (S72)) : Option (Bool):=if (l0.length : Int)=(l1.length : Int) then (api_Dirty.l0 k l0 l1 (l0.length : Int) 0) else (some false)
set_option maxHeartbeats 8000000 in
set_option maxRecDepth 100000 in
theorem api_Dirty.calls (k : Nat) (A0 : Option Addr) (c0 : Nat) (l0 : List (S72)) (A1 : Option Addr) (c1 : Nat) (l1 : List (S72)) (r : Bool) (w : World) (hr0 : Kd.C k72 w A0 l0.length l0) (hc0 : l0.length≤c0) (hr1 : Kd.C k72 w A1 l1.length l1) (hc1 : l1.length≤c1) (h : api_Dirty.f k l0 l1=some r) :
  Calls Try.prog 31 #[.slice A0 l0.length c0,.slice A1 l1.length c1] w fun e w'=>e=.returned (.bool r)∧Drawn0 w w':=by
 have hu72:=Try.underlying72
 have HR0:=Aside0.mk hr0
 have HC0:=Aside0.mk hc0
 clear hr0 hc0
 have HR1:=Aside0.mk hr1
 have HC1:=Aside0.mk hc1
 clear hr1 hc1
 have H : (if (l0.length : Int)=(l1.length : Int) then (api_Dirty.l0 k l0 l1 (l0.length : Int) 0) else (some false))=some r:=h
 clear h
 by_cases c3 : (l0.length : Int)=(l1.length : Int)
 ·rw [if_pos c3] at H
  have c3b0 : ((l0.length : Int) == (l1.length : Int))=true:=beq_iff_eq.mpr c3
  have c3b1 : ((l0.length : Int) != (l1.length : Int))=false:=bne_eq_false_iff_eq.mpr c3
  have c3b2 : (l0.length == l1.length)=true:=by first|simpa using c3|(simp at c3 ⊢;omega)
  clear c3
  have H':=Aside0.mk H
  clear H
  go_enter Try.func31,Try.ntmps31
  go_wp2
  repeat (go_quiet (fail);try go_wp2)
  go_loopg [13] k (fun kq v13 w'=>∃ (x13_1 : Int),v13=.int .i64 x13_1∧Aside0 (api_Dirty.l0 kq l0 l1 (l0.length : Int) x13_1=some r)∧Aside0 (kq≤k)∧Drawn0 w w')
  case atStart=>exact ⟨(0),(by first|rfl|(simp;done)|(simp [*];done)),H',⟨Nat.le_refl _⟩,by repeat (first|exact Drawn0.refl _|apply Drawn0.step)⟩
  case round =>
   clear H'
   try clear c1
   try clear p2
   try clear c3
   try clear c3b0
   try clear c3b1
   try clear c3b2
   obtain ⟨x13_1,rfl,HA,HK1,⟨m1,rfl⟩⟩:=hrel
   cases gk with
   | zero=>exact absurd HA.out (by simp [api_Dirty.l0])
   | succ k1 =>
    have H:=HA.out
    clear HA
    simp only [api_Dirty.l0] at H
    by_cases c4 : x13_1 < (l0.length : Int)
    ·rw [if_pos c4] at H
     have c4b0 : decide (x13_1 < (l0.length : Int))=true:=decide_eq_true c4
     clear c4
     by_cases c5 : 0≤x13_1
     ·rw [if_pos c5] at H
      have c5b0 : decide (0≤x13_1)=true:=decide_eq_true c5
      clear c5
      by_cases c6 : x13_1 < (l0.length : Int)
      ·rw [if_pos c6] at H
       have c6b0 : decide (x13_1 < (l0.length : Int))=true:=decide_eq_true c6
       clear c6
       by_cases c7 : x13_1 < (l1.length : Int)
       ·rw [if_pos c7] at H
        have c7b0 : decide (x13_1 < (l1.length : Int))=true:=decide_eq_true c7
        clear c7
        by_cases c8 : (!(((rd_T72 l0 x13_1).f0) == ((rd_T72 l1 x13_1).f0)) || (!(((rd_T72 l0 x13_1).f1) == ((rd_T72 l1 x13_1).f1))))=true
        ·rw [if_pos c8] at H
         have c8b0 : (!(((rd_T72 l0 x13_1).f0) == ((rd_T72 l1 x13_1).f0)) || (!(((rd_T72 l0 x13_1).f1) == ((rd_T72 l1 x13_1).f1))))=true:=c8
         clear c8
         obtain rfl:=Option.some.inj H
         have p103 : 0≤(x13_1 : Int):=of_decide_eq_true (by first|(with_reducible assumption)|assumption)
         have q103 : x13_1 < (l0.length : Int):=of_decide_eq_true (by first|(with_reducible assumption)|assumption)
         obtain ⟨ad103,e103,hx103_0,hx103_1⟩:=at_T72 HR0.out x13_1 p103 q103
         cases e103
         replace p103:=eq_true p103
         replace q103:=eq_true q103
         have p104 : 0≤(x13_1 : Int):=of_decide_eq_true (by first|(with_reducible assumption)|assumption)
         have q104 : x13_1 < (l1.length : Int):=of_decide_eq_true (by first|(with_reducible assumption)|assumption)
         obtain ⟨ad104,e104,hx104_0,hx104_1⟩:=at_T72 HR1.out x13_1 p104 q104
         cases e104
         replace p104:=eq_true p104
         replace q104:=eq_true q104
         go_wp2
         repeat (go_quiet (fail);try go_wp2)
         go_ret
         exact ⟨by first|rfl|(simp;done)|(simp [*];done),by repeat (first|exact Drawn0.refl _|apply Drawn0.step)⟩
        ·rw [if_neg c8] at H
         have c8b0 : (!(((rd_T72 l0 x13_1).f0) == ((rd_T72 l1 x13_1).f0)) || (!(((rd_T72 l0 x13_1).f1) == ((rd_T72 l1 x13_1).f1))))=false:=by simpa using c8
         clear c8
         have H':=Aside0.mk H
         clear H
         have p103 : 0≤(x13_1 : Int):=of_decide_eq_true (by first|(with_reducible assumption)|assumption)
         have q103 : x13_1 < (l0.length : Int):=of_decide_eq_true (by first|(with_reducible assumption)|assumption)
         obtain ⟨ad103,e103,hx103_0,hx103_1⟩:=at_T72 HR0.out x13_1 p103 q103
         cases e103
         replace p103:=eq_true p103
         replace q103:=eq_true q103
         have p104 : 0≤(x13_1 : Int):=of_decide_eq_true (by first|(with_reducible assumption)|assumption)
         have q104 : x13_1 < (l1.length : Int):=of_decide_eq_true (by first|(with_reducible assumption)|assumption)
         obtain ⟨ad104,e104,hx104_0,hx104_1⟩:=at_T72 HR1.out x13_1 p104 q104
         cases e104
         replace p104:=eq_true p104
         replace q104:=eq_true q104
         go_wp2
         repeat (go_quiet (fail);try go_wp2)
         go_roundg k1
         case measure=>have:=HK1.out;omega
         case rel=>exact ⟨(wrap64 (x13_1 + 1)),(by first|rfl|(simp;done)|(simp [*];done)),H',⟨by have:=HK1.out;omega⟩,by repeat (first|exact Drawn0.refl _|apply Drawn0.step)⟩
       ·rw [if_neg c7] at H
        exact absurd H (by simp)
      ·rw [if_neg c6] at H
       exact absurd H (by simp)
     ·rw [if_neg c5] at H
      exact absurd H (by simp)
    ·rw [if_neg c4] at H
     have c4b0 : decide (x13_1 < (l0.length : Int))=false:=decide_eq_false c4
     clear c4
     obtain rfl:=Option.some.inj H
     go_wp2
     repeat (go_quiet (fail);try go_wp2)
     go_ret
     exact ⟨by first|rfl|(simp;done)|(simp [*];done),by repeat (first|exact Drawn0.refl _|apply Drawn0.step)⟩
 ·rw [if_neg c3] at H
  have c3b0 : ((l0.length : Int) == (l1.length : Int))=false:=beq_eq_false_iff_ne.mpr c3
  have c3b1 : ((l0.length : Int) != (l1.length : Int))=true:=bne_iff_ne.mpr c3
  have c3b2 : (l0.length == l1.length)=false:=by first|simpa using c3|(simp at c3 ⊢;omega)
  obtain rfl:=Option.some.inj H
  go_enter Try.func31,Try.ntmps31
  go_wp2
  repeat (go_quiet (fail);try go_wp2)
  go_ret
  exact ⟨by first|rfl|(simp;done)|(simp [*];done),by repeat (first|exact Drawn0.refl _|apply Drawn0.step)⟩
end Go.Proofs.Ytebickoieipjpaa.PRs
end
section
namespace Go.Proofs.Ytebickoieipjpaa.PRs
open Go.RowKit Go.Proofs.YtebickoieipjpaaW.PrintWords Go.Proofs.YtebickoieipjpaaW.PrintLast Go.Proofs.YtebickoieipjpaaW.PrintMore
attribute [local go_sem] max2_int min2_int max_two min_two max_three min_three max_four min_four
set_option linter.unusedVariables false
set_option linter.unusedSimpArgs false
attribute [local go_sem high] eqA27 eqA31
def rec_Same.f (k : Nat) (a0_0 : Int) (a0_1 : Int) (a0_2 : Int) (a0_3 : Int) (a0_4 : Int) (a0_5 : Int) (a0_6 : Int) (a0_7 : ByteArray) (a0_8 : ByteArray) (a0_9 : Int) (a0_10 : Int) (a0_11 : ByteArray) (a0_12 : Int) (a0_13 : Int) (a0_14 : Bool) (l0_15 : List (S70)) (l0_16 : List (S72)) (a1_0 : Int) (a1_1 : Int) (a1_2 : Int) (a1_3 : Int) (a1_4 : Int) (a1_5 : Int) (a1_6 : Int) (a1_7 : ByteArray) (a1_8 : ByteArray) (a1_9 : Int) (a1_10 : Int) (a1_11 : ByteArray) (a1_12 : Int) (a1_13 : Int) (a1_14 : Bool) (l1_15 : List (S70)) (l1_16 : List (S72)) : Option (Bool):=(api_TxState.f k l0_15 l1_15).bind fun t107=>(if t107=true then ((api_Dirty.f k l0_16 l1_16).bind fun t108=>(if t108=true then (if a0_0=a1_0 then (if a0_1=a1_1 then (if a0_2=a1_2 then (if a0_3=a1_3 then (if a0_4=a1_4 then (if (a0_5 == a1_5 && (a0_6 == a1_6 && (a0_7.toList == a1_7.toList && (a0_8.toList == a1_8.toList))))=true then (if a0_9=a1_9 then (if a0_10=a1_10 then (if (a0_11.toList == a1_11.toList && ((a0_12 == a1_12 && (a0_13 == a1_13))))=true then (some (a0_14 == a1_14)) else (some false)) else (some false)) else (some false)) else (some false)) else (some false)) else (some false)) else (some false)) else (some false)) else (some false)) else (some false))) else (some false))
set_option maxHeartbeats 8000000 in
set_option maxRecDepth 100000 in
theorem rec_Same.calls (k : Nat) (a0_0 : Int) (a0_1 : Int) (a0_2 : Int) (a0_3 : Int) (a0_4 : Int) (a0_5 : Int) (a0_6 : Int) (a0_7 : ByteArray) (a0_8 : ByteArray) (a0_9 : Int) (a0_10 : Int) (a0_11 : ByteArray) (a0_12 : Int) (a0_13 : Int) (a0_14 : Bool) (A0_15 : Option Addr) (c0_15 : Nat) (l0_15 : List (S70)) (A0_16 : Option Addr) (c0_16 : Nat) (l0_16 : List (S72)) (a1_0 : Int) (a1_1 : Int) (a1_2 : Int) (a1_3 : Int) (a1_4 : Int) (a1_5 : Int) (a1_6 : Int) (a1_7 : ByteArray) (a1_8 : ByteArray) (a1_9 : Int) (a1_10 : Int) (a1_11 : ByteArray) (a1_12 : Int) (a1_13 : Int) (a1_14 : Bool) (A1_15 : Option Addr) (c1_15 : Nat) (l1_15 : List (S70)) (A1_16 : Option Addr) (c1_16 : Nat) (l1_16 : List (S72)) (r : Bool) (w : World) (hr0_15 : Kd.C k70 w A0_15 l0_15.length l0_15) (hc0_15 : l0_15.length≤c0_15) (hr0_16 : Kd.C k72 w A0_16 l0_16.length l0_16) (hc0_16 : l0_16.length≤c0_16) (hr1_15 : Kd.C k70 w A1_15 l1_15.length l1_15) (hc1_15 : l1_15.length≤c1_15) (hr1_16 : Kd.C k72 w A1_16 l1_16.length l1_16) (hc1_16 : l1_16.length≤c1_16) (h : rec_Same.f k a0_0 a0_1 a0_2 a0_3 a0_4 a0_5 a0_6 a0_7 a0_8 a0_9 a0_10 a0_11 a0_12 a0_13 a0_14 l0_15 l0_16 a1_0 a1_1 a1_2 a1_3 a1_4 a1_5 a1_6 a1_7 a1_8 a1_9 a1_10 a1_11 a1_12 a1_13 a1_14 l1_15 l1_16=some r) :
  Calls Try.prog 11 #[.agg #[.int .i64 a0_0,.int .i64 a0_1,.int .u64 a0_2,.int .u64 a0_3,.int .u32 a0_4,.int .i64 a0_5,.int .i64 a0_6,.string a0_7,.string a0_8,.int .i64 a0_9,.int .i64 a0_10,.string a0_11,.int .u32 a0_12,.int .i64 a0_13,.bool a0_14,.slice A0_15 l0_15.length c0_15,.slice A0_16 l0_16.length c0_16],.agg #[.int .i64 a1_0,.int .i64 a1_1,.int .u64 a1_2,.int .u64 a1_3,.int .u32 a1_4,.int .i64 a1_5,.int .i64 a1_6,.string a1_7,.string a1_8,.int .i64 a1_9,.int .i64 a1_10,.string a1_11,.int .u32 a1_12,.int .i64 a1_13,.bool a1_14,.slice A1_15 l1_15.length c1_15,.slice A1_16 l1_16.length c1_16]] w fun e w'=>e=.returned (.bool r)∧Below w.heap.size w w':=by
 have hu35:=Try.underlying35
 have hu27:=Try.underlying27
 have hu31:=Try.underlying31
 have HR0_15:=Aside0.mk hr0_15
 have HC0_15:=Aside0.mk hc0_15
 clear hr0_15 hc0_15
 have HR0_16:=Aside0.mk hr0_16
 have HC0_16:=Aside0.mk hc0_16
 clear hr0_16 hc0_16
 have HR1_15:=Aside0.mk hr1_15
 have HC1_15:=Aside0.mk hc1_15
 clear hr1_15 hc1_15
 have HR1_16:=Aside0.mk hr1_16
 have HC1_16:=Aside0.mk hc1_16
 clear hr1_16 hc1_16
 have HB:=Aside0.mk (Below.refl w.heap.size w)
 have H : ((api_TxState.f k l0_15 l1_15).bind fun t107=>(if t107=true then ((api_Dirty.f k l0_16 l1_16).bind fun t108=>(if t108=true then (if a0_0=a1_0 then (if a0_1=a1_1 then (if a0_2=a1_2 then (if a0_3=a1_3 then (if a0_4=a1_4 then (if (a0_5 == a1_5 && (a0_6 == a1_6 && (a0_7.toList == a1_7.toList && (a0_8.toList == a1_8.toList))))=true then (if a0_9=a1_9 then (if a0_10=a1_10 then (if (a0_11.toList == a1_11.toList && ((a0_12 == a1_12 && (a0_13 == a1_13))))=true then (some (a0_14 == a1_14)) else (some false)) else (some false)) else (some false)) else (some false)) else (some false)) else (some false)) else (some false)) else (some false)) else (some false)) else (some false))) else (some false)))=some r:=h
 clear h
 replace H:=Option.bind_eq_some_iff.mp H
 obtain ⟨t107,A30,H⟩:=H
 replace H : (if t107=true then ((api_Dirty.f k l0_16 l1_16).bind fun t108=>(if t108=true then (if a0_0=a1_0 then (if a0_1=a1_1 then (if a0_2=a1_2 then (if a0_3=a1_3 then (if a0_4=a1_4 then (if (a0_5 == a1_5 && (a0_6 == a1_6 && (a0_7.toList == a1_7.toList && (a0_8.toList == a1_8.toList))))=true then (if a0_9=a1_9 then (if a0_10=a1_10 then (if (a0_11.toList == a1_11.toList && ((a0_12 == a1_12 && (a0_13 == a1_13))))=true then (some (a0_14 == a1_14)) else (some false)) else (some false)) else (some false)) else (some false)) else (some false)) else (some false)) else (some false)) else (some false)) else (some false)) else (some false))) else (some false))=some r:=H
 have A3:=Aside0.mk A30
 clear A30
 by_cases c4 : t107=true
 ·subst c4
  have H1 : ((api_Dirty.f k l0_16 l1_16).bind fun t108=>(if t108=true then (if a0_0=a1_0 then (if a0_1=a1_1 then (if a0_2=a1_2 then (if a0_3=a1_3 then (if a0_4=a1_4 then (if (a0_5 == a1_5 && (a0_6 == a1_6 && (a0_7.toList == a1_7.toList && (a0_8.toList == a1_8.toList))))=true then (if a0_9=a1_9 then (if a0_10=a1_10 then (if (a0_11.toList == a1_11.toList && ((a0_12 == a1_12 && (a0_13 == a1_13))))=true then (some (a0_14 == a1_14)) else (some false)) else (some false)) else (some false)) else (some false)) else (some false)) else (some false)) else (some false)) else (some false)) else (some false)) else (some false)))=some r:=by rw [if_pos rfl] at H;exact H
  clear H
  have H:=H1
  clear H1
  replace H:=Option.bind_eq_some_iff.mp H
  obtain ⟨t108,A50,H⟩:=H
  replace H : (if t108=true then (if a0_0=a1_0 then (if a0_1=a1_1 then (if a0_2=a1_2 then (if a0_3=a1_3 then (if a0_4=a1_4 then (if (a0_5 == a1_5 && (a0_6 == a1_6 && (a0_7.toList == a1_7.toList && (a0_8.toList == a1_8.toList))))=true then (if a0_9=a1_9 then (if a0_10=a1_10 then (if (a0_11.toList == a1_11.toList && ((a0_12 == a1_12 && (a0_13 == a1_13))))=true then (some (a0_14 == a1_14)) else (some false)) else (some false)) else (some false)) else (some false)) else (some false)) else (some false)) else (some false)) else (some false)) else (some false)) else (some false))=some r:=H
  have A5:=Aside0.mk A50
  clear A50
  by_cases c6 : t108=true
  ·subst c6
   have H1 : (if a0_0=a1_0 then (if a0_1=a1_1 then (if a0_2=a1_2 then (if a0_3=a1_3 then (if a0_4=a1_4 then (if (a0_5 == a1_5 && (a0_6 == a1_6 && (a0_7.toList == a1_7.toList && (a0_8.toList == a1_8.toList))))=true then (if a0_9=a1_9 then (if a0_10=a1_10 then (if (a0_11.toList == a1_11.toList && ((a0_12 == a1_12 && (a0_13 == a1_13))))=true then (some (a0_14 == a1_14)) else (some false)) else (some false)) else (some false)) else (some false)) else (some false)) else (some false)) else (some false)) else (some false)) else (some false))=some r:=by rw [if_pos rfl] at H;exact H
   clear H
   have H:=H1
   clear H1
   by_cases c7 : a0_0=a1_0
   ·rw [if_pos c7] at H
    have c7b0 : (a0_0 == a1_0)=true:=beq_iff_eq.mpr c7
    have c7b1 : (a0_0 != a1_0)=false:=bne_eq_false_iff_eq.mpr c7
    clear c7
    by_cases c8 : a0_1=a1_1
    ·rw [if_pos c8] at H
     have c8b0 : (a0_1 == a1_1)=true:=beq_iff_eq.mpr c8
     have c8b1 : (a0_1 != a1_1)=false:=bne_eq_false_iff_eq.mpr c8
     clear c8
     by_cases c9 : a0_2=a1_2
     ·rw [if_pos c9] at H
      have c9b0 : (a0_2 == a1_2)=true:=beq_iff_eq.mpr c9
      have c9b1 : (a0_2 != a1_2)=false:=bne_eq_false_iff_eq.mpr c9
      clear c9
      by_cases c10 : a0_3=a1_3
      ·rw [if_pos c10] at H
       have c10b0 : (a0_3 == a1_3)=true:=beq_iff_eq.mpr c10
       have c10b1 : (a0_3 != a1_3)=false:=bne_eq_false_iff_eq.mpr c10
       clear c10
       by_cases c11 : a0_4=a1_4
       ·rw [if_pos c11] at H
        have c11b0 : (a0_4 == a1_4)=true:=beq_iff_eq.mpr c11
        have c11b1 : (a0_4 != a1_4)=false:=bne_eq_false_iff_eq.mpr c11
        clear c11
        by_cases c12 : (a0_5 == a1_5 && (a0_6 == a1_6 && (a0_7.toList == a1_7.toList && (a0_8.toList == a1_8.toList))))=true
        ·rw [if_pos c12] at H
         have c12b0 : (a0_5 == a1_5 && (a0_6 == a1_6 && (a0_7.toList == a1_7.toList && (a0_8.toList == a1_8.toList))))=true:=c12
         (try (have c12b1 : decide (a0_5=a1_5 && (a0_6 == a1_6 && (a0_7.toList == a1_7.toList && (a0_8.toList == a1_8.toList))))=true:=by simpa using c12))
         (try (have c12b2 : (a0_5 == a1_5 && (a0_6 == a1_6 && (a0_7.toList == a1_7.toList && (a0_8.toList == a1_8.toList))))=true:=by simpa using c12))
         clear c12
         by_cases c13 : a0_9=a1_9
         ·rw [if_pos c13] at H
          have c13b0 : (a0_9 == a1_9)=true:=beq_iff_eq.mpr c13
          have c13b1 : (a0_9 != a1_9)=false:=bne_eq_false_iff_eq.mpr c13
          clear c13
          by_cases c14 : a0_10=a1_10
          ·rw [if_pos c14] at H
           have c14b0 : (a0_10 == a1_10)=true:=beq_iff_eq.mpr c14
           have c14b1 : (a0_10 != a1_10)=false:=bne_eq_false_iff_eq.mpr c14
           clear c14
           by_cases c15 : (a0_11.toList == a1_11.toList && ((a0_12 == a1_12 && (a0_13 == a1_13))))=true
           ·rw [if_pos c15] at H
            have c15b0 : (a0_11.toList == a1_11.toList && ((a0_12 == a1_12 && (a0_13 == a1_13))))=true:=c15
            (try (have c15b1 : decide (a0_11.toList=a1_11.toList && ((a0_12 == a1_12 && (a0_13 == a1_13))))=true:=by simpa using c15))
            (try (have c15b2 : (a0_11.toList == a1_11.toList && ((a0_12 == a1_12 && (a0_13 == a1_13))))=true:=by simpa using c15))
            clear c15
            obtain rfl:=Option.some.inj H
            go_enter Try.func11,Try.ntmps11
            go_wp2_with (first|((with_reducible refine gate_dst (N:=2) rfl ?_);refine box_event ?hg (N:=2) ?hd (cs:=#[.int .i64 a0_0,.int .i64 a0_1,.int .u64 a0_2,.int .u64 a0_3,.int .u32 a0_4,.int .i64 a0_5,.int .i64 a0_6,.string a0_7,.string a0_8,.int .i64 a0_9,.int .i64 a0_10,.string a0_11,.int .u32 a0_12,.int .i64 a0_13,.bool a0_14,.slice A0_15 l0_15.length c0_15,.slice A0_16 l0_16.length c0_16]) (t:=35) ?hr ?_;(case hd=>rfl);(case hg=>rfl);(case hr=>first|(go_simp;done)|(go_simp;rfl));intro gb105 hg w16 hbox hb;have n0_:=Aside0.mk (below_step (by repeat (first|(with_reducible first|exact HB.out|apply below_alloc|apply pw_below_drewN|apply below_drew1)|exact HB.out)) hb);have n1_:=Aside0.mk (hbox);have n2_:=Aside0.mk ((by rw [hg];exact (below_size (by repeat (first|(with_reducible first|exact HB.out|apply below_alloc|apply pw_below_drewN|apply below_drew1)|exact HB.out))) : w.heap.size≤gb105));have n3_:=Aside0.mk ((by rw [hg];exact (below_size (by repeat (first|(with_reducible first|exact HB.out|apply below_alloc|apply pw_below_drewN|apply below_drew1)|exact HB.out))) : w.heap.size≤gb105));clear HB;have HB:=n0_;have BK105:=n1_;have GW105:=n2_;have GE105:=n3_;clear n0_ n1_ n2_ n3_;clear hb hbox hg)|((with_reducible refine gate_dst (N:=3) rfl ?_);refine box_event ?hg (N:=3) ?hd (cs:=#[.int .i64 a1_0,.int .i64 a1_1,.int .u64 a1_2,.int .u64 a1_3,.int .u32 a1_4,.int .i64 a1_5,.int .i64 a1_6,.string a1_7,.string a1_8,.int .i64 a1_9,.int .i64 a1_10,.string a1_11,.int .u32 a1_12,.int .i64 a1_13,.bool a1_14,.slice A1_15 l1_15.length c1_15,.slice A1_16 l1_16.length c1_16]) (t:=35) ?hr ?_;(case hd=>rfl);(case hg=>rfl);(case hr=>first|(go_simp;done)|(go_simp;rfl));intro gb106 hg w17 hbox hb;have n0_:=Aside0.mk (blk_below (g:=gb105) (o:=.cells #[.int .i64 a0_0,.int .i64 a0_1,.int .u64 a0_2,.int .u64 a0_3,.int .u32 a0_4,.int .i64 a0_5,.int .i64 a0_6,.string a0_7,.string a0_8,.int .i64 a0_9,.int .i64 a0_10,.string a0_11,.int .u32 a0_12,.int .i64 a0_13,.bool a0_14,.slice A0_15 l0_15.length c0_15,.slice A0_16 l0_16.length c0_16] 35 (0,0)) (by (with_reducible repeat (first|refine blk_drewN ?_ _|refine blk_drew ?_|refine blk_alloc ?_ _));exact BK105.out) hb);have n1_:=Aside0.mk (below_step (by repeat (first|(with_reducible first|exact HB.out|apply below_alloc|apply pw_below_drewN|apply below_drew1|refine below_set ?_ GE105.out)|exact HB.out)) hb);have n2_:=Aside0.mk (hbox);have n3_:=Aside0.mk ((by rw [hg];exact (below_size (by repeat (first|(with_reducible first|exact HB.out|apply below_alloc|apply pw_below_drewN|apply below_drew1|refine below_set ?_ GE105.out)|exact HB.out))) : w.heap.size≤gb106));have n4_:=Aside0.mk ((by rw [hg];exact (below_size (by repeat (first|(with_reducible first|exact HB.out|apply below_alloc|apply pw_below_drewN|apply below_drew1|refine below_set ?_ GE105.out)|exact HB.out))) : w.heap.size≤gb106));have n5_:=Aside0.mk ((by rw [hg];exact Nat.ne_of_lt (blk_lt (g:=gb105) (o:=.cells #[.int .i64 a0_0,.int .i64 a0_1,.int .u64 a0_2,.int .u64 a0_3,.int .u32 a0_4,.int .i64 a0_5,.int .i64 a0_6,.string a0_7,.string a0_8,.int .i64 a0_9,.int .i64 a0_10,.string a0_11,.int .u32 a0_12,.int .i64 a0_13,.bool a0_14,.slice A0_15 l0_15.length c0_15,.slice A0_16 l0_16.length c0_16] 35 (0,0)) (by (with_reducible repeat (first|refine blk_drewN ?_ _|refine blk_drew ?_|refine blk_alloc ?_ _));exact BK105.out)) : gb105≠gb106));have n6_:=Aside0.mk ((by rw [hg];exact Nat.ne_of_gt (blk_lt (g:=gb105) (o:=.cells #[.int .i64 a0_0,.int .i64 a0_1,.int .u64 a0_2,.int .u64 a0_3,.int .u32 a0_4,.int .i64 a0_5,.int .i64 a0_6,.string a0_7,.string a0_8,.int .i64 a0_9,.int .i64 a0_10,.string a0_11,.int .u32 a0_12,.int .i64 a0_13,.bool a0_14,.slice A0_15 l0_15.length c0_15,.slice A0_16 l0_16.length c0_16] 35 (0,0)) (by (with_reducible repeat (first|refine blk_drewN ?_ _|refine blk_drew ?_|refine blk_alloc ?_ _));exact BK105.out)) : gb106≠gb105));clear BK105;clear HB;have BK105:=n0_;have HB:=n1_;have BK106:=n2_;have GW106:=n3_;have GE106:=n4_;have NB105_106:=n5_;have NB106_105:=n6_;clear n0_ n1_ n2_ n3_ n4_ n5_ n6_;clear hb hbox hg;have hnb18:=NB105_106.out;have hnc18:=NB106_105.out;have hcz19_0 : w17.cell? ⟨gb105,0,none⟩=some (.int .i64 a0_0):=(blk_cell BK105.out 0).trans rfl;have hcz19_1 : w17.cell? ⟨gb105,1,none⟩=some (.int .i64 a0_1):=(blk_cell BK105.out 1).trans rfl;have hcz19_2 : w17.cell? ⟨gb105,2,none⟩=some (.int .u64 a0_2):=(blk_cell BK105.out 2).trans rfl;have hcz19_3 : w17.cell? ⟨gb105,3,none⟩=some (.int .u64 a0_3):=(blk_cell BK105.out 3).trans rfl;have hcz19_4 : w17.cell? ⟨gb105,4,none⟩=some (.int .u32 a0_4):=(blk_cell BK105.out 4).trans rfl;have hcz19_5 : w17.cell? ⟨gb105,5,none⟩=some (.int .i64 a0_5):=(blk_cell BK105.out 5).trans rfl;have hcz19_6 : w17.cell? ⟨gb105,6,none⟩=some (.int .i64 a0_6):=(blk_cell BK105.out 6).trans rfl;have hcz19_7 : w17.cell? ⟨gb105,7,none⟩=some (.string a0_7):=(blk_cell BK105.out 7).trans rfl;have hcz19_8 : w17.cell? ⟨gb105,8,none⟩=some (.string a0_8):=(blk_cell BK105.out 8).trans rfl;have hcz19_9 : w17.cell? ⟨gb105,9,none⟩=some (.int .i64 a0_9):=(blk_cell BK105.out 9).trans rfl;have hcz19_10 : w17.cell? ⟨gb105,10,none⟩=some (.int .i64 a0_10):=(blk_cell BK105.out 10).trans rfl;have hcz19_11 : w17.cell? ⟨gb105,11,none⟩=some (.string a0_11):=(blk_cell BK105.out 11).trans rfl;have hcz19_12 : w17.cell? ⟨gb105,12,none⟩=some (.int .u32 a0_12):=(blk_cell BK105.out 12).trans rfl;have hcz19_13 : w17.cell? ⟨gb105,13,none⟩=some (.int .i64 a0_13):=(blk_cell BK105.out 13).trans rfl;have hcz19_14 : w17.cell? ⟨gb105,14,none⟩=some (.bool a0_14):=(blk_cell BK105.out 14).trans rfl;have hcz19_15 : w17.cell? ⟨gb105,15,none⟩=some (.slice A0_15 l0_15.length c0_15):=(blk_cell BK105.out 15).trans rfl;have hcz19_16 : w17.cell? ⟨gb105,16,none⟩=some (.slice A0_16 l0_16.length c0_16):=(blk_cell BK105.out 16).trans rfl;have hfz19_0:=blk_frozen BK105.out 0;have hfz19_1:=blk_frozen BK105.out 1;have hfz19_2:=blk_frozen BK105.out 2;have hfz19_3:=blk_frozen BK105.out 3;have hfz19_4:=blk_frozen BK105.out 4;have hfz19_5:=blk_frozen BK105.out 5;have hfz19_6:=blk_frozen BK105.out 6;have hfz19_7:=blk_frozen BK105.out 7;have hfz19_8:=blk_frozen BK105.out 8;have hfz19_9:=blk_frozen BK105.out 9;have hfz19_10:=blk_frozen BK105.out 10;have hfz19_11:=blk_frozen BK105.out 11;have hfz19_12:=blk_frozen BK105.out 12;have hfz19_13:=blk_frozen BK105.out 13;have hfz19_14:=blk_frozen BK105.out 14;have hfz19_15:=blk_frozen BK105.out 15;have hfz19_16:=blk_frozen BK105.out 16;have hcz20_0 : w17.cell? ⟨gb106,0,none⟩=some (.int .i64 a1_0):=(blk_cell BK106.out 0).trans rfl;have hcz20_1 : w17.cell? ⟨gb106,1,none⟩=some (.int .i64 a1_1):=(blk_cell BK106.out 1).trans rfl;have hcz20_2 : w17.cell? ⟨gb106,2,none⟩=some (.int .u64 a1_2):=(blk_cell BK106.out 2).trans rfl;have hcz20_3 : w17.cell? ⟨gb106,3,none⟩=some (.int .u64 a1_3):=(blk_cell BK106.out 3).trans rfl;have hcz20_4 : w17.cell? ⟨gb106,4,none⟩=some (.int .u32 a1_4):=(blk_cell BK106.out 4).trans rfl;have hcz20_5 : w17.cell? ⟨gb106,5,none⟩=some (.int .i64 a1_5):=(blk_cell BK106.out 5).trans rfl;have hcz20_6 : w17.cell? ⟨gb106,6,none⟩=some (.int .i64 a1_6):=(blk_cell BK106.out 6).trans rfl;have hcz20_7 : w17.cell? ⟨gb106,7,none⟩=some (.string a1_7):=(blk_cell BK106.out 7).trans rfl;have hcz20_8 : w17.cell? ⟨gb106,8,none⟩=some (.string a1_8):=(blk_cell BK106.out 8).trans rfl;have hcz20_9 : w17.cell? ⟨gb106,9,none⟩=some (.int .i64 a1_9):=(blk_cell BK106.out 9).trans rfl;have hcz20_10 : w17.cell? ⟨gb106,10,none⟩=some (.int .i64 a1_10):=(blk_cell BK106.out 10).trans rfl;have hcz20_11 : w17.cell? ⟨gb106,11,none⟩=some (.string a1_11):=(blk_cell BK106.out 11).trans rfl;have hcz20_12 : w17.cell? ⟨gb106,12,none⟩=some (.int .u32 a1_12):=(blk_cell BK106.out 12).trans rfl;have hcz20_13 : w17.cell? ⟨gb106,13,none⟩=some (.int .i64 a1_13):=(blk_cell BK106.out 13).trans rfl;have hcz20_14 : w17.cell? ⟨gb106,14,none⟩=some (.bool a1_14):=(blk_cell BK106.out 14).trans rfl;have hcz20_15 : w17.cell? ⟨gb106,15,none⟩=some (.slice A1_15 l1_15.length c1_15):=(blk_cell BK106.out 15).trans rfl;have hcz20_16 : w17.cell? ⟨gb106,16,none⟩=some (.slice A1_16 l1_16.length c1_16):=(blk_cell BK106.out 16).trans rfl;have hfz20_0:=blk_frozen BK106.out 0;have hfz20_1:=blk_frozen BK106.out 1;have hfz20_2:=blk_frozen BK106.out 2;have hfz20_3:=blk_frozen BK106.out 3;have hfz20_4:=blk_frozen BK106.out 4;have hfz20_5:=blk_frozen BK106.out 5;have hfz20_6:=blk_frozen BK106.out 6;have hfz20_7:=blk_frozen BK106.out 7;have hfz20_8:=blk_frozen BK106.out 8;have hfz20_9:=blk_frozen BK106.out 9;have hfz20_10:=blk_frozen BK106.out 10;have hfz20_11:=blk_frozen BK106.out 11;have hfz20_12:=blk_frozen BK106.out 12;have hfz20_13:=blk_frozen BK106.out 13;have hfz20_14:=blk_frozen BK106.out 14;have hfz20_15:=blk_frozen BK106.out 15;have hfz20_16:=blk_frozen BK106.out 16)|((with_reducible refine gate_callee (f:=30) rfl ?_);refine goesL_ (some 9) rfl rfl Try.func30 (by kernel_rfl) rfl #[.slice A0_15 l0_15.length c0_15,.slice A1_15 l1_15.length c1_15] rfl (by (try simp only [List.map_toArray,List.map_cons,List.map_nil]);first|done|rfl|(simp only [List.length_drop,List.length_take];rfl)) ?_;(with_reducible refine (api_TxState.calls k _ _ l0_15 _ _ l1_15 true _ ?side1 ?side2 ?side3 ?side4 A3.out).mono ?_);(case side1=>repeat (first|exact (Kd.C_below HR0_15.out HB.out)|(with_reducible refine Kd.C_alloc ?_ _)|(with_reducible refine Kd.C_drewN ?_ _)|(with_reducible refine Kd.C_drew ?_)));(case side2=>exact HC0_15.out);(case side3=>repeat (first|exact (Kd.C_below HR1_15.out HB.out)|(with_reducible refine Kd.C_alloc ?_ _)|(with_reducible refine Kd.C_drewN ?_ _)|(with_reducible refine Kd.C_drew ?_)));(case side4=>exact HC1_15.out);rintro e w' ⟨rfl,⟨nd,rfl⟩⟩;refine ⟨_,rfl,?_⟩)|(go_at_call 31;(with_reducible refine (api_Dirty.calls k _ _ l0_16 _ _ l1_16 true _ ?side1 ?side2 ?side3 ?side4 A5.out).mono ?_);(case side1=>repeat (first|exact (Kd.C_below HR0_16.out (by repeat (first|(with_reducible first|exact HB.out|apply below_alloc|apply pw_below_drewN|apply below_drew1|refine below_set ?_ GE105.out|refine below_set ?_ GE106.out)|exact HB.out)))|(with_reducible refine Kd.C_alloc ?_ _)|(with_reducible refine Kd.C_drewN ?_ _)|(with_reducible refine Kd.C_drew ?_)));(case side2=>exact HC0_16.out);(case side3=>repeat (first|exact (Kd.C_below HR1_16.out (by repeat (first|(with_reducible first|exact HB.out|apply below_alloc|apply pw_below_drewN|apply below_drew1|refine below_set ?_ GE105.out|refine below_set ?_ GE106.out)|exact HB.out)))|(with_reducible refine Kd.C_alloc ?_ _)|(with_reducible refine Kd.C_drewN ?_ _)|(with_reducible refine Kd.C_drew ?_)));(case side4=>exact HC1_16.out);rintro e w' ⟨rfl,⟨nd,rfl⟩⟩))
            go_ret
            exact ⟨by first|rfl|(simp [errW_none,errW_some] <;> rfl)|(simp [*,errW_none,errW_some] <;> rfl),by repeat (first|(with_reducible first|exact HB.out|apply below_alloc|apply pw_below_drewN|apply below_drew1|refine below_set ?_ GE105.out|refine below_set ?_ GE106.out)|exact HB.out)⟩
           ·rw [if_neg c15] at H
            have c15b0 : (a0_11.toList == a1_11.toList && ((a0_12 == a1_12 && (a0_13 == a1_13))))=false:=by simpa using c15
            (try (have c15b1 : decide (a0_11.toList=a1_11.toList && ((a0_12 == a1_12 && (a0_13 == a1_13))))=false:=by simpa using c15))
            (try (have c15b2 : (a0_11.toList == a1_11.toList && ((a0_12 == a1_12 && (a0_13 == a1_13))))=false:=by simpa using c15))
            (try (have c15b3 : ¬ (a0_11.toList=a1_11.toList && ((a0_12 == a1_12 && (a0_13 == a1_13)))):=by simpa using c15))
            clear c15
            obtain rfl:=Option.some.inj H
            go_enter Try.func11,Try.ntmps11
            go_wp2_with (first|((with_reducible refine gate_dst (N:=2) rfl ?_);refine box_event ?hg (N:=2) ?hd (cs:=#[.int .i64 a0_0,.int .i64 a0_1,.int .u64 a0_2,.int .u64 a0_3,.int .u32 a0_4,.int .i64 a0_5,.int .i64 a0_6,.string a0_7,.string a0_8,.int .i64 a0_9,.int .i64 a0_10,.string a0_11,.int .u32 a0_12,.int .i64 a0_13,.bool a0_14,.slice A0_15 l0_15.length c0_15,.slice A0_16 l0_16.length c0_16]) (t:=35) ?hr ?_;(case hd=>rfl);(case hg=>rfl);(case hr=>first|(go_simp;done)|(go_simp;rfl));intro gb105 hg w21 hbox hb;have n0_:=Aside0.mk (below_step (by repeat (first|(with_reducible first|exact HB.out|apply below_alloc|apply pw_below_drewN|apply below_drew1)|exact HB.out)) hb);have n1_:=Aside0.mk (hbox);have n2_:=Aside0.mk ((by rw [hg];exact (below_size (by repeat (first|(with_reducible first|exact HB.out|apply below_alloc|apply pw_below_drewN|apply below_drew1)|exact HB.out))) : w.heap.size≤gb105));have n3_:=Aside0.mk ((by rw [hg];exact (below_size (by repeat (first|(with_reducible first|exact HB.out|apply below_alloc|apply pw_below_drewN|apply below_drew1)|exact HB.out))) : w.heap.size≤gb105));clear HB;have HB:=n0_;have BK105:=n1_;have GW105:=n2_;have GE105:=n3_;clear n0_ n1_ n2_ n3_;clear hb hbox hg)|((with_reducible refine gate_dst (N:=3) rfl ?_);refine box_event ?hg (N:=3) ?hd (cs:=#[.int .i64 a1_0,.int .i64 a1_1,.int .u64 a1_2,.int .u64 a1_3,.int .u32 a1_4,.int .i64 a1_5,.int .i64 a1_6,.string a1_7,.string a1_8,.int .i64 a1_9,.int .i64 a1_10,.string a1_11,.int .u32 a1_12,.int .i64 a1_13,.bool a1_14,.slice A1_15 l1_15.length c1_15,.slice A1_16 l1_16.length c1_16]) (t:=35) ?hr ?_;(case hd=>rfl);(case hg=>rfl);(case hr=>first|(go_simp;done)|(go_simp;rfl));intro gb106 hg w22 hbox hb;have n0_:=Aside0.mk (blk_below (g:=gb105) (o:=.cells #[.int .i64 a0_0,.int .i64 a0_1,.int .u64 a0_2,.int .u64 a0_3,.int .u32 a0_4,.int .i64 a0_5,.int .i64 a0_6,.string a0_7,.string a0_8,.int .i64 a0_9,.int .i64 a0_10,.string a0_11,.int .u32 a0_12,.int .i64 a0_13,.bool a0_14,.slice A0_15 l0_15.length c0_15,.slice A0_16 l0_16.length c0_16] 35 (0,0)) (by (with_reducible repeat (first|refine blk_drewN ?_ _|refine blk_drew ?_|refine blk_alloc ?_ _));exact BK105.out) hb);have n1_:=Aside0.mk (below_step (by repeat (first|(with_reducible first|exact HB.out|apply below_alloc|apply pw_below_drewN|apply below_drew1|refine below_set ?_ GE105.out)|exact HB.out)) hb);have n2_:=Aside0.mk (hbox);have n3_:=Aside0.mk ((by rw [hg];exact (below_size (by repeat (first|(with_reducible first|exact HB.out|apply below_alloc|apply pw_below_drewN|apply below_drew1|refine below_set ?_ GE105.out)|exact HB.out))) : w.heap.size≤gb106));have n4_:=Aside0.mk ((by rw [hg];exact (below_size (by repeat (first|(with_reducible first|exact HB.out|apply below_alloc|apply pw_below_drewN|apply below_drew1|refine below_set ?_ GE105.out)|exact HB.out))) : w.heap.size≤gb106));have n5_:=Aside0.mk ((by rw [hg];exact Nat.ne_of_lt (blk_lt (g:=gb105) (o:=.cells #[.int .i64 a0_0,.int .i64 a0_1,.int .u64 a0_2,.int .u64 a0_3,.int .u32 a0_4,.int .i64 a0_5,.int .i64 a0_6,.string a0_7,.string a0_8,.int .i64 a0_9,.int .i64 a0_10,.string a0_11,.int .u32 a0_12,.int .i64 a0_13,.bool a0_14,.slice A0_15 l0_15.length c0_15,.slice A0_16 l0_16.length c0_16] 35 (0,0)) (by (with_reducible repeat (first|refine blk_drewN ?_ _|refine blk_drew ?_|refine blk_alloc ?_ _));exact BK105.out)) : gb105≠gb106));have n6_:=Aside0.mk ((by rw [hg];exact Nat.ne_of_gt (blk_lt (g:=gb105) (o:=.cells #[.int .i64 a0_0,.int .i64 a0_1,.int .u64 a0_2,.int .u64 a0_3,.int .u32 a0_4,.int .i64 a0_5,.int .i64 a0_6,.string a0_7,.string a0_8,.int .i64 a0_9,.int .i64 a0_10,.string a0_11,.int .u32 a0_12,.int .i64 a0_13,.bool a0_14,.slice A0_15 l0_15.length c0_15,.slice A0_16 l0_16.length c0_16] 35 (0,0)) (by (with_reducible repeat (first|refine blk_drewN ?_ _|refine blk_drew ?_|refine blk_alloc ?_ _));exact BK105.out)) : gb106≠gb105));clear BK105;clear HB;have BK105:=n0_;have HB:=n1_;have BK106:=n2_;have GW106:=n3_;have GE106:=n4_;have NB105_106:=n5_;have NB106_105:=n6_;clear n0_ n1_ n2_ n3_ n4_ n5_ n6_;clear hb hbox hg;have hnb23:=NB105_106.out;have hnc23:=NB106_105.out;have hcz24_0 : w22.cell? ⟨gb105,0,none⟩=some (.int .i64 a0_0):=(blk_cell BK105.out 0).trans rfl;have hcz24_1 : w22.cell? ⟨gb105,1,none⟩=some (.int .i64 a0_1):=(blk_cell BK105.out 1).trans rfl;have hcz24_2 : w22.cell? ⟨gb105,2,none⟩=some (.int .u64 a0_2):=(blk_cell BK105.out 2).trans rfl;have hcz24_3 : w22.cell? ⟨gb105,3,none⟩=some (.int .u64 a0_3):=(blk_cell BK105.out 3).trans rfl;have hcz24_4 : w22.cell? ⟨gb105,4,none⟩=some (.int .u32 a0_4):=(blk_cell BK105.out 4).trans rfl;have hcz24_5 : w22.cell? ⟨gb105,5,none⟩=some (.int .i64 a0_5):=(blk_cell BK105.out 5).trans rfl;have hcz24_6 : w22.cell? ⟨gb105,6,none⟩=some (.int .i64 a0_6):=(blk_cell BK105.out 6).trans rfl;have hcz24_7 : w22.cell? ⟨gb105,7,none⟩=some (.string a0_7):=(blk_cell BK105.out 7).trans rfl;have hcz24_8 : w22.cell? ⟨gb105,8,none⟩=some (.string a0_8):=(blk_cell BK105.out 8).trans rfl;have hcz24_9 : w22.cell? ⟨gb105,9,none⟩=some (.int .i64 a0_9):=(blk_cell BK105.out 9).trans rfl;have hcz24_10 : w22.cell? ⟨gb105,10,none⟩=some (.int .i64 a0_10):=(blk_cell BK105.out 10).trans rfl;have hcz24_11 : w22.cell? ⟨gb105,11,none⟩=some (.string a0_11):=(blk_cell BK105.out 11).trans rfl;have hcz24_12 : w22.cell? ⟨gb105,12,none⟩=some (.int .u32 a0_12):=(blk_cell BK105.out 12).trans rfl;have hcz24_13 : w22.cell? ⟨gb105,13,none⟩=some (.int .i64 a0_13):=(blk_cell BK105.out 13).trans rfl;have hcz24_14 : w22.cell? ⟨gb105,14,none⟩=some (.bool a0_14):=(blk_cell BK105.out 14).trans rfl;have hcz24_15 : w22.cell? ⟨gb105,15,none⟩=some (.slice A0_15 l0_15.length c0_15):=(blk_cell BK105.out 15).trans rfl;have hcz24_16 : w22.cell? ⟨gb105,16,none⟩=some (.slice A0_16 l0_16.length c0_16):=(blk_cell BK105.out 16).trans rfl;have hfz24_0:=blk_frozen BK105.out 0;have hfz24_1:=blk_frozen BK105.out 1;have hfz24_2:=blk_frozen BK105.out 2;have hfz24_3:=blk_frozen BK105.out 3;have hfz24_4:=blk_frozen BK105.out 4;have hfz24_5:=blk_frozen BK105.out 5;have hfz24_6:=blk_frozen BK105.out 6;have hfz24_7:=blk_frozen BK105.out 7;have hfz24_8:=blk_frozen BK105.out 8;have hfz24_9:=blk_frozen BK105.out 9;have hfz24_10:=blk_frozen BK105.out 10;have hfz24_11:=blk_frozen BK105.out 11;have hfz24_12:=blk_frozen BK105.out 12;have hfz24_13:=blk_frozen BK105.out 13;have hfz24_14:=blk_frozen BK105.out 14;have hfz24_15:=blk_frozen BK105.out 15;have hfz24_16:=blk_frozen BK105.out 16;have hcz25_0 : w22.cell? ⟨gb106,0,none⟩=some (.int .i64 a1_0):=(blk_cell BK106.out 0).trans rfl;have hcz25_1 : w22.cell? ⟨gb106,1,none⟩=some (.int .i64 a1_1):=(blk_cell BK106.out 1).trans rfl;have hcz25_2 : w22.cell? ⟨gb106,2,none⟩=some (.int .u64 a1_2):=(blk_cell BK106.out 2).trans rfl;have hcz25_3 : w22.cell? ⟨gb106,3,none⟩=some (.int .u64 a1_3):=(blk_cell BK106.out 3).trans rfl;have hcz25_4 : w22.cell? ⟨gb106,4,none⟩=some (.int .u32 a1_4):=(blk_cell BK106.out 4).trans rfl;have hcz25_5 : w22.cell? ⟨gb106,5,none⟩=some (.int .i64 a1_5):=(blk_cell BK106.out 5).trans rfl;have hcz25_6 : w22.cell? ⟨gb106,6,none⟩=some (.int .i64 a1_6):=(blk_cell BK106.out 6).trans rfl;have hcz25_7 : w22.cell? ⟨gb106,7,none⟩=some (.string a1_7):=(blk_cell BK106.out 7).trans rfl;have hcz25_8 : w22.cell? ⟨gb106,8,none⟩=some (.string a1_8):=(blk_cell BK106.out 8).trans rfl;have hcz25_9 : w22.cell? ⟨gb106,9,none⟩=some (.int .i64 a1_9):=(blk_cell BK106.out 9).trans rfl;have hcz25_10 : w22.cell? ⟨gb106,10,none⟩=some (.int .i64 a1_10):=(blk_cell BK106.out 10).trans rfl;have hcz25_11 : w22.cell? ⟨gb106,11,none⟩=some (.string a1_11):=(blk_cell BK106.out 11).trans rfl;have hcz25_12 : w22.cell? ⟨gb106,12,none⟩=some (.int .u32 a1_12):=(blk_cell BK106.out 12).trans rfl;have hcz25_13 : w22.cell? ⟨gb106,13,none⟩=some (.int .i64 a1_13):=(blk_cell BK106.out 13).trans rfl;have hcz25_14 : w22.cell? ⟨gb106,14,none⟩=some (.bool a1_14):=(blk_cell BK106.out 14).trans rfl;have hcz25_15 : w22.cell? ⟨gb106,15,none⟩=some (.slice A1_15 l1_15.length c1_15):=(blk_cell BK106.out 15).trans rfl;have hcz25_16 : w22.cell? ⟨gb106,16,none⟩=some (.slice A1_16 l1_16.length c1_16):=(blk_cell BK106.out 16).trans rfl;have hfz25_0:=blk_frozen BK106.out 0;have hfz25_1:=blk_frozen BK106.out 1;have hfz25_2:=blk_frozen BK106.out 2;have hfz25_3:=blk_frozen BK106.out 3;have hfz25_4:=blk_frozen BK106.out 4;have hfz25_5:=blk_frozen BK106.out 5;have hfz25_6:=blk_frozen BK106.out 6;have hfz25_7:=blk_frozen BK106.out 7;have hfz25_8:=blk_frozen BK106.out 8;have hfz25_9:=blk_frozen BK106.out 9;have hfz25_10:=blk_frozen BK106.out 10;have hfz25_11:=blk_frozen BK106.out 11;have hfz25_12:=blk_frozen BK106.out 12;have hfz25_13:=blk_frozen BK106.out 13;have hfz25_14:=blk_frozen BK106.out 14;have hfz25_15:=blk_frozen BK106.out 15;have hfz25_16:=blk_frozen BK106.out 16)|((with_reducible refine gate_callee (f:=30) rfl ?_);refine goesL_ (some 9) rfl rfl Try.func30 (by kernel_rfl) rfl #[.slice A0_15 l0_15.length c0_15,.slice A1_15 l1_15.length c1_15] rfl (by (try simp only [List.map_toArray,List.map_cons,List.map_nil]);first|done|rfl|(simp only [List.length_drop,List.length_take];rfl)) ?_;(with_reducible refine (api_TxState.calls k _ _ l0_15 _ _ l1_15 true _ ?side1 ?side2 ?side3 ?side4 A3.out).mono ?_);(case side1=>repeat (first|exact (Kd.C_below HR0_15.out HB.out)|(with_reducible refine Kd.C_alloc ?_ _)|(with_reducible refine Kd.C_drewN ?_ _)|(with_reducible refine Kd.C_drew ?_)));(case side2=>exact HC0_15.out);(case side3=>repeat (first|exact (Kd.C_below HR1_15.out HB.out)|(with_reducible refine Kd.C_alloc ?_ _)|(with_reducible refine Kd.C_drewN ?_ _)|(with_reducible refine Kd.C_drew ?_)));(case side4=>exact HC1_15.out);rintro e w' ⟨rfl,⟨nd,rfl⟩⟩;refine ⟨_,rfl,?_⟩)|(go_at_call 31;(with_reducible refine (api_Dirty.calls k _ _ l0_16 _ _ l1_16 true _ ?side1 ?side2 ?side3 ?side4 A5.out).mono ?_);(case side1=>repeat (first|exact (Kd.C_below HR0_16.out (by repeat (first|(with_reducible first|exact HB.out|apply below_alloc|apply pw_below_drewN|apply below_drew1|refine below_set ?_ GE105.out|refine below_set ?_ GE106.out)|exact HB.out)))|(with_reducible refine Kd.C_alloc ?_ _)|(with_reducible refine Kd.C_drewN ?_ _)|(with_reducible refine Kd.C_drew ?_)));(case side2=>exact HC0_16.out);(case side3=>repeat (first|exact (Kd.C_below HR1_16.out (by repeat (first|(with_reducible first|exact HB.out|apply below_alloc|apply pw_below_drewN|apply below_drew1|refine below_set ?_ GE105.out|refine below_set ?_ GE106.out)|exact HB.out)))|(with_reducible refine Kd.C_alloc ?_ _)|(with_reducible refine Kd.C_drewN ?_ _)|(with_reducible refine Kd.C_drew ?_)));(case side4=>exact HC1_16.out);rintro e w' ⟨rfl,⟨nd,rfl⟩⟩))
            go_ret
            exact ⟨by first|rfl|(simp [errW_none,errW_some] <;> rfl)|(simp [*,errW_none,errW_some] <;> rfl),by repeat (first|(with_reducible first|exact HB.out|apply below_alloc|apply pw_below_drewN|apply below_drew1|refine below_set ?_ GE105.out|refine below_set ?_ GE106.out)|exact HB.out)⟩
          ·rw [if_neg c14] at H
           have c14b0 : (a0_10 == a1_10)=false:=beq_eq_false_iff_ne.mpr c14
           have c14b1 : (a0_10 != a1_10)=true:=bne_iff_ne.mpr c14
           obtain rfl:=Option.some.inj H
           go_enter Try.func11,Try.ntmps11
           go_wp2_with (first|((with_reducible refine gate_dst (N:=2) rfl ?_);refine box_event ?hg (N:=2) ?hd (cs:=#[.int .i64 a0_0,.int .i64 a0_1,.int .u64 a0_2,.int .u64 a0_3,.int .u32 a0_4,.int .i64 a0_5,.int .i64 a0_6,.string a0_7,.string a0_8,.int .i64 a0_9,.int .i64 a0_10,.string a0_11,.int .u32 a0_12,.int .i64 a0_13,.bool a0_14,.slice A0_15 l0_15.length c0_15,.slice A0_16 l0_16.length c0_16]) (t:=35) ?hr ?_;(case hd=>rfl);(case hg=>rfl);(case hr=>first|(go_simp;done)|(go_simp;rfl));intro gb105 hg w26 hbox hb;have n0_:=Aside0.mk (below_step (by repeat (first|(with_reducible first|exact HB.out|apply below_alloc|apply pw_below_drewN|apply below_drew1)|exact HB.out)) hb);have n1_:=Aside0.mk (hbox);have n2_:=Aside0.mk ((by rw [hg];exact (below_size (by repeat (first|(with_reducible first|exact HB.out|apply below_alloc|apply pw_below_drewN|apply below_drew1)|exact HB.out))) : w.heap.size≤gb105));have n3_:=Aside0.mk ((by rw [hg];exact (below_size (by repeat (first|(with_reducible first|exact HB.out|apply below_alloc|apply pw_below_drewN|apply below_drew1)|exact HB.out))) : w.heap.size≤gb105));clear HB;have HB:=n0_;have BK105:=n1_;have GW105:=n2_;have GE105:=n3_;clear n0_ n1_ n2_ n3_;clear hb hbox hg)|((with_reducible refine gate_dst (N:=3) rfl ?_);refine box_event ?hg (N:=3) ?hd (cs:=#[.int .i64 a1_0,.int .i64 a1_1,.int .u64 a1_2,.int .u64 a1_3,.int .u32 a1_4,.int .i64 a1_5,.int .i64 a1_6,.string a1_7,.string a1_8,.int .i64 a1_9,.int .i64 a1_10,.string a1_11,.int .u32 a1_12,.int .i64 a1_13,.bool a1_14,.slice A1_15 l1_15.length c1_15,.slice A1_16 l1_16.length c1_16]) (t:=35) ?hr ?_;(case hd=>rfl);(case hg=>rfl);(case hr=>first|(go_simp;done)|(go_simp;rfl));intro gb106 hg w27 hbox hb;have n0_:=Aside0.mk (blk_below (g:=gb105) (o:=.cells #[.int .i64 a0_0,.int .i64 a0_1,.int .u64 a0_2,.int .u64 a0_3,.int .u32 a0_4,.int .i64 a0_5,.int .i64 a0_6,.string a0_7,.string a0_8,.int .i64 a0_9,.int .i64 a0_10,.string a0_11,.int .u32 a0_12,.int .i64 a0_13,.bool a0_14,.slice A0_15 l0_15.length c0_15,.slice A0_16 l0_16.length c0_16] 35 (0,0)) (by (with_reducible repeat (first|refine blk_drewN ?_ _|refine blk_drew ?_|refine blk_alloc ?_ _));exact BK105.out) hb);have n1_:=Aside0.mk (below_step (by repeat (first|(with_reducible first|exact HB.out|apply below_alloc|apply pw_below_drewN|apply below_drew1|refine below_set ?_ GE105.out)|exact HB.out)) hb);have n2_:=Aside0.mk (hbox);have n3_:=Aside0.mk ((by rw [hg];exact (below_size (by repeat (first|(with_reducible first|exact HB.out|apply below_alloc|apply pw_below_drewN|apply below_drew1|refine below_set ?_ GE105.out)|exact HB.out))) : w.heap.size≤gb106));have n4_:=Aside0.mk ((by rw [hg];exact (below_size (by repeat (first|(with_reducible first|exact HB.out|apply below_alloc|apply pw_below_drewN|apply below_drew1|refine below_set ?_ GE105.out)|exact HB.out))) : w.heap.size≤gb106));have n5_:=Aside0.mk ((by rw [hg];exact Nat.ne_of_lt (blk_lt (g:=gb105) (o:=.cells #[.int .i64 a0_0,.int .i64 a0_1,.int .u64 a0_2,.int .u64 a0_3,.int .u32 a0_4,.int .i64 a0_5,.int .i64 a0_6,.string a0_7,.string a0_8,.int .i64 a0_9,.int .i64 a0_10,.string a0_11,.int .u32 a0_12,.int .i64 a0_13,.bool a0_14,.slice A0_15 l0_15.length c0_15,.slice A0_16 l0_16.length c0_16] 35 (0,0)) (by (with_reducible repeat (first|refine blk_drewN ?_ _|refine blk_drew ?_|refine blk_alloc ?_ _));exact BK105.out)) : gb105≠gb106));have n6_:=Aside0.mk ((by rw [hg];exact Nat.ne_of_gt (blk_lt (g:=gb105) (o:=.cells #[.int .i64 a0_0,.int .i64 a0_1,.int .u64 a0_2,.int .u64 a0_3,.int .u32 a0_4,.int .i64 a0_5,.int .i64 a0_6,.string a0_7,.string a0_8,.int .i64 a0_9,.int .i64 a0_10,.string a0_11,.int .u32 a0_12,.int .i64 a0_13,.bool a0_14,.slice A0_15 l0_15.length c0_15,.slice A0_16 l0_16.length c0_16] 35 (0,0)) (by (with_reducible repeat (first|refine blk_drewN ?_ _|refine blk_drew ?_|refine blk_alloc ?_ _));exact BK105.out)) : gb106≠gb105));clear BK105;clear HB;have BK105:=n0_;have HB:=n1_;have BK106:=n2_;have GW106:=n3_;have GE106:=n4_;have NB105_106:=n5_;have NB106_105:=n6_;clear n0_ n1_ n2_ n3_ n4_ n5_ n6_;clear hb hbox hg;have hnb28:=NB105_106.out;have hnc28:=NB106_105.out;have hcz29_0 : w27.cell? ⟨gb105,0,none⟩=some (.int .i64 a0_0):=(blk_cell BK105.out 0).trans rfl;have hcz29_1 : w27.cell? ⟨gb105,1,none⟩=some (.int .i64 a0_1):=(blk_cell BK105.out 1).trans rfl;have hcz29_2 : w27.cell? ⟨gb105,2,none⟩=some (.int .u64 a0_2):=(blk_cell BK105.out 2).trans rfl;have hcz29_3 : w27.cell? ⟨gb105,3,none⟩=some (.int .u64 a0_3):=(blk_cell BK105.out 3).trans rfl;have hcz29_4 : w27.cell? ⟨gb105,4,none⟩=some (.int .u32 a0_4):=(blk_cell BK105.out 4).trans rfl;have hcz29_5 : w27.cell? ⟨gb105,5,none⟩=some (.int .i64 a0_5):=(blk_cell BK105.out 5).trans rfl;have hcz29_6 : w27.cell? ⟨gb105,6,none⟩=some (.int .i64 a0_6):=(blk_cell BK105.out 6).trans rfl;have hcz29_7 : w27.cell? ⟨gb105,7,none⟩=some (.string a0_7):=(blk_cell BK105.out 7).trans rfl;have hcz29_8 : w27.cell? ⟨gb105,8,none⟩=some (.string a0_8):=(blk_cell BK105.out 8).trans rfl;have hcz29_9 : w27.cell? ⟨gb105,9,none⟩=some (.int .i64 a0_9):=(blk_cell BK105.out 9).trans rfl;have hcz29_10 : w27.cell? ⟨gb105,10,none⟩=some (.int .i64 a0_10):=(blk_cell BK105.out 10).trans rfl;have hcz29_11 : w27.cell? ⟨gb105,11,none⟩=some (.string a0_11):=(blk_cell BK105.out 11).trans rfl;have hcz29_12 : w27.cell? ⟨gb105,12,none⟩=some (.int .u32 a0_12):=(blk_cell BK105.out 12).trans rfl;have hcz29_13 : w27.cell? ⟨gb105,13,none⟩=some (.int .i64 a0_13):=(blk_cell BK105.out 13).trans rfl;have hcz29_14 : w27.cell? ⟨gb105,14,none⟩=some (.bool a0_14):=(blk_cell BK105.out 14).trans rfl;have hcz29_15 : w27.cell? ⟨gb105,15,none⟩=some (.slice A0_15 l0_15.length c0_15):=(blk_cell BK105.out 15).trans rfl;have hcz29_16 : w27.cell? ⟨gb105,16,none⟩=some (.slice A0_16 l0_16.length c0_16):=(blk_cell BK105.out 16).trans rfl;have hfz29_0:=blk_frozen BK105.out 0;have hfz29_1:=blk_frozen BK105.out 1;have hfz29_2:=blk_frozen BK105.out 2;have hfz29_3:=blk_frozen BK105.out 3;have hfz29_4:=blk_frozen BK105.out 4;have hfz29_5:=blk_frozen BK105.out 5;have hfz29_6:=blk_frozen BK105.out 6;have hfz29_7:=blk_frozen BK105.out 7;have hfz29_8:=blk_frozen BK105.out 8;have hfz29_9:=blk_frozen BK105.out 9;have hfz29_10:=blk_frozen BK105.out 10;have hfz29_11:=blk_frozen BK105.out 11;have hfz29_12:=blk_frozen BK105.out 12;have hfz29_13:=blk_frozen BK105.out 13;have hfz29_14:=blk_frozen BK105.out 14;have hfz29_15:=blk_frozen BK105.out 15;have hfz29_16:=blk_frozen BK105.out 16;have hcz30_0 : w27.cell? ⟨gb106,0,none⟩=some (.int .i64 a1_0):=(blk_cell BK106.out 0).trans rfl;have hcz30_1 : w27.cell? ⟨gb106,1,none⟩=some (.int .i64 a1_1):=(blk_cell BK106.out 1).trans rfl;have hcz30_2 : w27.cell? ⟨gb106,2,none⟩=some (.int .u64 a1_2):=(blk_cell BK106.out 2).trans rfl;have hcz30_3 : w27.cell? ⟨gb106,3,none⟩=some (.int .u64 a1_3):=(blk_cell BK106.out 3).trans rfl;have hcz30_4 : w27.cell? ⟨gb106,4,none⟩=some (.int .u32 a1_4):=(blk_cell BK106.out 4).trans rfl;have hcz30_5 : w27.cell? ⟨gb106,5,none⟩=some (.int .i64 a1_5):=(blk_cell BK106.out 5).trans rfl;have hcz30_6 : w27.cell? ⟨gb106,6,none⟩=some (.int .i64 a1_6):=(blk_cell BK106.out 6).trans rfl;have hcz30_7 : w27.cell? ⟨gb106,7,none⟩=some (.string a1_7):=(blk_cell BK106.out 7).trans rfl;have hcz30_8 : w27.cell? ⟨gb106,8,none⟩=some (.string a1_8):=(blk_cell BK106.out 8).trans rfl;have hcz30_9 : w27.cell? ⟨gb106,9,none⟩=some (.int .i64 a1_9):=(blk_cell BK106.out 9).trans rfl;have hcz30_10 : w27.cell? ⟨gb106,10,none⟩=some (.int .i64 a1_10):=(blk_cell BK106.out 10).trans rfl;have hcz30_11 : w27.cell? ⟨gb106,11,none⟩=some (.string a1_11):=(blk_cell BK106.out 11).trans rfl;have hcz30_12 : w27.cell? ⟨gb106,12,none⟩=some (.int .u32 a1_12):=(blk_cell BK106.out 12).trans rfl;have hcz30_13 : w27.cell? ⟨gb106,13,none⟩=some (.int .i64 a1_13):=(blk_cell BK106.out 13).trans rfl;have hcz30_14 : w27.cell? ⟨gb106,14,none⟩=some (.bool a1_14):=(blk_cell BK106.out 14).trans rfl;have hcz30_15 : w27.cell? ⟨gb106,15,none⟩=some (.slice A1_15 l1_15.length c1_15):=(blk_cell BK106.out 15).trans rfl;have hcz30_16 : w27.cell? ⟨gb106,16,none⟩=some (.slice A1_16 l1_16.length c1_16):=(blk_cell BK106.out 16).trans rfl;have hfz30_0:=blk_frozen BK106.out 0;have hfz30_1:=blk_frozen BK106.out 1;have hfz30_2:=blk_frozen BK106.out 2;have hfz30_3:=blk_frozen BK106.out 3;have hfz30_4:=blk_frozen BK106.out 4;have hfz30_5:=blk_frozen BK106.out 5;have hfz30_6:=blk_frozen BK106.out 6;have hfz30_7:=blk_frozen BK106.out 7;have hfz30_8:=blk_frozen BK106.out 8;have hfz30_9:=blk_frozen BK106.out 9;have hfz30_10:=blk_frozen BK106.out 10;have hfz30_11:=blk_frozen BK106.out 11;have hfz30_12:=blk_frozen BK106.out 12;have hfz30_13:=blk_frozen BK106.out 13;have hfz30_14:=blk_frozen BK106.out 14;have hfz30_15:=blk_frozen BK106.out 15;have hfz30_16:=blk_frozen BK106.out 16)|((with_reducible refine gate_callee (f:=30) rfl ?_);refine goesL_ (some 9) rfl rfl Try.func30 (by kernel_rfl) rfl #[.slice A0_15 l0_15.length c0_15,.slice A1_15 l1_15.length c1_15] rfl (by (try simp only [List.map_toArray,List.map_cons,List.map_nil]);first|done|rfl|(simp only [List.length_drop,List.length_take];rfl)) ?_;(with_reducible refine (api_TxState.calls k _ _ l0_15 _ _ l1_15 true _ ?side1 ?side2 ?side3 ?side4 A3.out).mono ?_);(case side1=>repeat (first|exact (Kd.C_below HR0_15.out HB.out)|(with_reducible refine Kd.C_alloc ?_ _)|(with_reducible refine Kd.C_drewN ?_ _)|(with_reducible refine Kd.C_drew ?_)));(case side2=>exact HC0_15.out);(case side3=>repeat (first|exact (Kd.C_below HR1_15.out HB.out)|(with_reducible refine Kd.C_alloc ?_ _)|(with_reducible refine Kd.C_drewN ?_ _)|(with_reducible refine Kd.C_drew ?_)));(case side4=>exact HC1_15.out);rintro e w' ⟨rfl,⟨nd,rfl⟩⟩;refine ⟨_,rfl,?_⟩)|(go_at_call 31;(with_reducible refine (api_Dirty.calls k _ _ l0_16 _ _ l1_16 true _ ?side1 ?side2 ?side3 ?side4 A5.out).mono ?_);(case side1=>repeat (first|exact (Kd.C_below HR0_16.out (by repeat (first|(with_reducible first|exact HB.out|apply below_alloc|apply pw_below_drewN|apply below_drew1|refine below_set ?_ GE105.out|refine below_set ?_ GE106.out)|exact HB.out)))|(with_reducible refine Kd.C_alloc ?_ _)|(with_reducible refine Kd.C_drewN ?_ _)|(with_reducible refine Kd.C_drew ?_)));(case side2=>exact HC0_16.out);(case side3=>repeat (first|exact (Kd.C_below HR1_16.out (by repeat (first|(with_reducible first|exact HB.out|apply below_alloc|apply pw_below_drewN|apply below_drew1|refine below_set ?_ GE105.out|refine below_set ?_ GE106.out)|exact HB.out)))|(with_reducible refine Kd.C_alloc ?_ _)|(with_reducible refine Kd.C_drewN ?_ _)|(with_reducible refine Kd.C_drew ?_)));(case side4=>exact HC1_16.out);rintro e w' ⟨rfl,⟨nd,rfl⟩⟩))
           go_ret
           exact ⟨by first|rfl|(simp [errW_none,errW_some] <;> rfl)|(simp [*,errW_none,errW_some] <;> rfl),by repeat (first|(with_reducible first|exact HB.out|apply below_alloc|apply pw_below_drewN|apply below_drew1|refine below_set ?_ GE105.out|refine below_set ?_ GE106.out)|exact HB.out)⟩
         ·rw [if_neg c13] at H
          have c13b0 : (a0_9 == a1_9)=false:=beq_eq_false_iff_ne.mpr c13
          have c13b1 : (a0_9 != a1_9)=true:=bne_iff_ne.mpr c13
          obtain rfl:=Option.some.inj H
          go_enter Try.func11,Try.ntmps11
          go_wp2_with (first|((with_reducible refine gate_dst (N:=2) rfl ?_);refine box_event ?hg (N:=2) ?hd (cs:=#[.int .i64 a0_0,.int .i64 a0_1,.int .u64 a0_2,.int .u64 a0_3,.int .u32 a0_4,.int .i64 a0_5,.int .i64 a0_6,.string a0_7,.string a0_8,.int .i64 a0_9,.int .i64 a0_10,.string a0_11,.int .u32 a0_12,.int .i64 a0_13,.bool a0_14,.slice A0_15 l0_15.length c0_15,.slice A0_16 l0_16.length c0_16]) (t:=35) ?hr ?_;(case hd=>rfl);(case hg=>rfl);(case hr=>first|(go_simp;done)|(go_simp;rfl));intro gb105 hg w31 hbox hb;have n0_:=Aside0.mk (below_step (by repeat (first|(with_reducible first|exact HB.out|apply below_alloc|apply pw_below_drewN|apply below_drew1)|exact HB.out)) hb);have n1_:=Aside0.mk (hbox);have n2_:=Aside0.mk ((by rw [hg];exact (below_size (by repeat (first|(with_reducible first|exact HB.out|apply below_alloc|apply pw_below_drewN|apply below_drew1)|exact HB.out))) : w.heap.size≤gb105));have n3_:=Aside0.mk ((by rw [hg];exact (below_size (by repeat (first|(with_reducible first|exact HB.out|apply below_alloc|apply pw_below_drewN|apply below_drew1)|exact HB.out))) : w.heap.size≤gb105));clear HB;have HB:=n0_;have BK105:=n1_;have GW105:=n2_;have GE105:=n3_;clear n0_ n1_ n2_ n3_;clear hb hbox hg)|((with_reducible refine gate_dst (N:=3) rfl ?_);refine box_event ?hg (N:=3) ?hd (cs:=#[.int .i64 a1_0,.int .i64 a1_1,.int .u64 a1_2,.int .u64 a1_3,.int .u32 a1_4,.int .i64 a1_5,.int .i64 a1_6,.string a1_7,.string a1_8,.int .i64 a1_9,.int .i64 a1_10,.string a1_11,.int .u32 a1_12,.int .i64 a1_13,.bool a1_14,.slice A1_15 l1_15.length c1_15,.slice A1_16 l1_16.length c1_16]) (t:=35) ?hr ?_;(case hd=>rfl);(case hg=>rfl);(case hr=>first|(go_simp;done)|(go_simp;rfl));intro gb106 hg w32 hbox hb;have n0_:=Aside0.mk (blk_below (g:=gb105) (o:=.cells #[.int .i64 a0_0,.int .i64 a0_1,.int .u64 a0_2,.int .u64 a0_3,.int .u32 a0_4,.int .i64 a0_5,.int .i64 a0_6,.string a0_7,.string a0_8,.int .i64 a0_9,.int .i64 a0_10,.string a0_11,.int .u32 a0_12,.int .i64 a0_13,.bool a0_14,.slice A0_15 l0_15.length c0_15,.slice A0_16 l0_16.length c0_16] 35 (0,0)) (by (with_reducible repeat (first|refine blk_drewN ?_ _|refine blk_drew ?_|refine blk_alloc ?_ _));exact BK105.out) hb);have n1_:=Aside0.mk (below_step (by repeat (first|(with_reducible first|exact HB.out|apply below_alloc|apply pw_below_drewN|apply below_drew1|refine below_set ?_ GE105.out)|exact HB.out)) hb);have n2_:=Aside0.mk (hbox);have n3_:=Aside0.mk ((by rw [hg];exact (below_size (by repeat (first|(with_reducible first|exact HB.out|apply below_alloc|apply pw_below_drewN|apply below_drew1|refine below_set ?_ GE105.out)|exact HB.out))) : w.heap.size≤gb106));have n4_:=Aside0.mk ((by rw [hg];exact (below_size (by repeat (first|(with_reducible first|exact HB.out|apply below_alloc|apply pw_below_drewN|apply below_drew1|refine below_set ?_ GE105.out)|exact HB.out))) : w.heap.size≤gb106));have n5_:=Aside0.mk ((by rw [hg];exact Nat.ne_of_lt (blk_lt (g:=gb105) (o:=.cells #[.int .i64 a0_0,.int .i64 a0_1,.int .u64 a0_2,.int .u64 a0_3,.int .u32 a0_4,.int .i64 a0_5,.int .i64 a0_6,.string a0_7,.string a0_8,.int .i64 a0_9,.int .i64 a0_10,.string a0_11,.int .u32 a0_12,.int .i64 a0_13,.bool a0_14,.slice A0_15 l0_15.length c0_15,.slice A0_16 l0_16.length c0_16] 35 (0,0)) (by (with_reducible repeat (first|refine blk_drewN ?_ _|refine blk_drew ?_|refine blk_alloc ?_ _));exact BK105.out)) : gb105≠gb106));have n6_:=Aside0.mk ((by rw [hg];exact Nat.ne_of_gt (blk_lt (g:=gb105) (o:=.cells #[.int .i64 a0_0,.int .i64 a0_1,.int .u64 a0_2,.int .u64 a0_3,.int .u32 a0_4,.int .i64 a0_5,.int .i64 a0_6,.string a0_7,.string a0_8,.int .i64 a0_9,.int .i64 a0_10,.string a0_11,.int .u32 a0_12,.int .i64 a0_13,.bool a0_14,.slice A0_15 l0_15.length c0_15,.slice A0_16 l0_16.length c0_16] 35 (0,0)) (by (with_reducible repeat (first|refine blk_drewN ?_ _|refine blk_drew ?_|refine blk_alloc ?_ _));exact BK105.out)) : gb106≠gb105));clear BK105;clear HB;have BK105:=n0_;have HB:=n1_;have BK106:=n2_;have GW106:=n3_;have GE106:=n4_;have NB105_106:=n5_;have NB106_105:=n6_;clear n0_ n1_ n2_ n3_ n4_ n5_ n6_;clear hb hbox hg;have hnb33:=NB105_106.out;have hnc33:=NB106_105.out;have hcz34_0 : w32.cell? ⟨gb105,0,none⟩=some (.int .i64 a0_0):=(blk_cell BK105.out 0).trans rfl;have hcz34_1 : w32.cell? ⟨gb105,1,none⟩=some (.int .i64 a0_1):=(blk_cell BK105.out 1).trans rfl;have hcz34_2 : w32.cell? ⟨gb105,2,none⟩=some (.int .u64 a0_2):=(blk_cell BK105.out 2).trans rfl;have hcz34_3 : w32.cell? ⟨gb105,3,none⟩=some (.int .u64 a0_3):=(blk_cell BK105.out 3).trans rfl;have hcz34_4 : w32.cell? ⟨gb105,4,none⟩=some (.int .u32 a0_4):=(blk_cell BK105.out 4).trans rfl;have hcz34_5 : w32.cell? ⟨gb105,5,none⟩=some (.int .i64 a0_5):=(blk_cell BK105.out 5).trans rfl;have hcz34_6 : w32.cell? ⟨gb105,6,none⟩=some (.int .i64 a0_6):=(blk_cell BK105.out 6).trans rfl;have hcz34_7 : w32.cell? ⟨gb105,7,none⟩=some (.string a0_7):=(blk_cell BK105.out 7).trans rfl;have hcz34_8 : w32.cell? ⟨gb105,8,none⟩=some (.string a0_8):=(blk_cell BK105.out 8).trans rfl;have hcz34_9 : w32.cell? ⟨gb105,9,none⟩=some (.int .i64 a0_9):=(blk_cell BK105.out 9).trans rfl;have hcz34_10 : w32.cell? ⟨gb105,10,none⟩=some (.int .i64 a0_10):=(blk_cell BK105.out 10).trans rfl;have hcz34_11 : w32.cell? ⟨gb105,11,none⟩=some (.string a0_11):=(blk_cell BK105.out 11).trans rfl;have hcz34_12 : w32.cell? ⟨gb105,12,none⟩=some (.int .u32 a0_12):=(blk_cell BK105.out 12).trans rfl;have hcz34_13 : w32.cell? ⟨gb105,13,none⟩=some (.int .i64 a0_13):=(blk_cell BK105.out 13).trans rfl;have hcz34_14 : w32.cell? ⟨gb105,14,none⟩=some (.bool a0_14):=(blk_cell BK105.out 14).trans rfl;have hcz34_15 : w32.cell? ⟨gb105,15,none⟩=some (.slice A0_15 l0_15.length c0_15):=(blk_cell BK105.out 15).trans rfl;have hcz34_16 : w32.cell? ⟨gb105,16,none⟩=some (.slice A0_16 l0_16.length c0_16):=(blk_cell BK105.out 16).trans rfl;have hfz34_0:=blk_frozen BK105.out 0;have hfz34_1:=blk_frozen BK105.out 1;have hfz34_2:=blk_frozen BK105.out 2;have hfz34_3:=blk_frozen BK105.out 3;have hfz34_4:=blk_frozen BK105.out 4;have hfz34_5:=blk_frozen BK105.out 5;have hfz34_6:=blk_frozen BK105.out 6;have hfz34_7:=blk_frozen BK105.out 7;have hfz34_8:=blk_frozen BK105.out 8;have hfz34_9:=blk_frozen BK105.out 9;have hfz34_10:=blk_frozen BK105.out 10;have hfz34_11:=blk_frozen BK105.out 11;have hfz34_12:=blk_frozen BK105.out 12;have hfz34_13:=blk_frozen BK105.out 13;have hfz34_14:=blk_frozen BK105.out 14;have hfz34_15:=blk_frozen BK105.out 15;have hfz34_16:=blk_frozen BK105.out 16;have hcz35_0 : w32.cell? ⟨gb106,0,none⟩=some (.int .i64 a1_0):=(blk_cell BK106.out 0).trans rfl;have hcz35_1 : w32.cell? ⟨gb106,1,none⟩=some (.int .i64 a1_1):=(blk_cell BK106.out 1).trans rfl;have hcz35_2 : w32.cell? ⟨gb106,2,none⟩=some (.int .u64 a1_2):=(blk_cell BK106.out 2).trans rfl;have hcz35_3 : w32.cell? ⟨gb106,3,none⟩=some (.int .u64 a1_3):=(blk_cell BK106.out 3).trans rfl;have hcz35_4 : w32.cell? ⟨gb106,4,none⟩=some (.int .u32 a1_4):=(blk_cell BK106.out 4).trans rfl;have hcz35_5 : w32.cell? ⟨gb106,5,none⟩=some (.int .i64 a1_5):=(blk_cell BK106.out 5).trans rfl;have hcz35_6 : w32.cell? ⟨gb106,6,none⟩=some (.int .i64 a1_6):=(blk_cell BK106.out 6).trans rfl;have hcz35_7 : w32.cell? ⟨gb106,7,none⟩=some (.string a1_7):=(blk_cell BK106.out 7).trans rfl;have hcz35_8 : w32.cell? ⟨gb106,8,none⟩=some (.string a1_8):=(blk_cell BK106.out 8).trans rfl;have hcz35_9 : w32.cell? ⟨gb106,9,none⟩=some (.int .i64 a1_9):=(blk_cell BK106.out 9).trans rfl;have hcz35_10 : w32.cell? ⟨gb106,10,none⟩=some (.int .i64 a1_10):=(blk_cell BK106.out 10).trans rfl;have hcz35_11 : w32.cell? ⟨gb106,11,none⟩=some (.string a1_11):=(blk_cell BK106.out 11).trans rfl;have hcz35_12 : w32.cell? ⟨gb106,12,none⟩=some (.int .u32 a1_12):=(blk_cell BK106.out 12).trans rfl;have hcz35_13 : w32.cell? ⟨gb106,13,none⟩=some (.int .i64 a1_13):=(blk_cell BK106.out 13).trans rfl;have hcz35_14 : w32.cell? ⟨gb106,14,none⟩=some (.bool a1_14):=(blk_cell BK106.out 14).trans rfl;have hcz35_15 : w32.cell? ⟨gb106,15,none⟩=some (.slice A1_15 l1_15.length c1_15):=(blk_cell BK106.out 15).trans rfl;have hcz35_16 : w32.cell? ⟨gb106,16,none⟩=some (.slice A1_16 l1_16.length c1_16):=(blk_cell BK106.out 16).trans rfl;have hfz35_0:=blk_frozen BK106.out 0;have hfz35_1:=blk_frozen BK106.out 1;have hfz35_2:=blk_frozen BK106.out 2;have hfz35_3:=blk_frozen BK106.out 3;have hfz35_4:=blk_frozen BK106.out 4;have hfz35_5:=blk_frozen BK106.out 5;have hfz35_6:=blk_frozen BK106.out 6;have hfz35_7:=blk_frozen BK106.out 7;have hfz35_8:=blk_frozen BK106.out 8;have hfz35_9:=blk_frozen BK106.out 9;have hfz35_10:=blk_frozen BK106.out 10;have hfz35_11:=blk_frozen BK106.out 11;have hfz35_12:=blk_frozen BK106.out 12;have hfz35_13:=blk_frozen BK106.out 13;have hfz35_14:=blk_frozen BK106.out 14;have hfz35_15:=blk_frozen BK106.out 15;have hfz35_16:=blk_frozen BK106.out 16)|((with_reducible refine gate_callee (f:=30) rfl ?_);refine goesL_ (some 9) rfl rfl Try.func30 (by kernel_rfl) rfl #[.slice A0_15 l0_15.length c0_15,.slice A1_15 l1_15.length c1_15] rfl (by (try simp only [List.map_toArray,List.map_cons,List.map_nil]);first|done|rfl|(simp only [List.length_drop,List.length_take];rfl)) ?_;(with_reducible refine (api_TxState.calls k _ _ l0_15 _ _ l1_15 true _ ?side1 ?side2 ?side3 ?side4 A3.out).mono ?_);(case side1=>repeat (first|exact (Kd.C_below HR0_15.out HB.out)|(with_reducible refine Kd.C_alloc ?_ _)|(with_reducible refine Kd.C_drewN ?_ _)|(with_reducible refine Kd.C_drew ?_)));(case side2=>exact HC0_15.out);(case side3=>repeat (first|exact (Kd.C_below HR1_15.out HB.out)|(with_reducible refine Kd.C_alloc ?_ _)|(with_reducible refine Kd.C_drewN ?_ _)|(with_reducible refine Kd.C_drew ?_)));(case side4=>exact HC1_15.out);rintro e w' ⟨rfl,⟨nd,rfl⟩⟩;refine ⟨_,rfl,?_⟩)|(go_at_call 31;(with_reducible refine (api_Dirty.calls k _ _ l0_16 _ _ l1_16 true _ ?side1 ?side2 ?side3 ?side4 A5.out).mono ?_);(case side1=>repeat (first|exact (Kd.C_below HR0_16.out (by repeat (first|(with_reducible first|exact HB.out|apply below_alloc|apply pw_below_drewN|apply below_drew1|refine below_set ?_ GE105.out|refine below_set ?_ GE106.out)|exact HB.out)))|(with_reducible refine Kd.C_alloc ?_ _)|(with_reducible refine Kd.C_drewN ?_ _)|(with_reducible refine Kd.C_drew ?_)));(case side2=>exact HC0_16.out);(case side3=>repeat (first|exact (Kd.C_below HR1_16.out (by repeat (first|(with_reducible first|exact HB.out|apply below_alloc|apply pw_below_drewN|apply below_drew1|refine below_set ?_ GE105.out|refine below_set ?_ GE106.out)|exact HB.out)))|(with_reducible refine Kd.C_alloc ?_ _)|(with_reducible refine Kd.C_drewN ?_ _)|(with_reducible refine Kd.C_drew ?_)));(case side4=>exact HC1_16.out);rintro e w' ⟨rfl,⟨nd,rfl⟩⟩))
          go_ret
          exact ⟨by first|rfl|(simp [errW_none,errW_some] <;> rfl)|(simp [*,errW_none,errW_some] <;> rfl),by repeat (first|(with_reducible first|exact HB.out|apply below_alloc|apply pw_below_drewN|apply below_drew1|refine below_set ?_ GE105.out|refine below_set ?_ GE106.out)|exact HB.out)⟩
        ·rw [if_neg c12] at H
         have c12b0 : (a0_5 == a1_5 && (a0_6 == a1_6 && (a0_7.toList == a1_7.toList && (a0_8.toList == a1_8.toList))))=false:=by simpa using c12
         (try (have c12b1 : decide (a0_5=a1_5 && (a0_6 == a1_6 && (a0_7.toList == a1_7.toList && (a0_8.toList == a1_8.toList))))=false:=by simpa using c12))
         (try (have c12b2 : (a0_5 == a1_5 && (a0_6 == a1_6 && (a0_7.toList == a1_7.toList && (a0_8.toList == a1_8.toList))))=false:=by simpa using c12))
         (try (have c12b3 : ¬ (a0_5=a1_5 && (a0_6 == a1_6 && (a0_7.toList == a1_7.toList && (a0_8.toList == a1_8.toList)))):=by simpa using c12))
         clear c12
         obtain rfl:=Option.some.inj H
         go_enter Try.func11,Try.ntmps11
         go_wp2_with (first|((with_reducible refine gate_dst (N:=2) rfl ?_);refine box_event ?hg (N:=2) ?hd (cs:=#[.int .i64 a0_0,.int .i64 a0_1,.int .u64 a0_2,.int .u64 a0_3,.int .u32 a0_4,.int .i64 a0_5,.int .i64 a0_6,.string a0_7,.string a0_8,.int .i64 a0_9,.int .i64 a0_10,.string a0_11,.int .u32 a0_12,.int .i64 a0_13,.bool a0_14,.slice A0_15 l0_15.length c0_15,.slice A0_16 l0_16.length c0_16]) (t:=35) ?hr ?_;(case hd=>rfl);(case hg=>rfl);(case hr=>first|(go_simp;done)|(go_simp;rfl));intro gb105 hg w36 hbox hb;have n0_:=Aside0.mk (below_step (by repeat (first|(with_reducible first|exact HB.out|apply below_alloc|apply pw_below_drewN|apply below_drew1)|exact HB.out)) hb);have n1_:=Aside0.mk (hbox);have n2_:=Aside0.mk ((by rw [hg];exact (below_size (by repeat (first|(with_reducible first|exact HB.out|apply below_alloc|apply pw_below_drewN|apply below_drew1)|exact HB.out))) : w.heap.size≤gb105));have n3_:=Aside0.mk ((by rw [hg];exact (below_size (by repeat (first|(with_reducible first|exact HB.out|apply below_alloc|apply pw_below_drewN|apply below_drew1)|exact HB.out))) : w.heap.size≤gb105));clear HB;have HB:=n0_;have BK105:=n1_;have GW105:=n2_;have GE105:=n3_;clear n0_ n1_ n2_ n3_;clear hb hbox hg)|((with_reducible refine gate_dst (N:=3) rfl ?_);refine box_event ?hg (N:=3) ?hd (cs:=#[.int .i64 a1_0,.int .i64 a1_1,.int .u64 a1_2,.int .u64 a1_3,.int .u32 a1_4,.int .i64 a1_5,.int .i64 a1_6,.string a1_7,.string a1_8,.int .i64 a1_9,.int .i64 a1_10,.string a1_11,.int .u32 a1_12,.int .i64 a1_13,.bool a1_14,.slice A1_15 l1_15.length c1_15,.slice A1_16 l1_16.length c1_16]) (t:=35) ?hr ?_;(case hd=>rfl);(case hg=>rfl);(case hr=>first|(go_simp;done)|(go_simp;rfl));intro gb106 hg w37 hbox hb;have n0_:=Aside0.mk (blk_below (g:=gb105) (o:=.cells #[.int .i64 a0_0,.int .i64 a0_1,.int .u64 a0_2,.int .u64 a0_3,.int .u32 a0_4,.int .i64 a0_5,.int .i64 a0_6,.string a0_7,.string a0_8,.int .i64 a0_9,.int .i64 a0_10,.string a0_11,.int .u32 a0_12,.int .i64 a0_13,.bool a0_14,.slice A0_15 l0_15.length c0_15,.slice A0_16 l0_16.length c0_16] 35 (0,0)) (by (with_reducible repeat (first|refine blk_drewN ?_ _|refine blk_drew ?_|refine blk_alloc ?_ _));exact BK105.out) hb);have n1_:=Aside0.mk (below_step (by repeat (first|(with_reducible first|exact HB.out|apply below_alloc|apply pw_below_drewN|apply below_drew1|refine below_set ?_ GE105.out)|exact HB.out)) hb);have n2_:=Aside0.mk (hbox);have n3_:=Aside0.mk ((by rw [hg];exact (below_size (by repeat (first|(with_reducible first|exact HB.out|apply below_alloc|apply pw_below_drewN|apply below_drew1|refine below_set ?_ GE105.out)|exact HB.out))) : w.heap.size≤gb106));have n4_:=Aside0.mk ((by rw [hg];exact (below_size (by repeat (first|(with_reducible first|exact HB.out|apply below_alloc|apply pw_below_drewN|apply below_drew1|refine below_set ?_ GE105.out)|exact HB.out))) : w.heap.size≤gb106));have n5_:=Aside0.mk ((by rw [hg];exact Nat.ne_of_lt (blk_lt (g:=gb105) (o:=.cells #[.int .i64 a0_0,.int .i64 a0_1,.int .u64 a0_2,.int .u64 a0_3,.int .u32 a0_4,.int .i64 a0_5,.int .i64 a0_6,.string a0_7,.string a0_8,.int .i64 a0_9,.int .i64 a0_10,.string a0_11,.int .u32 a0_12,.int .i64 a0_13,.bool a0_14,.slice A0_15 l0_15.length c0_15,.slice A0_16 l0_16.length c0_16] 35 (0,0)) (by (with_reducible repeat (first|refine blk_drewN ?_ _|refine blk_drew ?_|refine blk_alloc ?_ _));exact BK105.out)) : gb105≠gb106));have n6_:=Aside0.mk ((by rw [hg];exact Nat.ne_of_gt (blk_lt (g:=gb105) (o:=.cells #[.int .i64 a0_0,.int .i64 a0_1,.int .u64 a0_2,.int .u64 a0_3,.int .u32 a0_4,.int .i64 a0_5,.int .i64 a0_6,.string a0_7,.string a0_8,.int .i64 a0_9,.int .i64 a0_10,.string a0_11,.int .u32 a0_12,.int .i64 a0_13,.bool a0_14,.slice A0_15 l0_15.length c0_15,.slice A0_16 l0_16.length c0_16] 35 (0,0)) (by (with_reducible repeat (first|refine blk_drewN ?_ _|refine blk_drew ?_|refine blk_alloc ?_ _));exact BK105.out)) : gb106≠gb105));clear BK105;clear HB;have BK105:=n0_;have HB:=n1_;have BK106:=n2_;have GW106:=n3_;have GE106:=n4_;have NB105_106:=n5_;have NB106_105:=n6_;clear n0_ n1_ n2_ n3_ n4_ n5_ n6_;clear hb hbox hg;have hnb38:=NB105_106.out;have hnc38:=NB106_105.out;have hcz39_0 : w37.cell? ⟨gb105,0,none⟩=some (.int .i64 a0_0):=(blk_cell BK105.out 0).trans rfl;have hcz39_1 : w37.cell? ⟨gb105,1,none⟩=some (.int .i64 a0_1):=(blk_cell BK105.out 1).trans rfl;have hcz39_2 : w37.cell? ⟨gb105,2,none⟩=some (.int .u64 a0_2):=(blk_cell BK105.out 2).trans rfl;have hcz39_3 : w37.cell? ⟨gb105,3,none⟩=some (.int .u64 a0_3):=(blk_cell BK105.out 3).trans rfl;have hcz39_4 : w37.cell? ⟨gb105,4,none⟩=some (.int .u32 a0_4):=(blk_cell BK105.out 4).trans rfl;have hcz39_5 : w37.cell? ⟨gb105,5,none⟩=some (.int .i64 a0_5):=(blk_cell BK105.out 5).trans rfl;have hcz39_6 : w37.cell? ⟨gb105,6,none⟩=some (.int .i64 a0_6):=(blk_cell BK105.out 6).trans rfl;have hcz39_7 : w37.cell? ⟨gb105,7,none⟩=some (.string a0_7):=(blk_cell BK105.out 7).trans rfl;have hcz39_8 : w37.cell? ⟨gb105,8,none⟩=some (.string a0_8):=(blk_cell BK105.out 8).trans rfl;have hcz39_9 : w37.cell? ⟨gb105,9,none⟩=some (.int .i64 a0_9):=(blk_cell BK105.out 9).trans rfl;have hcz39_10 : w37.cell? ⟨gb105,10,none⟩=some (.int .i64 a0_10):=(blk_cell BK105.out 10).trans rfl;have hcz39_11 : w37.cell? ⟨gb105,11,none⟩=some (.string a0_11):=(blk_cell BK105.out 11).trans rfl;have hcz39_12 : w37.cell? ⟨gb105,12,none⟩=some (.int .u32 a0_12):=(blk_cell BK105.out 12).trans rfl;have hcz39_13 : w37.cell? ⟨gb105,13,none⟩=some (.int .i64 a0_13):=(blk_cell BK105.out 13).trans rfl;have hcz39_14 : w37.cell? ⟨gb105,14,none⟩=some (.bool a0_14):=(blk_cell BK105.out 14).trans rfl;have hcz39_15 : w37.cell? ⟨gb105,15,none⟩=some (.slice A0_15 l0_15.length c0_15):=(blk_cell BK105.out 15).trans rfl;have hcz39_16 : w37.cell? ⟨gb105,16,none⟩=some (.slice A0_16 l0_16.length c0_16):=(blk_cell BK105.out 16).trans rfl;have hfz39_0:=blk_frozen BK105.out 0;have hfz39_1:=blk_frozen BK105.out 1;have hfz39_2:=blk_frozen BK105.out 2;have hfz39_3:=blk_frozen BK105.out 3;have hfz39_4:=blk_frozen BK105.out 4;have hfz39_5:=blk_frozen BK105.out 5;have hfz39_6:=blk_frozen BK105.out 6;have hfz39_7:=blk_frozen BK105.out 7;have hfz39_8:=blk_frozen BK105.out 8;have hfz39_9:=blk_frozen BK105.out 9;have hfz39_10:=blk_frozen BK105.out 10;have hfz39_11:=blk_frozen BK105.out 11;have hfz39_12:=blk_frozen BK105.out 12;have hfz39_13:=blk_frozen BK105.out 13;have hfz39_14:=blk_frozen BK105.out 14;have hfz39_15:=blk_frozen BK105.out 15;have hfz39_16:=blk_frozen BK105.out 16;have hcz40_0 : w37.cell? ⟨gb106,0,none⟩=some (.int .i64 a1_0):=(blk_cell BK106.out 0).trans rfl;have hcz40_1 : w37.cell? ⟨gb106,1,none⟩=some (.int .i64 a1_1):=(blk_cell BK106.out 1).trans rfl;have hcz40_2 : w37.cell? ⟨gb106,2,none⟩=some (.int .u64 a1_2):=(blk_cell BK106.out 2).trans rfl;have hcz40_3 : w37.cell? ⟨gb106,3,none⟩=some (.int .u64 a1_3):=(blk_cell BK106.out 3).trans rfl;have hcz40_4 : w37.cell? ⟨gb106,4,none⟩=some (.int .u32 a1_4):=(blk_cell BK106.out 4).trans rfl;have hcz40_5 : w37.cell? ⟨gb106,5,none⟩=some (.int .i64 a1_5):=(blk_cell BK106.out 5).trans rfl;have hcz40_6 : w37.cell? ⟨gb106,6,none⟩=some (.int .i64 a1_6):=(blk_cell BK106.out 6).trans rfl;have hcz40_7 : w37.cell? ⟨gb106,7,none⟩=some (.string a1_7):=(blk_cell BK106.out 7).trans rfl;have hcz40_8 : w37.cell? ⟨gb106,8,none⟩=some (.string a1_8):=(blk_cell BK106.out 8).trans rfl;have hcz40_9 : w37.cell? ⟨gb106,9,none⟩=some (.int .i64 a1_9):=(blk_cell BK106.out 9).trans rfl;have hcz40_10 : w37.cell? ⟨gb106,10,none⟩=some (.int .i64 a1_10):=(blk_cell BK106.out 10).trans rfl;have hcz40_11 : w37.cell? ⟨gb106,11,none⟩=some (.string a1_11):=(blk_cell BK106.out 11).trans rfl;have hcz40_12 : w37.cell? ⟨gb106,12,none⟩=some (.int .u32 a1_12):=(blk_cell BK106.out 12).trans rfl;have hcz40_13 : w37.cell? ⟨gb106,13,none⟩=some (.int .i64 a1_13):=(blk_cell BK106.out 13).trans rfl;have hcz40_14 : w37.cell? ⟨gb106,14,none⟩=some (.bool a1_14):=(blk_cell BK106.out 14).trans rfl;have hcz40_15 : w37.cell? ⟨gb106,15,none⟩=some (.slice A1_15 l1_15.length c1_15):=(blk_cell BK106.out 15).trans rfl;have hcz40_16 : w37.cell? ⟨gb106,16,none⟩=some (.slice A1_16 l1_16.length c1_16):=(blk_cell BK106.out 16).trans rfl;have hfz40_0:=blk_frozen BK106.out 0;have hfz40_1:=blk_frozen BK106.out 1;have hfz40_2:=blk_frozen BK106.out 2;have hfz40_3:=blk_frozen BK106.out 3;have hfz40_4:=blk_frozen BK106.out 4;have hfz40_5:=blk_frozen BK106.out 5;have hfz40_6:=blk_frozen BK106.out 6;have hfz40_7:=blk_frozen BK106.out 7;have hfz40_8:=blk_frozen BK106.out 8;have hfz40_9:=blk_frozen BK106.out 9;have hfz40_10:=blk_frozen BK106.out 10;have hfz40_11:=blk_frozen BK106.out 11;have hfz40_12:=blk_frozen BK106.out 12;have hfz40_13:=blk_frozen BK106.out 13;have hfz40_14:=blk_frozen BK106.out 14;have hfz40_15:=blk_frozen BK106.out 15;have hfz40_16:=blk_frozen BK106.out 16)|((with_reducible refine gate_callee (f:=30) rfl ?_);refine goesL_ (some 9) rfl rfl Try.func30 (by kernel_rfl) rfl #[.slice A0_15 l0_15.length c0_15,.slice A1_15 l1_15.length c1_15] rfl (by (try simp only [List.map_toArray,List.map_cons,List.map_nil]);first|done|rfl|(simp only [List.length_drop,List.length_take];rfl)) ?_;(with_reducible refine (api_TxState.calls k _ _ l0_15 _ _ l1_15 true _ ?side1 ?side2 ?side3 ?side4 A3.out).mono ?_);(case side1=>repeat (first|exact (Kd.C_below HR0_15.out HB.out)|(with_reducible refine Kd.C_alloc ?_ _)|(with_reducible refine Kd.C_drewN ?_ _)|(with_reducible refine Kd.C_drew ?_)));(case side2=>exact HC0_15.out);(case side3=>repeat (first|exact (Kd.C_below HR1_15.out HB.out)|(with_reducible refine Kd.C_alloc ?_ _)|(with_reducible refine Kd.C_drewN ?_ _)|(with_reducible refine Kd.C_drew ?_)));(case side4=>exact HC1_15.out);rintro e w' ⟨rfl,⟨nd,rfl⟩⟩;refine ⟨_,rfl,?_⟩)|(go_at_call 31;(with_reducible refine (api_Dirty.calls k _ _ l0_16 _ _ l1_16 true _ ?side1 ?side2 ?side3 ?side4 A5.out).mono ?_);(case side1=>repeat (first|exact (Kd.C_below HR0_16.out (by repeat (first|(with_reducible first|exact HB.out|apply below_alloc|apply pw_below_drewN|apply below_drew1|refine below_set ?_ GE105.out|refine below_set ?_ GE106.out)|exact HB.out)))|(with_reducible refine Kd.C_alloc ?_ _)|(with_reducible refine Kd.C_drewN ?_ _)|(with_reducible refine Kd.C_drew ?_)));(case side2=>exact HC0_16.out);(case side3=>repeat (first|exact (Kd.C_below HR1_16.out (by repeat (first|(with_reducible first|exact HB.out|apply below_alloc|apply pw_below_drewN|apply below_drew1|refine below_set ?_ GE105.out|refine below_set ?_ GE106.out)|exact HB.out)))|(with_reducible refine Kd.C_alloc ?_ _)|(with_reducible refine Kd.C_drewN ?_ _)|(with_reducible refine Kd.C_drew ?_)));(case side4=>exact HC1_16.out);rintro e w' ⟨rfl,⟨nd,rfl⟩⟩))
         go_ret
         exact ⟨by first|rfl|(simp [errW_none,errW_some] <;> rfl)|(simp [*,errW_none,errW_some] <;> rfl),by repeat (first|(with_reducible first|exact HB.out|apply below_alloc|apply pw_below_drewN|apply below_drew1|refine below_set ?_ GE105.out|refine below_set ?_ GE106.out)|exact HB.out)⟩
       ·rw [if_neg c11] at H
        have c11b0 : (a0_4 == a1_4)=false:=beq_eq_false_iff_ne.mpr c11
        have c11b1 : (a0_4 != a1_4)=true:=bne_iff_ne.mpr c11
        obtain rfl:=Option.some.inj H
        go_enter Try.func11,Try.ntmps11
        go_wp2_with (first|((with_reducible refine gate_dst (N:=2) rfl ?_);refine box_event ?hg (N:=2) ?hd (cs:=#[.int .i64 a0_0,.int .i64 a0_1,.int .u64 a0_2,.int .u64 a0_3,.int .u32 a0_4,.int .i64 a0_5,.int .i64 a0_6,.string a0_7,.string a0_8,.int .i64 a0_9,.int .i64 a0_10,.string a0_11,.int .u32 a0_12,.int .i64 a0_13,.bool a0_14,.slice A0_15 l0_15.length c0_15,.slice A0_16 l0_16.length c0_16]) (t:=35) ?hr ?_;(case hd=>rfl);(case hg=>rfl);(case hr=>first|(go_simp;done)|(go_simp;rfl));intro gb105 hg w41 hbox hb;have n0_:=Aside0.mk (below_step (by repeat (first|(with_reducible first|exact HB.out|apply below_alloc|apply pw_below_drewN|apply below_drew1)|exact HB.out)) hb);have n1_:=Aside0.mk (hbox);have n2_:=Aside0.mk ((by rw [hg];exact (below_size (by repeat (first|(with_reducible first|exact HB.out|apply below_alloc|apply pw_below_drewN|apply below_drew1)|exact HB.out))) : w.heap.size≤gb105));have n3_:=Aside0.mk ((by rw [hg];exact (below_size (by repeat (first|(with_reducible first|exact HB.out|apply below_alloc|apply pw_below_drewN|apply below_drew1)|exact HB.out))) : w.heap.size≤gb105));clear HB;have HB:=n0_;have BK105:=n1_;have GW105:=n2_;have GE105:=n3_;clear n0_ n1_ n2_ n3_;clear hb hbox hg)|((with_reducible refine gate_dst (N:=3) rfl ?_);refine box_event ?hg (N:=3) ?hd (cs:=#[.int .i64 a1_0,.int .i64 a1_1,.int .u64 a1_2,.int .u64 a1_3,.int .u32 a1_4,.int .i64 a1_5,.int .i64 a1_6,.string a1_7,.string a1_8,.int .i64 a1_9,.int .i64 a1_10,.string a1_11,.int .u32 a1_12,.int .i64 a1_13,.bool a1_14,.slice A1_15 l1_15.length c1_15,.slice A1_16 l1_16.length c1_16]) (t:=35) ?hr ?_;(case hd=>rfl);(case hg=>rfl);(case hr=>first|(go_simp;done)|(go_simp;rfl));intro gb106 hg w42 hbox hb;have n0_:=Aside0.mk (blk_below (g:=gb105) (o:=.cells #[.int .i64 a0_0,.int .i64 a0_1,.int .u64 a0_2,.int .u64 a0_3,.int .u32 a0_4,.int .i64 a0_5,.int .i64 a0_6,.string a0_7,.string a0_8,.int .i64 a0_9,.int .i64 a0_10,.string a0_11,.int .u32 a0_12,.int .i64 a0_13,.bool a0_14,.slice A0_15 l0_15.length c0_15,.slice A0_16 l0_16.length c0_16] 35 (0,0)) (by (with_reducible repeat (first|refine blk_drewN ?_ _|refine blk_drew ?_|refine blk_alloc ?_ _));exact BK105.out) hb);have n1_:=Aside0.mk (below_step (by repeat (first|(with_reducible first|exact HB.out|apply below_alloc|apply pw_below_drewN|apply below_drew1|refine below_set ?_ GE105.out)|exact HB.out)) hb);have n2_:=Aside0.mk (hbox);have n3_:=Aside0.mk ((by rw [hg];exact (below_size (by repeat (first|(with_reducible first|exact HB.out|apply below_alloc|apply pw_below_drewN|apply below_drew1|refine below_set ?_ GE105.out)|exact HB.out))) : w.heap.size≤gb106));have n4_:=Aside0.mk ((by rw [hg];exact (below_size (by repeat (first|(with_reducible first|exact HB.out|apply below_alloc|apply pw_below_drewN|apply below_drew1|refine below_set ?_ GE105.out)|exact HB.out))) : w.heap.size≤gb106));have n5_:=Aside0.mk ((by rw [hg];exact Nat.ne_of_lt (blk_lt (g:=gb105) (o:=.cells #[.int .i64 a0_0,.int .i64 a0_1,.int .u64 a0_2,.int .u64 a0_3,.int .u32 a0_4,.int .i64 a0_5,.int .i64 a0_6,.string a0_7,.string a0_8,.int .i64 a0_9,.int .i64 a0_10,.string a0_11,.int .u32 a0_12,.int .i64 a0_13,.bool a0_14,.slice A0_15 l0_15.length c0_15,.slice A0_16 l0_16.length c0_16] 35 (0,0)) (by (with_reducible repeat (first|refine blk_drewN ?_ _|refine blk_drew ?_|refine blk_alloc ?_ _));exact BK105.out)) : gb105≠gb106));have n6_:=Aside0.mk ((by rw [hg];exact Nat.ne_of_gt (blk_lt (g:=gb105) (o:=.cells #[.int .i64 a0_0,.int .i64 a0_1,.int .u64 a0_2,.int .u64 a0_3,.int .u32 a0_4,.int .i64 a0_5,.int .i64 a0_6,.string a0_7,.string a0_8,.int .i64 a0_9,.int .i64 a0_10,.string a0_11,.int .u32 a0_12,.int .i64 a0_13,.bool a0_14,.slice A0_15 l0_15.length c0_15,.slice A0_16 l0_16.length c0_16] 35 (0,0)) (by (with_reducible repeat (first|refine blk_drewN ?_ _|refine blk_drew ?_|refine blk_alloc ?_ _));exact BK105.out)) : gb106≠gb105));clear BK105;clear HB;have BK105:=n0_;have HB:=n1_;have BK106:=n2_;have GW106:=n3_;have GE106:=n4_;have NB105_106:=n5_;have NB106_105:=n6_;clear n0_ n1_ n2_ n3_ n4_ n5_ n6_;clear hb hbox hg;have hnb43:=NB105_106.out;have hnc43:=NB106_105.out;have hcz44_0 : w42.cell? ⟨gb105,0,none⟩=some (.int .i64 a0_0):=(blk_cell BK105.out 0).trans rfl;have hcz44_1 : w42.cell? ⟨gb105,1,none⟩=some (.int .i64 a0_1):=(blk_cell BK105.out 1).trans rfl;have hcz44_2 : w42.cell? ⟨gb105,2,none⟩=some (.int .u64 a0_2):=(blk_cell BK105.out 2).trans rfl;have hcz44_3 : w42.cell? ⟨gb105,3,none⟩=some (.int .u64 a0_3):=(blk_cell BK105.out 3).trans rfl;have hcz44_4 : w42.cell? ⟨gb105,4,none⟩=some (.int .u32 a0_4):=(blk_cell BK105.out 4).trans rfl;have hcz44_5 : w42.cell? ⟨gb105,5,none⟩=some (.int .i64 a0_5):=(blk_cell BK105.out 5).trans rfl;have hcz44_6 : w42.cell? ⟨gb105,6,none⟩=some (.int .i64 a0_6):=(blk_cell BK105.out 6).trans rfl;have hcz44_7 : w42.cell? ⟨gb105,7,none⟩=some (.string a0_7):=(blk_cell BK105.out 7).trans rfl;have hcz44_8 : w42.cell? ⟨gb105,8,none⟩=some (.string a0_8):=(blk_cell BK105.out 8).trans rfl;have hcz44_9 : w42.cell? ⟨gb105,9,none⟩=some (.int .i64 a0_9):=(blk_cell BK105.out 9).trans rfl;have hcz44_10 : w42.cell? ⟨gb105,10,none⟩=some (.int .i64 a0_10):=(blk_cell BK105.out 10).trans rfl;have hcz44_11 : w42.cell? ⟨gb105,11,none⟩=some (.string a0_11):=(blk_cell BK105.out 11).trans rfl;have hcz44_12 : w42.cell? ⟨gb105,12,none⟩=some (.int .u32 a0_12):=(blk_cell BK105.out 12).trans rfl;have hcz44_13 : w42.cell? ⟨gb105,13,none⟩=some (.int .i64 a0_13):=(blk_cell BK105.out 13).trans rfl;have hcz44_14 : w42.cell? ⟨gb105,14,none⟩=some (.bool a0_14):=(blk_cell BK105.out 14).trans rfl;have hcz44_15 : w42.cell? ⟨gb105,15,none⟩=some (.slice A0_15 l0_15.length c0_15):=(blk_cell BK105.out 15).trans rfl;have hcz44_16 : w42.cell? ⟨gb105,16,none⟩=some (.slice A0_16 l0_16.length c0_16):=(blk_cell BK105.out 16).trans rfl;have hfz44_0:=blk_frozen BK105.out 0;have hfz44_1:=blk_frozen BK105.out 1;have hfz44_2:=blk_frozen BK105.out 2;have hfz44_3:=blk_frozen BK105.out 3;have hfz44_4:=blk_frozen BK105.out 4;have hfz44_5:=blk_frozen BK105.out 5;have hfz44_6:=blk_frozen BK105.out 6;have hfz44_7:=blk_frozen BK105.out 7;have hfz44_8:=blk_frozen BK105.out 8;have hfz44_9:=blk_frozen BK105.out 9;have hfz44_10:=blk_frozen BK105.out 10;have hfz44_11:=blk_frozen BK105.out 11;have hfz44_12:=blk_frozen BK105.out 12;have hfz44_13:=blk_frozen BK105.out 13;have hfz44_14:=blk_frozen BK105.out 14;have hfz44_15:=blk_frozen BK105.out 15;have hfz44_16:=blk_frozen BK105.out 16;have hcz45_0 : w42.cell? ⟨gb106,0,none⟩=some (.int .i64 a1_0):=(blk_cell BK106.out 0).trans rfl;have hcz45_1 : w42.cell? ⟨gb106,1,none⟩=some (.int .i64 a1_1):=(blk_cell BK106.out 1).trans rfl;have hcz45_2 : w42.cell? ⟨gb106,2,none⟩=some (.int .u64 a1_2):=(blk_cell BK106.out 2).trans rfl;have hcz45_3 : w42.cell? ⟨gb106,3,none⟩=some (.int .u64 a1_3):=(blk_cell BK106.out 3).trans rfl;have hcz45_4 : w42.cell? ⟨gb106,4,none⟩=some (.int .u32 a1_4):=(blk_cell BK106.out 4).trans rfl;have hcz45_5 : w42.cell? ⟨gb106,5,none⟩=some (.int .i64 a1_5):=(blk_cell BK106.out 5).trans rfl;have hcz45_6 : w42.cell? ⟨gb106,6,none⟩=some (.int .i64 a1_6):=(blk_cell BK106.out 6).trans rfl;have hcz45_7 : w42.cell? ⟨gb106,7,none⟩=some (.string a1_7):=(blk_cell BK106.out 7).trans rfl;have hcz45_8 : w42.cell? ⟨gb106,8,none⟩=some (.string a1_8):=(blk_cell BK106.out 8).trans rfl;have hcz45_9 : w42.cell? ⟨gb106,9,none⟩=some (.int .i64 a1_9):=(blk_cell BK106.out 9).trans rfl;have hcz45_10 : w42.cell? ⟨gb106,10,none⟩=some (.int .i64 a1_10):=(blk_cell BK106.out 10).trans rfl;have hcz45_11 : w42.cell? ⟨gb106,11,none⟩=some (.string a1_11):=(blk_cell BK106.out 11).trans rfl;have hcz45_12 : w42.cell? ⟨gb106,12,none⟩=some (.int .u32 a1_12):=(blk_cell BK106.out 12).trans rfl;have hcz45_13 : w42.cell? ⟨gb106,13,none⟩=some (.int .i64 a1_13):=(blk_cell BK106.out 13).trans rfl;have hcz45_14 : w42.cell? ⟨gb106,14,none⟩=some (.bool a1_14):=(blk_cell BK106.out 14).trans rfl;have hcz45_15 : w42.cell? ⟨gb106,15,none⟩=some (.slice A1_15 l1_15.length c1_15):=(blk_cell BK106.out 15).trans rfl;have hcz45_16 : w42.cell? ⟨gb106,16,none⟩=some (.slice A1_16 l1_16.length c1_16):=(blk_cell BK106.out 16).trans rfl;have hfz45_0:=blk_frozen BK106.out 0;have hfz45_1:=blk_frozen BK106.out 1;have hfz45_2:=blk_frozen BK106.out 2;have hfz45_3:=blk_frozen BK106.out 3;have hfz45_4:=blk_frozen BK106.out 4;have hfz45_5:=blk_frozen BK106.out 5;have hfz45_6:=blk_frozen BK106.out 6;have hfz45_7:=blk_frozen BK106.out 7;have hfz45_8:=blk_frozen BK106.out 8;have hfz45_9:=blk_frozen BK106.out 9;have hfz45_10:=blk_frozen BK106.out 10;have hfz45_11:=blk_frozen BK106.out 11;have hfz45_12:=blk_frozen BK106.out 12;have hfz45_13:=blk_frozen BK106.out 13;have hfz45_14:=blk_frozen BK106.out 14;have hfz45_15:=blk_frozen BK106.out 15;have hfz45_16:=blk_frozen BK106.out 16)|((with_reducible refine gate_callee (f:=30) rfl ?_);refine goesL_ (some 9) rfl rfl Try.func30 (by kernel_rfl) rfl #[.slice A0_15 l0_15.length c0_15,.slice A1_15 l1_15.length c1_15] rfl (by (try simp only [List.map_toArray,List.map_cons,List.map_nil]);first|done|rfl|(simp only [List.length_drop,List.length_take];rfl)) ?_;(with_reducible refine (api_TxState.calls k _ _ l0_15 _ _ l1_15 true _ ?side1 ?side2 ?side3 ?side4 A3.out).mono ?_);(case side1=>repeat (first|exact (Kd.C_below HR0_15.out HB.out)|(with_reducible refine Kd.C_alloc ?_ _)|(with_reducible refine Kd.C_drewN ?_ _)|(with_reducible refine Kd.C_drew ?_)));(case side2=>exact HC0_15.out);(case side3=>repeat (first|exact (Kd.C_below HR1_15.out HB.out)|(with_reducible refine Kd.C_alloc ?_ _)|(with_reducible refine Kd.C_drewN ?_ _)|(with_reducible refine Kd.C_drew ?_)));(case side4=>exact HC1_15.out);rintro e w' ⟨rfl,⟨nd,rfl⟩⟩;refine ⟨_,rfl,?_⟩)|(go_at_call 31;(with_reducible refine (api_Dirty.calls k _ _ l0_16 _ _ l1_16 true _ ?side1 ?side2 ?side3 ?side4 A5.out).mono ?_);(case side1=>repeat (first|exact (Kd.C_below HR0_16.out (by repeat (first|(with_reducible first|exact HB.out|apply below_alloc|apply pw_below_drewN|apply below_drew1|refine below_set ?_ GE105.out|refine below_set ?_ GE106.out)|exact HB.out)))|(with_reducible refine Kd.C_alloc ?_ _)|(with_reducible refine Kd.C_drewN ?_ _)|(with_reducible refine Kd.C_drew ?_)));(case side2=>exact HC0_16.out);(case side3=>repeat (first|exact (Kd.C_below HR1_16.out (by repeat (first|(with_reducible first|exact HB.out|apply below_alloc|apply pw_below_drewN|apply below_drew1|refine below_set ?_ GE105.out|refine below_set ?_ GE106.out)|exact HB.out)))|(with_reducible refine Kd.C_alloc ?_ _)|(with_reducible refine Kd.C_drewN ?_ _)|(with_reducible refine Kd.C_drew ?_)));(case side4=>exact HC1_16.out);rintro e w' ⟨rfl,⟨nd,rfl⟩⟩))
        go_ret
        exact ⟨by first|rfl|(simp [errW_none,errW_some] <;> rfl)|(simp [*,errW_none,errW_some] <;> rfl),by repeat (first|(with_reducible first|exact HB.out|apply below_alloc|apply pw_below_drewN|apply below_drew1|refine below_set ?_ GE105.out|refine below_set ?_ GE106.out)|exact HB.out)⟩
      ·rw [if_neg c10] at H
       have c10b0 : (a0_3 == a1_3)=false:=beq_eq_false_iff_ne.mpr c10
       have c10b1 : (a0_3 != a1_3)=true:=bne_iff_ne.mpr c10
       obtain rfl:=Option.some.inj H
       go_enter Try.func11,Try.ntmps11
       go_wp2_with (first|((with_reducible refine gate_dst (N:=2) rfl ?_);refine box_event ?hg (N:=2) ?hd (cs:=#[.int .i64 a0_0,.int .i64 a0_1,.int .u64 a0_2,.int .u64 a0_3,.int .u32 a0_4,.int .i64 a0_5,.int .i64 a0_6,.string a0_7,.string a0_8,.int .i64 a0_9,.int .i64 a0_10,.string a0_11,.int .u32 a0_12,.int .i64 a0_13,.bool a0_14,.slice A0_15 l0_15.length c0_15,.slice A0_16 l0_16.length c0_16]) (t:=35) ?hr ?_;(case hd=>rfl);(case hg=>rfl);(case hr=>first|(go_simp;done)|(go_simp;rfl));intro gb105 hg w46 hbox hb;have n0_:=Aside0.mk (below_step (by repeat (first|(with_reducible first|exact HB.out|apply below_alloc|apply pw_below_drewN|apply below_drew1)|exact HB.out)) hb);have n1_:=Aside0.mk (hbox);have n2_:=Aside0.mk ((by rw [hg];exact (below_size (by repeat (first|(with_reducible first|exact HB.out|apply below_alloc|apply pw_below_drewN|apply below_drew1)|exact HB.out))) : w.heap.size≤gb105));have n3_:=Aside0.mk ((by rw [hg];exact (below_size (by repeat (first|(with_reducible first|exact HB.out|apply below_alloc|apply pw_below_drewN|apply below_drew1)|exact HB.out))) : w.heap.size≤gb105));clear HB;have HB:=n0_;have BK105:=n1_;have GW105:=n2_;have GE105:=n3_;clear n0_ n1_ n2_ n3_;clear hb hbox hg)|((with_reducible refine gate_dst (N:=3) rfl ?_);refine box_event ?hg (N:=3) ?hd (cs:=#[.int .i64 a1_0,.int .i64 a1_1,.int .u64 a1_2,.int .u64 a1_3,.int .u32 a1_4,.int .i64 a1_5,.int .i64 a1_6,.string a1_7,.string a1_8,.int .i64 a1_9,.int .i64 a1_10,.string a1_11,.int .u32 a1_12,.int .i64 a1_13,.bool a1_14,.slice A1_15 l1_15.length c1_15,.slice A1_16 l1_16.length c1_16]) (t:=35) ?hr ?_;(case hd=>rfl);(case hg=>rfl);(case hr=>first|(go_simp;done)|(go_simp;rfl));intro gb106 hg w47 hbox hb;have n0_:=Aside0.mk (blk_below (g:=gb105) (o:=.cells #[.int .i64 a0_0,.int .i64 a0_1,.int .u64 a0_2,.int .u64 a0_3,.int .u32 a0_4,.int .i64 a0_5,.int .i64 a0_6,.string a0_7,.string a0_8,.int .i64 a0_9,.int .i64 a0_10,.string a0_11,.int .u32 a0_12,.int .i64 a0_13,.bool a0_14,.slice A0_15 l0_15.length c0_15,.slice A0_16 l0_16.length c0_16] 35 (0,0)) (by (with_reducible repeat (first|refine blk_drewN ?_ _|refine blk_drew ?_|refine blk_alloc ?_ _));exact BK105.out) hb);have n1_:=Aside0.mk (below_step (by repeat (first|(with_reducible first|exact HB.out|apply below_alloc|apply pw_below_drewN|apply below_drew1|refine below_set ?_ GE105.out)|exact HB.out)) hb);have n2_:=Aside0.mk (hbox);have n3_:=Aside0.mk ((by rw [hg];exact (below_size (by repeat (first|(with_reducible first|exact HB.out|apply below_alloc|apply pw_below_drewN|apply below_drew1|refine below_set ?_ GE105.out)|exact HB.out))) : w.heap.size≤gb106));have n4_:=Aside0.mk ((by rw [hg];exact (below_size (by repeat (first|(with_reducible first|exact HB.out|apply below_alloc|apply pw_below_drewN|apply below_drew1|refine below_set ?_ GE105.out)|exact HB.out))) : w.heap.size≤gb106));have n5_:=Aside0.mk ((by rw [hg];exact Nat.ne_of_lt (blk_lt (g:=gb105) (o:=.cells #[.int .i64 a0_0,.int .i64 a0_1,.int .u64 a0_2,.int .u64 a0_3,.int .u32 a0_4,.int .i64 a0_5,.int .i64 a0_6,.string a0_7,.string a0_8,.int .i64 a0_9,.int .i64 a0_10,.string a0_11,.int .u32 a0_12,.int .i64 a0_13,.bool a0_14,.slice A0_15 l0_15.length c0_15,.slice A0_16 l0_16.length c0_16] 35 (0,0)) (by (with_reducible repeat (first|refine blk_drewN ?_ _|refine blk_drew ?_|refine blk_alloc ?_ _));exact BK105.out)) : gb105≠gb106));have n6_:=Aside0.mk ((by rw [hg];exact Nat.ne_of_gt (blk_lt (g:=gb105) (o:=.cells #[.int .i64 a0_0,.int .i64 a0_1,.int .u64 a0_2,.int .u64 a0_3,.int .u32 a0_4,.int .i64 a0_5,.int .i64 a0_6,.string a0_7,.string a0_8,.int .i64 a0_9,.int .i64 a0_10,.string a0_11,.int .u32 a0_12,.int .i64 a0_13,.bool a0_14,.slice A0_15 l0_15.length c0_15,.slice A0_16 l0_16.length c0_16] 35 (0,0)) (by (with_reducible repeat (first|refine blk_drewN ?_ _|refine blk_drew ?_|refine blk_alloc ?_ _));exact BK105.out)) : gb106≠gb105));clear BK105;clear HB;have BK105:=n0_;have HB:=n1_;have BK106:=n2_;have GW106:=n3_;have GE106:=n4_;have NB105_106:=n5_;have NB106_105:=n6_;clear n0_ n1_ n2_ n3_ n4_ n5_ n6_;clear hb hbox hg;have hnb48:=NB105_106.out;have hnc48:=NB106_105.out;have hcz49_0 : w47.cell? ⟨gb105,0,none⟩=some (.int .i64 a0_0):=(blk_cell BK105.out 0).trans rfl;have hcz49_1 : w47.cell? ⟨gb105,1,none⟩=some (.int .i64 a0_1):=(blk_cell BK105.out 1).trans rfl;have hcz49_2 : w47.cell? ⟨gb105,2,none⟩=some (.int .u64 a0_2):=(blk_cell BK105.out 2).trans rfl;have hcz49_3 : w47.cell? ⟨gb105,3,none⟩=some (.int .u64 a0_3):=(blk_cell BK105.out 3).trans rfl;have hcz49_4 : w47.cell? ⟨gb105,4,none⟩=some (.int .u32 a0_4):=(blk_cell BK105.out 4).trans rfl;have hcz49_5 : w47.cell? ⟨gb105,5,none⟩=some (.int .i64 a0_5):=(blk_cell BK105.out 5).trans rfl;have hcz49_6 : w47.cell? ⟨gb105,6,none⟩=some (.int .i64 a0_6):=(blk_cell BK105.out 6).trans rfl;have hcz49_7 : w47.cell? ⟨gb105,7,none⟩=some (.string a0_7):=(blk_cell BK105.out 7).trans rfl;have hcz49_8 : w47.cell? ⟨gb105,8,none⟩=some (.string a0_8):=(blk_cell BK105.out 8).trans rfl;have hcz49_9 : w47.cell? ⟨gb105,9,none⟩=some (.int .i64 a0_9):=(blk_cell BK105.out 9).trans rfl;have hcz49_10 : w47.cell? ⟨gb105,10,none⟩=some (.int .i64 a0_10):=(blk_cell BK105.out 10).trans rfl;have hcz49_11 : w47.cell? ⟨gb105,11,none⟩=some (.string a0_11):=(blk_cell BK105.out 11).trans rfl;have hcz49_12 : w47.cell? ⟨gb105,12,none⟩=some (.int .u32 a0_12):=(blk_cell BK105.out 12).trans rfl;have hcz49_13 : w47.cell? ⟨gb105,13,none⟩=some (.int .i64 a0_13):=(blk_cell BK105.out 13).trans rfl;have hcz49_14 : w47.cell? ⟨gb105,14,none⟩=some (.bool a0_14):=(blk_cell BK105.out 14).trans rfl;have hcz49_15 : w47.cell? ⟨gb105,15,none⟩=some (.slice A0_15 l0_15.length c0_15):=(blk_cell BK105.out 15).trans rfl;have hcz49_16 : w47.cell? ⟨gb105,16,none⟩=some (.slice A0_16 l0_16.length c0_16):=(blk_cell BK105.out 16).trans rfl;have hfz49_0:=blk_frozen BK105.out 0;have hfz49_1:=blk_frozen BK105.out 1;have hfz49_2:=blk_frozen BK105.out 2;have hfz49_3:=blk_frozen BK105.out 3;have hfz49_4:=blk_frozen BK105.out 4;have hfz49_5:=blk_frozen BK105.out 5;have hfz49_6:=blk_frozen BK105.out 6;have hfz49_7:=blk_frozen BK105.out 7;have hfz49_8:=blk_frozen BK105.out 8;have hfz49_9:=blk_frozen BK105.out 9;have hfz49_10:=blk_frozen BK105.out 10;have hfz49_11:=blk_frozen BK105.out 11;have hfz49_12:=blk_frozen BK105.out 12;have hfz49_13:=blk_frozen BK105.out 13;have hfz49_14:=blk_frozen BK105.out 14;have hfz49_15:=blk_frozen BK105.out 15;have hfz49_16:=blk_frozen BK105.out 16;have hcz50_0 : w47.cell? ⟨gb106,0,none⟩=some (.int .i64 a1_0):=(blk_cell BK106.out 0).trans rfl;have hcz50_1 : w47.cell? ⟨gb106,1,none⟩=some (.int .i64 a1_1):=(blk_cell BK106.out 1).trans rfl;have hcz50_2 : w47.cell? ⟨gb106,2,none⟩=some (.int .u64 a1_2):=(blk_cell BK106.out 2).trans rfl;have hcz50_3 : w47.cell? ⟨gb106,3,none⟩=some (.int .u64 a1_3):=(blk_cell BK106.out 3).trans rfl;have hcz50_4 : w47.cell? ⟨gb106,4,none⟩=some (.int .u32 a1_4):=(blk_cell BK106.out 4).trans rfl;have hcz50_5 : w47.cell? ⟨gb106,5,none⟩=some (.int .i64 a1_5):=(blk_cell BK106.out 5).trans rfl;have hcz50_6 : w47.cell? ⟨gb106,6,none⟩=some (.int .i64 a1_6):=(blk_cell BK106.out 6).trans rfl;have hcz50_7 : w47.cell? ⟨gb106,7,none⟩=some (.string a1_7):=(blk_cell BK106.out 7).trans rfl;have hcz50_8 : w47.cell? ⟨gb106,8,none⟩=some (.string a1_8):=(blk_cell BK106.out 8).trans rfl;have hcz50_9 : w47.cell? ⟨gb106,9,none⟩=some (.int .i64 a1_9):=(blk_cell BK106.out 9).trans rfl;have hcz50_10 : w47.cell? ⟨gb106,10,none⟩=some (.int .i64 a1_10):=(blk_cell BK106.out 10).trans rfl;have hcz50_11 : w47.cell? ⟨gb106,11,none⟩=some (.string a1_11):=(blk_cell BK106.out 11).trans rfl;have hcz50_12 : w47.cell? ⟨gb106,12,none⟩=some (.int .u32 a1_12):=(blk_cell BK106.out 12).trans rfl;have hcz50_13 : w47.cell? ⟨gb106,13,none⟩=some (.int .i64 a1_13):=(blk_cell BK106.out 13).trans rfl;have hcz50_14 : w47.cell? ⟨gb106,14,none⟩=some (.bool a1_14):=(blk_cell BK106.out 14).trans rfl;have hcz50_15 : w47.cell? ⟨gb106,15,none⟩=some (.slice A1_15 l1_15.length c1_15):=(blk_cell BK106.out 15).trans rfl;have hcz50_16 : w47.cell? ⟨gb106,16,none⟩=some (.slice A1_16 l1_16.length c1_16):=(blk_cell BK106.out 16).trans rfl;have hfz50_0:=blk_frozen BK106.out 0;have hfz50_1:=blk_frozen BK106.out 1;have hfz50_2:=blk_frozen BK106.out 2;have hfz50_3:=blk_frozen BK106.out 3;have hfz50_4:=blk_frozen BK106.out 4;have hfz50_5:=blk_frozen BK106.out 5;have hfz50_6:=blk_frozen BK106.out 6;have hfz50_7:=blk_frozen BK106.out 7;have hfz50_8:=blk_frozen BK106.out 8;have hfz50_9:=blk_frozen BK106.out 9;have hfz50_10:=blk_frozen BK106.out 10;have hfz50_11:=blk_frozen BK106.out 11;have hfz50_12:=blk_frozen BK106.out 12;have hfz50_13:=blk_frozen BK106.out 13;have hfz50_14:=blk_frozen BK106.out 14;have hfz50_15:=blk_frozen BK106.out 15;have hfz50_16:=blk_frozen BK106.out 16)|((with_reducible refine gate_callee (f:=30) rfl ?_);refine goesL_ (some 9) rfl rfl Try.func30 (by kernel_rfl) rfl #[.slice A0_15 l0_15.length c0_15,.slice A1_15 l1_15.length c1_15] rfl (by (try simp only [List.map_toArray,List.map_cons,List.map_nil]);first|done|rfl|(simp only [List.length_drop,List.length_take];rfl)) ?_;(with_reducible refine (api_TxState.calls k _ _ l0_15 _ _ l1_15 true _ ?side1 ?side2 ?side3 ?side4 A3.out).mono ?_);(case side1=>repeat (first|exact (Kd.C_below HR0_15.out HB.out)|(with_reducible refine Kd.C_alloc ?_ _)|(with_reducible refine Kd.C_drewN ?_ _)|(with_reducible refine Kd.C_drew ?_)));(case side2=>exact HC0_15.out);(case side3=>repeat (first|exact (Kd.C_below HR1_15.out HB.out)|(with_reducible refine Kd.C_alloc ?_ _)|(with_reducible refine Kd.C_drewN ?_ _)|(with_reducible refine Kd.C_drew ?_)));(case side4=>exact HC1_15.out);rintro e w' ⟨rfl,⟨nd,rfl⟩⟩;refine ⟨_,rfl,?_⟩)|(go_at_call 31;(with_reducible refine (api_Dirty.calls k _ _ l0_16 _ _ l1_16 true _ ?side1 ?side2 ?side3 ?side4 A5.out).mono ?_);(case side1=>repeat (first|exact (Kd.C_below HR0_16.out (by repeat (first|(with_reducible first|exact HB.out|apply below_alloc|apply pw_below_drewN|apply below_drew1|refine below_set ?_ GE105.out|refine below_set ?_ GE106.out)|exact HB.out)))|(with_reducible refine Kd.C_alloc ?_ _)|(with_reducible refine Kd.C_drewN ?_ _)|(with_reducible refine Kd.C_drew ?_)));(case side2=>exact HC0_16.out);(case side3=>repeat (first|exact (Kd.C_below HR1_16.out (by repeat (first|(with_reducible first|exact HB.out|apply below_alloc|apply pw_below_drewN|apply below_drew1|refine below_set ?_ GE105.out|refine below_set ?_ GE106.out)|exact HB.out)))|(with_reducible refine Kd.C_alloc ?_ _)|(with_reducible refine Kd.C_drewN ?_ _)|(with_reducible refine Kd.C_drew ?_)));(case side4=>exact HC1_16.out);rintro e w' ⟨rfl,⟨nd,rfl⟩⟩))
       go_ret
       exact ⟨by first|rfl|(simp [errW_none,errW_some] <;> rfl)|(simp [*,errW_none,errW_some] <;> rfl),by repeat (first|(with_reducible first|exact HB.out|apply below_alloc|apply pw_below_drewN|apply below_drew1|refine below_set ?_ GE105.out|refine below_set ?_ GE106.out)|exact HB.out)⟩
     ·rw [if_neg c9] at H
      have c9b0 : (a0_2 == a1_2)=false:=beq_eq_false_iff_ne.mpr c9
      have c9b1 : (a0_2 != a1_2)=true:=bne_iff_ne.mpr c9
      obtain rfl:=Option.some.inj H
      go_enter Try.func11,Try.ntmps11
      go_wp2_with (first|((with_reducible refine gate_dst (N:=2) rfl ?_);refine box_event ?hg (N:=2) ?hd (cs:=#[.int .i64 a0_0,.int .i64 a0_1,.int .u64 a0_2,.int .u64 a0_3,.int .u32 a0_4,.int .i64 a0_5,.int .i64 a0_6,.string a0_7,.string a0_8,.int .i64 a0_9,.int .i64 a0_10,.string a0_11,.int .u32 a0_12,.int .i64 a0_13,.bool a0_14,.slice A0_15 l0_15.length c0_15,.slice A0_16 l0_16.length c0_16]) (t:=35) ?hr ?_;(case hd=>rfl);(case hg=>rfl);(case hr=>first|(go_simp;done)|(go_simp;rfl));intro gb105 hg w51 hbox hb;have n0_:=Aside0.mk (below_step (by repeat (first|(with_reducible first|exact HB.out|apply below_alloc|apply pw_below_drewN|apply below_drew1)|exact HB.out)) hb);have n1_:=Aside0.mk (hbox);have n2_:=Aside0.mk ((by rw [hg];exact (below_size (by repeat (first|(with_reducible first|exact HB.out|apply below_alloc|apply pw_below_drewN|apply below_drew1)|exact HB.out))) : w.heap.size≤gb105));have n3_:=Aside0.mk ((by rw [hg];exact (below_size (by repeat (first|(with_reducible first|exact HB.out|apply below_alloc|apply pw_below_drewN|apply below_drew1)|exact HB.out))) : w.heap.size≤gb105));clear HB;have HB:=n0_;have BK105:=n1_;have GW105:=n2_;have GE105:=n3_;clear n0_ n1_ n2_ n3_;clear hb hbox hg)|((with_reducible refine gate_dst (N:=3) rfl ?_);refine box_event ?hg (N:=3) ?hd (cs:=#[.int .i64 a1_0,.int .i64 a1_1,.int .u64 a1_2,.int .u64 a1_3,.int .u32 a1_4,.int .i64 a1_5,.int .i64 a1_6,.string a1_7,.string a1_8,.int .i64 a1_9,.int .i64 a1_10,.string a1_11,.int .u32 a1_12,.int .i64 a1_13,.bool a1_14,.slice A1_15 l1_15.length c1_15,.slice A1_16 l1_16.length c1_16]) (t:=35) ?hr ?_;(case hd=>rfl);(case hg=>rfl);(case hr=>first|(go_simp;done)|(go_simp;rfl));intro gb106 hg w52 hbox hb;have n0_:=Aside0.mk (blk_below (g:=gb105) (o:=.cells #[.int .i64 a0_0,.int .i64 a0_1,.int .u64 a0_2,.int .u64 a0_3,.int .u32 a0_4,.int .i64 a0_5,.int .i64 a0_6,.string a0_7,.string a0_8,.int .i64 a0_9,.int .i64 a0_10,.string a0_11,.int .u32 a0_12,.int .i64 a0_13,.bool a0_14,.slice A0_15 l0_15.length c0_15,.slice A0_16 l0_16.length c0_16] 35 (0,0)) (by (with_reducible repeat (first|refine blk_drewN ?_ _|refine blk_drew ?_|refine blk_alloc ?_ _));exact BK105.out) hb);have n1_:=Aside0.mk (below_step (by repeat (first|(with_reducible first|exact HB.out|apply below_alloc|apply pw_below_drewN|apply below_drew1|refine below_set ?_ GE105.out)|exact HB.out)) hb);have n2_:=Aside0.mk (hbox);have n3_:=Aside0.mk ((by rw [hg];exact (below_size (by repeat (first|(with_reducible first|exact HB.out|apply below_alloc|apply pw_below_drewN|apply below_drew1|refine below_set ?_ GE105.out)|exact HB.out))) : w.heap.size≤gb106));have n4_:=Aside0.mk ((by rw [hg];exact (below_size (by repeat (first|(with_reducible first|exact HB.out|apply below_alloc|apply pw_below_drewN|apply below_drew1|refine below_set ?_ GE105.out)|exact HB.out))) : w.heap.size≤gb106));have n5_:=Aside0.mk ((by rw [hg];exact Nat.ne_of_lt (blk_lt (g:=gb105) (o:=.cells #[.int .i64 a0_0,.int .i64 a0_1,.int .u64 a0_2,.int .u64 a0_3,.int .u32 a0_4,.int .i64 a0_5,.int .i64 a0_6,.string a0_7,.string a0_8,.int .i64 a0_9,.int .i64 a0_10,.string a0_11,.int .u32 a0_12,.int .i64 a0_13,.bool a0_14,.slice A0_15 l0_15.length c0_15,.slice A0_16 l0_16.length c0_16] 35 (0,0)) (by (with_reducible repeat (first|refine blk_drewN ?_ _|refine blk_drew ?_|refine blk_alloc ?_ _));exact BK105.out)) : gb105≠gb106));have n6_:=Aside0.mk ((by rw [hg];exact Nat.ne_of_gt (blk_lt (g:=gb105) (o:=.cells #[.int .i64 a0_0,.int .i64 a0_1,.int .u64 a0_2,.int .u64 a0_3,.int .u32 a0_4,.int .i64 a0_5,.int .i64 a0_6,.string a0_7,.string a0_8,.int .i64 a0_9,.int .i64 a0_10,.string a0_11,.int .u32 a0_12,.int .i64 a0_13,.bool a0_14,.slice A0_15 l0_15.length c0_15,.slice A0_16 l0_16.length c0_16] 35 (0,0)) (by (with_reducible repeat (first|refine blk_drewN ?_ _|refine blk_drew ?_|refine blk_alloc ?_ _));exact BK105.out)) : gb106≠gb105));clear BK105;clear HB;have BK105:=n0_;have HB:=n1_;have BK106:=n2_;have GW106:=n3_;have GE106:=n4_;have NB105_106:=n5_;have NB106_105:=n6_;clear n0_ n1_ n2_ n3_ n4_ n5_ n6_;clear hb hbox hg;have hnb53:=NB105_106.out;have hnc53:=NB106_105.out;have hcz54_0 : w52.cell? ⟨gb105,0,none⟩=some (.int .i64 a0_0):=(blk_cell BK105.out 0).trans rfl;have hcz54_1 : w52.cell? ⟨gb105,1,none⟩=some (.int .i64 a0_1):=(blk_cell BK105.out 1).trans rfl;have hcz54_2 : w52.cell? ⟨gb105,2,none⟩=some (.int .u64 a0_2):=(blk_cell BK105.out 2).trans rfl;have hcz54_3 : w52.cell? ⟨gb105,3,none⟩=some (.int .u64 a0_3):=(blk_cell BK105.out 3).trans rfl;have hcz54_4 : w52.cell? ⟨gb105,4,none⟩=some (.int .u32 a0_4):=(blk_cell BK105.out 4).trans rfl;have hcz54_5 : w52.cell? ⟨gb105,5,none⟩=some (.int .i64 a0_5):=(blk_cell BK105.out 5).trans rfl;have hcz54_6 : w52.cell? ⟨gb105,6,none⟩=some (.int .i64 a0_6):=(blk_cell BK105.out 6).trans rfl;have hcz54_7 : w52.cell? ⟨gb105,7,none⟩=some (.string a0_7):=(blk_cell BK105.out 7).trans rfl;have hcz54_8 : w52.cell? ⟨gb105,8,none⟩=some (.string a0_8):=(blk_cell BK105.out 8).trans rfl;have hcz54_9 : w52.cell? ⟨gb105,9,none⟩=some (.int .i64 a0_9):=(blk_cell BK105.out 9).trans rfl;have hcz54_10 : w52.cell? ⟨gb105,10,none⟩=some (.int .i64 a0_10):=(blk_cell BK105.out 10).trans rfl;have hcz54_11 : w52.cell? ⟨gb105,11,none⟩=some (.string a0_11):=(blk_cell BK105.out 11).trans rfl;have hcz54_12 : w52.cell? ⟨gb105,12,none⟩=some (.int .u32 a0_12):=(blk_cell BK105.out 12).trans rfl;have hcz54_13 : w52.cell? ⟨gb105,13,none⟩=some (.int .i64 a0_13):=(blk_cell BK105.out 13).trans rfl;have hcz54_14 : w52.cell? ⟨gb105,14,none⟩=some (.bool a0_14):=(blk_cell BK105.out 14).trans rfl;have hcz54_15 : w52.cell? ⟨gb105,15,none⟩=some (.slice A0_15 l0_15.length c0_15):=(blk_cell BK105.out 15).trans rfl;have hcz54_16 : w52.cell? ⟨gb105,16,none⟩=some (.slice A0_16 l0_16.length c0_16):=(blk_cell BK105.out 16).trans rfl;have hfz54_0:=blk_frozen BK105.out 0;have hfz54_1:=blk_frozen BK105.out 1;have hfz54_2:=blk_frozen BK105.out 2;have hfz54_3:=blk_frozen BK105.out 3;have hfz54_4:=blk_frozen BK105.out 4;have hfz54_5:=blk_frozen BK105.out 5;have hfz54_6:=blk_frozen BK105.out 6;have hfz54_7:=blk_frozen BK105.out 7;have hfz54_8:=blk_frozen BK105.out 8;have hfz54_9:=blk_frozen BK105.out 9;have hfz54_10:=blk_frozen BK105.out 10;have hfz54_11:=blk_frozen BK105.out 11;have hfz54_12:=blk_frozen BK105.out 12;have hfz54_13:=blk_frozen BK105.out 13;have hfz54_14:=blk_frozen BK105.out 14;have hfz54_15:=blk_frozen BK105.out 15;have hfz54_16:=blk_frozen BK105.out 16;have hcz55_0 : w52.cell? ⟨gb106,0,none⟩=some (.int .i64 a1_0):=(blk_cell BK106.out 0).trans rfl;have hcz55_1 : w52.cell? ⟨gb106,1,none⟩=some (.int .i64 a1_1):=(blk_cell BK106.out 1).trans rfl;have hcz55_2 : w52.cell? ⟨gb106,2,none⟩=some (.int .u64 a1_2):=(blk_cell BK106.out 2).trans rfl;have hcz55_3 : w52.cell? ⟨gb106,3,none⟩=some (.int .u64 a1_3):=(blk_cell BK106.out 3).trans rfl;have hcz55_4 : w52.cell? ⟨gb106,4,none⟩=some (.int .u32 a1_4):=(blk_cell BK106.out 4).trans rfl;have hcz55_5 : w52.cell? ⟨gb106,5,none⟩=some (.int .i64 a1_5):=(blk_cell BK106.out 5).trans rfl;have hcz55_6 : w52.cell? ⟨gb106,6,none⟩=some (.int .i64 a1_6):=(blk_cell BK106.out 6).trans rfl;have hcz55_7 : w52.cell? ⟨gb106,7,none⟩=some (.string a1_7):=(blk_cell BK106.out 7).trans rfl;have hcz55_8 : w52.cell? ⟨gb106,8,none⟩=some (.string a1_8):=(blk_cell BK106.out 8).trans rfl;have hcz55_9 : w52.cell? ⟨gb106,9,none⟩=some (.int .i64 a1_9):=(blk_cell BK106.out 9).trans rfl;have hcz55_10 : w52.cell? ⟨gb106,10,none⟩=some (.int .i64 a1_10):=(blk_cell BK106.out 10).trans rfl;have hcz55_11 : w52.cell? ⟨gb106,11,none⟩=some (.string a1_11):=(blk_cell BK106.out 11).trans rfl;have hcz55_12 : w52.cell? ⟨gb106,12,none⟩=some (.int .u32 a1_12):=(blk_cell BK106.out 12).trans rfl;have hcz55_13 : w52.cell? ⟨gb106,13,none⟩=some (.int .i64 a1_13):=(blk_cell BK106.out 13).trans rfl;have hcz55_14 : w52.cell? ⟨gb106,14,none⟩=some (.bool a1_14):=(blk_cell BK106.out 14).trans rfl;have hcz55_15 : w52.cell? ⟨gb106,15,none⟩=some (.slice A1_15 l1_15.length c1_15):=(blk_cell BK106.out 15).trans rfl;have hcz55_16 : w52.cell? ⟨gb106,16,none⟩=some (.slice A1_16 l1_16.length c1_16):=(blk_cell BK106.out 16).trans rfl;have hfz55_0:=blk_frozen BK106.out 0;have hfz55_1:=blk_frozen BK106.out 1;have hfz55_2:=blk_frozen BK106.out 2;have hfz55_3:=blk_frozen BK106.out 3;have hfz55_4:=blk_frozen BK106.out 4;have hfz55_5:=blk_frozen BK106.out 5;have hfz55_6:=blk_frozen BK106.out 6;have hfz55_7:=blk_frozen BK106.out 7;have hfz55_8:=blk_frozen BK106.out 8;have hfz55_9:=blk_frozen BK106.out 9;have hfz55_10:=blk_frozen BK106.out 10;have hfz55_11:=blk_frozen BK106.out 11;have hfz55_12:=blk_frozen BK106.out 12;have hfz55_13:=blk_frozen BK106.out 13;have hfz55_14:=blk_frozen BK106.out 14;have hfz55_15:=blk_frozen BK106.out 15;have hfz55_16:=blk_frozen BK106.out 16)|((with_reducible refine gate_callee (f:=30) rfl ?_);refine goesL_ (some 9) rfl rfl Try.func30 (by kernel_rfl) rfl #[.slice A0_15 l0_15.length c0_15,.slice A1_15 l1_15.length c1_15] rfl (by (try simp only [List.map_toArray,List.map_cons,List.map_nil]);first|done|rfl|(simp only [List.length_drop,List.length_take];rfl)) ?_;(with_reducible refine (api_TxState.calls k _ _ l0_15 _ _ l1_15 true _ ?side1 ?side2 ?side3 ?side4 A3.out).mono ?_);(case side1=>repeat (first|exact (Kd.C_below HR0_15.out HB.out)|(with_reducible refine Kd.C_alloc ?_ _)|(with_reducible refine Kd.C_drewN ?_ _)|(with_reducible refine Kd.C_drew ?_)));(case side2=>exact HC0_15.out);(case side3=>repeat (first|exact (Kd.C_below HR1_15.out HB.out)|(with_reducible refine Kd.C_alloc ?_ _)|(with_reducible refine Kd.C_drewN ?_ _)|(with_reducible refine Kd.C_drew ?_)));(case side4=>exact HC1_15.out);rintro e w' ⟨rfl,⟨nd,rfl⟩⟩;refine ⟨_,rfl,?_⟩)|(go_at_call 31;(with_reducible refine (api_Dirty.calls k _ _ l0_16 _ _ l1_16 true _ ?side1 ?side2 ?side3 ?side4 A5.out).mono ?_);(case side1=>repeat (first|exact (Kd.C_below HR0_16.out (by repeat (first|(with_reducible first|exact HB.out|apply below_alloc|apply pw_below_drewN|apply below_drew1|refine below_set ?_ GE105.out|refine below_set ?_ GE106.out)|exact HB.out)))|(with_reducible refine Kd.C_alloc ?_ _)|(with_reducible refine Kd.C_drewN ?_ _)|(with_reducible refine Kd.C_drew ?_)));(case side2=>exact HC0_16.out);(case side3=>repeat (first|exact (Kd.C_below HR1_16.out (by repeat (first|(with_reducible first|exact HB.out|apply below_alloc|apply pw_below_drewN|apply below_drew1|refine below_set ?_ GE105.out|refine below_set ?_ GE106.out)|exact HB.out)))|(with_reducible refine Kd.C_alloc ?_ _)|(with_reducible refine Kd.C_drewN ?_ _)|(with_reducible refine Kd.C_drew ?_)));(case side4=>exact HC1_16.out);rintro e w' ⟨rfl,⟨nd,rfl⟩⟩))
      go_ret
      exact ⟨by first|rfl|(simp [errW_none,errW_some] <;> rfl)|(simp [*,errW_none,errW_some] <;> rfl),by repeat (first|(with_reducible first|exact HB.out|apply below_alloc|apply pw_below_drewN|apply below_drew1|refine below_set ?_ GE105.out|refine below_set ?_ GE106.out)|exact HB.out)⟩
    ·rw [if_neg c8] at H
     have c8b0 : (a0_1 == a1_1)=false:=beq_eq_false_iff_ne.mpr c8
     have c8b1 : (a0_1 != a1_1)=true:=bne_iff_ne.mpr c8
     obtain rfl:=Option.some.inj H
     go_enter Try.func11,Try.ntmps11
     go_wp2_with (first|((with_reducible refine gate_dst (N:=2) rfl ?_);refine box_event ?hg (N:=2) ?hd (cs:=#[.int .i64 a0_0,.int .i64 a0_1,.int .u64 a0_2,.int .u64 a0_3,.int .u32 a0_4,.int .i64 a0_5,.int .i64 a0_6,.string a0_7,.string a0_8,.int .i64 a0_9,.int .i64 a0_10,.string a0_11,.int .u32 a0_12,.int .i64 a0_13,.bool a0_14,.slice A0_15 l0_15.length c0_15,.slice A0_16 l0_16.length c0_16]) (t:=35) ?hr ?_;(case hd=>rfl);(case hg=>rfl);(case hr=>first|(go_simp;done)|(go_simp;rfl));intro gb105 hg w56 hbox hb;have n0_:=Aside0.mk (below_step (by repeat (first|(with_reducible first|exact HB.out|apply below_alloc|apply pw_below_drewN|apply below_drew1)|exact HB.out)) hb);have n1_:=Aside0.mk (hbox);have n2_:=Aside0.mk ((by rw [hg];exact (below_size (by repeat (first|(with_reducible first|exact HB.out|apply below_alloc|apply pw_below_drewN|apply below_drew1)|exact HB.out))) : w.heap.size≤gb105));have n3_:=Aside0.mk ((by rw [hg];exact (below_size (by repeat (first|(with_reducible first|exact HB.out|apply below_alloc|apply pw_below_drewN|apply below_drew1)|exact HB.out))) : w.heap.size≤gb105));clear HB;have HB:=n0_;have BK105:=n1_;have GW105:=n2_;have GE105:=n3_;clear n0_ n1_ n2_ n3_;clear hb hbox hg)|((with_reducible refine gate_dst (N:=3) rfl ?_);refine box_event ?hg (N:=3) ?hd (cs:=#[.int .i64 a1_0,.int .i64 a1_1,.int .u64 a1_2,.int .u64 a1_3,.int .u32 a1_4,.int .i64 a1_5,.int .i64 a1_6,.string a1_7,.string a1_8,.int .i64 a1_9,.int .i64 a1_10,.string a1_11,.int .u32 a1_12,.int .i64 a1_13,.bool a1_14,.slice A1_15 l1_15.length c1_15,.slice A1_16 l1_16.length c1_16]) (t:=35) ?hr ?_;(case hd=>rfl);(case hg=>rfl);(case hr=>first|(go_simp;done)|(go_simp;rfl));intro gb106 hg w57 hbox hb;have n0_:=Aside0.mk (blk_below (g:=gb105) (o:=.cells #[.int .i64 a0_0,.int .i64 a0_1,.int .u64 a0_2,.int .u64 a0_3,.int .u32 a0_4,.int .i64 a0_5,.int .i64 a0_6,.string a0_7,.string a0_8,.int .i64 a0_9,.int .i64 a0_10,.string a0_11,.int .u32 a0_12,.int .i64 a0_13,.bool a0_14,.slice A0_15 l0_15.length c0_15,.slice A0_16 l0_16.length c0_16] 35 (0,0)) (by (with_reducible repeat (first|refine blk_drewN ?_ _|refine blk_drew ?_|refine blk_alloc ?_ _));exact BK105.out) hb);have n1_:=Aside0.mk (below_step (by repeat (first|(with_reducible first|exact HB.out|apply below_alloc|apply pw_below_drewN|apply below_drew1|refine below_set ?_ GE105.out)|exact HB.out)) hb);have n2_:=Aside0.mk (hbox);have n3_:=Aside0.mk ((by rw [hg];exact (below_size (by repeat (first|(with_reducible first|exact HB.out|apply below_alloc|apply pw_below_drewN|apply below_drew1|refine below_set ?_ GE105.out)|exact HB.out))) : w.heap.size≤gb106));have n4_:=Aside0.mk ((by rw [hg];exact (below_size (by repeat (first|(with_reducible first|exact HB.out|apply below_alloc|apply pw_below_drewN|apply below_drew1|refine below_set ?_ GE105.out)|exact HB.out))) : w.heap.size≤gb106));have n5_:=Aside0.mk ((by rw [hg];exact Nat.ne_of_lt (blk_lt (g:=gb105) (o:=.cells #[.int .i64 a0_0,.int .i64 a0_1,.int .u64 a0_2,.int .u64 a0_3,.int .u32 a0_4,.int .i64 a0_5,.int .i64 a0_6,.string a0_7,.string a0_8,.int .i64 a0_9,.int .i64 a0_10,.string a0_11,.int .u32 a0_12,.int .i64 a0_13,.bool a0_14,.slice A0_15 l0_15.length c0_15,.slice A0_16 l0_16.length c0_16] 35 (0,0)) (by (with_reducible repeat (first|refine blk_drewN ?_ _|refine blk_drew ?_|refine blk_alloc ?_ _));exact BK105.out)) : gb105≠gb106));have n6_:=Aside0.mk ((by rw [hg];exact Nat.ne_of_gt (blk_lt (g:=gb105) (o:=.cells #[.int .i64 a0_0,.int .i64 a0_1,.int .u64 a0_2,.int .u64 a0_3,.int .u32 a0_4,.int .i64 a0_5,.int .i64 a0_6,.string a0_7,.string a0_8,.int .i64 a0_9,.int .i64 a0_10,.string a0_11,.int .u32 a0_12,.int .i64 a0_13,.bool a0_14,.slice A0_15 l0_15.length c0_15,.slice A0_16 l0_16.length c0_16] 35 (0,0)) (by (with_reducible repeat (first|refine blk_drewN ?_ _|refine blk_drew ?_|refine blk_alloc ?_ _));exact BK105.out)) : gb106≠gb105));clear BK105;clear HB;have BK105:=n0_;have HB:=n1_;have BK106:=n2_;have GW106:=n3_;have GE106:=n4_;have NB105_106:=n5_;have NB106_105:=n6_;clear n0_ n1_ n2_ n3_ n4_ n5_ n6_;clear hb hbox hg;have hnb58:=NB105_106.out;have hnc58:=NB106_105.out;have hcz59_0 : w57.cell? ⟨gb105,0,none⟩=some (.int .i64 a0_0):=(blk_cell BK105.out 0).trans rfl;have hcz59_1 : w57.cell? ⟨gb105,1,none⟩=some (.int .i64 a0_1):=(blk_cell BK105.out 1).trans rfl;have hcz59_2 : w57.cell? ⟨gb105,2,none⟩=some (.int .u64 a0_2):=(blk_cell BK105.out 2).trans rfl;have hcz59_3 : w57.cell? ⟨gb105,3,none⟩=some (.int .u64 a0_3):=(blk_cell BK105.out 3).trans rfl;have hcz59_4 : w57.cell? ⟨gb105,4,none⟩=some (.int .u32 a0_4):=(blk_cell BK105.out 4).trans rfl;have hcz59_5 : w57.cell? ⟨gb105,5,none⟩=some (.int .i64 a0_5):=(blk_cell BK105.out 5).trans rfl;have hcz59_6 : w57.cell? ⟨gb105,6,none⟩=some (.int .i64 a0_6):=(blk_cell BK105.out 6).trans rfl;have hcz59_7 : w57.cell? ⟨gb105,7,none⟩=some (.string a0_7):=(blk_cell BK105.out 7).trans rfl;have hcz59_8 : w57.cell? ⟨gb105,8,none⟩=some (.string a0_8):=(blk_cell BK105.out 8).trans rfl;have hcz59_9 : w57.cell? ⟨gb105,9,none⟩=some (.int .i64 a0_9):=(blk_cell BK105.out 9).trans rfl;have hcz59_10 : w57.cell? ⟨gb105,10,none⟩=some (.int .i64 a0_10):=(blk_cell BK105.out 10).trans rfl;have hcz59_11 : w57.cell? ⟨gb105,11,none⟩=some (.string a0_11):=(blk_cell BK105.out 11).trans rfl;have hcz59_12 : w57.cell? ⟨gb105,12,none⟩=some (.int .u32 a0_12):=(blk_cell BK105.out 12).trans rfl;have hcz59_13 : w57.cell? ⟨gb105,13,none⟩=some (.int .i64 a0_13):=(blk_cell BK105.out 13).trans rfl;have hcz59_14 : w57.cell? ⟨gb105,14,none⟩=some (.bool a0_14):=(blk_cell BK105.out 14).trans rfl;have hcz59_15 : w57.cell? ⟨gb105,15,none⟩=some (.slice A0_15 l0_15.length c0_15):=(blk_cell BK105.out 15).trans rfl;have hcz59_16 : w57.cell? ⟨gb105,16,none⟩=some (.slice A0_16 l0_16.length c0_16):=(blk_cell BK105.out 16).trans rfl;have hfz59_0:=blk_frozen BK105.out 0;have hfz59_1:=blk_frozen BK105.out 1;have hfz59_2:=blk_frozen BK105.out 2;have hfz59_3:=blk_frozen BK105.out 3;have hfz59_4:=blk_frozen BK105.out 4;have hfz59_5:=blk_frozen BK105.out 5;have hfz59_6:=blk_frozen BK105.out 6;have hfz59_7:=blk_frozen BK105.out 7;have hfz59_8:=blk_frozen BK105.out 8;have hfz59_9:=blk_frozen BK105.out 9;have hfz59_10:=blk_frozen BK105.out 10;have hfz59_11:=blk_frozen BK105.out 11;have hfz59_12:=blk_frozen BK105.out 12;have hfz59_13:=blk_frozen BK105.out 13;have hfz59_14:=blk_frozen BK105.out 14;have hfz59_15:=blk_frozen BK105.out 15;have hfz59_16:=blk_frozen BK105.out 16;have hcz60_0 : w57.cell? ⟨gb106,0,none⟩=some (.int .i64 a1_0):=(blk_cell BK106.out 0).trans rfl;have hcz60_1 : w57.cell? ⟨gb106,1,none⟩=some (.int .i64 a1_1):=(blk_cell BK106.out 1).trans rfl;have hcz60_2 : w57.cell? ⟨gb106,2,none⟩=some (.int .u64 a1_2):=(blk_cell BK106.out 2).trans rfl;have hcz60_3 : w57.cell? ⟨gb106,3,none⟩=some (.int .u64 a1_3):=(blk_cell BK106.out 3).trans rfl;have hcz60_4 : w57.cell? ⟨gb106,4,none⟩=some (.int .u32 a1_4):=(blk_cell BK106.out 4).trans rfl;have hcz60_5 : w57.cell? ⟨gb106,5,none⟩=some (.int .i64 a1_5):=(blk_cell BK106.out 5).trans rfl;have hcz60_6 : w57.cell? ⟨gb106,6,none⟩=some (.int .i64 a1_6):=(blk_cell BK106.out 6).trans rfl;have hcz60_7 : w57.cell? ⟨gb106,7,none⟩=some (.string a1_7):=(blk_cell BK106.out 7).trans rfl;have hcz60_8 : w57.cell? ⟨gb106,8,none⟩=some (.string a1_8):=(blk_cell BK106.out 8).trans rfl;have hcz60_9 : w57.cell? ⟨gb106,9,none⟩=some (.int .i64 a1_9):=(blk_cell BK106.out 9).trans rfl;have hcz60_10 : w57.cell? ⟨gb106,10,none⟩=some (.int .i64 a1_10):=(blk_cell BK106.out 10).trans rfl;have hcz60_11 : w57.cell? ⟨gb106,11,none⟩=some (.string a1_11):=(blk_cell BK106.out 11).trans rfl;have hcz60_12 : w57.cell? ⟨gb106,12,none⟩=some (.int .u32 a1_12):=(blk_cell BK106.out 12).trans rfl;have hcz60_13 : w57.cell? ⟨gb106,13,none⟩=some (.int .i64 a1_13):=(blk_cell BK106.out 13).trans rfl;have hcz60_14 : w57.cell? ⟨gb106,14,none⟩=some (.bool a1_14):=(blk_cell BK106.out 14).trans rfl;have hcz60_15 : w57.cell? ⟨gb106,15,none⟩=some (.slice A1_15 l1_15.length c1_15):=(blk_cell BK106.out 15).trans rfl;have hcz60_16 : w57.cell? ⟨gb106,16,none⟩=some (.slice A1_16 l1_16.length c1_16):=(blk_cell BK106.out 16).trans rfl;have hfz60_0:=blk_frozen BK106.out 0;have hfz60_1:=blk_frozen BK106.out 1;have hfz60_2:=blk_frozen BK106.out 2;have hfz60_3:=blk_frozen BK106.out 3;have hfz60_4:=blk_frozen BK106.out 4;have hfz60_5:=blk_frozen BK106.out 5;have hfz60_6:=blk_frozen BK106.out 6;have hfz60_7:=blk_frozen BK106.out 7;have hfz60_8:=blk_frozen BK106.out 8;have hfz60_9:=blk_frozen BK106.out 9;have hfz60_10:=blk_frozen BK106.out 10;have hfz60_11:=blk_frozen BK106.out 11;have hfz60_12:=blk_frozen BK106.out 12;have hfz60_13:=blk_frozen BK106.out 13;have hfz60_14:=blk_frozen BK106.out 14;have hfz60_15:=blk_frozen BK106.out 15;have hfz60_16:=blk_frozen BK106.out 16)|((with_reducible refine gate_callee (f:=30) rfl ?_);refine goesL_ (some 9) rfl rfl Try.func30 (by kernel_rfl) rfl #[.slice A0_15 l0_15.length c0_15,.slice A1_15 l1_15.length c1_15] rfl (by (try simp only [List.map_toArray,List.map_cons,List.map_nil]);first|done|rfl|(simp only [List.length_drop,List.length_take];rfl)) ?_;(with_reducible refine (api_TxState.calls k _ _ l0_15 _ _ l1_15 true _ ?side1 ?side2 ?side3 ?side4 A3.out).mono ?_);(case side1=>repeat (first|exact (Kd.C_below HR0_15.out HB.out)|(with_reducible refine Kd.C_alloc ?_ _)|(with_reducible refine Kd.C_drewN ?_ _)|(with_reducible refine Kd.C_drew ?_)));(case side2=>exact HC0_15.out);(case side3=>repeat (first|exact (Kd.C_below HR1_15.out HB.out)|(with_reducible refine Kd.C_alloc ?_ _)|(with_reducible refine Kd.C_drewN ?_ _)|(with_reducible refine Kd.C_drew ?_)));(case side4=>exact HC1_15.out);rintro e w' ⟨rfl,⟨nd,rfl⟩⟩;refine ⟨_,rfl,?_⟩)|(go_at_call 31;(with_reducible refine (api_Dirty.calls k _ _ l0_16 _ _ l1_16 true _ ?side1 ?side2 ?side3 ?side4 A5.out).mono ?_);(case side1=>repeat (first|exact (Kd.C_below HR0_16.out (by repeat (first|(with_reducible first|exact HB.out|apply below_alloc|apply pw_below_drewN|apply below_drew1|refine below_set ?_ GE105.out|refine below_set ?_ GE106.out)|exact HB.out)))|(with_reducible refine Kd.C_alloc ?_ _)|(with_reducible refine Kd.C_drewN ?_ _)|(with_reducible refine Kd.C_drew ?_)));(case side2=>exact HC0_16.out);(case side3=>repeat (first|exact (Kd.C_below HR1_16.out (by repeat (first|(with_reducible first|exact HB.out|apply below_alloc|apply pw_below_drewN|apply below_drew1|refine below_set ?_ GE105.out|refine below_set ?_ GE106.out)|exact HB.out)))|(with_reducible refine Kd.C_alloc ?_ _)|(with_reducible refine Kd.C_drewN ?_ _)|(with_reducible refine Kd.C_drew ?_)));(case side4=>exact HC1_16.out);rintro e w' ⟨rfl,⟨nd,rfl⟩⟩))
     go_ret
     exact ⟨by first|rfl|(simp [errW_none,errW_some] <;> rfl)|(simp [*,errW_none,errW_some] <;> rfl),by repeat (first|(with_reducible first|exact HB.out|apply below_alloc|apply pw_below_drewN|apply below_drew1|refine below_set ?_ GE105.out|refine below_set ?_ GE106.out)|exact HB.out)⟩
   ·rw [if_neg c7] at H
    have c7b0 : (a0_0 == a1_0)=false:=beq_eq_false_iff_ne.mpr c7
    have c7b1 : (a0_0 != a1_0)=true:=bne_iff_ne.mpr c7
    obtain rfl:=Option.some.inj H
    go_enter Try.func11,Try.ntmps11
    go_wp2_with (first|((with_reducible refine gate_dst (N:=2) rfl ?_);refine box_event ?hg (N:=2) ?hd (cs:=#[.int .i64 a0_0,.int .i64 a0_1,.int .u64 a0_2,.int .u64 a0_3,.int .u32 a0_4,.int .i64 a0_5,.int .i64 a0_6,.string a0_7,.string a0_8,.int .i64 a0_9,.int .i64 a0_10,.string a0_11,.int .u32 a0_12,.int .i64 a0_13,.bool a0_14,.slice A0_15 l0_15.length c0_15,.slice A0_16 l0_16.length c0_16]) (t:=35) ?hr ?_;(case hd=>rfl);(case hg=>rfl);(case hr=>first|(go_simp;done)|(go_simp;rfl));intro gb105 hg w61 hbox hb;have n0_:=Aside0.mk (below_step (by repeat (first|(with_reducible first|exact HB.out|apply below_alloc|apply pw_below_drewN|apply below_drew1)|exact HB.out)) hb);have n1_:=Aside0.mk (hbox);have n2_:=Aside0.mk ((by rw [hg];exact (below_size (by repeat (first|(with_reducible first|exact HB.out|apply below_alloc|apply pw_below_drewN|apply below_drew1)|exact HB.out))) : w.heap.size≤gb105));have n3_:=Aside0.mk ((by rw [hg];exact (below_size (by repeat (first|(with_reducible first|exact HB.out|apply below_alloc|apply pw_below_drewN|apply below_drew1)|exact HB.out))) : w.heap.size≤gb105));clear HB;have HB:=n0_;have BK105:=n1_;have GW105:=n2_;have GE105:=n3_;clear n0_ n1_ n2_ n3_;clear hb hbox hg)|((with_reducible refine gate_dst (N:=3) rfl ?_);refine box_event ?hg (N:=3) ?hd (cs:=#[.int .i64 a1_0,.int .i64 a1_1,.int .u64 a1_2,.int .u64 a1_3,.int .u32 a1_4,.int .i64 a1_5,.int .i64 a1_6,.string a1_7,.string a1_8,.int .i64 a1_9,.int .i64 a1_10,.string a1_11,.int .u32 a1_12,.int .i64 a1_13,.bool a1_14,.slice A1_15 l1_15.length c1_15,.slice A1_16 l1_16.length c1_16]) (t:=35) ?hr ?_;(case hd=>rfl);(case hg=>rfl);(case hr=>first|(go_simp;done)|(go_simp;rfl));intro gb106 hg w62 hbox hb;have n0_:=Aside0.mk (blk_below (g:=gb105) (o:=.cells #[.int .i64 a0_0,.int .i64 a0_1,.int .u64 a0_2,.int .u64 a0_3,.int .u32 a0_4,.int .i64 a0_5,.int .i64 a0_6,.string a0_7,.string a0_8,.int .i64 a0_9,.int .i64 a0_10,.string a0_11,.int .u32 a0_12,.int .i64 a0_13,.bool a0_14,.slice A0_15 l0_15.length c0_15,.slice A0_16 l0_16.length c0_16] 35 (0,0)) (by (with_reducible repeat (first|refine blk_drewN ?_ _|refine blk_drew ?_|refine blk_alloc ?_ _));exact BK105.out) hb);have n1_:=Aside0.mk (below_step (by repeat (first|(with_reducible first|exact HB.out|apply below_alloc|apply pw_below_drewN|apply below_drew1|refine below_set ?_ GE105.out)|exact HB.out)) hb);have n2_:=Aside0.mk (hbox);have n3_:=Aside0.mk ((by rw [hg];exact (below_size (by repeat (first|(with_reducible first|exact HB.out|apply below_alloc|apply pw_below_drewN|apply below_drew1|refine below_set ?_ GE105.out)|exact HB.out))) : w.heap.size≤gb106));have n4_:=Aside0.mk ((by rw [hg];exact (below_size (by repeat (first|(with_reducible first|exact HB.out|apply below_alloc|apply pw_below_drewN|apply below_drew1|refine below_set ?_ GE105.out)|exact HB.out))) : w.heap.size≤gb106));have n5_:=Aside0.mk ((by rw [hg];exact Nat.ne_of_lt (blk_lt (g:=gb105) (o:=.cells #[.int .i64 a0_0,.int .i64 a0_1,.int .u64 a0_2,.int .u64 a0_3,.int .u32 a0_4,.int .i64 a0_5,.int .i64 a0_6,.string a0_7,.string a0_8,.int .i64 a0_9,.int .i64 a0_10,.string a0_11,.int .u32 a0_12,.int .i64 a0_13,.bool a0_14,.slice A0_15 l0_15.length c0_15,.slice A0_16 l0_16.length c0_16] 35 (0,0)) (by (with_reducible repeat (first|refine blk_drewN ?_ _|refine blk_drew ?_|refine blk_alloc ?_ _));exact BK105.out)) : gb105≠gb106));have n6_:=Aside0.mk ((by rw [hg];exact Nat.ne_of_gt (blk_lt (g:=gb105) (o:=.cells #[.int .i64 a0_0,.int .i64 a0_1,.int .u64 a0_2,.int .u64 a0_3,.int .u32 a0_4,.int .i64 a0_5,.int .i64 a0_6,.string a0_7,.string a0_8,.int .i64 a0_9,.int .i64 a0_10,.string a0_11,.int .u32 a0_12,.int .i64 a0_13,.bool a0_14,.slice A0_15 l0_15.length c0_15,.slice A0_16 l0_16.length c0_16] 35 (0,0)) (by (with_reducible repeat (first|refine blk_drewN ?_ _|refine blk_drew ?_|refine blk_alloc ?_ _));exact BK105.out)) : gb106≠gb105));clear BK105;clear HB;have BK105:=n0_;have HB:=n1_;have BK106:=n2_;have GW106:=n3_;have GE106:=n4_;have NB105_106:=n5_;have NB106_105:=n6_;clear n0_ n1_ n2_ n3_ n4_ n5_ n6_;clear hb hbox hg;have hnb63:=NB105_106.out;have hnc63:=NB106_105.out;have hcz64_0 : w62.cell? ⟨gb105,0,none⟩=some (.int .i64 a0_0):=(blk_cell BK105.out 0).trans rfl;have hcz64_1 : w62.cell? ⟨gb105,1,none⟩=some (.int .i64 a0_1):=(blk_cell BK105.out 1).trans rfl;have hcz64_2 : w62.cell? ⟨gb105,2,none⟩=some (.int .u64 a0_2):=(blk_cell BK105.out 2).trans rfl;have hcz64_3 : w62.cell? ⟨gb105,3,none⟩=some (.int .u64 a0_3):=(blk_cell BK105.out 3).trans rfl;have hcz64_4 : w62.cell? ⟨gb105,4,none⟩=some (.int .u32 a0_4):=(blk_cell BK105.out 4).trans rfl;have hcz64_5 : w62.cell? ⟨gb105,5,none⟩=some (.int .i64 a0_5):=(blk_cell BK105.out 5).trans rfl;have hcz64_6 : w62.cell? ⟨gb105,6,none⟩=some (.int .i64 a0_6):=(blk_cell BK105.out 6).trans rfl;have hcz64_7 : w62.cell? ⟨gb105,7,none⟩=some (.string a0_7):=(blk_cell BK105.out 7).trans rfl;have hcz64_8 : w62.cell? ⟨gb105,8,none⟩=some (.string a0_8):=(blk_cell BK105.out 8).trans rfl;have hcz64_9 : w62.cell? ⟨gb105,9,none⟩=some (.int .i64 a0_9):=(blk_cell BK105.out 9).trans rfl;have hcz64_10 : w62.cell? ⟨gb105,10,none⟩=some (.int .i64 a0_10):=(blk_cell BK105.out 10).trans rfl;have hcz64_11 : w62.cell? ⟨gb105,11,none⟩=some (.string a0_11):=(blk_cell BK105.out 11).trans rfl;have hcz64_12 : w62.cell? ⟨gb105,12,none⟩=some (.int .u32 a0_12):=(blk_cell BK105.out 12).trans rfl;have hcz64_13 : w62.cell? ⟨gb105,13,none⟩=some (.int .i64 a0_13):=(blk_cell BK105.out 13).trans rfl;have hcz64_14 : w62.cell? ⟨gb105,14,none⟩=some (.bool a0_14):=(blk_cell BK105.out 14).trans rfl;have hcz64_15 : w62.cell? ⟨gb105,15,none⟩=some (.slice A0_15 l0_15.length c0_15):=(blk_cell BK105.out 15).trans rfl;have hcz64_16 : w62.cell? ⟨gb105,16,none⟩=some (.slice A0_16 l0_16.length c0_16):=(blk_cell BK105.out 16).trans rfl;have hfz64_0:=blk_frozen BK105.out 0;have hfz64_1:=blk_frozen BK105.out 1;have hfz64_2:=blk_frozen BK105.out 2;have hfz64_3:=blk_frozen BK105.out 3;have hfz64_4:=blk_frozen BK105.out 4;have hfz64_5:=blk_frozen BK105.out 5;have hfz64_6:=blk_frozen BK105.out 6;have hfz64_7:=blk_frozen BK105.out 7;have hfz64_8:=blk_frozen BK105.out 8;have hfz64_9:=blk_frozen BK105.out 9;have hfz64_10:=blk_frozen BK105.out 10;have hfz64_11:=blk_frozen BK105.out 11;have hfz64_12:=blk_frozen BK105.out 12;have hfz64_13:=blk_frozen BK105.out 13;have hfz64_14:=blk_frozen BK105.out 14;have hfz64_15:=blk_frozen BK105.out 15;have hfz64_16:=blk_frozen BK105.out 16;have hcz65_0 : w62.cell? ⟨gb106,0,none⟩=some (.int .i64 a1_0):=(blk_cell BK106.out 0).trans rfl;have hcz65_1 : w62.cell? ⟨gb106,1,none⟩=some (.int .i64 a1_1):=(blk_cell BK106.out 1).trans rfl;have hcz65_2 : w62.cell? ⟨gb106,2,none⟩=some (.int .u64 a1_2):=(blk_cell BK106.out 2).trans rfl;have hcz65_3 : w62.cell? ⟨gb106,3,none⟩=some (.int .u64 a1_3):=(blk_cell BK106.out 3).trans rfl;have hcz65_4 : w62.cell? ⟨gb106,4,none⟩=some (.int .u32 a1_4):=(blk_cell BK106.out 4).trans rfl;have hcz65_5 : w62.cell? ⟨gb106,5,none⟩=some (.int .i64 a1_5):=(blk_cell BK106.out 5).trans rfl;have hcz65_6 : w62.cell? ⟨gb106,6,none⟩=some (.int .i64 a1_6):=(blk_cell BK106.out 6).trans rfl;have hcz65_7 : w62.cell? ⟨gb106,7,none⟩=some (.string a1_7):=(blk_cell BK106.out 7).trans rfl;have hcz65_8 : w62.cell? ⟨gb106,8,none⟩=some (.string a1_8):=(blk_cell BK106.out 8).trans rfl;have hcz65_9 : w62.cell? ⟨gb106,9,none⟩=some (.int .i64 a1_9):=(blk_cell BK106.out 9).trans rfl;have hcz65_10 : w62.cell? ⟨gb106,10,none⟩=some (.int .i64 a1_10):=(blk_cell BK106.out 10).trans rfl;have hcz65_11 : w62.cell? ⟨gb106,11,none⟩=some (.string a1_11):=(blk_cell BK106.out 11).trans rfl;have hcz65_12 : w62.cell? ⟨gb106,12,none⟩=some (.int .u32 a1_12):=(blk_cell BK106.out 12).trans rfl;have hcz65_13 : w62.cell? ⟨gb106,13,none⟩=some (.int .i64 a1_13):=(blk_cell BK106.out 13).trans rfl;have hcz65_14 : w62.cell? ⟨gb106,14,none⟩=some (.bool a1_14):=(blk_cell BK106.out 14).trans rfl;have hcz65_15 : w62.cell? ⟨gb106,15,none⟩=some (.slice A1_15 l1_15.length c1_15):=(blk_cell BK106.out 15).trans rfl;have hcz65_16 : w62.cell? ⟨gb106,16,none⟩=some (.slice A1_16 l1_16.length c1_16):=(blk_cell BK106.out 16).trans rfl;have hfz65_0:=blk_frozen BK106.out 0;have hfz65_1:=blk_frozen BK106.out 1;have hfz65_2:=blk_frozen BK106.out 2;have hfz65_3:=blk_frozen BK106.out 3;have hfz65_4:=blk_frozen BK106.out 4;have hfz65_5:=blk_frozen BK106.out 5;have hfz65_6:=blk_frozen BK106.out 6;have hfz65_7:=blk_frozen BK106.out 7;have hfz65_8:=blk_frozen BK106.out 8;have hfz65_9:=blk_frozen BK106.out 9;have hfz65_10:=blk_frozen BK106.out 10;have hfz65_11:=blk_frozen BK106.out 11;have hfz65_12:=blk_frozen BK106.out 12;have hfz65_13:=blk_frozen BK106.out 13;have hfz65_14:=blk_frozen BK106.out 14;have hfz65_15:=blk_frozen BK106.out 15;have hfz65_16:=blk_frozen BK106.out 16)|((with_reducible refine gate_callee (f:=30) rfl ?_);refine goesL_ (some 9) rfl rfl Try.func30 (by kernel_rfl) rfl #[.slice A0_15 l0_15.length c0_15,.slice A1_15 l1_15.length c1_15] rfl (by (try simp only [List.map_toArray,List.map_cons,List.map_nil]);first|done|rfl|(simp only [List.length_drop,List.length_take];rfl)) ?_;(with_reducible refine (api_TxState.calls k _ _ l0_15 _ _ l1_15 true _ ?side1 ?side2 ?side3 ?side4 A3.out).mono ?_);(case side1=>repeat (first|exact (Kd.C_below HR0_15.out HB.out)|(with_reducible refine Kd.C_alloc ?_ _)|(with_reducible refine Kd.C_drewN ?_ _)|(with_reducible refine Kd.C_drew ?_)));(case side2=>exact HC0_15.out);(case side3=>repeat (first|exact (Kd.C_below HR1_15.out HB.out)|(with_reducible refine Kd.C_alloc ?_ _)|(with_reducible refine Kd.C_drewN ?_ _)|(with_reducible refine Kd.C_drew ?_)));(case side4=>exact HC1_15.out);rintro e w' ⟨rfl,⟨nd,rfl⟩⟩;refine ⟨_,rfl,?_⟩)|(go_at_call 31;(with_reducible refine (api_Dirty.calls k _ _ l0_16 _ _ l1_16 true _ ?side1 ?side2 ?side3 ?side4 A5.out).mono ?_);(case side1=>repeat (first|exact (Kd.C_below HR0_16.out (by repeat (first|(with_reducible first|exact HB.out|apply below_alloc|apply pw_below_drewN|apply below_drew1|refine below_set ?_ GE105.out|refine below_set ?_ GE106.out)|exact HB.out)))|(with_reducible refine Kd.C_alloc ?_ _)|(with_reducible refine Kd.C_drewN ?_ _)|(with_reducible refine Kd.C_drew ?_)));(case side2=>exact HC0_16.out);(case side3=>repeat (first|exact (Kd.C_below HR1_16.out (by repeat (first|(with_reducible first|exact HB.out|apply below_alloc|apply pw_below_drewN|apply below_drew1|refine below_set ?_ GE105.out|refine below_set ?_ GE106.out)|exact HB.out)))|(with_reducible refine Kd.C_alloc ?_ _)|(with_reducible refine Kd.C_drewN ?_ _)|(with_reducible refine Kd.C_drew ?_)));(case side4=>exact HC1_16.out);rintro e w' ⟨rfl,⟨nd,rfl⟩⟩))
    go_ret
    exact ⟨by first|rfl|(simp [errW_none,errW_some] <;> rfl)|(simp [*,errW_none,errW_some] <;> rfl),by repeat (first|(with_reducible first|exact HB.out|apply below_alloc|apply pw_below_drewN|apply below_drew1|refine below_set ?_ GE105.out|refine below_set ?_ GE106.out)|exact HB.out)⟩
  ·replace c6:=Bool.eq_false_iff.mpr c6
   subst c6
   have H1 : (some false)=some r:=by rw [if_neg (show ¬ (false=true) by decide)] at H;exact H
   clear H
   have H:=H1
   clear H1
   obtain rfl:=Option.some.inj H
   go_enter Try.func11,Try.ntmps11
   go_wp2_with (first|((with_reducible refine gate_dst (N:=2) rfl ?_);refine box_event ?hg (N:=2) ?hd (cs:=#[.int .i64 a0_0,.int .i64 a0_1,.int .u64 a0_2,.int .u64 a0_3,.int .u32 a0_4,.int .i64 a0_5,.int .i64 a0_6,.string a0_7,.string a0_8,.int .i64 a0_9,.int .i64 a0_10,.string a0_11,.int .u32 a0_12,.int .i64 a0_13,.bool a0_14,.slice A0_15 l0_15.length c0_15,.slice A0_16 l0_16.length c0_16]) (t:=35) ?hr ?_;(case hd=>rfl);(case hg=>rfl);(case hr=>first|(go_simp;done)|(go_simp;rfl));intro gb105 hg w66 hbox hb;have n0_:=Aside0.mk (below_step (by repeat (first|(with_reducible first|exact HB.out|apply below_alloc|apply pw_below_drewN|apply below_drew1)|exact HB.out)) hb);have n1_:=Aside0.mk (hbox);have n2_:=Aside0.mk ((by rw [hg];exact (below_size (by repeat (first|(with_reducible first|exact HB.out|apply below_alloc|apply pw_below_drewN|apply below_drew1)|exact HB.out))) : w.heap.size≤gb105));have n3_:=Aside0.mk ((by rw [hg];exact (below_size (by repeat (first|(with_reducible first|exact HB.out|apply below_alloc|apply pw_below_drewN|apply below_drew1)|exact HB.out))) : w.heap.size≤gb105));clear HB;have HB:=n0_;have BK105:=n1_;have GW105:=n2_;have GE105:=n3_;clear n0_ n1_ n2_ n3_;clear hb hbox hg)|((with_reducible refine gate_dst (N:=3) rfl ?_);refine box_event ?hg (N:=3) ?hd (cs:=#[.int .i64 a1_0,.int .i64 a1_1,.int .u64 a1_2,.int .u64 a1_3,.int .u32 a1_4,.int .i64 a1_5,.int .i64 a1_6,.string a1_7,.string a1_8,.int .i64 a1_9,.int .i64 a1_10,.string a1_11,.int .u32 a1_12,.int .i64 a1_13,.bool a1_14,.slice A1_15 l1_15.length c1_15,.slice A1_16 l1_16.length c1_16]) (t:=35) ?hr ?_;(case hd=>rfl);(case hg=>rfl);(case hr=>first|(go_simp;done)|(go_simp;rfl));intro gb106 hg w67 hbox hb;have n0_:=Aside0.mk (blk_below (g:=gb105) (o:=.cells #[.int .i64 a0_0,.int .i64 a0_1,.int .u64 a0_2,.int .u64 a0_3,.int .u32 a0_4,.int .i64 a0_5,.int .i64 a0_6,.string a0_7,.string a0_8,.int .i64 a0_9,.int .i64 a0_10,.string a0_11,.int .u32 a0_12,.int .i64 a0_13,.bool a0_14,.slice A0_15 l0_15.length c0_15,.slice A0_16 l0_16.length c0_16] 35 (0,0)) (by (with_reducible repeat (first|refine blk_drewN ?_ _|refine blk_drew ?_|refine blk_alloc ?_ _));exact BK105.out) hb);have n1_:=Aside0.mk (below_step (by repeat (first|(with_reducible first|exact HB.out|apply below_alloc|apply pw_below_drewN|apply below_drew1|refine below_set ?_ GE105.out)|exact HB.out)) hb);have n2_:=Aside0.mk (hbox);have n3_:=Aside0.mk ((by rw [hg];exact (below_size (by repeat (first|(with_reducible first|exact HB.out|apply below_alloc|apply pw_below_drewN|apply below_drew1|refine below_set ?_ GE105.out)|exact HB.out))) : w.heap.size≤gb106));have n4_:=Aside0.mk ((by rw [hg];exact (below_size (by repeat (first|(with_reducible first|exact HB.out|apply below_alloc|apply pw_below_drewN|apply below_drew1|refine below_set ?_ GE105.out)|exact HB.out))) : w.heap.size≤gb106));have n5_:=Aside0.mk ((by rw [hg];exact Nat.ne_of_lt (blk_lt (g:=gb105) (o:=.cells #[.int .i64 a0_0,.int .i64 a0_1,.int .u64 a0_2,.int .u64 a0_3,.int .u32 a0_4,.int .i64 a0_5,.int .i64 a0_6,.string a0_7,.string a0_8,.int .i64 a0_9,.int .i64 a0_10,.string a0_11,.int .u32 a0_12,.int .i64 a0_13,.bool a0_14,.slice A0_15 l0_15.length c0_15,.slice A0_16 l0_16.length c0_16] 35 (0,0)) (by (with_reducible repeat (first|refine blk_drewN ?_ _|refine blk_drew ?_|refine blk_alloc ?_ _));exact BK105.out)) : gb105≠gb106));have n6_:=Aside0.mk ((by rw [hg];exact Nat.ne_of_gt (blk_lt (g:=gb105) (o:=.cells #[.int .i64 a0_0,.int .i64 a0_1,.int .u64 a0_2,.int .u64 a0_3,.int .u32 a0_4,.int .i64 a0_5,.int .i64 a0_6,.string a0_7,.string a0_8,.int .i64 a0_9,.int .i64 a0_10,.string a0_11,.int .u32 a0_12,.int .i64 a0_13,.bool a0_14,.slice A0_15 l0_15.length c0_15,.slice A0_16 l0_16.length c0_16] 35 (0,0)) (by (with_reducible repeat (first|refine blk_drewN ?_ _|refine blk_drew ?_|refine blk_alloc ?_ _));exact BK105.out)) : gb106≠gb105));clear BK105;clear HB;have BK105:=n0_;have HB:=n1_;have BK106:=n2_;have GW106:=n3_;have GE106:=n4_;have NB105_106:=n5_;have NB106_105:=n6_;clear n0_ n1_ n2_ n3_ n4_ n5_ n6_;clear hb hbox hg;have hnb68:=NB105_106.out;have hnc68:=NB106_105.out;have hcz69_0 : w67.cell? ⟨gb105,0,none⟩=some (.int .i64 a0_0):=(blk_cell BK105.out 0).trans rfl;have hcz69_1 : w67.cell? ⟨gb105,1,none⟩=some (.int .i64 a0_1):=(blk_cell BK105.out 1).trans rfl;have hcz69_2 : w67.cell? ⟨gb105,2,none⟩=some (.int .u64 a0_2):=(blk_cell BK105.out 2).trans rfl;have hcz69_3 : w67.cell? ⟨gb105,3,none⟩=some (.int .u64 a0_3):=(blk_cell BK105.out 3).trans rfl;have hcz69_4 : w67.cell? ⟨gb105,4,none⟩=some (.int .u32 a0_4):=(blk_cell BK105.out 4).trans rfl;have hcz69_5 : w67.cell? ⟨gb105,5,none⟩=some (.int .i64 a0_5):=(blk_cell BK105.out 5).trans rfl;have hcz69_6 : w67.cell? ⟨gb105,6,none⟩=some (.int .i64 a0_6):=(blk_cell BK105.out 6).trans rfl;have hcz69_7 : w67.cell? ⟨gb105,7,none⟩=some (.string a0_7):=(blk_cell BK105.out 7).trans rfl;have hcz69_8 : w67.cell? ⟨gb105,8,none⟩=some (.string a0_8):=(blk_cell BK105.out 8).trans rfl;have hcz69_9 : w67.cell? ⟨gb105,9,none⟩=some (.int .i64 a0_9):=(blk_cell BK105.out 9).trans rfl;have hcz69_10 : w67.cell? ⟨gb105,10,none⟩=some (.int .i64 a0_10):=(blk_cell BK105.out 10).trans rfl;have hcz69_11 : w67.cell? ⟨gb105,11,none⟩=some (.string a0_11):=(blk_cell BK105.out 11).trans rfl;have hcz69_12 : w67.cell? ⟨gb105,12,none⟩=some (.int .u32 a0_12):=(blk_cell BK105.out 12).trans rfl;have hcz69_13 : w67.cell? ⟨gb105,13,none⟩=some (.int .i64 a0_13):=(blk_cell BK105.out 13).trans rfl;have hcz69_14 : w67.cell? ⟨gb105,14,none⟩=some (.bool a0_14):=(blk_cell BK105.out 14).trans rfl;have hcz69_15 : w67.cell? ⟨gb105,15,none⟩=some (.slice A0_15 l0_15.length c0_15):=(blk_cell BK105.out 15).trans rfl;have hcz69_16 : w67.cell? ⟨gb105,16,none⟩=some (.slice A0_16 l0_16.length c0_16):=(blk_cell BK105.out 16).trans rfl;have hfz69_0:=blk_frozen BK105.out 0;have hfz69_1:=blk_frozen BK105.out 1;have hfz69_2:=blk_frozen BK105.out 2;have hfz69_3:=blk_frozen BK105.out 3;have hfz69_4:=blk_frozen BK105.out 4;have hfz69_5:=blk_frozen BK105.out 5;have hfz69_6:=blk_frozen BK105.out 6;have hfz69_7:=blk_frozen BK105.out 7;have hfz69_8:=blk_frozen BK105.out 8;have hfz69_9:=blk_frozen BK105.out 9;have hfz69_10:=blk_frozen BK105.out 10;have hfz69_11:=blk_frozen BK105.out 11;have hfz69_12:=blk_frozen BK105.out 12;have hfz69_13:=blk_frozen BK105.out 13;have hfz69_14:=blk_frozen BK105.out 14;have hfz69_15:=blk_frozen BK105.out 15;have hfz69_16:=blk_frozen BK105.out 16;have hcz70_0 : w67.cell? ⟨gb106,0,none⟩=some (.int .i64 a1_0):=(blk_cell BK106.out 0).trans rfl;have hcz70_1 : w67.cell? ⟨gb106,1,none⟩=some (.int .i64 a1_1):=(blk_cell BK106.out 1).trans rfl;have hcz70_2 : w67.cell? ⟨gb106,2,none⟩=some (.int .u64 a1_2):=(blk_cell BK106.out 2).trans rfl;have hcz70_3 : w67.cell? ⟨gb106,3,none⟩=some (.int .u64 a1_3):=(blk_cell BK106.out 3).trans rfl;have hcz70_4 : w67.cell? ⟨gb106,4,none⟩=some (.int .u32 a1_4):=(blk_cell BK106.out 4).trans rfl;have hcz70_5 : w67.cell? ⟨gb106,5,none⟩=some (.int .i64 a1_5):=(blk_cell BK106.out 5).trans rfl;have hcz70_6 : w67.cell? ⟨gb106,6,none⟩=some (.int .i64 a1_6):=(blk_cell BK106.out 6).trans rfl;have hcz70_7 : w67.cell? ⟨gb106,7,none⟩=some (.string a1_7):=(blk_cell BK106.out 7).trans rfl;have hcz70_8 : w67.cell? ⟨gb106,8,none⟩=some (.string a1_8):=(blk_cell BK106.out 8).trans rfl;have hcz70_9 : w67.cell? ⟨gb106,9,none⟩=some (.int .i64 a1_9):=(blk_cell BK106.out 9).trans rfl;have hcz70_10 : w67.cell? ⟨gb106,10,none⟩=some (.int .i64 a1_10):=(blk_cell BK106.out 10).trans rfl;have hcz70_11 : w67.cell? ⟨gb106,11,none⟩=some (.string a1_11):=(blk_cell BK106.out 11).trans rfl;have hcz70_12 : w67.cell? ⟨gb106,12,none⟩=some (.int .u32 a1_12):=(blk_cell BK106.out 12).trans rfl;have hcz70_13 : w67.cell? ⟨gb106,13,none⟩=some (.int .i64 a1_13):=(blk_cell BK106.out 13).trans rfl;have hcz70_14 : w67.cell? ⟨gb106,14,none⟩=some (.bool a1_14):=(blk_cell BK106.out 14).trans rfl;have hcz70_15 : w67.cell? ⟨gb106,15,none⟩=some (.slice A1_15 l1_15.length c1_15):=(blk_cell BK106.out 15).trans rfl;have hcz70_16 : w67.cell? ⟨gb106,16,none⟩=some (.slice A1_16 l1_16.length c1_16):=(blk_cell BK106.out 16).trans rfl;have hfz70_0:=blk_frozen BK106.out 0;have hfz70_1:=blk_frozen BK106.out 1;have hfz70_2:=blk_frozen BK106.out 2;have hfz70_3:=blk_frozen BK106.out 3;have hfz70_4:=blk_frozen BK106.out 4;have hfz70_5:=blk_frozen BK106.out 5;have hfz70_6:=blk_frozen BK106.out 6;have hfz70_7:=blk_frozen BK106.out 7;have hfz70_8:=blk_frozen BK106.out 8;have hfz70_9:=blk_frozen BK106.out 9;have hfz70_10:=blk_frozen BK106.out 10;have hfz70_11:=blk_frozen BK106.out 11;have hfz70_12:=blk_frozen BK106.out 12;have hfz70_13:=blk_frozen BK106.out 13;have hfz70_14:=blk_frozen BK106.out 14;have hfz70_15:=blk_frozen BK106.out 15;have hfz70_16:=blk_frozen BK106.out 16)|((with_reducible refine gate_callee (f:=30) rfl ?_);refine goesL_ (some 9) rfl rfl Try.func30 (by kernel_rfl) rfl #[.slice A0_15 l0_15.length c0_15,.slice A1_15 l1_15.length c1_15] rfl (by (try simp only [List.map_toArray,List.map_cons,List.map_nil]);first|done|rfl|(simp only [List.length_drop,List.length_take];rfl)) ?_;(with_reducible refine (api_TxState.calls k _ _ l0_15 _ _ l1_15 true _ ?side1 ?side2 ?side3 ?side4 A3.out).mono ?_);(case side1=>repeat (first|exact (Kd.C_below HR0_15.out HB.out)|(with_reducible refine Kd.C_alloc ?_ _)|(with_reducible refine Kd.C_drewN ?_ _)|(with_reducible refine Kd.C_drew ?_)));(case side2=>exact HC0_15.out);(case side3=>repeat (first|exact (Kd.C_below HR1_15.out HB.out)|(with_reducible refine Kd.C_alloc ?_ _)|(with_reducible refine Kd.C_drewN ?_ _)|(with_reducible refine Kd.C_drew ?_)));(case side4=>exact HC1_15.out);rintro e w' ⟨rfl,⟨nd,rfl⟩⟩;refine ⟨_,rfl,?_⟩)|(go_at_call 31;(with_reducible refine (api_Dirty.calls k _ _ l0_16 _ _ l1_16 false _ ?side1 ?side2 ?side3 ?side4 A5.out).mono ?_);(case side1=>repeat (first|exact (Kd.C_below HR0_16.out (by repeat (first|(with_reducible first|exact HB.out|apply below_alloc|apply pw_below_drewN|apply below_drew1|refine below_set ?_ GE105.out|refine below_set ?_ GE106.out)|exact HB.out)))|(with_reducible refine Kd.C_alloc ?_ _)|(with_reducible refine Kd.C_drewN ?_ _)|(with_reducible refine Kd.C_drew ?_)));(case side2=>exact HC0_16.out);(case side3=>repeat (first|exact (Kd.C_below HR1_16.out (by repeat (first|(with_reducible first|exact HB.out|apply below_alloc|apply pw_below_drewN|apply below_drew1|refine below_set ?_ GE105.out|refine below_set ?_ GE106.out)|exact HB.out)))|(with_reducible refine Kd.C_alloc ?_ _)|(with_reducible refine Kd.C_drewN ?_ _)|(with_reducible refine Kd.C_drew ?_)));(case side4=>exact HC1_16.out);rintro e w' ⟨rfl,⟨nd,rfl⟩⟩))
   go_ret
   exact ⟨by first|rfl|(simp [errW_none,errW_some] <;> rfl)|(simp [*,errW_none,errW_some] <;> rfl),by repeat (first|(with_reducible first|exact HB.out|apply below_alloc|apply pw_below_drewN|apply below_drew1|refine below_set ?_ GE105.out|refine below_set ?_ GE106.out)|exact HB.out)⟩
 ·replace c4:=Bool.eq_false_iff.mpr c4
  subst c4
  have H1 : (some false)=some r:=by rw [if_neg (show ¬ (false=true) by decide)] at H;exact H
  clear H
  have H:=H1
  clear H1
  obtain rfl:=Option.some.inj H
  go_enter Try.func11,Try.ntmps11
  go_wp2_with (first|((with_reducible refine gate_dst (N:=2) rfl ?_);refine box_event ?hg (N:=2) ?hd (cs:=#[.int .i64 a0_0,.int .i64 a0_1,.int .u64 a0_2,.int .u64 a0_3,.int .u32 a0_4,.int .i64 a0_5,.int .i64 a0_6,.string a0_7,.string a0_8,.int .i64 a0_9,.int .i64 a0_10,.string a0_11,.int .u32 a0_12,.int .i64 a0_13,.bool a0_14,.slice A0_15 l0_15.length c0_15,.slice A0_16 l0_16.length c0_16]) (t:=35) ?hr ?_;(case hd=>rfl);(case hg=>rfl);(case hr=>first|(go_simp;done)|(go_simp;rfl));intro gb105 hg w71 hbox hb;have n0_:=Aside0.mk (below_step (by repeat (first|(with_reducible first|exact HB.out|apply below_alloc|apply pw_below_drewN|apply below_drew1)|exact HB.out)) hb);have n1_:=Aside0.mk (hbox);have n2_:=Aside0.mk ((by rw [hg];exact (below_size (by repeat (first|(with_reducible first|exact HB.out|apply below_alloc|apply pw_below_drewN|apply below_drew1)|exact HB.out))) : w.heap.size≤gb105));have n3_:=Aside0.mk ((by rw [hg];exact (below_size (by repeat (first|(with_reducible first|exact HB.out|apply below_alloc|apply pw_below_drewN|apply below_drew1)|exact HB.out))) : w.heap.size≤gb105));clear HB;have HB:=n0_;have BK105:=n1_;have GW105:=n2_;have GE105:=n3_;clear n0_ n1_ n2_ n3_;clear hb hbox hg)|((with_reducible refine gate_dst (N:=3) rfl ?_);refine box_event ?hg (N:=3) ?hd (cs:=#[.int .i64 a1_0,.int .i64 a1_1,.int .u64 a1_2,.int .u64 a1_3,.int .u32 a1_4,.int .i64 a1_5,.int .i64 a1_6,.string a1_7,.string a1_8,.int .i64 a1_9,.int .i64 a1_10,.string a1_11,.int .u32 a1_12,.int .i64 a1_13,.bool a1_14,.slice A1_15 l1_15.length c1_15,.slice A1_16 l1_16.length c1_16]) (t:=35) ?hr ?_;(case hd=>rfl);(case hg=>rfl);(case hr=>first|(go_simp;done)|(go_simp;rfl));intro gb106 hg w72 hbox hb;have n0_:=Aside0.mk (blk_below (g:=gb105) (o:=.cells #[.int .i64 a0_0,.int .i64 a0_1,.int .u64 a0_2,.int .u64 a0_3,.int .u32 a0_4,.int .i64 a0_5,.int .i64 a0_6,.string a0_7,.string a0_8,.int .i64 a0_9,.int .i64 a0_10,.string a0_11,.int .u32 a0_12,.int .i64 a0_13,.bool a0_14,.slice A0_15 l0_15.length c0_15,.slice A0_16 l0_16.length c0_16] 35 (0,0)) (by (with_reducible repeat (first|refine blk_drewN ?_ _|refine blk_drew ?_|refine blk_alloc ?_ _));exact BK105.out) hb);have n1_:=Aside0.mk (below_step (by repeat (first|(with_reducible first|exact HB.out|apply below_alloc|apply pw_below_drewN|apply below_drew1|refine below_set ?_ GE105.out)|exact HB.out)) hb);have n2_:=Aside0.mk (hbox);have n3_:=Aside0.mk ((by rw [hg];exact (below_size (by repeat (first|(with_reducible first|exact HB.out|apply below_alloc|apply pw_below_drewN|apply below_drew1|refine below_set ?_ GE105.out)|exact HB.out))) : w.heap.size≤gb106));have n4_:=Aside0.mk ((by rw [hg];exact (below_size (by repeat (first|(with_reducible first|exact HB.out|apply below_alloc|apply pw_below_drewN|apply below_drew1|refine below_set ?_ GE105.out)|exact HB.out))) : w.heap.size≤gb106));have n5_:=Aside0.mk ((by rw [hg];exact Nat.ne_of_lt (blk_lt (g:=gb105) (o:=.cells #[.int .i64 a0_0,.int .i64 a0_1,.int .u64 a0_2,.int .u64 a0_3,.int .u32 a0_4,.int .i64 a0_5,.int .i64 a0_6,.string a0_7,.string a0_8,.int .i64 a0_9,.int .i64 a0_10,.string a0_11,.int .u32 a0_12,.int .i64 a0_13,.bool a0_14,.slice A0_15 l0_15.length c0_15,.slice A0_16 l0_16.length c0_16] 35 (0,0)) (by (with_reducible repeat (first|refine blk_drewN ?_ _|refine blk_drew ?_|refine blk_alloc ?_ _));exact BK105.out)) : gb105≠gb106));have n6_:=Aside0.mk ((by rw [hg];exact Nat.ne_of_gt (blk_lt (g:=gb105) (o:=.cells #[.int .i64 a0_0,.int .i64 a0_1,.int .u64 a0_2,.int .u64 a0_3,.int .u32 a0_4,.int .i64 a0_5,.int .i64 a0_6,.string a0_7,.string a0_8,.int .i64 a0_9,.int .i64 a0_10,.string a0_11,.int .u32 a0_12,.int .i64 a0_13,.bool a0_14,.slice A0_15 l0_15.length c0_15,.slice A0_16 l0_16.length c0_16] 35 (0,0)) (by (with_reducible repeat (first|refine blk_drewN ?_ _|refine blk_drew ?_|refine blk_alloc ?_ _));exact BK105.out)) : gb106≠gb105));clear BK105;clear HB;have BK105:=n0_;have HB:=n1_;have BK106:=n2_;have GW106:=n3_;have GE106:=n4_;have NB105_106:=n5_;have NB106_105:=n6_;clear n0_ n1_ n2_ n3_ n4_ n5_ n6_;clear hb hbox hg;have hnb73:=NB105_106.out;have hnc73:=NB106_105.out;have hcz74_0 : w72.cell? ⟨gb105,0,none⟩=some (.int .i64 a0_0):=(blk_cell BK105.out 0).trans rfl;have hcz74_1 : w72.cell? ⟨gb105,1,none⟩=some (.int .i64 a0_1):=(blk_cell BK105.out 1).trans rfl;have hcz74_2 : w72.cell? ⟨gb105,2,none⟩=some (.int .u64 a0_2):=(blk_cell BK105.out 2).trans rfl;have hcz74_3 : w72.cell? ⟨gb105,3,none⟩=some (.int .u64 a0_3):=(blk_cell BK105.out 3).trans rfl;have hcz74_4 : w72.cell? ⟨gb105,4,none⟩=some (.int .u32 a0_4):=(blk_cell BK105.out 4).trans rfl;have hcz74_5 : w72.cell? ⟨gb105,5,none⟩=some (.int .i64 a0_5):=(blk_cell BK105.out 5).trans rfl;have hcz74_6 : w72.cell? ⟨gb105,6,none⟩=some (.int .i64 a0_6):=(blk_cell BK105.out 6).trans rfl;have hcz74_7 : w72.cell? ⟨gb105,7,none⟩=some (.string a0_7):=(blk_cell BK105.out 7).trans rfl;have hcz74_8 : w72.cell? ⟨gb105,8,none⟩=some (.string a0_8):=(blk_cell BK105.out 8).trans rfl;have hcz74_9 : w72.cell? ⟨gb105,9,none⟩=some (.int .i64 a0_9):=(blk_cell BK105.out 9).trans rfl;have hcz74_10 : w72.cell? ⟨gb105,10,none⟩=some (.int .i64 a0_10):=(blk_cell BK105.out 10).trans rfl;have hcz74_11 : w72.cell? ⟨gb105,11,none⟩=some (.string a0_11):=(blk_cell BK105.out 11).trans rfl;have hcz74_12 : w72.cell? ⟨gb105,12,none⟩=some (.int .u32 a0_12):=(blk_cell BK105.out 12).trans rfl;have hcz74_13 : w72.cell? ⟨gb105,13,none⟩=some (.int .i64 a0_13):=(blk_cell BK105.out 13).trans rfl;have hcz74_14 : w72.cell? ⟨gb105,14,none⟩=some (.bool a0_14):=(blk_cell BK105.out 14).trans rfl;have hcz74_15 : w72.cell? ⟨gb105,15,none⟩=some (.slice A0_15 l0_15.length c0_15):=(blk_cell BK105.out 15).trans rfl;have hcz74_16 : w72.cell? ⟨gb105,16,none⟩=some (.slice A0_16 l0_16.length c0_16):=(blk_cell BK105.out 16).trans rfl;have hfz74_0:=blk_frozen BK105.out 0;have hfz74_1:=blk_frozen BK105.out 1;have hfz74_2:=blk_frozen BK105.out 2;have hfz74_3:=blk_frozen BK105.out 3;have hfz74_4:=blk_frozen BK105.out 4;have hfz74_5:=blk_frozen BK105.out 5;have hfz74_6:=blk_frozen BK105.out 6;have hfz74_7:=blk_frozen BK105.out 7;have hfz74_8:=blk_frozen BK105.out 8;have hfz74_9:=blk_frozen BK105.out 9;have hfz74_10:=blk_frozen BK105.out 10;have hfz74_11:=blk_frozen BK105.out 11;have hfz74_12:=blk_frozen BK105.out 12;have hfz74_13:=blk_frozen BK105.out 13;have hfz74_14:=blk_frozen BK105.out 14;have hfz74_15:=blk_frozen BK105.out 15;have hfz74_16:=blk_frozen BK105.out 16;have hcz75_0 : w72.cell? ⟨gb106,0,none⟩=some (.int .i64 a1_0):=(blk_cell BK106.out 0).trans rfl;have hcz75_1 : w72.cell? ⟨gb106,1,none⟩=some (.int .i64 a1_1):=(blk_cell BK106.out 1).trans rfl;have hcz75_2 : w72.cell? ⟨gb106,2,none⟩=some (.int .u64 a1_2):=(blk_cell BK106.out 2).trans rfl;have hcz75_3 : w72.cell? ⟨gb106,3,none⟩=some (.int .u64 a1_3):=(blk_cell BK106.out 3).trans rfl;have hcz75_4 : w72.cell? ⟨gb106,4,none⟩=some (.int .u32 a1_4):=(blk_cell BK106.out 4).trans rfl;have hcz75_5 : w72.cell? ⟨gb106,5,none⟩=some (.int .i64 a1_5):=(blk_cell BK106.out 5).trans rfl;have hcz75_6 : w72.cell? ⟨gb106,6,none⟩=some (.int .i64 a1_6):=(blk_cell BK106.out 6).trans rfl;have hcz75_7 : w72.cell? ⟨gb106,7,none⟩=some (.string a1_7):=(blk_cell BK106.out 7).trans rfl;have hcz75_8 : w72.cell? ⟨gb106,8,none⟩=some (.string a1_8):=(blk_cell BK106.out 8).trans rfl;have hcz75_9 : w72.cell? ⟨gb106,9,none⟩=some (.int .i64 a1_9):=(blk_cell BK106.out 9).trans rfl;have hcz75_10 : w72.cell? ⟨gb106,10,none⟩=some (.int .i64 a1_10):=(blk_cell BK106.out 10).trans rfl;have hcz75_11 : w72.cell? ⟨gb106,11,none⟩=some (.string a1_11):=(blk_cell BK106.out 11).trans rfl;have hcz75_12 : w72.cell? ⟨gb106,12,none⟩=some (.int .u32 a1_12):=(blk_cell BK106.out 12).trans rfl;have hcz75_13 : w72.cell? ⟨gb106,13,none⟩=some (.int .i64 a1_13):=(blk_cell BK106.out 13).trans rfl;have hcz75_14 : w72.cell? ⟨gb106,14,none⟩=some (.bool a1_14):=(blk_cell BK106.out 14).trans rfl;have hcz75_15 : w72.cell? ⟨gb106,15,none⟩=some (.slice A1_15 l1_15.length c1_15):=(blk_cell BK106.out 15).trans rfl;have hcz75_16 : w72.cell? ⟨gb106,16,none⟩=some (.slice A1_16 l1_16.length c1_16):=(blk_cell BK106.out 16).trans rfl;have hfz75_0:=blk_frozen BK106.out 0;have hfz75_1:=blk_frozen BK106.out 1;have hfz75_2:=blk_frozen BK106.out 2;have hfz75_3:=blk_frozen BK106.out 3;have hfz75_4:=blk_frozen BK106.out 4;have hfz75_5:=blk_frozen BK106.out 5;have hfz75_6:=blk_frozen BK106.out 6;have hfz75_7:=blk_frozen BK106.out 7;have hfz75_8:=blk_frozen BK106.out 8;have hfz75_9:=blk_frozen BK106.out 9;have hfz75_10:=blk_frozen BK106.out 10;have hfz75_11:=blk_frozen BK106.out 11;have hfz75_12:=blk_frozen BK106.out 12;have hfz75_13:=blk_frozen BK106.out 13;have hfz75_14:=blk_frozen BK106.out 14;have hfz75_15:=blk_frozen BK106.out 15;have hfz75_16:=blk_frozen BK106.out 16)|((with_reducible refine gate_callee (f:=30) rfl ?_);refine goesL_ (some 9) rfl rfl Try.func30 (by kernel_rfl) rfl #[.slice A0_15 l0_15.length c0_15,.slice A1_15 l1_15.length c1_15] rfl (by (try simp only [List.map_toArray,List.map_cons,List.map_nil]);first|done|rfl|(simp only [List.length_drop,List.length_take];rfl)) ?_;(with_reducible refine (api_TxState.calls k _ _ l0_15 _ _ l1_15 false _ ?side1 ?side2 ?side3 ?side4 A3.out).mono ?_);(case side1=>repeat (first|exact (Kd.C_below HR0_15.out HB.out)|(with_reducible refine Kd.C_alloc ?_ _)|(with_reducible refine Kd.C_drewN ?_ _)|(with_reducible refine Kd.C_drew ?_)));(case side2=>exact HC0_15.out);(case side3=>repeat (first|exact (Kd.C_below HR1_15.out HB.out)|(with_reducible refine Kd.C_alloc ?_ _)|(with_reducible refine Kd.C_drewN ?_ _)|(with_reducible refine Kd.C_drew ?_)));(case side4=>exact HC1_15.out);rintro e w' ⟨rfl,⟨nd,rfl⟩⟩;refine ⟨_,rfl,?_⟩))
  go_ret
  exact ⟨by first|rfl|(simp [errW_none,errW_some] <;> rfl)|(simp [*,errW_none,errW_some] <;> rfl),by repeat (first|(with_reducible first|exact HB.out|apply below_alloc|apply pw_below_drewN|apply below_drew1|refine below_set ?_ GE105.out|refine below_set ?_ GE106.out)|exact HB.out)⟩
end Go.Proofs.Ytebickoieipjpaa.PRs
end
section
namespace Go.Proofs.Ytebickoieipjpaa
open Go.RowKit Go.Gi Go.GiRow Go.Proofs.YtebickoieipjpaaW.PrintWords Go.Proofs.YtebickoieipjpaaW.PrintLast Go.Proofs.YtebickoieipjpaaW.PrintMore PRs
set_option maxRecDepth 20000
set_option linter.unusedSimpArgs false
set_option linter.unusedVariables false
def ofSt (t : StR) : S70 := ⟨t.tx, t.st, t.last, t.next⟩
def ofDi (t : DiR) : S72 := ⟨t.page, t.lsn⟩
structure RowsR (w : World) (r : RecR) (A : Option Addr) (c : Nat) (B : Option Addr) (d : Nat) : Prop where
  hA : Kd.C k70 w A r.txs.length (r.txs.map ofSt)
  hc : r.txs.length ≤ c
  hB : Kd.C k72 w B r.dirty.length (r.dirty.map ofDi)
  hd : r.dirty.length ≤ d
  bA : r.txs.length * 32 ≤ 140737488351232
  bB : r.dirty.length * 16 ≤ 140737488351232
theorem RowsR.below {w w' : World} {r : RecR} {A : Option Addr} {c : Nat} {B : Option Addr} {d : Nat} (h : RowsR w r A c B d) (hb : Below w.heap.size w w') : RowsR w' r A c B d :=
  ⟨Kd.C_below h.hA hb, h.hc, Kd.C_below h.hB hb, h.hd, h.bA, h.bB⟩
theorem rd_of_C {α β : Type} {k : Kd β} {of : α → β} {cells : α → List Value} {n : Nat} (hsz : k.sz = n) (hn : 0 < n) (hk : ∀ w a cs, k.K w (of a) cs → cs = cells a) (hlen : ∀ a, (cells a).length = n) {w : World} {A : Option Addr} {l : List α}
    (h : Kd.C k w A l.length (l.map of)) : RdRows cells n w A l := fun j hj => by
  obtain ⟨h1, h2, h3⟩ := h
  obtain ⟨ad, rfl, hc⟩ := h3 (by omega)
  have hat : ∀ i (hi : i < l.length) x u, (cells l[i])[x]? = some u → w.cell? (ad.add (i * n + x)) = some u := by
    intro i hi x u hu
    obtain ⟨c, hcl, hK, hcell⟩ := hc i (of l[i]) (by simp [hi])
    have e := hk _ _ _ hK
    subst e
    rw [hsz] at hcell
    exact hcell x u hu
  have hc0 := hat 0 (by omega) 0 _ (List.getElem?_eq_getElem (by rw [hlen]; exact hn))
  rw [show ad.add (0 * n + 0) = ad by unfold Addr.add; simp] at hc0
  have hsp : ad.spot = none := by
    unfold World.cell? at hc0
    cases hs : ad.spot with
    | none => rfl
    | some y =>
      simp [hs] at hc0
      split at hc0 <;> simp_all
  obtain ⟨b, off, sp⟩ := ad
  simp only at hsp
  subst hsp
  refine ⟨b, off, rfl, World.block_lt_of_cell? w _ hc0, fun x u hu => ?_⟩
  have := hat j hj x u hu
  rw [show (⟨b, off, none⟩ : Addr).add (j * n + x) = ⟨b, off + j * n + x, none⟩ by unfold Addr.add; split <;> simp_all [Nat.add_assoc]] at this
  exact this
theorem RowsR.rdA {w : World} {r : RecR} {A : Option Addr} {c : Nat} {B : Option Addr} {d : Nat} (h : RowsR w r A c B d) : RdRows StR.cells 4 w A r.txs :=
  rd_of_C rfl (by decide) (fun _ _ _ h => k70_open h) (fun _ => rfl) h.hA
theorem RowsR.rdB {w : World} {r : RecR} {A : Option Addr} {c : Nat} {B : Option Addr} {d : Nat} (h : RowsR w r A c B d) : RdRows DiR.cells 2 w B r.dirty :=
  rd_of_C rfl (by decide) (fun _ _ _ h => k72_open h) (fun _ => rfl) h.hB
theorem cond_st (x y : S70) : (!((x.f0) == (y.f0)) || (!((x.f1) == (y.f1)) || (!((x.f2) == (y.f2)) || (!((x.f3) == (y.f3)))))) = true ↔ x ≠ y := by
  obtain ⟨a, b, c, d⟩ := x
  obtain ⟨a', b', c', d'⟩ := y
  by_cases h1 : a = a' <;> by_cases h2 : b = b' <;> by_cases h3 : c = c' <;> by_cases h4 : d = d' <;> simp [h1, h2, h3, h4]
theorem cond_di (x y : S72) : (!((x.f0) == (y.f0)) || (!((x.f1) == (y.f1)))) = true ↔ x ≠ y := by
  obtain ⟨a, b⟩ := x
  obtain ⟨a', b'⟩ := y
  by_cases h1 : a = a' <;> by_cases h2 : b = b' <;> simp [h1, h2]
theorem take_step {α : Type} {l m : List α} {k : Nat} (h1 : k < l.length) (h2 : k < m.length) (h : l.take k = m.take k) (e : l[k] = m[k]) : l.take (k + 1) = m.take (k + 1) := by
  rw [List.take_succ_eq_append_getElem h1, List.take_succ_eq_append_getElem h2, h, e]
theorem st_law (l m : List S70) (he : l.length = m.length) (hm : l.length ≤ 9223372036854775806) : ∀ k j : Nat, l.length < j + k → j ≤ l.length → l.take j = m.take j → ∃ b, api_TxState.l0 k l m (l.length : Int) (j : Int) = some b ∧ (b = true ↔ l = m)
  | 0, j, h, hj, _ => by omega
  | k + 1, j, h, hj, ht => by
    unfold api_TxState.l0
    by_cases hlt : j < l.length
    · have r1 : rd_T70 l (j : Int) = l[j] := by simp [rd_T70, List.getD_eq_getElem?_getD, List.getElem?_eq_getElem hlt]
      have r2 : rd_T70 m (j : Int) = m[j]'(by omega) := by simp [rd_T70, List.getD_eq_getElem?_getD, List.getElem?_eq_getElem (show j < m.length by omega)]
      rw [if_pos (by omega), if_pos (by omega), if_pos (by omega), if_pos (by omega), r1, r2]
      by_cases hx : l[j] = m[j]'(by omega)
      · rw [if_neg (by rw [cond_st]; exact fun h => h hx), show wrap64 ((j : Int) + 1) = ((j + 1 : Nat) : Int) by unfold wrap64; omega]
        exact st_law l m he hm k (j + 1) (by omega) (by omega) (take_step hlt (by omega) ht hx)
      · rw [if_pos ((cond_st _ _).2 hx)]
        refine ⟨false, rfl, by simp, fun e => absurd (by subst e; rfl) hx⟩
    · rw [if_neg (by omega)]
      have hj' : j = l.length := by omega
      refine ⟨true, rfl, fun _ => ?_, fun _ => rfl⟩
      rw [hj', List.take_length, he, List.take_length] at ht
      exact ht
theorem di_law (l m : List S72) (he : l.length = m.length) (hm : l.length ≤ 9223372036854775806) : ∀ k j : Nat, l.length < j + k → j ≤ l.length → l.take j = m.take j → ∃ b, api_Dirty.l0 k l m (l.length : Int) (j : Int) = some b ∧ (b = true ↔ l = m)
  | 0, j, h, hj, _ => by omega
  | k + 1, j, h, hj, ht => by
    unfold api_Dirty.l0
    by_cases hlt : j < l.length
    · have r1 : rd_T72 l (j : Int) = l[j] := by simp [rd_T72, List.getD_eq_getElem?_getD, List.getElem?_eq_getElem hlt]
      have r2 : rd_T72 m (j : Int) = m[j]'(by omega) := by simp [rd_T72, List.getD_eq_getElem?_getD, List.getElem?_eq_getElem (show j < m.length by omega)]
      rw [if_pos (by omega), if_pos (by omega), if_pos (by omega), if_pos (by omega), r1, r2]
      by_cases hx : l[j] = m[j]'(by omega)
      · rw [if_neg (by rw [cond_di]; exact fun h => h hx), show wrap64 ((j : Int) + 1) = ((j + 1 : Nat) : Int) by unfold wrap64; omega]
        exact di_law l m he hm k (j + 1) (by omega) (by omega) (take_step hlt (by omega) ht hx)
      · rw [if_pos ((cond_di _ _).2 hx)]
        refine ⟨false, rfl, by simp, fun e => absurd (by subst e; rfl) hx⟩
    · rw [if_neg (by omega)]
      have hj' : j = l.length := by omega
      refine ⟨true, rfl, fun _ => ?_, fun _ => rfl⟩
      rw [hj', List.take_length, he, List.take_length] at ht
      exact ht
theorem ofSt_inj : ∀ l m : List StR, l.map ofSt = m.map ofSt → l = m
  | [], [], _ => rfl
  | [], _ :: _, h => by simp at h
  | _ :: _, [], h => by simp at h
  | ⟨a, b, c, d⟩ :: l, ⟨a', b', c', d'⟩ :: m, h => by
    simp only [List.map_cons, List.cons.injEq, ofSt, S70.mk.injEq] at h
    obtain ⟨⟨rfl, rfl, rfl, rfl⟩, h⟩ := h
    rw [ofSt_inj l m h]
theorem ofDi_inj : ∀ l m : List DiR, l.map ofDi = m.map ofDi → l = m
  | [], [], _ => rfl
  | [], _ :: _, h => by simp at h
  | _ :: _, [], h => by simp at h
  | ⟨a, b⟩ :: l, ⟨a', b'⟩ :: m, h => by
    simp only [List.map_cons, List.cons.injEq, ofDi, S72.mk.injEq] at h
    obtain ⟨⟨rfl, rfl⟩, h⟩ := h
    rw [ofDi_inj l m h]
theorem st_f (l m : List StR) (k : Nat) (hk : l.length < k) (hm : l.length ≤ 9223372036854775806) : ∃ b, api_TxState.f k (l.map ofSt) (m.map ofSt) = some b ∧ (b = true ↔ l = m) := by
  unfold api_TxState.f
  by_cases he : l.length = m.length
  · rw [if_pos (by simp [he])]
    obtain ⟨b, h1, h2⟩ := st_law (l.map ofSt) (m.map ofSt) (by simp [he]) (by simp; omega) k 0 (by simp; omega) (by omega) rfl
    exact ⟨b, h1, h2.trans ⟨ofSt_inj l m, fun h => by rw [h]⟩⟩
  · rw [if_neg (by simp; omega)]
    exact ⟨false, rfl, by simp, fun h => absurd (by rw [h]) he⟩
theorem di_f (l m : List DiR) (k : Nat) (hk : l.length < k) (hm : l.length ≤ 9223372036854775806) : ∃ b, api_Dirty.f k (l.map ofDi) (m.map ofDi) = some b ∧ (b = true ↔ l = m) := by
  unfold api_Dirty.f
  by_cases he : l.length = m.length
  · rw [if_pos (by simp [he])]
    obtain ⟨b, h1, h2⟩ := di_law (l.map ofDi) (m.map ofDi) (by simp [he]) (by simp; omega) k 0 (by simp; omega) (by omega) rfl
    exact ⟨b, h1, h2.trans ⟨ofDi_inj l m, fun h => by rw [h]⟩⟩
  · rw [if_neg (by simp; omega)]
    exact ⟨false, rfl, by simp, fun h => absurd (by rw [h]) he⟩
theorem ite_b {c : Prop} [Decidable c] {p q : Prop} {x : Option Bool} (hx : c → ∃ b, x = some b ∧ (b = true ↔ q)) (hp : p ↔ c ∧ q) : ∃ b, (if c then x else some false) = some b ∧ (b = true ↔ p) := by
  by_cases hc : c
  · obtain ⟨b, h1, h2⟩ := hx hc
    exact ⟨b, by rw [if_pos hc, h1], h2.trans ⟨fun h => hp.2 ⟨hc, h⟩, fun h => (hp.1 h).2⟩⟩
  · exact ⟨false, by rw [if_neg hc], by simp, fun h => absurd (hp.1 h).1 hc⟩
theorem same_law (r s : RecR) (k : Nat) (h1 : r.txs.length < k) (h2 : r.dirty.length < k) (m1 : r.txs.length ≤ 9223372036854775806) (m2 : r.dirty.length ≤ 9223372036854775806) :
    ∃ b, rec_Same.f k r.kind r.tx r.prev r.next r.page r.ok r.oa (bs r.os) (bs r.oo) r.undo r.index (bs r.key) r.rpage r.rslot r.live (r.txs.map ofSt) (r.dirty.map ofDi) s.kind s.tx s.prev s.next s.page s.ok s.oa (bs s.os) (bs s.oo) s.undo s.index (bs s.key) s.rpage s.rslot s.live (s.txs.map ofSt) (s.dirty.map ofDi) = some b ∧ (b = true ↔ r = s) := by
  obtain ⟨kind, tx, prev, next, page, ok, oa, os, oo, undo, index, key, rpage, rslot, live, txs, dirty⟩ := r
  obtain ⟨kind', tx', prev', next', page', ok', oa', os', oo', undo', index', key', rpage', rslot', live', txs', dirty'⟩ := s
  simp only at h1 h2 m1 m2 ⊢
  unfold rec_Same.f
  obtain ⟨b1, e1, i1⟩ := st_f txs txs' k h1 m1
  obtain ⟨b2, e2, i2⟩ := di_f dirty dirty' k h2 m2
  rw [e1, e2, Option.bind_some, Option.bind_some]
  simp only [bs_tl]
  refine ite_b (q := dirty = dirty' ∧ kind = kind' ∧ tx = tx' ∧ prev = prev' ∧ next = next' ∧ page = page' ∧ (ok = ok' ∧ oa = oa' ∧ os = os' ∧ oo = oo') ∧ undo = undo' ∧ index = index' ∧ (key = key' ∧ rpage = rpage' ∧ rslot = rslot') ∧ live = live') (fun _ => ?_) ?_
  · refine ite_b (fun _ => ?_) (by rw [i2])
    refine ite_b (fun _ => ?_) Iff.rfl
    refine ite_b (fun _ => ?_) Iff.rfl
    refine ite_b (fun _ => ?_) Iff.rfl
    refine ite_b (fun _ => ?_) Iff.rfl
    refine ite_b (fun _ => ?_) Iff.rfl
    refine ite_b (q := undo = undo' ∧ index = index' ∧ (key = key' ∧ rpage = rpage' ∧ rslot = rslot') ∧ live = live') (fun _ => ?_) (by simp)
    refine ite_b (fun _ => ?_) Iff.rfl
    refine ite_b (fun _ => ?_) Iff.rfl
    refine ite_b (q := live = live') (fun _ => ?_) (by simp)
    exact ⟨_, rfl, by simp⟩
  · rw [i1]
    simp only [RecR.mk.injEq]
    constructor
    · rintro ⟨h0, h1, h2, h3, h4, h5, h6, h7, h8, h9, h10, h11, h12, h13, h14, h15, h16⟩
      exact ⟨h15, h16, h0, h1, h2, h3, h4, ⟨h5, h6, h7, h8⟩, h9, h10, ⟨h11, h12, h13⟩, h14⟩
    · rintro ⟨h15, h16, h0, h1, h2, h3, h4, ⟨h5, h6, h7, h8⟩, h9, h10, ⟨h11, h12, h13⟩, h14⟩
      exact ⟨h0, h1, h2, h3, h4, h5, h6, h7, h8, h9, h10, h11, h12, h13, h14, h15, h16⟩
theorem rsame_any (r s : RecR) {A : Option Addr} {c : Nat} {B : Option Addr} {d : Nat} {A' : Option Addr} {c' : Nat} {B' : Option Addr} {d' : Nat} {w : World} (hr : RowsR w r A c B d) (hs : RowsR w s A' c' B' d') :
    Calls Try.prog 11 #[r.val A c B d, s.val A' c' B' d'] w fun e w' => (∃ b, e = .returned (.bool b) ∧ (b = true ↔ r = s)) ∧ Below w.heap.size w w' := by
  have b1 := hr.bA
  have b2 := hr.bB
  obtain ⟨b, hf, hi⟩ := same_law r s (r.txs.length + r.dirty.length + 1) (by omega) (by omega) (by omega) (by omega)
  have e1 : (r.txs.map ofSt).length = r.txs.length := by simp
  have e2 : (r.dirty.map ofDi).length = r.dirty.length := by simp
  have e3 : (s.txs.map ofSt).length = s.txs.length := by simp
  have e4 : (s.dirty.map ofDi).length = s.dirty.length := by simp
  have H := rec_Same.calls (r.txs.length + r.dirty.length + 1) r.kind r.tx r.prev r.next r.page r.ok r.oa (bs r.os) (bs r.oo) r.undo r.index (bs r.key) r.rpage r.rslot r.live A c (r.txs.map ofSt) B d (r.dirty.map ofDi) s.kind s.tx s.prev s.next s.page s.ok s.oa (bs s.os) (bs s.oo) s.undo s.index (bs s.key) s.rpage s.rslot s.live A' c' (s.txs.map ofSt) B' d' (s.dirty.map ofDi) b w (by rw [e1]; exact hr.hA) (by rw [e1]; exact hr.hc) (by rw [e2]; exact hr.hB) (by rw [e2]; exact hr.hd) (by rw [e3]; exact hs.hA) (by rw [e3]; exact hs.hc) (by rw [e4]; exact hs.hB) (by rw [e4]; exact hs.hd) hf
  rw [e1, e2, e3, e4] at H
  exact H.mono fun e w' ⟨he, hb⟩ => ⟨⟨b, he, hi⟩, hb⟩
end Go.Proofs.Ytebickoieipjpaa
end
section
namespace Go.Proofs.Ytebickoieipjpaa.PRr
open Go.RowKit Go.Gi Go.GiRow Go.Proofs.Ytebickoieipjpaa Go.Proofs.YtebickoieipjpaaW.PrintWords Go.Proofs.YtebickoieipjpaaW.PrintLast Go.Proofs.YtebickoieipjpaaW.PrintMore
set_option maxRecDepth 20000
set_option linter.unusedSimpArgs false
set_option linter.unusedVariables false
theorem num_f {L : List UInt8} {a : Nat} {e : Int} (n : Int) (hL : L.length ≤ 9223372036854775807) (ha : a ≤ L.length) :
    girderref01_Reader_Number.f (bs L) a e n = some (bs L, ((rNum L a e n).2.1 : Int), (rNum L a e n).2.2, ((rNum L a e n).1 : Int)) := by
  unfold girderref01_Reader_Number.f
  rw [if_pos ⟨by omega, by rw [bs_size]; omega, by rw [bs_size]; exact hL⟩, toList_bs, Int.toNat_natCast]
theorem w64n {n : Nat} (h : n < 4294967296) : wrap64 (n : Int) = n := by unfold wrap64; omega
theorem u64s {i : Nat} (h : i < 65536) : IntKind.u64.wrap ((i : Int) + 1) = ((i + 1 : Nat) : Int) := by rw [IntKind.wrap_u64]; omega
theorem m32 {n : Nat} (h : n < 4294967296) : (n : Int) % 4294967296 = n := by omega
section
variable (p0 p1 p2 p3 p4 p5 p6 : Int) (p7 p8 : ByteArray) (p9 p10 : Int) (p11 : ByteArray) (p12 p13 : Int) (p14 : Bool)
theorem tl1 {L : List UInt8} (hL : L.length ≤ 9223372036854775807) (T : List S56) (n : Nat) (hn : n < 65536) : ∀ (m i k a : Nat) (e : Int) (D : List DiR), i + m = n → 2 * m + 2 ≤ k → a ≤ L.length → D.length + m ≤ 65536 →
    girderref04_takeTables.l1 k n i (bs L) a e p0 p1 p2 p3 p4 p5 p6 p7 p8 p9 p10 p11 p12 p13 p14 T (D.map sDi) = some (bs L, ((rdMany (rdDi L) m D a e).2.1 : Int), (rdMany (rdDi L) m D a e).2.2, p0, p1, p2, p3, p4, p5, p6, p7, p8, p9, p10, p11, p12, p13, p14, T, (rdMany (rdDi L) m D a e).1.map sDi) := by
  intro m
  induction m with
  | zero =>
    intro i k a e D h1 h2 ha h3
    obtain ⟨k, rfl⟩ : ∃ x, k = x + 2 := ⟨k - 2, by omega⟩
    rw [girderref04_takeTables.l1, if_neg (by omega), girderref04_takeTables.j3, if_neg (by simp)]
    rfl
  | succ m ih =>
    intro i k a e D h1 h2 ha h3
    obtain ⟨k, rfl⟩ : ∃ x, k = x + 2 := ⟨k - 2, by omega⟩
    rw [girderref04_takeTables.l1, if_pos (by omega), girderref04_takeTables.j3]
    by_cases he : e = 0
    · subst he
      have ha1 := rNum_le L a 0 4 ha
      have ha2 := rNum_le L _ (rNum L a 0 4).2.2 8 ha1
      rw [if_pos (by rfl), num_f 4 hL ha, Option.bind_some]
      simp only
      rw [num_f 8 hL ha1, Option.bind_some]
      simp only
      rw [if_pos (by rw [List.length_map]; omega), u64s (by omega), m32 (rn4 L a 0)]
      have h := ih (i + 1) k (rdDi L a 0).2.1 (rdDi L a 0).2.2 (D ++ [(rdDi L a 0).1]) (by omega) (by omega) (rdDi_le a 0 ha) (by simp; omega)
      rw [List.map_append] at h
      rw [rdMany, if_pos rfl]
      exact h
    · rw [show (e == 0) = false by simp [he], if_neg (by simp), rdMany, if_neg he]
theorem tl0 {L : List UInt8} (hL : L.length ≤ 9223372036854775807) (n : Nat) (hn : n < 65536) : ∀ (m i k a : Nat) (e : Int) (S : List StR), i + m = n → 2 * m + 131080 ≤ k → a ≤ L.length → S.length + m ≤ 65536 →
    girderref04_takeTables.l0 k n i (bs L) a e p0 p1 p2 p3 p4 p5 p6 p7 p8 p9 p10 p11 p12 p13 p14 (S.map sSt) [] = some (bs L, ((rdMany (rdDi L) (rNum L (rdMany (rdSt L) m S a e).2.1 (rdMany (rdSt L) m S a e).2.2 2).1 [] (rNum L (rdMany (rdSt L) m S a e).2.1 (rdMany (rdSt L) m S a e).2.2 2).2.1 (rNum L (rdMany (rdSt L) m S a e).2.1 (rdMany (rdSt L) m S a e).2.2 2).2.2).2.1 : Int), (rdMany (rdDi L) (rNum L (rdMany (rdSt L) m S a e).2.1 (rdMany (rdSt L) m S a e).2.2 2).1 [] (rNum L (rdMany (rdSt L) m S a e).2.1 (rdMany (rdSt L) m S a e).2.2 2).2.1 (rNum L (rdMany (rdSt L) m S a e).2.1 (rdMany (rdSt L) m S a e).2.2 2).2.2).2.2, p0, p1, p2, p3, p4, p5, p6, p7, p8, p9, p10, p11, p12, p13, p14, (rdMany (rdSt L) m S a e).1.map sSt, (rdMany (rdDi L) (rNum L (rdMany (rdSt L) m S a e).2.1 (rdMany (rdSt L) m S a e).2.2 2).1 [] (rNum L (rdMany (rdSt L) m S a e).2.1 (rdMany (rdSt L) m S a e).2.2 2).2.1 (rNum L (rdMany (rdSt L) m S a e).2.1 (rdMany (rdSt L) m S a e).2.2 2).2.2).1.map sDi) := by
  have hout : ∀ (k a : Nat) (e : Int) (S : List StR) (x : Int), 131078 ≤ k → a ≤ L.length → girderref04_takeTables.j1 (k + 1) n x false (bs L) a e p0 p1 p2 p3 p4 p5 p6 p7 p8 p9 p10 p11 p12 p13 p14 (S.map sSt) [] = some (bs L, ((rdMany (rdDi L) (rNum L a e 2).1 [] (rNum L a e 2).2.1 (rNum L a e 2).2.2).2.1 : Int), (rdMany (rdDi L) (rNum L a e 2).1 [] (rNum L a e 2).2.1 (rNum L a e 2).2.2).2.2, p0, p1, p2, p3, p4, p5, p6, p7, p8, p9, p10, p11, p12, p13, p14, S.map sSt, (rdMany (rdDi L) (rNum L a e 2).1 [] (rNum L a e 2).2.1 (rNum L a e 2).2.2).1.map sDi) := by
    intro k a e S x hk ha
    rw [girderref04_takeTables.j1, if_neg (by simp), num_f 2 hL ha, Option.bind_some]
    simp only
    have h2 := rn2 L a e
    exact tl1 p0 p1 p2 p3 p4 p5 p6 p7 p8 p9 p10 p11 p12 p13 p14 hL (S.map sSt) _ h2 _ 0 k _ _ [] (by omega) (by omega) (rNum_le L a e 2 ha) (by simp; omega)
  intro m
  induction m with
  | zero =>
    intro i k a e S h1 h2 ha h3
    obtain ⟨k, rfl⟩ : ∃ x, k = x + 2 := ⟨k - 2, by omega⟩
    rw [girderref04_takeTables.l0, if_neg (by omega), hout k a e S _ (by omega) ha]
    rfl
  | succ m ih =>
    intro i k a e S h1 h2 ha h3
    obtain ⟨k, rfl⟩ : ∃ x, k = x + 2 := ⟨k - 2, by omega⟩
    rw [girderref04_takeTables.l0, if_pos (by omega)]
    by_cases he : e = 0
    · subst he
      rw [girderref04_takeTables.j1]
      have ha1 := rNum_le L a 0 4 ha
      have ha2 := rNum_le L _ (rNum L a 0 4).2.2 1 ha1
      have ha3 := rNum_le L _ (rNum L (rNum L a 0 4).2.1 (rNum L a 0 4).2.2 1).2.2 8 ha2
      rw [if_pos (by rfl), num_f 4 hL ha, Option.bind_some]
      simp only
      rw [num_f 1 hL ha1, Option.bind_some]
      simp only
      rw [num_f 8 hL ha2, Option.bind_some]
      simp only
      rw [num_f 8 hL ha3, Option.bind_some]
      simp only
      rw [if_pos (by rw [List.length_map]; omega), u64s (by omega), w64n (rn4 L a 0), w64n (Nat.lt_of_lt_of_le (rn1 L _ _) (by omega))]
      have h := ih (i + 1) k (rdSt L a 0).2.1 (rdSt L a 0).2.2 (S ++ [(rdSt L a 0).1]) (by omega) (by omega) (rdSt_le a 0 ha) (by simp; omega)
      rw [List.map_append] at h
      rw [rdMany, if_pos rfl]
      exact h
    · rw [show (e == 0) = false by simp [he], hout k a e S _ (by omega) ha, rdMany, if_neg he]
theorem tab_f {L : List UInt8} (hL : L.length ≤ 9223372036854775807) {a : Nat} (e : Int) (ha : a ≤ L.length) :
    girderref04_takeTables.f 262160 (bs L) a e p0 p1 p2 p3 p4 p5 p6 p7 p8 p9 p10 p11 p12 p13 p14 [] [] = some (bs L, ((rdTab L a e).2.1 : Int), (rdTab L a e).2.2, p0, p1, p2, p3, p4, p5, p6, p7, p8, p9, p10, p11, p12, p13, p14, (rdTab L a e).1.txs.map sSt, (rdTab L a e).1.dirty.map sDi) := by
  unfold girderref04_takeTables.f
  rw [num_f 2 hL ha, Option.bind_some]
  simp only
  have h2 := rn2 L a e
  exact tl0 p0 p1 p2 p3 p4 p5 p6 p7 p8 p9 p10 p11 p12 p13 p14 hL _ h2 _ 0 262160 _ _ [] (by omega) (by omega) (rNum_le L a e 2 ha) (by simp; omega)
end
theorem rtab04_any {L : List UInt8} (hL : L.length ≤ 9223372036854775807) {a : Nat} (e : Int) (ha : a ≤ L.length) (p0 p1 p2 p3 p4 p5 p6 : Int) (p7 p8 : ByteArray) (p9 p10 : Int) (p11 : ByteArray) (p12 p13 : Int) (p14 : Bool) (w : World) :
    Calls Try.prog 29 #[.agg #[.string (bs L), .int .i64 a, .int .i64 e], .agg #[.int .i64 p0, .int .i64 p1, .int .u64 p2, .int .u64 p3, .int .u32 p4, .int .i64 p5, .int .i64 p6, .string p7, .string p8, .int .i64 p9, .int .i64 p10, .string p11, .int .u32 p12, .int .i64 p13, .bool p14, .slice none 0 0, .slice none 0 0]] w fun e' w' =>
      ∃ vT vD : Value, e' = .returned (.tuple #[.agg #[.string (bs L), .int .i64 ((rdTab L a e).2.1 : Nat), .int .i64 (rdTab L a e).2.2], .agg #[.int .i64 p0, .int .i64 p1, .int .u64 p2, .int .u64 p3, .int .u32 p4, .int .i64 p5, .int .i64 p6, .string p7, .string p8, .int .i64 p9, .int .i64 p10, .string p11, .int .u32 p12, .int .i64 p13, .bool p14, vT, vD]])
        ∧ Kd.R k56 56 w' w.heap.size (fun k => w.heap.size ≤ k) vT ((rdTab L a e).1.txs.map sSt) ∧ Kd.R k58 58 w' w.heap.size (fun k => w.heap.size ≤ k) vD ((rdTab L a e).1.dirty.map sDi) ∧ Below w.heap.size w w' := by
  refine (girderref04_takeTables.calls 262160 (bs L) a e p0 p1 p2 p3 p4 p5 p6 p7 p8 p9 p10 p11 p12 p13 p14 (fun _ => False) (.slice none 0 0) [] (fun _ => False) (.slice none 0 0) [] _ _ _ _ _ _ _ _ _ _ _ _ _ _ _ _ _ _ _ _ w w (Below.refl _ _) (Kd.R_nil _ _ _ _ _) (Kd.R_nil _ _ _ _ _) (tab_f p0 p1 p2 p3 p4 p5 p6 p7 p8 p9 p10 p11 p12 p13 p14 hL e ha)).mono ?_
  rintro e' w' ⟨vT, vD, rfl, h1, h2, h3, _⟩
  exact ⟨vT, vD, rfl, Kd.R_mono h1 (fun k hk => by rcases hk with (h | h) | h <;> first | exact h.elim | exact h), Kd.R_mono h2 (fun k hk => by rcases hk with (h | h) | h <;> first | exact h.elim | exact h), h3⟩
end Go.Proofs.Ytebickoieipjpaa.PRr
end
section
namespace Go.Proofs.Ytebickoieipjpaa
open Go.RowKit Go.Gi
set_option maxRecDepth 20000
set_option linter.unusedSimpArgs false
set_option linter.unusedVariables false
attribute [local go_sem] bs_size bs_empty
theorem kindOf_any (s : List UInt8) (w : World) :
    Calls Try.prog 52 #[.string (bs s)] w fun e w' => e = .returned (.bool (decide (1 ≤ s.length ∧ s.length ≤ 33))) ∧ w' = w := by
  go_enter Try.func52, Try.ntmps52
  go_wp2
  all_goals
    go_ret
    refine ⟨ret_bool ?_, rfl⟩
    rw [Bool.eq_iff_iff]
    simp
    try omega
set_option maxHeartbeats 1600000 in
theorem pcheck_any (k a : Int) (s o : List UInt8) (w : World) :
    Calls Try.prog 37 #[.agg #[.int .i64 k, .int .i64 a, .string (bs s), .string (bs o)]] w fun e w' => e = .returned (.int .i64 (opE k a s o)) ∧ Below w.heap.size w w' := by
  go_enter Try.func37, Try.ntmps37
  go_wp2_with (first | (go_at_call 52; refine (kindOf_any _ _).mono ?_; rintro e w' ⟨rfl, rfl⟩))
  all_goals
    go_ret
    refine ⟨ret_int ?_, balloc (Below.refl _ _) _⟩
    simp only [beq_iff_eq, decide_eq_true_eq, decide_eq_false_iff_not, beq_eq_false_iff_ne, ne_eq, Bool.not_eq_true', Bool.not_eq_false', ← List.length_eq_zero_iff] at *
    first
    | exact opE_pos (by unfold opOk; omega)
    | exact opE_neg (by unfold opOk; omega)
end Go.Proofs.Ytebickoieipjpaa
end
section
namespace Go.Proofs.Ytebickoieipjpaa
open Go.RowKit Go.Gi
set_option maxRecDepth 20000
set_option linter.unusedSimpArgs false
set_option linter.unusedVariables false
attribute [local go_sem] bs_size bs_empty
theorem rtx04_any (n : Int) (w : World) :
    Calls Try.prog 34 #[.int .i64 n] w fun e w' => e = .returned (.bool (decide (0 ≤ n ∧ n < 2147483648))) ∧ w' = w := by
  go_enter Try.func34, Try.ntmps34
  go_wp2
  all_goals
    go_ret
    refine ⟨ret_bool ?_, rfl⟩
    rw [Bool.eq_iff_iff]
    simp
    try omega
set_option maxHeartbeats 3200000 in
theorem rcheck03_any (k a : Int) (s o : List UInt8) (w : World) :
    Calls Try.prog 51 #[.agg #[.int .i64 k, .int .i64 a, .string (bs s), .string (bs o)]] w fun e w' => e = .returned (.bool (decide (opOk k a s o))) ∧ Below w.heap.size w w' := by
  go_enter Try.func51, Try.ntmps51
  go_wp2
  all_goals
    go_ret
    refine ⟨ret_bool ?_, balloc (Below.refl _ _) _⟩
    try simp only [beq_iff_eq, decide_eq_true_eq, decide_eq_false_iff_not, beq_eq_false_iff_ne, ne_eq, Bool.not_eq_true', Bool.not_eq_false', ← List.length_eq_zero_iff] at *
    rw [Bool.eq_iff_iff]
    simp only [beq_iff_eq, bne_iff_ne, ne_eq, decide_eq_true_eq, decide_eq_false_iff_not, Bool.false_eq_true, Bool.true_eq_false, false_iff, true_iff, iff_true, iff_false, ← List.length_eq_zero_iff, Bool.not_eq_true', Bool.not_eq_true]
    unfold opOk
    omega
def rfs (r : RecR) (V D : Value) : Array Value := #[.int .i64 r.kind, .int .i64 r.tx, .int .u64 r.prev, .int .u64 r.next, .int .u32 r.page, .int .i64 r.ok, .int .i64 r.oa, .string (bs r.os), .string (bs r.oo), .int .i64 r.undo, .int .i64 r.index, .string (bs r.key), .int .u32 r.rpage, .int .i64 r.rslot, .bool r.live, V, D]
def bareP (r : RecR) : Prop := r.page = 0 ∧ (r.ok = 0 ∧ r.oa = 0 ∧ r.os.length = 0 ∧ r.oo.length = 0) ∧ r.undo = 0 ∧ r.index = 0 ∧ r.key.length = 0 ∧ r.rpage = 0 ∧ r.rslot = 0 ∧ r.live = false
instance (r : RecR) : Decidable (bareP r) := by unfold bareP; infer_instance
instance (r : RecR) : Decidable (okKey r) := by unfold okKey; infer_instance
def chgP (r : RecR) : Prop := r.page ≠ 0 ∧ opOk r.ok r.oa r.os r.oo ∧ 0 ≤ r.undo ∧ r.undo ≤ 2 ∧ okKey r
instance (r : RecR) : Decidable (chgP r) := by unfold chgP; infer_instance
set_option maxHeartbeats 3200000 in
theorem bare04_any (r : RecR) (V D : Value) (w : World) :
    Calls Try.prog 36 #[.agg (rfs r V D)] w fun e w' => e = .returned (.bool (decide (bareP r))) ∧ Below w.heap.size w w' := by
  obtain ⟨kind, tx, prev, next, page, ok, oa, os, oo, undo, index, key, rpage, rslot, live, txs, dirty⟩ := r
  unfold rfs bareP
  simp only
  go_enter Try.func36, Try.ntmps36
  go_wp2
  all_goals
    go_ret
    refine ⟨ret_bool ?_, balloc (Below.refl _ _) _⟩
    try simp only [beq_iff_eq, decide_eq_true_eq, decide_eq_false_iff_not, beq_eq_false_iff_ne, ne_eq, Bool.not_eq_true', Bool.not_eq_false', ← List.length_eq_zero_iff] at *
    rw [Bool.eq_iff_iff]
    simp only [beq_iff_eq, bne_iff_ne, ne_eq, decide_eq_true_eq, decide_eq_false_iff_not, Bool.false_eq_true, Bool.true_eq_false, false_iff, true_iff, iff_true, iff_false, ← List.length_eq_zero_iff, Bool.not_eq_true', Bool.not_eq_true, Bool.and_eq_true]
    first | omega | (cases live <;> simp <;> omega) | (cases live <;> simp_all <;> omega) | simp_all
end Go.Proofs.Ytebickoieipjpaa
end
section
namespace Go.Proofs.Ytebickoieipjpaa
open Go.RowKit Go.Gi
set_option maxRecDepth 20000
set_option linter.unusedSimpArgs false
set_option linter.unusedVariables false
attribute [local go_sem] bs_size bs_empty
set_option maxHeartbeats 3200000 in
theorem change04_any (r : RecR) (V D : Value) (w : World) :
    Calls Try.prog 35 #[.agg (rfs r V D)] w fun e w' => e = .returned (.bool (decide (chgP r))) ∧ Below w.heap.size w w' := by
  obtain ⟨kind, tx, prev, next, page, ok, oa, os, oo, undo, index, key, rpage, rslot, live, txs, dirty⟩ := r
  unfold rfs chgP okKey
  simp only
  obtain ⟨bo, hbo⟩ : ∃ b : Bool, decide (opOk ok oa os oo) = b := ⟨_, rfl⟩
  have hB : bo = true ↔ opOk ok oa os oo := by rw [← hbo]; simp
  have HB := Lib.hid hB
  have HBO := Lib.hid hbo
  clear hB hbo
  have hN := Blk.new w 47 (rfs ⟨kind, tx, prev, next, page, ok, oa, os, oo, undo, index, key, rpage, rslot, live, txs, dirty⟩ V D)
  have hK := balloc (Below.refl w.heap.size w) (.cells (rfs ⟨kind, tx, prev, next, page, ok, oa, os, oo, undo, index, key, rpage, rslot, live, txs, dirty⟩ V D) 47)
  have HN := Lib.hid hN
  have HK := Lib.hid hK
  clear hN hK
  go_enter Try.func35, Try.ntmps35
  unfold rfs at HN HK
  simp only at HN HK
  go_upto_region 1 with fail
  generalize w.alloc _ = w1 at *
  rcases (show (bo = true ∧ undo = 2) ∨ (bo = true ∧ ¬ undo = 2) ∨ (bo = false ∧ undo = 2) ∨ (bo = false ∧ ¬ undo = 2) from by cases bo <;> by_cases hu : undo = 2 <;> simp [hu]) with ⟨rfl, hu⟩ | ⟨rfl, hu⟩ | ⟨rfl, hu⟩ | ⟨rfl, hu⟩
  · have hO : opOk ok oa os oo := HB.out.1 rfl
    clear HB
    obtain ⟨q4, q5, q6, q7, q8, q9, q10, q11, q12, q13, q14⟩ : w1.cell? ⟨w.heap.size, 4, none⟩ = some (.int .u32 page) ∧ w1.cell? ⟨w.heap.size, 5, none⟩ = some (.int .i64 ok) ∧ w1.cell? ⟨w.heap.size, 6, none⟩ = some (.int .i64 oa) ∧ w1.cell? ⟨w.heap.size, 7, none⟩ = some (.string (bs os)) ∧ w1.cell? ⟨w.heap.size, 8, none⟩ = some (.string (bs oo)) ∧ w1.cell? ⟨w.heap.size, 9, none⟩ = some (.int .i64 undo) ∧ w1.cell? ⟨w.heap.size, 10, none⟩ = some (.int .i64 index) ∧ w1.cell? ⟨w.heap.size, 11, none⟩ = some (.string (bs key)) ∧ w1.cell? ⟨w.heap.size, 12, none⟩ = some (.int .u32 rpage) ∧ w1.cell? ⟨w.heap.size, 13, none⟩ = some (.int .i64 rslot) ∧ w1.cell? ⟨w.heap.size, 14, none⟩ = some (.bool live) := ⟨HN.out.cell 4, HN.out.cell 5, HN.out.cell 6, HN.out.cell 7, HN.out.cell 8, HN.out.cell 9, HN.out.cell 10, HN.out.cell 11, HN.out.cell 12, HN.out.cell 13, HN.out.cell 14⟩
    go_wp2_with (first | (go_at_call 51; refine (rcheck03_any ok oa os oo _).mono ?_; rintro e w2 ⟨rfl, hb5⟩; rw [HBO.out]; have n_HN := Lib.hid (HN.out.step hb5); have n_HK := Lib.hid (bstep HK.out hb5); clear hb5 HN HK; have HN := n_HN; have HK := n_HK; clear n_HN n_HK; obtain ⟨q4, q5, q6, q7, q8, q9, q10, q11, q12, q13, q14⟩ : w2.cell? ⟨w.heap.size, 4, none⟩ = some (.int .u32 page) ∧ w2.cell? ⟨w.heap.size, 5, none⟩ = some (.int .i64 ok) ∧ w2.cell? ⟨w.heap.size, 6, none⟩ = some (.int .i64 oa) ∧ w2.cell? ⟨w.heap.size, 7, none⟩ = some (.string (bs os)) ∧ w2.cell? ⟨w.heap.size, 8, none⟩ = some (.string (bs oo)) ∧ w2.cell? ⟨w.heap.size, 9, none⟩ = some (.int .i64 undo) ∧ w2.cell? ⟨w.heap.size, 10, none⟩ = some (.int .i64 index) ∧ w2.cell? ⟨w.heap.size, 11, none⟩ = some (.string (bs key)) ∧ w2.cell? ⟨w.heap.size, 12, none⟩ = some (.int .u32 rpage) ∧ w2.cell? ⟨w.heap.size, 13, none⟩ = some (.int .i64 rslot) ∧ w2.cell? ⟨w.heap.size, 14, none⟩ = some (.bool live) := ⟨HN.out.cell 4, HN.out.cell 5, HN.out.cell 6, HN.out.cell 7, HN.out.cell 8, HN.out.cell 9, HN.out.cell 10, HN.out.cell 11, HN.out.cell 12, HN.out.cell 13, HN.out.cell 14⟩))
    all_goals
      go_ret
      refine ⟨ret_bool ?_, HK.out⟩
      try simp only [beq_iff_eq, decide_eq_true_eq, decide_eq_false_iff_not, beq_eq_false_iff_ne, ne_eq, Bool.not_eq_true', Bool.not_eq_false', ← List.length_eq_zero_iff] at *
      all_goals (rw [Bool.eq_iff_iff])
      all_goals (try simp only [hO, hu, if_true, if_false, beq_iff_eq, bne_iff_ne, ne_eq, decide_eq_true_eq, decide_eq_false_iff_not, Bool.false_eq_true, Bool.true_eq_false, false_iff, true_iff, iff_true, iff_false, ← List.length_eq_zero_iff, Bool.not_eq_true', Bool.not_eq_true, Bool.and_eq_true, true_and, and_true, false_and, and_false, not_true_eq_false, not_false_eq_true])
      all_goals (first | omega | (cases live <;> simp <;> omega) | (cases live <;> simp_all <;> omega) | simp_all)
  · have hO : opOk ok oa os oo := HB.out.1 rfl
    clear HB
    obtain ⟨q4, q5, q6, q7, q8, q9, q10, q11, q12, q13, q14⟩ : w1.cell? ⟨w.heap.size, 4, none⟩ = some (.int .u32 page) ∧ w1.cell? ⟨w.heap.size, 5, none⟩ = some (.int .i64 ok) ∧ w1.cell? ⟨w.heap.size, 6, none⟩ = some (.int .i64 oa) ∧ w1.cell? ⟨w.heap.size, 7, none⟩ = some (.string (bs os)) ∧ w1.cell? ⟨w.heap.size, 8, none⟩ = some (.string (bs oo)) ∧ w1.cell? ⟨w.heap.size, 9, none⟩ = some (.int .i64 undo) ∧ w1.cell? ⟨w.heap.size, 10, none⟩ = some (.int .i64 index) ∧ w1.cell? ⟨w.heap.size, 11, none⟩ = some (.string (bs key)) ∧ w1.cell? ⟨w.heap.size, 12, none⟩ = some (.int .u32 rpage) ∧ w1.cell? ⟨w.heap.size, 13, none⟩ = some (.int .i64 rslot) ∧ w1.cell? ⟨w.heap.size, 14, none⟩ = some (.bool live) := ⟨HN.out.cell 4, HN.out.cell 5, HN.out.cell 6, HN.out.cell 7, HN.out.cell 8, HN.out.cell 9, HN.out.cell 10, HN.out.cell 11, HN.out.cell 12, HN.out.cell 13, HN.out.cell 14⟩
    go_wp2_with (first | (go_at_call 51; refine (rcheck03_any ok oa os oo _).mono ?_; rintro e w2 ⟨rfl, hb5⟩; rw [HBO.out]; have n_HN := Lib.hid (HN.out.step hb5); have n_HK := Lib.hid (bstep HK.out hb5); clear hb5 HN HK; have HN := n_HN; have HK := n_HK; clear n_HN n_HK; obtain ⟨q4, q5, q6, q7, q8, q9, q10, q11, q12, q13, q14⟩ : w2.cell? ⟨w.heap.size, 4, none⟩ = some (.int .u32 page) ∧ w2.cell? ⟨w.heap.size, 5, none⟩ = some (.int .i64 ok) ∧ w2.cell? ⟨w.heap.size, 6, none⟩ = some (.int .i64 oa) ∧ w2.cell? ⟨w.heap.size, 7, none⟩ = some (.string (bs os)) ∧ w2.cell? ⟨w.heap.size, 8, none⟩ = some (.string (bs oo)) ∧ w2.cell? ⟨w.heap.size, 9, none⟩ = some (.int .i64 undo) ∧ w2.cell? ⟨w.heap.size, 10, none⟩ = some (.int .i64 index) ∧ w2.cell? ⟨w.heap.size, 11, none⟩ = some (.string (bs key)) ∧ w2.cell? ⟨w.heap.size, 12, none⟩ = some (.int .u32 rpage) ∧ w2.cell? ⟨w.heap.size, 13, none⟩ = some (.int .i64 rslot) ∧ w2.cell? ⟨w.heap.size, 14, none⟩ = some (.bool live) := ⟨HN.out.cell 4, HN.out.cell 5, HN.out.cell 6, HN.out.cell 7, HN.out.cell 8, HN.out.cell 9, HN.out.cell 10, HN.out.cell 11, HN.out.cell 12, HN.out.cell 13, HN.out.cell 14⟩))
    all_goals
      go_ret
      refine ⟨ret_bool ?_, HK.out⟩
      try simp only [beq_iff_eq, decide_eq_true_eq, decide_eq_false_iff_not, beq_eq_false_iff_ne, ne_eq, Bool.not_eq_true', Bool.not_eq_false', ← List.length_eq_zero_iff] at *
      all_goals (rw [Bool.eq_iff_iff])
      all_goals (try simp only [hO, hu, if_true, if_false, beq_iff_eq, bne_iff_ne, ne_eq, decide_eq_true_eq, decide_eq_false_iff_not, Bool.false_eq_true, Bool.true_eq_false, false_iff, true_iff, iff_true, iff_false, ← List.length_eq_zero_iff, Bool.not_eq_true', Bool.not_eq_true, Bool.and_eq_true, true_and, and_true, false_and, and_false, not_true_eq_false, not_false_eq_true])
      all_goals (first | omega | (cases live <;> simp <;> omega) | (cases live <;> simp_all <;> omega) | simp_all)
  · have hO : ¬ opOk ok oa os oo := fun h => by have h2 := HB.out.2 h; cases h2
    clear HB
    obtain ⟨q4, q5, q6, q7, q8, q9, q10, q11, q12, q13, q14⟩ : w1.cell? ⟨w.heap.size, 4, none⟩ = some (.int .u32 page) ∧ w1.cell? ⟨w.heap.size, 5, none⟩ = some (.int .i64 ok) ∧ w1.cell? ⟨w.heap.size, 6, none⟩ = some (.int .i64 oa) ∧ w1.cell? ⟨w.heap.size, 7, none⟩ = some (.string (bs os)) ∧ w1.cell? ⟨w.heap.size, 8, none⟩ = some (.string (bs oo)) ∧ w1.cell? ⟨w.heap.size, 9, none⟩ = some (.int .i64 undo) ∧ w1.cell? ⟨w.heap.size, 10, none⟩ = some (.int .i64 index) ∧ w1.cell? ⟨w.heap.size, 11, none⟩ = some (.string (bs key)) ∧ w1.cell? ⟨w.heap.size, 12, none⟩ = some (.int .u32 rpage) ∧ w1.cell? ⟨w.heap.size, 13, none⟩ = some (.int .i64 rslot) ∧ w1.cell? ⟨w.heap.size, 14, none⟩ = some (.bool live) := ⟨HN.out.cell 4, HN.out.cell 5, HN.out.cell 6, HN.out.cell 7, HN.out.cell 8, HN.out.cell 9, HN.out.cell 10, HN.out.cell 11, HN.out.cell 12, HN.out.cell 13, HN.out.cell 14⟩
    go_wp2_with (first | (go_at_call 51; refine (rcheck03_any ok oa os oo _).mono ?_; rintro e w2 ⟨rfl, hb5⟩; rw [HBO.out]; have n_HN := Lib.hid (HN.out.step hb5); have n_HK := Lib.hid (bstep HK.out hb5); clear hb5 HN HK; have HN := n_HN; have HK := n_HK; clear n_HN n_HK; obtain ⟨q4, q5, q6, q7, q8, q9, q10, q11, q12, q13, q14⟩ : w2.cell? ⟨w.heap.size, 4, none⟩ = some (.int .u32 page) ∧ w2.cell? ⟨w.heap.size, 5, none⟩ = some (.int .i64 ok) ∧ w2.cell? ⟨w.heap.size, 6, none⟩ = some (.int .i64 oa) ∧ w2.cell? ⟨w.heap.size, 7, none⟩ = some (.string (bs os)) ∧ w2.cell? ⟨w.heap.size, 8, none⟩ = some (.string (bs oo)) ∧ w2.cell? ⟨w.heap.size, 9, none⟩ = some (.int .i64 undo) ∧ w2.cell? ⟨w.heap.size, 10, none⟩ = some (.int .i64 index) ∧ w2.cell? ⟨w.heap.size, 11, none⟩ = some (.string (bs key)) ∧ w2.cell? ⟨w.heap.size, 12, none⟩ = some (.int .u32 rpage) ∧ w2.cell? ⟨w.heap.size, 13, none⟩ = some (.int .i64 rslot) ∧ w2.cell? ⟨w.heap.size, 14, none⟩ = some (.bool live) := ⟨HN.out.cell 4, HN.out.cell 5, HN.out.cell 6, HN.out.cell 7, HN.out.cell 8, HN.out.cell 9, HN.out.cell 10, HN.out.cell 11, HN.out.cell 12, HN.out.cell 13, HN.out.cell 14⟩))
    all_goals
      go_ret
      refine ⟨ret_bool ?_, HK.out⟩
      try simp only [beq_iff_eq, decide_eq_true_eq, decide_eq_false_iff_not, beq_eq_false_iff_ne, ne_eq, Bool.not_eq_true', Bool.not_eq_false', ← List.length_eq_zero_iff] at *
      all_goals (rw [Bool.eq_iff_iff])
      all_goals (try simp only [hO, hu, if_true, if_false, beq_iff_eq, bne_iff_ne, ne_eq, decide_eq_true_eq, decide_eq_false_iff_not, Bool.false_eq_true, Bool.true_eq_false, false_iff, true_iff, iff_true, iff_false, ← List.length_eq_zero_iff, Bool.not_eq_true', Bool.not_eq_true, Bool.and_eq_true, true_and, and_true, false_and, and_false, not_true_eq_false, not_false_eq_true])
      all_goals (first | omega | (cases live <;> simp <;> omega) | (cases live <;> simp_all <;> omega) | simp_all)
  · have hO : ¬ opOk ok oa os oo := fun h => by have h2 := HB.out.2 h; cases h2
    clear HB
    obtain ⟨q4, q5, q6, q7, q8, q9, q10, q11, q12, q13, q14⟩ : w1.cell? ⟨w.heap.size, 4, none⟩ = some (.int .u32 page) ∧ w1.cell? ⟨w.heap.size, 5, none⟩ = some (.int .i64 ok) ∧ w1.cell? ⟨w.heap.size, 6, none⟩ = some (.int .i64 oa) ∧ w1.cell? ⟨w.heap.size, 7, none⟩ = some (.string (bs os)) ∧ w1.cell? ⟨w.heap.size, 8, none⟩ = some (.string (bs oo)) ∧ w1.cell? ⟨w.heap.size, 9, none⟩ = some (.int .i64 undo) ∧ w1.cell? ⟨w.heap.size, 10, none⟩ = some (.int .i64 index) ∧ w1.cell? ⟨w.heap.size, 11, none⟩ = some (.string (bs key)) ∧ w1.cell? ⟨w.heap.size, 12, none⟩ = some (.int .u32 rpage) ∧ w1.cell? ⟨w.heap.size, 13, none⟩ = some (.int .i64 rslot) ∧ w1.cell? ⟨w.heap.size, 14, none⟩ = some (.bool live) := ⟨HN.out.cell 4, HN.out.cell 5, HN.out.cell 6, HN.out.cell 7, HN.out.cell 8, HN.out.cell 9, HN.out.cell 10, HN.out.cell 11, HN.out.cell 12, HN.out.cell 13, HN.out.cell 14⟩
    go_wp2_with (first | (go_at_call 51; refine (rcheck03_any ok oa os oo _).mono ?_; rintro e w2 ⟨rfl, hb5⟩; rw [HBO.out]; have n_HN := Lib.hid (HN.out.step hb5); have n_HK := Lib.hid (bstep HK.out hb5); clear hb5 HN HK; have HN := n_HN; have HK := n_HK; clear n_HN n_HK; obtain ⟨q4, q5, q6, q7, q8, q9, q10, q11, q12, q13, q14⟩ : w2.cell? ⟨w.heap.size, 4, none⟩ = some (.int .u32 page) ∧ w2.cell? ⟨w.heap.size, 5, none⟩ = some (.int .i64 ok) ∧ w2.cell? ⟨w.heap.size, 6, none⟩ = some (.int .i64 oa) ∧ w2.cell? ⟨w.heap.size, 7, none⟩ = some (.string (bs os)) ∧ w2.cell? ⟨w.heap.size, 8, none⟩ = some (.string (bs oo)) ∧ w2.cell? ⟨w.heap.size, 9, none⟩ = some (.int .i64 undo) ∧ w2.cell? ⟨w.heap.size, 10, none⟩ = some (.int .i64 index) ∧ w2.cell? ⟨w.heap.size, 11, none⟩ = some (.string (bs key)) ∧ w2.cell? ⟨w.heap.size, 12, none⟩ = some (.int .u32 rpage) ∧ w2.cell? ⟨w.heap.size, 13, none⟩ = some (.int .i64 rslot) ∧ w2.cell? ⟨w.heap.size, 14, none⟩ = some (.bool live) := ⟨HN.out.cell 4, HN.out.cell 5, HN.out.cell 6, HN.out.cell 7, HN.out.cell 8, HN.out.cell 9, HN.out.cell 10, HN.out.cell 11, HN.out.cell 12, HN.out.cell 13, HN.out.cell 14⟩))
    all_goals
      go_ret
      refine ⟨ret_bool ?_, HK.out⟩
      try simp only [beq_iff_eq, decide_eq_true_eq, decide_eq_false_iff_not, beq_eq_false_iff_ne, ne_eq, Bool.not_eq_true', Bool.not_eq_false', ← List.length_eq_zero_iff] at *
      all_goals (rw [Bool.eq_iff_iff])
      all_goals (try simp only [hO, hu, if_true, if_false, beq_iff_eq, bne_iff_ne, ne_eq, decide_eq_true_eq, decide_eq_false_iff_not, Bool.false_eq_true, Bool.true_eq_false, false_iff, true_iff, iff_true, iff_false, ← List.length_eq_zero_iff, Bool.not_eq_true', Bool.not_eq_true, Bool.and_eq_true, true_and, and_true, false_and, and_false, not_true_eq_false, not_false_eq_true])
      all_goals (first | omega | (cases live <;> simp <;> omega) | (cases live <;> simp_all <;> omega) | simp_all)
end Go.Proofs.Ytebickoieipjpaa
end
section
namespace Go.Proofs.Ytebickoieipjpaa
open Go.RowKit Go.Gi
set_option linter.unusedSimpArgs false
set_option linter.unusedVariables false
def long0 (r : RecR) : Prop := r.txs.length = 0 ∧ r.dirty.length = 0
def mayP (r : RecR) : Prop := (0 ≤ r.tx ∧ r.tx < 2147483648) ∧ ((r.kind = 1 ∧ chgP r ∧ r.next = 0 ∧ long0 r) ∨ (r.kind = 2 ∧ chgP r ∧ r.undo = 0 ∧ long0 r) ∨ (r.kind = 3 ∧ bareP r ∧ long0 r) ∨ ((4 ≤ r.kind ∧ r.kind ≤ 7) ∧ bareP r ∧ r.next = 0 ∧ long0 r)
  ∨ (r.kind = 8 ∧ bareP r ∧ r.next = 0 ∧ r.txs.length ≤ 64 ∧ r.dirty.length ≤ 256 ∧ ∀ t ∈ r.txs, okSt t))
set_option maxHeartbeats 16000000 in
theorem mayP_iff (r : RecR) : mayP r ↔ recOk r := by
  have hnil : r.txs.length = 0 → ∀ t ∈ r.txs, okSt t := fun h t ht => by rw [List.length_eq_zero_iff.1 h] at ht; simp at ht
  have hn : ¬ (∀ t ∈ r.txs, okSt t) → ¬ r.txs.length = 0 := fun h h2 => h (hnil h2)
  clear hnil
  unfold mayP recOk okHead okUndo okOp okNext okLong okKey chgP bareP long0 isChange isNext
  obtain ⟨kind, tx, prev, next, page, ok, oa, os, oo, undo, index, key, rpage, rslot, live, txs, dirty⟩ := r
  simp only at hn ⊢
  generalize (∀ t ∈ txs, okSt t) = S at *
  unfold okKey
  simp only
  generalize opOk ok oa os oo = P
  rcases (show kind = 1 ∨ kind = 2 ∨ kind = 3 ∨ (4 ≤ kind ∧ kind ≤ 7) ∨ kind = 8 ∨ (kind < 1 ∨ 8 < kind) by omega) with rfl | rfl | rfl | ⟨h4, h7⟩ | rfl | h0
  · simp only [Int.reduceEq, true_or, or_true, or_self, if_true, false_and, or_false, true_and, false_or]
    by_cases hu : undo = 2
    · simp only [hu, if_true]; grind
    · simp only [hu, if_false]; grind
  · simp only [Int.reduceEq, true_or, or_true, or_self, if_true, false_and, or_false, true_and, false_or]
    by_cases hu : undo = 2
    · simp only [hu, if_true]; grind
    · simp only [hu, if_false]; grind
  · simp only [Int.reduceEq, true_or, or_true, or_self, if_true, if_false, false_and, or_false, true_and, false_or]
    by_cases hu : undo = 2
    · simp only [hu, if_true]; grind
    · simp only [hu, if_false]; grind
  · have e1 : ¬ kind = 1 := by omega
    have e2 : ¬ kind = 2 := by omega
    have e3 : ¬ kind = 3 := by omega
    have e8 : ¬ kind = 8 := by omega
    simp only [e1, e2, e3, e8, or_self, if_false, false_and, or_false, true_and, false_or]
    by_cases hu : undo = 2
    · simp only [hu, if_true]; grind
    · simp only [hu, if_false]; grind
  · simp only [Int.reduceEq, true_or, or_true, or_self, if_true, if_false, false_and, or_false, true_and, false_or]
    by_cases hu : undo = 2
    · simp only [hu, if_true]; grind
    · simp only [hu, if_false]; grind
  · have e1 : ¬ kind = 1 := by omega
    have e2 : ¬ kind = 2 := by omega
    have e3 : ¬ kind = 3 := by omega
    have e8 : ¬ kind = 8 := by omega
    have e4 : ¬ (4 ≤ kind ∧ kind ≤ 7) := by omega
    have e0 : ¬ (1 ≤ kind ∧ kind ≤ 8) := by omega
    simp only [e1, e2, e3, e8, e4, or_self, if_false, false_and, or_false, and_false, true_and, false_or, false_iff]
    grind
end Go.Proofs.Ytebickoieipjpaa
end
