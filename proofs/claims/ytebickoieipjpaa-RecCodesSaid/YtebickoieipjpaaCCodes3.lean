import Derived.Test.YtebickoieipjpaaCCodes2
section
namespace Go.Proofs.Ytebickoieipjpaa.PRr
open Go.RowKit Go.Gi Go.Proofs.Ytebickoieipjpaa Go.Proofs.YtebickoieipjpaaW.PrintWords Go.Proofs.YtebickoieipjpaaW.PrintLast Go.Proofs.YtebickoieipjpaaW.PrintMore
set_option maxRecDepth 20000
set_option linter.unusedSimpArgs false
set_option linter.unusedVariables false
def sSt (t : StR) : S56 := ⟨t.tx, t.st, t.last, t.next⟩
def sDi (t : DiR) : S58 := ⟨t.page, t.lsn⟩
theorem put_f {n long : Int} {c : Nat} (h0 : 0 ≤ n) (h1 : n ≤ 18446744073709551615) (hc : clamp8 long = c) : girderref01_Put.f n long = some (bs (putL c n.toNat)) := by
  unfold girderref01_Put.f
  rw [if_pos ⟨h0, h1⟩, hc]
theorem putw_f {n long : Int} {c : Nat} (h0 : 0 ≤ n) (h1 : n ≤ 9223372036854775807) (hc : clamp8 long = c) : girderref01_Put.f (IntKind.u64.wrap n) long = some (bs (putL c n.toNat)) := by
  rw [show IntKind.u64.wrap n = n by rw [IntKind.wrap_u64]; omega]
  exact put_f h0 (by omega) hc
theorem text_f {s : List UInt8} (h : s.length ≤ 1000000) : girderref04_text.f (bs s) = some (bs (txB s)) := by
  unfold girderref04_text.f txB
  rw [if_pos (by rw [bs_size]; omega), bs_size, toList_bs]
theorem cat_f {a b : List UInt8} (h : a.length + b.length ≤ 1000000000) {α : Type} (X : ByteArray → Option α) : (if (bs a).size + (bs b).size ≤ 9223372036854775807 then X (bs a ++ bs b) else none) = X (bs (a ++ b)) := by
  rw [bs_size, bs_size, if_pos (by omega), bs_append]
theorem rdDi_at (l : List DiR) (i : Nat) (h : i < l.length) : rd_T58 (l.map sDi) (i : Int) = sDi l[i] := by
  unfold rd_T58
  simp [List.getD_eq_getElem?_getD, List.getElem?_eq_getElem h]
section
variable (a0 a1 a2 a3 a4 a5 a6 : Int) (a7 a8 : ByteArray) (a9 a10 : Int) (a11 : ByteArray) (a12 a13 : Int) (a14 : Bool) (T : List S56)
theorem l1_f (D : List DiR) (hD : ∀ t ∈ D, (0 ≤ t.page ∧ t.page ≤ 4294967295) ∧ 0 ≤ t.lsn ∧ t.lsn ≤ 18446744073709551615) (hl : D.length ≤ 256) : ∀ (n i k : Nat) (acc : List UInt8), i + n = D.length → n < k → acc.length + 12 * n ≤ 100000000 →
    girderref04_Bytes.l1 k (bs acc) i a0 a1 a2 a3 a4 a5 a6 a7 a8 a9 a10 a11 a12 a13 a14 T (D.map sDi) = some (bs (acc ++ disB (D.drop i))) := by
  intro n
  induction n with
  | zero =>
    intro i k acc h1 h2 h3
    obtain ⟨k, rfl⟩ : ∃ m, k = m + 1 := ⟨k - 1, by omega⟩
    rw [girderref04_Bytes.l1, if_neg (by simp; omega), List.drop_of_length_le (by omega)]
    simp [disB]
  | succ n ih =>
    intro i k acc h1 h2 h3
    obtain ⟨k, rfl⟩ : ∃ m, k = m + 1 := ⟨k - 1, by omega⟩
    have hi : i < D.length := by omega
    have hd := hD _ (List.getElem_mem hi)
    have hlen := diB_len D[i]
    rw [girderref04_Bytes.l1, if_pos (by simp; omega), if_pos (by omega), rdDi_at D i hi]
    rw [show (sDi D[i]).f0 = D[i].page from rfl, show (sDi D[i]).f1 = D[i].lsn from rfl, putw_f (c := 4) hd.1.1 (by omega) rfl, Option.bind_some, put_f (c := 8) hd.2.1 hd.2.2 rfl, Option.bind_some]
    rw [cat_f (by simp [putL_length]) (fun z => if (bs acc).size + z.size ≤ 9223372036854775807 then girderref04_Bytes.l1 k (bs acc ++ z) (wrap64 ((i : Int) + 1)) a0 a1 a2 a3 a4 a5 a6 a7 a8 a9 a10 a11 a12 a13 a14 T (D.map sDi) else none)]
    rw [cat_f (by simp [putL_length]; omega) (fun z => girderref04_Bytes.l1 k z (wrap64 ((i : Int) + 1)) a0 a1 a2 a3 a4 a5 a6 a7 a8 a9 a10 a11 a12 a13 a14 T (D.map sDi))]
    rw [show wrap64 ((i : Int) + 1) = ((i + 1 : Nat) : Int) by unfold wrap64; omega, ih (i + 1) k _ (by omega) (by omega) (by simp [putL_length]; omega)]
    have e : disB (D.drop i) = diB D[i] ++ disB (D.drop (i + 1)) := by rw [List.drop_eq_getElem_cons hi]; rfl
    rw [e]
    simp only [diB, List.append_assoc]
theorem rdSt_at (l : List StR) (i : Nat) (h : i < l.length) : rd_T56 (l.map sSt) (i : Int) = sSt l[i] := by
  unfold rd_T56
  simp [List.getD_eq_getElem?_getD, List.getElem?_eq_getElem h]
theorem l0_f (S : List StR) (hS : ∀ t ∈ S, okSt t) (hS2 : ∀ t ∈ S, (0 ≤ t.last ∧ t.last ≤ 18446744073709551615) ∧ 0 ≤ t.next ∧ t.next ≤ 18446744073709551615) (hs : S.length ≤ 64)
    (D : List DiR) (hD : ∀ t ∈ D, (0 ≤ t.page ∧ t.page ≤ 4294967295) ∧ 0 ≤ t.lsn ∧ t.lsn ≤ 18446744073709551615) (hl : D.length ≤ 256) : ∀ (n i k : Nat) (acc : List UInt8), i + n = S.length → n + D.length + 1 < k → acc.length + 21 * n ≤ 10000000 →
    girderref04_Bytes.l0 k (bs acc) i a0 a1 a2 a3 a4 a5 a6 a7 a8 a9 a10 a11 a12 a13 a14 (S.map sSt) (D.map sDi) = some (bs (acc ++ stsB (S.drop i) ++ putL 2 D.length ++ disB D)) := by
  intro n
  induction n with
  | zero =>
    intro i k acc h1 h2 h3
    obtain ⟨k, rfl⟩ : ∃ m, k = m + 1 := ⟨k - 1, by omega⟩
    rw [girderref04_Bytes.l0, if_neg (by simp; omega), List.length_map, putw_f (c := 2) (by omega) (by omega) rfl, Option.bind_some, Int.toNat_natCast]
    rw [cat_f (by simp [putL_length]; omega) (fun z => girderref04_Bytes.l1 k z 0 a0 a1 a2 a3 a4 a5 a6 a7 a8 a9 a10 a11 a12 a13 a14 (S.map sSt) (D.map sDi))]
    have := l1_f a0 a1 a2 a3 a4 a5 a6 a7 a8 a9 a10 a11 a12 a13 a14 (S.map sSt) D hD hl D.length 0 k (acc ++ putL 2 D.length) (by omega) (by omega) (by simp [putL_length]; omega)
    rw [List.drop_zero] at this
    rw [List.drop_of_length_le (by omega)]
    rw [show ((0 : Nat) : Int) = 0 from rfl] at this
    rw [this]
    simp [stsB]
  | succ n ih =>
    intro i k acc h1 h2 h3
    obtain ⟨k, rfl⟩ : ∃ m, k = m + 1 := ⟨k - 1, by omega⟩
    have hi : i < S.length := by omega
    have ho := hS _ (List.getElem_mem hi)
    have hd := hS2 _ (List.getElem_mem hi)
    unfold okSt at ho
    rw [girderref04_Bytes.l0, if_pos (by simp; omega), if_pos (by omega), rdSt_at S i hi]
    rw [show (sSt S[i]).f0 = S[i].tx from rfl, show (sSt S[i]).f1 = S[i].st from rfl, show (sSt S[i]).f2 = S[i].last from rfl, show (sSt S[i]).f3 = S[i].next from rfl, putw_f (c := 4) ho.1 (by omega) rfl, Option.bind_some, putw_f (c := 1) (by omega) (by omega) rfl, Option.bind_some, put_f (c := 8) hd.1.1 hd.1.2 rfl, put_f (c := 8) hd.2.1 hd.2.2 rfl]
    simp only [Option.bind_some, bs_append, bs_size, List.length_append, putL_length]
    rw [if_pos (by omega), if_pos (by omega), if_pos (by omega), if_pos (by omega)]
    rw [show wrap64 ((i : Int) + 1) = ((i + 1 : Nat) : Int) by unfold wrap64; omega, ih (i + 1) k _ (by omega) (by omega) (by simp [putL_length]; omega)]
    have e : stsB (S.drop i) = stB S[i] ++ stsB (S.drop (i + 1)) := by rw [List.drop_eq_getElem_cons hi]; rfl
    rw [e]
    simp only [stB, List.append_assoc]
end
end Go.Proofs.Ytebickoieipjpaa.PRr
end
section
namespace Go.Proofs.Ytebickoieipjpaa
open Go.RowKit Go.Gi
set_option maxRecDepth 20000
set_option linter.unusedSimpArgs false
set_option linter.unusedVariables false
attribute [local go_sem] bs_size bs_empty
theorem kindOf_any (s : List UInt8) (w : World) :
    Calls Try.prog 52 #[.string (bs s)] w fun e w' => e = .returned (.bool (decide (1 ≤ s.length ∧ s.length ≤ 33))) ∧ w' = w := by
  go_enter Try.func52, Try.ntmps52
  go_wp2
  all_goals
    go_ret
    refine ⟨ret_bool ?_, rfl⟩
    rw [Bool.eq_iff_iff]
    simp
    try omega
set_option maxHeartbeats 1600000 in
theorem pcheck_any (k a : Int) (s o : List UInt8) (w : World) :
    Calls Try.prog 37 #[.agg #[.int .i64 k, .int .i64 a, .string (bs s), .string (bs o)]] w fun e w' => e = .returned (.int .i64 (opE k a s o)) ∧ Below w.heap.size w w' := by
  go_enter Try.func37, Try.ntmps37
  go_wp2_with (first | (go_at_call 52; refine (kindOf_any _ _).mono ?_; rintro e w' ⟨rfl, rfl⟩))
  all_goals
    go_ret
    refine ⟨ret_int ?_, balloc (Below.refl _ _) _⟩
    simp only [beq_iff_eq, decide_eq_true_eq, decide_eq_false_iff_not, beq_eq_false_iff_ne, ne_eq, Bool.not_eq_true', Bool.not_eq_false', ← List.length_eq_zero_iff] at *
    first
    | exact opE_pos (by unfold opOk; omega)
    | exact opE_neg (by unfold opOk; omega)
end Go.Proofs.Ytebickoieipjpaa
end
section
namespace Go.Proofs.Ytebickoieipjpaa
open Go.RowKit Go.Gi
set_option maxRecDepth 20000
set_option linter.unusedSimpArgs false
set_option linter.unusedVariables false
attribute [local go_sem] bs_size bs_empty
theorem rtx04_any (n : Int) (w : World) :
    Calls Try.prog 34 #[.int .i64 n] w fun e w' => e = .returned (.bool (decide (0 ≤ n ∧ n < 2147483648))) ∧ w' = w := by
  go_enter Try.func34, Try.ntmps34
  go_wp2
  all_goals
    go_ret
    refine ⟨ret_bool ?_, rfl⟩
    rw [Bool.eq_iff_iff]
    simp
    try omega
set_option maxHeartbeats 3200000 in
theorem rcheck03_any (k a : Int) (s o : List UInt8) (w : World) :
    Calls Try.prog 51 #[.agg #[.int .i64 k, .int .i64 a, .string (bs s), .string (bs o)]] w fun e w' => e = .returned (.bool (decide (opOk k a s o))) ∧ Below w.heap.size w w' := by
  go_enter Try.func51, Try.ntmps51
  go_wp2
  all_goals
    go_ret
    refine ⟨ret_bool ?_, balloc (Below.refl _ _) _⟩
    try simp only [beq_iff_eq, decide_eq_true_eq, decide_eq_false_iff_not, beq_eq_false_iff_ne, ne_eq, Bool.not_eq_true', Bool.not_eq_false', ← List.length_eq_zero_iff] at *
    rw [Bool.eq_iff_iff]
    simp only [beq_iff_eq, bne_iff_ne, ne_eq, decide_eq_true_eq, decide_eq_false_iff_not, Bool.false_eq_true, Bool.true_eq_false, false_iff, true_iff, iff_true, iff_false, ← List.length_eq_zero_iff, Bool.not_eq_true', Bool.not_eq_true]
    unfold opOk
    omega
def rfs (r : RecR) (V D : Value) : Array Value := #[.int .i64 r.kind, .int .i64 r.tx, .int .u64 r.prev, .int .u64 r.next, .int .u32 r.page, .int .i64 r.ok, .int .i64 r.oa, .string (bs r.os), .string (bs r.oo), .int .i64 r.undo, .int .i64 r.index, .string (bs r.key), .int .u32 r.rpage, .int .i64 r.rslot, .bool r.live, V, D]
def bareP (r : RecR) : Prop := r.page = 0 ∧ (r.ok = 0 ∧ r.oa = 0 ∧ r.os.length = 0 ∧ r.oo.length = 0) ∧ r.undo = 0 ∧ r.index = 0 ∧ r.key.length = 0 ∧ r.rpage = 0 ∧ r.rslot = 0 ∧ r.live = false
instance (r : RecR) : Decidable (bareP r) := by unfold bareP; infer_instance
instance (r : RecR) : Decidable (okKey r) := by unfold okKey; infer_instance
def chgP (r : RecR) : Prop := r.page ≠ 0 ∧ opOk r.ok r.oa r.os r.oo ∧ 0 ≤ r.undo ∧ r.undo ≤ 2 ∧ okKey r
instance (r : RecR) : Decidable (chgP r) := by unfold chgP; infer_instance
set_option maxHeartbeats 3200000 in
theorem bare04_any (r : RecR) (V D : Value) (w : World) :
    Calls Try.prog 36 #[.agg (rfs r V D)] w fun e w' => e = .returned (.bool (decide (bareP r))) ∧ Below w.heap.size w w' := by
  obtain ⟨kind, tx, prev, next, page, ok, oa, os, oo, undo, index, key, rpage, rslot, live, txs, dirty⟩ := r
  unfold rfs bareP
  simp only
  go_enter Try.func36, Try.ntmps36
  go_wp2
  all_goals
    go_ret
    refine ⟨ret_bool ?_, balloc (Below.refl _ _) _⟩
    try simp only [beq_iff_eq, decide_eq_true_eq, decide_eq_false_iff_not, beq_eq_false_iff_ne, ne_eq, Bool.not_eq_true', Bool.not_eq_false', ← List.length_eq_zero_iff] at *
    rw [Bool.eq_iff_iff]
    simp only [beq_iff_eq, bne_iff_ne, ne_eq, decide_eq_true_eq, decide_eq_false_iff_not, Bool.false_eq_true, Bool.true_eq_false, false_iff, true_iff, iff_true, iff_false, ← List.length_eq_zero_iff, Bool.not_eq_true', Bool.not_eq_true, Bool.and_eq_true]
    first | omega | (cases live <;> simp <;> omega) | (cases live <;> simp_all <;> omega) | simp_all
end Go.Proofs.Ytebickoieipjpaa
end
section
namespace Go.Proofs.Ytebickoieipjpaa
open Go.RowKit Go.Gi
set_option maxRecDepth 20000
set_option linter.unusedSimpArgs false
set_option linter.unusedVariables false
attribute [local go_sem] bs_size bs_empty
set_option maxHeartbeats 3200000 in
theorem change04_any (r : RecR) (V D : Value) (w : World) :
    Calls Try.prog 35 #[.agg (rfs r V D)] w fun e w' => e = .returned (.bool (decide (chgP r))) ∧ Below w.heap.size w w' := by
  obtain ⟨kind, tx, prev, next, page, ok, oa, os, oo, undo, index, key, rpage, rslot, live, txs, dirty⟩ := r
  unfold rfs chgP okKey
  simp only
  obtain ⟨bo, hbo⟩ : ∃ b : Bool, decide (opOk ok oa os oo) = b := ⟨_, rfl⟩
  have hB : bo = true ↔ opOk ok oa os oo := by rw [← hbo]; simp
  have HB := Lib.hid hB
  have HBO := Lib.hid hbo
  clear hB hbo
  have hN := Blk.new w 47 (rfs ⟨kind, tx, prev, next, page, ok, oa, os, oo, undo, index, key, rpage, rslot, live, txs, dirty⟩ V D)
  have hK := balloc (Below.refl w.heap.size w) (.cells (rfs ⟨kind, tx, prev, next, page, ok, oa, os, oo, undo, index, key, rpage, rslot, live, txs, dirty⟩ V D) 47)
  have HN := Lib.hid hN
  have HK := Lib.hid hK
  clear hN hK
  go_enter Try.func35, Try.ntmps35
  unfold rfs at HN HK
  simp only at HN HK
  go_upto_region 1 with fail
  generalize w.alloc _ = w1 at *
  rcases (show (bo = true ∧ undo = 2) ∨ (bo = true ∧ ¬ undo = 2) ∨ (bo = false ∧ undo = 2) ∨ (bo = false ∧ ¬ undo = 2) from by cases bo <;> by_cases hu : undo = 2 <;> simp [hu]) with ⟨rfl, hu⟩ | ⟨rfl, hu⟩ | ⟨rfl, hu⟩ | ⟨rfl, hu⟩
  · have hO : opOk ok oa os oo := HB.out.1 rfl
    clear HB
    obtain ⟨q4, q5, q6, q7, q8, q9, q10, q11, q12, q13, q14⟩ : w1.cell? ⟨w.heap.size, 4, none⟩ = some (.int .u32 page) ∧ w1.cell? ⟨w.heap.size, 5, none⟩ = some (.int .i64 ok) ∧ w1.cell? ⟨w.heap.size, 6, none⟩ = some (.int .i64 oa) ∧ w1.cell? ⟨w.heap.size, 7, none⟩ = some (.string (bs os)) ∧ w1.cell? ⟨w.heap.size, 8, none⟩ = some (.string (bs oo)) ∧ w1.cell? ⟨w.heap.size, 9, none⟩ = some (.int .i64 undo) ∧ w1.cell? ⟨w.heap.size, 10, none⟩ = some (.int .i64 index) ∧ w1.cell? ⟨w.heap.size, 11, none⟩ = some (.string (bs key)) ∧ w1.cell? ⟨w.heap.size, 12, none⟩ = some (.int .u32 rpage) ∧ w1.cell? ⟨w.heap.size, 13, none⟩ = some (.int .i64 rslot) ∧ w1.cell? ⟨w.heap.size, 14, none⟩ = some (.bool live) := ⟨HN.out.cell 4, HN.out.cell 5, HN.out.cell 6, HN.out.cell 7, HN.out.cell 8, HN.out.cell 9, HN.out.cell 10, HN.out.cell 11, HN.out.cell 12, HN.out.cell 13, HN.out.cell 14⟩
    go_wp2_with (first | (go_at_call 51; refine (rcheck03_any ok oa os oo _).mono ?_; rintro e w2 ⟨rfl, hb5⟩; rw [HBO.out]; have n_HN := Lib.hid (HN.out.step hb5); have n_HK := Lib.hid (bstep HK.out hb5); clear hb5 HN HK; have HN := n_HN; have HK := n_HK; clear n_HN n_HK; obtain ⟨q4, q5, q6, q7, q8, q9, q10, q11, q12, q13, q14⟩ : w2.cell? ⟨w.heap.size, 4, none⟩ = some (.int .u32 page) ∧ w2.cell? ⟨w.heap.size, 5, none⟩ = some (.int .i64 ok) ∧ w2.cell? ⟨w.heap.size, 6, none⟩ = some (.int .i64 oa) ∧ w2.cell? ⟨w.heap.size, 7, none⟩ = some (.string (bs os)) ∧ w2.cell? ⟨w.heap.size, 8, none⟩ = some (.string (bs oo)) ∧ w2.cell? ⟨w.heap.size, 9, none⟩ = some (.int .i64 undo) ∧ w2.cell? ⟨w.heap.size, 10, none⟩ = some (.int .i64 index) ∧ w2.cell? ⟨w.heap.size, 11, none⟩ = some (.string (bs key)) ∧ w2.cell? ⟨w.heap.size, 12, none⟩ = some (.int .u32 rpage) ∧ w2.cell? ⟨w.heap.size, 13, none⟩ = some (.int .i64 rslot) ∧ w2.cell? ⟨w.heap.size, 14, none⟩ = some (.bool live) := ⟨HN.out.cell 4, HN.out.cell 5, HN.out.cell 6, HN.out.cell 7, HN.out.cell 8, HN.out.cell 9, HN.out.cell 10, HN.out.cell 11, HN.out.cell 12, HN.out.cell 13, HN.out.cell 14⟩))
    all_goals
      go_ret
      refine ⟨ret_bool ?_, HK.out⟩
      try simp only [beq_iff_eq, decide_eq_true_eq, decide_eq_false_iff_not, beq_eq_false_iff_ne, ne_eq, Bool.not_eq_true', Bool.not_eq_false', ← List.length_eq_zero_iff] at *
      all_goals (rw [Bool.eq_iff_iff])
      all_goals (try simp only [hO, hu, if_true, if_false, beq_iff_eq, bne_iff_ne, ne_eq, decide_eq_true_eq, decide_eq_false_iff_not, Bool.false_eq_true, Bool.true_eq_false, false_iff, true_iff, iff_true, iff_false, ← List.length_eq_zero_iff, Bool.not_eq_true', Bool.not_eq_true, Bool.and_eq_true, true_and, and_true, false_and, and_false, not_true_eq_false, not_false_eq_true])
      all_goals (first | omega | (cases live <;> simp <;> omega) | (cases live <;> simp_all <;> omega) | simp_all)
  · have hO : opOk ok oa os oo := HB.out.1 rfl
    clear HB
    obtain ⟨q4, q5, q6, q7, q8, q9, q10, q11, q12, q13, q14⟩ : w1.cell? ⟨w.heap.size, 4, none⟩ = some (.int .u32 page) ∧ w1.cell? ⟨w.heap.size, 5, none⟩ = some (.int .i64 ok) ∧ w1.cell? ⟨w.heap.size, 6, none⟩ = some (.int .i64 oa) ∧ w1.cell? ⟨w.heap.size, 7, none⟩ = some (.string (bs os)) ∧ w1.cell? ⟨w.heap.size, 8, none⟩ = some (.string (bs oo)) ∧ w1.cell? ⟨w.heap.size, 9, none⟩ = some (.int .i64 undo) ∧ w1.cell? ⟨w.heap.size, 10, none⟩ = some (.int .i64 index) ∧ w1.cell? ⟨w.heap.size, 11, none⟩ = some (.string (bs key)) ∧ w1.cell? ⟨w.heap.size, 12, none⟩ = some (.int .u32 rpage) ∧ w1.cell? ⟨w.heap.size, 13, none⟩ = some (.int .i64 rslot) ∧ w1.cell? ⟨w.heap.size, 14, none⟩ = some (.bool live) := ⟨HN.out.cell 4, HN.out.cell 5, HN.out.cell 6, HN.out.cell 7, HN.out.cell 8, HN.out.cell 9, HN.out.cell 10, HN.out.cell 11, HN.out.cell 12, HN.out.cell 13, HN.out.cell 14⟩
    go_wp2_with (first | (go_at_call 51; refine (rcheck03_any ok oa os oo _).mono ?_; rintro e w2 ⟨rfl, hb5⟩; rw [HBO.out]; have n_HN := Lib.hid (HN.out.step hb5); have n_HK := Lib.hid (bstep HK.out hb5); clear hb5 HN HK; have HN := n_HN; have HK := n_HK; clear n_HN n_HK; obtain ⟨q4, q5, q6, q7, q8, q9, q10, q11, q12, q13, q14⟩ : w2.cell? ⟨w.heap.size, 4, none⟩ = some (.int .u32 page) ∧ w2.cell? ⟨w.heap.size, 5, none⟩ = some (.int .i64 ok) ∧ w2.cell? ⟨w.heap.size, 6, none⟩ = some (.int .i64 oa) ∧ w2.cell? ⟨w.heap.size, 7, none⟩ = some (.string (bs os)) ∧ w2.cell? ⟨w.heap.size, 8, none⟩ = some (.string (bs oo)) ∧ w2.cell? ⟨w.heap.size, 9, none⟩ = some (.int .i64 undo) ∧ w2.cell? ⟨w.heap.size, 10, none⟩ = some (.int .i64 index) ∧ w2.cell? ⟨w.heap.size, 11, none⟩ = some (.string (bs key)) ∧ w2.cell? ⟨w.heap.size, 12, none⟩ = some (.int .u32 rpage) ∧ w2.cell? ⟨w.heap.size, 13, none⟩ = some (.int .i64 rslot) ∧ w2.cell? ⟨w.heap.size, 14, none⟩ = some (.bool live) := ⟨HN.out.cell 4, HN.out.cell 5, HN.out.cell 6, HN.out.cell 7, HN.out.cell 8, HN.out.cell 9, HN.out.cell 10, HN.out.cell 11, HN.out.cell 12, HN.out.cell 13, HN.out.cell 14⟩))
    all_goals
      go_ret
      refine ⟨ret_bool ?_, HK.out⟩
      try simp only [beq_iff_eq, decide_eq_true_eq, decide_eq_false_iff_not, beq_eq_false_iff_ne, ne_eq, Bool.not_eq_true', Bool.not_eq_false', ← List.length_eq_zero_iff] at *
      all_goals (rw [Bool.eq_iff_iff])
      all_goals (try simp only [hO, hu, if_true, if_false, beq_iff_eq, bne_iff_ne, ne_eq, decide_eq_true_eq, decide_eq_false_iff_not, Bool.false_eq_true, Bool.true_eq_false, false_iff, true_iff, iff_true, iff_false, ← List.length_eq_zero_iff, Bool.not_eq_true', Bool.not_eq_true, Bool.and_eq_true, true_and, and_true, false_and, and_false, not_true_eq_false, not_false_eq_true])
      all_goals (first | omega | (cases live <;> simp <;> omega) | (cases live <;> simp_all <;> omega) | simp_all)
  · have hO : ¬ opOk ok oa os oo := fun h => by have h2 := HB.out.2 h; cases h2
    clear HB
    obtain ⟨q4, q5, q6, q7, q8, q9, q10, q11, q12, q13, q14⟩ : w1.cell? ⟨w.heap.size, 4, none⟩ = some (.int .u32 page) ∧ w1.cell? ⟨w.heap.size, 5, none⟩ = some (.int .i64 ok) ∧ w1.cell? ⟨w.heap.size, 6, none⟩ = some (.int .i64 oa) ∧ w1.cell? ⟨w.heap.size, 7, none⟩ = some (.string (bs os)) ∧ w1.cell? ⟨w.heap.size, 8, none⟩ = some (.string (bs oo)) ∧ w1.cell? ⟨w.heap.size, 9, none⟩ = some (.int .i64 undo) ∧ w1.cell? ⟨w.heap.size, 10, none⟩ = some (.int .i64 index) ∧ w1.cell? ⟨w.heap.size, 11, none⟩ = some (.string (bs key)) ∧ w1.cell? ⟨w.heap.size, 12, none⟩ = some (.int .u32 rpage) ∧ w1.cell? ⟨w.heap.size, 13, none⟩ = some (.int .i64 rslot) ∧ w1.cell? ⟨w.heap.size, 14, none⟩ = some (.bool live) := ⟨HN.out.cell 4, HN.out.cell 5, HN.out.cell 6, HN.out.cell 7, HN.out.cell 8, HN.out.cell 9, HN.out.cell 10, HN.out.cell 11, HN.out.cell 12, HN.out.cell 13, HN.out.cell 14⟩
    go_wp2_with (first | (go_at_call 51; refine (rcheck03_any ok oa os oo _).mono ?_; rintro e w2 ⟨rfl, hb5⟩; rw [HBO.out]; have n_HN := Lib.hid (HN.out.step hb5); have n_HK := Lib.hid (bstep HK.out hb5); clear hb5 HN HK; have HN := n_HN; have HK := n_HK; clear n_HN n_HK; obtain ⟨q4, q5, q6, q7, q8, q9, q10, q11, q12, q13, q14⟩ : w2.cell? ⟨w.heap.size, 4, none⟩ = some (.int .u32 page) ∧ w2.cell? ⟨w.heap.size, 5, none⟩ = some (.int .i64 ok) ∧ w2.cell? ⟨w.heap.size, 6, none⟩ = some (.int .i64 oa) ∧ w2.cell? ⟨w.heap.size, 7, none⟩ = some (.string (bs os)) ∧ w2.cell? ⟨w.heap.size, 8, none⟩ = some (.string (bs oo)) ∧ w2.cell? ⟨w.heap.size, 9, none⟩ = some (.int .i64 undo) ∧ w2.cell? ⟨w.heap.size, 10, none⟩ = some (.int .i64 index) ∧ w2.cell? ⟨w.heap.size, 11, none⟩ = some (.string (bs key)) ∧ w2.cell? ⟨w.heap.size, 12, none⟩ = some (.int .u32 rpage) ∧ w2.cell? ⟨w.heap.size, 13, none⟩ = some (.int .i64 rslot) ∧ w2.cell? ⟨w.heap.size, 14, none⟩ = some (.bool live) := ⟨HN.out.cell 4, HN.out.cell 5, HN.out.cell 6, HN.out.cell 7, HN.out.cell 8, HN.out.cell 9, HN.out.cell 10, HN.out.cell 11, HN.out.cell 12, HN.out.cell 13, HN.out.cell 14⟩))
    all_goals
      go_ret
      refine ⟨ret_bool ?_, HK.out⟩
      try simp only [beq_iff_eq, decide_eq_true_eq, decide_eq_false_iff_not, beq_eq_false_iff_ne, ne_eq, Bool.not_eq_true', Bool.not_eq_false', ← List.length_eq_zero_iff] at *
      all_goals (rw [Bool.eq_iff_iff])
      all_goals (try simp only [hO, hu, if_true, if_false, beq_iff_eq, bne_iff_ne, ne_eq, decide_eq_true_eq, decide_eq_false_iff_not, Bool.false_eq_true, Bool.true_eq_false, false_iff, true_iff, iff_true, iff_false, ← List.length_eq_zero_iff, Bool.not_eq_true', Bool.not_eq_true, Bool.and_eq_true, true_and, and_true, false_and, and_false, not_true_eq_false, not_false_eq_true])
      all_goals (first | omega | (cases live <;> simp <;> omega) | (cases live <;> simp_all <;> omega) | simp_all)
  · have hO : ¬ opOk ok oa os oo := fun h => by have h2 := HB.out.2 h; cases h2
    clear HB
    obtain ⟨q4, q5, q6, q7, q8, q9, q10, q11, q12, q13, q14⟩ : w1.cell? ⟨w.heap.size, 4, none⟩ = some (.int .u32 page) ∧ w1.cell? ⟨w.heap.size, 5, none⟩ = some (.int .i64 ok) ∧ w1.cell? ⟨w.heap.size, 6, none⟩ = some (.int .i64 oa) ∧ w1.cell? ⟨w.heap.size, 7, none⟩ = some (.string (bs os)) ∧ w1.cell? ⟨w.heap.size, 8, none⟩ = some (.string (bs oo)) ∧ w1.cell? ⟨w.heap.size, 9, none⟩ = some (.int .i64 undo) ∧ w1.cell? ⟨w.heap.size, 10, none⟩ = some (.int .i64 index) ∧ w1.cell? ⟨w.heap.size, 11, none⟩ = some (.string (bs key)) ∧ w1.cell? ⟨w.heap.size, 12, none⟩ = some (.int .u32 rpage) ∧ w1.cell? ⟨w.heap.size, 13, none⟩ = some (.int .i64 rslot) ∧ w1.cell? ⟨w.heap.size, 14, none⟩ = some (.bool live) := ⟨HN.out.cell 4, HN.out.cell 5, HN.out.cell 6, HN.out.cell 7, HN.out.cell 8, HN.out.cell 9, HN.out.cell 10, HN.out.cell 11, HN.out.cell 12, HN.out.cell 13, HN.out.cell 14⟩
    go_wp2_with (first | (go_at_call 51; refine (rcheck03_any ok oa os oo _).mono ?_; rintro e w2 ⟨rfl, hb5⟩; rw [HBO.out]; have n_HN := Lib.hid (HN.out.step hb5); have n_HK := Lib.hid (bstep HK.out hb5); clear hb5 HN HK; have HN := n_HN; have HK := n_HK; clear n_HN n_HK; obtain ⟨q4, q5, q6, q7, q8, q9, q10, q11, q12, q13, q14⟩ : w2.cell? ⟨w.heap.size, 4, none⟩ = some (.int .u32 page) ∧ w2.cell? ⟨w.heap.size, 5, none⟩ = some (.int .i64 ok) ∧ w2.cell? ⟨w.heap.size, 6, none⟩ = some (.int .i64 oa) ∧ w2.cell? ⟨w.heap.size, 7, none⟩ = some (.string (bs os)) ∧ w2.cell? ⟨w.heap.size, 8, none⟩ = some (.string (bs oo)) ∧ w2.cell? ⟨w.heap.size, 9, none⟩ = some (.int .i64 undo) ∧ w2.cell? ⟨w.heap.size, 10, none⟩ = some (.int .i64 index) ∧ w2.cell? ⟨w.heap.size, 11, none⟩ = some (.string (bs key)) ∧ w2.cell? ⟨w.heap.size, 12, none⟩ = some (.int .u32 rpage) ∧ w2.cell? ⟨w.heap.size, 13, none⟩ = some (.int .i64 rslot) ∧ w2.cell? ⟨w.heap.size, 14, none⟩ = some (.bool live) := ⟨HN.out.cell 4, HN.out.cell 5, HN.out.cell 6, HN.out.cell 7, HN.out.cell 8, HN.out.cell 9, HN.out.cell 10, HN.out.cell 11, HN.out.cell 12, HN.out.cell 13, HN.out.cell 14⟩))
    all_goals
      go_ret
      refine ⟨ret_bool ?_, HK.out⟩
      try simp only [beq_iff_eq, decide_eq_true_eq, decide_eq_false_iff_not, beq_eq_false_iff_ne, ne_eq, Bool.not_eq_true', Bool.not_eq_false', ← List.length_eq_zero_iff] at *
      all_goals (rw [Bool.eq_iff_iff])
      all_goals (try simp only [hO, hu, if_true, if_false, beq_iff_eq, bne_iff_ne, ne_eq, decide_eq_true_eq, decide_eq_false_iff_not, Bool.false_eq_true, Bool.true_eq_false, false_iff, true_iff, iff_true, iff_false, ← List.length_eq_zero_iff, Bool.not_eq_true', Bool.not_eq_true, Bool.and_eq_true, true_and, and_true, false_and, and_false, not_true_eq_false, not_false_eq_true])
      all_goals (first | omega | (cases live <;> simp <;> omega) | (cases live <;> simp_all <;> omega) | simp_all)
end Go.Proofs.Ytebickoieipjpaa
end
section
namespace Go.Proofs.Ytebickoieipjpaa
open Go.RowKit Go.Gi
set_option linter.unusedSimpArgs false
set_option linter.unusedVariables false
def long0 (r : RecR) : Prop := r.txs.length = 0 ∧ r.dirty.length = 0
def mayP (r : RecR) : Prop := (0 ≤ r.tx ∧ r.tx < 2147483648) ∧ ((r.kind = 1 ∧ chgP r ∧ r.next = 0 ∧ long0 r) ∨ (r.kind = 2 ∧ chgP r ∧ r.undo = 0 ∧ long0 r) ∨ (r.kind = 3 ∧ bareP r ∧ long0 r) ∨ ((4 ≤ r.kind ∧ r.kind ≤ 7) ∧ bareP r ∧ r.next = 0 ∧ long0 r)
  ∨ (r.kind = 8 ∧ bareP r ∧ r.next = 0 ∧ r.txs.length ≤ 64 ∧ r.dirty.length ≤ 256 ∧ ∀ t ∈ r.txs, okSt t))
set_option maxHeartbeats 16000000 in
theorem mayP_iff (r : RecR) : mayP r ↔ recOk r := by
  have hnil : r.txs.length = 0 → ∀ t ∈ r.txs, okSt t := fun h t ht => by rw [List.length_eq_zero_iff.1 h] at ht; simp at ht
  have hn : ¬ (∀ t ∈ r.txs, okSt t) → ¬ r.txs.length = 0 := fun h h2 => h (hnil h2)
  clear hnil
  unfold mayP recOk okHead okUndo okOp okNext okLong okKey chgP bareP long0 isChange isNext
  obtain ⟨kind, tx, prev, next, page, ok, oa, os, oo, undo, index, key, rpage, rslot, live, txs, dirty⟩ := r
  simp only at hn ⊢
  generalize (∀ t ∈ txs, okSt t) = S at *
  unfold okKey
  simp only
  generalize opOk ok oa os oo = P
  rcases (show kind = 1 ∨ kind = 2 ∨ kind = 3 ∨ (4 ≤ kind ∧ kind ≤ 7) ∨ kind = 8 ∨ (kind < 1 ∨ 8 < kind) by omega) with rfl | rfl | rfl | ⟨h4, h7⟩ | rfl | h0
  · simp only [Int.reduceEq, true_or, or_true, or_self, if_true, false_and, or_false, true_and, false_or]
    by_cases hu : undo = 2
    · simp only [hu, if_true]; grind
    · simp only [hu, if_false]; grind
  · simp only [Int.reduceEq, true_or, or_true, or_self, if_true, false_and, or_false, true_and, false_or]
    by_cases hu : undo = 2
    · simp only [hu, if_true]; grind
    · simp only [hu, if_false]; grind
  · simp only [Int.reduceEq, true_or, or_true, or_self, if_true, if_false, false_and, or_false, true_and, false_or]
    by_cases hu : undo = 2
    · simp only [hu, if_true]; grind
    · simp only [hu, if_false]; grind
  · have e1 : ¬ kind = 1 := by omega
    have e2 : ¬ kind = 2 := by omega
    have e3 : ¬ kind = 3 := by omega
    have e8 : ¬ kind = 8 := by omega
    simp only [e1, e2, e3, e8, or_self, if_false, false_and, or_false, true_and, false_or]
    by_cases hu : undo = 2
    · simp only [hu, if_true]; grind
    · simp only [hu, if_false]; grind
  · simp only [Int.reduceEq, true_or, or_true, or_self, if_true, if_false, false_and, or_false, true_and, false_or]
    by_cases hu : undo = 2
    · simp only [hu, if_true]; grind
    · simp only [hu, if_false]; grind
  · have e1 : ¬ kind = 1 := by omega
    have e2 : ¬ kind = 2 := by omega
    have e3 : ¬ kind = 3 := by omega
    have e8 : ¬ kind = 8 := by omega
    have e4 : ¬ (4 ≤ kind ∧ kind ≤ 7) := by omega
    have e0 : ¬ (1 ≤ kind ∧ kind ≤ 8) := by omega
    simp only [e1, e2, e3, e8, e4, or_self, if_false, false_and, or_false, and_false, true_and, false_or, false_iff]
    grind
end Go.Proofs.Ytebickoieipjpaa
end
section
namespace Go.Proofs.Ytebickoieipjpaa
open Go.RowKit Go.Gi Go.GiRow
set_option maxRecDepth 20000
set_option linter.unusedSimpArgs false
set_option linter.unusedVariables false
set_option maxHeartbeats 8000000 in
theorem may04_g0 (r : RecR) (A : Option Addr) (c : Nat) (B : Option Addr) (d : Nat) (w : World) (hA : RdRows StR.cells 4 w A r.txs) (hl : r.txs.length * 32 ≤ 140737488351232) (hd : r.dirty.length * 16 ≤ 140737488351232) (bt bc bb : Bool) (hbt : decide (0 ≤ r.tx ∧ r.tx < 2147483648) = bt) (hbc : decide (chgP r) = bc) (hbb : decide (bareP r) = bb) (hcase : (bt = false) ∨ (bt = true ∧ r.kind = 1 ∧ 0 < r.txs.length + r.dirty.length) ∨ (bt = true ∧ r.kind = 1 ∧ r.txs.length + r.dirty.length = 0 ∧ ¬ r.next = 0) ∨ (bt = true ∧ r.kind = 1 ∧ r.txs.length + r.dirty.length = 0 ∧ r.next = 0) ∨ (bt = true ∧ r.kind = 2 ∧ 0 < r.txs.length + r.dirty.length) ∨ (bt = true ∧ r.kind = 2 ∧ r.txs.length + r.dirty.length = 0) ∨ (bt = true ∧ r.kind = 3 ∧ 0 < r.txs.length + r.dirty.length)) :
    Calls Try.prog 14 #[.agg (rfs r (.slice A r.txs.length c) (.slice B r.dirty.length d))] w fun e w' => (∃ b, e = .returned (.bool b) ∧ (b = true ↔ recOk r)) ∧ Below w.heap.size w w' := by
  have HA := Lib.hid hA
  clear hA
  have ht : bt = true ↔ (0 ≤ r.tx ∧ r.tx < 2147483648) := by rw [← hbt]; simp
  have hc : bc = true ↔ chgP r := by rw [← hbc]; simp
  have hb : bb = true ↔ bareP r := by rw [← hbb]; simp
  have HBT := Lib.hid hbt
  have HBC := Lib.hid hbc
  have HBB := Lib.hid hbb
  clear hbt hbc hbb
  have HN := Lib.hid (Blk.new w 47 (rfs r (.slice A r.txs.length c) (.slice B r.dirty.length d)))
  have HK := Lib.hid (balloc (Below.refl w.heap.size w) (.cells (rfs r (.slice A r.txs.length c) (.slice B r.dirty.length d)) 47))
  go_enter Try.func14, Try.ntmps14
  go_upto_region 1 with fail
  generalize w.alloc (.cells (rfs r (.slice A r.txs.length c) (.slice B r.dirty.length d)) 47) = w1 at *
  obtain ⟨q0, q1, q3, q9, q15, q16⟩ : w1.cell? ⟨w.heap.size, 0, none⟩ = some (.int .i64 r.kind) ∧ w1.cell? ⟨w.heap.size, 1, none⟩ = some (.int .i64 r.tx) ∧ w1.cell? ⟨w.heap.size, 3, none⟩ = some (.int .u64 r.next) ∧ w1.cell? ⟨w.heap.size, 9, none⟩ = some (.int .i64 r.undo) ∧ w1.cell? ⟨w.heap.size, 15, none⟩ = some ((.slice A r.txs.length c)) ∧ w1.cell? ⟨w.heap.size, 16, none⟩ = some ((.slice B r.dirty.length d)) := ⟨HN.out.cell 0, HN.out.cell 1, HN.out.cell 3, HN.out.cell 9, HN.out.cell 15, HN.out.cell 16⟩
  rcases hcase with h0 | h0 | h0 | h0 | h0 | h0 | h0
  · have HF := Lib.hid (show false = true ↔ recOk r from by rw [← mayP_iff]; unfold mayP long0; grind)
    subst h0
    clear ht hc hb
    go_wp2_with (first | (go_at_call 34; refine (rtx04_any r.tx _).mono ?_; rintro e w_ ⟨rfl, rfl⟩; rw [HBT.out]) | (go_at_call 35; refine (change04_any r (.slice A r.txs.length c) (.slice B r.dirty.length d) _).mono ?_; rintro e w2 ⟨rfl, hb5⟩; rw [HBC.out]; have n_HN := Lib.hid (HN.out.step hb5); have n_HK := Lib.hid (bstep HK.out hb5); clear hb5 HN HK; have HN := n_HN; have HK := n_HK; clear n_HN n_HK; obtain ⟨q0, q1, q3, q9, q15, q16⟩ : w2.cell? ⟨w.heap.size, 0, none⟩ = some (.int .i64 r.kind) ∧ w2.cell? ⟨w.heap.size, 1, none⟩ = some (.int .i64 r.tx) ∧ w2.cell? ⟨w.heap.size, 3, none⟩ = some (.int .u64 r.next) ∧ w2.cell? ⟨w.heap.size, 9, none⟩ = some (.int .i64 r.undo) ∧ w2.cell? ⟨w.heap.size, 15, none⟩ = some ((.slice A r.txs.length c)) ∧ w2.cell? ⟨w.heap.size, 16, none⟩ = some ((.slice B r.dirty.length d)) := ⟨HN.out.cell 0, HN.out.cell 1, HN.out.cell 3, HN.out.cell 9, HN.out.cell 15, HN.out.cell 16⟩) | (go_at_call 36; refine (bare04_any r (.slice A r.txs.length c) (.slice B r.dirty.length d) _).mono ?_; rintro e w2 ⟨rfl, hb5⟩; rw [HBB.out]; have n_HN := Lib.hid (HN.out.step hb5); have n_HK := Lib.hid (bstep HK.out hb5); clear hb5 HN HK; have HN := n_HN; have HK := n_HK; clear n_HN n_HK; obtain ⟨q0, q1, q3, q9, q15, q16⟩ : w2.cell? ⟨w.heap.size, 0, none⟩ = some (.int .i64 r.kind) ∧ w2.cell? ⟨w.heap.size, 1, none⟩ = some (.int .i64 r.tx) ∧ w2.cell? ⟨w.heap.size, 3, none⟩ = some (.int .u64 r.next) ∧ w2.cell? ⟨w.heap.size, 9, none⟩ = some (.int .i64 r.undo) ∧ w2.cell? ⟨w.heap.size, 15, none⟩ = some ((.slice A r.txs.length c)) ∧ w2.cell? ⟨w.heap.size, 16, none⟩ = some ((.slice B r.dirty.length d)) := ⟨HN.out.cell 0, HN.out.cell 1, HN.out.cell 3, HN.out.cell 9, HN.out.cell 15, HN.out.cell 16⟩) | (with_reducible refine isLoadN 47 (.tmp 1) ?_; with_unfolding_all refine wpList_load_row rfl 47 (.tmp 1) rfl w.heap.size (by kernel_rfl) 47 (rfs r (.slice A r.txs.length c) (.slice B r.dirty.length d)) (0, 0) _ HN.out Try.underlying47 rfl (by kernel_rfl) ?_))
    go_ret
    exact ⟨⟨_, rfl, HF.out⟩, HK.out⟩
  · obtain ⟨rfl, hk, hx0⟩ := h0
    have HF := Lib.hid (show false = true ↔ recOk r from by rw [← mayP_iff]; unfold mayP long0; grind)
    have k1_ : (r.kind == 1) = true := by simp; omega
    have k2_ : (r.kind == 2) = false := by simp; omega
    have k3_ : (r.kind == 3) = false := by simp; omega
    have k4_ : (r.kind == 4) = false := by simp; omega
    have k5_ : (r.kind == 5) = false := by simp; omega
    have k6_ : (r.kind == 6) = false := by simp; omega
    have k7_ : (r.kind == 7) = false := by simp; omega
    have k8_ : (r.kind == 8) = false := by simp; omega
    have m2_ : (r.kind != 2) = true := by simp; omega
    have m3_ : (r.kind != 3) = true := by simp; omega
    have m8_ : (r.kind != 8) = true := by simp; omega
    have l1_ : decide ((r.txs.length : Int) + (r.dirty.length : Int) > 0) = true := decide_eq_true (by omega)
    have l2_ : decide (0 < (r.txs.length : Int) + (r.dirty.length : Int)) = true := decide_eq_true (by omega)
    have l3_ : decide (0 < r.txs.length + r.dirty.length) = true := decide_eq_true (by omega)
    clear ht hc hb
    go_wp2_with (first | (go_at_call 34; refine (rtx04_any r.tx _).mono ?_; rintro e w_ ⟨rfl, rfl⟩; rw [HBT.out]) | (go_at_call 35; refine (change04_any r (.slice A r.txs.length c) (.slice B r.dirty.length d) _).mono ?_; rintro e w2 ⟨rfl, hb5⟩; rw [HBC.out]; have n_HN := Lib.hid (HN.out.step hb5); have n_HK := Lib.hid (bstep HK.out hb5); clear hb5 HN HK; have HN := n_HN; have HK := n_HK; clear n_HN n_HK; obtain ⟨q0, q1, q3, q9, q15, q16⟩ : w2.cell? ⟨w.heap.size, 0, none⟩ = some (.int .i64 r.kind) ∧ w2.cell? ⟨w.heap.size, 1, none⟩ = some (.int .i64 r.tx) ∧ w2.cell? ⟨w.heap.size, 3, none⟩ = some (.int .u64 r.next) ∧ w2.cell? ⟨w.heap.size, 9, none⟩ = some (.int .i64 r.undo) ∧ w2.cell? ⟨w.heap.size, 15, none⟩ = some ((.slice A r.txs.length c)) ∧ w2.cell? ⟨w.heap.size, 16, none⟩ = some ((.slice B r.dirty.length d)) := ⟨HN.out.cell 0, HN.out.cell 1, HN.out.cell 3, HN.out.cell 9, HN.out.cell 15, HN.out.cell 16⟩) | (go_at_call 36; refine (bare04_any r (.slice A r.txs.length c) (.slice B r.dirty.length d) _).mono ?_; rintro e w2 ⟨rfl, hb5⟩; rw [HBB.out]; have n_HN := Lib.hid (HN.out.step hb5); have n_HK := Lib.hid (bstep HK.out hb5); clear hb5 HN HK; have HN := n_HN; have HK := n_HK; clear n_HN n_HK; obtain ⟨q0, q1, q3, q9, q15, q16⟩ : w2.cell? ⟨w.heap.size, 0, none⟩ = some (.int .i64 r.kind) ∧ w2.cell? ⟨w.heap.size, 1, none⟩ = some (.int .i64 r.tx) ∧ w2.cell? ⟨w.heap.size, 3, none⟩ = some (.int .u64 r.next) ∧ w2.cell? ⟨w.heap.size, 9, none⟩ = some (.int .i64 r.undo) ∧ w2.cell? ⟨w.heap.size, 15, none⟩ = some ((.slice A r.txs.length c)) ∧ w2.cell? ⟨w.heap.size, 16, none⟩ = some ((.slice B r.dirty.length d)) := ⟨HN.out.cell 0, HN.out.cell 1, HN.out.cell 3, HN.out.cell 9, HN.out.cell 15, HN.out.cell 16⟩) | (with_reducible refine isLoadN 47 (.tmp 1) ?_; with_unfolding_all refine wpList_load_row rfl 47 (.tmp 1) rfl w.heap.size (by kernel_rfl) 47 (rfs r (.slice A r.txs.length c) (.slice B r.dirty.length d)) (0, 0) _ HN.out Try.underlying47 rfl (by kernel_rfl) ?_))
    all_goals (go_ret; exact ⟨⟨_, rfl, HF.out⟩, HK.out⟩)
  · obtain ⟨rfl, hk, hx0, hx⟩ := h0
    have HF := Lib.hid (show false = true ↔ recOk r from by rw [← mayP_iff]; unfold mayP long0; grind)
    have k1_ : (r.kind == 1) = true := by simp; omega
    have k2_ : (r.kind == 2) = false := by simp; omega
    have k3_ : (r.kind == 3) = false := by simp; omega
    have k4_ : (r.kind == 4) = false := by simp; omega
    have k5_ : (r.kind == 5) = false := by simp; omega
    have k6_ : (r.kind == 6) = false := by simp; omega
    have k7_ : (r.kind == 7) = false := by simp; omega
    have k8_ : (r.kind == 8) = false := by simp; omega
    have m2_ : (r.kind != 2) = true := by simp; omega
    have m3_ : (r.kind != 3) = true := by simp; omega
    have m8_ : (r.kind != 8) = true := by simp; omega
    have l1_ : decide ((r.txs.length : Int) + (r.dirty.length : Int) > 0) = false := decide_eq_false (by omega)
    have l2_ : decide (0 < (r.txs.length : Int) + (r.dirty.length : Int)) = false := decide_eq_false (by omega)
    have l3_ : decide (0 < r.txs.length + r.dirty.length) = false := decide_eq_false (by omega)
    have n1_ : (r.next != 0) = true := by simp [hx]
    have n2_ : (r.next == 0) = false := by simp [hx]
    clear ht hc hb
    go_wp2_with (first | (go_at_call 34; refine (rtx04_any r.tx _).mono ?_; rintro e w_ ⟨rfl, rfl⟩; rw [HBT.out]) | (go_at_call 35; refine (change04_any r (.slice A r.txs.length c) (.slice B r.dirty.length d) _).mono ?_; rintro e w2 ⟨rfl, hb5⟩; rw [HBC.out]; have n_HN := Lib.hid (HN.out.step hb5); have n_HK := Lib.hid (bstep HK.out hb5); clear hb5 HN HK; have HN := n_HN; have HK := n_HK; clear n_HN n_HK; obtain ⟨q0, q1, q3, q9, q15, q16⟩ : w2.cell? ⟨w.heap.size, 0, none⟩ = some (.int .i64 r.kind) ∧ w2.cell? ⟨w.heap.size, 1, none⟩ = some (.int .i64 r.tx) ∧ w2.cell? ⟨w.heap.size, 3, none⟩ = some (.int .u64 r.next) ∧ w2.cell? ⟨w.heap.size, 9, none⟩ = some (.int .i64 r.undo) ∧ w2.cell? ⟨w.heap.size, 15, none⟩ = some ((.slice A r.txs.length c)) ∧ w2.cell? ⟨w.heap.size, 16, none⟩ = some ((.slice B r.dirty.length d)) := ⟨HN.out.cell 0, HN.out.cell 1, HN.out.cell 3, HN.out.cell 9, HN.out.cell 15, HN.out.cell 16⟩) | (go_at_call 36; refine (bare04_any r (.slice A r.txs.length c) (.slice B r.dirty.length d) _).mono ?_; rintro e w2 ⟨rfl, hb5⟩; rw [HBB.out]; have n_HN := Lib.hid (HN.out.step hb5); have n_HK := Lib.hid (bstep HK.out hb5); clear hb5 HN HK; have HN := n_HN; have HK := n_HK; clear n_HN n_HK; obtain ⟨q0, q1, q3, q9, q15, q16⟩ : w2.cell? ⟨w.heap.size, 0, none⟩ = some (.int .i64 r.kind) ∧ w2.cell? ⟨w.heap.size, 1, none⟩ = some (.int .i64 r.tx) ∧ w2.cell? ⟨w.heap.size, 3, none⟩ = some (.int .u64 r.next) ∧ w2.cell? ⟨w.heap.size, 9, none⟩ = some (.int .i64 r.undo) ∧ w2.cell? ⟨w.heap.size, 15, none⟩ = some ((.slice A r.txs.length c)) ∧ w2.cell? ⟨w.heap.size, 16, none⟩ = some ((.slice B r.dirty.length d)) := ⟨HN.out.cell 0, HN.out.cell 1, HN.out.cell 3, HN.out.cell 9, HN.out.cell 15, HN.out.cell 16⟩) | (with_reducible refine isLoadN 47 (.tmp 1) ?_; with_unfolding_all refine wpList_load_row rfl 47 (.tmp 1) rfl w.heap.size (by kernel_rfl) 47 (rfs r (.slice A r.txs.length c) (.slice B r.dirty.length d)) (0, 0) _ HN.out Try.underlying47 rfl (by kernel_rfl) ?_))
    all_goals (go_ret; exact ⟨⟨_, rfl, HF.out⟩, HK.out⟩)
  · obtain ⟨rfl, hk, hx0, hx⟩ := h0
    have HF := Lib.hid (show bc = true ↔ recOk r from by rw [← mayP_iff]; unfold mayP long0; grind)
    have k1_ : (r.kind == 1) = true := by simp; omega
    have k2_ : (r.kind == 2) = false := by simp; omega
    have k3_ : (r.kind == 3) = false := by simp; omega
    have k4_ : (r.kind == 4) = false := by simp; omega
    have k5_ : (r.kind == 5) = false := by simp; omega
    have k6_ : (r.kind == 6) = false := by simp; omega
    have k7_ : (r.kind == 7) = false := by simp; omega
    have k8_ : (r.kind == 8) = false := by simp; omega
    have m2_ : (r.kind != 2) = true := by simp; omega
    have m3_ : (r.kind != 3) = true := by simp; omega
    have m8_ : (r.kind != 8) = true := by simp; omega
    have l1_ : decide ((r.txs.length : Int) + (r.dirty.length : Int) > 0) = false := decide_eq_false (by omega)
    have l2_ : decide (0 < (r.txs.length : Int) + (r.dirty.length : Int)) = false := decide_eq_false (by omega)
    have l3_ : decide (0 < r.txs.length + r.dirty.length) = false := decide_eq_false (by omega)
    have n1_ : (r.next != 0) = false := by simp [hx]
    have n2_ : (r.next == 0) = true := by simp [hx]
    clear ht hc hb
    go_wp2_with (first | (go_at_call 34; refine (rtx04_any r.tx _).mono ?_; rintro e w_ ⟨rfl, rfl⟩; rw [HBT.out]) | (go_at_call 35; refine (change04_any r (.slice A r.txs.length c) (.slice B r.dirty.length d) _).mono ?_; rintro e w2 ⟨rfl, hb5⟩; rw [HBC.out]; have n_HN := Lib.hid (HN.out.step hb5); have n_HK := Lib.hid (bstep HK.out hb5); clear hb5 HN HK; have HN := n_HN; have HK := n_HK; clear n_HN n_HK; obtain ⟨q0, q1, q3, q9, q15, q16⟩ : w2.cell? ⟨w.heap.size, 0, none⟩ = some (.int .i64 r.kind) ∧ w2.cell? ⟨w.heap.size, 1, none⟩ = some (.int .i64 r.tx) ∧ w2.cell? ⟨w.heap.size, 3, none⟩ = some (.int .u64 r.next) ∧ w2.cell? ⟨w.heap.size, 9, none⟩ = some (.int .i64 r.undo) ∧ w2.cell? ⟨w.heap.size, 15, none⟩ = some ((.slice A r.txs.length c)) ∧ w2.cell? ⟨w.heap.size, 16, none⟩ = some ((.slice B r.dirty.length d)) := ⟨HN.out.cell 0, HN.out.cell 1, HN.out.cell 3, HN.out.cell 9, HN.out.cell 15, HN.out.cell 16⟩) | (go_at_call 36; refine (bare04_any r (.slice A r.txs.length c) (.slice B r.dirty.length d) _).mono ?_; rintro e w2 ⟨rfl, hb5⟩; rw [HBB.out]; have n_HN := Lib.hid (HN.out.step hb5); have n_HK := Lib.hid (bstep HK.out hb5); clear hb5 HN HK; have HN := n_HN; have HK := n_HK; clear n_HN n_HK; obtain ⟨q0, q1, q3, q9, q15, q16⟩ : w2.cell? ⟨w.heap.size, 0, none⟩ = some (.int .i64 r.kind) ∧ w2.cell? ⟨w.heap.size, 1, none⟩ = some (.int .i64 r.tx) ∧ w2.cell? ⟨w.heap.size, 3, none⟩ = some (.int .u64 r.next) ∧ w2.cell? ⟨w.heap.size, 9, none⟩ = some (.int .i64 r.undo) ∧ w2.cell? ⟨w.heap.size, 15, none⟩ = some ((.slice A r.txs.length c)) ∧ w2.cell? ⟨w.heap.size, 16, none⟩ = some ((.slice B r.dirty.length d)) := ⟨HN.out.cell 0, HN.out.cell 1, HN.out.cell 3, HN.out.cell 9, HN.out.cell 15, HN.out.cell 16⟩) | (with_reducible refine isLoadN 47 (.tmp 1) ?_; with_unfolding_all refine wpList_load_row rfl 47 (.tmp 1) rfl w.heap.size (by kernel_rfl) 47 (rfs r (.slice A r.txs.length c) (.slice B r.dirty.length d)) (0, 0) _ HN.out Try.underlying47 rfl (by kernel_rfl) ?_))
    all_goals (go_ret; exact ⟨⟨_, rfl, HF.out⟩, HK.out⟩)
  · obtain ⟨rfl, hk, hx0⟩ := h0
    have HF := Lib.hid (show false = true ↔ recOk r from by rw [← mayP_iff]; unfold mayP long0; grind)
    have k1_ : (r.kind == 1) = false := by simp; omega
    have k2_ : (r.kind == 2) = true := by simp; omega
    have k3_ : (r.kind == 3) = false := by simp; omega
    have k4_ : (r.kind == 4) = false := by simp; omega
    have k5_ : (r.kind == 5) = false := by simp; omega
    have k6_ : (r.kind == 6) = false := by simp; omega
    have k7_ : (r.kind == 7) = false := by simp; omega
    have k8_ : (r.kind == 8) = false := by simp; omega
    have m2_ : (r.kind != 2) = false := by simp; omega
    have m3_ : (r.kind != 3) = true := by simp; omega
    have m8_ : (r.kind != 8) = true := by simp; omega
    have l1_ : decide ((r.txs.length : Int) + (r.dirty.length : Int) > 0) = true := decide_eq_true (by omega)
    have l2_ : decide (0 < (r.txs.length : Int) + (r.dirty.length : Int)) = true := decide_eq_true (by omega)
    have l3_ : decide (0 < r.txs.length + r.dirty.length) = true := decide_eq_true (by omega)
    clear ht hc hb
    go_wp2_with (first | (go_at_call 34; refine (rtx04_any r.tx _).mono ?_; rintro e w_ ⟨rfl, rfl⟩; rw [HBT.out]) | (go_at_call 35; refine (change04_any r (.slice A r.txs.length c) (.slice B r.dirty.length d) _).mono ?_; rintro e w2 ⟨rfl, hb5⟩; rw [HBC.out]; have n_HN := Lib.hid (HN.out.step hb5); have n_HK := Lib.hid (bstep HK.out hb5); clear hb5 HN HK; have HN := n_HN; have HK := n_HK; clear n_HN n_HK; obtain ⟨q0, q1, q3, q9, q15, q16⟩ : w2.cell? ⟨w.heap.size, 0, none⟩ = some (.int .i64 r.kind) ∧ w2.cell? ⟨w.heap.size, 1, none⟩ = some (.int .i64 r.tx) ∧ w2.cell? ⟨w.heap.size, 3, none⟩ = some (.int .u64 r.next) ∧ w2.cell? ⟨w.heap.size, 9, none⟩ = some (.int .i64 r.undo) ∧ w2.cell? ⟨w.heap.size, 15, none⟩ = some ((.slice A r.txs.length c)) ∧ w2.cell? ⟨w.heap.size, 16, none⟩ = some ((.slice B r.dirty.length d)) := ⟨HN.out.cell 0, HN.out.cell 1, HN.out.cell 3, HN.out.cell 9, HN.out.cell 15, HN.out.cell 16⟩) | (go_at_call 36; refine (bare04_any r (.slice A r.txs.length c) (.slice B r.dirty.length d) _).mono ?_; rintro e w2 ⟨rfl, hb5⟩; rw [HBB.out]; have n_HN := Lib.hid (HN.out.step hb5); have n_HK := Lib.hid (bstep HK.out hb5); clear hb5 HN HK; have HN := n_HN; have HK := n_HK; clear n_HN n_HK; obtain ⟨q0, q1, q3, q9, q15, q16⟩ : w2.cell? ⟨w.heap.size, 0, none⟩ = some (.int .i64 r.kind) ∧ w2.cell? ⟨w.heap.size, 1, none⟩ = some (.int .i64 r.tx) ∧ w2.cell? ⟨w.heap.size, 3, none⟩ = some (.int .u64 r.next) ∧ w2.cell? ⟨w.heap.size, 9, none⟩ = some (.int .i64 r.undo) ∧ w2.cell? ⟨w.heap.size, 15, none⟩ = some ((.slice A r.txs.length c)) ∧ w2.cell? ⟨w.heap.size, 16, none⟩ = some ((.slice B r.dirty.length d)) := ⟨HN.out.cell 0, HN.out.cell 1, HN.out.cell 3, HN.out.cell 9, HN.out.cell 15, HN.out.cell 16⟩) | (with_reducible refine isLoadN 47 (.tmp 1) ?_; with_unfolding_all refine wpList_load_row rfl 47 (.tmp 1) rfl w.heap.size (by kernel_rfl) 47 (rfs r (.slice A r.txs.length c) (.slice B r.dirty.length d)) (0, 0) _ HN.out Try.underlying47 rfl (by kernel_rfl) ?_))
    all_goals (go_ret; exact ⟨⟨_, rfl, HF.out⟩, HK.out⟩)
  · obtain ⟨rfl, hk, hx0⟩ := h0
    have HF := Lib.hid (show (bc && (r.undo == 0)) = true ↔ recOk r from by rw [← mayP_iff]; unfold mayP long0; grind)
    have k1_ : (r.kind == 1) = false := by simp; omega
    have k2_ : (r.kind == 2) = true := by simp; omega
    have k3_ : (r.kind == 3) = false := by simp; omega
    have k4_ : (r.kind == 4) = false := by simp; omega
    have k5_ : (r.kind == 5) = false := by simp; omega
    have k6_ : (r.kind == 6) = false := by simp; omega
    have k7_ : (r.kind == 7) = false := by simp; omega
    have k8_ : (r.kind == 8) = false := by simp; omega
    have m2_ : (r.kind != 2) = false := by simp; omega
    have m3_ : (r.kind != 3) = true := by simp; omega
    have m8_ : (r.kind != 8) = true := by simp; omega
    have l1_ : decide ((r.txs.length : Int) + (r.dirty.length : Int) > 0) = false := decide_eq_false (by omega)
    have l2_ : decide (0 < (r.txs.length : Int) + (r.dirty.length : Int)) = false := decide_eq_false (by omega)
    have l3_ : decide (0 < r.txs.length + r.dirty.length) = false := decide_eq_false (by omega)
    clear ht hc hb
    go_wp2_with (first | (go_at_call 34; refine (rtx04_any r.tx _).mono ?_; rintro e w_ ⟨rfl, rfl⟩; rw [HBT.out]) | (go_at_call 35; refine (change04_any r (.slice A r.txs.length c) (.slice B r.dirty.length d) _).mono ?_; rintro e w2 ⟨rfl, hb5⟩; rw [HBC.out]; have n_HN := Lib.hid (HN.out.step hb5); have n_HK := Lib.hid (bstep HK.out hb5); clear hb5 HN HK; have HN := n_HN; have HK := n_HK; clear n_HN n_HK; obtain ⟨q0, q1, q3, q9, q15, q16⟩ : w2.cell? ⟨w.heap.size, 0, none⟩ = some (.int .i64 r.kind) ∧ w2.cell? ⟨w.heap.size, 1, none⟩ = some (.int .i64 r.tx) ∧ w2.cell? ⟨w.heap.size, 3, none⟩ = some (.int .u64 r.next) ∧ w2.cell? ⟨w.heap.size, 9, none⟩ = some (.int .i64 r.undo) ∧ w2.cell? ⟨w.heap.size, 15, none⟩ = some ((.slice A r.txs.length c)) ∧ w2.cell? ⟨w.heap.size, 16, none⟩ = some ((.slice B r.dirty.length d)) := ⟨HN.out.cell 0, HN.out.cell 1, HN.out.cell 3, HN.out.cell 9, HN.out.cell 15, HN.out.cell 16⟩) | (go_at_call 36; refine (bare04_any r (.slice A r.txs.length c) (.slice B r.dirty.length d) _).mono ?_; rintro e w2 ⟨rfl, hb5⟩; rw [HBB.out]; have n_HN := Lib.hid (HN.out.step hb5); have n_HK := Lib.hid (bstep HK.out hb5); clear hb5 HN HK; have HN := n_HN; have HK := n_HK; clear n_HN n_HK; obtain ⟨q0, q1, q3, q9, q15, q16⟩ : w2.cell? ⟨w.heap.size, 0, none⟩ = some (.int .i64 r.kind) ∧ w2.cell? ⟨w.heap.size, 1, none⟩ = some (.int .i64 r.tx) ∧ w2.cell? ⟨w.heap.size, 3, none⟩ = some (.int .u64 r.next) ∧ w2.cell? ⟨w.heap.size, 9, none⟩ = some (.int .i64 r.undo) ∧ w2.cell? ⟨w.heap.size, 15, none⟩ = some ((.slice A r.txs.length c)) ∧ w2.cell? ⟨w.heap.size, 16, none⟩ = some ((.slice B r.dirty.length d)) := ⟨HN.out.cell 0, HN.out.cell 1, HN.out.cell 3, HN.out.cell 9, HN.out.cell 15, HN.out.cell 16⟩) | (with_reducible refine isLoadN 47 (.tmp 1) ?_; with_unfolding_all refine wpList_load_row rfl 47 (.tmp 1) rfl w.heap.size (by kernel_rfl) 47 (rfs r (.slice A r.txs.length c) (.slice B r.dirty.length d)) (0, 0) _ HN.out Try.underlying47 rfl (by kernel_rfl) ?_))
    all_goals (go_ret; first | exact ⟨⟨_, rfl, HF.out⟩, HK.out⟩ | exact ⟨⟨_, rfl, by have h_ := HF.out; simpa using h_⟩, HK.out⟩ | (refine ⟨⟨_, rfl, ?_⟩, HK.out⟩; have h_ := HF.out; simp_all))
  · obtain ⟨rfl, hk, hx0⟩ := h0
    have HF := Lib.hid (show false = true ↔ recOk r from by rw [← mayP_iff]; unfold mayP long0; grind)
    have k1_ : (r.kind == 1) = false := by simp; omega
    have k2_ : (r.kind == 2) = false := by simp; omega
    have k3_ : (r.kind == 3) = true := by simp; omega
    have k4_ : (r.kind == 4) = false := by simp; omega
    have k5_ : (r.kind == 5) = false := by simp; omega
    have k6_ : (r.kind == 6) = false := by simp; omega
    have k7_ : (r.kind == 7) = false := by simp; omega
    have k8_ : (r.kind == 8) = false := by simp; omega
    have m2_ : (r.kind != 2) = true := by simp; omega
    have m3_ : (r.kind != 3) = false := by simp; omega
    have m8_ : (r.kind != 8) = true := by simp; omega
    have l1_ : decide ((r.txs.length : Int) + (r.dirty.length : Int) > 0) = true := decide_eq_true (by omega)
    have l2_ : decide (0 < (r.txs.length : Int) + (r.dirty.length : Int)) = true := decide_eq_true (by omega)
    have l3_ : decide (0 < r.txs.length + r.dirty.length) = true := decide_eq_true (by omega)
    clear ht hc hb
    go_wp2_with (first | (go_at_call 34; refine (rtx04_any r.tx _).mono ?_; rintro e w_ ⟨rfl, rfl⟩; rw [HBT.out]) | (go_at_call 35; refine (change04_any r (.slice A r.txs.length c) (.slice B r.dirty.length d) _).mono ?_; rintro e w2 ⟨rfl, hb5⟩; rw [HBC.out]; have n_HN := Lib.hid (HN.out.step hb5); have n_HK := Lib.hid (bstep HK.out hb5); clear hb5 HN HK; have HN := n_HN; have HK := n_HK; clear n_HN n_HK; obtain ⟨q0, q1, q3, q9, q15, q16⟩ : w2.cell? ⟨w.heap.size, 0, none⟩ = some (.int .i64 r.kind) ∧ w2.cell? ⟨w.heap.size, 1, none⟩ = some (.int .i64 r.tx) ∧ w2.cell? ⟨w.heap.size, 3, none⟩ = some (.int .u64 r.next) ∧ w2.cell? ⟨w.heap.size, 9, none⟩ = some (.int .i64 r.undo) ∧ w2.cell? ⟨w.heap.size, 15, none⟩ = some ((.slice A r.txs.length c)) ∧ w2.cell? ⟨w.heap.size, 16, none⟩ = some ((.slice B r.dirty.length d)) := ⟨HN.out.cell 0, HN.out.cell 1, HN.out.cell 3, HN.out.cell 9, HN.out.cell 15, HN.out.cell 16⟩) | (go_at_call 36; refine (bare04_any r (.slice A r.txs.length c) (.slice B r.dirty.length d) _).mono ?_; rintro e w2 ⟨rfl, hb5⟩; rw [HBB.out]; have n_HN := Lib.hid (HN.out.step hb5); have n_HK := Lib.hid (bstep HK.out hb5); clear hb5 HN HK; have HN := n_HN; have HK := n_HK; clear n_HN n_HK; obtain ⟨q0, q1, q3, q9, q15, q16⟩ : w2.cell? ⟨w.heap.size, 0, none⟩ = some (.int .i64 r.kind) ∧ w2.cell? ⟨w.heap.size, 1, none⟩ = some (.int .i64 r.tx) ∧ w2.cell? ⟨w.heap.size, 3, none⟩ = some (.int .u64 r.next) ∧ w2.cell? ⟨w.heap.size, 9, none⟩ = some (.int .i64 r.undo) ∧ w2.cell? ⟨w.heap.size, 15, none⟩ = some ((.slice A r.txs.length c)) ∧ w2.cell? ⟨w.heap.size, 16, none⟩ = some ((.slice B r.dirty.length d)) := ⟨HN.out.cell 0, HN.out.cell 1, HN.out.cell 3, HN.out.cell 9, HN.out.cell 15, HN.out.cell 16⟩) | (with_reducible refine isLoadN 47 (.tmp 1) ?_; with_unfolding_all refine wpList_load_row rfl 47 (.tmp 1) rfl w.heap.size (by kernel_rfl) 47 (rfs r (.slice A r.txs.length c) (.slice B r.dirty.length d)) (0, 0) _ HN.out Try.underlying47 rfl (by kernel_rfl) ?_))
    all_goals (go_ret; exact ⟨⟨_, rfl, HF.out⟩, HK.out⟩)
end Go.Proofs.Ytebickoieipjpaa
end
section
namespace Go.Proofs.Ytebickoieipjpaa
open Go.RowKit Go.Gi Go.GiRow
set_option maxRecDepth 20000
set_option linter.unusedSimpArgs false
set_option linter.unusedVariables false
set_option maxHeartbeats 8000000 in
theorem may04_g1 (r : RecR) (A : Option Addr) (c : Nat) (B : Option Addr) (d : Nat) (w : World) (hA : RdRows StR.cells 4 w A r.txs) (hl : r.txs.length * 32 ≤ 140737488351232) (hd : r.dirty.length * 16 ≤ 140737488351232) (bt bc bb : Bool) (hbt : decide (0 ≤ r.tx ∧ r.tx < 2147483648) = bt) (hbc : decide (chgP r) = bc) (hbb : decide (bareP r) = bb) (hcase : (bt = true ∧ r.kind = 3 ∧ r.txs.length + r.dirty.length = 0) ∨ (bt = true ∧ r.kind = 4 ∧ 0 < r.txs.length + r.dirty.length) ∨ (bt = true ∧ r.kind = 4 ∧ r.txs.length + r.dirty.length = 0 ∧ ¬ r.next = 0) ∨ (bt = true ∧ r.kind = 4 ∧ r.txs.length + r.dirty.length = 0 ∧ r.next = 0) ∨ (bt = true ∧ r.kind = 5 ∧ 0 < r.txs.length + r.dirty.length) ∨ (bt = true ∧ r.kind = 5 ∧ r.txs.length + r.dirty.length = 0 ∧ ¬ r.next = 0) ∨ (bt = true ∧ r.kind = 5 ∧ r.txs.length + r.dirty.length = 0 ∧ r.next = 0)) :
    Calls Try.prog 14 #[.agg (rfs r (.slice A r.txs.length c) (.slice B r.dirty.length d))] w fun e w' => (∃ b, e = .returned (.bool b) ∧ (b = true ↔ recOk r)) ∧ Below w.heap.size w w' := by
  have HA := Lib.hid hA
  clear hA
  have ht : bt = true ↔ (0 ≤ r.tx ∧ r.tx < 2147483648) := by rw [← hbt]; simp
  have hc : bc = true ↔ chgP r := by rw [← hbc]; simp
  have hb : bb = true ↔ bareP r := by rw [← hbb]; simp
  have HBT := Lib.hid hbt
  have HBC := Lib.hid hbc
  have HBB := Lib.hid hbb
  clear hbt hbc hbb
  have HN := Lib.hid (Blk.new w 47 (rfs r (.slice A r.txs.length c) (.slice B r.dirty.length d)))
  have HK := Lib.hid (balloc (Below.refl w.heap.size w) (.cells (rfs r (.slice A r.txs.length c) (.slice B r.dirty.length d)) 47))
  go_enter Try.func14, Try.ntmps14
  go_upto_region 1 with fail
  generalize w.alloc (.cells (rfs r (.slice A r.txs.length c) (.slice B r.dirty.length d)) 47) = w1 at *
  obtain ⟨q0, q1, q3, q9, q15, q16⟩ : w1.cell? ⟨w.heap.size, 0, none⟩ = some (.int .i64 r.kind) ∧ w1.cell? ⟨w.heap.size, 1, none⟩ = some (.int .i64 r.tx) ∧ w1.cell? ⟨w.heap.size, 3, none⟩ = some (.int .u64 r.next) ∧ w1.cell? ⟨w.heap.size, 9, none⟩ = some (.int .i64 r.undo) ∧ w1.cell? ⟨w.heap.size, 15, none⟩ = some ((.slice A r.txs.length c)) ∧ w1.cell? ⟨w.heap.size, 16, none⟩ = some ((.slice B r.dirty.length d)) := ⟨HN.out.cell 0, HN.out.cell 1, HN.out.cell 3, HN.out.cell 9, HN.out.cell 15, HN.out.cell 16⟩
  rcases hcase with h0 | h0 | h0 | h0 | h0 | h0 | h0
  · obtain ⟨rfl, hk, hx0⟩ := h0
    have HF := Lib.hid (show bb = true ↔ recOk r from by rw [← mayP_iff]; unfold mayP long0; grind)
    have k1_ : (r.kind == 1) = false := by simp; omega
    have k2_ : (r.kind == 2) = false := by simp; omega
    have k3_ : (r.kind == 3) = true := by simp; omega
    have k4_ : (r.kind == 4) = false := by simp; omega
    have k5_ : (r.kind == 5) = false := by simp; omega
    have k6_ : (r.kind == 6) = false := by simp; omega
    have k7_ : (r.kind == 7) = false := by simp; omega
    have k8_ : (r.kind == 8) = false := by simp; omega
    have m2_ : (r.kind != 2) = true := by simp; omega
    have m3_ : (r.kind != 3) = false := by simp; omega
    have m8_ : (r.kind != 8) = true := by simp; omega
    have l1_ : decide ((r.txs.length : Int) + (r.dirty.length : Int) > 0) = false := decide_eq_false (by omega)
    have l2_ : decide (0 < (r.txs.length : Int) + (r.dirty.length : Int)) = false := decide_eq_false (by omega)
    have l3_ : decide (0 < r.txs.length + r.dirty.length) = false := decide_eq_false (by omega)
    clear ht hc hb
    go_wp2_with (first | (go_at_call 34; refine (rtx04_any r.tx _).mono ?_; rintro e w_ ⟨rfl, rfl⟩; rw [HBT.out]) | (go_at_call 35; refine (change04_any r (.slice A r.txs.length c) (.slice B r.dirty.length d) _).mono ?_; rintro e w2 ⟨rfl, hb5⟩; rw [HBC.out]; have n_HN := Lib.hid (HN.out.step hb5); have n_HK := Lib.hid (bstep HK.out hb5); clear hb5 HN HK; have HN := n_HN; have HK := n_HK; clear n_HN n_HK; obtain ⟨q0, q1, q3, q9, q15, q16⟩ : w2.cell? ⟨w.heap.size, 0, none⟩ = some (.int .i64 r.kind) ∧ w2.cell? ⟨w.heap.size, 1, none⟩ = some (.int .i64 r.tx) ∧ w2.cell? ⟨w.heap.size, 3, none⟩ = some (.int .u64 r.next) ∧ w2.cell? ⟨w.heap.size, 9, none⟩ = some (.int .i64 r.undo) ∧ w2.cell? ⟨w.heap.size, 15, none⟩ = some ((.slice A r.txs.length c)) ∧ w2.cell? ⟨w.heap.size, 16, none⟩ = some ((.slice B r.dirty.length d)) := ⟨HN.out.cell 0, HN.out.cell 1, HN.out.cell 3, HN.out.cell 9, HN.out.cell 15, HN.out.cell 16⟩) | (go_at_call 36; refine (bare04_any r (.slice A r.txs.length c) (.slice B r.dirty.length d) _).mono ?_; rintro e w2 ⟨rfl, hb5⟩; rw [HBB.out]; have n_HN := Lib.hid (HN.out.step hb5); have n_HK := Lib.hid (bstep HK.out hb5); clear hb5 HN HK; have HN := n_HN; have HK := n_HK; clear n_HN n_HK; obtain ⟨q0, q1, q3, q9, q15, q16⟩ : w2.cell? ⟨w.heap.size, 0, none⟩ = some (.int .i64 r.kind) ∧ w2.cell? ⟨w.heap.size, 1, none⟩ = some (.int .i64 r.tx) ∧ w2.cell? ⟨w.heap.size, 3, none⟩ = some (.int .u64 r.next) ∧ w2.cell? ⟨w.heap.size, 9, none⟩ = some (.int .i64 r.undo) ∧ w2.cell? ⟨w.heap.size, 15, none⟩ = some ((.slice A r.txs.length c)) ∧ w2.cell? ⟨w.heap.size, 16, none⟩ = some ((.slice B r.dirty.length d)) := ⟨HN.out.cell 0, HN.out.cell 1, HN.out.cell 3, HN.out.cell 9, HN.out.cell 15, HN.out.cell 16⟩) | (with_reducible refine isLoadN 47 (.tmp 1) ?_; with_unfolding_all refine wpList_load_row rfl 47 (.tmp 1) rfl w.heap.size (by kernel_rfl) 47 (rfs r (.slice A r.txs.length c) (.slice B r.dirty.length d)) (0, 0) _ HN.out Try.underlying47 rfl (by kernel_rfl) ?_))
    all_goals (go_ret; exact ⟨⟨_, rfl, HF.out⟩, HK.out⟩)
  · obtain ⟨rfl, hk, hx0⟩ := h0
    have HF := Lib.hid (show false = true ↔ recOk r from by rw [← mayP_iff]; unfold mayP long0; grind)
    have k1_ : (r.kind == 1) = false := by simp; omega
    have k2_ : (r.kind == 2) = false := by simp; omega
    have k3_ : (r.kind == 3) = false := by simp; omega
    have k4_ : (r.kind == 4) = true := by simp; omega
    have k5_ : (r.kind == 5) = false := by simp; omega
    have k6_ : (r.kind == 6) = false := by simp; omega
    have k7_ : (r.kind == 7) = false := by simp; omega
    have k8_ : (r.kind == 8) = false := by simp; omega
    have m2_ : (r.kind != 2) = true := by simp; omega
    have m3_ : (r.kind != 3) = true := by simp; omega
    have m8_ : (r.kind != 8) = true := by simp; omega
    have l1_ : decide ((r.txs.length : Int) + (r.dirty.length : Int) > 0) = true := decide_eq_true (by omega)
    have l2_ : decide (0 < (r.txs.length : Int) + (r.dirty.length : Int)) = true := decide_eq_true (by omega)
    have l3_ : decide (0 < r.txs.length + r.dirty.length) = true := decide_eq_true (by omega)
    clear ht hc hb
    go_wp2_with (first | (go_at_call 34; refine (rtx04_any r.tx _).mono ?_; rintro e w_ ⟨rfl, rfl⟩; rw [HBT.out]) | (go_at_call 35; refine (change04_any r (.slice A r.txs.length c) (.slice B r.dirty.length d) _).mono ?_; rintro e w2 ⟨rfl, hb5⟩; rw [HBC.out]; have n_HN := Lib.hid (HN.out.step hb5); have n_HK := Lib.hid (bstep HK.out hb5); clear hb5 HN HK; have HN := n_HN; have HK := n_HK; clear n_HN n_HK; obtain ⟨q0, q1, q3, q9, q15, q16⟩ : w2.cell? ⟨w.heap.size, 0, none⟩ = some (.int .i64 r.kind) ∧ w2.cell? ⟨w.heap.size, 1, none⟩ = some (.int .i64 r.tx) ∧ w2.cell? ⟨w.heap.size, 3, none⟩ = some (.int .u64 r.next) ∧ w2.cell? ⟨w.heap.size, 9, none⟩ = some (.int .i64 r.undo) ∧ w2.cell? ⟨w.heap.size, 15, none⟩ = some ((.slice A r.txs.length c)) ∧ w2.cell? ⟨w.heap.size, 16, none⟩ = some ((.slice B r.dirty.length d)) := ⟨HN.out.cell 0, HN.out.cell 1, HN.out.cell 3, HN.out.cell 9, HN.out.cell 15, HN.out.cell 16⟩) | (go_at_call 36; refine (bare04_any r (.slice A r.txs.length c) (.slice B r.dirty.length d) _).mono ?_; rintro e w2 ⟨rfl, hb5⟩; rw [HBB.out]; have n_HN := Lib.hid (HN.out.step hb5); have n_HK := Lib.hid (bstep HK.out hb5); clear hb5 HN HK; have HN := n_HN; have HK := n_HK; clear n_HN n_HK; obtain ⟨q0, q1, q3, q9, q15, q16⟩ : w2.cell? ⟨w.heap.size, 0, none⟩ = some (.int .i64 r.kind) ∧ w2.cell? ⟨w.heap.size, 1, none⟩ = some (.int .i64 r.tx) ∧ w2.cell? ⟨w.heap.size, 3, none⟩ = some (.int .u64 r.next) ∧ w2.cell? ⟨w.heap.size, 9, none⟩ = some (.int .i64 r.undo) ∧ w2.cell? ⟨w.heap.size, 15, none⟩ = some ((.slice A r.txs.length c)) ∧ w2.cell? ⟨w.heap.size, 16, none⟩ = some ((.slice B r.dirty.length d)) := ⟨HN.out.cell 0, HN.out.cell 1, HN.out.cell 3, HN.out.cell 9, HN.out.cell 15, HN.out.cell 16⟩) | (with_reducible refine isLoadN 47 (.tmp 1) ?_; with_unfolding_all refine wpList_load_row rfl 47 (.tmp 1) rfl w.heap.size (by kernel_rfl) 47 (rfs r (.slice A r.txs.length c) (.slice B r.dirty.length d)) (0, 0) _ HN.out Try.underlying47 rfl (by kernel_rfl) ?_))
    all_goals (go_ret; exact ⟨⟨_, rfl, HF.out⟩, HK.out⟩)
  · obtain ⟨rfl, hk, hx0, hx⟩ := h0
    have HF := Lib.hid (show false = true ↔ recOk r from by rw [← mayP_iff]; unfold mayP long0; grind)
    have k1_ : (r.kind == 1) = false := by simp; omega
    have k2_ : (r.kind == 2) = false := by simp; omega
    have k3_ : (r.kind == 3) = false := by simp; omega
    have k4_ : (r.kind == 4) = true := by simp; omega
    have k5_ : (r.kind == 5) = false := by simp; omega
    have k6_ : (r.kind == 6) = false := by simp; omega
    have k7_ : (r.kind == 7) = false := by simp; omega
    have k8_ : (r.kind == 8) = false := by simp; omega
    have m2_ : (r.kind != 2) = true := by simp; omega
    have m3_ : (r.kind != 3) = true := by simp; omega
    have m8_ : (r.kind != 8) = true := by simp; omega
    have l1_ : decide ((r.txs.length : Int) + (r.dirty.length : Int) > 0) = false := decide_eq_false (by omega)
    have l2_ : decide (0 < (r.txs.length : Int) + (r.dirty.length : Int)) = false := decide_eq_false (by omega)
    have l3_ : decide (0 < r.txs.length + r.dirty.length) = false := decide_eq_false (by omega)
    have n1_ : (r.next != 0) = true := by simp [hx]
    have n2_ : (r.next == 0) = false := by simp [hx]
    clear ht hc hb
    go_wp2_with (first | (go_at_call 34; refine (rtx04_any r.tx _).mono ?_; rintro e w_ ⟨rfl, rfl⟩; rw [HBT.out]) | (go_at_call 35; refine (change04_any r (.slice A r.txs.length c) (.slice B r.dirty.length d) _).mono ?_; rintro e w2 ⟨rfl, hb5⟩; rw [HBC.out]; have n_HN := Lib.hid (HN.out.step hb5); have n_HK := Lib.hid (bstep HK.out hb5); clear hb5 HN HK; have HN := n_HN; have HK := n_HK; clear n_HN n_HK; obtain ⟨q0, q1, q3, q9, q15, q16⟩ : w2.cell? ⟨w.heap.size, 0, none⟩ = some (.int .i64 r.kind) ∧ w2.cell? ⟨w.heap.size, 1, none⟩ = some (.int .i64 r.tx) ∧ w2.cell? ⟨w.heap.size, 3, none⟩ = some (.int .u64 r.next) ∧ w2.cell? ⟨w.heap.size, 9, none⟩ = some (.int .i64 r.undo) ∧ w2.cell? ⟨w.heap.size, 15, none⟩ = some ((.slice A r.txs.length c)) ∧ w2.cell? ⟨w.heap.size, 16, none⟩ = some ((.slice B r.dirty.length d)) := ⟨HN.out.cell 0, HN.out.cell 1, HN.out.cell 3, HN.out.cell 9, HN.out.cell 15, HN.out.cell 16⟩) | (go_at_call 36; refine (bare04_any r (.slice A r.txs.length c) (.slice B r.dirty.length d) _).mono ?_; rintro e w2 ⟨rfl, hb5⟩; rw [HBB.out]; have n_HN := Lib.hid (HN.out.step hb5); have n_HK := Lib.hid (bstep HK.out hb5); clear hb5 HN HK; have HN := n_HN; have HK := n_HK; clear n_HN n_HK; obtain ⟨q0, q1, q3, q9, q15, q16⟩ : w2.cell? ⟨w.heap.size, 0, none⟩ = some (.int .i64 r.kind) ∧ w2.cell? ⟨w.heap.size, 1, none⟩ = some (.int .i64 r.tx) ∧ w2.cell? ⟨w.heap.size, 3, none⟩ = some (.int .u64 r.next) ∧ w2.cell? ⟨w.heap.size, 9, none⟩ = some (.int .i64 r.undo) ∧ w2.cell? ⟨w.heap.size, 15, none⟩ = some ((.slice A r.txs.length c)) ∧ w2.cell? ⟨w.heap.size, 16, none⟩ = some ((.slice B r.dirty.length d)) := ⟨HN.out.cell 0, HN.out.cell 1, HN.out.cell 3, HN.out.cell 9, HN.out.cell 15, HN.out.cell 16⟩) | (with_reducible refine isLoadN 47 (.tmp 1) ?_; with_unfolding_all refine wpList_load_row rfl 47 (.tmp 1) rfl w.heap.size (by kernel_rfl) 47 (rfs r (.slice A r.txs.length c) (.slice B r.dirty.length d)) (0, 0) _ HN.out Try.underlying47 rfl (by kernel_rfl) ?_))
    all_goals (go_ret; exact ⟨⟨_, rfl, HF.out⟩, HK.out⟩)
  · obtain ⟨rfl, hk, hx0, hx⟩ := h0
    have HF := Lib.hid (show bb = true ↔ recOk r from by rw [← mayP_iff]; unfold mayP long0; grind)
    have k1_ : (r.kind == 1) = false := by simp; omega
    have k2_ : (r.kind == 2) = false := by simp; omega
    have k3_ : (r.kind == 3) = false := by simp; omega
    have k4_ : (r.kind == 4) = true := by simp; omega
    have k5_ : (r.kind == 5) = false := by simp; omega
    have k6_ : (r.kind == 6) = false := by simp; omega
    have k7_ : (r.kind == 7) = false := by simp; omega
    have k8_ : (r.kind == 8) = false := by simp; omega
    have m2_ : (r.kind != 2) = true := by simp; omega
    have m3_ : (r.kind != 3) = true := by simp; omega
    have m8_ : (r.kind != 8) = true := by simp; omega
    have l1_ : decide ((r.txs.length : Int) + (r.dirty.length : Int) > 0) = false := decide_eq_false (by omega)
    have l2_ : decide (0 < (r.txs.length : Int) + (r.dirty.length : Int)) = false := decide_eq_false (by omega)
    have l3_ : decide (0 < r.txs.length + r.dirty.length) = false := decide_eq_false (by omega)
    have n1_ : (r.next != 0) = false := by simp [hx]
    have n2_ : (r.next == 0) = true := by simp [hx]
    clear ht hc hb
    go_wp2_with (first | (go_at_call 34; refine (rtx04_any r.tx _).mono ?_; rintro e w_ ⟨rfl, rfl⟩; rw [HBT.out]) | (go_at_call 35; refine (change04_any r (.slice A r.txs.length c) (.slice B r.dirty.length d) _).mono ?_; rintro e w2 ⟨rfl, hb5⟩; rw [HBC.out]; have n_HN := Lib.hid (HN.out.step hb5); have n_HK := Lib.hid (bstep HK.out hb5); clear hb5 HN HK; have HN := n_HN; have HK := n_HK; clear n_HN n_HK; obtain ⟨q0, q1, q3, q9, q15, q16⟩ : w2.cell? ⟨w.heap.size, 0, none⟩ = some (.int .i64 r.kind) ∧ w2.cell? ⟨w.heap.size, 1, none⟩ = some (.int .i64 r.tx) ∧ w2.cell? ⟨w.heap.size, 3, none⟩ = some (.int .u64 r.next) ∧ w2.cell? ⟨w.heap.size, 9, none⟩ = some (.int .i64 r.undo) ∧ w2.cell? ⟨w.heap.size, 15, none⟩ = some ((.slice A r.txs.length c)) ∧ w2.cell? ⟨w.heap.size, 16, none⟩ = some ((.slice B r.dirty.length d)) := ⟨HN.out.cell 0, HN.out.cell 1, HN.out.cell 3, HN.out.cell 9, HN.out.cell 15, HN.out.cell 16⟩) | (go_at_call 36; refine (bare04_any r (.slice A r.txs.length c) (.slice B r.dirty.length d) _).mono ?_; rintro e w2 ⟨rfl, hb5⟩; rw [HBB.out]; have n_HN := Lib.hid (HN.out.step hb5); have n_HK := Lib.hid (bstep HK.out hb5); clear hb5 HN HK; have HN := n_HN; have HK := n_HK; clear n_HN n_HK; obtain ⟨q0, q1, q3, q9, q15, q16⟩ : w2.cell? ⟨w.heap.size, 0, none⟩ = some (.int .i64 r.kind) ∧ w2.cell? ⟨w.heap.size, 1, none⟩ = some (.int .i64 r.tx) ∧ w2.cell? ⟨w.heap.size, 3, none⟩ = some (.int .u64 r.next) ∧ w2.cell? ⟨w.heap.size, 9, none⟩ = some (.int .i64 r.undo) ∧ w2.cell? ⟨w.heap.size, 15, none⟩ = some ((.slice A r.txs.length c)) ∧ w2.cell? ⟨w.heap.size, 16, none⟩ = some ((.slice B r.dirty.length d)) := ⟨HN.out.cell 0, HN.out.cell 1, HN.out.cell 3, HN.out.cell 9, HN.out.cell 15, HN.out.cell 16⟩) | (with_reducible refine isLoadN 47 (.tmp 1) ?_; with_unfolding_all refine wpList_load_row rfl 47 (.tmp 1) rfl w.heap.size (by kernel_rfl) 47 (rfs r (.slice A r.txs.length c) (.slice B r.dirty.length d)) (0, 0) _ HN.out Try.underlying47 rfl (by kernel_rfl) ?_))
    all_goals (go_ret; exact ⟨⟨_, rfl, HF.out⟩, HK.out⟩)
  · obtain ⟨rfl, hk, hx0⟩ := h0
    have HF := Lib.hid (show false = true ↔ recOk r from by rw [← mayP_iff]; unfold mayP long0; grind)
    have k1_ : (r.kind == 1) = false := by simp; omega
    have k2_ : (r.kind == 2) = false := by simp; omega
    have k3_ : (r.kind == 3) = false := by simp; omega
    have k4_ : (r.kind == 4) = false := by simp; omega
    have k5_ : (r.kind == 5) = true := by simp; omega
    have k6_ : (r.kind == 6) = false := by simp; omega
    have k7_ : (r.kind == 7) = false := by simp; omega
    have k8_ : (r.kind == 8) = false := by simp; omega
    have m2_ : (r.kind != 2) = true := by simp; omega
    have m3_ : (r.kind != 3) = true := by simp; omega
    have m8_ : (r.kind != 8) = true := by simp; omega
    have l1_ : decide ((r.txs.length : Int) + (r.dirty.length : Int) > 0) = true := decide_eq_true (by omega)
    have l2_ : decide (0 < (r.txs.length : Int) + (r.dirty.length : Int)) = true := decide_eq_true (by omega)
    have l3_ : decide (0 < r.txs.length + r.dirty.length) = true := decide_eq_true (by omega)
    clear ht hc hb
    go_wp2_with (first | (go_at_call 34; refine (rtx04_any r.tx _).mono ?_; rintro e w_ ⟨rfl, rfl⟩; rw [HBT.out]) | (go_at_call 35; refine (change04_any r (.slice A r.txs.length c) (.slice B r.dirty.length d) _).mono ?_; rintro e w2 ⟨rfl, hb5⟩; rw [HBC.out]; have n_HN := Lib.hid (HN.out.step hb5); have n_HK := Lib.hid (bstep HK.out hb5); clear hb5 HN HK; have HN := n_HN; have HK := n_HK; clear n_HN n_HK; obtain ⟨q0, q1, q3, q9, q15, q16⟩ : w2.cell? ⟨w.heap.size, 0, none⟩ = some (.int .i64 r.kind) ∧ w2.cell? ⟨w.heap.size, 1, none⟩ = some (.int .i64 r.tx) ∧ w2.cell? ⟨w.heap.size, 3, none⟩ = some (.int .u64 r.next) ∧ w2.cell? ⟨w.heap.size, 9, none⟩ = some (.int .i64 r.undo) ∧ w2.cell? ⟨w.heap.size, 15, none⟩ = some ((.slice A r.txs.length c)) ∧ w2.cell? ⟨w.heap.size, 16, none⟩ = some ((.slice B r.dirty.length d)) := ⟨HN.out.cell 0, HN.out.cell 1, HN.out.cell 3, HN.out.cell 9, HN.out.cell 15, HN.out.cell 16⟩) | (go_at_call 36; refine (bare04_any r (.slice A r.txs.length c) (.slice B r.dirty.length d) _).mono ?_; rintro e w2 ⟨rfl, hb5⟩; rw [HBB.out]; have n_HN := Lib.hid (HN.out.step hb5); have n_HK := Lib.hid (bstep HK.out hb5); clear hb5 HN HK; have HN := n_HN; have HK := n_HK; clear n_HN n_HK; obtain ⟨q0, q1, q3, q9, q15, q16⟩ : w2.cell? ⟨w.heap.size, 0, none⟩ = some (.int .i64 r.kind) ∧ w2.cell? ⟨w.heap.size, 1, none⟩ = some (.int .i64 r.tx) ∧ w2.cell? ⟨w.heap.size, 3, none⟩ = some (.int .u64 r.next) ∧ w2.cell? ⟨w.heap.size, 9, none⟩ = some (.int .i64 r.undo) ∧ w2.cell? ⟨w.heap.size, 15, none⟩ = some ((.slice A r.txs.length c)) ∧ w2.cell? ⟨w.heap.size, 16, none⟩ = some ((.slice B r.dirty.length d)) := ⟨HN.out.cell 0, HN.out.cell 1, HN.out.cell 3, HN.out.cell 9, HN.out.cell 15, HN.out.cell 16⟩) | (with_reducible refine isLoadN 47 (.tmp 1) ?_; with_unfolding_all refine wpList_load_row rfl 47 (.tmp 1) rfl w.heap.size (by kernel_rfl) 47 (rfs r (.slice A r.txs.length c) (.slice B r.dirty.length d)) (0, 0) _ HN.out Try.underlying47 rfl (by kernel_rfl) ?_))
    all_goals (go_ret; exact ⟨⟨_, rfl, HF.out⟩, HK.out⟩)
  · obtain ⟨rfl, hk, hx0, hx⟩ := h0
    have HF := Lib.hid (show false = true ↔ recOk r from by rw [← mayP_iff]; unfold mayP long0; grind)
    have k1_ : (r.kind == 1) = false := by simp; omega
    have k2_ : (r.kind == 2) = false := by simp; omega
    have k3_ : (r.kind == 3) = false := by simp; omega
    have k4_ : (r.kind == 4) = false := by simp; omega
    have k5_ : (r.kind == 5) = true := by simp; omega
    have k6_ : (r.kind == 6) = false := by simp; omega
    have k7_ : (r.kind == 7) = false := by simp; omega
    have k8_ : (r.kind == 8) = false := by simp; omega
    have m2_ : (r.kind != 2) = true := by simp; omega
    have m3_ : (r.kind != 3) = true := by simp; omega
    have m8_ : (r.kind != 8) = true := by simp; omega
    have l1_ : decide ((r.txs.length : Int) + (r.dirty.length : Int) > 0) = false := decide_eq_false (by omega)
    have l2_ : decide (0 < (r.txs.length : Int) + (r.dirty.length : Int)) = false := decide_eq_false (by omega)
    have l3_ : decide (0 < r.txs.length + r.dirty.length) = false := decide_eq_false (by omega)
    have n1_ : (r.next != 0) = true := by simp [hx]
    have n2_ : (r.next == 0) = false := by simp [hx]
    clear ht hc hb
    go_wp2_with (first | (go_at_call 34; refine (rtx04_any r.tx _).mono ?_; rintro e w_ ⟨rfl, rfl⟩; rw [HBT.out]) | (go_at_call 35; refine (change04_any r (.slice A r.txs.length c) (.slice B r.dirty.length d) _).mono ?_; rintro e w2 ⟨rfl, hb5⟩; rw [HBC.out]; have n_HN := Lib.hid (HN.out.step hb5); have n_HK := Lib.hid (bstep HK.out hb5); clear hb5 HN HK; have HN := n_HN; have HK := n_HK; clear n_HN n_HK; obtain ⟨q0, q1, q3, q9, q15, q16⟩ : w2.cell? ⟨w.heap.size, 0, none⟩ = some (.int .i64 r.kind) ∧ w2.cell? ⟨w.heap.size, 1, none⟩ = some (.int .i64 r.tx) ∧ w2.cell? ⟨w.heap.size, 3, none⟩ = some (.int .u64 r.next) ∧ w2.cell? ⟨w.heap.size, 9, none⟩ = some (.int .i64 r.undo) ∧ w2.cell? ⟨w.heap.size, 15, none⟩ = some ((.slice A r.txs.length c)) ∧ w2.cell? ⟨w.heap.size, 16, none⟩ = some ((.slice B r.dirty.length d)) := ⟨HN.out.cell 0, HN.out.cell 1, HN.out.cell 3, HN.out.cell 9, HN.out.cell 15, HN.out.cell 16⟩) | (go_at_call 36; refine (bare04_any r (.slice A r.txs.length c) (.slice B r.dirty.length d) _).mono ?_; rintro e w2 ⟨rfl, hb5⟩; rw [HBB.out]; have n_HN := Lib.hid (HN.out.step hb5); have n_HK := Lib.hid (bstep HK.out hb5); clear hb5 HN HK; have HN := n_HN; have HK := n_HK; clear n_HN n_HK; obtain ⟨q0, q1, q3, q9, q15, q16⟩ : w2.cell? ⟨w.heap.size, 0, none⟩ = some (.int .i64 r.kind) ∧ w2.cell? ⟨w.heap.size, 1, none⟩ = some (.int .i64 r.tx) ∧ w2.cell? ⟨w.heap.size, 3, none⟩ = some (.int .u64 r.next) ∧ w2.cell? ⟨w.heap.size, 9, none⟩ = some (.int .i64 r.undo) ∧ w2.cell? ⟨w.heap.size, 15, none⟩ = some ((.slice A r.txs.length c)) ∧ w2.cell? ⟨w.heap.size, 16, none⟩ = some ((.slice B r.dirty.length d)) := ⟨HN.out.cell 0, HN.out.cell 1, HN.out.cell 3, HN.out.cell 9, HN.out.cell 15, HN.out.cell 16⟩) | (with_reducible refine isLoadN 47 (.tmp 1) ?_; with_unfolding_all refine wpList_load_row rfl 47 (.tmp 1) rfl w.heap.size (by kernel_rfl) 47 (rfs r (.slice A r.txs.length c) (.slice B r.dirty.length d)) (0, 0) _ HN.out Try.underlying47 rfl (by kernel_rfl) ?_))
    all_goals (go_ret; exact ⟨⟨_, rfl, HF.out⟩, HK.out⟩)
  · obtain ⟨rfl, hk, hx0, hx⟩ := h0
    have HF := Lib.hid (show bb = true ↔ recOk r from by rw [← mayP_iff]; unfold mayP long0; grind)
    have k1_ : (r.kind == 1) = false := by simp; omega
    have k2_ : (r.kind == 2) = false := by simp; omega
    have k3_ : (r.kind == 3) = false := by simp; omega
    have k4_ : (r.kind == 4) = false := by simp; omega
    have k5_ : (r.kind == 5) = true := by simp; omega
    have k6_ : (r.kind == 6) = false := by simp; omega
    have k7_ : (r.kind == 7) = false := by simp; omega
    have k8_ : (r.kind == 8) = false := by simp; omega
    have m2_ : (r.kind != 2) = true := by simp; omega
    have m3_ : (r.kind != 3) = true := by simp; omega
    have m8_ : (r.kind != 8) = true := by simp; omega
    have l1_ : decide ((r.txs.length : Int) + (r.dirty.length : Int) > 0) = false := decide_eq_false (by omega)
    have l2_ : decide (0 < (r.txs.length : Int) + (r.dirty.length : Int)) = false := decide_eq_false (by omega)
    have l3_ : decide (0 < r.txs.length + r.dirty.length) = false := decide_eq_false (by omega)
    have n1_ : (r.next != 0) = false := by simp [hx]
    have n2_ : (r.next == 0) = true := by simp [hx]
    clear ht hc hb
    go_wp2_with (first | (go_at_call 34; refine (rtx04_any r.tx _).mono ?_; rintro e w_ ⟨rfl, rfl⟩; rw [HBT.out]) | (go_at_call 35; refine (change04_any r (.slice A r.txs.length c) (.slice B r.dirty.length d) _).mono ?_; rintro e w2 ⟨rfl, hb5⟩; rw [HBC.out]; have n_HN := Lib.hid (HN.out.step hb5); have n_HK := Lib.hid (bstep HK.out hb5); clear hb5 HN HK; have HN := n_HN; have HK := n_HK; clear n_HN n_HK; obtain ⟨q0, q1, q3, q9, q15, q16⟩ : w2.cell? ⟨w.heap.size, 0, none⟩ = some (.int .i64 r.kind) ∧ w2.cell? ⟨w.heap.size, 1, none⟩ = some (.int .i64 r.tx) ∧ w2.cell? ⟨w.heap.size, 3, none⟩ = some (.int .u64 r.next) ∧ w2.cell? ⟨w.heap.size, 9, none⟩ = some (.int .i64 r.undo) ∧ w2.cell? ⟨w.heap.size, 15, none⟩ = some ((.slice A r.txs.length c)) ∧ w2.cell? ⟨w.heap.size, 16, none⟩ = some ((.slice B r.dirty.length d)) := ⟨HN.out.cell 0, HN.out.cell 1, HN.out.cell 3, HN.out.cell 9, HN.out.cell 15, HN.out.cell 16⟩) | (go_at_call 36; refine (bare04_any r (.slice A r.txs.length c) (.slice B r.dirty.length d) _).mono ?_; rintro e w2 ⟨rfl, hb5⟩; rw [HBB.out]; have n_HN := Lib.hid (HN.out.step hb5); have n_HK := Lib.hid (bstep HK.out hb5); clear hb5 HN HK; have HN := n_HN; have HK := n_HK; clear n_HN n_HK; obtain ⟨q0, q1, q3, q9, q15, q16⟩ : w2.cell? ⟨w.heap.size, 0, none⟩ = some (.int .i64 r.kind) ∧ w2.cell? ⟨w.heap.size, 1, none⟩ = some (.int .i64 r.tx) ∧ w2.cell? ⟨w.heap.size, 3, none⟩ = some (.int .u64 r.next) ∧ w2.cell? ⟨w.heap.size, 9, none⟩ = some (.int .i64 r.undo) ∧ w2.cell? ⟨w.heap.size, 15, none⟩ = some ((.slice A r.txs.length c)) ∧ w2.cell? ⟨w.heap.size, 16, none⟩ = some ((.slice B r.dirty.length d)) := ⟨HN.out.cell 0, HN.out.cell 1, HN.out.cell 3, HN.out.cell 9, HN.out.cell 15, HN.out.cell 16⟩) | (with_reducible refine isLoadN 47 (.tmp 1) ?_; with_unfolding_all refine wpList_load_row rfl 47 (.tmp 1) rfl w.heap.size (by kernel_rfl) 47 (rfs r (.slice A r.txs.length c) (.slice B r.dirty.length d)) (0, 0) _ HN.out Try.underlying47 rfl (by kernel_rfl) ?_))
    all_goals (go_ret; exact ⟨⟨_, rfl, HF.out⟩, HK.out⟩)
end Go.Proofs.Ytebickoieipjpaa
end
section
namespace Go.Proofs.Ytebickoieipjpaa
open Go.RowKit Go.Gi Go.GiRow
set_option maxRecDepth 20000
set_option linter.unusedSimpArgs false
set_option linter.unusedVariables false
set_option maxHeartbeats 8000000 in
theorem may04_g2 (r : RecR) (A : Option Addr) (c : Nat) (B : Option Addr) (d : Nat) (w : World) (hA : RdRows StR.cells 4 w A r.txs) (hl : r.txs.length * 32 ≤ 140737488351232) (hd : r.dirty.length * 16 ≤ 140737488351232) (bt bc bb : Bool) (hbt : decide (0 ≤ r.tx ∧ r.tx < 2147483648) = bt) (hbc : decide (chgP r) = bc) (hbb : decide (bareP r) = bb) (hcase : (bt = true ∧ r.kind = 6 ∧ 0 < r.txs.length + r.dirty.length) ∨ (bt = true ∧ r.kind = 6 ∧ r.txs.length + r.dirty.length = 0 ∧ ¬ r.next = 0) ∨ (bt = true ∧ r.kind = 6 ∧ r.txs.length + r.dirty.length = 0 ∧ r.next = 0) ∨ (bt = true ∧ r.kind = 7 ∧ 0 < r.txs.length + r.dirty.length) ∨ (bt = true ∧ r.kind = 7 ∧ r.txs.length + r.dirty.length = 0 ∧ ¬ r.next = 0) ∨ (bt = true ∧ r.kind = 7 ∧ r.txs.length + r.dirty.length = 0 ∧ r.next = 0) ∨ (bt = true ∧ (r.kind < 1 ∨ 8 < r.kind) ∧ 0 < r.txs.length + r.dirty.length)) :
    Calls Try.prog 14 #[.agg (rfs r (.slice A r.txs.length c) (.slice B r.dirty.length d))] w fun e w' => (∃ b, e = .returned (.bool b) ∧ (b = true ↔ recOk r)) ∧ Below w.heap.size w w' := by
  have HA := Lib.hid hA
  clear hA
  have ht : bt = true ↔ (0 ≤ r.tx ∧ r.tx < 2147483648) := by rw [← hbt]; simp
  have hc : bc = true ↔ chgP r := by rw [← hbc]; simp
  have hb : bb = true ↔ bareP r := by rw [← hbb]; simp
  have HBT := Lib.hid hbt
  have HBC := Lib.hid hbc
  have HBB := Lib.hid hbb
  clear hbt hbc hbb
  have HN := Lib.hid (Blk.new w 47 (rfs r (.slice A r.txs.length c) (.slice B r.dirty.length d)))
  have HK := Lib.hid (balloc (Below.refl w.heap.size w) (.cells (rfs r (.slice A r.txs.length c) (.slice B r.dirty.length d)) 47))
  go_enter Try.func14, Try.ntmps14
  go_upto_region 1 with fail
  generalize w.alloc (.cells (rfs r (.slice A r.txs.length c) (.slice B r.dirty.length d)) 47) = w1 at *
  obtain ⟨q0, q1, q3, q9, q15, q16⟩ : w1.cell? ⟨w.heap.size, 0, none⟩ = some (.int .i64 r.kind) ∧ w1.cell? ⟨w.heap.size, 1, none⟩ = some (.int .i64 r.tx) ∧ w1.cell? ⟨w.heap.size, 3, none⟩ = some (.int .u64 r.next) ∧ w1.cell? ⟨w.heap.size, 9, none⟩ = some (.int .i64 r.undo) ∧ w1.cell? ⟨w.heap.size, 15, none⟩ = some ((.slice A r.txs.length c)) ∧ w1.cell? ⟨w.heap.size, 16, none⟩ = some ((.slice B r.dirty.length d)) := ⟨HN.out.cell 0, HN.out.cell 1, HN.out.cell 3, HN.out.cell 9, HN.out.cell 15, HN.out.cell 16⟩
  rcases hcase with h0 | h0 | h0 | h0 | h0 | h0 | h0
  · obtain ⟨rfl, hk, hx0⟩ := h0
    have HF := Lib.hid (show false = true ↔ recOk r from by rw [← mayP_iff]; unfold mayP long0; grind)
    have k1_ : (r.kind == 1) = false := by simp; omega
    have k2_ : (r.kind == 2) = false := by simp; omega
    have k3_ : (r.kind == 3) = false := by simp; omega
    have k4_ : (r.kind == 4) = false := by simp; omega
    have k5_ : (r.kind == 5) = false := by simp; omega
    have k6_ : (r.kind == 6) = true := by simp; omega
    have k7_ : (r.kind == 7) = false := by simp; omega
    have k8_ : (r.kind == 8) = false := by simp; omega
    have m2_ : (r.kind != 2) = true := by simp; omega
    have m3_ : (r.kind != 3) = true := by simp; omega
    have m8_ : (r.kind != 8) = true := by simp; omega
    have l1_ : decide ((r.txs.length : Int) + (r.dirty.length : Int) > 0) = true := decide_eq_true (by omega)
    have l2_ : decide (0 < (r.txs.length : Int) + (r.dirty.length : Int)) = true := decide_eq_true (by omega)
    have l3_ : decide (0 < r.txs.length + r.dirty.length) = true := decide_eq_true (by omega)
    clear ht hc hb
    go_wp2_with (first | (go_at_call 34; refine (rtx04_any r.tx _).mono ?_; rintro e w_ ⟨rfl, rfl⟩; rw [HBT.out]) | (go_at_call 35; refine (change04_any r (.slice A r.txs.length c) (.slice B r.dirty.length d) _).mono ?_; rintro e w2 ⟨rfl, hb5⟩; rw [HBC.out]; have n_HN := Lib.hid (HN.out.step hb5); have n_HK := Lib.hid (bstep HK.out hb5); clear hb5 HN HK; have HN := n_HN; have HK := n_HK; clear n_HN n_HK; obtain ⟨q0, q1, q3, q9, q15, q16⟩ : w2.cell? ⟨w.heap.size, 0, none⟩ = some (.int .i64 r.kind) ∧ w2.cell? ⟨w.heap.size, 1, none⟩ = some (.int .i64 r.tx) ∧ w2.cell? ⟨w.heap.size, 3, none⟩ = some (.int .u64 r.next) ∧ w2.cell? ⟨w.heap.size, 9, none⟩ = some (.int .i64 r.undo) ∧ w2.cell? ⟨w.heap.size, 15, none⟩ = some ((.slice A r.txs.length c)) ∧ w2.cell? ⟨w.heap.size, 16, none⟩ = some ((.slice B r.dirty.length d)) := ⟨HN.out.cell 0, HN.out.cell 1, HN.out.cell 3, HN.out.cell 9, HN.out.cell 15, HN.out.cell 16⟩) | (go_at_call 36; refine (bare04_any r (.slice A r.txs.length c) (.slice B r.dirty.length d) _).mono ?_; rintro e w2 ⟨rfl, hb5⟩; rw [HBB.out]; have n_HN := Lib.hid (HN.out.step hb5); have n_HK := Lib.hid (bstep HK.out hb5); clear hb5 HN HK; have HN := n_HN; have HK := n_HK; clear n_HN n_HK; obtain ⟨q0, q1, q3, q9, q15, q16⟩ : w2.cell? ⟨w.heap.size, 0, none⟩ = some (.int .i64 r.kind) ∧ w2.cell? ⟨w.heap.size, 1, none⟩ = some (.int .i64 r.tx) ∧ w2.cell? ⟨w.heap.size, 3, none⟩ = some (.int .u64 r.next) ∧ w2.cell? ⟨w.heap.size, 9, none⟩ = some (.int .i64 r.undo) ∧ w2.cell? ⟨w.heap.size, 15, none⟩ = some ((.slice A r.txs.length c)) ∧ w2.cell? ⟨w.heap.size, 16, none⟩ = some ((.slice B r.dirty.length d)) := ⟨HN.out.cell 0, HN.out.cell 1, HN.out.cell 3, HN.out.cell 9, HN.out.cell 15, HN.out.cell 16⟩) | (with_reducible refine isLoadN 47 (.tmp 1) ?_; with_unfolding_all refine wpList_load_row rfl 47 (.tmp 1) rfl w.heap.size (by kernel_rfl) 47 (rfs r (.slice A r.txs.length c) (.slice B r.dirty.length d)) (0, 0) _ HN.out Try.underlying47 rfl (by kernel_rfl) ?_))
    all_goals (go_ret; exact ⟨⟨_, rfl, HF.out⟩, HK.out⟩)
  · obtain ⟨rfl, hk, hx0, hx⟩ := h0
    have HF := Lib.hid (show false = true ↔ recOk r from by rw [← mayP_iff]; unfold mayP long0; grind)
    have k1_ : (r.kind == 1) = false := by simp; omega
    have k2_ : (r.kind == 2) = false := by simp; omega
    have k3_ : (r.kind == 3) = false := by simp; omega
    have k4_ : (r.kind == 4) = false := by simp; omega
    have k5_ : (r.kind == 5) = false := by simp; omega
    have k6_ : (r.kind == 6) = true := by simp; omega
    have k7_ : (r.kind == 7) = false := by simp; omega
    have k8_ : (r.kind == 8) = false := by simp; omega
    have m2_ : (r.kind != 2) = true := by simp; omega
    have m3_ : (r.kind != 3) = true := by simp; omega
    have m8_ : (r.kind != 8) = true := by simp; omega
    have l1_ : decide ((r.txs.length : Int) + (r.dirty.length : Int) > 0) = false := decide_eq_false (by omega)
    have l2_ : decide (0 < (r.txs.length : Int) + (r.dirty.length : Int)) = false := decide_eq_false (by omega)
    have l3_ : decide (0 < r.txs.length + r.dirty.length) = false := decide_eq_false (by omega)
    have n1_ : (r.next != 0) = true := by simp [hx]
    have n2_ : (r.next == 0) = false := by simp [hx]
    clear ht hc hb
    go_wp2_with (first | (go_at_call 34; refine (rtx04_any r.tx _).mono ?_; rintro e w_ ⟨rfl, rfl⟩; rw [HBT.out]) | (go_at_call 35; refine (change04_any r (.slice A r.txs.length c) (.slice B r.dirty.length d) _).mono ?_; rintro e w2 ⟨rfl, hb5⟩; rw [HBC.out]; have n_HN := Lib.hid (HN.out.step hb5); have n_HK := Lib.hid (bstep HK.out hb5); clear hb5 HN HK; have HN := n_HN; have HK := n_HK; clear n_HN n_HK; obtain ⟨q0, q1, q3, q9, q15, q16⟩ : w2.cell? ⟨w.heap.size, 0, none⟩ = some (.int .i64 r.kind) ∧ w2.cell? ⟨w.heap.size, 1, none⟩ = some (.int .i64 r.tx) ∧ w2.cell? ⟨w.heap.size, 3, none⟩ = some (.int .u64 r.next) ∧ w2.cell? ⟨w.heap.size, 9, none⟩ = some (.int .i64 r.undo) ∧ w2.cell? ⟨w.heap.size, 15, none⟩ = some ((.slice A r.txs.length c)) ∧ w2.cell? ⟨w.heap.size, 16, none⟩ = some ((.slice B r.dirty.length d)) := ⟨HN.out.cell 0, HN.out.cell 1, HN.out.cell 3, HN.out.cell 9, HN.out.cell 15, HN.out.cell 16⟩) | (go_at_call 36; refine (bare04_any r (.slice A r.txs.length c) (.slice B r.dirty.length d) _).mono ?_; rintro e w2 ⟨rfl, hb5⟩; rw [HBB.out]; have n_HN := Lib.hid (HN.out.step hb5); have n_HK := Lib.hid (bstep HK.out hb5); clear hb5 HN HK; have HN := n_HN; have HK := n_HK; clear n_HN n_HK; obtain ⟨q0, q1, q3, q9, q15, q16⟩ : w2.cell? ⟨w.heap.size, 0, none⟩ = some (.int .i64 r.kind) ∧ w2.cell? ⟨w.heap.size, 1, none⟩ = some (.int .i64 r.tx) ∧ w2.cell? ⟨w.heap.size, 3, none⟩ = some (.int .u64 r.next) ∧ w2.cell? ⟨w.heap.size, 9, none⟩ = some (.int .i64 r.undo) ∧ w2.cell? ⟨w.heap.size, 15, none⟩ = some ((.slice A r.txs.length c)) ∧ w2.cell? ⟨w.heap.size, 16, none⟩ = some ((.slice B r.dirty.length d)) := ⟨HN.out.cell 0, HN.out.cell 1, HN.out.cell 3, HN.out.cell 9, HN.out.cell 15, HN.out.cell 16⟩) | (with_reducible refine isLoadN 47 (.tmp 1) ?_; with_unfolding_all refine wpList_load_row rfl 47 (.tmp 1) rfl w.heap.size (by kernel_rfl) 47 (rfs r (.slice A r.txs.length c) (.slice B r.dirty.length d)) (0, 0) _ HN.out Try.underlying47 rfl (by kernel_rfl) ?_))
    all_goals (go_ret; exact ⟨⟨_, rfl, HF.out⟩, HK.out⟩)
  · obtain ⟨rfl, hk, hx0, hx⟩ := h0
    have HF := Lib.hid (show bb = true ↔ recOk r from by rw [← mayP_iff]; unfold mayP long0; grind)
    have k1_ : (r.kind == 1) = false := by simp; omega
    have k2_ : (r.kind == 2) = false := by simp; omega
    have k3_ : (r.kind == 3) = false := by simp; omega
    have k4_ : (r.kind == 4) = false := by simp; omega
    have k5_ : (r.kind == 5) = false := by simp; omega
    have k6_ : (r.kind == 6) = true := by simp; omega
    have k7_ : (r.kind == 7) = false := by simp; omega
    have k8_ : (r.kind == 8) = false := by simp; omega
    have m2_ : (r.kind != 2) = true := by simp; omega
    have m3_ : (r.kind != 3) = true := by simp; omega
    have m8_ : (r.kind != 8) = true := by simp; omega
    have l1_ : decide ((r.txs.length : Int) + (r.dirty.length : Int) > 0) = false := decide_eq_false (by omega)
    have l2_ : decide (0 < (r.txs.length : Int) + (r.dirty.length : Int)) = false := decide_eq_false (by omega)
    have l3_ : decide (0 < r.txs.length + r.dirty.length) = false := decide_eq_false (by omega)
    have n1_ : (r.next != 0) = false := by simp [hx]
    have n2_ : (r.next == 0) = true := by simp [hx]
    clear ht hc hb
    go_wp2_with (first | (go_at_call 34; refine (rtx04_any r.tx _).mono ?_; rintro e w_ ⟨rfl, rfl⟩; rw [HBT.out]) | (go_at_call 35; refine (change04_any r (.slice A r.txs.length c) (.slice B r.dirty.length d) _).mono ?_; rintro e w2 ⟨rfl, hb5⟩; rw [HBC.out]; have n_HN := Lib.hid (HN.out.step hb5); have n_HK := Lib.hid (bstep HK.out hb5); clear hb5 HN HK; have HN := n_HN; have HK := n_HK; clear n_HN n_HK; obtain ⟨q0, q1, q3, q9, q15, q16⟩ : w2.cell? ⟨w.heap.size, 0, none⟩ = some (.int .i64 r.kind) ∧ w2.cell? ⟨w.heap.size, 1, none⟩ = some (.int .i64 r.tx) ∧ w2.cell? ⟨w.heap.size, 3, none⟩ = some (.int .u64 r.next) ∧ w2.cell? ⟨w.heap.size, 9, none⟩ = some (.int .i64 r.undo) ∧ w2.cell? ⟨w.heap.size, 15, none⟩ = some ((.slice A r.txs.length c)) ∧ w2.cell? ⟨w.heap.size, 16, none⟩ = some ((.slice B r.dirty.length d)) := ⟨HN.out.cell 0, HN.out.cell 1, HN.out.cell 3, HN.out.cell 9, HN.out.cell 15, HN.out.cell 16⟩) | (go_at_call 36; refine (bare04_any r (.slice A r.txs.length c) (.slice B r.dirty.length d) _).mono ?_; rintro e w2 ⟨rfl, hb5⟩; rw [HBB.out]; have n_HN := Lib.hid (HN.out.step hb5); have n_HK := Lib.hid (bstep HK.out hb5); clear hb5 HN HK; have HN := n_HN; have HK := n_HK; clear n_HN n_HK; obtain ⟨q0, q1, q3, q9, q15, q16⟩ : w2.cell? ⟨w.heap.size, 0, none⟩ = some (.int .i64 r.kind) ∧ w2.cell? ⟨w.heap.size, 1, none⟩ = some (.int .i64 r.tx) ∧ w2.cell? ⟨w.heap.size, 3, none⟩ = some (.int .u64 r.next) ∧ w2.cell? ⟨w.heap.size, 9, none⟩ = some (.int .i64 r.undo) ∧ w2.cell? ⟨w.heap.size, 15, none⟩ = some ((.slice A r.txs.length c)) ∧ w2.cell? ⟨w.heap.size, 16, none⟩ = some ((.slice B r.dirty.length d)) := ⟨HN.out.cell 0, HN.out.cell 1, HN.out.cell 3, HN.out.cell 9, HN.out.cell 15, HN.out.cell 16⟩) | (with_reducible refine isLoadN 47 (.tmp 1) ?_; with_unfolding_all refine wpList_load_row rfl 47 (.tmp 1) rfl w.heap.size (by kernel_rfl) 47 (rfs r (.slice A r.txs.length c) (.slice B r.dirty.length d)) (0, 0) _ HN.out Try.underlying47 rfl (by kernel_rfl) ?_))
    all_goals (go_ret; exact ⟨⟨_, rfl, HF.out⟩, HK.out⟩)
  · obtain ⟨rfl, hk, hx0⟩ := h0
    have HF := Lib.hid (show false = true ↔ recOk r from by rw [← mayP_iff]; unfold mayP long0; grind)
    have k1_ : (r.kind == 1) = false := by simp; omega
    have k2_ : (r.kind == 2) = false := by simp; omega
    have k3_ : (r.kind == 3) = false := by simp; omega
    have k4_ : (r.kind == 4) = false := by simp; omega
    have k5_ : (r.kind == 5) = false := by simp; omega
    have k6_ : (r.kind == 6) = false := by simp; omega
    have k7_ : (r.kind == 7) = true := by simp; omega
    have k8_ : (r.kind == 8) = false := by simp; omega
    have m2_ : (r.kind != 2) = true := by simp; omega
    have m3_ : (r.kind != 3) = true := by simp; omega
    have m8_ : (r.kind != 8) = true := by simp; omega
    have l1_ : decide ((r.txs.length : Int) + (r.dirty.length : Int) > 0) = true := decide_eq_true (by omega)
    have l2_ : decide (0 < (r.txs.length : Int) + (r.dirty.length : Int)) = true := decide_eq_true (by omega)
    have l3_ : decide (0 < r.txs.length + r.dirty.length) = true := decide_eq_true (by omega)
    clear ht hc hb
    go_wp2_with (first | (go_at_call 34; refine (rtx04_any r.tx _).mono ?_; rintro e w_ ⟨rfl, rfl⟩; rw [HBT.out]) | (go_at_call 35; refine (change04_any r (.slice A r.txs.length c) (.slice B r.dirty.length d) _).mono ?_; rintro e w2 ⟨rfl, hb5⟩; rw [HBC.out]; have n_HN := Lib.hid (HN.out.step hb5); have n_HK := Lib.hid (bstep HK.out hb5); clear hb5 HN HK; have HN := n_HN; have HK := n_HK; clear n_HN n_HK; obtain ⟨q0, q1, q3, q9, q15, q16⟩ : w2.cell? ⟨w.heap.size, 0, none⟩ = some (.int .i64 r.kind) ∧ w2.cell? ⟨w.heap.size, 1, none⟩ = some (.int .i64 r.tx) ∧ w2.cell? ⟨w.heap.size, 3, none⟩ = some (.int .u64 r.next) ∧ w2.cell? ⟨w.heap.size, 9, none⟩ = some (.int .i64 r.undo) ∧ w2.cell? ⟨w.heap.size, 15, none⟩ = some ((.slice A r.txs.length c)) ∧ w2.cell? ⟨w.heap.size, 16, none⟩ = some ((.slice B r.dirty.length d)) := ⟨HN.out.cell 0, HN.out.cell 1, HN.out.cell 3, HN.out.cell 9, HN.out.cell 15, HN.out.cell 16⟩) | (go_at_call 36; refine (bare04_any r (.slice A r.txs.length c) (.slice B r.dirty.length d) _).mono ?_; rintro e w2 ⟨rfl, hb5⟩; rw [HBB.out]; have n_HN := Lib.hid (HN.out.step hb5); have n_HK := Lib.hid (bstep HK.out hb5); clear hb5 HN HK; have HN := n_HN; have HK := n_HK; clear n_HN n_HK; obtain ⟨q0, q1, q3, q9, q15, q16⟩ : w2.cell? ⟨w.heap.size, 0, none⟩ = some (.int .i64 r.kind) ∧ w2.cell? ⟨w.heap.size, 1, none⟩ = some (.int .i64 r.tx) ∧ w2.cell? ⟨w.heap.size, 3, none⟩ = some (.int .u64 r.next) ∧ w2.cell? ⟨w.heap.size, 9, none⟩ = some (.int .i64 r.undo) ∧ w2.cell? ⟨w.heap.size, 15, none⟩ = some ((.slice A r.txs.length c)) ∧ w2.cell? ⟨w.heap.size, 16, none⟩ = some ((.slice B r.dirty.length d)) := ⟨HN.out.cell 0, HN.out.cell 1, HN.out.cell 3, HN.out.cell 9, HN.out.cell 15, HN.out.cell 16⟩) | (with_reducible refine isLoadN 47 (.tmp 1) ?_; with_unfolding_all refine wpList_load_row rfl 47 (.tmp 1) rfl w.heap.size (by kernel_rfl) 47 (rfs r (.slice A r.txs.length c) (.slice B r.dirty.length d)) (0, 0) _ HN.out Try.underlying47 rfl (by kernel_rfl) ?_))
    all_goals (go_ret; exact ⟨⟨_, rfl, HF.out⟩, HK.out⟩)
  · obtain ⟨rfl, hk, hx0, hx⟩ := h0
    have HF := Lib.hid (show false = true ↔ recOk r from by rw [← mayP_iff]; unfold mayP long0; grind)
    have k1_ : (r.kind == 1) = false := by simp; omega
    have k2_ : (r.kind == 2) = false := by simp; omega
    have k3_ : (r.kind == 3) = false := by simp; omega
    have k4_ : (r.kind == 4) = false := by simp; omega
    have k5_ : (r.kind == 5) = false := by simp; omega
    have k6_ : (r.kind == 6) = false := by simp; omega
    have k7_ : (r.kind == 7) = true := by simp; omega
    have k8_ : (r.kind == 8) = false := by simp; omega
    have m2_ : (r.kind != 2) = true := by simp; omega
    have m3_ : (r.kind != 3) = true := by simp; omega
    have m8_ : (r.kind != 8) = true := by simp; omega
    have l1_ : decide ((r.txs.length : Int) + (r.dirty.length : Int) > 0) = false := decide_eq_false (by omega)
    have l2_ : decide (0 < (r.txs.length : Int) + (r.dirty.length : Int)) = false := decide_eq_false (by omega)
    have l3_ : decide (0 < r.txs.length + r.dirty.length) = false := decide_eq_false (by omega)
    have n1_ : (r.next != 0) = true := by simp [hx]
    have n2_ : (r.next == 0) = false := by simp [hx]
    clear ht hc hb
    go_wp2_with (first | (go_at_call 34; refine (rtx04_any r.tx _).mono ?_; rintro e w_ ⟨rfl, rfl⟩; rw [HBT.out]) | (go_at_call 35; refine (change04_any r (.slice A r.txs.length c) (.slice B r.dirty.length d) _).mono ?_; rintro e w2 ⟨rfl, hb5⟩; rw [HBC.out]; have n_HN := Lib.hid (HN.out.step hb5); have n_HK := Lib.hid (bstep HK.out hb5); clear hb5 HN HK; have HN := n_HN; have HK := n_HK; clear n_HN n_HK; obtain ⟨q0, q1, q3, q9, q15, q16⟩ : w2.cell? ⟨w.heap.size, 0, none⟩ = some (.int .i64 r.kind) ∧ w2.cell? ⟨w.heap.size, 1, none⟩ = some (.int .i64 r.tx) ∧ w2.cell? ⟨w.heap.size, 3, none⟩ = some (.int .u64 r.next) ∧ w2.cell? ⟨w.heap.size, 9, none⟩ = some (.int .i64 r.undo) ∧ w2.cell? ⟨w.heap.size, 15, none⟩ = some ((.slice A r.txs.length c)) ∧ w2.cell? ⟨w.heap.size, 16, none⟩ = some ((.slice B r.dirty.length d)) := ⟨HN.out.cell 0, HN.out.cell 1, HN.out.cell 3, HN.out.cell 9, HN.out.cell 15, HN.out.cell 16⟩) | (go_at_call 36; refine (bare04_any r (.slice A r.txs.length c) (.slice B r.dirty.length d) _).mono ?_; rintro e w2 ⟨rfl, hb5⟩; rw [HBB.out]; have n_HN := Lib.hid (HN.out.step hb5); have n_HK := Lib.hid (bstep HK.out hb5); clear hb5 HN HK; have HN := n_HN; have HK := n_HK; clear n_HN n_HK; obtain ⟨q0, q1, q3, q9, q15, q16⟩ : w2.cell? ⟨w.heap.size, 0, none⟩ = some (.int .i64 r.kind) ∧ w2.cell? ⟨w.heap.size, 1, none⟩ = some (.int .i64 r.tx) ∧ w2.cell? ⟨w.heap.size, 3, none⟩ = some (.int .u64 r.next) ∧ w2.cell? ⟨w.heap.size, 9, none⟩ = some (.int .i64 r.undo) ∧ w2.cell? ⟨w.heap.size, 15, none⟩ = some ((.slice A r.txs.length c)) ∧ w2.cell? ⟨w.heap.size, 16, none⟩ = some ((.slice B r.dirty.length d)) := ⟨HN.out.cell 0, HN.out.cell 1, HN.out.cell 3, HN.out.cell 9, HN.out.cell 15, HN.out.cell 16⟩) | (with_reducible refine isLoadN 47 (.tmp 1) ?_; with_unfolding_all refine wpList_load_row rfl 47 (.tmp 1) rfl w.heap.size (by kernel_rfl) 47 (rfs r (.slice A r.txs.length c) (.slice B r.dirty.length d)) (0, 0) _ HN.out Try.underlying47 rfl (by kernel_rfl) ?_))
    all_goals (go_ret; exact ⟨⟨_, rfl, HF.out⟩, HK.out⟩)
  · obtain ⟨rfl, hk, hx0, hx⟩ := h0
    have HF := Lib.hid (show bb = true ↔ recOk r from by rw [← mayP_iff]; unfold mayP long0; grind)
    have k1_ : (r.kind == 1) = false := by simp; omega
    have k2_ : (r.kind == 2) = false := by simp; omega
    have k3_ : (r.kind == 3) = false := by simp; omega
    have k4_ : (r.kind == 4) = false := by simp; omega
    have k5_ : (r.kind == 5) = false := by simp; omega
    have k6_ : (r.kind == 6) = false := by simp; omega
    have k7_ : (r.kind == 7) = true := by simp; omega
    have k8_ : (r.kind == 8) = false := by simp; omega
    have m2_ : (r.kind != 2) = true := by simp; omega
    have m3_ : (r.kind != 3) = true := by simp; omega
    have m8_ : (r.kind != 8) = true := by simp; omega
    have l1_ : decide ((r.txs.length : Int) + (r.dirty.length : Int) > 0) = false := decide_eq_false (by omega)
    have l2_ : decide (0 < (r.txs.length : Int) + (r.dirty.length : Int)) = false := decide_eq_false (by omega)
    have l3_ : decide (0 < r.txs.length + r.dirty.length) = false := decide_eq_false (by omega)
    have n1_ : (r.next != 0) = false := by simp [hx]
    have n2_ : (r.next == 0) = true := by simp [hx]
    clear ht hc hb
    go_wp2_with (first | (go_at_call 34; refine (rtx04_any r.tx _).mono ?_; rintro e w_ ⟨rfl, rfl⟩; rw [HBT.out]) | (go_at_call 35; refine (change04_any r (.slice A r.txs.length c) (.slice B r.dirty.length d) _).mono ?_; rintro e w2 ⟨rfl, hb5⟩; rw [HBC.out]; have n_HN := Lib.hid (HN.out.step hb5); have n_HK := Lib.hid (bstep HK.out hb5); clear hb5 HN HK; have HN := n_HN; have HK := n_HK; clear n_HN n_HK; obtain ⟨q0, q1, q3, q9, q15, q16⟩ : w2.cell? ⟨w.heap.size, 0, none⟩ = some (.int .i64 r.kind) ∧ w2.cell? ⟨w.heap.size, 1, none⟩ = some (.int .i64 r.tx) ∧ w2.cell? ⟨w.heap.size, 3, none⟩ = some (.int .u64 r.next) ∧ w2.cell? ⟨w.heap.size, 9, none⟩ = some (.int .i64 r.undo) ∧ w2.cell? ⟨w.heap.size, 15, none⟩ = some ((.slice A r.txs.length c)) ∧ w2.cell? ⟨w.heap.size, 16, none⟩ = some ((.slice B r.dirty.length d)) := ⟨HN.out.cell 0, HN.out.cell 1, HN.out.cell 3, HN.out.cell 9, HN.out.cell 15, HN.out.cell 16⟩) | (go_at_call 36; refine (bare04_any r (.slice A r.txs.length c) (.slice B r.dirty.length d) _).mono ?_; rintro e w2 ⟨rfl, hb5⟩; rw [HBB.out]; have n_HN := Lib.hid (HN.out.step hb5); have n_HK := Lib.hid (bstep HK.out hb5); clear hb5 HN HK; have HN := n_HN; have HK := n_HK; clear n_HN n_HK; obtain ⟨q0, q1, q3, q9, q15, q16⟩ : w2.cell? ⟨w.heap.size, 0, none⟩ = some (.int .i64 r.kind) ∧ w2.cell? ⟨w.heap.size, 1, none⟩ = some (.int .i64 r.tx) ∧ w2.cell? ⟨w.heap.size, 3, none⟩ = some (.int .u64 r.next) ∧ w2.cell? ⟨w.heap.size, 9, none⟩ = some (.int .i64 r.undo) ∧ w2.cell? ⟨w.heap.size, 15, none⟩ = some ((.slice A r.txs.length c)) ∧ w2.cell? ⟨w.heap.size, 16, none⟩ = some ((.slice B r.dirty.length d)) := ⟨HN.out.cell 0, HN.out.cell 1, HN.out.cell 3, HN.out.cell 9, HN.out.cell 15, HN.out.cell 16⟩) | (with_reducible refine isLoadN 47 (.tmp 1) ?_; with_unfolding_all refine wpList_load_row rfl 47 (.tmp 1) rfl w.heap.size (by kernel_rfl) 47 (rfs r (.slice A r.txs.length c) (.slice B r.dirty.length d)) (0, 0) _ HN.out Try.underlying47 rfl (by kernel_rfl) ?_))
    all_goals (go_ret; exact ⟨⟨_, rfl, HF.out⟩, HK.out⟩)
  · obtain ⟨rfl, hk, hx0⟩ := h0
    have HF := Lib.hid (show false = true ↔ recOk r from by rw [← mayP_iff]; unfold mayP long0; grind)
    have k1_ : (r.kind == 1) = false := by simp; omega
    have k2_ : (r.kind == 2) = false := by simp; omega
    have k3_ : (r.kind == 3) = false := by simp; omega
    have k4_ : (r.kind == 4) = false := by simp; omega
    have k5_ : (r.kind == 5) = false := by simp; omega
    have k6_ : (r.kind == 6) = false := by simp; omega
    have k7_ : (r.kind == 7) = false := by simp; omega
    have k8_ : (r.kind == 8) = false := by simp; omega
    have m2_ : (r.kind != 2) = true := by simp; omega
    have m3_ : (r.kind != 3) = true := by simp; omega
    have m8_ : (r.kind != 8) = true := by simp; omega
    have l1_ : decide ((r.txs.length : Int) + (r.dirty.length : Int) > 0) = true := decide_eq_true (by omega)
    have l2_ : decide (0 < (r.txs.length : Int) + (r.dirty.length : Int)) = true := decide_eq_true (by omega)
    have l3_ : decide (0 < r.txs.length + r.dirty.length) = true := decide_eq_true (by omega)
    clear ht hc hb
    go_wp2_with (first | (go_at_call 34; refine (rtx04_any r.tx _).mono ?_; rintro e w_ ⟨rfl, rfl⟩; rw [HBT.out]) | (go_at_call 35; refine (change04_any r (.slice A r.txs.length c) (.slice B r.dirty.length d) _).mono ?_; rintro e w2 ⟨rfl, hb5⟩; rw [HBC.out]; have n_HN := Lib.hid (HN.out.step hb5); have n_HK := Lib.hid (bstep HK.out hb5); clear hb5 HN HK; have HN := n_HN; have HK := n_HK; clear n_HN n_HK; obtain ⟨q0, q1, q3, q9, q15, q16⟩ : w2.cell? ⟨w.heap.size, 0, none⟩ = some (.int .i64 r.kind) ∧ w2.cell? ⟨w.heap.size, 1, none⟩ = some (.int .i64 r.tx) ∧ w2.cell? ⟨w.heap.size, 3, none⟩ = some (.int .u64 r.next) ∧ w2.cell? ⟨w.heap.size, 9, none⟩ = some (.int .i64 r.undo) ∧ w2.cell? ⟨w.heap.size, 15, none⟩ = some ((.slice A r.txs.length c)) ∧ w2.cell? ⟨w.heap.size, 16, none⟩ = some ((.slice B r.dirty.length d)) := ⟨HN.out.cell 0, HN.out.cell 1, HN.out.cell 3, HN.out.cell 9, HN.out.cell 15, HN.out.cell 16⟩) | (go_at_call 36; refine (bare04_any r (.slice A r.txs.length c) (.slice B r.dirty.length d) _).mono ?_; rintro e w2 ⟨rfl, hb5⟩; rw [HBB.out]; have n_HN := Lib.hid (HN.out.step hb5); have n_HK := Lib.hid (bstep HK.out hb5); clear hb5 HN HK; have HN := n_HN; have HK := n_HK; clear n_HN n_HK; obtain ⟨q0, q1, q3, q9, q15, q16⟩ : w2.cell? ⟨w.heap.size, 0, none⟩ = some (.int .i64 r.kind) ∧ w2.cell? ⟨w.heap.size, 1, none⟩ = some (.int .i64 r.tx) ∧ w2.cell? ⟨w.heap.size, 3, none⟩ = some (.int .u64 r.next) ∧ w2.cell? ⟨w.heap.size, 9, none⟩ = some (.int .i64 r.undo) ∧ w2.cell? ⟨w.heap.size, 15, none⟩ = some ((.slice A r.txs.length c)) ∧ w2.cell? ⟨w.heap.size, 16, none⟩ = some ((.slice B r.dirty.length d)) := ⟨HN.out.cell 0, HN.out.cell 1, HN.out.cell 3, HN.out.cell 9, HN.out.cell 15, HN.out.cell 16⟩) | (with_reducible refine isLoadN 47 (.tmp 1) ?_; with_unfolding_all refine wpList_load_row rfl 47 (.tmp 1) rfl w.heap.size (by kernel_rfl) 47 (rfs r (.slice A r.txs.length c) (.slice B r.dirty.length d)) (0, 0) _ HN.out Try.underlying47 rfl (by kernel_rfl) ?_))
    all_goals (go_ret; exact ⟨⟨_, rfl, HF.out⟩, HK.out⟩)
end Go.Proofs.Ytebickoieipjpaa
end
section
namespace Go.Proofs.Ytebickoieipjpaa
open Go.RowKit Go.Gi Go.GiRow
set_option maxRecDepth 20000
set_option linter.unusedSimpArgs false
set_option linter.unusedVariables false
set_option maxHeartbeats 8000000 in
theorem may04_g3 (r : RecR) (A : Option Addr) (c : Nat) (B : Option Addr) (d : Nat) (w : World) (hA : RdRows StR.cells 4 w A r.txs) (hl : r.txs.length * 32 ≤ 140737488351232) (hd : r.dirty.length * 16 ≤ 140737488351232) (bt bc bb : Bool) (hbt : decide (0 ≤ r.tx ∧ r.tx < 2147483648) = bt) (hbc : decide (chgP r) = bc) (hbb : decide (bareP r) = bb) (hcase : (bt = true ∧ (r.kind < 1 ∨ 8 < r.kind) ∧ r.txs.length + r.dirty.length = 0 ∧ ¬ r.next = 0) ∨ (bt = true ∧ (r.kind < 1 ∨ 8 < r.kind) ∧ r.txs.length + r.dirty.length = 0 ∧ r.next = 0) ∨ (bt = true ∧ r.kind = 8 ∧ ¬ r.next = 0) ∨ (bt = true ∧ r.kind = 8 ∧ r.next = 0 ∧ bb = false) ∨ (bt = true ∧ r.kind = 8 ∧ r.next = 0 ∧ bb = true ∧ 64 < r.txs.length) ∨ (bt = true ∧ r.kind = 8 ∧ r.next = 0 ∧ bb = true ∧ r.txs.length ≤ 64 ∧ 256 < r.dirty.length) ∨ (bt = true ∧ r.kind = 8 ∧ r.next = 0 ∧ bb = true ∧ r.txs.length ≤ 64 ∧ r.dirty.length ≤ 256)) :
    Calls Try.prog 14 #[.agg (rfs r (.slice A r.txs.length c) (.slice B r.dirty.length d))] w fun e w' => (∃ b, e = .returned (.bool b) ∧ (b = true ↔ recOk r)) ∧ Below w.heap.size w w' := by
  have HA := Lib.hid hA
  clear hA
  have ht : bt = true ↔ (0 ≤ r.tx ∧ r.tx < 2147483648) := by rw [← hbt]; simp
  have hc : bc = true ↔ chgP r := by rw [← hbc]; simp
  have hb : bb = true ↔ bareP r := by rw [← hbb]; simp
  have HBT := Lib.hid hbt
  have HBC := Lib.hid hbc
  have HBB := Lib.hid hbb
  clear hbt hbc hbb
  have HN := Lib.hid (Blk.new w 47 (rfs r (.slice A r.txs.length c) (.slice B r.dirty.length d)))
  have HK := Lib.hid (balloc (Below.refl w.heap.size w) (.cells (rfs r (.slice A r.txs.length c) (.slice B r.dirty.length d)) 47))
  go_enter Try.func14, Try.ntmps14
  go_upto_region 1 with fail
  generalize w.alloc (.cells (rfs r (.slice A r.txs.length c) (.slice B r.dirty.length d)) 47) = w1 at *
  obtain ⟨q0, q1, q3, q9, q15, q16⟩ : w1.cell? ⟨w.heap.size, 0, none⟩ = some (.int .i64 r.kind) ∧ w1.cell? ⟨w.heap.size, 1, none⟩ = some (.int .i64 r.tx) ∧ w1.cell? ⟨w.heap.size, 3, none⟩ = some (.int .u64 r.next) ∧ w1.cell? ⟨w.heap.size, 9, none⟩ = some (.int .i64 r.undo) ∧ w1.cell? ⟨w.heap.size, 15, none⟩ = some ((.slice A r.txs.length c)) ∧ w1.cell? ⟨w.heap.size, 16, none⟩ = some ((.slice B r.dirty.length d)) := ⟨HN.out.cell 0, HN.out.cell 1, HN.out.cell 3, HN.out.cell 9, HN.out.cell 15, HN.out.cell 16⟩
  rcases hcase with h0 | h0 | h0 | h0 | h0 | h0 | h0
  · obtain ⟨rfl, hk, hx0, hx⟩ := h0
    have HF := Lib.hid (show false = true ↔ recOk r from by rw [← mayP_iff]; unfold mayP long0; grind)
    have k1_ : (r.kind == 1) = false := by simp; omega
    have k2_ : (r.kind == 2) = false := by simp; omega
    have k3_ : (r.kind == 3) = false := by simp; omega
    have k4_ : (r.kind == 4) = false := by simp; omega
    have k5_ : (r.kind == 5) = false := by simp; omega
    have k6_ : (r.kind == 6) = false := by simp; omega
    have k7_ : (r.kind == 7) = false := by simp; omega
    have k8_ : (r.kind == 8) = false := by simp; omega
    have m2_ : (r.kind != 2) = true := by simp; omega
    have m3_ : (r.kind != 3) = true := by simp; omega
    have m8_ : (r.kind != 8) = true := by simp; omega
    have l1_ : decide ((r.txs.length : Int) + (r.dirty.length : Int) > 0) = false := decide_eq_false (by omega)
    have l2_ : decide (0 < (r.txs.length : Int) + (r.dirty.length : Int)) = false := decide_eq_false (by omega)
    have l3_ : decide (0 < r.txs.length + r.dirty.length) = false := decide_eq_false (by omega)
    have n1_ : (r.next != 0) = true := by simp [hx]
    have n2_ : (r.next == 0) = false := by simp [hx]
    clear ht hc hb
    go_wp2_with (first | (go_at_call 34; refine (rtx04_any r.tx _).mono ?_; rintro e w_ ⟨rfl, rfl⟩; rw [HBT.out]) | (go_at_call 35; refine (change04_any r (.slice A r.txs.length c) (.slice B r.dirty.length d) _).mono ?_; rintro e w2 ⟨rfl, hb5⟩; rw [HBC.out]; have n_HN := Lib.hid (HN.out.step hb5); have n_HK := Lib.hid (bstep HK.out hb5); clear hb5 HN HK; have HN := n_HN; have HK := n_HK; clear n_HN n_HK; obtain ⟨q0, q1, q3, q9, q15, q16⟩ : w2.cell? ⟨w.heap.size, 0, none⟩ = some (.int .i64 r.kind) ∧ w2.cell? ⟨w.heap.size, 1, none⟩ = some (.int .i64 r.tx) ∧ w2.cell? ⟨w.heap.size, 3, none⟩ = some (.int .u64 r.next) ∧ w2.cell? ⟨w.heap.size, 9, none⟩ = some (.int .i64 r.undo) ∧ w2.cell? ⟨w.heap.size, 15, none⟩ = some ((.slice A r.txs.length c)) ∧ w2.cell? ⟨w.heap.size, 16, none⟩ = some ((.slice B r.dirty.length d)) := ⟨HN.out.cell 0, HN.out.cell 1, HN.out.cell 3, HN.out.cell 9, HN.out.cell 15, HN.out.cell 16⟩) | (go_at_call 36; refine (bare04_any r (.slice A r.txs.length c) (.slice B r.dirty.length d) _).mono ?_; rintro e w2 ⟨rfl, hb5⟩; rw [HBB.out]; have n_HN := Lib.hid (HN.out.step hb5); have n_HK := Lib.hid (bstep HK.out hb5); clear hb5 HN HK; have HN := n_HN; have HK := n_HK; clear n_HN n_HK; obtain ⟨q0, q1, q3, q9, q15, q16⟩ : w2.cell? ⟨w.heap.size, 0, none⟩ = some (.int .i64 r.kind) ∧ w2.cell? ⟨w.heap.size, 1, none⟩ = some (.int .i64 r.tx) ∧ w2.cell? ⟨w.heap.size, 3, none⟩ = some (.int .u64 r.next) ∧ w2.cell? ⟨w.heap.size, 9, none⟩ = some (.int .i64 r.undo) ∧ w2.cell? ⟨w.heap.size, 15, none⟩ = some ((.slice A r.txs.length c)) ∧ w2.cell? ⟨w.heap.size, 16, none⟩ = some ((.slice B r.dirty.length d)) := ⟨HN.out.cell 0, HN.out.cell 1, HN.out.cell 3, HN.out.cell 9, HN.out.cell 15, HN.out.cell 16⟩) | (with_reducible refine isLoadN 47 (.tmp 1) ?_; with_unfolding_all refine wpList_load_row rfl 47 (.tmp 1) rfl w.heap.size (by kernel_rfl) 47 (rfs r (.slice A r.txs.length c) (.slice B r.dirty.length d)) (0, 0) _ HN.out Try.underlying47 rfl (by kernel_rfl) ?_))
    all_goals (go_ret; exact ⟨⟨_, rfl, HF.out⟩, HK.out⟩)
  · obtain ⟨rfl, hk, hx0, hx⟩ := h0
    have HF := Lib.hid (show false = true ↔ recOk r from by rw [← mayP_iff]; unfold mayP long0; grind)
    have k1_ : (r.kind == 1) = false := by simp; omega
    have k2_ : (r.kind == 2) = false := by simp; omega
    have k3_ : (r.kind == 3) = false := by simp; omega
    have k4_ : (r.kind == 4) = false := by simp; omega
    have k5_ : (r.kind == 5) = false := by simp; omega
    have k6_ : (r.kind == 6) = false := by simp; omega
    have k7_ : (r.kind == 7) = false := by simp; omega
    have k8_ : (r.kind == 8) = false := by simp; omega
    have m2_ : (r.kind != 2) = true := by simp; omega
    have m3_ : (r.kind != 3) = true := by simp; omega
    have m8_ : (r.kind != 8) = true := by simp; omega
    have l1_ : decide ((r.txs.length : Int) + (r.dirty.length : Int) > 0) = false := decide_eq_false (by omega)
    have l2_ : decide (0 < (r.txs.length : Int) + (r.dirty.length : Int)) = false := decide_eq_false (by omega)
    have l3_ : decide (0 < r.txs.length + r.dirty.length) = false := decide_eq_false (by omega)
    have n1_ : (r.next != 0) = false := by simp [hx]
    have n2_ : (r.next == 0) = true := by simp [hx]
    clear ht hc hb
    go_wp2_with (first | (go_at_call 34; refine (rtx04_any r.tx _).mono ?_; rintro e w_ ⟨rfl, rfl⟩; rw [HBT.out]) | (go_at_call 35; refine (change04_any r (.slice A r.txs.length c) (.slice B r.dirty.length d) _).mono ?_; rintro e w2 ⟨rfl, hb5⟩; rw [HBC.out]; have n_HN := Lib.hid (HN.out.step hb5); have n_HK := Lib.hid (bstep HK.out hb5); clear hb5 HN HK; have HN := n_HN; have HK := n_HK; clear n_HN n_HK; obtain ⟨q0, q1, q3, q9, q15, q16⟩ : w2.cell? ⟨w.heap.size, 0, none⟩ = some (.int .i64 r.kind) ∧ w2.cell? ⟨w.heap.size, 1, none⟩ = some (.int .i64 r.tx) ∧ w2.cell? ⟨w.heap.size, 3, none⟩ = some (.int .u64 r.next) ∧ w2.cell? ⟨w.heap.size, 9, none⟩ = some (.int .i64 r.undo) ∧ w2.cell? ⟨w.heap.size, 15, none⟩ = some ((.slice A r.txs.length c)) ∧ w2.cell? ⟨w.heap.size, 16, none⟩ = some ((.slice B r.dirty.length d)) := ⟨HN.out.cell 0, HN.out.cell 1, HN.out.cell 3, HN.out.cell 9, HN.out.cell 15, HN.out.cell 16⟩) | (go_at_call 36; refine (bare04_any r (.slice A r.txs.length c) (.slice B r.dirty.length d) _).mono ?_; rintro e w2 ⟨rfl, hb5⟩; rw [HBB.out]; have n_HN := Lib.hid (HN.out.step hb5); have n_HK := Lib.hid (bstep HK.out hb5); clear hb5 HN HK; have HN := n_HN; have HK := n_HK; clear n_HN n_HK; obtain ⟨q0, q1, q3, q9, q15, q16⟩ : w2.cell? ⟨w.heap.size, 0, none⟩ = some (.int .i64 r.kind) ∧ w2.cell? ⟨w.heap.size, 1, none⟩ = some (.int .i64 r.tx) ∧ w2.cell? ⟨w.heap.size, 3, none⟩ = some (.int .u64 r.next) ∧ w2.cell? ⟨w.heap.size, 9, none⟩ = some (.int .i64 r.undo) ∧ w2.cell? ⟨w.heap.size, 15, none⟩ = some ((.slice A r.txs.length c)) ∧ w2.cell? ⟨w.heap.size, 16, none⟩ = some ((.slice B r.dirty.length d)) := ⟨HN.out.cell 0, HN.out.cell 1, HN.out.cell 3, HN.out.cell 9, HN.out.cell 15, HN.out.cell 16⟩) | (with_reducible refine isLoadN 47 (.tmp 1) ?_; with_unfolding_all refine wpList_load_row rfl 47 (.tmp 1) rfl w.heap.size (by kernel_rfl) 47 (rfs r (.slice A r.txs.length c) (.slice B r.dirty.length d)) (0, 0) _ HN.out Try.underlying47 rfl (by kernel_rfl) ?_))
    all_goals (go_ret; exact ⟨⟨_, rfl, HF.out⟩, HK.out⟩)
  · obtain ⟨rfl, hk, hx⟩ := h0
    have HF := Lib.hid (show false = true ↔ recOk r from by rw [← mayP_iff]; unfold mayP long0; grind)
    have k1_ : (r.kind == 1) = false := by simp; omega
    have k2_ : (r.kind == 2) = false := by simp; omega
    have k3_ : (r.kind == 3) = false := by simp; omega
    have k4_ : (r.kind == 4) = false := by simp; omega
    have k5_ : (r.kind == 5) = false := by simp; omega
    have k6_ : (r.kind == 6) = false := by simp; omega
    have k7_ : (r.kind == 7) = false := by simp; omega
    have k8_ : (r.kind == 8) = true := by simp; omega
    have m2_ : (r.kind != 2) = true := by simp; omega
    have m3_ : (r.kind != 3) = true := by simp; omega
    have m8_ : (r.kind != 8) = false := by simp; omega
    have n1_ : (r.next != 0) = true := by simp [hx]
    have n2_ : (r.next == 0) = false := by simp [hx]
    clear ht hc hb
    go_wp2_with (first | (go_at_call 34; refine (rtx04_any r.tx _).mono ?_; rintro e w_ ⟨rfl, rfl⟩; rw [HBT.out]) | (go_at_call 35; refine (change04_any r (.slice A r.txs.length c) (.slice B r.dirty.length d) _).mono ?_; rintro e w2 ⟨rfl, hb5⟩; rw [HBC.out]; have n_HN := Lib.hid (HN.out.step hb5); have n_HK := Lib.hid (bstep HK.out hb5); clear hb5 HN HK; have HN := n_HN; have HK := n_HK; clear n_HN n_HK; obtain ⟨q0, q1, q3, q9, q15, q16⟩ : w2.cell? ⟨w.heap.size, 0, none⟩ = some (.int .i64 r.kind) ∧ w2.cell? ⟨w.heap.size, 1, none⟩ = some (.int .i64 r.tx) ∧ w2.cell? ⟨w.heap.size, 3, none⟩ = some (.int .u64 r.next) ∧ w2.cell? ⟨w.heap.size, 9, none⟩ = some (.int .i64 r.undo) ∧ w2.cell? ⟨w.heap.size, 15, none⟩ = some ((.slice A r.txs.length c)) ∧ w2.cell? ⟨w.heap.size, 16, none⟩ = some ((.slice B r.dirty.length d)) := ⟨HN.out.cell 0, HN.out.cell 1, HN.out.cell 3, HN.out.cell 9, HN.out.cell 15, HN.out.cell 16⟩) | (go_at_call 36; refine (bare04_any r (.slice A r.txs.length c) (.slice B r.dirty.length d) _).mono ?_; rintro e w2 ⟨rfl, hb5⟩; rw [HBB.out]; have n_HN := Lib.hid (HN.out.step hb5); have n_HK := Lib.hid (bstep HK.out hb5); clear hb5 HN HK; have HN := n_HN; have HK := n_HK; clear n_HN n_HK; obtain ⟨q0, q1, q3, q9, q15, q16⟩ : w2.cell? ⟨w.heap.size, 0, none⟩ = some (.int .i64 r.kind) ∧ w2.cell? ⟨w.heap.size, 1, none⟩ = some (.int .i64 r.tx) ∧ w2.cell? ⟨w.heap.size, 3, none⟩ = some (.int .u64 r.next) ∧ w2.cell? ⟨w.heap.size, 9, none⟩ = some (.int .i64 r.undo) ∧ w2.cell? ⟨w.heap.size, 15, none⟩ = some ((.slice A r.txs.length c)) ∧ w2.cell? ⟨w.heap.size, 16, none⟩ = some ((.slice B r.dirty.length d)) := ⟨HN.out.cell 0, HN.out.cell 1, HN.out.cell 3, HN.out.cell 9, HN.out.cell 15, HN.out.cell 16⟩) | (with_reducible refine isLoadN 47 (.tmp 1) ?_; with_unfolding_all refine wpList_load_row rfl 47 (.tmp 1) rfl w.heap.size (by kernel_rfl) 47 (rfs r (.slice A r.txs.length c) (.slice B r.dirty.length d)) (0, 0) _ HN.out Try.underlying47 rfl (by kernel_rfl) ?_))
    all_goals (go_ret; exact ⟨⟨_, rfl, HF.out⟩, HK.out⟩)
  · obtain ⟨rfl, hk, hx, hbb0⟩ := h0
    have HF := Lib.hid (show false = true ↔ recOk r from by rw [← mayP_iff]; unfold mayP long0; grind)
    have k1_ : (r.kind == 1) = false := by simp; omega
    have k2_ : (r.kind == 2) = false := by simp; omega
    have k3_ : (r.kind == 3) = false := by simp; omega
    have k4_ : (r.kind == 4) = false := by simp; omega
    have k5_ : (r.kind == 5) = false := by simp; omega
    have k6_ : (r.kind == 6) = false := by simp; omega
    have k7_ : (r.kind == 7) = false := by simp; omega
    have k8_ : (r.kind == 8) = true := by simp; omega
    have m2_ : (r.kind != 2) = true := by simp; omega
    have m3_ : (r.kind != 3) = true := by simp; omega
    have m8_ : (r.kind != 8) = false := by simp; omega
    have n1_ : (r.next != 0) = false := by simp [hx]
    have n2_ : (r.next == 0) = true := by simp [hx]
    subst hbb0
    clear ht hc hb
    go_wp2_with (first | (go_at_call 34; refine (rtx04_any r.tx _).mono ?_; rintro e w_ ⟨rfl, rfl⟩; rw [HBT.out]) | (go_at_call 35; refine (change04_any r (.slice A r.txs.length c) (.slice B r.dirty.length d) _).mono ?_; rintro e w2 ⟨rfl, hb5⟩; rw [HBC.out]; have n_HN := Lib.hid (HN.out.step hb5); have n_HK := Lib.hid (bstep HK.out hb5); clear hb5 HN HK; have HN := n_HN; have HK := n_HK; clear n_HN n_HK; obtain ⟨q0, q1, q3, q9, q15, q16⟩ : w2.cell? ⟨w.heap.size, 0, none⟩ = some (.int .i64 r.kind) ∧ w2.cell? ⟨w.heap.size, 1, none⟩ = some (.int .i64 r.tx) ∧ w2.cell? ⟨w.heap.size, 3, none⟩ = some (.int .u64 r.next) ∧ w2.cell? ⟨w.heap.size, 9, none⟩ = some (.int .i64 r.undo) ∧ w2.cell? ⟨w.heap.size, 15, none⟩ = some ((.slice A r.txs.length c)) ∧ w2.cell? ⟨w.heap.size, 16, none⟩ = some ((.slice B r.dirty.length d)) := ⟨HN.out.cell 0, HN.out.cell 1, HN.out.cell 3, HN.out.cell 9, HN.out.cell 15, HN.out.cell 16⟩) | (go_at_call 36; refine (bare04_any r (.slice A r.txs.length c) (.slice B r.dirty.length d) _).mono ?_; rintro e w2 ⟨rfl, hb5⟩; rw [HBB.out]; have n_HN := Lib.hid (HN.out.step hb5); have n_HK := Lib.hid (bstep HK.out hb5); clear hb5 HN HK; have HN := n_HN; have HK := n_HK; clear n_HN n_HK; obtain ⟨q0, q1, q3, q9, q15, q16⟩ : w2.cell? ⟨w.heap.size, 0, none⟩ = some (.int .i64 r.kind) ∧ w2.cell? ⟨w.heap.size, 1, none⟩ = some (.int .i64 r.tx) ∧ w2.cell? ⟨w.heap.size, 3, none⟩ = some (.int .u64 r.next) ∧ w2.cell? ⟨w.heap.size, 9, none⟩ = some (.int .i64 r.undo) ∧ w2.cell? ⟨w.heap.size, 15, none⟩ = some ((.slice A r.txs.length c)) ∧ w2.cell? ⟨w.heap.size, 16, none⟩ = some ((.slice B r.dirty.length d)) := ⟨HN.out.cell 0, HN.out.cell 1, HN.out.cell 3, HN.out.cell 9, HN.out.cell 15, HN.out.cell 16⟩) | (with_reducible refine isLoadN 47 (.tmp 1) ?_; with_unfolding_all refine wpList_load_row rfl 47 (.tmp 1) rfl w.heap.size (by kernel_rfl) 47 (rfs r (.slice A r.txs.length c) (.slice B r.dirty.length d)) (0, 0) _ HN.out Try.underlying47 rfl (by kernel_rfl) ?_))
    all_goals (go_ret; exact ⟨⟨_, rfl, HF.out⟩, HK.out⟩)
  · obtain ⟨rfl, hk, hx, hbb0, hg⟩ := h0
    have HF := Lib.hid (show false = true ↔ recOk r from by rw [← mayP_iff]; unfold mayP long0; grind)
    have k1_ : (r.kind == 1) = false := by simp; omega
    have k2_ : (r.kind == 2) = false := by simp; omega
    have k3_ : (r.kind == 3) = false := by simp; omega
    have k4_ : (r.kind == 4) = false := by simp; omega
    have k5_ : (r.kind == 5) = false := by simp; omega
    have k6_ : (r.kind == 6) = false := by simp; omega
    have k7_ : (r.kind == 7) = false := by simp; omega
    have k8_ : (r.kind == 8) = true := by simp; omega
    have m2_ : (r.kind != 2) = true := by simp; omega
    have m3_ : (r.kind != 3) = true := by simp; omega
    have m8_ : (r.kind != 8) = false := by simp; omega
    have n1_ : (r.next != 0) = false := by simp [hx]
    have n2_ : (r.next == 0) = true := by simp [hx]
    have g1_ : decide ((r.txs.length : Int) > 64) = true := decide_eq_true (by omega)
    have g2_ : decide (r.txs.length > 64) = true := decide_eq_true (by omega)
    subst hbb0
    clear ht hc hb
    go_wp2_with (first | (go_at_call 34; refine (rtx04_any r.tx _).mono ?_; rintro e w_ ⟨rfl, rfl⟩; rw [HBT.out]) | (go_at_call 35; refine (change04_any r (.slice A r.txs.length c) (.slice B r.dirty.length d) _).mono ?_; rintro e w2 ⟨rfl, hb5⟩; rw [HBC.out]; have n_HN := Lib.hid (HN.out.step hb5); have n_HK := Lib.hid (bstep HK.out hb5); clear hb5 HN HK; have HN := n_HN; have HK := n_HK; clear n_HN n_HK; obtain ⟨q0, q1, q3, q9, q15, q16⟩ : w2.cell? ⟨w.heap.size, 0, none⟩ = some (.int .i64 r.kind) ∧ w2.cell? ⟨w.heap.size, 1, none⟩ = some (.int .i64 r.tx) ∧ w2.cell? ⟨w.heap.size, 3, none⟩ = some (.int .u64 r.next) ∧ w2.cell? ⟨w.heap.size, 9, none⟩ = some (.int .i64 r.undo) ∧ w2.cell? ⟨w.heap.size, 15, none⟩ = some ((.slice A r.txs.length c)) ∧ w2.cell? ⟨w.heap.size, 16, none⟩ = some ((.slice B r.dirty.length d)) := ⟨HN.out.cell 0, HN.out.cell 1, HN.out.cell 3, HN.out.cell 9, HN.out.cell 15, HN.out.cell 16⟩) | (go_at_call 36; refine (bare04_any r (.slice A r.txs.length c) (.slice B r.dirty.length d) _).mono ?_; rintro e w2 ⟨rfl, hb5⟩; rw [HBB.out]; have n_HN := Lib.hid (HN.out.step hb5); have n_HK := Lib.hid (bstep HK.out hb5); clear hb5 HN HK; have HN := n_HN; have HK := n_HK; clear n_HN n_HK; obtain ⟨q0, q1, q3, q9, q15, q16⟩ : w2.cell? ⟨w.heap.size, 0, none⟩ = some (.int .i64 r.kind) ∧ w2.cell? ⟨w.heap.size, 1, none⟩ = some (.int .i64 r.tx) ∧ w2.cell? ⟨w.heap.size, 3, none⟩ = some (.int .u64 r.next) ∧ w2.cell? ⟨w.heap.size, 9, none⟩ = some (.int .i64 r.undo) ∧ w2.cell? ⟨w.heap.size, 15, none⟩ = some ((.slice A r.txs.length c)) ∧ w2.cell? ⟨w.heap.size, 16, none⟩ = some ((.slice B r.dirty.length d)) := ⟨HN.out.cell 0, HN.out.cell 1, HN.out.cell 3, HN.out.cell 9, HN.out.cell 15, HN.out.cell 16⟩) | (with_reducible refine isLoadN 47 (.tmp 1) ?_; with_unfolding_all refine wpList_load_row rfl 47 (.tmp 1) rfl w.heap.size (by kernel_rfl) 47 (rfs r (.slice A r.txs.length c) (.slice B r.dirty.length d)) (0, 0) _ HN.out Try.underlying47 rfl (by kernel_rfl) ?_))
    all_goals (go_ret; exact ⟨⟨_, rfl, HF.out⟩, HK.out⟩)
  · obtain ⟨rfl, hk, hx, hbb0, hg, hg2⟩ := h0
    have HF := Lib.hid (show false = true ↔ recOk r from by rw [← mayP_iff]; unfold mayP long0; grind)
    have k1_ : (r.kind == 1) = false := by simp; omega
    have k2_ : (r.kind == 2) = false := by simp; omega
    have k3_ : (r.kind == 3) = false := by simp; omega
    have k4_ : (r.kind == 4) = false := by simp; omega
    have k5_ : (r.kind == 5) = false := by simp; omega
    have k6_ : (r.kind == 6) = false := by simp; omega
    have k7_ : (r.kind == 7) = false := by simp; omega
    have k8_ : (r.kind == 8) = true := by simp; omega
    have m2_ : (r.kind != 2) = true := by simp; omega
    have m3_ : (r.kind != 3) = true := by simp; omega
    have m8_ : (r.kind != 8) = false := by simp; omega
    have n1_ : (r.next != 0) = false := by simp [hx]
    have n2_ : (r.next == 0) = true := by simp [hx]
    have g1_ : decide ((r.txs.length : Int) > 64) = false := decide_eq_false (by omega)
    have g2_ : decide (r.txs.length > 64) = false := decide_eq_false (by omega)
    have g3_ : decide ((r.dirty.length : Int) > 256) = true := decide_eq_true (by omega)
    have g4_ : decide (r.dirty.length > 256) = true := decide_eq_true (by omega)
    subst hbb0
    clear ht hc hb
    go_wp2_with (first | (go_at_call 34; refine (rtx04_any r.tx _).mono ?_; rintro e w_ ⟨rfl, rfl⟩; rw [HBT.out]) | (go_at_call 35; refine (change04_any r (.slice A r.txs.length c) (.slice B r.dirty.length d) _).mono ?_; rintro e w2 ⟨rfl, hb5⟩; rw [HBC.out]; have n_HN := Lib.hid (HN.out.step hb5); have n_HK := Lib.hid (bstep HK.out hb5); clear hb5 HN HK; have HN := n_HN; have HK := n_HK; clear n_HN n_HK; obtain ⟨q0, q1, q3, q9, q15, q16⟩ : w2.cell? ⟨w.heap.size, 0, none⟩ = some (.int .i64 r.kind) ∧ w2.cell? ⟨w.heap.size, 1, none⟩ = some (.int .i64 r.tx) ∧ w2.cell? ⟨w.heap.size, 3, none⟩ = some (.int .u64 r.next) ∧ w2.cell? ⟨w.heap.size, 9, none⟩ = some (.int .i64 r.undo) ∧ w2.cell? ⟨w.heap.size, 15, none⟩ = some ((.slice A r.txs.length c)) ∧ w2.cell? ⟨w.heap.size, 16, none⟩ = some ((.slice B r.dirty.length d)) := ⟨HN.out.cell 0, HN.out.cell 1, HN.out.cell 3, HN.out.cell 9, HN.out.cell 15, HN.out.cell 16⟩) | (go_at_call 36; refine (bare04_any r (.slice A r.txs.length c) (.slice B r.dirty.length d) _).mono ?_; rintro e w2 ⟨rfl, hb5⟩; rw [HBB.out]; have n_HN := Lib.hid (HN.out.step hb5); have n_HK := Lib.hid (bstep HK.out hb5); clear hb5 HN HK; have HN := n_HN; have HK := n_HK; clear n_HN n_HK; obtain ⟨q0, q1, q3, q9, q15, q16⟩ : w2.cell? ⟨w.heap.size, 0, none⟩ = some (.int .i64 r.kind) ∧ w2.cell? ⟨w.heap.size, 1, none⟩ = some (.int .i64 r.tx) ∧ w2.cell? ⟨w.heap.size, 3, none⟩ = some (.int .u64 r.next) ∧ w2.cell? ⟨w.heap.size, 9, none⟩ = some (.int .i64 r.undo) ∧ w2.cell? ⟨w.heap.size, 15, none⟩ = some ((.slice A r.txs.length c)) ∧ w2.cell? ⟨w.heap.size, 16, none⟩ = some ((.slice B r.dirty.length d)) := ⟨HN.out.cell 0, HN.out.cell 1, HN.out.cell 3, HN.out.cell 9, HN.out.cell 15, HN.out.cell 16⟩) | (with_reducible refine isLoadN 47 (.tmp 1) ?_; with_unfolding_all refine wpList_load_row rfl 47 (.tmp 1) rfl w.heap.size (by kernel_rfl) 47 (rfs r (.slice A r.txs.length c) (.slice B r.dirty.length d)) (0, 0) _ HN.out Try.underlying47 rfl (by kernel_rfl) ?_))
    all_goals (go_ret; exact ⟨⟨_, rfl, HF.out⟩, HK.out⟩)
  · obtain ⟨rfl, hk, hx, hbb0, hg, hg2⟩ := h0
    have HF := Lib.hid (show (∀ t ∈ r.txs, okSt t) ↔ recOk r from by rw [← mayP_iff]; unfold mayP long0; grind)
    have k1_ : (r.kind == 1) = false := by simp; omega
    have k2_ : (r.kind == 2) = false := by simp; omega
    have k3_ : (r.kind == 3) = false := by simp; omega
    have k4_ : (r.kind == 4) = false := by simp; omega
    have k5_ : (r.kind == 5) = false := by simp; omega
    have k6_ : (r.kind == 6) = false := by simp; omega
    have k7_ : (r.kind == 7) = false := by simp; omega
    have k8_ : (r.kind == 8) = true := by simp; omega
    have m2_ : (r.kind != 2) = true := by simp; omega
    have m3_ : (r.kind != 3) = true := by simp; omega
    have m8_ : (r.kind != 8) = false := by simp; omega
    have n1_ : (r.next != 0) = false := by simp [hx]
    have n2_ : (r.next == 0) = true := by simp [hx]
    have g1_ : decide ((r.txs.length : Int) > 64) = false := decide_eq_false (by omega)
    have g2_ : decide (r.txs.length > 64) = false := decide_eq_false (by omega)
    have g3_ : decide ((r.dirty.length : Int) > 256) = false := decide_eq_false (by omega)
    have g4_ : decide (r.dirty.length > 256) = false := decide_eq_false (by omega)
    subst hbb0
    clear ht hc hb
    go_wp2_with (first | (go_at_call 34; refine (rtx04_any r.tx _).mono ?_; rintro e w_ ⟨rfl, rfl⟩; rw [HBT.out]) | (go_at_call 35; refine (change04_any r (.slice A r.txs.length c) (.slice B r.dirty.length d) _).mono ?_; rintro e w2 ⟨rfl, hb5⟩; rw [HBC.out]; have n_HN := Lib.hid (HN.out.step hb5); have n_HK := Lib.hid (bstep HK.out hb5); clear hb5 HN HK; have HN := n_HN; have HK := n_HK; clear n_HN n_HK; obtain ⟨q0, q1, q3, q9, q15, q16⟩ : w2.cell? ⟨w.heap.size, 0, none⟩ = some (.int .i64 r.kind) ∧ w2.cell? ⟨w.heap.size, 1, none⟩ = some (.int .i64 r.tx) ∧ w2.cell? ⟨w.heap.size, 3, none⟩ = some (.int .u64 r.next) ∧ w2.cell? ⟨w.heap.size, 9, none⟩ = some (.int .i64 r.undo) ∧ w2.cell? ⟨w.heap.size, 15, none⟩ = some ((.slice A r.txs.length c)) ∧ w2.cell? ⟨w.heap.size, 16, none⟩ = some ((.slice B r.dirty.length d)) := ⟨HN.out.cell 0, HN.out.cell 1, HN.out.cell 3, HN.out.cell 9, HN.out.cell 15, HN.out.cell 16⟩) | (go_at_call 36; refine (bare04_any r (.slice A r.txs.length c) (.slice B r.dirty.length d) _).mono ?_; rintro e w2 ⟨rfl, hb5⟩; rw [HBB.out]; have n_HN := Lib.hid (HN.out.step hb5); have n_HK := Lib.hid (bstep HK.out hb5); clear hb5 HN HK; have HN := n_HN; have HK := n_HK; clear n_HN n_HK; obtain ⟨q0, q1, q3, q9, q15, q16⟩ : w2.cell? ⟨w.heap.size, 0, none⟩ = some (.int .i64 r.kind) ∧ w2.cell? ⟨w.heap.size, 1, none⟩ = some (.int .i64 r.tx) ∧ w2.cell? ⟨w.heap.size, 3, none⟩ = some (.int .u64 r.next) ∧ w2.cell? ⟨w.heap.size, 9, none⟩ = some (.int .i64 r.undo) ∧ w2.cell? ⟨w.heap.size, 15, none⟩ = some ((.slice A r.txs.length c)) ∧ w2.cell? ⟨w.heap.size, 16, none⟩ = some ((.slice B r.dirty.length d)) := ⟨HN.out.cell 0, HN.out.cell 1, HN.out.cell 3, HN.out.cell 9, HN.out.cell 15, HN.out.cell 16⟩) | (with_reducible refine isLoadN 47 (.tmp 1) ?_; with_unfolding_all refine wpList_load_row rfl 47 (.tmp 1) rfl w.heap.size (by kernel_rfl) 47 (rfs r (.slice A r.txs.length c) (.slice B r.dirty.length d)) (0, 0) _ HN.out Try.underlying47 rfl (by kernel_rfl) ?_))
    go_loopw [3] (fun iv wr => ∃ i : Nat, iv = .int .i64 i ∧ i ≤ r.txs.length ∧ Hid (∀ t ∈ r.txs.take i, okSt t) ∧ Hid (Blk wr w.heap.size 47 (rfs r (.slice A r.txs.length c) (.slice B r.dirty.length d))) ∧ Hid (Below w.heap.size w wr))
      (fun iv _ => r.txs.length - (intOf iv).toNat)
    case atStart => exact ⟨0, rfl, Nat.zero_le _, Lib.hid (fun t ht => by simp at ht), HN, HK⟩
    case round =>
      clear q0 q1 q3 q9 q15 q16 HN HK
      obtain ⟨i, rfl, hi, HS, HN, HK⟩ := hrel
      obtain ⟨q0, q1, q3, q9, q15, q16⟩ : wr.cell? ⟨w.heap.size, 0, none⟩ = some (.int .i64 r.kind) ∧ wr.cell? ⟨w.heap.size, 1, none⟩ = some (.int .i64 r.tx) ∧ wr.cell? ⟨w.heap.size, 3, none⟩ = some (.int .u64 r.next) ∧ wr.cell? ⟨w.heap.size, 9, none⟩ = some (.int .i64 r.undo) ∧ wr.cell? ⟨w.heap.size, 15, none⟩ = some ((.slice A r.txs.length c)) ∧ wr.cell? ⟨w.heap.size, 16, none⟩ = some ((.slice B r.dirty.length d)) := ⟨HN.out.cell 0, HN.out.cell 1, HN.out.cell 3, HN.out.cell 9, HN.out.cell 15, HN.out.cell 16⟩
      by_cases hlt : i < r.txs.length
      · have e1_ : decide ((i : Int) < (r.txs.length : Int)) = true := decide_eq_true (by omega)
        have e2_ : decide (i < r.txs.length) = true := decide_eq_true hlt
        obtain ⟨eb, off, hAe, hel, hc_⟩ := HA.out i hlt
        subst hAe
        have y0 := (HK.out.cell (p := ⟨eb, off + i * 4 + 0, none⟩) hel).trans (hc_ 0 _ rfl)
        have y1 := (HK.out.cell (p := ⟨eb, off + i * 4 + 1, none⟩) hel).trans (hc_ 1 _ rfl)
        rw [Nat.add_zero] at y0
        clear hc_
        obtain ⟨t, htt⟩ : ∃ t, r.txs[i] = t := ⟨_, rfl⟩
        rw [htt] at y0 y1
        have HTT := Lib.hid htt
        clear htt
        have i0_ : (0 : Int) ≤ i := by omega
        have i1_ : (i : Int) < r.txs.length := by omega
        obtain ⟨bx, hbx⟩ : ∃ b : Bool, decide (0 ≤ t.tx ∧ t.tx < 2147483648) = b := ⟨_, rfl⟩
        have hbx2 : bx = true ↔ (0 ≤ t.tx ∧ t.tx < 2147483648) := by rw [← hbx]; simp
        have HBX := Lib.hid hbx
        clear hbx
        have hno : ¬ okSt t → (false = true ↔ recOk r) := fun h => by
          constructor
          · intro h2; cases h2
          · intro h2
            exact absurd (HF.out.2 h2 t (by rw [← HTT.out]; exact List.getElem_mem hlt)) h
        have HNO := Lib.hid hno
        clear hno
        rcases (show (bx = false) ∨ (bx = true ∧ t.st < 1) ∨ (bx = true ∧ ¬ t.st < 1 ∧ t.st > 3) ∨ (bx = true ∧ ¬ t.st < 1 ∧ ¬ t.st > 3) from by cases bx <;> simp <;> omega) with rfl | ⟨rfl, s1⟩ | ⟨rfl, s1, s2⟩ | ⟨rfl, s1, s2⟩
        · have HF2 := Lib.hid (HNO.out (fun h => by have h2 := hbx2.2 ⟨h.1, h.2.1⟩; cases h2))
          clear hbx2
          go_wp2_with (go_at_call 34; refine (rtx04_any t.tx _).mono ?_; rintro e w_ ⟨rfl, rfl⟩; rw [HBX.out])
          go_ret
          exact ⟨⟨_, rfl, HF2.out⟩, HK.out⟩
        · have HF2 := Lib.hid (HNO.out (fun h => by have h2 := h.2.2.1; omega))
          have e3_ : decide (t.st < 1) = true := decide_eq_true s1
          clear hbx2
          go_wp2_with (go_at_call 34; refine (rtx04_any t.tx _).mono ?_; rintro e w_ ⟨rfl, rfl⟩; rw [HBX.out])
          go_ret
          exact ⟨⟨_, rfl, HF2.out⟩, HK.out⟩
        · have HF2 := Lib.hid (HNO.out (fun h => by have h2 := h.2.2.2; omega))
          have e3_ : decide (t.st < 1) = false := decide_eq_false s1
          have e4_ : decide (t.st > 3) = true := decide_eq_true s2
          clear hbx2
          go_wp2_with (go_at_call 34; refine (rtx04_any t.tx _).mono ?_; rintro e w_ ⟨rfl, rfl⟩; rw [HBX.out])
          go_ret
          exact ⟨⟨_, rfl, HF2.out⟩, HK.out⟩
        · have e3_ : decide (t.st < 1) = false := decide_eq_false s1
          have e4_ : decide (t.st > 3) = false := decide_eq_false s2
          have HOK := Lib.hid (show okSt t from ⟨(hbx2.1 rfl).1, (hbx2.1 rfl).2, by omega, by omega⟩)
          clear hbx2
          go_wp2_with (go_at_call 34; refine (rtx04_any t.tx _).mono ?_; rintro e w_ ⟨rfl, rfl⟩; rw [HBX.out])
          go_roundw
          case rel => exact ⟨i + 1, by go_num, by omega, Lib.hid (fun u hu => by
            rw [List.take_succ_eq_append_getElem hlt] at hu
            rcases List.mem_append.1 hu with hu | hu
            · exact HS.out u hu
            · rw [List.mem_singleton.1 hu, HTT.out]; exact HOK.out), HN, HK⟩
          case measure => simp [intOf]; omega
      · have e1_ : decide ((i : Int) < (r.txs.length : Int)) = false := decide_eq_false (by omega)
        have e2_ : decide (i < r.txs.length) = false := decide_eq_false hlt
        obtain rfl : i = r.txs.length := by omega
        go_wp2_with fail
        go_ret
        refine ⟨⟨_, rfl, ?_⟩, HK.out⟩
        rw [← HF.out]
        have h_ := HS.out
        rw [List.take_length] at h_
        exact ⟨fun _ => h_, fun _ => rfl⟩
end Go.Proofs.Ytebickoieipjpaa
end
section
namespace Go.Proofs.Ytebickoieipjpaa
open Go.RowKit Go.Gi Go.GiRow
set_option linter.unusedVariables false
theorem may04_any (r : RecR) (A : Option Addr) (c : Nat) (B : Option Addr) (d : Nat) (w : World) (hA : RdRows StR.cells 4 w A r.txs) (hl : r.txs.length * 32 ≤ 140737488351232) (hd : r.dirty.length * 16 ≤ 140737488351232) :
    Calls Try.prog 14 #[.agg (rfs r (.slice A r.txs.length c) (.slice B r.dirty.length d))] w fun e w' => (∃ b, e = .returned (.bool b) ∧ (b = true ↔ recOk r)) ∧ Below w.heap.size w w' := by
  obtain ⟨bt, hbt⟩ : ∃ b : Bool, decide (0 ≤ r.tx ∧ r.tx < 2147483648) = b := ⟨_, rfl⟩
  obtain ⟨bc, hbc⟩ : ∃ b : Bool, decide (chgP r) = b := ⟨_, rfl⟩
  obtain ⟨bb, hbb⟩ : ∃ b : Bool, decide (bareP r) = b := ⟨_, rfl⟩
  cases bt with
  | false => exact may04_g0 r A c B d w hA hl hd false bc bb hbt hbc hbb (.inl rfl)
  | true =>
    rcases (show r.kind = 1 ∨ r.kind = 2 ∨ r.kind = 3 ∨ r.kind = 4 ∨ r.kind = 5 ∨ r.kind = 6 ∨ r.kind = 7 ∨ r.kind = 8 ∨ (r.kind < 1 ∨ 8 < r.kind) by omega) with hk | hk | hk | hk | hk | hk | hk | hk | hk
    · rcases Nat.eq_zero_or_pos (r.txs.length + r.dirty.length) with hx0 | hx0
      · by_cases hx : r.next = 0
        · exact may04_g0 r A c B d w hA hl hd true bc bb hbt hbc hbb (.inr (.inr (.inr (.inl ⟨rfl, hk, hx0, hx⟩))))
        · exact may04_g0 r A c B d w hA hl hd true bc bb hbt hbc hbb (.inr (.inr (.inl ⟨rfl, hk, hx0, hx⟩)))
      · exact may04_g0 r A c B d w hA hl hd true bc bb hbt hbc hbb (.inr (.inl ⟨rfl, hk, hx0⟩))
    · rcases Nat.eq_zero_or_pos (r.txs.length + r.dirty.length) with hx0 | hx0
      · exact may04_g0 r A c B d w hA hl hd true bc bb hbt hbc hbb (.inr (.inr (.inr (.inr (.inr (.inl ⟨rfl, hk, hx0⟩))))))
      · exact may04_g0 r A c B d w hA hl hd true bc bb hbt hbc hbb (.inr (.inr (.inr (.inr (.inl ⟨rfl, hk, hx0⟩)))))
    · rcases Nat.eq_zero_or_pos (r.txs.length + r.dirty.length) with hx0 | hx0
      · exact may04_g1 r A c B d w hA hl hd true bc bb hbt hbc hbb (.inl ⟨rfl, hk, hx0⟩)
      · exact may04_g0 r A c B d w hA hl hd true bc bb hbt hbc hbb (.inr (.inr (.inr (.inr (.inr (.inr ⟨rfl, hk, hx0⟩))))))
    · rcases Nat.eq_zero_or_pos (r.txs.length + r.dirty.length) with hx0 | hx0
      · by_cases hx : r.next = 0
        · exact may04_g1 r A c B d w hA hl hd true bc bb hbt hbc hbb (.inr (.inr (.inr (.inl ⟨rfl, hk, hx0, hx⟩))))
        · exact may04_g1 r A c B d w hA hl hd true bc bb hbt hbc hbb (.inr (.inr (.inl ⟨rfl, hk, hx0, hx⟩)))
      · exact may04_g1 r A c B d w hA hl hd true bc bb hbt hbc hbb (.inr (.inl ⟨rfl, hk, hx0⟩))
    · rcases Nat.eq_zero_or_pos (r.txs.length + r.dirty.length) with hx0 | hx0
      · by_cases hx : r.next = 0
        · exact may04_g1 r A c B d w hA hl hd true bc bb hbt hbc hbb (.inr (.inr (.inr (.inr (.inr (.inr ⟨rfl, hk, hx0, hx⟩))))))
        · exact may04_g1 r A c B d w hA hl hd true bc bb hbt hbc hbb (.inr (.inr (.inr (.inr (.inr (.inl ⟨rfl, hk, hx0, hx⟩))))))
      · exact may04_g1 r A c B d w hA hl hd true bc bb hbt hbc hbb (.inr (.inr (.inr (.inr (.inl ⟨rfl, hk, hx0⟩)))))
    · rcases Nat.eq_zero_or_pos (r.txs.length + r.dirty.length) with hx0 | hx0
      · by_cases hx : r.next = 0
        · exact may04_g2 r A c B d w hA hl hd true bc bb hbt hbc hbb (.inr (.inr (.inl ⟨rfl, hk, hx0, hx⟩)))
        · exact may04_g2 r A c B d w hA hl hd true bc bb hbt hbc hbb (.inr (.inl ⟨rfl, hk, hx0, hx⟩))
      · exact may04_g2 r A c B d w hA hl hd true bc bb hbt hbc hbb (.inl ⟨rfl, hk, hx0⟩)
    · rcases Nat.eq_zero_or_pos (r.txs.length + r.dirty.length) with hx0 | hx0
      · by_cases hx : r.next = 0
        · exact may04_g2 r A c B d w hA hl hd true bc bb hbt hbc hbb (.inr (.inr (.inr (.inr (.inr (.inl ⟨rfl, hk, hx0, hx⟩))))))
        · exact may04_g2 r A c B d w hA hl hd true bc bb hbt hbc hbb (.inr (.inr (.inr (.inr (.inl ⟨rfl, hk, hx0, hx⟩)))))
      · exact may04_g2 r A c B d w hA hl hd true bc bb hbt hbc hbb (.inr (.inr (.inr (.inl ⟨rfl, hk, hx0⟩))))
    · by_cases hx : r.next = 0
      · cases bb with
        | false => exact may04_g3 r A c B d w hA hl hd true bc false hbt hbc hbb (.inr (.inr (.inr (.inl ⟨rfl, hk, hx, rfl⟩))))
        | true =>
          by_cases hg : r.txs.length ≤ 64
          · by_cases hg2 : r.dirty.length ≤ 256
            · exact may04_g3 r A c B d w hA hl hd true bc true hbt hbc hbb (.inr (.inr (.inr (.inr (.inr (.inr ⟨rfl, hk, hx, rfl, hg, hg2⟩))))))
            · exact may04_g3 r A c B d w hA hl hd true bc true hbt hbc hbb (.inr (.inr (.inr (.inr (.inr (.inl ⟨rfl, hk, hx, rfl, hg, Nat.lt_of_not_le hg2⟩))))))
          · exact may04_g3 r A c B d w hA hl hd true bc true hbt hbc hbb (.inr (.inr (.inr (.inr (.inl ⟨rfl, hk, hx, rfl, Nat.lt_of_not_le hg⟩)))))
      · exact may04_g3 r A c B d w hA hl hd true bc bb hbt hbc hbb (.inr (.inr (.inl ⟨rfl, hk, hx⟩)))
    · rcases Nat.eq_zero_or_pos (r.txs.length + r.dirty.length) with hx0 | hx0
      · by_cases hx : r.next = 0
        · exact may04_g3 r A c B d w hA hl hd true bc bb hbt hbc hbb (.inr (.inl ⟨rfl, hk, hx0, hx⟩))
        · exact may04_g3 r A c B d w hA hl hd true bc bb hbt hbc hbb (.inl ⟨rfl, hk, hx0, hx⟩)
      · exact may04_g2 r A c B d w hA hl hd true bc bb hbt hbc hbb (.inr (.inr (.inr (.inr (.inr (.inr ⟨rfl, hk, hx0⟩))))))
end Go.Proofs.Ytebickoieipjpaa
end
section
namespace Go.Proofs.Ytebickoieipjpaa.PRr
open Go.RowKit Go.Gi Go.Proofs.Ytebickoieipjpaa Go.Proofs.YtebickoieipjpaaW.PrintWords Go.Proofs.YtebickoieipjpaaW.PrintLast Go.Proofs.YtebickoieipjpaaW.PrintMore
set_option maxRecDepth 20000
set_option linter.unusedSimpArgs false
set_option linter.unusedVariables false
theorem j4_f (r : RecR) (hr : recOk r) (hw : RecW r) (k : Nat) (hk : 400 ≤ k) (acc : List UInt8) (ha : acc.length ≤ 1000000) :
    girderref04_Bytes.j4 k (bs acc) r.kind r.tx r.prev r.next r.page r.ok r.oa (bs r.os) (bs r.oo) r.undo r.index (bs r.key) r.rpage r.rslot r.live (r.txs.map sSt) (r.dirty.map sDi) = some (bs (acc ++ if r.kind = 8 then tabB r else [])) := by
  obtain ⟨⟨_, ⟨_, h64, h256⟩⟩, hst⟩ := id hr
  obtain ⟨k, rfl⟩ : ∃ m, k = m + 1 := ⟨k - 1, by omega⟩
  rw [girderref04_Bytes.j4]
  by_cases h8 : r.kind = 8
  · rw [if_pos h8, if_pos h8, List.length_map, putw_f (c := 2) (by omega) (by omega) rfl, Option.bind_some, Int.toNat_natCast, bs_size, bs_size, putL_length, if_pos (by omega), bs_append]
    have := l0_f r.kind r.tx r.prev r.next r.page r.ok r.oa (bs r.os) (bs r.oo) r.undo r.index (bs r.key) r.rpage r.rslot r.live r.txs hst hw.sts h64 r.dirty hw.dis h256 r.txs.length 0 k (acc ++ putL 2 r.txs.length) (by omega) (by omega) (by simp [putL_length]; omega)
    rw [List.drop_zero, show ((0 : Nat) : Int) = 0 from rfl] at this
    rw [this]
    simp only [tabB, List.append_assoc]
  · rw [if_neg h8, if_neg h8, List.append_nil]
theorem j2_no (r : RecR) (hr : recOk r) (hw : RecW r) (k : Nat) (hk : 402 ≤ k) (acc : List UInt8) (ha : acc.length ≤ 100000) :
    girderref04_Bytes.j2 k (bs acc) false r.kind r.tx r.prev r.next r.page r.ok r.oa (bs r.os) (bs r.oo) r.undo r.index (bs r.key) r.rpage r.rslot r.live (r.txs.map sSt) (r.dirty.map sDi) = some (bs (acc ++ if r.kind = 8 then tabB r else [])) := by
  obtain ⟨k, rfl⟩ : ∃ m, k = m + 1 := ⟨k - 1, by omega⟩
  rw [girderref04_Bytes.j2, if_neg (by simp)]
  exact j4_f r hr hw k (by omega) acc (by omega)
theorem txB_len (s : List UInt8) : (txB s).length = 2 + s.length := by simp [txB, putL_length]
theorem j3_f (r : RecR) (hr : recOk r) (hw : RecW r) (hu : r.undo = 2) (k : Nat) (hk : 402 ≤ k) (acc : List UInt8) (ha : acc.length ≤ 100000) (x : Int) (hx : x = if r.live then 1 else 0) :
    girderref04_Bytes.j3 k (bs acc) x r.kind r.tx r.prev r.next r.page r.ok r.oa (bs r.os) (bs r.oo) r.undo r.index (bs r.key) r.rpage r.rslot r.live (r.txs.map sSt) (r.dirty.map sDi) = some (bs (acc ++ keyB r ++ if r.kind = 8 then tabB r else [])) := by
  obtain ⟨⟨⟨⟨⟨⟨_, _⟩, _⟩, hk4⟩, _⟩, _⟩, _⟩ := id hr
  obtain ⟨i0, i1, i2, i3, i4⟩ := (okKey_yes hu).1 hk4
  obtain ⟨k, rfl⟩ : ∃ m, k = m + 1 := ⟨k - 1, by omega⟩
  have hx0 : 0 ≤ x ∧ x ≤ 1 := by rw [hx]; split <;> omega
  have hp := hw.rpage
  rw [girderref04_Bytes.j3, putw_f (c := 2) i0 (by omega) rfl, Option.bind_some, text_f (by omega), Option.bind_some, putw_f (c := 4) hp.1 (by omega) rfl, putw_f (c := 2) i3 (by omega) rfl, put_f (c := 1) hx0.1 (by omega) rfl]
  simp only [Option.bind_some, bs_append, bs_size, List.length_append, putL_length, txB_len]
  rw [if_pos (by omega), if_pos (by omega), if_pos (by omega), if_pos (by omega), if_pos (by omega)]
  rw [j4_f r hr hw k (by omega) _ (by simp [putL_length, txB_len]; omega)]
  have e : putL 1 x.toNat = [if r.live then (1 : UInt8) else 0] := by
    rw [hx]
    cases r.live <;> rfl
  rw [e]
  simp only [keyB, List.append_assoc]
theorem j2_yes (r : RecR) (hr : recOk r) (hw : RecW r) (hc : isChange r.kind) (k : Nat) (hk : 404 ≤ k) (acc : List UInt8) (ha : acc.length ≤ 1000) :
    girderref04_Bytes.j2 k (bs acc) true r.kind r.tx r.prev r.next r.page r.ok r.oa (bs r.os) (bs r.oo) r.undo r.index (bs r.key) r.rpage r.rslot r.live (r.txs.map sSt) (r.dirty.map sDi) = some (bs (acc ++ chB r ++ if r.kind = 8 then tabB r else [])) := by
  obtain ⟨⟨⟨⟨⟨⟨_, hu0, hu2⟩, h3⟩, _⟩, _⟩, _⟩, _⟩ := id hr
  obtain ⟨_, ho⟩ := (okOp_yes hc).1 h3
  unfold opOk at ho
  have hp := hw.page
  obtain ⟨k, rfl⟩ : ∃ m, k = m + 1 := ⟨k - 1, by omega⟩
  rw [girderref04_Bytes.j2, if_pos rfl, putw_f (c := 4) hp.1 (by omega) rfl, Option.bind_some, putw_f (c := 1) (by omega) (by omega) rfl, Option.bind_some, putw_f (c := 2) (by omega) (by omega) rfl, text_f (by omega), text_f (by omega), putw_f (c := 1) hu0 (by omega) rfl]
  simp only [Option.bind_some, bs_append, bs_size, List.length_append, putL_length, txB_len]
  rw [if_pos (by omega), if_pos (by omega), if_pos (by omega), if_pos (by omega), if_pos (by omega), if_pos (by omega)]
  by_cases hu : r.undo = 2
  · rw [if_pos hu, chB_yes r hu]
    by_cases hl : r.live = true
    · rw [if_pos hl, j3_f r hr hw hu k (by omega) _ (by simp [putL_length, txB_len]; omega) 1 (by rw [if_pos hl])]
      try simp only [List.append_assoc]
    · rw [if_neg hl, j3_f r hr hw hu k (by omega) _ (by simp [putL_length, txB_len]; omega) 0 (by rw [if_neg hl])]
      try simp only [List.append_assoc]
  · rw [if_neg hu, chB_no r hu, j4_f r hr hw k (by omega) _ (by simp [putL_length, txB_len]; omega)]
    try simp only [List.append_assoc]
theorem bytes_f (r : RecR) (hr : recOk r) (hw : RecW r) : girderref04_Bytes.f 410 r.kind r.tx r.prev r.next r.page r.ok r.oa (bs r.os) (bs r.oo) r.undo r.index (bs r.key) r.rpage r.rslot r.live (r.txs.map sSt) (r.dirty.map sDi) = some (bs (recB r)) := by
  obtain ⟨⟨⟨⟨⟨⟨⟨k1, k8, t0, t1⟩, _⟩, h3⟩, _⟩, ⟨hn, _⟩⟩, _⟩, _⟩ := id hr
  have hp := hw.prev
  have hx := hw.next
  have hz := putL_length
  unfold girderref04_Bytes.f
  rw [putw_f (c := 1) (by omega) (by omega) rfl, Option.bind_some, putw_f (c := 4) t0 (by omega) rfl, Option.bind_some, put_f (c := 8) hp.1 hp.2 rfl]
  simp only [Option.bind_some, bs_append, bs_size, List.length_append, putL_length]
  rw [if_pos (by omega), if_pos (by omega)]
  have hj1 : ∀ (k : Nat) (acc : List UInt8), 405 ≤ k → acc.length ≤ 1000 → girderref04_Bytes.j1 k (bs acc) r.kind r.tx r.prev r.next r.page r.ok r.oa (bs r.os) (bs r.oo) r.undo r.index (bs r.key) r.rpage r.rslot r.live (r.txs.map sSt) (r.dirty.map sDi) = some (bs (acc ++ (if isChange r.kind then chB r else []) ++ if r.kind = 8 then tabB r else [])) := by
    intro k acc hk ha
    obtain ⟨k, rfl⟩ : ∃ m, k = m + 1 := ⟨k - 1, by omega⟩
    rw [girderref04_Bytes.j1]
    by_cases h1 : r.kind = 1
    · rw [if_pos h1, if_pos (.inl h1), j2_yes r hr hw (.inl h1) k (by omega) acc ha]
    · rw [if_neg h1]
      by_cases h2 : r.kind = 2
      · rw [show (r.kind == 2) = true by simp [h2], if_pos (.inr h2), j2_yes r hr hw (.inr h2) k (by omega) acc ha]
      · rw [show (r.kind == 2) = false by simp [h2], if_neg (by unfold isChange; omega), j2_no r hr hw k (by omega) acc (by omega), List.append_nil]
  have hj0 : ∀ (acc : List UInt8) (b : Bool), acc.length ≤ 900 → (b = true ↔ isNext r.kind) → girderref04_Bytes.j0 410 (bs acc) b r.kind r.tx r.prev r.next r.page r.ok r.oa (bs r.os) (bs r.oo) r.undo r.index (bs r.key) r.rpage r.rslot r.live (r.txs.map sSt) (r.dirty.map sDi) = some (bs (acc ++ (if isNext r.kind then putL 8 r.next.toNat else []) ++ (if isChange r.kind then chB r else []) ++ if r.kind = 8 then tabB r else [])) := by
    intro acc b ha hb
    rw [girderref04_Bytes.j0]
    cases b with
    | true =>
      rw [if_pos rfl, if_pos (hb.1 rfl), put_f (c := 8) hx.1 hx.2 rfl, Option.bind_some, bs_size, bs_size, putL_length, if_pos (by omega), bs_append, hj1 _ _ (by omega) (by simp [putL_length]; omega)]
    | false =>
      rw [if_neg (by simp), if_neg (fun h => by have := hb.2 h; cases this), hj1 _ _ (by omega) (by omega), List.append_nil]
  by_cases h2 : r.kind = 2
  · rw [if_pos h2, hj0 _ _ (by simp [putL_length]) (by unfold isNext; simp [h2])]
    rfl
  · rw [if_neg h2, hj0 _ _ (by simp [putL_length]) (by unfold isNext; simp [h2])]
    rfl
end Go.Proofs.Ytebickoieipjpaa.PRr
end
section
namespace Go.Gi
open Go.RowKit
end Go.Gi
namespace Go.Proofs.Ytebickoieipjpaa.PRr
open Go.RowKit Go.Gi Go.GiRow Go.Proofs.Ytebickoieipjpaa Go.Proofs.YtebickoieipjpaaW.PrintWords Go.Proofs.YtebickoieipjpaaW.PrintLast Go.Proofs.YtebickoieipjpaaW.PrintMore
set_option maxRecDepth 20000
set_option linter.unusedSimpArgs false
set_option linter.unusedVariables false
theorem bytes04_C {r : RecR} {A : Option Addr} {c : Nat} {B : Option Addr} {d : Nat} {w : World} (hA : Kd.C k56 w A r.txs.length (r.txs.map sSt)) (hc : r.txs.length ≤ c) (hB : Kd.C k58 w B r.dirty.length (r.dirty.map sDi)) (hd : r.dirty.length ≤ d) (hr : recOk r) (hw : RecW r) :
    Calls Try.prog 12 #[.agg (rfs r (.slice A r.txs.length c) (.slice B r.dirty.length d))] w fun e w' => e = .returned (.string (bs (recB r))) ∧ Below w.heap.size w w' := by
  have h := girderref04_Bytes.calls 410 r.kind r.tx r.prev r.next r.page r.ok r.oa (bs r.os) (bs r.oo) r.undo r.index (bs r.key) r.rpage r.rslot r.live A c (r.txs.map sSt) B d (r.dirty.map sDi) (bs (recB r)) w (by rw [List.length_map]; exact hA) (by rw [List.length_map]; exact hc) (by rw [List.length_map]; exact hB) (by rw [List.length_map]; exact hd) (bytes_f r hr hw)
  rw [List.length_map, List.length_map] at h
  exact h
end Go.Proofs.Ytebickoieipjpaa.PRr
end
section
namespace Go.Proofs.Ytebickoieipjpaa
open Go.RowKit Go.Gi
set_option maxRecDepth 20000
theorem get_arg (s : ByteArray) (at_ long : Int) (w : World) (h : long < 0 ∨ 8 < long ∨ at_ < 0 ∨ (s.size : Int) < at_) :
    Calls Try.prog 42 #[.string s, .int .i64 at_, .int .i64 long] w fun e w' => e = .returned (.tuple #[.int .u64 0, .int .i64 1]) ∧ w' = w := by
  go_enter Try.func42, Try.ntmps42
  by_cases h1 : long < 0
  · go_wp2; go_ret2; exact ⟨rfl, rfl⟩
  by_cases h2 : 8 < long
  · go_wp2; go_ret2; exact ⟨rfl, rfl⟩
  by_cases h3 : at_ < 0
  · go_wp2; go_ret2; exact ⟨rfl, rfl⟩
  have h4 : (s.size : Int) < at_ := by omega
  clear h
  go_wp2; go_ret2; exact ⟨rfl, rfl⟩
theorem get_cut (s : ByteArray) (at_ long : Int) (w : World) (h0 : 0 ≤ long) (h1 : long ≤ 8) (h2 : 0 ≤ at_) (h3 : at_ ≤ s.size) (h4 : (s.size : Int) - at_ < long) :
    Calls Try.prog 42 #[.string s, .int .i64 at_, .int .i64 long] w fun e w' => e = .returned (.tuple #[.int .u64 0, .int .i64 4]) ∧ w' = w := by
  go_enter Try.func42, Try.ntmps42
  go_wp2; go_ret2; exact ⟨rfl, rfl⟩
set_option maxHeartbeats 400000 in
theorem get_nat (s : ByteArray) (a n : Nat) (w : World) (hs : s.size ≤ maxLen) (h1 : n ≤ 8) (h4 : a + n ≤ s.size) :
    Calls Try.prog 42 #[.string s, .int .i64 a, .int .i64 n] w fun e w' => e = .returned (.tuple #[.int .u64 (numL ((s.data.toList.drop a).take n) : Nat), .int .i64 0]) ∧ w' = w := by
  unfold maxLen at hs
  have hl : ((s.data.toList.drop a).take n).length = n := by simp; omega
  obtain ⟨l, hleq⟩ : ∃ l, (s.data.toList.drop a).take n = l := ⟨_, rfl⟩
  have Hl := Lib.hid hleq
  rw [hleq] at hl
  rw [hleq]
  clear hleq
  have g1 : decide ((n : Int) < 0) = false := decide_eq_false (by omega)
  have g2 : decide (8 < (n : Int)) = false := decide_eq_false (by omega)
  have g3 : decide ((a : Int) < 0) = false := decide_eq_false (by omega)
  have g4 : decide (s.size < a) = false := decide_eq_false (by omega)
  have g5 : decide ((s.size : Int) - a < n) = false := decide_eq_false (by omega)
  go_enter Try.func42, Try.ntmps42
  go_wp2
  go_loop [8, 9] (fun x i => ∃ k : Nat, k ≤ n ∧ i = .int .i64 ((k : Int) - 1) ∧ x = .int .u64 ((numL (l.drop k) : Nat) : Int))
      (fun _ i => (intOf i + 1).toNat)
  case atStart => exact ⟨n, Nat.le_refl _, rfl, by rw [List.drop_eq_nil_of_le (by omega)]; rfl⟩
  case round =>
    obtain ⟨k, hk, rfl, rfl⟩ := hrel
    by_cases hk0 : k = 0
    · subst hk0
      go_wp2
      go_ret2
      exact ⟨rfl, rfl⟩
    · obtain ⟨j, rfl⟩ : ∃ j, k = j + 1 := ⟨k - 1, by omega⟩
      have hj : a + j < s.size := by omega
      have hjl : j < l.length := by omega
      have hget : l[j] = s[a + j] := by
        have h := Hl.out
        subst h
        simp
        rfl
      have hstep : numL (l.drop j) = s[a + j].toNat + 256 * numL (l.drop (j + 1)) := by
        rw [List.drop_eq_getElem_cons hjl, numL, hget]
      have hlt := numL_lt (l.drop (j + 1))
      have hlt2 : 256 ^ (l.drop (j + 1)).length ≤ 256 ^ 7 := Nat.pow_le_pow_right (by decide) (by simp; omega)
      have hq : numL (l.drop (j + 1)) < 72057594037927936 := Nat.lt_of_lt_of_le hlt hlt2
      have Hst := Lib.hid hstep
      clear hstep hlt hlt2 hget
      generalize numL (l.drop (j + 1)) = q at *
      go_wp2
      go_round
      case rel => exact ⟨j, by omega, by go_num, by rw [Hst.out, wrapu64, or_byte hq]⟩
      case measure => simp [intOf]
end Go.Proofs.Ytebickoieipjpaa
end
section
namespace Go.Proofs.Ytebickoieipjpaa
open Go.RowKit Go.Gi
set_option maxRecDepth 20000
theorem err_any {g : Nat} {s : ByteArray} {a : Nat} {e : Int} {w : World} (h : Rd w 99 g s a e) :
    Calls Try.prog 25 #[.pointer (some ⟨g, 0, none⟩)] w fun e' w' => e' = .returned (.int .i64 e) ∧ w' = w := by
  have hc := h.c2
  go_enter Try.func25, Try.ntmps25
  go_wp2
  go_ret
  exact ⟨rfl, rfl⟩
set_option maxHeartbeats 800000 in
theorem num_any {g : Nat} {s : ByteArray} {a : Nat} {e : Int} {w : World} (h : Rd w 99 g s a e) (long : Int) (hs : s.size ≤ maxLen) (ha : a ≤ s.size) :
    Calls Try.prog 23 #[.pointer (some ⟨g, 0, none⟩), .int .i64 long] w fun e' w' =>
      e' = .returned (.int .u64 ((rNum s.data.toList a e long).1 : Nat)) ∧ Rd w' 99 g s (rNum s.data.toList a e long).2.1 (rNum s.data.toList a e long).2.2 ∧ w.grownBy w' (some g) := by
  have H := Lib.hid h
  have c0 := h.c0
  have c1 := h.c1
  have c2 := h.c2
  have f1 := h.f 1
  have f2 := h.f 2
  have hl : s.data.toList.length = s.size := by simp
  have hs2 : s.size ≤ 9223372036854775807 := hs
  have Hs := Lib.hid hs
  clear h hs
  unfold rNum
  rw [hl]
  by_cases he : e = 0
  · subst he
    by_cases h1 : long < 0 ∨ 8 < long
    · rw [if_neg (by simp), if_pos h1]
      have H1 := Lib.hid (show long < 0 ∨ 8 < long ∨ (a : Int) < 0 ∨ (s.size : Int) < a by omega)
      clear h1 hl
      go_enter Try.func23, Try.ntmps23
      go_wp2_with (go_at_call 25; refine (err_any H.out).mono ?_; rintro e w' ⟨rfl, rfl⟩)
      go_quiet ((go_at_call 42; exact Calls.quiet_of_same (get_arg _ _ _ _ H1.out)))
      go_wp2
      go_ret
      exact ⟨rfl, (H.out.drewN _).set2 1, gset (gdrewN (World.grownBy.refl _ _) _) _ _⟩
    · obtain ⟨m, rfl⟩ := Int.eq_ofNat_of_zero_le (show 0 ≤ long by omega)
      rw [if_neg (by simp), if_neg h1]
      have hm : m ≤ 8 := by omega
      by_cases h2 : (s.size : Int) - a < m
      · rw [if_pos h2]
        have H1 := Lib.hid (show (0 : Int) ≤ m ∧ (m : Int) ≤ 8 ∧ (0 : Int) ≤ a ∧ (a : Int) ≤ s.size ∧ (s.size : Int) - a < m by omega)
        clear h1 hl
        go_enter Try.func23, Try.ntmps23
        go_wp2_with (go_at_call 25; refine (err_any H.out).mono ?_; rintro e w' ⟨rfl, rfl⟩)
        go_quiet ((go_at_call 42; exact Calls.quiet_of_same (get_cut _ _ _ _ H1.out.1 H1.out.2.1 H1.out.2.2.1 H1.out.2.2.2.1 H1.out.2.2.2.2)))
        go_wp2
        go_ret
        exact ⟨rfl, (H.out.drewN _).set2 4, gset (gdrewN (World.grownBy.refl _ _) _) _ _⟩
      · rw [if_neg h2]
        have ham : a + m ≤ s.size := by omega
        clear h1 hl
        go_enter Try.func23, Try.ntmps23
        go_wp2_with (go_at_call 25; refine (err_any H.out).mono ?_; rintro e w' ⟨rfl, rfl⟩)
        go_quiet ((go_at_call 42; exact Calls.quiet_of_same (get_nat _ _ _ _ Hs.out hm ham)))
        go_wp2
        go_ret
        exact ⟨rfl, (H.out.drewN _).set1 (a + m), gset (gdrewN (World.grownBy.refl _ _) _) _ _⟩
  · rw [if_pos he]
    have hb : (e != 0) = true := by simp [he]
    clear he hl
    go_enter Try.func23, Try.ntmps23
    go_wp2_with (go_at_call 25; refine (err_any H.out).mono ?_; rintro e w' ⟨rfl, rfl⟩)
    go_ret
    exact ⟨rfl, H.out, World.grownBy.refl _ _⟩
set_option maxHeartbeats 800000 in
theorem bytes_any {g : Nat} {s : ByteArray} {a : Nat} {e : Int} {w : World} (h : Rd w 99 g s a e) (n : Int) (hs : s.size ≤ maxLen) (ha : a ≤ s.size) :
    Calls Try.prog 54 #[.pointer (some ⟨g, 0, none⟩), .int .i64 n] w fun e' w' =>
      e' = .returned (.string (bs (rTake s.data.toList a e n).1)) ∧ Rd w' 99 g s (rTake s.data.toList a e n).2.1 (rTake s.data.toList a e n).2.2 ∧ w.grownBy w' (some g) := by
  have H := Lib.hid h
  have c0 := h.c0
  have c1 := h.c1
  have c2 := h.c2
  have f1 := h.f 1
  have f2 := h.f 2
  have hl : s.data.toList.length = s.size := by simp
  have hs2 : s.size ≤ 9223372036854775807 := hs
  have Hs := Lib.hid hs
  clear h hs
  unfold rTake
  rw [hl]
  by_cases he : e = 0
  · subst he
    by_cases h1 : n < 0
    · rw [if_neg (by simp), if_pos h1]
      clear hl
      go_enter Try.func54, Try.ntmps54
      go_wp2_with (go_at_call 25; refine (err_any H.out).mono ?_; rintro e w' ⟨rfl, rfl⟩)
      go_ret
      exact ⟨rfl, H.out.set2 1, gset (World.grownBy.refl _ _) _ _⟩
    · obtain ⟨m, rfl⟩ := Int.eq_ofNat_of_zero_le (show 0 ≤ n by omega)
      rw [if_neg (by simp), if_neg h1]
      by_cases h2 : (s.size : Int) - a < m
      · rw [if_pos h2]
        have g1 : decide ((s.size : Int) - a < m) = true := decide_eq_true h2
        clear h1 hl h2
        go_enter Try.func54, Try.ntmps54
        go_wp2_with (go_at_call 25; refine (err_any H.out).mono ?_; rintro e w' ⟨rfl, rfl⟩)
        go_quiet (fail)
        go_wp2
        go_ret
        exact ⟨rfl, (H.out.drewN _).set2 4, gset (gdrewN (World.grownBy.refl _ _) _) _ _⟩
      · rw [if_neg h2]
        have ham : a + m ≤ s.size := by omega
        clear h1 hl
        go_enter Try.func54, Try.ntmps54
        go_wp2_with (go_at_call 25; refine (err_any H.out).mono ?_; rintro e w' ⟨rfl, rfl⟩)
        go_quiet (fail)
        have hw1 : IntKind.i64.wrap (a : Int) = a := IntWalk.i64_in _ (by omega)
        have hw2 : 0 ≤ (a : Int) + m := by omega
        have hw3 : (a : Int) + m ≤ s.size := by omega
        have hw4 : (a : Int) ≤ a + m := by omega
        go_wp2
        go_quiet (fail)
        clear hw1
        go_wp2
        go_ret
        exact ⟨ret_str (by rw [extract_bs]; simp), ((H.out.drewN _).set1 (a + m)).drewN _, gdrewN (gset (gdrewN (World.grownBy.refl _ _) _) _ _) _⟩
  · rw [if_pos he]
    have hb : (e != 0) = true := by simp [he]
    clear he hl
    go_enter Try.func54, Try.ntmps54
    go_wp2_with (go_at_call 25; refine (err_any H.out).mono ?_; rintro e w' ⟨rfl, rfl⟩)
    go_ret
    exact ⟨rfl, H.out, World.grownBy.refl _ _⟩
theorem num_eq {g : Nat} {s : ByteArray} {a : Nat} {e : Int} {w : World} (h : Rd w 99 g s a e) (hs : s.size ≤ maxLen) (ha : a ≤ s.size) (long : Int) (v a1 : Nat) (e1 : Int) (hn : rNum s.data.toList a e long = (v, a1, e1)) :
    Calls Try.prog 23 #[.pointer (some ⟨g, 0, none⟩), .int .i64 long] w fun e' w' => e' = .returned (.int .u64 (v : Nat)) ∧ Rd w' 99 g s a1 e1 ∧ w.grownBy w' (some g) := by
  have := num_any h long hs ha
  rw [hn] at this
  exact this
theorem bytes_eq {g : Nat} {s : ByteArray} {a : Nat} {e : Int} {w : World} (h : Rd w 99 g s a e) (hs : s.size ≤ maxLen) (ha : a ≤ s.size) (n : Int) (l : List UInt8) (a1 : Nat) (e1 : Int) (hn : rTake s.data.toList a e n = (l, a1, e1)) :
    Calls Try.prog 54 #[.pointer (some ⟨g, 0, none⟩), .int .i64 n] w fun e' w' => e' = .returned (.string (bs l)) ∧ Rd w' 99 g s a1 e1 ∧ w.grownBy w' (some g) := by
  have := bytes_any h n hs ha
  rw [hn] at this
  exact this
set_option maxHeartbeats 1600000 in
theorem rtext_any {g : Nat} {s : ByteArray} {a : Nat} {e : Int} {w : World} (h : Rd w 99 g s a e) (most : Int) (hs : s.size ≤ maxLen) (ha : a ≤ s.size) :
    Calls Try.prog 43 #[.pointer (some ⟨g, 0, none⟩), .int .i64 most] w fun e' w' =>
      e' = .returned (.string (bs (rText s.data.toList a e most).1)) ∧ Rd w' 99 g s (rText s.data.toList a e most).2.1 (rText s.data.toList a e most).2.2 ∧ w.grownBy w' (some g) := by
  have H := Lib.hid h
  have c0 := h.c0
  have c1 := h.c1
  have c2 := h.c2
  have f1 := h.f 1
  have f2 := h.f 2
  have hl : s.data.toList.length = s.size := by simp
  have hs2 : s.size ≤ 9223372036854775807 := hs
  have Hs := Lib.hid hs
  clear h hs
  by_cases he : e = 0
  · subst he
    by_cases h2 : (s.size : Int) - a < 2
    · have HN := Lib.hid (show rNum s.data.toList a 0 2 = (0, a, 4) by unfold rNum; rw [hl, if_neg (by simp), if_neg (by omega), if_pos h2])
      have HT := Lib.hid (show rText s.data.toList a 0 most = ([], a, 4) by unfold rText; rw [hl, if_neg (by simp), if_pos h2])
      rw [HT.out]
      clear hl
      go_enter Try.func43, Try.ntmps43
      go_wp2_with (first | (go_at_call 25; refine (err_any H.out).mono ?_; rintro e w' ⟨rfl, rfl⟩) | (go_at_call 23; refine (num_eq H.out Hs.out ha 2 0 a 4 HN.out).mono ?_; rintro e w1 ⟨rfl, h1, hg1⟩; have k0 := h1.c0; have k1 := h1.c1; have k2 := h1.c2; have kf1 := h1.f 1; have kf2 := h1.f 2; have Hk := Lib.hid h1; clear h1) | (go_at_call 54; refine (bytes_eq Hk.out Hs.out ha 0 [] a 4 (by unfold rTake; rw [if_pos (by simp)])).mono ?_; rintro e w2 ⟨rfl, h2', hg2⟩; have j0 := h2'.c0; have j1 := h2'.c1; have j2 := h2'.c2; have jf1 := h2'.f 1; have jf2 := h2'.f 2; have Hj := Lib.hid h2'; clear h2'))
      go_ret
      exact ⟨rfl, Hj.out.set1 a, gset (gstep hg1 hg2) _ _⟩
    · have HN := Lib.hid (show rNum s.data.toList a 0 2 = (numL ((s.data.toList.drop a).take 2), a + 2, 0) by unfold rNum; rw [hl, if_neg (by simp), if_neg (by omega), if_neg h2]; rfl)
      have hn0 := numL_lt ((s.data.toList.drop a).take 2)
      have hn : numL ((s.data.toList.drop a).take 2) < 65536 := Nat.lt_of_lt_of_le hn0 (Nat.pow_le_pow_right (by decide) (List.length_take_le _ _))
      clear hn0
      have ha2 : a + 2 ≤ s.size := by omega
      have hT : rText s.data.toList a 0 most = if most < (numL ((s.data.toList.drop a).take 2) : Nat) then ([], a, 5)
          else if (s.size : Int) - (a + 2 : Nat) < (numL ((s.data.toList.drop a).take 2) : Nat) then ([], a, 4)
          else ((s.data.toList.drop (a + 2)).take (numL ((s.data.toList.drop a).take 2)), a + 2 + numL ((s.data.toList.drop a).take 2), 0) := by
        unfold rText; rw [hl, if_neg (by simp), if_neg h2]
      have HT := Lib.hid hT
      clear hT
      generalize numL ((s.data.toList.drop a).take 2) = n at *
      have hk : IntKind.i64.wrap (n : Int) = n := IntWalk.i64_in _ (by omega)
      rw [HT.out]
      by_cases h3 : most < (n : Int)
      · rw [if_pos h3]
        clear hl
        go_enter Try.func43, Try.ntmps43
        go_wp2_with (first | (go_at_call 25; refine (err_any H.out).mono ?_; rintro e w' ⟨rfl, rfl⟩) | (go_at_call 23; refine (num_eq H.out Hs.out ha 2 n (a + 2) 0 HN.out).mono ?_; rintro e w1 ⟨rfl, h1, hg1⟩; have k0 := h1.c0; have k1 := h1.c1; have k2 := h1.c2; have kf1 := h1.f 1; have kf2 := h1.f 2; have Hk := Lib.hid h1; clear h1) | (go_at_call 54; refine (bytes_eq (Hk.out.set2 5) Hs.out ha2 n [] (a + 2) 5 (by unfold rTake; rw [if_pos (by simp)])).mono ?_; rintro e w2 ⟨rfl, h2', hg2⟩; have j0 := h2'.c0; have j1 := h2'.c1; have j2 := h2'.c2; have jf1 := h2'.f 1; have jf2 := h2'.f 2; have Hj := Lib.hid h2'; clear h2'))
        go_ret
        exact ⟨rfl, Hj.out.set1 a, gset (gstep (gset hg1 _ _) hg2) _ _⟩
      · rw [if_neg h3]
        by_cases h4 : (s.size : Int) - (a + 2 : Nat) < n
        · rw [if_pos h4]
          have h4' := Lib.hid h4
          clear h4 hl
          go_enter Try.func43, Try.ntmps43
          go_wp2_with (first | (go_at_call 25; refine (err_any H.out).mono ?_; rintro e w' ⟨rfl, rfl⟩) | (go_at_call 23; refine (num_eq H.out Hs.out ha 2 n (a + 2) 0 HN.out).mono ?_; rintro e w1 ⟨rfl, h1, hg1⟩; have k0 := h1.c0; have k1 := h1.c1; have k2 := h1.c2; have kf1 := h1.f 1; have kf2 := h1.f 2; have Hk := Lib.hid h1; clear h1) | (go_at_call 54; refine (bytes_eq Hk.out Hs.out ha2 n [] (a + 2) 4 (by unfold rTake; rw [if_neg (by simp), if_neg (by omega), if_pos (by simp; have := h4'.out; omega)])).mono ?_; rintro e w2 ⟨rfl, h2', hg2⟩; have j0 := h2'.c0; have j1 := h2'.c1; have j2 := h2'.c2; have jf1 := h2'.f 1; have jf2 := h2'.f 2; have Hj := Lib.hid h2'; clear h2'))
          go_ret
          exact ⟨rfl, Hj.out.set1 a, gset (gstep hg1 hg2) _ _⟩
        · rw [if_neg h4]
          have h4' := Lib.hid h4
          clear h4 hl
          go_enter Try.func43, Try.ntmps43
          go_wp2_with (first | (go_at_call 25; refine (err_any H.out).mono ?_; rintro e w' ⟨rfl, rfl⟩) | (go_at_call 23; refine (num_eq H.out Hs.out ha 2 n (a + 2) 0 HN.out).mono ?_; rintro e w1 ⟨rfl, h1, hg1⟩; have k0 := h1.c0; have k1 := h1.c1; have k2 := h1.c2; have kf1 := h1.f 1; have kf2 := h1.f 2; have Hk := Lib.hid h1; clear h1) | (go_at_call 54; refine (bytes_eq Hk.out Hs.out ha2 n ((s.data.toList.drop (a + 2)).take n) (a + 2 + n) 0 (by unfold rTake; rw [if_neg (by simp), if_neg (by omega), if_neg (by simp; have := h4'.out; omega)]; rfl)).mono ?_; rintro e w2 ⟨rfl, h2', hg2⟩; have j0 := h2'.c0; have j1 := h2'.c1; have j2 := h2'.c2; have jf1 := h2'.f 1; have jf2 := h2'.f 2; have Hj := Lib.hid h2'; clear h2'))
          go_ret
          exact ⟨rfl, Hj.out, gstep hg1 hg2⟩
  · have HT := Lib.hid (show rText s.data.toList a e most = ([], a, e) by unfold rText; rw [if_pos he])
    rw [HT.out]
    have hb : (e != 0) = true := by simp [he]
    clear he hl
    go_enter Try.func43, Try.ntmps43
    go_wp2_with (go_at_call 25; refine (err_any H.out).mono ?_; rintro e w' ⟨rfl, rfl⟩)
    go_ret
    exact ⟨rfl, H.out, World.grownBy.refl _ _⟩
end Go.Proofs.Ytebickoieipjpaa
end
section
namespace Go.Proofs.Ytebickoieipjpaa
open Go.RowKit Go.Gi
set_option maxRecDepth 20000
theorem numL_one (l : List UInt8) : numL (l.take 1) < 256 := by
  refine Nat.lt_of_lt_of_le (numL_lt _) (Nat.le_trans (Nat.pow_le_pow_right (by decide) (List.length_take_le _ _)) (by decide))
set_option maxHeartbeats 1600000 in
theorem rbool_any {g : Nat} {s : ByteArray} {a : Nat} {e : Int} {w : World} (h : Rd w 99 g s a e) (hs : s.size ≤ maxLen) (ha : a ≤ s.size) :
    Calls Try.prog 44 #[.pointer (some ⟨g, 0, none⟩)] w fun e' w' =>
      e' = .returned (.bool (rBool s.data.toList a e).1) ∧ Rd w' 99 g s (rBool s.data.toList a e).2.1 (rBool s.data.toList a e).2.2 ∧ w.grownBy w' (some g) := by
  have H := Lib.hid h
  have c0 := h.c0
  have c1 := h.c1
  have c2 := h.c2
  have f1 := h.f 1
  have f2 := h.f 2
  have hl : s.data.toList.length = s.size := by simp
  have hs2 : s.size ≤ 9223372036854775807 := hs
  have Hs := Lib.hid hs
  clear h hs
  unfold rBool
  rw [hl]
  by_cases he : e = 0
  · subst he
    rw [if_neg (by simp)]
    by_cases h2 : (s.size : Int) - a < 1
    · rw [if_pos h2]
      have H1 := Lib.hid (show (0 : Int) ≤ 1 ∧ (1 : Int) ≤ 8 ∧ (0 : Int) ≤ a ∧ (a : Int) ≤ s.size ∧ (s.size : Int) - a < 1 by omega)
      clear h2 hl
      go_enter Try.func44, Try.ntmps44
      go_wp2_with (go_at_call 25; refine (err_any H.out).mono ?_; rintro e w' ⟨rfl, rfl⟩)
      go_quiet ((go_at_call 42; exact Calls.quiet_of_same (get_cut _ _ _ _ H1.out.1 H1.out.2.1 H1.out.2.2.1 H1.out.2.2.2.1 H1.out.2.2.2.2)))
      go_wp2
      go_ret
      exact ⟨rfl, (H.out.drewN _).set2 4, gset (gdrewN (World.grownBy.refl _ _) _) _ _⟩
    · rw [if_neg h2]
      have hg := get_nat s a 1 w Hs.out (by decide) (by omega)
      have hn := numL_one (s.data.toList.drop a)
      have hg' : ∀ W, Calls Try.prog 42 #[.string s, .int .i64 a, .int .i64 1] W fun e w' => e = .returned (.tuple #[.int .u64 (numL ((s.data.toList.drop a).take 1) : Nat), .int .i64 0]) ∧ w' = W := fun W => get_nat s a 1 W Hs.out (by decide) (by omega)
      have HG := Lib.hid hg'
      clear hg hg' hl
      generalize numL ((s.data.toList.drop a).take 1) = n at *
      by_cases h3 : 1 < n
      · rw [if_pos h3]
        have h3' : (1 : Int) < n := by omega
        clear h2
        go_enter Try.func44, Try.ntmps44
        go_wp2_with (go_at_call 25; refine (err_any H.out).mono ?_; rintro e w' ⟨rfl, rfl⟩)
        go_quiet ((go_at_call 42; exact Calls.quiet_of_same (HG.out _)))
        go_wp2
        go_ret
        exact ⟨rfl, (H.out.drewN _).set2 6, gset (gdrewN (World.grownBy.refl _ _) _) _ _⟩
      · rw [if_neg h3]
        have h4 : (a : Int) + 1 ≤ 9223372036854775807 := by omega
        clear h2
        obtain rfl | rfl : n = 0 ∨ n = 1 := by omega
        all_goals
          clear h3 hn
          go_enter Try.func44, Try.ntmps44
          go_wp2_with (go_at_call 25; refine (err_any H.out).mono ?_; rintro e w' ⟨rfl, rfl⟩)
          go_quiet ((go_at_call 42; exact Calls.quiet_of_same (HG.out _)))
          go_wp2
          go_ret
          exact ⟨rfl, (H.out.drewN _).set1 (a + 1), gset (gdrewN (World.grownBy.refl _ _) _) _ _⟩
  · rw [if_pos he]
    have hb : (e != 0) = true := by simp [he]
    clear he hl
    go_enter Try.func44, Try.ntmps44
    go_wp2_with (go_at_call 25; refine (err_any H.out).mono ?_; rintro e w' ⟨rfl, rfl⟩)
    go_ret
    exact ⟨rfl, H.out, World.grownBy.refl _ _⟩
theorem fail_any {g : Nat} {s : ByteArray} {a : Nat} {e : Int} {w : World} (h : Rd w 99 g s a e) (x : Int) :
    Calls Try.prog 46 #[.pointer (some ⟨g, 0, none⟩), .int .i64 x] w fun e' w' =>
      e' = .returned (.tuple #[]) ∧ Rd w' 99 g s a (rFail e x) ∧ w.grownBy w' (some g) := by
  have H := Lib.hid h
  have c2 := h.c2
  have f2 := h.f 2
  clear h
  unfold rFail
  by_cases he : e = 0
  · subst he
    rw [if_pos rfl]
    go_enter Try.func46, Try.ntmps46
    go_wp2
    go_end0
    exact ⟨rfl, H.out.set2 x, gset (World.grownBy.refl _ _) _ _⟩
  · rw [if_neg he]
    have hb : (e == 0) = false := by simp [he]
    clear he
    go_enter Try.func46, Try.ntmps46
    go_wp2
    go_end0
    exact ⟨rfl, H.out, World.grownBy.refl _ _⟩
theorem left_any {g : Nat} {s : ByteArray} {a : Nat} {e : Int} {w : World} (h : Rd w 99 g s a e) (hs : s.size ≤ maxLen) (ha : a ≤ s.size) :
    Calls Try.prog 45 #[.pointer (some ⟨g, 0, none⟩)] w fun e' w' => e' = .returned (.int .i64 ((s.size : Int) - a)) ∧ ∃ n, w' = w.drewN n := by
  have c0 := h.c0
  have c1 := h.c1
  have hs2 : s.size ≤ 9223372036854775807 := hs
  clear h hs
  go_enter Try.func45, Try.ntmps45
  go_wp2
  go_quiet (fail)
  go_wp2
  go_ret
  exact ⟨rfl, _, rfl⟩
end Go.Proofs.Ytebickoieipjpaa
end
section
namespace Go.Proofs.Ytebickoieipjpaa
open Go.RowKit Go.Gi
set_option maxRecDepth 20000
attribute [local go_sem] cellIte
set_option linter.unusedSimpArgs false
set_option linter.unusedVariables false
theorem rend_any {g : Nat} {s : ByteArray} {a : Nat} {e : Int} {w : World} (h : Rd w 99 g s a e) (hs : s.size ≤ maxLen) (ha : a ≤ s.size) :
    Calls Try.prog 26 #[.pointer (some ⟨g, 0, none⟩)] w fun e' w' => e' = .returned (.int .i64 (rEnd s.data.toList a e)) ∧ Rd w' 99 g s a (rEnd s.data.toList a e) ∧ w.grownBy w' (some g) := by
  have H := Lib.hid h
  have Hs := Lib.hid hs
  have hl : s.data.toList.length = s.size := by simp
  clear h hs
  unfold rEnd
  rw [hl]
  by_cases h1 : (s.size : Int) - a > 0
  · rw [if_pos h1]
    clear hl
    go_enter Try.func26, Try.ntmps26
    go_wp2_with (first | (go_at_call 45; refine (left_any H.out Hs.out ha).mono ?_; rintro e w' ⟨rfl, n, rfl⟩) | (go_at_call 46; refine (fail_any (H.out.drewN _) 5).mono ?_; rintro e w1 ⟨rfl, h1, hg1⟩; have H1 := Lib.hid h1; clear h1) | (go_at_call 25; refine (err_any H1.out).mono ?_; rintro e w' ⟨rfl, rfl⟩))
    go_ret
    exact ⟨rfl, H1.out, gstep (gdrewN (World.grownBy.refl _ _) _) hg1⟩
  · rw [if_neg h1]
    clear hl
    go_enter Try.func26, Try.ntmps26
    go_wp2_with (first | (go_at_call 45; refine (left_any H.out Hs.out ha).mono ?_; rintro e w' ⟨rfl, n, rfl⟩) | (go_at_call 25; refine (err_any (H.out.drewN _)).mono ?_; rintro e w' ⟨rfl, rfl⟩))
    go_ret
    exact ⟨rfl, H.out.drewN _, gdrewN (World.grownBy.refl _ _) _⟩
theorem newReader_any (s : ByteArray) (w : World) :
    Calls Try.prog 22 #[.string s] w fun e w' => ∃ g, e = .returned (.pointer (some ⟨g, 0, none⟩)) ∧ Rd w' 99 g s 0 0 ∧ g = w.heap.size ∧ Below w.heap.size w w' := by
  go_enter Try.func22, Try.ntmps22
  go_wp2
  go_ret
  exact ⟨_, rfl, (Blk.new w _ _ : Blk _ _ _ _), rfl, balloc (Below.refl _ _) _⟩
theorem Rd.far {w : World} {T g b o : Nat} {s : ByteArray} {a : Nat} {e : Int} {u : Value} (h : Rd w T g s a e) (hne : ¬ b = g) : Rd (w.setCell ⟨b, o, none⟩ u) T g s a e :=
  (Below.heap_setCell w ⟨b, o, none⟩ u g (fun h => hne h.symm)).trans h
theorem rtext_eq {g : Nat} {s : ByteArray} {a : Nat} {e : Int} {w : World} (h : Rd w 99 g s a e) (hs : s.size ≤ maxLen) (ha : a ≤ s.size) (n : Int) (l : List UInt8) (a1 : Nat) (e1 : Int) (hn : rText s.data.toList a e n = (l, a1, e1)) :
    Calls Try.prog 43 #[.pointer (some ⟨g, 0, none⟩), .int .i64 n] w fun e' w' => e' = .returned (.string (bs l)) ∧ Rd w' 99 g s a1 e1 ∧ w.grownBy w' (some g) := by
  have := rtext_any h n hs ha
  rw [hn] at this
  exact this
theorem rbool_eq {g : Nat} {s : ByteArray} {a : Nat} {e : Int} {w : World} (h : Rd w 99 g s a e) (hs : s.size ≤ maxLen) (ha : a ≤ s.size) (v : Bool) (a1 : Nat) (e1 : Int) (hn : rBool s.data.toList a e = (v, a1, e1)) :
    Calls Try.prog 44 #[.pointer (some ⟨g, 0, none⟩)] w fun e' w' => e' = .returned (.bool v) ∧ Rd w' 99 g s a1 e1 ∧ w.grownBy w' (some g) := by
  have := rbool_any h hs ha
  rw [hn] at this
  exact this
end Go.Proofs.Ytebickoieipjpaa
end
section
namespace Go.Proofs.Ytebickoieipjpaa
open Go.RowKit Go.Gi
set_option maxRecDepth 20000
set_option linter.unusedVariables false
theorem num_st {g : Nat} {L : List UInt8} {a : Nat} {e : Int} {w : World} (h : RS w 99 g L a e) (long : Int) (v a1 : Nat) (e1 : Int) (hn : rNum L a e long = (v, a1, e1)) :
    Calls Try.prog 23 #[.pointer (some ⟨g, 0, none⟩), .int .i64 long] w fun e' w' => e' = .returned (.int .u64 (v : Nat)) ∧ RS w' 99 g L a1 e1 ∧ w.grownBy w' (some g) := by
  have hle := rNum_le L a e long h.at_
  rw [hn] at hle
  exact (num_eq h.rd h.long (by rw [bs_size]; exact h.at_) long v a1 e1 (by rw [toList_bs]; exact hn)).mono fun _ _ ⟨x, y, z⟩ => ⟨x, ⟨y, hle, h.long⟩, z⟩
theorem text_st {g : Nat} {L : List UInt8} {a : Nat} {e : Int} {w : World} (h : RS w 99 g L a e) (most : Int) (v : List UInt8) (a1 : Nat) (e1 : Int) (hn : rText L a e most = (v, a1, e1)) :
    Calls Try.prog 43 #[.pointer (some ⟨g, 0, none⟩), .int .i64 most] w fun e' w' => e' = .returned (.string (bs v)) ∧ RS w' 99 g L a1 e1 ∧ w.grownBy w' (some g) := by
  have hle := rText_le L a e most h.at_
  rw [hn] at hle
  exact (rtext_eq h.rd h.long (by rw [bs_size]; exact h.at_) most v a1 e1 (by rw [toList_bs]; exact hn)).mono fun _ _ ⟨x, y, z⟩ => ⟨x, ⟨y, hle, h.long⟩, z⟩
theorem bool_st {g : Nat} {L : List UInt8} {a : Nat} {e : Int} {w : World} (h : RS w 99 g L a e) (v : Bool) (a1 : Nat) (e1 : Int) (hn : rBool L a e = (v, a1, e1)) :
    Calls Try.prog 44 #[.pointer (some ⟨g, 0, none⟩)] w fun e' w' => e' = .returned (.bool v) ∧ RS w' 99 g L a1 e1 ∧ w.grownBy w' (some g) := by
  have hle := rBool_le L a e h.at_
  rw [hn] at hle
  exact (rbool_eq h.rd h.long (by rw [bs_size]; exact h.at_) v a1 e1 (by rw [toList_bs]; exact hn)).mono fun _ _ ⟨x, y, z⟩ => ⟨x, ⟨y, hle, h.long⟩, z⟩
end Go.Proofs.Ytebickoieipjpaa
end
section
namespace Go.Gi
open Go.RowKit
set_option maxRecDepth 20000
theorem append_str_at {P : Program} (w : World) (base : Nat) (t u ty e : TypeId) (i : TypeInfo) (ht : P.underlying t = some (.slice e)) (hu : P.underlying u = some .string) (hi : P.info? e = some i) (hz : i.zero = some (.int .u8 0))
    (hsize : i.size = 1) (hby : i.bytes = 1) (v : Value) (n : Nat) (xs : List Value) (hown : w.ownsRow base e 1 v n xs) (s : ByteArray)
    (h63 : n + s.size ≤ maxLen) (hbytes : n + s.size ≤ 140737488355328) {v' : Value} {w' : World} (hr : (Builtin.append_ #[t, u] ty #[v, .string s]).run P w = .ok v' w') :
    v'.ownBlock = v.ownBlock ∨ v'.ownBlock = some w.heap.size := by
  have hsmall : n + s.size ≤ 9223372036854775807 := by simp only [maxLen] at h63; omega
  have hxl : xs.length = n := by simpa using hown.1
  rcases hown.2 with ⟨rfl, rfl⟩ | ⟨g, cap, cur, rfl, hbg, hg, hnc, hcm, hcs, htake⟩
  · by_cases hm : s.size = 0
    · have hf := Lib.run_firstCells_string (P := P) w 1 s
      rw [hm] at hf
      simp [Builtin.append_, run_underlying ht, run_underlying hu, sizeOf, typeInfo, hi, hsize, Builtin.lenOf, hm, hf] at hr
      exact .inl (by rw [← hr.1])
    · have h2 := run_append_nil_string (P := P) w t u ty e i (.int .u8 0) ht hu hi hz s (by omega) (by omega) (by rw [hby]; omega)
      rw [h2] at hr
      injection hr with e1 _
      exact .inr (by rw [← e1]; rfl)
  · by_cases hroom : n + s.size ≤ cap
    · have hcs' : cur.size = cap := by simpa using hcs
      have h2 := Lib.run_append_room_string (P := P) w t u ty e i ht hu hi hsize g n cap cur hg s hroom (by omega)
      rw [h2] at hr
      injection hr with e1 _
      exact .inl (by rw [← e1]; rfl)
    · have holds : ∀ j u, xs[j]? = some u → w.cell? ((⟨g, 0, none⟩ : Addr).add j) = some u := hown.cells (g := g) rfl
      have h2 := Lib.run_append_grow_string (P := P) w t u ty e i (.int .u8 0) ht hu hi hz ⟨g, 0, none⟩ n cap xs (by rw [hsize]; simpa using hxl) holds s (by omega) (by omega) (by rw [hby]; exact growslice_fits (by omega) (by omega))
      rw [h2] at hr
      injection hr with e1 _
      exact .inr (by rw [← e1]; rfl)
theorem wpList_append_str {P : Program} {w : World} {ops : Array Oper} {rest : List Oper} {o : Oper} {a : Act} {Q : Exit → Act → World → Prop} (hgd : o.guard = none) (sl x : Operand) (t u : TypeId)
    (ho : o.op = .call { callee := .builtin .append, args := #[sl, x], argTypes := #[t, u] })
    (base : Nat) (e : TypeId) (i : TypeInfo) (ht : P.underlying t = some (.slice e)) (hu : P.underlying u = some .string) (hi : P.info? e = some i) (hz : i.zero = some (.int .u8 0))
    (hsize : i.size = 1) (hby : i.bytes = 1)
    (v : Value) (l : List UInt8) (hs : a.eval sl = v) (hown : w.ownsRow base e 1 v l.length (l.map u8V)) (s : ByteArray) (hx : a.eval x = .string s)
    (hbytes : l.length + s.size ≤ 140737488355328) (hbase : base ≤ w.heap.size)
    (h : ∀ v' w', w'.ownsRow base e 1 v' (l ++ s.data.toList).length ((l ++ s.data.toList).map u8V) → w.grownBy w' v.ownBlock → (v'.ownBlock = v.ownBlock ∨ v'.ownBlock = some w.heap.size) → wpList P ops Q rest (a.put o.dst v') w') : wpList P ops Q (o :: rest) a w := by
  refine wpList_plain hgd fun K hK => ?_
  have h63 : l.length + s.size ≤ maxLen := by unfold maxLen; omega
  obtain ⟨v', w', hr, h2, h3, _⟩ := Lib.run_append_own_string (P := P) w base t u o.type e i ht hu hi hz hsize hby v _ _ hown s h63 hbytes hbase
  have h4 := append_str_at w base t u o.type e i ht hu hi hz hsize hby v _ _ hown s h63 hbytes hr
  unfold Oper.wp execOp
  simp only [ho, resolve, invoke, builtin, Sem.run_bind, Sem.run_pure, Result.andThen_ok, List.map_toArray, List.map_cons, List.map_nil, hs, hx, hr]
  refine hK _ _ (h v' w' ?_ h3 h4)
  have e1 : (l ++ s.data.toList).length = l.length + s.size := by simp
  have e2 : (l ++ s.data.toList).map u8V = l.map u8V ++ Lib.strCells s := by rw [List.map_append]; rfl
  rw [e1, e2]
  exact h2
def Wr (w : World) (TW TE base g : Nat) (r : Option Nat) (l : List UInt8) : Prop :=
  base ≤ g ∧ ∃ v, w.heap[g]? = some (.cells #[v] TW (0, 0)) ∧ w.ownsRow base TE 1 v l.length (l.map u8V) ∧ v.ownBlock = r
structure WK (w w' : World) (g : Nat) (r r' : Option Nat) : Prop where
  os : w'.os = w.os
  tape : w'.tape = w.tape
  output : w'.output = w.output
  size : w.heap.size ≤ w'.heap.size
  block : ∀ k, k < w.heap.size → k ≠ g → some k ≠ r → w'.heap[k]? = w.heap[k]?
  next : r' = r ∨ ∃ k, r' = some k ∧ w.heap.size ≤ k
theorem WK.refl (w : World) (g : Nat) (r : Option Nat) : WK w w g r r := ⟨rfl, rfl, rfl, Nat.le_refl _, fun _ _ _ _ => rfl, .inl rfl⟩
theorem WK.trans {a b c : World} {g : Nat} {r r1 r2 : Option Nat} (h : WK a b g r r1) (k : WK b c g r1 r2) : WK a c g r r2 := by
  refine ⟨k.os.trans h.os, k.tape.trans h.tape, k.output.trans h.output, Nat.le_trans h.size k.size, fun i hi hg hr => ?_, ?_⟩
  · refine (k.block i (Nat.lt_of_lt_of_le hi h.size) hg ?_).trans (h.block i hi hg hr)
    rcases h.next with rfl | ⟨j, rfl, hj⟩
    · exact hr
    · intro e; injection e with e; omega
  · rcases k.next with rfl | ⟨j, rfl, hj⟩
    · exact h.next
    · exact .inr ⟨j, rfl, Nat.le_trans h.size hj⟩
theorem WK.pre {a b c : World} {g : Nat} {r r' : Option Nat} (h : Below a.heap.size a b) (k : WK b c g r r') : WK a c g r r' := by
  refine ⟨k.os.trans h.os, k.tape.trans h.tape, k.output.trans h.output, Nat.le_trans h.size k.size, fun i hi hg hr => (k.block i (Nat.lt_of_lt_of_le hi h.size) hg hr).trans (h.block i hi), ?_⟩
  rcases k.next with rfl | ⟨j, rfl, hj⟩
  · exact .inl rfl
  · exact .inr ⟨j, rfl, Nat.le_trans h.size hj⟩
theorem WK.post {a b c : World} {g : Nat} {r r' : Option Nat} (k : WK a b g r r') (h : Below b.heap.size b c) : WK a c g r r' :=
  ⟨h.os.trans k.os, h.tape.trans k.tape, h.output.trans k.output, Nat.le_trans k.size h.size, fun i hi hg hr => (h.block i (Nat.lt_of_lt_of_le hi k.size)).trans (k.block i hi hg hr), k.next⟩
section
variable {w w' : World} {TW TE base g : Nat} {r r' : Option Nat} {l : List UInt8}
theorem Wr.lt (h : Wr w TW TE base g r l) : g < w.heap.size := by
  obtain ⟨_, v, hg, _⟩ := h
  exact (Array.getElem?_eq_some_iff.1 hg).1
theorem Wr.row (h : Wr w TW TE base g r l) : ∀ k, r = some k → base ≤ k ∧ k < w.heap.size := by
  obtain ⟨_, v, hg, ho, rfl⟩ := h
  exact ho.lt
theorem Wr.step (h : Wr w TW TE base g r l) (hb : Below w.heap.size w w') : Wr w' TW TE base g r l := by
  obtain ⟨hg, v, hc, ho, rfl⟩ := h
  refine ⟨hg, v, (hb.block g (Array.getElem?_eq_some_iff.1 hc).1).trans hc, ho.kept (row := none) ⟨hb.os, hb.tape, hb.output, hb.size, fun k hk _ => hb.block k hk⟩ ?_, rfl⟩
  cases hv : v.ownBlock <;> simp
theorem Wr.alloc (h : Wr w TW TE base g r l) (o : Obj) : Wr (w.alloc o) TW TE base g r l := h.step (balloc (Below.refl _ _) o)
theorem Wr.drew (h : Wr w TW TE base g r l) : Wr w.drew TW TE base g r l := h.step (bdrew (Below.refl _ _))
theorem Wr.drewN (h : Wr w TW TE base g r l) (n : Nat) : Wr (w.drewN n) TW TE base g r l := h.step (bdrewN (Below.refl _ _) n)
theorem WK.below {w0 : World} (hB : Below w0.heap.size w0 w) (h : WK w w' g r r') (hg : w0.heap.size ≤ g) (hr : ∀ k, r = some k → w0.heap.size ≤ k) : Below w0.heap.size w0 w' :=
  hB.trans ⟨h.os, h.tape, h.output, h.size, fun k hk => h.block k (Nat.lt_of_lt_of_le hk hB.size) (by omega) (fun e => by have := hr k e.symm; omega)⟩
theorem WK.blk (hw : Wr w TW TE base g r l) (h : WK w w' g r r') {b T : Nat} {cs : Array Value} (hb : Blk w b T cs) (h1 : T ≠ TW) (h2 : T ≠ TE) : Blk w' b T cs := by
  obtain ⟨_, v, hg, ho, rfl⟩ := hw
  refine (h.block b hb.lt ?_ ?_).trans hb
  · rintro rfl
    unfold Blk at hb
    rw [hg] at hb
    injection hb with hb
    injection hb with _ ht
    exact h1 ht.symm
  · intro e
    rcases ho.2 with ⟨rfl, _⟩ | ⟨g', cap, cur, rfl, _, hh, _⟩
    · simp [Value.ownBlock] at e
    · simp [Value.ownBlock] at e
      subst e
      unfold Blk at hb
      rw [hh] at hb
      injection hb with hb
      injection hb with _ ht
      exact h2 ht.symm
end
theorem own_ne_of {w : World} {base TE TW n g : Nat} {v : Value} {xs : List Value} {cs : Array Value} (ho : w.ownsRow base TE 1 v n xs) (hg : w.heap[g]? = some (.cells cs TW (0, 0))) (ht : TW ≠ TE) : some g ≠ v.ownBlock := by
  intro e
  rcases ho.2 with ⟨rfl, _⟩ | ⟨g', cap, cur, rfl, _, hh, _⟩
  · simp [Value.ownBlock] at e
  · simp [Value.ownBlock] at e
    subst e
    rw [hh] at hg
    injection hg with hg
    injection hg with _ h2
    exact ht h2.symm
end Go.Gi
end
section
namespace Go.Proofs.Ytebickoieipjpaa
open Go.RowKit Go.Gi
set_option maxRecDepth 20000
set_option linter.unusedVariables false
theorem newWriter_any (w : World) (base : Nat) (hb : base ≤ w.heap.size) :
    Calls Try.prog 17 #[] w fun e w' => ∃ g, e = .returned (.pointer (some ⟨g, 0, none⟩)) ∧ Wr w' 94 5 base g none [] ∧ g = w.heap.size ∧ Below w.heap.size w w' := by
  go_enter Try.func17, Try.ntmps17
  go_wp2
  go_ret
  exact ⟨_, rfl, ⟨hb, _, Blk.new w _ _, World.ownsRow_nil _ _ _ _, rfl⟩, rfl, balloc (Below.refl _ _) _⟩
theorem own_slice {w : World} {base e size n : Nat} {v : Value} {xs : List Value} (h : w.ownsRow base e size v n xs) : ∃ A c, v = .slice A n c := by
  rcases h.2 with ⟨rfl, rfl⟩ | ⟨g, cap, _, rfl, _⟩
  · exact ⟨_, _, rfl⟩
  · exact ⟨_, _, rfl⟩
set_option maxHeartbeats 800000 in
theorem wbytes_any {w : World} {base g : Nat} {r : Option Nat} {l : List UInt8} (h : Wr w 94 5 base g r l) (s : ByteArray) (hs : l.length + s.size ≤ 140737488355328) :
    Calls Try.prog 38 #[.pointer (some ⟨g, 0, none⟩), .string s] w fun e w' => e = .returned (.tuple #[]) ∧ ∃ r', Wr w' 94 5 base g r' (l ++ s.data.toList) ∧ WK w w' g r r' := by
  obtain ⟨i0, hi, hz0, hz1, hz2⟩ := info_parts infoU8
  have hlt := h.lt
  obtain ⟨hbg, v, hg, hown, rfl⟩ := h
  obtain ⟨A, c, rfl⟩ := own_slice hown
  have c0 : w.cell? ⟨g, 0, none⟩ = some (.slice A l.length c) := by simp [World.cell?, hg]
  have f0 : w.frozen? ⟨g, 0, none⟩ = false := by simp [World.frozen?, hg]
  have HG := Lib.hid hg
  clear hg
  have hbs : base ≤ w.heap.size := by omega
  go_enter Try.func38, Try.ntmps38
  go_wp2_with (at_builtin; refine wpList_append_str rfl _ _ 92 9 rfl base 5 i0 Try.underlying92 Try.underlying9 hi hz0 hz1 hz2 _ l rfl hown s rfl hs hbs ?_; intro v1 w1 hown1 hg1 hat; obtain ⟨A1, c1, rfl⟩ := own_slice hown1; have hne : some g ≠ (Value.slice A l.length c).ownBlock := (own_ne_of hown HG.out (by decide)); have HG1 := Lib.hid ((hg1.block g hlt hne).trans HG.out); have k0 : w1.cell? ⟨g, 0, none⟩ = some (.slice A l.length c) := (by have := HG1.out; simp [World.cell?, this]); have kf : w1.frozen? ⟨g, 0, none⟩ = false := (by have := HG1.out; simp [World.frozen?, this]); have Hown1 := Lib.hid hown1; have Hat := Lib.hid hat; have Hg1 := Lib.hid hg1; clear hown1 hat hg1)
  go_end0
  have hlen : (l ++ s.data.toList).length = l.length + s.size := by simp
  have Hown2 := Hown1.out
  have Hat2 := Hat.out
  have hg2 : w.grownBy w1 (Value.slice A l.length c).ownBlock := Hg1.out
  have hat2 : (Value.slice A1 (l.length + s.size) c1).ownBlock = (Value.slice A l.length c).ownBlock ∨ (Value.slice A1 (l.length + s.size) c1).ownBlock = some w.heap.size := by
    rw [hlen] at Hat2
    exact Hat2
  clear Hat2
  have hown2 : w1.ownsRow base 5 1 (Value.slice A1 (l.length + s.size) c1) (l ++ s.data.toList).length (List.map u8V (l ++ s.data.toList)) := by
    rw [← hlen]; exact Hown2
  clear Hown2
  have hne1 : some g ≠ (Value.slice A1 (l.length + s.size) c1).ownBlock := own_ne_of hown2 HG1.out (by decide)
  have HB : Blk w1 g 94 #[.slice A l.length c] := HG1.out
  have hset := gset (World.grownBy.refl w1 (some g)) 0 (.slice A1 (l.length + s.size) c1)
  refine ⟨rfl, _, ⟨hbg, _, HB.set_ 0 _, hown2.kept hset (.inr (fun e => hne1 e.symm)), rfl⟩, ⟨hset.os.trans hg2.os, hset.tape.trans hg2.tape, hset.output.trans hg2.output, Nat.le_trans hg2.size hset.size, fun k hk hkg hkr => ?_, ?_⟩⟩
  · exact (hset.block k (Nat.lt_of_lt_of_le hk hg2.size) (fun e => hkg (by injection e))).trans (hg2.block k hk hkr)
  · rcases hat2 with h | h
    · exact .inl h
    · exact .inr ⟨_, h, Nat.le_refl _⟩
theorem wnumber_any {w : World} {base g : Nat} {r : Option Nat} {l : List UInt8} (h : Wr w 94 5 base g r l) (n long : Int) (h0 : 0 ≤ n) (h1 : n ≤ 18446744073709551615) (hs : l.length + 8 ≤ 140737488355328) :
    Calls Try.prog 18 #[.pointer (some ⟨g, 0, none⟩), .int .u64 n, .int .i64 long] w fun e w' => e = .returned (.tuple #[]) ∧ ∃ r', Wr w' 94 5 base g r' (l ++ putL (clamp8 long) n.toNat) ∧ WK w w' g r r' := by
  have H := Lib.hid h
  clear h
  have h8 : clamp8 long ≤ 8 := by unfold clamp8; omega
  have hl : l.length + (bs (putL (clamp8 long) n.toNat)).size ≤ 140737488355328 := by rw [bs_size, putL_length]; omega
  go_enter Try.func18, Try.ntmps18
  go_wp2_with (first | (go_at_call 39; refine (put_any _ _ _ h0 h1).mono ?_; rintro e w1 ⟨rfl, hb1⟩; have Hb1 := Lib.hid hb1; clear hb1) | (go_at_call 38; refine (wbytes_any (H.out.step Hb1.out) _ hl).mono ?_; rintro e w2 ⟨rfl, r2, hw2, hk2⟩; have Hw2 := Lib.hid hw2; have Hk2 := Lib.hid hk2; clear hw2 hk2))
  go_end0
  refine ⟨rfl, r2, ?_, WK.pre Hb1.out Hk2.out⟩
  have := Hw2.out
  rw [toList_bs] at this
  exact this
theorem wtext_ok {w : World} {base g : Nat} {r : Option Nat} {l : List UInt8} (h : Wr w 94 5 base g r l) (s : ByteArray) (h1 : s.size ≤ 65535) (hs : l.length + 65537 ≤ 140737488355328) :
    Calls Try.prog 40 #[.pointer (some ⟨g, 0, none⟩), .string s] w fun e w' => e = .returned (.int .i64 0) ∧ ∃ r', Wr w' 94 5 base g r' (l ++ putL 2 s.size ++ s.data.toList) ∧ WK w w' g r r' := by
  have H := Lib.hid h
  clear h
  have hl : l.length + (bs (putL 2 s.size) ++ s).size ≤ 140737488355328 := by rw [ByteArray.size_append, bs_size, putL_length]; omega
  go_enter Try.func40, Try.ntmps40
  go_wp2_with (first | (go_at_call 53; refine (text_ok _ _ h1).mono ?_; rintro e w1 ⟨rfl, hb1⟩; have Hb1 := Lib.hid hb1; clear hb1) | (go_at_call 38; refine (wbytes_any (H.out.step Hb1.out) _ hl).mono ?_; rintro e w2 ⟨rfl, r2, hw2, hk2⟩; have Hw2 := Lib.hid hw2; have Hk2 := Lib.hid hk2; clear hw2 hk2))
  go_ret
  refine ⟨rfl, r2, ?_, WK.pre Hb1.out Hk2.out⟩
  have := Hw2.out
  rw [show (bs (putL 2 s.size) ++ s).data.toList = putL 2 s.size ++ s.data.toList by simp [bs], ← List.append_assoc] at this
  exact this
theorem wbool_any {w : World} {base g : Nat} {r : Option Nat} {l : List UInt8} (h : Wr w 94 5 base g r l) (b : Bool) (hs : l.length + 8 ≤ 140737488355328) :
    Calls Try.prog 41 #[.pointer (some ⟨g, 0, none⟩), .bool b] w fun e w' => e = .returned (.tuple #[]) ∧ ∃ r', Wr w' 94 5 base g r' (l ++ [if b then 1 else 0]) ∧ WK w w' g r r' := by
  have H := Lib.hid h
  clear h
  cases b
  all_goals
    go_enter Try.func41, Try.ntmps41
    go_wp2_with (go_at_call 18; refine (wnumber_any H.out _ 1 (by decide) (by decide) hs).mono ?_; rintro e w2 ⟨rfl, r2, hw2, hk2⟩; have Hw2 := Lib.hid hw2; have Hk2 := Lib.hid hk2; clear hw2 hk2)
    go_end0
    exact ⟨rfl, r2, Hw2.out, Hk2.out⟩
theorem wall_any {w : World} {base g : Nat} {r : Option Nat} {l : List UInt8} (h : Wr w 94 5 base g r l) :
    Calls Try.prog 21 #[.pointer (some ⟨g, 0, none⟩)] w fun e w' => e = .returned (.string (bs l)) ∧ w' = w := by
  obtain ⟨hbg, v, hg, hown, rfl⟩ := h
  have hcv := own_string (P := Try.prog) Try.underlying92 Try.underlying5 Try.underlying9 hown
  obtain ⟨A, c, rfl⟩ := own_slice hown
  have c0 : w.cell? ⟨g, 0, none⟩ = some (.slice A l.length c) := by simp [World.cell?, hg]
  clear hg hown
  go_enter Try.func21, Try.ntmps21
  go_wp2
  go_ret
  exact ⟨rfl, rfl⟩
end Go.Proofs.Ytebickoieipjpaa
end
section
namespace Go.Proofs.Ytebickoieipjpaa
open Go.RowKit Go.Gi
set_option maxRecDepth 20000
set_option linter.unusedSimpArgs false
set_option linter.unusedVariables false
theorem cells17 {w : World} {g T : Nat} {kind tx prev next page ok oa : Int} {os oo : List UInt8} {undo index : Int} {key : List UInt8} {rpage rslot : Int} {live : Bool} {V10 V11 : Value}
    (h : Blk w g T #[.int .i64 kind, .int .i64 tx, .int .u64 prev, .int .u64 next, .int .u32 page, .int .i64 ok, .int .i64 oa, .string (bs os), .string (bs oo), .int .i64 undo, .int .i64 index, .string (bs key), .int .u32 rpage, .int .i64 rslot, .bool live, V10, V11]) :
    w.cell? ⟨g, 4, none⟩ = some (.int .u32 page) ∧ w.cell? ⟨g, 5, none⟩ = some (.int .i64 ok) ∧ w.cell? ⟨g, 6, none⟩ = some (.int .i64 oa) ∧ w.cell? ⟨g, 7, none⟩ = some (.string (bs os)) ∧ w.cell? ⟨g, 8, none⟩ = some (.string (bs oo))
    ∧ w.cell? ⟨g, 9, none⟩ = some (.int .i64 undo) ∧ w.cell? ⟨g, 10, none⟩ = some (.int .i64 index) ∧ w.cell? ⟨g, 11, none⟩ = some (.string (bs key)) ∧ w.cell? ⟨g, 12, none⟩ = some (.int .u32 rpage) ∧ w.cell? ⟨g, 13, none⟩ = some (.int .i64 rslot) ∧ w.cell? ⟨g, 14, none⟩ = some (.bool live) :=
  ⟨h.cell 4, h.cell 5, h.cell 6, h.cell 7, h.cell 8, h.cell 9, h.cell 10, h.cell 11, h.cell 12, h.cell 13, h.cell 14⟩
set_option maxHeartbeats 16000000 in
theorem putChange_any {w : World} {base g : Nat} {ro : Option Nat} {l : List UInt8} (h : Wr w 94 5 base g ro l) (r : RecR) (A : Option Addr) (c : Nat) (B : Option Addr) (d : Nat) (hl : l.length ≤ 1000)
    (hp : 0 ≤ r.page ∧ r.page ≤ 4294967295) (hrp : 0 ≤ r.rpage ∧ r.rpage ≤ 4294967295) (hk : 0 ≤ r.ok ∧ r.ok ≤ 65535) (ha : 0 ≤ r.oa ∧ r.oa ≤ 65535) (hs : r.os.length ≤ 65535) (ho : r.oo.length ≤ 65535) (hu : 0 ≤ r.undo ∧ r.undo ≤ 2) (hi : 0 ≤ r.index ∧ r.index ≤ 65535) (hkk : r.key.length ≤ 65535) (hrs : 0 ≤ r.rslot ∧ r.rslot ≤ 65535) :
    Calls Try.prog 20 #[.pointer (some ⟨g, 0, none⟩), r.val A c B d] w fun e w' => e = .returned (.tuple #[]) ∧ ∃ ro', Wr w' 94 5 base g ro' (l ++ chB r) ∧ WK w w' g ro ro' := by
  obtain ⟨kind, tx, prev, next, page, ok, oa, os, oo, undo, index, key, rpage, rslot, live, txs, dirty⟩ := r
  unfold chB keyB txB
  simp only [] at hp hrp hk ha hs ho hu hi hkk hrs ⊢
  show Calls Try.prog 20 #[.pointer (some ⟨g, 0, none⟩), .agg #[.int .i64 kind, .int .i64 tx, .int .u64 prev, .int .u64 next, .int .u32 page, .int .i64 ok, .int .i64 oa, .string (bs os), .string (bs oo), .int .i64 undo, .int .i64 index, .string (bs key), .int .u32 rpage, .int .i64 rslot, .bool live, .slice A txs.length c, .slice B dirty.length d]] w _
  generalize hL : l ++ (putL 4 page.toNat ++ putL 1 ok.toNat ++ putL 2 oa.toNat ++ (putL 2 os.length ++ os) ++ (putL 2 oo.length ++ oo) ++ putL 1 undo.toNat ++ (if undo = 2 then putL 2 index.toNat ++ (putL 2 key.length ++ key) ++ putL 4 rpage.toNat ++ putL 2 rslot.toNat ++ [if live = true then 1 else 0] else [])) = L
  have HL := Lib.hid hL
  clear hL
  have HW := Lib.hid h
  clear h
  generalize Value.slice A txs.length c = VA
  generalize Value.slice B dirty.length d = VB
  have hs' : (bs os).size ≤ 65535 := by rw [bs_size]; exact hs
  have ho' : (bs oo).size ≤ 65535 := by rw [bs_size]; exact ho
  have hkk' : (bs key).size ≤ 65535 := by rw [bs_size]; exact hkk
  have Hs := Lib.hid hs'
  have Ho := Lib.hid ho'
  have Hk := Lib.hid hkk'
  clear hs' ho' hkk'
  go_enter Try.func20, Try.ntmps20
  go_upto_region 1 with fail
  have hB := Blk.new w 35 #[.int .i64 kind, .int .i64 tx, .int .u64 prev, .int .u64 next, .int .u32 page, .int .i64 ok, .int .i64 oa, .string (bs os), .string (bs oo), .int .i64 undo, .int .i64 index, .string (bs key), .int .u32 rpage, .int .i64 rslot, .bool live, VA, VB]
  have hW := balloc (Below.refl w.heap.size w) (.cells #[.int .i64 kind, .int .i64 tx, .int .u64 prev, .int .u64 next, .int .u32 page, .int .i64 ok, .int .i64 oa, .string (bs os), .string (bs oo), .int .i64 undo, .int .i64 index, .string (bs key), .int .u32 rpage, .int .i64 rslot, .bool live, VA, VB] 35)
  generalize w.alloc (.cells #[.int .i64 kind, .int .i64 tx, .int .u64 prev, .int .u64 next, .int .u32 page, .int .i64 ok, .int .i64 oa, .string (bs os), .string (bs oo), .int .i64 undo, .int .i64 index, .string (bs key), .int .u32 rpage, .int .i64 rslot, .bool live, VA, VB] 35) = w0 at *
  generalize Value.agg #[.int .i64 kind, .int .i64 tx, .int .u64 prev, .int .u64 next, .int .u32 page, .int .i64 ok, .int .i64 oa, .string (bs os), .string (bs oo), .int .i64 undo, .int .i64 index, .string (bs key), .int .u32 rpage, .int .i64 rslot, .bool live, VA, VB] = V0 at *
  generalize hg1 : w.heap.size = g1 at *
  have HG := Lib.hid hg1
  obtain ⟨c4, c5, c6, c7, c8, c9, c10, c11, c12, c13, c14⟩ := cells17 hB
  have HK := Lib.hid (WK.pre (by rw [hg1]; exact hW) (WK.refl w0 g ro))
  have HW0 := Lib.hid (HW.out.step (by rw [hg1]; exact hW))
  have HB := Lib.hid hB
  clear hB hW hg1 HW
  have HW := HW0
  clear HW0
  by_cases hu2 : undo = 2
  · have hub : (undo == 2) = true := by simp [hu2]
    have HU := Lib.hid hu2
    clear hu2
    go_wp2_with (first | (go_at_call 18; refine (wnumber_any HW.out _ _ (by omega) (by omega) (by simp [clamp8, putL_length]; omega)).mono ?_; rintro e w1 ⟨rfl, r1, h1, k1⟩; clear c4 c5 c6 c7 c8 c9 c10 c11 c12 c13 c14; obtain ⟨c4, c5, c6, c7, c8, c9, c10, c11, c12, c13, c14⟩ := cells17 (WK.blk HW.out k1 HB.out (by decide) (by decide)); have HB1 := Lib.hid (WK.blk HW.out k1 HB.out (by decide) (by decide)); have HK1 := Lib.hid (HK.out.trans k1); have HW1 := Lib.hid h1; clear HW HB HK h1 k1; have HW := HW1; have HB := HB1; have HK := HK1; clear HW1 HB1 HK1) | (go_at_call 40; refine (wtext_ok HW.out _ (by first | exact Hs.out | exact Ho.out | exact Hk.out) (by simp [clamp8, putL_length]; omega)).mono ?_; rintro e w1 ⟨rfl, r1, h1, k1⟩; rw [toList_bs, bs_size] at h1; clear c4 c5 c6 c7 c8 c9 c10 c11 c12 c13 c14; obtain ⟨c4, c5, c6, c7, c8, c9, c10, c11, c12, c13, c14⟩ := cells17 (WK.blk HW.out k1 HB.out (by decide) (by decide)); have HB1 := Lib.hid (WK.blk HW.out k1 HB.out (by decide) (by decide)); have HK1 := Lib.hid (HK.out.trans k1); have HW1 := Lib.hid h1; clear HW HB HK h1 k1; have HW := HW1; have HB := HB1; have HK := HK1; clear HW1 HB1 HK1) | (go_at_call 41; refine (wbool_any HW.out _ (by simp [clamp8, putL_length]; omega)).mono ?_; rintro e w1 ⟨rfl, r1, h1, k1⟩; clear c4 c5 c6 c7 c8 c9 c10 c11 c12 c13 c14; obtain ⟨c4, c5, c6, c7, c8, c9, c10, c11, c12, c13, c14⟩ := cells17 (WK.blk HW.out k1 HB.out (by decide) (by decide)); have HB1 := Lib.hid (WK.blk HW.out k1 HB.out (by decide) (by decide)); have HK1 := Lib.hid (HK.out.trans k1); have HW1 := Lib.hid h1; clear HW HB HK h1 k1; have HW := HW1; have HB := HB1; have HK := HK1; clear HW1 HB1 HK1))
    go_end0
    refine ⟨rfl, r1, ?_, HK.out⟩
    rw [← HL.out, if_pos HU.out]
    have := HW.out
    simp only [c8_1, c8_2, c8_4, c8_8, List.append_assoc] at this ⊢
    exact this
  · have hub : (undo == 2) = false := by simp [hu2]
    have HU := Lib.hid hu2
    clear hu2
    go_wp2_with (first | (go_at_call 18; refine (wnumber_any HW.out _ _ (by omega) (by omega) (by simp [clamp8, putL_length]; omega)).mono ?_; rintro e w1 ⟨rfl, r1, h1, k1⟩; clear c4 c5 c6 c7 c8 c9 c10 c11 c12 c13 c14; obtain ⟨c4, c5, c6, c7, c8, c9, c10, c11, c12, c13, c14⟩ := cells17 (WK.blk HW.out k1 HB.out (by decide) (by decide)); have HB1 := Lib.hid (WK.blk HW.out k1 HB.out (by decide) (by decide)); have HK1 := Lib.hid (HK.out.trans k1); have HW1 := Lib.hid h1; clear HW HB HK h1 k1; have HW := HW1; have HB := HB1; have HK := HK1; clear HW1 HB1 HK1) | (go_at_call 40; refine (wtext_ok HW.out _ (by first | exact Hs.out | exact Ho.out | exact Hk.out) (by simp [clamp8, putL_length]; omega)).mono ?_; rintro e w1 ⟨rfl, r1, h1, k1⟩; rw [toList_bs, bs_size] at h1; clear c4 c5 c6 c7 c8 c9 c10 c11 c12 c13 c14; obtain ⟨c4, c5, c6, c7, c8, c9, c10, c11, c12, c13, c14⟩ := cells17 (WK.blk HW.out k1 HB.out (by decide) (by decide)); have HB1 := Lib.hid (WK.blk HW.out k1 HB.out (by decide) (by decide)); have HK1 := Lib.hid (HK.out.trans k1); have HW1 := Lib.hid h1; clear HW HB HK h1 k1; have HW := HW1; have HB := HB1; have HK := HK1; clear HW1 HB1 HK1) | (go_at_call 41; refine (wbool_any HW.out _ (by simp [clamp8, putL_length]; omega)).mono ?_; rintro e w1 ⟨rfl, r1, h1, k1⟩; clear c4 c5 c6 c7 c8 c9 c10 c11 c12 c13 c14; obtain ⟨c4, c5, c6, c7, c8, c9, c10, c11, c12, c13, c14⟩ := cells17 (WK.blk HW.out k1 HB.out (by decide) (by decide)); have HB1 := Lib.hid (WK.blk HW.out k1 HB.out (by decide) (by decide)); have HK1 := Lib.hid (HK.out.trans k1); have HW1 := Lib.hid h1; clear HW HB HK h1 k1; have HW := HW1; have HB := HB1; have HK := HK1; clear HW1 HB1 HK1))
    go_end0
    refine ⟨rfl, r1, ?_, HK.out⟩
    rw [← HL.out, if_neg HU.out]
    have := HW.out
    simp only [c8_1, c8_2, c8_4, c8_8, List.append_assoc, List.append_nil] at this ⊢
    exact this
end Go.Proofs.Ytebickoieipjpaa
end
section
namespace Go.Proofs.Ytebickoieipjpaa
open Go.RowKit Go.Gi
set_option maxRecDepth 20000
set_option linter.unusedSimpArgs false
set_option linter.unusedVariables false
theorem frozX {w : World} {g T : Nat} {cs : Array Value} (h : Blk w g T cs) : w.frozen? ⟨g, 4, none⟩ = false ∧ w.frozen? ⟨g, 5, none⟩ = false ∧ w.frozen? ⟨g, 6, none⟩ = false ∧ w.frozen? ⟨g, 7, none⟩ = false ∧ w.frozen? ⟨g, 8, none⟩ = false ∧ w.frozen? ⟨g, 9, none⟩ = false ∧ w.frozen? ⟨g, 10, none⟩ = false ∧ w.frozen? ⟨g, 11, none⟩ = false ∧ w.frozen? ⟨g, 12, none⟩ = false ∧ w.frozen? ⟨g, 13, none⟩ = false ∧ w.frozen? ⟨g, 14, none⟩ = false :=
  ⟨h.frozen 4, h.frozen 5, h.frozen 6, h.frozen 7, h.frozen 8, h.frozen 9, h.frozen 10, h.frozen 11, h.frozen 12, h.frozen 13, h.frozen 14⟩
set_option maxHeartbeats 16000000 in
theorem takeChange_any {w : World} {g b B : Nat} {L : List UInt8} {a : Nat} {e : Int} (hR : RS w 99 g L a e) {kind tx prev next : Int} {VA VB : Value} (hB : Blk w b 35 #[.int .i64 kind, .int .i64 tx, .int .u64 prev, .int .u64 next, .int .u32 0, .int .i64 0, .int .i64 0, .string (bs []), .string (bs []), .int .i64 0, .int .i64 0, .string (bs []), .int .u32 0, .int .i64 0, .bool false, VA, VB]) (hne : b ≠ g) (hBs : B ≤ w.heap.size) (hBg : B ≤ g) (hBb : B ≤ b) :
    Calls Try.prog 24 #[.pointer (some ⟨g, 0, none⟩), .pointer (some ⟨b, 0, none⟩)] w fun e' w' => e' = .returned (.tuple #[]) ∧ RS w' 99 g L (rdCh L a e).2.1 (rdCh L a e).2.2 ∧
      Blk w' b 35 #[.int .i64 kind, .int .i64 tx, .int .u64 prev, .int .u64 next, .int .u32 (rdCh L a e).1.page, .int .i64 (rdCh L a e).1.ok, .int .i64 (rdCh L a e).1.oa, .string (bs (rdCh L a e).1.os), .string (bs (rdCh L a e).1.oo), .int .i64 (rdCh L a e).1.undo, .int .i64 (rdCh L a e).1.index, .string (bs (rdCh L a e).1.key), .int .u32 (rdCh L a e).1.rpage, .int .i64 (rdCh L a e).1.rslot, .bool (rdCh L a e).1.live, VA, VB] ∧ Below B w w' := by
  obtain ⟨v1, a1, e1, h1⟩ : ∃ v a' e', rNum L a e 4 = (v, a', e') := ⟨_, _, _, rfl⟩
  have b1 : v1 < 4294967296 := by have := rNum_lt L a e 4; rw [show (((4 : Nat) : Int)) = (4 : Int) from rfl, h1] at this; simpa using this
  obtain ⟨v2, a2, e2, h2⟩ : ∃ v a' e', rNum L a1 e1 1 = (v, a', e') := ⟨_, _, _, rfl⟩
  have b2 : v2 < 256 := by have := rNum_lt L a1 e1 1; rw [show (((1 : Nat) : Int)) = (1 : Int) from rfl, h2] at this; simpa using this
  obtain ⟨v3, a3, e3, h3⟩ : ∃ v a' e', rNum L a2 e2 2 = (v, a', e') := ⟨_, _, _, rfl⟩
  have b3 : v3 < 65536 := by have := rNum_lt L a2 e2 2; rw [show (((2 : Nat) : Int)) = (2 : Int) from rfl, h3] at this; simpa using this
  obtain ⟨v4, a4, e4, h4⟩ : ∃ v a' e', rText L a3 e3 512 = (v, a', e') := ⟨_, _, _, rfl⟩
  obtain ⟨v5, a5, e5, h5⟩ : ∃ v a' e', rText L a4 e4 512 = (v, a', e') := ⟨_, _, _, rfl⟩
  obtain ⟨v6, a6, e6, h6⟩ : ∃ v a' e', rNum L a5 e5 1 = (v, a', e') := ⟨_, _, _, rfl⟩
  have b6 : v6 < 256 := by have := rNum_lt L a5 e5 1; rw [show (((1 : Nat) : Int)) = (1 : Int) from rfl, h6] at this; simpa using this
  obtain ⟨v7, a7, e7, h7⟩ : ∃ v a' e', rNum L a6 e6 2 = (v, a', e') := ⟨_, _, _, rfl⟩
  have b7 : v7 < 65536 := by have := rNum_lt L a6 e6 2; rw [show (((2 : Nat) : Int)) = (2 : Int) from rfl, h7] at this; simpa using this
  obtain ⟨v8, a8, e8, h8⟩ : ∃ v a' e', rText L a7 e7 64 = (v, a', e') := ⟨_, _, _, rfl⟩
  obtain ⟨v9, a9, e9, h9⟩ : ∃ v a' e', rNum L a8 e8 4 = (v, a', e') := ⟨_, _, _, rfl⟩
  have b9 : v9 < 4294967296 := by have := rNum_lt L a8 e8 4; rw [show (((4 : Nat) : Int)) = (4 : Int) from rfl, h9] at this; simpa using this
  obtain ⟨v10, a10, e10, h10⟩ : ∃ v a' e', rNum L a9 e9 2 = (v, a', e') := ⟨_, _, _, rfl⟩
  have b10 : v10 < 65536 := by have := rNum_lt L a9 e9 2; rw [show (((2 : Nat) : Int)) = (2 : Int) from rfl, h10] at this; simpa using this
  obtain ⟨v11, a11, e11, h11⟩ : ∃ v a' e', rBool L a10 e10 = (v, a', e') := ⟨_, _, _, rfl⟩
  have H1 := Lib.hid h1
  have H2 := Lib.hid h2
  have H3 := Lib.hid h3
  have H4 := Lib.hid h4
  have H5 := Lib.hid h5
  have H6 := Lib.hid h6
  have H7 := Lib.hid h7
  have H8 := Lib.hid h8
  have H9 := Lib.hid h9
  have H10 := Lib.hid h10
  have H11 := Lib.hid h11
  have HF0 := Lib.hid (show ¬ (v6 : Int) = 2 → rdCh L a e = (⟨v1, v2, v3, v4, v5, v6, 0, [], 0, 0, false⟩, a6, e6) from fun hu => by simp only [rdCh, h1, h2, h3, h4, h5, h6]; rw [if_neg hu])
  have HF1 := Lib.hid (show (v6 : Int) = 2 → rdCh L a e = (⟨v1, v2, v3, v4, v5, v6, v7, v8, v9, v10, v11⟩, a11, e11) from fun hu => by simp only [rdCh, h1, h2, h3, h4, h5, h6, h7, h8, h9, h10, h11]; rw [if_pos hu])
  generalize rdCh L a e = RES at *
  clear h1 h2 h3 h4 h5 h6 h7 h8 h9 h10 h11
  have HR := Lib.hid hR
  have HB := Lib.hid hB
  have HK := Lib.hid (show Below B w w from ⟨rfl, rfl, rfl, Nat.le_refl _, fun _ _ => rfl⟩)
  have Hne := Lib.hid hne
  have Hbs := Lib.hid hBs
  have Hbg := Lib.hid hBg
  have Hbb := Lib.hid hBb
  obtain ⟨f4, f5, f6, f7, f8, f9, f10, f11, f12, f13, f14⟩ := frozX hB
  obtain ⟨c4, c5, c6, c7, c8, c9, c10, c11, c12, c13, c14⟩ := cells17 hB
  clear hR hB hne hBs hBg hBb
  go_enter Try.func24, Try.ntmps24
  go_upto_region 0 with fail
  go_cut [] from 4 to 9 (fun wx => RS wx 99 g L a1 e1 ∧ Blk wx b 35 #[.int .i64 kind, .int .i64 tx, .int .u64 prev, .int .u64 next, .int .u32 v1, .int .i64 0, .int .i64 0, .string (bs []), .string (bs []), .int .i64 0, .int .i64 0, .string (bs []), .int .u32 0, .int .i64 0, .bool false, VA, VB] ∧ Below B w wx)
  case first =>
    go_wp2_with (first | (go_at_call 23; refine (num_st HR.out _ _ _ _ (by first | exact H1.out | exact H2.out | exact H3.out | exact H6.out | exact H7.out | exact H9.out | exact H10.out)).mono ?_; rintro e' w1 ⟨rfl, hr1, hg1⟩; have HR1 := Lib.hid hr1; have HB1 := Lib.hid (HB.out.grown hg1 (by simp [Hne.out])); have HK1 := Lib.hid (bgrownB HK.out hg1 Hbs.out Hbg.out); clear HR HB HK hr1 hg1 f4 f5 f6 f7 f8 f9 f10 f11 f12 f13 f14 c4 c5 c6 c7 c8 c9 c10 c11 c12 c13 c14; have HR := HR1; have HB := HB1; have HK := HK1; clear HR1 HB1 HK1; obtain ⟨f4, f5, f6, f7, f8, f9, f10, f11, f12, f13, f14⟩ := frozX HB.out; obtain ⟨c4, c5, c6, c7, c8, c9, c10, c11, c12, c13, c14⟩ := cells17 HB.out))
    go_meet
    exact ⟨(RS.far HR.out Hne.out), (HB.out.set_ 4 (.int .u32 v1)), (bsetB HK.out Hbb.out (.int .u32 v1))⟩
  case rest =>
  obtain ⟨hr2, hb2, hk2⟩ := hcut
  clear HR HB HK f4 f5 f6 f7 f8 f9 f10 f11 f12 f13 f14 c4 c5 c6 c7 c8 c9 c10 c11 c12 c13 c14
  have HR := Lib.hid hr2
  have HB := Lib.hid hb2
  have HK := Lib.hid hk2
  clear hr2 hb2 hk2
  obtain ⟨f4, f5, f6, f7, f8, f9, f10, f11, f12, f13, f14⟩ := frozX HB.out
  obtain ⟨c4, c5, c6, c7, c8, c9, c10, c11, c12, c13, c14⟩ := cells17 HB.out
  go_upto_region 1 with fail
  go_cut [] from 10 to 19 (fun wx => RS wx 99 g L a3 e3 ∧ Blk wx b 35 #[.int .i64 kind, .int .i64 tx, .int .u64 prev, .int .u64 next, .int .u32 v1, .int .i64 v2, .int .i64 v3, .string (bs []), .string (bs []), .int .i64 0, .int .i64 0, .string (bs []), .int .u32 0, .int .i64 0, .bool false, VA, VB] ∧ Below B w wx)
  case first =>
    go_wp2_with (first | (go_at_call 23; refine (num_st HR.out _ _ _ _ (by first | exact H1.out | exact H2.out | exact H3.out | exact H6.out | exact H7.out | exact H9.out | exact H10.out)).mono ?_; rintro e' w1 ⟨rfl, hr1, hg1⟩; have HR1 := Lib.hid hr1; have HB1 := Lib.hid (HB.out.grown hg1 (by simp [Hne.out])); have HK1 := Lib.hid (bgrownB HK.out hg1 Hbs.out Hbg.out); clear HR HB HK hr1 hg1 f4 f5 f6 f7 f8 f9 f10 f11 f12 f13 f14 c4 c5 c6 c7 c8 c9 c10 c11 c12 c13 c14; have HR := HR1; have HB := HB1; have HK := HK1; clear HR1 HB1 HK1; obtain ⟨f4, f5, f6, f7, f8, f9, f10, f11, f12, f13, f14⟩ := frozX HB.out; obtain ⟨c4, c5, c6, c7, c8, c9, c10, c11, c12, c13, c14⟩ := cells17 HB.out))
    go_meet
    exact ⟨(RS.far (RS.far (RS.far (RS.far HR.out Hne.out) Hne.out) Hne.out) Hne.out), ((((HB.out.set_ 5 (.int .i64 v2)).set_ 6 (.int .i64 v3)).set_ 7 (.string (bs []))).set_ 8 (.string (bs []))), (bsetB (bsetB (bsetB (bsetB HK.out Hbb.out (.int .i64 v2)) Hbb.out (.int .i64 v3)) Hbb.out (.string (bs []))) Hbb.out (.string (bs [])))⟩
  case rest =>
  obtain ⟨hr2, hb2, hk2⟩ := hcut
  clear HR HB HK f4 f5 f6 f7 f8 f9 f10 f11 f12 f13 f14 c4 c5 c6 c7 c8 c9 c10 c11 c12 c13 c14
  have HR := Lib.hid hr2
  have HB := Lib.hid hb2
  have HK := Lib.hid hk2
  clear hr2 hb2 hk2
  obtain ⟨f4, f5, f6, f7, f8, f9, f10, f11, f12, f13, f14⟩ := frozX HB.out
  obtain ⟨c4, c5, c6, c7, c8, c9, c10, c11, c12, c13, c14⟩ := cells17 HB.out
  go_upto_region 2 with fail
  go_cut [] from 20 to 25 (fun wx => RS wx 99 g L a4 e4 ∧ Blk wx b 35 #[.int .i64 kind, .int .i64 tx, .int .u64 prev, .int .u64 next, .int .u32 v1, .int .i64 v2, .int .i64 v3, .string (bs v4), .string (bs []), .int .i64 0, .int .i64 0, .string (bs []), .int .u32 0, .int .i64 0, .bool false, VA, VB] ∧ Below B w wx)
  case first =>
    go_wp2_with (first | (go_at_call 43; refine (text_st HR.out _ _ _ _ (by first | exact H4.out | exact H5.out | exact H8.out)).mono ?_; rintro e' w1 ⟨rfl, hr1, hg1⟩; have HR1 := Lib.hid hr1; have HB1 := Lib.hid (HB.out.grown hg1 (by simp [Hne.out])); have HK1 := Lib.hid (bgrownB HK.out hg1 Hbs.out Hbg.out); clear HR HB HK hr1 hg1 f4 f5 f6 f7 f8 f9 f10 f11 f12 f13 f14 c4 c5 c6 c7 c8 c9 c10 c11 c12 c13 c14; have HR := HR1; have HB := HB1; have HK := HK1; clear HR1 HB1 HK1; obtain ⟨f4, f5, f6, f7, f8, f9, f10, f11, f12, f13, f14⟩ := frozX HB.out; obtain ⟨c4, c5, c6, c7, c8, c9, c10, c11, c12, c13, c14⟩ := cells17 HB.out))
    go_meet
    exact ⟨(RS.far HR.out Hne.out), (HB.out.set_ 7 (.string (bs v4))), (bsetB HK.out Hbb.out (.string (bs v4)))⟩
  case rest =>
  obtain ⟨hr2, hb2, hk2⟩ := hcut
  clear HR HB HK f4 f5 f6 f7 f8 f9 f10 f11 f12 f13 f14 c4 c5 c6 c7 c8 c9 c10 c11 c12 c13 c14
  have HR := Lib.hid hr2
  have HB := Lib.hid hb2
  have HK := Lib.hid hk2
  clear hr2 hb2 hk2
  obtain ⟨f4, f5, f6, f7, f8, f9, f10, f11, f12, f13, f14⟩ := frozX HB.out
  obtain ⟨c4, c5, c6, c7, c8, c9, c10, c11, c12, c13, c14⟩ := cells17 HB.out
  go_upto_region 3 with fail
  go_cut [] from 26 to 31 (fun wx => RS wx 99 g L a5 e5 ∧ Blk wx b 35 #[.int .i64 kind, .int .i64 tx, .int .u64 prev, .int .u64 next, .int .u32 v1, .int .i64 v2, .int .i64 v3, .string (bs v4), .string (bs v5), .int .i64 0, .int .i64 0, .string (bs []), .int .u32 0, .int .i64 0, .bool false, VA, VB] ∧ Below B w wx)
  case first =>
    go_wp2_with (first | (go_at_call 43; refine (text_st HR.out _ _ _ _ (by first | exact H4.out | exact H5.out | exact H8.out)).mono ?_; rintro e' w1 ⟨rfl, hr1, hg1⟩; have HR1 := Lib.hid hr1; have HB1 := Lib.hid (HB.out.grown hg1 (by simp [Hne.out])); have HK1 := Lib.hid (bgrownB HK.out hg1 Hbs.out Hbg.out); clear HR HB HK hr1 hg1 f4 f5 f6 f7 f8 f9 f10 f11 f12 f13 f14 c4 c5 c6 c7 c8 c9 c10 c11 c12 c13 c14; have HR := HR1; have HB := HB1; have HK := HK1; clear HR1 HB1 HK1; obtain ⟨f4, f5, f6, f7, f8, f9, f10, f11, f12, f13, f14⟩ := frozX HB.out; obtain ⟨c4, c5, c6, c7, c8, c9, c10, c11, c12, c13, c14⟩ := cells17 HB.out))
    go_meet
    exact ⟨(RS.far HR.out Hne.out), (HB.out.set_ 8 (.string (bs v5))), (bsetB HK.out Hbb.out (.string (bs v5)))⟩
  case rest =>
  obtain ⟨hr2, hb2, hk2⟩ := hcut
  clear HR HB HK f4 f5 f6 f7 f8 f9 f10 f11 f12 f13 f14 c4 c5 c6 c7 c8 c9 c10 c11 c12 c13 c14
  have HR := Lib.hid hr2
  have HB := Lib.hid hb2
  have HK := Lib.hid hk2
  clear hr2 hb2 hk2
  obtain ⟨f4, f5, f6, f7, f8, f9, f10, f11, f12, f13, f14⟩ := frozX HB.out
  obtain ⟨c4, c5, c6, c7, c8, c9, c10, c11, c12, c13, c14⟩ := cells17 HB.out
  go_upto_region 4 with fail
  go_cut [] from 32 to 37 (fun wx => RS wx 99 g L a6 e6 ∧ Blk wx b 35 #[.int .i64 kind, .int .i64 tx, .int .u64 prev, .int .u64 next, .int .u32 v1, .int .i64 v2, .int .i64 v3, .string (bs v4), .string (bs v5), .int .i64 v6, .int .i64 0, .string (bs []), .int .u32 0, .int .i64 0, .bool false, VA, VB] ∧ Below B w wx)
  case first =>
    go_wp2_with (first | (go_at_call 23; refine (num_st HR.out _ _ _ _ (by first | exact H1.out | exact H2.out | exact H3.out | exact H6.out | exact H7.out | exact H9.out | exact H10.out)).mono ?_; rintro e' w1 ⟨rfl, hr1, hg1⟩; have HR1 := Lib.hid hr1; have HB1 := Lib.hid (HB.out.grown hg1 (by simp [Hne.out])); have HK1 := Lib.hid (bgrownB HK.out hg1 Hbs.out Hbg.out); clear HR HB HK hr1 hg1 f4 f5 f6 f7 f8 f9 f10 f11 f12 f13 f14 c4 c5 c6 c7 c8 c9 c10 c11 c12 c13 c14; have HR := HR1; have HB := HB1; have HK := HK1; clear HR1 HB1 HK1; obtain ⟨f4, f5, f6, f7, f8, f9, f10, f11, f12, f13, f14⟩ := frozX HB.out; obtain ⟨c4, c5, c6, c7, c8, c9, c10, c11, c12, c13, c14⟩ := cells17 HB.out))
    go_meet
    exact ⟨(RS.far HR.out Hne.out), (HB.out.set_ 9 (.int .i64 v6)), (bsetB HK.out Hbb.out (.int .i64 v6))⟩
  case rest =>
  obtain ⟨hr2, hb2, hk2⟩ := hcut
  clear HR HB HK f4 f5 f6 f7 f8 f9 f10 f11 f12 f13 f14 c4 c5 c6 c7 c8 c9 c10 c11 c12 c13 c14
  have HR := Lib.hid hr2
  have HB := Lib.hid hb2
  have HK := Lib.hid hk2
  clear hr2 hb2 hk2
  obtain ⟨f4, f5, f6, f7, f8, f9, f10, f11, f12, f13, f14⟩ := frozX HB.out
  obtain ⟨c4, c5, c6, c7, c8, c9, c10, c11, c12, c13, c14⟩ := cells17 HB.out
  by_cases hu : (v6 : Int) = 2
  · have hub : ((v6 : Int) == 2) = true := by simp [hu]
    have HU := Lib.hid hu
    clear hu
    go_upto_region 6 with fail
    go_cut [] from 43 to 48 (fun wx => RS wx 99 g L a7 e7 ∧ Blk wx b 35 #[.int .i64 kind, .int .i64 tx, .int .u64 prev, .int .u64 next, .int .u32 v1, .int .i64 v2, .int .i64 v3, .string (bs v4), .string (bs v5), .int .i64 v6, .int .i64 v7, .string (bs []), .int .u32 0, .int .i64 0, .bool false, VA, VB] ∧ Below B w wx)
    case first =>
      go_wp2_with (first | (go_at_call 23; refine (num_st HR.out _ _ _ _ (by first | exact H1.out | exact H2.out | exact H3.out | exact H6.out | exact H7.out | exact H9.out | exact H10.out)).mono ?_; rintro e' w1 ⟨rfl, hr1, hg1⟩; have HR1 := Lib.hid hr1; have HB1 := Lib.hid (HB.out.grown hg1 (by simp [Hne.out])); have HK1 := Lib.hid (bgrownB HK.out hg1 Hbs.out Hbg.out); clear HR HB HK hr1 hg1 f4 f5 f6 f7 f8 f9 f10 f11 f12 f13 f14 c4 c5 c6 c7 c8 c9 c10 c11 c12 c13 c14; have HR := HR1; have HB := HB1; have HK := HK1; clear HR1 HB1 HK1; obtain ⟨f4, f5, f6, f7, f8, f9, f10, f11, f12, f13, f14⟩ := frozX HB.out; obtain ⟨c4, c5, c6, c7, c8, c9, c10, c11, c12, c13, c14⟩ := cells17 HB.out))
      go_meet
      exact ⟨(RS.far HR.out Hne.out), (HB.out.set_ 10 (.int .i64 v7)), (bsetB HK.out Hbb.out (.int .i64 v7))⟩
    case rest =>
    obtain ⟨hr2, hb2, hk2⟩ := hcut
    clear HR HB HK f4 f5 f6 f7 f8 f9 f10 f11 f12 f13 f14 c4 c5 c6 c7 c8 c9 c10 c11 c12 c13 c14
    have HR := Lib.hid hr2
    have HB := Lib.hid hb2
    have HK := Lib.hid hk2
    clear hr2 hb2 hk2
    obtain ⟨f4, f5, f6, f7, f8, f9, f10, f11, f12, f13, f14⟩ := frozX HB.out
    obtain ⟨c4, c5, c6, c7, c8, c9, c10, c11, c12, c13, c14⟩ := cells17 HB.out
    go_upto_region 7 with fail
    go_cut [] from 49 to 54 (fun wx => RS wx 99 g L a8 e8 ∧ Blk wx b 35 #[.int .i64 kind, .int .i64 tx, .int .u64 prev, .int .u64 next, .int .u32 v1, .int .i64 v2, .int .i64 v3, .string (bs v4), .string (bs v5), .int .i64 v6, .int .i64 v7, .string (bs v8), .int .u32 0, .int .i64 0, .bool false, VA, VB] ∧ Below B w wx)
    case first =>
      go_wp2_with (first | (go_at_call 43; refine (text_st HR.out _ _ _ _ (by first | exact H4.out | exact H5.out | exact H8.out)).mono ?_; rintro e' w1 ⟨rfl, hr1, hg1⟩; have HR1 := Lib.hid hr1; have HB1 := Lib.hid (HB.out.grown hg1 (by simp [Hne.out])); have HK1 := Lib.hid (bgrownB HK.out hg1 Hbs.out Hbg.out); clear HR HB HK hr1 hg1 f4 f5 f6 f7 f8 f9 f10 f11 f12 f13 f14 c4 c5 c6 c7 c8 c9 c10 c11 c12 c13 c14; have HR := HR1; have HB := HB1; have HK := HK1; clear HR1 HB1 HK1; obtain ⟨f4, f5, f6, f7, f8, f9, f10, f11, f12, f13, f14⟩ := frozX HB.out; obtain ⟨c4, c5, c6, c7, c8, c9, c10, c11, c12, c13, c14⟩ := cells17 HB.out))
      go_meet
      exact ⟨(RS.far HR.out Hne.out), (HB.out.set_ 11 (.string (bs v8))), (bsetB HK.out Hbb.out (.string (bs v8)))⟩
    case rest =>
    obtain ⟨hr2, hb2, hk2⟩ := hcut
    clear HR HB HK f4 f5 f6 f7 f8 f9 f10 f11 f12 f13 f14 c4 c5 c6 c7 c8 c9 c10 c11 c12 c13 c14
    have HR := Lib.hid hr2
    have HB := Lib.hid hb2
    have HK := Lib.hid hk2
    clear hr2 hb2 hk2
    obtain ⟨f4, f5, f6, f7, f8, f9, f10, f11, f12, f13, f14⟩ := frozX HB.out
    obtain ⟨c4, c5, c6, c7, c8, c9, c10, c11, c12, c13, c14⟩ := cells17 HB.out
    go_upto_region 8 with fail
    go_cut [] from 55 to 65 (fun wx => RS wx 99 g L a10 e10 ∧ Blk wx b 35 #[.int .i64 kind, .int .i64 tx, .int .u64 prev, .int .u64 next, .int .u32 v1, .int .i64 v2, .int .i64 v3, .string (bs v4), .string (bs v5), .int .i64 v6, .int .i64 v7, .string (bs v8), .int .u32 v9, .int .i64 v10, .bool false, VA, VB] ∧ Below B w wx)
    case first =>
      go_wp2_with (first | (go_at_call 23; refine (num_st HR.out _ _ _ _ (by first | exact H1.out | exact H2.out | exact H3.out | exact H6.out | exact H7.out | exact H9.out | exact H10.out)).mono ?_; rintro e' w1 ⟨rfl, hr1, hg1⟩; have HR1 := Lib.hid hr1; have HB1 := Lib.hid (HB.out.grown hg1 (by simp [Hne.out])); have HK1 := Lib.hid (bgrownB HK.out hg1 Hbs.out Hbg.out); clear HR HB HK hr1 hg1 f4 f5 f6 f7 f8 f9 f10 f11 f12 f13 f14 c4 c5 c6 c7 c8 c9 c10 c11 c12 c13 c14; have HR := HR1; have HB := HB1; have HK := HK1; clear HR1 HB1 HK1; obtain ⟨f4, f5, f6, f7, f8, f9, f10, f11, f12, f13, f14⟩ := frozX HB.out; obtain ⟨c4, c5, c6, c7, c8, c9, c10, c11, c12, c13, c14⟩ := cells17 HB.out))
      go_meet
      exact ⟨(RS.far (RS.far HR.out Hne.out) Hne.out), ((HB.out.set_ 12 (.int .u32 v9)).set_ 13 (.int .i64 v10)), (bsetB (bsetB HK.out Hbb.out (.int .u32 v9)) Hbb.out (.int .i64 v10))⟩
    case rest =>
    obtain ⟨hr2, hb2, hk2⟩ := hcut
    clear HR HB HK f4 f5 f6 f7 f8 f9 f10 f11 f12 f13 f14 c4 c5 c6 c7 c8 c9 c10 c11 c12 c13 c14
    have HR := Lib.hid hr2
    have HB := Lib.hid hb2
    have HK := Lib.hid hk2
    clear hr2 hb2 hk2
    obtain ⟨f4, f5, f6, f7, f8, f9, f10, f11, f12, f13, f14⟩ := frozX HB.out
    obtain ⟨c4, c5, c6, c7, c8, c9, c10, c11, c12, c13, c14⟩ := cells17 HB.out
    go_wp2_with (first | (go_at_call 44; refine (bool_st HR.out _ _ _ H11.out).mono ?_; rintro e' w1 ⟨rfl, hr1, hg1⟩; have HR1 := Lib.hid hr1; have HB1 := Lib.hid (HB.out.grown hg1 (by simp [Hne.out])); have HK1 := Lib.hid (bgrownB HK.out hg1 Hbs.out Hbg.out); clear HR HB HK hr1 hg1 f4 f5 f6 f7 f8 f9 f10 f11 f12 f13 f14 c4 c5 c6 c7 c8 c9 c10 c11 c12 c13 c14; have HR := HR1; have HB := HB1; have HK := HK1; clear HR1 HB1 HK1; obtain ⟨f4, f5, f6, f7, f8, f9, f10, f11, f12, f13, f14⟩ := frozX HB.out; obtain ⟨c4, c5, c6, c7, c8, c9, c10, c11, c12, c13, c14⟩ := cells17 HB.out))
    go_end0
    rw [HF1.out HU.out]
    exact ⟨rfl, (RS.far HR.out Hne.out), (HB.out.set_ 14 (.bool v11)), (bsetB HK.out Hbb.out (.bool v11))⟩
  · have hub : ((v6 : Int) == 2) = false := by simp [hu]
    have HU := Lib.hid hu
    clear hu
    go_wp2
    go_end0
    rw [HF0.out HU.out]
    exact ⟨rfl, HR.out, HB.out, HK.out⟩
end Go.Proofs.Ytebickoieipjpaa
end
section
namespace Go.Proofs.Ytebickoieipjpaa
open Go.RowKit Go.Gi Go.GiRow
set_option maxRecDepth 20000
set_option linter.unusedSimpArgs false
set_option linter.unusedVariables false
theorem named_any (k : Int) (w : World) :
    Calls Try.prog 19 #[.int .i64 k] w fun e w' => (∃ c n t, e = .returned (.tuple #[.bool c, .bool n, .bool t]) ∧ Says c (isChange k) ∧ Says n (isNext k) ∧ Says t (k = 8)) ∧ w' = w := by
  by_cases h1 : k = 1
  · subst h1
    go_enter Try.func19, Try.ntmps19
    go_wp2
    go_returns
    exact ⟨⟨_, _, _, rfl, .of_true (.inl rfl), .of_false (by unfold isNext; omega), .of_false (by omega)⟩, rfl⟩
  by_cases h2 : k = 2
  · subst h2
    go_enter Try.func19, Try.ntmps19
    go_wp2
    go_returns
    exact ⟨⟨_, _, _, rfl, .of_true (.inr rfl), .of_true (.inl rfl), .of_false (by omega)⟩, rfl⟩
  by_cases h3 : k = 3
  · subst h3
    go_enter Try.func19, Try.ntmps19
    go_wp2
    go_returns
    exact ⟨⟨_, _, _, rfl, .of_false (by unfold isChange; omega), .of_true (.inr rfl), .of_false (by omega)⟩, rfl⟩
  by_cases h8 : k = 8
  · subst h8
    go_enter Try.func19, Try.ntmps19
    go_wp2
    go_returns
    exact ⟨⟨_, _, _, rfl, .of_false (by unfold isChange; omega), .of_false (by unfold isNext; omega), .of_true (by simp)⟩, rfl⟩
  · have e1 : (k == 1) = false := by simp [h1]
    have e2 : (k == 2) = false := by simp [h2]
    have e3 : (k == 3) = false := by simp [h3]
    have e8 : (k == 8) = false := by simp [h8]
    have H := Lib.hid (show ¬ isChange k ∧ ¬ isNext k ∧ ¬ k = 8 by unfold isChange isNext; omega)
    clear h1 h2 h3 h8
    go_enter Try.func19, Try.ntmps19
    go_wp2
    go_returns
    exact ⟨⟨_, _, _, rfl, .of_false H.out.1, .of_false H.out.2.1, .of_false H.out.2.2⟩, rfl⟩
abbrev cellsOf17 (kind tx prev next page ok oa : Int) (os oo : List UInt8) (undo index : Int) (key : List UInt8) (rpage rslot : Int) (live : Bool) (V10 V11 : Value) : Array Value :=
  #[.int .i64 kind, .int .i64 tx, .int .u64 prev, .int .u64 next, .int .u32 page, .int .i64 ok, .int .i64 oa, .string (bs os), .string (bs oo), .int .i64 undo, .int .i64 index, .string (bs key), .int .u32 rpage, .int .i64 rslot, .bool live, V10, V11]
attribute [local go_sem] bs_size bs_empty
set_option maxHeartbeats 16000000 in
theorem rcheck_any (r : RecR) (A : Option Addr) (c : Nat) (B : Option Addr) (d : Nat) (w : World) (hA : RdRows StR.cells 4 w A r.txs) (hl : r.txs.length ≤ 9223372036854775807) (hd : r.dirty.length ≤ 9223372036854775807) :
    Calls Try.prog 16 #[r.val A c B d] w fun e w' => e = .returned (.int .i64 (recE r)) ∧ Below w.heap.size w w' := by
  obtain ⟨kind, tx, prev, next, page, ok, oa, os, oo, undo, index, key, rpage, rslot, live, txs, dirty⟩ := r
  have HA := Lib.hid hA
  simp only at hl hd
  clear hA
  obtain ⟨RR, hRR⟩ : ∃ RR : RecR, RR = ⟨kind, tx, prev, next, page, ok, oa, os, oo, undo, index, key, rpage, rslot, live, txs, dirty⟩ := ⟨_, rfl⟩
  rw [← hRR]
  have HR := Lib.hid hRR
  rw [hRR]
  show Calls Try.prog 16 #[.agg (cellsOf17 kind tx prev next page ok oa os oo undo index key rpage rslot live (.slice A txs.length c) (.slice B dirty.length d))] w _
  rw [← hRR]
  clear hRR
  go_enter Try.func16, Try.ntmps16
  go_upto_region 1 with fail
  have hB := Blk.new w 35 (cellsOf17 kind tx prev next page ok oa os oo undo index key rpage rslot live (.slice A txs.length c) (.slice B dirty.length d))
  have hW := balloc (Below.refl w.heap.size w) (.cells (cellsOf17 kind tx prev next page ok oa os oo undo index key rpage rslot live (.slice A txs.length c) (.slice B dirty.length d)) 35)
  unfold cellsOf17 at hB hW
  have HB := Lib.hid hB
  have HW := Lib.hid hW
  clear hB hW
  generalize w.alloc (.cells #[.int .i64 kind, .int .i64 tx, .int .u64 prev, .int .u64 next, .int .u32 page, .int .i64 ok, .int .i64 oa, .string (bs os), .string (bs oo), .int .i64 undo, .int .i64 index, .string (bs key), .int .u32 rpage, .int .i64 rslot, .bool live, .slice A txs.length c, .slice B dirty.length d] 35) = w0 at *
  generalize Value.agg #[.int .i64 kind, .int .i64 tx, .int .u64 prev, .int .u64 next, .int .u32 page, .int .i64 ok, .int .i64 oa, .string (bs os), .string (bs oo), .int .i64 undo, .int .i64 index, .string (bs key), .int .u32 rpage, .int .i64 rslot, .bool live, .slice A txs.length c, .slice B dirty.length d] = V0 at *
  generalize hgE : w.heap.size = g at *
  have HgE := Lib.hid hgE
  clear hgE
  have c0 : w0.cell? ⟨g, 0, none⟩ = some (.int .i64 kind) := HB.out.cell 0
  have c1 : w0.cell? ⟨g, 1, none⟩ = some (.int .i64 tx) := HB.out.cell 1
  have c3 : w0.cell? ⟨g, 3, none⟩ = some (.int .u64 next) := HB.out.cell 3
  have c4 : w0.cell? ⟨g, 4, none⟩ = some (.int .u32 page) := HB.out.cell 4
  have c5 : w0.cell? ⟨g, 5, none⟩ = some (.int .i64 ok) := HB.out.cell 5
  have c6 : w0.cell? ⟨g, 6, none⟩ = some (.int .i64 oa) := HB.out.cell 6
  have c7 : w0.cell? ⟨g, 7, none⟩ = some (.string (bs os)) := HB.out.cell 7
  have c8 : w0.cell? ⟨g, 8, none⟩ = some (.string (bs oo)) := HB.out.cell 8
  have c9 : w0.cell? ⟨g, 9, none⟩ = some (.int .i64 undo) := HB.out.cell 9
  go_upto_region 2 with (first | (go_at_call 19; refine (named_any _ _).mono ?_; rintro e w' ⟨⟨ch, nx, tb, rfl, hch, hnx, htb⟩, hw'⟩; obtain rfl := hw'.symm; have Hch := Lib.hid hch; have Hnx := Lib.hid hnx; have Htb := Lib.hid htb; clear hch hnx htb))
  go_cut [6] from 16 to 33 (fun v wx => CutB v (okHead RR) ∧ wx = w0)
  case first =>
    go_wp2
    all_goals
      go_meet
      refine ⟨?_, rfl⟩
      rw [HR.out]
      first
      | exact cut_false (by simp only [okHead]; omega)
      | exact cut_true (by simp only [okHead]; omega)
      | exact cut_dec (by simp only [okHead]; omega)
  case rest =>
    obtain ⟨⟨b2, rfl, hb2⟩, hwc⟩ := hcut
    obtain rfl := hwc.symm
    have Hb2 := Lib.hid hb2
    clear hb2
    go_upto_region 3 with fail
    go_cut [6] from 34 to 44 (fun v wx => CutB v (okHead RR ∧ okUndo RR) ∧ wx = w0)
    case first =>
      cases b2
      all_goals
        go_wp2
        all_goals
          go_meet
          refine ⟨?_, rfl⟩
          have Hb2 := Hb2.out
          unfold Says at Hb2
          rw [HR.out] at *
          simp only [okHead, okUndo, Bool.false_eq_true, false_iff, true_iff, iff_true, iff_false] at *
          first
          | exact cut_false (by omega)
          | exact cut_true (by omega)
          | exact cut_dec (by omega)
    case rest =>
    obtain ⟨⟨b3, rfl, hb3⟩, hwc⟩ := hcut
    obtain rfl := hwc.symm
    have Hb3 := Lib.hid hb3
    clear hb3 Hb2
    go_upto_if 45 with fail
    go_cut [6] from 46 to 74 (fun v wx => CutB v ((okHead RR ∧ okUndo RR) ∧ okOp RR) ∧ Below w0.heap.size w0 wx)
    case first =>
      cases b3
      · have Hn : ¬ ((okHead RR ∧ okUndo RR) ∧ okOp RR) := fun h => Hb3.out.not rfl h.1
        have HN := Lib.hid Hn
        clear Hn
        cases ch
        all_goals
          go_wp2
          go_meet
          exact ⟨cut_false HN.out, Below.refl _ _⟩
      · have Hy : okHead RR ∧ okUndo RR := Hb3.out.1 rfl
        have HY := Lib.hid Hy
        clear Hy
        cases ch
        · have Hc : ¬ isChange kind := Hch.out.not rfl
          have HC := Lib.hid Hc
          clear Hc
          have HK := Lib.hid (and_key HY.out (okOp_no (r := RR) (by rw [HR.out]; exact HC.out)))
          rw [HR.out] at HK
          obtain ⟨n1, e1, s1⟩ := names page 0
          obtain ⟨n2, e2, s2⟩ := names ok 0
          obtain ⟨n3, e3, s3⟩ := names oa 0
          obtain ⟨n4, e4, s4⟩ := names undo 0
          have S1 := Lib.hid s1; have S2 := Lib.hid s2; have S3 := Lib.hid s3; have S4 := Lib.hid s4
          clear s1 s2 s3 s4
          rcases os with _ | ⟨os0, os1⟩ <;> rcases oo with _ | ⟨oo0, oo1⟩
          all_goals
            go_wp2
            all_goals
              go_meet
              rw [HR.out, HK.out]
              clear HK HR HY HC HB HW HA Hch Hnx Htb Hb3 c0 c1 c3 c4 c5 c6 c7 c8 c9 e1 e2 e3 e4
              have T1 := S1.out; have T2 := S2.out; have T3 := S3.out; have T4 := S4.out
              subst T1 T2 T3 T4
              simp only [Bool.not_eq_false, decide_eq_true_eq, decide_eq_false_iff_not, List.length_nil, List.length_cons, and_true, true_and, and_false, false_and, Decidable.not_not, eq_self] at *
              first
              | exact ⟨cut_false (by omega), Below.refl _ _⟩
              | exact ⟨cut_true (by omega), Below.refl _ _⟩
              | exact ⟨cut_dec (by omega), Below.refl _ _⟩
        · have Hc : isChange kind := Hch.out.1 rfl
          have HC := Lib.hid Hc
          clear Hc
          have HK := Lib.hid (and_key HY.out (okOp_yes (r := RR) (by rw [HR.out]; exact HC.out)))
          rw [HR.out] at HK
          obtain ⟨n1, e1, s1⟩ := names page 0
          have S1 := Lib.hid s1
          have e2 : (page != 0) = !n1 := by rw [← e1]; rfl
          clear s1
          obtain ⟨n2, e3, s2⟩ := names (opE ok oa os oo) 0
          simp only [opE_zero] at s2
          have S2 := Lib.hid s2
          clear s2
          go_wp2_with (go_at_call 37; refine (pcheck_any _ _ _ _ _).mono ?_; rintro e w' ⟨rfl, hbp⟩)
          all_goals
            go_meet
            rw [HR.out, HK.out]
            clear HK HR HY HC HB HW HA Hch Hnx Htb Hb3 c0 c1 c3 c4 c5 c6 c7 c8 c9 e1 e2 e3
            have T1 := S1.out; have T2 := S2.out
            clear S1 S2
            subst T1 T2
            simp only [Bool.not_eq_false, decide_eq_true_eq, decide_eq_false_iff_not] at *
            first
            | exact ⟨cut_false (fun x => by simp_all), Below.refl _ _⟩
            | exact ⟨cut_dec (by simp_all), by assumption⟩
    case rest =>
    obtain ⟨⟨b4, rfl, hb4⟩, hw4⟩ := hcut
    have HB4 := Lib.hid (HB.out.below hw4 HB.out.lt)
    have HW4 := Lib.hid (HW.out.trans (hw4.mono (Nat.le_of_lt HB.out.lt)))
    have Hb4 := Lib.hid hb4
    clear hb4 Hb3 hw4 c0 c1 c3 c4 c5 c6 c7 c8 c9 HB HW
    have c0 : wc.cell? ⟨g, 0, none⟩ = some (.int .i64 kind) := HB4.out.cell 0
    have c3 : wc.cell? ⟨g, 3, none⟩ = some (.int .u64 next) := HB4.out.cell 3
    have c9 : wc.cell? ⟨g, 9, none⟩ = some (.int .i64 undo) := HB4.out.cell 9
    have c10 : wc.cell? ⟨g, 10, none⟩ = some (.int .i64 index) := HB4.out.cell 10
    have c11 : wc.cell? ⟨g, 11, none⟩ = some (.string (bs key)) := HB4.out.cell 11
    have c12 : wc.cell? ⟨g, 12, none⟩ = some (.int .u32 rpage) := HB4.out.cell 12
    have c13 : wc.cell? ⟨g, 13, none⟩ = some (.int .i64 rslot) := HB4.out.cell 13
    have c14 : wc.cell? ⟨g, 14, none⟩ = some (.bool live) := HB4.out.cell 14
    have c15 : wc.cell? ⟨g, 15, none⟩ = some (.slice A txs.length c) := HB4.out.cell 15
    have c16 : wc.cell? ⟨g, 16, none⟩ = some (.slice B dirty.length d) := HB4.out.cell 16
    obtain ⟨n5, e5, s5⟩ := names undo 2
    have S5 := Lib.hid s5
    clear s5
    go_upto_if 77 with fail
    go_cut [6] from 78 to 126 (fun v wx => CutB v (((okHead RR ∧ okUndo RR) ∧ okOp RR) ∧ okKey RR) ∧ wx = wc)
    case first =>
      cases b4
      · have Hn : ¬ (((okHead RR ∧ okUndo RR) ∧ okOp RR) ∧ okKey RR) := fun h => Hb4.out.not rfl h.1
        have HN := Lib.hid Hn
        clear Hn
        cases n5
        all_goals
          go_wp2
          go_meet
          exact ⟨cut_false HN.out, rfl⟩
      · have Hy : (okHead RR ∧ okUndo RR) ∧ okOp RR := Hb4.out.1 rfl
        have HY := Lib.hid Hy
        clear Hy
        cases n5
        · have Hc : ¬ undo = 2 := by have := S5.out; simpa using this
          have HC := Lib.hid Hc
          clear Hc
          have HK := Lib.hid (and_key HY.out (okKey_no (r := RR) (by rw [HR.out]; exact HC.out)))
          rw [HR.out] at HK
          obtain ⟨n1, e1, s1⟩ := names index 0
          obtain ⟨n2, e2, s2⟩ := names rpage 0
          obtain ⟨n3, e3, s3⟩ := names rslot 0
          have S1 := Lib.hid s1; have S2 := Lib.hid s2; have S3 := Lib.hid s3
          clear s1 s2 s3
          rcases key with _ | ⟨key0, key1⟩
          all_goals
            cases live
            all_goals
              go_wp2
              all_goals
                go_meet
                rw [HR.out, HK.out]
                clear HK HR HY HC HB4 HW4 HA Hch Hnx Htb Hb4 c0 c3 c9 c10 c11 c12 c13 c14 c15 c16 e1 e2 e3
                have T1 := S1.out; have T2 := S2.out; have T3 := S3.out
                clear S1 S2 S3
                subst T1 T2 T3
                simp only [Bool.not_eq_false, decide_eq_true_eq, decide_eq_false_iff_not, List.length_nil, List.length_cons, Bool.true_eq_false, and_true, true_and, and_false, false_and, Decidable.not_not, eq_self] at *
                first
                | exact cut_false (by omega)
                | exact cut_false (fun h => h)
                | exact cut_true (by omega)
                | exact cut_dec (by omega)
        · have Hc : undo = 2 := by have := S5.out; simpa using this
          have HC := Lib.hid Hc
          clear Hc
          have HK := Lib.hid (and_key HY.out (okKey_yes (r := RR) (by rw [HR.out]; exact HC.out)))
          rw [HR.out] at HK
          go_wp2
          all_goals
            go_meet
            rw [HR.out, HK.out]
            clear HK HR HY HC HB4 HW4 HA Hch Hnx Htb Hb4 c0 c3 c9 c10 c11 c12 c13 c14 c15 c16
            first
            | exact ⟨cut_false (by omega), rfl⟩
            | exact ⟨cut_true (by omega), rfl⟩
            | exact ⟨cut_dec (by omega), rfl⟩
    case rest =>
    obtain ⟨⟨b5, rfl, hb5⟩, hwc⟩ := hcut
    obtain rfl := hwc.symm
    have Hb5 := Lib.hid hb5
    clear hb5 Hb4 c10 c11 c12 c13 c14
    go_upto_region 10 with fail
    go_cut [6] from 127 to 145 (fun v wx => CutB v ((((okHead RR ∧ okUndo RR) ∧ okOp RR) ∧ okKey RR) ∧ okNext RR) ∧ wx = wc)
    case first =>
      cases b5
      · have Hn : ¬ ((((okHead RR ∧ okUndo RR) ∧ okOp RR) ∧ okKey RR) ∧ okNext RR) := fun h => Hb5.out.not rfl h.1
        have HN := Lib.hid Hn
        clear Hn
        go_wp2
        go_meet
        exact ⟨cut_false HN.out, rfl⟩
      · have Hy : ((okHead RR ∧ okUndo RR) ∧ okOp RR) ∧ okKey RR := Hb5.out.1 rfl
        have HY := Lib.hid Hy
        clear Hy
        have HK := Lib.hid (and_key HY.out (show okNext RR ↔ ((isNext kind ∨ next = 0) ∧ (kind = 1 ∨ undo = 0)) by rw [HR.out]; exact Iff.rfl))
        obtain ⟨n1, e1, s1⟩ := names next 0
        obtain ⟨n2, e2, s2⟩ := names kind 1
        obtain ⟨n3, e3, s3⟩ := names undo 0
        have S1 := Lib.hid s1; have S2 := Lib.hid s2; have S3 := Lib.hid s3
        clear s1 s2 s3
        cases nx
        all_goals
          go_wp2
          all_goals
            go_meet
            rw [HK.out]
            have hnx := Hnx.out
            unfold Says isNext at hnx
            unfold isNext
            clear HK HR HY HB4 HW4 HA Hch Hnx Htb Hb5 c0 c3 c9 c15 c16 e1 e2 e3 S5 e5
            have T1 := S1.out; have T2 := S2.out; have T3 := S3.out
            clear S1 S2 S3
            subst T1 T2 T3
            simp only [Bool.not_eq_false, decide_eq_true_eq, decide_eq_false_iff_not, Bool.true_eq_false, Bool.false_eq_true, false_iff, true_iff, and_true, true_and, and_false, false_and, Decidable.not_not, eq_self] at *
            first
            | exact cut_false (by omega)
            | exact cut_false (fun h => h)
            | exact cut_true (by omega)
            | exact cut_dec (by omega)
    case rest =>
    obtain ⟨⟨b6, rfl, hb6⟩, hwc⟩ := hcut
    obtain rfl := hwc.symm
    have Hb6 := Lib.hid hb6
    clear hb6 Hb5 c0 c3 c9
    go_upto_region 11 with fail
    go_cut [6] from 146 to 173 (fun v wx => CutB v (((((okHead RR ∧ okUndo RR) ∧ okOp RR) ∧ okKey RR) ∧ okNext RR) ∧ okLong RR) ∧ wx = wc)
    case first =>
      cases b6
      · have Hn : ¬ (((((okHead RR ∧ okUndo RR) ∧ okOp RR) ∧ okKey RR) ∧ okNext RR) ∧ okLong RR) := fun h => Hb6.out.not rfl h.1
        have HN := Lib.hid Hn
        clear Hn
        go_wp2
        go_meet
        exact ⟨cut_false HN.out, rfl⟩
      · have Hy : (((okHead RR ∧ okUndo RR) ∧ okOp RR) ∧ okKey RR) ∧ okNext RR := Hb6.out.1 rfl
        have HY := Lib.hid Hy
        clear Hy
        have HK := Lib.hid (and_key HY.out (show okLong RR ↔ ((kind = 8 ∨ txs.length = 0 ∧ dirty.length = 0) ∧ txs.length ≤ 64 ∧ dirty.length ≤ 256) by rw [HR.out]; exact Iff.rfl))
        obtain ⟨n1, e1, s1⟩ := namesN txs.length 0
        obtain ⟨n2, e2, s2⟩ := namesN dirty.length 0
        have S1 := Lib.hid s1; have S2 := Lib.hid s2
        clear s1 s2
        simp only [Int.natCast_zero, Int.ofNat_eq_natCast] at e1 e2
        cases tb
        all_goals
          go_wp2
          all_goals
            go_meet
            rw [HK.out]
            have hnx := Htb.out
            unfold Says at hnx
            clear HK HR HY HB4 HW4 HA Hch Hnx Htb Hb6 c15 c16 e1 e2 S5 e5
            have T1 := S1.out; have T2 := S2.out
            clear S1 S2
            subst T1 T2
            simp only [Bool.not_eq_false, decide_eq_true_eq, decide_eq_false_iff_not, Bool.true_eq_false, Bool.false_eq_true, false_iff, true_iff, and_true, true_and, and_false, false_and, Decidable.not_not, eq_self] at *
            first
            | exact cut_false (by omega)
            | exact cut_false (fun h => h)
            | exact cut_true (by omega)
            | exact cut_dec (by omega)
    case rest =>
    obtain ⟨⟨b7, rfl, hb7⟩, hwc⟩ := hcut
    obtain rfl := hwc.symm
    have Hb7 := Lib.hid hb7
    clear hb7 Hb6 c16
    generalize hPP : (((((okHead RR ∧ okUndo RR) ∧ okOp RR) ∧ okKey RR) ∧ okNext RR) ∧ okLong RR) = PP at *
    go_wp2_with fail
    go_loopw [6, 177] (fun v i wr => ∃ (k : Nat) (b : Bool), k ≤ txs.length ∧ i = .int .i64 k ∧ v = .bool b ∧ (b = true ↔ PP ∧ ∀ t ∈ txs.take k, okSt t) ∧ Below g w wr)
      (fun _ i _ => txs.length - (intOf i).toNat)
    case atStart => exact ⟨0, b7, Nat.zero_le _, rfl, rfl, ⟨fun h => ⟨Hb7.out.1 h, fun t ht => absurd ht (by simp)⟩, fun h => Hb7.out.2 h.1⟩, HW4.out⟩
    case round =>
      obtain ⟨k, b, hk, rfl, rfl, hs, hwr⟩ := hrel
      have HS := Lib.hid hs
      have HWr := Lib.hid hwr
      clear hs hwr c15
      by_cases hlt : k < txs.length
      · have i1 : (k : Int) < txs.length := by omega
        obtain ⟨ab, off, rfl, hab, hc⟩ := HA.out k hlt
        rw [HgE.out] at hab
        have y0 := (HWr.out.cell (p := ⟨ab, off + k * 4, none⟩) hab).trans (hc 0 _ rfl)
        have y1 := (HWr.out.cell (p := ⟨ab, off + k * 4 + 1, none⟩) hab).trans (hc 1 _ rfl)
        have y2 := (HWr.out.cell (p := ⟨ab, off + k * 4 + 2, none⟩) hab).trans (hc 2 _ rfl)
        have y3 := (HWr.out.cell (p := ⟨ab, off + k * 4 + 3, none⟩) hab).trans (hc 3 _ rfl)
        clear hc
        have hT := Lib.hid (show ∀ t, t ∈ txs.take (k + 1) ↔ (t ∈ txs.take k ∨ t = txs[k]) by
          intro t; rw [List.take_succ_eq_append_getElem hlt, List.mem_append, List.mem_singleton])
        generalize txs[k] = st at *
        obtain ⟨stx, sst, slast, snext⟩ := st
        simp only at y0 y1 y2 y3
        cases b
        all_goals
          go_wp2
          all_goals
            go_roundw
            case rel =>
              refine ⟨k + 1, _, by omega, by go_num, rfl, st_step HS.out hT.out ?_, HWr.out.alloc (by have := HWr.out.size; have := HgE.out; omega) _⟩
              unfold okSt
              simp only [Bool.false_eq_true, false_and, true_and, false_iff, iff_self, decide_eq_true_eq, eq_self]
              try omega
            case measure => simp [intOf]; omega
      · obtain rfl : k = txs.length := by omega
        have hS := HS.out
        rw [List.take_length, ← hPP] at hS
        have hfin : b = true ↔ recOk RR := by
          rw [hS, HR.out]
          exact Iff.rfl
        have HF := Lib.hid hfin
        clear hS hfin
        cases b
        · have HE := Lib.hid (recE_neg (r := RR) (fun h => nomatch (HF.out.2 h)))
          go_wp2
          go_ret
          exact ⟨ret_int HE.out.symm, by rw [HgE.out]; exact HWr.out⟩
        · have HE := Lib.hid (recE_pos (HF.out.1 rfl))
          go_wp2
          go_ret
          exact ⟨ret_int HE.out.symm, by rw [HgE.out]; exact HWr.out⟩
end Go.Proofs.Ytebickoieipjpaa
end
section
namespace Go.Proofs.Ytebickoieipjpaa
open Go.RowKit Go.Gi Go.GiRow
set_option maxRecDepth 20000
set_option linter.unusedSimpArgs false
set_option linter.unusedVariables false
theorem cellsR {w : World} {g T : Nat} {kind tx prev next page ok oa : Int} {os oo : List UInt8} {undo index : Int} {key : List UInt8} {rpage rslot : Int} {live : Bool} {VA VB : Value}
    (h : Blk w g T #[.int .i64 kind, .int .i64 tx, .int .u64 prev, .int .u64 next, .int .u32 page, .int .i64 ok, .int .i64 oa, .string (bs os), .string (bs oo), .int .i64 undo, .int .i64 index, .string (bs key), .int .u32 rpage, .int .i64 rslot, .bool live, VA, VB]) : w.cell? ⟨g, 0, none⟩ = some (.int .i64 kind) ∧ w.cell? ⟨g, 1, none⟩ = some (.int .i64 tx) ∧ w.cell? ⟨g, 2, none⟩ = some (.int .u64 prev) ∧ w.cell? ⟨g, 3, none⟩ = some (.int .u64 next) ∧ w.cell? ⟨g, 15, none⟩ = some VA ∧ w.cell? ⟨g, 16, none⟩ = some VB :=
  ⟨h.cell 0, h.cell 1, h.cell 2, h.cell 3, h.cell 15, h.cell 16⟩
set_option maxHeartbeats 16000000 in
theorem encode_no (r : RecR) (A : Option Addr) (c : Nat) (B : Option Addr) (d : Nat) (w : World) (hA : RdRows StR.cells 4 w A r.txs) (hl : r.txs.length ≤ 9223372036854775807) (hd : r.dirty.length ≤ 9223372036854775807) (hn : ¬ recOk r) :
    Calls Try.prog 7 #[r.val A c B d] w fun e w' => e = .returned (.tuple #[.string ⟨#[]⟩, .int .i64 40]) ∧ Below w.heap.size w w' := by
  have hc := fun (w' : World) (hb : Below w.heap.size w w') => rcheck_any r A c B d w' (fun k hk => by
    obtain ⟨b, off, e, h1, h2⟩ := hA k hk
    exact ⟨b, off, e, Nat.lt_of_lt_of_le h1 hb.size, fun j u hu => (hb.cell (p := ⟨b, off + k * 4 + j, none⟩) h1).trans (h2 j u hu)⟩) hl hd
  have HC := Lib.hid hc
  have HE := Lib.hid (recE_neg hn)
  clear hc hn hA hl hd
  obtain ⟨kind, tx, prev, next, page, ok, oa, os, oo, undo, index, key, rpage, rslot, live, txs, dirty⟩ := r
  unfold RecR.val RecR.cells at HC ⊢
  simp only at HC ⊢
  generalize Value.slice A txs.length c = VA at *
  generalize Value.slice B dirty.length d = VB at *
  go_enter Try.func7, Try.ntmps7
  go_upto_region 1 with fail
  have hB := Blk.new w 35 #[.int .i64 kind, .int .i64 tx, .int .u64 prev, .int .u64 next, .int .u32 page, .int .i64 ok, .int .i64 oa, .string (bs os), .string (bs oo), .int .i64 undo, .int .i64 index, .string (bs key), .int .u32 rpage, .int .i64 rslot, .bool live, VA, VB]
  have hW := balloc (Below.refl w.heap.size w) (.cells #[.int .i64 kind, .int .i64 tx, .int .u64 prev, .int .u64 next, .int .u32 page, .int .i64 ok, .int .i64 oa, .string (bs os), .string (bs oo), .int .i64 undo, .int .i64 index, .string (bs key), .int .u32 rpage, .int .i64 rslot, .bool live, VA, VB] 35)
  obtain ⟨c0, c1, c2, c3, c15, c16⟩ := cellsR hB
  have HW := Lib.hid hW
  have HB := Lib.hid hB
  clear hB hW
  generalize w.alloc (.cells #[.int .i64 kind, .int .i64 tx, .int .u64 prev, .int .u64 next, .int .u32 page, .int .i64 ok, .int .i64 oa, .string (bs os), .string (bs oo), .int .i64 undo, .int .i64 index, .string (bs key), .int .u32 rpage, .int .i64 rslot, .bool live, VA, VB] 35) = w0 at *
  go_wp2_with (first | (refine wpList_load_row rfl 35 (.tmp 1) rfl w.heap.size rfl 35 #[.int .i64 kind, .int .i64 tx, .int .u64 prev, .int .u64 next, .int .u32 page, .int .i64 ok, .int .i64 oa, .string (bs os), .string (bs oo), .int .i64 undo, .int .i64 index, .string (bs key), .int .u32 rpage, .int .i64 rslot, .bool live, VA, VB] (0, 0) _ HB.out Try.underlying35 rfl (by kernel_rfl) ?_) | go_at_call 16; refine (HC.out _ HW.out).mono ?_; rintro e w1 ⟨rfl, hb1⟩; have HB1 := Lib.hid (bstep HW.out hb1); clear hb1; rw [HE.out])
  go_returns
  exact ⟨rfl, HB1.out⟩
set_option maxHeartbeats 16000000 in
theorem encode_ok (r : RecR) (A : Option Addr) (c : Nat) (B : Option Addr) (d : Nat) (w : World) (hA : RdRows StR.cells 4 w A r.txs) (hD : RdRows DiR.cells 2 w B r.dirty) (hw : RecW r) (hn : recOk r) :
    Calls Try.prog 7 #[r.val A c B d] w fun e w' => e = .returned (.tuple #[.string (bs (recB r)), .int .i64 0]) ∧ Below w.heap.size w w' := by
  obtain ⟨⟨⟨⟨⟨⟨h1, h2⟩, h3⟩, h4⟩, h5⟩, h6⟩, h7⟩ := id hn
  have g3 := h3
  have g4 := h4
  have hl : r.txs.length ≤ 64 := h6.2.1
  have hd : r.dirty.length ≤ 256 := h6.2.2
  have hc := fun (w' : World) (hb : Below w.heap.size w w') => rcheck_any r A c B d w' (fun k hk => by
    obtain ⟨b, off, e, h1, h2⟩ := hA k hk
    exact ⟨b, off, e, Nat.lt_of_lt_of_le h1 hb.size, fun j u hu => (hb.cell (p := ⟨b, off + k * 4 + j, none⟩) h1).trans (h2 j u hu)⟩) (by omega) (by omega)
  have HC := Lib.hid hc
  have HE := Lib.hid (recE_pos hn)
  have hpc := fun (hch : isChange r.kind) (w' : World) (g : Nat) (ro : Option Nat) (l : List UInt8) (hw' : Wr w' 94 5 w.heap.size g ro l) (hll : l.length ≤ 1000) => putChange_any hw' r A c B d hll hw.page hw.rpage
    (by have := ((okOp_yes hch).1 h3).2; unfold opOk at this; omega) (by have := ((okOp_yes hch).1 h3).2; unfold opOk at this; omega) (by have := ((okOp_yes hch).1 h3).2.1; omega) (by have := ((okOp_yes hch).1 h3).2.2.1; omega) h2
    (by by_cases hu : r.undo = 2
        · have := (okKey_yes hu).1 h4; omega
        · have := (okKey_no hu).1 h4; omega)
    (by by_cases hu : r.undo = 2
        · have := (okKey_yes hu).1 h4; omega
        · have := (okKey_no hu).1 h4; omega)
    (by by_cases hu : r.undo = 2
        · have := (okKey_yes hu).1 h4; omega
        · have := (okKey_no hu).1 h4; omega)
  have HPC := Lib.hid hpc
  have HSt := Lib.hid h7
  obtain ⟨w1, w2, w3, w4, w5, w6⟩ := hw
  obtain ⟨q1, q2, q3, q4⟩ := h1
  have HA := Lib.hid hA
  have HD := Lib.hid hD
  have HWs := Lib.hid w5
  have HWd := Lib.hid w6
  clear hc hpc hA hD hn h2 h3 h4 h5 h6 h7 w5 w6
  unfold recB
  obtain ⟨L1, hL1⟩ : ∃ L, L = headB r := ⟨_, rfl⟩
  obtain ⟨L2, hL2⟩ : ∃ L, L = chB r := ⟨_, rfl⟩
  obtain ⟨L3, hL3⟩ : ∃ L, L = tabB r := ⟨_, rfl⟩
  rw [← hL1, ← hL2, ← hL3]
  rw [← hL2] at HPC
  have HL1 := Lib.hid hL1
  have HL3 := Lib.hid hL3
  have hL1L : L1.length = 13 := by rw [hL1]; simp [headB, putL_length]
  have hL2L : L2.length ≤ 2000 := by
    by_cases hch : isChange r.kind
    · have := ((okOp_yes hch).1 g3).2
      unfold opOk at this
      have hkk : r.key.length ≤ 64 := by
        by_cases hu : r.undo = 2
        · have := (okKey_yes hu).1 g4; omega
        · have := (okKey_no hu).1 g4; omega
      rw [hL2]
      exact chB_len r (by omega) (by omega) hkk
    · have := ((okOp_no hch).1 g3)
      have hkk : r.key.length ≤ 64 := by
        by_cases hu : r.undo = 2
        · have := (okKey_yes hu).1 g4; omega
        · have := (okKey_no hu).1 g4; omega
      rw [hL2]
      exact chB_len r (by omega) (by omega) hkk
  clear hL1 hL2 hL3 g3 g4
  generalize hLL : L1 ++ (if isNext r.kind then putL 8 r.next.toNat else []) ++ (if isChange r.kind then L2 else []) ++ (if r.kind = 8 then L3 else []) = LL
  have HLL0 := Lib.hid hLL
  have HLL := Lib.hid (show L1.length = 13 ∧ L2.length ≤ 2000 from ⟨hL1L, hL2L⟩)
  clear hLL hL1L hL2L
  obtain ⟨kind, tx, prev, next, page, ok, oa, os, oo, undo, index, key, rpage, rslot, live, txs, dirty⟩ := r
  unfold headB at HL1
  unfold tabB at HL3
  unfold RecR.val RecR.cells at HC HPC ⊢
  simp only at HC HPC HE HA HD HSt HWs HWd HL1 HL3 HLL0 w1 w2 w3 w4 q1 q2 q3 q4 hl hd ⊢
  generalize hVA : Value.slice A txs.length c = VA at *
  generalize hVB : Value.slice B dirty.length d = VB at *
  have HVA := Lib.hid hVA
  have HVB := Lib.hid hVB
  clear hVA hVB
  go_enter Try.func7, Try.ntmps7
  go_upto_region 1 with fail
  have hB := Blk.new w 35 #[.int .i64 kind, .int .i64 tx, .int .u64 prev, .int .u64 next, .int .u32 page, .int .i64 ok, .int .i64 oa, .string (bs os), .string (bs oo), .int .i64 undo, .int .i64 index, .string (bs key), .int .u32 rpage, .int .i64 rslot, .bool live, VA, VB]
  have hW := balloc (Below.refl w.heap.size w) (.cells #[.int .i64 kind, .int .i64 tx, .int .u64 prev, .int .u64 next, .int .u32 page, .int .i64 ok, .int .i64 oa, .string (bs os), .string (bs oo), .int .i64 undo, .int .i64 index, .string (bs key), .int .u32 rpage, .int .i64 rslot, .bool live, VA, VB] 35)
  obtain ⟨c0, c1, c2, c3, c15, c16⟩ := cellsR hB
  have HB := Lib.hid hB
  have HK := Lib.hid hW
  clear hB hW
  generalize w.alloc (.cells #[.int .i64 kind, .int .i64 tx, .int .u64 prev, .int .u64 next, .int .u32 page, .int .i64 ok, .int .i64 oa, .string (bs os), .string (bs oo), .int .i64 undo, .int .i64 index, .string (bs key), .int .u32 rpage, .int .i64 rslot, .bool live, VA, VB] 35) = w0 at *
  go_upto_region 9 with (first | (refine wpList_load_row rfl 35 (.tmp 1) rfl w.heap.size rfl 35 #[.int .i64 kind, .int .i64 tx, .int .u64 prev, .int .u64 next, .int .u32 page, .int .i64 ok, .int .i64 oa, .string (bs os), .string (bs oo), .int .i64 undo, .int .i64 index, .string (bs key), .int .u32 rpage, .int .i64 rslot, .bool live, VA, VB] (0, 0) _ HB.out Try.underlying35 rfl (by kernel_rfl) ?_) | (go_at_call 16; refine (HC.out _ HK.out).mono ?_; rintro e w1 ⟨rfl, hb1⟩; clear c0 c1 c2 c3 c15 c16; obtain ⟨c0, c1, c2, c3, c15, c16⟩ := cellsR (HB.out.step hb1); have HB1 := Lib.hid (HB.out.step hb1); have HK1 := Lib.hid (bstep HK.out hb1); clear hb1 HB HK; have HB := HB1; have HK := HK1; clear HB1 HK1; rw [HE.out]) | (go_at_call 17; refine (newWriter_any _ w.heap.size HK.out.size).mono ?_; rintro e w1 ⟨g, rfl, h1, hg, hb1⟩; have HW := Lib.hid h1; clear c0 c1 c2 c3 c15 c16; obtain ⟨c0, c1, c2, c3, c15, c16⟩ := cellsR (HB.out.step hb1); have HB1 := Lib.hid (HB.out.step hb1); have HK1 := Lib.hid (bstep HK.out hb1); clear hb1 h1 hg HB HK; have HB := HB1; have HK := HK1; clear HB1 HK1) | (go_at_call 18; refine (wnumber_any HW.out _ _ (by omega) (by omega) (by have := HLL.out; first | (simp [clamp8, putL_length]; done) | (simp [clamp8, putL_length]; omega))).mono ?_; rintro e w1 ⟨rfl, r1, h1, k1⟩; clear c0 c1 c2 c3 c15 c16; obtain ⟨c0, c1, c2, c3, c15, c16⟩ := cellsR (WK.blk HW.out k1 HB.out (by decide) (by decide)); have HB1 := Lib.hid (WK.blk HW.out k1 HB.out (by decide) (by decide)); have HK1 := Lib.hid (k1.below HK.out HW.out.1 (fun j e => (HW.out.row j e).1)); have HW1 := Lib.hid h1; clear HW HB HK h1 k1; have HW := HW1; have HB := HB1; have HK := HK1; clear HW1 HB1 HK1) | (go_at_call 19; refine (named_any _ _).mono ?_; rintro e w' ⟨⟨ch, nx, tb, rfl, hch, hnx, htb⟩, hw'⟩; obtain rfl := hw'.symm; have Hch := Lib.hid hch; have Hnx := Lib.hid hnx; have Htb := Lib.hid htb; clear hch hnx htb))
  have hw1 := HW.out
  rw [List.nil_append, c8_1, c8_4, c8_8, ← HL1.out] at hw1
  have HW1 := Lib.hid hw1
  clear HW hw1
  have HW := HW1
  clear HW1
  go_upto_if 40 with fail
  go_cut [] from 41 to 44 (fun wx => ∃ rx, Wr wx 94 5 w.heap.size g rx (L1 ++ sel nx (putL 8 next.toNat)) ∧ Blk wx w.heap.size 35 #[.int .i64 kind, .int .i64 tx, .int .u64 prev, .int .u64 next, .int .u32 page, .int .i64 ok, .int .i64 oa, .string (bs os), .string (bs oo), .int .i64 undo, .int .i64 index, .string (bs key), .int .u32 rpage, .int .i64 rslot, .bool live, VA, VB] ∧ Below w.heap.size w wx)
  case first =>
    cases nx
    · go_wp2
      go_meet
      exact ⟨_, by rw [sel_false, List.append_nil]; exact HW.out, HB.out, HK.out⟩
    · go_wp2_with (first | (go_at_call 18; refine (wnumber_any HW.out _ _ (by omega) (by omega) (by have := HLL.out; first | (simp [clamp8, putL_length]; done) | (simp [clamp8, putL_length]; omega))).mono ?_; rintro e w1 ⟨rfl, r1, h1, k1⟩; clear c0 c1 c2 c3 c15 c16; obtain ⟨c0, c1, c2, c3, c15, c16⟩ := cellsR (WK.blk HW.out k1 HB.out (by decide) (by decide)); have HB1 := Lib.hid (WK.blk HW.out k1 HB.out (by decide) (by decide)); have HK1 := Lib.hid (k1.below HK.out HW.out.1 (fun j e => (HW.out.row j e).1)); have HW1 := Lib.hid h1; clear HW HB HK h1 k1; have HW := HW1; have HB := HB1; have HK := HK1; clear HW1 HB1 HK1))
      go_meet
      exact ⟨_, by rw [sel_true, ← c8_8]; exact HW.out, HB.out, HK.out⟩
  case rest =>
  obtain ⟨r2, hw2, hb2, hk2⟩ := hcut
  clear c0 c1 c2 c3 c15 c16
  obtain ⟨c0, c1, c2, c3, c15, c16⟩ := cellsR hb2
  clear HW HB HK
  have HW := Lib.hid hw2
  have HB := Lib.hid hb2
  have HK := Lib.hid hk2
  clear hw2 hb2 hk2
  go_upto_if 45 with fail
  go_cut [] from 46 to 48 (fun wx => ∃ rx, Wr wx 94 5 w.heap.size g rx (L1 ++ sel nx (putL 8 next.toNat) ++ sel ch L2) ∧ Blk wx w.heap.size 35 #[.int .i64 kind, .int .i64 tx, .int .u64 prev, .int .u64 next, .int .u32 page, .int .i64 ok, .int .i64 oa, .string (bs os), .string (bs oo), .int .i64 undo, .int .i64 index, .string (bs key), .int .u32 rpage, .int .i64 rslot, .bool live, VA, VB] ∧ Below w.heap.size w wx)
  case first =>
    cases ch
    · go_wp2
      go_meet
      exact ⟨_, by rw [sel_false, List.append_nil]; exact HW.out, HB.out, HK.out⟩
    · go_wp2_with (first | (refine wpList_load_row rfl 35 (.tmp 1) rfl w.heap.size rfl 35 #[.int .i64 kind, .int .i64 tx, .int .u64 prev, .int .u64 next, .int .u32 page, .int .i64 ok, .int .i64 oa, .string (bs os), .string (bs oo), .int .i64 undo, .int .i64 index, .string (bs key), .int .u32 rpage, .int .i64 rslot, .bool live, VA, VB] (0, 0) _ HB.out Try.underlying35 rfl (by kernel_rfl) ?_) | (go_at_call 20; refine (HPC.out (Hch.out.1 rfl) _ _ _ _ HW.out (by have h1 := HLL.out; have h2 := sel_len nx (putL 8 next.toNat); rw [putL_length] at h2; rw [List.length_append]; omega)).mono ?_; rintro e w1 ⟨rfl, r1, h1, k1⟩; clear c0 c1 c2 c3 c15 c16; obtain ⟨c0, c1, c2, c3, c15, c16⟩ := cellsR (WK.blk HW.out k1 HB.out (by decide) (by decide)); have HB1 := Lib.hid (WK.blk HW.out k1 HB.out (by decide) (by decide)); have HK1 := Lib.hid (k1.below HK.out HW.out.1 (fun j e => (HW.out.row j e).1)); have HW1 := Lib.hid h1; clear HW HB HK h1 k1; have HW := HW1; have HB := HB1; have HK := HK1; clear HW1 HB1 HK1))
      go_meet
      exact ⟨_, HW.out, HB.out, HK.out⟩
  case rest =>
  obtain ⟨r3, hw2, hb2, hk2⟩ := hcut
  clear c0 c1 c2 c3 c15 c16
  obtain ⟨c0, c1, c2, c3, c15, c16⟩ := cellsR hb2
  clear HW HB HK
  have HW := Lib.hid hw2
  have HB := Lib.hid hb2
  have HK := Lib.hid hk2
  clear hw2 hb2 hk2
  have hfin : L1 ++ sel nx (putL 8 next.toNat) ++ sel ch L2 ++ sel tb L3 = LL := by
    rw [sel_eq Hnx.out, sel_eq Hch.out, sel_eq Htb.out, HLL0.out]
  have HFin := Lib.hid hfin
  clear hfin HLL0
  have hlb : (L1 ++ sel nx (putL 8 next.toNat) ++ sel ch L2).length ≤ 2021 := by
    have h1 := HLL.out; have h2 := sel_len nx (putL 8 next.toNat); have h3 := sel_len ch L2
    rw [putL_length] at h2
    simp only [List.length_append]; omega
  generalize L1 ++ sel nx (putL 8 next.toNat) ++ sel ch L2 = L4 at *
  cases tb
  · have e : L4 = LL := by rw [← HFin.out, sel_false, List.append_nil]
    have HE4 := Lib.hid e
    clear e
    go_wp2_with (first | (go_at_call 21; refine (wall_any HW.out).mono ?_; rintro e w1 ⟨rfl, rfl⟩))
    go_returns
    rw [HE4.out]
    exact ⟨rfl, HK.out⟩
  · have eA := HVA.out
    have eB := HVB.out
    subst eA eB
    have hLfin : L4 ++ putL 2 txs.length ++ stsB txs ++ putL 2 dirty.length ++ disB dirty = LL := by
      rw [← HFin.out, sel_true, HL3.out]; simp only [List.append_assoc]
    have HLfin := Lib.hid hLfin
    clear hLfin HFin HL3
    go_wp2_with (first | (go_at_call 18; refine (wnumber_any HW.out _ _ (by omega) (by omega) (by have := HLL.out; first | (simp [clamp8, putL_length]; done) | (simp [clamp8, putL_length]; omega))).mono ?_; rintro e w1 ⟨rfl, r1, h1, k1⟩; clear c0 c1 c2 c3 c15 c16; obtain ⟨c0, c1, c2, c3, c15, c16⟩ := cellsR (WK.blk HW.out k1 HB.out (by decide) (by decide)); have HB1 := Lib.hid (WK.blk HW.out k1 HB.out (by decide) (by decide)); have HK1 := Lib.hid (k1.below HK.out HW.out.1 (fun j e => (HW.out.row j e).1)); have HW1 := Lib.hid h1; clear HW HB HK h1 k1; have HW := HW1; have HB := HB1; have HK := HK1; clear HW1 HB1 HK1))
    have hw1 := HW.out
    rw [c8_2, Int.toNat_natCast] at hw1
    have HW1 := Lib.hid hw1
    clear HW hw1
    have HW := HW1
    clear HW1
    go_loopw [59] (fun i wr => ∃ (k : Nat) (rx : Option Nat), k ≤ txs.length ∧ i = .int .i64 k ∧ Wr wr 94 5 w.heap.size g rx (L4 ++ putL 2 txs.length ++ stsB (txs.take k)) ∧ Blk wr w.heap.size 35 #[.int .i64 kind, .int .i64 tx, .int .u64 prev, .int .u64 next, .int .u32 page, .int .i64 ok, .int .i64 oa, .string (bs os), .string (bs oo), .int .i64 undo, .int .i64 index, .string (bs key), .int .u32 rpage, .int .i64 rslot, .bool live, (.slice A txs.length c), (.slice B dirty.length d)] ∧ Below w.heap.size w wr)
      (fun i _ => txs.length - (intOf i).toNat)
    case atStart => exact ⟨0, r1, Nat.zero_le _, rfl, by simpa [stsB] using HW.out, HB.out, HK.out⟩
    case round =>
      obtain ⟨k, rx, hk, rfl, hwr, hbr, hkr⟩ := hrel
      clear c0 c1 c2 c3 c15 c16 HW HB HK
      have HW := Lib.hid hwr
      have HB := Lib.hid hbr
      have HK := Lib.hid hkr
      clear hwr hbr hkr
      by_cases hlt : k < txs.length
      · have i1 : (k : Int) < txs.length := by omega
        obtain ⟨ab, off, rfl, hab, hc⟩ := HA.out k hlt
        have y0 := (HK.out.cell (p := ⟨ab, off + k * 4, none⟩) hab).trans (hc 0 _ rfl)
        have y1 := (HK.out.cell (p := ⟨ab, off + k * 4 + 1, none⟩) hab).trans (hc 1 _ rfl)
        have y2 := (HK.out.cell (p := ⟨ab, off + k * 4 + 2, none⟩) hab).trans (hc 2 _ rfl)
        have y3 := (HK.out.cell (p := ⟨ab, off + k * 4 + 3, none⟩) hab).trans (hc 3 _ rfl)
        clear hc
        have hT := Lib.hid (stsB_take txs k hlt)
        have hlk : (stsB (txs.take k)).length ≤ 1344 := by rw [stsB_len, List.length_take]; omega
        obtain ⟨p1, p2, p3, p4⟩ := HSt.out _ (List.getElem_mem hlt)
        obtain ⟨⟨p5, p6⟩, p7, p8⟩ := HWs.out _ (List.getElem_mem hlt)
        generalize stsB (txs.take k) = tl at *
        generalize txs[k] = st at *
        obtain ⟨stx, sst, slast, snext⟩ := st
        simp only at y0 y1 y2 y3 p1 p2 p3 p4 p5 p6 p7 p8
        go_upto_region 18 with fail
        have hT1 := Blk.new wr 70 #[.int .i64 stx, .int .i64 sst, .int .u64 slast, .int .u64 snext]
        have hW1 := HW.out.alloc (.cells #[.int .i64 stx, .int .i64 sst, .int .u64 slast, .int .u64 snext] 70)
        have hB1 := HB.out.alloc (.cells #[.int .i64 stx, .int .i64 sst, .int .u64 slast, .int .u64 snext] 70)
        have hK1 := balloc HK.out (.cells #[.int .i64 stx, .int .i64 sst, .int .u64 slast, .int .u64 snext] 70)
        clear y0 y1 y2 y3 HW HB HK
        generalize wr.alloc (.cells #[.int .i64 stx, .int .i64 sst, .int .u64 slast, .int .u64 snext] 70) = w5 at *
        generalize wr.heap.size = b5 at *
        have d0 : w5.cell? ⟨b5, 0, none⟩ = some (.int .i64 stx) := hT1.cell 0
        have d1 : w5.cell? ⟨b5, 1, none⟩ = some (.int .i64 sst) := hT1.cell 1
        have d2 : w5.cell? ⟨b5, 2, none⟩ = some (.int .u64 slast) := hT1.cell 2
        have d3 : w5.cell? ⟨b5, 3, none⟩ = some (.int .u64 snext) := hT1.cell 3
        have HW := Lib.hid hW1
        have HB := Lib.hid hB1
        have HK := Lib.hid hK1
        have HT := Lib.hid hT1
        clear hT1 hW1 hB1 hK1
        go_wp2_with (go_at_call 18; refine (wnumber_any HW.out _ _ (by omega) (by omega) (by simp [clamp8, putL_length]; omega)).mono ?_; rintro e w1 ⟨rfl, r1, h1, k1⟩; have HB1 := Lib.hid (WK.blk HW.out k1 HB.out (by decide) (by decide)); have HT1 := Lib.hid (WK.blk HW.out k1 HT.out (by decide) (by decide)); have HK1 := Lib.hid (k1.below HK.out HW.out.1 (fun j e => (HW.out.row j e).1)); have HW1 := Lib.hid h1; clear HW HB HK HT h1 k1 d0 d1 d2 d3; have HW := HW1; have HB := HB1; have HK := HK1; have HT := HT1; clear HW1 HB1 HK1 HT1; have d0 : w1.cell? ⟨b5, 0, none⟩ = some (.int .i64 stx) := HT.out.cell 0; have d1 : w1.cell? ⟨b5, 1, none⟩ = some (.int .i64 sst) := HT.out.cell 1; have d2 : w1.cell? ⟨b5, 2, none⟩ = some (.int .u64 slast) := HT.out.cell 2; have d3 : w1.cell? ⟨b5, 3, none⟩ = some (.int .u64 snext) := HT.out.cell 3)
        go_roundw
        case rel =>
          refine ⟨k + 1, r1, by omega, by go_num, ?_, HB.out, HK.out⟩
          have := HW.out
          rw [hT.out]
          simp only [stB, c8_1, c8_4, c8_8, List.append_assoc] at this ⊢
          exact this
        case measure => simp [intOf]; omega
      · obtain rfl : k = txs.length := by omega
        rw [List.take_length] at HW
        obtain ⟨c0, c1, c2, c3, c15, c16⟩ := cellsR HB.out
        have hls : (stsB txs).length ≤ 1344 := by rw [stsB_len]; omega
        generalize stsB txs = tl at *
        go_wp2_with (first | (go_at_call 18; refine (wnumber_any HW.out _ _ (by omega) (by omega) (by have := HLL.out; first | (simp [clamp8, putL_length]; done) | (simp [clamp8, putL_length]; omega))).mono ?_; rintro e w1 ⟨rfl, r1, h1, k1⟩; clear c0 c1 c2 c3 c15 c16; obtain ⟨c0, c1, c2, c3, c15, c16⟩ := cellsR (WK.blk HW.out k1 HB.out (by decide) (by decide)); have HB1 := Lib.hid (WK.blk HW.out k1 HB.out (by decide) (by decide)); have HK1 := Lib.hid (k1.below HK.out HW.out.1 (fun j e => (HW.out.row j e).1)); have HW1 := Lib.hid h1; clear HW HB HK h1 k1; have HW := HW1; have HB := HB1; have HK := HK1; clear HW1 HB1 HK1))
        have hw1 := HW.out
        rw [c8_2, Int.toNat_natCast] at hw1
        have HW1 := Lib.hid hw1
        clear HW hw1
        have HW := HW1
        clear HW1
        go_loopw [91] (fun i wr => ∃ (k : Nat) (rx : Option Nat), k ≤ dirty.length ∧ i = .int .i64 k ∧ Wr wr 94 5 w.heap.size g rx (L4 ++ putL 2 txs.length ++ tl ++ putL 2 dirty.length ++ disB (dirty.take k)) ∧ Below w.heap.size w wr)
          (fun i _ => dirty.length - (intOf i).toNat)
        case atStart => exact ⟨0, r1, Nat.zero_le _, rfl, by simpa [disB] using HW.out, HK.out⟩
        case round =>
          obtain ⟨k, rx, hk, rfl, hwr, hkr⟩ := hrel
          clear c0 c1 c2 c3 c15 c16 HW HB HK
          have HW := Lib.hid hwr
          have HK := Lib.hid hkr
          clear hwr hkr
          by_cases hlt : k < dirty.length
          · have i1 : (k : Int) < dirty.length := by omega
            obtain ⟨ab, off, rfl, hab, hc⟩ := HD.out k hlt
            have y0 := (HK.out.cell (p := ⟨ab, off + k * 2, none⟩) hab).trans (hc 0 _ rfl)
            have y1 := (HK.out.cell (p := ⟨ab, off + k * 2 + 1, none⟩) hab).trans (hc 1 _ rfl)
            clear hc
            have hT := Lib.hid (disB_take dirty k hlt)
            have hlk : (disB (dirty.take k)).length ≤ 3072 := by rw [disB_len, List.length_take]; omega
            obtain ⟨⟨p5, p6⟩, p7, p8⟩ := HWd.out _ (List.getElem_mem hlt)
            generalize disB (dirty.take k) = dl at *
            generalize dirty[k] = st at *
            obtain ⟨dpage, dlsn⟩ := st
            simp only at y0 y1 p5 p6 p7 p8
            go_upto_region 27 with fail
            have hT1 := Blk.new wr 72 #[.int .u32 dpage, .int .u64 dlsn]
            have hW1 := HW.out.alloc (.cells #[.int .u32 dpage, .int .u64 dlsn] 72)
            have hK1 := balloc HK.out (.cells #[.int .u32 dpage, .int .u64 dlsn] 72)
            clear y0 y1 HW HK
            generalize wr.alloc (.cells #[.int .u32 dpage, .int .u64 dlsn] 72) = w5 at *
            generalize wr.heap.size = b5 at *
            have d0 : w5.cell? ⟨b5, 0, none⟩ = some (.int .u32 dpage) := hT1.cell 0
            have d1 : w5.cell? ⟨b5, 1, none⟩ = some (.int .u64 dlsn) := hT1.cell 1
            have HW := Lib.hid hW1
            have HK := Lib.hid hK1
            have HT := Lib.hid hT1
            clear hT1 hW1 hK1
            go_wp2_with (go_at_call 18; refine (wnumber_any HW.out _ _ (by omega) (by omega) (by simp [clamp8, putL_length]; omega)).mono ?_; rintro e w1 ⟨rfl, r1, h1, k1⟩; have HT1 := Lib.hid (WK.blk HW.out k1 HT.out (by decide) (by decide)); have HK1 := Lib.hid (k1.below HK.out HW.out.1 (fun j e => (HW.out.row j e).1)); have HW1 := Lib.hid h1; clear HW HK HT h1 k1 d0 d1; have HW := HW1; have HK := HK1; have HT := HT1; clear HW1 HK1 HT1; have d0 : w1.cell? ⟨b5, 0, none⟩ = some (.int .u32 dpage) := HT.out.cell 0; have d1 : w1.cell? ⟨b5, 1, none⟩ = some (.int .u64 dlsn) := HT.out.cell 1)
            go_roundw
            case rel =>
              refine ⟨k + 1, r1, by omega, by go_num, ?_, HK.out⟩
              have := HW.out
              rw [hT.out]
              simp only [diB, c8_1, c8_4, c8_8, List.append_assoc] at this ⊢
              exact this
            case measure => simp [intOf]; omega
          · obtain rfl : k = dirty.length := by omega
            rw [List.take_length, HLfin.out] at HW
            go_wp2_with (first | (go_at_call 21; refine (wall_any HW.out).mono ?_; rintro e w1 ⟨rfl, rfl⟩))
            go_returns
            exact ⟨rfl, HK.out⟩
end Go.Proofs.Ytebickoieipjpaa
end
