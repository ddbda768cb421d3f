/- Two records are the same just where all of both is, as the document has them: for every two records; no condition. -/
import Derived.Test.YtebickoieipjpaaCSame1
section
namespace Go.Proofs.Ytebickoieipjpaa
open Go.RowKit Go.Gi Go.GiRow
set_option maxRecDepth 20000
set_option linter.unusedSimpArgs false
set_option linter.unusedVariables false
theorem named_any (k : Int) (w : World) :
    Calls Try.prog 19 #[.int .i64 k] w fun e w' => (∃ c n t, e = .returned (.tuple #[.bool c, .bool n, .bool t]) ∧ Says c (isChange k) ∧ Says n (isNext k) ∧ Says t (k = 8)) ∧ w' = w := by
  by_cases h1 : k = 1
  · subst h1
    go_enter Try.func19, Try.ntmps19
    go_wp2
    go_returns
    exact ⟨⟨_, _, _, rfl, .of_true (.inl rfl), .of_false (by unfold isNext; omega), .of_false (by omega)⟩, rfl⟩
  by_cases h2 : k = 2
  · subst h2
    go_enter Try.func19, Try.ntmps19
    go_wp2
    go_returns
    exact ⟨⟨_, _, _, rfl, .of_true (.inr rfl), .of_true (.inl rfl), .of_false (by omega)⟩, rfl⟩
  by_cases h3 : k = 3
  · subst h3
    go_enter Try.func19, Try.ntmps19
    go_wp2
    go_returns
    exact ⟨⟨_, _, _, rfl, .of_false (by unfold isChange; omega), .of_true (.inr rfl), .of_false (by omega)⟩, rfl⟩
  by_cases h8 : k = 8
  · subst h8
    go_enter Try.func19, Try.ntmps19
    go_wp2
    go_returns
    exact ⟨⟨_, _, _, rfl, .of_false (by unfold isChange; omega), .of_false (by unfold isNext; omega), .of_true (by simp)⟩, rfl⟩
  · have e1 : (k == 1) = false := by simp [h1]
    have e2 : (k == 2) = false := by simp [h2]
    have e3 : (k == 3) = false := by simp [h3]
    have e8 : (k == 8) = false := by simp [h8]
    have H := Lib.hid (show ¬ isChange k ∧ ¬ isNext k ∧ ¬ k = 8 by unfold isChange isNext; omega)
    clear h1 h2 h3 h8
    go_enter Try.func19, Try.ntmps19
    go_wp2
    go_returns
    exact ⟨⟨_, _, _, rfl, .of_false H.out.1, .of_false H.out.2.1, .of_false H.out.2.2⟩, rfl⟩
abbrev cellsOf17 (kind tx prev next page ok oa : Int) (os oo : List UInt8) (undo index : Int) (key : List UInt8) (rpage rslot : Int) (live : Bool) (V10 V11 : Value) : Array Value :=
  #[.int .i64 kind, .int .i64 tx, .int .u64 prev, .int .u64 next, .int .u32 page, .int .i64 ok, .int .i64 oa, .string (bs os), .string (bs oo), .int .i64 undo, .int .i64 index, .string (bs key), .int .u32 rpage, .int .i64 rslot, .bool live, V10, V11]
attribute [local go_sem] bs_size bs_empty
set_option maxHeartbeats 16000000 in
theorem rcheck_any (r : RecR) (A : Option Addr) (c : Nat) (B : Option Addr) (d : Nat) (w : World) (hA : RdRows StR.cells 4 w A r.txs) (hl : r.txs.length ≤ 9223372036854775807) (hd : r.dirty.length ≤ 9223372036854775807) :
    Calls Try.prog 16 #[r.val A c B d] w fun e w' => e = .returned (.int .i64 (recE r)) ∧ Below w.heap.size w w' := by
  obtain ⟨kind, tx, prev, next, page, ok, oa, os, oo, undo, index, key, rpage, rslot, live, txs, dirty⟩ := r
  have HA := Lib.hid hA
  simp only at hl hd
  clear hA
  obtain ⟨RR, hRR⟩ : ∃ RR : RecR, RR = ⟨kind, tx, prev, next, page, ok, oa, os, oo, undo, index, key, rpage, rslot, live, txs, dirty⟩ := ⟨_, rfl⟩
  rw [← hRR]
  have HR := Lib.hid hRR
  rw [hRR]
  show Calls Try.prog 16 #[.agg (cellsOf17 kind tx prev next page ok oa os oo undo index key rpage rslot live (.slice A txs.length c) (.slice B dirty.length d))] w _
  rw [← hRR]
  clear hRR
  go_enter Try.func16, Try.ntmps16
  go_upto_region 1 with fail
  have hB := Blk.new w 35 (cellsOf17 kind tx prev next page ok oa os oo undo index key rpage rslot live (.slice A txs.length c) (.slice B dirty.length d))
  have hW := balloc (Below.refl w.heap.size w) (.cells (cellsOf17 kind tx prev next page ok oa os oo undo index key rpage rslot live (.slice A txs.length c) (.slice B dirty.length d)) 35)
  unfold cellsOf17 at hB hW
  have HB := Lib.hid hB
  have HW := Lib.hid hW
  clear hB hW
  generalize w.alloc (.cells #[.int .i64 kind, .int .i64 tx, .int .u64 prev, .int .u64 next, .int .u32 page, .int .i64 ok, .int .i64 oa, .string (bs os), .string (bs oo), .int .i64 undo, .int .i64 index, .string (bs key), .int .u32 rpage, .int .i64 rslot, .bool live, .slice A txs.length c, .slice B dirty.length d] 35) = w0 at *
  generalize Value.agg #[.int .i64 kind, .int .i64 tx, .int .u64 prev, .int .u64 next, .int .u32 page, .int .i64 ok, .int .i64 oa, .string (bs os), .string (bs oo), .int .i64 undo, .int .i64 index, .string (bs key), .int .u32 rpage, .int .i64 rslot, .bool live, .slice A txs.length c, .slice B dirty.length d] = V0 at *
  generalize hgE : w.heap.size = g at *
  have HgE := Lib.hid hgE
  clear hgE
  have c0 : w0.cell? ⟨g, 0, none⟩ = some (.int .i64 kind) := HB.out.cell 0
  have c1 : w0.cell? ⟨g, 1, none⟩ = some (.int .i64 tx) := HB.out.cell 1
  have c3 : w0.cell? ⟨g, 3, none⟩ = some (.int .u64 next) := HB.out.cell 3
  have c4 : w0.cell? ⟨g, 4, none⟩ = some (.int .u32 page) := HB.out.cell 4
  have c5 : w0.cell? ⟨g, 5, none⟩ = some (.int .i64 ok) := HB.out.cell 5
  have c6 : w0.cell? ⟨g, 6, none⟩ = some (.int .i64 oa) := HB.out.cell 6
  have c7 : w0.cell? ⟨g, 7, none⟩ = some (.string (bs os)) := HB.out.cell 7
  have c8 : w0.cell? ⟨g, 8, none⟩ = some (.string (bs oo)) := HB.out.cell 8
  have c9 : w0.cell? ⟨g, 9, none⟩ = some (.int .i64 undo) := HB.out.cell 9
  go_upto_region 2 with (first | (go_at_call 19; refine (named_any _ _).mono ?_; rintro e w' ⟨⟨ch, nx, tb, rfl, hch, hnx, htb⟩, hw'⟩; obtain rfl := hw'.symm; have Hch := Lib.hid hch; have Hnx := Lib.hid hnx; have Htb := Lib.hid htb; clear hch hnx htb))
  go_cut [6] from 16 to 33 (fun v wx => CutB v (okHead RR) ∧ wx = w0)
  case first =>
    go_wp2
    all_goals
      go_meet
      refine ⟨?_, rfl⟩
      rw [HR.out]
      first
      | exact cut_false (by simp only [okHead]; omega)
      | exact cut_true (by simp only [okHead]; omega)
      | exact cut_dec (by simp only [okHead]; omega)
  case rest =>
    obtain ⟨⟨b2, rfl, hb2⟩, hwc⟩ := hcut
    obtain rfl := hwc.symm
    have Hb2 := Lib.hid hb2
    clear hb2
    go_upto_region 3 with fail
    go_cut [6] from 34 to 44 (fun v wx => CutB v (okHead RR ∧ okUndo RR) ∧ wx = w0)
    case first =>
      cases b2
      all_goals
        go_wp2
        all_goals
          go_meet
          refine ⟨?_, rfl⟩
          have Hb2 := Hb2.out
          unfold Says at Hb2
          rw [HR.out] at *
          simp only [okHead, okUndo, Bool.false_eq_true, false_iff, true_iff, iff_true, iff_false] at *
          first
          | exact cut_false (by omega)
          | exact cut_true (by omega)
          | exact cut_dec (by omega)
    case rest =>
    obtain ⟨⟨b3, rfl, hb3⟩, hwc⟩ := hcut
    obtain rfl := hwc.symm
    have Hb3 := Lib.hid hb3
    clear hb3 Hb2
    go_upto_if 45 with fail
    go_cut [6] from 46 to 74 (fun v wx => CutB v ((okHead RR ∧ okUndo RR) ∧ okOp RR) ∧ Below w0.heap.size w0 wx)
    case first =>
      cases b3
      · have Hn : ¬ ((okHead RR ∧ okUndo RR) ∧ okOp RR) := fun h => Hb3.out.not rfl h.1
        have HN := Lib.hid Hn
        clear Hn
        cases ch
        all_goals
          go_wp2
          go_meet
          exact ⟨cut_false HN.out, Below.refl _ _⟩
      · have Hy : okHead RR ∧ okUndo RR := Hb3.out.1 rfl
        have HY := Lib.hid Hy
        clear Hy
        cases ch
        · have Hc : ¬ isChange kind := Hch.out.not rfl
          have HC := Lib.hid Hc
          clear Hc
          have HK := Lib.hid (and_key HY.out (okOp_no (r := RR) (by rw [HR.out]; exact HC.out)))
          rw [HR.out] at HK
          obtain ⟨n1, e1, s1⟩ := names page 0
          obtain ⟨n2, e2, s2⟩ := names ok 0
          obtain ⟨n3, e3, s3⟩ := names oa 0
          obtain ⟨n4, e4, s4⟩ := names undo 0
          have S1 := Lib.hid s1; have S2 := Lib.hid s2; have S3 := Lib.hid s3; have S4 := Lib.hid s4
          clear s1 s2 s3 s4
          rcases os with _ | ⟨os0, os1⟩ <;> rcases oo with _ | ⟨oo0, oo1⟩
          all_goals
            go_wp2
            all_goals
              go_meet
              rw [HR.out, HK.out]
              clear HK HR HY HC HB HW HA Hch Hnx Htb Hb3 c0 c1 c3 c4 c5 c6 c7 c8 c9 e1 e2 e3 e4
              have T1 := S1.out; have T2 := S2.out; have T3 := S3.out; have T4 := S4.out
              subst T1 T2 T3 T4
              simp only [Bool.not_eq_false, decide_eq_true_eq, decide_eq_false_iff_not, List.length_nil, List.length_cons, and_true, true_and, and_false, false_and, Decidable.not_not, eq_self] at *
              first
              | exact ⟨cut_false (by omega), Below.refl _ _⟩
              | exact ⟨cut_true (by omega), Below.refl _ _⟩
              | exact ⟨cut_dec (by omega), Below.refl _ _⟩
        · have Hc : isChange kind := Hch.out.1 rfl
          have HC := Lib.hid Hc
          clear Hc
          have HK := Lib.hid (and_key HY.out (okOp_yes (r := RR) (by rw [HR.out]; exact HC.out)))
          rw [HR.out] at HK
          obtain ⟨n1, e1, s1⟩ := names page 0
          have S1 := Lib.hid s1
          have e2 : (page != 0) = !n1 := by rw [← e1]; rfl
          clear s1
          obtain ⟨n2, e3, s2⟩ := names (opE ok oa os oo) 0
          simp only [opE_zero] at s2
          have S2 := Lib.hid s2
          clear s2
          go_wp2_with (go_at_call 37; refine (pcheck_any _ _ _ _ _).mono ?_; rintro e w' ⟨rfl, hbp⟩)
          all_goals
            go_meet
            rw [HR.out, HK.out]
            clear HK HR HY HC HB HW HA Hch Hnx Htb Hb3 c0 c1 c3 c4 c5 c6 c7 c8 c9 e1 e2 e3
            have T1 := S1.out; have T2 := S2.out
            clear S1 S2
            subst T1 T2
            simp only [Bool.not_eq_false, decide_eq_true_eq, decide_eq_false_iff_not] at *
            first
            | exact ⟨cut_false (fun x => by simp_all), Below.refl _ _⟩
            | exact ⟨cut_dec (by simp_all), by assumption⟩
    case rest =>
    obtain ⟨⟨b4, rfl, hb4⟩, hw4⟩ := hcut
    have HB4 := Lib.hid (HB.out.below hw4 HB.out.lt)
    have HW4 := Lib.hid (HW.out.trans (hw4.mono (Nat.le_of_lt HB.out.lt)))
    have Hb4 := Lib.hid hb4
    clear hb4 Hb3 hw4 c0 c1 c3 c4 c5 c6 c7 c8 c9 HB HW
    have c0 : wc.cell? ⟨g, 0, none⟩ = some (.int .i64 kind) := HB4.out.cell 0
    have c3 : wc.cell? ⟨g, 3, none⟩ = some (.int .u64 next) := HB4.out.cell 3
    have c9 : wc.cell? ⟨g, 9, none⟩ = some (.int .i64 undo) := HB4.out.cell 9
    have c10 : wc.cell? ⟨g, 10, none⟩ = some (.int .i64 index) := HB4.out.cell 10
    have c11 : wc.cell? ⟨g, 11, none⟩ = some (.string (bs key)) := HB4.out.cell 11
    have c12 : wc.cell? ⟨g, 12, none⟩ = some (.int .u32 rpage) := HB4.out.cell 12
    have c13 : wc.cell? ⟨g, 13, none⟩ = some (.int .i64 rslot) := HB4.out.cell 13
    have c14 : wc.cell? ⟨g, 14, none⟩ = some (.bool live) := HB4.out.cell 14
    have c15 : wc.cell? ⟨g, 15, none⟩ = some (.slice A txs.length c) := HB4.out.cell 15
    have c16 : wc.cell? ⟨g, 16, none⟩ = some (.slice B dirty.length d) := HB4.out.cell 16
    obtain ⟨n5, e5, s5⟩ := names undo 2
    have S5 := Lib.hid s5
    clear s5
    go_upto_if 77 with fail
    go_cut [6] from 78 to 126 (fun v wx => CutB v (((okHead RR ∧ okUndo RR) ∧ okOp RR) ∧ okKey RR) ∧ wx = wc)
    case first =>
      cases b4
      · have Hn : ¬ (((okHead RR ∧ okUndo RR) ∧ okOp RR) ∧ okKey RR) := fun h => Hb4.out.not rfl h.1
        have HN := Lib.hid Hn
        clear Hn
        cases n5
        all_goals
          go_wp2
          go_meet
          exact ⟨cut_false HN.out, rfl⟩
      · have Hy : (okHead RR ∧ okUndo RR) ∧ okOp RR := Hb4.out.1 rfl
        have HY := Lib.hid Hy
        clear Hy
        cases n5
        · have Hc : ¬ undo = 2 := by have := S5.out; simpa using this
          have HC := Lib.hid Hc
          clear Hc
          have HK := Lib.hid (and_key HY.out (okKey_no (r := RR) (by rw [HR.out]; exact HC.out)))
          rw [HR.out] at HK
          obtain ⟨n1, e1, s1⟩ := names index 0
          obtain ⟨n2, e2, s2⟩ := names rpage 0
          obtain ⟨n3, e3, s3⟩ := names rslot 0
          have S1 := Lib.hid s1; have S2 := Lib.hid s2; have S3 := Lib.hid s3
          clear s1 s2 s3
          rcases key with _ | ⟨key0, key1⟩
          all_goals
            cases live
            all_goals
              go_wp2
              all_goals
                go_meet
                rw [HR.out, HK.out]
                clear HK HR HY HC HB4 HW4 HA Hch Hnx Htb Hb4 c0 c3 c9 c10 c11 c12 c13 c14 c15 c16 e1 e2 e3
                have T1 := S1.out; have T2 := S2.out; have T3 := S3.out
                clear S1 S2 S3
                subst T1 T2 T3
                simp only [Bool.not_eq_false, decide_eq_true_eq, decide_eq_false_iff_not, List.length_nil, List.length_cons, Bool.true_eq_false, and_true, true_and, and_false, false_and, Decidable.not_not, eq_self] at *
                first
                | exact cut_false (by omega)
                | exact cut_false (fun h => h)
                | exact cut_true (by omega)
                | exact cut_dec (by omega)
        · have Hc : undo = 2 := by have := S5.out; simpa using this
          have HC := Lib.hid Hc
          clear Hc
          have HK := Lib.hid (and_key HY.out (okKey_yes (r := RR) (by rw [HR.out]; exact HC.out)))
          rw [HR.out] at HK
          go_wp2
          all_goals
            go_meet
            rw [HR.out, HK.out]
            clear HK HR HY HC HB4 HW4 HA Hch Hnx Htb Hb4 c0 c3 c9 c10 c11 c12 c13 c14 c15 c16
            first
            | exact ⟨cut_false (by omega), rfl⟩
            | exact ⟨cut_true (by omega), rfl⟩
            | exact ⟨cut_dec (by omega), rfl⟩
    case rest =>
    obtain ⟨⟨b5, rfl, hb5⟩, hwc⟩ := hcut
    obtain rfl := hwc.symm
    have Hb5 := Lib.hid hb5
    clear hb5 Hb4 c10 c11 c12 c13 c14
    go_upto_region 10 with fail
    go_cut [6] from 127 to 145 (fun v wx => CutB v ((((okHead RR ∧ okUndo RR) ∧ okOp RR) ∧ okKey RR) ∧ okNext RR) ∧ wx = wc)
    case first =>
      cases b5
      · have Hn : ¬ ((((okHead RR ∧ okUndo RR) ∧ okOp RR) ∧ okKey RR) ∧ okNext RR) := fun h => Hb5.out.not rfl h.1
        have HN := Lib.hid Hn
        clear Hn
        go_wp2
        go_meet
        exact ⟨cut_false HN.out, rfl⟩
      · have Hy : ((okHead RR ∧ okUndo RR) ∧ okOp RR) ∧ okKey RR := Hb5.out.1 rfl
        have HY := Lib.hid Hy
        clear Hy
        have HK := Lib.hid (and_key HY.out (show okNext RR ↔ ((isNext kind ∨ next = 0) ∧ (kind = 1 ∨ undo = 0)) by rw [HR.out]; exact Iff.rfl))
        obtain ⟨n1, e1, s1⟩ := names next 0
        obtain ⟨n2, e2, s2⟩ := names kind 1
        obtain ⟨n3, e3, s3⟩ := names undo 0
        have S1 := Lib.hid s1; have S2 := Lib.hid s2; have S3 := Lib.hid s3
        clear s1 s2 s3
        cases nx
        all_goals
          go_wp2
          all_goals
            go_meet
            rw [HK.out]
            have hnx := Hnx.out
            unfold Says isNext at hnx
            unfold isNext
            clear HK HR HY HB4 HW4 HA Hch Hnx Htb Hb5 c0 c3 c9 c15 c16 e1 e2 e3 S5 e5
            have T1 := S1.out; have T2 := S2.out; have T3 := S3.out
            clear S1 S2 S3
            subst T1 T2 T3
            simp only [Bool.not_eq_false, decide_eq_true_eq, decide_eq_false_iff_not, Bool.true_eq_false, Bool.false_eq_true, false_iff, true_iff, and_true, true_and, and_false, false_and, Decidable.not_not, eq_self] at *
            first
            | exact cut_false (by omega)
            | exact cut_false (fun h => h)
            | exact cut_true (by omega)
            | exact cut_dec (by omega)
    case rest =>
    obtain ⟨⟨b6, rfl, hb6⟩, hwc⟩ := hcut
    obtain rfl := hwc.symm
    have Hb6 := Lib.hid hb6
    clear hb6 Hb5 c0 c3 c9
    go_upto_region 11 with fail
    go_cut [6] from 146 to 173 (fun v wx => CutB v (((((okHead RR ∧ okUndo RR) ∧ okOp RR) ∧ okKey RR) ∧ okNext RR) ∧ okLong RR) ∧ wx = wc)
    case first =>
      cases b6
      · have Hn : ¬ (((((okHead RR ∧ okUndo RR) ∧ okOp RR) ∧ okKey RR) ∧ okNext RR) ∧ okLong RR) := fun h => Hb6.out.not rfl h.1
        have HN := Lib.hid Hn
        clear Hn
        go_wp2
        go_meet
        exact ⟨cut_false HN.out, rfl⟩
      · have Hy : (((okHead RR ∧ okUndo RR) ∧ okOp RR) ∧ okKey RR) ∧ okNext RR := Hb6.out.1 rfl
        have HY := Lib.hid Hy
        clear Hy
        have HK := Lib.hid (and_key HY.out (show okLong RR ↔ ((kind = 8 ∨ txs.length = 0 ∧ dirty.length = 0) ∧ txs.length ≤ 64 ∧ dirty.length ≤ 256) by rw [HR.out]; exact Iff.rfl))
        obtain ⟨n1, e1, s1⟩ := namesN txs.length 0
        obtain ⟨n2, e2, s2⟩ := namesN dirty.length 0
        have S1 := Lib.hid s1; have S2 := Lib.hid s2
        clear s1 s2
        simp only [Int.natCast_zero, Int.ofNat_eq_natCast] at e1 e2
        cases tb
        all_goals
          go_wp2
          all_goals
            go_meet
            rw [HK.out]
            have hnx := Htb.out
            unfold Says at hnx
            clear HK HR HY HB4 HW4 HA Hch Hnx Htb Hb6 c15 c16 e1 e2 S5 e5
            have T1 := S1.out; have T2 := S2.out
            clear S1 S2
            subst T1 T2
            simp only [Bool.not_eq_false, decide_eq_true_eq, decide_eq_false_iff_not, Bool.true_eq_false, Bool.false_eq_true, false_iff, true_iff, and_true, true_and, and_false, false_and, Decidable.not_not, eq_self] at *
            first
            | exact cut_false (by omega)
            | exact cut_false (fun h => h)
            | exact cut_true (by omega)
            | exact cut_dec (by omega)
    case rest =>
    obtain ⟨⟨b7, rfl, hb7⟩, hwc⟩ := hcut
    obtain rfl := hwc.symm
    have Hb7 := Lib.hid hb7
    clear hb7 Hb6 c16
    generalize hPP : (((((okHead RR ∧ okUndo RR) ∧ okOp RR) ∧ okKey RR) ∧ okNext RR) ∧ okLong RR) = PP at *
    go_wp2_with fail
    go_loopw [6, 177] (fun v i wr => ∃ (k : Nat) (b : Bool), k ≤ txs.length ∧ i = .int .i64 k ∧ v = .bool b ∧ (b = true ↔ PP ∧ ∀ t ∈ txs.take k, okSt t) ∧ Below g w wr)
      (fun _ i _ => txs.length - (intOf i).toNat)
    case atStart => exact ⟨0, b7, Nat.zero_le _, rfl, rfl, ⟨fun h => ⟨Hb7.out.1 h, fun t ht => absurd ht (by simp)⟩, fun h => Hb7.out.2 h.1⟩, HW4.out⟩
    case round =>
      obtain ⟨k, b, hk, rfl, rfl, hs, hwr⟩ := hrel
      have HS := Lib.hid hs
      have HWr := Lib.hid hwr
      clear hs hwr c15
      by_cases hlt : k < txs.length
      · have i1 : (k : Int) < txs.length := by omega
        obtain ⟨ab, off, rfl, hab, hc⟩ := HA.out k hlt
        rw [HgE.out] at hab
        have y0 := (HWr.out.cell (p := ⟨ab, off + k * 4, none⟩) hab).trans (hc 0 _ rfl)
        have y1 := (HWr.out.cell (p := ⟨ab, off + k * 4 + 1, none⟩) hab).trans (hc 1 _ rfl)
        have y2 := (HWr.out.cell (p := ⟨ab, off + k * 4 + 2, none⟩) hab).trans (hc 2 _ rfl)
        have y3 := (HWr.out.cell (p := ⟨ab, off + k * 4 + 3, none⟩) hab).trans (hc 3 _ rfl)
        clear hc
        have hT := Lib.hid (show ∀ t, t ∈ txs.take (k + 1) ↔ (t ∈ txs.take k ∨ t = txs[k]) by
          intro t; rw [List.take_succ_eq_append_getElem hlt, List.mem_append, List.mem_singleton])
        generalize txs[k] = st at *
        obtain ⟨stx, sst, slast, snext⟩ := st
        simp only at y0 y1 y2 y3
        cases b
        all_goals
          go_wp2
          all_goals
            go_roundw
            case rel =>
              refine ⟨k + 1, _, by omega, by go_num, rfl, st_step HS.out hT.out ?_, HWr.out.alloc (by have := HWr.out.size; have := HgE.out; omega) _⟩
              unfold okSt
              simp only [Bool.false_eq_true, false_and, true_and, false_iff, iff_self, decide_eq_true_eq, eq_self]
              try omega
            case measure => simp [intOf]; omega
      · obtain rfl : k = txs.length := by omega
        have hS := HS.out
        rw [List.take_length, ← hPP] at hS
        have hfin : b = true ↔ recOk RR := by
          rw [hS, HR.out]
          exact Iff.rfl
        have HF := Lib.hid hfin
        clear hS hfin
        cases b
        · have HE := Lib.hid (recE_neg (r := RR) (fun h => nomatch (HF.out.2 h)))
          go_wp2
          go_ret
          exact ⟨ret_int HE.out.symm, by rw [HgE.out]; exact HWr.out⟩
        · have HE := Lib.hid (recE_pos (HF.out.1 rfl))
          go_wp2
          go_ret
          exact ⟨ret_int HE.out.symm, by rw [HgE.out]; exact HWr.out⟩
end Go.Proofs.Ytebickoieipjpaa
end
section
namespace Go.Proofs.Ytebickoieipjpaa
open Go.RowKit Go.Gi Go.GiRow
set_option maxRecDepth 20000
set_option linter.unusedSimpArgs false
set_option linter.unusedVariables false
theorem cellsR {w : World} {g T : Nat} {kind tx prev next page ok oa : Int} {os oo : List UInt8} {undo index : Int} {key : List UInt8} {rpage rslot : Int} {live : Bool} {VA VB : Value}
    (h : Blk w g T #[.int .i64 kind, .int .i64 tx, .int .u64 prev, .int .u64 next, .int .u32 page, .int .i64 ok, .int .i64 oa, .string (bs os), .string (bs oo), .int .i64 undo, .int .i64 index, .string (bs key), .int .u32 rpage, .int .i64 rslot, .bool live, VA, VB]) : w.cell? ⟨g, 0, none⟩ = some (.int .i64 kind) ∧ w.cell? ⟨g, 1, none⟩ = some (.int .i64 tx) ∧ w.cell? ⟨g, 2, none⟩ = some (.int .u64 prev) ∧ w.cell? ⟨g, 3, none⟩ = some (.int .u64 next) ∧ w.cell? ⟨g, 15, none⟩ = some VA ∧ w.cell? ⟨g, 16, none⟩ = some VB :=
  ⟨h.cell 0, h.cell 1, h.cell 2, h.cell 3, h.cell 15, h.cell 16⟩
set_option maxHeartbeats 16000000 in
theorem encode_ok (r : RecR) (A : Option Addr) (c : Nat) (B : Option Addr) (d : Nat) (w : World) (hA : RdRows StR.cells 4 w A r.txs) (hD : RdRows DiR.cells 2 w B r.dirty) (hw : RecW r) (hn : recOk r) :
    Calls Try.prog 7 #[r.val A c B d] w fun e w' => e = .returned (.tuple #[.string (bs (recB r)), .int .i64 0]) ∧ Below w.heap.size w w' := by
  obtain ⟨⟨⟨⟨⟨⟨h1, h2⟩, h3⟩, h4⟩, h5⟩, h6⟩, h7⟩ := id hn
  have g3 := h3
  have g4 := h4
  have hl : r.txs.length ≤ 64 := h6.2.1
  have hd : r.dirty.length ≤ 256 := h6.2.2
  have hc := fun (w' : World) (hb : Below w.heap.size w w') => rcheck_any r A c B d w' (fun k hk => by
    obtain ⟨b, off, e, h1, h2⟩ := hA k hk
    exact ⟨b, off, e, Nat.lt_of_lt_of_le h1 hb.size, fun j u hu => (hb.cell (p := ⟨b, off + k * 4 + j, none⟩) h1).trans (h2 j u hu)⟩) (by omega) (by omega)
  have HC := Lib.hid hc
  have HE := Lib.hid (recE_pos hn)
  have hpc := fun (hch : isChange r.kind) (w' : World) (g : Nat) (ro : Option Nat) (l : List UInt8) (hw' : Wr w' 94 5 w.heap.size g ro l) (hll : l.length ≤ 1000) => putChange_any hw' r A c B d hll hw.page hw.rpage
    (by have := ((okOp_yes hch).1 h3).2; unfold opOk at this; omega) (by have := ((okOp_yes hch).1 h3).2; unfold opOk at this; omega) (by have := ((okOp_yes hch).1 h3).2.1; omega) (by have := ((okOp_yes hch).1 h3).2.2.1; omega) h2
    (by by_cases hu : r.undo = 2
        · have := (okKey_yes hu).1 h4; omega
        · have := (okKey_no hu).1 h4; omega)
    (by by_cases hu : r.undo = 2
        · have := (okKey_yes hu).1 h4; omega
        · have := (okKey_no hu).1 h4; omega)
    (by by_cases hu : r.undo = 2
        · have := (okKey_yes hu).1 h4; omega
        · have := (okKey_no hu).1 h4; omega)
  have HPC := Lib.hid hpc
  have HSt := Lib.hid h7
  obtain ⟨w1, w2, w3, w4, w5, w6⟩ := hw
  obtain ⟨q1, q2, q3, q4⟩ := h1
  have HA := Lib.hid hA
  have HD := Lib.hid hD
  have HWs := Lib.hid w5
  have HWd := Lib.hid w6
  clear hc hpc hA hD hn h2 h3 h4 h5 h6 h7 w5 w6
  unfold recB
  obtain ⟨L1, hL1⟩ : ∃ L, L = headB r := ⟨_, rfl⟩
  obtain ⟨L2, hL2⟩ : ∃ L, L = chB r := ⟨_, rfl⟩
  obtain ⟨L3, hL3⟩ : ∃ L, L = tabB r := ⟨_, rfl⟩
  rw [← hL1, ← hL2, ← hL3]
  rw [← hL2] at HPC
  have HL1 := Lib.hid hL1
  have HL3 := Lib.hid hL3
  have hL1L : L1.length = 13 := by rw [hL1]; simp [headB, putL_length]
  have hL2L : L2.length ≤ 2000 := by
    by_cases hch : isChange r.kind
    · have := ((okOp_yes hch).1 g3).2
      unfold opOk at this
      have hkk : r.key.length ≤ 64 := by
        by_cases hu : r.undo = 2
        · have := (okKey_yes hu).1 g4; omega
        · have := (okKey_no hu).1 g4; omega
      rw [hL2]
      exact chB_len r (by omega) (by omega) hkk
    · have := ((okOp_no hch).1 g3)
      have hkk : r.key.length ≤ 64 := by
        by_cases hu : r.undo = 2
        · have := (okKey_yes hu).1 g4; omega
        · have := (okKey_no hu).1 g4; omega
      rw [hL2]
      exact chB_len r (by omega) (by omega) hkk
  clear hL1 hL2 hL3 g3 g4
  generalize hLL : L1 ++ (if isNext r.kind then putL 8 r.next.toNat else []) ++ (if isChange r.kind then L2 else []) ++ (if r.kind = 8 then L3 else []) = LL
  have HLL0 := Lib.hid hLL
  have HLL := Lib.hid (show L1.length = 13 ∧ L2.length ≤ 2000 from ⟨hL1L, hL2L⟩)
  clear hLL hL1L hL2L
  obtain ⟨kind, tx, prev, next, page, ok, oa, os, oo, undo, index, key, rpage, rslot, live, txs, dirty⟩ := r
  unfold headB at HL1
  unfold tabB at HL3
  unfold RecR.val RecR.cells at HC HPC ⊢
  simp only at HC HPC HE HA HD HSt HWs HWd HL1 HL3 HLL0 w1 w2 w3 w4 q1 q2 q3 q4 hl hd ⊢
  generalize hVA : Value.slice A txs.length c = VA at *
  generalize hVB : Value.slice B dirty.length d = VB at *
  have HVA := Lib.hid hVA
  have HVB := Lib.hid hVB
  clear hVA hVB
  go_enter Try.func7, Try.ntmps7
  go_upto_region 1 with fail
  have hB := Blk.new w 35 #[.int .i64 kind, .int .i64 tx, .int .u64 prev, .int .u64 next, .int .u32 page, .int .i64 ok, .int .i64 oa, .string (bs os), .string (bs oo), .int .i64 undo, .int .i64 index, .string (bs key), .int .u32 rpage, .int .i64 rslot, .bool live, VA, VB]
  have hW := balloc (Below.refl w.heap.size w) (.cells #[.int .i64 kind, .int .i64 tx, .int .u64 prev, .int .u64 next, .int .u32 page, .int .i64 ok, .int .i64 oa, .string (bs os), .string (bs oo), .int .i64 undo, .int .i64 index, .string (bs key), .int .u32 rpage, .int .i64 rslot, .bool live, VA, VB] 35)
  obtain ⟨c0, c1, c2, c3, c15, c16⟩ := cellsR hB
  have HB := Lib.hid hB
  have HK := Lib.hid hW
  clear hB hW
  generalize w.alloc (.cells #[.int .i64 kind, .int .i64 tx, .int .u64 prev, .int .u64 next, .int .u32 page, .int .i64 ok, .int .i64 oa, .string (bs os), .string (bs oo), .int .i64 undo, .int .i64 index, .string (bs key), .int .u32 rpage, .int .i64 rslot, .bool live, VA, VB] 35) = w0 at *
  go_upto_region 9 with (first | (refine wpList_load_row rfl 35 (.tmp 1) rfl w.heap.size rfl 35 #[.int .i64 kind, .int .i64 tx, .int .u64 prev, .int .u64 next, .int .u32 page, .int .i64 ok, .int .i64 oa, .string (bs os), .string (bs oo), .int .i64 undo, .int .i64 index, .string (bs key), .int .u32 rpage, .int .i64 rslot, .bool live, VA, VB] (0, 0) _ HB.out Try.underlying35 rfl (by kernel_rfl) ?_) | (go_at_call 16; refine (HC.out _ HK.out).mono ?_; rintro e w1 ⟨rfl, hb1⟩; clear c0 c1 c2 c3 c15 c16; obtain ⟨c0, c1, c2, c3, c15, c16⟩ := cellsR (HB.out.step hb1); have HB1 := Lib.hid (HB.out.step hb1); have HK1 := Lib.hid (bstep HK.out hb1); clear hb1 HB HK; have HB := HB1; have HK := HK1; clear HB1 HK1; rw [HE.out]) | (go_at_call 17; refine (newWriter_any _ w.heap.size HK.out.size).mono ?_; rintro e w1 ⟨g, rfl, h1, hg, hb1⟩; have HW := Lib.hid h1; clear c0 c1 c2 c3 c15 c16; obtain ⟨c0, c1, c2, c3, c15, c16⟩ := cellsR (HB.out.step hb1); have HB1 := Lib.hid (HB.out.step hb1); have HK1 := Lib.hid (bstep HK.out hb1); clear hb1 h1 hg HB HK; have HB := HB1; have HK := HK1; clear HB1 HK1) | (go_at_call 18; refine (wnumber_any HW.out _ _ (by omega) (by omega) (by have := HLL.out; first | (simp [clamp8, putL_length]; done) | (simp [clamp8, putL_length]; omega))).mono ?_; rintro e w1 ⟨rfl, r1, h1, k1⟩; clear c0 c1 c2 c3 c15 c16; obtain ⟨c0, c1, c2, c3, c15, c16⟩ := cellsR (WK.blk HW.out k1 HB.out (by decide) (by decide)); have HB1 := Lib.hid (WK.blk HW.out k1 HB.out (by decide) (by decide)); have HK1 := Lib.hid (k1.below HK.out HW.out.1 (fun j e => (HW.out.row j e).1)); have HW1 := Lib.hid h1; clear HW HB HK h1 k1; have HW := HW1; have HB := HB1; have HK := HK1; clear HW1 HB1 HK1) | (go_at_call 19; refine (named_any _ _).mono ?_; rintro e w' ⟨⟨ch, nx, tb, rfl, hch, hnx, htb⟩, hw'⟩; obtain rfl := hw'.symm; have Hch := Lib.hid hch; have Hnx := Lib.hid hnx; have Htb := Lib.hid htb; clear hch hnx htb))
  have hw1 := HW.out
  rw [List.nil_append, c8_1, c8_4, c8_8, ← HL1.out] at hw1
  have HW1 := Lib.hid hw1
  clear HW hw1
  have HW := HW1
  clear HW1
  go_upto_if 40 with fail
  go_cut [] from 41 to 44 (fun wx => ∃ rx, Wr wx 94 5 w.heap.size g rx (L1 ++ sel nx (putL 8 next.toNat)) ∧ Blk wx w.heap.size 35 #[.int .i64 kind, .int .i64 tx, .int .u64 prev, .int .u64 next, .int .u32 page, .int .i64 ok, .int .i64 oa, .string (bs os), .string (bs oo), .int .i64 undo, .int .i64 index, .string (bs key), .int .u32 rpage, .int .i64 rslot, .bool live, VA, VB] ∧ Below w.heap.size w wx)
  case first =>
    cases nx
    · go_wp2
      go_meet
      exact ⟨_, by rw [sel_false, List.append_nil]; exact HW.out, HB.out, HK.out⟩
    · go_wp2_with (first | (go_at_call 18; refine (wnumber_any HW.out _ _ (by omega) (by omega) (by have := HLL.out; first | (simp [clamp8, putL_length]; done) | (simp [clamp8, putL_length]; omega))).mono ?_; rintro e w1 ⟨rfl, r1, h1, k1⟩; clear c0 c1 c2 c3 c15 c16; obtain ⟨c0, c1, c2, c3, c15, c16⟩ := cellsR (WK.blk HW.out k1 HB.out (by decide) (by decide)); have HB1 := Lib.hid (WK.blk HW.out k1 HB.out (by decide) (by decide)); have HK1 := Lib.hid (k1.below HK.out HW.out.1 (fun j e => (HW.out.row j e).1)); have HW1 := Lib.hid h1; clear HW HB HK h1 k1; have HW := HW1; have HB := HB1; have HK := HK1; clear HW1 HB1 HK1))
      go_meet
      exact ⟨_, by rw [sel_true, ← c8_8]; exact HW.out, HB.out, HK.out⟩
  case rest =>
  obtain ⟨r2, hw2, hb2, hk2⟩ := hcut
  clear c0 c1 c2 c3 c15 c16
  obtain ⟨c0, c1, c2, c3, c15, c16⟩ := cellsR hb2
  clear HW HB HK
  have HW := Lib.hid hw2
  have HB := Lib.hid hb2
  have HK := Lib.hid hk2
  clear hw2 hb2 hk2
  go_upto_if 45 with fail
  go_cut [] from 46 to 48 (fun wx => ∃ rx, Wr wx 94 5 w.heap.size g rx (L1 ++ sel nx (putL 8 next.toNat) ++ sel ch L2) ∧ Blk wx w.heap.size 35 #[.int .i64 kind, .int .i64 tx, .int .u64 prev, .int .u64 next, .int .u32 page, .int .i64 ok, .int .i64 oa, .string (bs os), .string (bs oo), .int .i64 undo, .int .i64 index, .string (bs key), .int .u32 rpage, .int .i64 rslot, .bool live, VA, VB] ∧ Below w.heap.size w wx)
  case first =>
    cases ch
    · go_wp2
      go_meet
      exact ⟨_, by rw [sel_false, List.append_nil]; exact HW.out, HB.out, HK.out⟩
    · go_wp2_with (first | (refine wpList_load_row rfl 35 (.tmp 1) rfl w.heap.size rfl 35 #[.int .i64 kind, .int .i64 tx, .int .u64 prev, .int .u64 next, .int .u32 page, .int .i64 ok, .int .i64 oa, .string (bs os), .string (bs oo), .int .i64 undo, .int .i64 index, .string (bs key), .int .u32 rpage, .int .i64 rslot, .bool live, VA, VB] (0, 0) _ HB.out Try.underlying35 rfl (by kernel_rfl) ?_) | (go_at_call 20; refine (HPC.out (Hch.out.1 rfl) _ _ _ _ HW.out (by have h1 := HLL.out; have h2 := sel_len nx (putL 8 next.toNat); rw [putL_length] at h2; rw [List.length_append]; omega)).mono ?_; rintro e w1 ⟨rfl, r1, h1, k1⟩; clear c0 c1 c2 c3 c15 c16; obtain ⟨c0, c1, c2, c3, c15, c16⟩ := cellsR (WK.blk HW.out k1 HB.out (by decide) (by decide)); have HB1 := Lib.hid (WK.blk HW.out k1 HB.out (by decide) (by decide)); have HK1 := Lib.hid (k1.below HK.out HW.out.1 (fun j e => (HW.out.row j e).1)); have HW1 := Lib.hid h1; clear HW HB HK h1 k1; have HW := HW1; have HB := HB1; have HK := HK1; clear HW1 HB1 HK1))
      go_meet
      exact ⟨_, HW.out, HB.out, HK.out⟩
  case rest =>
  obtain ⟨r3, hw2, hb2, hk2⟩ := hcut
  clear c0 c1 c2 c3 c15 c16
  obtain ⟨c0, c1, c2, c3, c15, c16⟩ := cellsR hb2
  clear HW HB HK
  have HW := Lib.hid hw2
  have HB := Lib.hid hb2
  have HK := Lib.hid hk2
  clear hw2 hb2 hk2
  have hfin : L1 ++ sel nx (putL 8 next.toNat) ++ sel ch L2 ++ sel tb L3 = LL := by
    rw [sel_eq Hnx.out, sel_eq Hch.out, sel_eq Htb.out, HLL0.out]
  have HFin := Lib.hid hfin
  clear hfin HLL0
  have hlb : (L1 ++ sel nx (putL 8 next.toNat) ++ sel ch L2).length ≤ 2021 := by
    have h1 := HLL.out; have h2 := sel_len nx (putL 8 next.toNat); have h3 := sel_len ch L2
    rw [putL_length] at h2
    simp only [List.length_append]; omega
  generalize L1 ++ sel nx (putL 8 next.toNat) ++ sel ch L2 = L4 at *
  cases tb
  · have e : L4 = LL := by rw [← HFin.out, sel_false, List.append_nil]
    have HE4 := Lib.hid e
    clear e
    go_wp2_with (first | (go_at_call 21; refine (wall_any HW.out).mono ?_; rintro e w1 ⟨rfl, rfl⟩))
    go_returns
    rw [HE4.out]
    exact ⟨rfl, HK.out⟩
  · have eA := HVA.out
    have eB := HVB.out
    subst eA eB
    have hLfin : L4 ++ putL 2 txs.length ++ stsB txs ++ putL 2 dirty.length ++ disB dirty = LL := by
      rw [← HFin.out, sel_true, HL3.out]; simp only [List.append_assoc]
    have HLfin := Lib.hid hLfin
    clear hLfin HFin HL3
    go_wp2_with (first | (go_at_call 18; refine (wnumber_any HW.out _ _ (by omega) (by omega) (by have := HLL.out; first | (simp [clamp8, putL_length]; done) | (simp [clamp8, putL_length]; omega))).mono ?_; rintro e w1 ⟨rfl, r1, h1, k1⟩; clear c0 c1 c2 c3 c15 c16; obtain ⟨c0, c1, c2, c3, c15, c16⟩ := cellsR (WK.blk HW.out k1 HB.out (by decide) (by decide)); have HB1 := Lib.hid (WK.blk HW.out k1 HB.out (by decide) (by decide)); have HK1 := Lib.hid (k1.below HK.out HW.out.1 (fun j e => (HW.out.row j e).1)); have HW1 := Lib.hid h1; clear HW HB HK h1 k1; have HW := HW1; have HB := HB1; have HK := HK1; clear HW1 HB1 HK1))
    have hw1 := HW.out
    rw [c8_2, Int.toNat_natCast] at hw1
    have HW1 := Lib.hid hw1
    clear HW hw1
    have HW := HW1
    clear HW1
    go_loopw [59] (fun i wr => ∃ (k : Nat) (rx : Option Nat), k ≤ txs.length ∧ i = .int .i64 k ∧ Wr wr 94 5 w.heap.size g rx (L4 ++ putL 2 txs.length ++ stsB (txs.take k)) ∧ Blk wr w.heap.size 35 #[.int .i64 kind, .int .i64 tx, .int .u64 prev, .int .u64 next, .int .u32 page, .int .i64 ok, .int .i64 oa, .string (bs os), .string (bs oo), .int .i64 undo, .int .i64 index, .string (bs key), .int .u32 rpage, .int .i64 rslot, .bool live, (.slice A txs.length c), (.slice B dirty.length d)] ∧ Below w.heap.size w wr)
      (fun i _ => txs.length - (intOf i).toNat)
    case atStart => exact ⟨0, r1, Nat.zero_le _, rfl, by simpa [stsB] using HW.out, HB.out, HK.out⟩
    case round =>
      obtain ⟨k, rx, hk, rfl, hwr, hbr, hkr⟩ := hrel
      clear c0 c1 c2 c3 c15 c16 HW HB HK
      have HW := Lib.hid hwr
      have HB := Lib.hid hbr
      have HK := Lib.hid hkr
      clear hwr hbr hkr
      by_cases hlt : k < txs.length
      · have i1 : (k : Int) < txs.length := by omega
        obtain ⟨ab, off, rfl, hab, hc⟩ := HA.out k hlt
        have y0 := (HK.out.cell (p := ⟨ab, off + k * 4, none⟩) hab).trans (hc 0 _ rfl)
        have y1 := (HK.out.cell (p := ⟨ab, off + k * 4 + 1, none⟩) hab).trans (hc 1 _ rfl)
        have y2 := (HK.out.cell (p := ⟨ab, off + k * 4 + 2, none⟩) hab).trans (hc 2 _ rfl)
        have y3 := (HK.out.cell (p := ⟨ab, off + k * 4 + 3, none⟩) hab).trans (hc 3 _ rfl)
        clear hc
        have hT := Lib.hid (stsB_take txs k hlt)
        have hlk : (stsB (txs.take k)).length ≤ 1344 := by rw [stsB_len, List.length_take]; omega
        obtain ⟨p1, p2, p3, p4⟩ := HSt.out _ (List.getElem_mem hlt)
        obtain ⟨⟨p5, p6⟩, p7, p8⟩ := HWs.out _ (List.getElem_mem hlt)
        generalize stsB (txs.take k) = tl at *
        generalize txs[k] = st at *
        obtain ⟨stx, sst, slast, snext⟩ := st
        simp only at y0 y1 y2 y3 p1 p2 p3 p4 p5 p6 p7 p8
        go_upto_region 18 with fail
        have hT1 := Blk.new wr 70 #[.int .i64 stx, .int .i64 sst, .int .u64 slast, .int .u64 snext]
        have hW1 := HW.out.alloc (.cells #[.int .i64 stx, .int .i64 sst, .int .u64 slast, .int .u64 snext] 70)
        have hB1 := HB.out.alloc (.cells #[.int .i64 stx, .int .i64 sst, .int .u64 slast, .int .u64 snext] 70)
        have hK1 := balloc HK.out (.cells #[.int .i64 stx, .int .i64 sst, .int .u64 slast, .int .u64 snext] 70)
        clear y0 y1 y2 y3 HW HB HK
        generalize wr.alloc (.cells #[.int .i64 stx, .int .i64 sst, .int .u64 slast, .int .u64 snext] 70) = w5 at *
        generalize wr.heap.size = b5 at *
        have d0 : w5.cell? ⟨b5, 0, none⟩ = some (.int .i64 stx) := hT1.cell 0
        have d1 : w5.cell? ⟨b5, 1, none⟩ = some (.int .i64 sst) := hT1.cell 1
        have d2 : w5.cell? ⟨b5, 2, none⟩ = some (.int .u64 slast) := hT1.cell 2
        have d3 : w5.cell? ⟨b5, 3, none⟩ = some (.int .u64 snext) := hT1.cell 3
        have HW := Lib.hid hW1
        have HB := Lib.hid hB1
        have HK := Lib.hid hK1
        have HT := Lib.hid hT1
        clear hT1 hW1 hB1 hK1
        go_wp2_with (go_at_call 18; refine (wnumber_any HW.out _ _ (by omega) (by omega) (by simp [clamp8, putL_length]; omega)).mono ?_; rintro e w1 ⟨rfl, r1, h1, k1⟩; have HB1 := Lib.hid (WK.blk HW.out k1 HB.out (by decide) (by decide)); have HT1 := Lib.hid (WK.blk HW.out k1 HT.out (by decide) (by decide)); have HK1 := Lib.hid (k1.below HK.out HW.out.1 (fun j e => (HW.out.row j e).1)); have HW1 := Lib.hid h1; clear HW HB HK HT h1 k1 d0 d1 d2 d3; have HW := HW1; have HB := HB1; have HK := HK1; have HT := HT1; clear HW1 HB1 HK1 HT1; have d0 : w1.cell? ⟨b5, 0, none⟩ = some (.int .i64 stx) := HT.out.cell 0; have d1 : w1.cell? ⟨b5, 1, none⟩ = some (.int .i64 sst) := HT.out.cell 1; have d2 : w1.cell? ⟨b5, 2, none⟩ = some (.int .u64 slast) := HT.out.cell 2; have d3 : w1.cell? ⟨b5, 3, none⟩ = some (.int .u64 snext) := HT.out.cell 3)
        go_roundw
        case rel =>
          refine ⟨k + 1, r1, by omega, by go_num, ?_, HB.out, HK.out⟩
          have := HW.out
          rw [hT.out]
          simp only [stB, c8_1, c8_4, c8_8, List.append_assoc] at this ⊢
          exact this
        case measure => simp [intOf]; omega
      · obtain rfl : k = txs.length := by omega
        rw [List.take_length] at HW
        obtain ⟨c0, c1, c2, c3, c15, c16⟩ := cellsR HB.out
        have hls : (stsB txs).length ≤ 1344 := by rw [stsB_len]; omega
        generalize stsB txs = tl at *
        go_wp2_with (first | (go_at_call 18; refine (wnumber_any HW.out _ _ (by omega) (by omega) (by have := HLL.out; first | (simp [clamp8, putL_length]; done) | (simp [clamp8, putL_length]; omega))).mono ?_; rintro e w1 ⟨rfl, r1, h1, k1⟩; clear c0 c1 c2 c3 c15 c16; obtain ⟨c0, c1, c2, c3, c15, c16⟩ := cellsR (WK.blk HW.out k1 HB.out (by decide) (by decide)); have HB1 := Lib.hid (WK.blk HW.out k1 HB.out (by decide) (by decide)); have HK1 := Lib.hid (k1.below HK.out HW.out.1 (fun j e => (HW.out.row j e).1)); have HW1 := Lib.hid h1; clear HW HB HK h1 k1; have HW := HW1; have HB := HB1; have HK := HK1; clear HW1 HB1 HK1))
        have hw1 := HW.out
        rw [c8_2, Int.toNat_natCast] at hw1
        have HW1 := Lib.hid hw1
        clear HW hw1
        have HW := HW1
        clear HW1
        go_loopw [91] (fun i wr => ∃ (k : Nat) (rx : Option Nat), k ≤ dirty.length ∧ i = .int .i64 k ∧ Wr wr 94 5 w.heap.size g rx (L4 ++ putL 2 txs.length ++ tl ++ putL 2 dirty.length ++ disB (dirty.take k)) ∧ Below w.heap.size w wr)
          (fun i _ => dirty.length - (intOf i).toNat)
        case atStart => exact ⟨0, r1, Nat.zero_le _, rfl, by simpa [disB] using HW.out, HK.out⟩
        case round =>
          obtain ⟨k, rx, hk, rfl, hwr, hkr⟩ := hrel
          clear c0 c1 c2 c3 c15 c16 HW HB HK
          have HW := Lib.hid hwr
          have HK := Lib.hid hkr
          clear hwr hkr
          by_cases hlt : k < dirty.length
          · have i1 : (k : Int) < dirty.length := by omega
            obtain ⟨ab, off, rfl, hab, hc⟩ := HD.out k hlt
            have y0 := (HK.out.cell (p := ⟨ab, off + k * 2, none⟩) hab).trans (hc 0 _ rfl)
            have y1 := (HK.out.cell (p := ⟨ab, off + k * 2 + 1, none⟩) hab).trans (hc 1 _ rfl)
            clear hc
            have hT := Lib.hid (disB_take dirty k hlt)
            have hlk : (disB (dirty.take k)).length ≤ 3072 := by rw [disB_len, List.length_take]; omega
            obtain ⟨⟨p5, p6⟩, p7, p8⟩ := HWd.out _ (List.getElem_mem hlt)
            generalize disB (dirty.take k) = dl at *
            generalize dirty[k] = st at *
            obtain ⟨dpage, dlsn⟩ := st
            simp only at y0 y1 p5 p6 p7 p8
            go_upto_region 27 with fail
            have hT1 := Blk.new wr 72 #[.int .u32 dpage, .int .u64 dlsn]
            have hW1 := HW.out.alloc (.cells #[.int .u32 dpage, .int .u64 dlsn] 72)
            have hK1 := balloc HK.out (.cells #[.int .u32 dpage, .int .u64 dlsn] 72)
            clear y0 y1 HW HK
            generalize wr.alloc (.cells #[.int .u32 dpage, .int .u64 dlsn] 72) = w5 at *
            generalize wr.heap.size = b5 at *
            have d0 : w5.cell? ⟨b5, 0, none⟩ = some (.int .u32 dpage) := hT1.cell 0
            have d1 : w5.cell? ⟨b5, 1, none⟩ = some (.int .u64 dlsn) := hT1.cell 1
            have HW := Lib.hid hW1
            have HK := Lib.hid hK1
            have HT := Lib.hid hT1
            clear hT1 hW1 hK1
            go_wp2_with (go_at_call 18; refine (wnumber_any HW.out _ _ (by omega) (by omega) (by simp [clamp8, putL_length]; omega)).mono ?_; rintro e w1 ⟨rfl, r1, h1, k1⟩; have HT1 := Lib.hid (WK.blk HW.out k1 HT.out (by decide) (by decide)); have HK1 := Lib.hid (k1.below HK.out HW.out.1 (fun j e => (HW.out.row j e).1)); have HW1 := Lib.hid h1; clear HW HK HT h1 k1 d0 d1; have HW := HW1; have HK := HK1; have HT := HT1; clear HW1 HK1 HT1; have d0 : w1.cell? ⟨b5, 0, none⟩ = some (.int .u32 dpage) := HT.out.cell 0; have d1 : w1.cell? ⟨b5, 1, none⟩ = some (.int .u64 dlsn) := HT.out.cell 1)
            go_roundw
            case rel =>
              refine ⟨k + 1, r1, by omega, by go_num, ?_, HK.out⟩
              have := HW.out
              rw [hT.out]
              simp only [diB, c8_1, c8_4, c8_8, List.append_assoc] at this ⊢
              exact this
            case measure => simp [intOf]; omega
          · obtain rfl : k = dirty.length := by omega
            rw [List.take_length, HLfin.out] at HW
            go_wp2_with (first | (go_at_call 21; refine (wall_any HW.out).mono ?_; rintro e w1 ⟨rfl, rfl⟩))
            go_returns
            exact ⟨rfl, HK.out⟩
end Go.Proofs.Ytebickoieipjpaa
end
section
namespace Go.Proofs.Ytebickoieipjpaa
open Go.RowKit Go.Gi Go.GiRow
set_option maxRecDepth 20000
set_option linter.unusedSimpArgs false
set_option linter.unusedVariables false
theorem rdNext_yes {L : List UInt8} {k : Int} {a : Nat} {e : Int} {q : Nat × Nat × Int} (h : rdNext L k a e = q) (hk : isNext k) : rNum L a e 8 = q := by unfold rdNext at h; rwa [if_pos hk] at h
theorem rdNext_no {L : List UInt8} {k : Int} {a : Nat} {e : Int} {v a' : Nat} {e' : Int} (h : rdNext L k a e = (v, a', e')) (hk : ¬ isNext k) : v = 0 ∧ a' = a ∧ e' = e := by
  unfold rdNext at h; rw [if_neg hk] at h; injection h with h1 h2; injection h2 with h2 h3; exact ⟨h1.symm, h2.symm, h3.symm⟩
theorem rdChIf_yes {L : List UInt8} {k : Int} {a : Nat} {e : Int} {q : ChR × Nat × Int} (h : rdChIf L k a e = q) (hk : isChange k) : rdCh L a e = q := by unfold rdChIf at h; rwa [if_pos hk] at h
theorem rdChIf_no {L : List UInt8} {k : Int} {a : Nat} {e : Int} {v : ChR} {a' : Nat} {e' : Int} (h : rdChIf L k a e = (v, a', e')) (hk : ¬ isChange k) : v = zCh ∧ a' = a ∧ e' = e := by
  unfold rdChIf at h; rw [if_neg hk] at h; injection h with h1 h2; injection h2 with h2 h3; exact ⟨h1.symm, h2.symm, h3.symm⟩
theorem rdTabIf_yes {L : List UInt8} {k : Int} {a : Nat} {e : Int} {q : TabR × Nat × Int} (h : rdTabIf L k a e = q) (hk : k = 8) : rdTab L a e = q := by unfold rdTabIf at h; rwa [if_pos hk] at h
theorem rdTabIf_no {L : List UInt8} {k : Int} {a : Nat} {e : Int} {v : TabR} {a' : Nat} {e' : Int} (h : rdTabIf L k a e = (v, a', e')) (hk : ¬ k = 8) : v = ⟨[], []⟩ ∧ a' = a ∧ e' = e := by
  unfold rdTabIf at h; rw [if_neg hk] at h; injection h with h1 h2; injection h2 with h2 h3; exact ⟨h1.symm, h2.symm, h3.symm⟩
theorem infoTS : (Try.prog.info? 70).map (fun i => (i.zero, i.size, i.bytes)) = some (some (.agg #[.int .i64 0, .int .i64 0, .int .u64 0, .int .u64 0]), 4, 32) := by kernel_rfl
theorem infoTD : (Try.prog.info? 72).map (fun i => (i.zero, i.size, i.bytes)) = some (some (.agg #[.int .u32 0, .int .u64 0]), 2, 16) := by kernel_rfl
theorem own_rd {α : Type} {enc : α → List Value} {size : Nat} {w : World} {base TE c : Nat} {A : Option Addr} {l : List α} (henc : ∀ a, (enc a).length = size) (ho : w.ownsRow base TE size (.slice A l.length c) l.length (l.map enc).flatten) : RdRows enc size w A l := by
  obtain ⟨A', c', e, h⟩ := own_rows henc ho
  injection e with e1 e2 e3
  subst e1
  exact fun k hk => by
    obtain ⟨b, off, h1, h2, h3, h4⟩ := h k hk
    exact ⟨b, off, h1, h3, h4⟩
theorem end_st {g : Nat} {L : List UInt8} {a : Nat} {e : Int} {w : World} (h : RS w 99 g L a e) :
    Calls Try.prog 26 #[.pointer (some ⟨g, 0, none⟩)] w fun e' w' => e' = .returned (.int .i64 (rEnd L a e)) ∧ w.grownBy w' (some g) := by
  have := rend_any h.rd h.long (by rw [bs_size]; exact h.at_)
  rw [toList_bs] at this
  exact this.mono fun _ _ ⟨x, y, z⟩ => ⟨x, z⟩
set_option maxHeartbeats 16000000 in
theorem decode_any (L : List UInt8) (w : World) (hL : L.length ≤ 9223372036854775807) :
    Calls Try.prog 9 #[.string (bs L)] w fun e' w' =>
      ((decOk L → ∃ A c B d, e' = .returned (.tuple #[(rdRec L).1.val A c B d, .int .i64 0]) ∧ RdRows StR.cells 4 w' A (rdRec L).1.txs ∧ RdRows DiR.cells 2 w' B (rdRec L).1.dirty)
        ∧ (¬ decOk L → e' = .returned (.tuple #[.agg #[.int .i64 0, .int .i64 0, .int .u64 0, .int .u64 0, .int .u32 0, .int .i64 0, .int .i64 0, .string (bs []), .string (bs []), .int .i64 0, .int .i64 0, .string (bs []), .int .u32 0, .int .i64 0, .bool false, .slice none 0 0, .slice none 0 0], .int .i64 40]))) ∧ Below w.heap.size w w' := by
  have hlong : (bs L).size ≤ maxLen := by rw [bs_size]; unfold maxLen; omega
  obtain ⟨v1, a1, e1, h1⟩ : ∃ v a' e', rNum L 0 0 1 = (v, a', e') := ⟨_, _, _, rfl⟩
  obtain ⟨v2, a2, e2, h2⟩ : ∃ v a' e', rNum L a1 e1 4 = (v, a', e') := ⟨_, _, _, rfl⟩
  obtain ⟨v3, a3, e3, h3⟩ : ∃ v a' e', rNum L a2 e2 8 = (v, a', e') := ⟨_, _, _, rfl⟩
  obtain ⟨v4, a4, e4, h4⟩ : ∃ v a' e', rdNext L v1 a3 e3 = (v, a', e') := ⟨_, _, _, rfl⟩
  obtain ⟨c5, a5, e5, h5⟩ : ∃ v a' e', rdChIf L v1 a4 e4 = (v, a', e') := ⟨_, _, _, rfl⟩
  obtain ⟨t6, a6, e6, h6⟩ : ∃ v a' e', rdTabIf L v1 a5 e5 = (v, a', e') := ⟨_, _, _, rfl⟩
  have hrec : rdRec L = (mkRec v1 v2 v3 v4 c5 t6, a6, e6) := by simp only [rdRec, h1, h2, h3, h4, h5, h6]
  have hb1 : v1 < 256 := by have := rNum_lt L 0 0 1; rw [show ((1 : Nat) : Int) = (1 : Int) from rfl, h1] at this; simpa using this
  have hb2 : v2 < 4294967296 := by have := rNum_lt L a1 e1 4; rw [show ((4 : Nat) : Int) = (4 : Int) from rfl, h2] at this; simpa using this
  have hb3 : v3 < 18446744073709551616 := by have := rNum_lt L a2 e2 8; rw [show ((8 : Nat) : Int) = (8 : Int) from rfl, h3] at this; simpa using this
  unfold decOk
  rw [hrec]
  simp only
  obtain ⟨RR, hRR⟩ : ∃ RR, RR = mkRec v1 v2 v3 v4 c5 t6 := ⟨_, rfl⟩
  rw [← hRR]
  obtain ⟨E, hE⟩ : ∃ E, rEnd L a6 e6 = E := ⟨_, rfl⟩
  rw [hE]
  generalize hPOST : (fun (e' : Ending) (w' : World) => ((E = 0 ∧ recOk RR → ∃ A c B d, e' = Ending.returned (.tuple #[RR.val A c B d, .int .i64 0]) ∧ RdRows StR.cells 4 w' A RR.txs ∧ RdRows DiR.cells 2 w' B RR.dirty) ∧ (¬ (E = 0 ∧ recOk RR) → e' = Ending.returned (.tuple #[.agg #[.int .i64 0, .int .i64 0, .int .u64 0, .int .u64 0, .int .u32 0, .int .i64 0, .int .i64 0, .string (bs []), .string (bs []), .int .i64 0, .int .i64 0, .string (bs []), .int .u32 0, .int .i64 0, .bool false, .slice none 0 0, .slice none 0 0], .int .i64 40]))) ∧ Below w.heap.size w w') = POST
  have HPOST := Lib.hid hPOST
  have H1 := Lib.hid h1
  have H2 := Lib.hid h2
  have H3 := Lib.hid h3
  have H4 := Lib.hid h4
  have H5 := Lib.hid h5
  have H6 := Lib.hid h6
  have HE := Lib.hid hE
  have HRR := Lib.hid hRR
  have Hlong := Lib.hid hlong
  clear h1 h2 h3 h4 h5 h6 hrec hRR hE hlong hL hPOST
  go_enter Try.func9, Try.ntmps9
  go_upto_region 1 with fail
  have hZ : Blk (w.alloc (.cells #[.int .i64 0, .int .i64 0, .int .u64 0, .int .u64 0, .int .u32 0, .int .i64 0, .int .i64 0, .string ⟨#[]⟩, .string ⟨#[]⟩, .int .i64 0, .int .i64 0, .string ⟨#[]⟩, .int .u32 0, .int .i64 0, .bool false, .slice none 0 0, .slice none 0 0] 35)) w.heap.size 35 #[.int .i64 0, .int .i64 0, .int .u64 0, .int .u64 0, .int .u32 0, .int .i64 0, .int .i64 0, .string (bs []), .string (bs []), .int .i64 0, .int .i64 0, .string (bs []), .int .u32 0, .int .i64 0, .bool false, .slice none 0 0, .slice none 0 0] := Blk.new w 35 #[.int .i64 0, .int .i64 0, .int .u64 0, .int .u64 0, .int .u32 0, .int .i64 0, .int .i64 0, .string ⟨#[]⟩, .string ⟨#[]⟩, .int .i64 0, .int .i64 0, .string ⟨#[]⟩, .int .u32 0, .int .i64 0, .bool false, .slice none 0 0, .slice none 0 0]
  have hK := balloc (Below.refl w.heap.size w) (.cells #[.int .i64 0, .int .i64 0, .int .u64 0, .int .u64 0, .int .u32 0, .int .i64 0, .int .i64 0, .string ⟨#[]⟩, .string ⟨#[]⟩, .int .i64 0, .int .i64 0, .string ⟨#[]⟩, .int .u32 0, .int .i64 0, .bool false, .slice none 0 0, .slice none 0 0] 35)
  have hsz : (w.alloc (.cells #[.int .i64 0, .int .i64 0, .int .u64 0, .int .u64 0, .int .u32 0, .int .i64 0, .int .i64 0, .string ⟨#[]⟩, .string ⟨#[]⟩, .int .i64 0, .int .i64 0, .string ⟨#[]⟩, .int .u32 0, .int .i64 0, .bool false, .slice none 0 0, .slice none 0 0] 35)).heap.size = w.heap.size + 1 := by simp
  generalize w.alloc (.cells #[.int .i64 0, .int .i64 0, .int .u64 0, .int .u64 0, .int .u32 0, .int .i64 0, .int .i64 0, .string ⟨#[]⟩, .string ⟨#[]⟩, .int .i64 0, .int .i64 0, .string ⟨#[]⟩, .int .u32 0, .int .i64 0, .bool false, .slice none 0 0, .slice none 0 0] 35) = w0 at *
  have HK0 := Lib.hid hK
  have HZ := Lib.hid hZ
  have Hsz := Lib.hid hsz
  clear hK hZ hsz
  generalize hrb : w.heap.size = rb at *
  have Hrb := Lib.hid hrb
  clear hrb
  go_upto_region 2 with (go_at_call 22; refine (newReader_any _ _).mono ?_; rintro e' W1 ⟨g, rfl, hr1, hg, hb1⟩; have HR := Lib.hid (show RS W1 99 g L 0 0 from ⟨hr1, Nat.zero_le _, Hlong.out⟩); have Hbg := Lib.hid (show rb + 1 ≤ g by rw [hg, Hsz.out]; exact Nat.le_refl _); have HZ1 := Lib.hid (HZ.out.step hb1); have HB0 := Lib.hid (HK0.out.trans (hb1.mono (by rw [Hsz.out]; omega))); clear hr1 hg hb1 HK0 HZ; have HZ := HZ1; clear HZ1)
  have HgZ := Lib.hid (show rb ≠ g by have := Hbg.out; omega)
  have HK := Lib.hid (show Below (rb + 1) W1 W1 from ⟨rfl, rfl, rfl, Nat.le_refl _, fun _ _ => rfl⟩)
  have HL1 := Lib.hid (show rb + 1 ≤ W1.heap.size from Nat.le_trans Hbg.out (Nat.le_of_lt HR.out.rd.lt))
  go_cut [5] from 13 to 21 (fun s5 wx => ∃ b, s5 = .pointer (some ⟨b, 0, none⟩) ∧ RS wx 99 g L a3 e3 ∧ Blk wx b 35 #[.int .i64 v1, .int .i64 v2, .int .u64 v3, .int .u64 0, .int .u32 0, .int .i64 0, .int .i64 0, .string (bs []), .string (bs []), .int .i64 0, .int .i64 0, .string (bs []), .int .u32 0, .int .i64 0, .bool false, .slice none 0 0, .slice none 0 0] ∧ Below (rb + 1) W1 wx ∧ rb + 1 ≤ b ∧ b ≠ g)
  case first =>
    go_wp2_with (first | (go_at_call 23; refine (num_st HR.out _ _ _ _ (by first | exact H1.out | exact H2.out | exact H3.out)).mono ?_; rintro e2 w1 ⟨rfl, hr1, hg1⟩; have HK1 := Lib.hid (bgrownB HK.out hg1 HL1.out Hbg.out); have HR1 := Lib.hid hr1; clear HR HK hr1 hg1; have HR := HR1; have HK := HK1; clear HR1 HK1) | (refine wpList_store_row rfl 35 (.tmp 5) (.tmp 21) rfl _ _ rfl rfl 35 _ (Blk.new _ _ _) rfl (by kernel_rfl) (by decide) ?_))
    go_meet
    exact ⟨_, rfl, HR.out.step (balloc (Below.refl _ _) _), Blk.new _ _ _, HK.out.alloc (Nat.le_trans HL1.out HK.out.size) _, Nat.le_trans HL1.out HK.out.size, Nat.ne_of_gt HR.out.rd.lt⟩
  case rest =>
  obtain ⟨b, rfl, hr2, hb2, hk2, hbb, hne⟩ := hcut
  clear HR HK
  have HR := Lib.hid hr2
  have HB := Lib.hid hb2
  have HK := Lib.hid hk2
  have Hbb := Lib.hid hbb
  have Hne := Lib.hid hne
  have c0 : wc.cell? ⟨b, 0, none⟩ = some (.int .i64 v1) := hb2.cell 0
  have f3 := hb2.frozen 3
  have c3 : wc.cell? ⟨b, 3, none⟩ = some (.int .u64 0) := hb2.cell 3
  clear hr2 hb2 hk2 hbb hne
  go_upto_if 29 with (go_at_call 19; refine (named_any _ _).mono ?_; rintro e' w' ⟨⟨ch, nx, tb, rfl, hch, hnx, htb⟩, hw'⟩; obtain rfl := hw'.symm; have Hch := Lib.hid hch; have Hnx := Lib.hid hnx; have Htb := Lib.hid htb; clear hch hnx htb)
  go_cut [] from 30 to 32 (fun wx => RS wx 99 g L a4 e4 ∧ Blk wx b 35 #[.int .i64 v1, .int .i64 v2, .int .u64 v3, .int .u64 v4, .int .u32 0, .int .i64 0, .int .i64 0, .string (bs []), .string (bs []), .int .i64 0, .int .i64 0, .string (bs []), .int .u32 0, .int .i64 0, .bool false, .slice none 0 0, .slice none 0 0] ∧ Below (rb + 1) W1 wx)
  case first =>
    cases nx
    · obtain ⟨z1, z2, z3⟩ := rdNext_no H4.out (Hnx.out.not rfl)
      subst z1 z2 z3
      go_wp2
      go_meet
      exact ⟨HR.out, HB.out, HK.out⟩
    · have H4' := Lib.hid (rdNext_yes H4.out (Hnx.out.1 rfl))
      go_wp2_with (first | (go_at_call 23; refine (num_st HR.out _ _ _ _ H4'.out).mono ?_; rintro e2 w1 ⟨rfl, hr1, hg1⟩; have HK1 := Lib.hid (bgrownB HK.out hg1 HL1.out Hbg.out); have HB1 := Lib.hid (HB.out.grown hg1 (by simp [Hne.out])); have HR1 := Lib.hid hr1; clear HR HK HB hr1 hg1 c0 f3 c3; have HR := HR1; have HK := HK1; have HB := HB1; clear HR1 HK1 HB1; have f3 := HB.out.frozen 3; have c3 : w1.cell? ⟨b, 3, none⟩ = some (.int .u64 0) := HB.out.cell 3))
      go_meet
      exact ⟨RS.far HR.out Hne.out, HB.out.set_ 3 (.int .u64 v4), bsetB HK.out Hbb.out _⟩
  case rest =>
  obtain ⟨hr2, hb2, hk2⟩ := hcut
  clear HR HK HB c0 f3 c3
  have HR := Lib.hid hr2
  have HB := Lib.hid hb2
  have HK := Lib.hid hk2
  clear hr2 hb2 hk2
  go_upto_if 33 with fail
  go_cut [] from 34 to 35 (fun wx => RS wx 99 g L a5 e5 ∧ Blk wx b 35 #[.int .i64 v1, .int .i64 v2, .int .u64 v3, .int .u64 v4, .int .u32 c5.page, .int .i64 c5.ok, .int .i64 c5.oa, .string (bs c5.os), .string (bs c5.oo), .int .i64 c5.undo, .int .i64 c5.index, .string (bs c5.key), .int .u32 c5.rpage, .int .i64 c5.rslot, .bool c5.live, .slice none 0 0, .slice none 0 0] ∧ Below (rb + 1) W1 wx)
  case first =>
    cases ch
    · obtain ⟨z1, z2, z3⟩ := rdChIf_no H5.out (Hch.out.not rfl)
      subst z1 z2 z3
      go_wp2
      go_meet
      exact ⟨HR.out, HB.out, HK.out⟩
    · have H5' := Lib.hid (rdChIf_yes H5.out (Hch.out.1 rfl))
      go_wp2_with (first | (go_at_call 24; refine (takeChange_any HR.out HB.out Hne.out (Nat.le_trans HL1.out HK.out.size) Hbg.out Hbb.out).mono ?_; rintro e2 w1 ⟨rfl, hr1, hb1, hk1⟩; rw [H5'.out] at hr1 hb1; have HK1 := Lib.hid (HK.out.trans hk1); have HB1 := Lib.hid hb1; have HR1 := Lib.hid hr1; clear HR HK HB hr1 hb1 hk1; have HR := HR1; have HK := HK1; have HB := HB1; clear HR1 HK1 HB1))
      go_meet
      exact ⟨HR.out, HB.out, HK.out⟩
  case rest =>
  obtain ⟨hr2, hb2, hk2⟩ := hcut
  clear HR HK HB
  have HR := Lib.hid hr2
  have HB := Lib.hid hb2
  have HK := Lib.hid hk2
  clear hr2 hb2 hk2
  go_upto_if 36 with fail
  go_cut [9, 10] from 37 to 87 (fun s9 s10 wx => ∃ vT vD, RS wx 99 g L a6 e6 ∧ Blk wx b 35 #[.int .i64 v1, .int .i64 v2, .int .u64 v3, .int .u64 v4, .int .u32 c5.page, .int .i64 c5.ok, .int .i64 c5.oa, .string (bs c5.os), .string (bs c5.oo), .int .i64 c5.undo, .int .i64 c5.index, .string (bs c5.key), .int .u32 c5.rpage, .int .i64 c5.rslot, .bool c5.live, vT, vD] ∧ wx.ownsRow (rb + 1) 70 4 vT t6.txs.length (t6.txs.map StR.cells).flatten ∧ wx.ownsRow (rb + 1) 72 2 vD t6.dirty.length (t6.dirty.map DiR.cells).flatten ∧ Below (rb + 1) W1 wx)
  case first =>
    cases tb
    · obtain ⟨z1, z2, z3⟩ := rdTabIf_no H6.out (Htb.out.not rfl)
      subst z1 z2 z3
      go_wp2
      go_meet
      exact ⟨_, _, HR.out, HB.out, World.ownsRow_nil _ _ _ _, World.ownsRow_nil _ _ _ _, HK.out⟩
    · have H6' := Lib.hid (rdTabIf_yes H6.out (Htb.out.1 rfl))
      obtain ⟨n1, b1, g1, j1⟩ : ∃ v a' e', rNum L a5 e5 2 = (v, a', e') := ⟨_, _, _, rfl⟩
      obtain ⟨ts, b2, g2, j2⟩ : ∃ v a' e', rdMany (rdSt L) n1 [] b1 g1 = (v, a', e') := ⟨_, _, _, rfl⟩
      obtain ⟨n3, b3, g3, j3⟩ : ∃ v a' e', rNum L b2 g2 2 = (v, a', e') := ⟨_, _, _, rfl⟩
      obtain ⟨ds, b4, g4, j4⟩ : ∃ v a' e', rdMany (rdDi L) n3 [] b3 g3 = (v, a', e') := ⟨_, _, _, rfl⟩
      have hn1 : n1 < 65536 := by have := rNum_lt L a5 e5 2; rw [show ((2 : Nat) : Int) = (2 : Int) from rfl, j1] at this; simpa using this
      have hn3 : n3 < 65536 := by have := rNum_lt L b2 g2 2; rw [show ((2 : Nat) : Int) = (2 : Int) from rfl, j3] at this; simpa using this
      have hq : rdTab L a5 e5 = (⟨ts, ds⟩, b4, g4) := by simp only [rdTab, j1, j2, j3, j4]
      rw [H6'.out] at hq
      injection hq with hq1 hq2
      injection hq2 with hq2 hq3
      subst hq1 hq2 hq3
      have J1 := Lib.hid j1
      have J2 := Lib.hid j2
      have J3 := Lib.hid j3
      have J4 := Lib.hid j4
      clear j1 j2 j3 j4
      obtain ⟨i0, hi, hz0, hz1, hz2⟩ := info_parts infoTS
      obtain ⟨i1, hi1, hy0, hy1, hy2⟩ := info_parts infoTD
      have I0 := Lib.hid hi
      have I1 := Lib.hid hi1
      clear hi hi1
      go_wp2_with (first | (go_at_call 23; refine (num_st HR.out _ _ _ _ J1.out).mono ?_; rintro e2 w2 ⟨rfl, hr1, hg1⟩; have HK1 := Lib.hid (bgrownB HK.out hg1 HL1.out Hbg.out); have HB1 := Lib.hid (HB.out.grown hg1 (by simp [Hne.out])); have HR1 := Lib.hid hr1; clear HR HK HB hr1 hg1; have HR := HR1; have HK := HK1; have HB := HB1; clear HR1 HK1 HB1))
      go_loopw [9] (fun s9 wr => ∃ (k : Nat) (acc : List StR) (a : Nat) (e : Int) (vT : Value), s9 = .int .i64 k ∧ rdMany (rdSt L) k acc a e = (ts, b2, g2) ∧ acc.length + k ≤ 65535 ∧ RS wr 99 g L a e ∧ Blk wr b 35 #[.int .i64 v1, .int .i64 v2, .int .u64 v3, .int .u64 v4, .int .u32 c5.page, .int .i64 c5.ok, .int .i64 c5.oa, .string (bs c5.os), .string (bs c5.oo), .int .i64 c5.undo, .int .i64 c5.index, .string (bs c5.key), .int .u32 c5.rpage, .int .i64 c5.rslot, .bool c5.live, vT, .slice none 0 0] ∧ wr.ownsRow (rb + 1) 70 4 vT acc.length (acc.map StR.cells).flatten ∧ Below (rb + 1) W1 wr)
        (fun s9 _ => (intOf s9).toNat)
      case atStart => exact ⟨n1, [], _, _, _, rfl, J2.out, by simp; omega, HR.out, HB.out, World.ownsRow_nil _ _ _ _, HK.out⟩
      case round =>
        obtain ⟨k, acc, a, e, vT, rfl, hm, hlen, hr1, hb1, ht1, hk1⟩ := hrel
        clear HR HK HB
        have HR := Lib.hid hr1
        have HB := Lib.hid hb1
        have HK := Lib.hid hk1
        have HT := Lib.hid ht1
        have HM := Lib.hid hm
        clear hr1 hb1 hk1 ht1 hm
        by_cases hgo : 0 < k ∧ e = 0
        · obtain ⟨hk0, rfl⟩ := hgo
          obtain ⟨k', rfl⟩ : ∃ k', k = k' + 1 := ⟨k - 1, by omega⟩
          have hk2 : (0 : Int) < ((k' + 1 : Nat) : Int) := by omega
          obtain ⟨x1, p1, q1, s1⟩ : ∃ v a' e', rNum L a 0 4 = (v, a', e') := ⟨_, _, _, rfl⟩
          obtain ⟨x2, p2, q2, s2⟩ : ∃ v a' e', rNum L p1 q1 1 = (v, a', e') := ⟨_, _, _, rfl⟩
          obtain ⟨x3, p3, q3, s3⟩ : ∃ v a' e', rNum L p2 q2 8 = (v, a', e') := ⟨_, _, _, rfl⟩
          obtain ⟨x4, p4, q4, s4⟩ : ∃ v a' e', rNum L p3 q3 8 = (v, a', e') := ⟨_, _, _, rfl⟩
          have hx1 : x1 < 4294967296 := by have := rNum_lt L a 0 4; rw [show ((4 : Nat) : Int) = (4 : Int) from rfl, s1] at this; simpa using this
          have hx2 : x2 < 256 := by have := rNum_lt L p1 q1 1; rw [show ((1 : Nat) : Int) = (1 : Int) from rfl, s2] at this; simpa using this
          have HF := Lib.hid (rdMany_go HM.out (show rdSt L a 0 = (⟨x1, x2, x3, x4⟩, p4, q4) by simp only [rdSt, s1, s2, s3, s4]))
          have S1 := Lib.hid s1
          have S2 := Lib.hid s2
          have S3 := Lib.hid s3
          have S4 := Lib.hid s4
          clear s1 s2 s3 s4 HM
          have hwx1 : IntKind.i64.wrap (x1 : Int) = x1 := IntWalk.i64_in _ (by omega)
          have hwx2 : IntKind.i64.wrap (x2 : Int) = x2 := IntWalk.i64_in _ (by omega)
          have c15 : wr.cell? ⟨b, 15, none⟩ = some vT := HB.out.cell 15
          have f15 := HB.out.frozen 15
          have hbz := HB.out.lt
          go_wp2_with (go_at_call 25; refine (err_any HR.out.rd).mono ?_; rintro e2 w2 ⟨rfl, rfl⟩)
          go_region_law ((first | (go_simp; go_at_call 23; refine (num_st (by exact ⟨HR.out.rd, HR.out.at_, HR.out.long⟩) _ _ _ _ (by first | exact S1.out | exact S2.out | exact S3.out | exact S4.out)).mono ?_; rintro e2 w3 ⟨rfl, hr1, hg0⟩; have hg1 := grown_of HB.out hg0 rfl rfl rfl rfl; have HK1 := Lib.hid (bgrownB HK.out hg1 HL1.out Hbg.out); have HB1 := Lib.hid (HB.out.grown hg1 (by simp [Hne.out])); have HT1 := Lib.hid (own_grown HT.out hg1 HR.out.rd (by decide)); have HR1 := Lib.hid hr1; clear HR HK HB HT hr1 hg0 hg1 c15 f15 hbz; have HR := HR1; have HK := HK1; have HB := HB1; have HT := HT1; clear HR1 HK1 HB1 HT1; have c15 : w3.cell? ⟨b, 15, none⟩ = some vT := HB.out.cell 15; have f15 := HB.out.frozen 15; have hbz := HB.out.lt) | (refine step_append_own rfl _ _ 32 rfl (rb + 1) 70 i0 _ 4 32 Try.underlying32 I0.out hz0 hz1 hz2 rfl (by decide) _ acc.length _ rfl (own_below HT.out (by repeat (first | (with_reducible exact Below.refl _ _) | (with_reducible apply balloc) | (with_reducible apply bdrew) | (with_reducible apply bdrewN)))) _ 1 _ [.int .i64 x1, .int .i64 x2, .int .u64 x3, .int .u64 x4] rfl rfl (cells_new _ _ _) (by simp [Value.oneCell']) (by unfold maxLen; omega) (by omega) (by have h1 := HL1.out; have h2 := HK.out.size; simp; omega) ?_; intro v' w5 hown' hgrow _; obtain ⟨A5, m5, rfl⟩ := own_slice hown'; have HB2 := Lib.hid (Blk.grown (HB.out.step (by repeat (first | (with_reducible exact Below.refl _ _) | (with_reducible apply balloc) | (with_reducible apply bdrew) | (with_reducible apply bdrewN)))) hgrow (fun e => own_ne_blk HT.out HB.out (by decide) e.symm)); have HR2 := Lib.hid (show RS w5 99 g L _ _ from ⟨Rd.grown (HR.out.rd.step (by repeat (first | (with_reducible exact Below.refl _ _) | (with_reducible apply balloc) | (with_reducible apply bdrew) | (with_reducible apply bdrewN)))) hgrow (fun e => own_ne_blk HT.out HR.out.rd (by decide) e.symm), HR.out.at_, HR.out.long⟩); have HK2 := Lib.hid ((HK.out.trans ((show Below _ _ _ from (by repeat (first | (with_reducible exact Below.refl _ _) | (with_reducible apply balloc) | (with_reducible apply bdrew) | (with_reducible apply bdrewN)))).mono (Nat.le_trans HL1.out HK.out.size))).grown hgrow (by have h1 := HL1.out; have h2 := HK.out.size; simp; omega) (fun k hk => (HT.out.lt k hk).1)); have HT2 := Lib.hid hown'; clear HR HK HB HT hown' hgrow c15 f15 hbz; have HR := HR2; have HK := HK2; have HB := HB2; have HT := HT2; clear HR2 HK2 HB2 HT2; have c15 : w5.cell? ⟨b, 15, none⟩ = some vT := HB.out.cell 15; have f15 := HB.out.frozen 15; have hbz := HB.out.lt)))
          all_goals
            go_wp2
            go_roundw
            case rel => exact ⟨k', acc ++ [⟨x1, x2, x3, x4⟩], p4, q4, _, rfl, HF.out, by simp; omega, RS.far HR.out Hne.out, HB.out.set_ 15 _, by have := own_set (b := b) (o := 15) (u := .slice A5 (acc.length + 1) m5) HT.out HB.out (by decide); rw [List.length_append, flat_snoc]; exact this, bsetB HK.out Hbb.out _⟩
            case measure => simp [intOf]
        · obtain ⟨rfl, rfl, rfl⟩ := rdMany_stop HM.out hgo
          have hex : k = 0 ∨ (0 < k ∧ ¬ g2 = 0) := by
            rcases Nat.eq_zero_or_pos k with h | h
            · exact .inl h
            · exact .inr ⟨h, fun he => hgo ⟨h, he⟩⟩
          clear hgo HM
          rcases hex with rfl | ⟨hk0, he0⟩
          all_goals
            try (have hk1 : (0 : Int) < (k : Int) := by omega)
            try (have heb : (g2 == 0) = false := by simp [he0])
            go_wp2_with (first | (go_at_call 25; refine (err_any HR.out.rd).mono ?_; rintro e2 w2 ⟨rfl, rfl⟩) | (go_at_call 23; refine (num_st HR.out _ _ _ _ J3.out).mono ?_; rintro e2 w2 ⟨rfl, hr1, hg1⟩; have HK1 := Lib.hid (bgrownB HK.out hg1 HL1.out Hbg.out); have HB1 := Lib.hid (HB.out.grown hg1 (by simp [Hne.out])); have HT1 := Lib.hid (own_grown HT.out hg1 HR.out.rd (by decide)); have HR1 := Lib.hid hr1; clear HR HK HB HT hr1 hg1; have HR := HR1; have HK := HK1; have HB := HB1; have HT := HT1; clear HR1 HK1 HB1 HT1))
            try clear hk1
            try clear heb
            clear hlen
            go_loopw [10] (fun s10 wr => ∃ (k : Nat) (dacc : List DiR) (a : Nat) (e : Int) (vD : Value), s10 = .int .i64 k ∧ rdMany (rdDi L) k dacc a e = (ds, a6, e6) ∧ dacc.length + k ≤ 65535 ∧ RS wr 99 g L a e ∧ Blk wr b 35 #[.int .i64 v1, .int .i64 v2, .int .u64 v3, .int .u64 v4, .int .u32 c5.page, .int .i64 c5.ok, .int .i64 c5.oa, .string (bs c5.os), .string (bs c5.oo), .int .i64 c5.undo, .int .i64 c5.index, .string (bs c5.key), .int .u32 c5.rpage, .int .i64 c5.rslot, .bool c5.live, vT, vD] ∧ wr.ownsRow (rb + 1) 70 4 vT ts.length (ts.map StR.cells).flatten ∧ wr.ownsRow (rb + 1) 72 2 vD dacc.length (dacc.map DiR.cells).flatten ∧ Below (rb + 1) W1 wr)
              (fun s10 _ => (intOf s10).toNat)
            case atStart => exact ⟨n3, [], _, _, _, rfl, J4.out, by simp; omega, HR.out, HB.out, HT.out, World.ownsRow_nil _ _ _ _, HK.out⟩
            case round =>
              obtain ⟨k, dacc, a, e, vD, rfl, hm, hlen, hr1, hb1, ht1, hd1, hk1⟩ := hrel
              clear HR HK HB HT
              have HR := Lib.hid hr1
              have HB := Lib.hid hb1
              have HK := Lib.hid hk1
              have HT := Lib.hid ht1
              have HD := Lib.hid hd1
              have HM := Lib.hid hm
              clear hr1 hb1 hk1 ht1 hd1 hm
              by_cases hgo : 0 < k ∧ e = 0
              · obtain ⟨hk0, rfl⟩ := hgo
                obtain ⟨k', rfl⟩ : ∃ k', k = k' + 1 := ⟨k - 1, by omega⟩
                have hk2 : (0 : Int) < ((k' + 1 : Nat) : Int) := by omega
                obtain ⟨x1, p1, q1, s1⟩ : ∃ v a' e', rNum L a 0 4 = (v, a', e') := ⟨_, _, _, rfl⟩
                obtain ⟨x2, p2, q2, s2⟩ : ∃ v a' e', rNum L p1 q1 8 = (v, a', e') := ⟨_, _, _, rfl⟩
                have hx1 : x1 < 4294967296 := by have := rNum_lt L a 0 4; rw [show ((4 : Nat) : Int) = (4 : Int) from rfl, s1] at this; simpa using this
                have HF := Lib.hid (rdMany_go HM.out (show rdDi L a 0 = (⟨x1, x2⟩, p2, q2) by simp only [rdDi, s1, s2]))
                have S1 := Lib.hid s1
                have S2 := Lib.hid s2
                clear s1 s2 HM
                have hwx1 : IntKind.u32.wrap (x1 : Int) = x1 := by rw [IntKind.wrap_u32]; omega
                have c16 : wr.cell? ⟨b, 16, none⟩ = some vD := HB.out.cell 16
                have f16 := HB.out.frozen 16
                have hbz := HB.out.lt
                go_wp2_with (go_at_call 25; refine (err_any HR.out.rd).mono ?_; rintro e2 w2 ⟨rfl, rfl⟩)
                go_region_law ((first | (go_simp; go_at_call 23; refine (num_st (by exact ⟨HR.out.rd, HR.out.at_, HR.out.long⟩) _ _ _ _ (by first | exact S1.out | exact S2.out)).mono ?_; rintro e2 w3 ⟨rfl, hr1, hg0⟩; have hg1 := grown_of HB.out hg0 rfl rfl rfl rfl; have HK1 := Lib.hid (bgrownB HK.out hg1 HL1.out Hbg.out); have HB1 := Lib.hid (HB.out.grown hg1 (by simp [Hne.out])); have HT1 := Lib.hid (own_grown HT.out hg1 HR.out.rd (by decide)); have HD1 := Lib.hid (own_grown HD.out hg1 HR.out.rd (by decide)); have HR1 := Lib.hid hr1; clear HR HK HB HT HD hr1 hg0 hg1 c16 f16 hbz; have HR := HR1; have HK := HK1; have HB := HB1; have HT := HT1; have HD := HD1; clear HR1 HK1 HB1 HT1 HD1; have c16 : w3.cell? ⟨b, 16, none⟩ = some vD := HB.out.cell 16; have f16 := HB.out.frozen 16; have hbz := HB.out.lt) | (refine step_append_own rfl _ _ 33 rfl (rb + 1) 72 i1 _ 2 16 Try.underlying33 I1.out hy0 hy1 hy2 rfl (by decide) _ dacc.length _ rfl (own_below HD.out (by repeat (first | (with_reducible exact Below.refl _ _) | (with_reducible apply balloc) | (with_reducible apply bdrew) | (with_reducible apply bdrewN)))) _ 1 _ [.int .u32 x1, .int .u64 x2] rfl rfl (cells_new _ _ _) (by simp [Value.oneCell']) (by unfold maxLen; omega) (by omega) (by have h1 := HL1.out; have h2 := HK.out.size; simp; omega) ?_; intro v' w5 hown' hgrow _; obtain ⟨A5, m5, rfl⟩ := own_slice hown'; have HB2 := Lib.hid (Blk.grown (HB.out.step (by repeat (first | (with_reducible exact Below.refl _ _) | (with_reducible apply balloc) | (with_reducible apply bdrew) | (with_reducible apply bdrewN)))) hgrow (fun e => own_ne_blk HD.out HB.out (by decide) e.symm)); have HR2 := Lib.hid (show RS w5 99 g L _ _ from ⟨Rd.grown (HR.out.rd.step (by repeat (first | (with_reducible exact Below.refl _ _) | (with_reducible apply balloc) | (with_reducible apply bdrew) | (with_reducible apply bdrewN)))) hgrow (fun e => own_ne_blk HD.out HR.out.rd (by decide) e.symm), HR.out.at_, HR.out.long⟩); have HK2 := Lib.hid ((HK.out.trans ((show Below _ _ _ from (by repeat (first | (with_reducible exact Below.refl _ _) | (with_reducible apply balloc) | (with_reducible apply bdrew) | (with_reducible apply bdrewN)))).mono (Nat.le_trans HL1.out HK.out.size))).grown hgrow (by have h1 := HL1.out; have h2 := HK.out.size; simp; omega) (fun k hk => (HD.out.lt k hk).1)); have HT2 := Lib.hid ((own_below HT.out (by repeat (first | (with_reducible exact Below.refl _ _) | (with_reducible apply balloc) | (with_reducible apply bdrew) | (with_reducible apply bdrewN)))).kept hgrow (own_ne_own HT.out HD.out (by decide))); have HD2 := Lib.hid hown'; clear HR HK HB HT HD hown' hgrow c16 f16 hbz; have HR := HR2; have HK := HK2; have HB := HB2; have HT := HT2; have HD := HD2; clear HR2 HK2 HB2 HT2 HD2; have c16 : w5.cell? ⟨b, 16, none⟩ = some vD := HB.out.cell 16; have f16 := HB.out.frozen 16)))
                all_goals
                  go_wp2
                  go_roundw
                  case rel => exact ⟨k', dacc ++ [⟨x1, x2⟩], p2, q2, _, rfl, HF.out, by simp; omega, RS.far HR.out Hne.out, HB.out.set_ 16 _, own_set HT.out HB.out (by decide), by have := own_set (b := b) (o := 16) (u := .slice A5 (dacc.length + 1) m5) HD.out HB.out (by decide); rw [List.length_append, flat_snoc]; exact this, bsetB HK.out Hbb.out _⟩
                  case measure => simp [intOf]
              · have hex : k = 0 ∨ (0 < k ∧ ¬ e = 0) := by
                  rcases Nat.eq_zero_or_pos k with h | h
                  · exact .inl h
                  · exact .inr ⟨h, fun he => hgo ⟨h, he⟩⟩
                obtain ⟨rfl, rfl, rfl⟩ := rdMany_stop HM.out hgo
                clear hgo HM
                rcases hex with rfl | ⟨hk0, he0⟩
                · go_wp2_with (go_at_call 25; refine (err_any HR.out.rd).mono ?_; rintro e2 w2 ⟨rfl, rfl⟩)
                  go_meet
                  exact ⟨vT, vD, HR.out, HB.out, HT.out, HD.out, HK.out⟩
                · have hk1 : (0 : Int) < (k : Int) := by omega
                  have heb := beq_eq_false_iff_ne.2 he0
                  go_wp2_with (go_at_call 25; refine (err_any HR.out.rd).mono ?_; rintro e2 w2 ⟨rfl, rfl⟩)
                  go_meet
                  exact ⟨vT, vD, HR.out, HB.out, HT.out, HD.out, HK.out⟩
  case rest =>
  obtain ⟨vT, vD, hr2, hb2, ht2, hd2, hk2⟩ := hcut
  clear HR HK HB
  have HR := Lib.hid hr2
  have HB := Lib.hid hb2
  have HK := Lib.hid hk2
  have HT := Lib.hid ht2
  have HD := Lib.hid hd2
  clear hr2 hb2 ht2 hd2 hk2
  have hzz : Blk wc rb 35 #[.int .i64 0, .int .i64 0, .int .u64 0, .int .u64 0, .int .u32 0, .int .i64 0, .int .i64 0, .string (bs []), .string (bs []), .int .i64 0, .int .i64 0, .string (bs []), .int .u32 0, .int .i64 0, .bool false, .slice none 0 0, .slice none 0 0] := HZ.out.below HK.out (Nat.lt_succ_self rb)
  have HZ6 := Lib.hid hzz
  have HBW := Lib.hid (show Below rb w wc from HB0.out.trans (HK.out.mono (Nat.le_succ rb)))
  clear hzz
  have hlen := tab_len H6.out
  obtain ⟨A, c, rfl, hrA⟩ := own_rows (enc := StR.cells) (fun _ => rfl) HT.out
  obtain ⟨B, d, rfl, hrB⟩ := own_rows (enc := DiR.cells) (fun _ => rfl) HD.out
  have hRA : RdRows StR.cells 4 wc A t6.txs := fun k hk => by
    obtain ⟨b, off, h1, h2, h3, h4⟩ := hrA k hk
    exact ⟨b, off, h1, h3, h4⟩
  have hRB : RdRows DiR.cells 2 wc B t6.dirty := fun k hk => by
    obtain ⟨b, off, h1, h2, h3, h4⟩ := hrB k hk
    exact ⟨b, off, h1, h3, h4⟩
  have hAb : ∀ k, k < t6.txs.length → ∃ b off, A = some ⟨b, off, none⟩ ∧ rb + 1 ≤ b := fun k hk => by
    obtain ⟨b, off, h1, h2, _⟩ := hrA k hk
    exact ⟨b, off, h1, h2⟩
  have HRA := Lib.hid hRA
  have HRB := Lib.hid hRB
  have hck := fun (w' : World) (hA : RdRows StR.cells 4 w' A t6.txs) => rcheck_any RR A c B d w' (by rw [HRR.out]; exact hA) (by rw [HRR.out]; show t6.txs.length ≤ _; omega) (by rw [HRR.out]; show t6.dirty.length ≤ _; omega)
  have hval : RR.val A c B d = .agg #[.int .i64 v1, .int .i64 v2, .int .u64 v3, .int .u64 v4, .int .u32 c5.page, .int .i64 c5.ok, .int .i64 c5.oa, .string (bs c5.os), .string (bs c5.oo), .int .i64 c5.undo, .int .i64 c5.index, .string (bs c5.key), .int .u32 c5.rpage, .int .i64 c5.rslot, .bool c5.live, .slice A t6.txs.length c, .slice B t6.dirty.length d] := by rw [HRR.out]; rfl
  rw [hval] at hck
  have HV := Lib.hid hval
  have HCK := Lib.hid hck
  have hend := end_st HR.out
  rw [HE.out] at hend
  have HEnd := Lib.hid hend
  clear hrA hrB hRA hRB hck hval hend hlen hAb
  by_cases hE0 : E = 0
  · subst hE0
    by_cases hok : recOk RR
    · have HOK := Lib.hid (recE_pos hok)
      have HOk := Lib.hid hok
      clear hok
      go_wp2_with (first | (go_at_call 26; refine HEnd.out.mono ?_; rintro e2 w1 ⟨rfl, hg1⟩; have HB1 := Lib.hid (HB.out.grown hg1 (by simp [Hne.out])); have HZ1 := Lib.hid (HZ6.out.grown hg1 (by simp [HgZ.out])); have HT1 := Lib.hid (own_grown HT.out hg1 HR.out.rd (by decide)); have HD1 := Lib.hid (own_grown HD.out hg1 HR.out.rd (by decide)); have HW1 := Lib.hid (bgrownB HBW.out hg1 (Nat.le_of_eq Hrb.out.symm) (Nat.le_trans (Nat.le_succ rb) Hbg.out)); clear hg1) | (refine wpList_load_row_on rfl 35 (.tmp 5) rfl b rfl 35 _ (0, 0) _ HB1.out Try.underlying35 rfl (by kernel_rfl) ?_) | (go_at_call 16; refine (HCK.out _ (own_rd (fun _ => rfl) HT1.out)).mono ?_; rintro e2 w2 ⟨rfl, hb2⟩; rw [HOK.out]; have HB2 := Lib.hid (HB1.out.step hb2); have HZ2 := Lib.hid (HZ1.out.step hb2); have HT2 := Lib.hid (own_below HT1.out hb2); have HD2 := Lib.hid (own_below HD1.out hb2); have HW2 := Lib.hid (HW1.out.trans (hb2.mono (Nat.le_of_lt HZ1.out.lt))); clear hb2) | (refine wpList_load_row rfl 35 (.tmp 5) rfl b rfl 35 _ (0, 0) _ HB2.out Try.underlying35 rfl (by kernel_rfl) ?_) | (refine wpList_store_row rfl 35 (.tmp 2) (.tmp 97) rfl rb _ rfl rfl 35 _ HZ2.out (by kernel_rfl) rfl (by simp [Value.oneCell']) ?_))
      try simp only [Act.put, List.setIfInBounds_toArray, List.set_cons_succ, List.set_cons_zero]
      refine bodyPost_ret (v := .tuple #[.agg #[.int .i64 v1, .int .i64 v2, .int .u64 v3, .int .u64 v4, .int .u32 c5.page, .int .i64 c5.ok, .int .i64 c5.oa, .string (bs c5.os), .string (bs c5.oo), .int .i64 c5.undo, .int .i64 c5.index, .string (bs c5.key), .int .u32 c5.rpage, .int .i64 c5.rslot, .bool c5.live, .slice A t6.txs.length c, .slice B t6.dirty.length d], .int .i64 0]) (results_ct (fn := Try.f9) (p := 2) (q := 3) (ty := 35) rfl _ _ rb 35 _ (0, 0) _ rfl (blk_setRow HZ2.out) Try.underlying35 rfl (by kernel_rfl)) rfl ?_
      rw [← HPOST.out]
      refine ⟨⟨fun _ => ⟨A, c, B, d, by rw [HV.out], by rw [HRR.out]; exact own_rd (fun _ => rfl) (own_setRow HT2.out HZ2.out (by decide)), by rw [HRR.out]; exact own_rd (fun _ => rfl) (own_setRow HD2.out HZ2.out (by decide))⟩, fun h => absurd ⟨?_, HOk.out⟩ h⟩, setRow_below HW2.out (Nat.le_refl _) _⟩
      first | exact trivial | rfl
    · have HOK := Lib.hid (recE_neg hok)
      have HOk := Lib.hid hok
      clear hok
      go_wp2_with (first | (go_at_call 26; refine HEnd.out.mono ?_; rintro e2 w1 ⟨rfl, hg1⟩; have HB1 := Lib.hid (HB.out.grown hg1 (by simp [Hne.out])); have HZ1 := Lib.hid (HZ6.out.grown hg1 (by simp [HgZ.out])); have HT1 := Lib.hid (own_grown HT.out hg1 HR.out.rd (by decide)); have HD1 := Lib.hid (own_grown HD.out hg1 HR.out.rd (by decide)); have HW1 := Lib.hid (bgrownB HBW.out hg1 (Nat.le_of_eq Hrb.out.symm) (Nat.le_trans (Nat.le_succ rb) Hbg.out)); clear hg1) | (refine wpList_load_row_on rfl 35 (.tmp 5) rfl b rfl 35 _ (0, 0) _ HB1.out Try.underlying35 rfl (by kernel_rfl) ?_) | (go_at_call 16; refine (HCK.out _ (own_rd (fun _ => rfl) HT1.out)).mono ?_; rintro e2 w2 ⟨rfl, hb2⟩; rw [HOK.out]; have HB2 := Lib.hid (HB1.out.step hb2); have HZ2 := Lib.hid (HZ1.out.step hb2); have HT2 := Lib.hid (own_below HT1.out hb2); have HD2 := Lib.hid (own_below HD1.out hb2); have HW2 := Lib.hid (HW1.out.trans (hb2.mono (Nat.le_of_lt HZ1.out.lt))); clear hb2) | (refine wpList_store_row rfl 35 (.tmp 2) (.tmp 96) rfl rb _ rfl rfl 35 _ HZ2.out (by kernel_rfl) rfl (by simp [Value.oneCell']) ?_))
      try simp only [Act.put, List.setIfInBounds_toArray, List.set_cons_succ, List.set_cons_zero]
      refine bodyPost_ret (v := .tuple #[.agg #[.int .i64 0, .int .i64 0, .int .u64 0, .int .u64 0, .int .u32 0, .int .i64 0, .int .i64 0, .string (bs []), .string (bs []), .int .i64 0, .int .i64 0, .string (bs []), .int .u32 0, .int .i64 0, .bool false, .slice none 0 0, .slice none 0 0], .int .i64 40]) (results_ct (fn := Try.f9) (p := 2) (q := 3) (ty := 35) rfl _ _ rb 35 _ (0, 0) _ rfl (blk_setRow HZ2.out) Try.underlying35 rfl (by kernel_rfl)) rfl ?_
      rw [← HPOST.out]
      exact ⟨⟨fun h => absurd h.2 HOk.out, fun _ => rfl⟩, setRow_below HW2.out (Nat.le_refl _) _⟩
  · have hEb : (E != 0) = true := by simp [hE0]
    have HE0 := Lib.hid hE0
    clear hE0
    go_wp2_with (first | (go_at_call 26; refine HEnd.out.mono ?_; rintro e2 w1 ⟨rfl, hg1⟩; have HB1 := Lib.hid (HB.out.grown hg1 (by simp [Hne.out])); have HZ1 := Lib.hid (HZ6.out.grown hg1 (by simp [HgZ.out])); have HT1 := Lib.hid (own_grown HT.out hg1 HR.out.rd (by decide)); have HD1 := Lib.hid (own_grown HD.out hg1 HR.out.rd (by decide)); have HW1 := Lib.hid (bgrownB HBW.out hg1 (Nat.le_of_eq Hrb.out.symm) (Nat.le_trans (Nat.le_succ rb) Hbg.out)); clear hg1) | (refine wpList_store_row rfl 35 (.tmp 2) (.tmp 96) rfl rb _ rfl rfl 35 _ HZ1.out (by kernel_rfl) rfl (by simp [Value.oneCell']) ?_))
    try simp only [Act.put, List.setIfInBounds_toArray, List.set_cons_succ, List.set_cons_zero]
    refine bodyPost_ret (v := .tuple #[.agg #[.int .i64 0, .int .i64 0, .int .u64 0, .int .u64 0, .int .u32 0, .int .i64 0, .int .i64 0, .string (bs []), .string (bs []), .int .i64 0, .int .i64 0, .string (bs []), .int .u32 0, .int .i64 0, .bool false, .slice none 0 0, .slice none 0 0], .int .i64 40]) (results_ct (fn := Try.f9) (p := 2) (q := 3) (ty := 35) rfl _ _ rb 35 _ (0, 0) _ rfl (blk_setRow HZ1.out) Try.underlying35 rfl (by kernel_rfl)) rfl ?_
    rw [← HPOST.out]
    exact ⟨⟨fun h => absurd h.1 HE0.out, fun _ => rfl⟩, setRow_below HW1.out (Nat.le_refl _) _⟩
end Go.Proofs.Ytebickoieipjpaa
end
section
namespace Go.Proofs.Ytebickoieipjpaa
open Go.RowKit Go.Gi Go.GiRow
set_option maxRecDepth 20000
set_option linter.unusedSimpArgs false
set_option linter.unusedVariables false
def rec0 : RecR := ⟨4, 3, 9, 0, 0, 0, 0, [], [], 0, 0, [], 0, 0, false, [], []⟩
theorem rec0_ok : recOk rec0 := by
  refine ⟨⟨⟨⟨⟨⟨?_, ?_⟩, ?_⟩, ?_⟩, ?_⟩, ?_⟩, ?_⟩
  · unfold okHead rec0; simp
  · unfold okUndo rec0; simp
  · rw [okOp_no (by unfold isChange rec0; simp)]; unfold rec0; simp
  · rw [okKey_no (by unfold rec0; simp)]; unfold rec0; simp
  · unfold okNext rec0; simp
  · unfold okLong rec0; simp
  · intro t ht; unfold rec0 at ht; simp at ht
theorem rec0_w : RecW rec0 := ⟨by unfold rec0; simp, by unfold rec0; simp, by unfold rec0; simp, by unfold rec0; simp, by unfold rec0; simp, by unfold rec0; simp⟩
theorem rec0_len : (recB rec0).length = 13 := by decide +kernel
theorem rd0 {α : Type} (enc : α → List Value) (n : Nat) (w : World) (A : Option Addr) : RdRows enc n w A [] := fun k hk => absurd hk (by simp)
theorem bs_prefix (s : List UInt8) (k : Nat) : (bs s).extract 0 k = bs (s.take k) := by rw [extract_bs, toList_bs]; simp
attribute [local go_sem] bs_size bs_append bs_prefix bs_empty
set_option maxHeartbeats 16000000 in
theorem awake04 (w : World) : Calls Try.prog 8 #[] w fun e w' => e = .returned (.bool true) ∧ Below w.heap.size w w' := by
  have henc := fun W => encode_ok rec0 none 0 none 0 W (rd0 _ _ _ _) (rd0 _ _ _ _) rec0_w rec0_ok
  have HENC := Lib.hid henc
  have hdec := fun W => decode_any (recB rec0) W (by rw [rec0_len]; decide)
  have HDEC := Lib.hid hdec
  have hl0 := rec0_len
  have HD := Lib.hid (dec_of_told rec0 rec0_ok rec0_w)
  clear henc hdec
  generalize recB rec0 = L0 at *
  go_enter Try.func8, Try.ntmps8
  go_upto_region 3 with (first | (go_at_call 7; refine (HENC.out _).mono ?_; rintro e w1 ⟨rfl, hb1⟩; have HB1 := Lib.hid hb1; clear hb1) | (go_at_call 9; refine (HDEC.out _).mono ?_; rintro e w2 ⟨⟨hy, _⟩, hb2⟩; obtain ⟨A, c, B, d, rfl, _, _⟩ := hy HD.out.1; rw [HD.out.2]; unfold rec0 RecR.val RecR.cells; have HB2 := Lib.hid (bstep HB1.out hb2); clear hb2 hy))
  go_wp2
  go_ret
  exact ⟨rfl, HB2.out.alloc HB2.out.size _⟩
end Go.Proofs.Ytebickoieipjpaa
end
section
namespace Go.Proofs.Ytebickoieipjpaa
open Go.RowKit Go.Gi Go.GiRow Go.Proofs.YtebickoieipjpaaW.PrintWords Go.Proofs.YtebickoieipjpaaW.PrintLast Go.Proofs.YtebickoieipjpaaW.PrintMore
set_option maxRecDepth 20000
set_option linter.unusedSimpArgs false
set_option linter.unusedVariables false
def rcs (r : RecR) (V D : Value) : Array Value := #[.int .i64 r.kind, .int .i64 r.tx, .int .u64 r.prev, .int .u64 r.next, .int .u32 r.page, .int .i64 r.ok, .int .i64 r.oa, .string (bs r.os), .string (bs r.oo), .int .i64 r.undo, .int .i64 r.index, .string (bs r.key), .int .u32 r.rpage, .int .i64 r.rslot, .bool r.live, V, D]
theorem rcs_cells {w : World} {g : Nat} {r : RecR} {V D : Value} (h : Blk w g 47 (rcs r V D)) : w.cell? ⟨g, 0, none⟩ = some (.int .i64 r.kind) ∧ w.cell? ⟨g, 1, none⟩ = some (.int .i64 r.tx) ∧ w.cell? ⟨g, 2, none⟩ = some (.int .u64 r.prev) ∧ w.cell? ⟨g, 3, none⟩ = some (.int .u64 r.next) ∧ w.cell? ⟨g, 4, none⟩ = some (.int .u32 r.page) ∧ w.cell? ⟨g, 5, none⟩ = some (.int .i64 r.ok) ∧ w.cell? ⟨g, 6, none⟩ = some (.int .i64 r.oa) ∧ w.cell? ⟨g, 7, none⟩ = some (.string (bs r.os)) ∧ w.cell? ⟨g, 8, none⟩ = some (.string (bs r.oo)) ∧ w.cell? ⟨g, 9, none⟩ = some (.int .i64 r.undo) ∧ w.cell? ⟨g, 10, none⟩ = some (.int .i64 r.index) ∧ w.cell? ⟨g, 11, none⟩ = some (.string (bs r.key)) ∧ w.cell? ⟨g, 12, none⟩ = some (.int .u32 r.rpage) ∧ w.cell? ⟨g, 13, none⟩ = some (.int .i64 r.rslot) ∧ w.cell? ⟨g, 14, none⟩ = some (.bool r.live) :=
  ⟨h.cell 0, h.cell 1, h.cell 2, h.cell 3, h.cell 4, h.cell 5, h.cell 6, h.cell 7, h.cell 8, h.cell 9, h.cell 10, h.cell 11, h.cell 12, h.cell 13, h.cell 14⟩
theorem rcs_sl {w : World} {g : Nat} {r : RecR} {V D : Value} (h : Blk w g 47 (rcs r V D)) : w.cell? ⟨g, 15, none⟩ = some V ∧ w.cell? ⟨g, 16, none⟩ = some D := ⟨h.cell 15, h.cell 16⟩
theorem own_le {w : World} {base base' n : Nat} {e : TypeId} {size : Nat} {v : Value} {xs : List Value} (h : w.ownsRow base e size v n xs) (hb : base' ≤ base) : w.ownsRow base' e size v n xs :=
  ⟨h.1, h.2.imp id (fun ⟨g, cap, cur, e1, h1, h2⟩ => ⟨g, cap, cur, e1, Nat.le_trans hb h1, h2⟩)⟩
theorem blk_setRow_far {w : World} {g T b : Nat} {cs : Array Value} (hb : Blk w g T cs) (cs' : Array Value) (h : g ≠ b) : Blk (w.setRow b cs') g T cs := (setRow_other w b g cs' h).trans hb
theorem own_rdr {α : Type} {enc : α → List Value} {size : Nat} {w : World} {base TE c : Nat} {A : Option Addr} {l : List α} (henc : ∀ a, (enc a).length = size) (ho : w.ownsRow base TE size (.slice A l.length c) l.length (l.map enc).flatten) : RdRows enc size w A l := by
  obtain ⟨A', c', e, h⟩ := own_rows henc ho
  injection e with e1 e2 e3
  subst e1
  exact fun k hk => by
    obtain ⟨b, off, h1, h2, h3, h4⟩ := h k hk
    exact ⟨b, off, h1, h3, h4⟩
theorem loop_end {α : Type} {l m : List α} {Q : Prop} {b : Bool} {i : Nat} (hQ : Q → l.length = m.length) (h : b = true ↔ Q ∧ l.take i = m.take i) (he : i = l.length ∨ b = false) : b = true ↔ Q ∧ l = m := by
  constructor
  · intro hb
    rcases he with rfl | rfl
    · obtain ⟨q, e⟩ := h.1 hb
      refine ⟨q, ?_⟩
      have h2 := hQ q
      rw [List.take_length, h2, List.take_length] at e
      exact e
    · cases hb
  · rintro ⟨q, rfl⟩
    exact h.2 ⟨q, rfl⟩
theorem loop_next {α : Type} {l m : List α} {Q : Prop} {e : Bool} {i : Nat} (h1 : i < l.length) (h2 : i < m.length) (h : Q ∧ l.take i = m.take i) (he : e = true ↔ l[i] = m[i]) : e = true ↔ Q ∧ l.take (i + 1) = m.take (i + 1) := by
  obtain ⟨q, ht⟩ := h
  rw [he]
  constructor
  · exact fun x => ⟨q, take_step h1 h2 ht x⟩
  · rintro ⟨_, x⟩
    rw [List.take_succ_eq_append_getElem h1, List.take_succ_eq_append_getElem h2, ht] at x
    exact (List.cons.inj (List.append_cancel_left x)).1
theorem eq_st (x y : StR) : (x.tx == y.tx && (x.st == y.st && (x.last == y.last && x.next == y.next))) = true ↔ x = y := by
  cases x; cases y; simp
theorem eq_di (x y : DiR) : (x.page == y.page && x.lsn == y.lsn) = true ↔ x = y := by
  cases x; cases y; simp
theorem names (x y : Int) : ∃ b : Bool, (x == y) = b ∧ b = decide (x = y) := ⟨_, rfl, by rw [Bool.eq_iff_iff]; simp⟩
theorem namesL (x y : List UInt8) : ∃ b : Bool, (x == y) = b ∧ b = decide (x = y) := ⟨_, rfl, by rw [Bool.eq_iff_iff]; simp⟩
theorem namesB (x y : Bool) : ∃ b : Bool, (x == y) = b ∧ b = decide (x = y) := ⟨_, rfl, by rw [Bool.eq_iff_iff]; simp⟩
theorem rec_ext (r s : RecR) : r = s ↔ (((r.txs.length = s.txs.length ∧ r.dirty.length = s.dirty.length) ∧ r.txs = s.txs) ∧ r.dirty = s.dirty) ∧ r.kind = s.kind ∧ r.tx = s.tx ∧ r.prev = s.prev ∧ r.next = s.next ∧ r.page = s.page ∧ r.ok = s.ok ∧ r.oa = s.oa ∧ r.os = s.os ∧ r.oo = s.oo ∧ r.undo = s.undo ∧ r.index = s.index ∧ r.key = s.key ∧ r.rpage = s.rpage ∧ r.rslot = s.rslot ∧ r.live = s.live := by
  cases r; cases s
  simp only [RecR.mk.injEq]
  constructor
  · rintro ⟨rfl, rfl, rfl, rfl, rfl, rfl, rfl, rfl, rfl, rfl, rfl, rfl, rfl, rfl, rfl, rfl, rfl⟩
    simp
  · rintro ⟨⟨⟨_, rfl⟩, rfl⟩, rfl, rfl, rfl, rfl, rfl, rfl, rfl, rfl, rfl, rfl, rfl, rfl, rfl, rfl, rfl⟩
    simp
attribute [local go_sem] bs_tl
set_option maxHeartbeats 16000000 in
theorem recSame_any (r s : RecR) {A : Option Addr} {c : Nat} {B : Option Addr} {d : Nat} {A' : Option Addr} {c' : Nat} {B' : Option Addr} {d' : Nat} {w : World} (hr : RowsR w r A c B d) (hs : RowsR w s A' c' B' d') :
    Calls Try.prog 5 #[r.val A c B d, s.val A' c' B' d'] w fun e w' => e = .returned (.bool true) ∧ Below w.heap.size w w' := by
  have HR := Lib.hid hr
  have HS := Lib.hid hs
  clear hr hs
  have hbA := HR.out.bA
  have hbB := HR.out.bB
  unfold RecR.val
  go_enter Try.func5, Try.ntmps5
  go_upto_region 1 with fail
  have hB2 : Blk ((w.alloc (.cells (r.cells A c B d) 35)).alloc (.cells (s.cells A' c' B' d') 35)) w.heap.size 35 (r.cells A c B d) := (Blk.new w 35 (r.cells A c B d)).alloc _
  have hB3 := Blk.new (w.alloc (.cells (r.cells A c B d) 35)) 35 (s.cells A' c' B' d')
  have hK := balloc (balloc (Below.refl w.heap.size w) (.cells (r.cells A c B d) 35)) (.cells (s.cells A' c' B' d') 35)
  have hsz : (w.alloc (.cells (r.cells A c B d) 35)).heap.size = w.heap.size + 1 := by simp
  rw [hsz] at hB3
  have H2 := Lib.hid hB2
  have H3 := Lib.hid hB3
  have HK := Lib.hid hK
  clear hB2 hB3 hK hsz
  generalize ((w.alloc (.cells (r.cells A c B d) 35)).alloc (.cells (s.cells A' c' B' d') 35)) = w1 at *
  go_cut [5, 6] from 10 to 13 (fun s5 s6 wx => ∃ g5 g6 A1 c1 B1 d1 A2 c2 B2 d2, s5 = .pointer (some ⟨g5, 0, none⟩) ∧ s6 = .pointer (some ⟨g6, 0, none⟩) ∧ Hid (Blk wx w.heap.size 35 (r.cells A c B d)) ∧ Hid (Blk wx (w.heap.size + 1) 35 (s.cells A' c' B' d')) ∧ Hid (Blk wx g5 47 (rcs r (.slice A1 r.txs.length c1) (.slice B1 r.dirty.length d1))) ∧ Hid (Blk wx g6 47 (rcs s (.slice A2 s.txs.length c2) (.slice B2 s.dirty.length d2))) ∧ Hid (RdRows StR.cells 4 wx A1 r.txs) ∧ Hid (RdRows DiR.cells 2 wx B1 r.dirty) ∧ Hid (RdRows StR.cells 4 wx A2 s.txs) ∧ Hid (RdRows DiR.cells 2 wx B2 s.dirty) ∧ Hid (Below w.heap.size w wx))
  case first =>
    refine start_ (n := 8) (S := fun w' => Blk w' w.heap.size 35 (r.cells A c B d) ∧ Blk w' (w.heap.size + 1) 35 (s.cells A' c' B' d')) (ds := [6, 7]) #[false, false, false, false, false, false, false, false] (by kernel_rfl) rfl rfl ⟨H2.out, H3.out⟩ (fun hHeld => ?_)
    refine take_ (i := 0) (N := some 10) (v := .agg (r.cells A c B d)) (a' := ?_) #[true, false, false, false, false, false, false, false] rfl rfl (by kernel_rfl) (fun _ _ _ h => h) (yields_row 35 (.tmp 2) rfl (by rfl) w.heap.size rfl 35 (r.cells A c B d) (0, 0) _ (fun w_ h => h.1) Try.underlying35 rfl (by kernel_rfl)) hHeld ?_ ?_
    rotate_left
    · simp only [Act.put, List.setIfInBounds_toArray, List.set_cons_zero, List.set_cons_succ]
      rfl
    refine take_ (i := 2) (N := some 12) (v := .agg (s.cells A' c' B' d')) (a' := ?_) #[true, false, true, false, false, false, false, false] rfl rfl (by kernel_rfl) (fun _ _ _ h => h) (yields_row 35 (.tmp 3) rfl (by rfl) (w.heap.size + 1) rfl 35 (s.cells A' c' B' d') (0, 0) _ (fun w_ h => h.2) Try.underlying35 rfl (by kernel_rfl)) hHeld ?_ ?_
    rotate_left
    · simp only [Act.put, List.setIfInBounds_toArray, List.set_cons_zero, List.set_cons_succ]
      rfl
    clear hHeld
    have hb5 := bdrew (Below.refl w1.heap.size w1)
    have n_H2 := Lib.hid (H2.out.step hb5)
    have n_H3 := Lib.hid (H3.out.step hb5)
    have n_HK := Lib.hid (bstep HK.out hb5)
    clear hb5 H2 H3 HK
    have H2 := n_H2
    have H3 := n_H3
    have HK := n_HK
    clear n_H2 n_H3 n_HK
    generalize w1.drew = x1 at *
    refine three_ (i := 1) (j := 4) (k := 5) (Ni := some 11) (Nj := some 5) (Nk := some 6) #[true, true, true, false, false, false, false, false] #[true, false, true, false, true, false, false, false] #[true, false, true, false, false, true, false, false] rfl rfl rfl rfl rfl rfl (by kernel_rfl) (by decide) (by decide) (by decide) (fun K hK => ?_) (fun K hK => ?_) (fun K hK => ?_)
    · refine goes_ Try.func13 (by kernel_rfl) rfl #[r.val A c B d] (by rfl) rfl rfl (by (try simp only [List.map_toArray, List.map_cons, List.map_nil]); first | done | rfl) ?_
      refine (ref_any r A c B d x1 (HR.out.below HK.out).rdA (HR.out.below HK.out).rdB HR.out.bA HR.out.bB).mono ?_
      rintro e_ u101 ⟨⟨v1, v2, rfl, ho1, ho2⟩, hb5⟩
      have O1 := Lib.hid (own_le ho1 HK.out.size)
      have O2 := Lib.hid (own_le ho2 HK.out.size)
      clear ho1 ho2
      have n_H2 := Lib.hid (H2.out.step hb5)
      have n_H3 := Lib.hid (H3.out.step hb5)
      have n_HK := Lib.hid (bstep HK.out hb5)
      clear hb5 H2 H3 HK
      have H2 := n_H2
      have H3 := n_H3
      have HK := n_HK
      clear n_H2 n_H3 n_HK
      refine ⟨_, rfl, ?_⟩
      refine hK.out _ _ ⟨H2.out, H3.out⟩ (fun hHeld => ?_)
      clear hK K hHeld
      refine norm_ (a' := ?_) ?_ ?_
      rotate_left
      · show Act.put _ (some 11) _ = _
        simp only [Act.put, List.setIfInBounds_toArray, List.set_cons_zero, List.set_cons_succ]
        rfl
      refine three_ (i := 3) (j := 4) (k := 5) (Ni := some 13) (Nj := some 5) (Nk := some 6) #[true, true, true, true, false, false, false, false] #[true, true, true, false, true, false, false, false] #[true, true, true, false, false, true, false, false] rfl rfl rfl rfl rfl rfl (by kernel_rfl) (by decide) (by decide) (by decide) (fun K hK => ?_) (fun K hK => ?_) (fun K hK => ?_)
      · refine goes_ Try.func13 (by kernel_rfl) rfl #[s.val A' c' B' d'] (by rfl) rfl rfl (by (try simp only [List.map_toArray, List.map_cons, List.map_nil]); first | done | rfl) ?_
        refine (ref_any s A' c' B' d' u101 (HS.out.below HK.out).rdA (HS.out.below HK.out).rdB HS.out.bA HS.out.bB).mono ?_
        rintro e_ u102 ⟨⟨v3, v4, rfl, ho1, ho2⟩, hb5⟩
        have O3 := Lib.hid (own_le ho1 HK.out.size)
        have O4 := Lib.hid (own_le ho2 HK.out.size)
        clear ho1 ho2
        have n_H2 := Lib.hid (H2.out.step hb5)
        have n_H3 := Lib.hid (H3.out.step hb5)
        have n_HK := Lib.hid (bstep HK.out hb5)
        have n_O1 := Lib.hid (own_below O1.out hb5)
        have n_O2 := Lib.hid (own_below O2.out hb5)
        clear hb5 H2 H3 HK O1 O2
        have H2 := n_H2
        have H3 := n_H3
        have HK := n_HK
        have O1 := n_O1
        have O2 := n_O2
        clear n_H2 n_H3 n_HK n_O1 n_O2
        refine ⟨_, rfl, ?_⟩
        refine hK.out _ _ ⟨H2.out, H3.out⟩ (fun hHeld => ?_)
        clear hK K hHeld
        refine norm_ (a' := ?_) ?_ ?_
        rotate_left
        · show Act.put _ (some 13) _ = _
          simp only [Act.put, List.setIfInBounds_toArray, List.set_cons_zero, List.set_cons_succ]
          rfl
        refine two_ (i := 4) (j := 5) (Ni := some 5) (Nj := some 6) #[true, true, true, true, true, false, false, false] #[true, true, true, true, false, true, false, false] rfl rfl rfl rfl (by kernel_rfl) (by decide) (by decide) (fun K hK => ?_) (fun K hK => ?_)
        · refine value_ (w1 := u102.alloc (.cells #[.int .i64 0, .int .i64 0, .int .u64 0, .int .u64 0, .int .u32 0, .int .i64 0, .int .i64 0, .string ⟨#[]⟩, .string ⟨#[]⟩, .int .i64 0, .int .i64 0, .string ⟨#[]⟩, .int .u32 0, .int .i64 0, .bool false, .slice none 0 0, .slice none 0 0] 47)) (v := .pointer (some ⟨u102.heap.size, 0, none⟩)) (by rfl) rfl (by go_simp) ?_
          have hb5 := balloc (Below.refl u102.heap.size u102) (.cells #[.int .i64 0, .int .i64 0, .int .u64 0, .int .u64 0, .int .u32 0, .int .i64 0, .int .i64 0, .string ⟨#[]⟩, .string ⟨#[]⟩, .int .i64 0, .int .i64 0, .string ⟨#[]⟩, .int .u32 0, .int .i64 0, .bool false, .slice none 0 0, .slice none 0 0] 47)
          have hL := Blk.new u102 47 #[.int .i64 0, .int .i64 0, .int .u64 0, .int .u64 0, .int .u32 0, .int .i64 0, .int .i64 0, .string ⟨#[]⟩, .string ⟨#[]⟩, .int .i64 0, .int .i64 0, .string ⟨#[]⟩, .int .u32 0, .int .i64 0, .bool false, .slice none 0 0, .slice none 0 0]
          have HG5 := Lib.hid HK.out.size
          have HG5b := Lib.hid (show w.heap.size + 1 < u102.heap.size from H3.out.lt)
          have n_H2 := Lib.hid (H2.out.step hb5)
          have n_H3 := Lib.hid (H3.out.step hb5)
          have n_HK := Lib.hid (bstep HK.out hb5)
          have n_O1 := Lib.hid (own_below O1.out hb5)
          have n_O2 := Lib.hid (own_below O2.out hb5)
          have n_O3 := Lib.hid (own_below O3.out hb5)
          have n_O4 := Lib.hid (own_below O4.out hb5)
          clear hb5 H2 H3 HK O1 O2 O3 O4
          have H2 := n_H2
          have H3 := n_H3
          have HK := n_HK
          have O1 := n_O1
          have O2 := n_O2
          have O3 := n_O3
          have O4 := n_O4
          clear n_H2 n_H3 n_HK n_O1 n_O2 n_O3 n_O4
          generalize u102.alloc (.cells #[.int .i64 0, .int .i64 0, .int .u64 0, .int .u64 0, .int .u32 0, .int .i64 0, .int .i64 0, .string ⟨#[]⟩, .string ⟨#[]⟩, .int .i64 0, .int .i64 0, .string ⟨#[]⟩, .int .u32 0, .int .i64 0, .bool false, .slice none 0 0, .slice none 0 0] 47) = u103 at *
          generalize u102.heap.size = g5 at *
          have H5 := Lib.hid hL
          clear hL
          refine hK.out _ _ ⟨H2.out, H3.out⟩ (fun hHeld => ?_)
          clear hK K hHeld
          refine norm_ (a' := ?_) ?_ ?_
          rotate_left
          · show Act.put _ (some 5) _ = _
            simp only [Act.put, List.setIfInBounds_toArray, List.set_cons_zero, List.set_cons_succ]
            rfl
          refine one_ (i := 5) (N := some 6) #[true, true, true, true, true, true, false, false] rfl rfl (by kernel_rfl) (by decide) (fun K hK => ?_)
          refine value_ (w1 := u103.alloc (.cells #[.int .i64 0, .int .i64 0, .int .u64 0, .int .u64 0, .int .u32 0, .int .i64 0, .int .i64 0, .string ⟨#[]⟩, .string ⟨#[]⟩, .int .i64 0, .int .i64 0, .string ⟨#[]⟩, .int .u32 0, .int .i64 0, .bool false, .slice none 0 0, .slice none 0 0] 47)) (v := .pointer (some ⟨u103.heap.size, 0, none⟩)) (by rfl) rfl (by go_simp) ?_
          have hb5 := balloc (Below.refl u103.heap.size u103) (.cells #[.int .i64 0, .int .i64 0, .int .u64 0, .int .u64 0, .int .u32 0, .int .i64 0, .int .i64 0, .string ⟨#[]⟩, .string ⟨#[]⟩, .int .i64 0, .int .i64 0, .string ⟨#[]⟩, .int .u32 0, .int .i64 0, .bool false, .slice none 0 0, .slice none 0 0] 47)
          have hL := Blk.new u103 47 #[.int .i64 0, .int .i64 0, .int .u64 0, .int .u64 0, .int .u32 0, .int .i64 0, .int .i64 0, .string ⟨#[]⟩, .string ⟨#[]⟩, .int .i64 0, .int .i64 0, .string ⟨#[]⟩, .int .u32 0, .int .i64 0, .bool false, .slice none 0 0, .slice none 0 0]
          have HG6 := Lib.hid HK.out.size
          have HG6b := Lib.hid (show w.heap.size + 1 < u103.heap.size from H3.out.lt)
          have HNN := Lib.hid (Nat.ne_of_lt H5.out.lt)
          have n_H2 := Lib.hid (H2.out.step hb5)
          have n_H3 := Lib.hid (H3.out.step hb5)
          have n_HK := Lib.hid (bstep HK.out hb5)
          have n_O1 := Lib.hid (own_below O1.out hb5)
          have n_O2 := Lib.hid (own_below O2.out hb5)
          have n_O3 := Lib.hid (own_below O3.out hb5)
          have n_O4 := Lib.hid (own_below O4.out hb5)
          have n_H5 := Lib.hid (H5.out.step hb5)
          clear hb5 H2 H3 HK O1 O2 O3 O4 H5
          have H2 := n_H2
          have H3 := n_H3
          have HK := n_HK
          have O1 := n_O1
          have O2 := n_O2
          have O3 := n_O3
          have O4 := n_O4
          have H5 := n_H5
          clear n_H2 n_H3 n_HK n_O1 n_O2 n_O3 n_O4 n_H5
          generalize u103.alloc (.cells #[.int .i64 0, .int .i64 0, .int .u64 0, .int .u64 0, .int .u32 0, .int .i64 0, .int .i64 0, .string ⟨#[]⟩, .string ⟨#[]⟩, .int .i64 0, .int .i64 0, .string ⟨#[]⟩, .int .u32 0, .int .i64 0, .bool false, .slice none 0 0, .slice none 0 0] 47) = u104 at *
          generalize u103.heap.size = g6 at *
          have H6 := Lib.hid hL
          clear hL
          refine hK.out _ _ ⟨H2.out, H3.out⟩ (fun hHeld => ?_)
          clear hK K hHeld
          refine norm_ (a' := ?_) ?_ ?_
          rotate_left
          · show Act.put _ (some 6) _ = _
            simp only [Act.put, List.setIfInBounds_toArray, List.set_cons_zero, List.set_cons_succ]
            rfl
          skip
          obtain ⟨A1, c1, rfl⟩ := own_sl O1.out
          obtain ⟨B1, d1, rfl⟩ := own_sl O2.out
          obtain ⟨A2, c2, rfl⟩ := own_sl O3.out
          obtain ⟨B2, d2, rfl⟩ := own_sl O4.out
          refine last_ (i := 6) (N := none) #[true, true, true, true, true, true, true, false] rfl rfl (by kernel_rfl) (by decide) (fun K hK => ?_)
          refine skip_ (w1 := u104.setRow g5 (rcs r (.slice A1 r.txs.length c1) (.slice B1 r.dirty.length d1))) (by rfl) rfl (run_store_row 47 (.tmp 5) (.tmp 11) rfl g5 (rcs r (.slice A1 r.txs.length c1) (.slice B1 r.dirty.length d1)) rfl rfl 47 _ H5.out (by kernel_rfl) rfl (by simp [rcs, Value.oneCell'])) ?_
          refine hK.out _ _ ?_
          clear hK K
          have n_H := Lib.hid (blk_setRow (cs' := (rcs r (.slice A1 r.txs.length c1) (.slice B1 r.dirty.length d1))) H5.out)
          have n_o := Lib.hid (blk_setRow_far H6.out (rcs r (.slice A1 r.txs.length c1) (.slice B1 r.dirty.length d1)) (show g6 ≠ g5 by have h_ := HNN.out; omega))
          have n_2 := Lib.hid (blk_setRow_far H2.out (rcs r (.slice A1 r.txs.length c1) (.slice B1 r.dirty.length d1)) (show w.heap.size ≠ g5 by have h_ := HG5b.out; omega))
          have n_3 := Lib.hid (blk_setRow_far H3.out (rcs r (.slice A1 r.txs.length c1) (.slice B1 r.dirty.length d1)) (show w.heap.size + 1 ≠ g5 by have h_ := HG5b.out; omega))
          have n_O1 := Lib.hid (own_setRow (T := 47) (g := g5) (cs' := (rcs r (.slice A1 r.txs.length c1) (.slice B1 r.dirty.length d1))) O1.out H5.out (by decide))
          have n_O2 := Lib.hid (own_setRow (T := 47) (g := g5) (cs' := (rcs r (.slice A1 r.txs.length c1) (.slice B1 r.dirty.length d1))) O2.out H5.out (by decide))
          have n_O3 := Lib.hid (own_setRow (T := 47) (g := g5) (cs' := (rcs r (.slice A1 r.txs.length c1) (.slice B1 r.dirty.length d1))) O3.out H5.out (by decide))
          have n_O4 := Lib.hid (own_setRow (T := 47) (g := g5) (cs' := (rcs r (.slice A1 r.txs.length c1) (.slice B1 r.dirty.length d1))) O4.out H5.out (by decide))
          have n_K := Lib.hid (setRow_below HK.out HG5.out (rcs r (.slice A1 r.txs.length c1) (.slice B1 r.dirty.length d1)))
          generalize u104.setRow g5 (rcs r (.slice A1 r.txs.length c1) (.slice B1 r.dirty.length d1)) = u105 at *
          clear H2 H3 H5 H6 O1 O2 O3 O4 HK
          have H5 := n_H
          have H6 := n_o
          have H2 := n_2
          have H3 := n_3
          have O1 := n_O1
          have O2 := n_O2
          have O3 := n_O3
          have O4 := n_O4
          have HK := n_K
          clear n_H n_o n_2 n_3 n_O1 n_O2 n_O3 n_O4 n_K
          refine last_ (i := 7) (N := none) #[true, true, true, true, true, true, true, true] rfl rfl (by kernel_rfl) (by decide) (fun K hK => ?_)
          refine skip_ (w1 := u105.setRow g6 (rcs s (.slice A2 s.txs.length c2) (.slice B2 s.dirty.length d2))) (by rfl) rfl (run_store_row 47 (.tmp 6) (.tmp 13) rfl g6 (rcs s (.slice A2 s.txs.length c2) (.slice B2 s.dirty.length d2)) rfl rfl 47 _ H6.out (by kernel_rfl) rfl (by simp [rcs, Value.oneCell'])) ?_
          refine hK.out _ _ ?_
          clear hK K
          have n_H := Lib.hid (blk_setRow (cs' := (rcs s (.slice A2 s.txs.length c2) (.slice B2 s.dirty.length d2))) H6.out)
          have n_o := Lib.hid (blk_setRow_far H5.out (rcs s (.slice A2 s.txs.length c2) (.slice B2 s.dirty.length d2)) (show g5 ≠ g6 by have h_ := HNN.out; omega))
          have n_2 := Lib.hid (blk_setRow_far H2.out (rcs s (.slice A2 s.txs.length c2) (.slice B2 s.dirty.length d2)) (show w.heap.size ≠ g6 by have h_ := HG6b.out; omega))
          have n_3 := Lib.hid (blk_setRow_far H3.out (rcs s (.slice A2 s.txs.length c2) (.slice B2 s.dirty.length d2)) (show w.heap.size + 1 ≠ g6 by have h_ := HG6b.out; omega))
          have n_O1 := Lib.hid (own_setRow (T := 47) (g := g6) (cs' := (rcs s (.slice A2 s.txs.length c2) (.slice B2 s.dirty.length d2))) O1.out H6.out (by decide))
          have n_O2 := Lib.hid (own_setRow (T := 47) (g := g6) (cs' := (rcs s (.slice A2 s.txs.length c2) (.slice B2 s.dirty.length d2))) O2.out H6.out (by decide))
          have n_O3 := Lib.hid (own_setRow (T := 47) (g := g6) (cs' := (rcs s (.slice A2 s.txs.length c2) (.slice B2 s.dirty.length d2))) O3.out H6.out (by decide))
          have n_O4 := Lib.hid (own_setRow (T := 47) (g := g6) (cs' := (rcs s (.slice A2 s.txs.length c2) (.slice B2 s.dirty.length d2))) O4.out H6.out (by decide))
          have n_K := Lib.hid (setRow_below HK.out HG6.out (rcs s (.slice A2 s.txs.length c2) (.slice B2 s.dirty.length d2)))
          generalize u105.setRow g6 (rcs s (.slice A2 s.txs.length c2) (.slice B2 s.dirty.length d2)) = u106 at *
          clear H2 H3 H5 H6 O1 O2 O3 O4 HK
          have H6 := n_H
          have H5 := n_o
          have H2 := n_2
          have H3 := n_3
          have O1 := n_O1
          have O2 := n_O2
          have O3 := n_O3
          have O4 := n_O4
          have HK := n_K
          clear n_H n_o n_2 n_3 n_O1 n_O2 n_O3 n_O4 n_K
          refine done_ (by kernel_rfl) ?_
          go_wp2_with fail
          go_meet
          exact ⟨g5, g6, A1, c1, B1, d1, A2, c2, B2, d2, rfl, rfl, H2, H3, H5, H6, Lib.hid (own_rdr (fun _ => rfl) O1.out), Lib.hid (own_rdr (fun _ => rfl) O2.out), Lib.hid (own_rdr (fun _ => rfl) O3.out), Lib.hid (own_rdr (fun _ => rfl) O4.out), HK⟩
        · refine value_ (w1 := u102.alloc (.cells #[.int .i64 0, .int .i64 0, .int .u64 0, .int .u64 0, .int .u32 0, .int .i64 0, .int .i64 0, .string ⟨#[]⟩, .string ⟨#[]⟩, .int .i64 0, .int .i64 0, .string ⟨#[]⟩, .int .u32 0, .int .i64 0, .bool false, .slice none 0 0, .slice none 0 0] 47)) (v := .pointer (some ⟨u102.heap.size, 0, none⟩)) (by rfl) rfl (by go_simp) ?_
          have hb5 := balloc (Below.refl u102.heap.size u102) (.cells #[.int .i64 0, .int .i64 0, .int .u64 0, .int .u64 0, .int .u32 0, .int .i64 0, .int .i64 0, .string ⟨#[]⟩, .string ⟨#[]⟩, .int .i64 0, .int .i64 0, .string ⟨#[]⟩, .int .u32 0, .int .i64 0, .bool false, .slice none 0 0, .slice none 0 0] 47)
          have hL := Blk.new u102 47 #[.int .i64 0, .int .i64 0, .int .u64 0, .int .u64 0, .int .u32 0, .int .i64 0, .int .i64 0, .string ⟨#[]⟩, .string ⟨#[]⟩, .int .i64 0, .int .i64 0, .string ⟨#[]⟩, .int .u32 0, .int .i64 0, .bool false, .slice none 0 0, .slice none 0 0]
          have HG6 := Lib.hid HK.out.size
          have HG6b := Lib.hid (show w.heap.size + 1 < u102.heap.size from H3.out.lt)
          have n_H2 := Lib.hid (H2.out.step hb5)
          have n_H3 := Lib.hid (H3.out.step hb5)
          have n_HK := Lib.hid (bstep HK.out hb5)
          have n_O1 := Lib.hid (own_below O1.out hb5)
          have n_O2 := Lib.hid (own_below O2.out hb5)
          have n_O3 := Lib.hid (own_below O3.out hb5)
          have n_O4 := Lib.hid (own_below O4.out hb5)
          clear hb5 H2 H3 HK O1 O2 O3 O4
          have H2 := n_H2
          have H3 := n_H3
          have HK := n_HK
          have O1 := n_O1
          have O2 := n_O2
          have O3 := n_O3
          have O4 := n_O4
          clear n_H2 n_H3 n_HK n_O1 n_O2 n_O3 n_O4
          generalize u102.alloc (.cells #[.int .i64 0, .int .i64 0, .int .u64 0, .int .u64 0, .int .u32 0, .int .i64 0, .int .i64 0, .string ⟨#[]⟩, .string ⟨#[]⟩, .int .i64 0, .int .i64 0, .string ⟨#[]⟩, .int .u32 0, .int .i64 0, .bool false, .slice none 0 0, .slice none 0 0] 47) = u107 at *
          generalize u102.heap.size = g6 at *
          have H6 := Lib.hid hL
          clear hL
          refine hK.out _ _ ⟨H2.out, H3.out⟩ (fun hHeld => ?_)
          clear hK K hHeld
          refine norm_ (a' := ?_) ?_ ?_
          rotate_left
          · show Act.put _ (some 6) _ = _
            simp only [Act.put, List.setIfInBounds_toArray, List.set_cons_zero, List.set_cons_succ]
            rfl
          refine one_ (i := 4) (N := some 5) #[true, true, true, true, true, true, false, false] rfl rfl (by kernel_rfl) (by decide) (fun K hK => ?_)
          refine value_ (w1 := u107.alloc (.cells #[.int .i64 0, .int .i64 0, .int .u64 0, .int .u64 0, .int .u32 0, .int .i64 0, .int .i64 0, .string ⟨#[]⟩, .string ⟨#[]⟩, .int .i64 0, .int .i64 0, .string ⟨#[]⟩, .int .u32 0, .int .i64 0, .bool false, .slice none 0 0, .slice none 0 0] 47)) (v := .pointer (some ⟨u107.heap.size, 0, none⟩)) (by rfl) rfl (by go_simp) ?_
          have hb5 := balloc (Below.refl u107.heap.size u107) (.cells #[.int .i64 0, .int .i64 0, .int .u64 0, .int .u64 0, .int .u32 0, .int .i64 0, .int .i64 0, .string ⟨#[]⟩, .string ⟨#[]⟩, .int .i64 0, .int .i64 0, .string ⟨#[]⟩, .int .u32 0, .int .i64 0, .bool false, .slice none 0 0, .slice none 0 0] 47)
          have hL := Blk.new u107 47 #[.int .i64 0, .int .i64 0, .int .u64 0, .int .u64 0, .int .u32 0, .int .i64 0, .int .i64 0, .string ⟨#[]⟩, .string ⟨#[]⟩, .int .i64 0, .int .i64 0, .string ⟨#[]⟩, .int .u32 0, .int .i64 0, .bool false, .slice none 0 0, .slice none 0 0]
          have HG5 := Lib.hid HK.out.size
          have HG5b := Lib.hid (show w.heap.size + 1 < u107.heap.size from H3.out.lt)
          have HNN := Lib.hid (Nat.ne_of_lt H6.out.lt)
          have n_H2 := Lib.hid (H2.out.step hb5)
          have n_H3 := Lib.hid (H3.out.step hb5)
          have n_HK := Lib.hid (bstep HK.out hb5)
          have n_O1 := Lib.hid (own_below O1.out hb5)
          have n_O2 := Lib.hid (own_below O2.out hb5)
          have n_O3 := Lib.hid (own_below O3.out hb5)
          have n_O4 := Lib.hid (own_below O4.out hb5)
          have n_H6 := Lib.hid (H6.out.step hb5)
          clear hb5 H2 H3 HK O1 O2 O3 O4 H6
          have H2 := n_H2
          have H3 := n_H3
          have HK := n_HK
          have O1 := n_O1
          have O2 := n_O2
          have O3 := n_O3
          have O4 := n_O4
          have H6 := n_H6
          clear n_H2 n_H3 n_HK n_O1 n_O2 n_O3 n_O4 n_H6
          generalize u107.alloc (.cells #[.int .i64 0, .int .i64 0, .int .u64 0, .int .u64 0, .int .u32 0, .int .i64 0, .int .i64 0, .string ⟨#[]⟩, .string ⟨#[]⟩, .int .i64 0, .int .i64 0, .string ⟨#[]⟩, .int .u32 0, .int .i64 0, .bool false, .slice none 0 0, .slice none 0 0] 47) = u108 at *
          generalize u107.heap.size = g5 at *
          have H5 := Lib.hid hL
          clear hL
          refine hK.out _ _ ⟨H2.out, H3.out⟩ (fun hHeld => ?_)
          clear hK K hHeld
          refine norm_ (a' := ?_) ?_ ?_
          rotate_left
          · show Act.put _ (some 5) _ = _
            simp only [Act.put, List.setIfInBounds_toArray, List.set_cons_zero, List.set_cons_succ]
            rfl
          skip
          obtain ⟨A1, c1, rfl⟩ := own_sl O1.out
          obtain ⟨B1, d1, rfl⟩ := own_sl O2.out
          obtain ⟨A2, c2, rfl⟩ := own_sl O3.out
          obtain ⟨B2, d2, rfl⟩ := own_sl O4.out
          refine last_ (i := 6) (N := none) #[true, true, true, true, true, true, true, false] rfl rfl (by kernel_rfl) (by decide) (fun K hK => ?_)
          refine skip_ (w1 := u108.setRow g5 (rcs r (.slice A1 r.txs.length c1) (.slice B1 r.dirty.length d1))) (by rfl) rfl (run_store_row 47 (.tmp 5) (.tmp 11) rfl g5 (rcs r (.slice A1 r.txs.length c1) (.slice B1 r.dirty.length d1)) rfl rfl 47 _ H5.out (by kernel_rfl) rfl (by simp [rcs, Value.oneCell'])) ?_
          refine hK.out _ _ ?_
          clear hK K
          have n_H := Lib.hid (blk_setRow (cs' := (rcs r (.slice A1 r.txs.length c1) (.slice B1 r.dirty.length d1))) H5.out)
          have n_o := Lib.hid (blk_setRow_far H6.out (rcs r (.slice A1 r.txs.length c1) (.slice B1 r.dirty.length d1)) (show g6 ≠ g5 by have h_ := HNN.out; omega))
          have n_2 := Lib.hid (blk_setRow_far H2.out (rcs r (.slice A1 r.txs.length c1) (.slice B1 r.dirty.length d1)) (show w.heap.size ≠ g5 by have h_ := HG5b.out; omega))
          have n_3 := Lib.hid (blk_setRow_far H3.out (rcs r (.slice A1 r.txs.length c1) (.slice B1 r.dirty.length d1)) (show w.heap.size + 1 ≠ g5 by have h_ := HG5b.out; omega))
          have n_O1 := Lib.hid (own_setRow (T := 47) (g := g5) (cs' := (rcs r (.slice A1 r.txs.length c1) (.slice B1 r.dirty.length d1))) O1.out H5.out (by decide))
          have n_O2 := Lib.hid (own_setRow (T := 47) (g := g5) (cs' := (rcs r (.slice A1 r.txs.length c1) (.slice B1 r.dirty.length d1))) O2.out H5.out (by decide))
          have n_O3 := Lib.hid (own_setRow (T := 47) (g := g5) (cs' := (rcs r (.slice A1 r.txs.length c1) (.slice B1 r.dirty.length d1))) O3.out H5.out (by decide))
          have n_O4 := Lib.hid (own_setRow (T := 47) (g := g5) (cs' := (rcs r (.slice A1 r.txs.length c1) (.slice B1 r.dirty.length d1))) O4.out H5.out (by decide))
          have n_K := Lib.hid (setRow_below HK.out HG5.out (rcs r (.slice A1 r.txs.length c1) (.slice B1 r.dirty.length d1)))
          generalize u108.setRow g5 (rcs r (.slice A1 r.txs.length c1) (.slice B1 r.dirty.length d1)) = u109 at *
          clear H2 H3 H5 H6 O1 O2 O3 O4 HK
          have H5 := n_H
          have H6 := n_o
          have H2 := n_2
          have H3 := n_3
          have O1 := n_O1
          have O2 := n_O2
          have O3 := n_O3
          have O4 := n_O4
          have HK := n_K
          clear n_H n_o n_2 n_3 n_O1 n_O2 n_O3 n_O4 n_K
          refine last_ (i := 7) (N := none) #[true, true, true, true, true, true, true, true] rfl rfl (by kernel_rfl) (by decide) (fun K hK => ?_)
          refine skip_ (w1 := u109.setRow g6 (rcs s (.slice A2 s.txs.length c2) (.slice B2 s.dirty.length d2))) (by rfl) rfl (run_store_row 47 (.tmp 6) (.tmp 13) rfl g6 (rcs s (.slice A2 s.txs.length c2) (.slice B2 s.dirty.length d2)) rfl rfl 47 _ H6.out (by kernel_rfl) rfl (by simp [rcs, Value.oneCell'])) ?_
          refine hK.out _ _ ?_
          clear hK K
          have n_H := Lib.hid (blk_setRow (cs' := (rcs s (.slice A2 s.txs.length c2) (.slice B2 s.dirty.length d2))) H6.out)
          have n_o := Lib.hid (blk_setRow_far H5.out (rcs s (.slice A2 s.txs.length c2) (.slice B2 s.dirty.length d2)) (show g5 ≠ g6 by have h_ := HNN.out; omega))
          have n_2 := Lib.hid (blk_setRow_far H2.out (rcs s (.slice A2 s.txs.length c2) (.slice B2 s.dirty.length d2)) (show w.heap.size ≠ g6 by have h_ := HG6b.out; omega))
          have n_3 := Lib.hid (blk_setRow_far H3.out (rcs s (.slice A2 s.txs.length c2) (.slice B2 s.dirty.length d2)) (show w.heap.size + 1 ≠ g6 by have h_ := HG6b.out; omega))
          have n_O1 := Lib.hid (own_setRow (T := 47) (g := g6) (cs' := (rcs s (.slice A2 s.txs.length c2) (.slice B2 s.dirty.length d2))) O1.out H6.out (by decide))
          have n_O2 := Lib.hid (own_setRow (T := 47) (g := g6) (cs' := (rcs s (.slice A2 s.txs.length c2) (.slice B2 s.dirty.length d2))) O2.out H6.out (by decide))
          have n_O3 := Lib.hid (own_setRow (T := 47) (g := g6) (cs' := (rcs s (.slice A2 s.txs.length c2) (.slice B2 s.dirty.length d2))) O3.out H6.out (by decide))
          have n_O4 := Lib.hid (own_setRow (T := 47) (g := g6) (cs' := (rcs s (.slice A2 s.txs.length c2) (.slice B2 s.dirty.length d2))) O4.out H6.out (by decide))
          have n_K := Lib.hid (setRow_below HK.out HG6.out (rcs s (.slice A2 s.txs.length c2) (.slice B2 s.dirty.length d2)))
          generalize u109.setRow g6 (rcs s (.slice A2 s.txs.length c2) (.slice B2 s.dirty.length d2)) = u110 at *
          clear H2 H3 H5 H6 O1 O2 O3 O4 HK
          have H6 := n_H
          have H5 := n_o
          have H2 := n_2
          have H3 := n_3
          have O1 := n_O1
          have O2 := n_O2
          have O3 := n_O3
          have O4 := n_O4
          have HK := n_K
          clear n_H n_o n_2 n_3 n_O1 n_O2 n_O3 n_O4 n_K
          refine done_ (by kernel_rfl) ?_
          go_wp2_with fail
          go_meet
          exact ⟨g5, g6, A1, c1, B1, d1, A2, c2, B2, d2, rfl, rfl, H2, H3, H5, H6, Lib.hid (own_rdr (fun _ => rfl) O1.out), Lib.hid (own_rdr (fun _ => rfl) O2.out), Lib.hid (own_rdr (fun _ => rfl) O3.out), Lib.hid (own_rdr (fun _ => rfl) O4.out), HK⟩
      · refine value_ (w1 := u101.alloc (.cells #[.int .i64 0, .int .i64 0, .int .u64 0, .int .u64 0, .int .u32 0, .int .i64 0, .int .i64 0, .string ⟨#[]⟩, .string ⟨#[]⟩, .int .i64 0, .int .i64 0, .string ⟨#[]⟩, .int .u32 0, .int .i64 0, .bool false, .slice none 0 0, .slice none 0 0] 47)) (v := .pointer (some ⟨u101.heap.size, 0, none⟩)) (by rfl) rfl (by go_simp) ?_
        have hb5 := balloc (Below.refl u101.heap.size u101) (.cells #[.int .i64 0, .int .i64 0, .int .u64 0, .int .u64 0, .int .u32 0, .int .i64 0, .int .i64 0, .string ⟨#[]⟩, .string ⟨#[]⟩, .int .i64 0, .int .i64 0, .string ⟨#[]⟩, .int .u32 0, .int .i64 0, .bool false, .slice none 0 0, .slice none 0 0] 47)
        have hL := Blk.new u101 47 #[.int .i64 0, .int .i64 0, .int .u64 0, .int .u64 0, .int .u32 0, .int .i64 0, .int .i64 0, .string ⟨#[]⟩, .string ⟨#[]⟩, .int .i64 0, .int .i64 0, .string ⟨#[]⟩, .int .u32 0, .int .i64 0, .bool false, .slice none 0 0, .slice none 0 0]
        have HG5 := Lib.hid HK.out.size
        have HG5b := Lib.hid (show w.heap.size + 1 < u101.heap.size from H3.out.lt)
        have n_H2 := Lib.hid (H2.out.step hb5)
        have n_H3 := Lib.hid (H3.out.step hb5)
        have n_HK := Lib.hid (bstep HK.out hb5)
        have n_O1 := Lib.hid (own_below O1.out hb5)
        have n_O2 := Lib.hid (own_below O2.out hb5)
        clear hb5 H2 H3 HK O1 O2
        have H2 := n_H2
        have H3 := n_H3
        have HK := n_HK
        have O1 := n_O1
        have O2 := n_O2
        clear n_H2 n_H3 n_HK n_O1 n_O2
        generalize u101.alloc (.cells #[.int .i64 0, .int .i64 0, .int .u64 0, .int .u64 0, .int .u32 0, .int .i64 0, .int .i64 0, .string ⟨#[]⟩, .string ⟨#[]⟩, .int .i64 0, .int .i64 0, .string ⟨#[]⟩, .int .u32 0, .int .i64 0, .bool false, .slice none 0 0, .slice none 0 0] 47) = u111 at *
        generalize u101.heap.size = g5 at *
        have H5 := Lib.hid hL
        clear hL
        refine hK.out _ _ ⟨H2.out, H3.out⟩ (fun hHeld => ?_)
        clear hK K hHeld
        refine norm_ (a' := ?_) ?_ ?_
        rotate_left
        · show Act.put _ (some 5) _ = _
          simp only [Act.put, List.setIfInBounds_toArray, List.set_cons_zero, List.set_cons_succ]
          rfl
        refine two_ (i := 3) (j := 5) (Ni := some 13) (Nj := some 6) #[true, true, true, true, true, false, false, false] #[true, true, true, false, true, true, false, false] rfl rfl rfl rfl (by kernel_rfl) (by decide) (by decide) (fun K hK => ?_) (fun K hK => ?_)
        · refine goes_ Try.func13 (by kernel_rfl) rfl #[s.val A' c' B' d'] (by rfl) rfl rfl (by (try simp only [List.map_toArray, List.map_cons, List.map_nil]); first | done | rfl) ?_
          refine (ref_any s A' c' B' d' u111 (HS.out.below HK.out).rdA (HS.out.below HK.out).rdB HS.out.bA HS.out.bB).mono ?_
          rintro e_ u112 ⟨⟨v3, v4, rfl, ho1, ho2⟩, hb5⟩
          have O3 := Lib.hid (own_le ho1 HK.out.size)
          have O4 := Lib.hid (own_le ho2 HK.out.size)
          clear ho1 ho2
          have n_H2 := Lib.hid (H2.out.step hb5)
          have n_H3 := Lib.hid (H3.out.step hb5)
          have n_HK := Lib.hid (bstep HK.out hb5)
          have n_O1 := Lib.hid (own_below O1.out hb5)
          have n_O2 := Lib.hid (own_below O2.out hb5)
          have n_H5 := Lib.hid (H5.out.step hb5)
          clear hb5 H2 H3 HK O1 O2 H5
          have H2 := n_H2
          have H3 := n_H3
          have HK := n_HK
          have O1 := n_O1
          have O2 := n_O2
          have H5 := n_H5
          clear n_H2 n_H3 n_HK n_O1 n_O2 n_H5
          refine ⟨_, rfl, ?_⟩
          refine hK.out _ _ ⟨H2.out, H3.out⟩ (fun hHeld => ?_)
          clear hK K hHeld
          refine norm_ (a' := ?_) ?_ ?_
          rotate_left
          · show Act.put _ (some 13) _ = _
            simp only [Act.put, List.setIfInBounds_toArray, List.set_cons_zero, List.set_cons_succ]
            rfl
          refine one_ (i := 5) (N := some 6) #[true, true, true, true, true, true, false, false] rfl rfl (by kernel_rfl) (by decide) (fun K hK => ?_)
          refine value_ (w1 := u112.alloc (.cells #[.int .i64 0, .int .i64 0, .int .u64 0, .int .u64 0, .int .u32 0, .int .i64 0, .int .i64 0, .string ⟨#[]⟩, .string ⟨#[]⟩, .int .i64 0, .int .i64 0, .string ⟨#[]⟩, .int .u32 0, .int .i64 0, .bool false, .slice none 0 0, .slice none 0 0] 47)) (v := .pointer (some ⟨u112.heap.size, 0, none⟩)) (by rfl) rfl (by go_simp) ?_
          have hb5 := balloc (Below.refl u112.heap.size u112) (.cells #[.int .i64 0, .int .i64 0, .int .u64 0, .int .u64 0, .int .u32 0, .int .i64 0, .int .i64 0, .string ⟨#[]⟩, .string ⟨#[]⟩, .int .i64 0, .int .i64 0, .string ⟨#[]⟩, .int .u32 0, .int .i64 0, .bool false, .slice none 0 0, .slice none 0 0] 47)
          have hL := Blk.new u112 47 #[.int .i64 0, .int .i64 0, .int .u64 0, .int .u64 0, .int .u32 0, .int .i64 0, .int .i64 0, .string ⟨#[]⟩, .string ⟨#[]⟩, .int .i64 0, .int .i64 0, .string ⟨#[]⟩, .int .u32 0, .int .i64 0, .bool false, .slice none 0 0, .slice none 0 0]
          have HG6 := Lib.hid HK.out.size
          have HG6b := Lib.hid (show w.heap.size + 1 < u112.heap.size from H3.out.lt)
          have HNN := Lib.hid (Nat.ne_of_lt H5.out.lt)
          have n_H2 := Lib.hid (H2.out.step hb5)
          have n_H3 := Lib.hid (H3.out.step hb5)
          have n_HK := Lib.hid (bstep HK.out hb5)
          have n_O1 := Lib.hid (own_below O1.out hb5)
          have n_O2 := Lib.hid (own_below O2.out hb5)
          have n_H5 := Lib.hid (H5.out.step hb5)
          have n_O3 := Lib.hid (own_below O3.out hb5)
          have n_O4 := Lib.hid (own_below O4.out hb5)
          clear hb5 H2 H3 HK O1 O2 H5 O3 O4
          have H2 := n_H2
          have H3 := n_H3
          have HK := n_HK
          have O1 := n_O1
          have O2 := n_O2
          have H5 := n_H5
          have O3 := n_O3
          have O4 := n_O4
          clear n_H2 n_H3 n_HK n_O1 n_O2 n_H5 n_O3 n_O4
          generalize u112.alloc (.cells #[.int .i64 0, .int .i64 0, .int .u64 0, .int .u64 0, .int .u32 0, .int .i64 0, .int .i64 0, .string ⟨#[]⟩, .string ⟨#[]⟩, .int .i64 0, .int .i64 0, .string ⟨#[]⟩, .int .u32 0, .int .i64 0, .bool false, .slice none 0 0, .slice none 0 0] 47) = u113 at *
          generalize u112.heap.size = g6 at *
          have H6 := Lib.hid hL
          clear hL
          refine hK.out _ _ ⟨H2.out, H3.out⟩ (fun hHeld => ?_)
          clear hK K hHeld
          refine norm_ (a' := ?_) ?_ ?_
          rotate_left
          · show Act.put _ (some 6) _ = _
            simp only [Act.put, List.setIfInBounds_toArray, List.set_cons_zero, List.set_cons_succ]
            rfl
          skip
          obtain ⟨A1, c1, rfl⟩ := own_sl O1.out
          obtain ⟨B1, d1, rfl⟩ := own_sl O2.out
          obtain ⟨A2, c2, rfl⟩ := own_sl O3.out
          obtain ⟨B2, d2, rfl⟩ := own_sl O4.out
          refine last_ (i := 6) (N := none) #[true, true, true, true, true, true, true, false] rfl rfl (by kernel_rfl) (by decide) (fun K hK => ?_)
          refine skip_ (w1 := u113.setRow g5 (rcs r (.slice A1 r.txs.length c1) (.slice B1 r.dirty.length d1))) (by rfl) rfl (run_store_row 47 (.tmp 5) (.tmp 11) rfl g5 (rcs r (.slice A1 r.txs.length c1) (.slice B1 r.dirty.length d1)) rfl rfl 47 _ H5.out (by kernel_rfl) rfl (by simp [rcs, Value.oneCell'])) ?_
          refine hK.out _ _ ?_
          clear hK K
          have n_H := Lib.hid (blk_setRow (cs' := (rcs r (.slice A1 r.txs.length c1) (.slice B1 r.dirty.length d1))) H5.out)
          have n_o := Lib.hid (blk_setRow_far H6.out (rcs r (.slice A1 r.txs.length c1) (.slice B1 r.dirty.length d1)) (show g6 ≠ g5 by have h_ := HNN.out; omega))
          have n_2 := Lib.hid (blk_setRow_far H2.out (rcs r (.slice A1 r.txs.length c1) (.slice B1 r.dirty.length d1)) (show w.heap.size ≠ g5 by have h_ := HG5b.out; omega))
          have n_3 := Lib.hid (blk_setRow_far H3.out (rcs r (.slice A1 r.txs.length c1) (.slice B1 r.dirty.length d1)) (show w.heap.size + 1 ≠ g5 by have h_ := HG5b.out; omega))
          have n_O1 := Lib.hid (own_setRow (T := 47) (g := g5) (cs' := (rcs r (.slice A1 r.txs.length c1) (.slice B1 r.dirty.length d1))) O1.out H5.out (by decide))
          have n_O2 := Lib.hid (own_setRow (T := 47) (g := g5) (cs' := (rcs r (.slice A1 r.txs.length c1) (.slice B1 r.dirty.length d1))) O2.out H5.out (by decide))
          have n_O3 := Lib.hid (own_setRow (T := 47) (g := g5) (cs' := (rcs r (.slice A1 r.txs.length c1) (.slice B1 r.dirty.length d1))) O3.out H5.out (by decide))
          have n_O4 := Lib.hid (own_setRow (T := 47) (g := g5) (cs' := (rcs r (.slice A1 r.txs.length c1) (.slice B1 r.dirty.length d1))) O4.out H5.out (by decide))
          have n_K := Lib.hid (setRow_below HK.out HG5.out (rcs r (.slice A1 r.txs.length c1) (.slice B1 r.dirty.length d1)))
          generalize u113.setRow g5 (rcs r (.slice A1 r.txs.length c1) (.slice B1 r.dirty.length d1)) = u114 at *
          clear H2 H3 H5 H6 O1 O2 O3 O4 HK
          have H5 := n_H
          have H6 := n_o
          have H2 := n_2
          have H3 := n_3
          have O1 := n_O1
          have O2 := n_O2
          have O3 := n_O3
          have O4 := n_O4
          have HK := n_K
          clear n_H n_o n_2 n_3 n_O1 n_O2 n_O3 n_O4 n_K
          refine last_ (i := 7) (N := none) #[true, true, true, true, true, true, true, true] rfl rfl (by kernel_rfl) (by decide) (fun K hK => ?_)
          refine skip_ (w1 := u114.setRow g6 (rcs s (.slice A2 s.txs.length c2) (.slice B2 s.dirty.length d2))) (by rfl) rfl (run_store_row 47 (.tmp 6) (.tmp 13) rfl g6 (rcs s (.slice A2 s.txs.length c2) (.slice B2 s.dirty.length d2)) rfl rfl 47 _ H6.out (by kernel_rfl) rfl (by simp [rcs, Value.oneCell'])) ?_
          refine hK.out _ _ ?_
          clear hK K
          have n_H := Lib.hid (blk_setRow (cs' := (rcs s (.slice A2 s.txs.length c2) (.slice B2 s.dirty.length d2))) H6.out)
          have n_o := Lib.hid (blk_setRow_far H5.out (rcs s (.slice A2 s.txs.length c2) (.slice B2 s.dirty.length d2)) (show g5 ≠ g6 by have h_ := HNN.out; omega))
          have n_2 := Lib.hid (blk_setRow_far H2.out (rcs s (.slice A2 s.txs.length c2) (.slice B2 s.dirty.length d2)) (show w.heap.size ≠ g6 by have h_ := HG6b.out; omega))
          have n_3 := Lib.hid (blk_setRow_far H3.out (rcs s (.slice A2 s.txs.length c2) (.slice B2 s.dirty.length d2)) (show w.heap.size + 1 ≠ g6 by have h_ := HG6b.out; omega))
          have n_O1 := Lib.hid (own_setRow (T := 47) (g := g6) (cs' := (rcs s (.slice A2 s.txs.length c2) (.slice B2 s.dirty.length d2))) O1.out H6.out (by decide))
          have n_O2 := Lib.hid (own_setRow (T := 47) (g := g6) (cs' := (rcs s (.slice A2 s.txs.length c2) (.slice B2 s.dirty.length d2))) O2.out H6.out (by decide))
          have n_O3 := Lib.hid (own_setRow (T := 47) (g := g6) (cs' := (rcs s (.slice A2 s.txs.length c2) (.slice B2 s.dirty.length d2))) O3.out H6.out (by decide))
          have n_O4 := Lib.hid (own_setRow (T := 47) (g := g6) (cs' := (rcs s (.slice A2 s.txs.length c2) (.slice B2 s.dirty.length d2))) O4.out H6.out (by decide))
          have n_K := Lib.hid (setRow_below HK.out HG6.out (rcs s (.slice A2 s.txs.length c2) (.slice B2 s.dirty.length d2)))
          generalize u114.setRow g6 (rcs s (.slice A2 s.txs.length c2) (.slice B2 s.dirty.length d2)) = u115 at *
          clear H2 H3 H5 H6 O1 O2 O3 O4 HK
          have H6 := n_H
          have H5 := n_o
          have H2 := n_2
          have H3 := n_3
          have O1 := n_O1
          have O2 := n_O2
          have O3 := n_O3
          have O4 := n_O4
          have HK := n_K
          clear n_H n_o n_2 n_3 n_O1 n_O2 n_O3 n_O4 n_K
          refine done_ (by kernel_rfl) ?_
          go_wp2_with fail
          go_meet
          exact ⟨g5, g6, A1, c1, B1, d1, A2, c2, B2, d2, rfl, rfl, H2, H3, H5, H6, Lib.hid (own_rdr (fun _ => rfl) O1.out), Lib.hid (own_rdr (fun _ => rfl) O2.out), Lib.hid (own_rdr (fun _ => rfl) O3.out), Lib.hid (own_rdr (fun _ => rfl) O4.out), HK⟩
        · refine value_ (w1 := u111.alloc (.cells #[.int .i64 0, .int .i64 0, .int .u64 0, .int .u64 0, .int .u32 0, .int .i64 0, .int .i64 0, .string ⟨#[]⟩, .string ⟨#[]⟩, .int .i64 0, .int .i64 0, .string ⟨#[]⟩, .int .u32 0, .int .i64 0, .bool false, .slice none 0 0, .slice none 0 0] 47)) (v := .pointer (some ⟨u111.heap.size, 0, none⟩)) (by rfl) rfl (by go_simp) ?_
          have hb5 := balloc (Below.refl u111.heap.size u111) (.cells #[.int .i64 0, .int .i64 0, .int .u64 0, .int .u64 0, .int .u32 0, .int .i64 0, .int .i64 0, .string ⟨#[]⟩, .string ⟨#[]⟩, .int .i64 0, .int .i64 0, .string ⟨#[]⟩, .int .u32 0, .int .i64 0, .bool false, .slice none 0 0, .slice none 0 0] 47)
          have hL := Blk.new u111 47 #[.int .i64 0, .int .i64 0, .int .u64 0, .int .u64 0, .int .u32 0, .int .i64 0, .int .i64 0, .string ⟨#[]⟩, .string ⟨#[]⟩, .int .i64 0, .int .i64 0, .string ⟨#[]⟩, .int .u32 0, .int .i64 0, .bool false, .slice none 0 0, .slice none 0 0]
          have HG6 := Lib.hid HK.out.size
          have HG6b := Lib.hid (show w.heap.size + 1 < u111.heap.size from H3.out.lt)
          have HNN := Lib.hid (Nat.ne_of_lt H5.out.lt)
          have n_H2 := Lib.hid (H2.out.step hb5)
          have n_H3 := Lib.hid (H3.out.step hb5)
          have n_HK := Lib.hid (bstep HK.out hb5)
          have n_O1 := Lib.hid (own_below O1.out hb5)
          have n_O2 := Lib.hid (own_below O2.out hb5)
          have n_H5 := Lib.hid (H5.out.step hb5)
          clear hb5 H2 H3 HK O1 O2 H5
          have H2 := n_H2
          have H3 := n_H3
          have HK := n_HK
          have O1 := n_O1
          have O2 := n_O2
          have H5 := n_H5
          clear n_H2 n_H3 n_HK n_O1 n_O2 n_H5
          generalize u111.alloc (.cells #[.int .i64 0, .int .i64 0, .int .u64 0, .int .u64 0, .int .u32 0, .int .i64 0, .int .i64 0, .string ⟨#[]⟩, .string ⟨#[]⟩, .int .i64 0, .int .i64 0, .string ⟨#[]⟩, .int .u32 0, .int .i64 0, .bool false, .slice none 0 0, .slice none 0 0] 47) = u116 at *
          generalize u111.heap.size = g6 at *
          have H6 := Lib.hid hL
          clear hL
          refine hK.out _ _ ⟨H2.out, H3.out⟩ (fun hHeld => ?_)
          clear hK K hHeld
          refine norm_ (a' := ?_) ?_ ?_
          rotate_left
          · show Act.put _ (some 6) _ = _
            simp only [Act.put, List.setIfInBounds_toArray, List.set_cons_zero, List.set_cons_succ]
            rfl
          refine one_ (i := 3) (N := some 13) #[true, true, true, true, true, true, false, false] rfl rfl (by kernel_rfl) (by decide) (fun K hK => ?_)
          refine goes_ Try.func13 (by kernel_rfl) rfl #[s.val A' c' B' d'] (by rfl) rfl rfl (by (try simp only [List.map_toArray, List.map_cons, List.map_nil]); first | done | rfl) ?_
          refine (ref_any s A' c' B' d' u116 (HS.out.below HK.out).rdA (HS.out.below HK.out).rdB HS.out.bA HS.out.bB).mono ?_
          rintro e_ u117 ⟨⟨v3, v4, rfl, ho1, ho2⟩, hb5⟩
          have O3 := Lib.hid (own_le ho1 HK.out.size)
          have O4 := Lib.hid (own_le ho2 HK.out.size)
          clear ho1 ho2
          have n_H2 := Lib.hid (H2.out.step hb5)
          have n_H3 := Lib.hid (H3.out.step hb5)
          have n_HK := Lib.hid (bstep HK.out hb5)
          have n_O1 := Lib.hid (own_below O1.out hb5)
          have n_O2 := Lib.hid (own_below O2.out hb5)
          have n_H5 := Lib.hid (H5.out.step hb5)
          have n_H6 := Lib.hid (H6.out.step hb5)
          clear hb5 H2 H3 HK O1 O2 H5 H6
          have H2 := n_H2
          have H3 := n_H3
          have HK := n_HK
          have O1 := n_O1
          have O2 := n_O2
          have H5 := n_H5
          have H6 := n_H6
          clear n_H2 n_H3 n_HK n_O1 n_O2 n_H5 n_H6
          refine ⟨_, rfl, ?_⟩
          refine hK.out _ _ ⟨H2.out, H3.out⟩ (fun hHeld => ?_)
          clear hK K hHeld
          refine norm_ (a' := ?_) ?_ ?_
          rotate_left
          · show Act.put _ (some 13) _ = _
            simp only [Act.put, List.setIfInBounds_toArray, List.set_cons_zero, List.set_cons_succ]
            rfl
          skip
          obtain ⟨A1, c1, rfl⟩ := own_sl O1.out
          obtain ⟨B1, d1, rfl⟩ := own_sl O2.out
          obtain ⟨A2, c2, rfl⟩ := own_sl O3.out
          obtain ⟨B2, d2, rfl⟩ := own_sl O4.out
          refine last_ (i := 6) (N := none) #[true, true, true, true, true, true, true, false] rfl rfl (by kernel_rfl) (by decide) (fun K hK => ?_)
          refine skip_ (w1 := u117.setRow g5 (rcs r (.slice A1 r.txs.length c1) (.slice B1 r.dirty.length d1))) (by rfl) rfl (run_store_row 47 (.tmp 5) (.tmp 11) rfl g5 (rcs r (.slice A1 r.txs.length c1) (.slice B1 r.dirty.length d1)) rfl rfl 47 _ H5.out (by kernel_rfl) rfl (by simp [rcs, Value.oneCell'])) ?_
          refine hK.out _ _ ?_
          clear hK K
          have n_H := Lib.hid (blk_setRow (cs' := (rcs r (.slice A1 r.txs.length c1) (.slice B1 r.dirty.length d1))) H5.out)
          have n_o := Lib.hid (blk_setRow_far H6.out (rcs r (.slice A1 r.txs.length c1) (.slice B1 r.dirty.length d1)) (show g6 ≠ g5 by have h_ := HNN.out; omega))
          have n_2 := Lib.hid (blk_setRow_far H2.out (rcs r (.slice A1 r.txs.length c1) (.slice B1 r.dirty.length d1)) (show w.heap.size ≠ g5 by have h_ := HG5b.out; omega))
          have n_3 := Lib.hid (blk_setRow_far H3.out (rcs r (.slice A1 r.txs.length c1) (.slice B1 r.dirty.length d1)) (show w.heap.size + 1 ≠ g5 by have h_ := HG5b.out; omega))
          have n_O1 := Lib.hid (own_setRow (T := 47) (g := g5) (cs' := (rcs r (.slice A1 r.txs.length c1) (.slice B1 r.dirty.length d1))) O1.out H5.out (by decide))
          have n_O2 := Lib.hid (own_setRow (T := 47) (g := g5) (cs' := (rcs r (.slice A1 r.txs.length c1) (.slice B1 r.dirty.length d1))) O2.out H5.out (by decide))
          have n_O3 := Lib.hid (own_setRow (T := 47) (g := g5) (cs' := (rcs r (.slice A1 r.txs.length c1) (.slice B1 r.dirty.length d1))) O3.out H5.out (by decide))
          have n_O4 := Lib.hid (own_setRow (T := 47) (g := g5) (cs' := (rcs r (.slice A1 r.txs.length c1) (.slice B1 r.dirty.length d1))) O4.out H5.out (by decide))
          have n_K := Lib.hid (setRow_below HK.out HG5.out (rcs r (.slice A1 r.txs.length c1) (.slice B1 r.dirty.length d1)))
          generalize u117.setRow g5 (rcs r (.slice A1 r.txs.length c1) (.slice B1 r.dirty.length d1)) = u118 at *
          clear H2 H3 H5 H6 O1 O2 O3 O4 HK
          have H5 := n_H
          have H6 := n_o
          have H2 := n_2
          have H3 := n_3
          have O1 := n_O1
          have O2 := n_O2
          have O3 := n_O3
          have O4 := n_O4
          have HK := n_K
          clear n_H n_o n_2 n_3 n_O1 n_O2 n_O3 n_O4 n_K
          refine last_ (i := 7) (N := none) #[true, true, true, true, true, true, true, true] rfl rfl (by kernel_rfl) (by decide) (fun K hK => ?_)
          refine skip_ (w1 := u118.setRow g6 (rcs s (.slice A2 s.txs.length c2) (.slice B2 s.dirty.length d2))) (by rfl) rfl (run_store_row 47 (.tmp 6) (.tmp 13) rfl g6 (rcs s (.slice A2 s.txs.length c2) (.slice B2 s.dirty.length d2)) rfl rfl 47 _ H6.out (by kernel_rfl) rfl (by simp [rcs, Value.oneCell'])) ?_
          refine hK.out _ _ ?_
          clear hK K
          have n_H := Lib.hid (blk_setRow (cs' := (rcs s (.slice A2 s.txs.length c2) (.slice B2 s.dirty.length d2))) H6.out)
          have n_o := Lib.hid (blk_setRow_far H5.out (rcs s (.slice A2 s.txs.length c2) (.slice B2 s.dirty.length d2)) (show g5 ≠ g6 by have h_ := HNN.out; omega))
          have n_2 := Lib.hid (blk_setRow_far H2.out (rcs s (.slice A2 s.txs.length c2) (.slice B2 s.dirty.length d2)) (show w.heap.size ≠ g6 by have h_ := HG6b.out; omega))
          have n_3 := Lib.hid (blk_setRow_far H3.out (rcs s (.slice A2 s.txs.length c2) (.slice B2 s.dirty.length d2)) (show w.heap.size + 1 ≠ g6 by have h_ := HG6b.out; omega))
          have n_O1 := Lib.hid (own_setRow (T := 47) (g := g6) (cs' := (rcs s (.slice A2 s.txs.length c2) (.slice B2 s.dirty.length d2))) O1.out H6.out (by decide))
          have n_O2 := Lib.hid (own_setRow (T := 47) (g := g6) (cs' := (rcs s (.slice A2 s.txs.length c2) (.slice B2 s.dirty.length d2))) O2.out H6.out (by decide))
          have n_O3 := Lib.hid (own_setRow (T := 47) (g := g6) (cs' := (rcs s (.slice A2 s.txs.length c2) (.slice B2 s.dirty.length d2))) O3.out H6.out (by decide))
          have n_O4 := Lib.hid (own_setRow (T := 47) (g := g6) (cs' := (rcs s (.slice A2 s.txs.length c2) (.slice B2 s.dirty.length d2))) O4.out H6.out (by decide))
          have n_K := Lib.hid (setRow_below HK.out HG6.out (rcs s (.slice A2 s.txs.length c2) (.slice B2 s.dirty.length d2)))
          generalize u118.setRow g6 (rcs s (.slice A2 s.txs.length c2) (.slice B2 s.dirty.length d2)) = u119 at *
          clear H2 H3 H5 H6 O1 O2 O3 O4 HK
          have H6 := n_H
          have H5 := n_o
          have H2 := n_2
          have H3 := n_3
          have O1 := n_O1
          have O2 := n_O2
          have O3 := n_O3
          have O4 := n_O4
          have HK := n_K
          clear n_H n_o n_2 n_3 n_O1 n_O2 n_O3 n_O4 n_K
          refine done_ (by kernel_rfl) ?_
          go_wp2_with fail
          go_meet
          exact ⟨g5, g6, A1, c1, B1, d1, A2, c2, B2, d2, rfl, rfl, H2, H3, H5, H6, Lib.hid (own_rdr (fun _ => rfl) O1.out), Lib.hid (own_rdr (fun _ => rfl) O2.out), Lib.hid (own_rdr (fun _ => rfl) O3.out), Lib.hid (own_rdr (fun _ => rfl) O4.out), HK⟩
      · refine value_ (w1 := u101.alloc (.cells #[.int .i64 0, .int .i64 0, .int .u64 0, .int .u64 0, .int .u32 0, .int .i64 0, .int .i64 0, .string ⟨#[]⟩, .string ⟨#[]⟩, .int .i64 0, .int .i64 0, .string ⟨#[]⟩, .int .u32 0, .int .i64 0, .bool false, .slice none 0 0, .slice none 0 0] 47)) (v := .pointer (some ⟨u101.heap.size, 0, none⟩)) (by rfl) rfl (by go_simp) ?_
        have hb5 := balloc (Below.refl u101.heap.size u101) (.cells #[.int .i64 0, .int .i64 0, .int .u64 0, .int .u64 0, .int .u32 0, .int .i64 0, .int .i64 0, .string ⟨#[]⟩, .string ⟨#[]⟩, .int .i64 0, .int .i64 0, .string ⟨#[]⟩, .int .u32 0, .int .i64 0, .bool false, .slice none 0 0, .slice none 0 0] 47)
        have hL := Blk.new u101 47 #[.int .i64 0, .int .i64 0, .int .u64 0, .int .u64 0, .int .u32 0, .int .i64 0, .int .i64 0, .string ⟨#[]⟩, .string ⟨#[]⟩, .int .i64 0, .int .i64 0, .string ⟨#[]⟩, .int .u32 0, .int .i64 0, .bool false, .slice none 0 0, .slice none 0 0]
        have HG6 := Lib.hid HK.out.size
        have HG6b := Lib.hid (show w.heap.size + 1 < u101.heap.size from H3.out.lt)
        have n_H2 := Lib.hid (H2.out.step hb5)
        have n_H3 := Lib.hid (H3.out.step hb5)
        have n_HK := Lib.hid (bstep HK.out hb5)
        have n_O1 := Lib.hid (own_below O1.out hb5)
        have n_O2 := Lib.hid (own_below O2.out hb5)
        clear hb5 H2 H3 HK O1 O2
        have H2 := n_H2
        have H3 := n_H3
        have HK := n_HK
        have O1 := n_O1
        have O2 := n_O2
        clear n_H2 n_H3 n_HK n_O1 n_O2
        generalize u101.alloc (.cells #[.int .i64 0, .int .i64 0, .int .u64 0, .int .u64 0, .int .u32 0, .int .i64 0, .int .i64 0, .string ⟨#[]⟩, .string ⟨#[]⟩, .int .i64 0, .int .i64 0, .string ⟨#[]⟩, .int .u32 0, .int .i64 0, .bool false, .slice none 0 0, .slice none 0 0] 47) = u120 at *
        generalize u101.heap.size = g6 at *
        have H6 := Lib.hid hL
        clear hL
        refine hK.out _ _ ⟨H2.out, H3.out⟩ (fun hHeld => ?_)
        clear hK K hHeld
        refine norm_ (a' := ?_) ?_ ?_
        rotate_left
        · show Act.put _ (some 6) _ = _
          simp only [Act.put, List.setIfInBounds_toArray, List.set_cons_zero, List.set_cons_succ]
          rfl
        refine two_ (i := 3) (j := 4) (Ni := some 13) (Nj := some 5) #[true, true, true, true, false, true, false, false] #[true, true, true, false, true, true, false, false] rfl rfl rfl rfl (by kernel_rfl) (by decide) (by decide) (fun K hK => ?_) (fun K hK => ?_)
        · refine goes_ Try.func13 (by kernel_rfl) rfl #[s.val A' c' B' d'] (by rfl) rfl rfl (by (try simp only [List.map_toArray, List.map_cons, List.map_nil]); first | done | rfl) ?_
          refine (ref_any s A' c' B' d' u120 (HS.out.below HK.out).rdA (HS.out.below HK.out).rdB HS.out.bA HS.out.bB).mono ?_
          rintro e_ u121 ⟨⟨v3, v4, rfl, ho1, ho2⟩, hb5⟩
          have O3 := Lib.hid (own_le ho1 HK.out.size)
          have O4 := Lib.hid (own_le ho2 HK.out.size)
          clear ho1 ho2
          have n_H2 := Lib.hid (H2.out.step hb5)
          have n_H3 := Lib.hid (H3.out.step hb5)
          have n_HK := Lib.hid (bstep HK.out hb5)
          have n_O1 := Lib.hid (own_below O1.out hb5)
          have n_O2 := Lib.hid (own_below O2.out hb5)
          have n_H6 := Lib.hid (H6.out.step hb5)
          clear hb5 H2 H3 HK O1 O2 H6
          have H2 := n_H2
          have H3 := n_H3
          have HK := n_HK
          have O1 := n_O1
          have O2 := n_O2
          have H6 := n_H6
          clear n_H2 n_H3 n_HK n_O1 n_O2 n_H6
          refine ⟨_, rfl, ?_⟩
          refine hK.out _ _ ⟨H2.out, H3.out⟩ (fun hHeld => ?_)
          clear hK K hHeld
          refine norm_ (a' := ?_) ?_ ?_
          rotate_left
          · show Act.put _ (some 13) _ = _
            simp only [Act.put, List.setIfInBounds_toArray, List.set_cons_zero, List.set_cons_succ]
            rfl
          refine one_ (i := 4) (N := some 5) #[true, true, true, true, true, true, false, false] rfl rfl (by kernel_rfl) (by decide) (fun K hK => ?_)
          refine value_ (w1 := u121.alloc (.cells #[.int .i64 0, .int .i64 0, .int .u64 0, .int .u64 0, .int .u32 0, .int .i64 0, .int .i64 0, .string ⟨#[]⟩, .string ⟨#[]⟩, .int .i64 0, .int .i64 0, .string ⟨#[]⟩, .int .u32 0, .int .i64 0, .bool false, .slice none 0 0, .slice none 0 0] 47)) (v := .pointer (some ⟨u121.heap.size, 0, none⟩)) (by rfl) rfl (by go_simp) ?_
          have hb5 := balloc (Below.refl u121.heap.size u121) (.cells #[.int .i64 0, .int .i64 0, .int .u64 0, .int .u64 0, .int .u32 0, .int .i64 0, .int .i64 0, .string ⟨#[]⟩, .string ⟨#[]⟩, .int .i64 0, .int .i64 0, .string ⟨#[]⟩, .int .u32 0, .int .i64 0, .bool false, .slice none 0 0, .slice none 0 0] 47)
          have hL := Blk.new u121 47 #[.int .i64 0, .int .i64 0, .int .u64 0, .int .u64 0, .int .u32 0, .int .i64 0, .int .i64 0, .string ⟨#[]⟩, .string ⟨#[]⟩, .int .i64 0, .int .i64 0, .string ⟨#[]⟩, .int .u32 0, .int .i64 0, .bool false, .slice none 0 0, .slice none 0 0]
          have HG5 := Lib.hid HK.out.size
          have HG5b := Lib.hid (show w.heap.size + 1 < u121.heap.size from H3.out.lt)
          have HNN := Lib.hid (Nat.ne_of_lt H6.out.lt)
          have n_H2 := Lib.hid (H2.out.step hb5)
          have n_H3 := Lib.hid (H3.out.step hb5)
          have n_HK := Lib.hid (bstep HK.out hb5)
          have n_O1 := Lib.hid (own_below O1.out hb5)
          have n_O2 := Lib.hid (own_below O2.out hb5)
          have n_H6 := Lib.hid (H6.out.step hb5)
          have n_O3 := Lib.hid (own_below O3.out hb5)
          have n_O4 := Lib.hid (own_below O4.out hb5)
          clear hb5 H2 H3 HK O1 O2 H6 O3 O4
          have H2 := n_H2
          have H3 := n_H3
          have HK := n_HK
          have O1 := n_O1
          have O2 := n_O2
          have H6 := n_H6
          have O3 := n_O3
          have O4 := n_O4
          clear n_H2 n_H3 n_HK n_O1 n_O2 n_H6 n_O3 n_O4
          generalize u121.alloc (.cells #[.int .i64 0, .int .i64 0, .int .u64 0, .int .u64 0, .int .u32 0, .int .i64 0, .int .i64 0, .string ⟨#[]⟩, .string ⟨#[]⟩, .int .i64 0, .int .i64 0, .string ⟨#[]⟩, .int .u32 0, .int .i64 0, .bool false, .slice none 0 0, .slice none 0 0] 47) = u122 at *
          generalize u121.heap.size = g5 at *
          have H5 := Lib.hid hL
          clear hL
          refine hK.out _ _ ⟨H2.out, H3.out⟩ (fun hHeld => ?_)
          clear hK K hHeld
          refine norm_ (a' := ?_) ?_ ?_
          rotate_left
          · show Act.put _ (some 5) _ = _
            simp only [Act.put, List.setIfInBounds_toArray, List.set_cons_zero, List.set_cons_succ]
            rfl
          skip
          obtain ⟨A1, c1, rfl⟩ := own_sl O1.out
          obtain ⟨B1, d1, rfl⟩ := own_sl O2.out
          obtain ⟨A2, c2, rfl⟩ := own_sl O3.out
          obtain ⟨B2, d2, rfl⟩ := own_sl O4.out
          refine last_ (i := 6) (N := none) #[true, true, true, true, true, true, true, false] rfl rfl (by kernel_rfl) (by decide) (fun K hK => ?_)
          refine skip_ (w1 := u122.setRow g5 (rcs r (.slice A1 r.txs.length c1) (.slice B1 r.dirty.length d1))) (by rfl) rfl (run_store_row 47 (.tmp 5) (.tmp 11) rfl g5 (rcs r (.slice A1 r.txs.length c1) (.slice B1 r.dirty.length d1)) rfl rfl 47 _ H5.out (by kernel_rfl) rfl (by simp [rcs, Value.oneCell'])) ?_
          refine hK.out _ _ ?_
          clear hK K
          have n_H := Lib.hid (blk_setRow (cs' := (rcs r (.slice A1 r.txs.length c1) (.slice B1 r.dirty.length d1))) H5.out)
          have n_o := Lib.hid (blk_setRow_far H6.out (rcs r (.slice A1 r.txs.length c1) (.slice B1 r.dirty.length d1)) (show g6 ≠ g5 by have h_ := HNN.out; omega))
          have n_2 := Lib.hid (blk_setRow_far H2.out (rcs r (.slice A1 r.txs.length c1) (.slice B1 r.dirty.length d1)) (show w.heap.size ≠ g5 by have h_ := HG5b.out; omega))
          have n_3 := Lib.hid (blk_setRow_far H3.out (rcs r (.slice A1 r.txs.length c1) (.slice B1 r.dirty.length d1)) (show w.heap.size + 1 ≠ g5 by have h_ := HG5b.out; omega))
          have n_O1 := Lib.hid (own_setRow (T := 47) (g := g5) (cs' := (rcs r (.slice A1 r.txs.length c1) (.slice B1 r.dirty.length d1))) O1.out H5.out (by decide))
          have n_O2 := Lib.hid (own_setRow (T := 47) (g := g5) (cs' := (rcs r (.slice A1 r.txs.length c1) (.slice B1 r.dirty.length d1))) O2.out H5.out (by decide))
          have n_O3 := Lib.hid (own_setRow (T := 47) (g := g5) (cs' := (rcs r (.slice A1 r.txs.length c1) (.slice B1 r.dirty.length d1))) O3.out H5.out (by decide))
          have n_O4 := Lib.hid (own_setRow (T := 47) (g := g5) (cs' := (rcs r (.slice A1 r.txs.length c1) (.slice B1 r.dirty.length d1))) O4.out H5.out (by decide))
          have n_K := Lib.hid (setRow_below HK.out HG5.out (rcs r (.slice A1 r.txs.length c1) (.slice B1 r.dirty.length d1)))
          generalize u122.setRow g5 (rcs r (.slice A1 r.txs.length c1) (.slice B1 r.dirty.length d1)) = u123 at *
          clear H2 H3 H5 H6 O1 O2 O3 O4 HK
          have H5 := n_H
          have H6 := n_o
          have H2 := n_2
          have H3 := n_3
          have O1 := n_O1
          have O2 := n_O2
          have O3 := n_O3
          have O4 := n_O4
          have HK := n_K
          clear n_H n_o n_2 n_3 n_O1 n_O2 n_O3 n_O4 n_K
          refine last_ (i := 7) (N := none) #[true, true, true, true, true, true, true, true] rfl rfl (by kernel_rfl) (by decide) (fun K hK => ?_)
          refine skip_ (w1 := u123.setRow g6 (rcs s (.slice A2 s.txs.length c2) (.slice B2 s.dirty.length d2))) (by rfl) rfl (run_store_row 47 (.tmp 6) (.tmp 13) rfl g6 (rcs s (.slice A2 s.txs.length c2) (.slice B2 s.dirty.length d2)) rfl rfl 47 _ H6.out (by kernel_rfl) rfl (by simp [rcs, Value.oneCell'])) ?_
          refine hK.out _ _ ?_
          clear hK K
          have n_H := Lib.hid (blk_setRow (cs' := (rcs s (.slice A2 s.txs.length c2) (.slice B2 s.dirty.length d2))) H6.out)
          have n_o := Lib.hid (blk_setRow_far H5.out (rcs s (.slice A2 s.txs.length c2) (.slice B2 s.dirty.length d2)) (show g5 ≠ g6 by have h_ := HNN.out; omega))
          have n_2 := Lib.hid (blk_setRow_far H2.out (rcs s (.slice A2 s.txs.length c2) (.slice B2 s.dirty.length d2)) (show w.heap.size ≠ g6 by have h_ := HG6b.out; omega))
          have n_3 := Lib.hid (blk_setRow_far H3.out (rcs s (.slice A2 s.txs.length c2) (.slice B2 s.dirty.length d2)) (show w.heap.size + 1 ≠ g6 by have h_ := HG6b.out; omega))
          have n_O1 := Lib.hid (own_setRow (T := 47) (g := g6) (cs' := (rcs s (.slice A2 s.txs.length c2) (.slice B2 s.dirty.length d2))) O1.out H6.out (by decide))
          have n_O2 := Lib.hid (own_setRow (T := 47) (g := g6) (cs' := (rcs s (.slice A2 s.txs.length c2) (.slice B2 s.dirty.length d2))) O2.out H6.out (by decide))
          have n_O3 := Lib.hid (own_setRow (T := 47) (g := g6) (cs' := (rcs s (.slice A2 s.txs.length c2) (.slice B2 s.dirty.length d2))) O3.out H6.out (by decide))
          have n_O4 := Lib.hid (own_setRow (T := 47) (g := g6) (cs' := (rcs s (.slice A2 s.txs.length c2) (.slice B2 s.dirty.length d2))) O4.out H6.out (by decide))
          have n_K := Lib.hid (setRow_below HK.out HG6.out (rcs s (.slice A2 s.txs.length c2) (.slice B2 s.dirty.length d2)))
          generalize u123.setRow g6 (rcs s (.slice A2 s.txs.length c2) (.slice B2 s.dirty.length d2)) = u124 at *
          clear H2 H3 H5 H6 O1 O2 O3 O4 HK
          have H6 := n_H
          have H5 := n_o
          have H2 := n_2
          have H3 := n_3
          have O1 := n_O1
          have O2 := n_O2
          have O3 := n_O3
          have O4 := n_O4
          have HK := n_K
          clear n_H n_o n_2 n_3 n_O1 n_O2 n_O3 n_O4 n_K
          refine done_ (by kernel_rfl) ?_
          go_wp2_with fail
          go_meet
          exact ⟨g5, g6, A1, c1, B1, d1, A2, c2, B2, d2, rfl, rfl, H2, H3, H5, H6, Lib.hid (own_rdr (fun _ => rfl) O1.out), Lib.hid (own_rdr (fun _ => rfl) O2.out), Lib.hid (own_rdr (fun _ => rfl) O3.out), Lib.hid (own_rdr (fun _ => rfl) O4.out), HK⟩
        · refine value_ (w1 := u120.alloc (.cells #[.int .i64 0, .int .i64 0, .int .u64 0, .int .u64 0, .int .u32 0, .int .i64 0, .int .i64 0, .string ⟨#[]⟩, .string ⟨#[]⟩, .int .i64 0, .int .i64 0, .string ⟨#[]⟩, .int .u32 0, .int .i64 0, .bool false, .slice none 0 0, .slice none 0 0] 47)) (v := .pointer (some ⟨u120.heap.size, 0, none⟩)) (by rfl) rfl (by go_simp) ?_
          have hb5 := balloc (Below.refl u120.heap.size u120) (.cells #[.int .i64 0, .int .i64 0, .int .u64 0, .int .u64 0, .int .u32 0, .int .i64 0, .int .i64 0, .string ⟨#[]⟩, .string ⟨#[]⟩, .int .i64 0, .int .i64 0, .string ⟨#[]⟩, .int .u32 0, .int .i64 0, .bool false, .slice none 0 0, .slice none 0 0] 47)
          have hL := Blk.new u120 47 #[.int .i64 0, .int .i64 0, .int .u64 0, .int .u64 0, .int .u32 0, .int .i64 0, .int .i64 0, .string ⟨#[]⟩, .string ⟨#[]⟩, .int .i64 0, .int .i64 0, .string ⟨#[]⟩, .int .u32 0, .int .i64 0, .bool false, .slice none 0 0, .slice none 0 0]
          have HG5 := Lib.hid HK.out.size
          have HG5b := Lib.hid (show w.heap.size + 1 < u120.heap.size from H3.out.lt)
          have HNN := Lib.hid (Nat.ne_of_lt H6.out.lt)
          have n_H2 := Lib.hid (H2.out.step hb5)
          have n_H3 := Lib.hid (H3.out.step hb5)
          have n_HK := Lib.hid (bstep HK.out hb5)
          have n_O1 := Lib.hid (own_below O1.out hb5)
          have n_O2 := Lib.hid (own_below O2.out hb5)
          have n_H6 := Lib.hid (H6.out.step hb5)
          clear hb5 H2 H3 HK O1 O2 H6
          have H2 := n_H2
          have H3 := n_H3
          have HK := n_HK
          have O1 := n_O1
          have O2 := n_O2
          have H6 := n_H6
          clear n_H2 n_H3 n_HK n_O1 n_O2 n_H6
          generalize u120.alloc (.cells #[.int .i64 0, .int .i64 0, .int .u64 0, .int .u64 0, .int .u32 0, .int .i64 0, .int .i64 0, .string ⟨#[]⟩, .string ⟨#[]⟩, .int .i64 0, .int .i64 0, .string ⟨#[]⟩, .int .u32 0, .int .i64 0, .bool false, .slice none 0 0, .slice none 0 0] 47) = u125 at *
          generalize u120.heap.size = g5 at *
          have H5 := Lib.hid hL
          clear hL
          refine hK.out _ _ ⟨H2.out, H3.out⟩ (fun hHeld => ?_)
          clear hK K hHeld
          refine norm_ (a' := ?_) ?_ ?_
          rotate_left
          · show Act.put _ (some 5) _ = _
            simp only [Act.put, List.setIfInBounds_toArray, List.set_cons_zero, List.set_cons_succ]
            rfl
          refine one_ (i := 3) (N := some 13) #[true, true, true, true, true, true, false, false] rfl rfl (by kernel_rfl) (by decide) (fun K hK => ?_)
          refine goes_ Try.func13 (by kernel_rfl) rfl #[s.val A' c' B' d'] (by rfl) rfl rfl (by (try simp only [List.map_toArray, List.map_cons, List.map_nil]); first | done | rfl) ?_
          refine (ref_any s A' c' B' d' u125 (HS.out.below HK.out).rdA (HS.out.below HK.out).rdB HS.out.bA HS.out.bB).mono ?_
          rintro e_ u126 ⟨⟨v3, v4, rfl, ho1, ho2⟩, hb5⟩
          have O3 := Lib.hid (own_le ho1 HK.out.size)
          have O4 := Lib.hid (own_le ho2 HK.out.size)
          clear ho1 ho2
          have n_H2 := Lib.hid (H2.out.step hb5)
          have n_H3 := Lib.hid (H3.out.step hb5)
          have n_HK := Lib.hid (bstep HK.out hb5)
          have n_O1 := Lib.hid (own_below O1.out hb5)
          have n_O2 := Lib.hid (own_below O2.out hb5)
          have n_H6 := Lib.hid (H6.out.step hb5)
          have n_H5 := Lib.hid (H5.out.step hb5)
          clear hb5 H2 H3 HK O1 O2 H6 H5
          have H2 := n_H2
          have H3 := n_H3
          have HK := n_HK
          have O1 := n_O1
          have O2 := n_O2
          have H6 := n_H6
          have H5 := n_H5
          clear n_H2 n_H3 n_HK n_O1 n_O2 n_H6 n_H5
          refine ⟨_, rfl, ?_⟩
          refine hK.out _ _ ⟨H2.out, H3.out⟩ (fun hHeld => ?_)
          clear hK K hHeld
          refine norm_ (a' := ?_) ?_ ?_
          rotate_left
          · show Act.put _ (some 13) _ = _
            simp only [Act.put, List.setIfInBounds_toArray, List.set_cons_zero, List.set_cons_succ]
            rfl
          skip
          obtain ⟨A1, c1, rfl⟩ := own_sl O1.out
          obtain ⟨B1, d1, rfl⟩ := own_sl O2.out
          obtain ⟨A2, c2, rfl⟩ := own_sl O3.out
          obtain ⟨B2, d2, rfl⟩ := own_sl O4.out
          refine last_ (i := 6) (N := none) #[true, true, true, true, true, true, true, false] rfl rfl (by kernel_rfl) (by decide) (fun K hK => ?_)
          refine skip_ (w1 := u126.setRow g5 (rcs r (.slice A1 r.txs.length c1) (.slice B1 r.dirty.length d1))) (by rfl) rfl (run_store_row 47 (.tmp 5) (.tmp 11) rfl g5 (rcs r (.slice A1 r.txs.length c1) (.slice B1 r.dirty.length d1)) rfl rfl 47 _ H5.out (by kernel_rfl) rfl (by simp [rcs, Value.oneCell'])) ?_
          refine hK.out _ _ ?_
          clear hK K
          have n_H := Lib.hid (blk_setRow (cs' := (rcs r (.slice A1 r.txs.length c1) (.slice B1 r.dirty.length d1))) H5.out)
          have n_o := Lib.hid (blk_setRow_far H6.out (rcs r (.slice A1 r.txs.length c1) (.slice B1 r.dirty.length d1)) (show g6 ≠ g5 by have h_ := HNN.out; omega))
          have n_2 := Lib.hid (blk_setRow_far H2.out (rcs r (.slice A1 r.txs.length c1) (.slice B1 r.dirty.length d1)) (show w.heap.size ≠ g5 by have h_ := HG5b.out; omega))
          have n_3 := Lib.hid (blk_setRow_far H3.out (rcs r (.slice A1 r.txs.length c1) (.slice B1 r.dirty.length d1)) (show w.heap.size + 1 ≠ g5 by have h_ := HG5b.out; omega))
          have n_O1 := Lib.hid (own_setRow (T := 47) (g := g5) (cs' := (rcs r (.slice A1 r.txs.length c1) (.slice B1 r.dirty.length d1))) O1.out H5.out (by decide))
          have n_O2 := Lib.hid (own_setRow (T := 47) (g := g5) (cs' := (rcs r (.slice A1 r.txs.length c1) (.slice B1 r.dirty.length d1))) O2.out H5.out (by decide))
          have n_O3 := Lib.hid (own_setRow (T := 47) (g := g5) (cs' := (rcs r (.slice A1 r.txs.length c1) (.slice B1 r.dirty.length d1))) O3.out H5.out (by decide))
          have n_O4 := Lib.hid (own_setRow (T := 47) (g := g5) (cs' := (rcs r (.slice A1 r.txs.length c1) (.slice B1 r.dirty.length d1))) O4.out H5.out (by decide))
          have n_K := Lib.hid (setRow_below HK.out HG5.out (rcs r (.slice A1 r.txs.length c1) (.slice B1 r.dirty.length d1)))
          generalize u126.setRow g5 (rcs r (.slice A1 r.txs.length c1) (.slice B1 r.dirty.length d1)) = u127 at *
          clear H2 H3 H5 H6 O1 O2 O3 O4 HK
          have H5 := n_H
          have H6 := n_o
          have H2 := n_2
          have H3 := n_3
          have O1 := n_O1
          have O2 := n_O2
          have O3 := n_O3
          have O4 := n_O4
          have HK := n_K
          clear n_H n_o n_2 n_3 n_O1 n_O2 n_O3 n_O4 n_K
          refine last_ (i := 7) (N := none) #[true, true, true, true, true, true, true, true] rfl rfl (by kernel_rfl) (by decide) (fun K hK => ?_)
          refine skip_ (w1 := u127.setRow g6 (rcs s (.slice A2 s.txs.length c2) (.slice B2 s.dirty.length d2))) (by rfl) rfl (run_store_row 47 (.tmp 6) (.tmp 13) rfl g6 (rcs s (.slice A2 s.txs.length c2) (.slice B2 s.dirty.length d2)) rfl rfl 47 _ H6.out (by kernel_rfl) rfl (by simp [rcs, Value.oneCell'])) ?_
          refine hK.out _ _ ?_
          clear hK K
          have n_H := Lib.hid (blk_setRow (cs' := (rcs s (.slice A2 s.txs.length c2) (.slice B2 s.dirty.length d2))) H6.out)
          have n_o := Lib.hid (blk_setRow_far H5.out (rcs s (.slice A2 s.txs.length c2) (.slice B2 s.dirty.length d2)) (show g5 ≠ g6 by have h_ := HNN.out; omega))
          have n_2 := Lib.hid (blk_setRow_far H2.out (rcs s (.slice A2 s.txs.length c2) (.slice B2 s.dirty.length d2)) (show w.heap.size ≠ g6 by have h_ := HG6b.out; omega))
          have n_3 := Lib.hid (blk_setRow_far H3.out (rcs s (.slice A2 s.txs.length c2) (.slice B2 s.dirty.length d2)) (show w.heap.size + 1 ≠ g6 by have h_ := HG6b.out; omega))
          have n_O1 := Lib.hid (own_setRow (T := 47) (g := g6) (cs' := (rcs s (.slice A2 s.txs.length c2) (.slice B2 s.dirty.length d2))) O1.out H6.out (by decide))
          have n_O2 := Lib.hid (own_setRow (T := 47) (g := g6) (cs' := (rcs s (.slice A2 s.txs.length c2) (.slice B2 s.dirty.length d2))) O2.out H6.out (by decide))
          have n_O3 := Lib.hid (own_setRow (T := 47) (g := g6) (cs' := (rcs s (.slice A2 s.txs.length c2) (.slice B2 s.dirty.length d2))) O3.out H6.out (by decide))
          have n_O4 := Lib.hid (own_setRow (T := 47) (g := g6) (cs' := (rcs s (.slice A2 s.txs.length c2) (.slice B2 s.dirty.length d2))) O4.out H6.out (by decide))
          have n_K := Lib.hid (setRow_below HK.out HG6.out (rcs s (.slice A2 s.txs.length c2) (.slice B2 s.dirty.length d2)))
          generalize u127.setRow g6 (rcs s (.slice A2 s.txs.length c2) (.slice B2 s.dirty.length d2)) = u128 at *
          clear H2 H3 H5 H6 O1 O2 O3 O4 HK
          have H6 := n_H
          have H5 := n_o
          have H2 := n_2
          have H3 := n_3
          have O1 := n_O1
          have O2 := n_O2
          have O3 := n_O3
          have O4 := n_O4
          have HK := n_K
          clear n_H n_o n_2 n_3 n_O1 n_O2 n_O3 n_O4 n_K
          refine done_ (by kernel_rfl) ?_
          go_wp2_with fail
          go_meet
          exact ⟨g5, g6, A1, c1, B1, d1, A2, c2, B2, d2, rfl, rfl, H2, H3, H5, H6, Lib.hid (own_rdr (fun _ => rfl) O1.out), Lib.hid (own_rdr (fun _ => rfl) O2.out), Lib.hid (own_rdr (fun _ => rfl) O3.out), Lib.hid (own_rdr (fun _ => rfl) O4.out), HK⟩
    · refine value_ (w1 := x1.alloc (.cells #[.int .i64 0, .int .i64 0, .int .u64 0, .int .u64 0, .int .u32 0, .int .i64 0, .int .i64 0, .string ⟨#[]⟩, .string ⟨#[]⟩, .int .i64 0, .int .i64 0, .string ⟨#[]⟩, .int .u32 0, .int .i64 0, .bool false, .slice none 0 0, .slice none 0 0] 47)) (v := .pointer (some ⟨x1.heap.size, 0, none⟩)) (by rfl) rfl (by go_simp) ?_
      have hb5 := balloc (Below.refl x1.heap.size x1) (.cells #[.int .i64 0, .int .i64 0, .int .u64 0, .int .u64 0, .int .u32 0, .int .i64 0, .int .i64 0, .string ⟨#[]⟩, .string ⟨#[]⟩, .int .i64 0, .int .i64 0, .string ⟨#[]⟩, .int .u32 0, .int .i64 0, .bool false, .slice none 0 0, .slice none 0 0] 47)
      have hL := Blk.new x1 47 #[.int .i64 0, .int .i64 0, .int .u64 0, .int .u64 0, .int .u32 0, .int .i64 0, .int .i64 0, .string ⟨#[]⟩, .string ⟨#[]⟩, .int .i64 0, .int .i64 0, .string ⟨#[]⟩, .int .u32 0, .int .i64 0, .bool false, .slice none 0 0, .slice none 0 0]
      have HG5 := Lib.hid HK.out.size
      have HG5b := Lib.hid (show w.heap.size + 1 < x1.heap.size from H3.out.lt)
      have n_H2 := Lib.hid (H2.out.step hb5)
      have n_H3 := Lib.hid (H3.out.step hb5)
      have n_HK := Lib.hid (bstep HK.out hb5)
      clear hb5 H2 H3 HK
      have H2 := n_H2
      have H3 := n_H3
      have HK := n_HK
      clear n_H2 n_H3 n_HK
      generalize x1.alloc (.cells #[.int .i64 0, .int .i64 0, .int .u64 0, .int .u64 0, .int .u32 0, .int .i64 0, .int .i64 0, .string ⟨#[]⟩, .string ⟨#[]⟩, .int .i64 0, .int .i64 0, .string ⟨#[]⟩, .int .u32 0, .int .i64 0, .bool false, .slice none 0 0, .slice none 0 0] 47) = u129 at *
      generalize x1.heap.size = g5 at *
      have H5 := Lib.hid hL
      clear hL
      refine hK.out _ _ ⟨H2.out, H3.out⟩ (fun hHeld => ?_)
      clear hK K hHeld
      refine norm_ (a' := ?_) ?_ ?_
      rotate_left
      · show Act.put _ (some 5) _ = _
        simp only [Act.put, List.setIfInBounds_toArray, List.set_cons_zero, List.set_cons_succ]
        rfl
      refine two_ (i := 1) (j := 5) (Ni := some 11) (Nj := some 6) #[true, true, true, false, true, false, false, false] #[true, false, true, false, true, true, false, false] rfl rfl rfl rfl (by kernel_rfl) (by decide) (by decide) (fun K hK => ?_) (fun K hK => ?_)
      · refine goes_ Try.func13 (by kernel_rfl) rfl #[r.val A c B d] (by rfl) rfl rfl (by (try simp only [List.map_toArray, List.map_cons, List.map_nil]); first | done | rfl) ?_
        refine (ref_any r A c B d u129 (HR.out.below HK.out).rdA (HR.out.below HK.out).rdB HR.out.bA HR.out.bB).mono ?_
        rintro e_ u130 ⟨⟨v1, v2, rfl, ho1, ho2⟩, hb5⟩
        have O1 := Lib.hid (own_le ho1 HK.out.size)
        have O2 := Lib.hid (own_le ho2 HK.out.size)
        clear ho1 ho2
        have n_H2 := Lib.hid (H2.out.step hb5)
        have n_H3 := Lib.hid (H3.out.step hb5)
        have n_HK := Lib.hid (bstep HK.out hb5)
        have n_H5 := Lib.hid (H5.out.step hb5)
        clear hb5 H2 H3 HK H5
        have H2 := n_H2
        have H3 := n_H3
        have HK := n_HK
        have H5 := n_H5
        clear n_H2 n_H3 n_HK n_H5
        refine ⟨_, rfl, ?_⟩
        refine hK.out _ _ ⟨H2.out, H3.out⟩ (fun hHeld => ?_)
        clear hK K hHeld
        refine norm_ (a' := ?_) ?_ ?_
        rotate_left
        · show Act.put _ (some 11) _ = _
          simp only [Act.put, List.setIfInBounds_toArray, List.set_cons_zero, List.set_cons_succ]
          rfl
        refine two_ (i := 3) (j := 5) (Ni := some 13) (Nj := some 6) #[true, true, true, true, true, false, false, false] #[true, true, true, false, true, true, false, false] rfl rfl rfl rfl (by kernel_rfl) (by decide) (by decide) (fun K hK => ?_) (fun K hK => ?_)
        · refine goes_ Try.func13 (by kernel_rfl) rfl #[s.val A' c' B' d'] (by rfl) rfl rfl (by (try simp only [List.map_toArray, List.map_cons, List.map_nil]); first | done | rfl) ?_
          refine (ref_any s A' c' B' d' u130 (HS.out.below HK.out).rdA (HS.out.below HK.out).rdB HS.out.bA HS.out.bB).mono ?_
          rintro e_ u131 ⟨⟨v3, v4, rfl, ho1, ho2⟩, hb5⟩
          have O3 := Lib.hid (own_le ho1 HK.out.size)
          have O4 := Lib.hid (own_le ho2 HK.out.size)
          clear ho1 ho2
          have n_H2 := Lib.hid (H2.out.step hb5)
          have n_H3 := Lib.hid (H3.out.step hb5)
          have n_HK := Lib.hid (bstep HK.out hb5)
          have n_H5 := Lib.hid (H5.out.step hb5)
          have n_O1 := Lib.hid (own_below O1.out hb5)
          have n_O2 := Lib.hid (own_below O2.out hb5)
          clear hb5 H2 H3 HK H5 O1 O2
          have H2 := n_H2
          have H3 := n_H3
          have HK := n_HK
          have H5 := n_H5
          have O1 := n_O1
          have O2 := n_O2
          clear n_H2 n_H3 n_HK n_H5 n_O1 n_O2
          refine ⟨_, rfl, ?_⟩
          refine hK.out _ _ ⟨H2.out, H3.out⟩ (fun hHeld => ?_)
          clear hK K hHeld
          refine norm_ (a' := ?_) ?_ ?_
          rotate_left
          · show Act.put _ (some 13) _ = _
            simp only [Act.put, List.setIfInBounds_toArray, List.set_cons_zero, List.set_cons_succ]
            rfl
          refine one_ (i := 5) (N := some 6) #[true, true, true, true, true, true, false, false] rfl rfl (by kernel_rfl) (by decide) (fun K hK => ?_)
          refine value_ (w1 := u131.alloc (.cells #[.int .i64 0, .int .i64 0, .int .u64 0, .int .u64 0, .int .u32 0, .int .i64 0, .int .i64 0, .string ⟨#[]⟩, .string ⟨#[]⟩, .int .i64 0, .int .i64 0, .string ⟨#[]⟩, .int .u32 0, .int .i64 0, .bool false, .slice none 0 0, .slice none 0 0] 47)) (v := .pointer (some ⟨u131.heap.size, 0, none⟩)) (by rfl) rfl (by go_simp) ?_
          have hb5 := balloc (Below.refl u131.heap.size u131) (.cells #[.int .i64 0, .int .i64 0, .int .u64 0, .int .u64 0, .int .u32 0, .int .i64 0, .int .i64 0, .string ⟨#[]⟩, .string ⟨#[]⟩, .int .i64 0, .int .i64 0, .string ⟨#[]⟩, .int .u32 0, .int .i64 0, .bool false, .slice none 0 0, .slice none 0 0] 47)
          have hL := Blk.new u131 47 #[.int .i64 0, .int .i64 0, .int .u64 0, .int .u64 0, .int .u32 0, .int .i64 0, .int .i64 0, .string ⟨#[]⟩, .string ⟨#[]⟩, .int .i64 0, .int .i64 0, .string ⟨#[]⟩, .int .u32 0, .int .i64 0, .bool false, .slice none 0 0, .slice none 0 0]
          have HG6 := Lib.hid HK.out.size
          have HG6b := Lib.hid (show w.heap.size + 1 < u131.heap.size from H3.out.lt)
          have HNN := Lib.hid (Nat.ne_of_lt H5.out.lt)
          have n_H2 := Lib.hid (H2.out.step hb5)
          have n_H3 := Lib.hid (H3.out.step hb5)
          have n_HK := Lib.hid (bstep HK.out hb5)
          have n_H5 := Lib.hid (H5.out.step hb5)
          have n_O1 := Lib.hid (own_below O1.out hb5)
          have n_O2 := Lib.hid (own_below O2.out hb5)
          have n_O3 := Lib.hid (own_below O3.out hb5)
          have n_O4 := Lib.hid (own_below O4.out hb5)
          clear hb5 H2 H3 HK H5 O1 O2 O3 O4
          have H2 := n_H2
          have H3 := n_H3
          have HK := n_HK
          have H5 := n_H5
          have O1 := n_O1
          have O2 := n_O2
          have O3 := n_O3
          have O4 := n_O4
          clear n_H2 n_H3 n_HK n_H5 n_O1 n_O2 n_O3 n_O4
          generalize u131.alloc (.cells #[.int .i64 0, .int .i64 0, .int .u64 0, .int .u64 0, .int .u32 0, .int .i64 0, .int .i64 0, .string ⟨#[]⟩, .string ⟨#[]⟩, .int .i64 0, .int .i64 0, .string ⟨#[]⟩, .int .u32 0, .int .i64 0, .bool false, .slice none 0 0, .slice none 0 0] 47) = u132 at *
          generalize u131.heap.size = g6 at *
          have H6 := Lib.hid hL
          clear hL
          refine hK.out _ _ ⟨H2.out, H3.out⟩ (fun hHeld => ?_)
          clear hK K hHeld
          refine norm_ (a' := ?_) ?_ ?_
          rotate_left
          · show Act.put _ (some 6) _ = _
            simp only [Act.put, List.setIfInBounds_toArray, List.set_cons_zero, List.set_cons_succ]
            rfl
          skip
          obtain ⟨A1, c1, rfl⟩ := own_sl O1.out
          obtain ⟨B1, d1, rfl⟩ := own_sl O2.out
          obtain ⟨A2, c2, rfl⟩ := own_sl O3.out
          obtain ⟨B2, d2, rfl⟩ := own_sl O4.out
          refine last_ (i := 6) (N := none) #[true, true, true, true, true, true, true, false] rfl rfl (by kernel_rfl) (by decide) (fun K hK => ?_)
          refine skip_ (w1 := u132.setRow g5 (rcs r (.slice A1 r.txs.length c1) (.slice B1 r.dirty.length d1))) (by rfl) rfl (run_store_row 47 (.tmp 5) (.tmp 11) rfl g5 (rcs r (.slice A1 r.txs.length c1) (.slice B1 r.dirty.length d1)) rfl rfl 47 _ H5.out (by kernel_rfl) rfl (by simp [rcs, Value.oneCell'])) ?_
          refine hK.out _ _ ?_
          clear hK K
          have n_H := Lib.hid (blk_setRow (cs' := (rcs r (.slice A1 r.txs.length c1) (.slice B1 r.dirty.length d1))) H5.out)
          have n_o := Lib.hid (blk_setRow_far H6.out (rcs r (.slice A1 r.txs.length c1) (.slice B1 r.dirty.length d1)) (show g6 ≠ g5 by have h_ := HNN.out; omega))
          have n_2 := Lib.hid (blk_setRow_far H2.out (rcs r (.slice A1 r.txs.length c1) (.slice B1 r.dirty.length d1)) (show w.heap.size ≠ g5 by have h_ := HG5b.out; omega))
          have n_3 := Lib.hid (blk_setRow_far H3.out (rcs r (.slice A1 r.txs.length c1) (.slice B1 r.dirty.length d1)) (show w.heap.size + 1 ≠ g5 by have h_ := HG5b.out; omega))
          have n_O1 := Lib.hid (own_setRow (T := 47) (g := g5) (cs' := (rcs r (.slice A1 r.txs.length c1) (.slice B1 r.dirty.length d1))) O1.out H5.out (by decide))
          have n_O2 := Lib.hid (own_setRow (T := 47) (g := g5) (cs' := (rcs r (.slice A1 r.txs.length c1) (.slice B1 r.dirty.length d1))) O2.out H5.out (by decide))
          have n_O3 := Lib.hid (own_setRow (T := 47) (g := g5) (cs' := (rcs r (.slice A1 r.txs.length c1) (.slice B1 r.dirty.length d1))) O3.out H5.out (by decide))
          have n_O4 := Lib.hid (own_setRow (T := 47) (g := g5) (cs' := (rcs r (.slice A1 r.txs.length c1) (.slice B1 r.dirty.length d1))) O4.out H5.out (by decide))
          have n_K := Lib.hid (setRow_below HK.out HG5.out (rcs r (.slice A1 r.txs.length c1) (.slice B1 r.dirty.length d1)))
          generalize u132.setRow g5 (rcs r (.slice A1 r.txs.length c1) (.slice B1 r.dirty.length d1)) = u133 at *
          clear H2 H3 H5 H6 O1 O2 O3 O4 HK
          have H5 := n_H
          have H6 := n_o
          have H2 := n_2
          have H3 := n_3
          have O1 := n_O1
          have O2 := n_O2
          have O3 := n_O3
          have O4 := n_O4
          have HK := n_K
          clear n_H n_o n_2 n_3 n_O1 n_O2 n_O3 n_O4 n_K
          refine last_ (i := 7) (N := none) #[true, true, true, true, true, true, true, true] rfl rfl (by kernel_rfl) (by decide) (fun K hK => ?_)
          refine skip_ (w1 := u133.setRow g6 (rcs s (.slice A2 s.txs.length c2) (.slice B2 s.dirty.length d2))) (by rfl) rfl (run_store_row 47 (.tmp 6) (.tmp 13) rfl g6 (rcs s (.slice A2 s.txs.length c2) (.slice B2 s.dirty.length d2)) rfl rfl 47 _ H6.out (by kernel_rfl) rfl (by simp [rcs, Value.oneCell'])) ?_
          refine hK.out _ _ ?_
          clear hK K
          have n_H := Lib.hid (blk_setRow (cs' := (rcs s (.slice A2 s.txs.length c2) (.slice B2 s.dirty.length d2))) H6.out)
          have n_o := Lib.hid (blk_setRow_far H5.out (rcs s (.slice A2 s.txs.length c2) (.slice B2 s.dirty.length d2)) (show g5 ≠ g6 by have h_ := HNN.out; omega))
          have n_2 := Lib.hid (blk_setRow_far H2.out (rcs s (.slice A2 s.txs.length c2) (.slice B2 s.dirty.length d2)) (show w.heap.size ≠ g6 by have h_ := HG6b.out; omega))
          have n_3 := Lib.hid (blk_setRow_far H3.out (rcs s (.slice A2 s.txs.length c2) (.slice B2 s.dirty.length d2)) (show w.heap.size + 1 ≠ g6 by have h_ := HG6b.out; omega))
          have n_O1 := Lib.hid (own_setRow (T := 47) (g := g6) (cs' := (rcs s (.slice A2 s.txs.length c2) (.slice B2 s.dirty.length d2))) O1.out H6.out (by decide))
          have n_O2 := Lib.hid (own_setRow (T := 47) (g := g6) (cs' := (rcs s (.slice A2 s.txs.length c2) (.slice B2 s.dirty.length d2))) O2.out H6.out (by decide))
          have n_O3 := Lib.hid (own_setRow (T := 47) (g := g6) (cs' := (rcs s (.slice A2 s.txs.length c2) (.slice B2 s.dirty.length d2))) O3.out H6.out (by decide))
          have n_O4 := Lib.hid (own_setRow (T := 47) (g := g6) (cs' := (rcs s (.slice A2 s.txs.length c2) (.slice B2 s.dirty.length d2))) O4.out H6.out (by decide))
          have n_K := Lib.hid (setRow_below HK.out HG6.out (rcs s (.slice A2 s.txs.length c2) (.slice B2 s.dirty.length d2)))
          generalize u133.setRow g6 (rcs s (.slice A2 s.txs.length c2) (.slice B2 s.dirty.length d2)) = u134 at *
          clear H2 H3 H5 H6 O1 O2 O3 O4 HK
          have H6 := n_H
          have H5 := n_o
          have H2 := n_2
          have H3 := n_3
          have O1 := n_O1
          have O2 := n_O2
          have O3 := n_O3
          have O4 := n_O4
          have HK := n_K
          clear n_H n_o n_2 n_3 n_O1 n_O2 n_O3 n_O4 n_K
          refine done_ (by kernel_rfl) ?_
          go_wp2_with fail
          go_meet
          exact ⟨g5, g6, A1, c1, B1, d1, A2, c2, B2, d2, rfl, rfl, H2, H3, H5, H6, Lib.hid (own_rdr (fun _ => rfl) O1.out), Lib.hid (own_rdr (fun _ => rfl) O2.out), Lib.hid (own_rdr (fun _ => rfl) O3.out), Lib.hid (own_rdr (fun _ => rfl) O4.out), HK⟩
        · refine value_ (w1 := u130.alloc (.cells #[.int .i64 0, .int .i64 0, .int .u64 0, .int .u64 0, .int .u32 0, .int .i64 0, .int .i64 0, .string ⟨#[]⟩, .string ⟨#[]⟩, .int .i64 0, .int .i64 0, .string ⟨#[]⟩, .int .u32 0, .int .i64 0, .bool false, .slice none 0 0, .slice none 0 0] 47)) (v := .pointer (some ⟨u130.heap.size, 0, none⟩)) (by rfl) rfl (by go_simp) ?_
          have hb5 := balloc (Below.refl u130.heap.size u130) (.cells #[.int .i64 0, .int .i64 0, .int .u64 0, .int .u64 0, .int .u32 0, .int .i64 0, .int .i64 0, .string ⟨#[]⟩, .string ⟨#[]⟩, .int .i64 0, .int .i64 0, .string ⟨#[]⟩, .int .u32 0, .int .i64 0, .bool false, .slice none 0 0, .slice none 0 0] 47)
          have hL := Blk.new u130 47 #[.int .i64 0, .int .i64 0, .int .u64 0, .int .u64 0, .int .u32 0, .int .i64 0, .int .i64 0, .string ⟨#[]⟩, .string ⟨#[]⟩, .int .i64 0, .int .i64 0, .string ⟨#[]⟩, .int .u32 0, .int .i64 0, .bool false, .slice none 0 0, .slice none 0 0]
          have HG6 := Lib.hid HK.out.size
          have HG6b := Lib.hid (show w.heap.size + 1 < u130.heap.size from H3.out.lt)
          have HNN := Lib.hid (Nat.ne_of_lt H5.out.lt)
          have n_H2 := Lib.hid (H2.out.step hb5)
          have n_H3 := Lib.hid (H3.out.step hb5)
          have n_HK := Lib.hid (bstep HK.out hb5)
          have n_H5 := Lib.hid (H5.out.step hb5)
          have n_O1 := Lib.hid (own_below O1.out hb5)
          have n_O2 := Lib.hid (own_below O2.out hb5)
          clear hb5 H2 H3 HK H5 O1 O2
          have H2 := n_H2
          have H3 := n_H3
          have HK := n_HK
          have H5 := n_H5
          have O1 := n_O1
          have O2 := n_O2
          clear n_H2 n_H3 n_HK n_H5 n_O1 n_O2
          generalize u130.alloc (.cells #[.int .i64 0, .int .i64 0, .int .u64 0, .int .u64 0, .int .u32 0, .int .i64 0, .int .i64 0, .string ⟨#[]⟩, .string ⟨#[]⟩, .int .i64 0, .int .i64 0, .string ⟨#[]⟩, .int .u32 0, .int .i64 0, .bool false, .slice none 0 0, .slice none 0 0] 47) = u135 at *
          generalize u130.heap.size = g6 at *
          have H6 := Lib.hid hL
          clear hL
          refine hK.out _ _ ⟨H2.out, H3.out⟩ (fun hHeld => ?_)
          clear hK K hHeld
          refine norm_ (a' := ?_) ?_ ?_
          rotate_left
          · show Act.put _ (some 6) _ = _
            simp only [Act.put, List.setIfInBounds_toArray, List.set_cons_zero, List.set_cons_succ]
            rfl
          refine one_ (i := 3) (N := some 13) #[true, true, true, true, true, true, false, false] rfl rfl (by kernel_rfl) (by decide) (fun K hK => ?_)
          refine goes_ Try.func13 (by kernel_rfl) rfl #[s.val A' c' B' d'] (by rfl) rfl rfl (by (try simp only [List.map_toArray, List.map_cons, List.map_nil]); first | done | rfl) ?_
          refine (ref_any s A' c' B' d' u135 (HS.out.below HK.out).rdA (HS.out.below HK.out).rdB HS.out.bA HS.out.bB).mono ?_
          rintro e_ u136 ⟨⟨v3, v4, rfl, ho1, ho2⟩, hb5⟩
          have O3 := Lib.hid (own_le ho1 HK.out.size)
          have O4 := Lib.hid (own_le ho2 HK.out.size)
          clear ho1 ho2
          have n_H2 := Lib.hid (H2.out.step hb5)
          have n_H3 := Lib.hid (H3.out.step hb5)
          have n_HK := Lib.hid (bstep HK.out hb5)
          have n_H5 := Lib.hid (H5.out.step hb5)
          have n_O1 := Lib.hid (own_below O1.out hb5)
          have n_O2 := Lib.hid (own_below O2.out hb5)
          have n_H6 := Lib.hid (H6.out.step hb5)
          clear hb5 H2 H3 HK H5 O1 O2 H6
          have H2 := n_H2
          have H3 := n_H3
          have HK := n_HK
          have H5 := n_H5
          have O1 := n_O1
          have O2 := n_O2
          have H6 := n_H6
          clear n_H2 n_H3 n_HK n_H5 n_O1 n_O2 n_H6
          refine ⟨_, rfl, ?_⟩
          refine hK.out _ _ ⟨H2.out, H3.out⟩ (fun hHeld => ?_)
          clear hK K hHeld
          refine norm_ (a' := ?_) ?_ ?_
          rotate_left
          · show Act.put _ (some 13) _ = _
            simp only [Act.put, List.setIfInBounds_toArray, List.set_cons_zero, List.set_cons_succ]
            rfl
          skip
          obtain ⟨A1, c1, rfl⟩ := own_sl O1.out
          obtain ⟨B1, d1, rfl⟩ := own_sl O2.out
          obtain ⟨A2, c2, rfl⟩ := own_sl O3.out
          obtain ⟨B2, d2, rfl⟩ := own_sl O4.out
          refine last_ (i := 6) (N := none) #[true, true, true, true, true, true, true, false] rfl rfl (by kernel_rfl) (by decide) (fun K hK => ?_)
          refine skip_ (w1 := u136.setRow g5 (rcs r (.slice A1 r.txs.length c1) (.slice B1 r.dirty.length d1))) (by rfl) rfl (run_store_row 47 (.tmp 5) (.tmp 11) rfl g5 (rcs r (.slice A1 r.txs.length c1) (.slice B1 r.dirty.length d1)) rfl rfl 47 _ H5.out (by kernel_rfl) rfl (by simp [rcs, Value.oneCell'])) ?_
          refine hK.out _ _ ?_
          clear hK K
          have n_H := Lib.hid (blk_setRow (cs' := (rcs r (.slice A1 r.txs.length c1) (.slice B1 r.dirty.length d1))) H5.out)
          have n_o := Lib.hid (blk_setRow_far H6.out (rcs r (.slice A1 r.txs.length c1) (.slice B1 r.dirty.length d1)) (show g6 ≠ g5 by have h_ := HNN.out; omega))
          have n_2 := Lib.hid (blk_setRow_far H2.out (rcs r (.slice A1 r.txs.length c1) (.slice B1 r.dirty.length d1)) (show w.heap.size ≠ g5 by have h_ := HG5b.out; omega))
          have n_3 := Lib.hid (blk_setRow_far H3.out (rcs r (.slice A1 r.txs.length c1) (.slice B1 r.dirty.length d1)) (show w.heap.size + 1 ≠ g5 by have h_ := HG5b.out; omega))
          have n_O1 := Lib.hid (own_setRow (T := 47) (g := g5) (cs' := (rcs r (.slice A1 r.txs.length c1) (.slice B1 r.dirty.length d1))) O1.out H5.out (by decide))
          have n_O2 := Lib.hid (own_setRow (T := 47) (g := g5) (cs' := (rcs r (.slice A1 r.txs.length c1) (.slice B1 r.dirty.length d1))) O2.out H5.out (by decide))
          have n_O3 := Lib.hid (own_setRow (T := 47) (g := g5) (cs' := (rcs r (.slice A1 r.txs.length c1) (.slice B1 r.dirty.length d1))) O3.out H5.out (by decide))
          have n_O4 := Lib.hid (own_setRow (T := 47) (g := g5) (cs' := (rcs r (.slice A1 r.txs.length c1) (.slice B1 r.dirty.length d1))) O4.out H5.out (by decide))
          have n_K := Lib.hid (setRow_below HK.out HG5.out (rcs r (.slice A1 r.txs.length c1) (.slice B1 r.dirty.length d1)))
          generalize u136.setRow g5 (rcs r (.slice A1 r.txs.length c1) (.slice B1 r.dirty.length d1)) = u137 at *
          clear H2 H3 H5 H6 O1 O2 O3 O4 HK
          have H5 := n_H
          have H6 := n_o
          have H2 := n_2
          have H3 := n_3
          have O1 := n_O1
          have O2 := n_O2
          have O3 := n_O3
          have O4 := n_O4
          have HK := n_K
          clear n_H n_o n_2 n_3 n_O1 n_O2 n_O3 n_O4 n_K
          refine last_ (i := 7) (N := none) #[true, true, true, true, true, true, true, true] rfl rfl (by kernel_rfl) (by decide) (fun K hK => ?_)
          refine skip_ (w1 := u137.setRow g6 (rcs s (.slice A2 s.txs.length c2) (.slice B2 s.dirty.length d2))) (by rfl) rfl (run_store_row 47 (.tmp 6) (.tmp 13) rfl g6 (rcs s (.slice A2 s.txs.length c2) (.slice B2 s.dirty.length d2)) rfl rfl 47 _ H6.out (by kernel_rfl) rfl (by simp [rcs, Value.oneCell'])) ?_
          refine hK.out _ _ ?_
          clear hK K
          have n_H := Lib.hid (blk_setRow (cs' := (rcs s (.slice A2 s.txs.length c2) (.slice B2 s.dirty.length d2))) H6.out)
          have n_o := Lib.hid (blk_setRow_far H5.out (rcs s (.slice A2 s.txs.length c2) (.slice B2 s.dirty.length d2)) (show g5 ≠ g6 by have h_ := HNN.out; omega))
          have n_2 := Lib.hid (blk_setRow_far H2.out (rcs s (.slice A2 s.txs.length c2) (.slice B2 s.dirty.length d2)) (show w.heap.size ≠ g6 by have h_ := HG6b.out; omega))
          have n_3 := Lib.hid (blk_setRow_far H3.out (rcs s (.slice A2 s.txs.length c2) (.slice B2 s.dirty.length d2)) (show w.heap.size + 1 ≠ g6 by have h_ := HG6b.out; omega))
          have n_O1 := Lib.hid (own_setRow (T := 47) (g := g6) (cs' := (rcs s (.slice A2 s.txs.length c2) (.slice B2 s.dirty.length d2))) O1.out H6.out (by decide))
          have n_O2 := Lib.hid (own_setRow (T := 47) (g := g6) (cs' := (rcs s (.slice A2 s.txs.length c2) (.slice B2 s.dirty.length d2))) O2.out H6.out (by decide))
          have n_O3 := Lib.hid (own_setRow (T := 47) (g := g6) (cs' := (rcs s (.slice A2 s.txs.length c2) (.slice B2 s.dirty.length d2))) O3.out H6.out (by decide))
          have n_O4 := Lib.hid (own_setRow (T := 47) (g := g6) (cs' := (rcs s (.slice A2 s.txs.length c2) (.slice B2 s.dirty.length d2))) O4.out H6.out (by decide))
          have n_K := Lib.hid (setRow_below HK.out HG6.out (rcs s (.slice A2 s.txs.length c2) (.slice B2 s.dirty.length d2)))
          generalize u137.setRow g6 (rcs s (.slice A2 s.txs.length c2) (.slice B2 s.dirty.length d2)) = u138 at *
          clear H2 H3 H5 H6 O1 O2 O3 O4 HK
          have H6 := n_H
          have H5 := n_o
          have H2 := n_2
          have H3 := n_3
          have O1 := n_O1
          have O2 := n_O2
          have O3 := n_O3
          have O4 := n_O4
          have HK := n_K
          clear n_H n_o n_2 n_3 n_O1 n_O2 n_O3 n_O4 n_K
          refine done_ (by kernel_rfl) ?_
          go_wp2_with fail
          go_meet
          exact ⟨g5, g6, A1, c1, B1, d1, A2, c2, B2, d2, rfl, rfl, H2, H3, H5, H6, Lib.hid (own_rdr (fun _ => rfl) O1.out), Lib.hid (own_rdr (fun _ => rfl) O2.out), Lib.hid (own_rdr (fun _ => rfl) O3.out), Lib.hid (own_rdr (fun _ => rfl) O4.out), HK⟩
      · refine value_ (w1 := u129.alloc (.cells #[.int .i64 0, .int .i64 0, .int .u64 0, .int .u64 0, .int .u32 0, .int .i64 0, .int .i64 0, .string ⟨#[]⟩, .string ⟨#[]⟩, .int .i64 0, .int .i64 0, .string ⟨#[]⟩, .int .u32 0, .int .i64 0, .bool false, .slice none 0 0, .slice none 0 0] 47)) (v := .pointer (some ⟨u129.heap.size, 0, none⟩)) (by rfl) rfl (by go_simp) ?_
        have hb5 := balloc (Below.refl u129.heap.size u129) (.cells #[.int .i64 0, .int .i64 0, .int .u64 0, .int .u64 0, .int .u32 0, .int .i64 0, .int .i64 0, .string ⟨#[]⟩, .string ⟨#[]⟩, .int .i64 0, .int .i64 0, .string ⟨#[]⟩, .int .u32 0, .int .i64 0, .bool false, .slice none 0 0, .slice none 0 0] 47)
        have hL := Blk.new u129 47 #[.int .i64 0, .int .i64 0, .int .u64 0, .int .u64 0, .int .u32 0, .int .i64 0, .int .i64 0, .string ⟨#[]⟩, .string ⟨#[]⟩, .int .i64 0, .int .i64 0, .string ⟨#[]⟩, .int .u32 0, .int .i64 0, .bool false, .slice none 0 0, .slice none 0 0]
        have HG6 := Lib.hid HK.out.size
        have HG6b := Lib.hid (show w.heap.size + 1 < u129.heap.size from H3.out.lt)
        have HNN := Lib.hid (Nat.ne_of_lt H5.out.lt)
        have n_H2 := Lib.hid (H2.out.step hb5)
        have n_H3 := Lib.hid (H3.out.step hb5)
        have n_HK := Lib.hid (bstep HK.out hb5)
        have n_H5 := Lib.hid (H5.out.step hb5)
        clear hb5 H2 H3 HK H5
        have H2 := n_H2
        have H3 := n_H3
        have HK := n_HK
        have H5 := n_H5
        clear n_H2 n_H3 n_HK n_H5
        generalize u129.alloc (.cells #[.int .i64 0, .int .i64 0, .int .u64 0, .int .u64 0, .int .u32 0, .int .i64 0, .int .i64 0, .string ⟨#[]⟩, .string ⟨#[]⟩, .int .i64 0, .int .i64 0, .string ⟨#[]⟩, .int .u32 0, .int .i64 0, .bool false, .slice none 0 0, .slice none 0 0] 47) = u139 at *
        generalize u129.heap.size = g6 at *
        have H6 := Lib.hid hL
        clear hL
        refine hK.out _ _ ⟨H2.out, H3.out⟩ (fun hHeld => ?_)
        clear hK K hHeld
        refine norm_ (a' := ?_) ?_ ?_
        rotate_left
        · show Act.put _ (some 6) _ = _
          simp only [Act.put, List.setIfInBounds_toArray, List.set_cons_zero, List.set_cons_succ]
          rfl
        refine one_ (i := 1) (N := some 11) #[true, true, true, false, true, true, false, false] rfl rfl (by kernel_rfl) (by decide) (fun K hK => ?_)
        refine goes_ Try.func13 (by kernel_rfl) rfl #[r.val A c B d] (by rfl) rfl rfl (by (try simp only [List.map_toArray, List.map_cons, List.map_nil]); first | done | rfl) ?_
        refine (ref_any r A c B d u139 (HR.out.below HK.out).rdA (HR.out.below HK.out).rdB HR.out.bA HR.out.bB).mono ?_
        rintro e_ u140 ⟨⟨v1, v2, rfl, ho1, ho2⟩, hb5⟩
        have O1 := Lib.hid (own_le ho1 HK.out.size)
        have O2 := Lib.hid (own_le ho2 HK.out.size)
        clear ho1 ho2
        have n_H2 := Lib.hid (H2.out.step hb5)
        have n_H3 := Lib.hid (H3.out.step hb5)
        have n_HK := Lib.hid (bstep HK.out hb5)
        have n_H5 := Lib.hid (H5.out.step hb5)
        have n_H6 := Lib.hid (H6.out.step hb5)
        clear hb5 H2 H3 HK H5 H6
        have H2 := n_H2
        have H3 := n_H3
        have HK := n_HK
        have H5 := n_H5
        have H6 := n_H6
        clear n_H2 n_H3 n_HK n_H5 n_H6
        refine ⟨_, rfl, ?_⟩
        refine hK.out _ _ ⟨H2.out, H3.out⟩ (fun hHeld => ?_)
        clear hK K hHeld
        refine norm_ (a' := ?_) ?_ ?_
        rotate_left
        · show Act.put _ (some 11) _ = _
          simp only [Act.put, List.setIfInBounds_toArray, List.set_cons_zero, List.set_cons_succ]
          rfl
        refine one_ (i := 3) (N := some 13) #[true, true, true, true, true, true, false, false] rfl rfl (by kernel_rfl) (by decide) (fun K hK => ?_)
        refine goes_ Try.func13 (by kernel_rfl) rfl #[s.val A' c' B' d'] (by rfl) rfl rfl (by (try simp only [List.map_toArray, List.map_cons, List.map_nil]); first | done | rfl) ?_
        refine (ref_any s A' c' B' d' u140 (HS.out.below HK.out).rdA (HS.out.below HK.out).rdB HS.out.bA HS.out.bB).mono ?_
        rintro e_ u141 ⟨⟨v3, v4, rfl, ho1, ho2⟩, hb5⟩
        have O3 := Lib.hid (own_le ho1 HK.out.size)
        have O4 := Lib.hid (own_le ho2 HK.out.size)
        clear ho1 ho2
        have n_H2 := Lib.hid (H2.out.step hb5)
        have n_H3 := Lib.hid (H3.out.step hb5)
        have n_HK := Lib.hid (bstep HK.out hb5)
        have n_H5 := Lib.hid (H5.out.step hb5)
        have n_H6 := Lib.hid (H6.out.step hb5)
        have n_O1 := Lib.hid (own_below O1.out hb5)
        have n_O2 := Lib.hid (own_below O2.out hb5)
        clear hb5 H2 H3 HK H5 H6 O1 O2
        have H2 := n_H2
        have H3 := n_H3
        have HK := n_HK
        have H5 := n_H5
        have H6 := n_H6
        have O1 := n_O1
        have O2 := n_O2
        clear n_H2 n_H3 n_HK n_H5 n_H6 n_O1 n_O2
        refine ⟨_, rfl, ?_⟩
        refine hK.out _ _ ⟨H2.out, H3.out⟩ (fun hHeld => ?_)
        clear hK K hHeld
        refine norm_ (a' := ?_) ?_ ?_
        rotate_left
        · show Act.put _ (some 13) _ = _
          simp only [Act.put, List.setIfInBounds_toArray, List.set_cons_zero, List.set_cons_succ]
          rfl
        skip
        obtain ⟨A1, c1, rfl⟩ := own_sl O1.out
        obtain ⟨B1, d1, rfl⟩ := own_sl O2.out
        obtain ⟨A2, c2, rfl⟩ := own_sl O3.out
        obtain ⟨B2, d2, rfl⟩ := own_sl O4.out
        refine last_ (i := 6) (N := none) #[true, true, true, true, true, true, true, false] rfl rfl (by kernel_rfl) (by decide) (fun K hK => ?_)
        refine skip_ (w1 := u141.setRow g5 (rcs r (.slice A1 r.txs.length c1) (.slice B1 r.dirty.length d1))) (by rfl) rfl (run_store_row 47 (.tmp 5) (.tmp 11) rfl g5 (rcs r (.slice A1 r.txs.length c1) (.slice B1 r.dirty.length d1)) rfl rfl 47 _ H5.out (by kernel_rfl) rfl (by simp [rcs, Value.oneCell'])) ?_
        refine hK.out _ _ ?_
        clear hK K
        have n_H := Lib.hid (blk_setRow (cs' := (rcs r (.slice A1 r.txs.length c1) (.slice B1 r.dirty.length d1))) H5.out)
        have n_o := Lib.hid (blk_setRow_far H6.out (rcs r (.slice A1 r.txs.length c1) (.slice B1 r.dirty.length d1)) (show g6 ≠ g5 by have h_ := HNN.out; omega))
        have n_2 := Lib.hid (blk_setRow_far H2.out (rcs r (.slice A1 r.txs.length c1) (.slice B1 r.dirty.length d1)) (show w.heap.size ≠ g5 by have h_ := HG5b.out; omega))
        have n_3 := Lib.hid (blk_setRow_far H3.out (rcs r (.slice A1 r.txs.length c1) (.slice B1 r.dirty.length d1)) (show w.heap.size + 1 ≠ g5 by have h_ := HG5b.out; omega))
        have n_O1 := Lib.hid (own_setRow (T := 47) (g := g5) (cs' := (rcs r (.slice A1 r.txs.length c1) (.slice B1 r.dirty.length d1))) O1.out H5.out (by decide))
        have n_O2 := Lib.hid (own_setRow (T := 47) (g := g5) (cs' := (rcs r (.slice A1 r.txs.length c1) (.slice B1 r.dirty.length d1))) O2.out H5.out (by decide))
        have n_O3 := Lib.hid (own_setRow (T := 47) (g := g5) (cs' := (rcs r (.slice A1 r.txs.length c1) (.slice B1 r.dirty.length d1))) O3.out H5.out (by decide))
        have n_O4 := Lib.hid (own_setRow (T := 47) (g := g5) (cs' := (rcs r (.slice A1 r.txs.length c1) (.slice B1 r.dirty.length d1))) O4.out H5.out (by decide))
        have n_K := Lib.hid (setRow_below HK.out HG5.out (rcs r (.slice A1 r.txs.length c1) (.slice B1 r.dirty.length d1)))
        generalize u141.setRow g5 (rcs r (.slice A1 r.txs.length c1) (.slice B1 r.dirty.length d1)) = u142 at *
        clear H2 H3 H5 H6 O1 O2 O3 O4 HK
        have H5 := n_H
        have H6 := n_o
        have H2 := n_2
        have H3 := n_3
        have O1 := n_O1
        have O2 := n_O2
        have O3 := n_O3
        have O4 := n_O4
        have HK := n_K
        clear n_H n_o n_2 n_3 n_O1 n_O2 n_O3 n_O4 n_K
        refine last_ (i := 7) (N := none) #[true, true, true, true, true, true, true, true] rfl rfl (by kernel_rfl) (by decide) (fun K hK => ?_)
        refine skip_ (w1 := u142.setRow g6 (rcs s (.slice A2 s.txs.length c2) (.slice B2 s.dirty.length d2))) (by rfl) rfl (run_store_row 47 (.tmp 6) (.tmp 13) rfl g6 (rcs s (.slice A2 s.txs.length c2) (.slice B2 s.dirty.length d2)) rfl rfl 47 _ H6.out (by kernel_rfl) rfl (by simp [rcs, Value.oneCell'])) ?_
        refine hK.out _ _ ?_
        clear hK K
        have n_H := Lib.hid (blk_setRow (cs' := (rcs s (.slice A2 s.txs.length c2) (.slice B2 s.dirty.length d2))) H6.out)
        have n_o := Lib.hid (blk_setRow_far H5.out (rcs s (.slice A2 s.txs.length c2) (.slice B2 s.dirty.length d2)) (show g5 ≠ g6 by have h_ := HNN.out; omega))
        have n_2 := Lib.hid (blk_setRow_far H2.out (rcs s (.slice A2 s.txs.length c2) (.slice B2 s.dirty.length d2)) (show w.heap.size ≠ g6 by have h_ := HG6b.out; omega))
        have n_3 := Lib.hid (blk_setRow_far H3.out (rcs s (.slice A2 s.txs.length c2) (.slice B2 s.dirty.length d2)) (show w.heap.size + 1 ≠ g6 by have h_ := HG6b.out; omega))
        have n_O1 := Lib.hid (own_setRow (T := 47) (g := g6) (cs' := (rcs s (.slice A2 s.txs.length c2) (.slice B2 s.dirty.length d2))) O1.out H6.out (by decide))
        have n_O2 := Lib.hid (own_setRow (T := 47) (g := g6) (cs' := (rcs s (.slice A2 s.txs.length c2) (.slice B2 s.dirty.length d2))) O2.out H6.out (by decide))
        have n_O3 := Lib.hid (own_setRow (T := 47) (g := g6) (cs' := (rcs s (.slice A2 s.txs.length c2) (.slice B2 s.dirty.length d2))) O3.out H6.out (by decide))
        have n_O4 := Lib.hid (own_setRow (T := 47) (g := g6) (cs' := (rcs s (.slice A2 s.txs.length c2) (.slice B2 s.dirty.length d2))) O4.out H6.out (by decide))
        have n_K := Lib.hid (setRow_below HK.out HG6.out (rcs s (.slice A2 s.txs.length c2) (.slice B2 s.dirty.length d2)))
        generalize u142.setRow g6 (rcs s (.slice A2 s.txs.length c2) (.slice B2 s.dirty.length d2)) = u143 at *
        clear H2 H3 H5 H6 O1 O2 O3 O4 HK
        have H6 := n_H
        have H5 := n_o
        have H2 := n_2
        have H3 := n_3
        have O1 := n_O1
        have O2 := n_O2
        have O3 := n_O3
        have O4 := n_O4
        have HK := n_K
        clear n_H n_o n_2 n_3 n_O1 n_O2 n_O3 n_O4 n_K
        refine done_ (by kernel_rfl) ?_
        go_wp2_with fail
        go_meet
        exact ⟨g5, g6, A1, c1, B1, d1, A2, c2, B2, d2, rfl, rfl, H2, H3, H5, H6, Lib.hid (own_rdr (fun _ => rfl) O1.out), Lib.hid (own_rdr (fun _ => rfl) O2.out), Lib.hid (own_rdr (fun _ => rfl) O3.out), Lib.hid (own_rdr (fun _ => rfl) O4.out), HK⟩
    · refine value_ (w1 := x1.alloc (.cells #[.int .i64 0, .int .i64 0, .int .u64 0, .int .u64 0, .int .u32 0, .int .i64 0, .int .i64 0, .string ⟨#[]⟩, .string ⟨#[]⟩, .int .i64 0, .int .i64 0, .string ⟨#[]⟩, .int .u32 0, .int .i64 0, .bool false, .slice none 0 0, .slice none 0 0] 47)) (v := .pointer (some ⟨x1.heap.size, 0, none⟩)) (by rfl) rfl (by go_simp) ?_
      have hb5 := balloc (Below.refl x1.heap.size x1) (.cells #[.int .i64 0, .int .i64 0, .int .u64 0, .int .u64 0, .int .u32 0, .int .i64 0, .int .i64 0, .string ⟨#[]⟩, .string ⟨#[]⟩, .int .i64 0, .int .i64 0, .string ⟨#[]⟩, .int .u32 0, .int .i64 0, .bool false, .slice none 0 0, .slice none 0 0] 47)
      have hL := Blk.new x1 47 #[.int .i64 0, .int .i64 0, .int .u64 0, .int .u64 0, .int .u32 0, .int .i64 0, .int .i64 0, .string ⟨#[]⟩, .string ⟨#[]⟩, .int .i64 0, .int .i64 0, .string ⟨#[]⟩, .int .u32 0, .int .i64 0, .bool false, .slice none 0 0, .slice none 0 0]
      have HG6 := Lib.hid HK.out.size
      have HG6b := Lib.hid (show w.heap.size + 1 < x1.heap.size from H3.out.lt)
      have n_H2 := Lib.hid (H2.out.step hb5)
      have n_H3 := Lib.hid (H3.out.step hb5)
      have n_HK := Lib.hid (bstep HK.out hb5)
      clear hb5 H2 H3 HK
      have H2 := n_H2
      have H3 := n_H3
      have HK := n_HK
      clear n_H2 n_H3 n_HK
      generalize x1.alloc (.cells #[.int .i64 0, .int .i64 0, .int .u64 0, .int .u64 0, .int .u32 0, .int .i64 0, .int .i64 0, .string ⟨#[]⟩, .string ⟨#[]⟩, .int .i64 0, .int .i64 0, .string ⟨#[]⟩, .int .u32 0, .int .i64 0, .bool false, .slice none 0 0, .slice none 0 0] 47) = u144 at *
      generalize x1.heap.size = g6 at *
      have H6 := Lib.hid hL
      clear hL
      refine hK.out _ _ ⟨H2.out, H3.out⟩ (fun hHeld => ?_)
      clear hK K hHeld
      refine norm_ (a' := ?_) ?_ ?_
      rotate_left
      · show Act.put _ (some 6) _ = _
        simp only [Act.put, List.setIfInBounds_toArray, List.set_cons_zero, List.set_cons_succ]
        rfl
      refine two_ (i := 1) (j := 4) (Ni := some 11) (Nj := some 5) #[true, true, true, false, false, true, false, false] #[true, false, true, false, true, true, false, false] rfl rfl rfl rfl (by kernel_rfl) (by decide) (by decide) (fun K hK => ?_) (fun K hK => ?_)
      · refine goes_ Try.func13 (by kernel_rfl) rfl #[r.val A c B d] (by rfl) rfl rfl (by (try simp only [List.map_toArray, List.map_cons, List.map_nil]); first | done | rfl) ?_
        refine (ref_any r A c B d u144 (HR.out.below HK.out).rdA (HR.out.below HK.out).rdB HR.out.bA HR.out.bB).mono ?_
        rintro e_ u145 ⟨⟨v1, v2, rfl, ho1, ho2⟩, hb5⟩
        have O1 := Lib.hid (own_le ho1 HK.out.size)
        have O2 := Lib.hid (own_le ho2 HK.out.size)
        clear ho1 ho2
        have n_H2 := Lib.hid (H2.out.step hb5)
        have n_H3 := Lib.hid (H3.out.step hb5)
        have n_HK := Lib.hid (bstep HK.out hb5)
        have n_H6 := Lib.hid (H6.out.step hb5)
        clear hb5 H2 H3 HK H6
        have H2 := n_H2
        have H3 := n_H3
        have HK := n_HK
        have H6 := n_H6
        clear n_H2 n_H3 n_HK n_H6
        refine ⟨_, rfl, ?_⟩
        refine hK.out _ _ ⟨H2.out, H3.out⟩ (fun hHeld => ?_)
        clear hK K hHeld
        refine norm_ (a' := ?_) ?_ ?_
        rotate_left
        · show Act.put _ (some 11) _ = _
          simp only [Act.put, List.setIfInBounds_toArray, List.set_cons_zero, List.set_cons_succ]
          rfl
        refine two_ (i := 3) (j := 4) (Ni := some 13) (Nj := some 5) #[true, true, true, true, false, true, false, false] #[true, true, true, false, true, true, false, false] rfl rfl rfl rfl (by kernel_rfl) (by decide) (by decide) (fun K hK => ?_) (fun K hK => ?_)
        · refine goes_ Try.func13 (by kernel_rfl) rfl #[s.val A' c' B' d'] (by rfl) rfl rfl (by (try simp only [List.map_toArray, List.map_cons, List.map_nil]); first | done | rfl) ?_
          refine (ref_any s A' c' B' d' u145 (HS.out.below HK.out).rdA (HS.out.below HK.out).rdB HS.out.bA HS.out.bB).mono ?_
          rintro e_ u146 ⟨⟨v3, v4, rfl, ho1, ho2⟩, hb5⟩
          have O3 := Lib.hid (own_le ho1 HK.out.size)
          have O4 := Lib.hid (own_le ho2 HK.out.size)
          clear ho1 ho2
          have n_H2 := Lib.hid (H2.out.step hb5)
          have n_H3 := Lib.hid (H3.out.step hb5)
          have n_HK := Lib.hid (bstep HK.out hb5)
          have n_H6 := Lib.hid (H6.out.step hb5)
          have n_O1 := Lib.hid (own_below O1.out hb5)
          have n_O2 := Lib.hid (own_below O2.out hb5)
          clear hb5 H2 H3 HK H6 O1 O2
          have H2 := n_H2
          have H3 := n_H3
          have HK := n_HK
          have H6 := n_H6
          have O1 := n_O1
          have O2 := n_O2
          clear n_H2 n_H3 n_HK n_H6 n_O1 n_O2
          refine ⟨_, rfl, ?_⟩
          refine hK.out _ _ ⟨H2.out, H3.out⟩ (fun hHeld => ?_)
          clear hK K hHeld
          refine norm_ (a' := ?_) ?_ ?_
          rotate_left
          · show Act.put _ (some 13) _ = _
            simp only [Act.put, List.setIfInBounds_toArray, List.set_cons_zero, List.set_cons_succ]
            rfl
          refine one_ (i := 4) (N := some 5) #[true, true, true, true, true, true, false, false] rfl rfl (by kernel_rfl) (by decide) (fun K hK => ?_)
          refine value_ (w1 := u146.alloc (.cells #[.int .i64 0, .int .i64 0, .int .u64 0, .int .u64 0, .int .u32 0, .int .i64 0, .int .i64 0, .string ⟨#[]⟩, .string ⟨#[]⟩, .int .i64 0, .int .i64 0, .string ⟨#[]⟩, .int .u32 0, .int .i64 0, .bool false, .slice none 0 0, .slice none 0 0] 47)) (v := .pointer (some ⟨u146.heap.size, 0, none⟩)) (by rfl) rfl (by go_simp) ?_
          have hb5 := balloc (Below.refl u146.heap.size u146) (.cells #[.int .i64 0, .int .i64 0, .int .u64 0, .int .u64 0, .int .u32 0, .int .i64 0, .int .i64 0, .string ⟨#[]⟩, .string ⟨#[]⟩, .int .i64 0, .int .i64 0, .string ⟨#[]⟩, .int .u32 0, .int .i64 0, .bool false, .slice none 0 0, .slice none 0 0] 47)
          have hL := Blk.new u146 47 #[.int .i64 0, .int .i64 0, .int .u64 0, .int .u64 0, .int .u32 0, .int .i64 0, .int .i64 0, .string ⟨#[]⟩, .string ⟨#[]⟩, .int .i64 0, .int .i64 0, .string ⟨#[]⟩, .int .u32 0, .int .i64 0, .bool false, .slice none 0 0, .slice none 0 0]
          have HG5 := Lib.hid HK.out.size
          have HG5b := Lib.hid (show w.heap.size + 1 < u146.heap.size from H3.out.lt)
          have HNN := Lib.hid (Nat.ne_of_lt H6.out.lt)
          have n_H2 := Lib.hid (H2.out.step hb5)
          have n_H3 := Lib.hid (H3.out.step hb5)
          have n_HK := Lib.hid (bstep HK.out hb5)
          have n_H6 := Lib.hid (H6.out.step hb5)
          have n_O1 := Lib.hid (own_below O1.out hb5)
          have n_O2 := Lib.hid (own_below O2.out hb5)
          have n_O3 := Lib.hid (own_below O3.out hb5)
          have n_O4 := Lib.hid (own_below O4.out hb5)
          clear hb5 H2 H3 HK H6 O1 O2 O3 O4
          have H2 := n_H2
          have H3 := n_H3
          have HK := n_HK
          have H6 := n_H6
          have O1 := n_O1
          have O2 := n_O2
          have O3 := n_O3
          have O4 := n_O4
          clear n_H2 n_H3 n_HK n_H6 n_O1 n_O2 n_O3 n_O4
          generalize u146.alloc (.cells #[.int .i64 0, .int .i64 0, .int .u64 0, .int .u64 0, .int .u32 0, .int .i64 0, .int .i64 0, .string ⟨#[]⟩, .string ⟨#[]⟩, .int .i64 0, .int .i64 0, .string ⟨#[]⟩, .int .u32 0, .int .i64 0, .bool false, .slice none 0 0, .slice none 0 0] 47) = u147 at *
          generalize u146.heap.size = g5 at *
          have H5 := Lib.hid hL
          clear hL
          refine hK.out _ _ ⟨H2.out, H3.out⟩ (fun hHeld => ?_)
          clear hK K hHeld
          refine norm_ (a' := ?_) ?_ ?_
          rotate_left
          · show Act.put _ (some 5) _ = _
            simp only [Act.put, List.setIfInBounds_toArray, List.set_cons_zero, List.set_cons_succ]
            rfl
          skip
          obtain ⟨A1, c1, rfl⟩ := own_sl O1.out
          obtain ⟨B1, d1, rfl⟩ := own_sl O2.out
          obtain ⟨A2, c2, rfl⟩ := own_sl O3.out
          obtain ⟨B2, d2, rfl⟩ := own_sl O4.out
          refine last_ (i := 6) (N := none) #[true, true, true, true, true, true, true, false] rfl rfl (by kernel_rfl) (by decide) (fun K hK => ?_)
          refine skip_ (w1 := u147.setRow g5 (rcs r (.slice A1 r.txs.length c1) (.slice B1 r.dirty.length d1))) (by rfl) rfl (run_store_row 47 (.tmp 5) (.tmp 11) rfl g5 (rcs r (.slice A1 r.txs.length c1) (.slice B1 r.dirty.length d1)) rfl rfl 47 _ H5.out (by kernel_rfl) rfl (by simp [rcs, Value.oneCell'])) ?_
          refine hK.out _ _ ?_
          clear hK K
          have n_H := Lib.hid (blk_setRow (cs' := (rcs r (.slice A1 r.txs.length c1) (.slice B1 r.dirty.length d1))) H5.out)
          have n_o := Lib.hid (blk_setRow_far H6.out (rcs r (.slice A1 r.txs.length c1) (.slice B1 r.dirty.length d1)) (show g6 ≠ g5 by have h_ := HNN.out; omega))
          have n_2 := Lib.hid (blk_setRow_far H2.out (rcs r (.slice A1 r.txs.length c1) (.slice B1 r.dirty.length d1)) (show w.heap.size ≠ g5 by have h_ := HG5b.out; omega))
          have n_3 := Lib.hid (blk_setRow_far H3.out (rcs r (.slice A1 r.txs.length c1) (.slice B1 r.dirty.length d1)) (show w.heap.size + 1 ≠ g5 by have h_ := HG5b.out; omega))
          have n_O1 := Lib.hid (own_setRow (T := 47) (g := g5) (cs' := (rcs r (.slice A1 r.txs.length c1) (.slice B1 r.dirty.length d1))) O1.out H5.out (by decide))
          have n_O2 := Lib.hid (own_setRow (T := 47) (g := g5) (cs' := (rcs r (.slice A1 r.txs.length c1) (.slice B1 r.dirty.length d1))) O2.out H5.out (by decide))
          have n_O3 := Lib.hid (own_setRow (T := 47) (g := g5) (cs' := (rcs r (.slice A1 r.txs.length c1) (.slice B1 r.dirty.length d1))) O3.out H5.out (by decide))
          have n_O4 := Lib.hid (own_setRow (T := 47) (g := g5) (cs' := (rcs r (.slice A1 r.txs.length c1) (.slice B1 r.dirty.length d1))) O4.out H5.out (by decide))
          have n_K := Lib.hid (setRow_below HK.out HG5.out (rcs r (.slice A1 r.txs.length c1) (.slice B1 r.dirty.length d1)))
          generalize u147.setRow g5 (rcs r (.slice A1 r.txs.length c1) (.slice B1 r.dirty.length d1)) = u148 at *
          clear H2 H3 H5 H6 O1 O2 O3 O4 HK
          have H5 := n_H
          have H6 := n_o
          have H2 := n_2
          have H3 := n_3
          have O1 := n_O1
          have O2 := n_O2
          have O3 := n_O3
          have O4 := n_O4
          have HK := n_K
          clear n_H n_o n_2 n_3 n_O1 n_O2 n_O3 n_O4 n_K
          refine last_ (i := 7) (N := none) #[true, true, true, true, true, true, true, true] rfl rfl (by kernel_rfl) (by decide) (fun K hK => ?_)
          refine skip_ (w1 := u148.setRow g6 (rcs s (.slice A2 s.txs.length c2) (.slice B2 s.dirty.length d2))) (by rfl) rfl (run_store_row 47 (.tmp 6) (.tmp 13) rfl g6 (rcs s (.slice A2 s.txs.length c2) (.slice B2 s.dirty.length d2)) rfl rfl 47 _ H6.out (by kernel_rfl) rfl (by simp [rcs, Value.oneCell'])) ?_
          refine hK.out _ _ ?_
          clear hK K
          have n_H := Lib.hid (blk_setRow (cs' := (rcs s (.slice A2 s.txs.length c2) (.slice B2 s.dirty.length d2))) H6.out)
          have n_o := Lib.hid (blk_setRow_far H5.out (rcs s (.slice A2 s.txs.length c2) (.slice B2 s.dirty.length d2)) (show g5 ≠ g6 by have h_ := HNN.out; omega))
          have n_2 := Lib.hid (blk_setRow_far H2.out (rcs s (.slice A2 s.txs.length c2) (.slice B2 s.dirty.length d2)) (show w.heap.size ≠ g6 by have h_ := HG6b.out; omega))
          have n_3 := Lib.hid (blk_setRow_far H3.out (rcs s (.slice A2 s.txs.length c2) (.slice B2 s.dirty.length d2)) (show w.heap.size + 1 ≠ g6 by have h_ := HG6b.out; omega))
          have n_O1 := Lib.hid (own_setRow (T := 47) (g := g6) (cs' := (rcs s (.slice A2 s.txs.length c2) (.slice B2 s.dirty.length d2))) O1.out H6.out (by decide))
          have n_O2 := Lib.hid (own_setRow (T := 47) (g := g6) (cs' := (rcs s (.slice A2 s.txs.length c2) (.slice B2 s.dirty.length d2))) O2.out H6.out (by decide))
          have n_O3 := Lib.hid (own_setRow (T := 47) (g := g6) (cs' := (rcs s (.slice A2 s.txs.length c2) (.slice B2 s.dirty.length d2))) O3.out H6.out (by decide))
          have n_O4 := Lib.hid (own_setRow (T := 47) (g := g6) (cs' := (rcs s (.slice A2 s.txs.length c2) (.slice B2 s.dirty.length d2))) O4.out H6.out (by decide))
          have n_K := Lib.hid (setRow_below HK.out HG6.out (rcs s (.slice A2 s.txs.length c2) (.slice B2 s.dirty.length d2)))
          generalize u148.setRow g6 (rcs s (.slice A2 s.txs.length c2) (.slice B2 s.dirty.length d2)) = u149 at *
          clear H2 H3 H5 H6 O1 O2 O3 O4 HK
          have H6 := n_H
          have H5 := n_o
          have H2 := n_2
          have H3 := n_3
          have O1 := n_O1
          have O2 := n_O2
          have O3 := n_O3
          have O4 := n_O4
          have HK := n_K
          clear n_H n_o n_2 n_3 n_O1 n_O2 n_O3 n_O4 n_K
          refine done_ (by kernel_rfl) ?_
          go_wp2_with fail
          go_meet
          exact ⟨g5, g6, A1, c1, B1, d1, A2, c2, B2, d2, rfl, rfl, H2, H3, H5, H6, Lib.hid (own_rdr (fun _ => rfl) O1.out), Lib.hid (own_rdr (fun _ => rfl) O2.out), Lib.hid (own_rdr (fun _ => rfl) O3.out), Lib.hid (own_rdr (fun _ => rfl) O4.out), HK⟩
        · refine value_ (w1 := u145.alloc (.cells #[.int .i64 0, .int .i64 0, .int .u64 0, .int .u64 0, .int .u32 0, .int .i64 0, .int .i64 0, .string ⟨#[]⟩, .string ⟨#[]⟩, .int .i64 0, .int .i64 0, .string ⟨#[]⟩, .int .u32 0, .int .i64 0, .bool false, .slice none 0 0, .slice none 0 0] 47)) (v := .pointer (some ⟨u145.heap.size, 0, none⟩)) (by rfl) rfl (by go_simp) ?_
          have hb5 := balloc (Below.refl u145.heap.size u145) (.cells #[.int .i64 0, .int .i64 0, .int .u64 0, .int .u64 0, .int .u32 0, .int .i64 0, .int .i64 0, .string ⟨#[]⟩, .string ⟨#[]⟩, .int .i64 0, .int .i64 0, .string ⟨#[]⟩, .int .u32 0, .int .i64 0, .bool false, .slice none 0 0, .slice none 0 0] 47)
          have hL := Blk.new u145 47 #[.int .i64 0, .int .i64 0, .int .u64 0, .int .u64 0, .int .u32 0, .int .i64 0, .int .i64 0, .string ⟨#[]⟩, .string ⟨#[]⟩, .int .i64 0, .int .i64 0, .string ⟨#[]⟩, .int .u32 0, .int .i64 0, .bool false, .slice none 0 0, .slice none 0 0]
          have HG5 := Lib.hid HK.out.size
          have HG5b := Lib.hid (show w.heap.size + 1 < u145.heap.size from H3.out.lt)
          have HNN := Lib.hid (Nat.ne_of_lt H6.out.lt)
          have n_H2 := Lib.hid (H2.out.step hb5)
          have n_H3 := Lib.hid (H3.out.step hb5)
          have n_HK := Lib.hid (bstep HK.out hb5)
          have n_H6 := Lib.hid (H6.out.step hb5)
          have n_O1 := Lib.hid (own_below O1.out hb5)
          have n_O2 := Lib.hid (own_below O2.out hb5)
          clear hb5 H2 H3 HK H6 O1 O2
          have H2 := n_H2
          have H3 := n_H3
          have HK := n_HK
          have H6 := n_H6
          have O1 := n_O1
          have O2 := n_O2
          clear n_H2 n_H3 n_HK n_H6 n_O1 n_O2
          generalize u145.alloc (.cells #[.int .i64 0, .int .i64 0, .int .u64 0, .int .u64 0, .int .u32 0, .int .i64 0, .int .i64 0, .string ⟨#[]⟩, .string ⟨#[]⟩, .int .i64 0, .int .i64 0, .string ⟨#[]⟩, .int .u32 0, .int .i64 0, .bool false, .slice none 0 0, .slice none 0 0] 47) = u150 at *
          generalize u145.heap.size = g5 at *
          have H5 := Lib.hid hL
          clear hL
          refine hK.out _ _ ⟨H2.out, H3.out⟩ (fun hHeld => ?_)
          clear hK K hHeld
          refine norm_ (a' := ?_) ?_ ?_
          rotate_left
          · show Act.put _ (some 5) _ = _
            simp only [Act.put, List.setIfInBounds_toArray, List.set_cons_zero, List.set_cons_succ]
            rfl
          refine one_ (i := 3) (N := some 13) #[true, true, true, true, true, true, false, false] rfl rfl (by kernel_rfl) (by decide) (fun K hK => ?_)
          refine goes_ Try.func13 (by kernel_rfl) rfl #[s.val A' c' B' d'] (by rfl) rfl rfl (by (try simp only [List.map_toArray, List.map_cons, List.map_nil]); first | done | rfl) ?_
          refine (ref_any s A' c' B' d' u150 (HS.out.below HK.out).rdA (HS.out.below HK.out).rdB HS.out.bA HS.out.bB).mono ?_
          rintro e_ u151 ⟨⟨v3, v4, rfl, ho1, ho2⟩, hb5⟩
          have O3 := Lib.hid (own_le ho1 HK.out.size)
          have O4 := Lib.hid (own_le ho2 HK.out.size)
          clear ho1 ho2
          have n_H2 := Lib.hid (H2.out.step hb5)
          have n_H3 := Lib.hid (H3.out.step hb5)
          have n_HK := Lib.hid (bstep HK.out hb5)
          have n_H6 := Lib.hid (H6.out.step hb5)
          have n_O1 := Lib.hid (own_below O1.out hb5)
          have n_O2 := Lib.hid (own_below O2.out hb5)
          have n_H5 := Lib.hid (H5.out.step hb5)
          clear hb5 H2 H3 HK H6 O1 O2 H5
          have H2 := n_H2
          have H3 := n_H3
          have HK := n_HK
          have H6 := n_H6
          have O1 := n_O1
          have O2 := n_O2
          have H5 := n_H5
          clear n_H2 n_H3 n_HK n_H6 n_O1 n_O2 n_H5
          refine ⟨_, rfl, ?_⟩
          refine hK.out _ _ ⟨H2.out, H3.out⟩ (fun hHeld => ?_)
          clear hK K hHeld
          refine norm_ (a' := ?_) ?_ ?_
          rotate_left
          · show Act.put _ (some 13) _ = _
            simp only [Act.put, List.setIfInBounds_toArray, List.set_cons_zero, List.set_cons_succ]
            rfl
          skip
          obtain ⟨A1, c1, rfl⟩ := own_sl O1.out
          obtain ⟨B1, d1, rfl⟩ := own_sl O2.out
          obtain ⟨A2, c2, rfl⟩ := own_sl O3.out
          obtain ⟨B2, d2, rfl⟩ := own_sl O4.out
          refine last_ (i := 6) (N := none) #[true, true, true, true, true, true, true, false] rfl rfl (by kernel_rfl) (by decide) (fun K hK => ?_)
          refine skip_ (w1 := u151.setRow g5 (rcs r (.slice A1 r.txs.length c1) (.slice B1 r.dirty.length d1))) (by rfl) rfl (run_store_row 47 (.tmp 5) (.tmp 11) rfl g5 (rcs r (.slice A1 r.txs.length c1) (.slice B1 r.dirty.length d1)) rfl rfl 47 _ H5.out (by kernel_rfl) rfl (by simp [rcs, Value.oneCell'])) ?_
          refine hK.out _ _ ?_
          clear hK K
          have n_H := Lib.hid (blk_setRow (cs' := (rcs r (.slice A1 r.txs.length c1) (.slice B1 r.dirty.length d1))) H5.out)
          have n_o := Lib.hid (blk_setRow_far H6.out (rcs r (.slice A1 r.txs.length c1) (.slice B1 r.dirty.length d1)) (show g6 ≠ g5 by have h_ := HNN.out; omega))
          have n_2 := Lib.hid (blk_setRow_far H2.out (rcs r (.slice A1 r.txs.length c1) (.slice B1 r.dirty.length d1)) (show w.heap.size ≠ g5 by have h_ := HG5b.out; omega))
          have n_3 := Lib.hid (blk_setRow_far H3.out (rcs r (.slice A1 r.txs.length c1) (.slice B1 r.dirty.length d1)) (show w.heap.size + 1 ≠ g5 by have h_ := HG5b.out; omega))
          have n_O1 := Lib.hid (own_setRow (T := 47) (g := g5) (cs' := (rcs r (.slice A1 r.txs.length c1) (.slice B1 r.dirty.length d1))) O1.out H5.out (by decide))
          have n_O2 := Lib.hid (own_setRow (T := 47) (g := g5) (cs' := (rcs r (.slice A1 r.txs.length c1) (.slice B1 r.dirty.length d1))) O2.out H5.out (by decide))
          have n_O3 := Lib.hid (own_setRow (T := 47) (g := g5) (cs' := (rcs r (.slice A1 r.txs.length c1) (.slice B1 r.dirty.length d1))) O3.out H5.out (by decide))
          have n_O4 := Lib.hid (own_setRow (T := 47) (g := g5) (cs' := (rcs r (.slice A1 r.txs.length c1) (.slice B1 r.dirty.length d1))) O4.out H5.out (by decide))
          have n_K := Lib.hid (setRow_below HK.out HG5.out (rcs r (.slice A1 r.txs.length c1) (.slice B1 r.dirty.length d1)))
          generalize u151.setRow g5 (rcs r (.slice A1 r.txs.length c1) (.slice B1 r.dirty.length d1)) = u152 at *
          clear H2 H3 H5 H6 O1 O2 O3 O4 HK
          have H5 := n_H
          have H6 := n_o
          have H2 := n_2
          have H3 := n_3
          have O1 := n_O1
          have O2 := n_O2
          have O3 := n_O3
          have O4 := n_O4
          have HK := n_K
          clear n_H n_o n_2 n_3 n_O1 n_O2 n_O3 n_O4 n_K
          refine last_ (i := 7) (N := none) #[true, true, true, true, true, true, true, true] rfl rfl (by kernel_rfl) (by decide) (fun K hK => ?_)
          refine skip_ (w1 := u152.setRow g6 (rcs s (.slice A2 s.txs.length c2) (.slice B2 s.dirty.length d2))) (by rfl) rfl (run_store_row 47 (.tmp 6) (.tmp 13) rfl g6 (rcs s (.slice A2 s.txs.length c2) (.slice B2 s.dirty.length d2)) rfl rfl 47 _ H6.out (by kernel_rfl) rfl (by simp [rcs, Value.oneCell'])) ?_
          refine hK.out _ _ ?_
          clear hK K
          have n_H := Lib.hid (blk_setRow (cs' := (rcs s (.slice A2 s.txs.length c2) (.slice B2 s.dirty.length d2))) H6.out)
          have n_o := Lib.hid (blk_setRow_far H5.out (rcs s (.slice A2 s.txs.length c2) (.slice B2 s.dirty.length d2)) (show g5 ≠ g6 by have h_ := HNN.out; omega))
          have n_2 := Lib.hid (blk_setRow_far H2.out (rcs s (.slice A2 s.txs.length c2) (.slice B2 s.dirty.length d2)) (show w.heap.size ≠ g6 by have h_ := HG6b.out; omega))
          have n_3 := Lib.hid (blk_setRow_far H3.out (rcs s (.slice A2 s.txs.length c2) (.slice B2 s.dirty.length d2)) (show w.heap.size + 1 ≠ g6 by have h_ := HG6b.out; omega))
          have n_O1 := Lib.hid (own_setRow (T := 47) (g := g6) (cs' := (rcs s (.slice A2 s.txs.length c2) (.slice B2 s.dirty.length d2))) O1.out H6.out (by decide))
          have n_O2 := Lib.hid (own_setRow (T := 47) (g := g6) (cs' := (rcs s (.slice A2 s.txs.length c2) (.slice B2 s.dirty.length d2))) O2.out H6.out (by decide))
          have n_O3 := Lib.hid (own_setRow (T := 47) (g := g6) (cs' := (rcs s (.slice A2 s.txs.length c2) (.slice B2 s.dirty.length d2))) O3.out H6.out (by decide))
          have n_O4 := Lib.hid (own_setRow (T := 47) (g := g6) (cs' := (rcs s (.slice A2 s.txs.length c2) (.slice B2 s.dirty.length d2))) O4.out H6.out (by decide))
          have n_K := Lib.hid (setRow_below HK.out HG6.out (rcs s (.slice A2 s.txs.length c2) (.slice B2 s.dirty.length d2)))
          generalize u152.setRow g6 (rcs s (.slice A2 s.txs.length c2) (.slice B2 s.dirty.length d2)) = u153 at *
          clear H2 H3 H5 H6 O1 O2 O3 O4 HK
          have H6 := n_H
          have H5 := n_o
          have H2 := n_2
          have H3 := n_3
          have O1 := n_O1
          have O2 := n_O2
          have O3 := n_O3
          have O4 := n_O4
          have HK := n_K
          clear n_H n_o n_2 n_3 n_O1 n_O2 n_O3 n_O4 n_K
          refine done_ (by kernel_rfl) ?_
          go_wp2_with fail
          go_meet
          exact ⟨g5, g6, A1, c1, B1, d1, A2, c2, B2, d2, rfl, rfl, H2, H3, H5, H6, Lib.hid (own_rdr (fun _ => rfl) O1.out), Lib.hid (own_rdr (fun _ => rfl) O2.out), Lib.hid (own_rdr (fun _ => rfl) O3.out), Lib.hid (own_rdr (fun _ => rfl) O4.out), HK⟩
      · refine value_ (w1 := u144.alloc (.cells #[.int .i64 0, .int .i64 0, .int .u64 0, .int .u64 0, .int .u32 0, .int .i64 0, .int .i64 0, .string ⟨#[]⟩, .string ⟨#[]⟩, .int .i64 0, .int .i64 0, .string ⟨#[]⟩, .int .u32 0, .int .i64 0, .bool false, .slice none 0 0, .slice none 0 0] 47)) (v := .pointer (some ⟨u144.heap.size, 0, none⟩)) (by rfl) rfl (by go_simp) ?_
        have hb5 := balloc (Below.refl u144.heap.size u144) (.cells #[.int .i64 0, .int .i64 0, .int .u64 0, .int .u64 0, .int .u32 0, .int .i64 0, .int .i64 0, .string ⟨#[]⟩, .string ⟨#[]⟩, .int .i64 0, .int .i64 0, .string ⟨#[]⟩, .int .u32 0, .int .i64 0, .bool false, .slice none 0 0, .slice none 0 0] 47)
        have hL := Blk.new u144 47 #[.int .i64 0, .int .i64 0, .int .u64 0, .int .u64 0, .int .u32 0, .int .i64 0, .int .i64 0, .string ⟨#[]⟩, .string ⟨#[]⟩, .int .i64 0, .int .i64 0, .string ⟨#[]⟩, .int .u32 0, .int .i64 0, .bool false, .slice none 0 0, .slice none 0 0]
        have HG5 := Lib.hid HK.out.size
        have HG5b := Lib.hid (show w.heap.size + 1 < u144.heap.size from H3.out.lt)
        have HNN := Lib.hid (Nat.ne_of_lt H6.out.lt)
        have n_H2 := Lib.hid (H2.out.step hb5)
        have n_H3 := Lib.hid (H3.out.step hb5)
        have n_HK := Lib.hid (bstep HK.out hb5)
        have n_H6 := Lib.hid (H6.out.step hb5)
        clear hb5 H2 H3 HK H6
        have H2 := n_H2
        have H3 := n_H3
        have HK := n_HK
        have H6 := n_H6
        clear n_H2 n_H3 n_HK n_H6
        generalize u144.alloc (.cells #[.int .i64 0, .int .i64 0, .int .u64 0, .int .u64 0, .int .u32 0, .int .i64 0, .int .i64 0, .string ⟨#[]⟩, .string ⟨#[]⟩, .int .i64 0, .int .i64 0, .string ⟨#[]⟩, .int .u32 0, .int .i64 0, .bool false, .slice none 0 0, .slice none 0 0] 47) = u154 at *
        generalize u144.heap.size = g5 at *
        have H5 := Lib.hid hL
        clear hL
        refine hK.out _ _ ⟨H2.out, H3.out⟩ (fun hHeld => ?_)
        clear hK K hHeld
        refine norm_ (a' := ?_) ?_ ?_
        rotate_left
        · show Act.put _ (some 5) _ = _
          simp only [Act.put, List.setIfInBounds_toArray, List.set_cons_zero, List.set_cons_succ]
          rfl
        refine one_ (i := 1) (N := some 11) #[true, true, true, false, true, true, false, false] rfl rfl (by kernel_rfl) (by decide) (fun K hK => ?_)
        refine goes_ Try.func13 (by kernel_rfl) rfl #[r.val A c B d] (by rfl) rfl rfl (by (try simp only [List.map_toArray, List.map_cons, List.map_nil]); first | done | rfl) ?_
        refine (ref_any r A c B d u154 (HR.out.below HK.out).rdA (HR.out.below HK.out).rdB HR.out.bA HR.out.bB).mono ?_
        rintro e_ u155 ⟨⟨v1, v2, rfl, ho1, ho2⟩, hb5⟩
        have O1 := Lib.hid (own_le ho1 HK.out.size)
        have O2 := Lib.hid (own_le ho2 HK.out.size)
        clear ho1 ho2
        have n_H2 := Lib.hid (H2.out.step hb5)
        have n_H3 := Lib.hid (H3.out.step hb5)
        have n_HK := Lib.hid (bstep HK.out hb5)
        have n_H6 := Lib.hid (H6.out.step hb5)
        have n_H5 := Lib.hid (H5.out.step hb5)
        clear hb5 H2 H3 HK H6 H5
        have H2 := n_H2
        have H3 := n_H3
        have HK := n_HK
        have H6 := n_H6
        have H5 := n_H5
        clear n_H2 n_H3 n_HK n_H6 n_H5
        refine ⟨_, rfl, ?_⟩
        refine hK.out _ _ ⟨H2.out, H3.out⟩ (fun hHeld => ?_)
        clear hK K hHeld
        refine norm_ (a' := ?_) ?_ ?_
        rotate_left
        · show Act.put _ (some 11) _ = _
          simp only [Act.put, List.setIfInBounds_toArray, List.set_cons_zero, List.set_cons_succ]
          rfl
        refine one_ (i := 3) (N := some 13) #[true, true, true, true, true, true, false, false] rfl rfl (by kernel_rfl) (by decide) (fun K hK => ?_)
        refine goes_ Try.func13 (by kernel_rfl) rfl #[s.val A' c' B' d'] (by rfl) rfl rfl (by (try simp only [List.map_toArray, List.map_cons, List.map_nil]); first | done | rfl) ?_
        refine (ref_any s A' c' B' d' u155 (HS.out.below HK.out).rdA (HS.out.below HK.out).rdB HS.out.bA HS.out.bB).mono ?_
        rintro e_ u156 ⟨⟨v3, v4, rfl, ho1, ho2⟩, hb5⟩
        have O3 := Lib.hid (own_le ho1 HK.out.size)
        have O4 := Lib.hid (own_le ho2 HK.out.size)
        clear ho1 ho2
        have n_H2 := Lib.hid (H2.out.step hb5)
        have n_H3 := Lib.hid (H3.out.step hb5)
        have n_HK := Lib.hid (bstep HK.out hb5)
        have n_H6 := Lib.hid (H6.out.step hb5)
        have n_H5 := Lib.hid (H5.out.step hb5)
        have n_O1 := Lib.hid (own_below O1.out hb5)
        have n_O2 := Lib.hid (own_below O2.out hb5)
        clear hb5 H2 H3 HK H6 H5 O1 O2
        have H2 := n_H2
        have H3 := n_H3
        have HK := n_HK
        have H6 := n_H6
        have H5 := n_H5
        have O1 := n_O1
        have O2 := n_O2
        clear n_H2 n_H3 n_HK n_H6 n_H5 n_O1 n_O2
        refine ⟨_, rfl, ?_⟩
        refine hK.out _ _ ⟨H2.out, H3.out⟩ (fun hHeld => ?_)
        clear hK K hHeld
        refine norm_ (a' := ?_) ?_ ?_
        rotate_left
        · show Act.put _ (some 13) _ = _
          simp only [Act.put, List.setIfInBounds_toArray, List.set_cons_zero, List.set_cons_succ]
          rfl
        skip
        obtain ⟨A1, c1, rfl⟩ := own_sl O1.out
        obtain ⟨B1, d1, rfl⟩ := own_sl O2.out
        obtain ⟨A2, c2, rfl⟩ := own_sl O3.out
        obtain ⟨B2, d2, rfl⟩ := own_sl O4.out
        refine last_ (i := 6) (N := none) #[true, true, true, true, true, true, true, false] rfl rfl (by kernel_rfl) (by decide) (fun K hK => ?_)
        refine skip_ (w1 := u156.setRow g5 (rcs r (.slice A1 r.txs.length c1) (.slice B1 r.dirty.length d1))) (by rfl) rfl (run_store_row 47 (.tmp 5) (.tmp 11) rfl g5 (rcs r (.slice A1 r.txs.length c1) (.slice B1 r.dirty.length d1)) rfl rfl 47 _ H5.out (by kernel_rfl) rfl (by simp [rcs, Value.oneCell'])) ?_
        refine hK.out _ _ ?_
        clear hK K
        have n_H := Lib.hid (blk_setRow (cs' := (rcs r (.slice A1 r.txs.length c1) (.slice B1 r.dirty.length d1))) H5.out)
        have n_o := Lib.hid (blk_setRow_far H6.out (rcs r (.slice A1 r.txs.length c1) (.slice B1 r.dirty.length d1)) (show g6 ≠ g5 by have h_ := HNN.out; omega))
        have n_2 := Lib.hid (blk_setRow_far H2.out (rcs r (.slice A1 r.txs.length c1) (.slice B1 r.dirty.length d1)) (show w.heap.size ≠ g5 by have h_ := HG5b.out; omega))
        have n_3 := Lib.hid (blk_setRow_far H3.out (rcs r (.slice A1 r.txs.length c1) (.slice B1 r.dirty.length d1)) (show w.heap.size + 1 ≠ g5 by have h_ := HG5b.out; omega))
        have n_O1 := Lib.hid (own_setRow (T := 47) (g := g5) (cs' := (rcs r (.slice A1 r.txs.length c1) (.slice B1 r.dirty.length d1))) O1.out H5.out (by decide))
        have n_O2 := Lib.hid (own_setRow (T := 47) (g := g5) (cs' := (rcs r (.slice A1 r.txs.length c1) (.slice B1 r.dirty.length d1))) O2.out H5.out (by decide))
        have n_O3 := Lib.hid (own_setRow (T := 47) (g := g5) (cs' := (rcs r (.slice A1 r.txs.length c1) (.slice B1 r.dirty.length d1))) O3.out H5.out (by decide))
        have n_O4 := Lib.hid (own_setRow (T := 47) (g := g5) (cs' := (rcs r (.slice A1 r.txs.length c1) (.slice B1 r.dirty.length d1))) O4.out H5.out (by decide))
        have n_K := Lib.hid (setRow_below HK.out HG5.out (rcs r (.slice A1 r.txs.length c1) (.slice B1 r.dirty.length d1)))
        generalize u156.setRow g5 (rcs r (.slice A1 r.txs.length c1) (.slice B1 r.dirty.length d1)) = u157 at *
        clear H2 H3 H5 H6 O1 O2 O3 O4 HK
        have H5 := n_H
        have H6 := n_o
        have H2 := n_2
        have H3 := n_3
        have O1 := n_O1
        have O2 := n_O2
        have O3 := n_O3
        have O4 := n_O4
        have HK := n_K
        clear n_H n_o n_2 n_3 n_O1 n_O2 n_O3 n_O4 n_K
        refine last_ (i := 7) (N := none) #[true, true, true, true, true, true, true, true] rfl rfl (by kernel_rfl) (by decide) (fun K hK => ?_)
        refine skip_ (w1 := u157.setRow g6 (rcs s (.slice A2 s.txs.length c2) (.slice B2 s.dirty.length d2))) (by rfl) rfl (run_store_row 47 (.tmp 6) (.tmp 13) rfl g6 (rcs s (.slice A2 s.txs.length c2) (.slice B2 s.dirty.length d2)) rfl rfl 47 _ H6.out (by kernel_rfl) rfl (by simp [rcs, Value.oneCell'])) ?_
        refine hK.out _ _ ?_
        clear hK K
        have n_H := Lib.hid (blk_setRow (cs' := (rcs s (.slice A2 s.txs.length c2) (.slice B2 s.dirty.length d2))) H6.out)
        have n_o := Lib.hid (blk_setRow_far H5.out (rcs s (.slice A2 s.txs.length c2) (.slice B2 s.dirty.length d2)) (show g5 ≠ g6 by have h_ := HNN.out; omega))
        have n_2 := Lib.hid (blk_setRow_far H2.out (rcs s (.slice A2 s.txs.length c2) (.slice B2 s.dirty.length d2)) (show w.heap.size ≠ g6 by have h_ := HG6b.out; omega))
        have n_3 := Lib.hid (blk_setRow_far H3.out (rcs s (.slice A2 s.txs.length c2) (.slice B2 s.dirty.length d2)) (show w.heap.size + 1 ≠ g6 by have h_ := HG6b.out; omega))
        have n_O1 := Lib.hid (own_setRow (T := 47) (g := g6) (cs' := (rcs s (.slice A2 s.txs.length c2) (.slice B2 s.dirty.length d2))) O1.out H6.out (by decide))
        have n_O2 := Lib.hid (own_setRow (T := 47) (g := g6) (cs' := (rcs s (.slice A2 s.txs.length c2) (.slice B2 s.dirty.length d2))) O2.out H6.out (by decide))
        have n_O3 := Lib.hid (own_setRow (T := 47) (g := g6) (cs' := (rcs s (.slice A2 s.txs.length c2) (.slice B2 s.dirty.length d2))) O3.out H6.out (by decide))
        have n_O4 := Lib.hid (own_setRow (T := 47) (g := g6) (cs' := (rcs s (.slice A2 s.txs.length c2) (.slice B2 s.dirty.length d2))) O4.out H6.out (by decide))
        have n_K := Lib.hid (setRow_below HK.out HG6.out (rcs s (.slice A2 s.txs.length c2) (.slice B2 s.dirty.length d2)))
        generalize u157.setRow g6 (rcs s (.slice A2 s.txs.length c2) (.slice B2 s.dirty.length d2)) = u158 at *
        clear H2 H3 H5 H6 O1 O2 O3 O4 HK
        have H6 := n_H
        have H5 := n_o
        have H2 := n_2
        have H3 := n_3
        have O1 := n_O1
        have O2 := n_O2
        have O3 := n_O3
        have O4 := n_O4
        have HK := n_K
        clear n_H n_o n_2 n_3 n_O1 n_O2 n_O3 n_O4 n_K
        refine done_ (by kernel_rfl) ?_
        go_wp2_with fail
        go_meet
        exact ⟨g5, g6, A1, c1, B1, d1, A2, c2, B2, d2, rfl, rfl, H2, H3, H5, H6, Lib.hid (own_rdr (fun _ => rfl) O1.out), Lib.hid (own_rdr (fun _ => rfl) O2.out), Lib.hid (own_rdr (fun _ => rfl) O3.out), Lib.hid (own_rdr (fun _ => rfl) O4.out), HK⟩
  case rest =>
  obtain ⟨g5, g6, A1, c1, B1, d1, A2, c2, B2, d2, rfl, rfl, H2_, H3_, H5_, H6_, P1_, P2_, P3_, P4_, HK_⟩ := hcut
  clear H2 H3 HK
  have H2 := H2_
  have H3 := H3_
  have H5 := H5_
  have H6 := H6_
  have P1 := P1_
  have P2 := P2_
  have P3 := P3_
  have P4 := P4_
  have HK := HK_
  clear H2_ H3_ H5_ H6_ P1_ P2_ P3_ P4_ HK_
  go_upto_region 2 with fail
  go_cut [7] from 14 to 29 (fun v7 wx => ∃ b, v7 = .bool b ∧ Hid (b = true ↔ (r.txs.length = s.txs.length ∧ r.dirty.length = s.dirty.length)) ∧ Hid (Blk wx w.heap.size 35 (r.cells A c B d)) ∧ Hid (Blk wx (w.heap.size + 1) 35 (s.cells A' c' B' d')) ∧ Hid (Blk wx g5 47 (rcs r (.slice A1 r.txs.length c1) (.slice B1 r.dirty.length d1))) ∧ Hid (Blk wx g6 47 (rcs s (.slice A2 s.txs.length c2) (.slice B2 s.dirty.length d2))) ∧ Hid (RdRows StR.cells 4 wx A1 r.txs) ∧ Hid (RdRows DiR.cells 2 wx B1 r.dirty) ∧ Hid (RdRows StR.cells 4 wx A2 s.txs) ∧ Hid (RdRows DiR.cells 2 wx B2 s.dirty) ∧ Hid (Below w.heap.size w wx))
  case first =>
    obtain ⟨c1_, c2_⟩ := rcs_sl H5.out
    obtain ⟨c3_, c4_⟩ := rcs_sl H6.out
    obtain ⟨n1, e1, z1⟩ := names (r.txs.length : Int) (s.txs.length : Int)
    obtain ⟨n2, e2, z2⟩ := names (r.dirty.length : Int) (s.dirty.length : Int)
    have Z1 := Lib.hid (show (n1 = true ∧ n2 = true) ↔ (r.txs.length = s.txs.length ∧ r.dirty.length = s.dirty.length) by rw [z1, z2, decide_eq_true_eq, decide_eq_true_eq]; omega)
    clear z1 z2
    cases n1 with
    | false => (go_wp2_with fail; go_meet; exact ⟨_, rfl, Lib.hid (by have h_ := Z1.out; simpa using h_), H2, H3, H5, H6, P1, P2, P3, P4, HK⟩)
    | true => (go_wp2_with fail; go_meet; exact ⟨_, rfl, Lib.hid (by have h_ := Z1.out; simpa using h_), H2, H3, H5, H6, P1, P2, P3, P4, HK⟩)
  case rest =>
  obtain ⟨b, rfl, HBB_, H2_, H3_, H5_, H6_, P1_, P2_, P3_, P4_, HK_⟩ := hcut
  clear H2 H3 H5 H6 P1 P2 P3 P4 HK
  have HBB := HBB_
  have H2 := H2_
  have H3 := H3_
  have H5 := H5_
  have H6 := H6_
  have P1 := P1_
  have P2 := P2_
  have P3 := P3_
  have P4 := P4_
  have HK := HK_
  clear HBB_ H2_ H3_ H5_ H6_ P1_ P2_ P3_ P4_ HK_
  go_upto_block 0 with fail
  go_cut [7, 8] from 30 to 50 (fun v7 _ wx => ∃ b, v7 = .bool b ∧ Hid (b = true ↔ (r.txs.length = s.txs.length ∧ r.dirty.length = s.dirty.length) ∧ r.txs = s.txs) ∧ Hid (Blk wx w.heap.size 35 (r.cells A c B d)) ∧ Hid (Blk wx (w.heap.size + 1) 35 (s.cells A' c' B' d')) ∧ Hid (Blk wx g5 47 (rcs r (.slice A1 r.txs.length c1) (.slice B1 r.dirty.length d1))) ∧ Hid (Blk wx g6 47 (rcs s (.slice A2 s.txs.length c2) (.slice B2 s.dirty.length d2))) ∧ Hid (RdRows StR.cells 4 wx A1 r.txs) ∧ Hid (RdRows DiR.cells 2 wx B1 r.dirty) ∧ Hid (RdRows StR.cells 4 wx A2 s.txs) ∧ Hid (RdRows DiR.cells 2 wx B2 s.dirty) ∧ Hid (Below w.heap.size w wx))
  case first =>
    go_wp2_with fail
    go_loopw [7, 8] (fun v7 v8 wr => ∃ (i : Nat) (b : Bool), v8 = .int .i64 i ∧ v7 = .bool b ∧ i ≤ r.txs.length ∧ Hid (b = true ↔ (r.txs.length = s.txs.length ∧ r.dirty.length = s.dirty.length) ∧ r.txs.take i = s.txs.take i) ∧ Hid (Blk wr w.heap.size 35 (r.cells A c B d)) ∧ Hid (Blk wr (w.heap.size + 1) 35 (s.cells A' c' B' d')) ∧ Hid (Blk wr g5 47 (rcs r (.slice A1 r.txs.length c1) (.slice B1 r.dirty.length d1))) ∧ Hid (Blk wr g6 47 (rcs s (.slice A2 s.txs.length c2) (.slice B2 s.dirty.length d2))) ∧ Hid (RdRows StR.cells 4 wr A1 r.txs) ∧ Hid (RdRows DiR.cells 2 wr B1 r.dirty) ∧ Hid (RdRows StR.cells 4 wr A2 s.txs) ∧ Hid (RdRows DiR.cells 2 wr B2 s.dirty) ∧ Hid (Below w.heap.size w wr))
      (fun _ v8 _ => r.txs.length - (intOf v8).toNat)
    case atStart => exact ⟨0, b, by go_num, rfl, Nat.zero_le _, Lib.hid (by simpa using HBB.out), H2, H3, H5, H6, P1, P2, P3, P4, HK⟩
    case round =>
      clear HBB H2 H3 H5 H6 P1 P2 P3 P4 HK
      obtain ⟨i, b, rfl, rfl, hi, HBB, H2, H3, H5, H6, P1, P2, P3, P4, HK⟩ := hrel
      have c15 := (rcs_sl H5.out).1
      have hx : (¬ i < r.txs.length ∧ decide ((i : Int) < (r.txs.length : Int)) = false) ∨ (i < r.txs.length ∧ decide ((i : Int) < (r.txs.length : Int)) = true ∧ b = false) ∨ (i < r.txs.length ∧ decide ((i : Int) < (r.txs.length : Int)) = true ∧ b = true) := by
        by_cases h1 : i < r.txs.length
        · cases b with
          | false => exact .inr (.inl ⟨h1, decide_eq_true (by omega), rfl⟩)
          | true => exact .inr (.inr ⟨h1, decide_eq_true (by omega), rfl⟩)
        · exact .inl ⟨h1, decide_eq_false (by omega)⟩
      rcases hx with ⟨h1, d1_⟩ | ⟨hlt, d1_, rfl⟩ | ⟨hlt, d1_, rfl⟩
      · go_wp2_with fail
        go_meet
        exact ⟨b, rfl, Lib.hid (loop_end (fun h_ => h_.1) HBB.out (.inl (by omega))), H2, H3, H5, H6, P1, P2, P3, P4, HK⟩
      · go_wp2_with fail
        go_meet
        exact ⟨false, rfl, Lib.hid (loop_end (fun h_ => h_.1) HBB.out (.inr rfl)), H2, H3, H5, H6, P1, P2, P3, P4, HK⟩
      · have HQ := Lib.hid (HBB.out.1 rfl)
        clear HBB
        go_upto_region 6 with fail
        have hQ := HQ.out.1
        have hl2 : i < s.txs.length := by have h_ := hQ; omega
        have i0_ : (0 : Int) ≤ i := by omega
        have i1_ : (i : Int) < r.txs.length := by omega
        have i2_ : (i : Int) < s.txs.length := by omega
        clear c15 d1_ hQ
        obtain ⟨eb, off, ea, el, hc⟩ := P1.out i hlt
        obtain ⟨ec, ofc, ea2, el2, hc2⟩ := P3.out i hl2
        have q5 : wr.cell? _ = some (.slice (some ⟨eb, off, none⟩) r.txs.length c1) := (H5.out.cell 15).trans (congrArg (fun a_ => some (Value.slice a_ r.txs.length c1)) ea)
        have q6 : wr.cell? _ = some (.slice (some ⟨ec, ofc, none⟩) s.txs.length c2) := (H6.out.cell 15).trans (congrArg (fun a_ => some (Value.slice a_ s.txs.length c2)) ea2)
        have y0 := hc 0 _ rfl
        have y1 := hc 1 _ rfl
        have y2 := hc 2 _ rfl
        have y3 := hc 3 _ rfl
        have z0 := hc2 0 _ rfl
        have z1 := hc2 1 _ rfl
        have z2 := hc2 2 _ rfl
        have z3 := hc2 3 _ rfl
        clear hc hc2 ea ea2 el el2
        refine start_ (n := 12) (S := fun w' => w'.cell? ⟨g5, 15, none⟩ = some (.slice (some ⟨eb, off, none⟩) r.txs.length c1) ∧ w'.cell? ⟨g6, 15, none⟩ = some (.slice (some ⟨ec, ofc, none⟩) s.txs.length c2) ∧ w'.cell? ⟨eb, off + i * 4, none⟩ = some (.int .i64 r.txs[i].tx) ∧ w'.cell? ⟨eb, off + i * 4 + 1, none⟩ = some (.int .i64 r.txs[i].st) ∧ w'.cell? ⟨eb, off + i * 4 + 2, none⟩ = some (.int .u64 r.txs[i].last) ∧ w'.cell? ⟨eb, off + i * 4 + 3, none⟩ = some (.int .u64 r.txs[i].next) ∧ w'.cell? ⟨ec, ofc + i * 4, none⟩ = some (.int .i64 s.txs[i].tx) ∧ w'.cell? ⟨ec, ofc + i * 4 + 1, none⟩ = some (.int .i64 s.txs[i].st) ∧ w'.cell? ⟨ec, ofc + i * 4 + 2, none⟩ = some (.int .u64 s.txs[i].last) ∧ w'.cell? ⟨ec, ofc + i * 4 + 3, none⟩ = some (.int .u64 s.txs[i].next)) (ds := []) #[false, false, false, false, false, false, false, false, false, false, false, false] (by kernel_rfl) rfl rfl ⟨q5, q6, y0, y1, y2, y3, z0, z1, z2, z3⟩ (fun hHeld => ?_)
        refine pure_ (i := 0) (N := some 40) (v := ?_) (a' := ?_) #[true, false, false, false, false, false, false, false, false, false, false, false] rfl rfl (by kernel_rfl) (fun _ _ _ h => h) (Or.inl ⟨by rfl, ?_⟩) ?_ ?_
        rotate_left
        · intro w'
          go_simp
          with_reducible rfl
        rotate_left
        · simp only [Act.put, List.setIfInBounds_toArray, List.set_cons_zero, List.set_cons_succ, i64_w, i32_w]
          rfl
        refine take_ (i := 1) (N := some 41) (v := ?_) (a' := ?_) #[true, true, false, false, false, false, false, false, false, false, false, false] rfl rfl (by kernel_rfl) (fun _ _ _ h => h) (Or.inl ⟨by rfl, ?_⟩) hHeld ?_ ?_
        rotate_left
        · rintro w' ⟨s0, s1, s2, s3, s4, s5, s6, s7, s8, s9⟩
          go_simp
          with_reducible rfl
        rotate_left
        · simp only [Act.put, List.setIfInBounds_toArray, List.set_cons_zero, List.set_cons_succ, i64_w, i32_w]
          rfl
        refine pure_ (i := 2) (N := some 42) (v := ?_) (a' := ?_) #[true, true, true, false, false, false, false, false, false, false, false, false] rfl rfl (by kernel_rfl) (fun _ _ _ h => h) (Or.inl ⟨by rfl, ?_⟩) ?_ ?_
        rotate_left
        · intro w'
          go_simp
          with_reducible rfl
        rotate_left
        · simp only [Act.put, List.setIfInBounds_toArray, List.set_cons_zero, List.set_cons_succ, i64_w, i32_w]
          rfl
        refine pure_ (i := 3) (N := some 43) (v := ?_) (a' := ?_) #[true, true, true, true, false, false, false, false, false, false, false, false] rfl rfl (by kernel_rfl) (fun _ _ _ h => h) (Or.inl ⟨by rfl, ?_⟩) ?_ ?_
        rotate_left
        · intro w'
          go_simp
          with_reducible rfl
        rotate_left
        · simp only [Act.put, List.setIfInBounds_toArray, List.set_cons_zero, List.set_cons_succ, i64_w, i32_w]
          rfl
        refine take_ (i := 4) (N := some 44) (v := ?_) (a' := ?_) #[true, true, true, true, true, false, false, false, false, false, false, false] rfl rfl (by kernel_rfl) (fun _ _ _ h => h) (Or.inl ⟨by rfl, ?_⟩) hHeld ?_ ?_
        rotate_left
        · rintro w' ⟨s0, s1, s2, s3, s4, s5, s6, s7, s8, s9⟩
          go_simp
          with_reducible rfl
        rotate_left
        · simp only [Act.put, List.setIfInBounds_toArray, List.set_cons_zero, List.set_cons_succ, i64_w, i32_w]
          rfl
        refine pure_ (i := 5) (N := some 45) (v := ?_) (a' := ?_) #[true, true, true, true, true, true, false, false, false, false, false, false] rfl rfl (by kernel_rfl) (fun _ _ _ h => h) (Or.inl ⟨by rfl, ?_⟩) ?_ ?_
        rotate_left
        · intro w'
          go_simp
          with_reducible rfl
        rotate_left
        · simp only [Act.put, List.setIfInBounds_toArray, List.set_cons_zero, List.set_cons_succ, i64_w, i32_w]
          rfl
        refine take_ (i := 6) (N := some 46) (v := ?_) (a' := ?_) #[true, true, true, true, true, true, true, false, false, false, false, false] rfl rfl (by kernel_rfl) (fun _ _ _ h => h) (Or.inl ⟨by rfl, ?_⟩) hHeld ?_ ?_
        rotate_left
        · rintro w' ⟨s0, s1, s2, s3, s4, s5, s6, s7, s8, s9⟩
          go_simp
          with_reducible rfl
        rotate_left
        · simp only [Act.put, List.setIfInBounds_toArray, List.set_cons_zero, List.set_cons_succ, i64_w, i32_w]
          rfl
        refine pure_ (i := 7) (N := some 47) (v := ?_) (a' := ?_) #[true, true, true, true, true, true, true, true, false, false, false, false] rfl rfl (by kernel_rfl) (fun _ _ _ h => h) (Or.inl ⟨by rfl, ?_⟩) ?_ ?_
        rotate_left
        · intro w'
          go_simp
          with_reducible rfl
        rotate_left
        · simp only [Act.put, List.setIfInBounds_toArray, List.set_cons_zero, List.set_cons_succ, i64_w, i32_w]
          rfl
        refine pure_ (i := 8) (N := some 48) (v := ?_) (a' := ?_) #[true, true, true, true, true, true, true, true, true, false, false, false] rfl rfl (by kernel_rfl) (fun _ _ _ h => h) (Or.inl ⟨by rfl, ?_⟩) ?_ ?_
        rotate_left
        · intro w'
          go_simp
          with_reducible rfl
        rotate_left
        · simp only [Act.put, List.setIfInBounds_toArray, List.set_cons_zero, List.set_cons_succ, i64_w, i32_w]
          rfl
        refine take_ (i := 9) (N := some 49) (v := ?_) (a' := ?_) #[true, true, true, true, true, true, true, true, true, true, false, false] rfl rfl (by kernel_rfl) (fun _ _ _ h => h) (Or.inl ⟨by rfl, ?_⟩) hHeld ?_ ?_
        rotate_left
        · rintro w' ⟨s0, s1, s2, s3, s4, s5, s6, s7, s8, s9⟩
          go_simp
          with_reducible rfl
        rotate_left
        · simp only [Act.put, List.setIfInBounds_toArray, List.set_cons_zero, List.set_cons_succ, i64_w, i32_w]
          rfl
        refine pure_ (i := 10) (N := some 50) (v := .bool (r.txs[i].tx == s.txs[i].tx && (r.txs[i].st == s.txs[i].st && (r.txs[i].last == s.txs[i].last && (r.txs[i].next == s.txs[i].next))))) (a' := ?_) #[true, true, true, true, true, true, true, true, true, true, true, false] rfl rfl (by kernel_rfl) (fun _ _ _ h => h) (Or.inl ⟨by rfl, ?_⟩) ?_ ?_
        · intro w'
          go_simp
          by_cases h0_ : r.txs[i].tx = s.txs[i].tx <;> by_cases h1_ : r.txs[i].st = s.txs[i].st <;> by_cases h2_ : r.txs[i].last = s.txs[i].last <;> by_cases h3_ : r.txs[i].next = s.txs[i].next <;> simp [h0_, h1_, h2_, h3_]
        rotate_left
        · simp only [Act.put, List.setIfInBounds_toArray, List.set_cons_zero, List.set_cons_succ]
          rfl
        refine pure_ (i := 11) (N := some 7) (v := ?_) (a' := ?_) #[true, true, true, true, true, true, true, true, true, true, true, true] rfl rfl (by kernel_rfl) (fun _ _ _ h => h) (Or.inl ⟨by rfl, ?_⟩) ?_ ?_
        rotate_left
        · intro w'
          go_simp
          with_reducible rfl
        rotate_left
        · simp only [Act.put, List.setIfInBounds_toArray, List.set_cons_zero, List.set_cons_succ, i64_w, i32_w]
          rfl
        refine done_ (by kernel_rfl) ?_
        clear hHeld q5 q6 y0 y1 y2 y3 z0 z1 z2 z3
        have hb5 := bdrew (Below.refl wr.heap.size wr)
        have n_H2 := Lib.hid (H2.out.step hb5)
        have n_H3 := Lib.hid (H3.out.step hb5)
        have n_H5 := Lib.hid (H5.out.step hb5)
        have n_H6 := Lib.hid (H6.out.step hb5)
        have n_P1 := Lib.hid (rows_bl P1.out hb5)
        have n_P2 := Lib.hid (rows_bl P2.out hb5)
        have n_P3 := Lib.hid (rows_bl P3.out hb5)
        have n_P4 := Lib.hid (rows_bl P4.out hb5)
        have n_HK := Lib.hid (bstep HK.out hb5)
        clear hb5 H2 H3 H5 H6 P1 P2 P3 P4 HK
        have H2 := n_H2
        have H3 := n_H3
        have H5 := n_H5
        have H6 := n_H6
        have P1 := n_P1
        have P2 := n_P2
        have P3 := n_P3
        have P4 := n_P4
        have HK := n_HK
        clear n_H2 n_H3 n_H5 n_H6 n_P1 n_P2 n_P3 n_P4 n_HK
        generalize wr.drew = x1 at *
        go_wp2_with fail
        go_roundw
        case rel => exact ⟨i + 1, _, by go_num, rfl, by omega, Lib.hid (loop_next hlt hl2 HQ.out (by first | exact eq_st _ _ | exact eq_di _ _)), H2, H3, H5, H6, P1, P2, P3, P4, HK⟩
        case measure => simp [intOf]; omega
  case rest =>
  obtain ⟨b, rfl, HBB_, H2_, H3_, H5_, H6_, P1_, P2_, P3_, P4_, HK_⟩ := hcut
  clear HBB H2 H3 H5 H6 P1 P2 P3 P4 HK
  have HBB := HBB_
  have H2 := H2_
  have H3 := H3_
  have H5 := H5_
  have H6 := H6_
  have P1 := P1_
  have P2 := P2_
  have P3 := P3_
  have P4 := P4_
  have HK := HK_
  clear HBB_ H2_ H3_ H5_ H6_ P1_ P2_ P3_ P4_ HK_

  go_upto_block 2 with fail
  go_cut [7, 9] from 51 to 71 (fun v7 _ wx => ∃ b, v7 = .bool b ∧ Hid (b = true ↔ ((r.txs.length = s.txs.length ∧ r.dirty.length = s.dirty.length) ∧ r.txs = s.txs) ∧ r.dirty = s.dirty) ∧ Hid (Blk wx w.heap.size 35 (r.cells A c B d)) ∧ Hid (Blk wx (w.heap.size + 1) 35 (s.cells A' c' B' d')) ∧ Hid (Blk wx g5 47 (rcs r (.slice A1 r.txs.length c1) (.slice B1 r.dirty.length d1))) ∧ Hid (Blk wx g6 47 (rcs s (.slice A2 s.txs.length c2) (.slice B2 s.dirty.length d2))) ∧ Hid (RdRows StR.cells 4 wx A1 r.txs) ∧ Hid (RdRows DiR.cells 2 wx B1 r.dirty) ∧ Hid (RdRows StR.cells 4 wx A2 s.txs) ∧ Hid (RdRows DiR.cells 2 wx B2 s.dirty) ∧ Hid (Below w.heap.size w wx))
  case first =>
    go_wp2_with fail
    go_loopw [7, 9] (fun v7 v9 wr => ∃ (i : Nat) (b : Bool), v9 = .int .i64 i ∧ v7 = .bool b ∧ i ≤ r.dirty.length ∧ Hid (b = true ↔ ((r.txs.length = s.txs.length ∧ r.dirty.length = s.dirty.length) ∧ r.txs = s.txs) ∧ r.dirty.take i = s.dirty.take i) ∧ Hid (Blk wr w.heap.size 35 (r.cells A c B d)) ∧ Hid (Blk wr (w.heap.size + 1) 35 (s.cells A' c' B' d')) ∧ Hid (Blk wr g5 47 (rcs r (.slice A1 r.txs.length c1) (.slice B1 r.dirty.length d1))) ∧ Hid (Blk wr g6 47 (rcs s (.slice A2 s.txs.length c2) (.slice B2 s.dirty.length d2))) ∧ Hid (RdRows StR.cells 4 wr A1 r.txs) ∧ Hid (RdRows DiR.cells 2 wr B1 r.dirty) ∧ Hid (RdRows StR.cells 4 wr A2 s.txs) ∧ Hid (RdRows DiR.cells 2 wr B2 s.dirty) ∧ Hid (Below w.heap.size w wr))
      (fun _ v9 _ => r.dirty.length - (intOf v9).toNat)
    case atStart => exact ⟨0, b, by go_num, rfl, Nat.zero_le _, Lib.hid (by simpa using HBB.out), H2, H3, H5, H6, P1, P2, P3, P4, HK⟩
    case round =>
      clear HBB H2 H3 H5 H6 P1 P2 P3 P4 HK
      obtain ⟨i, b, rfl, rfl, hi, HBB, H2, H3, H5, H6, P1, P2, P3, P4, HK⟩ := hrel
      have c15 := (rcs_sl H5.out).2
      have hx : (¬ i < r.dirty.length ∧ decide ((i : Int) < (r.dirty.length : Int)) = false) ∨ (i < r.dirty.length ∧ decide ((i : Int) < (r.dirty.length : Int)) = true ∧ b = false) ∨ (i < r.dirty.length ∧ decide ((i : Int) < (r.dirty.length : Int)) = true ∧ b = true) := by
        by_cases h1 : i < r.dirty.length
        · cases b with
          | false => exact .inr (.inl ⟨h1, decide_eq_true (by omega), rfl⟩)
          | true => exact .inr (.inr ⟨h1, decide_eq_true (by omega), rfl⟩)
        · exact .inl ⟨h1, decide_eq_false (by omega)⟩
      rcases hx with ⟨h1, d1_⟩ | ⟨hlt, d1_, rfl⟩ | ⟨hlt, d1_, rfl⟩
      · go_wp2_with fail
        go_meet
        exact ⟨b, rfl, Lib.hid (loop_end (fun h_ => h_.1.2) HBB.out (.inl (by omega))), H2, H3, H5, H6, P1, P2, P3, P4, HK⟩
      · go_wp2_with fail
        go_meet
        exact ⟨false, rfl, Lib.hid (loop_end (fun h_ => h_.1.2) HBB.out (.inr rfl)), H2, H3, H5, H6, P1, P2, P3, P4, HK⟩
      · have HQ := Lib.hid (HBB.out.1 rfl)
        clear HBB
        go_upto_region 10 with fail
        have hQ := HQ.out.1
        have hl2 : i < s.dirty.length := by have h_ := hQ; omega
        have i0_ : (0 : Int) ≤ i := by omega
        have i1_ : (i : Int) < r.dirty.length := by omega
        have i2_ : (i : Int) < s.dirty.length := by omega
        clear c15 d1_ hQ
        obtain ⟨eb, off, ea, el, hc⟩ := P2.out i hlt
        obtain ⟨ec, ofc, ea2, el2, hc2⟩ := P4.out i hl2
        have q5 : wr.cell? _ = some (.slice (some ⟨eb, off, none⟩) r.dirty.length d1) := (H5.out.cell 16).trans (congrArg (fun a_ => some (Value.slice a_ r.dirty.length d1)) ea)
        have q6 : wr.cell? _ = some (.slice (some ⟨ec, ofc, none⟩) s.dirty.length d2) := (H6.out.cell 16).trans (congrArg (fun a_ => some (Value.slice a_ s.dirty.length d2)) ea2)
        have y0 := hc 0 _ rfl
        have y1 := hc 1 _ rfl
        have z0 := hc2 0 _ rfl
        have z1 := hc2 1 _ rfl
        clear hc hc2 ea ea2 el el2
        refine start_ (n := 12) (S := fun w' => w'.cell? ⟨g5, 16, none⟩ = some (.slice (some ⟨eb, off, none⟩) r.dirty.length d1) ∧ w'.cell? ⟨g6, 16, none⟩ = some (.slice (some ⟨ec, ofc, none⟩) s.dirty.length d2) ∧ w'.cell? ⟨eb, off + i * 2, none⟩ = some (.int .u32 r.dirty[i].page) ∧ w'.cell? ⟨eb, off + i * 2 + 1, none⟩ = some (.int .u64 r.dirty[i].lsn) ∧ w'.cell? ⟨ec, ofc + i * 2, none⟩ = some (.int .u32 s.dirty[i].page) ∧ w'.cell? ⟨ec, ofc + i * 2 + 1, none⟩ = some (.int .u64 s.dirty[i].lsn)) (ds := []) #[false, false, false, false, false, false, false, false, false, false, false, false] (by kernel_rfl) rfl rfl ⟨q5, q6, y0, y1, z0, z1⟩ (fun hHeld => ?_)
        refine pure_ (i := 0) (N := some 61) (v := ?_) (a' := ?_) #[true, false, false, false, false, false, false, false, false, false, false, false] rfl rfl (by kernel_rfl) (fun _ _ _ h => h) (Or.inl ⟨by rfl, ?_⟩) ?_ ?_
        rotate_left
        · intro w'
          go_simp
          with_reducible rfl
        rotate_left
        · simp only [Act.put, List.setIfInBounds_toArray, List.set_cons_zero, List.set_cons_succ, i64_w, i32_w]
          rfl
        refine take_ (i := 1) (N := some 62) (v := ?_) (a' := ?_) #[true, true, false, false, false, false, false, false, false, false, false, false] rfl rfl (by kernel_rfl) (fun _ _ _ h => h) (Or.inl ⟨by rfl, ?_⟩) hHeld ?_ ?_
        rotate_left
        · rintro w' ⟨s0, s1, s2, s3, s4, s5⟩
          go_simp
          with_reducible rfl
        rotate_left
        · simp only [Act.put, List.setIfInBounds_toArray, List.set_cons_zero, List.set_cons_succ, i64_w, i32_w]
          rfl
        refine pure_ (i := 2) (N := some 63) (v := ?_) (a' := ?_) #[true, true, true, false, false, false, false, false, false, false, false, false] rfl rfl (by kernel_rfl) (fun _ _ _ h => h) (Or.inl ⟨by rfl, ?_⟩) ?_ ?_
        rotate_left
        · intro w'
          go_simp
          with_reducible rfl
        rotate_left
        · simp only [Act.put, List.setIfInBounds_toArray, List.set_cons_zero, List.set_cons_succ, i64_w, i32_w]
          rfl
        refine pure_ (i := 3) (N := some 64) (v := ?_) (a' := ?_) #[true, true, true, true, false, false, false, false, false, false, false, false] rfl rfl (by kernel_rfl) (fun _ _ _ h => h) (Or.inl ⟨by rfl, ?_⟩) ?_ ?_
        rotate_left
        · intro w'
          go_simp
          with_reducible rfl
        rotate_left
        · simp only [Act.put, List.setIfInBounds_toArray, List.set_cons_zero, List.set_cons_succ, i64_w, i32_w]
          rfl
        refine take_ (i := 4) (N := some 65) (v := ?_) (a' := ?_) #[true, true, true, true, true, false, false, false, false, false, false, false] rfl rfl (by kernel_rfl) (fun _ _ _ h => h) (Or.inl ⟨by rfl, ?_⟩) hHeld ?_ ?_
        rotate_left
        · rintro w' ⟨s0, s1, s2, s3, s4, s5⟩
          go_simp
          with_reducible rfl
        rotate_left
        · simp only [Act.put, List.setIfInBounds_toArray, List.set_cons_zero, List.set_cons_succ, i64_w, i32_w]
          rfl
        refine pure_ (i := 5) (N := some 66) (v := ?_) (a' := ?_) #[true, true, true, true, true, true, false, false, false, false, false, false] rfl rfl (by kernel_rfl) (fun _ _ _ h => h) (Or.inl ⟨by rfl, ?_⟩) ?_ ?_
        rotate_left
        · intro w'
          go_simp
          with_reducible rfl
        rotate_left
        · simp only [Act.put, List.setIfInBounds_toArray, List.set_cons_zero, List.set_cons_succ, i64_w, i32_w]
          rfl
        refine take_ (i := 6) (N := some 67) (v := ?_) (a' := ?_) #[true, true, true, true, true, true, true, false, false, false, false, false] rfl rfl (by kernel_rfl) (fun _ _ _ h => h) (Or.inl ⟨by rfl, ?_⟩) hHeld ?_ ?_
        rotate_left
        · rintro w' ⟨s0, s1, s2, s3, s4, s5⟩
          go_simp
          with_reducible rfl
        rotate_left
        · simp only [Act.put, List.setIfInBounds_toArray, List.set_cons_zero, List.set_cons_succ, i64_w, i32_w]
          rfl
        refine pure_ (i := 7) (N := some 68) (v := ?_) (a' := ?_) #[true, true, true, true, true, true, true, true, false, false, false, false] rfl rfl (by kernel_rfl) (fun _ _ _ h => h) (Or.inl ⟨by rfl, ?_⟩) ?_ ?_
        rotate_left
        · intro w'
          go_simp
          with_reducible rfl
        rotate_left
        · simp only [Act.put, List.setIfInBounds_toArray, List.set_cons_zero, List.set_cons_succ, i64_w, i32_w]
          rfl
        refine pure_ (i := 8) (N := some 69) (v := ?_) (a' := ?_) #[true, true, true, true, true, true, true, true, true, false, false, false] rfl rfl (by kernel_rfl) (fun _ _ _ h => h) (Or.inl ⟨by rfl, ?_⟩) ?_ ?_
        rotate_left
        · intro w'
          go_simp
          with_reducible rfl
        rotate_left
        · simp only [Act.put, List.setIfInBounds_toArray, List.set_cons_zero, List.set_cons_succ, i64_w, i32_w]
          rfl
        refine take_ (i := 9) (N := some 70) (v := ?_) (a' := ?_) #[true, true, true, true, true, true, true, true, true, true, false, false] rfl rfl (by kernel_rfl) (fun _ _ _ h => h) (Or.inl ⟨by rfl, ?_⟩) hHeld ?_ ?_
        rotate_left
        · rintro w' ⟨s0, s1, s2, s3, s4, s5⟩
          go_simp
          with_reducible rfl
        rotate_left
        · simp only [Act.put, List.setIfInBounds_toArray, List.set_cons_zero, List.set_cons_succ, i64_w, i32_w]
          rfl
        refine pure_ (i := 10) (N := some 71) (v := .bool (r.dirty[i].page == s.dirty[i].page && (r.dirty[i].lsn == s.dirty[i].lsn))) (a' := ?_) #[true, true, true, true, true, true, true, true, true, true, true, false] rfl rfl (by kernel_rfl) (fun _ _ _ h => h) (Or.inl ⟨by rfl, ?_⟩) ?_ ?_
        · intro w'
          go_simp
          by_cases h0_ : r.dirty[i].page = s.dirty[i].page <;> by_cases h1_ : r.dirty[i].lsn = s.dirty[i].lsn <;> simp [h0_, h1_]
        rotate_left
        · simp only [Act.put, List.setIfInBounds_toArray, List.set_cons_zero, List.set_cons_succ]
          rfl
        refine pure_ (i := 11) (N := some 7) (v := ?_) (a' := ?_) #[true, true, true, true, true, true, true, true, true, true, true, true] rfl rfl (by kernel_rfl) (fun _ _ _ h => h) (Or.inl ⟨by rfl, ?_⟩) ?_ ?_
        rotate_left
        · intro w'
          go_simp
          with_reducible rfl
        rotate_left
        · simp only [Act.put, List.setIfInBounds_toArray, List.set_cons_zero, List.set_cons_succ, i64_w, i32_w]
          rfl
        refine done_ (by kernel_rfl) ?_
        clear hHeld q5 q6 y0 y1 z0 z1
        have hb5 := bdrew (Below.refl wr.heap.size wr)
        have n_H2 := Lib.hid (H2.out.step hb5)
        have n_H3 := Lib.hid (H3.out.step hb5)
        have n_H5 := Lib.hid (H5.out.step hb5)
        have n_H6 := Lib.hid (H6.out.step hb5)
        have n_P1 := Lib.hid (rows_bl P1.out hb5)
        have n_P2 := Lib.hid (rows_bl P2.out hb5)
        have n_P3 := Lib.hid (rows_bl P3.out hb5)
        have n_P4 := Lib.hid (rows_bl P4.out hb5)
        have n_HK := Lib.hid (bstep HK.out hb5)
        clear hb5 H2 H3 H5 H6 P1 P2 P3 P4 HK
        have H2 := n_H2
        have H3 := n_H3
        have H5 := n_H5
        have H6 := n_H6
        have P1 := n_P1
        have P2 := n_P2
        have P3 := n_P3
        have P4 := n_P4
        have HK := n_HK
        clear n_H2 n_H3 n_H5 n_H6 n_P1 n_P2 n_P3 n_P4 n_HK
        generalize wr.drew = x1 at *
        go_wp2_with fail
        go_roundw
        case rel => exact ⟨i + 1, _, by go_num, rfl, by omega, Lib.hid (loop_next hlt hl2 HQ.out (by first | exact eq_st _ _ | exact eq_di _ _)), H2, H3, H5, H6, P1, P2, P3, P4, HK⟩
        case measure => simp [intOf]; omega
  case rest =>
  obtain ⟨b, rfl, HBB_, H2_, H3_, H5_, H6_, P1_, P2_, P3_, P4_, HK_⟩ := hcut
  clear HBB H2 H3 H5 H6 P1 P2 P3 P4 HK
  have HBB := HBB_
  have H2 := H2_
  have H3 := H3_
  have H5 := H5_
  have H6 := H6_
  have P1 := P1_
  have P2 := P2_
  have P3 := P3_
  have P4 := P4_
  have HK := HK_
  clear HBB_ H2_ H3_ H5_ H6_ P1_ P2_ P3_ P4_ HK_

  go_upto_region 11 with fail
  go_cut [7] from 72 to 156 (fun v7 wx => ∃ b, v7 = .bool b ∧ Hid (b = true ↔ r = s) ∧ Hid (Blk wx w.heap.size 35 (r.cells A c B d)) ∧ Hid (Blk wx (w.heap.size + 1) 35 (s.cells A' c' B' d')) ∧ Hid (Blk wx g5 47 (rcs r (.slice A1 r.txs.length c1) (.slice B1 r.dirty.length d1))) ∧ Hid (Blk wx g6 47 (rcs s (.slice A2 s.txs.length c2) (.slice B2 s.dirty.length d2))) ∧ Hid (RdRows StR.cells 4 wx A1 r.txs) ∧ Hid (RdRows DiR.cells 2 wx B1 r.dirty) ∧ Hid (RdRows StR.cells 4 wx A2 s.txs) ∧ Hid (RdRows DiR.cells 2 wx B2 s.dirty) ∧ Hid (Below w.heap.size w wx))
  case first =>
    obtain ⟨n0, e0, z0⟩ := names r.kind s.kind
    obtain ⟨n1, e1, z1⟩ := names r.tx s.tx
    obtain ⟨n2, e2, z2⟩ := names r.prev s.prev
    obtain ⟨n3, e3, z3⟩ := names r.next s.next
    obtain ⟨n4, e4, z4⟩ := names r.page s.page
    obtain ⟨n5, e5, z5⟩ := names r.ok s.ok
    obtain ⟨n6, e6, z6⟩ := names r.oa s.oa
    obtain ⟨n7, e7, z7⟩ := namesL r.os s.os
    obtain ⟨n8, e8, z8⟩ := namesL r.oo s.oo
    obtain ⟨n9, e9, z9⟩ := names r.undo s.undo
    obtain ⟨n10, e10, z10⟩ := names r.index s.index
    obtain ⟨n11, e11, z11⟩ := namesL r.key s.key
    obtain ⟨n12, e12, z12⟩ := names r.rpage s.rpage
    obtain ⟨n13, e13, z13⟩ := names r.rslot s.rslot
    obtain ⟨n14, e14, z14⟩ := namesB r.live s.live
    obtain ⟨nO, eO, zO⟩ : ∃ b : Bool, (n5 && (n6 && (n7 && n8))) = b ∧ (b = true ↔ n5 = true ∧ n6 = true ∧ n7 = true ∧ n8 = true) := ⟨_, rfl, by simp⟩
    have HALL := Lib.hid (show (b = true ∧ n0 = true ∧ n1 = true ∧ n2 = true ∧ n3 = true ∧ n4 = true ∧ nO = true ∧ n9 = true ∧ n10 = true ∧ n11 = true ∧ n12 = true ∧ n13 = true ∧ n14 = true) ↔ r = s by
      rw [rec_ext, HBB.out, zO, z0, z1, z2, z3, z4, z5, z6, z7, z8, z9, z10, z11, z12, z13, z14]
      simp only [decide_eq_true_eq, and_assoc])
    clear z0 z1 z2 z3 z4 z5 z6 z7 z8 z9 z10 z11 z12 z13 z14 zO HBB
    obtain ⟨p0, p1, p2, p3, p4, p5, p6, p7, p8, p9, p10, p11, p12, p13, p14⟩ := rcs_cells H5.out
    obtain ⟨q0, q1, q2, q3, q4, q5, q6, q7, q8, q9, q10, q11, q12, q13, q14⟩ := rcs_cells H6.out
    obtain ⟨c1, hc1_⟩ : ∃ c, c = (b && n0) := ⟨_, rfl⟩
    obtain ⟨c2, hc2_⟩ : ∃ c, c = (c1 && n1) := ⟨_, rfl⟩
    obtain ⟨c3, hc3_⟩ : ∃ c, c = (c2 && n2) := ⟨_, rfl⟩
    obtain ⟨c4, hc4_⟩ : ∃ c, c = (c3 && n3) := ⟨_, rfl⟩
    obtain ⟨c5, hc5_⟩ : ∃ c, c = (c4 && n4) := ⟨_, rfl⟩
    obtain ⟨c6, hc6_⟩ : ∃ c, c = (c5 && nO) := ⟨_, rfl⟩
    obtain ⟨c7, hc7_⟩ : ∃ c, c = (c6 && n9) := ⟨_, rfl⟩
    obtain ⟨c8, hc8_⟩ : ∃ c, c = (c7 && n10) := ⟨_, rfl⟩
    obtain ⟨c9, hc9_⟩ : ∃ c, c = (c8 && n11) := ⟨_, rfl⟩
    obtain ⟨c10, hc10_⟩ : ∃ c, c = (c9 && n12) := ⟨_, rfl⟩
    obtain ⟨c11, hc11_⟩ : ∃ c, c = (c10 && n13) := ⟨_, rfl⟩
    obtain ⟨c12, hc12_⟩ : ∃ c, c = (c11 && n14) := ⟨_, rfl⟩
    have HC12 := Lib.hid (show c12 = true ↔ r = s from by
      rw [← HALL.out, hc12_, hc11_, hc10_, hc9_, hc8_, hc7_, hc6_, hc5_, hc4_, hc3_, hc2_, hc1_]
      simp only [Bool.and_eq_true, and_assoc])
    clear HALL
    have hc1 := Lib.hid hc1_
    have hc2 := Lib.hid hc2_
    have hc3 := Lib.hid hc3_
    have hc4 := Lib.hid hc4_
    have hc5 := Lib.hid hc5_
    have hc6 := Lib.hid hc6_
    have hc7 := Lib.hid hc7_
    have hc8 := Lib.hid hc8_
    have hc9 := Lib.hid hc9_
    have hc10 := Lib.hid hc10_
    have hc11 := Lib.hid hc11_
    have hc12 := Lib.hid hc12_
    clear hc1_ hc2_ hc3_ hc4_ hc5_ hc6_ hc7_ hc8_ hc9_ hc10_ hc11_ hc12_
    refine wp_region_lit ?_
    refine off_ rfl rfl (.bool b) (by go_simp) (a' := ?_) (by simp only [Act.put, List.setIfInBounds_toArray, List.set_cons_zero, List.set_cons_succ]; rfl) ?_
    refine off_ rfl rfl (.bool b) (by go_simp) (a' := ?_) (by simp only [Act.put, List.setIfInBounds_toArray, List.set_cons_zero, List.set_cons_succ]; rfl) ?_
    refine on_ 1 (b := b) rfl rfl rfl (.pointer (some ⟨g5, 0, none⟩)) (fun hb => by go_simp) (a' := ?_) (fun u => by simp only [Act.put, List.setIfInBounds_toArray, List.set_cons_zero, List.set_cons_succ]; rfl) (fun u1 h1 => ?_)
    refine on_ 1 (b := b) rfl rfl rfl (.int .i64 r.kind) (fun hb => by obtain rfl := h1 hb; go_simp) (a' := ?_) (fun u => by simp only [Act.put, List.setIfInBounds_toArray, List.set_cons_zero, List.set_cons_succ]; rfl) (fun u2 h2 => ?_)
    clear h1
    refine on_ 1 (b := b) rfl rfl rfl (.pointer (some ⟨g6, 0, none⟩)) (fun hb => by go_simp) (a' := ?_) (fun u => by simp only [Act.put, List.setIfInBounds_toArray, List.set_cons_zero, List.set_cons_succ]; rfl) (fun u3 h3 => ?_)
    refine on_ 1 (b := b) rfl rfl rfl (.int .i64 s.kind) (fun hb => by obtain rfl := h3 hb; go_simp) (a' := ?_) (fun u => by simp only [Act.put, List.setIfInBounds_toArray, List.set_cons_zero, List.set_cons_succ]; rfl) (fun u4 h4 => ?_)
    clear h3
    refine on_ 1 (b := b) rfl rfl rfl (.bool n0) (fun hb => by obtain rfl := h2 hb; obtain rfl := h4 hb; go_simp) (a' := ?_) (fun u => by simp only [Act.put, List.setIfInBounds_toArray, List.set_cons_zero, List.set_cons_succ]; rfl) (fun u5 h5 => ?_)
    clear h2 h4
    refine off_ rfl rfl (.bool c1) (by rw [hc1.out]; cases b with | false => (go_simp) | true => (obtain rfl := h5 rfl; go_simp)) (a' := ?_) (by simp only [Act.put, List.setIfInBounds_toArray, List.set_cons_zero, List.set_cons_succ]; rfl) ?_
    clear h5
    refine off_ rfl rfl (.bool c1) (by go_simp) (a' := ?_) (by simp only [Act.put, List.setIfInBounds_toArray, List.set_cons_zero, List.set_cons_succ]; rfl) ?_
    refine on_ 8 (b := c1) rfl rfl rfl (.pointer (some ⟨g5, 1, none⟩)) (fun hb => by go_simp) (a' := ?_) (fun u => by simp only [Act.put, List.setIfInBounds_toArray, List.set_cons_zero, List.set_cons_succ]; rfl) (fun u1 h1 => ?_)
    refine on_ 8 (b := c1) rfl rfl rfl (.int .i64 r.tx) (fun hb => by obtain rfl := h1 hb; go_simp) (a' := ?_) (fun u => by simp only [Act.put, List.setIfInBounds_toArray, List.set_cons_zero, List.set_cons_succ]; rfl) (fun u2 h2 => ?_)
    clear h1
    refine on_ 8 (b := c1) rfl rfl rfl (.pointer (some ⟨g6, 1, none⟩)) (fun hb => by go_simp) (a' := ?_) (fun u => by simp only [Act.put, List.setIfInBounds_toArray, List.set_cons_zero, List.set_cons_succ]; rfl) (fun u3 h3 => ?_)
    refine on_ 8 (b := c1) rfl rfl rfl (.int .i64 s.tx) (fun hb => by obtain rfl := h3 hb; go_simp) (a' := ?_) (fun u => by simp only [Act.put, List.setIfInBounds_toArray, List.set_cons_zero, List.set_cons_succ]; rfl) (fun u4 h4 => ?_)
    clear h3
    refine on_ 8 (b := c1) rfl rfl rfl (.bool n1) (fun hb => by obtain rfl := h2 hb; obtain rfl := h4 hb; go_simp) (a' := ?_) (fun u => by simp only [Act.put, List.setIfInBounds_toArray, List.set_cons_zero, List.set_cons_succ]; rfl) (fun u5 h5 => ?_)
    clear h2 h4
    refine off_ rfl rfl (.bool c2) (by rw [hc2.out]; cases c1 with | false => (go_simp) | true => (obtain rfl := h5 rfl; go_simp)) (a' := ?_) (by simp only [Act.put, List.setIfInBounds_toArray, List.set_cons_zero, List.set_cons_succ]; rfl) ?_
    clear h5
    refine off_ rfl rfl (.bool c2) (by go_simp) (a' := ?_) (by simp only [Act.put, List.setIfInBounds_toArray, List.set_cons_zero, List.set_cons_succ]; rfl) ?_
    refine on_ 15 (b := c2) rfl rfl rfl (.pointer (some ⟨g5, 2, none⟩)) (fun hb => by go_simp) (a' := ?_) (fun u => by simp only [Act.put, List.setIfInBounds_toArray, List.set_cons_zero, List.set_cons_succ]; rfl) (fun u1 h1 => ?_)
    refine on_ 15 (b := c2) rfl rfl rfl (.int .u64 r.prev) (fun hb => by obtain rfl := h1 hb; go_simp) (a' := ?_) (fun u => by simp only [Act.put, List.setIfInBounds_toArray, List.set_cons_zero, List.set_cons_succ]; rfl) (fun u2 h2 => ?_)
    clear h1
    refine on_ 15 (b := c2) rfl rfl rfl (.pointer (some ⟨g6, 2, none⟩)) (fun hb => by go_simp) (a' := ?_) (fun u => by simp only [Act.put, List.setIfInBounds_toArray, List.set_cons_zero, List.set_cons_succ]; rfl) (fun u3 h3 => ?_)
    refine on_ 15 (b := c2) rfl rfl rfl (.int .u64 s.prev) (fun hb => by obtain rfl := h3 hb; go_simp) (a' := ?_) (fun u => by simp only [Act.put, List.setIfInBounds_toArray, List.set_cons_zero, List.set_cons_succ]; rfl) (fun u4 h4 => ?_)
    clear h3
    refine on_ 15 (b := c2) rfl rfl rfl (.bool n2) (fun hb => by obtain rfl := h2 hb; obtain rfl := h4 hb; go_simp) (a' := ?_) (fun u => by simp only [Act.put, List.setIfInBounds_toArray, List.set_cons_zero, List.set_cons_succ]; rfl) (fun u5 h5 => ?_)
    clear h2 h4
    refine off_ rfl rfl (.bool c3) (by rw [hc3.out]; cases c2 with | false => (go_simp) | true => (obtain rfl := h5 rfl; go_simp)) (a' := ?_) (by simp only [Act.put, List.setIfInBounds_toArray, List.set_cons_zero, List.set_cons_succ]; rfl) ?_
    clear h5
    refine off_ rfl rfl (.bool c3) (by go_simp) (a' := ?_) (by simp only [Act.put, List.setIfInBounds_toArray, List.set_cons_zero, List.set_cons_succ]; rfl) ?_
    refine on_ 22 (b := c3) rfl rfl rfl (.pointer (some ⟨g5, 3, none⟩)) (fun hb => by go_simp) (a' := ?_) (fun u => by simp only [Act.put, List.setIfInBounds_toArray, List.set_cons_zero, List.set_cons_succ]; rfl) (fun u1 h1 => ?_)
    refine on_ 22 (b := c3) rfl rfl rfl (.int .u64 r.next) (fun hb => by obtain rfl := h1 hb; go_simp) (a' := ?_) (fun u => by simp only [Act.put, List.setIfInBounds_toArray, List.set_cons_zero, List.set_cons_succ]; rfl) (fun u2 h2 => ?_)
    clear h1
    refine on_ 22 (b := c3) rfl rfl rfl (.pointer (some ⟨g6, 3, none⟩)) (fun hb => by go_simp) (a' := ?_) (fun u => by simp only [Act.put, List.setIfInBounds_toArray, List.set_cons_zero, List.set_cons_succ]; rfl) (fun u3 h3 => ?_)
    refine on_ 22 (b := c3) rfl rfl rfl (.int .u64 s.next) (fun hb => by obtain rfl := h3 hb; go_simp) (a' := ?_) (fun u => by simp only [Act.put, List.setIfInBounds_toArray, List.set_cons_zero, List.set_cons_succ]; rfl) (fun u4 h4 => ?_)
    clear h3
    refine on_ 22 (b := c3) rfl rfl rfl (.bool n3) (fun hb => by obtain rfl := h2 hb; obtain rfl := h4 hb; go_simp) (a' := ?_) (fun u => by simp only [Act.put, List.setIfInBounds_toArray, List.set_cons_zero, List.set_cons_succ]; rfl) (fun u5 h5 => ?_)
    clear h2 h4
    refine off_ rfl rfl (.bool c4) (by rw [hc4.out]; cases c3 with | false => (go_simp) | true => (obtain rfl := h5 rfl; go_simp)) (a' := ?_) (by simp only [Act.put, List.setIfInBounds_toArray, List.set_cons_zero, List.set_cons_succ]; rfl) ?_
    clear h5
    refine off_ rfl rfl (.bool c4) (by go_simp) (a' := ?_) (by simp only [Act.put, List.setIfInBounds_toArray, List.set_cons_zero, List.set_cons_succ]; rfl) ?_
    refine on_ 29 (b := c4) rfl rfl rfl (.pointer (some ⟨g5, 4, none⟩)) (fun hb => by go_simp) (a' := ?_) (fun u => by simp only [Act.put, List.setIfInBounds_toArray, List.set_cons_zero, List.set_cons_succ]; rfl) (fun u1 h1 => ?_)
    refine on_ 29 (b := c4) rfl rfl rfl (.int .u32 r.page) (fun hb => by obtain rfl := h1 hb; go_simp) (a' := ?_) (fun u => by simp only [Act.put, List.setIfInBounds_toArray, List.set_cons_zero, List.set_cons_succ]; rfl) (fun u2 h2 => ?_)
    clear h1
    refine on_ 29 (b := c4) rfl rfl rfl (.pointer (some ⟨g6, 4, none⟩)) (fun hb => by go_simp) (a' := ?_) (fun u => by simp only [Act.put, List.setIfInBounds_toArray, List.set_cons_zero, List.set_cons_succ]; rfl) (fun u3 h3 => ?_)
    refine on_ 29 (b := c4) rfl rfl rfl (.int .u32 s.page) (fun hb => by obtain rfl := h3 hb; go_simp) (a' := ?_) (fun u => by simp only [Act.put, List.setIfInBounds_toArray, List.set_cons_zero, List.set_cons_succ]; rfl) (fun u4 h4 => ?_)
    clear h3
    refine on_ 29 (b := c4) rfl rfl rfl (.bool n4) (fun hb => by obtain rfl := h2 hb; obtain rfl := h4 hb; go_simp) (a' := ?_) (fun u => by simp only [Act.put, List.setIfInBounds_toArray, List.set_cons_zero, List.set_cons_succ]; rfl) (fun u5 h5 => ?_)
    clear h2 h4
    refine off_ rfl rfl (.bool c5) (by rw [hc5.out]; cases c4 with | false => (go_simp) | true => (obtain rfl := h5 rfl; go_simp)) (a' := ?_) (by simp only [Act.put, List.setIfInBounds_toArray, List.set_cons_zero, List.set_cons_succ]; rfl) ?_
    clear h5
    refine off_ rfl rfl (.bool c5) (by go_simp) (a' := ?_) (by simp only [Act.put, List.setIfInBounds_toArray, List.set_cons_zero, List.set_cons_succ]; rfl) ?_
    refine on_ 36 (b := c5) rfl rfl rfl (.pointer (some ⟨g5, 5, none⟩)) (fun hb => by go_simp) (a' := ?_) (fun u => by simp only [Act.put, List.setIfInBounds_toArray, List.set_cons_zero, List.set_cons_succ]; rfl) (fun u1 h1 => ?_)
    refine on_ 36 (b := c5) rfl rfl rfl (.agg #[.int .i64 r.ok, .int .i64 r.oa, .string (bs r.os), .string (bs r.oo)]) (fun hb => by obtain rfl := h1 hb; go_simp) (a' := ?_) (fun u => by simp only [Act.put, List.setIfInBounds_toArray, List.set_cons_zero, List.set_cons_succ]; rfl) (fun u2 h2 => ?_)
    clear h1
    refine on_ 36 (b := c5) rfl rfl rfl (.pointer (some ⟨g6, 5, none⟩)) (fun hb => by go_simp) (a' := ?_) (fun u => by simp only [Act.put, List.setIfInBounds_toArray, List.set_cons_zero, List.set_cons_succ]; rfl) (fun u3 h3 => ?_)
    refine on_ 36 (b := c5) rfl rfl rfl (.agg #[.int .i64 s.ok, .int .i64 s.oa, .string (bs s.os), .string (bs s.oo)]) (fun hb => by obtain rfl := h3 hb; go_simp) (a' := ?_) (fun u => by simp only [Act.put, List.setIfInBounds_toArray, List.set_cons_zero, List.set_cons_succ]; rfl) (fun u4 h4 => ?_)
    clear h3
    refine on_ 36 (b := c5) rfl rfl rfl (.bool nO) (fun hb => by obtain rfl := h2 hb; obtain rfl := h4 hb; go_simp; rw [← eO]; cases n5 <;> cases n6 <;> cases n7 <;> cases n8 <;> rfl) (a' := ?_) (fun u => by simp only [Act.put, List.setIfInBounds_toArray, List.set_cons_zero, List.set_cons_succ]; rfl) (fun u5 h5 => ?_)
    clear h2 h4
    refine off_ rfl rfl (.bool c6) (by rw [hc6.out]; cases c5 with | false => (go_simp) | true => (obtain rfl := h5 rfl; go_simp)) (a' := ?_) (by simp only [Act.put, List.setIfInBounds_toArray, List.set_cons_zero, List.set_cons_succ]; rfl) ?_
    clear h5
    refine off_ rfl rfl (.bool c6) (by go_simp) (a' := ?_) (by simp only [Act.put, List.setIfInBounds_toArray, List.set_cons_zero, List.set_cons_succ]; rfl) ?_
    refine on_ 43 (b := c6) rfl rfl rfl (.pointer (some ⟨g5, 9, none⟩)) (fun hb => by go_simp) (a' := ?_) (fun u => by simp only [Act.put, List.setIfInBounds_toArray, List.set_cons_zero, List.set_cons_succ]; rfl) (fun u1 h1 => ?_)
    refine on_ 43 (b := c6) rfl rfl rfl (.int .i64 r.undo) (fun hb => by obtain rfl := h1 hb; go_simp) (a' := ?_) (fun u => by simp only [Act.put, List.setIfInBounds_toArray, List.set_cons_zero, List.set_cons_succ]; rfl) (fun u2 h2 => ?_)
    clear h1
    refine on_ 43 (b := c6) rfl rfl rfl (.pointer (some ⟨g6, 9, none⟩)) (fun hb => by go_simp) (a' := ?_) (fun u => by simp only [Act.put, List.setIfInBounds_toArray, List.set_cons_zero, List.set_cons_succ]; rfl) (fun u3 h3 => ?_)
    refine on_ 43 (b := c6) rfl rfl rfl (.int .i64 s.undo) (fun hb => by obtain rfl := h3 hb; go_simp) (a' := ?_) (fun u => by simp only [Act.put, List.setIfInBounds_toArray, List.set_cons_zero, List.set_cons_succ]; rfl) (fun u4 h4 => ?_)
    clear h3
    refine on_ 43 (b := c6) rfl rfl rfl (.bool n9) (fun hb => by obtain rfl := h2 hb; obtain rfl := h4 hb; go_simp) (a' := ?_) (fun u => by simp only [Act.put, List.setIfInBounds_toArray, List.set_cons_zero, List.set_cons_succ]; rfl) (fun u5 h5 => ?_)
    clear h2 h4
    refine off_ rfl rfl (.bool c7) (by rw [hc7.out]; cases c6 with | false => (go_simp) | true => (obtain rfl := h5 rfl; go_simp)) (a' := ?_) (by simp only [Act.put, List.setIfInBounds_toArray, List.set_cons_zero, List.set_cons_succ]; rfl) ?_
    clear h5
    refine off_ rfl rfl (.bool c7) (by go_simp) (a' := ?_) (by simp only [Act.put, List.setIfInBounds_toArray, List.set_cons_zero, List.set_cons_succ]; rfl) ?_
    refine on_ 50 (b := c7) rfl rfl rfl (.pointer (some ⟨g5, 10, none⟩)) (fun hb => by go_simp) (a' := ?_) (fun u => by simp only [Act.put, List.setIfInBounds_toArray, List.set_cons_zero, List.set_cons_succ]; rfl) (fun u1 h1 => ?_)
    refine on_ 50 (b := c7) rfl rfl rfl (.int .i64 r.index) (fun hb => by obtain rfl := h1 hb; go_simp) (a' := ?_) (fun u => by simp only [Act.put, List.setIfInBounds_toArray, List.set_cons_zero, List.set_cons_succ]; rfl) (fun u2 h2 => ?_)
    clear h1
    refine on_ 50 (b := c7) rfl rfl rfl (.pointer (some ⟨g6, 10, none⟩)) (fun hb => by go_simp) (a' := ?_) (fun u => by simp only [Act.put, List.setIfInBounds_toArray, List.set_cons_zero, List.set_cons_succ]; rfl) (fun u3 h3 => ?_)
    refine on_ 50 (b := c7) rfl rfl rfl (.int .i64 s.index) (fun hb => by obtain rfl := h3 hb; go_simp) (a' := ?_) (fun u => by simp only [Act.put, List.setIfInBounds_toArray, List.set_cons_zero, List.set_cons_succ]; rfl) (fun u4 h4 => ?_)
    clear h3
    refine on_ 50 (b := c7) rfl rfl rfl (.bool n10) (fun hb => by obtain rfl := h2 hb; obtain rfl := h4 hb; go_simp) (a' := ?_) (fun u => by simp only [Act.put, List.setIfInBounds_toArray, List.set_cons_zero, List.set_cons_succ]; rfl) (fun u5 h5 => ?_)
    clear h2 h4
    refine off_ rfl rfl (.bool c8) (by rw [hc8.out]; cases c7 with | false => (go_simp) | true => (obtain rfl := h5 rfl; go_simp)) (a' := ?_) (by simp only [Act.put, List.setIfInBounds_toArray, List.set_cons_zero, List.set_cons_succ]; rfl) ?_
    clear h5
    refine off_ rfl rfl (.bool c8) (by go_simp) (a' := ?_) (by simp only [Act.put, List.setIfInBounds_toArray, List.set_cons_zero, List.set_cons_succ]; rfl) ?_
    refine on_ 57 (b := c8) rfl rfl rfl (.pointer (some ⟨g5, 11, none⟩)) (fun hb => by go_simp) (a' := ?_) (fun u => by simp only [Act.put, List.setIfInBounds_toArray, List.set_cons_zero, List.set_cons_succ]; rfl) (fun u1 h1 => ?_)
    refine on_ 57 (b := c8) rfl rfl rfl (.string (bs r.key)) (fun hb => by obtain rfl := h1 hb; go_simp) (a' := ?_) (fun u => by simp only [Act.put, List.setIfInBounds_toArray, List.set_cons_zero, List.set_cons_succ]; rfl) (fun u2 h2 => ?_)
    clear h1
    refine on_ 57 (b := c8) rfl rfl rfl (.pointer (some ⟨g6, 11, none⟩)) (fun hb => by go_simp) (a' := ?_) (fun u => by simp only [Act.put, List.setIfInBounds_toArray, List.set_cons_zero, List.set_cons_succ]; rfl) (fun u3 h3 => ?_)
    refine on_ 57 (b := c8) rfl rfl rfl (.string (bs s.key)) (fun hb => by obtain rfl := h3 hb; go_simp) (a' := ?_) (fun u => by simp only [Act.put, List.setIfInBounds_toArray, List.set_cons_zero, List.set_cons_succ]; rfl) (fun u4 h4 => ?_)
    clear h3
    refine on_ 57 (b := c8) rfl rfl rfl (.bool n11) (fun hb => by obtain rfl := h2 hb; obtain rfl := h4 hb; go_simp) (a' := ?_) (fun u => by simp only [Act.put, List.setIfInBounds_toArray, List.set_cons_zero, List.set_cons_succ]; rfl) (fun u5 h5 => ?_)
    clear h2 h4
    refine off_ rfl rfl (.bool c9) (by rw [hc9.out]; cases c8 with | false => (go_simp) | true => (obtain rfl := h5 rfl; go_simp)) (a' := ?_) (by simp only [Act.put, List.setIfInBounds_toArray, List.set_cons_zero, List.set_cons_succ]; rfl) ?_
    clear h5
    refine off_ rfl rfl (.bool c9) (by go_simp) (a' := ?_) (by simp only [Act.put, List.setIfInBounds_toArray, List.set_cons_zero, List.set_cons_succ]; rfl) ?_
    refine on_ 64 (b := c9) rfl rfl rfl (.pointer (some ⟨g5, 12, none⟩)) (fun hb => by go_simp) (a' := ?_) (fun u => by simp only [Act.put, List.setIfInBounds_toArray, List.set_cons_zero, List.set_cons_succ]; rfl) (fun u1 h1 => ?_)
    refine on_ 64 (b := c9) rfl rfl rfl (.int .u32 r.rpage) (fun hb => by obtain rfl := h1 hb; go_simp) (a' := ?_) (fun u => by simp only [Act.put, List.setIfInBounds_toArray, List.set_cons_zero, List.set_cons_succ]; rfl) (fun u2 h2 => ?_)
    clear h1
    refine on_ 64 (b := c9) rfl rfl rfl (.pointer (some ⟨g6, 12, none⟩)) (fun hb => by go_simp) (a' := ?_) (fun u => by simp only [Act.put, List.setIfInBounds_toArray, List.set_cons_zero, List.set_cons_succ]; rfl) (fun u3 h3 => ?_)
    refine on_ 64 (b := c9) rfl rfl rfl (.int .u32 s.rpage) (fun hb => by obtain rfl := h3 hb; go_simp) (a' := ?_) (fun u => by simp only [Act.put, List.setIfInBounds_toArray, List.set_cons_zero, List.set_cons_succ]; rfl) (fun u4 h4 => ?_)
    clear h3
    refine on_ 64 (b := c9) rfl rfl rfl (.bool n12) (fun hb => by obtain rfl := h2 hb; obtain rfl := h4 hb; go_simp) (a' := ?_) (fun u => by simp only [Act.put, List.setIfInBounds_toArray, List.set_cons_zero, List.set_cons_succ]; rfl) (fun u5 h5 => ?_)
    clear h2 h4
    refine off_ rfl rfl (.bool c10) (by rw [hc10.out]; cases c9 with | false => (go_simp) | true => (obtain rfl := h5 rfl; go_simp)) (a' := ?_) (by simp only [Act.put, List.setIfInBounds_toArray, List.set_cons_zero, List.set_cons_succ]; rfl) ?_
    clear h5
    refine off_ rfl rfl (.bool c10) (by go_simp) (a' := ?_) (by simp only [Act.put, List.setIfInBounds_toArray, List.set_cons_zero, List.set_cons_succ]; rfl) ?_
    refine on_ 71 (b := c10) rfl rfl rfl (.pointer (some ⟨g5, 13, none⟩)) (fun hb => by go_simp) (a' := ?_) (fun u => by simp only [Act.put, List.setIfInBounds_toArray, List.set_cons_zero, List.set_cons_succ]; rfl) (fun u1 h1 => ?_)
    refine on_ 71 (b := c10) rfl rfl rfl (.int .i64 r.rslot) (fun hb => by obtain rfl := h1 hb; go_simp) (a' := ?_) (fun u => by simp only [Act.put, List.setIfInBounds_toArray, List.set_cons_zero, List.set_cons_succ]; rfl) (fun u2 h2 => ?_)
    clear h1
    refine on_ 71 (b := c10) rfl rfl rfl (.pointer (some ⟨g6, 13, none⟩)) (fun hb => by go_simp) (a' := ?_) (fun u => by simp only [Act.put, List.setIfInBounds_toArray, List.set_cons_zero, List.set_cons_succ]; rfl) (fun u3 h3 => ?_)
    refine on_ 71 (b := c10) rfl rfl rfl (.int .i64 s.rslot) (fun hb => by obtain rfl := h3 hb; go_simp) (a' := ?_) (fun u => by simp only [Act.put, List.setIfInBounds_toArray, List.set_cons_zero, List.set_cons_succ]; rfl) (fun u4 h4 => ?_)
    clear h3
    refine on_ 71 (b := c10) rfl rfl rfl (.bool n13) (fun hb => by obtain rfl := h2 hb; obtain rfl := h4 hb; go_simp) (a' := ?_) (fun u => by simp only [Act.put, List.setIfInBounds_toArray, List.set_cons_zero, List.set_cons_succ]; rfl) (fun u5 h5 => ?_)
    clear h2 h4
    refine off_ rfl rfl (.bool c11) (by rw [hc11.out]; cases c10 with | false => (go_simp) | true => (obtain rfl := h5 rfl; go_simp)) (a' := ?_) (by simp only [Act.put, List.setIfInBounds_toArray, List.set_cons_zero, List.set_cons_succ]; rfl) ?_
    clear h5
    refine off_ rfl rfl (.bool c11) (by go_simp) (a' := ?_) (by simp only [Act.put, List.setIfInBounds_toArray, List.set_cons_zero, List.set_cons_succ]; rfl) ?_
    refine on_ 78 (b := c11) rfl rfl rfl (.pointer (some ⟨g5, 14, none⟩)) (fun hb => by go_simp) (a' := ?_) (fun u => by simp only [Act.put, List.setIfInBounds_toArray, List.set_cons_zero, List.set_cons_succ]; rfl) (fun u1 h1 => ?_)
    refine on_ 78 (b := c11) rfl rfl rfl (.bool r.live) (fun hb => by obtain rfl := h1 hb; go_simp) (a' := ?_) (fun u => by simp only [Act.put, List.setIfInBounds_toArray, List.set_cons_zero, List.set_cons_succ]; rfl) (fun u2 h2 => ?_)
    clear h1
    refine on_ 78 (b := c11) rfl rfl rfl (.pointer (some ⟨g6, 14, none⟩)) (fun hb => by go_simp) (a' := ?_) (fun u => by simp only [Act.put, List.setIfInBounds_toArray, List.set_cons_zero, List.set_cons_succ]; rfl) (fun u3 h3 => ?_)
    refine on_ 78 (b := c11) rfl rfl rfl (.bool s.live) (fun hb => by obtain rfl := h3 hb; go_simp) (a' := ?_) (fun u => by simp only [Act.put, List.setIfInBounds_toArray, List.set_cons_zero, List.set_cons_succ]; rfl) (fun u4 h4 => ?_)
    clear h3
    refine on_ 78 (b := c11) rfl rfl rfl (.bool n14) (fun hb => by obtain rfl := h2 hb; obtain rfl := h4 hb; go_simp) (a' := ?_) (fun u => by simp only [Act.put, List.setIfInBounds_toArray, List.set_cons_zero, List.set_cons_succ]; rfl) (fun u5 h5 => ?_)
    clear h2 h4
    refine off_ rfl rfl (.bool c12) (by rw [hc12.out]; cases c11 with | false => (go_simp) | true => (obtain rfl := h5 rfl; go_simp)) (a' := ?_) (by simp only [Act.put, List.setIfInBounds_toArray, List.set_cons_zero, List.set_cons_succ]; rfl) ?_
    clear h5
    go_wp2_with fail
    go_meet
    exact ⟨c12, rfl, Lib.hid (HC12.out), H2, H3, H5, H6, P1, P2, P3, P4, HK⟩
  case rest =>
  obtain ⟨b, rfl, HBB_, H2_, H3_, H5_, H6_, P1_, P2_, P3_, P4_, HK_⟩ := hcut
  clear HBB H2 H3 H5 H6 P1 P2 P3 P4 HK
  have HBB := HBB_
  have H2 := H2_
  have H3 := H3_
  have H5 := H5_
  have H6 := H6_
  have P1 := P1_
  have P2 := P2_
  have P3 := P3_
  have P4 := P4_
  have HK := HK_
  clear HBB_ H2_ H3_ H5_ H6_ P1_ P2_ P3_ P4_ HK_
  cases b with
  | false =>
    have HDEC := Lib.hid (show ∀ b1 : Bool, (b1 = true ↔ r = s) → b1 = false from fun b1 h => Bool.eq_iff_iff.2 (h.trans HBB.out.symm))
    clear HBB
    go_wp2_with (first | (go_at_call 8; refine (awake04 _).mono ?_; rintro e w8 ⟨rfl, hb5⟩; have n_H2 := Lib.hid (H2.out.step hb5); have n_H3 := Lib.hid (H3.out.step hb5); have n_H5 := Lib.hid (H5.out.step hb5); have n_H6 := Lib.hid (H6.out.step hb5); have n_P1 := Lib.hid (rows_bl P1.out hb5); have n_P2 := Lib.hid (rows_bl P2.out hb5); have n_P3 := Lib.hid (rows_bl P3.out hb5); have n_P4 := Lib.hid (rows_bl P4.out hb5); have n_HK := Lib.hid (bstep HK.out hb5); clear hb5 H2 H3 H5 H6 P1 P2 P3 P4 HK; have H2 := n_H2; have H3 := n_H3; have H5 := n_H5; have H6 := n_H6; have P1 := n_P1; have P2 := n_P2; have P3 := n_P3; have P4 := n_P4; have HK := n_HK; clear n_H2 n_H3 n_H5 n_H6 n_P1 n_P2 n_P3 n_P4 n_HK) | (refine wpList_load_row_on rfl 35 (.tmp 2) rfl w.heap.size rfl 35 (r.cells A c B d) (0, 0) _ H2.out Try.underlying35 rfl (by kernel_rfl) ?_) | (refine wpList_load_row_on rfl 35 (.tmp 3) rfl (w.heap.size + 1) rfl 35 (s.cells A' c' B' d') (0, 0) _ H3.out Try.underlying35 rfl (by kernel_rfl) ?_) | (go_at_call 11; have HDX := HDEC; clear HDEC; refine (rsame_any r s (HR.out.below HK.out) (HS.out.below HK.out)).mono ?_; rintro e w9 ⟨⟨b1, rfl, hi1⟩, hb5⟩; obtain rfl := HDX.out b1 hi1; clear hi1 HDX; have n_H2 := Lib.hid (H2.out.step hb5); have n_H3 := Lib.hid (H3.out.step hb5); have n_H5 := Lib.hid (H5.out.step hb5); have n_H6 := Lib.hid (H6.out.step hb5); have n_P1 := Lib.hid (rows_bl P1.out hb5); have n_P2 := Lib.hid (rows_bl P2.out hb5); have n_P3 := Lib.hid (rows_bl P3.out hb5); have n_P4 := Lib.hid (rows_bl P4.out hb5); have n_HK := Lib.hid (bstep HK.out hb5); clear hb5 H2 H3 H5 H6 P1 P2 P3 P4 HK; have H2 := n_H2; have H3 := n_H3; have H5 := n_H5; have H6 := n_H6; have P1 := n_P1; have P2 := n_P2; have P3 := n_P3; have P4 := n_P4; have HK := n_HK; clear n_H2 n_H3 n_H5 n_H6 n_P1 n_P2 n_P3 n_P4 n_HK) | (go_at_call 11; refine (rsame_any r r (HR.out.below HK.out) (HR.out.below HK.out)).mono ?_; rintro e w10 ⟨⟨b2, rfl, hi2⟩, hb5⟩; obtain rfl : b2 = true := hi2.2 rfl; clear hi2; have n_H2 := Lib.hid (H2.out.step hb5); have n_H3 := Lib.hid (H3.out.step hb5); have n_H5 := Lib.hid (H5.out.step hb5); have n_H6 := Lib.hid (H6.out.step hb5); have n_P1 := Lib.hid (rows_bl P1.out hb5); have n_P2 := Lib.hid (rows_bl P2.out hb5); have n_P3 := Lib.hid (rows_bl P3.out hb5); have n_P4 := Lib.hid (rows_bl P4.out hb5); have n_HK := Lib.hid (bstep HK.out hb5); clear hb5 H2 H3 H5 H6 P1 P2 P3 P4 HK; have H2 := n_H2; have H3 := n_H3; have H5 := n_H5; have H6 := n_H6; have P1 := n_P1; have P2 := n_P2; have P3 := n_P3; have P4 := n_P4; have HK := n_HK; clear n_H2 n_H3 n_H5 n_H6 n_P1 n_P2 n_P3 n_P4 n_HK))
    go_ret
    exact ⟨rfl, HK.out⟩
  | true =>
    have HDEC := Lib.hid (show ∀ b1 : Bool, (b1 = true ↔ r = s) → b1 = true from fun b1 h => Bool.eq_iff_iff.2 (h.trans HBB.out.symm))
    clear HBB
    go_wp2_with (first | (go_at_call 8; refine (awake04 _).mono ?_; rintro e w8 ⟨rfl, hb5⟩; have n_H2 := Lib.hid (H2.out.step hb5); have n_H3 := Lib.hid (H3.out.step hb5); have n_H5 := Lib.hid (H5.out.step hb5); have n_H6 := Lib.hid (H6.out.step hb5); have n_P1 := Lib.hid (rows_bl P1.out hb5); have n_P2 := Lib.hid (rows_bl P2.out hb5); have n_P3 := Lib.hid (rows_bl P3.out hb5); have n_P4 := Lib.hid (rows_bl P4.out hb5); have n_HK := Lib.hid (bstep HK.out hb5); clear hb5 H2 H3 H5 H6 P1 P2 P3 P4 HK; have H2 := n_H2; have H3 := n_H3; have H5 := n_H5; have H6 := n_H6; have P1 := n_P1; have P2 := n_P2; have P3 := n_P3; have P4 := n_P4; have HK := n_HK; clear n_H2 n_H3 n_H5 n_H6 n_P1 n_P2 n_P3 n_P4 n_HK) | (refine wpList_load_row_on rfl 35 (.tmp 2) rfl w.heap.size rfl 35 (r.cells A c B d) (0, 0) _ H2.out Try.underlying35 rfl (by kernel_rfl) ?_) | (refine wpList_load_row_on rfl 35 (.tmp 3) rfl (w.heap.size + 1) rfl 35 (s.cells A' c' B' d') (0, 0) _ H3.out Try.underlying35 rfl (by kernel_rfl) ?_) | (go_at_call 11; have HDX := HDEC; clear HDEC; refine (rsame_any r s (HR.out.below HK.out) (HS.out.below HK.out)).mono ?_; rintro e w9 ⟨⟨b1, rfl, hi1⟩, hb5⟩; obtain rfl := HDX.out b1 hi1; clear hi1 HDX; have n_H2 := Lib.hid (H2.out.step hb5); have n_H3 := Lib.hid (H3.out.step hb5); have n_H5 := Lib.hid (H5.out.step hb5); have n_H6 := Lib.hid (H6.out.step hb5); have n_P1 := Lib.hid (rows_bl P1.out hb5); have n_P2 := Lib.hid (rows_bl P2.out hb5); have n_P3 := Lib.hid (rows_bl P3.out hb5); have n_P4 := Lib.hid (rows_bl P4.out hb5); have n_HK := Lib.hid (bstep HK.out hb5); clear hb5 H2 H3 H5 H6 P1 P2 P3 P4 HK; have H2 := n_H2; have H3 := n_H3; have H5 := n_H5; have H6 := n_H6; have P1 := n_P1; have P2 := n_P2; have P3 := n_P3; have P4 := n_P4; have HK := n_HK; clear n_H2 n_H3 n_H5 n_H6 n_P1 n_P2 n_P3 n_P4 n_HK) | (go_at_call 11; refine (rsame_any r r (HR.out.below HK.out) (HR.out.below HK.out)).mono ?_; rintro e w10 ⟨⟨b2, rfl, hi2⟩, hb5⟩; obtain rfl : b2 = true := hi2.2 rfl; clear hi2; have n_H2 := Lib.hid (H2.out.step hb5); have n_H3 := Lib.hid (H3.out.step hb5); have n_H5 := Lib.hid (H5.out.step hb5); have n_H6 := Lib.hid (H6.out.step hb5); have n_P1 := Lib.hid (rows_bl P1.out hb5); have n_P2 := Lib.hid (rows_bl P2.out hb5); have n_P3 := Lib.hid (rows_bl P3.out hb5); have n_P4 := Lib.hid (rows_bl P4.out hb5); have n_HK := Lib.hid (bstep HK.out hb5); clear hb5 H2 H3 H5 H6 P1 P2 P3 P4 HK; have H2 := n_H2; have H3 := n_H3; have H5 := n_H5; have H6 := n_H6; have P1 := n_P1; have P2 := n_P2; have P3 := n_P3; have P4 := n_P4; have HK := n_HK; clear n_H2 n_H3 n_H5 n_H6 n_P1 n_P2 n_P3 n_P4 n_HK))
    go_ret
    exact ⟨rfl, HK.out⟩
end Go.Proofs.Ytebickoieipjpaa
end
section
namespace Go.Proofs.Ytebickoieipjpaa.recSameRow
open Go.ChangeShapes Go.WideShapes Go.ChangeAt Go.RowKit Go.GiRow Go.Proofs.YtebickoieipjpaaW.PrintWords OpenK
open Go.ChangeMaps (open_string shut_string)
theorem own : ownKnob Try.prog.godebug = none := by kernel_rfl
theorem laid : laidOutB Try.prog = true := by kernel_rfl
set_option maxRecDepth 100000 in
set_option maxHeartbeats 6400000 in
theorem lifted (os : Os) (started : os.Started) (H : Type) (enc : TypeId × Value → H) :
    ReturnsInHanded {} Try.checked os 5 .any (Rows.recSameSpec.pre6 enc Try.prog Try.f5 Rows.recSameRow.domain false) (Rows.recSameSpec.post enc Try.prog Try.f5 false true false false) := by
  refine returnsInHanded_of_change_sized (C := Try.checked) own started (by kernel_rfl) Try.func5
    (ChangeSpec.witness6 (enc := enc) (C := Try.checked) false ⟨#[], #[.agg #[.int .i64 0, .int .i64 0, .int .u64 0, .int .u64 0, .int .u32 0, .int .i64 0, .int .i64 0, .string ByteArray.empty, .string ByteArray.empty, .int .i64 0, .int .i64 0, .string ByteArray.empty, .int .u32 0, .int .i64 0, .bool false, .slice none 0 0, .slice none 0 0], .agg #[.int .i64 0, .int .i64 0, .int .u64 0, .int .u64 0, .int .u32 0, .int .i64 0, .int .i64 0, .string ByteArray.empty, .string ByteArray.empty, .int .i64 0, .int .i64 0, .string ByteArray.empty, .int .u32 0, .int .i64 0, .bool false, .slice none 0 0, .slice none 0 0]], []⟩ 8 (by kernel_rfl) (by kernel_rfl) (by kernel_rfl) (by kernel_rfl)) ?_
  intro W base args ds gs before hval0 hW _ hsz0 _
  have hsz : (DataW.weightsEach Try.prog (Try.f5.params.toList ++ Rows.recSameSpec.plain.varTypes Try.prog) (ds ++ gs)).all (· ≤ reachBytes) = true := hsz0
  have hval : ∀ (j : Nat) t v, Try.f5.params[j]? = some t → args[j]? = some v → Value.okWide Try.prog W .any base t v := hval0
  have hW' := hW
  obtain ⟨p, q, hA0, hV, rfl, _, _⟩ := hW
  have hA : DataW.TrodAll enc Try.prog W 0 (fun _ => true) true Try.f5.params.toList args.toList ds p := hA0
  rw [Try.params5] at hA hval hsz
  obtain ⟨v0, vs0, d0, ds0, p0, q0, hargs, rfl, rfl, h0, r0⟩ := trodAll_cons hA
  obtain ⟨v1, vs1, d1, ds1, p1, q1, rfl, rfl, rfl, h1, r1⟩ := trodAll_cons r0
  obtain ⟨rfl, rfl, rfl⟩ := trodAll_nil r1
  obtain rfl : args = #[v0, v1] := by cases args; simp_all
  obtain ⟨rfl, rfl⟩ := trodVars_none hV
  obtain ⟨rr0, A0, c0, B0, e0, rfl, hR0, hw0⟩ := rec_open3 (hval 0 35 v0 rfl rfl) h0 (OpenK.light_each hsz 0 _ _ rfl rfl)
  obtain ⟨rr1, A1, c1, B1, e1, rfl, hR1, hw1⟩ := rec_open3 (hval 1 35 v1 rfl rfl) h1 (OpenK.light_each hsz 1 _ _ rfl rfl)
  refine (recSame_any rr0 rr1 hR0 hR1).mono fun e W' ⟨he, bel⟩ => ?_
  subst he
  refine ⟨_, rfl, law_post (tb := 4) laid (by kernel_rfl) rfl Try.underlying4 rfl (fun ds hds => ?_) hW' bel⟩
  match ds, hds with
  | [_, _], _ => rfl
theorem over : Rows.recSameRow.holds Try.pinned (OpenSpec.ofChange Rows.recSameSpec) :=
  OpenClaim.holds_of_wide 5 Try.f5 rfl rfl rfl rfl rfl rfl rfl ⟨rfl, rfl, rfl, rfl, rfl⟩ rfl rfl rfl rfl rfl (by kernel_rfl) Try.func5 (by kernel_rfl)
    (of_decide_eq_true (by kernel_rfl)) (by unfold Func.isWrapper; first | (rw [if_pos (by decide +kernel)]; kernel_rfl) | (rw [if_neg (by decide +kernel)]; exact ⟨rfl, rfl⟩))
    (fun os started H enc _ => lifted os started H enc)
end Go.Proofs.Ytebickoieipjpaa.recSameRow
namespace Go.Proofs.Ytebickoieipjpaa
/-- The row, under a short name, for the claim. -/
theorem recSame_holds : Rows.RecSameSaid := recSameRow.over
#print axioms recSame_holds
end Go.Proofs.Ytebickoieipjpaa
end
