import Derived.Test.YtebickoieipjpaaRecBase
import Derived.Test.YtebickoieipjpaaPgChk
import Derived.Test.YtebickoieipjpaaRowS
import Derived.Test.YtebickoieipjpaaEv
import Derived.Deep.DeepCutAuto
import Derived.Handy
namespace Go.Proofs.Ytebickoieipjpaa
open Go.RowKit Go.Gi Go.GiRow
set_option maxRecDepth 20000
set_option linter.unusedSimpArgs false
set_option linter.unusedVariables false

theorem named_any (k : Int) (w : World) :
    Calls Try.prog 19 #[.int .i64 k] w fun e w' => (∃ c n t, e = .returned (.tuple #[.bool c, .bool n, .bool t]) ∧ Says c (isChange k) ∧ Says n (isNext k) ∧ Says t (k = 8)) ∧ w' = w := by
  by_cases h1 : k = 1
  · subst h1
    go_enter Try.func19, Try.ntmps19
    go_wp2
    go_returns
    exact ⟨⟨_, _, _, rfl, .of_true (.inl rfl), .of_false (by unfold isNext; omega), .of_false (by omega)⟩, rfl⟩
  by_cases h2 : k = 2
  · subst h2
    go_enter Try.func19, Try.ntmps19
    go_wp2
    go_returns
    exact ⟨⟨_, _, _, rfl, .of_true (.inr rfl), .of_true (.inl rfl), .of_false (by omega)⟩, rfl⟩
  by_cases h3 : k = 3
  · subst h3
    go_enter Try.func19, Try.ntmps19
    go_wp2
    go_returns
    exact ⟨⟨_, _, _, rfl, .of_false (by unfold isChange; omega), .of_true (.inr rfl), .of_false (by omega)⟩, rfl⟩
  by_cases h8 : k = 8
  · subst h8
    go_enter Try.func19, Try.ntmps19
    go_wp2
    go_returns
    exact ⟨⟨_, _, _, rfl, .of_false (by unfold isChange; omega), .of_false (by unfold isNext; omega), .of_true (by simp)⟩, rfl⟩
  · have e1 : (k == 1) = false := by simp [h1]
    have e2 : (k == 2) = false := by simp [h2]
    have e3 : (k == 3) = false := by simp [h3]
    have e8 : (k == 8) = false := by simp [h8]
    have H := Lib.hid (show ¬ isChange k ∧ ¬ isNext k ∧ ¬ k = 8 by unfold isChange isNext; omega)
    clear h1 h2 h3 h8
    go_enter Try.func19, Try.ntmps19
    go_wp2
    go_returns
    exact ⟨⟨_, _, _, rfl, .of_false H.out.1, .of_false H.out.2.1, .of_false H.out.2.2⟩, rfl⟩

/-- The boxed record's cells. -/
abbrev cellsOf17 (kind tx prev next page ok oa : Int) (os oo : List UInt8) (undo index : Int) (key : List UInt8) (rpage rslot : Int) (live : Bool) (V10 V11 : Value) : Array Value :=
  #[.int .i64 kind, .int .i64 tx, .int .u64 prev, .int .u64 next, .int .u32 page, .int .i64 ok, .int .i64 oa, .string (bs os), .string (bs oo), .int .i64 undo, .int .i64 index, .string (bs key), .int .u32 rpage, .int .i64 rslot, .bool live, V10, V11]

attribute [local go_sem] bs_size bs_empty
set_option maxHeartbeats 16000000 in
theorem rcheck_any (r : RecR) (A : Option Addr) (c : Nat) (B : Option Addr) (d : Nat) (w : World) (hA : RdRows StR.cells 4 w A r.txs) (hl : r.txs.length ≤ 9223372036854775807) (hd : r.dirty.length ≤ 9223372036854775807) :
    Calls Try.prog 16 #[r.val A c B d] w fun e w' => e = .returned (.int .i64 (recE r)) ∧ Below w.heap.size w w' := by
  obtain ⟨kind, tx, prev, next, page, ok, oa, os, oo, undo, index, key, rpage, rslot, live, txs, dirty⟩ := r
  have HA := Lib.hid hA
  simp only at hl hd
  clear hA
  obtain ⟨RR, hRR⟩ : ∃ RR : RecR, RR = ⟨kind, tx, prev, next, page, ok, oa, os, oo, undo, index, key, rpage, rslot, live, txs, dirty⟩ := ⟨_, rfl⟩
  rw [← hRR]
  have HR := Lib.hid hRR
  rw [hRR]
  show Calls Try.prog 16 #[.agg (cellsOf17 kind tx prev next page ok oa os oo undo index key rpage rslot live (.slice A txs.length c) (.slice B dirty.length d))] w _
  rw [← hRR]
  clear hRR
  go_enter Try.func16, Try.ntmps16
  go_upto_region 1 with fail
  have hB := Blk.new w 35 (cellsOf17 kind tx prev next page ok oa os oo undo index key rpage rslot live (.slice A txs.length c) (.slice B dirty.length d))
  have hW := balloc (Below.refl w.heap.size w) (.cells (cellsOf17 kind tx prev next page ok oa os oo undo index key rpage rslot live (.slice A txs.length c) (.slice B dirty.length d)) 35)
  unfold cellsOf17 at hB hW
  have HB := Lib.hid hB
  have HW := Lib.hid hW
  clear hB hW
  generalize w.alloc (.cells #[.int .i64 kind, .int .i64 tx, .int .u64 prev, .int .u64 next, .int .u32 page, .int .i64 ok, .int .i64 oa, .string (bs os), .string (bs oo), .int .i64 undo, .int .i64 index, .string (bs key), .int .u32 rpage, .int .i64 rslot, .bool live, .slice A txs.length c, .slice B dirty.length d] 35) = w0 at *
  generalize Value.agg #[.int .i64 kind, .int .i64 tx, .int .u64 prev, .int .u64 next, .int .u32 page, .int .i64 ok, .int .i64 oa, .string (bs os), .string (bs oo), .int .i64 undo, .int .i64 index, .string (bs key), .int .u32 rpage, .int .i64 rslot, .bool live, .slice A txs.length c, .slice B dirty.length d] = V0 at *
  generalize hgE : w.heap.size = g at *
  have HgE := Lib.hid hgE
  clear hgE
  have c0 : w0.cell? ⟨g, 0, none⟩ = some (.int .i64 kind) := HB.out.cell 0
  have c1 : w0.cell? ⟨g, 1, none⟩ = some (.int .i64 tx) := HB.out.cell 1
  have c3 : w0.cell? ⟨g, 3, none⟩ = some (.int .u64 next) := HB.out.cell 3
  have c4 : w0.cell? ⟨g, 4, none⟩ = some (.int .u32 page) := HB.out.cell 4
  have c5 : w0.cell? ⟨g, 5, none⟩ = some (.int .i64 ok) := HB.out.cell 5
  have c6 : w0.cell? ⟨g, 6, none⟩ = some (.int .i64 oa) := HB.out.cell 6
  have c7 : w0.cell? ⟨g, 7, none⟩ = some (.string (bs os)) := HB.out.cell 7
  have c8 : w0.cell? ⟨g, 8, none⟩ = some (.string (bs oo)) := HB.out.cell 8
  have c9 : w0.cell? ⟨g, 9, none⟩ = some (.int .i64 undo) := HB.out.cell 9
  go_upto_region 2 with (first | (go_at_call 19; refine (named_any _ _).mono ?_; rintro e w' ⟨⟨ch, nx, tb, rfl, hch, hnx, htb⟩, hw'⟩; obtain rfl := hw'.symm; have Hch := Lib.hid hch; have Hnx := Lib.hid hnx; have Htb := Lib.hid htb; clear hch hnx htb))
  go_cut [6] from 16 to 33 (fun v wx => CutB v (okHead RR) ∧ wx = w0)
  case first =>
    go_wp2
    all_goals
      go_meet
      refine ⟨?_, rfl⟩
      rw [HR.out]
      first
      | exact cut_false (by simp only [okHead]; omega)
      | exact cut_true (by simp only [okHead]; omega)
      | exact cut_dec (by simp only [okHead]; omega)
  case rest =>
    obtain ⟨⟨b2, rfl, hb2⟩, hwc⟩ := hcut
    obtain rfl := hwc.symm
    have Hb2 := Lib.hid hb2
    clear hb2
    go_upto_region 3 with fail
    go_cut [6] from 34 to 44 (fun v wx => CutB v (okHead RR ∧ okUndo RR) ∧ wx = w0)
    case first =>
      cases b2
      all_goals
        go_wp2
        all_goals
          go_meet
          refine ⟨?_, rfl⟩
          have Hb2 := Hb2.out
          unfold Says at Hb2
          rw [HR.out] at *
          simp only [okHead, okUndo, Bool.false_eq_true, false_iff, true_iff, iff_true, iff_false] at *
          first
          | exact cut_false (by omega)
          | exact cut_true (by omega)
          | exact cut_dec (by omega)
    case rest =>
    obtain ⟨⟨b3, rfl, hb3⟩, hwc⟩ := hcut
    obtain rfl := hwc.symm
    have Hb3 := Lib.hid hb3
    clear hb3 Hb2
    go_upto_if 45 with fail
    go_cut [6] from 46 to 74 (fun v wx => CutB v ((okHead RR ∧ okUndo RR) ∧ okOp RR) ∧ Below w0.heap.size w0 wx)
    case first =>
      cases b3
      · have Hn : ¬ ((okHead RR ∧ okUndo RR) ∧ okOp RR) := fun h => Hb3.out.not rfl h.1
        have HN := Lib.hid Hn
        clear Hn
        cases ch
        all_goals
          go_wp2
          go_meet
          exact ⟨cut_false HN.out, Below.refl _ _⟩
      · have Hy : okHead RR ∧ okUndo RR := Hb3.out.1 rfl
        have HY := Lib.hid Hy
        clear Hy
        cases ch
        · have Hc : ¬ isChange kind := Hch.out.not rfl
          have HC := Lib.hid Hc
          clear Hc
          have HK := Lib.hid (and_key HY.out (okOp_no (r := RR) (by rw [HR.out]; exact HC.out)))
          rw [HR.out] at HK
          obtain ⟨n1, e1, s1⟩ := names page 0
          obtain ⟨n2, e2, s2⟩ := names ok 0
          obtain ⟨n3, e3, s3⟩ := names oa 0
          obtain ⟨n4, e4, s4⟩ := names undo 0
          have S1 := Lib.hid s1; have S2 := Lib.hid s2; have S3 := Lib.hid s3; have S4 := Lib.hid s4
          clear s1 s2 s3 s4
          rcases os with _ | ⟨os0, os1⟩ <;> rcases oo with _ | ⟨oo0, oo1⟩
          all_goals
            go_wp2
            all_goals
              go_meet
              rw [HR.out, HK.out]
              clear HK HR HY HC HB HW HA Hch Hnx Htb Hb3 c0 c1 c3 c4 c5 c6 c7 c8 c9 e1 e2 e3 e4
              have T1 := S1.out; have T2 := S2.out; have T3 := S3.out; have T4 := S4.out
              subst T1 T2 T3 T4
              simp only [Bool.not_eq_false, decide_eq_true_eq, decide_eq_false_iff_not, List.length_nil, List.length_cons, and_true, true_and, and_false, false_and, Decidable.not_not, eq_self] at *
              first
              | exact ⟨cut_false (by omega), Below.refl _ _⟩
              | exact ⟨cut_true (by omega), Below.refl _ _⟩
              | exact ⟨cut_dec (by omega), Below.refl _ _⟩
        · have Hc : isChange kind := Hch.out.1 rfl
          have HC := Lib.hid Hc
          clear Hc
          have HK := Lib.hid (and_key HY.out (okOp_yes (r := RR) (by rw [HR.out]; exact HC.out)))
          rw [HR.out] at HK
          obtain ⟨n1, e1, s1⟩ := names page 0
          have S1 := Lib.hid s1
          have e2 : (page != 0) = !n1 := by rw [← e1]; rfl
          clear s1
          obtain ⟨n2, e3, s2⟩ := names (opE ok oa os oo) 0
          simp only [opE_zero] at s2
          have S2 := Lib.hid s2
          clear s2
          go_wp2_with (go_at_call 37; refine (pcheck_any _ _ _ _ _).mono ?_; rintro e w' ⟨rfl, hbp⟩)
          all_goals
            go_meet
            rw [HR.out, HK.out]
            clear HK HR HY HC HB HW HA Hch Hnx Htb Hb3 c0 c1 c3 c4 c5 c6 c7 c8 c9 e1 e2 e3
            have T1 := S1.out; have T2 := S2.out
            clear S1 S2
            subst T1 T2
            simp only [Bool.not_eq_false, decide_eq_true_eq, decide_eq_false_iff_not] at *
            first
            | exact ⟨cut_false (fun x => by simp_all), Below.refl _ _⟩
            | exact ⟨cut_dec (by simp_all), by assumption⟩
    case rest =>
    obtain ⟨⟨b4, rfl, hb4⟩, hw4⟩ := hcut
    have HB4 := Lib.hid (HB.out.below hw4 HB.out.lt)
    have HW4 := Lib.hid (HW.out.trans (hw4.mono (Nat.le_of_lt HB.out.lt)))
    have Hb4 := Lib.hid hb4
    clear hb4 Hb3 hw4 c0 c1 c3 c4 c5 c6 c7 c8 c9 HB HW
    have c0 : wc.cell? ⟨g, 0, none⟩ = some (.int .i64 kind) := HB4.out.cell 0
    have c3 : wc.cell? ⟨g, 3, none⟩ = some (.int .u64 next) := HB4.out.cell 3
    have c9 : wc.cell? ⟨g, 9, none⟩ = some (.int .i64 undo) := HB4.out.cell 9
    have c10 : wc.cell? ⟨g, 10, none⟩ = some (.int .i64 index) := HB4.out.cell 10
    have c11 : wc.cell? ⟨g, 11, none⟩ = some (.string (bs key)) := HB4.out.cell 11
    have c12 : wc.cell? ⟨g, 12, none⟩ = some (.int .u32 rpage) := HB4.out.cell 12
    have c13 : wc.cell? ⟨g, 13, none⟩ = some (.int .i64 rslot) := HB4.out.cell 13
    have c14 : wc.cell? ⟨g, 14, none⟩ = some (.bool live) := HB4.out.cell 14
    have c15 : wc.cell? ⟨g, 15, none⟩ = some (.slice A txs.length c) := HB4.out.cell 15
    have c16 : wc.cell? ⟨g, 16, none⟩ = some (.slice B dirty.length d) := HB4.out.cell 16
    obtain ⟨n5, e5, s5⟩ := names undo 2
    have S5 := Lib.hid s5
    clear s5
    go_upto_if 77 with fail
    go_cut [6] from 78 to 126 (fun v wx => CutB v (((okHead RR ∧ okUndo RR) ∧ okOp RR) ∧ okKey RR) ∧ wx = wc)
    case first =>
      cases b4
      · have Hn : ¬ (((okHead RR ∧ okUndo RR) ∧ okOp RR) ∧ okKey RR) := fun h => Hb4.out.not rfl h.1
        have HN := Lib.hid Hn
        clear Hn
        cases n5
        all_goals
          go_wp2
          go_meet
          exact ⟨cut_false HN.out, rfl⟩
      · have Hy : (okHead RR ∧ okUndo RR) ∧ okOp RR := Hb4.out.1 rfl
        have HY := Lib.hid Hy
        clear Hy
        cases n5
        · have Hc : ¬ undo = 2 := by have := S5.out; simpa using this
          have HC := Lib.hid Hc
          clear Hc
          have HK := Lib.hid (and_key HY.out (okKey_no (r := RR) (by rw [HR.out]; exact HC.out)))
          rw [HR.out] at HK
          obtain ⟨n1, e1, s1⟩ := names index 0
          obtain ⟨n2, e2, s2⟩ := names rpage 0
          obtain ⟨n3, e3, s3⟩ := names rslot 0
          have S1 := Lib.hid s1; have S2 := Lib.hid s2; have S3 := Lib.hid s3
          clear s1 s2 s3
          rcases key with _ | ⟨key0, key1⟩
          all_goals
            cases live
            all_goals
              go_wp2
              all_goals
                go_meet
                rw [HR.out, HK.out]
                clear HK HR HY HC HB4 HW4 HA Hch Hnx Htb Hb4 c0 c3 c9 c10 c11 c12 c13 c14 c15 c16 e1 e2 e3
                have T1 := S1.out; have T2 := S2.out; have T3 := S3.out
                clear S1 S2 S3
                subst T1 T2 T3
                simp only [Bool.not_eq_false, decide_eq_true_eq, decide_eq_false_iff_not, List.length_nil, List.length_cons, Bool.true_eq_false, and_true, true_and, and_false, false_and, Decidable.not_not, eq_self] at *
                first
                | exact cut_false (by omega)
                | exact cut_false (fun h => h)
                | exact cut_true (by omega)
                | exact cut_dec (by omega)
        · have Hc : undo = 2 := by have := S5.out; simpa using this
          have HC := Lib.hid Hc
          clear Hc
          have HK := Lib.hid (and_key HY.out (okKey_yes (r := RR) (by rw [HR.out]; exact HC.out)))
          rw [HR.out] at HK
          go_wp2
          all_goals
            go_meet
            rw [HR.out, HK.out]
            clear HK HR HY HC HB4 HW4 HA Hch Hnx Htb Hb4 c0 c3 c9 c10 c11 c12 c13 c14 c15 c16
            first
            | exact ⟨cut_false (by omega), rfl⟩
            | exact ⟨cut_true (by omega), rfl⟩
            | exact ⟨cut_dec (by omega), rfl⟩
    case rest =>
    obtain ⟨⟨b5, rfl, hb5⟩, hwc⟩ := hcut
    obtain rfl := hwc.symm
    have Hb5 := Lib.hid hb5
    clear hb5 Hb4 c10 c11 c12 c13 c14
    go_upto_region 10 with fail
    go_cut [6] from 127 to 145 (fun v wx => CutB v ((((okHead RR ∧ okUndo RR) ∧ okOp RR) ∧ okKey RR) ∧ okNext RR) ∧ wx = wc)
    case first =>
      cases b5
      · have Hn : ¬ ((((okHead RR ∧ okUndo RR) ∧ okOp RR) ∧ okKey RR) ∧ okNext RR) := fun h => Hb5.out.not rfl h.1
        have HN := Lib.hid Hn
        clear Hn
        go_wp2
        go_meet
        exact ⟨cut_false HN.out, rfl⟩
      · have Hy : ((okHead RR ∧ okUndo RR) ∧ okOp RR) ∧ okKey RR := Hb5.out.1 rfl
        have HY := Lib.hid Hy
        clear Hy
        have HK := Lib.hid (and_key HY.out (show okNext RR ↔ ((isNext kind ∨ next = 0) ∧ (kind = 1 ∨ undo = 0)) by rw [HR.out]; exact Iff.rfl))
        obtain ⟨n1, e1, s1⟩ := names next 0
        obtain ⟨n2, e2, s2⟩ := names kind 1
        obtain ⟨n3, e3, s3⟩ := names undo 0
        have S1 := Lib.hid s1; have S2 := Lib.hid s2; have S3 := Lib.hid s3
        clear s1 s2 s3
        cases nx
        all_goals
          go_wp2
          all_goals
            go_meet
            rw [HK.out]
            have hnx := Hnx.out
            unfold Says isNext at hnx
            unfold isNext
            clear HK HR HY HB4 HW4 HA Hch Hnx Htb Hb5 c0 c3 c9 c15 c16 e1 e2 e3 S5 e5
            have T1 := S1.out; have T2 := S2.out; have T3 := S3.out
            clear S1 S2 S3
            subst T1 T2 T3
            simp only [Bool.not_eq_false, decide_eq_true_eq, decide_eq_false_iff_not, Bool.true_eq_false, Bool.false_eq_true, false_iff, true_iff, and_true, true_and, and_false, false_and, Decidable.not_not, eq_self] at *
            first
            | exact cut_false (by omega)
            | exact cut_false (fun h => h)
            | exact cut_true (by omega)
            | exact cut_dec (by omega)
    case rest =>
    obtain ⟨⟨b6, rfl, hb6⟩, hwc⟩ := hcut
    obtain rfl := hwc.symm
    have Hb6 := Lib.hid hb6
    clear hb6 Hb5 c0 c3 c9
    go_upto_region 11 with fail
    go_cut [6] from 146 to 173 (fun v wx => CutB v (((((okHead RR ∧ okUndo RR) ∧ okOp RR) ∧ okKey RR) ∧ okNext RR) ∧ okLong RR) ∧ wx = wc)
    case first =>
      cases b6
      · have Hn : ¬ (((((okHead RR ∧ okUndo RR) ∧ okOp RR) ∧ okKey RR) ∧ okNext RR) ∧ okLong RR) := fun h => Hb6.out.not rfl h.1
        have HN := Lib.hid Hn
        clear Hn
        go_wp2
        go_meet
        exact ⟨cut_false HN.out, rfl⟩
      · have Hy : (((okHead RR ∧ okUndo RR) ∧ okOp RR) ∧ okKey RR) ∧ okNext RR := Hb6.out.1 rfl
        have HY := Lib.hid Hy
        clear Hy
        have HK := Lib.hid (and_key HY.out (show okLong RR ↔ ((kind = 8 ∨ txs.length = 0 ∧ dirty.length = 0) ∧ txs.length ≤ 64 ∧ dirty.length ≤ 256) by rw [HR.out]; exact Iff.rfl))
        obtain ⟨n1, e1, s1⟩ := namesN txs.length 0
        obtain ⟨n2, e2, s2⟩ := namesN dirty.length 0
        have S1 := Lib.hid s1; have S2 := Lib.hid s2
        clear s1 s2
        simp only [Int.natCast_zero, Int.ofNat_eq_natCast] at e1 e2
        cases tb
        all_goals
          go_wp2
          all_goals
            go_meet
            rw [HK.out]
            have hnx := Htb.out
            unfold Says at hnx
            clear HK HR HY HB4 HW4 HA Hch Hnx Htb Hb6 c15 c16 e1 e2 S5 e5
            have T1 := S1.out; have T2 := S2.out
            clear S1 S2
            subst T1 T2
            simp only [Bool.not_eq_false, decide_eq_true_eq, decide_eq_false_iff_not, Bool.true_eq_false, Bool.false_eq_true, false_iff, true_iff, and_true, true_and, and_false, false_and, Decidable.not_not, eq_self] at *
            first
            | exact cut_false (by omega)
            | exact cut_false (fun h => h)
            | exact cut_true (by omega)
            | exact cut_dec (by omega)
    case rest =>
    obtain ⟨⟨b7, rfl, hb7⟩, hwc⟩ := hcut
    obtain rfl := hwc.symm
    have Hb7 := Lib.hid hb7
    clear hb7 Hb6 c16
    generalize hPP : (((((okHead RR ∧ okUndo RR) ∧ okOp RR) ∧ okKey RR) ∧ okNext RR) ∧ okLong RR) = PP at *
    go_wp2_with fail
    go_loopw [6, 177] (fun v i wr => ∃ (k : Nat) (b : Bool), k ≤ txs.length ∧ i = .int .i64 k ∧ v = .bool b ∧ (b = true ↔ PP ∧ ∀ t ∈ txs.take k, okSt t) ∧ Below g w wr)
      (fun _ i _ => txs.length - (intOf i).toNat)
    case atStart => exact ⟨0, b7, Nat.zero_le _, rfl, rfl, ⟨fun h => ⟨Hb7.out.1 h, fun t ht => absurd ht (by simp)⟩, fun h => Hb7.out.2 h.1⟩, HW4.out⟩
    case round =>
      obtain ⟨k, b, hk, rfl, rfl, hs, hwr⟩ := hrel
      have HS := Lib.hid hs
      have HWr := Lib.hid hwr
      clear hs hwr c15
      by_cases hlt : k < txs.length
      · have i1 : (k : Int) < txs.length := by omega
        obtain ⟨ab, off, rfl, hab, hc⟩ := HA.out k hlt
        rw [HgE.out] at hab
        have y0 := (HWr.out.cell (p := ⟨ab, off + k * 4, none⟩) hab).trans (hc 0 _ rfl)
        have y1 := (HWr.out.cell (p := ⟨ab, off + k * 4 + 1, none⟩) hab).trans (hc 1 _ rfl)
        have y2 := (HWr.out.cell (p := ⟨ab, off + k * 4 + 2, none⟩) hab).trans (hc 2 _ rfl)
        have y3 := (HWr.out.cell (p := ⟨ab, off + k * 4 + 3, none⟩) hab).trans (hc 3 _ rfl)
        clear hc
        have hT := Lib.hid (show ∀ t, t ∈ txs.take (k + 1) ↔ (t ∈ txs.take k ∨ t = txs[k]) by
          intro t; rw [List.take_succ_eq_append_getElem hlt, List.mem_append, List.mem_singleton])
        generalize txs[k] = st at *
        obtain ⟨stx, sst, slast, snext⟩ := st
        simp only at y0 y1 y2 y3
        cases b
        all_goals
          go_wp2
          all_goals
            go_roundw
            case rel =>
              refine ⟨k + 1, _, by omega, by go_num, rfl, st_step HS.out hT.out ?_, HWr.out.alloc (by have := HWr.out.size; have := HgE.out; omega) _⟩
              unfold okSt
              simp only [Bool.false_eq_true, false_and, true_and, false_iff, iff_self, decide_eq_true_eq, eq_self]
              try omega
            case measure => simp [intOf]; omega
      · obtain rfl : k = txs.length := by omega
        have hS := HS.out
        rw [List.take_length, ← hPP] at hS
        have hfin : b = true ↔ recOk RR := by
          rw [hS, HR.out]
          exact Iff.rfl
        have HF := Lib.hid hfin
        clear hS hfin
        cases b
        · have HE := Lib.hid (recE_neg (r := RR) (fun h => nomatch (HF.out.2 h)))
          go_wp2
          go_ret
          exact ⟨ret_int HE.out.symm, by rw [HgE.out]; exact HWr.out⟩
        · have HE := Lib.hid (recE_pos (HF.out.1 rfl))
          go_wp2
          go_ret
          exact ⟨ret_int HE.out.symm, by rw [HgE.out]; exact HWr.out⟩
end Go.Proofs.Ytebickoieipjpaa
