/- Just what fits is put in: a slot of as many bytes as there is room for, and two for its length, fits, one more does not: for every page and every place; no condition. -/
import Derived.Test.YteokjmjfjdgmpaaCRoom4
section
namespace Go.Proofs.Yteokjmjfjdgmpaa.PRm
open Go.RowKit Go.Gi Go.GiRow Go.Proofs.Yteokjmjfjdgmpaa Go.Proofs.YteokjmjfjdgmpaaW.PrintWords
set_option maxRecDepth 20000
set_option linter.unusedSimpArgs false
set_option linter.unusedVariables false
theorem slotsN_ins (l : List ByteArray) (i : Nat) (s : ByteArray) : slotsN (insL l i s) = slotsN l + 2 + s.size := by
  have h := slotsN_append (l.take i) (s :: l.drop i)
  have h2 := slotsN_append (l.take i) (l.drop i)
  rw [List.take_append_drop] at h2
  rw [slotsN_cons] at h
  unfold insL
  omega
theorem slot_le {l : List ByteArray} {x : ByteArray} (h : x ∈ l) : x.size ≤ slotsN l := by
  obtain ⟨a, b, rfl⟩ := List.append_of_mem h
  have := slotsN_append a (x :: b)
  rw [slotsN_cons] at this
  omega
theorem spot_ok (a n : Int) (h0 : 0 ≤ n) (h1 : n < 64) (ha : -9223372036854775808 ≤ a ∧ a ≤ 9223372036854775807) :
    ∃ k : Nat, Int.tmod (wrap64 (wrap64 (Int.tmod a (wrap64 (n + 1)) + n) + 1)) (wrap64 (n + 1)) = k ∧ (k : Int) ≤ n := by
  have e1 := w64s (x := n + 1) (by omega) (by omega)
  rw [e1]
  have hl := Int.lt_tmod_of_pos a (show (0 : Int) < n + 1 by omega)
  have hu := Int.tmod_lt_of_pos a (show (0 : Int) < n + 1 by omega)
  generalize Int.tmod a (n + 1) = r at *
  rw [w64s (x := r + n) (by omega) (by omega), w64s (x := r + n + 1) (by omega) (by omega)]
  have h2 := Int.tmod_nonneg (n + 1) (show 0 ≤ r + n + 1 by omega)
  have h3 := Int.tmod_lt_of_pos (r + n + 1) (show (0 : Int) < n + 1 by omega)
  obtain ⟨k, hk⟩ := Int.eq_ofNat_of_zero_le h2
  exact ⟨k, hk, by omega⟩
theorem ap_ins (num lsn kind : Int) (head : ByteArray) (slots : List ByteArray) (i : Nat) (s : ByteArray) (l : Int) (hi : (i : Int) ≤ slots.length) (hn : slots.length < 64) (hs : s.size ≤ 512) (h64 : ∀ x ∈ slots, x.size ≤ 140737488350000) (hh : head.size ≤ 140737488350000) :
    page_Apply.f num lsn kind head slots 2 i s (⟨#[]⟩ : ByteArray) l = some (finR num l kind head (insL slots i s)) := by
  unfold page_Apply.f
  rw [if_pos ⟨by omega, h64, hh⟩]
  have hE : opEs 2 i s (⟨#[]⟩ : ByteArray) = 0 := (opE_pos (by
    have es : s.data.toList.length = s.size := by simp
    unfold opOk
    rw [es]
    refine ⟨hs, by simp, .inr (.inl ⟨rfl, by omega, by omega, by simp⟩)⟩)).symm
  have hS : stE kind head slots 2 i s (⟨#[]⟩ : ByteArray) = 0 := by
    unfold stE
    rw [if_pos rfl, if_neg (by omega), if_neg (by omega)]
  unfold apR
  rw [if_neg (by rw [hE]; simp), if_neg (by rw [hS]; simp), if_neg (by decide), if_pos rfl, Int.toNat_natCast]
theorem zeros_size (n : Nat) : (strOfNums (List.replicate n 0)).size = n := by
  unfold strOfNums
  simp [ByteArray.size]
theorem pageRoom_pure (num lsn kind : Int) (head : ByteArray) (slots : List ByteArray) (a : Int) (hb : 0 ≤ num ∧ num ≤ 4294967295 ∧ 0 ≤ lsn ∧ lsn ≤ 18446744073709551615) (hs : ∀ x ∈ slots, x.size ≤ 140737488351232)
    (ha : -9223372036854775808 ≤ a ∧ a ≤ 9223372036854775807) : ∃ k, girderlaw03_PageRoom.f k num lsn kind head slots a = some true := by
  refine ⟨0 + 1, ?_⟩
  unfold girderlaw03_PageRoom.f page_Encode.f girderlaw03_awake.f
  rw [if_pos ⟨hb.1, hb.2.1, hb.2.2.1, hb.2.2.2, hs⟩]
  simp only [Option.bind_some, if_true]
  have hj : girderlaw03_PageRoom.j0 (0 + 1) a true num lsn kind head slots = some true := by
    rw [girderlaw03_PageRoom.j0, if_pos rfl]
    unfold girderlaw03_awake.f
    rfl
  by_cases he : pgErr kind head slots = 0
  · rw [if_pos he]
    obtain ⟨k0, k1, k2, k3, k4⟩ := pgErr_zero.1 he
    by_cases hn : (slots.length : Int) ≥ 64
    · rw [show decide ((slots.length : Int) ≥ 64) = true by simpa using hn]
      exact hj
    · rw [show decide ((slots.length : Int) ≥ 64) = false by simpa using hn]
      have h64 : ∀ x ∈ slots, x.size ≤ 140737488350000 := fun x hx => by have := slot_le hx; omega
      obtain ⟨i, hi, hin⟩ := spot_ok a slots.length (by omega) (by omega) ha
      rw [girderlaw03_PageRoom.j0, if_neg (by decide), if_neg (by rw [w64s (by omega) (by omega)]; omega), hi]
      unfold page_Room.f
      rw [if_pos ⟨k3, hs, by omega⟩]
      simp only [Option.bind_some]
      obtain ⟨rm, hrm⟩ : ∃ r : Nat, (485 : Int) - head.size - slotsN slots = r := ⟨485 - head.size - slotsN slots, by omega⟩
      rw [hrm]
      by_cases h2 : (rm : Int) < 2
      · rw [if_pos h2]
        unfold page_Fits.f
        rw [ap_ins num lsn kind head slots i _ 0 hin (by omega) (by decide) h64 (by omega)]
        have hf : finR num 0 kind head (insL slots i ⟨#[]⟩) = (0, 0, 0, ⟨#[]⟩, [], 30) := by
          unfold finR
          rw [slotsN_ins, if_pos (by have : (ByteArray.mk #[]).size = 0 := rfl; omega)]
        rw [hf]
        rfl
      · rw [if_neg h2, w64s (by omega) (by omega), if_pos (by omega), if_pos (by omega)]
        have e1 : ((rm : Int) - 2).toNat = rm - 2 := by omega
        rw [e1]
        have hz := zeros_size (rm - 2)
        generalize strOfNums (List.replicate (rm - 2) 0) = S at *
        rw [ap_ins num lsn kind head slots i S 1 hin (by omega) (by omega) h64 (by omega), ap_ins num lsn kind head slots i (S ++ ⟨#[120]⟩) 1 hin (by omega) (by rw [ByteArray.size_append, hz]; show rm - 2 + 1 ≤ 512; omega) h64 (by omega)]
        have hf1 : finR num 1 kind head (insL slots i S) = (num, 1, kind, head, insL slots i S, 0) := by
          unfold finR
          rw [slotsN_ins, if_neg (by omega)]
        have hf2 : finR num 1 kind head (insL slots i (S ++ ⟨#[120]⟩)) = (0, 0, 0, ⟨#[]⟩, [], 30) := by
          unfold finR
          rw [slotsN_ins, if_pos (by rw [ByteArray.size_append, hz]; have : (ByteArray.mk #[120]).size = 1 := rfl; omega)]
        rw [hf1, hf2]
        simp only [Option.bind_some, if_true]
        rw [if_pos (by omega), if_pos ⟨by rw [insL_len _ _ _ (by omega)]; omega, fun x hx => by rcases mem_ins hx with rfl | hx; omega; have := slot_le hx; omega, by omega⟩]
        simp only [Option.bind_some]
        rw [slotsN_ins, hz, if_pos (by omega)]
        rfl
  · rw [if_neg he]
    exact hj
end Go.Proofs.Yteokjmjfjdgmpaa.PRm
end
section
namespace Go.Proofs.Yteokjmjfjdgmpaa.pageRoomRow
open Go.ChangeShapes Go.WideShapes Go.ChangeAt Go.RowKit Go.GiRow
open Go.ChangeMaps (open_string shut_string)
theorem own : ownKnob Try.prog.godebug = none := by kernel_rfl
theorem laid : laidOutB Try.prog = true := by kernel_rfl
set_option maxRecDepth 100000 in
set_option maxHeartbeats 6400000 in
theorem lifted (os : Os) (started : os.Started) (H : Type) (enc : TypeId × Value → H) :
    ReturnsInHanded {} Try.checked os 6 .any (Rows.pageRoomSpec.pre6 enc Try.prog Try.f6 Rows.pageRoomRow.domain false) (Rows.pageRoomSpec.post enc Try.prog Try.f6 false true false false) := by
  refine returnsInHanded_of_change_sized (C := Try.checked) own started (by kernel_rfl) Try.func6
    (ChangeSpec.witness6 (enc := enc) (C := Try.checked) false ⟨#[], #[.agg #[.int .u32 0, .int .u64 0, .int .i64 0, .string ByteArray.empty, .slice none 0 0], .int .i64 0], []⟩ 8 (by kernel_rfl) (by kernel_rfl) (by kernel_rfl) (by kernel_rfl)) ?_
  intro W base args ds gs before hval0 hW _ hsz0 _
  have hsz : (DataW.weightsEach Try.prog (Try.f6.params.toList ++ Rows.pageRoomSpec.plain.varTypes Try.prog) (ds ++ gs)).all (· ≤ reachBytes) = true := hsz0
  have hval : ∀ (j : Nat) t v, Try.f6.params[j]? = some t → args[j]? = some v → Value.okWide Try.prog W .any base t v := hval0
  have hW' := hW
  obtain ⟨p, q, hA0, hV, rfl, _, _⟩ := hW
  have hA : DataW.TrodAll enc Try.prog W 0 (fun _ => true) true Try.f6.params.toList args.toList ds p := hA0
  rw [Try.params6] at hA hval hsz
  obtain ⟨v0, vs0, d0, ds0, p0, q0, hargs, rfl, rfl, h0, r0⟩ := trodAll_cons hA
  obtain ⟨v1, vs1, d1, ds1, p1, q1, rfl, rfl, rfl, h1, r1⟩ := trodAll_cons r0
  obtain ⟨rfl, rfl, rfl⟩ := trodAll_nil r1
  obtain rfl : args = #[v0, v1] := by cases args; simp_all
  obtain ⟨rfl, rfl⟩ := trodVars_none hV
  obtain ⟨x0, A0, c0, rfl, hc0, hr0, b0, k0, g0, n0, s0⟩ := sheet_open (hval 0 28 v0 rfl rfl) h0 (OpenK.light_each hsz 0 _ _ rfl rfl)
  obtain ⟨a1, rfl, rfl, rfl, w1⟩ := open_int Try.underlying3 (hval 1 3 v1 rfl rfl) h1
  have wb1 := bounds_i64 w1
  obtain ⟨k, hk⟩ := PRm.pageRoom_pure x0.num x0.lsn x0.kind x0.head x0.slots a1 b0 s0 wb1
  refine (PRm.girderlaw03_PageRoom.calls k x0.num x0.lsn x0.kind x0.head A0 c0 x0.slots a1 true W hr0 hc0 hk).mono fun e W' ⟨he, bel⟩ => ?_
  subst he
  refine ⟨_, rfl, law_post (tb := 4) laid (by kernel_rfl) rfl Try.underlying4 rfl (fun ds hds => ?_) hW' bel⟩
  match ds, hds with
  | [_, _], _ => rfl
theorem over : Rows.pageRoomRow.holds Try.pinned (OpenSpec.ofChange Rows.pageRoomSpec) :=
  OpenClaim.holds_of_wide 6 Try.f6 rfl rfl rfl rfl rfl rfl rfl ⟨rfl, rfl, rfl, rfl, rfl⟩ rfl rfl rfl rfl rfl (by kernel_rfl) Try.func6 (by kernel_rfl)
    (of_decide_eq_true (by kernel_rfl)) (by unfold Func.isWrapper; first | (rw [if_pos (by decide +kernel)]; kernel_rfl) | (rw [if_neg (by decide +kernel)]; exact ⟨rfl, rfl⟩))
    (fun os started H enc _ => lifted os started H enc)
end Go.Proofs.Yteokjmjfjdgmpaa.pageRoomRow
namespace Go.Proofs.Yteokjmjfjdgmpaa
/-- The row, under a short name, for the claim. -/
theorem pageRoom_holds : Rows.PageRoomSaid := pageRoomRow.over
#print axioms pageRoom_holds
end Go.Proofs.Yteokjmjfjdgmpaa
end
