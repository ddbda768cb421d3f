/- What is no map has no pages, and no changes: for every page and every number; no condition. -/
import Derived.Test.YtdannjjipcmhdaaCNone5
section
namespace Go.Proofs.Ytdannjjipcmhdaa.PSp
open Go.RowKit Go.Gi Go.GiRow Go.Proofs.Ytdannjjipcmhdaa Go.Proofs.YtdannjjipcmhdaaW.PrintWords Go.Proofs.YtdannjjipcmhdaaW.PrintMore
set_option maxRecDepth 20000
set_option linter.unusedSimpArgs false
theorem none_j0 (num lsn kind : Int) (head : ByteArray) (slots : List ByteArray) (n : Int) (hn : 0 ≤ n ∧ n ≤ 4294967295) : girderlaw07_SpaceNone.j0 3000 n (isB kind slots) num lsn kind head slots = some true := by
  rw [girderlaw07_SpaceNone.j0, awake_k (by omega), Option.bind_some, if_pos rfl, is_f, Option.bind_some]
  have hne : (isB kind slots != isB kind slots) = false := by simp
  rw [hne, girderlaw07_SpaceNone.j1, if_neg (by simp)]
  cases hb : isB kind slots with
  | true =>
    rw [take_in num lsn kind head slots hb 64 _ (by omega), Option.bind_some]
    have hg : ∃ r, space_Give.f num lsn kind head slots n = some r := by
      by_cases ho : n < 1 ∨ 2048 < n
      · exact ⟨_, give_free num lsn kind head slots hb n (taken_out num lsn kind head slots hb n ho)⟩
      · obtain ⟨m, rfl⟩ := Int.eq_ofNat_of_zero_le (show 0 ≤ n by omega)
        cases ht : bitv (rdOf ByteArray.empty slots 0) m with
        | true => exact ⟨_, give_in num lsn kind head slots hb m (by omega) (by omega) ht⟩
        | false => exact ⟨_, give_free num lsn kind head slots hb m (by rw [taken_in num lsn kind head slots hb m (by omega) (by omega), ht])⟩
    have hc : ∃ r, space_Claim.f num lsn kind head slots n = some r := by
      by_cases ho : n < 1 ∨ 2048 < n
      · exact ⟨_, claim_out num lsn kind head slots hb n ho⟩
      · obtain ⟨m, rfl⟩ := Int.eq_ofNat_of_zero_le (show 0 ≤ n by omega)
        cases ht : bitv (rdOf ByteArray.empty slots 0) m with
        | true => exact ⟨_, claim_taken num lsn kind head slots hb m (by omega) (by omega) ht⟩
        | false => exact ⟨_, claim_in num lsn kind head slots hb m (by omega) (by omega) ht⟩
    obtain ⟨r, hr⟩ := hg
    obtain ⟨q, hq⟩ := hc
    rw [hr, Option.bind_some, hq, Option.bind_some, if_pos rfl]
    unfold takeR
    split
    · rw [if_pos rfl]
    · rfl
  | false =>
    have ha : space_All.f 2998 num lsn kind head slots = some [] := all_none num lsn kind head slots hb 2048 1 2998 (by omega) (by omega)
    rw [take_none num lsn kind head slots hb, Option.bind_some, give_none num lsn kind head slots hb, Option.bind_some, claim_none num lsn kind head slots hb, Option.bind_some, if_neg (by simp), if_pos rfl, if_pos rfl, if_pos rfl, if_pos rfl, taken_none num lsn kind head slots hb, Option.bind_some, if_neg (by simp), ha, Option.bind_some, if_pos (by simp)]
    unfold space_Count.f
    rw [ha]
    rfl
theorem none_pure (num lsn kind : Int) (head : ByteArray) (slots : List ByteArray) (n : Int) (hn : 0 ≤ n ∧ n ≤ 4294967295) : ∃ k, girderlaw07_SpaceNone.f k num lsn kind head slots n = some true := by
  refine ⟨3000, ?_⟩
  have h := none_j0 num lsn kind head slots n hn
  unfold girderlaw07_SpaceNone.f
  by_cases h1 : kind = 1
  · rw [if_pos h1]
    by_cases h2 : slots.length = 1
    · rw [if_pos (by omega), if_pos (by omega)]
      have e : (((rdOf ByteArray.empty slots 0).size : Int) == 256) = isB kind slots := by
        unfold isB
        rw [decide_eq_true h1, decide_eq_true h2, Bool.eq_iff_iff]
        simp
        omega
      rw [e]
      exact h
    · rw [if_neg (by omega)]
      have e : isB kind slots = false := by simp [isB, h2]
      rw [e] at h
      exact h
  · rw [if_neg h1]
    have e : isB kind slots = false := by simp [isB, h1]
    rw [e] at h
    exact h
end Go.Proofs.Ytdannjjipcmhdaa.PSp
end
section
namespace Go.Proofs.Ytdannjjipcmhdaa.spaceNoneRow
open Go.ChangeShapes Go.WideShapes Go.ChangeAt Go.RowKit Go.GiRow
open Go.ChangeMaps (open_string shut_string)
theorem own : ownKnob Try.prog.godebug = none := by kernel_rfl
theorem laid : laidOutB Try.prog = true := by kernel_rfl
set_option maxRecDepth 100000 in
set_option maxHeartbeats 6400000 in
theorem lifted (os : Os) (started : os.Started) (H : Type) (enc : TypeId × Value → H) :
    ReturnsInHanded {} Try.checked os 4 .any (Rows.spaceNoneSpec.pre6 enc Try.prog Try.f4 Rows.spaceNoneRow.domain false) (Rows.spaceNoneSpec.post enc Try.prog Try.f4 false true false false) := by
  refine returnsInHanded_of_change_sized (C := Try.checked) own started (by kernel_rfl) Try.func4
    (ChangeSpec.witness6 (enc := enc) (C := Try.checked) false ⟨#[], #[.agg #[.int .u32 0, .int .u64 0, .int .i64 0, .string ByteArray.empty, .slice none 0 0], .int .u32 0], []⟩ 8 (by kernel_rfl) (by kernel_rfl) (by kernel_rfl) (by kernel_rfl)) ?_
  intro W base args ds gs before hval0 hW _ hsz0 _
  have hsz : (DataW.weightsEach Try.prog (Try.f4.params.toList ++ Rows.spaceNoneSpec.plain.varTypes Try.prog) (ds ++ gs)).all (· ≤ reachBytes) = true := hsz0
  have hval : ∀ (j : Nat) t v, Try.f4.params[j]? = some t → args[j]? = some v → Value.okWide Try.prog W .any base t v := hval0
  have hW' := hW
  obtain ⟨p, q, hA0, hV, rfl, _, _⟩ := hW
  have hA : DataW.TrodAll enc Try.prog W 0 (fun _ => true) true Try.f4.params.toList args.toList ds p := hA0
  rw [Try.params4] at hA hval hsz
  obtain ⟨v0, vs0, d0, ds0, p0, q0, hargs, rfl, rfl, h0, r0⟩ := trodAll_cons hA
  obtain ⟨v1, vs1, d1, ds1, p1, q1, rfl, rfl, rfl, h1, r1⟩ := trodAll_cons r0
  obtain ⟨rfl, rfl, rfl⟩ := trodAll_nil r1
  obtain rfl : args = #[v0, v1] := by cases args; simp_all
  obtain ⟨rfl, rfl⟩ := trodVars_none hV
  obtain ⟨x0, A0, c0, rfl, hc0, hr0, b0, k0, g0, n0, s0⟩ := sheet_open (hval 0 29 v0 rfl rfl) h0 (OpenK.light_each hsz 0 _ _ rfl rfl)
  obtain ⟨a1, rfl, rfl, rfl, w1⟩ := open_int Try.underlying23 (hval 1 23 v1 rfl rfl) h1
  have wb1 := bounds_u32 w1
  obtain ⟨k, hk⟩ := PSp.none_pure x0.num x0.lsn x0.kind x0.head x0.slots a1 wb1
  refine (PSp.girderlaw07_SpaceNone.calls k x0.num x0.lsn x0.kind x0.head A0 c0 x0.slots a1 true W hr0 hc0 hk).mono fun e W' ⟨he, bel⟩ => ?_
  subst he
  refine ⟨_, rfl, law_post (tb := 4) laid (by kernel_rfl) rfl Try.underlying4 rfl (fun ds hds => ?_) hW' bel⟩
  match ds, hds with
  | [_, _], _ => rfl
theorem over : Rows.spaceNoneRow.holds Try.pinned (OpenSpec.ofChange Rows.spaceNoneSpec) :=
  OpenClaim.holds_of_wide 4 Try.f4 rfl rfl rfl rfl rfl rfl rfl ⟨rfl, rfl, rfl, rfl, rfl⟩ rfl rfl rfl rfl rfl (by kernel_rfl) Try.func4 (by kernel_rfl)
    (of_decide_eq_true (by kernel_rfl)) (by unfold Func.isWrapper; first | (rw [if_pos (by decide +kernel)]; kernel_rfl) | (rw [if_neg (by decide +kernel)]; exact ⟨rfl, rfl⟩))
    (fun os started H enc _ => lifted os started H enc)
end Go.Proofs.Ytdannjjipcmhdaa.spaceNoneRow
namespace Go.Proofs.Ytdannjjipcmhdaa
/-- The row, under a short name, for the claim. -/
theorem spaceNone_holds : Rows.SpaceNoneSaid := spaceNoneRow.over
#print axioms spaceNone_holds
end Go.Proofs.Ytdannjjipcmhdaa
end
