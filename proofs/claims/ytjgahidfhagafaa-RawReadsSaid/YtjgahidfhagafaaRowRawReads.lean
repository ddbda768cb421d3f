/- A reader of the program and one of the reference go through any bytes by any acts alike, and keep the first error: for every string and every list of acts; no condition. -/
import Derived.Test.YtjgahidfhagafaaRows
import Derived.Test.YtjgahidfhagafaaRowW
import Derived.Test.YtjgahidfhagafaaRowActs
namespace Go.Proofs.Ytjgahidfhagafaa.rawReadsRow
open Go.ChangeShapes Go.WideShapes Go.ChangeAt Go.RowKit Go.GiRow
open Go.ChangeMaps (open_string shut_string)
theorem own : ownKnob Try.prog.godebug = none := by kernel_rfl
theorem laid : laidOutB Try.prog = true := by kernel_rfl
set_option maxRecDepth 100000 in
theorem lifted (os : Os) (started : os.Started) (H : Type) (enc : TypeId × Value → H) :
    ReturnsInHanded {} Try.checked os 6 .any (Rows.rawReadsSpec.pre6 enc Try.prog Try.f6 Rows.rawReadsRow.domain false) (Rows.rawReadsSpec.post enc Try.prog Try.f6 false true false false) := by
  refine returnsInHanded_of_change_sized (C := Try.checked) own started (by kernel_rfl) Try.func6
    (ChangeSpec.witness6 (enc := enc) (C := Try.checked) false ⟨#[], #[.string ByteArray.empty, .slice none 0 0], []⟩ 8 (by kernel_rfl) (by kernel_rfl) (by kernel_rfl) (by kernel_rfl)) ?_
  intro W base args ds gs before hval0 hW _ hsz0 _
  have hsz : (DataW.weightsEach Try.prog (Try.f6.params.toList ++ Rows.rawReadsSpec.plain.varTypes Try.prog) (ds ++ gs)).all (· ≤ reachBytes) = true := hsz0
  have hval : ∀ (j : Nat) t v, Try.f6.params[j]? = some t → args[j]? = some v → Value.okWide Try.prog W .any base t v := hval0
  have hW' := hW
  obtain ⟨p, q, hA0, hV, rfl, _, _⟩ := hW
  have hA : DataW.TrodAll enc Try.prog W 0 (fun _ => true) true Try.f6.params.toList args.toList ds p := hA0
  rw [Try.params6] at hA hval hsz
  obtain ⟨v0, vs0, d0, ds0, p0, q0, hargs, rfl, rfl, h0, r0⟩ := trodAll_cons hA
  obtain ⟨v1, vs1, d1, ds1, p1, q1, rfl, rfl, rfl, h1, r1⟩ := trodAll_cons r0
  obtain ⟨rfl, rfl, rfl⟩ := trodAll_nil r1
  obtain rfl : args = #[v0, v1] := by cases args; simp_all
  obtain ⟨rfl, rfl⟩ := trodVars_none hV
  obtain ⟨a0, rfl, rfl, rfl, y0⟩ := open_string Try.underlying9 (hval 0 9 v0 rfl rfl) h0
  have w0 : a0.size ≤ 140737488351232 := by
    have z := sized_string hsz (j := 0) (t := 9) rfl rfl
    rw [Array.length_toList] at z
    exact z
  obtain ⟨A1, c1, l1, rfl, hr1, hd1⟩ := acts_open (hval 1 40 v1 rfl rfl) h1
  have w1 : l1.length * 40 ≤ 140737488351232 := by
    rcases hd1 with rfl | ⟨es, sp, rfl, hlen, _⟩
    · simp
    · have z := sized_slice hsz (j := 1) (t := 40) (e := 48) rfl rfl Try.underlying40
      have hb : Try.prog.bytesOf 48 = 40 := by kernel_rfl
      rw [hb, hlen] at z
      have : reachBytes = 140737488351232 := by decide
      omega
  refine (rawReads_any a0 A1 c1 l1 W w0 (rdActs_of hr1) w1).mono fun e W' ⟨he, bel⟩ => ?_
  subst he
  refine ⟨_, rfl, law_post (tb := 4) laid (by kernel_rfl) rfl Try.underlying4 rfl (fun ds hds => ?_) hW' bel⟩
  match ds, hds with
  | [_, _], _ => rfl
theorem over : Rows.rawReadsRow.holds Try.pinned (OpenSpec.ofChange Rows.rawReadsSpec) :=
  OpenClaim.holds_of_wide 6 Try.f6 rfl rfl rfl rfl rfl rfl rfl ⟨rfl, rfl, rfl, rfl, rfl⟩ rfl rfl rfl rfl rfl (by kernel_rfl) Try.func6 (by kernel_rfl)
    (of_decide_eq_true (by kernel_rfl)) (by unfold Func.isWrapper; first | (rw [if_pos (by decide +kernel)]; kernel_rfl) | (rw [if_neg (by decide +kernel)]; exact ⟨rfl, rfl⟩))
    (fun os started H enc _ => lifted os started H enc)
end Go.Proofs.Ytjgahidfhagafaa.rawReadsRow
namespace Go.Proofs.Ytjgahidfhagafaa
/-- The row, under a short name, for the claim. -/
theorem rawReads_holds : Rows.RawReadsSaid := rawReadsRow.over
#print axioms rawReads_holds
end Go.Proofs.Ytjgahidfhagafaa
