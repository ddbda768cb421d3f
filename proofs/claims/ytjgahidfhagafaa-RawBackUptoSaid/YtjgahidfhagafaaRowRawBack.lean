/- What a writer put a reader takes, one thing behind the other: for every list of acts that is together of bulk at most 1048576. -/
import Derived.Test.YtjgahidfhagafaaRows
import Derived.Test.YtjgahidfhagafaaRowW
import Derived.JoinedCond
import Derived.Deep.CondSized
import Derived.Test.YtjgahidfhagafaaBulk
import Derived.Test.YtjgahidfhagafaaRowActsB
namespace Go.Proofs.Ytjgahidfhagafaa.rawBackRow
open Go.ChangeShapes Go.WideShapes Go.ChangeAt Go.RowKit Go.GiRow
open Go.ChangeMaps (open_string shut_string)
theorem own : ownKnob Try.prog.godebug = none := by kernel_rfl
theorem laid : laidOutB Try.prog = true := by kernel_rfl
set_option maxRecDepth 100000 in
theorem lifted (os : Os) (started : os.Started) (H : Type) (enc : TypeId × Value → H) (F : Stop.Interp) :
    ReturnsInHanded {} Try.checked os 7 .any ((Rows.OpenSpec.upto Rows.rawBackSpec).pre6 enc Try.prog Try.f7 Rows.rawBackUptoRow.domain false) (((Rows.OpenSpec.upto Rows.rawBackSpec).at F).post enc Try.prog Try.f7 false true false false) := by
  refine returnsInHanded_of_cond_sized (C := Try.checked) (s := Rows.OpenSpec.upto Rows.rawBackSpec) (k := Rows.uptoSmall) rfl own started (by kernel_rfl) Try.func7
    (OpenSpec.witness (enc := enc) (C := Try.checked) (s := Rows.OpenSpec.upto Rows.rawBackSpec) (k := Rows.uptoSmall) rfl false ⟨#[], #[.slice none 0 0], []⟩ 8 (by kernel_rfl) (by kernel_rfl) (by kernel_rfl)
      (x := ([.nil], [], [])) (by kernel_rfl) rfl (by kernel_rfl)) ?_
  intro W base args ds gs before hval0 hW _ hk hsz0 _
  have hsz : (DataW.weightsEach Try.prog (Try.f7.params.toList ++ Rows.rawBackSpec.plain.varTypes Try.prog) (ds ++ gs)).all (· ≤ reachBytes) = true := hsz0
  have hval : ∀ (j : Nat) t v, Try.f7.params[j]? = some t → args[j]? = some v → Value.okWide Try.prog W .any base t v := hval0
  have hW' := hW
  obtain ⟨p, q, hA0, hV, rfl, _, _⟩ := hW
  have hA : DataW.TrodAll enc Try.prog W 0 (fun _ => true) true Try.f7.params.toList args.toList ds p := hA0
  rw [Try.params7] at hA hval hsz
  obtain ⟨v0, vs0, d0, ds0, p0, q0, hargs, rfl, rfl, h0, r0⟩ := trodAll_cons hA
  obtain ⟨rfl, rfl, rfl⟩ := trodAll_nil r0
  obtain rfl : args = #[v0] := by cases args; simp_all
  obtain ⟨rfl, rfl⟩ := trodVars_none hV
  simp only [List.append_nil] at hk
  obtain ⟨A0, c0, l0, rfl, hr0, hd0⟩ := acts_open (hval 0 40 v0 rfl rfl) h0
  have w0 : l0.length * 40 ≤ 140737488351232 := by
    rcases hd0 with rfl | ⟨es, sp, rfl, hlen, _⟩
    · simp
    · have z := sized_slice hsz (j := 0) (t := 40) (e := 48) rfl rfl Try.underlying40
      have hb : Try.prog.bytesOf 48 = 40 := by kernel_rfl
      rw [hb, hlen] at z
      have : reachBytes = 140737488351232 := by decide
      omega
  obtain ⟨hx, hco⟩ := acts_cost hk hd0
  refine (rawBack_any A0 c0 l0 W (rdActs_of hr0) hx hco w0).mono fun e W' ⟨he, bel⟩ => ?_
  subst he
  refine ⟨_, rfl, law_post (tb := 4) laid (by kernel_rfl) rfl Try.underlying4 rfl (fun ds hds => ?_) hW' bel⟩
  match ds, hds with
  | [_], _ => rfl
theorem over : Rows.rawBackUptoRow.holds Try.pinned (Rows.OpenSpec.upto Rows.rawBackSpec) :=
  OpenClaim.holds_of_cond 7 Try.f7 rfl rfl rfl rfl rfl rfl rfl ⟨rfl, rfl, rfl, rfl, rfl⟩ rfl rfl rfl rfl rfl (by kernel_rfl) Try.func7 (by kernel_rfl)
    (of_decide_eq_true (by kernel_rfl)) (by unfold Func.isWrapper; first | (rw [if_pos (by decide +kernel)]; kernel_rfl) | (rw [if_neg (by decide +kernel)]; exact ⟨rfl, rfl⟩))
    (fun os started H enc _ F => lifted os started H enc F)
end Go.Proofs.Ytjgahidfhagafaa.rawBackRow
namespace Go.Proofs.Ytjgahidfhagafaa
/-- The row, under a short name, for the claim. -/
theorem rawBack_holds : Rows.RawBackUptoSaid := rawBackRow.over
#print axioms rawBack_holds
end Go.Proofs.Ytjgahidfhagafaa
