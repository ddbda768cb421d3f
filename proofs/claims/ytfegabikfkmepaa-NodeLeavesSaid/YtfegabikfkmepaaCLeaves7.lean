/- Items are put into a leaf in their order, turned and taken out; the slots' bytes are those of the document: for every head and every list of acts; no condition. -/
import Derived.Test.YtfegabikfkmepaaCLeaves6
section
namespace Go.Proofs.Ytfegabikfkmepaa.nodeLeavesRow
open Go.ChangeShapes Go.WideShapes Go.ChangeAt Go.RowKit Go.Gi Go.GiRow Go.Proofs.YtfegabikfkmepaaW.PrintWords OpenK PNe
set_option maxRecDepth 100000
theorem own : ownKnob Try.prog.godebug = none := by kernel_rfl
theorem laid : laidOutB Try.prog = true := by kernel_rfl
def kEt : Kd (ByteArray × Int × Int) := Kd.pair Kd.string (Kd.pair (Kd.int .u32) (Kd.int .i64))
def kAc : Kd AcN := Kd.iso (Kd.pair (Kd.int .i64) (Kd.pair (Kd.int .i64) (Kd.pair kEt Kd.bool))) (fun x : AcN => (x.kind, x.n, (x.key, x.page, x.slot), x.live))
theorem opens_rid : Opens Try.prog 41 (Kd.pair (Kd.int .u32) (Kd.int .i64)) (fun x => (Lit.int .u32 x.1).wf = true ∧ (Lit.int .i64 x.2).wf = true) :=
  opens_struct (f := fun x => x) Try.underlying41 (opens_cons (opens_int Try.underlying23) rfl (by kernel_rfl) (opens_one (opens_int Try.underlying3) rfl (by kernel_rfl))) (by kernel_rfl) (fun a => a) (fun _ => rfl)
theorem opens_en : Opens Try.prog 43 kEt (fun x => x.1.size ≤ 140737488351232 ∧ (Lit.int .u32 x.2.1).wf = true ∧ (Lit.int .i64 x.2.2).wf = true) :=
  opens_struct (f := fun x => x) Try.underlying43 (opens_cons (opens_string Try.underlying9) rfl (by kernel_rfl) (opens_one opens_rid rfl (by kernel_rfl))) (by kernel_rfl) (fun a => a) (fun _ => rfl)
theorem opens_ac : Opens Try.prog 53 kAc (fun x => (Lit.int .i64 x.kind).wf = true ∧ (Lit.int .i64 x.n).wf = true ∧ (x.key.size ≤ 140737488351232 ∧ (Lit.int .u32 x.page).wf = true ∧ (Lit.int .i64 x.slot).wf = true) ∧ True) :=
  opens_struct Try.underlying53 (opens_cons (opens_int Try.underlying3) rfl (by kernel_rfl) (opens_cons (opens_int Try.underlying3) rfl (by kernel_rfl) (opens_cons opens_en rfl (by kernel_rfl) (opens_one (opens_bool Try.underlying4) rfl (by kernel_rfl))))) (by kernel_rfl) (fun a => ⟨a.1, a.2.1, a.2.2.1.1, a.2.2.1.2.1, a.2.2.1.2.2, a.2.2.2⟩) (fun _ => rfl)
theorem opens_acs : Opens Try.prog 49 (Kd.slice 53 kAc) (fun l => l.length * 56 ≤ 140737488351232 ∧ ∀ x ∈ l, (Lit.int .i64 x.kind).wf = true ∧ (Lit.int .i64 x.n).wf = true ∧ (x.key.size ≤ 140737488351232 ∧ (Lit.int .u32 x.page).wf = true ∧ (Lit.int .i64 x.slot).wf = true) ∧ True) :=
  opens_slice Try.underlying49 (by kernel_rfl) (by decide) (by kernel_rfl) opens_ac
theorem ac_cells (w : World) (a : AcN) (cs : List Value) (h : kAc.K w a cs) : cs = AcN.cells a := by
  obtain ⟨c0, c1, rfl, h0, ⟨d0, d1, rfl, h1, ⟨e0, e1, rfl, ⟨f0, f1, rfl, h3, ⟨g0, g1, rfl, h4, h5⟩⟩, h6⟩⟩⟩ := h
  have h0' : c0 = [Value.int .i64 a.kind] := h0
  have h1' : d0 = [Value.int .i64 a.n] := h1
  have h3' : f0 = [Value.string a.key] := h3
  have h4' : g0 = [Value.int .u32 a.page] := h4
  have h5' : g1 = [Value.int .i64 a.slot] := h5
  have h6' : e1 = [Value.bool a.live] := h6
  rw [h0', h1', h3', h4', h5', h6']
  rfl
set_option maxRecDepth 100000 in
set_option maxHeartbeats 6400000 in
theorem lifted (os : Os) (started : os.Started) (H : Type) (enc : TypeId × Value → H) :
    ReturnsInHanded {} Try.checked os 5 .any (Rows.nodeLeavesSpec.pre6 enc Try.prog Try.f5 Rows.nodeLeavesRow.domain false) (Rows.nodeLeavesSpec.post enc Try.prog Try.f5 false true false false) := by
  refine returnsInHanded_of_change_sized (C := Try.checked) own started (by kernel_rfl) Try.func5
    (ChangeSpec.witness6 (enc := enc) (C := Try.checked) false ⟨#[], #[.int .u32 0, .slice none 0 0], []⟩ 8 (by kernel_rfl) (by kernel_rfl) (by kernel_rfl) (by kernel_rfl)) ?_
  intro W base args ds gs before hval0 hW _ hsz0 _
  have hsz : (DataW.weightsEach Try.prog (Try.f5.params.toList ++ Rows.nodeLeavesSpec.plain.varTypes Try.prog) (ds ++ gs)).all (· ≤ reachBytes) = true := hsz0
  have hval : ∀ (j : Nat) t v, Try.f5.params[j]? = some t → args[j]? = some v → Value.okWide Try.prog W .any base t v := hval0
  have hW' := hW
  obtain ⟨p, q, hA0, hV, rfl, _, _⟩ := hW
  have hA : DataW.TrodAll enc Try.prog W 0 (fun _ => true) true Try.f5.params.toList args.toList ds p := hA0
  rw [Try.params5] at hA hval hsz
  obtain ⟨v0, vs0, d0, ds0, p0, q0, hargs, rfl, rfl, h0, r0⟩ := trodAll_cons hA
  obtain ⟨v1, vs1, d1, ds1, p1, q1, rfl, rfl, rfl, h1, r1⟩ := trodAll_cons r0
  obtain ⟨rfl, rfl, rfl⟩ := trodAll_nil r1
  obtain rfl : args = #[v0, v1] := by cases args; simp_all
  obtain ⟨rfl, rfl⟩ := trodVars_none hV
  obtain ⟨a0, rfl, rfl, rfl, w0⟩ := open_int Try.underlying22 (hval 0 22 v0 rfl rfl) h0
  have b0 := bounds_u32 w0
  obtain ⟨nx, rfl⟩ := Int.eq_ofNat_of_zero_le b0.1
  obtain ⟨a, len, cap, hv⟩ := okWide_slice Try.underlying49 (hval 1 49 v1 rfl rfl)
  subst hv
  obtain ⟨fuel, hf⟩ := h1
  obtain ⟨l, ⟨A, c, e, hc, hC⟩, hn, hB⟩ := opens_acs H enc W _ _ fuel _ _ hf (OpenK.light_each hsz 1 _ _ rfl rfl)
  simp only [Value.cells, List.cons.injEq, Value.slice.injEq, and_true] at e
  obtain ⟨rfl, rfl, rfl⟩ := e
  have hR : RdRows AcN.cells 6 W a l := rd_of_Cn (k := kAc) (of := fun x => x) (cells := AcN.cells) rfl (by decide) ac_cells (fun _ => rfl) (by rw [List.map_id']; exact hC)
  refine (nodeLeaves_any nx (by omega) a cap l W hR (fun x hx => by have h_ := (hB x hx).2.2.1.2.1; exact bounds_u32 h_) (by omega)).mono fun e W' ⟨he, bel⟩ => ?_
  subst he
  refine ⟨_, rfl, law_post (tb := 4) laid (by kernel_rfl) rfl Try.underlying4 rfl (fun ds hds => ?_) hW' bel⟩
  match ds, hds with
  | [_, _], _ => rfl
theorem over : Rows.nodeLeavesRow.holds Try.pinned (OpenSpec.ofChange Rows.nodeLeavesSpec) :=
  OpenClaim.holds_of_wide 5 Try.f5 rfl rfl rfl rfl rfl rfl rfl ⟨rfl, rfl, rfl, rfl, rfl⟩ rfl rfl rfl rfl rfl (by kernel_rfl) Try.func5 (by kernel_rfl)
    (of_decide_eq_true (by kernel_rfl)) (by unfold Func.isWrapper; first | (rw [if_pos (by decide +kernel)]; kernel_rfl) | (rw [if_neg (by decide +kernel)]; exact ⟨rfl, rfl⟩))
    (fun os started H enc _ => lifted os started H enc)
end Go.Proofs.Ytfegabikfkmepaa.nodeLeavesRow
namespace Go.Proofs.Ytfegabikfkmepaa
/-- The row, under a short name, for the claim. -/
theorem nodeLeaves_holds : Rows.NodeLeavesSaid := nodeLeavesRow.over
#print axioms nodeLeaves_holds
end Go.Proofs.Ytfegabikfkmepaa
end
