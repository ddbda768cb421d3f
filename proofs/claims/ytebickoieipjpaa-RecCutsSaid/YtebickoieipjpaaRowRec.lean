/- A record that came in, opened. -/
import Derived.Test.YtebickoieipjpaaRowT
import Derived.Test.YtebickoieipjpaaRecEnc
namespace Go.Proofs.Ytebickoieipjpaa
open Go.ChangeShapes Go.WideShapes Go.ChangeAt Go.RowKit Go.GiRow Go.Gi
set_option maxRecDepth 20000
set_option linter.unusedSimpArgs false
set_option linter.unusedVariables false
variable {H : Type} {enc : TypeId × Value → H}
def StW (t : StR) : Prop := (0 ≤ t.last ∧ t.last ≤ 18446744073709551615) ∧ 0 ≤ t.next ∧ t.next ≤ 18446744073709551615
def DiW (t : DiR) : Prop := (0 ≤ t.page ∧ t.page ≤ 4294967295) ∧ 0 ≤ t.lsn ∧ t.lsn ≤ 18446744073709551615
theorem st_open {W : World} {spare : Nat → Bool} {held : Bool} {fuel : Nat} {cs : List Value} {x : DataW H × List MemPlace}
    (h : DataW.trod enc Try.prog W 0 spare held fuel 70 cs = some x) : ∃ a : StR, cs = a.cells ∧ StW a := by
  have ci : Try.prog.cellsOf 3 = 1 := by kernel_rfl
  have cl : Try.prog.cellsOf 23 = 1 := by kernel_rfl
  have c4 : Try.prog.cellsOf 70 = 4 := by kernel_rfl
  obtain ⟨xs, m, _, hx, hl, hxl, hf⟩ := DataW.trod_struct Try.underlying70 h
  rw [c4] at hl
  have f0 := hf 0 _ rfl
  have f1 := hf 1 _ rfl
  have f2 := hf 2 _ rfl
  have f3 := hf 3 _ rfl
  match cs, hl with
  | [v0, v1, v2, v3], _ =>
    match xs, hxl with
    | [x0, x1, x2, x3], _ =>
      simp [ci, cl] at f0 f1 f2 f3
      obtain ⟨a0, e0, rfl, w0⟩ := DataW.trod_int Try.underlying3 f0
      obtain ⟨a1, e1, rfl, w1⟩ := DataW.trod_int Try.underlying3 f1
      obtain ⟨a2, e2, rfl, w2⟩ := DataW.trod_int Try.underlying23 f2
      obtain ⟨a3, e3, rfl, w3⟩ := DataW.trod_int Try.underlying23 f3
      simp at e0 e1 e2 e3
      subst e0 e1 e2 e3
      exact ⟨⟨a0, a1, a2, a3⟩, rfl, bounds_u64 w2, bounds_u64 w3⟩
theorem di_open {W : World} {spare : Nat → Bool} {held : Bool} {fuel : Nat} {cs : List Value} {x : DataW H × List MemPlace}
    (h : DataW.trod enc Try.prog W 0 spare held fuel 72 cs = some x) : ∃ a : DiR, cs = a.cells ∧ DiW a := by
  have ci : Try.prog.cellsOf 25 = 1 := by kernel_rfl
  have cl : Try.prog.cellsOf 23 = 1 := by kernel_rfl
  have c4 : Try.prog.cellsOf 72 = 2 := by kernel_rfl
  obtain ⟨xs, m, _, hx, hl, hxl, hf⟩ := DataW.trod_struct Try.underlying72 h
  rw [c4] at hl
  have f0 := hf 0 _ rfl
  have f1 := hf 1 _ rfl
  match cs, hl with
  | [v0, v1], _ =>
    match xs, hxl with
    | [x0, x1], _ =>
      simp [ci, cl] at f0 f1
      obtain ⟨a0, e0, rfl, w0⟩ := DataW.trod_int Try.underlying25 f0
      obtain ⟨a1, e1, rfl, w1⟩ := DataW.trod_int Try.underlying23 f1
      simp at e0 e1
      subst e0 e1
      exact ⟨⟨a0, a1⟩, rfl, bounds_u32 w0, bounds_u64 w1⟩
theorem rec_open {W : World} {spare : Nat → Bool} {held : Bool} {r : Reach} {b0 : Nat} {v : Value} {d : DataW H} {p : List MemPlace} (hv : Value.okWide Try.prog W r b0 35 v)
    (h : DataW.Trod enc Try.prog W 0 spare held 35 v d p) :
    ∃ (x : RecR) (A : Option Addr) (c : Nat) (B : Option Addr) (e : Nat), v = x.val A c B e ∧ RdRows StR.cells 4 W A x.txs ∧ RdRows DiR.cells 2 W B x.dirty ∧ RecW x ∧ x.txs.length ≤ 9223372036854775807 ∧ x.dirty.length ≤ 9223372036854775807 := by
  have k1 : Try.prog.cellsOf 3 = 1 := by kernel_rfl
  have k2 : Try.prog.cellsOf 23 = 1 := by kernel_rfl
  have k3 : Try.prog.cellsOf 25 = 1 := by kernel_rfl
  have k4 : Try.prog.cellsOf 9 = 1 := by kernel_rfl
  have k5 : Try.prog.cellsOf 4 = 1 := by kernel_rfl
  have k6 : Try.prog.cellsOf 27 = 4 := by kernel_rfl
  have k7 : Try.prog.cellsOf 31 = 3 := by kernel_rfl
  have k8 : Try.prog.cellsOf 29 = 2 := by kernel_rfl
  have k9 : Try.prog.cellsOf 32 = 1 := by kernel_rfl
  have k10 : Try.prog.cellsOf 33 = 1 := by kernel_rfl
  have k11 : Try.prog.cellsOf 35 = 17 := by kernel_rfl
  obtain ⟨cs, rfl, hsz⟩ := okWide_struct Try.underlying35 hv
  obtain ⟨fuel, hf⟩ := h
  obtain ⟨l⟩ := cs
  rw [k11] at hsz
  simp only [Value.cells] at hf
  obtain ⟨xs, m, _, hx, hl, hxl, hg⟩ := DataW.trod_struct Try.underlying35 hf
  match l, hsz with
  | [v0, v1, v2, v3, v4, v5, v6, v7, v8, v9, v10, v11, v12, v13, v14, v15, v16], _ =>
    match xs, hxl with
    | [x0, x1, x2, x3, x4, x5, x6, x7, x8, x9, x10, x11], _ =>
      have f0 := hg 0 _ rfl
      have f1 := hg 1 _ rfl
      have f2 := hg 2 _ rfl
      have f3 := hg 3 _ rfl
      have f4 := hg 4 _ rfl
      have f5 := hg 5 _ rfl
      have f6 := hg 6 _ rfl
      have f7 := hg 7 _ rfl
      have f8 := hg 8 _ rfl
      have f9 := hg 9 _ rfl
      have f10 := hg 10 _ rfl
      have f11 := hg 11 _ rfl
      clear hg
      simp [k1, k2, k3, k4, k5, k6, k7, k8, k9, k10] at f0 f1 f2 f3 f4 f5 f6 f7 f8 f9 f10 f11
      obtain ⟨a0, e0, _, w0⟩ := DataW.trod_int Try.underlying3 f0
      obtain ⟨a1, e1, _, w1⟩ := DataW.trod_int Try.underlying3 f1
      obtain ⟨a2, e2, _, w2⟩ := DataW.trod_int Try.underlying23 f2
      obtain ⟨a3, e3, _, w3⟩ := DataW.trod_int Try.underlying23 f3
      obtain ⟨a4, e4, _, w4⟩ := DataW.trod_int Try.underlying25 f4
      obtain ⟨a9, e9, _, w9⟩ := DataW.trod_int Try.underlying3 f6
      obtain ⟨a10, e10, _, w10⟩ := DataW.trod_int Try.underlying3 f7
      obtain ⟨a14, e14, _⟩ := DataW.trod_bool Try.underlying4 f9
      obtain ⟨A, c, ls, e15, hc1, hc2, hr1, hd1⟩ := open_rows_trod (enc := enc) (P := Try.prog) StR.cells (fun _ a => StW a) 4 (by decide) Try.underlying32 (by kernel_rfl) (fun _ _ _ h => st_open h) (fun _ => rfl) f10
      obtain ⟨B, e, ld, e16, hc3, hc4, hr2, hd2⟩ := open_rows_trod (enc := enc) (P := Try.prog) DiR.cells (fun _ a => DiW a) 2 (by decide) Try.underlying33 (by kernel_rfl) (fun _ _ _ h => di_open h) (fun _ => rfl) f11
      obtain ⟨ys, _, _, _, _, hyl, hg5⟩ := DataW.trod_struct Try.underlying27 f5
      obtain ⟨zs, _, _, _, _, hzl, hg8⟩ := DataW.trod_struct Try.underlying31 f8
      match ys, hyl with
      | [y0, y1, y2, y3], _ =>
        match zs, hzl with
        | [z0, z1], _ =>
          have p0 := hg5 0 _ rfl
          have p1 := hg5 1 _ rfl
          have p2 := hg5 2 _ rfl
          have p3 := hg5 3 _ rfl
          have q0 := hg8 0 _ rfl
          have q1 := hg8 1 _ rfl
          clear hg5 hg8
          simp [k1, k4, k8] at p0 p1 p2 p3 q0 q1
          obtain ⟨a5, e5, _, w5⟩ := DataW.trod_int Try.underlying3 p0
          obtain ⟨a6, e6, _, w6⟩ := DataW.trod_int Try.underlying3 p1
          obtain ⟨a7, e7, _, w7⟩ := DataW.trod_string Try.underlying9 p2
          obtain ⟨a8, e8, _, w8⟩ := DataW.trod_string Try.underlying9 p3
          obtain ⟨a11, e11, _, w11⟩ := DataW.trod_string Try.underlying9 q0
          obtain ⟨us, _, _, _, _, hul, hgu⟩ := DataW.trod_struct Try.underlying29 q1
          match us, hul with
          | [u0, u1], _ =>
            have r0 := hgu 0 _ rfl
            have r1 := hgu 1 _ rfl
            clear hgu
            simp [k1, k3] at r0 r1
            obtain ⟨a12, e12, _, w12⟩ := DataW.trod_int Try.underlying25 r0
            obtain ⟨a13, e13, _, w13⟩ := DataW.trod_int Try.underlying3 r1
            simp at e0 e1 e2 e3 e4 e5 e6 e7 e8 e9 e10 e11 e12 e13 e14 e15 e16
            subst e0 e1 e2 e3 e4 e5 e6 e7 e8 e9 e10 e11 e12 e13 e14 e15 e16
            have hs : ∀ t ∈ ls, StW t := fun t ht => by
              rcases hd1 with rfl | ⟨ds, sp, _, hdl, hq⟩
              · simp at ht
              · obtain ⟨k, hk, rfl⟩ := List.getElem_of_mem ht
                exact hq k (by omega) hk
            have hd : ∀ t ∈ ld, DiW t := fun t ht => by
              rcases hd2 with rfl | ⟨ds, sp, _, hdl, hq⟩
              · simp at ht
              · obtain ⟨k, hk, rfl⟩ := List.getElem_of_mem ht
                exact hq k (by omega) hk
            refine ⟨⟨a0, a1, a2, a3, a4, a5, a6, a7.data.toList, a8.data.toList, a9, a10, a11.data.toList, a12, a13, a14, ls, ld⟩, A, c, B, e, ?_, hr1, hr2, ⟨bounds_u64 w2, bounds_u64 w3, bounds_u32 w4, bounds_u32 w12, hs, hd⟩, ?_, ?_⟩
            · unfold RecR.val RecR.cells
              simp only [bs_toList]
            · exact Nat.le_trans hc1 hc2
            · exact Nat.le_trans hc3 hc4
end Go.Proofs.Ytebickoieipjpaa
