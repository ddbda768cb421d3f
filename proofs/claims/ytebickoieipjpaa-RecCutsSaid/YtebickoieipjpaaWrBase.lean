/- A writer's block and its row. No program. -/
import Derived.Test.YtebickoieipjpaaBase
import Derived.Lib.AppendStr
namespace Go.Gi
open Go.RowKit
set_option maxRecDepth 20000

theorem append_str_at {P : Program} (w : World) (base : Nat) (t u ty e : TypeId) (i : TypeInfo) (ht : P.underlying t = some (.slice e)) (hu : P.underlying u = some .string) (hi : P.info? e = some i) (hz : i.zero = some (.int .u8 0))
    (hsize : i.size = 1) (hby : i.bytes = 1) (v : Value) (n : Nat) (xs : List Value) (hown : w.ownsRow base e 1 v n xs) (s : ByteArray)
    (h63 : n + s.size ≤ maxLen) (hbytes : n + s.size ≤ 140737488355328) {v' : Value} {w' : World} (hr : (Builtin.append_ #[t, u] ty #[v, .string s]).run P w = .ok v' w') :
    v'.ownBlock = v.ownBlock ∨ v'.ownBlock = some w.heap.size := by
  have hsmall : n + s.size ≤ 9223372036854775807 := by simp only [maxLen] at h63; omega
  have hxl : xs.length = n := by simpa using hown.1
  rcases hown.2 with ⟨rfl, rfl⟩ | ⟨g, cap, cur, rfl, hbg, hg, hnc, hcm, hcs, htake⟩
  · by_cases hm : s.size = 0
    · have hf := Lib.run_firstCells_string (P := P) w 1 s
      rw [hm] at hf
      simp [Builtin.append_, run_underlying ht, run_underlying hu, sizeOf, typeInfo, hi, hsize, Builtin.lenOf, hm, hf] at hr
      exact .inl (by rw [← hr.1])
    · have h2 := run_append_nil_string (P := P) w t u ty e i (.int .u8 0) ht hu hi hz s (by omega) (by omega) (by rw [hby]; omega)
      rw [h2] at hr
      injection hr with e1 _
      exact .inr (by rw [← e1]; rfl)
  · by_cases hroom : n + s.size ≤ cap
    · have hcs' : cur.size = cap := by simpa using hcs
      have h2 := Lib.run_append_room_string (P := P) w t u ty e i ht hu hi hsize g n cap cur hg s hroom (by omega)
      rw [h2] at hr
      injection hr with e1 _
      exact .inl (by rw [← e1]; rfl)
    · have holds : ∀ j u, xs[j]? = some u → w.cell? ((⟨g, 0, none⟩ : Addr).add j) = some u := hown.cells (g := g) rfl
      have h2 := Lib.run_append_grow_string (P := P) w t u ty e i (.int .u8 0) ht hu hi hz ⟨g, 0, none⟩ n cap xs (by rw [hsize]; simpa using hxl) holds s (by omega) (by omega) (by rw [hby]; exact growslice_fits (by omega) (by omega))
      rw [h2] at hr
      injection hr with e1 _
      exact .inr (by rw [← e1]; rfl)

/-- append(b, s...) onto a row of the call's own: and where the new row lies. -/
theorem wpList_append_str {P : Program} {w : World} {ops : Array Oper} {rest : List Oper} {o : Oper} {a : Act} {Q : Exit → Act → World → Prop} (hgd : o.guard = none) (sl x : Operand) (t u : TypeId)
    (ho : o.op = .call { callee := .builtin .append, args := #[sl, x], argTypes := #[t, u] })
    (base : Nat) (e : TypeId) (i : TypeInfo) (ht : P.underlying t = some (.slice e)) (hu : P.underlying u = some .string) (hi : P.info? e = some i) (hz : i.zero = some (.int .u8 0))
    (hsize : i.size = 1) (hby : i.bytes = 1)
    (v : Value) (l : List UInt8) (hs : a.eval sl = v) (hown : w.ownsRow base e 1 v l.length (l.map u8V)) (s : ByteArray) (hx : a.eval x = .string s)
    (hbytes : l.length + s.size ≤ 140737488355328) (hbase : base ≤ w.heap.size)
    (h : ∀ v' w', w'.ownsRow base e 1 v' (l ++ s.data.toList).length ((l ++ s.data.toList).map u8V) → w.grownBy w' v.ownBlock → (v'.ownBlock = v.ownBlock ∨ v'.ownBlock = some w.heap.size) → wpList P ops Q rest (a.put o.dst v') w') : wpList P ops Q (o :: rest) a w := by
  refine wpList_plain hgd fun K hK => ?_
  have h63 : l.length + s.size ≤ maxLen := by unfold maxLen; omega
  obtain ⟨v', w', hr, h2, h3, _⟩ := Lib.run_append_own_string (P := P) w base t u o.type e i ht hu hi hz hsize hby v _ _ hown s h63 hbytes hbase
  have h4 := append_str_at w base t u o.type e i ht hu hi hz hsize hby v _ _ hown s h63 hbytes hr
  unfold Oper.wp execOp
  simp only [ho, resolve, invoke, builtin, Sem.run_bind, Sem.run_pure, Result.andThen_ok, List.map_toArray, List.map_cons, List.map_nil, hs, hx, hr]
  refine hK _ _ (h v' w' ?_ h3 h4)
  have e1 : (l ++ s.data.toList).length = l.length + s.size := by simp
  have e2 : (l ++ s.data.toList).map u8V = l.map u8V ++ Lib.strCells s := by rw [List.map_append]; rfl
  rw [e1, e2]
  exact h2

/-- A writer: its block g, its row's block r, what it has put. -/
def Wr (w : World) (TW TE base g : Nat) (r : Option Nat) (l : List UInt8) : Prop :=
  base ≤ g ∧ ∃ v, w.heap[g]? = some (.cells #[v] TW (0, 0)) ∧ w.ownsRow base TE 1 v l.length (l.map u8V) ∧ v.ownBlock = r
/-- Only the writer's blocks have turned, and what is new. -/
structure WK (w w' : World) (g : Nat) (r r' : Option Nat) : Prop where
  os : w'.os = w.os
  tape : w'.tape = w.tape
  output : w'.output = w.output
  size : w.heap.size ≤ w'.heap.size
  block : ∀ k, k < w.heap.size → k ≠ g → some k ≠ r → w'.heap[k]? = w.heap[k]?
  next : r' = r ∨ ∃ k, r' = some k ∧ w.heap.size ≤ k

theorem WK.refl (w : World) (g : Nat) (r : Option Nat) : WK w w g r r := ⟨rfl, rfl, rfl, Nat.le_refl _, fun _ _ _ _ => rfl, .inl rfl⟩
theorem WK.trans {a b c : World} {g : Nat} {r r1 r2 : Option Nat} (h : WK a b g r r1) (k : WK b c g r1 r2) : WK a c g r r2 := by
  refine ⟨k.os.trans h.os, k.tape.trans h.tape, k.output.trans h.output, Nat.le_trans h.size k.size, fun i hi hg hr => ?_, ?_⟩
  · refine (k.block i (Nat.lt_of_lt_of_le hi h.size) hg ?_).trans (h.block i hi hg hr)
    rcases h.next with rfl | ⟨j, rfl, hj⟩
    · exact hr
    · intro e; injection e with e; omega
  · rcases k.next with rfl | ⟨j, rfl, hj⟩
    · exact h.next
    · exact .inr ⟨j, rfl, Nat.le_trans h.size hj⟩
theorem WK.pre {a b c : World} {g : Nat} {r r' : Option Nat} (h : Below a.heap.size a b) (k : WK b c g r r') : WK a c g r r' := by
  refine ⟨k.os.trans h.os, k.tape.trans h.tape, k.output.trans h.output, Nat.le_trans h.size k.size, fun i hi hg hr => (k.block i (Nat.lt_of_lt_of_le hi h.size) hg hr).trans (h.block i hi), ?_⟩
  rcases k.next with rfl | ⟨j, rfl, hj⟩
  · exact .inl rfl
  · exact .inr ⟨j, rfl, Nat.le_trans h.size hj⟩
theorem WK.post {a b c : World} {g : Nat} {r r' : Option Nat} (k : WK a b g r r') (h : Below b.heap.size b c) : WK a c g r r' :=
  ⟨h.os.trans k.os, h.tape.trans k.tape, h.output.trans k.output, Nat.le_trans k.size h.size, fun i hi hg hr => (h.block i (Nat.lt_of_lt_of_le hi k.size)).trans (k.block i hi hg hr), k.next⟩
section
variable {w w' : World} {TW TE base g : Nat} {r r' : Option Nat} {l : List UInt8}
theorem Wr.lt (h : Wr w TW TE base g r l) : g < w.heap.size := by
  obtain ⟨_, v, hg, _⟩ := h
  exact (Array.getElem?_eq_some_iff.1 hg).1
theorem Wr.row (h : Wr w TW TE base g r l) : ∀ k, r = some k → base ≤ k ∧ k < w.heap.size := by
  obtain ⟨_, v, hg, ho, rfl⟩ := h
  exact ho.lt
theorem Wr.step (h : Wr w TW TE base g r l) (hb : Below w.heap.size w w') : Wr w' TW TE base g r l := by
  obtain ⟨hg, v, hc, ho, rfl⟩ := h
  refine ⟨hg, v, (hb.block g (Array.getElem?_eq_some_iff.1 hc).1).trans hc, ho.kept (row := none) ⟨hb.os, hb.tape, hb.output, hb.size, fun k hk _ => hb.block k hk⟩ ?_, rfl⟩
  cases hv : v.ownBlock <;> simp
theorem Wr.alloc (h : Wr w TW TE base g r l) (o : Obj) : Wr (w.alloc o) TW TE base g r l := h.step (balloc (Below.refl _ _) o)
theorem Wr.drew (h : Wr w TW TE base g r l) : Wr w.drew TW TE base g r l := h.step (bdrew (Below.refl _ _))
theorem Wr.drewN (h : Wr w TW TE base g r l) (n : Nat) : Wr (w.drewN n) TW TE base g r l := h.step (bdrewN (Below.refl _ _) n)
theorem WK.below {w0 : World} (hB : Below w0.heap.size w0 w) (h : WK w w' g r r') (hg : w0.heap.size ≤ g) (hr : ∀ k, r = some k → w0.heap.size ≤ k) : Below w0.heap.size w0 w' :=
  hB.trans ⟨h.os, h.tape, h.output, h.size, fun k hk => h.block k (Nat.lt_of_lt_of_le hk hB.size) (by omega) (fun e => by have := hr k e.symm; omega)⟩
/-- Another block of the call's own, of another type than the writer's two. -/
theorem WK.blk (hw : Wr w TW TE base g r l) (h : WK w w' g r r') {b T : Nat} {cs : Array Value} (hb : Blk w b T cs) (h1 : T ≠ TW) (h2 : T ≠ TE) : Blk w' b T cs := by
  obtain ⟨_, v, hg, ho, rfl⟩ := hw
  refine (h.block b hb.lt ?_ ?_).trans hb
  · rintro rfl
    unfold Blk at hb
    rw [hg] at hb
    injection hb with hb
    injection hb with _ ht
    exact h1 ht.symm
  · intro e
    rcases ho.2 with ⟨rfl, _⟩ | ⟨g', cap, cur, rfl, _, hh, _⟩
    · simp [Value.ownBlock] at e
    · simp [Value.ownBlock] at e
      subst e
      unfold Blk at hb
      rw [hh] at hb
      injection hb with hb
      injection hb with _ ht
      exact h2 ht.symm
end

theorem own_ne_of {w : World} {base TE TW n g : Nat} {v : Value} {xs : List Value} {cs : Array Value} (ho : w.ownsRow base TE 1 v n xs) (hg : w.heap[g]? = some (.cells cs TW (0, 0))) (ht : TW ≠ TE) : some g ≠ v.ownBlock := by
  intro e
  rcases ho.2 with ⟨rfl, _⟩ | ⟨g', cap, cur, rfl, _, hh, _⟩
  · simp [Value.ownBlock] at e
  · simp [Value.ownBlock] at e
    subst e
    rw [hh] at hg
    injection hg with hg
    injection hg with _ h2
    exact ht h2.symm
end Go.Gi
