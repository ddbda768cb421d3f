/- Rows of the call's own, beside other blocks. No program. -/
import Derived.Test.YtebickoieipjpaaRdBase
import Derived.Laws.Rows
import Derived.Laws.Tables
import Derived.Laws.AppendOwn
import Derived.Deep.RegionLaw
namespace Go.Gi
open Go.RowKit
theorem own_ne_blk {w : World} {base TE size n g T : Nat} {v : Value} {xs : List Value} {cs : Array Value} (ho : w.ownsRow base TE size v n xs) (hg : Blk w g T cs) (ht : T ≠ TE) : v.ownBlock ≠ some g := by
  intro e
  rcases ho.2 with ⟨rfl, _⟩ | ⟨g', cap, cur, rfl, _, hh, _⟩
  · simp [Value.ownBlock] at e
  · simp [Value.ownBlock] at e
    subst e
    unfold Blk at hg
    rw [hh] at hg
    injection hg with hg
    injection hg with _ h2
    exact ht h2.symm
theorem own_ne_own {w : World} {base base' TE TE' size size' n n' : Nat} {v v' : Value} {xs xs' : List Value} (ho : w.ownsRow base TE size v n xs) (ho' : w.ownsRow base' TE' size' v' n' xs') (ht : TE ≠ TE') : v.ownBlock = none ∨ v.ownBlock ≠ v'.ownBlock := by
  rcases ho.2 with ⟨rfl, _⟩ | ⟨g, cap, cur, rfl, _, hh, _⟩
  · exact .inl rfl
  · right
    intro e
    rcases ho'.2 with ⟨rfl, _⟩ | ⟨g', cap', cur', rfl, _, hh', _⟩
    · simp [Value.ownBlock] at e
    · simp [Value.ownBlock] at e
      subst e
      rw [hh] at hh'
      injection hh' with hh'
      injection hh' with _ h2
      exact ht h2
theorem own_below {w w' : World} {base TE size n : Nat} {v : Value} {xs : List Value} (ho : w.ownsRow base TE size v n xs) (h : Below w.heap.size w w') : w'.ownsRow base TE size v n xs :=
  ho.kept (row := none) ⟨h.os, h.tape, h.output, h.size, fun k hk _ => h.block k hk⟩ (by cases hv : v.ownBlock <;> simp)
theorem own_grown {w w' : World} {base TE size n g T : Nat} {v : Value} {xs : List Value} {cs : Array Value} (ho : w.ownsRow base TE size v n xs) (hg : w.grownBy w' (some g)) (hb : Blk w g T cs) (ht : T ≠ TE) : w'.ownsRow base TE size v n xs :=
  ho.kept hg (.inr (own_ne_blk ho hb ht))
theorem own_set {w : World} {base TE size n b o T : Nat} {v u : Value} {xs : List Value} {cs : Array Value} (ho : w.ownsRow base TE size v n xs) (hb : Blk w b T cs) (ht : T ≠ TE) : (w.setCell ⟨b, o, none⟩ u).ownsRow base TE size v n xs :=
  ho.kept (gset (World.grownBy.refl w (some b)) o u) (.inr (own_ne_blk ho hb ht))
/-- What is owned reads as rows. -/
theorem own_rows {α : Type} {enc : α → List Value} {size : Nat} {w : World} {base TE : Nat} {v : Value} {l : List α} (henc : ∀ a, (enc a).length = size) (ho : w.ownsRow base TE size v l.length (l.map enc).flatten) :
    ∃ A c, v = .slice A l.length c ∧ ∀ k (h : k < l.length), ∃ b off, A = some ⟨b, off, none⟩ ∧ base ≤ b ∧ b < w.heap.size ∧ ∀ j u, (enc (l[k]'h))[j]? = some u → w.cell? ⟨b, off + k * size + j, none⟩ = some u := by
  rcases ho.2 with ⟨rfl, h0⟩ | ⟨g, cap, cur, rfl, hb, hh, hn, hc, hs, ht⟩
  · exact ⟨none, 0, by rw [h0], fun k h => by omega⟩
  · refine ⟨_, _, rfl, fun k h => ⟨g, 0, rfl, hb, (Array.getElem?_eq_some_iff.1 hh).1, fun j u hj => ?_⟩⟩
    have hjs : j < size := by
      have := (List.getElem?_eq_some_iff.1 hj).1
      rwa [henc] at this
    have hfl : ∀ (m : List α) (k : Nat) (h : k < m.length), (m.map enc).flatten[k * size + j]? = (enc (m[k]'h))[j]? := by
      intro m
      induction m with
      | nil => intro k h; simp at h
      | cons a m ih =>
        intro k h
        cases k with
        | zero => simp [List.getElem?_append, henc, hjs]
        | succ k =>
          have e : (k + 1) * size + j = (enc a).length + (k * size + j) := by rw [henc, Nat.succ_mul]; omega
          rw [List.map_cons, List.flatten_cons, e, List.getElem?_append_right (by omega)]
          have := ih k (by simpa using h)
          simpa using this
    have h2 := hfl l k h
    rw [hj, ← ht, List.getElem?_take] at h2
    have h3 : k * size + j < l.length * size := by
      have := Nat.mul_le_mul_right size (show k + 1 ≤ l.length from h)
      rw [Nat.succ_mul] at this
      omega
    rw [if_pos h3] at h2
    rw [Nat.zero_add, cell_of_row w g _ cur TE (0, 0) hh, ← h2]
    simp
theorem results_ct {P : Program} {fn : Func} {p q : Tmp} {ty : TypeId} (h : fn.results = #[.cell p ty, .tmp q]) (tmps : Array Value) (w : World) (g : Nat) (t : TypeId) (cs : Array Value) (fr : Nat × Nat) (d : TypeDesc)
    (hp : tmps.getD p undef = .pointer (some ⟨g, 0, none⟩)) (hg : w.heap[g]? = some (.cells cs t fr))
    (hu : P.underlying ty = some d) (hd : (match d with | .struct _ | .array _ _ => true | _ => false) = true) (hi : (P.info? ty).map (·.size) = some cs.size) :
    (results fn tmps).run P w = .ok (.tuple #[.agg cs, tmps.getD q undef]) w := by
  have hp' : tmps[p]?.getD undef = .pointer (some ⟨g, 0, none⟩) := by simpa using hp
  simp [results, h, hp', asAddr, run_loadVar_row w g t ty cs fr d hg hu hd hi]
theorem wpList_load_row_on {P : Program} {ops : Array Oper} {rest : List Oper} {o : Oper} {a : Act} {w : World} {Q : Exit → Act → World → Prop} (hw : Region.wanted o (yielded ops a.tmps) = true) (ty : TypeId) (x : Operand) (ho : o.op = .load ty x)
    (g : Nat) (hx : a.eval x = .pointer (some ⟨g, 0, none⟩)) (t : TypeId) (cs : Array Value) (fr : Nat × Nat) (d : TypeDesc) (hg : w.heap[g]? = some (.cells cs t fr))
    (hu : P.underlying ty = some d) (hd : (match d with | .struct _ | .array _ _ => true | _ => false) = true) (hi : (P.info? ty).map (·.size) = some cs.size)
    (h : wpList P ops Q rest (a.put o.dst (.agg cs)) w) : wpList P ops Q (o :: rest) a w :=
  wpList_step fun K hK => by rw [if_pos hw]; exact wp_load_row ty x ho g hx t cs fr d hg hu hd hi (hK _ _ h)
theorem setRow_below {B : Nat} {w a : World} {g : Nat} (h : Below B w a) (hg : B ≤ g) (cs : Array Value) : Below B w (a.setRow g cs) :=
  h.trans ⟨rfl, rfl, rfl, by simp, fun k hk => setRow_other a g k cs (by omega)⟩
theorem own_setRow {w : World} {base TE size n g T : Nat} {v : Value} {xs : List Value} {cs cs' : Array Value} (ho : w.ownsRow base TE size v n xs) (hb : Blk w g T cs) (ht : T ≠ TE) : (w.setRow g cs').ownsRow base TE size v n xs :=
  ho.kept (row := some g) ⟨rfl, rfl, rfl, by simp, fun k hk hne => setRow_other w g k cs' (fun e => hne (by rw [e]))⟩ (.inr (own_ne_blk ho hb ht))
theorem blk_setRow {w : World} {g T : Nat} {cs cs' : Array Value} (hb : Blk w g T cs) : Blk (w.setRow g cs') g T cs' := setRow_heap w g cs cs' T (0, 0) hb
theorem grown_of {w wd w' : World} {b T : Nat} {cs : Array Value} {row : Option Nat} (_ : Blk w b T cs) (hg : wd.grownBy w' row) (e1 : wd.heap = w.heap) (e2 : wd.os = w.os) (e3 : wd.tape = w.tape) (e4 : wd.output = w.output) : w.grownBy w' row :=
  ⟨hg.os.trans e2, hg.tape.trans e3, hg.output.trans e4, by rw [← e1]; exact hg.size, fun k hk hne => by rw [← e1]; exact hg.block k (by rw [e1]; exact hk) hne⟩
theorem cells_new (w : World) (l : List Value) (T : TypeId) : ∀ j u, l[j]? = some u → (w.alloc (.cells l.toArray T)).cell? ((⟨w.heap.size, 0, none⟩ : Addr).add j) = some u := by
  intro j u hj
  have hadd : (⟨w.heap.size, 0, none⟩ : Addr).add j = ⟨w.heap.size, j, none⟩ := by unfold Addr.add; split <;> simp_all
  rw [hadd, cell_of_row _ _ j l.toArray T (0, 0) (heap_alloc_new w _)]
  simpa using hj
theorem step_append_own {P : Program} {w : World} {ops : Array Oper} {o : Oper} {a : Act} {K : Act → World → Prop} {Q : Exit → Act → World → Prop} {E : Prop} (hg : o.guard = none) (s x : Operand) (t : TypeId)
    (ho : o.op = .call { callee := .builtin .append, args := #[s, x], argTypes := #[t, t] })
    (base : Nat) (e : TypeId) (i : TypeInfo) (z : Value) (size bytes : Nat) (ht : P.underlying t = some (.slice e)) (hi : P.info? e = some i) (hz : i.zero = some z)
    (hsize : i.size = size) (hby : i.bytes = bytes) (hzs : z.cells.size = size) (hsz : 0 < size)
    (v : Value) (n : Nat) (xs : List Value) (hs : a.eval s = v) (hown : w.ownsRow base e size v n xs)
    (ad : Addr) (m c : Nat) (news : List Value) (hx : a.eval x = .slice (some ad) m c) (hl : news.length = m * size) (hnews : ∀ j u, news[j]? = some u → w.cell? (ad.add j) = some u) (h1 : ∀ u ∈ news, u.oneCell' = true)
    (h63 : n + m ≤ maxLen) (hbytes : (n + m) * bytes ≤ 140737488355328) (hbase : base ≤ w.heap.size)
    (h : ∀ v' w', w'.ownsRow base e size v' (n + m) (xs ++ news) → w.grownBy w' v.ownBlock → (v' = .slice none 0 0 ↔ v = .slice none 0 0 ∧ m = 0) → K (a.put o.dst v') w') :
    if Region.wanted o (yielded ops a.tmps) = true then Oper.wp P o a w K Q else E := by
  rw [if_pos (by simp [Region.wanted, hg])]
  exact wp_append_own w s x t ho base e i z size bytes ht hi hz hsize hby hzs hsz v n xs hs hown ad m c news hx hl hnews h1 h63 hbytes hbase h
end Go.Gi
