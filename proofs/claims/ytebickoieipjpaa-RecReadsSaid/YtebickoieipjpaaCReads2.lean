import Derived.Test.YtebickoieipjpaaCReads1
section
namespace Go.Gi
open Go.RowKit
theorem own_ne_blk {w : World} {base TE size n g T : Nat} {v : Value} {xs : List Value} {cs : Array Value} (ho : w.ownsRow base TE size v n xs) (hg : Blk w g T cs) (ht : T ≠ TE) : v.ownBlock ≠ some g := by
  intro e
  rcases ho.2 with ⟨rfl, _⟩ | ⟨g', cap, cur, rfl, _, hh, _⟩
  · simp [Value.ownBlock] at e
  · simp [Value.ownBlock] at e
    subst e
    unfold Blk at hg
    rw [hh] at hg
    injection hg with hg
    injection hg with _ h2
    exact ht h2.symm
theorem own_ne_own {w : World} {base base' TE TE' size size' n n' : Nat} {v v' : Value} {xs xs' : List Value} (ho : w.ownsRow base TE size v n xs) (ho' : w.ownsRow base' TE' size' v' n' xs') (ht : TE ≠ TE') : v.ownBlock = none ∨ v.ownBlock ≠ v'.ownBlock := by
  rcases ho.2 with ⟨rfl, _⟩ | ⟨g, cap, cur, rfl, _, hh, _⟩
  · exact .inl rfl
  · right
    intro e
    rcases ho'.2 with ⟨rfl, _⟩ | ⟨g', cap', cur', rfl, _, hh', _⟩
    · simp [Value.ownBlock] at e
    · simp [Value.ownBlock] at e
      subst e
      rw [hh] at hh'
      injection hh' with hh'
      injection hh' with _ h2
      exact ht h2
theorem own_below {w w' : World} {base TE size n : Nat} {v : Value} {xs : List Value} (ho : w.ownsRow base TE size v n xs) (h : Below w.heap.size w w') : w'.ownsRow base TE size v n xs :=
  ho.kept (row := none) ⟨h.os, h.tape, h.output, h.size, fun k hk _ => h.block k hk⟩ (by cases hv : v.ownBlock <;> simp)
theorem own_grown {w w' : World} {base TE size n g T : Nat} {v : Value} {xs : List Value} {cs : Array Value} (ho : w.ownsRow base TE size v n xs) (hg : w.grownBy w' (some g)) (hb : Blk w g T cs) (ht : T ≠ TE) : w'.ownsRow base TE size v n xs :=
  ho.kept hg (.inr (own_ne_blk ho hb ht))
theorem own_set {w : World} {base TE size n b o T : Nat} {v u : Value} {xs : List Value} {cs : Array Value} (ho : w.ownsRow base TE size v n xs) (hb : Blk w b T cs) (ht : T ≠ TE) : (w.setCell ⟨b, o, none⟩ u).ownsRow base TE size v n xs :=
  ho.kept (gset (World.grownBy.refl w (some b)) o u) (.inr (own_ne_blk ho hb ht))
theorem own_rows {α : Type} {enc : α → List Value} {size : Nat} {w : World} {base TE : Nat} {v : Value} {l : List α} (henc : ∀ a, (enc a).length = size) (ho : w.ownsRow base TE size v l.length (l.map enc).flatten) :
    ∃ A c, v = .slice A l.length c ∧ ∀ k (h : k < l.length), ∃ b off, A = some ⟨b, off, none⟩ ∧ base ≤ b ∧ b < w.heap.size ∧ ∀ j u, (enc (l[k]'h))[j]? = some u → w.cell? ⟨b, off + k * size + j, none⟩ = some u := by
  rcases ho.2 with ⟨rfl, h0⟩ | ⟨g, cap, cur, rfl, hb, hh, hn, hc, hs, ht⟩
  · exact ⟨none, 0, by rw [h0], fun k h => by omega⟩
  · refine ⟨_, _, rfl, fun k h => ⟨g, 0, rfl, hb, (Array.getElem?_eq_some_iff.1 hh).1, fun j u hj => ?_⟩⟩
    have hjs : j < size := by
      have := (List.getElem?_eq_some_iff.1 hj).1
      rwa [henc] at this
    have hfl : ∀ (m : List α) (k : Nat) (h : k < m.length), (m.map enc).flatten[k * size + j]? = (enc (m[k]'h))[j]? := by
      intro m
      induction m with
      | nil => intro k h; simp at h
      | cons a m ih =>
        intro k h
        cases k with
        | zero => simp [List.getElem?_append, henc, hjs]
        | succ k =>
          have e : (k + 1) * size + j = (enc a).length + (k * size + j) := by rw [henc, Nat.succ_mul]; omega
          rw [List.map_cons, List.flatten_cons, e, List.getElem?_append_right (by omega)]
          have := ih k (by simpa using h)
          simpa using this
    have h2 := hfl l k h
    rw [hj, ← ht, List.getElem?_take] at h2
    have h3 : k * size + j < l.length * size := by
      have := Nat.mul_le_mul_right size (show k + 1 ≤ l.length from h)
      rw [Nat.succ_mul] at this
      omega
    rw [if_pos h3] at h2
    rw [Nat.zero_add, cell_of_row w g _ cur TE (0, 0) hh, ← h2]
    simp
theorem results_ct {P : Program} {fn : Func} {p q : Tmp} {ty : TypeId} (h : fn.results = #[.cell p ty, .tmp q]) (tmps : Array Value) (w : World) (g : Nat) (t : TypeId) (cs : Array Value) (fr : Nat × Nat) (d : TypeDesc)
    (hp : tmps.getD p undef = .pointer (some ⟨g, 0, none⟩)) (hg : w.heap[g]? = some (.cells cs t fr))
    (hu : P.underlying ty = some d) (hd : (match d with | .struct _ | .array _ _ => true | _ => false) = true) (hi : (P.info? ty).map (·.size) = some cs.size) :
    (results fn tmps).run P w = .ok (.tuple #[.agg cs, tmps.getD q undef]) w := by
  have hp' : tmps[p]?.getD undef = .pointer (some ⟨g, 0, none⟩) := by simpa using hp
  simp [results, h, hp', asAddr, run_loadVar_row w g t ty cs fr d hg hu hd hi]
theorem wpList_load_row_on {P : Program} {ops : Array Oper} {rest : List Oper} {o : Oper} {a : Act} {w : World} {Q : Exit → Act → World → Prop} (hw : Region.wanted o (yielded ops a.tmps) = true) (ty : TypeId) (x : Operand) (ho : o.op = .load ty x)
    (g : Nat) (hx : a.eval x = .pointer (some ⟨g, 0, none⟩)) (t : TypeId) (cs : Array Value) (fr : Nat × Nat) (d : TypeDesc) (hg : w.heap[g]? = some (.cells cs t fr))
    (hu : P.underlying ty = some d) (hd : (match d with | .struct _ | .array _ _ => true | _ => false) = true) (hi : (P.info? ty).map (·.size) = some cs.size)
    (h : wpList P ops Q rest (a.put o.dst (.agg cs)) w) : wpList P ops Q (o :: rest) a w :=
  wpList_step fun K hK => by rw [if_pos hw]; exact wp_load_row ty x ho g hx t cs fr d hg hu hd hi (hK _ _ h)
theorem setRow_below {B : Nat} {w a : World} {g : Nat} (h : Below B w a) (hg : B ≤ g) (cs : Array Value) : Below B w (a.setRow g cs) :=
  h.trans ⟨rfl, rfl, rfl, by simp, fun k hk => setRow_other a g k cs (by omega)⟩
theorem own_setRow {w : World} {base TE size n g T : Nat} {v : Value} {xs : List Value} {cs cs' : Array Value} (ho : w.ownsRow base TE size v n xs) (hb : Blk w g T cs) (ht : T ≠ TE) : (w.setRow g cs').ownsRow base TE size v n xs :=
  ho.kept (row := some g) ⟨rfl, rfl, rfl, by simp, fun k hk hne => setRow_other w g k cs' (fun e => hne (by rw [e]))⟩ (.inr (own_ne_blk ho hb ht))
theorem blk_setRow {w : World} {g T : Nat} {cs cs' : Array Value} (hb : Blk w g T cs) : Blk (w.setRow g cs') g T cs' := setRow_heap w g cs cs' T (0, 0) hb
theorem grown_of {w wd w' : World} {b T : Nat} {cs : Array Value} {row : Option Nat} (_ : Blk w b T cs) (hg : wd.grownBy w' row) (e1 : wd.heap = w.heap) (e2 : wd.os = w.os) (e3 : wd.tape = w.tape) (e4 : wd.output = w.output) : w.grownBy w' row :=
  ⟨hg.os.trans e2, hg.tape.trans e3, hg.output.trans e4, by rw [← e1]; exact hg.size, fun k hk hne => by rw [← e1]; exact hg.block k (by rw [e1]; exact hk) hne⟩
theorem cells_new (w : World) (l : List Value) (T : TypeId) : ∀ j u, l[j]? = some u → (w.alloc (.cells l.toArray T)).cell? ((⟨w.heap.size, 0, none⟩ : Addr).add j) = some u := by
  intro j u hj
  have hadd : (⟨w.heap.size, 0, none⟩ : Addr).add j = ⟨w.heap.size, j, none⟩ := by unfold Addr.add; split <;> simp_all
  rw [hadd, cell_of_row _ _ j l.toArray T (0, 0) (heap_alloc_new w _)]
  simpa using hj
theorem step_append_own {P : Program} {w : World} {ops : Array Oper} {o : Oper} {a : Act} {K : Act → World → Prop} {Q : Exit → Act → World → Prop} {E : Prop} (hg : o.guard = none) (s x : Operand) (t : TypeId)
    (ho : o.op = .call { callee := .builtin .append, args := #[s, x], argTypes := #[t, t] })
    (base : Nat) (e : TypeId) (i : TypeInfo) (z : Value) (size bytes : Nat) (ht : P.underlying t = some (.slice e)) (hi : P.info? e = some i) (hz : i.zero = some z)
    (hsize : i.size = size) (hby : i.bytes = bytes) (hzs : z.cells.size = size) (hsz : 0 < size)
    (v : Value) (n : Nat) (xs : List Value) (hs : a.eval s = v) (hown : w.ownsRow base e size v n xs)
    (ad : Addr) (m c : Nat) (news : List Value) (hx : a.eval x = .slice (some ad) m c) (hl : news.length = m * size) (hnews : ∀ j u, news[j]? = some u → w.cell? (ad.add j) = some u) (h1 : ∀ u ∈ news, u.oneCell' = true)
    (h63 : n + m ≤ maxLen) (hbytes : (n + m) * bytes ≤ 140737488355328) (hbase : base ≤ w.heap.size)
    (h : ∀ v' w', w'.ownsRow base e size v' (n + m) (xs ++ news) → w.grownBy w' v.ownBlock → (v' = .slice none 0 0 ↔ v = .slice none 0 0 ∧ m = 0) → K (a.put o.dst v') w') :
    if Region.wanted o (yielded ops a.tmps) = true then Oper.wp P o a w K Q else E := by
  rw [if_pos (by simp [Region.wanted, hg])]
  exact wp_append_own w s x t ho base e i z size bytes ht hi hz hsize hby hzs hsz v n xs hs hown ad m c news hx hl hnews h1 h63 hbytes hbase h
end Go.Gi
end
section
namespace Go.Proofs.Ytebickoieipjpaa
open Go.RowKit Go.Gi Go.Proofs.YtebickoieipjpaaW.PrintWords Go.Proofs.YtebickoieipjpaaW.PrintLast Go.Proofs.YtebickoieipjpaaW.PrintMore
set_option maxRecDepth 20000
set_option linter.unusedSimpArgs false
set_option linter.unusedVariables false
theorem app1_step {P : Program} {ops : Array Oper} {o : Oper} {a : Act} {w : World} {K : Act → World → Prop} {Q : Exit → Act → World → Prop} {N : Option Tmp} (hw : Region.wanted o (yielded ops a.tmps) = true) (hN : o.dst = N)
    (s x : Operand) (t : TypeId) (ho : o.op = .call { callee := .builtin .append, args := #[s, x], argTypes := #[t, t] }) (e : TypeId) (z : Value) (size bytes : Nat) (ht : P.underlying t = some (.slice e))
    (hinfo : (P.info? e).map (fun i => (i.zero, i.size, i.bytes)) = some (some z, size, bytes)) (hzs : z.cells.size = size) (hsz : 0 < size) (v : Value) (hs : a.eval s = v) (base n : Nat) (xs : List Value) (hown : w.ownsRow base e size v n xs)
    (ad : Addr) (hx : a.eval x = .slice (some ad) 1 1) (news : List Value) (hl : news.length = size) (hnews : ∀ j u, news[j]? = some u → w.cell? (ad.add j) = some u) (h1 : ∀ u ∈ news, u.oneCell' = true)
    (hm : n + 1 ≤ maxLen) (hb : (n + 1) * bytes ≤ 140737488355328) (hbase : base ≤ w.heap.size)
    (h : ∀ v' w', w'.ownsRow base e size v' (n + 1) (xs ++ news) → w.grownBy w' v.ownBlock → (v'.ownBlock = v.ownBlock ∨ v'.ownBlock = some w.heap.size) → K (a.put N v') w') :
    if Region.wanted o (yielded ops a.tmps) = true then Oper.wp P o a w K Q else K (a.put N undef) w := by
  obtain ⟨i0, hi, hzz⟩ := Option.map_eq_some_iff.1 hinfo
  simp only [Prod.mk.injEq] at hzz
  obtain ⟨hz0, hz1, hz2⟩ := hzz
  obtain ⟨v1, w1, hr, h2, h3, _, h5⟩ := run_append_own_at (P := P) (w := w) base t o.type e i0 z size bytes ht hi hz0 hz1 hz2 hzs hsz v n xs hown ad 1 1 news (by omega) hnews h1 hm hb hbase
  rw [if_pos hw]
  subst hN
  unfold Oper.wp execOp
  simp only [ho, resolve, invoke, builtin, Sem.run_bind, Sem.run_pure, Result.andThen_ok, List.map_toArray, List.map_cons, List.map_nil, hs, hx, hr]
  exact h v1 w1 h2 h3 h5
theorem blk_cells {w : World} {g T : Nat} {cs : List Value} (h : Blk w g T cs.toArray) : ∀ j u, cs[j]? = some u → w.cell? ((⟨g, 0, none⟩ : Addr).add j) = some u := by
  intro j u hj
  rw [show (⟨g, 0, none⟩ : Addr).add j = ⟨g, j, none⟩ by unfold Addr.add; split <;> simp_all, h.cell j]
  simpa using hj
theorem own_sl {w : World} {base n : Nat} {e : TypeId} {size : Nat} {v : Value} {xs : List Value} (h : w.ownsRow base e size v n xs) : ∃ A c, v = .slice A n c := by
  rcases h.2 with ⟨rfl, rfl⟩ | ⟨g, cap, cur, rfl, _⟩
  · exact ⟨none, 0, rfl⟩
  · exact ⟨_, cap, rfl⟩
end Go.Proofs.Ytebickoieipjpaa
end
section
namespace Go.Proofs.Ytebickoieipjpaa
open Go.RowKit Go.Gi Go.Proofs.YtebickoieipjpaaW.PrintWords Go.Proofs.YtebickoieipjpaaW.PrintLast Go.Proofs.YtebickoieipjpaaW.PrintMore
theorem yields_row {P : Program} {ops : Array Oper} {S : World → Prop} {o : Oper} {a : Act} (ty : TypeId) (x : Operand) (ho : o.op = .load ty x) (hw : Region.wanted o (yielded ops a.tmps) = true)
    (g : Nat) (hx : a.eval x = .pointer (some ⟨g, 0, none⟩)) (t : TypeId) (cs : Array Value) (fr : Nat × Nat) (d : TypeDesc) (hg : ∀ w : World, S w → w.heap[g]? = some (.cells cs t fr))
    (hu : P.underlying ty = some d) (hd : (match d with | .struct _ | .array _ _ => true | _ => false) = true) (hi : (P.info? ty).map (·.size) = some cs.size) : YieldsIf P ops S o (.agg cs) a :=
  Or.inl ⟨hw, fun w hs => by
    unfold execOp
    simp only [ho, hx, Instr.loadAt, Instr.sureAddr, Sem.run_bind, Sem.run_pure, Result.andThen_ok, run_loadVar_row w g t ty cs fr d (hg w hs) hu hd hi]⟩
theorem run_store_row {P : Program} {o : Oper} {a : Act} {w : World} (ty : TypeId) (x y : Operand) (ho : o.op = .store ty x y)
    (g : Nat) (cells : Array Value) (hx : a.eval x = .pointer (some ⟨g, 0, none⟩)) (hy : a.eval y = .agg cells)
    (t : TypeId) (old : Array Value) (hg : w.heap[g]? = some (.cells old t (0, 0))) (hi : (P.info? ty).map (·.size) = some cells.size)
    (hold : old.size = cells.size) (h1 : cells.all (·.oneCell') = true) : (execOp a.eval o).run P w = .ok .skip (w.setRow g cells) := by
  unfold execOp
  simp only [ho, hx, hy, Instr.storeAt, Instr.sureAddr, Sem.run_bind, Sem.run_pure, Result.andThen_ok, run_storeVar_row w g t ty old cells hg hi hold h1]
end Go.Proofs.Ytebickoieipjpaa
end
section
namespace Go.Gi
theorem isLoadN {P : Program} {ops : Array Oper} {Q : Exit → Act → World → Prop} {l : List Oper} {a : Act} {w : World} {dst : Option Tmp} {tp : TypeId} {pos : String} {aft : Array Edge} (ty : TypeId) (x : Operand)
    (h : wpList P ops Q ({ dst := dst, op := .load ty x, type := tp, pos := pos, after := aft, guard := none } :: l) a w) : wpList P ops Q ({ dst := dst, op := .load ty x, type := tp, pos := pos, after := aft, guard := none } :: l) a w := h
theorem isLoadG {P : Program} {ops : Array Oper} {Q : Exit → Act → World → Prop} {l : List Oper} {a : Act} {w : World} {dst : Option Tmp} {tp : TypeId} {pos : String} {aft : Array Edge} {g : Nat × Bool} (ty : TypeId) (x : Operand)
    (h : wpList P ops Q ({ dst := dst, op := .load ty x, type := tp, pos := pos, after := aft, guard := some g } :: l) a w) : wpList P ops Q ({ dst := dst, op := .load ty x, type := tp, pos := pos, after := aft, guard := some g } :: l) a w := h
theorem isStoreN {P : Program} {ops : Array Oper} {Q : Exit → Act → World → Prop} {l : List Oper} {a : Act} {w : World} {dst : Option Tmp} {tp : TypeId} {pos : String} {aft : Array Edge} (ty : TypeId) (x y : Operand)
    (h : wpList P ops Q ({ dst := dst, op := .store ty x y, type := tp, pos := pos, after := aft, guard := none } :: l) a w) : wpList P ops Q ({ dst := dst, op := .store ty x y, type := tp, pos := pos, after := aft, guard := none } :: l) a w := h
theorem isGuarded {P : Program} {ops : Array Oper} {Q : Exit → Act → World → Prop} {l : List Oper} {a : Act} {w : World} {dst : Option Tmp} {op : Op} {tp : TypeId} {pos : String} {aft : Array Edge} {g : Nat × Bool}
    (h : wpList P ops Q ({ dst := dst, op := op, type := tp, pos := pos, after := aft, guard := some g } :: l) a w) : wpList P ops Q ({ dst := dst, op := op, type := tp, pos := pos, after := aft, guard := some g } :: l) a w := h
theorem guardOn {P : Program} {ops : Array Oper} {Q : Exit → Act → World → Prop} {l : List Oper} {o : Oper} {a : Act} {w : World} (hw : Region.wanted o (yielded ops a.tmps) = true)
    (h : ∀ K : Act → World → Prop, (∀ a w, wpList P ops Q l a w → K a w) → Oper.wp P o a w K Q) : wpList P ops Q (o :: l) a w :=
  wpList_step fun K hK => by rw [if_pos hw]; exact h K hK
end Go.Gi
end
section
namespace Go.Gi
open Go.RowKit
def rfCh (L : List UInt8) (a : Nat) (e : Int) : ChR × Nat × Int :=
  let q1 := rNum L a e 4
  let q2 := rNum L q1.2.1 q1.2.2 1
  let q3 := rNum L q2.2.1 q2.2.2 2
  let q4 := rText L q3.2.1 q3.2.2 65535
  let q5 := rText L q4.2.1 q4.2.2 65535
  let q6 := rNum L q5.2.1 q5.2.2 1
  if (q6.1 : Int) = 2 then
    let q7 := rNum L q6.2.1 q6.2.2 2
    let q8 := rText L q7.2.1 q7.2.2 65535
    let q9 := rNum L q8.2.1 q8.2.2 4
    let q10 := rNum L q9.2.1 q9.2.2 2
    let q11 := rBool L q10.2.1 q10.2.2
    (⟨q1.1, q2.1, q3.1, q4.1, q5.1, q6.1, q7.1, q8.1, q9.1, q10.1, q11.1⟩, q11.2.1, q11.2.2)
  else (⟨q1.1, q2.1, q3.1, q4.1, q5.1, q6.1, 0, [], 0, 0, false⟩, q6.2.1, q6.2.2)
theorem blk_setRowF {w : World} {g T b : Nat} {cs : Array Value} (hb : Blk w g T cs) (cs' : Array Value) (h : g ≠ b) : Blk (w.setRow b cs') g T cs := (setRow_other w b g cs' h).trans hb
theorem results_cc {P : Program} {fn : Func} {p q : Tmp} {ty ty2 : TypeId} (h : fn.results = #[.cell p ty, .cell q ty2]) (tmps : Array Value) (w : World) (g : Nat) (t : TypeId) (cs : Array Value) (fr : Nat × Nat) (d : TypeDesc)
    (hp : tmps.getD p undef = .pointer (some ⟨g, 0, none⟩)) (hg : w.heap[g]? = some (.cells cs t fr))
    (hu : P.underlying ty = some d) (hd : (match d with | .struct _ | .array _ _ => true | _ => false) = true) (hi : (P.info? ty).map (·.size) = some cs.size)
    (g2 : Nat) (t2 : TypeId) (cs2 : Array Value) (fr2 : Nat × Nat) (d2 : TypeDesc)
    (hq : tmps.getD q undef = .pointer (some ⟨g2, 0, none⟩)) (hg2 : w.heap[g2]? = some (.cells cs2 t2 fr2))
    (hu2 : P.underlying ty2 = some d2) (hd2 : (match d2 with | .struct _ | .array _ _ => true | _ => false) = true) (hi2 : (P.info? ty2).map (·.size) = some cs2.size) :
    (results fn tmps).run P w = .ok (.tuple #[.agg cs, .agg cs2]) w := by
  have hp' : tmps[p]?.getD undef = .pointer (some ⟨g, 0, none⟩) := by simpa using hp
  have hq' : tmps[q]?.getD undef = .pointer (some ⟨g2, 0, none⟩) := by simpa using hq
  simp [results, h, hp', hq', asAddr, run_loadVar_row w g t ty cs fr d hg hu hd hi, run_loadVar_row w g2 t2 ty2 cs2 fr2 d2 hg2 hu2 hd2 hi2]
end Go.Gi
namespace Go.Proofs.Ytebickoieipjpaa
open Go.RowKit Go.Gi Go.GiRow Go.Proofs.YtebickoieipjpaaW.PrintWords Go.Proofs.YtebickoieipjpaaW.PrintLast Go.Proofs.YtebickoieipjpaaW.PrintMore
set_option maxRecDepth 20000
set_option linter.unusedSimpArgs false
set_option linter.unusedVariables false
theorem text_eq4 (s : ByteArray) (a : Nat) (e most : Int) (w : World) (hs : s.size ≤ maxLen) (ha : a ≤ s.size) (v : List UInt8) (a1 : Nat) (e1 : Int) (hn : rText s.data.toList a e most = (v, a1, e1)) :
    Calls Try.prog 49 #[.agg #[.string s, .int .i64 a, .int .i64 e], .int .i64 most] w fun e' w' =>
      e' = .returned (.tuple #[.agg #[.string s, .int .i64 a1, .int .i64 e1], .string (bs v)]) ∧ Below w.heap.size w w' := by
  have := rrtext_any s a e most w hs ha
  rw [hn] at this
  exact this
theorem bool_eq4 (s : ByteArray) (a : Nat) (e : Int) (w : World) (hs : s.size ≤ maxLen) (ha : a ≤ s.size) (v : Bool) (a1 : Nat) (e1 : Int) (hn : rBool s.data.toList a e = (v, a1, e1)) :
    Calls Try.prog 50 #[.agg #[.string s, .int .i64 a, .int .i64 e]] w fun e' w' =>
      e' = .returned (.tuple #[.agg #[.string s, .int .i64 a1, .int .i64 e1], .bool v]) ∧ Below w.heap.size w w' := by
  have := rrbool_any s a e w hs ha
  rw [hn] at this
  exact this
set_option maxHeartbeats 16000000 in
theorem rtake04_any {L : List UInt8} {a : Nat} {e : Int} (hL : L.length ≤ 9223372036854775807) (ha : a ≤ L.length) (kind tx prev next : Int) (w : World) :
    Calls Try.prog 28 #[.agg #[.string (bs L), .int .i64 (a : Nat), .int .i64 e], .agg #[.int .i64 kind, .int .i64 tx, .int .u64 prev, .int .u64 next, .int .u32 0, .int .i64 0, .int .i64 0, .string ⟨#[]⟩, .string ⟨#[]⟩, .int .i64 0, .int .i64 0, .string ⟨#[]⟩, .int .u32 0, .int .i64 0, .bool false, .slice none 0 0, .slice none 0 0]] w fun e' w' => e' = .returned (.tuple #[.agg #[.string (bs L), .int .i64 ((rfCh L a e).2.1 : Nat), .int .i64 (rfCh L a e).2.2], .agg #[.int .i64 kind, .int .i64 tx, .int .u64 prev, .int .u64 next, .int .u32 (rfCh L a e).1.page, .int .i64 (rfCh L a e).1.ok, .int .i64 (rfCh L a e).1.oa, .string (bs (rfCh L a e).1.os), .string (bs (rfCh L a e).1.oo), .int .i64 (rfCh L a e).1.undo, .int .i64 (rfCh L a e).1.index, .string (bs (rfCh L a e).1.key), .int .u32 (rfCh L a e).1.rpage, .int .i64 (rfCh L a e).1.rslot, .bool (rfCh L a e).1.live, .slice none 0 0, .slice none 0 0]]) ∧ Below w.heap.size w w' := by
  have Hlong := Lib.hid (show (bs L).size ≤ maxLen by rw [bs_size]; unfold maxLen; omega)
  have G0 := Lib.hid (show a ≤ (bs L).size by rw [bs_size]; exact ha)
  obtain ⟨v1, a1, e1, h1⟩ : ∃ v a' e', rNum L a e 4 = (v, a', e') := ⟨_, _, _, rfl⟩
  have b1 : v1 < 4294967296 := by have := rNum_lt L a e 4; rw [show (((4 : Nat) : Int)) = (4 : Int) from rfl, h1] at this; simpa using this
  have G1 := Lib.hid (show a1 ≤ (bs L).size by have := rNum_le L a e 4 (by have := G0.out; rwa [bs_size] at this); rw [h1] at this; rw [bs_size]; exact this)
  obtain ⟨v2, a2, e2, h2⟩ : ∃ v a' e', rNum L a1 e1 1 = (v, a', e') := ⟨_, _, _, rfl⟩
  have b2 : v2 < 256 := by have := rNum_lt L a1 e1 1; rw [show (((1 : Nat) : Int)) = (1 : Int) from rfl, h2] at this; simpa using this
  have G2 := Lib.hid (show a2 ≤ (bs L).size by have := rNum_le L a1 e1 1 (by have := G1.out; rwa [bs_size] at this); rw [h2] at this; rw [bs_size]; exact this)
  obtain ⟨v3, a3, e3, h3⟩ : ∃ v a' e', rNum L a2 e2 2 = (v, a', e') := ⟨_, _, _, rfl⟩
  have b3 : v3 < 65536 := by have := rNum_lt L a2 e2 2; rw [show (((2 : Nat) : Int)) = (2 : Int) from rfl, h3] at this; simpa using this
  have G3 := Lib.hid (show a3 ≤ (bs L).size by have := rNum_le L a2 e2 2 (by have := G2.out; rwa [bs_size] at this); rw [h3] at this; rw [bs_size]; exact this)
  obtain ⟨v4, a4, e4, h4⟩ : ∃ v a' e', rText L a3 e3 65535 = (v, a', e') := ⟨_, _, _, rfl⟩
  have G4 := Lib.hid (show a4 ≤ (bs L).size by have := rText_le L a3 e3 65535 (by have := G3.out; rwa [bs_size] at this); rw [h4] at this; rw [bs_size]; exact this)
  obtain ⟨v5, a5, e5, h5⟩ : ∃ v a' e', rText L a4 e4 65535 = (v, a', e') := ⟨_, _, _, rfl⟩
  have G5 := Lib.hid (show a5 ≤ (bs L).size by have := rText_le L a4 e4 65535 (by have := G4.out; rwa [bs_size] at this); rw [h5] at this; rw [bs_size]; exact this)
  obtain ⟨v6, a6, e6, h6⟩ : ∃ v a' e', rNum L a5 e5 1 = (v, a', e') := ⟨_, _, _, rfl⟩
  have b6 : v6 < 256 := by have := rNum_lt L a5 e5 1; rw [show (((1 : Nat) : Int)) = (1 : Int) from rfl, h6] at this; simpa using this
  have G6 := Lib.hid (show a6 ≤ (bs L).size by have := rNum_le L a5 e5 1 (by have := G5.out; rwa [bs_size] at this); rw [h6] at this; rw [bs_size]; exact this)
  obtain ⟨v7, a7, e7, h7⟩ : ∃ v a' e', rNum L a6 e6 2 = (v, a', e') := ⟨_, _, _, rfl⟩
  have b7 : v7 < 65536 := by have := rNum_lt L a6 e6 2; rw [show (((2 : Nat) : Int)) = (2 : Int) from rfl, h7] at this; simpa using this
  have G7 := Lib.hid (show a7 ≤ (bs L).size by have := rNum_le L a6 e6 2 (by have := G6.out; rwa [bs_size] at this); rw [h7] at this; rw [bs_size]; exact this)
  obtain ⟨v8, a8, e8, h8⟩ : ∃ v a' e', rText L a7 e7 65535 = (v, a', e') := ⟨_, _, _, rfl⟩
  have G8 := Lib.hid (show a8 ≤ (bs L).size by have := rText_le L a7 e7 65535 (by have := G7.out; rwa [bs_size] at this); rw [h8] at this; rw [bs_size]; exact this)
  obtain ⟨v9, a9, e9, h9⟩ : ∃ v a' e', rNum L a8 e8 4 = (v, a', e') := ⟨_, _, _, rfl⟩
  have b9 : v9 < 4294967296 := by have := rNum_lt L a8 e8 4; rw [show (((4 : Nat) : Int)) = (4 : Int) from rfl, h9] at this; simpa using this
  have G9 := Lib.hid (show a9 ≤ (bs L).size by have := rNum_le L a8 e8 4 (by have := G8.out; rwa [bs_size] at this); rw [h9] at this; rw [bs_size]; exact this)
  obtain ⟨v10, a10, e10, h10⟩ : ∃ v a' e', rNum L a9 e9 2 = (v, a', e') := ⟨_, _, _, rfl⟩
  have b10 : v10 < 65536 := by have := rNum_lt L a9 e9 2; rw [show (((2 : Nat) : Int)) = (2 : Int) from rfl, h10] at this; simpa using this
  have G10 := Lib.hid (show a10 ≤ (bs L).size by have := rNum_le L a9 e9 2 (by have := G9.out; rwa [bs_size] at this); rw [h10] at this; rw [bs_size]; exact this)
  obtain ⟨v11, a11, e11, h11⟩ : ∃ v a' e', rBool L a10 e10 = (v, a', e') := ⟨_, _, _, rfl⟩
  have G11 := Lib.hid (show a11 ≤ (bs L).size by have := rBool_le L a10 e10 (by have := G10.out; rwa [bs_size] at this); rw [h11] at this; rw [bs_size]; exact this)
  have HF0 := Lib.hid (show ¬ (v6 : Int) = 2 → rfCh L a e = (⟨v1, v2, v3, v4, v5, v6, 0, [], 0, 0, false⟩, a6, e6) from fun hu => by simp only [rfCh, h1, h2, h3, h4, h5, h6]; rw [if_neg hu])
  have HF1 := Lib.hid (show (v6 : Int) = 2 → rfCh L a e = (⟨v1, v2, v3, v4, v5, v6, v7, v8, v9, v10, v11⟩, a11, e11) from fun hu => by simp only [rfCh, h1, h2, h3, h4, h5, h6, h7, h8, h9, h10, h11]; rw [if_pos hu])
  generalize rfCh L a e = RES at *
  have E1 := Lib.hid (show rNum (bs L).data.toList a e 4 = (v1, a1, e1) by rw [toList_bs]; exact h1)
  have E2 := Lib.hid (show rNum (bs L).data.toList a1 e1 1 = (v2, a2, e2) by rw [toList_bs]; exact h2)
  have E3 := Lib.hid (show rNum (bs L).data.toList a2 e2 2 = (v3, a3, e3) by rw [toList_bs]; exact h3)
  have E4 := Lib.hid (show rText (bs L).data.toList a3 e3 65535 = (v4, a4, e4) by rw [toList_bs]; exact h4)
  have E5 := Lib.hid (show rText (bs L).data.toList a4 e4 65535 = (v5, a5, e5) by rw [toList_bs]; exact h5)
  have E6 := Lib.hid (show rNum (bs L).data.toList a5 e5 1 = (v6, a6, e6) by rw [toList_bs]; exact h6)
  have E7 := Lib.hid (show rNum (bs L).data.toList a6 e6 2 = (v7, a7, e7) by rw [toList_bs]; exact h7)
  have E8 := Lib.hid (show rText (bs L).data.toList a7 e7 65535 = (v8, a8, e8) by rw [toList_bs]; exact h8)
  have E9 := Lib.hid (show rNum (bs L).data.toList a8 e8 4 = (v9, a9, e9) by rw [toList_bs]; exact h9)
  have E10 := Lib.hid (show rNum (bs L).data.toList a9 e9 2 = (v10, a10, e10) by rw [toList_bs]; exact h10)
  have E11 := Lib.hid (show rBool (bs L).data.toList a10 e10 = (v11, a11, e11) by rw [toList_bs]; exact h11)
  clear h1 h2 h3 h4 h5 h6 h7 h8 h9 h10 h11 hL ha
  have hR := (((Blk.new w 81 #[.string (bs L), .int .i64 (a : Nat), .int .i64 e]).alloc (.cells #[.int .i64 kind, .int .i64 tx, .int .u64 prev, .int .u64 next, .int .u32 0, .int .i64 0, .int .i64 0, .string ⟨#[]⟩, .string ⟨#[]⟩, .int .i64 0, .int .i64 0, .string ⟨#[]⟩, .int .u32 0, .int .i64 0, .bool false, .slice none 0 0, .slice none 0 0] 47)).alloc (.cells #[.string ⟨#[]⟩, .int .i64 0, .int .i64 0] 81)).alloc (.cells #[.int .i64 0, .int .i64 0, .int .u64 0, .int .u64 0, .int .u32 0, .int .i64 0, .int .i64 0, .string ⟨#[]⟩, .string ⟨#[]⟩, .int .i64 0, .int .i64 0, .string ⟨#[]⟩, .int .u32 0, .int .i64 0, .bool false, .slice none 0 0, .slice none 0 0] 47)
  have hX := ((Blk.new (w.alloc (.cells #[.string (bs L), .int .i64 (a : Nat), .int .i64 e] 81)) 47 #[.int .i64 kind, .int .i64 tx, .int .u64 prev, .int .u64 next, .int .u32 0, .int .i64 0, .int .i64 0, .string ⟨#[]⟩, .string ⟨#[]⟩, .int .i64 0, .int .i64 0, .string ⟨#[]⟩, .int .u32 0, .int .i64 0, .bool false, .slice none 0 0, .slice none 0 0]).alloc (.cells #[.string ⟨#[]⟩, .int .i64 0, .int .i64 0] 81)).alloc (.cells #[.int .i64 0, .int .i64 0, .int .u64 0, .int .u64 0, .int .u32 0, .int .i64 0, .int .i64 0, .string ⟨#[]⟩, .string ⟨#[]⟩, .int .i64 0, .int .i64 0, .string ⟨#[]⟩, .int .u32 0, .int .i64 0, .bool false, .slice none 0 0, .slice none 0 0] 47)
  have hN4 := (Blk.new ((w.alloc (.cells #[.string (bs L), .int .i64 (a : Nat), .int .i64 e] 81)).alloc (.cells #[.int .i64 kind, .int .i64 tx, .int .u64 prev, .int .u64 next, .int .u32 0, .int .i64 0, .int .i64 0, .string ⟨#[]⟩, .string ⟨#[]⟩, .int .i64 0, .int .i64 0, .string ⟨#[]⟩, .int .u32 0, .int .i64 0, .bool false, .slice none 0 0, .slice none 0 0] 47)) 81 #[.string ⟨#[]⟩, .int .i64 0, .int .i64 0]).alloc (.cells #[.int .i64 0, .int .i64 0, .int .u64 0, .int .u64 0, .int .u32 0, .int .i64 0, .int .i64 0, .string ⟨#[]⟩, .string ⟨#[]⟩, .int .i64 0, .int .i64 0, .string ⟨#[]⟩, .int .u32 0, .int .i64 0, .bool false, .slice none 0 0, .slice none 0 0] 47)
  have hN5 := Blk.new (((w.alloc (.cells #[.string (bs L), .int .i64 (a : Nat), .int .i64 e] 81)).alloc (.cells #[.int .i64 kind, .int .i64 tx, .int .u64 prev, .int .u64 next, .int .u32 0, .int .i64 0, .int .i64 0, .string ⟨#[]⟩, .string ⟨#[]⟩, .int .i64 0, .int .i64 0, .string ⟨#[]⟩, .int .u32 0, .int .i64 0, .bool false, .slice none 0 0, .slice none 0 0] 47)).alloc (.cells #[.string ⟨#[]⟩, .int .i64 0, .int .i64 0] 81)) 47 #[.int .i64 0, .int .i64 0, .int .u64 0, .int .u64 0, .int .u32 0, .int .i64 0, .int .i64 0, .string ⟨#[]⟩, .string ⟨#[]⟩, .int .i64 0, .int .i64 0, .string ⟨#[]⟩, .int .u32 0, .int .i64 0, .bool false, .slice none 0 0, .slice none 0 0]
  have hK := balloc (balloc (balloc (balloc (Below.refl w.heap.size w) (.cells #[.string (bs L), .int .i64 (a : Nat), .int .i64 e] 81)) (.cells #[.int .i64 kind, .int .i64 tx, .int .u64 prev, .int .u64 next, .int .u32 0, .int .i64 0, .int .i64 0, .string ⟨#[]⟩, .string ⟨#[]⟩, .int .i64 0, .int .i64 0, .string ⟨#[]⟩, .int .u32 0, .int .i64 0, .bool false, .slice none 0 0, .slice none 0 0] 47)) (.cells #[.string ⟨#[]⟩, .int .i64 0, .int .i64 0] 81)) (.cells #[.int .i64 0, .int .i64 0, .int .u64 0, .int .u64 0, .int .u32 0, .int .i64 0, .int .i64 0, .string ⟨#[]⟩, .string ⟨#[]⟩, .int .i64 0, .int .i64 0, .string ⟨#[]⟩, .int .u32 0, .int .i64 0, .bool false, .slice none 0 0, .slice none 0 0] 47)
  simp only [World.size_alloc] at hX hN4 hN5
  go_enter Try.func28, Try.ntmps28
  go_upto_region 1 with fail
  generalize (((w.alloc (.cells #[.string (bs L), .int .i64 (a : Nat), .int .i64 e] 81)).alloc (.cells #[.int .i64 kind, .int .i64 tx, .int .u64 prev, .int .u64 next, .int .u32 0, .int .i64 0, .int .i64 0, .string ⟨#[]⟩, .string ⟨#[]⟩, .int .i64 0, .int .i64 0, .string ⟨#[]⟩, .int .u32 0, .int .i64 0, .bool false, .slice none 0 0, .slice none 0 0] 47)).alloc (.cells #[.string ⟨#[]⟩, .int .i64 0, .int .i64 0] 81)).alloc (.cells #[.int .i64 0, .int .i64 0, .int .u64 0, .int .u64 0, .int .u32 0, .int .i64 0, .int .i64 0, .string ⟨#[]⟩, .string ⟨#[]⟩, .int .i64 0, .int .i64 0, .string ⟨#[]⟩, .int .u32 0, .int .i64 0, .bool false, .slice none 0 0, .slice none 0 0] 47) = w1 at *
  have HR := Lib.hid hR
  have HX := Lib.hid hX
  have H4 := Lib.hid hN4
  have H5 := Lib.hid hN5
  have HK := Lib.hid hK
  clear hR hX hN4 hN5 hK
  have Hw := Lib.hid (show w.heap.size = w.heap.size from rfl)
  generalize hrb : w.heap.size = rb at *
  go_upto_region 2 with fail
  go_cut [6] from 8 to 11 (fun s6 wx => s6 = .int .u64 (v1 : Nat) ∧ Hid (Blk wx rb 81 #[.string (bs L), .int .i64 (a1 : Nat), .int .i64 e1]) ∧ Hid (Blk wx (rb + 1) 47 #[.int .i64 kind, .int .i64 tx, .int .u64 prev, .int .u64 next, .int .u32 0, .int .i64 0, .int .i64 0, .string ⟨#[]⟩, .string ⟨#[]⟩, .int .i64 0, .int .i64 0, .string ⟨#[]⟩, .int .u32 0, .int .i64 0, .bool false, .slice none 0 0, .slice none 0 0]) ∧ Hid (Blk wx (rb + 2) 81 #[.string ⟨#[]⟩, .int .i64 0, .int .i64 0]) ∧ Hid (Blk wx (rb + 1 + 1 + 1) 47 #[.int .i64 0, .int .i64 0, .int .u64 0, .int .u64 0, .int .u32 0, .int .i64 0, .int .i64 0, .string ⟨#[]⟩, .string ⟨#[]⟩, .int .i64 0, .int .i64 0, .string ⟨#[]⟩, .int .u32 0, .int .i64 0, .bool false, .slice none 0 0, .slice none 0 0]) ∧ Hid (Below rb w wx))
  case first =>
    go_wp2_with (first | (with_reducible refine isLoadN 81 (.tmp 2) ?_; with_unfolding_all refine wpList_load_row rfl 81 (.tmp 2) rfl rb (by kernel_rfl) 81 #[.string (bs L), .int .i64 (a : Nat), .int .i64 e] (0, 0) _ HR.out Try.underlying81 rfl (by kernel_rfl) ?_) | (go_at_call 27; refine (rnum_eq _ _ _ _ _ Hlong.out G0.out _ _ _ E1.out).mono ?_; rintro e' w2 ⟨rfl, hb5⟩; have n_HR := Lib.hid (HR.out.step hb5); have n_HX := Lib.hid (HX.out.step hb5); have n_H4 := Lib.hid (H4.out.step hb5); have n_H5 := Lib.hid (H5.out.step hb5); have n_HK := Lib.hid (HK.out.trans (hb5.mono (by have h_ := HK.out.size; omega))); clear hb5 HR HX H4 H5 HK; have HR := n_HR; have HX := n_HX; have H4 := n_H4; have H5 := n_H5; have HK := n_HK; clear n_HR n_HX n_H4 n_H5 n_HK) | (with_reducible refine isStoreN 81 (.tmp 2) (.tmp 10) ?_; with_unfolding_all refine wpList_store_row rfl 81 (.tmp 2) (.tmp 10) rfl rb #[.string (bs L), .int .i64 (a1 : Nat), .int .i64 e1] (by kernel_rfl) (by kernel_rfl) 81 #[.string (bs L), .int .i64 (a : Nat), .int .i64 e] HR.out (by kernel_rfl) rfl (by simp [Value.oneCell']) ?_))
    go_meet
    exact ⟨rfl, Lib.hid (blk_setRow (cs' := #[.string (bs L), .int .i64 (a1 : Nat), .int .i64 e1]) HR.out), Lib.hid (blk_setRowF HX.out #[.string (bs L), .int .i64 (a1 : Nat), .int .i64 e1] (by omega)), Lib.hid (blk_setRowF H4.out #[.string (bs L), .int .i64 (a1 : Nat), .int .i64 e1] (by omega)), Lib.hid (blk_setRowF H5.out #[.string (bs L), .int .i64 (a1 : Nat), .int .i64 e1] (by omega)), Lib.hid (setRow_below HK.out (Nat.le_refl _) #[.string (bs L), .int .i64 (a1 : Nat), .int .i64 e1])⟩
  case rest =>
  clear HR HX H4 H5 HK
  obtain ⟨rfl, HR, HX, H4, H5, HK⟩ := hcut
  go_upto_region 3 with fail
  have c_ := HX.out.cell 4
  have f_ := HX.out.frozen 4
  go_cut [] from 12 to 14 (fun wx => Hid (Blk wx rb 81 #[.string (bs L), .int .i64 (a1 : Nat), .int .i64 e1]) ∧ Hid (Blk wx (rb + 1) 47 #[.int .i64 kind, .int .i64 tx, .int .u64 prev, .int .u64 next, .int .u32 v1, .int .i64 0, .int .i64 0, .string ⟨#[]⟩, .string ⟨#[]⟩, .int .i64 0, .int .i64 0, .string ⟨#[]⟩, .int .u32 0, .int .i64 0, .bool false, .slice none 0 0, .slice none 0 0]) ∧ Hid (Blk wx (rb + 2) 81 #[.string ⟨#[]⟩, .int .i64 0, .int .i64 0]) ∧ Hid (Blk wx (rb + 1 + 1 + 1) 47 #[.int .i64 0, .int .i64 0, .int .u64 0, .int .u64 0, .int .u32 0, .int .i64 0, .int .i64 0, .string ⟨#[]⟩, .string ⟨#[]⟩, .int .i64 0, .int .i64 0, .string ⟨#[]⟩, .int .u32 0, .int .i64 0, .bool false, .slice none 0 0, .slice none 0 0]) ∧ Hid (Below rb w wx))
  case first =>
    go_wp2_with fail
    go_meet
    exact ⟨Lib.hid (HR.out.far (p := ⟨rb + 1, 4, none⟩) (by dsimp only; omega) _), Lib.hid (HX.out.set_ 4 (.int .u32 v1)), Lib.hid (H4.out.far (p := ⟨rb + 1, 4, none⟩) (by dsimp only; omega) _), Lib.hid (H5.out.far (p := ⟨rb + 1, 4, none⟩) (by dsimp only; omega) _), Lib.hid (HK.out.setCell (p := ⟨rb + 1, 4, none⟩) (Nat.le_succ _) _)⟩
  case rest =>
  clear HR HX H4 H5 HK c_ f_
  obtain ⟨HR, HX, H4, H5, HK⟩ := hcut
  go_upto_region 4 with fail
  go_cut [6] from 15 to 19 (fun s6 wx => s6 = .int .u64 (v2 : Nat) ∧ Hid (Blk wx rb 81 #[.string (bs L), .int .i64 (a2 : Nat), .int .i64 e2]) ∧ Hid (Blk wx (rb + 1) 47 #[.int .i64 kind, .int .i64 tx, .int .u64 prev, .int .u64 next, .int .u32 v1, .int .i64 0, .int .i64 0, .string ⟨#[]⟩, .string ⟨#[]⟩, .int .i64 0, .int .i64 0, .string ⟨#[]⟩, .int .u32 0, .int .i64 0, .bool false, .slice none 0 0, .slice none 0 0]) ∧ Hid (Blk wx (rb + 2) 81 #[.string ⟨#[]⟩, .int .i64 0, .int .i64 0]) ∧ Hid (Blk wx (rb + 1 + 1 + 1) 47 #[.int .i64 0, .int .i64 0, .int .u64 0, .int .u64 0, .int .u32 0, .int .i64 0, .int .i64 0, .string ⟨#[]⟩, .string ⟨#[]⟩, .int .i64 0, .int .i64 0, .string ⟨#[]⟩, .int .u32 0, .int .i64 0, .bool false, .slice none 0 0, .slice none 0 0]) ∧ Hid (Below rb w wx))
  case first =>
    go_wp2_with (first | (with_reducible refine isLoadN 81 (.tmp 2) ?_; with_unfolding_all refine wpList_load_row rfl 81 (.tmp 2) rfl rb (by kernel_rfl) 81 #[.string (bs L), .int .i64 (a1 : Nat), .int .i64 e1] (0, 0) _ HR.out Try.underlying81 rfl (by kernel_rfl) ?_) | (go_at_call 27; refine (rnum_eq _ _ _ _ _ Hlong.out G1.out _ _ _ E2.out).mono ?_; rintro e' w2 ⟨rfl, hb5⟩; have n_HR := Lib.hid (HR.out.step hb5); have n_HX := Lib.hid (HX.out.step hb5); have n_H4 := Lib.hid (H4.out.step hb5); have n_H5 := Lib.hid (H5.out.step hb5); have n_HK := Lib.hid (HK.out.trans (hb5.mono (by have h_ := HK.out.size; omega))); clear hb5 HR HX H4 H5 HK; have HR := n_HR; have HX := n_HX; have H4 := n_H4; have H5 := n_H5; have HK := n_HK; clear n_HR n_HX n_H4 n_H5 n_HK) | (with_reducible refine isStoreN 81 (.tmp 2) (.tmp 18) ?_; with_unfolding_all refine wpList_store_row rfl 81 (.tmp 2) (.tmp 18) rfl rb #[.string (bs L), .int .i64 (a2 : Nat), .int .i64 e2] (by kernel_rfl) (by kernel_rfl) 81 #[.string (bs L), .int .i64 (a1 : Nat), .int .i64 e1] HR.out (by kernel_rfl) rfl (by simp [Value.oneCell']) ?_))
    go_meet
    exact ⟨rfl, Lib.hid (blk_setRow (cs' := #[.string (bs L), .int .i64 (a2 : Nat), .int .i64 e2]) HR.out), Lib.hid (blk_setRowF HX.out #[.string (bs L), .int .i64 (a2 : Nat), .int .i64 e2] (by omega)), Lib.hid (blk_setRowF H4.out #[.string (bs L), .int .i64 (a2 : Nat), .int .i64 e2] (by omega)), Lib.hid (blk_setRowF H5.out #[.string (bs L), .int .i64 (a2 : Nat), .int .i64 e2] (by omega)), Lib.hid (setRow_below HK.out (Nat.le_refl _) #[.string (bs L), .int .i64 (a2 : Nat), .int .i64 e2])⟩
  case rest =>
  clear HR HX H4 H5 HK
  obtain ⟨rfl, HR, HX, H4, H5, HK⟩ := hcut
  go_upto_region 5 with fail
  have c_ := HX.out.cell 5
  have f_ := HX.out.frozen 5
  go_cut [] from 20 to 23 (fun wx => Hid (Blk wx rb 81 #[.string (bs L), .int .i64 (a2 : Nat), .int .i64 e2]) ∧ Hid (Blk wx (rb + 1) 47 #[.int .i64 kind, .int .i64 tx, .int .u64 prev, .int .u64 next, .int .u32 v1, .int .i64 v2, .int .i64 0, .string ⟨#[]⟩, .string ⟨#[]⟩, .int .i64 0, .int .i64 0, .string ⟨#[]⟩, .int .u32 0, .int .i64 0, .bool false, .slice none 0 0, .slice none 0 0]) ∧ Hid (Blk wx (rb + 2) 81 #[.string ⟨#[]⟩, .int .i64 0, .int .i64 0]) ∧ Hid (Blk wx (rb + 1 + 1 + 1) 47 #[.int .i64 0, .int .i64 0, .int .u64 0, .int .u64 0, .int .u32 0, .int .i64 0, .int .i64 0, .string ⟨#[]⟩, .string ⟨#[]⟩, .int .i64 0, .int .i64 0, .string ⟨#[]⟩, .int .u32 0, .int .i64 0, .bool false, .slice none 0 0, .slice none 0 0]) ∧ Hid (Below rb w wx))
  case first =>
    go_wp2_with fail
    go_meet
    exact ⟨Lib.hid (HR.out.far (p := ⟨rb + 1, 5, none⟩) (by dsimp only; omega) _), Lib.hid (HX.out.set_ 5 (.int .i64 v2)), Lib.hid (H4.out.far (p := ⟨rb + 1, 5, none⟩) (by dsimp only; omega) _), Lib.hid (H5.out.far (p := ⟨rb + 1, 5, none⟩) (by dsimp only; omega) _), Lib.hid (HK.out.setCell (p := ⟨rb + 1, 5, none⟩) (Nat.le_succ _) _)⟩
  case rest =>
  clear HR HX H4 H5 HK c_ f_
  obtain ⟨HR, HX, H4, H5, HK⟩ := hcut
  go_upto_region 6 with fail
  go_cut [6] from 24 to 28 (fun s6 wx => s6 = .int .u64 (v3 : Nat) ∧ Hid (Blk wx rb 81 #[.string (bs L), .int .i64 (a3 : Nat), .int .i64 e3]) ∧ Hid (Blk wx (rb + 1) 47 #[.int .i64 kind, .int .i64 tx, .int .u64 prev, .int .u64 next, .int .u32 v1, .int .i64 v2, .int .i64 0, .string ⟨#[]⟩, .string ⟨#[]⟩, .int .i64 0, .int .i64 0, .string ⟨#[]⟩, .int .u32 0, .int .i64 0, .bool false, .slice none 0 0, .slice none 0 0]) ∧ Hid (Blk wx (rb + 2) 81 #[.string ⟨#[]⟩, .int .i64 0, .int .i64 0]) ∧ Hid (Blk wx (rb + 1 + 1 + 1) 47 #[.int .i64 0, .int .i64 0, .int .u64 0, .int .u64 0, .int .u32 0, .int .i64 0, .int .i64 0, .string ⟨#[]⟩, .string ⟨#[]⟩, .int .i64 0, .int .i64 0, .string ⟨#[]⟩, .int .u32 0, .int .i64 0, .bool false, .slice none 0 0, .slice none 0 0]) ∧ Hid (Below rb w wx))
  case first =>
    go_wp2_with (first | (with_reducible refine isLoadN 81 (.tmp 2) ?_; with_unfolding_all refine wpList_load_row rfl 81 (.tmp 2) rfl rb (by kernel_rfl) 81 #[.string (bs L), .int .i64 (a2 : Nat), .int .i64 e2] (0, 0) _ HR.out Try.underlying81 rfl (by kernel_rfl) ?_) | (go_at_call 27; refine (rnum_eq _ _ _ _ _ Hlong.out G2.out _ _ _ E3.out).mono ?_; rintro e' w2 ⟨rfl, hb5⟩; have n_HR := Lib.hid (HR.out.step hb5); have n_HX := Lib.hid (HX.out.step hb5); have n_H4 := Lib.hid (H4.out.step hb5); have n_H5 := Lib.hid (H5.out.step hb5); have n_HK := Lib.hid (HK.out.trans (hb5.mono (by have h_ := HK.out.size; omega))); clear hb5 HR HX H4 H5 HK; have HR := n_HR; have HX := n_HX; have H4 := n_H4; have H5 := n_H5; have HK := n_HK; clear n_HR n_HX n_H4 n_H5 n_HK) | (with_reducible refine isStoreN 81 (.tmp 2) (.tmp 27) ?_; with_unfolding_all refine wpList_store_row rfl 81 (.tmp 2) (.tmp 27) rfl rb #[.string (bs L), .int .i64 (a3 : Nat), .int .i64 e3] (by kernel_rfl) (by kernel_rfl) 81 #[.string (bs L), .int .i64 (a2 : Nat), .int .i64 e2] HR.out (by kernel_rfl) rfl (by simp [Value.oneCell']) ?_))
    go_meet
    exact ⟨rfl, Lib.hid (blk_setRow (cs' := #[.string (bs L), .int .i64 (a3 : Nat), .int .i64 e3]) HR.out), Lib.hid (blk_setRowF HX.out #[.string (bs L), .int .i64 (a3 : Nat), .int .i64 e3] (by omega)), Lib.hid (blk_setRowF H4.out #[.string (bs L), .int .i64 (a3 : Nat), .int .i64 e3] (by omega)), Lib.hid (blk_setRowF H5.out #[.string (bs L), .int .i64 (a3 : Nat), .int .i64 e3] (by omega)), Lib.hid (setRow_below HK.out (Nat.le_refl _) #[.string (bs L), .int .i64 (a3 : Nat), .int .i64 e3])⟩
  case rest =>
  clear HR HX H4 H5 HK
  obtain ⟨rfl, HR, HX, H4, H5, HK⟩ := hcut
  go_upto_region 7 with fail
  have c_ := HX.out.cell 6
  have f_ := HX.out.frozen 6
  go_cut [] from 29 to 32 (fun wx => Hid (Blk wx rb 81 #[.string (bs L), .int .i64 (a3 : Nat), .int .i64 e3]) ∧ Hid (Blk wx (rb + 1) 47 #[.int .i64 kind, .int .i64 tx, .int .u64 prev, .int .u64 next, .int .u32 v1, .int .i64 v2, .int .i64 v3, .string ⟨#[]⟩, .string ⟨#[]⟩, .int .i64 0, .int .i64 0, .string ⟨#[]⟩, .int .u32 0, .int .i64 0, .bool false, .slice none 0 0, .slice none 0 0]) ∧ Hid (Blk wx (rb + 2) 81 #[.string ⟨#[]⟩, .int .i64 0, .int .i64 0]) ∧ Hid (Blk wx (rb + 1 + 1 + 1) 47 #[.int .i64 0, .int .i64 0, .int .u64 0, .int .u64 0, .int .u32 0, .int .i64 0, .int .i64 0, .string ⟨#[]⟩, .string ⟨#[]⟩, .int .i64 0, .int .i64 0, .string ⟨#[]⟩, .int .u32 0, .int .i64 0, .bool false, .slice none 0 0, .slice none 0 0]) ∧ Hid (Below rb w wx))
  case first =>
    go_wp2_with fail
    go_meet
    exact ⟨Lib.hid (HR.out.far (p := ⟨rb + 1, 6, none⟩) (by dsimp only; omega) _), Lib.hid (HX.out.set_ 6 (.int .i64 v3)), Lib.hid (H4.out.far (p := ⟨rb + 1, 6, none⟩) (by dsimp only; omega) _), Lib.hid (H5.out.far (p := ⟨rb + 1, 6, none⟩) (by dsimp only; omega) _), Lib.hid (HK.out.setCell (p := ⟨rb + 1, 6, none⟩) (Nat.le_succ _) _)⟩
  case rest =>
  clear HR HX H4 H5 HK c_ f_
  obtain ⟨HR, HX, H4, H5, HK⟩ := hcut
  go_upto_region 8 with fail
  go_cut [] from 33 to 39 (fun wx => Hid (Blk wx rb 81 #[.string (bs L), .int .i64 (a4 : Nat), .int .i64 e4]) ∧ Hid (Blk wx (rb + 1) 47 #[.int .i64 kind, .int .i64 tx, .int .u64 prev, .int .u64 next, .int .u32 v1, .int .i64 v2, .int .i64 v3, .string (bs v4), .string ⟨#[]⟩, .int .i64 0, .int .i64 0, .string ⟨#[]⟩, .int .u32 0, .int .i64 0, .bool false, .slice none 0 0, .slice none 0 0]) ∧ Hid (Blk wx (rb + 2) 81 #[.string ⟨#[]⟩, .int .i64 0, .int .i64 0]) ∧ Hid (Blk wx (rb + 1 + 1 + 1) 47 #[.int .i64 0, .int .i64 0, .int .u64 0, .int .u64 0, .int .u32 0, .int .i64 0, .int .i64 0, .string ⟨#[]⟩, .string ⟨#[]⟩, .int .i64 0, .int .i64 0, .string ⟨#[]⟩, .int .u32 0, .int .i64 0, .bool false, .slice none 0 0, .slice none 0 0]) ∧ Hid (Below rb w wx))
  case first =>
    go_wp2_with (first | (with_reducible refine isLoadN 81 (.tmp 2) ?_; with_unfolding_all refine wpList_load_row rfl 81 (.tmp 2) rfl rb (by kernel_rfl) 81 #[.string (bs L), .int .i64 (a3 : Nat), .int .i64 e3] (0, 0) _ HR.out Try.underlying81 rfl (by kernel_rfl) ?_) | (go_at_call 49; refine (text_eq4 _ _ _ _ _ Hlong.out G3.out _ _ _ E4.out).mono ?_; rintro e' w2 ⟨rfl, hb5⟩; have n_HR := Lib.hid (HR.out.step hb5); have n_HX := Lib.hid (HX.out.step hb5); have n_H4 := Lib.hid (H4.out.step hb5); have n_H5 := Lib.hid (H5.out.step hb5); have n_HK := Lib.hid (HK.out.trans (hb5.mono (by have h_ := HK.out.size; omega))); clear hb5 HR HX H4 H5 HK; have HR := n_HR; have HX := n_HX; have H4 := n_H4; have H5 := n_H5; have HK := n_HK; clear n_HR n_HX n_H4 n_H5 n_HK) | (with_reducible refine isStoreN 81 (.tmp 2) (.tmp 36) ?_; with_unfolding_all refine wpList_store_row rfl 81 (.tmp 2) (.tmp 36) rfl rb #[.string (bs L), .int .i64 (a4 : Nat), .int .i64 e4] (by kernel_rfl) (by kernel_rfl) 81 #[.string (bs L), .int .i64 (a3 : Nat), .int .i64 e3] HR.out (by kernel_rfl) rfl (by simp [Value.oneCell']) ?_; have c_ := (blk_setRowF HX.out #[.string (bs L), .int .i64 (a4 : Nat), .int .i64 e4] (show rb + 1 ≠ rb by omega)).cell 7; have f_ := (blk_setRowF HX.out #[.string (bs L), .int .i64 (a4 : Nat), .int .i64 e4] (show rb + 1 ≠ rb by omega)).frozen 7))
    go_meet
    exact ⟨Lib.hid ((blk_setRow (cs' := #[.string (bs L), .int .i64 (a4 : Nat), .int .i64 e4]) HR.out).far (p := ⟨rb + 1, 7, none⟩) (by dsimp only; omega) _), Lib.hid ((blk_setRowF HX.out #[.string (bs L), .int .i64 (a4 : Nat), .int .i64 e4] (by omega)).set_ 7 (.string (bs v4))), Lib.hid ((blk_setRowF H4.out #[.string (bs L), .int .i64 (a4 : Nat), .int .i64 e4] (by omega)).far (p := ⟨rb + 1, 7, none⟩) (by dsimp only; omega) _), Lib.hid ((blk_setRowF H5.out #[.string (bs L), .int .i64 (a4 : Nat), .int .i64 e4] (by omega)).far (p := ⟨rb + 1, 7, none⟩) (by dsimp only; omega) _), Lib.hid ((setRow_below HK.out (Nat.le_refl _) #[.string (bs L), .int .i64 (a4 : Nat), .int .i64 e4]).setCell (p := ⟨rb + 1, 7, none⟩) (Nat.le_succ _) _)⟩
  case rest =>
  clear HR HX H4 H5 HK
  obtain ⟨HR, HX, H4, H5, HK⟩ := hcut
  go_upto_region 9 with fail
  go_cut [] from 40 to 46 (fun wx => Hid (Blk wx rb 81 #[.string (bs L), .int .i64 (a5 : Nat), .int .i64 e5]) ∧ Hid (Blk wx (rb + 1) 47 #[.int .i64 kind, .int .i64 tx, .int .u64 prev, .int .u64 next, .int .u32 v1, .int .i64 v2, .int .i64 v3, .string (bs v4), .string (bs v5), .int .i64 0, .int .i64 0, .string ⟨#[]⟩, .int .u32 0, .int .i64 0, .bool false, .slice none 0 0, .slice none 0 0]) ∧ Hid (Blk wx (rb + 2) 81 #[.string ⟨#[]⟩, .int .i64 0, .int .i64 0]) ∧ Hid (Blk wx (rb + 1 + 1 + 1) 47 #[.int .i64 0, .int .i64 0, .int .u64 0, .int .u64 0, .int .u32 0, .int .i64 0, .int .i64 0, .string ⟨#[]⟩, .string ⟨#[]⟩, .int .i64 0, .int .i64 0, .string ⟨#[]⟩, .int .u32 0, .int .i64 0, .bool false, .slice none 0 0, .slice none 0 0]) ∧ Hid (Below rb w wx))
  case first =>
    go_wp2_with (first | (with_reducible refine isLoadN 81 (.tmp 2) ?_; with_unfolding_all refine wpList_load_row rfl 81 (.tmp 2) rfl rb (by kernel_rfl) 81 #[.string (bs L), .int .i64 (a4 : Nat), .int .i64 e4] (0, 0) _ HR.out Try.underlying81 rfl (by kernel_rfl) ?_) | (go_at_call 49; refine (text_eq4 _ _ _ _ _ Hlong.out G4.out _ _ _ E5.out).mono ?_; rintro e' w2 ⟨rfl, hb5⟩; have n_HR := Lib.hid (HR.out.step hb5); have n_HX := Lib.hid (HX.out.step hb5); have n_H4 := Lib.hid (H4.out.step hb5); have n_H5 := Lib.hid (H5.out.step hb5); have n_HK := Lib.hid (HK.out.trans (hb5.mono (by have h_ := HK.out.size; omega))); clear hb5 HR HX H4 H5 HK; have HR := n_HR; have HX := n_HX; have H4 := n_H4; have H5 := n_H5; have HK := n_HK; clear n_HR n_HX n_H4 n_H5 n_HK) | (with_reducible refine isStoreN 81 (.tmp 2) (.tmp 43) ?_; with_unfolding_all refine wpList_store_row rfl 81 (.tmp 2) (.tmp 43) rfl rb #[.string (bs L), .int .i64 (a5 : Nat), .int .i64 e5] (by kernel_rfl) (by kernel_rfl) 81 #[.string (bs L), .int .i64 (a4 : Nat), .int .i64 e4] HR.out (by kernel_rfl) rfl (by simp [Value.oneCell']) ?_; have c_ := (blk_setRowF HX.out #[.string (bs L), .int .i64 (a5 : Nat), .int .i64 e5] (show rb + 1 ≠ rb by omega)).cell 8; have f_ := (blk_setRowF HX.out #[.string (bs L), .int .i64 (a5 : Nat), .int .i64 e5] (show rb + 1 ≠ rb by omega)).frozen 8))
    go_meet
    exact ⟨Lib.hid ((blk_setRow (cs' := #[.string (bs L), .int .i64 (a5 : Nat), .int .i64 e5]) HR.out).far (p := ⟨rb + 1, 8, none⟩) (by dsimp only; omega) _), Lib.hid ((blk_setRowF HX.out #[.string (bs L), .int .i64 (a5 : Nat), .int .i64 e5] (by omega)).set_ 8 (.string (bs v5))), Lib.hid ((blk_setRowF H4.out #[.string (bs L), .int .i64 (a5 : Nat), .int .i64 e5] (by omega)).far (p := ⟨rb + 1, 8, none⟩) (by dsimp only; omega) _), Lib.hid ((blk_setRowF H5.out #[.string (bs L), .int .i64 (a5 : Nat), .int .i64 e5] (by omega)).far (p := ⟨rb + 1, 8, none⟩) (by dsimp only; omega) _), Lib.hid ((setRow_below HK.out (Nat.le_refl _) #[.string (bs L), .int .i64 (a5 : Nat), .int .i64 e5]).setCell (p := ⟨rb + 1, 8, none⟩) (Nat.le_succ _) _)⟩
  case rest =>
  clear HR HX H4 H5 HK
  obtain ⟨HR, HX, H4, H5, HK⟩ := hcut
  go_upto_region 10 with fail
  go_cut [6] from 47 to 51 (fun s6 wx => s6 = .int .u64 (v6 : Nat) ∧ Hid (Blk wx rb 81 #[.string (bs L), .int .i64 (a6 : Nat), .int .i64 e6]) ∧ Hid (Blk wx (rb + 1) 47 #[.int .i64 kind, .int .i64 tx, .int .u64 prev, .int .u64 next, .int .u32 v1, .int .i64 v2, .int .i64 v3, .string (bs v4), .string (bs v5), .int .i64 0, .int .i64 0, .string ⟨#[]⟩, .int .u32 0, .int .i64 0, .bool false, .slice none 0 0, .slice none 0 0]) ∧ Hid (Blk wx (rb + 2) 81 #[.string ⟨#[]⟩, .int .i64 0, .int .i64 0]) ∧ Hid (Blk wx (rb + 1 + 1 + 1) 47 #[.int .i64 0, .int .i64 0, .int .u64 0, .int .u64 0, .int .u32 0, .int .i64 0, .int .i64 0, .string ⟨#[]⟩, .string ⟨#[]⟩, .int .i64 0, .int .i64 0, .string ⟨#[]⟩, .int .u32 0, .int .i64 0, .bool false, .slice none 0 0, .slice none 0 0]) ∧ Hid (Below rb w wx))
  case first =>
    go_wp2_with (first | (with_reducible refine isLoadN 81 (.tmp 2) ?_; with_unfolding_all refine wpList_load_row rfl 81 (.tmp 2) rfl rb (by kernel_rfl) 81 #[.string (bs L), .int .i64 (a5 : Nat), .int .i64 e5] (0, 0) _ HR.out Try.underlying81 rfl (by kernel_rfl) ?_) | (go_at_call 27; refine (rnum_eq _ _ _ _ _ Hlong.out G5.out _ _ _ E6.out).mono ?_; rintro e' w2 ⟨rfl, hb5⟩; have n_HR := Lib.hid (HR.out.step hb5); have n_HX := Lib.hid (HX.out.step hb5); have n_H4 := Lib.hid (H4.out.step hb5); have n_H5 := Lib.hid (H5.out.step hb5); have n_HK := Lib.hid (HK.out.trans (hb5.mono (by have h_ := HK.out.size; omega))); clear hb5 HR HX H4 H5 HK; have HR := n_HR; have HX := n_HX; have H4 := n_H4; have H5 := n_H5; have HK := n_HK; clear n_HR n_HX n_H4 n_H5 n_HK) | (with_reducible refine isStoreN 81 (.tmp 2) (.tmp 50) ?_; with_unfolding_all refine wpList_store_row rfl 81 (.tmp 2) (.tmp 50) rfl rb #[.string (bs L), .int .i64 (a6 : Nat), .int .i64 e6] (by kernel_rfl) (by kernel_rfl) 81 #[.string (bs L), .int .i64 (a5 : Nat), .int .i64 e5] HR.out (by kernel_rfl) rfl (by simp [Value.oneCell']) ?_))
    go_meet
    exact ⟨rfl, Lib.hid (blk_setRow (cs' := #[.string (bs L), .int .i64 (a6 : Nat), .int .i64 e6]) HR.out), Lib.hid (blk_setRowF HX.out #[.string (bs L), .int .i64 (a6 : Nat), .int .i64 e6] (by omega)), Lib.hid (blk_setRowF H4.out #[.string (bs L), .int .i64 (a6 : Nat), .int .i64 e6] (by omega)), Lib.hid (blk_setRowF H5.out #[.string (bs L), .int .i64 (a6 : Nat), .int .i64 e6] (by omega)), Lib.hid (setRow_below HK.out (Nat.le_refl _) #[.string (bs L), .int .i64 (a6 : Nat), .int .i64 e6])⟩
  case rest =>
  clear HR HX H4 H5 HK
  obtain ⟨rfl, HR, HX, H4, H5, HK⟩ := hcut
  go_upto_region 11 with fail
  have c_ := HX.out.cell 9
  have f_ := HX.out.frozen 9
  go_cut [] from 52 to 54 (fun wx => Hid (Blk wx rb 81 #[.string (bs L), .int .i64 (a6 : Nat), .int .i64 e6]) ∧ Hid (Blk wx (rb + 1) 47 #[.int .i64 kind, .int .i64 tx, .int .u64 prev, .int .u64 next, .int .u32 v1, .int .i64 v2, .int .i64 v3, .string (bs v4), .string (bs v5), .int .i64 v6, .int .i64 0, .string ⟨#[]⟩, .int .u32 0, .int .i64 0, .bool false, .slice none 0 0, .slice none 0 0]) ∧ Hid (Blk wx (rb + 2) 81 #[.string ⟨#[]⟩, .int .i64 0, .int .i64 0]) ∧ Hid (Blk wx (rb + 1 + 1 + 1) 47 #[.int .i64 0, .int .i64 0, .int .u64 0, .int .u64 0, .int .u32 0, .int .i64 0, .int .i64 0, .string ⟨#[]⟩, .string ⟨#[]⟩, .int .i64 0, .int .i64 0, .string ⟨#[]⟩, .int .u32 0, .int .i64 0, .bool false, .slice none 0 0, .slice none 0 0]) ∧ Hid (Below rb w wx))
  case first =>
    go_wp2_with fail
    go_meet
    exact ⟨Lib.hid (HR.out.far (p := ⟨rb + 1, 9, none⟩) (by dsimp only; omega) _), Lib.hid (HX.out.set_ 9 (.int .i64 v6)), Lib.hid (H4.out.far (p := ⟨rb + 1, 9, none⟩) (by dsimp only; omega) _), Lib.hid (H5.out.far (p := ⟨rb + 1, 9, none⟩) (by dsimp only; omega) _), Lib.hid (HK.out.setCell (p := ⟨rb + 1, 9, none⟩) (Nat.le_succ _) _)⟩
  case rest =>
  clear HR HX H4 H5 HK c_ f_
  obtain ⟨HR, HX, H4, H5, HK⟩ := hcut
  have c_ := HX.out.cell 9
  have f_ := HX.out.frozen 9
  go_upto_if 57 with fail
  clear c_ f_
  generalize hbb : ((v6 : Int) == 2) = bb at *
  rcases (show bb = true ∨ bb = false from by cases bb <;> simp) with hb0 | hb0
  · have HU := Lib.hid (show (v6 : Int) = 2 from by rw [hb0] at hbb; simpa using hbb)
    clear hbb
    subst hb0
    go_upto_region 13 with fail
    go_cut [6] from 58 to 62 (fun s6 wx => s6 = .int .u64 (v7 : Nat) ∧ Hid (Blk wx rb 81 #[.string (bs L), .int .i64 (a7 : Nat), .int .i64 e7]) ∧ Hid (Blk wx (rb + 1) 47 #[.int .i64 kind, .int .i64 tx, .int .u64 prev, .int .u64 next, .int .u32 v1, .int .i64 v2, .int .i64 v3, .string (bs v4), .string (bs v5), .int .i64 v6, .int .i64 0, .string ⟨#[]⟩, .int .u32 0, .int .i64 0, .bool false, .slice none 0 0, .slice none 0 0]) ∧ Hid (Blk wx (rb + 2) 81 #[.string ⟨#[]⟩, .int .i64 0, .int .i64 0]) ∧ Hid (Blk wx (rb + 1 + 1 + 1) 47 #[.int .i64 0, .int .i64 0, .int .u64 0, .int .u64 0, .int .u32 0, .int .i64 0, .int .i64 0, .string ⟨#[]⟩, .string ⟨#[]⟩, .int .i64 0, .int .i64 0, .string ⟨#[]⟩, .int .u32 0, .int .i64 0, .bool false, .slice none 0 0, .slice none 0 0]) ∧ Hid (Below rb w wx))
    case first =>
      go_wp2_with (first | (with_reducible refine isLoadN 81 (.tmp 2) ?_; with_unfolding_all refine wpList_load_row rfl 81 (.tmp 2) rfl rb (by kernel_rfl) 81 #[.string (bs L), .int .i64 (a6 : Nat), .int .i64 e6] (0, 0) _ HR.out Try.underlying81 rfl (by kernel_rfl) ?_) | (go_at_call 27; refine (rnum_eq _ _ _ _ _ Hlong.out G6.out _ _ _ E7.out).mono ?_; rintro e' w2 ⟨rfl, hb5⟩; have n_HR := Lib.hid (HR.out.step hb5); have n_HX := Lib.hid (HX.out.step hb5); have n_H4 := Lib.hid (H4.out.step hb5); have n_H5 := Lib.hid (H5.out.step hb5); have n_HK := Lib.hid (HK.out.trans (hb5.mono (by have h_ := HK.out.size; omega))); clear hb5 HR HX H4 H5 HK; have HR := n_HR; have HX := n_HX; have H4 := n_H4; have H5 := n_H5; have HK := n_HK; clear n_HR n_HX n_H4 n_H5 n_HK) | (with_reducible refine isStoreN 81 (.tmp 2) (.tmp 61) ?_; with_unfolding_all refine wpList_store_row rfl 81 (.tmp 2) (.tmp 61) rfl rb #[.string (bs L), .int .i64 (a7 : Nat), .int .i64 e7] (by kernel_rfl) (by kernel_rfl) 81 #[.string (bs L), .int .i64 (a6 : Nat), .int .i64 e6] HR.out (by kernel_rfl) rfl (by simp [Value.oneCell']) ?_))
      go_meet
      exact ⟨rfl, Lib.hid (blk_setRow (cs' := #[.string (bs L), .int .i64 (a7 : Nat), .int .i64 e7]) HR.out), Lib.hid (blk_setRowF HX.out #[.string (bs L), .int .i64 (a7 : Nat), .int .i64 e7] (by omega)), Lib.hid (blk_setRowF H4.out #[.string (bs L), .int .i64 (a7 : Nat), .int .i64 e7] (by omega)), Lib.hid (blk_setRowF H5.out #[.string (bs L), .int .i64 (a7 : Nat), .int .i64 e7] (by omega)), Lib.hid (setRow_below HK.out (Nat.le_refl _) #[.string (bs L), .int .i64 (a7 : Nat), .int .i64 e7])⟩
    case rest =>
    clear HR HX H4 H5 HK
    obtain ⟨rfl, HR, HX, H4, H5, HK⟩ := hcut
    go_upto_region 14 with fail
    have c_ := HX.out.cell 10
    have f_ := HX.out.frozen 10
    go_cut [] from 63 to 65 (fun wx => Hid (Blk wx rb 81 #[.string (bs L), .int .i64 (a7 : Nat), .int .i64 e7]) ∧ Hid (Blk wx (rb + 1) 47 #[.int .i64 kind, .int .i64 tx, .int .u64 prev, .int .u64 next, .int .u32 v1, .int .i64 v2, .int .i64 v3, .string (bs v4), .string (bs v5), .int .i64 v6, .int .i64 v7, .string ⟨#[]⟩, .int .u32 0, .int .i64 0, .bool false, .slice none 0 0, .slice none 0 0]) ∧ Hid (Blk wx (rb + 2) 81 #[.string ⟨#[]⟩, .int .i64 0, .int .i64 0]) ∧ Hid (Blk wx (rb + 1 + 1 + 1) 47 #[.int .i64 0, .int .i64 0, .int .u64 0, .int .u64 0, .int .u32 0, .int .i64 0, .int .i64 0, .string ⟨#[]⟩, .string ⟨#[]⟩, .int .i64 0, .int .i64 0, .string ⟨#[]⟩, .int .u32 0, .int .i64 0, .bool false, .slice none 0 0, .slice none 0 0]) ∧ Hid (Below rb w wx))
    case first =>
      go_wp2_with fail
      go_meet
      exact ⟨Lib.hid (HR.out.far (p := ⟨rb + 1, 10, none⟩) (by dsimp only; omega) _), Lib.hid (HX.out.set_ 10 (.int .i64 v7)), Lib.hid (H4.out.far (p := ⟨rb + 1, 10, none⟩) (by dsimp only; omega) _), Lib.hid (H5.out.far (p := ⟨rb + 1, 10, none⟩) (by dsimp only; omega) _), Lib.hid (HK.out.setCell (p := ⟨rb + 1, 10, none⟩) (Nat.le_succ _) _)⟩
    case rest =>
    clear HR HX H4 H5 HK c_ f_
    obtain ⟨HR, HX, H4, H5, HK⟩ := hcut
    go_upto_region 15 with fail
    go_cut [] from 66 to 71 (fun wx => Hid (Blk wx rb 81 #[.string (bs L), .int .i64 (a8 : Nat), .int .i64 e8]) ∧ Hid (Blk wx (rb + 1) 47 #[.int .i64 kind, .int .i64 tx, .int .u64 prev, .int .u64 next, .int .u32 v1, .int .i64 v2, .int .i64 v3, .string (bs v4), .string (bs v5), .int .i64 v6, .int .i64 v7, .string (bs v8), .int .u32 0, .int .i64 0, .bool false, .slice none 0 0, .slice none 0 0]) ∧ Hid (Blk wx (rb + 2) 81 #[.string ⟨#[]⟩, .int .i64 0, .int .i64 0]) ∧ Hid (Blk wx (rb + 1 + 1 + 1) 47 #[.int .i64 0, .int .i64 0, .int .u64 0, .int .u64 0, .int .u32 0, .int .i64 0, .int .i64 0, .string ⟨#[]⟩, .string ⟨#[]⟩, .int .i64 0, .int .i64 0, .string ⟨#[]⟩, .int .u32 0, .int .i64 0, .bool false, .slice none 0 0, .slice none 0 0]) ∧ Hid (Below rb w wx))
    case first =>
      go_wp2_with (first | (with_reducible refine isLoadN 81 (.tmp 2) ?_; with_unfolding_all refine wpList_load_row rfl 81 (.tmp 2) rfl rb (by kernel_rfl) 81 #[.string (bs L), .int .i64 (a7 : Nat), .int .i64 e7] (0, 0) _ HR.out Try.underlying81 rfl (by kernel_rfl) ?_) | (go_at_call 49; refine (text_eq4 _ _ _ _ _ Hlong.out G7.out _ _ _ E8.out).mono ?_; rintro e' w2 ⟨rfl, hb5⟩; have n_HR := Lib.hid (HR.out.step hb5); have n_HX := Lib.hid (HX.out.step hb5); have n_H4 := Lib.hid (H4.out.step hb5); have n_H5 := Lib.hid (H5.out.step hb5); have n_HK := Lib.hid (HK.out.trans (hb5.mono (by have h_ := HK.out.size; omega))); clear hb5 HR HX H4 H5 HK; have HR := n_HR; have HX := n_HX; have H4 := n_H4; have H5 := n_H5; have HK := n_HK; clear n_HR n_HX n_H4 n_H5 n_HK) | (with_reducible refine isStoreN 81 (.tmp 2) (.tmp 69) ?_; with_unfolding_all refine wpList_store_row rfl 81 (.tmp 2) (.tmp 69) rfl rb #[.string (bs L), .int .i64 (a8 : Nat), .int .i64 e8] (by kernel_rfl) (by kernel_rfl) 81 #[.string (bs L), .int .i64 (a7 : Nat), .int .i64 e7] HR.out (by kernel_rfl) rfl (by simp [Value.oneCell']) ?_; have c_ := (blk_setRowF HX.out #[.string (bs L), .int .i64 (a8 : Nat), .int .i64 e8] (show rb + 1 ≠ rb by omega)).cell 11; have f_ := (blk_setRowF HX.out #[.string (bs L), .int .i64 (a8 : Nat), .int .i64 e8] (show rb + 1 ≠ rb by omega)).frozen 11))
      go_meet
      exact ⟨Lib.hid ((blk_setRow (cs' := #[.string (bs L), .int .i64 (a8 : Nat), .int .i64 e8]) HR.out).far (p := ⟨rb + 1, 11, none⟩) (by dsimp only; omega) _), Lib.hid ((blk_setRowF HX.out #[.string (bs L), .int .i64 (a8 : Nat), .int .i64 e8] (by omega)).set_ 11 (.string (bs v8))), Lib.hid ((blk_setRowF H4.out #[.string (bs L), .int .i64 (a8 : Nat), .int .i64 e8] (by omega)).far (p := ⟨rb + 1, 11, none⟩) (by dsimp only; omega) _), Lib.hid ((blk_setRowF H5.out #[.string (bs L), .int .i64 (a8 : Nat), .int .i64 e8] (by omega)).far (p := ⟨rb + 1, 11, none⟩) (by dsimp only; omega) _), Lib.hid ((setRow_below HK.out (Nat.le_refl _) #[.string (bs L), .int .i64 (a8 : Nat), .int .i64 e8]).setCell (p := ⟨rb + 1, 11, none⟩) (Nat.le_succ _) _)⟩
    case rest =>
    clear HR HX H4 H5 HK
    obtain ⟨HR, HX, H4, H5, HK⟩ := hcut
    go_upto_region 16 with fail
    go_cut [6] from 72 to 76 (fun s6 wx => s6 = .int .u64 (v9 : Nat) ∧ Hid (Blk wx rb 81 #[.string (bs L), .int .i64 (a9 : Nat), .int .i64 e9]) ∧ Hid (Blk wx (rb + 1) 47 #[.int .i64 kind, .int .i64 tx, .int .u64 prev, .int .u64 next, .int .u32 v1, .int .i64 v2, .int .i64 v3, .string (bs v4), .string (bs v5), .int .i64 v6, .int .i64 v7, .string (bs v8), .int .u32 0, .int .i64 0, .bool false, .slice none 0 0, .slice none 0 0]) ∧ Hid (Blk wx (rb + 2) 81 #[.string ⟨#[]⟩, .int .i64 0, .int .i64 0]) ∧ Hid (Blk wx (rb + 1 + 1 + 1) 47 #[.int .i64 0, .int .i64 0, .int .u64 0, .int .u64 0, .int .u32 0, .int .i64 0, .int .i64 0, .string ⟨#[]⟩, .string ⟨#[]⟩, .int .i64 0, .int .i64 0, .string ⟨#[]⟩, .int .u32 0, .int .i64 0, .bool false, .slice none 0 0, .slice none 0 0]) ∧ Hid (Below rb w wx))
    case first =>
      go_wp2_with (first | (with_reducible refine isLoadN 81 (.tmp 2) ?_; with_unfolding_all refine wpList_load_row rfl 81 (.tmp 2) rfl rb (by kernel_rfl) 81 #[.string (bs L), .int .i64 (a8 : Nat), .int .i64 e8] (0, 0) _ HR.out Try.underlying81 rfl (by kernel_rfl) ?_) | (go_at_call 27; refine (rnum_eq _ _ _ _ _ Hlong.out G8.out _ _ _ E9.out).mono ?_; rintro e' w2 ⟨rfl, hb5⟩; have n_HR := Lib.hid (HR.out.step hb5); have n_HX := Lib.hid (HX.out.step hb5); have n_H4 := Lib.hid (H4.out.step hb5); have n_H5 := Lib.hid (H5.out.step hb5); have n_HK := Lib.hid (HK.out.trans (hb5.mono (by have h_ := HK.out.size; omega))); clear hb5 HR HX H4 H5 HK; have HR := n_HR; have HX := n_HX; have H4 := n_H4; have H5 := n_H5; have HK := n_HK; clear n_HR n_HX n_H4 n_H5 n_HK) | (with_reducible refine isStoreN 81 (.tmp 2) (.tmp 75) ?_; with_unfolding_all refine wpList_store_row rfl 81 (.tmp 2) (.tmp 75) rfl rb #[.string (bs L), .int .i64 (a9 : Nat), .int .i64 e9] (by kernel_rfl) (by kernel_rfl) 81 #[.string (bs L), .int .i64 (a8 : Nat), .int .i64 e8] HR.out (by kernel_rfl) rfl (by simp [Value.oneCell']) ?_))
      go_meet
      exact ⟨rfl, Lib.hid (blk_setRow (cs' := #[.string (bs L), .int .i64 (a9 : Nat), .int .i64 e9]) HR.out), Lib.hid (blk_setRowF HX.out #[.string (bs L), .int .i64 (a9 : Nat), .int .i64 e9] (by omega)), Lib.hid (blk_setRowF H4.out #[.string (bs L), .int .i64 (a9 : Nat), .int .i64 e9] (by omega)), Lib.hid (blk_setRowF H5.out #[.string (bs L), .int .i64 (a9 : Nat), .int .i64 e9] (by omega)), Lib.hid (setRow_below HK.out (Nat.le_refl _) #[.string (bs L), .int .i64 (a9 : Nat), .int .i64 e9])⟩
    case rest =>
    clear HR HX H4 H5 HK
    obtain ⟨rfl, HR, HX, H4, H5, HK⟩ := hcut
    go_upto_region 17 with fail
    have c_ := HX.out.cell 12
    have f_ := HX.out.frozen 12
    go_cut [] from 77 to 79 (fun wx => Hid (Blk wx rb 81 #[.string (bs L), .int .i64 (a9 : Nat), .int .i64 e9]) ∧ Hid (Blk wx (rb + 1) 47 #[.int .i64 kind, .int .i64 tx, .int .u64 prev, .int .u64 next, .int .u32 v1, .int .i64 v2, .int .i64 v3, .string (bs v4), .string (bs v5), .int .i64 v6, .int .i64 v7, .string (bs v8), .int .u32 v9, .int .i64 0, .bool false, .slice none 0 0, .slice none 0 0]) ∧ Hid (Blk wx (rb + 2) 81 #[.string ⟨#[]⟩, .int .i64 0, .int .i64 0]) ∧ Hid (Blk wx (rb + 1 + 1 + 1) 47 #[.int .i64 0, .int .i64 0, .int .u64 0, .int .u64 0, .int .u32 0, .int .i64 0, .int .i64 0, .string ⟨#[]⟩, .string ⟨#[]⟩, .int .i64 0, .int .i64 0, .string ⟨#[]⟩, .int .u32 0, .int .i64 0, .bool false, .slice none 0 0, .slice none 0 0]) ∧ Hid (Below rb w wx))
    case first =>
      go_wp2_with fail
      go_meet
      exact ⟨Lib.hid (HR.out.far (p := ⟨rb + 1, 12, none⟩) (by dsimp only; omega) _), Lib.hid (HX.out.set_ 12 (.int .u32 v9)), Lib.hid (H4.out.far (p := ⟨rb + 1, 12, none⟩) (by dsimp only; omega) _), Lib.hid (H5.out.far (p := ⟨rb + 1, 12, none⟩) (by dsimp only; omega) _), Lib.hid (HK.out.setCell (p := ⟨rb + 1, 12, none⟩) (Nat.le_succ _) _)⟩
    case rest =>
    clear HR HX H4 H5 HK c_ f_
    obtain ⟨HR, HX, H4, H5, HK⟩ := hcut
    go_upto_region 18 with fail
    go_cut [6] from 80 to 84 (fun s6 wx => s6 = .int .u64 (v10 : Nat) ∧ Hid (Blk wx rb 81 #[.string (bs L), .int .i64 (a10 : Nat), .int .i64 e10]) ∧ Hid (Blk wx (rb + 1) 47 #[.int .i64 kind, .int .i64 tx, .int .u64 prev, .int .u64 next, .int .u32 v1, .int .i64 v2, .int .i64 v3, .string (bs v4), .string (bs v5), .int .i64 v6, .int .i64 v7, .string (bs v8), .int .u32 v9, .int .i64 0, .bool false, .slice none 0 0, .slice none 0 0]) ∧ Hid (Blk wx (rb + 2) 81 #[.string ⟨#[]⟩, .int .i64 0, .int .i64 0]) ∧ Hid (Blk wx (rb + 1 + 1 + 1) 47 #[.int .i64 0, .int .i64 0, .int .u64 0, .int .u64 0, .int .u32 0, .int .i64 0, .int .i64 0, .string ⟨#[]⟩, .string ⟨#[]⟩, .int .i64 0, .int .i64 0, .string ⟨#[]⟩, .int .u32 0, .int .i64 0, .bool false, .slice none 0 0, .slice none 0 0]) ∧ Hid (Below rb w wx))
    case first =>
      go_wp2_with (first | (with_reducible refine isLoadN 81 (.tmp 2) ?_; with_unfolding_all refine wpList_load_row rfl 81 (.tmp 2) rfl rb (by kernel_rfl) 81 #[.string (bs L), .int .i64 (a9 : Nat), .int .i64 e9] (0, 0) _ HR.out Try.underlying81 rfl (by kernel_rfl) ?_) | (go_at_call 27; refine (rnum_eq _ _ _ _ _ Hlong.out G9.out _ _ _ E10.out).mono ?_; rintro e' w2 ⟨rfl, hb5⟩; have n_HR := Lib.hid (HR.out.step hb5); have n_HX := Lib.hid (HX.out.step hb5); have n_H4 := Lib.hid (H4.out.step hb5); have n_H5 := Lib.hid (H5.out.step hb5); have n_HK := Lib.hid (HK.out.trans (hb5.mono (by have h_ := HK.out.size; omega))); clear hb5 HR HX H4 H5 HK; have HR := n_HR; have HX := n_HX; have H4 := n_H4; have H5 := n_H5; have HK := n_HK; clear n_HR n_HX n_H4 n_H5 n_HK) | (with_reducible refine isStoreN 81 (.tmp 2) (.tmp 83) ?_; with_unfolding_all refine wpList_store_row rfl 81 (.tmp 2) (.tmp 83) rfl rb #[.string (bs L), .int .i64 (a10 : Nat), .int .i64 e10] (by kernel_rfl) (by kernel_rfl) 81 #[.string (bs L), .int .i64 (a9 : Nat), .int .i64 e9] HR.out (by kernel_rfl) rfl (by simp [Value.oneCell']) ?_))
      go_meet
      exact ⟨rfl, Lib.hid (blk_setRow (cs' := #[.string (bs L), .int .i64 (a10 : Nat), .int .i64 e10]) HR.out), Lib.hid (blk_setRowF HX.out #[.string (bs L), .int .i64 (a10 : Nat), .int .i64 e10] (by omega)), Lib.hid (blk_setRowF H4.out #[.string (bs L), .int .i64 (a10 : Nat), .int .i64 e10] (by omega)), Lib.hid (blk_setRowF H5.out #[.string (bs L), .int .i64 (a10 : Nat), .int .i64 e10] (by omega)), Lib.hid (setRow_below HK.out (Nat.le_refl _) #[.string (bs L), .int .i64 (a10 : Nat), .int .i64 e10])⟩
    case rest =>
    clear HR HX H4 H5 HK
    obtain ⟨rfl, HR, HX, H4, H5, HK⟩ := hcut
    go_upto_region 19 with fail
    have c_ := HX.out.cell 13
    have f_ := HX.out.frozen 13
    go_cut [] from 85 to 87 (fun wx => Hid (Blk wx rb 81 #[.string (bs L), .int .i64 (a10 : Nat), .int .i64 e10]) ∧ Hid (Blk wx (rb + 1) 47 #[.int .i64 kind, .int .i64 tx, .int .u64 prev, .int .u64 next, .int .u32 v1, .int .i64 v2, .int .i64 v3, .string (bs v4), .string (bs v5), .int .i64 v6, .int .i64 v7, .string (bs v8), .int .u32 v9, .int .i64 v10, .bool false, .slice none 0 0, .slice none 0 0]) ∧ Hid (Blk wx (rb + 2) 81 #[.string ⟨#[]⟩, .int .i64 0, .int .i64 0]) ∧ Hid (Blk wx (rb + 1 + 1 + 1) 47 #[.int .i64 0, .int .i64 0, .int .u64 0, .int .u64 0, .int .u32 0, .int .i64 0, .int .i64 0, .string ⟨#[]⟩, .string ⟨#[]⟩, .int .i64 0, .int .i64 0, .string ⟨#[]⟩, .int .u32 0, .int .i64 0, .bool false, .slice none 0 0, .slice none 0 0]) ∧ Hid (Below rb w wx))
    case first =>
      go_wp2_with fail
      go_meet
      exact ⟨Lib.hid (HR.out.far (p := ⟨rb + 1, 13, none⟩) (by dsimp only; omega) _), Lib.hid (HX.out.set_ 13 (.int .i64 v10)), Lib.hid (H4.out.far (p := ⟨rb + 1, 13, none⟩) (by dsimp only; omega) _), Lib.hid (H5.out.far (p := ⟨rb + 1, 13, none⟩) (by dsimp only; omega) _), Lib.hid (HK.out.setCell (p := ⟨rb + 1, 13, none⟩) (Nat.le_succ _) _)⟩
    case rest =>
    clear HR HX H4 H5 HK c_ f_
    obtain ⟨HR, HX, H4, H5, HK⟩ := hcut
    go_upto_region 20 with fail
    go_cut [] from 88 to 93 (fun wx => Hid (Blk wx rb 81 #[.string (bs L), .int .i64 (a11 : Nat), .int .i64 e11]) ∧ Hid (Blk wx (rb + 1) 47 #[.int .i64 kind, .int .i64 tx, .int .u64 prev, .int .u64 next, .int .u32 v1, .int .i64 v2, .int .i64 v3, .string (bs v4), .string (bs v5), .int .i64 v6, .int .i64 v7, .string (bs v8), .int .u32 v9, .int .i64 v10, .bool v11, .slice none 0 0, .slice none 0 0]) ∧ Hid (Blk wx (rb + 2) 81 #[.string ⟨#[]⟩, .int .i64 0, .int .i64 0]) ∧ Hid (Blk wx (rb + 1 + 1 + 1) 47 #[.int .i64 0, .int .i64 0, .int .u64 0, .int .u64 0, .int .u32 0, .int .i64 0, .int .i64 0, .string ⟨#[]⟩, .string ⟨#[]⟩, .int .i64 0, .int .i64 0, .string ⟨#[]⟩, .int .u32 0, .int .i64 0, .bool false, .slice none 0 0, .slice none 0 0]) ∧ Hid (Below rb w wx))
    case first =>
      go_wp2_with (first | (with_reducible refine isLoadN 81 (.tmp 2) ?_; with_unfolding_all refine wpList_load_row rfl 81 (.tmp 2) rfl rb (by kernel_rfl) 81 #[.string (bs L), .int .i64 (a10 : Nat), .int .i64 e10] (0, 0) _ HR.out Try.underlying81 rfl (by kernel_rfl) ?_) | (go_at_call 50; refine (bool_eq4 _ _ _ _ Hlong.out G10.out _ _ _ E11.out).mono ?_; rintro e' w2 ⟨rfl, hb5⟩; have n_HR := Lib.hid (HR.out.step hb5); have n_HX := Lib.hid (HX.out.step hb5); have n_H4 := Lib.hid (H4.out.step hb5); have n_H5 := Lib.hid (H5.out.step hb5); have n_HK := Lib.hid (HK.out.trans (hb5.mono (by have h_ := HK.out.size; omega))); clear hb5 HR HX H4 H5 HK; have HR := n_HR; have HX := n_HX; have H4 := n_H4; have H5 := n_H5; have HK := n_HK; clear n_HR n_HX n_H4 n_H5 n_HK) | (with_reducible refine isStoreN 81 (.tmp 2) (.tmp 91) ?_; with_unfolding_all refine wpList_store_row rfl 81 (.tmp 2) (.tmp 91) rfl rb #[.string (bs L), .int .i64 (a11 : Nat), .int .i64 e11] (by kernel_rfl) (by kernel_rfl) 81 #[.string (bs L), .int .i64 (a10 : Nat), .int .i64 e10] HR.out (by kernel_rfl) rfl (by simp [Value.oneCell']) ?_; have c_ := (blk_setRowF HX.out #[.string (bs L), .int .i64 (a11 : Nat), .int .i64 e11] (show rb + 1 ≠ rb by omega)).cell 14; have f_ := (blk_setRowF HX.out #[.string (bs L), .int .i64 (a11 : Nat), .int .i64 e11] (show rb + 1 ≠ rb by omega)).frozen 14))
      go_meet
      exact ⟨Lib.hid ((blk_setRow (cs' := #[.string (bs L), .int .i64 (a11 : Nat), .int .i64 e11]) HR.out).far (p := ⟨rb + 1, 14, none⟩) (by dsimp only; omega) _), Lib.hid ((blk_setRowF HX.out #[.string (bs L), .int .i64 (a11 : Nat), .int .i64 e11] (by omega)).set_ 14 (.bool v11)), Lib.hid ((blk_setRowF H4.out #[.string (bs L), .int .i64 (a11 : Nat), .int .i64 e11] (by omega)).far (p := ⟨rb + 1, 14, none⟩) (by dsimp only; omega) _), Lib.hid ((blk_setRowF H5.out #[.string (bs L), .int .i64 (a11 : Nat), .int .i64 e11] (by omega)).far (p := ⟨rb + 1, 14, none⟩) (by dsimp only; omega) _), Lib.hid ((setRow_below HK.out (Nat.le_refl _) #[.string (bs L), .int .i64 (a11 : Nat), .int .i64 e11]).setCell (p := ⟨rb + 1, 14, none⟩) (Nat.le_succ _) _)⟩
    case rest =>
    clear HR HX H4 H5 HK
    obtain ⟨HR, HX, H4, H5, HK⟩ := hcut
    go_upto_region 21 with fail
    refine start_ (n := 4) (S := fun w' => Blk w' rb 81 #[.string (bs L), .int .i64 (a11 : Nat), .int .i64 e11] ∧ Blk w' (rb + 1) 47 #[.int .i64 kind, .int .i64 tx, .int .u64 prev, .int .u64 next, .int .u32 v1, .int .i64 v2, .int .i64 v3, .string (bs v4), .string (bs v5), .int .i64 v6, .int .i64 v7, .string (bs v8), .int .u32 v9, .int .i64 v10, .bool v11, .slice none 0 0, .slice none 0 0]) (ds := [3]) #[false, false, false, false] (by kernel_rfl) rfl rfl ⟨HR.out.drew, HX.out.drew⟩ (fun hHeld => ?_)
    refine take_ (i := 0) (N := some 94) (v := .agg #[.string (bs L), .int .i64 (a11 : Nat), .int .i64 e11]) (a' := ?_) #[true, false, false, false] rfl rfl (by kernel_rfl) (fun _ _ _ h => h) (yields_row 81 (.tmp 2) rfl (by rfl) rb rfl 81 #[.string (bs L), .int .i64 (a11 : Nat), .int .i64 e11] (0, 0) _ (fun w_ h => h.1) Try.underlying81 rfl (by kernel_rfl)) hHeld ?_ ?_
    rotate_left
    · simp only [Act.put, List.setIfInBounds_toArray, List.set_cons_zero, List.set_cons_succ]
      rfl
    refine take_ (i := 1) (N := some 95) (v := .agg #[.int .i64 kind, .int .i64 tx, .int .u64 prev, .int .u64 next, .int .u32 v1, .int .i64 v2, .int .i64 v3, .string (bs v4), .string (bs v5), .int .i64 v6, .int .i64 v7, .string (bs v8), .int .u32 v9, .int .i64 v10, .bool v11, .slice none 0 0, .slice none 0 0]) (a' := ?_) #[true, true, false, false] rfl rfl (by kernel_rfl) (fun _ _ _ h => h) (yields_row 47 (.tmp 3) rfl (by rfl) (rb + 1) rfl 47 #[.int .i64 kind, .int .i64 tx, .int .u64 prev, .int .u64 next, .int .u32 v1, .int .i64 v2, .int .i64 v3, .string (bs v4), .string (bs v5), .int .i64 v6, .int .i64 v7, .string (bs v8), .int .u32 v9, .int .i64 v10, .bool v11, .slice none 0 0, .slice none 0 0] (0, 0) _ (fun w_ h => h.2) Try.underlying47 rfl (by kernel_rfl)) hHeld ?_ ?_
    rotate_left
    · simp only [Act.put, List.setIfInBounds_toArray, List.set_cons_zero, List.set_cons_succ]
      rfl
    obtain ⟨hq1_, hq2_⟩ := hHeld
    have hq1 := Lib.hid hq1_
    have hq2 := Lib.hid hq2_
    clear hq1_ hq2_
    have HKd := Lib.hid (show Below rb w wc.drew from ⟨HK.out.os, HK.out.tape, HK.out.output, HK.out.size, HK.out.block⟩)
    have h4 := Lib.hid H4.out.drew
    have h5 := Lib.hid H5.out.drew
    clear HK H4 H5 HR HX
    generalize wc.drew = wd at *
    refine one_ (i := 2) (N := none) #[true, true, true, false] rfl rfl (by kernel_rfl) (by decide) (fun K hK => ?_)
    refine skip_ (w1 := wd.setRow (rb + 2) #[.string (bs L), .int .i64 (a11 : Nat), .int .i64 e11]) (by rfl) rfl (run_store_row 81 (.tmp 4) (.tmp 94) rfl (rb + 2) #[.string (bs L), .int .i64 (a11 : Nat), .int .i64 e11] rfl rfl 81 _ h4.out (by kernel_rfl) rfl (by simp [Value.oneCell'])) ?_
    refine hK.out _ _ ⟨blk_setRowF hq1.out _ (by omega), blk_setRowF hq2.out _ (by omega)⟩ (fun hHeld => ?_)
    clear hK K hHeld
    refine last_ (i := 3) (N := none) #[true, true, true, true] rfl rfl (by kernel_rfl) (by decide) (fun K hK => ?_)
    refine skip_ (w1 := (wd.setRow (rb + 2) #[.string (bs L), .int .i64 (a11 : Nat), .int .i64 e11]).setRow (rb + 1 + 1 + 1) #[.int .i64 kind, .int .i64 tx, .int .u64 prev, .int .u64 next, .int .u32 v1, .int .i64 v2, .int .i64 v3, .string (bs v4), .string (bs v5), .int .i64 v6, .int .i64 v7, .string (bs v8), .int .u32 v9, .int .i64 v10, .bool v11, .slice none 0 0, .slice none 0 0]) (by rfl) rfl (run_store_row 47 (.tmp 5) (.tmp 95) rfl (rb + 1 + 1 + 1) #[.int .i64 kind, .int .i64 tx, .int .u64 prev, .int .u64 next, .int .u32 v1, .int .i64 v2, .int .i64 v3, .string (bs v4), .string (bs v5), .int .i64 v6, .int .i64 v7, .string (bs v8), .int .u32 v9, .int .i64 v10, .bool v11, .slice none 0 0, .slice none 0 0] rfl rfl 47 _ (blk_setRowF h5.out _ (by omega)) (by kernel_rfl) rfl (by simp [Value.oneCell'])) ?_
    refine hK.out _ _ ?_
    clear hK K
    refine done_ (by kernel_rfl) ?_
    go_wp2_with fail
    refine bodyPost_ret (v := .tuple #[.agg #[.string (bs L), .int .i64 (a11 : Nat), .int .i64 e11], .agg #[.int .i64 kind, .int .i64 tx, .int .u64 prev, .int .u64 next, .int .u32 v1, .int .i64 v2, .int .i64 v3, .string (bs v4), .string (bs v5), .int .i64 v6, .int .i64 v7, .string (bs v8), .int .u32 v9, .int .i64 v10, .bool v11, .slice none 0 0, .slice none 0 0]]) (results_cc (fn := Try.f28) (p := 4) (q := 5) rfl _ _ (rb + 2) 81 _ (0, 0) _ rfl (blk_setRowF (blk_setRow (cs' := #[.string (bs L), .int .i64 (a11 : Nat), .int .i64 e11]) h4.out) _ (by omega)) Try.underlying81 rfl (by kernel_rfl) (rb + 1 + 1 + 1) 47 _ (0, 0) _ rfl (blk_setRow (cs' := #[.int .i64 kind, .int .i64 tx, .int .u64 prev, .int .u64 next, .int .u32 v1, .int .i64 v2, .int .i64 v3, .string (bs v4), .string (bs v5), .int .i64 v6, .int .i64 v7, .string (bs v8), .int .u32 v9, .int .i64 v10, .bool v11, .slice none 0 0, .slice none 0 0]) (blk_setRowF h5.out #[.string (bs L), .int .i64 (a11 : Nat), .int .i64 e11] (by omega))) Try.underlying47 rfl (by kernel_rfl)) rfl ?_
    rw [HF1.out HU.out]
    exact ⟨rfl, setRow_below (setRow_below HKd.out (by omega) _) (by omega) _⟩
  · have HU := Lib.hid (show ¬ (v6 : Int) = 2 from by rw [hb0] at hbb; simpa using hbb)
    clear hbb
    subst hb0
    go_upto_region 21 with fail
    refine start_ (n := 4) (S := fun w' => Blk w' rb 81 #[.string (bs L), .int .i64 (a6 : Nat), .int .i64 e6] ∧ Blk w' (rb + 1) 47 #[.int .i64 kind, .int .i64 tx, .int .u64 prev, .int .u64 next, .int .u32 v1, .int .i64 v2, .int .i64 v3, .string (bs v4), .string (bs v5), .int .i64 v6, .int .i64 0, .string ⟨#[]⟩, .int .u32 0, .int .i64 0, .bool false, .slice none 0 0, .slice none 0 0]) (ds := [3]) #[false, false, false, false] (by kernel_rfl) rfl rfl ⟨HR.out.drew, HX.out.drew⟩ (fun hHeld => ?_)
    refine take_ (i := 0) (N := some 94) (v := .agg #[.string (bs L), .int .i64 (a6 : Nat), .int .i64 e6]) (a' := ?_) #[true, false, false, false] rfl rfl (by kernel_rfl) (fun _ _ _ h => h) (yields_row 81 (.tmp 2) rfl (by rfl) rb rfl 81 #[.string (bs L), .int .i64 (a6 : Nat), .int .i64 e6] (0, 0) _ (fun w_ h => h.1) Try.underlying81 rfl (by kernel_rfl)) hHeld ?_ ?_
    rotate_left
    · simp only [Act.put, List.setIfInBounds_toArray, List.set_cons_zero, List.set_cons_succ]
      rfl
    refine take_ (i := 1) (N := some 95) (v := .agg #[.int .i64 kind, .int .i64 tx, .int .u64 prev, .int .u64 next, .int .u32 v1, .int .i64 v2, .int .i64 v3, .string (bs v4), .string (bs v5), .int .i64 v6, .int .i64 0, .string ⟨#[]⟩, .int .u32 0, .int .i64 0, .bool false, .slice none 0 0, .slice none 0 0]) (a' := ?_) #[true, true, false, false] rfl rfl (by kernel_rfl) (fun _ _ _ h => h) (yields_row 47 (.tmp 3) rfl (by rfl) (rb + 1) rfl 47 #[.int .i64 kind, .int .i64 tx, .int .u64 prev, .int .u64 next, .int .u32 v1, .int .i64 v2, .int .i64 v3, .string (bs v4), .string (bs v5), .int .i64 v6, .int .i64 0, .string ⟨#[]⟩, .int .u32 0, .int .i64 0, .bool false, .slice none 0 0, .slice none 0 0] (0, 0) _ (fun w_ h => h.2) Try.underlying47 rfl (by kernel_rfl)) hHeld ?_ ?_
    rotate_left
    · simp only [Act.put, List.setIfInBounds_toArray, List.set_cons_zero, List.set_cons_succ]
      rfl
    obtain ⟨hq1_, hq2_⟩ := hHeld
    have hq1 := Lib.hid hq1_
    have hq2 := Lib.hid hq2_
    clear hq1_ hq2_
    have HKd := Lib.hid (show Below rb w wc.drew from ⟨HK.out.os, HK.out.tape, HK.out.output, HK.out.size, HK.out.block⟩)
    have h4 := Lib.hid H4.out.drew
    have h5 := Lib.hid H5.out.drew
    clear HK H4 H5 HR HX
    generalize wc.drew = wd at *
    refine one_ (i := 2) (N := none) #[true, true, true, false] rfl rfl (by kernel_rfl) (by decide) (fun K hK => ?_)
    refine skip_ (w1 := wd.setRow (rb + 2) #[.string (bs L), .int .i64 (a6 : Nat), .int .i64 e6]) (by rfl) rfl (run_store_row 81 (.tmp 4) (.tmp 94) rfl (rb + 2) #[.string (bs L), .int .i64 (a6 : Nat), .int .i64 e6] rfl rfl 81 _ h4.out (by kernel_rfl) rfl (by simp [Value.oneCell'])) ?_
    refine hK.out _ _ ⟨blk_setRowF hq1.out _ (by omega), blk_setRowF hq2.out _ (by omega)⟩ (fun hHeld => ?_)
    clear hK K hHeld
    refine last_ (i := 3) (N := none) #[true, true, true, true] rfl rfl (by kernel_rfl) (by decide) (fun K hK => ?_)
    refine skip_ (w1 := (wd.setRow (rb + 2) #[.string (bs L), .int .i64 (a6 : Nat), .int .i64 e6]).setRow (rb + 1 + 1 + 1) #[.int .i64 kind, .int .i64 tx, .int .u64 prev, .int .u64 next, .int .u32 v1, .int .i64 v2, .int .i64 v3, .string (bs v4), .string (bs v5), .int .i64 v6, .int .i64 0, .string ⟨#[]⟩, .int .u32 0, .int .i64 0, .bool false, .slice none 0 0, .slice none 0 0]) (by rfl) rfl (run_store_row 47 (.tmp 5) (.tmp 95) rfl (rb + 1 + 1 + 1) #[.int .i64 kind, .int .i64 tx, .int .u64 prev, .int .u64 next, .int .u32 v1, .int .i64 v2, .int .i64 v3, .string (bs v4), .string (bs v5), .int .i64 v6, .int .i64 0, .string ⟨#[]⟩, .int .u32 0, .int .i64 0, .bool false, .slice none 0 0, .slice none 0 0] rfl rfl 47 _ (blk_setRowF h5.out _ (by omega)) (by kernel_rfl) rfl (by simp [Value.oneCell'])) ?_
    refine hK.out _ _ ?_
    clear hK K
    refine done_ (by kernel_rfl) ?_
    go_wp2_with fail
    refine bodyPost_ret (v := .tuple #[.agg #[.string (bs L), .int .i64 (a6 : Nat), .int .i64 e6], .agg #[.int .i64 kind, .int .i64 tx, .int .u64 prev, .int .u64 next, .int .u32 v1, .int .i64 v2, .int .i64 v3, .string (bs v4), .string (bs v5), .int .i64 v6, .int .i64 0, .string ⟨#[]⟩, .int .u32 0, .int .i64 0, .bool false, .slice none 0 0, .slice none 0 0]]) (results_cc (fn := Try.f28) (p := 4) (q := 5) rfl _ _ (rb + 2) 81 _ (0, 0) _ rfl (blk_setRowF (blk_setRow (cs' := #[.string (bs L), .int .i64 (a6 : Nat), .int .i64 e6]) h4.out) _ (by omega)) Try.underlying81 rfl (by kernel_rfl) (rb + 1 + 1 + 1) 47 _ (0, 0) _ rfl (blk_setRow (cs' := #[.int .i64 kind, .int .i64 tx, .int .u64 prev, .int .u64 next, .int .u32 v1, .int .i64 v2, .int .i64 v3, .string (bs v4), .string (bs v5), .int .i64 v6, .int .i64 0, .string ⟨#[]⟩, .int .u32 0, .int .i64 0, .bool false, .slice none 0 0, .slice none 0 0]) (blk_setRowF h5.out #[.string (bs L), .int .i64 (a6 : Nat), .int .i64 e6] (by omega))) Try.underlying47 rfl (by kernel_rfl)) rfl ?_
    rw [HF0.out HU.out]
    exact ⟨rfl, setRow_below (setRow_below HKd.out (by omega) _) (by omega) _⟩
end Go.Proofs.Ytebickoieipjpaa
end
section
namespace Go.Gi
set_option linter.unusedSimpArgs false
set_option linter.unusedVariables false
def rfChIf (L : List UInt8) (kind : Int) (a : Nat) (e : Int) : ChR × Nat × Int := if isChange kind then rfCh L a e else (zCh, a, e)
def rfRec (L : List UInt8) : RecR × Nat × Int :=
  let q1 := rNum L 0 0 1
  let q2 := rNum L q1.2.1 q1.2.2 4
  let q3 := rNum L q2.2.1 q2.2.2 8
  let q4 := rdNext L q1.1 q3.2.1 q3.2.2
  let q5 := rfChIf L q1.1 q4.2.1 q4.2.2
  let q6 := rdTabIf L q1.1 q5.2.1 q5.2.2
  (mkRec q1.1 q2.1 q3.1 q4.1 q5.1 q6.1, q6.2.1, q6.2.2)
theorem cChF {L R : List UInt8} {a : Nat} (r : RecR) (h : L.drop a = chB r ++ R) (ha : a ≤ L.length) (p1 : 0 ≤ r.page ∧ r.page ≤ 4294967295) (p2 : 0 ≤ r.ok ∧ r.ok ≤ 255) (p3 : 0 ≤ r.oa ∧ r.oa ≤ 65535) (p4 : r.os.length ≤ 512) (p5 : r.oo.length ≤ 512) (p6 : 0 ≤ r.undo ∧ r.undo ≤ 2)
    (p7 : 0 ≤ r.index ∧ r.index ≤ 65535) (p8 : r.key.length ≤ 64) (p9 : 0 ≤ r.rpage ∧ r.rpage ≤ 4294967295) (p10 : 0 ≤ r.rslot ∧ r.rslot ≤ 65535) (p11 : ¬ r.undo = 2 → r.index = 0 ∧ r.key.length = 0 ∧ r.rpage = 0 ∧ r.rslot = 0 ∧ r.live = false) :
    rfCh L a 0 = (chOf r, a + (chB r).length, 0) ∧ L.drop (a + (chB r).length) = R ∧ a + (chB r).length ≤ L.length := by
  have hd := drop_len h
  have hlen : a + (chB r).length ≤ L.length := by
    have := congrArg List.length h
    rw [List.length_drop, List.length_append] at this
    omega
  refine ⟨?_, hd.1, hlen⟩
  by_cases hu : r.undo = 2
  · rw [chB_yes r hu] at h ⊢
    unfold keyB at h ⊢
    simp only [List.append_assoc] at h
    obtain ⟨q1, h1, l1⟩ := cNum (n := 4) h ha (by omega) (by omega)
    obtain ⟨q2, h2, l2⟩ := cNum (n := 1) h1 l1 (by omega) (by omega)
    obtain ⟨q3, h3, l3⟩ := cNum (n := 2) h2 l2 (by omega) (by omega)
    obtain ⟨q4, h4, l4⟩ := cText (most := 65535) h3 l3 (by omega) (by omega)
    obtain ⟨q5, h5, l5⟩ := cText (most := 65535) h4 l4 (by omega) (by omega)
    obtain ⟨q6, h6, l6⟩ := cNum (n := 1) h5 l5 (by omega) (by omega)
    obtain ⟨q7, h7, l7⟩ := cNum (n := 2) h6 l6 (by omega) (by omega)
    obtain ⟨q8, h8, l8⟩ := cText (most := 65535) h7 l7 (by omega) (by omega)
    obtain ⟨q9, h9, l9⟩ := cNum (n := 4) h8 l8 (by omega) (by omega)
    obtain ⟨q10, h10, l10⟩ := cNum (n := 2) h9 l9 (by omega) (by omega)
    obtain ⟨q11, h11, l11⟩ := cBool h10 l10
    have hu2 : ((r.undo.toNat : Nat) : Int) = 2 := by omega
    simp only [nc1, nc2, nc4, nc8] at q1 q2 q3 q6 q7 q9 q10
    unfold rfCh
    simp only [q1, q2, q3, q4, q5, q6, q7, q8, q9, q10, q11, if_pos hu2]
    unfold chOf
    rw [toN p1.1, toN p2.1, toN p3.1, toN p6.1, toN p7.1, toN p9.1, toN p10.1]
    congr 2
    simp only [List.length_append, putL_length, List.length_cons, List.length_nil]
    omega
  · obtain ⟨x7, x8, x9, x10, x11⟩ := p11 hu
    rw [chB_no r hu] at h ⊢
    simp only [List.append_assoc] at h
    obtain ⟨q1, h1, l1⟩ := cNum (n := 4) h ha (by omega) (by omega)
    obtain ⟨q2, h2, l2⟩ := cNum (n := 1) h1 l1 (by omega) (by omega)
    obtain ⟨q3, h3, l3⟩ := cNum (n := 2) h2 l2 (by omega) (by omega)
    obtain ⟨q4, h4, l4⟩ := cText (most := 65535) h3 l3 (by omega) (by omega)
    obtain ⟨q5, h5, l5⟩ := cText (most := 65535) h4 l4 (by omega) (by omega)
    obtain ⟨q6, h6, l6⟩ := cNum (n := 1) h5 l5 (by omega) (by omega)
    have hu2 : ¬ ((r.undo.toNat : Nat) : Int) = 2 := by omega
    simp only [nc1, nc2, nc4, nc8] at q1 q2 q3 q6
    unfold rfCh
    simp only [q1, q2, q3, q4, q5, q6, if_neg hu2]
    unfold chOf
    rw [toN p1.1, toN p2.1, toN p3.1, toN p6.1, x7, List.eq_nil_of_length_eq_zero x8, x9, x10, x11]
    congr 2
    simp only [List.length_append, putL_length]
    omega
theorem cRecF (r : RecR) (hr : recOk r) (hw : RecW r) (q : List UInt8) : rfRec (recB r ++ q) = (r, (recB r).length, 0) := by
  obtain ⟨⟨⟨⟨⟨⟨g1, g2⟩, g3⟩, g4⟩, g5⟩, g6⟩, g7⟩ := hr
  obtain ⟨o1, o2, o3, o4⟩ := g1
  obtain ⟨L, hL⟩ : ∃ L, L = recB r ++ q := ⟨_, rfl⟩
  rw [← hL]
  have hlenL : (recB r).length ≤ L.length := by rw [hL]; simp
  have h0 : L.drop 0 = recB r ++ q := by rw [hL]; rfl
  unfold recB headB at h0
  simp only [List.append_assoc] at h0
  obtain ⟨q1, h1, l1⟩ := cNum (n := 1) h0 (Nat.zero_le _) (by omega) (by omega)
  obtain ⟨q2, h2, l2⟩ := cNum (n := 4) h1 l1 (by omega) (by omega)
  obtain ⟨q3, h3, l3⟩ := cNum (n := 8) h2 l2 (by omega) (by have := hw.prev; omega)
  simp only [nc1, nc2, nc4, nc8] at q1 q2 q3
  have hkk : ((r.kind.toNat : Nat) : Int) = r.kind := toN (by omega)
  have q4 : rdNext L r.kind (0 + 1 + 4 + 8) 0 = (r.next.toNat, 0 + 1 + 4 + 8 + (if isNext r.kind then putL 8 r.next.toNat else []).length, 0) ∧ L.drop (0 + 1 + 4 + 8 + (if isNext r.kind then putL 8 r.next.toNat else []).length) = (if isChange r.kind then chB r else []) ++ ((if r.kind = 8 then tabB r else []) ++ q) ∧ 0 + 1 + 4 + 8 + (if isNext r.kind then putL 8 r.next.toNat else []).length ≤ L.length := by
    unfold rdNext
    by_cases hk : isNext r.kind
    · simp only [if_pos hk] at h3 ⊢
      obtain ⟨x, y, z⟩ := cNum (n := 8) h3 l3 (by omega) (by have := hw.next; omega)
      simp only [nc1, nc2, nc4, nc8] at x
      rw [putL_length]
      exact ⟨x, y, z⟩
    · simp only [if_neg hk] at h3 ⊢
      have hn : r.next = 0 := g5.1.resolve_left hk
      rw [hn]
      exact ⟨rfl, h3, l3⟩
  obtain ⟨q4, h4, l4⟩ := q4
  generalize 0 + 1 + 4 + 8 + (if isNext r.kind then putL 8 r.next.toNat else []).length = a4 at *
  have hkey : (0 ≤ r.index ∧ r.index ≤ 65535) ∧ r.key.length ≤ 64 ∧ (0 ≤ r.rslot ∧ r.rslot ≤ 65535) ∧ (¬ r.undo = 2 → r.index = 0 ∧ r.key.length = 0 ∧ r.rpage = 0 ∧ r.rslot = 0 ∧ r.live = false) := by
    by_cases hu : r.undo = 2
    · have := (okKey_yes hu).1 g4
      exact ⟨by omega, by omega, by omega, fun h => absurd hu h⟩
    · have := (okKey_no hu).1 g4
      exact ⟨by omega, by omega, by omega, fun _ => ⟨this.1, this.2.1.1, this.2.1.2.1, this.2.1.2.2, this.2.2⟩⟩
  obtain ⟨y1, y2, y3, y4⟩ := hkey
  have q5 : rfChIf L r.kind a4 0 = (chOf r, a4 + (if isChange r.kind then chB r else []).length, 0) ∧ L.drop (a4 + (if isChange r.kind then chB r else []).length) = (if r.kind = 8 then tabB r else []) ++ q ∧ a4 + (if isChange r.kind then chB r else []).length ≤ L.length := by
    unfold rfChIf
    by_cases hk : isChange r.kind
    · simp only [if_pos hk] at h4 ⊢
      have ho := ((okOp_yes hk).1 g3).2
      unfold opOk at ho
      exact cChF r h4 l4 hw.page (by omega) (by omega) (by omega) (by omega) g2 y1 y2 hw.rpage y3 y4
    · simp only [if_neg hk] at h4 ⊢
      obtain ⟨z1, ⟨z2, z3, z4, z5⟩, z6⟩ := (okOp_no hk).1 g3
      obtain ⟨z7, z8, z9, z10, z11⟩ := y4 (by omega)
      refine ⟨?_, h4, l4⟩
      unfold chOf zCh
      rw [z1, z2, z3, List.eq_nil_of_length_eq_zero z4, List.eq_nil_of_length_eq_zero z5, z6, z7, List.eq_nil_of_length_eq_zero z8, z9, z10, z11]
      rfl
  obtain ⟨q5, h5, l5⟩ := q5
  have q6 : ∃ a6, rdTabIf L r.kind (a4 + (if isChange r.kind then chB r else []).length) 0 = (⟨r.txs, r.dirty⟩, a6, 0) ∧ L.drop a6 = q ∧ a6 ≤ L.length := by
    unfold rdTabIf
    by_cases hk : r.kind = 8
    · simp only [if_pos hk] at h5 ⊢
      exact ⟨_, cTab r h5 l5 g6.2.1 g6.2.2 g7 hw⟩
    · simp only [if_neg hk] at h5 ⊢
      obtain ⟨z1, z2⟩ := g6.1.resolve_left hk
      exact ⟨_, by rw [List.eq_nil_of_length_eq_zero z1, List.eq_nil_of_length_eq_zero z2], h5, l5⟩
  obtain ⟨a6, q6, h6, l6⟩ := q6
  have ha6 : a6 = (recB r).length := by
    have e1 := congrArg List.length h6
    have e2 := congrArg List.length hL
    rw [List.length_drop] at e1
    rw [List.length_append] at e2
    omega
  unfold rfRec
  simp only [q1, q2, q3, hkk, q4, q5, q6]
  rw [ha6, toN o3, toN hw.prev.1, toN hw.next.1]
  rfl
theorem rf_wf (L : List UInt8) : RecW (rfRec L).1 := by
  unfold rfRec mkRec
  constructor
  · simp only []
    have := rn8 L (rNum L (rNum L 0 0 1).2.1 (rNum L 0 0 1).2.2 4).2.1 (rNum L (rNum L 0 0 1).2.1 (rNum L 0 0 1).2.2 4).2.2
    omega
  · simp only []
    unfold rdNext
    split
    · have := fun a e => rn8 L a e
      constructor
      · omega
      · have := this (rNum L (rNum L (rNum L 0 0 1).2.1 (rNum L 0 0 1).2.2 4).2.1 (rNum L (rNum L 0 0 1).2.1 (rNum L 0 0 1).2.2 4).2.2 8).2.1 (rNum L (rNum L (rNum L 0 0 1).2.1 (rNum L 0 0 1).2.2 4).2.1 (rNum L (rNum L 0 0 1).2.1 (rNum L 0 0 1).2.2 4).2.2 8).2.2
        omega
    · simp
  · simp only []
    generalize (rdNext L (↑(rNum L 0 0 1).1) (rNum L (rNum L (rNum L 0 0 1).2.1 (rNum L 0 0 1).2.2 4).2.1 (rNum L (rNum L 0 0 1).2.1 (rNum L 0 0 1).2.2 4).2.2 8).2.1 (rNum L (rNum L (rNum L 0 0 1).2.1 (rNum L 0 0 1).2.2 4).2.1 (rNum L (rNum L 0 0 1).2.1 (rNum L 0 0 1).2.2 4).2.2 8).2.2) = q
    unfold rfChIf
    split
    · unfold rfCh
      simp only []
      have := rn4 L q.2.1 q.2.2
      split <;> (simp only []; omega)
    · simp [zCh]
  · simp only []
    generalize (rdNext L (↑(rNum L 0 0 1).1) (rNum L (rNum L (rNum L 0 0 1).2.1 (rNum L 0 0 1).2.2 4).2.1 (rNum L (rNum L 0 0 1).2.1 (rNum L 0 0 1).2.2 4).2.2 8).2.1 (rNum L (rNum L (rNum L 0 0 1).2.1 (rNum L 0 0 1).2.2 4).2.1 (rNum L (rNum L 0 0 1).2.1 (rNum L 0 0 1).2.2 4).2.2 8).2.2) = q
    unfold rfChIf
    split
    · unfold rfCh
      simp only []
      split
      · simp only []
        exact rn4i _ _ _
      · simp
    · simp [zCh]
  · simp only []
    unfold rdTabIf
    split
    · unfold rdTab
      simp only []
      refine rdMany_all (fun a e => ?_) _ _ _ _ (fun x hx => absurd hx (by simp))
      unfold rdSt
      simp only []
      exact ⟨rn8i _ _ _, rn8i _ _ _⟩
    · intro t ht; simp at ht
  · simp only []
    unfold rdTabIf
    split
    · unfold rdTab
      simp only []
      refine rdMany_all (fun a e => ?_) _ _ _ _ (fun x hx => absurd hx (by simp))
      unfold rdDi
      simp only []
      exact ⟨rn4i _ _ _, rn8i _ _ _⟩
    · intro t ht; simp at ht
def rfOk (L : List UInt8) : Prop := (rfRec L).2.2 = 0 ∧ (rfRec L).2.1 = L.length ∧ recOk (rfRec L).1 ∧ recB (rfRec L).1 = L
theorem rfOk_iff (L : List UInt8) : rfOk L ↔ decOk L := by
  constructor
  · intro h
    have := (dec_of_told _ h.2.2.1 (rf_wf L)).1
    rwa [h.2.2.2] at this
  · intro h
    have h1 := sRec h
    have h2 := cRecF _ h.2 (rd_wf L) []
    rw [List.append_nil, h1] at h2
    unfold rfOk
    rw [h2]
    exact ⟨rfl, rfl, h.2, h1⟩
theorem rfOk_rec {L : List UInt8} (h : decOk L) : (rfRec L).1 = (rdRec L).1 := by
  have h1 := sRec h
  have h2 := cRecF _ h.2 (rd_wf L) []
  rw [List.append_nil, h1] at h2
  rw [h2]
end Go.Gi
end
section
namespace Go.Proofs.Ytebickoieipjpaa.PRr
open Go.RowKit Go.Proofs.YtebickoieipjpaaW.PrintWords Go.Proofs.YtebickoieipjpaaW.PrintLast Go.Proofs.YtebickoieipjpaaW.PrintMore
attribute [local go_sem] max2_int min2_int max_two min_two max_three min_three max_four min_four
set_option linter.unusedVariables false
set_option linter.unusedSimpArgs false
def girderref01_Put.f (a0 : Int) (a1 : Int) : Option (ByteArray):=if 0≤a0∧a0≤18446744073709551615 then some (Go.Gi.bs (Go.Gi.putL (Go.Gi.clamp8 a1) a0.toNat)) else none
set_option maxHeartbeats 8000000 in
set_option maxRecDepth 100000 in
theorem girderref01_Put.calls (a0 : Int) (a1 : Int) (r : ByteArray) (w : World) (h : girderref01_Put.f a0 a1=some r) :
  Calls Try.prog 32 #[.int .u64 a0,.int .i64 a1] w fun e w'=>e=.returned (.string r)∧Below w.heap.size w w':=by
 unfold girderref01_Put.f at h
 split at h
 ·rename_i hc
  obtain ⟨h1,h2⟩:=hc
  obtain rfl:=Option.some.inj h
  obtain ⟨n,rfl⟩:=Int.eq_ofNat_of_zero_le h1
  rw [Int.toNat_natCast]
  exact rput_any n a1 w (by omega)
 ·cases h
end Go.Proofs.Ytebickoieipjpaa.PRr
end
section
namespace Go.Proofs.Ytebickoieipjpaa.PRr
open Go.RowKit Go.Proofs.YtebickoieipjpaaW.PrintWords Go.Proofs.YtebickoieipjpaaW.PrintLast Go.Proofs.YtebickoieipjpaaW.PrintMore
attribute [local go_sem] max2_int min2_int max_two min_two max_three min_three max_four min_four
set_option linter.unusedVariables false
set_option linter.unusedSimpArgs false
def girderref04_text.f (a0 : ByteArray) : Option (ByteArray):=if a0.size≤9000000000000000000 then some (Go.Gi.bs (Go.Gi.putL 2 a0.size ++ a0.data.toList)) else none
set_option maxHeartbeats 8000000 in
set_option maxRecDepth 100000 in
theorem girderref04_text.calls (a0 : ByteArray) (r : ByteArray) (w : World) (h : girderref04_text.f a0=some r) :
  Calls Try.prog 33 #[.string a0] w fun e w'=>e=.returned (.string r)∧Below w.heap.size w w':=by
 unfold girderref04_text.f at h
 split at h
 ·rename_i hc
  obtain rfl:=Option.some.inj h
  exact text04_any a0 w hc
 ·cases h
end Go.Proofs.Ytebickoieipjpaa.PRr
end
