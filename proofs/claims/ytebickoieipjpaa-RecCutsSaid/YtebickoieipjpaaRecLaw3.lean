/- Records: what was told is read, whatever stands behind it. No program. -/
import Derived.Test.YtebickoieipjpaaRecLaw2
namespace Go.Gi
set_option linter.unusedSimpArgs false
set_option linter.unusedVariables false
theorem nc1 : ((1 : Nat) : Int) = 1 := rfl
theorem nc2 : ((2 : Nat) : Int) = 2 := rfl
theorem nc4 : ((4 : Nat) : Int) = 4 := rfl
theorem nc8 : ((8 : Nat) : Int) = 8 := rfl
def chOf (r : RecR) : ChR := ⟨r.page, r.ok, r.oa, r.os, r.oo, r.undo, r.index, r.key, r.rpage, r.rslot, r.live⟩
theorem toN {x : Int} (h : 0 ≤ x) : ((x.toNat : Nat) : Int) = x := Int.toNat_of_nonneg h
theorem cCh {L R : List UInt8} {a : Nat} (r : RecR) (h : L.drop a = chB r ++ R) (ha : a ≤ L.length) (p1 : 0 ≤ r.page ∧ r.page ≤ 4294967295) (p2 : 0 ≤ r.ok ∧ r.ok ≤ 255) (p3 : 0 ≤ r.oa ∧ r.oa ≤ 65535) (p4 : r.os.length ≤ 512) (p5 : r.oo.length ≤ 512) (p6 : 0 ≤ r.undo ∧ r.undo ≤ 2)
    (p7 : 0 ≤ r.index ∧ r.index ≤ 65535) (p8 : r.key.length ≤ 64) (p9 : 0 ≤ r.rpage ∧ r.rpage ≤ 4294967295) (p10 : 0 ≤ r.rslot ∧ r.rslot ≤ 65535) (p11 : ¬ r.undo = 2 → r.index = 0 ∧ r.key.length = 0 ∧ r.rpage = 0 ∧ r.rslot = 0 ∧ r.live = false) :
    rdCh L a 0 = (chOf r, a + (chB r).length, 0) ∧ L.drop (a + (chB r).length) = R ∧ a + (chB r).length ≤ L.length := by
  have hd := drop_len h
  have hlen : a + (chB r).length ≤ L.length := by
    have := congrArg List.length h
    rw [List.length_drop, List.length_append] at this
    omega
  refine ⟨?_, hd.1, hlen⟩
  by_cases hu : r.undo = 2
  · rw [chB_yes r hu] at h ⊢
    unfold keyB at h ⊢
    simp only [List.append_assoc] at h
    obtain ⟨q1, h1, l1⟩ := cNum (n := 4) h ha (by omega) (by omega)
    obtain ⟨q2, h2, l2⟩ := cNum (n := 1) h1 l1 (by omega) (by omega)
    obtain ⟨q3, h3, l3⟩ := cNum (n := 2) h2 l2 (by omega) (by omega)
    obtain ⟨q4, h4, l4⟩ := cText (most := 512) h3 l3 (by omega) (by omega)
    obtain ⟨q5, h5, l5⟩ := cText (most := 512) h4 l4 (by omega) (by omega)
    obtain ⟨q6, h6, l6⟩ := cNum (n := 1) h5 l5 (by omega) (by omega)
    obtain ⟨q7, h7, l7⟩ := cNum (n := 2) h6 l6 (by omega) (by omega)
    obtain ⟨q8, h8, l8⟩ := cText (most := 64) h7 l7 (by omega) (by omega)
    obtain ⟨q9, h9, l9⟩ := cNum (n := 4) h8 l8 (by omega) (by omega)
    obtain ⟨q10, h10, l10⟩ := cNum (n := 2) h9 l9 (by omega) (by omega)
    obtain ⟨q11, h11, l11⟩ := cBool h10 l10
    have hu2 : ((r.undo.toNat : Nat) : Int) = 2 := by omega
    simp only [nc1, nc2, nc4, nc8] at q1 q2 q3 q6 q7 q9 q10
    unfold rdCh
    simp only [q1, q2, q3, q4, q5, q6, q7, q8, q9, q10, q11, if_pos hu2]
    unfold chOf
    rw [toN p1.1, toN p2.1, toN p3.1, toN p6.1, toN p7.1, toN p9.1, toN p10.1]
    congr 2
    simp only [List.length_append, putL_length, List.length_cons, List.length_nil]
    omega
  · obtain ⟨x7, x8, x9, x10, x11⟩ := p11 hu
    rw [chB_no r hu] at h ⊢
    simp only [List.append_assoc] at h
    obtain ⟨q1, h1, l1⟩ := cNum (n := 4) h ha (by omega) (by omega)
    obtain ⟨q2, h2, l2⟩ := cNum (n := 1) h1 l1 (by omega) (by omega)
    obtain ⟨q3, h3, l3⟩ := cNum (n := 2) h2 l2 (by omega) (by omega)
    obtain ⟨q4, h4, l4⟩ := cText (most := 512) h3 l3 (by omega) (by omega)
    obtain ⟨q5, h5, l5⟩ := cText (most := 512) h4 l4 (by omega) (by omega)
    obtain ⟨q6, h6, l6⟩ := cNum (n := 1) h5 l5 (by omega) (by omega)
    have hu2 : ¬ ((r.undo.toNat : Nat) : Int) = 2 := by omega
    simp only [nc1, nc2, nc4, nc8] at q1 q2 q3 q6
    unfold rdCh
    simp only [q1, q2, q3, q4, q5, q6, if_neg hu2]
    unfold chOf
    rw [toN p1.1, toN p2.1, toN p3.1, toN p6.1, x7, List.eq_nil_of_length_eq_zero x8, x9, x10, x11]
    congr 2
    simp only [List.length_append, putL_length]
    omega
theorem cSt {L R : List UInt8} {a : Nat} {t : StR} (hp : okSt t ∧ (0 ≤ t.last ∧ t.last ≤ 18446744073709551615) ∧ 0 ≤ t.next ∧ t.next ≤ 18446744073709551615) (h : L.drop a = stB t ++ R) (ha : a ≤ L.length) :
    rdSt L a 0 = (t, a + (stB t).length, 0) ∧ L.drop (a + (stB t).length) = R ∧ a + (stB t).length ≤ L.length := by
  have hd := drop_len h
  have hlen : a + (stB t).length ≤ L.length := by
    have := congrArg List.length h
    rw [List.length_drop, List.length_append] at this
    omega
  refine ⟨?_, hd.1, hlen⟩
  obtain ⟨⟨o1, o2, o3, o4⟩, p1, p2⟩ := hp
  rw [stB_len]
  unfold stB at h
  simp only [List.append_assoc] at h
  obtain ⟨q1, h1, l1⟩ := cNum (n := 4) h ha (by omega) (by omega)
  obtain ⟨q2, h2, l2⟩ := cNum (n := 1) h1 l1 (by omega) (by omega)
  obtain ⟨q3, h3, l3⟩ := cNum (n := 8) h2 l2 (by omega) (by omega)
  obtain ⟨q4, h4, l4⟩ := cNum (n := 8) h3 l3 (by omega) (by omega)
  simp only [nc1, nc2, nc4, nc8] at q1 q2 q3 q4
  unfold rdSt
  simp only [q1, q2, q3, q4]
  rw [toN o1, toN (by omega), toN p1.1, toN p2.1]
theorem cDi {L R : List UInt8} {a : Nat} {t : DiR} (hp : (0 ≤ t.page ∧ t.page ≤ 4294967295) ∧ 0 ≤ t.lsn ∧ t.lsn ≤ 18446744073709551615) (h : L.drop a = diB t ++ R) (ha : a ≤ L.length) :
    rdDi L a 0 = (t, a + (diB t).length, 0) ∧ L.drop (a + (diB t).length) = R ∧ a + (diB t).length ≤ L.length := by
  have hd := drop_len h
  have hlen : a + (diB t).length ≤ L.length := by
    have := congrArg List.length h
    rw [List.length_drop, List.length_append] at this
    omega
  refine ⟨?_, hd.1, hlen⟩
  obtain ⟨p1, p2⟩ := hp
  rw [diB_len]
  unfold diB at h
  simp only [List.append_assoc] at h
  obtain ⟨q1, h1, l1⟩ := cNum (n := 4) h ha (by omega) (by omega)
  obtain ⟨q2, h2, l2⟩ := cNum (n := 8) h1 l1 (by omega) (by omega)
  simp only [nc1, nc2, nc4, nc8] at q1 q2
  unfold rdDi
  simp only [q1, q2]
  rw [toN p1.1, toN p2.1]
theorem cTab {L R : List UInt8} {a : Nat} (r : RecR) (h : L.drop a = tabB r ++ R) (ha : a ≤ L.length) (h1 : r.txs.length ≤ 64) (h2 : r.dirty.length ≤ 256) (h3 : ∀ t ∈ r.txs, okSt t) (hw : RecW r) :
    rdTab L a 0 = (⟨r.txs, r.dirty⟩, a + (tabB r).length, 0) ∧ L.drop (a + (tabB r).length) = R ∧ a + (tabB r).length ≤ L.length := by
  have hd := drop_len h
  have hlen : a + (tabB r).length ≤ L.length := by
    have := congrArg List.length h
    rw [List.length_drop, List.length_append] at this
    omega
  refine ⟨?_, hd.1, hlen⟩
  unfold tabB at h ⊢
  unfold stsB disB at h ⊢
  simp only [List.append_assoc] at h
  obtain ⟨q1, k1, l1⟩ := cNum (n := 2) h ha (by omega) (by omega)
  obtain ⟨q2, k2, l2⟩ := cMany (f := rdSt L) (enc := stB) (P := fun t => okSt t ∧ (0 ≤ t.last ∧ t.last ≤ 18446744073709551615) ∧ 0 ≤ t.next ∧ t.next ≤ 18446744073709551615) (fun a x R hp hh hl => cSt hp hh hl) r.txs [] _ _ (fun t ht => ⟨h3 t ht, hw.sts t ht⟩) k1 l1
  obtain ⟨q3, k3, l3⟩ := cNum (n := 2) k2 l2 (by omega) (by omega)
  obtain ⟨q4, k4, l4⟩ := cMany (f := rdDi L) (enc := diB) (P := fun t => (0 ≤ t.page ∧ t.page ≤ 4294967295) ∧ 0 ≤ t.lsn ∧ t.lsn ≤ 18446744073709551615) (fun a x R hp hh hl => cDi hp hh hl) r.dirty [] _ _ (fun t ht => hw.dis t ht) k3 l3
  simp only [nc1, nc2, nc4, nc8, List.nil_append] at q1 q2 q3 q4
  unfold rdTab
  simp only [q1, q2, q3, q4]
  congr 2
  simp only [List.length_append, putL_length]
  omega
theorem cRec (r : RecR) (hr : recOk r) (hw : RecW r) (q : List UInt8) : rdRec (recB r ++ q) = (r, (recB r).length, 0) := by
  obtain ⟨⟨⟨⟨⟨⟨g1, g2⟩, g3⟩, g4⟩, g5⟩, g6⟩, g7⟩ := hr
  obtain ⟨o1, o2, o3, o4⟩ := g1
  obtain ⟨L, hL⟩ : ∃ L, L = recB r ++ q := ⟨_, rfl⟩
  rw [← hL]
  have hlenL : (recB r).length ≤ L.length := by rw [hL]; simp
  have h0 : L.drop 0 = recB r ++ q := by rw [hL]; rfl
  unfold recB headB at h0
  simp only [List.append_assoc] at h0
  obtain ⟨q1, h1, l1⟩ := cNum (n := 1) h0 (Nat.zero_le _) (by omega) (by omega)
  obtain ⟨q2, h2, l2⟩ := cNum (n := 4) h1 l1 (by omega) (by omega)
  obtain ⟨q3, h3, l3⟩ := cNum (n := 8) h2 l2 (by omega) (by have := hw.prev; omega)
  simp only [nc1, nc2, nc4, nc8] at q1 q2 q3
  have hkk : ((r.kind.toNat : Nat) : Int) = r.kind := toN (by omega)
  have q4 : rdNext L r.kind (0 + 1 + 4 + 8) 0 = (r.next.toNat, 0 + 1 + 4 + 8 + (if isNext r.kind then putL 8 r.next.toNat else []).length, 0) ∧ L.drop (0 + 1 + 4 + 8 + (if isNext r.kind then putL 8 r.next.toNat else []).length) = (if isChange r.kind then chB r else []) ++ ((if r.kind = 8 then tabB r else []) ++ q) ∧ 0 + 1 + 4 + 8 + (if isNext r.kind then putL 8 r.next.toNat else []).length ≤ L.length := by
    unfold rdNext
    by_cases hk : isNext r.kind
    · simp only [if_pos hk] at h3 ⊢
      obtain ⟨x, y, z⟩ := cNum (n := 8) h3 l3 (by omega) (by have := hw.next; omega)
      simp only [nc1, nc2, nc4, nc8] at x
      rw [putL_length]
      exact ⟨x, y, z⟩
    · simp only [if_neg hk] at h3 ⊢
      have hn : r.next = 0 := g5.1.resolve_left hk
      rw [hn]
      exact ⟨rfl, h3, l3⟩
  obtain ⟨q4, h4, l4⟩ := q4
  generalize 0 + 1 + 4 + 8 + (if isNext r.kind then putL 8 r.next.toNat else []).length = a4 at *
  have hkey : (0 ≤ r.index ∧ r.index ≤ 65535) ∧ r.key.length ≤ 64 ∧ (0 ≤ r.rslot ∧ r.rslot ≤ 65535) ∧ (¬ r.undo = 2 → r.index = 0 ∧ r.key.length = 0 ∧ r.rpage = 0 ∧ r.rslot = 0 ∧ r.live = false) := by
    by_cases hu : r.undo = 2
    · have := (okKey_yes hu).1 g4
      exact ⟨by omega, by omega, by omega, fun h => absurd hu h⟩
    · have := (okKey_no hu).1 g4
      exact ⟨by omega, by omega, by omega, fun _ => ⟨this.1, this.2.1.1, this.2.1.2.1, this.2.1.2.2, this.2.2⟩⟩
  obtain ⟨y1, y2, y3, y4⟩ := hkey
  have q5 : rdChIf L r.kind a4 0 = (chOf r, a4 + (if isChange r.kind then chB r else []).length, 0) ∧ L.drop (a4 + (if isChange r.kind then chB r else []).length) = (if r.kind = 8 then tabB r else []) ++ q ∧ a4 + (if isChange r.kind then chB r else []).length ≤ L.length := by
    unfold rdChIf
    by_cases hk : isChange r.kind
    · simp only [if_pos hk] at h4 ⊢
      have ho := ((okOp_yes hk).1 g3).2
      unfold opOk at ho
      exact cCh r h4 l4 hw.page (by omega) (by omega) (by omega) (by omega) g2 y1 y2 hw.rpage y3 y4
    · simp only [if_neg hk] at h4 ⊢
      obtain ⟨z1, ⟨z2, z3, z4, z5⟩, z6⟩ := (okOp_no hk).1 g3
      obtain ⟨z7, z8, z9, z10, z11⟩ := y4 (by omega)
      refine ⟨?_, h4, l4⟩
      unfold chOf zCh
      rw [z1, z2, z3, List.eq_nil_of_length_eq_zero z4, List.eq_nil_of_length_eq_zero z5, z6, z7, List.eq_nil_of_length_eq_zero z8, z9, z10, z11]
      rfl
  obtain ⟨q5, h5, l5⟩ := q5
  have q6 : ∃ a6, rdTabIf L r.kind (a4 + (if isChange r.kind then chB r else []).length) 0 = (⟨r.txs, r.dirty⟩, a6, 0) ∧ L.drop a6 = q ∧ a6 ≤ L.length := by
    unfold rdTabIf
    by_cases hk : r.kind = 8
    · simp only [if_pos hk] at h5 ⊢
      exact ⟨_, cTab r h5 l5 g6.2.1 g6.2.2 g7 hw⟩
    · simp only [if_neg hk] at h5 ⊢
      obtain ⟨z1, z2⟩ := g6.1.resolve_left hk
      exact ⟨_, by rw [List.eq_nil_of_length_eq_zero z1, List.eq_nil_of_length_eq_zero z2], h5, l5⟩
  obtain ⟨a6, q6, h6, l6⟩ := q6
  have ha6 : a6 = (recB r).length := by
    have e1 := congrArg List.length h6
    have e2 := congrArg List.length hL
    rw [List.length_drop] at e1
    rw [List.length_append] at e2
    omega
  unfold rdRec
  simp only [q1, q2, q3, hkk, q4, q5, q6]
  rw [ha6, toN o3, toN hw.prev.1, toN hw.next.1]
  rfl
/-- The laws. -/
theorem dec_of_told (r : RecR) (hr : recOk r) (hw : RecW r) : decOk (recB r) ∧ (rdRec (recB r)).1 = r := by
  have h := cRec r hr hw []
  rw [List.append_nil] at h
  unfold decOk
  rw [h]
  refine ⟨⟨?_, hr⟩, rfl⟩
  unfold rEnd
  rw [if_neg (by simp)]
theorem dec_more (r : RecR) (hr : recOk r) (hw : RecW r) (q : List UInt8) (hq : q ≠ []) : ¬ decOk (recB r ++ q) := by
  intro h
  unfold decOk at h
  rw [cRec r hr hw q] at h
  have h1 := h.1
  have : 0 < q.length := List.length_pos_iff.2 hq
  unfold rEnd rFail at h1
  rw [if_pos (by simp only [List.length_append]; omega), if_pos rfl] at h1
  cases h1
end Go.Gi
