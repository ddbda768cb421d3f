/- Records: what is read was told, and what was told is read. No program. -/
import Derived.Test.YtebickoieipjpaaRecLaw
namespace Go.Gi
set_option linter.unusedSimpArgs false
set_option linter.unusedVariables false
def chC (c : ChR) : List UInt8 := chB (mkRec 0 0 0 0 c ⟨[], []⟩)
def tabC (t : TabR) : List UInt8 := tabB (mkRec 0 0 0 0 zCh t)
theorem chB_no (r : RecR) (h : ¬ r.undo = 2) : chB r = putL 4 r.page.toNat ++ putL 1 r.ok.toNat ++ putL 2 r.oa.toNat ++ txB r.os ++ txB r.oo ++ putL 1 r.undo.toNat := by unfold chB; rw [if_neg h, List.append_nil]
theorem chB_yes (r : RecR) (h : r.undo = 2) : chB r = putL 4 r.page.toNat ++ putL 1 r.ok.toNat ++ putL 2 r.oa.toNat ++ txB r.os ++ txB r.oo ++ putL 1 r.undo.toNat ++ keyB r := by unfold chB; rw [if_pos h]
theorem sCh {L : List UInt8} {a a' : Nat} {e : Int} {c : ChR} (h : rdCh L a e = (c, a', 0)) (ha : a ≤ L.length) : e = 0 ∧ L.drop a = chC c ++ L.drop a' ∧ a' ≤ L.length := by
  obtain ⟨v1, a1, e1, h1⟩ : ∃ v a' e', rNum L a e 4 = (v, a', e') := ⟨_, _, _, rfl⟩
  have l1 : a1 ≤ L.length := by have := rNum_le L a e 4 ha; rw [h1] at this; exact this
  obtain ⟨v2, a2, e2, h2⟩ : ∃ v a' e', rNum L a1 e1 1 = (v, a', e') := ⟨_, _, _, rfl⟩
  have l2 : a2 ≤ L.length := by have := rNum_le L a1 e1 1 l1; rw [h2] at this; exact this
  obtain ⟨v3, a3, e3, h3⟩ : ∃ v a' e', rNum L a2 e2 2 = (v, a', e') := ⟨_, _, _, rfl⟩
  have l3 : a3 ≤ L.length := by have := rNum_le L a2 e2 2 l2; rw [h3] at this; exact this
  obtain ⟨v4, a4, e4, h4⟩ : ∃ v a' e', rText L a3 e3 512 = (v, a', e') := ⟨_, _, _, rfl⟩
  have l4 : a4 ≤ L.length := by have := rText_le L a3 e3 512 l3; rw [h4] at this; exact this
  obtain ⟨v5, a5, e5, h5⟩ : ∃ v a' e', rText L a4 e4 512 = (v, a', e') := ⟨_, _, _, rfl⟩
  have l5 : a5 ≤ L.length := by have := rText_le L a4 e4 512 l4; rw [h5] at this; exact this
  obtain ⟨v6, a6, e6, h6⟩ : ∃ v a' e', rNum L a5 e5 1 = (v, a', e') := ⟨_, _, _, rfl⟩
  have l6 : a6 ≤ L.length := by have := rNum_le L a5 e5 1 l5; rw [h6] at this; exact this
  obtain ⟨v7, a7, e7, h7⟩ : ∃ v a' e', rNum L a6 e6 2 = (v, a', e') := ⟨_, _, _, rfl⟩
  have l7 : a7 ≤ L.length := by have := rNum_le L a6 e6 2 l6; rw [h7] at this; exact this
  obtain ⟨v8, a8, e8, h8⟩ : ∃ v a' e', rText L a7 e7 64 = (v, a', e') := ⟨_, _, _, rfl⟩
  have l8 : a8 ≤ L.length := by have := rText_le L a7 e7 64 l7; rw [h8] at this; exact this
  obtain ⟨v9, a9, e9, h9⟩ : ∃ v a' e', rNum L a8 e8 4 = (v, a', e') := ⟨_, _, _, rfl⟩
  have l9 : a9 ≤ L.length := by have := rNum_le L a8 e8 4 l8; rw [h9] at this; exact this
  obtain ⟨v10, a10, e10, h10⟩ : ∃ v a' e', rNum L a9 e9 2 = (v, a', e') := ⟨_, _, _, rfl⟩
  have l10 : a10 ≤ L.length := by have := rNum_le L a9 e9 2 l9; rw [h10] at this; exact this
  obtain ⟨v11, a11, e11, h11⟩ : ∃ v a' e', rBool L a10 e10 = (v, a', e') := ⟨_, _, _, rfl⟩
  have l11 : a11 ≤ L.length := by have := rBool_le L a10 e10 l10; rw [h11] at this; exact this
  simp only [rdCh, h1, h2, h3, h4, h5, h6, h7, h8, h9, h10, h11] at h
  by_cases hu : (v6 : Int) = 2
  · rw [if_pos hu] at h
    injection h with k1 k2
    injection k2 with k2 k3
    subst k3
    obtain ⟨z11, d11, _⟩ := sBool h11 l10
    subst z11
    obtain ⟨z10, d10, _⟩ := sNum (n := 2) h10 l9
    subst z10
    obtain ⟨z9, d9, _⟩ := sNum (n := 4) h9 l8
    subst z9
    obtain ⟨z8, d8, _⟩ := sText h8 l7
    subst z8
    obtain ⟨z7, d7, _⟩ := sNum (n := 2) h7 l6
    subst z7
    obtain ⟨z6, d6, _⟩ := sNum (n := 1) h6 l5
    subst z6
    obtain ⟨z5, d5, _⟩ := sText h5 l4
    subst z5
    obtain ⟨z4, d4, _⟩ := sText h4 l3
    subst z4
    obtain ⟨z3, d3, _⟩ := sNum (n := 2) h3 l2
    subst z3
    obtain ⟨z2, d2, _⟩ := sNum (n := 1) h2 l1
    subst z2
    obtain ⟨z1, d1, _⟩ := sNum (n := 4) h1 ha
    refine ⟨z1, ?_, by rw [← k2]; exact l11⟩
    rw [d1, d2, d3, d4, d5, d6, d7, d8, d9, d10, d11, ← k1, ← k2]
    rw [chC, chB_yes (mkRec 0 0 0 0 ⟨v1, v2, v3, v4, v5, v6, v7, v8, v9, v10, v11⟩ ⟨[], []⟩) hu]
    simp only [keyB, mkRec, Int.toNat_natCast, List.append_assoc]
    rfl
  · rw [if_neg hu] at h
    injection h with k1 k2
    injection k2 with k2 k3
    subst k3
    obtain ⟨z6, d6, _⟩ := sNum (n := 1) h6 l5
    subst z6
    obtain ⟨z5, d5, _⟩ := sText h5 l4
    subst z5
    obtain ⟨z4, d4, _⟩ := sText h4 l3
    subst z4
    obtain ⟨z3, d3, _⟩ := sNum (n := 2) h3 l2
    subst z3
    obtain ⟨z2, d2, _⟩ := sNum (n := 1) h2 l1
    subst z2
    obtain ⟨z1, d1, _⟩ := sNum (n := 4) h1 ha
    refine ⟨z1, ?_, by rw [← k2]; exact l6⟩
    rw [d1, d2, d3, d4, d5, d6, ← k1, ← k2]
    rw [chC, chB_no (mkRec 0 0 0 0 ⟨v1, v2, v3, v4, v5, v6, 0, [], 0, 0, false⟩ ⟨[], []⟩) hu]
    simp only [mkRec, Int.toNat_natCast, List.append_assoc]
theorem sSt {L : List UInt8} {a a' : Nat} {c : StR} (h : rdSt L a 0 = (c, a', 0)) (ha : a ≤ L.length) : L.drop a = stB c ++ L.drop a' ∧ a' ≤ L.length := by
  obtain ⟨v1, a1, e1, h1⟩ : ∃ v a' e', rNum L a 0 4 = (v, a', e') := ⟨_, _, _, rfl⟩
  obtain ⟨v2, a2, e2, h2⟩ : ∃ v a' e', rNum L a1 e1 1 = (v, a', e') := ⟨_, _, _, rfl⟩
  obtain ⟨v3, a3, e3, h3⟩ : ∃ v a' e', rNum L a2 e2 8 = (v, a', e') := ⟨_, _, _, rfl⟩
  obtain ⟨v4, a4, e4, h4⟩ : ∃ v a' e', rNum L a3 e3 8 = (v, a', e') := ⟨_, _, _, rfl⟩
  have l1 : a1 ≤ L.length := by have := rNum_le L a 0 4 ha; rw [h1] at this; exact this
  have l2 : a2 ≤ L.length := by have := rNum_le L a1 e1 1 l1; rw [h2] at this; exact this
  have l3 : a3 ≤ L.length := by have := rNum_le L a2 e2 8 l2; rw [h3] at this; exact this
  simp only [rdSt, h1, h2, h3, h4] at h
  injection h with k1 k2
  injection k2 with k2 k3
  subst k3
  obtain ⟨z4, d4, l4⟩ := sNum (n := 8) h4 l3
  subst z4
  obtain ⟨z3, d3, _⟩ := sNum (n := 8) h3 l2
  subst z3
  obtain ⟨z2, d2, _⟩ := sNum (n := 1) h2 l1
  subst z2
  obtain ⟨z1, d1, _⟩ := sNum (n := 4) h1 ha
  refine ⟨?_, by rw [← k2]; exact l4⟩
  rw [d1, d2, d3, d4, ← k1, ← k2]
  simp only [stB, Int.toNat_natCast, List.append_assoc]
theorem sDi {L : List UInt8} {a a' : Nat} {c : DiR} (h : rdDi L a 0 = (c, a', 0)) (ha : a ≤ L.length) : L.drop a = diB c ++ L.drop a' ∧ a' ≤ L.length := by
  obtain ⟨v1, a1, e1, h1⟩ : ∃ v a' e', rNum L a 0 4 = (v, a', e') := ⟨_, _, _, rfl⟩
  obtain ⟨v2, a2, e2, h2⟩ : ∃ v a' e', rNum L a1 e1 8 = (v, a', e') := ⟨_, _, _, rfl⟩
  have l1 : a1 ≤ L.length := by have := rNum_le L a 0 4 ha; rw [h1] at this; exact this
  simp only [rdDi, h1, h2] at h
  injection h with k1 k2
  injection k2 with k2 k3
  subst k3
  obtain ⟨z2, d2, l2⟩ := sNum (n := 8) h2 l1
  subst z2
  obtain ⟨z1, d1, _⟩ := sNum (n := 4) h1 ha
  refine ⟨?_, by rw [← k2]; exact l2⟩
  rw [d1, d2, ← k1, ← k2]
  simp only [diB, Int.toNat_natCast, List.append_assoc]
theorem rdMany_le {α : Type} {L : List UInt8} {f : Nat → Int → α × Nat × Int} (hf : ∀ a e, a ≤ L.length → (f a e).2.1 ≤ L.length) : ∀ n acc a e, a ≤ L.length → (rdMany f n acc a e).2.1 ≤ L.length
  | 0, acc, a, e, h => h
  | n + 1, acc, a, e, h => by
    unfold rdMany
    split
    · exact rdMany_le hf n _ _ _ (hf _ _ h)
    · exact h
theorem rdSt_le {L : List UInt8} (a : Nat) (e : Int) (ha : a ≤ L.length) : (rdSt L a e).2.1 ≤ L.length := by
  unfold rdSt
  exact rNum_le _ _ _ _ (rNum_le _ _ _ _ (rNum_le _ _ _ _ (rNum_le _ _ _ _ ha)))
theorem rdDi_le {L : List UInt8} (a : Nat) (e : Int) (ha : a ≤ L.length) : (rdDi L a e).2.1 ≤ L.length := by
  unfold rdDi
  exact rNum_le _ _ _ _ (rNum_le _ _ _ _ ha)
theorem rdCh_le {L : List UInt8} (a : Nat) (e : Int) (ha : a ≤ L.length) : (rdCh L a e).2.1 ≤ L.length := by
  unfold rdCh
  simp only []
  split
  · exact rBool_le _ _ _ (rNum_le _ _ _ _ (rNum_le _ _ _ _ (rText_le _ _ _ _ (rNum_le _ _ _ _ (rNum_le _ _ _ _ (rText_le _ _ _ _ (rText_le _ _ _ _ (rNum_le _ _ _ _ (rNum_le _ _ _ _ (rNum_le _ _ _ _ ha))))))))))
  · exact rNum_le _ _ _ _ (rText_le _ _ _ _ (rText_le _ _ _ _ (rNum_le _ _ _ _ (rNum_le _ _ _ _ (rNum_le _ _ _ _ ha)))))
theorem sTab {L : List UInt8} {a a' : Nat} {e : Int} {t : TabR} (h : rdTab L a e = (t, a', 0)) (ha : a ≤ L.length) : e = 0 ∧ L.drop a = tabC t ++ L.drop a' ∧ a' ≤ L.length := by
  obtain ⟨n1, a1, e1, h1⟩ : ∃ v a' e', rNum L a e 2 = (v, a', e') := ⟨_, _, _, rfl⟩
  obtain ⟨ts, a2, e2, h2⟩ : ∃ v a' e', rdMany (rdSt L) n1 [] a1 e1 = (v, a', e') := ⟨_, _, _, rfl⟩
  obtain ⟨n3, a3, e3, h3⟩ : ∃ v a' e', rNum L a2 e2 2 = (v, a', e') := ⟨_, _, _, rfl⟩
  obtain ⟨ds, a4, e4, h4⟩ : ∃ v a' e', rdMany (rdDi L) n3 [] a3 e3 = (v, a', e') := ⟨_, _, _, rfl⟩
  have l1 : a1 ≤ L.length := by have := rNum_le L a e 2 ha; rw [h1] at this; exact this
  have l2 : a2 ≤ L.length := by have := rdMany_le (fun a e ha => rdSt_le a e ha) n1 [] a1 e1 l1; rw [h2] at this; exact this
  have l3 : a3 ≤ L.length := by have := rNum_le L a2 e2 2 l2; rw [h3] at this; exact this
  simp only [rdTab, h1, h2, h3, h4] at h
  injection h with k1 k2
  injection k2 with k2 k3
  subst k3
  obtain ⟨z3, i4, m4, n4, d4, l4⟩ := sMany (enc := diB) (fun a x a' h ha => sDi h ha) n3 [] a3 e3 ds a4 h4 l3
  subst z3
  obtain ⟨z2, d3, _⟩ := sNum (n := 2) h3 l2
  subst z2
  obtain ⟨z1, i2, m2, n2, d2, _⟩ := sMany (enc := stB) (fun a x a' h ha => sSt h ha) n1 [] a1 e1 ts a2 h2 l1
  subst z1
  obtain ⟨z0, d1, _⟩ := sNum (n := 2) h1 ha
  refine ⟨z0, ?_, by rw [← k2]; exact l4⟩
  rw [List.nil_append] at m2 m4
  rw [d1, d2, d3, d4, ← k1, ← k2]
  simp only [tabC, tabB, mkRec, stsB, disB, m2, m4, n2, n4, List.append_assoc]
theorem sRec {L : List UInt8} (h : decOk L) : recB (rdRec L).1 = L := by
  obtain ⟨v1, a1, e1, h1⟩ : ∃ v a' e', rNum L 0 0 1 = (v, a', e') := ⟨_, _, _, rfl⟩
  obtain ⟨v2, a2, e2, h2⟩ : ∃ v a' e', rNum L a1 e1 4 = (v, a', e') := ⟨_, _, _, rfl⟩
  obtain ⟨v3, a3, e3, h3⟩ : ∃ v a' e', rNum L a2 e2 8 = (v, a', e') := ⟨_, _, _, rfl⟩
  obtain ⟨v4, a4, e4, h4⟩ : ∃ v a' e', rdNext L v1 a3 e3 = (v, a', e') := ⟨_, _, _, rfl⟩
  obtain ⟨c5, a5, e5, h5⟩ : ∃ v a' e', rdChIf L v1 a4 e4 = (v, a', e') := ⟨_, _, _, rfl⟩
  obtain ⟨t6, a6, e6, h6⟩ : ∃ v a' e', rdTabIf L v1 a5 e5 = (v, a', e') := ⟨_, _, _, rfl⟩
  have hrec : rdRec L = (mkRec v1 v2 v3 v4 c5 t6, a6, e6) := by simp only [rdRec, h1, h2, h3, h4, h5, h6]
  unfold decOk at h
  rw [hrec] at h ⊢
  simp only at h ⊢
  have l0 : 0 ≤ L.length := Nat.zero_le _
  have l1 : a1 ≤ L.length := by have := rNum_le L 0 0 1 l0; rw [h1] at this; exact this
  have l2 : a2 ≤ L.length := by have := rNum_le L a1 e1 4 l1; rw [h2] at this; exact this
  have l3 : a3 ≤ L.length := by have := rNum_le L a2 e2 8 l2; rw [h3] at this; exact this
  have l4 : a4 ≤ L.length := by
    unfold rdNext at h4
    split at h4
    · have := rNum_le L a3 e3 8 l3; rw [h4] at this; exact this
    · injection h4 with _ h4; injection h4 with h4 _; rw [← h4]; exact l3
  have l5 : a5 ≤ L.length := by
    unfold rdChIf at h5
    split at h5
    · have := rdCh_le a4 e4 l4; rw [h5] at this; exact this
    · injection h5 with _ h5; injection h5 with h5 _; rw [← h5]; exact l4
  have hE := h.1
  have hz6 : e6 = 0 := by
    unfold rEnd rFail at hE
    split at hE
    · split at hE
      · cases hE
      · exact hE
    · exact hE
  subst hz6
  have d6 : e5 = 0 ∧ L.drop a5 = (if (v1 : Int) = 8 then tabC t6 else []) ++ L.drop a6 ∧ a6 ≤ L.length := by
    unfold rdTabIf at h6
    by_cases hk : (v1 : Int) = 8
    · rw [if_pos hk] at h6 ⊢
      exact sTab h6 l5
    · rw [if_neg hk] at h6 ⊢
      injection h6 with _ h6; injection h6 with x y
      exact ⟨y, by rw [x]; rfl, by rw [← x]; exact l5⟩
  obtain ⟨z5, d6, l6⟩ := d6
  subst z5
  have d5 : e4 = 0 ∧ L.drop a4 = (if isChange (v1 : Int) then chC c5 else []) ++ L.drop a5 := by
    unfold rdChIf at h5
    by_cases hk : isChange (v1 : Int)
    · rw [if_pos hk] at h5 ⊢
      obtain ⟨x, y, _⟩ := sCh h5 l4
      exact ⟨x, y⟩
    · rw [if_neg hk] at h5 ⊢
      injection h5 with _ h5; injection h5 with x y
      exact ⟨y, by rw [x]; rfl⟩
  obtain ⟨z4, d5⟩ := d5
  subst z4
  have d4 : e3 = 0 ∧ L.drop a3 = (if isNext (v1 : Int) then putL 8 v4 else []) ++ L.drop a4 := by
    unfold rdNext at h4
    by_cases hk : isNext (v1 : Int)
    · rw [if_pos hk] at h4 ⊢
      obtain ⟨x, y, _⟩ := sNum (n := 8) h4 l3
      exact ⟨x, y⟩
    · rw [if_neg hk] at h4 ⊢
      injection h4 with _ h4; injection h4 with x y
      exact ⟨y, by rw [x]; rfl⟩
  obtain ⟨z3, d4⟩ := d4
  subst z3
  obtain ⟨z2, d3, _⟩ := sNum (n := 8) h3 l2
  subst z2
  obtain ⟨z1, d2, _⟩ := sNum (n := 4) h2 l1
  subst z1
  obtain ⟨_, d1, _⟩ := sNum (n := 1) h1 l0
  have hend : L.drop a6 = [] := by
    unfold rEnd at hE
    split at hE
    · cases hE
    · rename_i hx
      exact List.drop_eq_nil_of_le (by omega)
  rw [hend, List.append_nil] at d6
  have hall : L = putL 1 v1 ++ (putL 4 v2 ++ (putL 8 v3 ++ ((if isNext (v1 : Int) then putL 8 v4 else []) ++ ((if isChange (v1 : Int) then chC c5 else []) ++ (if (v1 : Int) = 8 then tabC t6 else []))))) := by
    rw [← d6, ← d5, ← d4, ← d3, ← d2, ← d1]; rfl
  conv => rhs; rw [hall]
  show headB _ ++ _ ++ _ ++ _ = _
  simp only [headB, mkRec, Int.toNat_natCast, List.append_assoc]
  rfl
end Go.Gi
