import Derived.Test.YtfegabikfkmepaaCLeaves4
section
namespace Go.Proofs.Ytfegabikfkmepaa.PNe
open Go.RowKit Go.Proofs.YtfegabikfkmepaaW.PrintWords Go.Proofs.YtfegabikfkmepaaW.PrintLast Go.Proofs.YtfegabikfkmepaaW.PrintMore
attribute [local go_sem] max2_int min2_int max_two min_two max_three min_three max_four min_four
set_option linter.unusedVariables false
set_option linter.unusedSimpArgs false
def node_Next.f (a0_0 : Int) (a0_1 : Int) (a0_2 : Int) (a0_3 : ByteArray) (l0_4 : List ByteArray) : Option (Int):=if a0_2=3 then ((raw_Get.f a0_3 0 4).bind fun bt170=>(some ((bt170.1) % 4294967296))) else (some 0)
set_option maxHeartbeats 8000000 in
set_option maxRecDepth 100000 in
theorem node_Next.calls (a0_0 : Int) (a0_1 : Int) (a0_2 : Int) (a0_3 : ByteArray) (A0_4 : Option Addr) (c0_4 : Nat) (l0_4 : List ByteArray) (r : Int) (w : World) (hr0_4 : Kd.C Kd.string w A0_4 l0_4.length l0_4) (hc0_4 : l0_4.length≤c0_4) (h : node_Next.f a0_0 a0_1 a0_2 a0_3 l0_4=some r) :
  Calls Try.prog 15 #[.agg #[.int .u32 a0_0,.int .u64 a0_1,.int .i64 a0_2,.string a0_3,.slice A0_4 l0_4.length c0_4]] w fun e w'=>e=.returned (.int .u32 r)∧Below w.heap.size w w':=by
 have hu28:=Try.underlying28
 have HR0_4:=Aside0.mk hr0_4
 have HC0_4:=Aside0.mk hc0_4
 clear hr0_4 hc0_4
 have HB:=Aside0.mk (Below.refl w.heap.size w)
 have H : (if a0_2=3 then ((raw_Get.f a0_3 0 4).bind fun bt170=>(some ((bt170.1) % 4294967296))) else (some 0))=some r:=h
 clear h
 by_cases c2 : a0_2=3
 ·rw [if_pos c2] at H
  have c2b0 : (a0_2 == 3)=true:=beq_iff_eq.mpr c2
  have c2b1 : (a0_2 != 3)=false:=bne_eq_false_iff_eq.mpr c2
  clear c2
  replace H:=Option.bind_eq_some_iff.mp H
  obtain ⟨⟨t170,t171⟩,A30,H⟩:=H
  replace H : (some ((t170) % 4294967296))=some r:=H
  have A3:=Aside0.mk A30
  clear A30
  obtain rfl:=Option.some.inj H
  go_enter Try.func15,Try.ntmps15
  go_wp2_with (first|((with_reducible refine gate_dst (N:=1) rfl ?_);refine box_event ?hg (N:=1) ?hd (cs:=#[.int .u32 a0_0,.int .u64 a0_1,.int .i64 a0_2,.string a0_3,.slice A0_4 l0_4.length c0_4]) (t:=28) ?hr ?_;(case hd=>rfl);(case hg=>rfl);(case hr=>first|(go_simp;done)|(go_simp;rfl));intro gb169 hg w4 hbox hb;have n0_:=Aside0.mk (below_step (by repeat (first|(with_reducible first|exact HB.out|apply below_alloc|apply pw_below_drewN|apply below_drew1)|exact HB.out)) hb);have n1_:=Aside0.mk (hbox);have n2_:=Aside0.mk ((by rw [hg];exact (below_size (by repeat (first|(with_reducible first|exact HB.out|apply below_alloc|apply pw_below_drewN|apply below_drew1)|exact HB.out))) : w.heap.size≤gb169));have n3_:=Aside0.mk ((by rw [hg];exact (below_size (by repeat (first|(with_reducible first|exact HB.out|apply below_alloc|apply pw_below_drewN|apply below_drew1)|exact HB.out))) : w.heap.size≤gb169));clear HB;have HB:=n0_;have BK169:=n1_;have GW169:=n2_;have GE169:=n3_;clear n0_ n1_ n2_ n3_;clear hb hbox hg;have hcz5_0 : w4.cell? ⟨gb169,0,none⟩=some (.int .u32 a0_0):=(blk_cell BK169.out 0).trans rfl;have hcz5_1 : w4.cell? ⟨gb169,1,none⟩=some (.int .u64 a0_1):=(blk_cell BK169.out 1).trans rfl;have hcz5_2 : w4.cell? ⟨gb169,2,none⟩=some (.int .i64 a0_2):=(blk_cell BK169.out 2).trans rfl;have hcz5_3 : w4.cell? ⟨gb169,3,none⟩=some (.string a0_3):=(blk_cell BK169.out 3).trans rfl;have hcz5_4 : w4.cell? ⟨gb169,4,none⟩=some (.slice A0_4 l0_4.length c0_4):=(blk_cell BK169.out 4).trans rfl;have hfz5_0:=blk_frozen BK169.out 0;have hfz5_1:=blk_frozen BK169.out 1;have hfz5_2:=blk_frozen BK169.out 2;have hfz5_3:=blk_frozen BK169.out 3;have hfz5_4:=blk_frozen BK169.out 4)|((with_reducible refine gate_callee (f:=39) rfl ?_);refine goesL_ (some 11) rfl rfl Try.func39 (by kernel_rfl) rfl #[.string a0_3,.int .i64 0,.int .i64 4] rfl (by (try simp only [List.map_toArray,List.map_cons,List.map_nil]);first|done|rfl|(simp only [List.length_drop,List.length_take];rfl)) ?_;(with_reducible refine (raw_Get.calls a0_3 0 4 t170 t171 _ A3.out).mono ?_);rintro e w' ⟨rfl,⟨nd,rfl⟩⟩;refine ⟨_,rfl,?_⟩))
  go_ret
  exact ⟨by first|rfl|(simp [errW_none,errW_some] <;> rfl)|(simp [*,errW_none,errW_some] <;> rfl),by repeat (first|(with_reducible first|exact HB.out|apply below_alloc|apply pw_below_drewN|apply below_drew1|refine below_set ?_ GE169.out)|exact HB.out)⟩
 ·rw [if_neg c2] at H
  have c2b0 : (a0_2 == 3)=false:=beq_eq_false_iff_ne.mpr c2
  have c2b1 : (a0_2 != 3)=true:=bne_iff_ne.mpr c2
  obtain rfl:=Option.some.inj H
  go_enter Try.func15,Try.ntmps15
  go_wp2_with (first|((with_reducible refine gate_dst (N:=1) rfl ?_);refine box_event ?hg (N:=1) ?hd (cs:=#[.int .u32 a0_0,.int .u64 a0_1,.int .i64 a0_2,.string a0_3,.slice A0_4 l0_4.length c0_4]) (t:=28) ?hr ?_;(case hd=>rfl);(case hg=>rfl);(case hr=>first|(go_simp;done)|(go_simp;rfl));intro gb169 hg w6 hbox hb;have n0_:=Aside0.mk (below_step (by repeat (first|(with_reducible first|exact HB.out|apply below_alloc|apply pw_below_drewN|apply below_drew1)|exact HB.out)) hb);have n1_:=Aside0.mk (hbox);have n2_:=Aside0.mk ((by rw [hg];exact (below_size (by repeat (first|(with_reducible first|exact HB.out|apply below_alloc|apply pw_below_drewN|apply below_drew1)|exact HB.out))) : w.heap.size≤gb169));have n3_:=Aside0.mk ((by rw [hg];exact (below_size (by repeat (first|(with_reducible first|exact HB.out|apply below_alloc|apply pw_below_drewN|apply below_drew1)|exact HB.out))) : w.heap.size≤gb169));clear HB;have HB:=n0_;have BK169:=n1_;have GW169:=n2_;have GE169:=n3_;clear n0_ n1_ n2_ n3_;clear hb hbox hg;have hcz7_0 : w6.cell? ⟨gb169,0,none⟩=some (.int .u32 a0_0):=(blk_cell BK169.out 0).trans rfl;have hcz7_1 : w6.cell? ⟨gb169,1,none⟩=some (.int .u64 a0_1):=(blk_cell BK169.out 1).trans rfl;have hcz7_2 : w6.cell? ⟨gb169,2,none⟩=some (.int .i64 a0_2):=(blk_cell BK169.out 2).trans rfl;have hcz7_3 : w6.cell? ⟨gb169,3,none⟩=some (.string a0_3):=(blk_cell BK169.out 3).trans rfl;have hcz7_4 : w6.cell? ⟨gb169,4,none⟩=some (.slice A0_4 l0_4.length c0_4):=(blk_cell BK169.out 4).trans rfl;have hfz7_0:=blk_frozen BK169.out 0;have hfz7_1:=blk_frozen BK169.out 1;have hfz7_2:=blk_frozen BK169.out 2;have hfz7_3:=blk_frozen BK169.out 3;have hfz7_4:=blk_frozen BK169.out 4))
  go_ret
  exact ⟨by first|rfl|(simp [errW_none,errW_some] <;> rfl)|(simp [*,errW_none,errW_some] <;> rfl),by repeat (first|(with_reducible first|exact HB.out|apply below_alloc|apply pw_below_drewN|apply below_drew1|refine below_set ?_ GE169.out)|exact HB.out)⟩
end Go.Proofs.Ytfegabikfkmepaa.PNe
end
section
namespace Go.Proofs.Ytfegabikfkmepaa.PNe
open Go.RowKit Go.Gi Go.GiRow Go.Proofs.Ytfegabikfkmepaa Go.Proofs.YtfegabikfkmepaaW.PrintWords Go.Proofs.YtfegabikfkmepaaW.PrintMore
set_option maxRecDepth 20000
set_option linter.unusedSimpArgs false
set_option linter.unusedVariables false
theorem less_trans : ∀ a b c : List UInt8, Op.bytesLess a b = true → Op.bytesLess b c = true → Op.bytesLess a c = true
  | _, [], _, h, _ => by simp [Op.bytesLess] at h
  | _, _ :: _, [], _, h => by simp [Op.bytesLess] at h
  | [], _ :: _, _ :: _, _, _ => rfl
  | x :: a, y :: b, z :: c, h1, h2 => by
    simp only [Op.bytesLess, Bool.or_eq_true, decide_eq_true_eq, Bool.and_eq_true, beq_iff_eq] at h1 h2 ⊢
    rcases h1 with h1 | ⟨rfl, h1⟩
    · rcases h2 with h2 | ⟨rfl, h2⟩
      · exact .inl (UInt8.lt_trans h1 h2)
      · exact .inl h1
    · rcases h2 with h2 | ⟨rfl, h2⟩
      · exact .inl h2
      · exact .inr ⟨rfl, less_trans a b c h1 h2⟩
end Go.Proofs.Ytfegabikfkmepaa.PNe
namespace Go.Proofs.Ytfegabikfkmepaa
abbrev Ent := ByteArray × Int × Int
def It.ent (x : It) : Ent := (x.key, x.page, x.slot)
end Go.Proofs.Ytfegabikfkmepaa
namespace Go.Proofs.Ytfegabikfkmepaa.PNe
open Go.RowKit Go.Gi Go.GiRow Go.Proofs.Ytfegabikfkmepaa Go.Proofs.YtfegabikfkmepaaW.PrintWords Go.Proofs.YtfegabikfkmepaaW.PrintMore
def ltE (a b : Ent) : Bool := bef a.1 a.2.1 a.2.2 b.1 b.2.1 b.2.2
theorem tl_inj {a b : ByteArray} (h : a.toList = b.toList) : a = b := by
  rw [ByteArray.toList_eq, ByteArray.toList_eq] at h
  rw [← bs_toList a, h, bs_toList]
theorem ltE_irr (a : Ent) : ltE a a = false := by simp [ltE, bef]
theorem ltE_trans {a b c : Ent} (h1 : ltE a b = true) (h2 : ltE b c = true) : ltE a c = true := by
  obtain ⟨k1, p1, s1⟩ := a
  obtain ⟨k2, p2, s2⟩ := b
  obtain ⟨k3, p3, s3⟩ := c
  unfold ltE bef at *
  simp only at *
  by_cases e12 : k1.toList = k2.toList
  · rw [if_pos e12] at h1
    by_cases e23 : k2.toList = k3.toList
    · rw [if_pos e23] at h2
      rw [if_pos (e12.trans e23)]
      by_cases q12 : p1 = p2
      · rw [if_pos q12] at h1
        by_cases q23 : p2 = p3
        · rw [if_pos q23] at h2
          rw [if_pos (q12.trans q23)]
          simp at *; omega
        · rw [if_neg q23] at h2
          rw [if_neg (by omega)]
          simp at *; omega
      · rw [if_neg q12] at h1
        by_cases q23 : p2 = p3
        · rw [if_neg (by omega)]
          simp at *; omega
        · rw [if_neg q23] at h2
          simp at h1 h2
          rw [if_neg (by omega)]
          simp; omega
    · rw [if_neg e23] at h2
      rw [if_neg (by rw [e12]; exact e23), e12]
      exact h2
  · rw [if_neg e12] at h1
    by_cases e23 : k2.toList = k3.toList
    · rw [if_neg (by rw [← e23]; exact e12), ← e23]
      exact h1
    · rw [if_neg e23] at h2
      have h3 := less_trans _ _ _ h1 h2
      rw [if_neg (fun e => by rw [e, less_irr] at h3; cases h3)]
      exact h3
theorem ltE_tri (a b : Ent) : ltE a b = true ∨ a = b ∨ ltE b a = true := by
  obtain ⟨k1, p1, s1⟩ := a
  obtain ⟨k2, p2, s2⟩ := b
  unfold ltE bef
  simp only
  by_cases e : k1.toList = k2.toList
  · obtain rfl := tl_inj e
    rw [if_pos rfl, if_pos rfl]
    by_cases q : p1 = p2
    · subst q
      rw [if_pos rfl, if_pos rfl]
      rcases Int.lt_trichotomy s1 s2 with h | h | h
      · left; simpa using h
      · right; left; rw [h]
      · right; right; simpa using h
    · rw [if_neg q, if_neg (fun h => q h.symm)]
      rcases Int.lt_trichotomy p1 p2 with h | h | h
      · left; simpa using h
      · exact absurd h q
      · right; right; simpa using h
  · rw [if_neg e, if_neg (fun h => e h.symm)]
    rcases less_tri k1.toList k2.toList with h | h | h
    · exact .inl h
    · exact absurd h e
    · exact .inr (.inr h)
theorem ltE_asym {a b : Ent} (h : ltE a b = true) : ltE b a = false := by
  cases h2 : ltE b a with
  | false => rfl
  | true => have := ltE_trans h h2; rw [ltE_irr] at this; cases this
def entCE (a b : Ent) : Int := entC a.1 a.2.1 a.2.2 b.1 b.2.1 b.2.2
theorem entCE_le (a b : Ent) : entCE a b ≤ 0 ↔ ltE b a = false := entC_bef b.1 b.2.1 b.2.2 a.1 a.2.1 a.2.2
theorem entCE_zero (a b : Ent) : entCE a b = 0 ↔ a = b := by
  obtain ⟨k1, p1, s1⟩ := a
  obtain ⟨k2, p2, s2⟩ := b
  unfold entCE entC cmpS cmpI
  simp only
  by_cases e : k1.toList = k2.toList
  · obtain rfl := tl_inj e
    rw [less_irr]
    simp only [Bool.false_eq_true, if_false, if_true, ne_eq, not_true_eq_false, Prod.mk.injEq, true_and]
    by_cases q : p1 = p2
    · subst q
      simp only [Int.lt_irrefl, if_false, if_true, ne_eq, not_true_eq_false, gt_iff_lt, true_and]
      split
      · simp; omega
      · split <;> simp <;> omega
    · simp only [q, false_and, iff_false]
      by_cases h1 : p1 < p2
      · simp [h1]
      · have h2 : p1 > p2 := by omega
        simp [h1, h2]
  · have hk : ¬ k1 = k2 := fun h => e (by rw [h])
    simp only [e, if_false, Prod.mk.injEq, hk, false_and, iff_false]
    cases Op.bytesLess k1.toList k2.toList <;> simp
theorem entCE_neg (a b : Ent) : entCE a b < 0 ↔ ltE a b = true := by
  constructor
  · intro h
    rcases ltE_tri a b with h1 | h1 | h1
    · exact h1
    · rw [(entCE_zero a b).2 h1] at h; omega
    · have := (entCE_le a b).1 (by omega); rw [h1] at this; cases this
  · intro h
    have h1 := (entCE_le a b).2 (ltE_asym h)
    have h2 : entCE a b ≠ 0 := fun e => by rw [(entCE_zero a b).1 e, ltE_irr] at h; cases h
    omega
def Sorted (l : List It) : Prop := (l.map It.ent).Pairwise (fun a b => ltE a b = true)
def pos : List It → Ent → Nat
  | [], _ => 0
  | x :: l, e => if ltE x.ent e = true then pos l e + 1 else 0
theorem pos_le : ∀ (l : List It) (e : Ent), pos l e ≤ l.length
  | [], _ => Nat.le_refl _
  | x :: l, e => by
    rw [pos]
    split
    · have := pos_le l e; rw [List.length_cons]; omega
    · exact Nat.zero_le _
theorem pos_lt : ∀ (l : List It) (e : Ent) (i : Nat) (h : i < l.length), i < pos l e → ltE l[i].ent e = true
  | [], _, i, h, _ => by simp at h
  | x :: l, e, i, h, hp => by
    rw [pos] at hp
    split at hp
    · rename_i hx
      cases i with
      | zero => exact hx
      | succ i => exact pos_lt l e i (by simpa using h) (by omega)
    · omega
theorem pos_at : ∀ (l : List It) (e : Ent) (h : pos l e < l.length), ltE l[pos l e].ent e = false
  | [], _, h => by simp at h
  | x :: l, e, h => by
    by_cases hx : ltE x.ent e = true
    · have e1 : pos (x :: l) e = pos l e + 1 := by rw [pos, if_pos hx]
      have h2 : pos l e < l.length := by rw [e1, List.length_cons] at h; omega
      have := pos_at l e h2
      simp only [e1, List.getElem_cons_succ]
      exact this
    · have e1 : pos (x :: l) e = 0 := by rw [pos, if_neg hx]
      simp only [e1, List.getElem_cons_zero]
      simpa using hx
theorem sorted_lt {l : List It} (h : Sorted l) {i j : Nat} (hj : j < l.length) (hij : i < j) : ltE (l[i]'(by omega)).ent l[j].ent = true := by
  have := List.pairwise_iff_getElem.1 h i j (by rw [List.length_map]; omega) (by rw [List.length_map]; omega) hij
  rw [List.getElem_map, List.getElem_map] at this
  exact this
theorem pos_iff {l : List It} (hs : Sorted l) (e : Ent) (i : Nat) (h : i < l.length) : ltE l[i].ent e = true ↔ i < pos l e := by
  constructor
  · intro hi
    apply Nat.lt_of_not_le
    intro hle
    have hp : pos l e < l.length := by omega
    have h1 := pos_at l e hp
    rcases Nat.lt_or_eq_of_le hle with h2 | h2
    · have := ltE_trans (sorted_lt hs h h2) hi
      rw [this] at h1; cases h1
    · subst h2; rw [hi] at h1; cases h1
  · exact pos_lt l e i h
theorem bsr_pos (c : Nat → Int) (P : Nat) : ∀ n lo hi, hi - lo ≤ n → lo ≤ P → P ≤ hi → (∀ i, lo ≤ i → i < hi → (c i < 0 ↔ i < P)) → bsr c n lo hi = P
  | 0, lo, hi, h, h1, h2, _ => by rw [bsr]; omega
  | n + 1, lo, hi, h, h1, h2, h3 => by
    rw [bsr]
    by_cases hl : lo < hi
    · rw [if_pos hl]
      by_cases hc : c ((lo + hi) / 2) < 0
      · rw [if_pos hc]
        have := (h3 _ (by omega) (by omega)).1 hc
        exact bsr_pos c P n _ _ (by omega) (by omega) h2 (fun i a b => h3 i (by omega) b)
      · rw [if_neg hc]
        have : ¬ (lo + hi) / 2 < P := fun h4 => hc ((h3 _ (by omega) (by omega)).2 h4)
        exact bsr_pos c P n _ _ (by omega) h1 (by omega) (fun i a b => h3 i a (by omega))
    · rw [if_neg hl]; omega
theorem cAt_eq {l : List It} {k : ByteArray} {p s : Int} {i : Nat} (h : i < l.length) : cAt l k p s i = entCE l[i].ent (k, p, s) := by
  unfold cAt
  rw [List.getElem?_eq_getElem h]
  rfl
theorem findAt_pos {l : List It} (hs : Sorted l) (k : ByteArray) (p s : Int) : findAt l k p s = pos l (k, p, s) := by
  unfold findAt
  refine bsr_pos _ _ _ _ _ (by omega) (Nat.zero_le _) (pos_le _ _) (fun i _ hi => ?_)
  rw [cAt_eq hi, entCE_neg]
  exact pos_iff hs _ i hi
def isIn (l : List It) (e : Ent) : Bool := match l[pos l e]? with | some x => decide (x.ent = e) | none => false
theorem isIn_lt {l : List It} {e : Ent} (h : isIn l e = true) : ∃ h : pos l e < l.length, l[pos l e].ent = e := by
  unfold isIn at h
  cases hx : l[pos l e]? with
  | none => rw [hx] at h; cases h
  | some x =>
    rw [hx] at h
    obtain ⟨h1, h2⟩ := List.getElem?_eq_some_iff.1 hx
    exact ⟨h1, by rw [h2]; simpa using h⟩
theorem isIn_no {l : List It} {e : Ent} (h : isIn l e = false) (hp : pos l e < l.length) : l[pos l e].ent ≠ e := by
  unfold isIn at h
  rw [List.getElem?_eq_getElem hp] at h
  simpa using h
theorem isIn_at {l : List It} {e : Ent} (hp : pos l e < l.length) : isIn l e = decide (l[pos l e].ent = e) := by
  unfold isIn
  rw [List.getElem?_eq_getElem hp]
theorem isIn_end {l : List It} {e : Ent} (hp : pos l e = l.length) : isIn l e = false := by
  unfold isIn
  rw [hp, List.getElem?_eq_none (Nat.le_refl _)]
theorem findIs_in {l : List It} (hs : Sorted l) (k : ByteArray) (p s : Int) : findIs l k p s = isIn l (k, p, s) := by
  unfold findIs
  rw [findAt_pos hs]
  by_cases hp : pos l (k, p, s) < l.length
  · rw [isIn_at hp, cAt_eq hp]
    have hz := entCE_zero l[pos l (k, p, s)].ent (k, p, s)
    by_cases he : l[pos l (k, p, s)].ent = (k, p, s)
    · have hz0 := (entCE_zero (k, p, s) (k, p, s)).2 rfl
      simp [hp, he, hz0]
    · have : ¬ entCE l[pos l (k, p, s)].ent (k, p, s) = 0 := fun h => he (hz.1 h)
      simp [he, this]
  · rw [isIn_end (by have := pos_le l (k, p, s); omega)]
    simp [hp]
def insAt (l : List It) (i : Nat) (x : It) : List It := l.take i ++ x :: l.drop i
theorem insAt_map (l : List It) (i : Nat) (x : It) : (insAt l i x).map slotOf = insL (l.map slotOf) i (slotOf x) := by
  simp [insAt, insL, List.map_take, List.map_drop]
theorem insAt_mem {l : List It} {i : Nat} {x y : It} (h : y ∈ insAt l i x) : y = x ∨ y ∈ l := by
  unfold insAt at h
  rcases List.mem_append.1 h with h | h
  · exact .inr (List.mem_of_mem_take h)
  · rcases List.mem_cons.1 h with h | h
    · exact .inl h
    · exact .inr (List.mem_of_mem_drop h)
theorem insAt_len (l : List It) (i : Nat) (x : It) (h : i ≤ l.length) : (insAt l i x).length = l.length + 1 := by
  simp [insAt]; omega
theorem sorted_ins {l : List It} (hs : Sorted l) (x : It) (hn : isIn l x.ent = false) : Sorted (insAt l (pos l x.ent) x) := by
  unfold Sorted insAt
  rw [List.map_append, List.map_cons, List.pairwise_append]
  refine ⟨?_, ?_, ?_⟩
  · rw [List.map_take]; exact List.Pairwise.sublist (List.take_sublist _ _) hs
  · rw [List.pairwise_cons]
    refine ⟨fun a ha => ?_, by rw [List.map_drop]; exact List.Pairwise.sublist (List.drop_sublist _ _) hs⟩
    obtain ⟨y, hy, rfl⟩ := List.mem_map.1 ha
    obtain ⟨i, hi, rfl⟩ := List.getElem_of_mem hy
    rw [List.length_drop] at hi
    rw [List.getElem_drop]
    have h1 : ltE (l[pos l x.ent + i]'(by omega)).ent x.ent = false := by
      cases h : ltE (l[pos l x.ent + i]'(by omega)).ent x.ent with
      | false => rfl
      | true => have := (pos_iff hs x.ent _ (by omega)).1 h; omega
    rcases ltE_tri (l[pos l x.ent + i]'(by omega)).ent x.ent with h | h | h
    · rw [h] at h1; cases h1
    · exfalso
      rcases Nat.eq_zero_or_pos i with rfl | h0
      · exact isIn_no hn (by omega) h
      · have h2 := sorted_lt hs (i := pos l x.ent) (j := pos l x.ent + i) (by omega) (by omega)
        rw [h, pos_at l x.ent (by omega)] at h2
        cases h2
    · exact h
  · intro a ha b hb
    obtain ⟨y, hy, rfl⟩ := List.mem_map.1 ha
    obtain ⟨i, hi, rfl⟩ := List.getElem_of_mem hy
    rw [List.length_take] at hi
    rw [List.getElem_take]
    have h1 := pos_lt l x.ent i (by omega) (by omega)
    rcases List.mem_cons.1 hb with rfl | hb
    · exact h1
    · obtain ⟨z, hz, rfl⟩ := List.mem_map.1 hb
      obtain ⟨j, hj, rfl⟩ := List.getElem_of_mem hz
      rw [List.length_drop] at hj
      rw [List.getElem_drop]
      exact sorted_lt hs (by omega) (by omega)
theorem sorted_erase {l : List It} (hs : Sorted l) (i : Nat) : Sorted (l.eraseIdx i) := by
  exact List.Pairwise.sublist ((List.eraseIdx_sublist l i).map It.ent) hs
theorem sorted_set {l : List It} (hs : Sorted l) (i : Nat) (hi : i < l.length) (x : It) (hx : x.ent = l[i].ent) : Sorted (l.set i x) := by
  unfold Sorted
  rw [List.map_set, hx, ← List.getElem_map It.ent (h := by rw [List.length_map]; exact hi), List.set_getElem_self]
  exact hs
def HD (n : Nat) : ByteArray := bs (putL 4 n)
theorem HD_size (n : Nat) : (HD n).size = 4 := by unfold HD; rw [bs_size, putL_length]
structure LeafS (its : List It) : Prop where
  good : ∀ x ∈ its, It.Good x
  room : slotsN (its.map slotOf) ≤ 481
  sorted : Sorted its
theorem slots9L (its : List It) : 9 * its.length ≤ slotsN (its.map slotOf) := by
  induction its with
  | nil => simp
  | cons x l ih =>
    rw [List.map_cons, slotsN_cons, slotOf_size, List.length_cons]
    omega
theorem LeafS.len {its : List It} (h : LeafS its) : its.length ≤ 53 := by
  have := slots9L its
  have := h.room
  omega
theorem LeafS.nil : LeafS [] := ⟨fun x hx => absurd hx (by simp), by decide, List.Pairwise.nil⟩
theorem slotsN_set {l : List ByteArray} {i : Nat} {s : ByteArray} (h : i < l.length) : slotsN (l.set i s) + l[i].size = slotsN l + s.size := by
  have h1 := slotsN_append (l.take i) (l[i] :: l.drop (i + 1))
  have h2 := slotsN_append (l.take i) (s :: l.drop (i + 1))
  rw [← List.drop_eq_getElem_cons h, List.take_append_drop] at h1
  rw [slotsN_cons] at h2
  rw [List.set_eq_take_append_cons_drop, if_pos h, h2]
  rw [List.drop_eq_getElem_cons h, slotsN_cons] at h1
  omega
theorem slotsN_erase {l : List ByteArray} {i : Nat} (h : i < l.length) : slotsN (l.eraseIdx i) + (2 + l[i].size) = slotsN l := by
  have h1 := slotsN_append (l.take i) (l[i] :: l.drop (i + 1))
  have h2 := slotsN_append (l.take i) (l.drop (i + 1))
  rw [← List.drop_eq_getElem_cons h, List.take_append_drop] at h1
  rw [List.eraseIdx_eq_take_drop_succ, h2]
  rw [List.drop_eq_getElem_cons h, slotsN_cons] at h1
  omega
theorem map_erase (l : List It) (i : Nat) : (l.eraseIdx i).map slotOf = (l.map slotOf).eraseIdx i := by
  simp [List.eraseIdx_eq_take_drop_succ, List.map_take, List.map_drop]
theorem LeafS.set {its : List It} (h : LeafS its) {i : Nat} (hi : i < its.length) {x : It} (hx : It.Good x) (he : x.ent = its[i].ent) : LeafS (its.set i x) := by
  refine ⟨fun y hy => ?_, ?_, sorted_set h.sorted i hi x he⟩
  · rcases List.mem_or_eq_of_mem_set hy with h1 | h1
    · exact h.good y h1
    · rw [h1]; exact hx
  · rw [List.map_set]
    have hi' : i < (its.map slotOf).length := by rw [List.length_map]; exact hi
    have h1 := slotsN_set (s := slotOf x) hi'
    rw [List.getElem_map, slotOf_size, slotOf_size] at h1
    have h2 : x.key = its[i].key := congrArg (·.1) he
    rw [h2] at h1
    have := h.room
    omega
theorem LeafS.erase {its : List It} (h : LeafS its) {i : Nat} (hi : i < its.length) : LeafS (its.eraseIdx i) := by
  refine ⟨fun y hy => h.good y (List.mem_of_mem_eraseIdx hy), ?_, sorted_erase h.sorted i⟩
  have hi' : i < (its.map slotOf).length := by rw [List.length_map]; exact hi
  have h1 := slotsN_erase hi'
  have h2 : (its.eraseIdx i).map slotOf = (its.map slotOf).eraseIdx i := map_erase its i
  rw [h2]
  have := h.room
  omega
theorem slotsN_insAt (l : List ByteArray) (i : Nat) (s : ByteArray) : slotsN (insL l i s) = slotsN l + 2 + s.size := by
  have h := slotsN_append (l.take i) (s :: l.drop i)
  have h2 := slotsN_append (l.take i) (l.drop i)
  rw [List.take_append_drop] at h2
  rw [slotsN_cons] at h
  unfold insL
  omega
theorem LeafS.ins {its : List It} (h : LeafS its) {x : It} (hx : It.Good x) (hn : isIn its x.ent = false) (hr : slotsN (its.map slotOf) + 2 + (slotOf x).size ≤ 481) : LeafS (insAt its (pos its x.ent) x) := by
  refine ⟨fun y hy => ?_, ?_, sorted_ins h.sorted x hn⟩
  · rcases insAt_mem hy with h1 | h1
    · rw [h1]; exact hx
    · exact h.good y h1
  · rw [insAt_map, slotsN_insAt]; exact hr
theorem slot_getL {its : List It} {i : Nat} (hi : i < its.length) : rdOf ByteArray.empty (its.map slotOf) (i : Int) = slotOf its[i] := by
  have hi' : i < (its.map slotOf).length := by simpa using hi
  have e := rd_at hi'
  rw [List.getElem_map] at e
  exact e
theorem ap_fmtL (n : Nat) : apR 3 0 0 ⟨#[]⟩ [] 1 3 (HD n) ⟨#[]⟩ 1 = (3, 1, 3, HD n, [], 0) := by
  have hz := HD_size n
  have hE : opEs 1 3 (HD n) (⟨#[]⟩ : ByteArray) = 0 := (opE_pos (by
    unfold opOk
    rw [es_, hz]
    refine ⟨by omega, by simp, .inl ⟨rfl, by omega, by omega, by omega, by simp⟩⟩)).symm
  unfold apR
  rw [if_neg (by rw [hE]; simp), if_neg (by unfold stE; simp), if_pos rfl]
  unfold finR
  rw [hz, if_neg (by simp [slotsN_nil])]
theorem ap_insL {its : List It} (h : LeafS its) {x : It} (hx : It.Good x) (i : Nat) (hi : i ≤ its.length) (lsn : Int) (n : Nat) :
    apR 3 lsn 3 (HD n) (its.map slotOf) 2 i (slotOf x) ⟨#[]⟩ 2 = if slotsN (its.map slotOf) + 2 + (slotOf x).size ≤ 481 then (3, 2, 3, HD n, (insAt its i x).map slotOf, 0) else (0, 0, 0, ⟨#[]⟩, [], 30) := by
  have hlen := h.len
  have hz := slotOf_size x
  have hk := hx.2.2.2.2
  have hE : opEs 2 i (slotOf x) (⟨#[]⟩ : ByteArray) = 0 := (opE_pos (by
    unfold opOk
    rw [es_]
    refine ⟨by omega, by simp, .inr (.inl ⟨rfl, by omega, by omega, by simp⟩)⟩)).symm
  have hS : stE 3 (HD n) (its.map slotOf) 2 i (slotOf x) (⟨#[]⟩ : ByteArray) = 0 := by
    unfold stE
    rw [if_pos rfl, if_neg (by rw [List.length_map]; omega), if_neg (by rw [List.length_map]; omega)]
  unfold apR
  rw [if_neg (by rw [hE]; simp), if_neg (by rw [hS]; simp), if_neg (by decide), if_pos rfl, Int.toNat_natCast, insAt_map]
  unfold finR
  have hs := slotsN_insAt (its.map slotOf) i (slotOf x)
  by_cases hr : slotsN (its.map slotOf) + 2 + (slotOf x).size ≤ 481
  · rw [if_pos hr, if_neg (by rw [HD_size]; omega)]
  · rw [if_neg hr, if_pos (by rw [HD_size]; omega)]
theorem ap_setL {its : List It} (h : LeafS its) {i : Nat} (hi : i < its.length) {x : It} (hx : It.Good x) (he : x.ent = its[i].ent) (lsn : Int) (n : Nat) :
    apR 3 lsn 3 (HD n) (its.map slotOf) 4 i (slotOf x) (slotOf its[i]) 2 = (3, 2, 3, HD n, (its.set i x).map slotOf, 0) := by
  have hlen := h.len
  have hz := slotOf_size x
  have hk := hx.2.2.2.2
  have hz2 := slotOf_size its[i]
  have hk2 := (h.good _ (List.getElem_mem hi)).2.2.2.2
  have hE : opEs 4 i (slotOf x) (slotOf its[i]) = 0 := (opE_pos (by
    unfold opOk
    rw [es_, es_]
    refine ⟨by omega, by omega, .inr (.inr (.inr (.inl ⟨rfl, by omega, by omega⟩)))⟩)).symm
  have hS : stE 3 (HD n) (its.map slotOf) 4 i (slotOf x) (slotOf its[i]) = 0 := by
    unfold stE
    rw [if_neg (by decide), if_pos (.inr rfl), if_neg (by rw [List.length_map]; omega), slot_getL hi, if_pos rfl]
  have hn := (h.set hi hx he).room
  unfold apR
  rw [if_neg (by rw [hE]; simp), if_neg (by rw [hS]; simp), if_neg (by decide), if_neg (by decide), if_neg (by decide), if_pos rfl, Int.toNat_natCast, ← List.map_set]
  unfold finR
  rw [if_neg (by rw [HD_size]; omega)]
theorem ap_eraseL {its : List It} (h : LeafS its) {i : Nat} (hi : i < its.length) (lsn : Int) (n : Nat) :
    apR 3 lsn 3 (HD n) (its.map slotOf) 3 i ⟨#[]⟩ (slotOf its[i]) 2 = (3, 2, 3, HD n, (its.eraseIdx i).map slotOf, 0) := by
  have hlen := h.len
  have hz2 := slotOf_size its[i]
  have hk2 := (h.good _ (List.getElem_mem hi)).2.2.2.2
  have hE : opEs 3 i (⟨#[]⟩ : ByteArray) (slotOf its[i]) = 0 := (opE_pos (by
    unfold opOk
    rw [es_ (slotOf its[i])]
    refine ⟨by simp, by omega, .inr (.inr (.inl ⟨rfl, by omega, by omega, by simp⟩))⟩)).symm
  have hS : stE 3 (HD n) (its.map slotOf) 3 i (⟨#[]⟩ : ByteArray) (slotOf its[i]) = 0 := by
    unfold stE
    rw [if_neg (by decide), if_pos (.inl rfl), if_neg (by rw [List.length_map]; omega), slot_getL hi, if_pos rfl]
  have hn := (h.erase hi).room
  have h2 : (its.eraseIdx i).map slotOf = (its.map slotOf).eraseIdx i := map_erase its i
  rw [h2] at hn
  unfold apR
  rw [if_neg (by rw [hE]; simp), if_neg (by rw [hS]; simp), if_neg (by decide), if_neg (by decide), if_pos rfl, Int.toNat_natCast, h2]
  unfold finR
  rw [if_neg (by rw [HD_size]; omega)]
theorem ap_headL {its : List It} (h : LeafS its) (lsn : Int) (n m : Nat) :
    apR 3 lsn 3 (HD n) (its.map slotOf) 5 0 (HD m) (HD n) 2 = (3, 2, 3, HD m, its.map slotOf, 0) := by
  have hE : opEs 5 0 (HD m) (HD n) = 0 := (opE_pos (by
    unfold opOk
    rw [es_, es_, HD_size, HD_size]
    refine ⟨by omega, by omega, .inr (.inr (.inr (.inr (.inl ⟨rfl, rfl, by omega, by omega⟩))))⟩)).symm
  have hS : stE 3 (HD n) (its.map slotOf) 5 0 (HD m) (HD n) = 0 := by
    unfold stE
    rw [if_neg (by decide), if_neg (by decide), if_pos rfl, if_pos rfl]
  have hn := h.room
  unfold apR
  rw [if_neg (by rw [hE]; simp), if_neg (by rw [hS]; simp), if_neg (by decide), if_neg (by decide), if_neg (by decide), if_neg (by decide), if_pos rfl]
  unfold finR
  rw [if_neg (by rw [HD_size]; omega)]
theorem formL_fn (n : Nat) (h : n ≤ 4294967295) : node_FormatLeaf.f n = some (1, 3, HD n, ⟨#[]⟩) := by
  unfold node_FormatLeaf.f raw_Put.f
  rw [u64_w (by omega) (by omega), if_pos (by omega)]
  rfl
theorem link_f (num lsn : Int) (n m : Nat) (h : m ≤ 4294967295) (l : List ByteArray) : node_Link.f num lsn 3 (HD n) l m = some (5, 0, HD m, HD n) := by
  unfold node_Link.f raw_Put.f
  rw [u64_w (by omega) (by omega), if_pos (by omega)]
  rfl
theorem next_f (num lsn : Int) (n : Nat) (h : n ≤ 4294967295) (l : List ByteArray) : node_Next.f num lsn 3 (HD n) l = some (n : Int) := by
  have hd : (HD n).data.toList = putL 4 n := by unfold HD; exact toList_bs _
  unfold node_Next.f raw_Get.f
  rw [if_pos rfl, if_pos (by rw [HD_size]; decide), Option.bind_some]
  have hg : getR (HD n).data.toList 0 4 = (((n : Nat) : Int), 0) := by
    unfold getR
    rw [hd, putL_length, if_neg (by decide), if_neg (by decide)]
    have e : ((putL 4 n).drop (0 : Int).toNat).take (4 : Int).toNat = putL 4 n := by
      rw [show (0 : Int).toNat = 0 from rfl, show (4 : Int).toNat = 4 from rfl, List.drop_zero, List.take_of_length_le (by rw [putL_length]; omega)]
    rw [e, numL_putL]
    have : n % 256 ^ 4 = n := Nat.mod_eq_of_lt (by omega)
    rw [this]
  rw [hg]
  simp only
  rw [Int.emod_eq_of_lt (by omega) (by omega)]
theorem take_no (num lsn : Int) (n : Nat) (l : List ByteArray) (a : Int) (h : a < 0 ∨ (l.length : Int) ≤ a) : node_Take.f num lsn 3 (HD n) l a = some (0, 0, ⟨#[]⟩, ⟨#[]⟩, 2) := by
  unfold node_Take.f
  by_cases h1 : a < 0
  · rw [if_pos h1]
  · rw [if_neg h1, if_pos (by omega)]
theorem take_yes (num lsn : Int) (n : Nat) {its : List It} {i : Nat} (hi : i < its.length) : node_Take.f num lsn 3 (HD n) (its.map slotOf) i = some ((3 : Int), (i : Int), ⟨#[]⟩, slotOf its[i], (0 : Int)) := by
  unfold node_Take.f
  rw [if_neg (by omega), if_neg (by rw [List.length_map]; omega), if_pos (by omega), if_pos (by rw [List.length_map]; omega), slot_getL hi]
theorem turn_no {its : List It} (h : LeafS its) (num lsn : Int) (n : Nat) (x : It) (hx : It.Good x) (hn : isIn its x.ent = false) (lv : Bool) : node_Turn.f 200 num lsn 3 (HD n) (its.map slotOf) x.key x.page x.slot lv = some (0, 0, ⟨#[]⟩, ⟨#[]⟩, 2) := by
  have hl := h.len
  unfold node_Turn.f
  rw [leaf_f its h.good (by omega) num lsn (HD n) (HD_size n) 200 (by omega), Option.bind_some]
  simp only
  rw [if_pos trivial]
  unfold node_Find.f
  rw [if_pos (by simp; omega), Option.bind_some, map_toIt, findIs_in h.sorted]
  simp only
  rw [show isIn its (x.key, x.page, x.slot) = false from hn, if_neg (by simp)]
theorem turn_yes {its : List It} (h : LeafS its) (num lsn : Int) (n : Nat) (x : It) (hx : It.Good x) (hi : pos its x.ent < its.length) (he : its[pos its x.ent].ent = x.ent) :
    node_Turn.f 200 num lsn 3 (HD n) (its.map slotOf) x.key x.page x.slot x.live = some ((4 : Int), ((pos its x.ent : Nat) : Int), slotOf x, slotOf its[pos its x.ent], (0 : Int)) := by
  have hl := h.len
  obtain ⟨g1, g2, g3, g4, g5⟩ := hx
  unfold node_Turn.f
  rw [leaf_f its h.good (by omega) num lsn (HD n) (HD_size n) 200 (by omega), Option.bind_some]
  simp only
  rw [if_pos trivial]
  unfold node_Find.f
  rw [if_pos (by simp; omega), Option.bind_some, map_toIt, findIs_in h.sorted, findAt_pos h.sorted]
  simp only
  have e1 : isIn its (x.key, x.page, x.slot) = true := by
    have := isIn_at (l := its) (e := x.ent) hi
    rw [show (x.key, x.page, x.slot) = x.ent from rfl, this]
    simpa using he
  rw [e1, if_pos rfl]
  unfold node_leafSlot.f
  rw [if_pos ⟨g1, g2, g3, g4, by omega⟩, Option.bind_some]
  have e2 := slot_getL hi
  rw [show pos its (x.key, x.page, x.slot) = pos its x.ent from rfl, if_pos (by omega), if_pos (by rw [List.length_map]; omega), e2]
  rfl
theorem put_f2 {its : List It} (h : LeafS its) (num lsn : Int) (n : Nat) (x : It) (hx : It.Good x) :
    node_PutItem.f 200 num lsn 3 (HD n) (its.map slotOf) x.key x.page x.slot x.live = some (if isIn its x.ent = true then (0, 0, ⟨#[]⟩, ⟨#[]⟩, 121) else (2, ((pos its x.ent : Nat) : Int), slotOf x, ⟨#[]⟩, 0)) := by
  have hl := h.len
  have := putItem_f its h.good (by omega) num lsn (HD n) (HD_size n) x hx 200 (by omega)
  rw [findIs_in h.sorted, findAt_pos h.sorted] at this
  exact this
end Go.Proofs.Ytfegabikfkmepaa.PNe
end
section
namespace Go.Proofs.Ytfegabikfkmepaa
open Go.RowKit Go.Gi Go.GiRow Go.Proofs.YtfegabikfkmepaaW.PrintWords Go.Proofs.YtfegabikfkmepaaW.PrintLast Go.Proofs.YtfegabikfkmepaaW.PrintMore
set_option maxRecDepth 20000
set_option linter.unusedSimpArgs false
set_option linter.unusedVariables false
theorem own_of_blk {w : World} {g T size n base : Nat} {cs : Array Value} (h : w.heap[g]? = some (.cells cs T (0, 0))) (hb : base ≤ g) (hs : cs.size = n * size) (hn : n ≤ maxLen) : w.ownsRow base T size (.slice (some ⟨g, 0, none⟩) n n) n cs.toList := by
  refine ⟨by simpa using hs, .inr ⟨g, n, cs, rfl, hb, h, Nat.le_refl _, hn, hs, ?_⟩⟩
  rw [List.take_of_length_le (by simp; omega)]
theorem own_at_ {w : World} {base gv n c : Nat} {slots : List ByteArray} (h : OwnP w base (.slice (some ⟨gv, 0, none⟩) n c) slots) (j : Nat) (hj : j < slots.length) : w.cell? ⟨gv, j, none⟩ = (strV slots)[j]? := by
  rcases h.2 with ⟨e, h0⟩ | ⟨g, cap, cur, e, h1, h2, h3, h4, _⟩
  · omega
  · injection e with e1 e2 e3
    subst e2
    have := World.ownsRow.cellAt h j (by omega)
    exact this
theorem OwnP.grown {w w' : World} {base : Nat} {v : Value} {slots : List ByteArray} {row : Option Nat} (h : OwnP w base v slots) (hg : w.grownBy w' row) (hne : v.ownBlock = none ∨ v.ownBlock ≠ row) : OwnP w' base v slots := World.ownsRow.kept h hg hne
end Go.Proofs.Ytfegabikfkmepaa
end
section
namespace Go.Gi
theorem isLoadN {P : Program} {ops : Array Oper} {Q : Exit → Act → World → Prop} {l : List Oper} {a : Act} {w : World} {dst : Option Tmp} {tp : TypeId} {pos : String} {aft : Array Edge} (ty : TypeId) (x : Operand)
    (h : wpList P ops Q ({ dst := dst, op := .load ty x, type := tp, pos := pos, after := aft, guard := none } :: l) a w) : wpList P ops Q ({ dst := dst, op := .load ty x, type := tp, pos := pos, after := aft, guard := none } :: l) a w := h
theorem isLoadG {P : Program} {ops : Array Oper} {Q : Exit → Act → World → Prop} {l : List Oper} {a : Act} {w : World} {dst : Option Tmp} {tp : TypeId} {pos : String} {aft : Array Edge} {g : Nat × Bool} (ty : TypeId) (x : Operand)
    (h : wpList P ops Q ({ dst := dst, op := .load ty x, type := tp, pos := pos, after := aft, guard := some g } :: l) a w) : wpList P ops Q ({ dst := dst, op := .load ty x, type := tp, pos := pos, after := aft, guard := some g } :: l) a w := h
theorem isStoreN {P : Program} {ops : Array Oper} {Q : Exit → Act → World → Prop} {l : List Oper} {a : Act} {w : World} {dst : Option Tmp} {tp : TypeId} {pos : String} {aft : Array Edge} (ty : TypeId) (x y : Operand)
    (h : wpList P ops Q ({ dst := dst, op := .store ty x y, type := tp, pos := pos, after := aft, guard := none } :: l) a w) : wpList P ops Q ({ dst := dst, op := .store ty x y, type := tp, pos := pos, after := aft, guard := none } :: l) a w := h
theorem isGuarded {P : Program} {ops : Array Oper} {Q : Exit → Act → World → Prop} {l : List Oper} {a : Act} {w : World} {dst : Option Tmp} {op : Op} {tp : TypeId} {pos : String} {aft : Array Edge} {g : Nat × Bool}
    (h : wpList P ops Q ({ dst := dst, op := op, type := tp, pos := pos, after := aft, guard := some g } :: l) a w) : wpList P ops Q ({ dst := dst, op := op, type := tp, pos := pos, after := aft, guard := some g } :: l) a w := h
theorem guardOn {P : Program} {ops : Array Oper} {Q : Exit → Act → World → Prop} {l : List Oper} {o : Oper} {a : Act} {w : World} (hw : Region.wanted o (yielded ops a.tmps) = true)
    (h : ∀ K : Act → World → Prop, (∀ a w, wpList P ops Q l a w → K a w) → Oper.wp P o a w K Q) : wpList P ops Q (o :: l) a w :=
  wpList_step fun K hK => by rw [if_pos hw]; exact h K hK
theorem guardOff {P : Program} {ops : Array Oper} {Q : Exit → Act → World → Prop} {l : List Oper} {o : Oper} {a : Act} {w : World} {d : Tmp} (hw : Region.wanted o (yielded ops a.tmps) = false) (hd : o.dst = some d)
    (h : wpList P ops Q l (a.put (some d) undef) w) : wpList P ops Q (o :: l) a w :=
  wpList_step fun K hK => by rw [hw, hd]; simp only [Bool.false_eq_true, if_false]; exact hK _ _ h
end Go.Gi
end
section
namespace Go.Proofs.Ytfegabikfkmepaa
open Go.RowKit Go.Gi Go.GiRow Go.Proofs.YtfegabikfkmepaaW.PrintWords Go.Proofs.YtfegabikfkmepaaW.PrintLast Go.Proofs.YtfegabikfkmepaaW.PrintMore PNe
set_option maxRecDepth 20000
set_option linter.unusedSimpArgs false
set_option linter.unusedVariables false
def H0a : ByteArray := bs (putL 4 0)
def X0a : It := ⟨⟨#[97]⟩, 0, 0, true⟩
theorem X0a_good : It.Good X0a := by refine ⟨by decide, by decide, by decide, by decide, by decide⟩
theorem apA1 : apR 3 0 0 ⟨#[]⟩ [] 1 3 H0a ⟨#[]⟩ 1 = (3, 1, 3, H0a, [], 0) := by kernel_rfl
theorem apA2 : apR 3 1 3 H0a [] 2 0 (slotOf X0a) ⟨#[]⟩ 2 = (3, 2, 3, H0a, [slotOf X0a], 0) := by kernel_rfl
theorem formA : node_FormatLeaf.f 0 = some (1, 3, H0a, ⟨#[]⟩) := by kernel_rfl
theorem leaf_own {w : World} {base : Nat} {v : Value} {l : List It} (num lsn : Int) (head : ByteArray) (hh : head.size = 4) (hg : ∀ x ∈ l, It.Good x) (hn : l.length ≤ 1000) (h : OwnP w base v (l.map slotOf)) :
    Calls Try.prog 31 #[.agg #[.int .u32 num, .int .u64 lsn, .int .i64 3, .string head, v]] w fun e w' => ∃ A c, e = .returned (.tuple #[.slice A l.length c, .int .i64 0]) ∧ Kd.C k47 w' A l.length (l.map ofIt) ∧ l.length ≤ c ∧ Below w.heap.size w w' := by
  obtain ⟨A, c, rfl, hc, hC⟩ := own_C h
  refine (node_Leaf.calls 2010 num lsn 3 head A c (l.map slotOf) _ _ w hC hc (leaf_f l hg (by omega) num lsn head hh 2010 (by omega))).mono ?_
  rintro e w' ⟨vk, rfl, hR, hb⟩
  obtain ⟨A1, c1, rfl, hc1, hC1⟩ := Kd.R_reads hR
  rw [List.length_map] at hc1 hC1
  refine ⟨A1, c1, ?_, hC1, hc1, hb⟩
  rw [List.length_map]
theorem sh_oneA (lsn : Int) (A : Option Addr) (n c : Nat) : (#[Value.int .u32 3, .int .u64 lsn, .int .i64 3, .string H0a, .slice A n c]).all (·.oneCell') = true := by simp [Value.oneCell']
set_option maxHeartbeats 16000000 in
theorem awake_h (w : World) : Calls Try.prog 7 #[] w fun e w' => e = .returned (.bool true) ∧ Below w.heap.size w w' := by
  go_enter Try.func7, Try.ntmps7
  go_upto_region 2 with (first | (go_at_call 12; refine (page_Blank.calls 3 3 0 0 ⟨#[]⟩ [] _ rfl).mono ?_; rintro e w1 ⟨v1, rfl, hR1, hb5⟩; obtain ⟨A1, m1, rfl⟩ := Kd.R_slice hR1; have hRR := Kd.R_reads' hR1; have HC := Lib.hid hRR.2.2; have HN := Lib.hid hRR.2.1; have HK := Lib.hid hb5; clear hR1 hb5 hRR) | (go_at_call 13; refine (node_FormatLeaf.calls 0 1 3 H0a ⟨#[]⟩ _ formA).mono ?_; rintro e w2 ⟨rfl, hb5⟩; have n_C := Lib.hid (Kd.C_below HC.out hb5); have n_K := Lib.hid (bstep HK.out hb5); clear hb5 HK HC; have HC := n_C; have HK := n_K; clear n_K n_C) | (go_at_call 11; refine (apply_any 3 0 0 ⟨#[]⟩ [] A1 m1 1 3 H0a ⟨#[]⟩ 1 _ HC.out HN.out (by simp) (by simp) (by decide)).mono ?_; rintro e w3 ⟨v3, he, ho, hb5⟩; rw [apA1] at he ho; subst he; obtain ⟨A3, m3, hv3⟩ := own_sl ho; subst hv3; have HV := Lib.hid (OwnP.lower (show OwnP w3 w2.heap.size (.slice A3 ([] : List ByteArray).length m3) (([] : List It).map slotOf) from ho) HK.out.size); have n_K := Lib.hid (bstep HK.out hb5); clear ho hb5 HC HK HN; have HK := n_K; clear n_K) | (with_reducible refine isStoreN 28 (.tmp 1) (.tmp 13) ?_; with_unfolding_all refine wpList_store_row rfl 28 (.tmp 1) (.tmp 13) rfl w3.heap.size #[.int .u32 3, .int .u64 1, .int .i64 3, .string H0a, (.slice A3 0 m3)] (by kernel_rfl) (by kernel_rfl) 28 #[.int .u32 0, .int .u64 0, .int .i64 0, .string ⟨#[]⟩, .slice none 0 0] (Blk.new w3 28 #[.int .u32 0, .int .u64 0, .int .i64 0, .string ⟨#[]⟩, .slice none 0 0]) (by kernel_rfl) rfl (sh_oneA _ _ _ _) ?_))
  have hB := Lib.hid (blk_setRow (cs' := #[.int .u32 3, .int .u64 1, .int .i64 3, .string H0a, (.slice A3 0 m3)]) (Blk.new w3 28 #[.int .u32 0, .int .u64 0, .int .i64 0, .string ⟨#[]⟩, .slice none 0 0]))
  have hb5 := setRow_below (balloc (Below.refl w3.heap.size w3) (.cells #[.int .u32 0, .int .u64 0, .int .i64 0, .string ⟨#[]⟩, .slice none 0 0] 28)) (Nat.le_refl w3.heap.size) #[.int .u32 3, .int .u64 1, .int .i64 3, .string H0a, (.slice A3 0 m3)]
  have n_HV := Lib.hid (HV.out.below hb5)
  have n_HK := Lib.hid (bstep HK.out hb5)
  clear hb5 HV HK
  have HV := n_HV
  have HK := n_HK
  clear n_HV n_HK
  generalize ((w3.alloc (.cells #[.int .u32 0, .int .u64 0, .int .i64 0, .string ⟨#[]⟩, .slice none 0 0] 28)).setRow w3.heap.size #[.int .u32 3, .int .u64 1, .int .i64 3, .string H0a, (.slice A3 0 m3)]) = w4 at *
  generalize w3.heap.size = g1 at *
  have H1 := hB
  clear hB
  go_upto_region 3 with (first | (with_reducible refine isLoadN 28 (.tmp 1) ?_; with_unfolding_all refine wpList_load_row rfl 28 (.tmp 1) rfl g1 (by kernel_rfl) 28 #[.int .u32 3, .int .u64 1, .int .i64 3, .string H0a, (.slice A3 0 m3)] (0, 0) _ H1.out Try.underlying28 rfl (by kernel_rfl) ?_) | (go_at_call 14; refine (put_own 3 1 H0a [] (fun x hx => absurd hx (by simp)) (by simp) rfl X0a X0a_good HV.out 2 0 (slotOf X0a) 0 (by rfl)).mono ?_; rintro e w5 ⟨rfl, hb5⟩; have n_H1 := Lib.hid (H1.out.step hb5); have n_HV := Lib.hid (HV.out.below hb5); have n_HK := Lib.hid (bstep HK.out hb5); clear hb5 H1 HV HK; have H1 := n_H1; have HV := n_HV; have HK := n_HK; clear n_H1 n_HV n_HK) | (with_reducible refine isStoreN 38 (.tmp 3) (.tmp 20) ?_; with_unfolding_all refine wpList_store_row rfl 38 (.tmp 3) (.tmp 20) rfl w5.heap.size #[.int .i64 2, .int .i64 0, .string (slotOf X0a), .string ⟨#[]⟩] (by kernel_rfl) (by kernel_rfl) 38 #[.int .i64 0, .int .i64 0, .string ⟨#[]⟩, .string ⟨#[]⟩] (Blk.new w5 38 #[.int .i64 0, .int .i64 0, .string ⟨#[]⟩, .string ⟨#[]⟩]) (by kernel_rfl) rfl (by simp [Value.oneCell']) ?_))
  have hB := Lib.hid (blk_setRow (cs' := #[.int .i64 2, .int .i64 0, .string (slotOf X0a), .string ⟨#[]⟩]) (Blk.new w5 38 #[.int .i64 0, .int .i64 0, .string ⟨#[]⟩, .string ⟨#[]⟩]))
  have hb5 := setRow_below (balloc (Below.refl w5.heap.size w5) (.cells #[.int .i64 0, .int .i64 0, .string ⟨#[]⟩, .string ⟨#[]⟩] 38)) (Nat.le_refl w5.heap.size) #[.int .i64 2, .int .i64 0, .string (slotOf X0a), .string ⟨#[]⟩]
  have n_H1 := Lib.hid (H1.out.step hb5)
  have n_HV := Lib.hid (HV.out.below hb5)
  have n_HK := Lib.hid (bstep HK.out hb5)
  clear hb5 H1 HV HK
  have H1 := n_H1
  have HV := n_HV
  have HK := n_HK
  clear n_H1 n_HV n_HK
  generalize ((w5.alloc (.cells #[.int .i64 0, .int .i64 0, .string ⟨#[]⟩, .string ⟨#[]⟩] 38)).setRow w5.heap.size #[.int .i64 2, .int .i64 0, .string (slotOf X0a), .string ⟨#[]⟩]) = w6 at *
  generalize w5.heap.size = g3 at *
  have H3 := hB
  clear hB
  go_upto_region 4 with (first | (with_reducible refine isLoadN 28 (.tmp 1) ?_; with_unfolding_all refine wpList_load_row rfl 28 (.tmp 1) rfl g1 (by kernel_rfl) 28 #[.int .u32 3, .int .u64 1, .int .i64 3, .string H0a, (.slice A3 0 m3)] (0, 0) _ H1.out Try.underlying28 rfl (by kernel_rfl) ?_) | (with_reducible refine isLoadN 38 (.tmp 3) ?_; with_unfolding_all refine wpList_load_row rfl 38 (.tmp 3) rfl g3 (by kernel_rfl) 38 #[.int .i64 2, .int .i64 0, .string (slotOf X0a), .string ⟨#[]⟩] (0, 0) _ H3.out Try.underlying38 rfl (by kernel_rfl) ?_) | (go_at_call 11; refine (ap_own 3 1 3 H0a 2 0 (slotOf X0a) ⟨#[]⟩ 2 HV.out (by simp) (fun x hx => absurd hx (by simp)) (by decide)).mono ?_; rintro e w7 ⟨vq, he_, ho_, hb5⟩; rw [show apR 3 1 3 H0a (([] : List It).map slotOf) 2 0 (slotOf X0a) ⟨#[]⟩ 2 = _ from apA2] at he_ ho_; subst he_; have HQ := Lib.hid (OwnP.lower (show OwnP w7 _ vq ([X0a].map slotOf) from ho_) HK.out.size); clear ho_; obtain ⟨Aq, cq, hVq⟩ : ∃ A c, vq = .slice A 1 c := own_sl HQ.out; subst hVq; have n_H1 := Lib.hid (H1.out.step hb5); have n_HV := Lib.hid (HV.out.below hb5); have n_HK := Lib.hid (bstep HK.out hb5); have n_H3 := Lib.hid (H3.out.step hb5); clear hb5 H1 HV HK H3; have H1 := n_H1; have HV := n_HV; have HK := n_HK; have H3 := n_H3; clear n_H1 n_HV n_HK n_H3) | (with_reducible refine isStoreN 28 (.tmp 5) (.tmp 26) ?_; with_unfolding_all refine wpList_store_row rfl 28 (.tmp 5) (.tmp 26) rfl w7.heap.size #[.int .u32 3, .int .u64 2, .int .i64 3, .string H0a, (.slice Aq 1 cq)] (by kernel_rfl) (by kernel_rfl) 28 #[.int .u32 0, .int .u64 0, .int .i64 0, .string ⟨#[]⟩, .slice none 0 0] (Blk.new w7 28 #[.int .u32 0, .int .u64 0, .int .i64 0, .string ⟨#[]⟩, .slice none 0 0]) (by kernel_rfl) rfl (sh_oneA _ _ _ _) ?_))
  have hB := Lib.hid (blk_setRow (cs' := #[.int .u32 3, .int .u64 2, .int .i64 3, .string H0a, (.slice Aq 1 cq)]) (Blk.new w7 28 #[.int .u32 0, .int .u64 0, .int .i64 0, .string ⟨#[]⟩, .slice none 0 0]))
  have hb5 := setRow_below (balloc (Below.refl w7.heap.size w7) (.cells #[.int .u32 0, .int .u64 0, .int .i64 0, .string ⟨#[]⟩, .slice none 0 0] 28)) (Nat.le_refl w7.heap.size) #[.int .u32 3, .int .u64 2, .int .i64 3, .string H0a, (.slice Aq 1 cq)]
  have n_H1 := Lib.hid (H1.out.step hb5)
  have n_HV := Lib.hid (HV.out.below hb5)
  have n_HK := Lib.hid (bstep HK.out hb5)
  have n_H3 := Lib.hid (H3.out.step hb5)
  have n_HQ := Lib.hid (HQ.out.below hb5)
  clear hb5 H1 HV HK H3 HQ
  have H1 := n_H1
  have HV := n_HV
  have HK := n_HK
  have H3 := n_H3
  have HQ := n_HQ
  clear n_H1 n_HV n_HK n_H3 n_HQ
  generalize ((w7.alloc (.cells #[.int .u32 0, .int .u64 0, .int .i64 0, .string ⟨#[]⟩, .slice none 0 0] 28)).setRow w7.heap.size #[.int .u32 3, .int .u64 2, .int .i64 3, .string H0a, (.slice Aq 1 cq)]) = w8 at *
  generalize w7.heap.size = g5 at *
  have H5 := hB
  clear hB
  go_upto_region 5 with (first | (with_reducible refine isLoadN 28 (.tmp 5) ?_; with_unfolding_all refine wpList_load_row rfl 28 (.tmp 5) rfl g5 (by kernel_rfl) 28 #[.int .u32 3, .int .u64 2, .int .i64 3, .string H0a, (.slice Aq 1 cq)] (0, 0) _ H5.out Try.underlying28 rfl (by kernel_rfl) ?_) | (go_at_call 31; refine (leaf_own 3 2 H0a rfl (l := [X0a]) (fun x hx => by rw [List.mem_singleton.1 hx]; exact X0a_good) (by simp) HQ.out).mono ?_; rintro e w9 ⟨Ak, ck, rfl, hC_, hcl_, hb5⟩; have HC := Lib.hid hC_; clear hC_ hcl_; have n_H5 := Lib.hid (H5.out.step hb5); have n_HQ := Lib.hid (HQ.out.below hb5); have n_HK := Lib.hid (bstep HK.out hb5); clear hb5 H5 HQ HK; have H5 := n_H5; have HQ := n_HQ; have HK := n_HK; clear n_H5 n_HQ n_HK))
  have hit := itrows_of_C (l := [ofIt X0a]) HC.out
  obtain ⟨kb, ko, hAk, _, hcl⟩ := hit 0 (by simp)
  subst hAk
  have y0 : w9.cell? ⟨kb, ko, none⟩ = some (.string ⟨#[97]⟩) := by have h_ := hcl 0 _ rfl; rw [Nat.zero_mul, Nat.add_zero] at h_; exact h_
  have y3 : w9.cell? ⟨kb, ko + 3, none⟩ = some (.bool true) := by have h_ := hcl 3 _ rfl; rw [Nat.zero_mul, Nat.add_zero] at h_; exact h_
  clear hit hcl
  go_wp2_with (first | (with_reducible refine isGuarded ?_; refine guardOn (by with_unfolding_all rfl) ?_; intro _ _))
  go_ret
  exact ⟨rfl, HK.out⟩
end Go.Proofs.Ytfegabikfkmepaa
end
section
namespace Go.Proofs.Ytfegabikfkmepaa
open Go.RowKit Go.Gi Go.GiRow Go.Proofs.YtfegabikfkmepaaW.PrintWords Go.Proofs.YtfegabikfkmepaaW.PrintLast Go.Proofs.YtfegabikfkmepaaW.PrintMore PNe
set_option maxRecDepth 20000
set_option linter.unusedSimpArgs false
set_option linter.unusedVariables false
theorem rd_of_Cn {α β : Type} {k : Kd β} {of : α → β} {cells : α → List Value} {n : Nat} (hsz : k.sz = n) (hn : 0 < n) (hk : ∀ w a cs, k.K w (of a) cs → cs = cells a) (hlen : ∀ a, (cells a).length = n) {w : World} {A : Option Addr} {l : List α}
    (h : Kd.C k w A l.length (l.map of)) : RdRows cells n w A l := fun j hj => by
  obtain ⟨h1, h2, h3⟩ := h
  obtain ⟨ad, rfl, hc⟩ := h3 (by omega)
  have hat : ∀ i (hi : i < l.length) x u, (cells l[i])[x]? = some u → w.cell? (ad.add (i * n + x)) = some u := by
    intro i hi x u hu
    obtain ⟨c, hcl, hK, hcell⟩ := hc i (of l[i]) (by simp [hi])
    have e := hk _ _ _ hK
    subst e
    rw [hsz] at hcell
    exact hcell x u hu
  have hc0 := hat 0 (by omega) 0 _ (List.getElem?_eq_getElem (by rw [hlen]; exact hn))
  rw [show ad.add (0 * n + 0) = ad by unfold Addr.add; simp] at hc0
  have hsp : ad.spot = none := by
    unfold World.cell? at hc0
    cases hs : ad.spot with
    | none => rfl
    | some y =>
      simp [hs] at hc0
      split at hc0 <;> simp_all
  obtain ⟨b, off, sp⟩ := ad
  simp only at hsp
  subst hsp
  refine ⟨b, off, rfl, World.block_lt_of_cell? w _ hc0, fun x u hu => ?_⟩
  have := hat j hj x u hu
  rw [show (⟨b, off, none⟩ : Addr).add (j * n + x) = ⟨b, off + j * n + x, none⟩ by unfold Addr.add; split <;> simp_all [Nat.add_assoc]] at this
  exact this
def ek12 (k : ByteArray) : ByteArray := if (k.size : Int) > 12 then k.extract 0 12 else k
theorem ek12_size (k : ByteArray) : (ek12 k).size ≤ 12 := by
  unfold ek12
  split
  · simp [ByteArray.size_extract]; omega
  · omega
def es16 (s : Int) : Int := Go.bits .and .i64 s 65535
theorem es16_le (s : Int) : 0 ≤ es16 s ∧ es16 s ≤ 65535 := by
  obtain ⟨m, h, hm⟩ := and16 s
  unfold es16
  omega
theorem entry_any (k : ByteArray) (p s : Int) (w : World) : Calls Try.prog 16 #[.agg #[.string k, .int .u32 p, .int .i64 s]] w fun e w' => e = .returned (.agg #[.string (ek12 k), .int .u32 p, .int .i64 (es16 s)]) ∧ Below w.heap.size w w' := by
  refine girderlaw12_entry.calls k p s _ _ _ w ?_
  unfold girderlaw12_entry.f ek12 es16
  by_cases h : (k.size : Int) > 12
  · rw [if_pos h, if_pos h, if_pos (by omega)]
  · rw [if_neg h, if_neg h]
theorem before_any (k1 : ByteArray) (p1 s1 : Int) (k2 : ByteArray) (p2 s2 : Int) (w : World) : Calls Try.prog 17 #[.agg #[.string k1, .int .u32 p1, .int .i64 s1], .agg #[.string k2, .int .u32 p2, .int .i64 s2]] w fun e w' => e = .returned (.bool (bef k1 p1 s1 k2 p2 s2)) ∧ Below w.heap.size w w' :=
  girderlaw12_before.calls _ _ _ _ _ _ _ w (before_f ..)
structure RowsC (w : World) (A : Option Addr) (c : Nat) (l : List ChN) : Prop where
  h : Kd.C k66 w A l.length (l.map ofCh)
  hc : l.length ≤ c
theorem RowsC.below {w w' : World} {A : Option Addr} {c : Nat} {l : List ChN} (h : RowsC w A c l) (hb : Below w.heap.size w w') : RowsC w' A c l := ⟨Kd.C_below h.h hb, h.hc⟩
theorem RowsC.rd {w : World} {A : Option Addr} {c : Nat} {l : List ChN} (h : RowsC w A c l) : RdRows ChN.cells 4 w A l :=
  rd_of_Cn (k := k66) (of := ofCh) rfl (by decide) (fun _ _ _ h => k66_open h) (fun _ => rfl) h.h
theorem yields_row {P : Program} {ops : Array Oper} {S : World → Prop} {o : Oper} {a : Act} (ty : TypeId) (x : Operand) (ho : o.op = .load ty x) (hw : Region.wanted o (yielded ops a.tmps) = true)
    (g : Nat) (hx : a.eval x = .pointer (some ⟨g, 0, none⟩)) (t : TypeId) (cs : Array Value) (fr : Nat × Nat) (d : TypeDesc) (hg : ∀ w : World, S w → w.heap[g]? = some (.cells cs t fr))
    (hu : P.underlying ty = some d) (hd : (match d with | .struct _ | .array _ _ => true | _ => false) = true) (hi : (P.info? ty).map (·.size) = some cs.size) : YieldsIf P ops S o (.agg cs) a :=
  Or.inl ⟨hw, fun w hs => by
    unfold execOp
    simp only [ho, hx, Instr.loadAt, Instr.sureAddr, Sem.run_bind, Sem.run_pure, Result.andThen_ok, run_loadVar_row w g t ty cs fr d (hg w hs) hu hd hi]⟩
theorem info_partsI {P : Program} {t : TypeId} {z : Value} {n b : Nat} (h : (P.info? t).map (fun i => (i.zero, i.size, i.bytes)) = some (some z, n, b)) : ∃ i, P.info? t = some i ∧ i.zero = some z ∧ i.size = n ∧ i.bytes = b := by
  obtain ⟨i, h1, h2⟩ := Option.map_eq_some_iff.1 h
  injection h2 with h2 h3
  injection h3 with h3 h4
  exact ⟨i, h1, h2, h3, h4⟩
theorem slot_at {w : World} {base n c : Nat} {A : Option Addr} {slots : List ByteArray} (h : OwnP w base (.slice A n c) slots) (k : Nat) (hk : k < slots.length) : ∃ b, A = some ⟨b, 0, none⟩ ∧ ∀ W : World, OwnP W base (.slice (some ⟨b, 0, none⟩) n c) slots → W.cell? ⟨b, k, none⟩ = some (.string slots[k]) := by
  have hf : ∃ g, A = some ⟨g, 0, none⟩ := by
    rcases h.2 with ⟨e, h0⟩ | ⟨g, cap, cur, e, h1, h2, h3, h4, _⟩
    · omega
    · injection e with e1 e2 e3
      exact ⟨g, e1⟩
  obtain ⟨g, rfl⟩ := hf
  exact ⟨g, rfl, fun W hW => by rw [own_at_ hW k hk]; exact strV_at slots k hk⟩
theorem RowsC.far {w : World} {g c : Nat} {A : Option Addr} {l : List ChN} {cs' : Array Value} (h : RowsC w A c l) (hne : ∀ a, A = some a → l ≠ [] → a.block ≠ g) : RowsC (w.setRow g cs') A c l := by
  refine ⟨⟨h.h.1, h.h.2.1, fun h0 => ?_⟩, h.hc⟩
  obtain ⟨ad, rfl, hc⟩ := h.h.2.2 h0
  refine ⟨ad, rfl, fun j p hp => ?_⟩
  obtain ⟨cl, h1, h2, h3⟩ := hc j p hp
  refine ⟨cl, h1, ?_, fun i u hu => ?_⟩
  · rw [k66_open h2]
    exact k66_mk _ _
  · rw [cell_setRow_other w g cs' _ (by have h_ := hne ad rfl (fun e_ => by rw [e_] at h0; simp at h0); unfold Addr.add; split <;> exact h_)]
    exact h3 i u hu
end Go.Proofs.Ytfegabikfkmepaa
end
section
namespace Go.Proofs.Ytfegabikfkmepaa
open Go.RowKit Go.Gi Go.GiRow Go.Proofs.YtfegabikfkmepaaW.PrintWords Go.Proofs.YtfegabikfkmepaaW.PrintLast Go.Proofs.YtfegabikfkmepaaW.PrintMore PNe
set_option maxRecDepth 20000
set_option linter.unusedSimpArgs false
set_option linter.unusedVariables false
structure RowsI (w : World) (lo hi b off : Nat) (l : List It) : Prop where
  hlo : lo ≤ b
  hhi : b < hi
  hw : hi ≤ w.heap.size
  rd : ∀ k (h : k < l.length) j u, (It.cells (l[k]'h))[j]? = some u → w.cell? ⟨b, off + k * 4 + j, none⟩ = some u
theorem RowsI.rows {w : World} {lo hi b off : Nat} {l : List It} (h : RowsI w lo hi b off l) : RdRows It.cells 4 w (some ⟨b, off, none⟩) l :=
  fun k hk => ⟨b, off, rfl, Nat.lt_of_lt_of_le h.hhi h.hw, h.rd k hk⟩
theorem RowsI.kept {w w' : World} {lo hi b off : Nat} {l : List It} (h : RowsI w lo hi b off l) {row : Option Nat} (hg : w.grownBy w' row) (hne : ∀ g, row = some g → g < lo ∨ hi ≤ g) : RowsI w' lo hi b off l :=
  ⟨h.hlo, h.hhi, Nat.le_trans h.hw hg.size, fun k hk j u hu => hg.cell (h.rd k hk j u hu) (fun e => by
    have h1 := h.hlo
    have h2 := h.hhi
    rcases hne b e.symm with h3 | h3 <;> omega)⟩
theorem grown_below {w w' : World} (h : Below w.heap.size w w') : w.grownBy w' none := ⟨h.os, h.tape, h.output, h.size, fun k hk _ => h.block k hk⟩
theorem RowsI.below {w w' : World} {lo hi b off : Nat} {l : List It} (h : RowsI w lo hi b off l) (hb : Below w.heap.size w w') : RowsI w' lo hi b off l :=
  h.kept (grown_below hb) (fun g e => by cases e)
theorem RowsI.mono {w : World} {lo hi lo' hi' b off : Nat} {l : List It} (h : RowsI w lo hi b off l) (h1 : lo' ≤ lo) (h2 : hi ≤ hi') (h3 : hi' ≤ w.heap.size) : RowsI w lo' hi' b off l :=
  ⟨Nat.le_trans h1 h.hlo, Nat.lt_of_lt_of_le h.hhi h2, h3, h.rd⟩
theorem RowsI.top {w : World} {lo hi b off : Nat} {l : List It} (h : RowsI w lo hi b off l) : RowsI w lo w.heap.size b off l := h.mono (Nat.le_refl _) h.hw (Nat.le_refl _)
theorem grown_setRow (w : World) (g : Nat) (cs : Array Value) : w.grownBy (w.setRow g cs) (some g) := ⟨rfl, rfl, rfl, by simp, fun k hk hn => setRow_other w g k cs (fun e => hn (by rw [e]))⟩
theorem RowsI.setRow {w : World} {lo hi b off g : Nat} {l : List It} (h : RowsI w lo hi b off l) (hne : g < lo ∨ hi ≤ g) (cs : Array Value) : RowsI (w.setRow g cs) lo hi b off l :=
  h.kept (grown_setRow w g cs) (fun k e => by injection e with e; subst e; exact hne)
theorem RowsI.take {w : World} {lo hi b off : Nat} {l : List It} (h : RowsI w lo hi b off l) (n : Nat) : RowsI w lo hi b off (l.take n) :=
  ⟨h.hlo, h.hhi, h.hw, fun k hk j u hu => by
    rw [List.getElem_take] at hu
    exact h.rd k (by rw [List.length_take] at hk; omega) j u hu⟩
theorem RowsI.drop {w : World} {lo hi b off : Nat} {l : List It} (h : RowsI w lo hi b off l) (n : Nat) : RowsI w lo hi b (off + n * 4) (l.drop n) :=
  ⟨h.hlo, h.hhi, h.hw, fun k hk j u hu => by
    rw [List.getElem_drop] at hu
    have := h.rd (n + k) (by rw [List.length_drop] at hk; omega) j u hu
    rw [show off + (n + k) * 4 + j = off + n * 4 + k * 4 + j by omega] at this
    exact this⟩
theorem flat_it : ∀ (l : List It) (j : Nat) (u : Value), (l.map It.cells).flatten[j]? = some u → ∃ k, ∃ h : k < l.length, ∃ r, j = k * 4 + r ∧ (It.cells (l[k]'h))[r]? = some u
  | [], j, u, h => by simp at h
  | x :: l, j, u, h => by
    rw [List.map_cons, List.flatten_cons] at h
    by_cases hj : j < 4
    · rw [List.getElem?_append_left (by exact hj)] at h
      exact ⟨0, by simp, j, by omega, h⟩
    · rw [List.getElem?_append_right (by show 4 ≤ j; omega)] at h
      obtain ⟨k, hk, r, e, hu⟩ := flat_it l (j - 4) u h
      exact ⟨k + 1, by simpa using hk, r, by omega, by simpa using hu⟩
theorem flat_len (l : List It) : (l.map It.cells).flatten.length = l.length * 4 := by
  induction l with
  | nil => rfl
  | cons x l ih => rw [List.map_cons, List.flatten_cons, List.length_append, ih, List.length_cons]; show 4 + l.length * 4 = _; omega
theorem flat_one (l : List It) : ∀ u ∈ (l.map It.cells).flatten, u.oneCell' = true := by
  intro u hu
  rw [List.mem_flatten] at hu
  obtain ⟨cs, hc, hu⟩ := hu
  obtain ⟨x, _, rfl⟩ := List.mem_map.1 hc
  simp [It.cells] at hu
  rcases hu with rfl | rfl | rfl | rfl <;> rfl
theorem RowsI.news {w : World} {lo hi b off : Nat} {l : List It} (h : RowsI w lo hi b off l) : ∀ j u, (l.map It.cells).flatten[j]? = some u → w.cell? ((⟨b, off, none⟩ : Addr).add j) = some u := by
  intro j u hu
  obtain ⟨k, hk, r, rfl, hr⟩ := flat_it l j u hu
  rw [show (⟨b, off, none⟩ : Addr).add (k * 4 + r) = ⟨b, off + k * 4 + r, none⟩ by unfold Addr.add; split <;> simp_all [Nat.add_assoc]]
  exact h.rd k hk r u hr
theorem RowsI.of_own {w : World} {base g c : Nat} {l : List It} (h : w.ownsRow base 47 4 (.slice (some ⟨g, 0, none⟩) l.length c) l.length (l.map It.cells).flatten) : RowsI w base w.heap.size g 0 l := by
  have hl := h.lt g rfl
  refine ⟨hl.1, hl.2, Nat.le_refl _, fun k hk j u hu => ?_⟩
  obtain ⟨A, c', e, hr⟩ := own_rows (enc := It.cells) (fun _ => rfl) h
  obtain ⟨b, off, e2, _, _, hc⟩ := hr k hk
  injection e with e1 _ _
  subst e1
  injection e2 with e2
  injection e2 with e3 e4 _
  subst e3 e4
  exact hc j u hu
theorem own_cap {w : World} {base n c TE size : Nat} {A : Option Addr} {xs : List Value} (h : w.ownsRow base TE size (.slice A n c) n xs) : n ≤ c := by
  rcases h.2 with ⟨e, h0⟩ | ⟨g, cap, cur, e, _, _, hn, _⟩
  · omega
  · injection e with e1 e2 e3
    omega
theorem infoIT : (Try.prog.info? 47).map (fun i => (i.zero, i.size, i.bytes)) = some (some (.agg #[.string ⟨#[]⟩, .int .u32 0, .int .i64 0, .bool false]), 4, 40) := by kernel_rfl
theorem erase_flat (l : List It) (i : Nat) : ((l.take i).map It.cells).flatten ++ ((l.drop (i + 1)).map It.cells).flatten = ((l.eraseIdx i).map It.cells).flatten := by
  rw [List.eraseIdx_eq_take_drop_succ, List.map_append, List.flatten_append]
theorem ins_flat (l : List It) (i : Nat) (x : It) : ((l.take i).map It.cells).flatten ++ It.cells x ++ ((l.drop i).map It.cells).flatten = ((insAt l i x).map It.cells).flatten := by
  unfold insAt
  rw [List.map_append, List.flatten_append, List.map_cons, List.flatten_cons, List.append_assoc]
theorem setCells_nil (w : World) (b o : Nat) : w.setCells b o [] = w := by
  rfl
theorem cut_run {w : World} {lo hi g off c : Nat} {l : List It} (h : RowsI w lo hi g off l) (hl : l.length ≤ 1000) (i : Nat) (hi_ : i < l.length) (tl : Addr) (htl : i + 1 < l.length → tl = ⟨g, off + (i + 1) * 4, none⟩) (ty : TypeId) :
    ∃ g' off' c' w', (Builtin.append_ #[51, 51] ty #[.slice (some ⟨g, off, none⟩) i i, .slice (some tl) (l.length - (i + 1)) c]).run Try.prog w = .ok (.slice (some ⟨g', off', none⟩) (l.length - 1) c') w' ∧
      RowsI w' lo w'.heap.size g' off' (l.eraseIdx i) ∧ l.length - 1 ≤ c' ∧ w.grownBy w' none := by
  obtain ⟨i0, hi0, hzz⟩ := Option.map_eq_some_iff.1 infoIT
  simp only [Prod.mk.injEq] at hzz
  obtain ⟨hz0, hz1, hz2⟩ := hzz
  have ht := h.take i
  have hd := h.drop (i + 1)
  by_cases he : i + 1 = l.length
  · have hr := run_append_room_cells (P := Try.prog) w 51 ty 47 i0 Try.underlying51 hi0 g off i i tl (l.length - (i + 1)) c [] (by rw [show l.length - (i + 1) = 0 by omega]; simp) (fun j u hj => by simp at hj) (fun u hu => by simp at hu) (by omega) (fun j hj => by simp at hj) (fun j hj => by simp at hj)
    refine ⟨g, off, i, w, ?_, ?_, by omega, ⟨rfl, rfl, rfl, Nat.le_refl _, fun _ _ _ => rfl⟩⟩
    · rw [hr, setCells_nil, show i + (l.length - (i + 1)) = l.length - 1 by omega]
    · rw [List.eraseIdx_eq_take_drop_succ, List.drop_of_length_le (by omega), List.append_nil]
      exact ht.top
  · obtain rfl := htl (by omega)
    have hlt : (l.take i).length = i := by rw [List.length_take]; omega
    have hld : (l.drop (i + 1)).length = l.length - (i + 1) := List.length_drop
    obtain ⟨v', w', hr, h2, h3⟩ := run_append_arg_grows (P := Try.prog) w 51 ty 47 i0 _ 4 40 Try.underlying51 hi0 hz0 hz1 hz2 rfl (by decide) ⟨g, off, none⟩ i i ((l.take i).map It.cells).flatten (by rw [flat_len, hlt]) ht.news
      ⟨g, off + (i + 1) * 4, none⟩ (l.length - (i + 1)) c ((l.drop (i + 1)).map It.cells).flatten (by rw [flat_len, hld]) hd.news (by omega) (by unfold maxLen; omega) (by omega)
    rw [erase_flat, show i + (l.length - (i + 1)) = (l.eraseIdx i).length by rw [List.length_eraseIdx]; split <;> omega] at h2
    obtain ⟨g', c', rfl⟩ : ∃ g' c', v' = .slice (some ⟨g', 0, none⟩) (l.eraseIdx i).length c' := by
      rcases h2.2 with ⟨_, h0⟩ | ⟨g', cap, cur, e, _⟩
      · rw [List.length_eraseIdx] at h0
        split at h0 <;> omega
      · exact ⟨g', cap, e⟩
    have hle : (l.eraseIdx i).length = l.length - 1 := by rw [List.length_eraseIdx]; split <;> omega
    have hR := RowsI.of_own h2
    have hcap := own_cap h2
    refine ⟨g', 0, c', w', by rw [hr, hle], hR.mono (Nat.le_trans h.hlo (Nat.le_of_lt (Nat.lt_of_lt_of_le h.hhi h.hw))) (Nat.le_refl _) (Nat.le_refl _), by omega, h3⟩
theorem cut_step {w : World} {ops : Array Oper} {o : Oper} {a : Act} {K : Act → World → Prop} {Q : Exit → Act → World → Prop} {E : Prop} (hg : o.guard = none) (s x : Operand)
    (ho : o.op = .call { callee := .builtin .append, args := #[s, x], argTypes := #[51, 51] }) {lo hi g off c : Nat} {l : List It} (h : RowsI w lo hi g off l) (hl : l.length ≤ 1000) (i : Nat) (hi_ : i < l.length)
    (hs : a.eval s = .slice (some ⟨g, off, none⟩) i i) (tl : Addr) (htl : i + 1 < l.length → tl = ⟨g, off + (i + 1) * 4, none⟩) (hx : a.eval x = .slice (some tl) (l.length - (i + 1)) c)
    (hK : ∀ g' off' c' w', RowsI w' lo w'.heap.size g' off' (l.eraseIdx i) → l.length - 1 ≤ c' → w.grownBy w' none → K (a.put o.dst (.slice (some ⟨g', off', none⟩) (l.length - 1) c')) w') :
    if Region.wanted o (yielded ops a.tmps) = true then Oper.wp Try.prog o a w K Q else E := by
  rw [if_pos (by simp [Region.wanted, hg])]
  obtain ⟨g', off', c', w', hr, h1, h2, h3⟩ := cut_run (c := c) h hl i hi_ tl htl o.type
  unfold Oper.wp execOp
  simp only [ho, resolve, invoke, builtin, Sem.run_bind, Sem.run_pure, Result.andThen_ok, List.map_toArray, List.map_cons, List.map_nil, hs, hx, hr]
  exact hK g' off' c' w' h1 h2 h3
theorem and12 (x : Int) : ∃ m : Nat, Go.bits .and .i64 x 4095 = (m : Int) ∧ m ≤ 4095 := by
  have h : ((BitVec.ofInt 64 x) &&& (BitVec.ofInt 64 4095)).toNat ≤ 4095 := by
    rw [BitVec.toNat_and]
    exact Nat.le_trans Nat.and_le_right (by decide)
  refine ⟨_, ?_, h⟩
  have e : Go.bits .and .i64 x 4095 = IntKind.i64.wrap (((BitVec.ofInt 64 x) &&& (BitVec.ofInt 64 4095)).toNat : Int) := rfl
  rw [e, IntKind.wrap_i64]
  omega
theorem tail_at {kg kc n m : Nat} (h : m ≤ kc) : ∃ tl : Addr, (if kc = n + 1 then some (⟨kg, 0, none⟩ : Addr) else some ⟨kg, (n + 1) * 4, none⟩) = some tl ∧ (n + 1 < m → tl = ⟨kg, 0 + (n + 1) * 4, none⟩) := by
  by_cases e : kc = n + 1
  · exact ⟨⟨kg, 0, none⟩, by rw [if_pos e], fun h2 => by omega⟩
  · exact ⟨⟨kg, (n + 1) * 4, none⟩, by rw [if_neg e], fun h2 => by rw [Nat.zero_add]⟩
theorem tail_at2 {kg ko kc n m : Nat} (h : m ≤ kc) : ∃ tl : Addr, (if kc = n then some (⟨kg, ko, none⟩ : Addr) else some ⟨kg, ko + n * 4, none⟩) = some tl ∧ (n < m → tl = ⟨kg, ko + n * 4, none⟩) := by
  by_cases e : kc = n
  · exact ⟨⟨kg, ko, none⟩, by rw [if_pos e], fun h2 => by omega⟩
  · exact ⟨⟨kg, ko + n * 4, none⟩, by rw [if_neg e], fun h2 => rfl⟩
theorem tail_news {w : World} {lo hi b off n : Nat} {l : List It} {tl : Addr} (h : RowsI w lo hi b off l) (hn : n ≤ l.length) (ht : n < l.length → tl = ⟨b, off + n * 4, none⟩) : ∀ j u, ((l.drop n).map It.cells).flatten[j]? = some u → w.cell? (tl.add j) = some u := by
  intro j u hu
  by_cases e : n < l.length
  · rw [ht e]; exact (h.drop n).news j u hu
  · rw [List.drop_of_length_le (by omega)] at hu; simp at hu
theorem own_nn_form {w : World} {base n TE size : Nat} {v : Value} {xs : List Value} (h : w.ownsRow base TE size v n xs) (hn : v ≠ .slice none 0 0) : ∃ g c, v = .slice (some ⟨g, 0, none⟩) n c := by
  rcases h.2 with ⟨h0, _⟩ | ⟨g, cap, cur, e, _⟩
  · exact absurd h0 hn
  · exact ⟨g, cap, e⟩
theorem own_len {w : World} {base n : Nat} {v : Value} {slots : List ByteArray} (h : OwnP w base v slots) (e : slots.length = n) : ∃ A c, v = .slice A n c := by
  subst e
  exact own_sl h
theorem find_I {w : World} {lo hi b off c : Nat} {l : List It} (h : RowsI w lo hi b off l) (hs : Sorted l) (hl : l.length ≤ 1000) (k : ByteArray) (p s : Int) :
    Calls Try.prog 18 #[.slice (some ⟨b, off, none⟩) l.length c, .agg #[.string k, .int .u32 p, .int .i64 s]] w fun e w' => e = .returned (.tuple #[.int .i64 (pos l (k, p, s) : Nat), .bool (isIn l (k, p, s))]) ∧ Below w.heap.size w w' := by
  have := find_any (some ⟨b, off, none⟩) c l k p s w h.rows (by omega)
  rw [findAt_pos hs, findIs_in hs] at this
  exact this
theorem turn_any {w : World} {base : Nat} {v : Value} {its : List It} (hL : LeafS its) (num lsn : Int) (n : Nat) (h : OwnP w base v (its.map slotOf)) (x : It) (hx : It.Good x) (r1 r2 : Int) (r3 r4 : ByteArray) (r5 : Int)
    (hr : PNe.node_Turn.f 200 num lsn 3 (HD n) (its.map slotOf) x.key x.page x.slot x.live = some (r1, r2, r3, r4, r5)) :
    Calls Try.prog 19 #[.agg #[.int .u32 num, .int .u64 lsn, .int .i64 3, .string (HD n), v], .agg #[.string x.key, .int .u32 x.page, .int .i64 x.slot], .bool x.live] w fun e w' => e = .returned (.tuple #[.agg #[.int .i64 r1, .int .i64 r2, .string r3, .string r4], .int .i64 r5]) ∧ Below w.heap.size w w' := by
  obtain ⟨A, c, rfl, hc, hC⟩ := own_C h
  exact PNe.node_Turn.calls 200 num lsn 3 (HD n) A c (its.map slotOf) x.key x.page x.slot x.live r1 r2 r3 r4 r5 w hC hc hr
theorem take_any {w : World} {base : Nat} {v : Value} {slots : List ByteArray} (num lsn : Int) (n : Nat) (h : OwnP w base v slots) (a : Int) (r1 r2 : Int) (r3 r4 : ByteArray) (r5 : Int) (hr : PNe.node_Take.f num lsn 3 (HD n) slots a = some (r1, r2, r3, r4, r5)) :
    Calls Try.prog 20 #[.agg #[.int .u32 num, .int .u64 lsn, .int .i64 3, .string (HD n), v], .int .i64 a] w fun e w' => e = .returned (.tuple #[.agg #[.int .i64 r1, .int .i64 r2, .string r3, .string r4], .int .i64 r5]) ∧ Below w.heap.size w w' := by
  obtain ⟨A, c, rfl, hc, hC⟩ := own_C h
  exact PNe.node_Take.calls num lsn 3 (HD n) A c slots a r1 r2 r3 r4 r5 w hC hc hr
theorem link_any {w : World} {base : Nat} {v : Value} {slots : List ByteArray} (num lsn : Int) (n m : Nat) (hm : m ≤ 4294967295) (h : OwnP w base v slots) :
    Calls Try.prog 21 #[.agg #[.int .u32 num, .int .u64 lsn, .int .i64 3, .string (HD n), v], .int .u32 m] w fun e w' => e = .returned (.agg #[.int .i64 5, .int .i64 0, .string (HD m), .string (HD n)]) ∧ Below w.heap.size w w' := by
  obtain ⟨A, c, rfl, hc, hC⟩ := own_C h
  exact PNe.node_Link.calls num lsn 3 (HD n) A c slots m _ _ _ _ w hC hc (link_f num lsn n m hm slots)
theorem next_any {w : World} {base : Nat} {v : Value} {slots : List ByteArray} (num lsn : Int) (n : Nat) (hn : n ≤ 4294967295) (h : OwnP w base v slots) :
    Calls Try.prog 15 #[.agg #[.int .u32 num, .int .u64 lsn, .int .i64 3, .string (HD n), v]] w fun e w' => e = .returned (.int .u32 n) ∧ Below w.heap.size w w' := by
  obtain ⟨A, c, rfl, hc, hC⟩ := own_C h
  exact PNe.node_Next.calls num lsn 3 (HD n) A c slots _ w hC hc (next_f num lsn n hn slots)
theorem putI_any {w : World} {base : Nat} {v : Value} {its : List It} (hL : LeafS its) (num lsn : Int) (n : Nat) (h : OwnP w base v (its.map slotOf)) (x : It) (hx : It.Good x) (r1 r2 : Int) (r3 : ByteArray) (r5 : Int)
    (hr : (if isIn its x.ent = true then (0, 0, ⟨#[]⟩, ⟨#[]⟩, 121) else (2, ((pos its x.ent : Nat) : Int), slotOf x, ⟨#[]⟩, 0) : Int × Int × ByteArray × ByteArray × Int) = (r1, r2, r3, ⟨#[]⟩, r5)) :
    Calls Try.prog 14 #[.agg #[.int .u32 num, .int .u64 lsn, .int .i64 3, .string (HD n), v], .agg #[.string x.key, .int .u32 x.page, .int .i64 x.slot, .bool x.live]] w fun e w' => e = .returned (.tuple #[.agg #[.int .i64 r1, .int .i64 r2, .string r3, .string ⟨#[]⟩], .int .i64 r5]) ∧ Below w.heap.size w w' := by
  obtain ⟨A, c, rfl, hc, hC⟩ := own_C h
  exact PNe.node_PutItem.calls 200 num lsn 3 (HD n) A c (its.map slotOf) x.key x.page x.slot x.live r1 r2 r3 ⟨#[]⟩ r5 w hC hc (by rw [put_f2 hL num lsn n x hx, hr])
theorem formL_any (n : Nat) (h : n ≤ 4294967295) (w : World) : Calls Try.prog 13 #[.int .u32 n] w fun e w' => e = .returned (.agg #[.int .i64 1, .int .i64 3, .string (HD n), .string ⟨#[]⟩]) ∧ Below w.heap.size w w' :=
  PNe.node_FormatLeaf.calls n 1 3 (HD n) ⟨#[]⟩ w (formL_fn n h)
theorem slotE_any (k : ByteArray) (p s : Int) (hp : 0 ≤ p ∧ p ≤ 4294967295) (hs : 0 ≤ s ∧ s ≤ 65535) (hk : k.size ≤ 64) (w : World) : Calls Try.prog 27 #[.agg #[.string k, .int .u32 p, .int .i64 s]] w fun e w' => e = .returned (.string (bs (putL 4 p.toNat ++ putL 2 s.toNat ++ k.data.toList))) ∧ Below w.heap.size w w' := by
  refine PNe.girderlaw12_slot.calls _ _ _ _ w ?_
  unfold PNe.girderlaw12_slot.f PNe.girderref01_Put.f
  rw [u64_w hp.1 (by omega), u64_w hs.1 (by omega), if_pos (by omega), if_pos (by omega), Option.bind_some, Option.bind_some]
  have c4 : clamp8 4 = 4 := rfl
  have c2 : clamp8 2 = 2 := rfl
  rw [c4, c2, bs_append]
  simp only [bs_size, putL_length, List.length_append]
  rw [if_pos (by omega), if_pos (by omega), bs_cat]
end Go.Proofs.Ytfegabikfkmepaa
end
section
namespace Go.Proofs.Ytfegabikfkmepaa
open Go.RowKit Go.Gi Go.GiRow Go.Proofs.YtfegabikfkmepaaW.PrintWords Go.Proofs.YtfegabikfkmepaaW.PrintLast Go.Proofs.YtfegabikfkmepaaW.PrintMore PNe
set_option maxRecDepth 20000
set_option linter.unusedSimpArgs false
set_option linter.unusedVariables false
theorem slot_cat (k : ByteArray) (p s : Int) (lv : Bool) : (⟨#[if lv then 1 else 0]⟩ : ByteArray) ++ bs (putL 4 p.toNat ++ putL 2 s.toNat ++ k.data.toList) = slotOf ⟨k, p, s, lv⟩ := by
  unfold slotOf leafB
  rw [show (⟨#[if lv then 1 else 0]⟩ : ByteArray) = bs [if lv then 1 else 0] from rfl, bs_append]
theorem item_rows {w : World} {A : Option Addr} {l : List It} (h : Kd.C k47 w A l.length (l.map ofIt)) : RdRows It.cells 4 w A l := by
  have h2 := itrows_of_C (l := l.map ofIt) (by rw [List.length_map]; exact h)
  rw [map_toIt] at h2
  exact h2
set_option maxHeartbeats 64000000 in
theorem says_any {w : World} {base lo hi b off c : Nat} {v : Value} {its : List It} (lsn : Int) (n : Nat) (hL : LeafS its) (hv : OwnP w base v (its.map slotOf)) (hm : RowsI w lo hi b off its) :
    Calls Try.prog 22 #[.agg #[.int .u32 3, .int .u64 lsn, .int .i64 3, .string (HD n), v], .slice (some ⟨b, off, none⟩) its.length c] w fun e w' => e = .returned (.bool true) ∧ Below w.heap.size w w' := by
  have HL := Lib.hid hL
  have hlen := hL.len
  obtain ⟨Ap, cp, hVp⟩ := own_sl hv
  subst hVp
  have hv2 := hv
  rw [List.length_map] at hv2
  have HV := Lib.hid (show OwnP w base (.slice Ap its.length cp) (its.map slotOf) from hv2)
  have HM := Lib.hid hm
  rw [List.length_map]
  clear hL hv hm hv2
  go_enter Try.func22, Try.ntmps22
  go_upto_region 1 with fail
  have H2 := Lib.hid (Blk.new w 28 #[.int .u32 3, .int .u64 lsn, .int .i64 3, .string (HD n), (.slice Ap its.length cp)])
  have hb5 := balloc (Below.refl w.heap.size w) (.cells #[.int .u32 3, .int .u64 lsn, .int .i64 3, .string (HD n), (.slice Ap its.length cp)] 28)
  have HK := Lib.hid (Below.refl w.heap.size w)
  have n_HV := Lib.hid (HV.out.below hb5)
  have n_HM := Lib.hid (HM.out.below hb5)
  have n_HK := Lib.hid (bstep HK.out hb5)
  clear hb5 HV HM HK
  have HV := n_HV
  have HM := n_HM
  have HK := n_HK
  clear n_HV n_HM n_HK
  generalize w.alloc (.cells #[.int .u32 3, .int .u64 lsn, .int .i64 3, .string (HD n), (.slice Ap its.length cp)] 28) = w0 at *
  go_upto_region 2 with (first | (with_reducible refine isLoadN 28 (.tmp 2) ?_; with_unfolding_all refine wpList_load_row rfl 28 (.tmp 2) rfl w.heap.size (by kernel_rfl) 28 #[.int .u32 3, .int .u64 lsn, .int .i64 3, .string (HD n), (.slice Ap its.length cp)] (0, 0) _ H2.out Try.underlying28 rfl (by kernel_rfl) ?_) | (go_at_call 31; refine (leaf_own 3 lsn (HD n) (HD_size n) HL.out.good (by omega) HV.out).mono ?_; rintro e w1 ⟨Al, cl, rfl, hC_, hcl_, hb5⟩; have HR := Lib.hid (item_rows hC_); clear hC_ hcl_; have n_H2 := Lib.hid (H2.out.step hb5); have n_HV := Lib.hid (HV.out.below hb5); have n_HM := Lib.hid (HM.out.below hb5); have n_HK := Lib.hid (bstep HK.out hb5); clear hb5 H2 HV HM HK; have H2 := n_H2; have HV := n_HV; have HM := n_HM; have HK := n_HK; clear n_H2 n_HV n_HM n_HK))
  have q4_ := H2.out.cell 4
  go_upto_block 0 with (first | (with_reducible refine isGuarded ?_; refine guardOn (by with_unfolding_all rfl) ?_; intro _ _))
  clear q4_
  go_cut [7, 8] from 31 to 66 (fun _ _ wx => Hid (Below w.heap.size w wx))
  case first =>
    go_wp2_with fail
    go_loopw [7] (fun iv wr => ∃ i : Nat, iv = .int .i64 i ∧ i ≤ its.length ∧ Hid (Blk wr w.heap.size 28 #[.int .u32 3, .int .u64 lsn, .int .i64 3, .string (HD n), (.slice Ap its.length cp)]) ∧ Hid (OwnP wr base (.slice Ap its.length cp) (its.map slotOf)) ∧ Hid (RowsI wr lo hi b off its) ∧ Hid (RdRows It.cells 4 wr Al its) ∧ Hid (Below w.heap.size w wr))
      (fun iv _ => its.length - (intOf iv).toNat)
    case atStart => exact ⟨0, rfl, Nat.zero_le _, H2, HV, HM, HR, HK⟩
    case round =>
      clear H2 HV HM HR HK
      obtain ⟨i, rfl, hi_, H2, HV, HM, HR, HK⟩ := hrel
      by_cases h1 : i < its.length
      · have e1_ : decide ((i : Int) < (its.length : Int)) = true := decide_eq_true (by omega)
        have e2_ : decide (i < its.length) = true := decide_eq_true h1
        go_upto_region 8 with fail
        clear e1_ e2_
        obtain ⟨lb, lo2, hAl, _, hlc⟩ := HR.out i h1
        have hmc := HM.out.rd i h1
        have hgd := HL.out.good _ (List.getElem_mem h1)
        obtain ⟨bp, hAp, hbp⟩ := slot_at HV.out i (by rw [List.length_map]; exact h1)
        rw [List.getElem_map] at hbp
        subst hAl
        subst hAp
        have HLC := Lib.hid (show ∀ W : World, RdRows It.cells 4 W (some ⟨lb, lo2, none⟩) its → ∀ j u, (It.cells its[i])[j]? = some u → W.cell? ⟨lb, lo2 + i * 4 + j, none⟩ = some u from fun W hW j u hu => by
          obtain ⟨b2, off2, e2, _, hc⟩ := hW i h1
          injection e2 with e2
          injection e2 with e3 e4 _
          subst e3 e4
          exact hc j u hu)
        have HMC := Lib.hid (show ∀ W : World, RowsI W lo hi b off its → ∀ j u, (It.cells its[i])[j]? = some u → W.cell? ⟨b, off + i * 4 + j, none⟩ = some u from fun W hW => hW.rd i h1)
        have HBP := Lib.hid hbp
        clear hbp hmc hlc
        generalize hx_ : its[i] = x at *
        clear hx_
        obtain ⟨xk, xp, xs, xl⟩ := x
        have HX := Lib.hid (show It.Good ⟨xk, xp, xs, xl⟩ from hgd)
        clear hgd
        have i0_ : (0 : Int) ≤ i := by omega
        have i1_ : (i : Int) < its.length := by omega
        cases xl
        · have m3_ : wr.cell? ⟨b, off + i * 4 + 3, none⟩ = some (.bool false) := (by simpa using HMC.out wr HM.out 3 _ rfl)
          go_upto_region 10 with fail
          clear m3_
          have l0_ : wr.cell? ⟨lb, lo2 + i * 4, none⟩ = some (.string xk) := (by simpa using HLC.out wr HR.out 0 _ rfl)
          have l1_ : wr.cell? ⟨lb, lo2 + i * 4 + 1, none⟩ = some (.int .u32 xp) := (by simpa using HLC.out wr HR.out 1 _ rfl)
          have l2_ : wr.cell? ⟨lb, lo2 + i * 4 + 2, none⟩ = some (.int .i64 xs) := (by simpa using HLC.out wr HR.out 2 _ rfl)
          have l3_ : wr.cell? ⟨lb, lo2 + i * 4 + 3, none⟩ = some (.bool false) := (by simpa using HLC.out wr HR.out 3 _ rfl)
          have m0_ : wr.cell? ⟨b, off + i * 4, none⟩ = some (.string xk) := (by simpa using HMC.out wr HM.out 0 _ rfl)
          have m1_ : wr.cell? ⟨b, off + i * 4 + 1, none⟩ = some (.int .u32 xp) := (by simpa using HMC.out wr HM.out 1 _ rfl)
          have m2_ : wr.cell? ⟨b, off + i * 4 + 2, none⟩ = some (.int .i64 xs) := (by simpa using HMC.out wr HM.out 2 _ rfl)
          have m3_ : wr.cell? ⟨b, off + i * 4 + 3, none⟩ = some (.bool false) := (by simpa using HMC.out wr HM.out 3 _ rfl)
          have q4_ := H2.out.cell 4
          have s0_ := HBP.out _ HV.out
          refine start_ (n := 25) (S := fun w' => w'.cell? ⟨lb, lo2 + i * 4, none⟩ = some (.string xk) ∧ w'.cell? ⟨lb, lo2 + i * 4 + 1, none⟩ = some (.int .u32 xp) ∧ w'.cell? ⟨lb, lo2 + i * 4 + 2, none⟩ = some (.int .i64 xs) ∧ w'.cell? ⟨lb, lo2 + i * 4 + 3, none⟩ = some (.bool false) ∧ w'.cell? ⟨b, off + i * 4, none⟩ = some (.string xk) ∧ w'.cell? ⟨b, off + i * 4 + 1, none⟩ = some (.int .u32 xp) ∧ w'.cell? ⟨b, off + i * 4 + 2, none⟩ = some (.int .i64 xs) ∧ w'.cell? ⟨b, off + i * 4 + 3, none⟩ = some (.bool false) ∧ w'.cell? ⟨w.heap.size, 4, none⟩ = some (.slice (some ⟨bp, 0, none⟩) its.length cp) ∧ w'.cell? ⟨bp, i, none⟩ = some (.string (slotOf (⟨xk, xp, xs, false⟩ : It)))) (ds := []) #[false, false, false, false, false, false, false, false, false, false, false, false, false, false, false, false, false, false, false, false, false, false, false, false, false] (by kernel_rfl) rfl rfl ⟨l0_, l1_, l2_, l3_, m0_, m1_, m2_, m3_, q4_, s0_⟩ (fun hHeld => ?_)
          have hb5 := bdrew (Below.refl wr.heap.size wr)
          have n_H2 := Lib.hid (H2.out.step hb5)
          have n_HV := Lib.hid (HV.out.below hb5)
          have n_HM := Lib.hid (HM.out.below hb5)
          have n_HR := Lib.hid (rows_bl1 HR.out hb5)
          have n_HK := Lib.hid (bstep HK.out hb5)
          clear hb5 H2 HV HM HR HK
          have H2 := n_H2
          have HV := n_HV
          have HM := n_HM
          have HR := n_HR
          have HK := n_HK
          clear n_H2 n_HV n_HM n_HR n_HK
          generalize wr.drew = xd at *
          clear l0_ l1_ l2_ l3_ m0_ m1_ m2_ m3_ q4_ s0_
          have l0_ : xd.cell? ⟨lb, lo2 + i * 4, none⟩ = some (.string xk) := (by simpa using HLC.out xd HR.out 0 _ rfl)
          have l1_ : xd.cell? ⟨lb, lo2 + i * 4 + 1, none⟩ = some (.int .u32 xp) := (by simpa using HLC.out xd HR.out 1 _ rfl)
          have l2_ : xd.cell? ⟨lb, lo2 + i * 4 + 2, none⟩ = some (.int .i64 xs) := (by simpa using HLC.out xd HR.out 2 _ rfl)
          have l3_ : xd.cell? ⟨lb, lo2 + i * 4 + 3, none⟩ = some (.bool false) := (by simpa using HLC.out xd HR.out 3 _ rfl)
          have m0_ : xd.cell? ⟨b, off + i * 4, none⟩ = some (.string xk) := (by simpa using HMC.out xd HM.out 0 _ rfl)
          have m1_ : xd.cell? ⟨b, off + i * 4 + 1, none⟩ = some (.int .u32 xp) := (by simpa using HMC.out xd HM.out 1 _ rfl)
          have m2_ : xd.cell? ⟨b, off + i * 4 + 2, none⟩ = some (.int .i64 xs) := (by simpa using HMC.out xd HM.out 2 _ rfl)
          have m3_ : xd.cell? ⟨b, off + i * 4 + 3, none⟩ = some (.bool false) := (by simpa using HMC.out xd HM.out 3 _ rfl)
          have q4_ := H2.out.cell 4
          have s0_ := HBP.out _ HV.out
          refine pure_ (i := 0) (N := some 42) (v := ?_) (a' := ?_) #[true, false, false, false, false, false, false, false, false, false, false, false, false, false, false, false, false, false, false, false, false, false, false, false, false] rfl rfl (by kernel_rfl) (fun _ _ _ h => h) (Or.inl ⟨by rfl, ?_⟩) ?_ ?_
          rotate_left
          · intro w'
            go_simp
            with_reducible rfl
          rotate_left
          · simp only [Act.put, List.setIfInBounds_toArray, List.set_cons_zero, List.set_cons_succ, i64_w, i32_w]
            rfl
          refine pure_ (i := 1) (N := some 43) (v := ?_) (a' := ?_) #[true, true, false, false, false, false, false, false, false, false, false, false, false, false, false, false, false, false, false, false, false, false, false, false, false] rfl rfl (by kernel_rfl) (fun _ _ _ h => h) (Or.inl ⟨by rfl, ?_⟩) ?_ ?_
          rotate_left
          · intro w'
            go_simp
            with_reducible rfl
          rotate_left
          · simp only [Act.put, List.setIfInBounds_toArray, List.set_cons_zero, List.set_cons_succ, i64_w, i32_w]
            rfl
          refine pure_ (i := 2) (N := some 44) (v := ?_) (a' := ?_) #[true, true, true, false, false, false, false, false, false, false, false, false, false, false, false, false, false, false, false, false, false, false, false, false, false] rfl rfl (by kernel_rfl) (fun _ _ _ h => h) (Or.inl ⟨by rfl, ?_⟩) ?_ ?_
          rotate_left
          · intro w'
            go_simp
            with_reducible rfl
          rotate_left
          · simp only [Act.put, List.setIfInBounds_toArray, List.set_cons_zero, List.set_cons_succ, i64_w, i32_w]
            rfl
          refine pure_ (i := 4) (N := some 46) (v := ?_) (a' := ?_) #[true, true, true, false, true, false, false, false, false, false, false, false, false, false, false, false, false, false, false, false, false, false, false, false, false] rfl rfl (by kernel_rfl) (fun _ _ _ h => h) (Or.inl ⟨by rfl, ?_⟩) ?_ ?_
          rotate_left
          · intro w'
            go_simp
            with_reducible rfl
          rotate_left
          · simp only [Act.put, List.setIfInBounds_toArray, List.set_cons_zero, List.set_cons_succ, i64_w, i32_w]
            rfl
          refine pure_ (i := 5) (N := some 47) (v := ?_) (a' := ?_) #[true, true, true, false, true, true, false, false, false, false, false, false, false, false, false, false, false, false, false, false, false, false, false, false, false] rfl rfl (by kernel_rfl) (fun _ _ _ h => h) (Or.inl ⟨by rfl, ?_⟩) ?_ ?_
          rotate_left
          · intro w'
            go_simp
            with_reducible rfl
          rotate_left
          · simp only [Act.put, List.setIfInBounds_toArray, List.set_cons_zero, List.set_cons_succ, i64_w, i32_w]
            rfl
          refine pure_ (i := 6) (N := some 48) (v := ?_) (a' := ?_) #[true, true, true, false, true, true, true, false, false, false, false, false, false, false, false, false, false, false, false, false, false, false, false, false, false] rfl rfl (by kernel_rfl) (fun _ _ _ h => h) (Or.inl ⟨by rfl, ?_⟩) ?_ ?_
          rotate_left
          · intro w'
            go_simp
            with_reducible rfl
          rotate_left
          · simp only [Act.put, List.setIfInBounds_toArray, List.set_cons_zero, List.set_cons_succ, i64_w, i32_w]
            rfl
          refine take_ (i := 3) (N := some 45) (v := .agg #[.string xk, .int .u32 xp, .int .i64 xs, .bool false]) (a' := ?_) #[true, true, true, true, true, true, true, false, false, false, false, false, false, false, false, false, false, false, false, false, false, false, false, false, false] rfl rfl (by kernel_rfl) (fun _ _ _ h => h) (Or.inl ⟨by rfl, ?_⟩) hHeld ?_ ?_
          · rintro w' ⟨s0, s1, s2, s3, s4, s5, s6, s7, s8, s9⟩
            go_simp
          rotate_left
          · simp only [Act.put, List.setIfInBounds_toArray, List.set_cons_zero, List.set_cons_succ, i64_w, i32_w]
            rfl
          refine take_ (i := 7) (N := some 49) (v := .agg #[.string xk, .int .u32 xp, .int .i64 xs, .bool false]) (a' := ?_) #[true, true, true, true, true, true, true, true, false, false, false, false, false, false, false, false, false, false, false, false, false, false, false, false, false] rfl rfl (by kernel_rfl) (fun _ _ _ h => h) (Or.inl ⟨by rfl, ?_⟩) hHeld ?_ ?_
          · rintro w' ⟨s0, s1, s2, s3, s4, s5, s6, s7, s8, s9⟩
            go_simp
          rotate_left
          · simp only [Act.put, List.setIfInBounds_toArray, List.set_cons_zero, List.set_cons_succ, i64_w, i32_w]
            rfl
          refine pure_ (i := 8) (N := some 50) (v := .bool false) (a' := ?_) #[true, true, true, true, true, true, true, true, true, false, false, false, false, false, false, false, false, false, false, false, false, false, false, false, false] rfl rfl (by kernel_rfl) (fun _ _ _ h => h) (Or.inl ⟨by rfl, ?_⟩) ?_ ?_
          · intro w'
            go_simp; try simp
          rotate_left
          · simp only [Act.put, List.setIfInBounds_toArray, List.set_cons_zero, List.set_cons_succ, i64_w, i32_w]
            rfl
          refine pure_ (i := 9) (N := some 51) (v := .bool false) (a' := ?_) #[true, true, true, true, true, true, true, true, true, true, false, false, false, false, false, false, false, false, false, false, false, false, false, false, false] rfl rfl (by kernel_rfl) (fun _ _ _ h => h) (Or.inl ⟨by rfl, ?_⟩) ?_ ?_
          · intro w'
            go_simp
          rotate_left
          · simp only [Act.put, List.setIfInBounds_toArray, List.set_cons_zero, List.set_cons_succ, i64_w, i32_w]
            rfl
          refine pure_ (i := 10) (N := some 52) (v := ?_) (a' := ?_) #[true, true, true, true, true, true, true, true, true, true, true, false, false, false, false, false, false, false, false, false, false, false, false, false, false] rfl rfl (by kernel_rfl) (fun _ _ _ h => h) (Or.inl ⟨by rfl, ?_⟩) ?_ ?_
          rotate_left
          · intro w'
            go_simp
            with_reducible rfl
          rotate_left
          · simp only [Act.put, List.setIfInBounds_toArray, List.set_cons_zero, List.set_cons_succ, i64_w, i32_w]
            rfl
          refine pure_ (i := 12) (N := some 54) (v := ?_) (a' := ?_) #[true, true, true, true, true, true, true, true, true, true, true, false, true, false, false, false, false, false, false, false, false, false, false, false, false] rfl rfl (by kernel_rfl) (fun _ _ _ h => h) (Or.inl ⟨by rfl, ?_⟩) ?_ ?_
          rotate_left
          · intro w'
            go_simp
            with_reducible rfl
          rotate_left
          · simp only [Act.put, List.setIfInBounds_toArray, List.set_cons_zero, List.set_cons_succ, i64_w, i32_w]
            rfl
          refine pure_ (i := 15) (N := some 57) (v := ?_) (a' := ?_) #[true, true, true, true, true, true, true, true, true, true, true, false, true, false, false, true, false, false, false, false, false, false, false, false, false] rfl rfl (by kernel_rfl) (fun _ _ _ h => h) (Or.inl ⟨by rfl, ?_⟩) ?_ ?_
          rotate_left
          · intro w'
            go_simp
            with_reducible rfl
          rotate_left
          · simp only [Act.put, List.setIfInBounds_toArray, List.set_cons_zero, List.set_cons_succ, i64_w, i32_w]
            rfl
          refine pure_ (i := 16) (N := some 58) (v := ?_) (a' := ?_) #[true, true, true, true, true, true, true, true, true, true, true, false, true, false, false, true, true, false, false, false, false, false, false, false, false] rfl rfl (by kernel_rfl) (fun _ _ _ h => h) (Or.inl ⟨by rfl, ?_⟩) ?_ ?_
          rotate_left
          · intro w'
            go_simp
            with_reducible rfl
          rotate_left
          · simp only [Act.put, List.setIfInBounds_toArray, List.set_cons_zero, List.set_cons_succ, i64_w, i32_w]
            rfl
          refine pure_ (i := 17) (N := some 59) (v := ?_) (a' := ?_) #[true, true, true, true, true, true, true, true, true, true, true, false, true, false, false, true, true, true, false, false, false, false, false, false, false] rfl rfl (by kernel_rfl) (fun _ _ _ h => h) (Or.inl ⟨by rfl, ?_⟩) ?_ ?_
          rotate_left
          · intro w'
            go_simp
            with_reducible rfl
          rotate_left
          · simp only [Act.put, List.setIfInBounds_toArray, List.set_cons_zero, List.set_cons_succ, i64_w, i32_w]
            rfl
          refine pure_ (i := 18) (N := some 60) (v := ?_) (a' := ?_) #[true, true, true, true, true, true, true, true, true, true, true, false, true, false, false, true, true, true, true, false, false, false, false, false, false] rfl rfl (by kernel_rfl) (fun _ _ _ h => h) (Or.inl ⟨by rfl, ?_⟩) ?_ ?_
          rotate_left
          · intro w'
            go_simp
            with_reducible rfl
          rotate_left
          · simp only [Act.put, List.setIfInBounds_toArray, List.set_cons_zero, List.set_cons_succ, i64_w, i32_w]
            rfl
          refine pure_ (i := 19) (N := some 61) (v := ?_) (a' := ?_) #[true, true, true, true, true, true, true, true, true, true, true, false, true, false, false, true, true, true, true, true, false, false, false, false, false] rfl rfl (by kernel_rfl) (fun _ _ _ h => h) (Or.inl ⟨by rfl, ?_⟩) ?_ ?_
          rotate_left
          · intro w'
            go_simp
            with_reducible rfl
          rotate_left
          · simp only [Act.put, List.setIfInBounds_toArray, List.set_cons_zero, List.set_cons_succ, i64_w, i32_w]
            rfl
          refine take_ (i := 11) (N := some 53) (v := ?_) (a' := ?_) #[true, true, true, true, true, true, true, true, true, true, true, true, true, false, false, true, true, true, true, true, false, false, false, false, false] rfl rfl (by kernel_rfl) (fun _ _ _ h => h) (Or.inl ⟨by rfl, ?_⟩) hHeld ?_ ?_
          rotate_left
          · rintro w' ⟨s0, s1, s2, s3, s4, s5, s6, s7, s8, s9⟩
            go_simp
            with_reducible rfl
          rotate_left
          · simp only [Act.put, List.setIfInBounds_toArray, List.set_cons_zero, List.set_cons_succ, i64_w, i32_w]
            rfl
          refine pure_ (i := 13) (N := some 55) (v := ?_) (a' := ?_) #[true, true, true, true, true, true, true, true, true, true, true, true, true, true, false, true, true, true, true, true, false, false, false, false, false] rfl rfl (by kernel_rfl) (fun _ _ _ h => h) (Or.inl ⟨by rfl, ?_⟩) ?_ ?_
          rotate_left
          · intro w'
            go_simp
            with_reducible rfl
          rotate_left
          · simp only [Act.put, List.setIfInBounds_toArray, List.set_cons_zero, List.set_cons_succ, i64_w, i32_w]
            rfl
          refine take_ (i := 14) (N := some 56) (v := .string (slotOf (⟨xk, xp, xs, false⟩ : It))) (a' := ?_) #[true, true, true, true, true, true, true, true, true, true, true, true, true, true, true, true, true, true, true, true, false, false, false, false, false] rfl rfl (by kernel_rfl) (fun _ _ _ h => h) (Or.inl ⟨by rfl, ?_⟩) hHeld ?_ ?_
          · rintro w' ⟨s0, s1, s2, s3, s4, s5, s6, s7, s8, s9⟩
            go_simp
          rotate_left
          · simp only [Act.put, List.setIfInBounds_toArray, List.set_cons_zero, List.set_cons_succ, i64_w, i32_w]
            rfl
          refine take_ (i := 20) (N := some 62) (v := .agg #[.string xk, .int .u32 xp, .int .i64 xs]) (a' := ?_) #[true, true, true, true, true, true, true, true, true, true, true, true, true, true, true, true, true, true, true, true, true, false, false, false, false] rfl rfl (by kernel_rfl) (fun _ _ _ h => h) (Or.inl ⟨by rfl, ?_⟩) hHeld ?_ ?_
          · rintro w' ⟨s0, s1, s2, s3, s4, s5, s6, s7, s8, s9⟩
            go_simp
          rotate_left
          · simp only [Act.put, List.setIfInBounds_toArray, List.set_cons_zero, List.set_cons_succ, i64_w, i32_w]
            rfl
          refine one_ (i := 21) (N := some 63) #[true, true, true, true, true, true, true, true, true, true, true, true, true, true, true, true, true, true, true, true, true, true, false, false, false] rfl rfl (by kernel_rfl) (by decide) (fun K hK => ?_)
          clear hHeld
          refine goes_ Try.func27 (by kernel_rfl) rfl #[.agg #[.string xk, .int .u32 xp, .int .i64 xs]] (by rfl) rfl rfl (by (try simp only [List.map_toArray, List.map_cons, List.map_nil]); first | done | rfl) ?_
          refine (slotE_any xk xp xs ⟨HX.out.1, HX.out.2.1⟩ ⟨HX.out.2.2.1, HX.out.2.2.2.1⟩ HX.out.2.2.2.2 _).mono ?_
          rintro e_ x1 ⟨rfl, hb5⟩
          have n_H2 := Lib.hid (H2.out.step hb5)
          have n_HV := Lib.hid (HV.out.below hb5)
          have n_HM := Lib.hid (HM.out.below hb5)
          have n_HR := Lib.hid (rows_bl1 HR.out hb5)
          have n_HK := Lib.hid (bstep HK.out hb5)
          clear hb5 H2 HV HM HR HK
          have H2 := n_H2
          have HV := n_HV
          have HM := n_HM
          have HR := n_HR
          have HK := n_HK
          clear n_H2 n_HV n_HM n_HR n_HK
          refine ⟨_, rfl, ?_⟩
          clear l0_ l1_ l2_ l3_ m0_ m1_ m2_ m3_ q4_ s0_
          have l0_ : x1.cell? ⟨lb, lo2 + i * 4, none⟩ = some (.string xk) := (by simpa using HLC.out x1 HR.out 0 _ rfl)
          have l1_ : x1.cell? ⟨lb, lo2 + i * 4 + 1, none⟩ = some (.int .u32 xp) := (by simpa using HLC.out x1 HR.out 1 _ rfl)
          have l2_ : x1.cell? ⟨lb, lo2 + i * 4 + 2, none⟩ = some (.int .i64 xs) := (by simpa using HLC.out x1 HR.out 2 _ rfl)
          have l3_ : x1.cell? ⟨lb, lo2 + i * 4 + 3, none⟩ = some (.bool false) := (by simpa using HLC.out x1 HR.out 3 _ rfl)
          have m0_ : x1.cell? ⟨b, off + i * 4, none⟩ = some (.string xk) := (by simpa using HMC.out x1 HM.out 0 _ rfl)
          have m1_ : x1.cell? ⟨b, off + i * 4 + 1, none⟩ = some (.int .u32 xp) := (by simpa using HMC.out x1 HM.out 1 _ rfl)
          have m2_ : x1.cell? ⟨b, off + i * 4 + 2, none⟩ = some (.int .i64 xs) := (by simpa using HMC.out x1 HM.out 2 _ rfl)
          have m3_ : x1.cell? ⟨b, off + i * 4 + 3, none⟩ = some (.bool false) := (by simpa using HMC.out x1 HM.out 3 _ rfl)
          have q4_ := H2.out.cell 4
          have s0_ := HBP.out _ HV.out
          refine hK.out _ _ ⟨l0_, l1_, l2_, l3_, m0_, m1_, m2_, m3_, q4_, s0_⟩ (fun hHeld => ?_)
          clear hK K
          refine norm_ (a' := ?_) ?_ ?_
          rotate_left
          · show Act.put _ (some 63) _ = _
            simp only [Act.put, List.setIfInBounds_toArray, List.set_cons_zero, List.set_cons_succ]
            rfl
          refine pure_ (i := 22) (N := some 64) (v := .string (slotOf (⟨xk, xp, xs, false⟩ : It))) (a' := ?_) #[true, true, true, true, true, true, true, true, true, true, true, true, true, true, true, true, true, true, true, true, true, true, true, false, false] rfl rfl (by kernel_rfl) (fun _ _ _ h => h) (Or.inl ⟨by rfl, ?_⟩) ?_ ?_
          · intro w'
            go_simp; have hz_ : xk.size ≤ 64 := HX.out.2.2.2.2; rw [if_neg (by simp only [bs_size, List.length_append, putL_length, es_]; simp; omega)]; have h_ := slot_cat xk xp xs false; simp only [if_true, if_false, Bool.false_eq_true, List.append_assoc] at h_; rw [h_]
          rotate_left
          · simp only [Act.put, List.setIfInBounds_toArray, List.set_cons_zero, List.set_cons_succ, i64_w, i32_w]
            rfl
          refine pure_ (i := 23) (N := some 65) (v := .bool false) (a' := ?_) #[true, true, true, true, true, true, true, true, true, true, true, true, true, true, true, true, true, true, true, true, true, true, true, true, false] rfl rfl (by kernel_rfl) (fun _ _ _ h => h) (Or.inl ⟨by rfl, ?_⟩) ?_ ?_
          · intro w'
            go_simp; try simp
          rotate_left
          · simp only [Act.put, List.setIfInBounds_toArray, List.set_cons_zero, List.set_cons_succ, i64_w, i32_w]
            rfl
          refine pure_ (i := 24) (N := some 66) (v := .bool false) (a' := ?_) #[true, true, true, true, true, true, true, true, true, true, true, true, true, true, true, true, true, true, true, true, true, true, true, true, true] rfl rfl (by kernel_rfl) (fun _ _ _ h => h) (Or.inl ⟨by rfl, ?_⟩) ?_ ?_
          · intro w'
            go_simp
          rotate_left
          · simp only [Act.put, List.setIfInBounds_toArray, List.set_cons_zero, List.set_cons_succ, i64_w, i32_w]
            rfl
          refine done_ (by kernel_rfl) ?_
          clear l0_ l1_ l2_ l3_ m0_ m1_ m2_ m3_ q4_ s0_
          go_wp2_with fail
          go_roundw
          case rel => exact ⟨i + 1, by first | rfl | go_num, by omega, H2, HV, HM, HR, HK⟩
          case measure => simp [intOf]; omega
        · have m3_ : wr.cell? ⟨b, off + i * 4 + 3, none⟩ = some (.bool true) := (by simpa using HMC.out wr HM.out 3 _ rfl)
          go_upto_region 10 with fail
          clear m3_
          have l0_ : wr.cell? ⟨lb, lo2 + i * 4, none⟩ = some (.string xk) := (by simpa using HLC.out wr HR.out 0 _ rfl)
          have l1_ : wr.cell? ⟨lb, lo2 + i * 4 + 1, none⟩ = some (.int .u32 xp) := (by simpa using HLC.out wr HR.out 1 _ rfl)
          have l2_ : wr.cell? ⟨lb, lo2 + i * 4 + 2, none⟩ = some (.int .i64 xs) := (by simpa using HLC.out wr HR.out 2 _ rfl)
          have l3_ : wr.cell? ⟨lb, lo2 + i * 4 + 3, none⟩ = some (.bool true) := (by simpa using HLC.out wr HR.out 3 _ rfl)
          have m0_ : wr.cell? ⟨b, off + i * 4, none⟩ = some (.string xk) := (by simpa using HMC.out wr HM.out 0 _ rfl)
          have m1_ : wr.cell? ⟨b, off + i * 4 + 1, none⟩ = some (.int .u32 xp) := (by simpa using HMC.out wr HM.out 1 _ rfl)
          have m2_ : wr.cell? ⟨b, off + i * 4 + 2, none⟩ = some (.int .i64 xs) := (by simpa using HMC.out wr HM.out 2 _ rfl)
          have m3_ : wr.cell? ⟨b, off + i * 4 + 3, none⟩ = some (.bool true) := (by simpa using HMC.out wr HM.out 3 _ rfl)
          have q4_ := H2.out.cell 4
          have s0_ := HBP.out _ HV.out
          refine start_ (n := 25) (S := fun w' => w'.cell? ⟨lb, lo2 + i * 4, none⟩ = some (.string xk) ∧ w'.cell? ⟨lb, lo2 + i * 4 + 1, none⟩ = some (.int .u32 xp) ∧ w'.cell? ⟨lb, lo2 + i * 4 + 2, none⟩ = some (.int .i64 xs) ∧ w'.cell? ⟨lb, lo2 + i * 4 + 3, none⟩ = some (.bool true) ∧ w'.cell? ⟨b, off + i * 4, none⟩ = some (.string xk) ∧ w'.cell? ⟨b, off + i * 4 + 1, none⟩ = some (.int .u32 xp) ∧ w'.cell? ⟨b, off + i * 4 + 2, none⟩ = some (.int .i64 xs) ∧ w'.cell? ⟨b, off + i * 4 + 3, none⟩ = some (.bool true) ∧ w'.cell? ⟨w.heap.size, 4, none⟩ = some (.slice (some ⟨bp, 0, none⟩) its.length cp) ∧ w'.cell? ⟨bp, i, none⟩ = some (.string (slotOf (⟨xk, xp, xs, true⟩ : It)))) (ds := []) #[false, false, false, false, false, false, false, false, false, false, false, false, false, false, false, false, false, false, false, false, false, false, false, false, false] (by kernel_rfl) rfl rfl ⟨l0_, l1_, l2_, l3_, m0_, m1_, m2_, m3_, q4_, s0_⟩ (fun hHeld => ?_)
          have hb5 := bdrew (Below.refl wr.heap.size wr)
          have n_H2 := Lib.hid (H2.out.step hb5)
          have n_HV := Lib.hid (HV.out.below hb5)
          have n_HM := Lib.hid (HM.out.below hb5)
          have n_HR := Lib.hid (rows_bl1 HR.out hb5)
          have n_HK := Lib.hid (bstep HK.out hb5)
          clear hb5 H2 HV HM HR HK
          have H2 := n_H2
          have HV := n_HV
          have HM := n_HM
          have HR := n_HR
          have HK := n_HK
          clear n_H2 n_HV n_HM n_HR n_HK
          generalize wr.drew = xd at *
          clear l0_ l1_ l2_ l3_ m0_ m1_ m2_ m3_ q4_ s0_
          have l0_ : xd.cell? ⟨lb, lo2 + i * 4, none⟩ = some (.string xk) := (by simpa using HLC.out xd HR.out 0 _ rfl)
          have l1_ : xd.cell? ⟨lb, lo2 + i * 4 + 1, none⟩ = some (.int .u32 xp) := (by simpa using HLC.out xd HR.out 1 _ rfl)
          have l2_ : xd.cell? ⟨lb, lo2 + i * 4 + 2, none⟩ = some (.int .i64 xs) := (by simpa using HLC.out xd HR.out 2 _ rfl)
          have l3_ : xd.cell? ⟨lb, lo2 + i * 4 + 3, none⟩ = some (.bool true) := (by simpa using HLC.out xd HR.out 3 _ rfl)
          have m0_ : xd.cell? ⟨b, off + i * 4, none⟩ = some (.string xk) := (by simpa using HMC.out xd HM.out 0 _ rfl)
          have m1_ : xd.cell? ⟨b, off + i * 4 + 1, none⟩ = some (.int .u32 xp) := (by simpa using HMC.out xd HM.out 1 _ rfl)
          have m2_ : xd.cell? ⟨b, off + i * 4 + 2, none⟩ = some (.int .i64 xs) := (by simpa using HMC.out xd HM.out 2 _ rfl)
          have m3_ : xd.cell? ⟨b, off + i * 4 + 3, none⟩ = some (.bool true) := (by simpa using HMC.out xd HM.out 3 _ rfl)
          have q4_ := H2.out.cell 4
          have s0_ := HBP.out _ HV.out
          refine pure_ (i := 0) (N := some 42) (v := ?_) (a' := ?_) #[true, false, false, false, false, false, false, false, false, false, false, false, false, false, false, false, false, false, false, false, false, false, false, false, false] rfl rfl (by kernel_rfl) (fun _ _ _ h => h) (Or.inl ⟨by rfl, ?_⟩) ?_ ?_
          rotate_left
          · intro w'
            go_simp
            with_reducible rfl
          rotate_left
          · simp only [Act.put, List.setIfInBounds_toArray, List.set_cons_zero, List.set_cons_succ, i64_w, i32_w]
            rfl
          refine pure_ (i := 1) (N := some 43) (v := ?_) (a' := ?_) #[true, true, false, false, false, false, false, false, false, false, false, false, false, false, false, false, false, false, false, false, false, false, false, false, false] rfl rfl (by kernel_rfl) (fun _ _ _ h => h) (Or.inl ⟨by rfl, ?_⟩) ?_ ?_
          rotate_left
          · intro w'
            go_simp
            with_reducible rfl
          rotate_left
          · simp only [Act.put, List.setIfInBounds_toArray, List.set_cons_zero, List.set_cons_succ, i64_w, i32_w]
            rfl
          refine pure_ (i := 2) (N := some 44) (v := ?_) (a' := ?_) #[true, true, true, false, false, false, false, false, false, false, false, false, false, false, false, false, false, false, false, false, false, false, false, false, false] rfl rfl (by kernel_rfl) (fun _ _ _ h => h) (Or.inl ⟨by rfl, ?_⟩) ?_ ?_
          rotate_left
          · intro w'
            go_simp
            with_reducible rfl
          rotate_left
          · simp only [Act.put, List.setIfInBounds_toArray, List.set_cons_zero, List.set_cons_succ, i64_w, i32_w]
            rfl
          refine pure_ (i := 4) (N := some 46) (v := ?_) (a' := ?_) #[true, true, true, false, true, false, false, false, false, false, false, false, false, false, false, false, false, false, false, false, false, false, false, false, false] rfl rfl (by kernel_rfl) (fun _ _ _ h => h) (Or.inl ⟨by rfl, ?_⟩) ?_ ?_
          rotate_left
          · intro w'
            go_simp
            with_reducible rfl
          rotate_left
          · simp only [Act.put, List.setIfInBounds_toArray, List.set_cons_zero, List.set_cons_succ, i64_w, i32_w]
            rfl
          refine pure_ (i := 5) (N := some 47) (v := ?_) (a' := ?_) #[true, true, true, false, true, true, false, false, false, false, false, false, false, false, false, false, false, false, false, false, false, false, false, false, false] rfl rfl (by kernel_rfl) (fun _ _ _ h => h) (Or.inl ⟨by rfl, ?_⟩) ?_ ?_
          rotate_left
          · intro w'
            go_simp
            with_reducible rfl
          rotate_left
          · simp only [Act.put, List.setIfInBounds_toArray, List.set_cons_zero, List.set_cons_succ, i64_w, i32_w]
            rfl
          refine pure_ (i := 6) (N := some 48) (v := ?_) (a' := ?_) #[true, true, true, false, true, true, true, false, false, false, false, false, false, false, false, false, false, false, false, false, false, false, false, false, false] rfl rfl (by kernel_rfl) (fun _ _ _ h => h) (Or.inl ⟨by rfl, ?_⟩) ?_ ?_
          rotate_left
          · intro w'
            go_simp
            with_reducible rfl
          rotate_left
          · simp only [Act.put, List.setIfInBounds_toArray, List.set_cons_zero, List.set_cons_succ, i64_w, i32_w]
            rfl
          refine take_ (i := 3) (N := some 45) (v := .agg #[.string xk, .int .u32 xp, .int .i64 xs, .bool true]) (a' := ?_) #[true, true, true, true, true, true, true, false, false, false, false, false, false, false, false, false, false, false, false, false, false, false, false, false, false] rfl rfl (by kernel_rfl) (fun _ _ _ h => h) (Or.inl ⟨by rfl, ?_⟩) hHeld ?_ ?_
          · rintro w' ⟨s0, s1, s2, s3, s4, s5, s6, s7, s8, s9⟩
            go_simp
          rotate_left
          · simp only [Act.put, List.setIfInBounds_toArray, List.set_cons_zero, List.set_cons_succ, i64_w, i32_w]
            rfl
          refine take_ (i := 7) (N := some 49) (v := .agg #[.string xk, .int .u32 xp, .int .i64 xs, .bool true]) (a' := ?_) #[true, true, true, true, true, true, true, true, false, false, false, false, false, false, false, false, false, false, false, false, false, false, false, false, false] rfl rfl (by kernel_rfl) (fun _ _ _ h => h) (Or.inl ⟨by rfl, ?_⟩) hHeld ?_ ?_
          · rintro w' ⟨s0, s1, s2, s3, s4, s5, s6, s7, s8, s9⟩
            go_simp
          rotate_left
          · simp only [Act.put, List.setIfInBounds_toArray, List.set_cons_zero, List.set_cons_succ, i64_w, i32_w]
            rfl
          refine pure_ (i := 8) (N := some 50) (v := .bool false) (a' := ?_) #[true, true, true, true, true, true, true, true, true, false, false, false, false, false, false, false, false, false, false, false, false, false, false, false, false] rfl rfl (by kernel_rfl) (fun _ _ _ h => h) (Or.inl ⟨by rfl, ?_⟩) ?_ ?_
          · intro w'
            go_simp; try simp
          rotate_left
          · simp only [Act.put, List.setIfInBounds_toArray, List.set_cons_zero, List.set_cons_succ, i64_w, i32_w]
            rfl
          refine pure_ (i := 9) (N := some 51) (v := .bool false) (a' := ?_) #[true, true, true, true, true, true, true, true, true, true, false, false, false, false, false, false, false, false, false, false, false, false, false, false, false] rfl rfl (by kernel_rfl) (fun _ _ _ h => h) (Or.inl ⟨by rfl, ?_⟩) ?_ ?_
          · intro w'
            go_simp
          rotate_left
          · simp only [Act.put, List.setIfInBounds_toArray, List.set_cons_zero, List.set_cons_succ, i64_w, i32_w]
            rfl
          refine pure_ (i := 10) (N := some 52) (v := ?_) (a' := ?_) #[true, true, true, true, true, true, true, true, true, true, true, false, false, false, false, false, false, false, false, false, false, false, false, false, false] rfl rfl (by kernel_rfl) (fun _ _ _ h => h) (Or.inl ⟨by rfl, ?_⟩) ?_ ?_
          rotate_left
          · intro w'
            go_simp
            with_reducible rfl
          rotate_left
          · simp only [Act.put, List.setIfInBounds_toArray, List.set_cons_zero, List.set_cons_succ, i64_w, i32_w]
            rfl
          refine pure_ (i := 12) (N := some 54) (v := ?_) (a' := ?_) #[true, true, true, true, true, true, true, true, true, true, true, false, true, false, false, false, false, false, false, false, false, false, false, false, false] rfl rfl (by kernel_rfl) (fun _ _ _ h => h) (Or.inl ⟨by rfl, ?_⟩) ?_ ?_
          rotate_left
          · intro w'
            go_simp
            with_reducible rfl
          rotate_left
          · simp only [Act.put, List.setIfInBounds_toArray, List.set_cons_zero, List.set_cons_succ, i64_w, i32_w]
            rfl
          refine pure_ (i := 15) (N := some 57) (v := ?_) (a' := ?_) #[true, true, true, true, true, true, true, true, true, true, true, false, true, false, false, true, false, false, false, false, false, false, false, false, false] rfl rfl (by kernel_rfl) (fun _ _ _ h => h) (Or.inl ⟨by rfl, ?_⟩) ?_ ?_
          rotate_left
          · intro w'
            go_simp
            with_reducible rfl
          rotate_left
          · simp only [Act.put, List.setIfInBounds_toArray, List.set_cons_zero, List.set_cons_succ, i64_w, i32_w]
            rfl
          refine pure_ (i := 16) (N := some 58) (v := ?_) (a' := ?_) #[true, true, true, true, true, true, true, true, true, true, true, false, true, false, false, true, true, false, false, false, false, false, false, false, false] rfl rfl (by kernel_rfl) (fun _ _ _ h => h) (Or.inl ⟨by rfl, ?_⟩) ?_ ?_
          rotate_left
          · intro w'
            go_simp
            with_reducible rfl
          rotate_left
          · simp only [Act.put, List.setIfInBounds_toArray, List.set_cons_zero, List.set_cons_succ, i64_w, i32_w]
            rfl
          refine pure_ (i := 17) (N := some 59) (v := ?_) (a' := ?_) #[true, true, true, true, true, true, true, true, true, true, true, false, true, false, false, true, true, true, false, false, false, false, false, false, false] rfl rfl (by kernel_rfl) (fun _ _ _ h => h) (Or.inl ⟨by rfl, ?_⟩) ?_ ?_
          rotate_left
          · intro w'
            go_simp
            with_reducible rfl
          rotate_left
          · simp only [Act.put, List.setIfInBounds_toArray, List.set_cons_zero, List.set_cons_succ, i64_w, i32_w]
            rfl
          refine pure_ (i := 18) (N := some 60) (v := ?_) (a' := ?_) #[true, true, true, true, true, true, true, true, true, true, true, false, true, false, false, true, true, true, true, false, false, false, false, false, false] rfl rfl (by kernel_rfl) (fun _ _ _ h => h) (Or.inl ⟨by rfl, ?_⟩) ?_ ?_
          rotate_left
          · intro w'
            go_simp
            with_reducible rfl
          rotate_left
          · simp only [Act.put, List.setIfInBounds_toArray, List.set_cons_zero, List.set_cons_succ, i64_w, i32_w]
            rfl
          refine pure_ (i := 19) (N := some 61) (v := ?_) (a' := ?_) #[true, true, true, true, true, true, true, true, true, true, true, false, true, false, false, true, true, true, true, true, false, false, false, false, false] rfl rfl (by kernel_rfl) (fun _ _ _ h => h) (Or.inl ⟨by rfl, ?_⟩) ?_ ?_
          rotate_left
          · intro w'
            go_simp
            with_reducible rfl
          rotate_left
          · simp only [Act.put, List.setIfInBounds_toArray, List.set_cons_zero, List.set_cons_succ, i64_w, i32_w]
            rfl
          refine take_ (i := 11) (N := some 53) (v := ?_) (a' := ?_) #[true, true, true, true, true, true, true, true, true, true, true, true, true, false, false, true, true, true, true, true, false, false, false, false, false] rfl rfl (by kernel_rfl) (fun _ _ _ h => h) (Or.inl ⟨by rfl, ?_⟩) hHeld ?_ ?_
          rotate_left
          · rintro w' ⟨s0, s1, s2, s3, s4, s5, s6, s7, s8, s9⟩
            go_simp
            with_reducible rfl
          rotate_left
          · simp only [Act.put, List.setIfInBounds_toArray, List.set_cons_zero, List.set_cons_succ, i64_w, i32_w]
            rfl
          refine pure_ (i := 13) (N := some 55) (v := ?_) (a' := ?_) #[true, true, true, true, true, true, true, true, true, true, true, true, true, true, false, true, true, true, true, true, false, false, false, false, false] rfl rfl (by kernel_rfl) (fun _ _ _ h => h) (Or.inl ⟨by rfl, ?_⟩) ?_ ?_
          rotate_left
          · intro w'
            go_simp
            with_reducible rfl
          rotate_left
          · simp only [Act.put, List.setIfInBounds_toArray, List.set_cons_zero, List.set_cons_succ, i64_w, i32_w]
            rfl
          refine take_ (i := 14) (N := some 56) (v := .string (slotOf (⟨xk, xp, xs, true⟩ : It))) (a' := ?_) #[true, true, true, true, true, true, true, true, true, true, true, true, true, true, true, true, true, true, true, true, false, false, false, false, false] rfl rfl (by kernel_rfl) (fun _ _ _ h => h) (Or.inl ⟨by rfl, ?_⟩) hHeld ?_ ?_
          · rintro w' ⟨s0, s1, s2, s3, s4, s5, s6, s7, s8, s9⟩
            go_simp
          rotate_left
          · simp only [Act.put, List.setIfInBounds_toArray, List.set_cons_zero, List.set_cons_succ, i64_w, i32_w]
            rfl
          refine take_ (i := 20) (N := some 62) (v := .agg #[.string xk, .int .u32 xp, .int .i64 xs]) (a' := ?_) #[true, true, true, true, true, true, true, true, true, true, true, true, true, true, true, true, true, true, true, true, true, false, false, false, false] rfl rfl (by kernel_rfl) (fun _ _ _ h => h) (Or.inl ⟨by rfl, ?_⟩) hHeld ?_ ?_
          · rintro w' ⟨s0, s1, s2, s3, s4, s5, s6, s7, s8, s9⟩
            go_simp
          rotate_left
          · simp only [Act.put, List.setIfInBounds_toArray, List.set_cons_zero, List.set_cons_succ, i64_w, i32_w]
            rfl
          refine one_ (i := 21) (N := some 63) #[true, true, true, true, true, true, true, true, true, true, true, true, true, true, true, true, true, true, true, true, true, true, false, false, false] rfl rfl (by kernel_rfl) (by decide) (fun K hK => ?_)
          clear hHeld
          refine goes_ Try.func27 (by kernel_rfl) rfl #[.agg #[.string xk, .int .u32 xp, .int .i64 xs]] (by rfl) rfl rfl (by (try simp only [List.map_toArray, List.map_cons, List.map_nil]); first | done | rfl) ?_
          refine (slotE_any xk xp xs ⟨HX.out.1, HX.out.2.1⟩ ⟨HX.out.2.2.1, HX.out.2.2.2.1⟩ HX.out.2.2.2.2 _).mono ?_
          rintro e_ x2 ⟨rfl, hb5⟩
          have n_H2 := Lib.hid (H2.out.step hb5)
          have n_HV := Lib.hid (HV.out.below hb5)
          have n_HM := Lib.hid (HM.out.below hb5)
          have n_HR := Lib.hid (rows_bl1 HR.out hb5)
          have n_HK := Lib.hid (bstep HK.out hb5)
          clear hb5 H2 HV HM HR HK
          have H2 := n_H2
          have HV := n_HV
          have HM := n_HM
          have HR := n_HR
          have HK := n_HK
          clear n_H2 n_HV n_HM n_HR n_HK
          refine ⟨_, rfl, ?_⟩
          clear l0_ l1_ l2_ l3_ m0_ m1_ m2_ m3_ q4_ s0_
          have l0_ : x2.cell? ⟨lb, lo2 + i * 4, none⟩ = some (.string xk) := (by simpa using HLC.out x2 HR.out 0 _ rfl)
          have l1_ : x2.cell? ⟨lb, lo2 + i * 4 + 1, none⟩ = some (.int .u32 xp) := (by simpa using HLC.out x2 HR.out 1 _ rfl)
          have l2_ : x2.cell? ⟨lb, lo2 + i * 4 + 2, none⟩ = some (.int .i64 xs) := (by simpa using HLC.out x2 HR.out 2 _ rfl)
          have l3_ : x2.cell? ⟨lb, lo2 + i * 4 + 3, none⟩ = some (.bool true) := (by simpa using HLC.out x2 HR.out 3 _ rfl)
          have m0_ : x2.cell? ⟨b, off + i * 4, none⟩ = some (.string xk) := (by simpa using HMC.out x2 HM.out 0 _ rfl)
          have m1_ : x2.cell? ⟨b, off + i * 4 + 1, none⟩ = some (.int .u32 xp) := (by simpa using HMC.out x2 HM.out 1 _ rfl)
          have m2_ : x2.cell? ⟨b, off + i * 4 + 2, none⟩ = some (.int .i64 xs) := (by simpa using HMC.out x2 HM.out 2 _ rfl)
          have m3_ : x2.cell? ⟨b, off + i * 4 + 3, none⟩ = some (.bool true) := (by simpa using HMC.out x2 HM.out 3 _ rfl)
          have q4_ := H2.out.cell 4
          have s0_ := HBP.out _ HV.out
          refine hK.out _ _ ⟨l0_, l1_, l2_, l3_, m0_, m1_, m2_, m3_, q4_, s0_⟩ (fun hHeld => ?_)
          clear hK K
          refine norm_ (a' := ?_) ?_ ?_
          rotate_left
          · show Act.put _ (some 63) _ = _
            simp only [Act.put, List.setIfInBounds_toArray, List.set_cons_zero, List.set_cons_succ]
            rfl
          refine pure_ (i := 22) (N := some 64) (v := .string (slotOf (⟨xk, xp, xs, true⟩ : It))) (a' := ?_) #[true, true, true, true, true, true, true, true, true, true, true, true, true, true, true, true, true, true, true, true, true, true, true, false, false] rfl rfl (by kernel_rfl) (fun _ _ _ h => h) (Or.inl ⟨by rfl, ?_⟩) ?_ ?_
          · intro w'
            go_simp; have hz_ : xk.size ≤ 64 := HX.out.2.2.2.2; rw [if_neg (by simp only [bs_size, List.length_append, putL_length, es_]; simp; omega)]; have h_ := slot_cat xk xp xs true; simp only [if_true, if_false, Bool.false_eq_true, List.append_assoc] at h_; rw [h_]
          rotate_left
          · simp only [Act.put, List.setIfInBounds_toArray, List.set_cons_zero, List.set_cons_succ, i64_w, i32_w]
            rfl
          refine pure_ (i := 23) (N := some 65) (v := .bool false) (a' := ?_) #[true, true, true, true, true, true, true, true, true, true, true, true, true, true, true, true, true, true, true, true, true, true, true, true, false] rfl rfl (by kernel_rfl) (fun _ _ _ h => h) (Or.inl ⟨by rfl, ?_⟩) ?_ ?_
          · intro w'
            go_simp; try simp
          rotate_left
          · simp only [Act.put, List.setIfInBounds_toArray, List.set_cons_zero, List.set_cons_succ, i64_w, i32_w]
            rfl
          refine pure_ (i := 24) (N := some 66) (v := .bool false) (a' := ?_) #[true, true, true, true, true, true, true, true, true, true, true, true, true, true, true, true, true, true, true, true, true, true, true, true, true] rfl rfl (by kernel_rfl) (fun _ _ _ h => h) (Or.inl ⟨by rfl, ?_⟩) ?_ ?_
          · intro w'
            go_simp
          rotate_left
          · simp only [Act.put, List.setIfInBounds_toArray, List.set_cons_zero, List.set_cons_succ, i64_w, i32_w]
            rfl
          refine done_ (by kernel_rfl) ?_
          clear l0_ l1_ l2_ l3_ m0_ m1_ m2_ m3_ q4_ s0_
          go_wp2_with fail
          go_roundw
          case rel => exact ⟨i + 1, by first | rfl | go_num, by omega, H2, HV, HM, HR, HK⟩
          case measure => simp [intOf]; omega
      · obtain rfl : i = its.length := by omega
        have e1_ : decide ((its.length : Int) < (its.length : Int)) = false := decide_eq_false (by omega)
        clear h1
        go_wp2_with fail
        go_meet
        exact HK
  case rest =>
  go_wp2_with fail
  go_ret
  exact ⟨rfl, hcut.out⟩
end Go.Proofs.Ytfegabikfkmepaa
end
