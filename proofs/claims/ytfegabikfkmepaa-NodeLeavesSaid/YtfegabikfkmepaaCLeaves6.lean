import Derived.Test.YtfegabikfkmepaaCLeaves5
section
namespace Go.Proofs.Ytfegabikfkmepaa
open Go.RowKit Go.Gi Go.GiRow Go.Proofs.YtfegabikfkmepaaW.PrintWords Go.Proofs.YtfegabikfkmepaaW.PrintLast Go.Proofs.YtfegabikfkmepaaW.PrintMore PNe
set_option maxRecDepth 20000
set_option linter.unusedSimpArgs false
set_option linter.unusedVariables false
structure AcN where
  kind : Int
  n : Int
  key : ByteArray
  page : Int
  slot : Int
  live : Bool
def AcN.cells (x : AcN) : List Value := [.int .i64 x.kind, .int .i64 x.n, .string x.key, .int .u32 x.page, .int .i64 x.slot, .bool x.live]
theorem sh_oneL (lsn : Int) (h : Nat) (A : Option Addr) (n c : Nat) : (#[Value.int .u32 3, .int .u64 lsn, .int .i64 3, .string (HD h), .slice A n c]).all (·.oneCell') = true := by simp [Value.oneCell']
theorem blk_setRowL {w : World} {g T b : Nat} {cs : Array Value} (hb : Blk w g T cs) (cs' : Array Value) (h : g ≠ b) : Blk (w.setRow b cs') g T cs := (setRow_other w b g cs' h).trans hb
theorem ent_eq {x : It} {k : ByteArray} {p s : Int} (h : x.ent = (k, p, s)) : x = ⟨k, p, s, x.live⟩ := by
  obtain ⟨a, b, c, d⟩ := x
  have h2 : (a, b, c) = (k, p, s) := h
  simp only [Prod.mk.injEq] at h2
  obtain ⟨rfl, rfl, rfl⟩ := h2
  rfl
theorem flat_at : ∀ (l : List It) (P r : Nat) (h : P < l.length), r < 4 → (l.map It.cells).flatten[P * 4 + r]? = (It.cells l[P])[r]?
  | [], P, r, h, _ => by simp at h
  | x :: l, 0, r, h, hr => by
    rw [List.map_cons, List.flatten_cons, Nat.zero_mul, Nat.zero_add, List.getElem?_append_left (by exact hr)]
    rfl
  | x :: l, P + 1, r, h, hr => by
    rw [List.map_cons, List.flatten_cons, List.getElem?_append_right (by show 4 ≤ _; omega), show (P + 1) * 4 + r - (It.cells x).length = P * 4 + r by show (P + 1) * 4 + r - 4 = _; omega, flat_at l P r (by simpa using h) hr]
    rfl
theorem live_at {l : List It} {P : Nat} (h : P < l.length) : (l.map It.cells).flatten[P * 4 + 3]? = some (.bool l[P].live) := by
  rw [flat_at l P 3 h (by omega)]
  rfl
theorem live_set : ∀ (l : List It) (P : Nat) (k : ByteArray) (p s : Int) (yl al : Bool) (h : P < l.length), l[P] = ⟨k, p, s, yl⟩ → (l.map It.cells).flatten.set (P * 4 + 3) (.bool al) = ((l.set P ⟨k, p, s, al⟩).map It.cells).flatten
  | [], P, k, p, s, yl, al, h, _ => by simp at h
  | x :: l, 0, k, p, s, yl, al, h, e => by
    have e2 : x = ⟨k, p, s, yl⟩ := e
    subst e2
    rfl
  | x :: l, P + 1, k, p, s, yl, al, h, e => by
    rw [List.map_cons, List.flatten_cons, List.set_append_right _ _ (by show 4 ≤ _; omega), show (P + 1) * 4 + 3 - (It.cells x).length = P * 4 + 3 by show (P + 1) * 4 + 3 - 4 = _; omega, live_set l P k p s yl al (by simpa using h) (by simpa using e)]
    rfl
def ActR (its : List It) (lsn : Int) (hd : Nat) (ak an fi qk qa : Int) (qs qo : ByteArray) (its2 : List It) : Prop :=
  fi ≠ 0 ∨ (fi = 0 ∧ (apR 3 lsn 3 (HD hd) (its.map slotOf) qk qa qs qo 2 = (0, 0, 0, ⟨#[]⟩, [], 30) ∨
    ∃ hd2, hd2 ≤ 4294967295 ∧ apR 3 lsn 3 (HD hd) (its.map slotOf) qk qa qs qo 2 = (3, 2, 3, HD hd2, its2.map slotOf, 0) ∧ LeafS its2 ∧ (ak = 5 → Go.bits .and .i64 an 4095 = (hd2 : Int))))
theorem ins_act {its : List It} {x : It} {P : Nat} (h : LeafS its) (hx : It.Good x) (hP : P = pos its x.ent) (hn : isIn its x.ent = false) (lsn : Int) (hd : Nat) (hhd : hd ≤ 4294967295) (ak an : Int) (h5 : ak ≠ 5) :
    ActR its lsn hd ak an 0 2 P (slotOf x) ⟨#[]⟩ (insAt its P x) := by
  subst hP
  have h_ := ap_insL h hx (pos its x.ent) (pos_le _ _) lsn hd
  by_cases hr : slotsN (its.map slotOf) + 2 + (slotOf x).size ≤ 481
  · rw [if_pos hr] at h_
    exact .inr ⟨rfl, .inr ⟨hd, hhd, h_, h.ins hx hn hr, fun e => absurd e h5⟩⟩
  · rw [if_neg hr] at h_
    exact .inr ⟨rfl, .inl h_⟩
set_option maxHeartbeats 64000000 in
theorem nodeLeaves_any (nx : Nat) (hnx : nx ≤ 4294967295) (A0 : Option Addr) (c0 : Nat) (l : List AcN) (w : World) (hA : RdRows AcN.cells 6 w A0 l) (hp : ∀ x ∈ l, 0 ≤ x.page ∧ x.page ≤ 4294967295) (hl : l.length ≤ 1000000000000000) :
    Calls Try.prog 5 #[.int .u32 nx, .slice A0 l.length c0] w fun e w' => e = .returned (.bool true) ∧ Below w.heap.size w w' := by
  have HA := Lib.hid hA
  have HPG := Lib.hid hp
  clear hA hp
  have HK := Lib.hid (Below.refl w.heap.size w)
  go_enter Try.func5, Try.ntmps5
  go_upto_region 2 with (first | (go_at_call 12; refine (page_Blank.calls 3 3 0 0 ⟨#[]⟩ [] _ rfl).mono ?_; rintro e w1 ⟨v1, rfl, hR1, hb5⟩; obtain ⟨A1, m1, rfl⟩ := Kd.R_slice hR1; have hRR := Kd.R_reads' hR1; have HC := Lib.hid hRR.2.2; have HNN := Lib.hid hRR.2.1; have n_K := Lib.hid (HK.out.trans (hb5.mono HK.out.size)); clear hR1 hb5 hRR HK; have HK := n_K; clear n_K) | (go_at_call 13; refine (formL_any nx hnx _).mono ?_; rintro e w2 ⟨rfl, hb5⟩; have n_C := Lib.hid (Kd.C_below HC.out hb5); have n_K := Lib.hid (HK.out.trans (hb5.mono HK.out.size)); clear hb5 HK HC; have HC := n_C; have HK := n_K; clear n_K n_C) | (go_at_call 11; refine (apply_any 3 0 0 ⟨#[]⟩ [] A1 m1 1 3 (HD nx) ⟨#[]⟩ 1 _ HC.out HNN.out (by simp) (by simp) (by decide)).mono ?_; rintro e w3 ⟨v3, he, ho, hb5⟩; rw [ap_fmtL] at he ho; subst he; obtain ⟨A3, m3, hv3⟩ := own_sl ho; subst hv3; have HV := Lib.hid (OwnP.lower (show OwnP w3 w2.heap.size (.slice A3 ([] : List ByteArray).length m3) (([] : List It).map slotOf) from ho) HK.out.size); have n_K := Lib.hid (HK.out.trans (hb5.mono HK.out.size)); clear ho hb5 HC HK HNN; have HK := n_K; clear n_K) | (with_reducible refine isStoreN 28 (.tmp 5) (.tmp 26) ?_; with_unfolding_all refine wpList_store_row rfl 28 (.tmp 5) (.tmp 26) rfl w3.heap.size #[.int .u32 3, .int .u64 1, .int .i64 3, .string (HD nx), (.slice A3 0 m3)] (by kernel_rfl) (by kernel_rfl) 28 #[.int .u32 0, .int .u64 0, .int .i64 0, .string ⟨#[]⟩, .slice none 0 0] (Blk.new w3 28 #[.int .u32 0, .int .u64 0, .int .i64 0, .string ⟨#[]⟩, .slice none 0 0]) (by kernel_rfl) rfl (sh_oneL _ _ _ _ _) ?_))
  have hB := Lib.hid (blk_setRow (cs' := #[.int .u32 3, .int .u64 1, .int .i64 3, .string (HD nx), (.slice A3 0 m3)]) (Blk.new w3 28 #[.int .u32 0, .int .u64 0, .int .i64 0, .string ⟨#[]⟩, .slice none 0 0]))
  have HGP := Lib.hid HK.out.size
  have hb5 := setRow_below (balloc (Below.refl w3.heap.size w3) (.cells #[.int .u32 0, .int .u64 0, .int .i64 0, .string ⟨#[]⟩, .slice none 0 0] 28)) (Nat.le_refl w3.heap.size) #[.int .u32 3, .int .u64 1, .int .i64 3, .string (HD nx), (.slice A3 0 m3)]
  have n_HV := Lib.hid (HV.out.below hb5)
  have n_HK := Lib.hid (HK.out.trans (hb5.mono HK.out.size))
  clear hb5 HV HK
  have HV := n_HV
  have HK := n_HK
  clear n_HV n_HK
  generalize ((w3.alloc (.cells #[.int .u32 0, .int .u64 0, .int .i64 0, .string ⟨#[]⟩, .slice none 0 0] 28)).setRow w3.heap.size #[.int .u32 3, .int .u64 1, .int .i64 3, .string (HD nx), (.slice A3 0 m3)]) = w4 at *
  generalize w3.heap.size = gp at *
  have HP := hB
  clear hB
  go_upto_region 4 with (first | (with_reducible refine isLoadG 28 (.tmp 5) ?_; with_unfolding_all refine wpList_load_row_on rfl 28 (.tmp 5) rfl gp (by kernel_rfl) 28 #[.int .u32 3, .int .u64 1, .int .i64 3, .string (HD nx), (.slice A3 0 m3)] (0, 0) _ HP.out Try.underlying28 rfl (by kernel_rfl) ?_) | (go_at_call 7; refine (awake_h _).mono ?_; rintro e' w5 ⟨rfl, hb5⟩; have n_HP := Lib.hid (HP.out.step hb5); have n_HV := Lib.hid (HV.out.below hb5); have n_HK := Lib.hid (HK.out.trans (hb5.mono HK.out.size)); clear hb5 HP HV HK; have HP := n_HP; have HV := n_HV; have HK := n_HK; clear n_HP n_HV n_HK) | (go_at_call 15; refine (next_any 3 1 nx hnx HV.out).mono ?_; rintro e' w5 ⟨rfl, hb5⟩; have n_HP := Lib.hid (HP.out.step hb5); have n_HV := Lib.hid (HV.out.below hb5); have n_HK := Lib.hid (HK.out.trans (hb5.mono HK.out.size)); clear hb5 HP HV HK; have HP := n_HP; have HV := n_HV; have HK := n_HK; clear n_HP n_HV n_HK) | (with_reducible refine isGuarded ?_; refine guardOn (by with_unfolding_all rfl) ?_; intro _ _))
  go_upto_block 0 with fail
  have hgm := HP.out.lt
  have hBM := Blk.new w5 47 #[]
  have HM := Lib.hid (show RowsI (w5.alloc (.cells #[] 47)) (gp + 1) (w5.heap.size + 1) w5.heap.size 0 [] from ⟨hgm, Nat.lt_succ_self _, by simp, fun k h => absurd h (by simp)⟩)
  clear hBM
  have hb5 := balloc (Below.refl w5.heap.size w5) (.cells #[] 47)
  have n_HP := Lib.hid (HP.out.step hb5)
  have n_HV := Lib.hid (HV.out.below hb5)
  have n_HK := Lib.hid (HK.out.trans (hb5.mono HK.out.size))
  clear hb5 HP HV HK
  have HP := n_HP
  have HV := n_HV
  have HK := n_HK
  clear n_HP n_HV n_HK
  have hz6 : (w5.alloc (.cells #[] 47)).heap.size = w5.heap.size + 1 := by simp
  generalize w5.alloc (.cells #[] 47) = w6 at *
  generalize w5.heap.size = gm at *
  rw [← hz6] at HM
  clear hz6
  go_cut [7, 8] from 9 to 221 (fun _ _ wx => Hid (Below w.heap.size w wx))
  case first =>
    go_wp2_with fail
    go_loopw [7, 8] (fun mv iv wr => ∃ (k : Nat) (its : List It) (lsn : Int) (hd : Nat) (Vp : Value) (mb mo mc : Nat), mv = .slice (some ⟨mb, mo, none⟩) its.length mc ∧ iv = .int .i64 k ∧ k ≤ l.length ∧ k ≤ 40 ∧ hd ≤ 4294967295 ∧ its.length ≤ mc ∧ Hid (LeafS its) ∧ Hid (Blk wr gp 28 #[.int .u32 3, .int .u64 lsn, .int .i64 3, .string (HD hd), Vp]) ∧ Hid (OwnP wr w.heap.size Vp (List.map slotOf its)) ∧ Hid (RowsI wr (gp + 1) wr.heap.size mb mo its) ∧ Hid (Below w.heap.size w wr))
      (fun _ iv _ => l.length - (intOf iv).toNat)
    case atStart => exact ⟨0, [], 1, nx, _, _, _, _, rfl, rfl, Nat.zero_le _, by omega, hnx, Nat.le_refl _, Lib.hid LeafS.nil, HP, HV, HM, HK⟩
    case round =>
      clear HP HV HM HK
      obtain ⟨k, its, lsn, hd, Vp, mb, mo, mc, rfl, rfl, hk1, hk2, hhd, hmc, HL, HP, HV, HM, HK⟩ := hrel
      by_cases hc : k < l.length ∧ k < 40
      · obtain ⟨h1, h2⟩ := hc
        have d1 : decide ((k : Int) < (l.length : Int)) = true := by simpa using h1
        have d2 : decide ((k : Int) < 40) = true := decide_eq_true (by omega)
        go_upto_region 8 with fail
        clear d1 d2
        obtain ⟨ab, off, hA0, hab, hcl⟩ := HA.out k h1
        have hpg := HPG.out _ (List.getElem_mem h1)
        generalize hx_ : l[k] = x at *
        clear hx_
        obtain ⟨ak, an, ay, ap, as_, al⟩ := x
        have HY := Lib.hid hcl
        clear hcl
        have i0_ : (0 : Int) ≤ k := by omega
        have i1_ : (k : Int) < l.length := by omega
        have hlen := HL.out.len
        have hpg : 0 ≤ ap ∧ ap ≤ 4294967295 := hpg
        have y0 := (HK.out.cell (p := ⟨ab, off + k * 6, none⟩) hab).trans (HY.out 0 _ rfl)
        have y1 := (HK.out.cell (p := ⟨ab, off + k * 6 + 1, none⟩) hab).trans (HY.out 1 _ rfl)
        have y2 := (HK.out.cell (p := ⟨ab, off + k * 6 + 2, none⟩) hab).trans (HY.out 2 _ rfl)
        have y3 := (HK.out.cell (p := ⟨ab, off + k * 6 + 3, none⟩) hab).trans (HY.out 3 _ rfl)
        have y4 := (HK.out.cell (p := ⟨ab, off + k * 6 + 4, none⟩) hab).trans (HY.out 4 _ rfl)
        have y5 := (HK.out.cell (p := ⟨ab, off + k * 6 + 5, none⟩) hab).trans (HY.out 5 _ rfl)
        subst hA0
        go_upto_region 9 with (first | (with_reducible refine isStoreN 53 (.tmp 9) (.tmp 54) ?_; with_unfolding_all refine wpList_store_row rfl 53 (.tmp 9) (.tmp 54) rfl wr.heap.size #[.int .i64 ak, .int .i64 an, .string ay, .int .u32 ap, .int .i64 as_, .bool al] (by kernel_rfl) (by kernel_rfl) 53 #[.int .i64 0, .int .i64 0, .string ⟨#[]⟩, .int .u32 0, .int .i64 0, .bool false] (Blk.new wr 53 #[.int .i64 0, .int .i64 0, .string ⟨#[]⟩, .int .u32 0, .int .i64 0, .bool false]) (by kernel_rfl) rfl (by simp [Value.oneCell']) ?_))
        clear y0 y1 y2 y3 y4 y5 HY hab i0_ i1_
        have HG9 := Lib.hid HP.out.lt
        have HG9b := Lib.hid HK.out.size
        have hB := Lib.hid (blk_setRow (cs' := #[.int .i64 ak, .int .i64 an, .string ay, .int .u32 ap, .int .i64 as_, .bool al]) (Blk.new wr 53 #[.int .i64 0, .int .i64 0, .string ⟨#[]⟩, .int .u32 0, .int .i64 0, .bool false]))
        have hb5 := setRow_below (balloc (Below.refl wr.heap.size wr) (.cells #[.int .i64 0, .int .i64 0, .string ⟨#[]⟩, .int .u32 0, .int .i64 0, .bool false] 53)) (Nat.le_refl wr.heap.size) #[.int .i64 ak, .int .i64 an, .string ay, .int .u32 ap, .int .i64 as_, .bool al]
        have n_HP := Lib.hid (HP.out.step hb5)
        have n_HV := Lib.hid (HV.out.below hb5)
        have n_HM := Lib.hid (HM.out.below hb5)
        have n_HK := Lib.hid (HK.out.trans (hb5.mono HK.out.size))
        clear hb5 HP HV HM HK
        have HP := n_HP
        have HV := n_HV
        have HM := n_HM
        have HK := n_HK
        clear n_HP n_HV n_HM n_HK
        generalize ((wr.alloc (.cells #[.int .i64 0, .int .i64 0, .string ⟨#[]⟩, .int .u32 0, .int .i64 0, .bool false] 53)).setRow wr.heap.size #[.int .i64 ak, .int .i64 an, .string ay, .int .u32 ap, .int .i64 as_, .bool al]) = w4 at *
        generalize wr.heap.size = g9 at *
        have H9 := hB
        clear hB
        have z0_ := H9.out.cell 0
        have z1_ := H9.out.cell 1
        have z2_ := H9.out.cell 2
        have z3_ := H9.out.cell 3
        have z4_ := H9.out.cell 4
        have z5_ := H9.out.cell 5
        go_upto_region 10 with (first | (go_at_call 16; refine (entry_any ay ap as_ _).mono ?_; rintro e w5 ⟨rfl, hb5⟩; have n_HP := Lib.hid (HP.out.step hb5); have n_HV := Lib.hid (HV.out.below hb5); have n_HM := Lib.hid (HM.out.below hb5); have n_HK := Lib.hid (HK.out.trans (hb5.mono HK.out.size)); have n_H9 := Lib.hid (H9.out.step hb5); clear hb5 HP HV HM HK H9; have HP := n_HP; have HV := n_HV; have HM := n_HM; have HK := n_HK; have H9 := n_H9; clear n_HP n_HV n_HM n_HK n_H9) | (with_reducible refine isStoreN 43 (.tmp 10) (.tmp 57) ?_; with_unfolding_all refine wpList_store_row rfl 43 (.tmp 10) (.tmp 57) rfl w5.heap.size #[.string (ek12 ay), .int .u32 ap, .int .i64 (es16 as_)] (by kernel_rfl) (by kernel_rfl) 43 #[.string ⟨#[]⟩, .int .u32 0, .int .i64 0] (Blk.new w5 43 #[.string ⟨#[]⟩, .int .u32 0, .int .i64 0]) (by kernel_rfl) rfl (by simp [Value.oneCell']) ?_))
        clear z0_ z1_ z2_ z3_ z4_ z5_
        have HG10 := Lib.hid HP.out.lt
        have HG10b := Lib.hid HK.out.size
        have HG910 := Lib.hid H9.out.lt
        have hB := Lib.hid (blk_setRow (cs' := #[.string (ek12 ay), .int .u32 ap, .int .i64 (es16 as_)]) (Blk.new w5 43 #[.string ⟨#[]⟩, .int .u32 0, .int .i64 0]))
        have hb5 := setRow_below (balloc (Below.refl w5.heap.size w5) (.cells #[.string ⟨#[]⟩, .int .u32 0, .int .i64 0] 43)) (Nat.le_refl w5.heap.size) #[.string (ek12 ay), .int .u32 ap, .int .i64 (es16 as_)]
        have n_HP := Lib.hid (HP.out.step hb5)
        have n_HV := Lib.hid (HV.out.below hb5)
        have n_HM := Lib.hid (HM.out.below hb5)
        have n_HK := Lib.hid (HK.out.trans (hb5.mono HK.out.size))
        have n_H9 := Lib.hid (H9.out.step hb5)
        clear hb5 HP HV HM HK H9
        have HP := n_HP
        have HV := n_HV
        have HM := n_HM
        have HK := n_HK
        have H9 := n_H9
        clear n_HP n_HV n_HM n_HK n_H9
        generalize ((w5.alloc (.cells #[.string ⟨#[]⟩, .int .u32 0, .int .i64 0] 43)).setRow w5.heap.size #[.string (ek12 ay), .int .u32 ap, .int .i64 (es16 as_)]) = w6 at *
        generalize w5.heap.size = g10 at *
        have H10 := hB
        clear hB
        have hky := ek12_size ay
        have hsl := es16_le as_
        generalize ek12 ay = xk at *
        generalize es16 as_ = xs at *
        have HX := Lib.hid (show ∀ lv, It.Good ⟨xk, ap, xs, lv⟩ from fun lv => ⟨hpg.1, hpg.2, hsl.1, hsl.2, by show xk.size ≤ 64; omega⟩)
        clear hky hsl hpg
        have HPLE := Lib.hid (pos_le its (xk, ap, xs))
        obtain ⟨P, hP⟩ : ∃ P, P = pos its (xk, ap, xs) := ⟨_, rfl⟩
        have HPP := Lib.hid hP
        rw [← hP] at HPLE
        clear hP
        go_upto_block 2 with fail
        go_cut [11] from 58 to 72 (fun jv wx => jv = .int .i64 P ∧ Hid (Blk wx gp 28 #[.int .u32 3, .int .u64 lsn, .int .i64 3, .string (HD hd), Vp]) ∧ Hid (OwnP wx w.heap.size Vp (List.map slotOf its)) ∧ Hid (RowsI wx (gp + 1) g9 mb mo its) ∧ Hid (Blk wx g9 53 #[.int .i64 ak, .int .i64 an, .string ay, .int .u32 ap, .int .i64 as_, .bool al]) ∧ Hid (Blk wx g10 43 #[.string xk, .int .u32 ap, .int .i64 xs]) ∧ Hid (Below w.heap.size w wx))
        case first =>
          as_aux_lemma =>
            go_wp2_with fail
            go_loopw [11] (fun jv wr => ∃ j : Nat, jv = .int .i64 j ∧ j ≤ P ∧ Hid (Blk wr gp 28 #[.int .u32 3, .int .u64 lsn, .int .i64 3, .string (HD hd), Vp]) ∧ Hid (OwnP wr w.heap.size Vp (List.map slotOf its)) ∧ Hid (RowsI wr (gp + 1) g9 mb mo its) ∧ Hid (Blk wr g9 53 #[.int .i64 ak, .int .i64 an, .string ay, .int .u32 ap, .int .i64 as_, .bool al]) ∧ Hid (Blk wr g10 43 #[.string xk, .int .u32 ap, .int .i64 xs]) ∧ Hid (Below w.heap.size w wr))
              (fun jv _ => its.length - (intOf jv).toNat)
            case atStart => exact ⟨0, rfl, Nat.zero_le _, HP, HV, HM, H9, H10, HK⟩
            case round =>
              clear HP HV HM H9 H10 HK
              obtain ⟨j, rfl, hj, HP, HV, HM, H9, H10, HK⟩ := hrel
              have HLE := HPLE.out
              rcases (show j < P ∨ (j = P ∧ P < its.length) ∨ (j = P ∧ P = its.length) from by omega) with h3 | ⟨rfl, h3⟩ | ⟨rfl, h3⟩
              · have hjl : j < its.length := by omega
                have HB := Lib.hid (show ltE its[j].ent (xk, ap, xs) = true from (pos_iff HL.out.sorted (xk, ap, xs) j hjl).2 (by rw [← HPP.out]; exact h3))
                have HMC := Lib.hid (show ∀ W : World, RowsI W (gp + 1) g9 mb mo its → ∀ r u, (It.cells its[j])[r]? = some u → W.cell? ⟨mb, mo + j * 4 + r, none⟩ = some u from fun W hW => hW.rd j hjl)
                generalize hy_ : its[j] = y at *
                clear hy_
                obtain ⟨yk, yp, ys, yl⟩ := y
                have HB := Lib.hid (show bef yk yp ys xk ap xs = true from HB.out)
                have e1_ : decide ((j : Int) < (its.length : Int)) = true := decide_eq_true (by omega)
                have j0_ : (0 : Int) ≤ j := by omega
                have j1_ : (j : Int) < its.length := by omega
                go_upto_region 11 with fail
                have m0_ : wr.cell? ⟨mb, mo + j * 4, none⟩ = some (.string yk) := (by simpa using HMC.out wr HM.out 0 _ rfl)
                have m1_ : wr.cell? ⟨mb, mo + j * 4 + 1, none⟩ = some (.int .u32 yp) := (by simpa using HMC.out wr HM.out 1 _ rfl)
                have m2_ : wr.cell? ⟨mb, mo + j * 4 + 2, none⟩ = some (.int .i64 ys) := (by simpa using HMC.out wr HM.out 2 _ rfl)
                refine start_ (n := 13) (S := fun w' => Blk w' g10 43 #[.string xk, .int .u32 ap, .int .i64 xs] ∧ w'.cell? ⟨mb, mo + j * 4, none⟩ = some (.string yk) ∧ w'.cell? ⟨mb, mo + j * 4 + 1, none⟩ = some (.int .u32 yp) ∧ w'.cell? ⟨mb, mo + j * 4 + 2, none⟩ = some (.int .i64 ys)) (ds := []) #[false, false, false, false, false, false, false, false, false, false, false, false, false] (by kernel_rfl) rfl rfl ⟨H10.out, m0_, m1_, m2_⟩ (fun hHeld => ?_)
                have hb5 := bdrew (Below.refl wr.heap.size wr)
                have n_HP := Lib.hid (HP.out.step hb5)
                have n_HV := Lib.hid (HV.out.below hb5)
                have n_HM := Lib.hid (HM.out.below hb5)
                have n_H9 := Lib.hid (H9.out.step hb5)
                have n_H10 := Lib.hid (H10.out.step hb5)
                have n_HK := Lib.hid (HK.out.trans (hb5.mono HK.out.size))
                clear hb5 HP HV HM H9 H10 HK
                have HP := n_HP
                have HV := n_HV
                have HM := n_HM
                have H9 := n_H9
                have H10 := n_H10
                have HK := n_HK
                clear n_HP n_HV n_HM n_H9 n_H10 n_HK
                generalize wr.drew = xd at *
                clear m0_ m1_ m2_
                have m0_ : xd.cell? ⟨mb, mo + j * 4, none⟩ = some (.string yk) := (by simpa using HMC.out xd HM.out 0 _ rfl)
                have m1_ : xd.cell? ⟨mb, mo + j * 4 + 1, none⟩ = some (.int .u32 yp) := (by simpa using HMC.out xd HM.out 1 _ rfl)
                have m2_ : xd.cell? ⟨mb, mo + j * 4 + 2, none⟩ = some (.int .i64 ys) := (by simpa using HMC.out xd HM.out 2 _ rfl)
                refine pure_ (i := 0) (N := some 58) (v := ?_) (a' := ?_) #[true, false, false, false, false, false, false, false, false, false, false, false, false] rfl rfl (by kernel_rfl) (fun _ _ _ h => h) (Or.inl ⟨by rfl, ?_⟩) ?_ ?_
                rotate_left
                · intro w'
                  go_simp
                  with_reducible rfl
                rotate_left
                · simp only [Act.put, List.setIfInBounds_toArray, List.set_cons_zero, List.set_cons_succ, i64_w, i32_w]
                  rfl
                refine pure_ (i := 1) (N := some 59) (v := ?_) (a' := ?_) #[true, true, false, false, false, false, false, false, false, false, false, false, false] rfl rfl (by kernel_rfl) (fun _ _ _ h => h) (Or.inl ⟨by rfl, ?_⟩) ?_ ?_
                rotate_left
                · intro w'
                  go_simp
                  with_reducible rfl
                rotate_left
                · simp only [Act.put, List.setIfInBounds_toArray, List.set_cons_zero, List.set_cons_succ, i64_w, i32_w]
                  rfl
                refine pure_ (i := 2) (N := some 60) (v := ?_) (a' := ?_) #[true, true, true, false, false, false, false, false, false, false, false, false, false] rfl rfl (by kernel_rfl) (fun _ _ _ h => h) (Or.inl ⟨by rfl, ?_⟩) ?_ ?_
                rotate_left
                · intro w'
                  go_simp
                  with_reducible rfl
                rotate_left
                · simp only [Act.put, List.setIfInBounds_toArray, List.set_cons_zero, List.set_cons_succ, i64_w, i32_w]
                  rfl
                refine pure_ (i := 3) (N := some 61) (v := .bool true) (a' := ?_) #[true, true, true, true, false, false, false, false, false, false, false, false, false] rfl rfl (by kernel_rfl) (fun _ _ _ h => h) (Or.inl ⟨by rfl, ?_⟩) ?_ ?_
                · intro w'
                  go_simp; try simp [e1_]; try omega
                rotate_left
                · simp only [Act.put, List.setIfInBounds_toArray, List.set_cons_zero, List.set_cons_succ, i64_w, i32_w]
                  rfl
                refine pure_ (i := 4) (N := some 62) (v := .bool true) (a' := ?_) #[true, true, true, true, true, false, false, false, false, false, false, false, false] rfl rfl (by kernel_rfl) (fun _ _ _ h => h) (Or.inl ⟨by rfl, ?_⟩) ?_ ?_
                · intro w'
                  go_simp
                rotate_left
                · simp only [Act.put, List.setIfInBounds_toArray, List.set_cons_zero, List.set_cons_succ, i64_w, i32_w]
                  rfl
                refine pure_ (i := 5) (N := some 63) (v := ?_) (a' := ?_) #[true, true, true, true, true, true, false, false, false, false, false, false, false] rfl rfl (by kernel_rfl) (fun _ _ _ h => h) (Or.inl ⟨by rfl, ?_⟩) ?_ ?_
                rotate_left
                · intro w'
                  go_simp
                  with_reducible rfl
                rotate_left
                · simp only [Act.put, List.setIfInBounds_toArray, List.set_cons_zero, List.set_cons_succ, i64_w, i32_w]
                  rfl
                refine pure_ (i := 6) (N := some 64) (v := ?_) (a' := ?_) #[true, true, true, true, true, true, true, false, false, false, false, false, false] rfl rfl (by kernel_rfl) (fun _ _ _ h => h) (Or.inl ⟨by rfl, ?_⟩) ?_ ?_
                rotate_left
                · intro w'
                  go_simp
                  with_reducible rfl
                rotate_left
                · simp only [Act.put, List.setIfInBounds_toArray, List.set_cons_zero, List.set_cons_succ, i64_w, i32_w]
                  rfl
                refine pure_ (i := 7) (N := some 65) (v := ?_) (a' := ?_) #[true, true, true, true, true, true, true, true, false, false, false, false, false] rfl rfl (by kernel_rfl) (fun _ _ _ h => h) (Or.inl ⟨by rfl, ?_⟩) ?_ ?_
                rotate_left
                · intro w'
                  go_simp
                  with_reducible rfl
                rotate_left
                · simp only [Act.put, List.setIfInBounds_toArray, List.set_cons_zero, List.set_cons_succ, i64_w, i32_w]
                  rfl
                refine pure_ (i := 8) (N := some 66) (v := ?_) (a' := ?_) #[true, true, true, true, true, true, true, true, true, false, false, false, false] rfl rfl (by kernel_rfl) (fun _ _ _ h => h) (Or.inl ⟨by rfl, ?_⟩) ?_ ?_
                rotate_left
                · intro w'
                  go_simp
                  with_reducible rfl
                rotate_left
                · simp only [Act.put, List.setIfInBounds_toArray, List.set_cons_zero, List.set_cons_succ, i64_w, i32_w]
                  rfl
                refine take_ (i := 9) (N := some 67) (v := .agg #[.string yk, .int .u32 yp, .int .i64 ys]) (a' := ?_) #[true, true, true, true, true, true, true, true, true, true, false, false, false] rfl rfl (by kernel_rfl) (fun _ _ _ h => h) (Or.inl ⟨by rfl, ?_⟩) hHeld ?_ ?_
                · rintro w' ⟨s0, s1, s2, s3⟩
                  go_simp
                rotate_left
                · simp only [Act.put, List.setIfInBounds_toArray, List.set_cons_zero, List.set_cons_succ, i64_w, i32_w]
                  rfl
                refine take_ (i := 10) (N := some 68) (v := .agg #[.string xk, .int .u32 ap, .int .i64 xs]) (a' := ?_) #[true, true, true, true, true, true, true, true, true, true, true, false, false] rfl rfl (by kernel_rfl) (fun _ _ _ h => h) (yields_row 43 (.tmp 10) rfl (by rfl) g10 rfl 43 #[.string xk, .int .u32 ap, .int .i64 xs] (0, 0) _ (fun w_ h => h.1) Try.underlying43 rfl (by kernel_rfl)) hHeld ?_ ?_
                rotate_left
                · simp only [Act.put, List.setIfInBounds_toArray, List.set_cons_zero, List.set_cons_succ, i64_w, i32_w]
                  rfl
                refine one_ (i := 11) (N := some 69) #[true, true, true, true, true, true, true, true, true, true, true, true, false] rfl rfl (by kernel_rfl) (by decide) (fun K hK => ?_)
                clear hHeld
                refine goes_ Try.func17 (by kernel_rfl) rfl #[.agg #[.string yk, .int .u32 yp, .int .i64 ys], .agg #[.string xk, .int .u32 ap, .int .i64 xs]] (by rfl) rfl rfl (by (try simp only [List.map_toArray, List.map_cons, List.map_nil]); first | done | rfl) ?_
                refine (before_any yk yp ys xk ap xs _).mono ?_
                rintro e_ x1 ⟨rfl, hb5⟩
                rw [HB.out]
                have n_HP := Lib.hid (HP.out.step hb5)
                have n_HV := Lib.hid (HV.out.below hb5)
                have n_HM := Lib.hid (HM.out.below hb5)
                have n_H9 := Lib.hid (H9.out.step hb5)
                have n_H10 := Lib.hid (H10.out.step hb5)
                have n_HK := Lib.hid (HK.out.trans (hb5.mono HK.out.size))
                clear hb5 HP HV HM H9 H10 HK
                have HP := n_HP
                have HV := n_HV
                have HM := n_HM
                have H9 := n_H9
                have H10 := n_H10
                have HK := n_HK
                clear n_HP n_HV n_HM n_H9 n_H10 n_HK
                refine ⟨_, rfl, ?_⟩
                clear m0_ m1_ m2_
                have m0_ : x1.cell? ⟨mb, mo + j * 4, none⟩ = some (.string yk) := (by simpa using HMC.out x1 HM.out 0 _ rfl)
                have m1_ : x1.cell? ⟨mb, mo + j * 4 + 1, none⟩ = some (.int .u32 yp) := (by simpa using HMC.out x1 HM.out 1 _ rfl)
                have m2_ : x1.cell? ⟨mb, mo + j * 4 + 2, none⟩ = some (.int .i64 ys) := (by simpa using HMC.out x1 HM.out 2 _ rfl)
                refine hK.out _ _ ⟨H10.out, m0_, m1_, m2_⟩ (fun hHeld => ?_)
                clear hK K
                refine norm_ (a' := ?_) ?_ ?_
                rotate_left
                · show Act.put _ (some 69) _ = _
                  simp only [Act.put, List.setIfInBounds_toArray, List.set_cons_zero, List.set_cons_succ]
                  rfl
                refine pure_ (i := 12) (N := some 70) (v := ?_) (a' := ?_) #[true, true, true, true, true, true, true, true, true, true, true, true, true] rfl rfl (by kernel_rfl) (fun _ _ _ h => h) (Or.inl ⟨by rfl, ?_⟩) ?_ ?_
                rotate_left
                · intro w'
                  go_simp
                  with_reducible rfl
                rotate_left
                · simp only [Act.put, List.setIfInBounds_toArray, List.set_cons_zero, List.set_cons_succ, i64_w, i32_w]
                  rfl
                refine done_ (by kernel_rfl) ?_
                clear m0_ m1_ m2_
                go_wp2_with fail
                go_roundw
                case rel => exact ⟨j + 1, by first | rfl | go_num, by omega, HP, HV, HM, H9, H10, HK⟩
                case measure => simp [intOf]; omega
              · have hjl : j < its.length := by omega
                have HB := Lib.hid (show ltE its[j].ent (xk, ap, xs) = false from by
                  cases hb_ : ltE its[j].ent (xk, ap, xs) with
                  | false => rfl
                  | true => exact absurd ((pos_iff HL.out.sorted (xk, ap, xs) j hjl).1 hb_) (by rw [← HPP.out]; omega))
                have HMC := Lib.hid (show ∀ W : World, RowsI W (gp + 1) g9 mb mo its → ∀ r u, (It.cells its[j])[r]? = some u → W.cell? ⟨mb, mo + j * 4 + r, none⟩ = some u from fun W hW => hW.rd j hjl)
                generalize hy_ : its[j] = y at *
                clear hy_
                obtain ⟨yk, yp, ys, yl⟩ := y
                have HB := Lib.hid (show bef yk yp ys xk ap xs = false from HB.out)
                have e1_ : decide ((j : Int) < (its.length : Int)) = true := decide_eq_true (by omega)
                have j0_ : (0 : Int) ≤ j := by omega
                have j1_ : (j : Int) < its.length := by omega
                go_upto_region 11 with fail
                have m0_ : wr.cell? ⟨mb, mo + j * 4, none⟩ = some (.string yk) := (by simpa using HMC.out wr HM.out 0 _ rfl)
                have m1_ : wr.cell? ⟨mb, mo + j * 4 + 1, none⟩ = some (.int .u32 yp) := (by simpa using HMC.out wr HM.out 1 _ rfl)
                have m2_ : wr.cell? ⟨mb, mo + j * 4 + 2, none⟩ = some (.int .i64 ys) := (by simpa using HMC.out wr HM.out 2 _ rfl)
                refine start_ (n := 13) (S := fun w' => Blk w' g10 43 #[.string xk, .int .u32 ap, .int .i64 xs] ∧ w'.cell? ⟨mb, mo + j * 4, none⟩ = some (.string yk) ∧ w'.cell? ⟨mb, mo + j * 4 + 1, none⟩ = some (.int .u32 yp) ∧ w'.cell? ⟨mb, mo + j * 4 + 2, none⟩ = some (.int .i64 ys)) (ds := []) #[false, false, false, false, false, false, false, false, false, false, false, false, false] (by kernel_rfl) rfl rfl ⟨H10.out, m0_, m1_, m2_⟩ (fun hHeld => ?_)
                have hb5 := bdrew (Below.refl wr.heap.size wr)
                have n_HP := Lib.hid (HP.out.step hb5)
                have n_HV := Lib.hid (HV.out.below hb5)
                have n_HM := Lib.hid (HM.out.below hb5)
                have n_H9 := Lib.hid (H9.out.step hb5)
                have n_H10 := Lib.hid (H10.out.step hb5)
                have n_HK := Lib.hid (HK.out.trans (hb5.mono HK.out.size))
                clear hb5 HP HV HM H9 H10 HK
                have HP := n_HP
                have HV := n_HV
                have HM := n_HM
                have H9 := n_H9
                have H10 := n_H10
                have HK := n_HK
                clear n_HP n_HV n_HM n_H9 n_H10 n_HK
                generalize wr.drew = xd at *
                clear m0_ m1_ m2_
                have m0_ : xd.cell? ⟨mb, mo + j * 4, none⟩ = some (.string yk) := (by simpa using HMC.out xd HM.out 0 _ rfl)
                have m1_ : xd.cell? ⟨mb, mo + j * 4 + 1, none⟩ = some (.int .u32 yp) := (by simpa using HMC.out xd HM.out 1 _ rfl)
                have m2_ : xd.cell? ⟨mb, mo + j * 4 + 2, none⟩ = some (.int .i64 ys) := (by simpa using HMC.out xd HM.out 2 _ rfl)
                refine pure_ (i := 0) (N := some 58) (v := ?_) (a' := ?_) #[true, false, false, false, false, false, false, false, false, false, false, false, false] rfl rfl (by kernel_rfl) (fun _ _ _ h => h) (Or.inl ⟨by rfl, ?_⟩) ?_ ?_
                rotate_left
                · intro w'
                  go_simp
                  with_reducible rfl
                rotate_left
                · simp only [Act.put, List.setIfInBounds_toArray, List.set_cons_zero, List.set_cons_succ, i64_w, i32_w]
                  rfl
                refine pure_ (i := 1) (N := some 59) (v := ?_) (a' := ?_) #[true, true, false, false, false, false, false, false, false, false, false, false, false] rfl rfl (by kernel_rfl) (fun _ _ _ h => h) (Or.inl ⟨by rfl, ?_⟩) ?_ ?_
                rotate_left
                · intro w'
                  go_simp
                  with_reducible rfl
                rotate_left
                · simp only [Act.put, List.setIfInBounds_toArray, List.set_cons_zero, List.set_cons_succ, i64_w, i32_w]
                  rfl
                refine pure_ (i := 2) (N := some 60) (v := ?_) (a' := ?_) #[true, true, true, false, false, false, false, false, false, false, false, false, false] rfl rfl (by kernel_rfl) (fun _ _ _ h => h) (Or.inl ⟨by rfl, ?_⟩) ?_ ?_
                rotate_left
                · intro w'
                  go_simp
                  with_reducible rfl
                rotate_left
                · simp only [Act.put, List.setIfInBounds_toArray, List.set_cons_zero, List.set_cons_succ, i64_w, i32_w]
                  rfl
                refine pure_ (i := 3) (N := some 61) (v := .bool true) (a' := ?_) #[true, true, true, true, false, false, false, false, false, false, false, false, false] rfl rfl (by kernel_rfl) (fun _ _ _ h => h) (Or.inl ⟨by rfl, ?_⟩) ?_ ?_
                · intro w'
                  go_simp; try simp [e1_]; try omega
                rotate_left
                · simp only [Act.put, List.setIfInBounds_toArray, List.set_cons_zero, List.set_cons_succ, i64_w, i32_w]
                  rfl
                refine pure_ (i := 4) (N := some 62) (v := .bool true) (a' := ?_) #[true, true, true, true, true, false, false, false, false, false, false, false, false] rfl rfl (by kernel_rfl) (fun _ _ _ h => h) (Or.inl ⟨by rfl, ?_⟩) ?_ ?_
                · intro w'
                  go_simp
                rotate_left
                · simp only [Act.put, List.setIfInBounds_toArray, List.set_cons_zero, List.set_cons_succ, i64_w, i32_w]
                  rfl
                refine pure_ (i := 5) (N := some 63) (v := ?_) (a' := ?_) #[true, true, true, true, true, true, false, false, false, false, false, false, false] rfl rfl (by kernel_rfl) (fun _ _ _ h => h) (Or.inl ⟨by rfl, ?_⟩) ?_ ?_
                rotate_left
                · intro w'
                  go_simp
                  with_reducible rfl
                rotate_left
                · simp only [Act.put, List.setIfInBounds_toArray, List.set_cons_zero, List.set_cons_succ, i64_w, i32_w]
                  rfl
                refine pure_ (i := 6) (N := some 64) (v := ?_) (a' := ?_) #[true, true, true, true, true, true, true, false, false, false, false, false, false] rfl rfl (by kernel_rfl) (fun _ _ _ h => h) (Or.inl ⟨by rfl, ?_⟩) ?_ ?_
                rotate_left
                · intro w'
                  go_simp
                  with_reducible rfl
                rotate_left
                · simp only [Act.put, List.setIfInBounds_toArray, List.set_cons_zero, List.set_cons_succ, i64_w, i32_w]
                  rfl
                refine pure_ (i := 7) (N := some 65) (v := ?_) (a' := ?_) #[true, true, true, true, true, true, true, true, false, false, false, false, false] rfl rfl (by kernel_rfl) (fun _ _ _ h => h) (Or.inl ⟨by rfl, ?_⟩) ?_ ?_
                rotate_left
                · intro w'
                  go_simp
                  with_reducible rfl
                rotate_left
                · simp only [Act.put, List.setIfInBounds_toArray, List.set_cons_zero, List.set_cons_succ, i64_w, i32_w]
                  rfl
                refine pure_ (i := 8) (N := some 66) (v := ?_) (a' := ?_) #[true, true, true, true, true, true, true, true, true, false, false, false, false] rfl rfl (by kernel_rfl) (fun _ _ _ h => h) (Or.inl ⟨by rfl, ?_⟩) ?_ ?_
                rotate_left
                · intro w'
                  go_simp
                  with_reducible rfl
                rotate_left
                · simp only [Act.put, List.setIfInBounds_toArray, List.set_cons_zero, List.set_cons_succ, i64_w, i32_w]
                  rfl
                refine take_ (i := 9) (N := some 67) (v := .agg #[.string yk, .int .u32 yp, .int .i64 ys]) (a' := ?_) #[true, true, true, true, true, true, true, true, true, true, false, false, false] rfl rfl (by kernel_rfl) (fun _ _ _ h => h) (Or.inl ⟨by rfl, ?_⟩) hHeld ?_ ?_
                · rintro w' ⟨s0, s1, s2, s3⟩
                  go_simp
                rotate_left
                · simp only [Act.put, List.setIfInBounds_toArray, List.set_cons_zero, List.set_cons_succ, i64_w, i32_w]
                  rfl
                refine take_ (i := 10) (N := some 68) (v := .agg #[.string xk, .int .u32 ap, .int .i64 xs]) (a' := ?_) #[true, true, true, true, true, true, true, true, true, true, true, false, false] rfl rfl (by kernel_rfl) (fun _ _ _ h => h) (yields_row 43 (.tmp 10) rfl (by rfl) g10 rfl 43 #[.string xk, .int .u32 ap, .int .i64 xs] (0, 0) _ (fun w_ h => h.1) Try.underlying43 rfl (by kernel_rfl)) hHeld ?_ ?_
                rotate_left
                · simp only [Act.put, List.setIfInBounds_toArray, List.set_cons_zero, List.set_cons_succ, i64_w, i32_w]
                  rfl
                refine one_ (i := 11) (N := some 69) #[true, true, true, true, true, true, true, true, true, true, true, true, false] rfl rfl (by kernel_rfl) (by decide) (fun K hK => ?_)
                clear hHeld
                refine goes_ Try.func17 (by kernel_rfl) rfl #[.agg #[.string yk, .int .u32 yp, .int .i64 ys], .agg #[.string xk, .int .u32 ap, .int .i64 xs]] (by rfl) rfl rfl (by (try simp only [List.map_toArray, List.map_cons, List.map_nil]); first | done | rfl) ?_
                refine (before_any yk yp ys xk ap xs _).mono ?_
                rintro e_ x2 ⟨rfl, hb5⟩
                rw [HB.out]
                have n_HP := Lib.hid (HP.out.step hb5)
                have n_HV := Lib.hid (HV.out.below hb5)
                have n_HM := Lib.hid (HM.out.below hb5)
                have n_H9 := Lib.hid (H9.out.step hb5)
                have n_H10 := Lib.hid (H10.out.step hb5)
                have n_HK := Lib.hid (HK.out.trans (hb5.mono HK.out.size))
                clear hb5 HP HV HM H9 H10 HK
                have HP := n_HP
                have HV := n_HV
                have HM := n_HM
                have H9 := n_H9
                have H10 := n_H10
                have HK := n_HK
                clear n_HP n_HV n_HM n_H9 n_H10 n_HK
                refine ⟨_, rfl, ?_⟩
                clear m0_ m1_ m2_
                have m0_ : x2.cell? ⟨mb, mo + j * 4, none⟩ = some (.string yk) := (by simpa using HMC.out x2 HM.out 0 _ rfl)
                have m1_ : x2.cell? ⟨mb, mo + j * 4 + 1, none⟩ = some (.int .u32 yp) := (by simpa using HMC.out x2 HM.out 1 _ rfl)
                have m2_ : x2.cell? ⟨mb, mo + j * 4 + 2, none⟩ = some (.int .i64 ys) := (by simpa using HMC.out x2 HM.out 2 _ rfl)
                refine hK.out _ _ ⟨H10.out, m0_, m1_, m2_⟩ (fun hHeld => ?_)
                clear hK K
                refine norm_ (a' := ?_) ?_ ?_
                rotate_left
                · show Act.put _ (some 69) _ = _
                  simp only [Act.put, List.setIfInBounds_toArray, List.set_cons_zero, List.set_cons_succ]
                  rfl
                refine pure_ (i := 12) (N := some 70) (v := ?_) (a' := ?_) #[true, true, true, true, true, true, true, true, true, true, true, true, true] rfl rfl (by kernel_rfl) (fun _ _ _ h => h) (Or.inl ⟨by rfl, ?_⟩) ?_ ?_
                rotate_left
                · intro w'
                  go_simp
                  with_reducible rfl
                rotate_left
                · simp only [Act.put, List.setIfInBounds_toArray, List.set_cons_zero, List.set_cons_succ, i64_w, i32_w]
                  rfl
                refine done_ (by kernel_rfl) ?_
                clear m0_ m1_ m2_
                go_wp2_with fail
                go_meet
                exact ⟨rfl, HP, HV, HM, H9, H10, HK⟩
              · have e1_ : decide ((j : Int) < (its.length : Int)) = false := decide_eq_false (by omega)
                go_upto_region 11 with fail
                refine start_ (n := 13) (S := fun w' => True) (ds := []) #[false, false, false, false, false, false, false, false, false, false, false, false, false] (by kernel_rfl) rfl rfl trivial (fun hHeld => ?_)
                have hb5 := bdrew (Below.refl wr.heap.size wr)
                have n_HP := Lib.hid (HP.out.step hb5)
                have n_HV := Lib.hid (HV.out.below hb5)
                have n_HM := Lib.hid (HM.out.below hb5)
                have n_H9 := Lib.hid (H9.out.step hb5)
                have n_H10 := Lib.hid (H10.out.step hb5)
                have n_HK := Lib.hid (HK.out.trans (hb5.mono HK.out.size))
                clear hb5 HP HV HM H9 H10 HK
                have HP := n_HP
                have HV := n_HV
                have HM := n_HM
                have H9 := n_H9
                have H10 := n_H10
                have HK := n_HK
                clear n_HP n_HV n_HM n_H9 n_H10 n_HK
                generalize wr.drew = xd at *
                refine pure_ (i := 0) (N := some 58) (v := ?_) (a' := ?_) #[true, false, false, false, false, false, false, false, false, false, false, false, false] rfl rfl (by kernel_rfl) (fun _ _ _ h => h) (Or.inl ⟨by rfl, ?_⟩) ?_ ?_
                rotate_left
                · intro w'
                  go_simp
                  with_reducible rfl
                rotate_left
                · simp only [Act.put, List.setIfInBounds_toArray, List.set_cons_zero, List.set_cons_succ, i64_w, i32_w]
                  rfl
                refine pure_ (i := 1) (N := some 59) (v := ?_) (a' := ?_) #[true, true, false, false, false, false, false, false, false, false, false, false, false] rfl rfl (by kernel_rfl) (fun _ _ _ h => h) (Or.inl ⟨by rfl, ?_⟩) ?_ ?_
                rotate_left
                · intro w'
                  go_simp
                  with_reducible rfl
                rotate_left
                · simp only [Act.put, List.setIfInBounds_toArray, List.set_cons_zero, List.set_cons_succ, i64_w, i32_w]
                  rfl
                refine pure_ (i := 2) (N := some 60) (v := ?_) (a' := ?_) #[true, true, true, false, false, false, false, false, false, false, false, false, false] rfl rfl (by kernel_rfl) (fun _ _ _ h => h) (Or.inl ⟨by rfl, ?_⟩) ?_ ?_
                rotate_left
                · intro w'
                  go_simp
                  with_reducible rfl
                rotate_left
                · simp only [Act.put, List.setIfInBounds_toArray, List.set_cons_zero, List.set_cons_succ, i64_w, i32_w]
                  rfl
                refine pure_ (i := 3) (N := some 61) (v := .bool false) (a' := ?_) #[true, true, true, true, false, false, false, false, false, false, false, false, false] rfl rfl (by kernel_rfl) (fun _ _ _ h => h) (Or.inl ⟨by rfl, ?_⟩) ?_ ?_
                · intro w'
                  go_simp; try simp [e1_]; try omega
                rotate_left
                · simp only [Act.put, List.setIfInBounds_toArray, List.set_cons_zero, List.set_cons_succ, i64_w, i32_w]
                  rfl
                refine pure_ (i := 4) (N := some 62) (v := .bool false) (a' := ?_) #[true, true, true, true, true, false, false, false, false, false, false, false, false] rfl rfl (by kernel_rfl) (fun _ _ _ h => h) (Or.inl ⟨by rfl, ?_⟩) ?_ ?_
                · intro w'
                  go_simp
                rotate_left
                · simp only [Act.put, List.setIfInBounds_toArray, List.set_cons_zero, List.set_cons_succ, i64_w, i32_w]
                  rfl
                refine pure_ (i := 5) (N := some 63) (v := undef) (a' := ?_) #[true, true, true, true, true, true, false, false, false, false, false, false, false] rfl rfl (by kernel_rfl) (fun _ _ _ h => h) (Or.inr ⟨by rfl, rfl⟩) ?_ ?_
                rotate_left
                · simp only [Act.put, List.setIfInBounds_toArray, List.set_cons_zero, List.set_cons_succ, i64_w, i32_w]
                  rfl
                refine pure_ (i := 6) (N := some 64) (v := undef) (a' := ?_) #[true, true, true, true, true, true, true, false, false, false, false, false, false] rfl rfl (by kernel_rfl) (fun _ _ _ h => h) (Or.inr ⟨by rfl, rfl⟩) ?_ ?_
                rotate_left
                · simp only [Act.put, List.setIfInBounds_toArray, List.set_cons_zero, List.set_cons_succ, i64_w, i32_w]
                  rfl
                refine pure_ (i := 7) (N := some 65) (v := undef) (a' := ?_) #[true, true, true, true, true, true, true, true, false, false, false, false, false] rfl rfl (by kernel_rfl) (fun _ _ _ h => h) (Or.inr ⟨by rfl, rfl⟩) ?_ ?_
                rotate_left
                · simp only [Act.put, List.setIfInBounds_toArray, List.set_cons_zero, List.set_cons_succ, i64_w, i32_w]
                  rfl
                refine pure_ (i := 8) (N := some 66) (v := undef) (a' := ?_) #[true, true, true, true, true, true, true, true, true, false, false, false, false] rfl rfl (by kernel_rfl) (fun _ _ _ h => h) (Or.inr ⟨by rfl, rfl⟩) ?_ ?_
                rotate_left
                · simp only [Act.put, List.setIfInBounds_toArray, List.set_cons_zero, List.set_cons_succ, i64_w, i32_w]
                  rfl
                refine pure_ (i := 9) (N := some 67) (v := undef) (a' := ?_) #[true, true, true, true, true, true, true, true, true, true, false, false, false] rfl rfl (by kernel_rfl) (fun _ _ _ h => h) (Or.inr ⟨by rfl, rfl⟩) ?_ ?_
                rotate_left
                · simp only [Act.put, List.setIfInBounds_toArray, List.set_cons_zero, List.set_cons_succ, i64_w, i32_w]
                  rfl
                refine pure_ (i := 10) (N := some 68) (v := undef) (a' := ?_) #[true, true, true, true, true, true, true, true, true, true, true, false, false] rfl rfl (by kernel_rfl) (fun _ _ _ h => h) (Or.inr ⟨by rfl, rfl⟩) ?_ ?_
                rotate_left
                · simp only [Act.put, List.setIfInBounds_toArray, List.set_cons_zero, List.set_cons_succ, i64_w, i32_w]
                  rfl
                refine pure_ (i := 11) (N := some 69) (v := undef) (a' := ?_) #[true, true, true, true, true, true, true, true, true, true, true, true, false] rfl rfl (by kernel_rfl) (fun _ _ _ h => h) (Or.inr ⟨by rfl, rfl⟩) ?_ ?_
                rotate_left
                · simp only [Act.put, List.setIfInBounds_toArray, List.set_cons_zero, List.set_cons_succ, i64_w, i32_w]
                  rfl
                refine pure_ (i := 12) (N := some 70) (v := ?_) (a' := ?_) #[true, true, true, true, true, true, true, true, true, true, true, true, true] rfl rfl (by kernel_rfl) (fun _ _ _ h => h) (Or.inl ⟨by rfl, ?_⟩) ?_ ?_
                rotate_left
                · intro w'
                  go_simp
                  with_reducible rfl
                rotate_left
                · simp only [Act.put, List.setIfInBounds_toArray, List.set_cons_zero, List.set_cons_succ, i64_w, i32_w]
                  rfl
                refine done_ (by kernel_rfl) ?_
                go_wp2_with fail
                go_meet
                exact ⟨rfl, HP, HV, HM, H9, H10, HK⟩
        case rest =>
        clear HP HV HM H9 H10 HK
        obtain ⟨rfl, HP, HV, HM, H9, H10, HK⟩ := hcut
        obtain ⟨B, hB⟩ : ∃ B, B = isIn its (xk, ap, xs) := ⟨_, rfl⟩
        have HBB := Lib.hid hB
        clear hB
        go_upto_region 13 with fail
        go_cut [12] from 73 to 85 (fun tv wx => tv = .bool B ∧ Hid (Blk wx gp 28 #[.int .u32 3, .int .u64 lsn, .int .i64 3, .string (HD hd), Vp]) ∧ Hid (OwnP wx w.heap.size Vp (List.map slotOf its)) ∧ Hid (RowsI wx (gp + 1) g9 mb mo its) ∧ Hid (Blk wx g9 53 #[.int .i64 ak, .int .i64 an, .string ay, .int .u32 ap, .int .i64 as_, .bool al]) ∧ Hid (Blk wx g10 43 #[.string xk, .int .u32 ap, .int .i64 xs]) ∧ Hid (Below w.heap.size w wx))
        case first =>
          as_aux_lemma =>
            have HLE := HPLE.out
            rcases (show P < its.length ∨ P = its.length from by omega) with h3 | h3
            · have hpe : pos its (xk, ap, xs) < its.length := by rw [← HPP.out]; exact h3
              have HB1 := Lib.hid (show B = decide (its[P].ent = (xk, ap, xs)) from by
                rw [HBB.out, isIn_at hpe]
                have h_ := HPP.out
                subst h_
                rfl)
              clear hpe
              have HMC := Lib.hid (show ∀ W : World, RowsI W (gp + 1) g9 mb mo its → ∀ r u, (It.cells its[P])[r]? = some u → W.cell? ⟨mb, mo + P * 4 + r, none⟩ = some u from fun W hW => hW.rd P h3)
              generalize hy_ : its[P] = y at *
              clear hy_
              obtain ⟨yk, yp, ys, yl⟩ := y
              have e1_ : decide ((P : Int) < (its.length : Int)) = true := decide_eq_true (by omega)
              have j0_ : (0 : Int) ≤ P := by omega
              have j1_ : (P : Int) < its.length := by omega
              by_cases hq : yk = xk ∧ yp = ap ∧ ys = xs
              · obtain ⟨h1_, h2_, h3_⟩ := hq
                have h1_ := h1_.symm
                have h2_ := h2_.symm
                have h3_ := h3_.symm
                subst h1_ h2_ h3_
                obtain rfl : B = true := by rw [HB1.out]; exact decide_eq_true rfl
                have m0_ : wc.cell? ⟨mb, mo + P * 4, none⟩ = some (.string xk) := (by simpa using HMC.out wc HM.out 0 _ rfl)
                have m1_ : wc.cell? ⟨mb, mo + P * 4 + 1, none⟩ = some (.int .u32 ap) := (by simpa using HMC.out wc HM.out 1 _ rfl)
                have m2_ : wc.cell? ⟨mb, mo + P * 4 + 2, none⟩ = some (.int .i64 xs) := (by simpa using HMC.out wc HM.out 2 _ rfl)
                refine start_ (n := 14) (S := fun w' => Blk w' g10 43 #[.string xk, .int .u32 ap, .int .i64 xs] ∧ w'.cell? ⟨mb, mo + P * 4, none⟩ = some (.string xk) ∧ w'.cell? ⟨mb, mo + P * 4 + 1, none⟩ = some (.int .u32 ap) ∧ w'.cell? ⟨mb, mo + P * 4 + 2, none⟩ = some (.int .i64 xs)) (ds := []) #[false, false, false, false, false, false, false, false, false, false, false, false, false, false] (by kernel_rfl) rfl rfl ⟨H10.out, m0_, m1_, m2_⟩ (fun hHeld => ?_)
                have hb5 := bdrew (Below.refl wc.heap.size wc)
                have n_HP := Lib.hid (HP.out.step hb5)
                have n_HV := Lib.hid (HV.out.below hb5)
                have n_HM := Lib.hid (HM.out.below hb5)
                have n_H9 := Lib.hid (H9.out.step hb5)
                have n_H10 := Lib.hid (H10.out.step hb5)
                have n_HK := Lib.hid (HK.out.trans (hb5.mono HK.out.size))
                clear hb5 HP HV HM H9 H10 HK
                have HP := n_HP
                have HV := n_HV
                have HM := n_HM
                have H9 := n_H9
                have H10 := n_H10
                have HK := n_HK
                clear n_HP n_HV n_HM n_H9 n_H10 n_HK
                generalize wc.drew = xd at *
                refine pure_ (i := 0) (N := some 73) (v := ?_) (a' := ?_) #[true, false, false, false, false, false, false, false, false, false, false, false, false, false] rfl rfl (by kernel_rfl) (fun _ _ _ h => h) (Or.inl ⟨by rfl, ?_⟩) ?_ ?_
                rotate_left
                · intro w'
                  go_simp
                  with_reducible rfl
                rotate_left
                · simp only [Act.put, List.setIfInBounds_toArray, List.set_cons_zero, List.set_cons_succ, i64_w, i32_w]
                  rfl
                refine pure_ (i := 1) (N := some 74) (v := ?_) (a' := ?_) #[true, true, false, false, false, false, false, false, false, false, false, false, false, false] rfl rfl (by kernel_rfl) (fun _ _ _ h => h) (Or.inl ⟨by rfl, ?_⟩) ?_ ?_
                rotate_left
                · intro w'
                  go_simp
                  with_reducible rfl
                rotate_left
                · simp only [Act.put, List.setIfInBounds_toArray, List.set_cons_zero, List.set_cons_succ, i64_w, i32_w]
                  rfl
                refine pure_ (i := 2) (N := some 75) (v := ?_) (a' := ?_) #[true, true, true, false, false, false, false, false, false, false, false, false, false, false] rfl rfl (by kernel_rfl) (fun _ _ _ h => h) (Or.inl ⟨by rfl, ?_⟩) ?_ ?_
                rotate_left
                · intro w'
                  go_simp
                  with_reducible rfl
                rotate_left
                · simp only [Act.put, List.setIfInBounds_toArray, List.set_cons_zero, List.set_cons_succ, i64_w, i32_w]
                  rfl
                refine pure_ (i := 3) (N := some 76) (v := .bool true) (a' := ?_) #[true, true, true, true, false, false, false, false, false, false, false, false, false, false] rfl rfl (by kernel_rfl) (fun _ _ _ h => h) (Or.inl ⟨by rfl, ?_⟩) ?_ ?_
                · intro w'
                  go_simp; try simp [e1_]; try omega
                rotate_left
                · simp only [Act.put, List.setIfInBounds_toArray, List.set_cons_zero, List.set_cons_succ, i64_w, i32_w]
                  rfl
                refine pure_ (i := 4) (N := some 77) (v := .bool true) (a' := ?_) #[true, true, true, true, true, false, false, false, false, false, false, false, false, false] rfl rfl (by kernel_rfl) (fun _ _ _ h => h) (Or.inl ⟨by rfl, ?_⟩) ?_ ?_
                · intro w'
                  go_simp
                rotate_left
                · simp only [Act.put, List.setIfInBounds_toArray, List.set_cons_zero, List.set_cons_succ, i64_w, i32_w]
                  rfl
                refine pure_ (i := 5) (N := some 78) (v := ?_) (a' := ?_) #[true, true, true, true, true, true, false, false, false, false, false, false, false, false] rfl rfl (by kernel_rfl) (fun _ _ _ h => h) (Or.inl ⟨by rfl, ?_⟩) ?_ ?_
                rotate_left
                · intro w'
                  go_simp
                  with_reducible rfl
                rotate_left
                · simp only [Act.put, List.setIfInBounds_toArray, List.set_cons_zero, List.set_cons_succ, i64_w, i32_w]
                  rfl
                refine pure_ (i := 6) (N := some 79) (v := ?_) (a' := ?_) #[true, true, true, true, true, true, true, false, false, false, false, false, false, false] rfl rfl (by kernel_rfl) (fun _ _ _ h => h) (Or.inl ⟨by rfl, ?_⟩) ?_ ?_
                rotate_left
                · intro w'
                  go_simp
                  with_reducible rfl
                rotate_left
                · simp only [Act.put, List.setIfInBounds_toArray, List.set_cons_zero, List.set_cons_succ, i64_w, i32_w]
                  rfl
                refine pure_ (i := 7) (N := some 80) (v := ?_) (a' := ?_) #[true, true, true, true, true, true, true, true, false, false, false, false, false, false] rfl rfl (by kernel_rfl) (fun _ _ _ h => h) (Or.inl ⟨by rfl, ?_⟩) ?_ ?_
                rotate_left
                · intro w'
                  go_simp
                  with_reducible rfl
                rotate_left
                · simp only [Act.put, List.setIfInBounds_toArray, List.set_cons_zero, List.set_cons_succ, i64_w, i32_w]
                  rfl
                refine pure_ (i := 8) (N := some 81) (v := ?_) (a' := ?_) #[true, true, true, true, true, true, true, true, true, false, false, false, false, false] rfl rfl (by kernel_rfl) (fun _ _ _ h => h) (Or.inl ⟨by rfl, ?_⟩) ?_ ?_
                rotate_left
                · intro w'
                  go_simp
                  with_reducible rfl
                rotate_left
                · simp only [Act.put, List.setIfInBounds_toArray, List.set_cons_zero, List.set_cons_succ, i64_w, i32_w]
                  rfl
                refine take_ (i := 9) (N := some 82) (v := .agg #[.string xk, .int .u32 ap, .int .i64 xs]) (a' := ?_) #[true, true, true, true, true, true, true, true, true, true, false, false, false, false] rfl rfl (by kernel_rfl) (fun _ _ _ h => h) (Or.inl ⟨by rfl, ?_⟩) hHeld ?_ ?_
                · rintro w' ⟨s0, s1, s2, s3⟩
                  go_simp
                rotate_left
                · simp only [Act.put, List.setIfInBounds_toArray, List.set_cons_zero, List.set_cons_succ, i64_w, i32_w]
                  rfl
                refine take_ (i := 10) (N := some 83) (v := .agg #[.string xk, .int .u32 ap, .int .i64 xs]) (a' := ?_) #[true, true, true, true, true, true, true, true, true, true, true, false, false, false] rfl rfl (by kernel_rfl) (fun _ _ _ h => h) (yields_row 43 (.tmp 10) rfl (by rfl) g10 rfl 43 #[.string xk, .int .u32 ap, .int .i64 xs] (0, 0) _ (fun w_ h => h.1) Try.underlying43 rfl (by kernel_rfl)) hHeld ?_ ?_
                rotate_left
                · simp only [Act.put, List.setIfInBounds_toArray, List.set_cons_zero, List.set_cons_succ, i64_w, i32_w]
                  rfl
                refine pure_ (i := 11) (N := some 84) (v := .bool true) (a' := ?_) #[true, true, true, true, true, true, true, true, true, true, true, true, false, false] rfl rfl (by kernel_rfl) (fun _ _ _ h => h) (Or.inl ⟨by rfl, ?_⟩) ?_ ?_
                · intro w'
                  go_simp; try simp
                rotate_left
                · simp only [Act.put, List.setIfInBounds_toArray, List.set_cons_zero, List.set_cons_succ, i64_w, i32_w]
                  rfl
                refine pure_ (i := 12) (N := some 85) (v := .bool true) (a' := ?_) #[true, true, true, true, true, true, true, true, true, true, true, true, true, false] rfl rfl (by kernel_rfl) (fun _ _ _ h => h) (Or.inl ⟨by rfl, ?_⟩) ?_ ?_
                · intro w'
                  go_simp
                rotate_left
                · simp only [Act.put, List.setIfInBounds_toArray, List.set_cons_zero, List.set_cons_succ, i64_w, i32_w]
                  rfl
                refine pure_ (i := 13) (N := some 12) (v := ?_) (a' := ?_) #[true, true, true, true, true, true, true, true, true, true, true, true, true, true] rfl rfl (by kernel_rfl) (fun _ _ _ h => h) (Or.inl ⟨by rfl, ?_⟩) ?_ ?_
                rotate_left
                · intro w'
                  go_simp
                  with_reducible rfl
                rotate_left
                · simp only [Act.put, List.setIfInBounds_toArray, List.set_cons_zero, List.set_cons_succ, i64_w, i32_w]
                  rfl
                refine done_ (by kernel_rfl) ?_
                clear m0_ m1_ m2_
                go_wp2_with fail
                go_meet
                exact ⟨rfl, HP, HV, HM, H9, H10, HK⟩
              · obtain rfl : B = false := by rw [HB1.out]; exact decide_eq_false (fun h_ => hq (by have h2_ : (yk, yp, ys) = (xk, ap, xs) := h_; simp only [Prod.mk.injEq] at h2_; exact h2_))
                have m0_ : wc.cell? ⟨mb, mo + P * 4, none⟩ = some (.string yk) := (by simpa using HMC.out wc HM.out 0 _ rfl)
                have m1_ : wc.cell? ⟨mb, mo + P * 4 + 1, none⟩ = some (.int .u32 yp) := (by simpa using HMC.out wc HM.out 1 _ rfl)
                have m2_ : wc.cell? ⟨mb, mo + P * 4 + 2, none⟩ = some (.int .i64 ys) := (by simpa using HMC.out wc HM.out 2 _ rfl)
                refine start_ (n := 14) (S := fun w' => Blk w' g10 43 #[.string xk, .int .u32 ap, .int .i64 xs] ∧ w'.cell? ⟨mb, mo + P * 4, none⟩ = some (.string yk) ∧ w'.cell? ⟨mb, mo + P * 4 + 1, none⟩ = some (.int .u32 yp) ∧ w'.cell? ⟨mb, mo + P * 4 + 2, none⟩ = some (.int .i64 ys)) (ds := []) #[false, false, false, false, false, false, false, false, false, false, false, false, false, false] (by kernel_rfl) rfl rfl ⟨H10.out, m0_, m1_, m2_⟩ (fun hHeld => ?_)
                have hb5 := bdrew (Below.refl wc.heap.size wc)
                have n_HP := Lib.hid (HP.out.step hb5)
                have n_HV := Lib.hid (HV.out.below hb5)
                have n_HM := Lib.hid (HM.out.below hb5)
                have n_H9 := Lib.hid (H9.out.step hb5)
                have n_H10 := Lib.hid (H10.out.step hb5)
                have n_HK := Lib.hid (HK.out.trans (hb5.mono HK.out.size))
                clear hb5 HP HV HM H9 H10 HK
                have HP := n_HP
                have HV := n_HV
                have HM := n_HM
                have H9 := n_H9
                have H10 := n_H10
                have HK := n_HK
                clear n_HP n_HV n_HM n_H9 n_H10 n_HK
                generalize wc.drew = xd at *
                refine pure_ (i := 0) (N := some 73) (v := ?_) (a' := ?_) #[true, false, false, false, false, false, false, false, false, false, false, false, false, false] rfl rfl (by kernel_rfl) (fun _ _ _ h => h) (Or.inl ⟨by rfl, ?_⟩) ?_ ?_
                rotate_left
                · intro w'
                  go_simp
                  with_reducible rfl
                rotate_left
                · simp only [Act.put, List.setIfInBounds_toArray, List.set_cons_zero, List.set_cons_succ, i64_w, i32_w]
                  rfl
                refine pure_ (i := 1) (N := some 74) (v := ?_) (a' := ?_) #[true, true, false, false, false, false, false, false, false, false, false, false, false, false] rfl rfl (by kernel_rfl) (fun _ _ _ h => h) (Or.inl ⟨by rfl, ?_⟩) ?_ ?_
                rotate_left
                · intro w'
                  go_simp
                  with_reducible rfl
                rotate_left
                · simp only [Act.put, List.setIfInBounds_toArray, List.set_cons_zero, List.set_cons_succ, i64_w, i32_w]
                  rfl
                refine pure_ (i := 2) (N := some 75) (v := ?_) (a' := ?_) #[true, true, true, false, false, false, false, false, false, false, false, false, false, false] rfl rfl (by kernel_rfl) (fun _ _ _ h => h) (Or.inl ⟨by rfl, ?_⟩) ?_ ?_
                rotate_left
                · intro w'
                  go_simp
                  with_reducible rfl
                rotate_left
                · simp only [Act.put, List.setIfInBounds_toArray, List.set_cons_zero, List.set_cons_succ, i64_w, i32_w]
                  rfl
                refine pure_ (i := 3) (N := some 76) (v := .bool true) (a' := ?_) #[true, true, true, true, false, false, false, false, false, false, false, false, false, false] rfl rfl (by kernel_rfl) (fun _ _ _ h => h) (Or.inl ⟨by rfl, ?_⟩) ?_ ?_
                · intro w'
                  go_simp; try simp [e1_]; try omega
                rotate_left
                · simp only [Act.put, List.setIfInBounds_toArray, List.set_cons_zero, List.set_cons_succ, i64_w, i32_w]
                  rfl
                refine pure_ (i := 4) (N := some 77) (v := .bool true) (a' := ?_) #[true, true, true, true, true, false, false, false, false, false, false, false, false, false] rfl rfl (by kernel_rfl) (fun _ _ _ h => h) (Or.inl ⟨by rfl, ?_⟩) ?_ ?_
                · intro w'
                  go_simp
                rotate_left
                · simp only [Act.put, List.setIfInBounds_toArray, List.set_cons_zero, List.set_cons_succ, i64_w, i32_w]
                  rfl
                refine pure_ (i := 5) (N := some 78) (v := ?_) (a' := ?_) #[true, true, true, true, true, true, false, false, false, false, false, false, false, false] rfl rfl (by kernel_rfl) (fun _ _ _ h => h) (Or.inl ⟨by rfl, ?_⟩) ?_ ?_
                rotate_left
                · intro w'
                  go_simp
                  with_reducible rfl
                rotate_left
                · simp only [Act.put, List.setIfInBounds_toArray, List.set_cons_zero, List.set_cons_succ, i64_w, i32_w]
                  rfl
                refine pure_ (i := 6) (N := some 79) (v := ?_) (a' := ?_) #[true, true, true, true, true, true, true, false, false, false, false, false, false, false] rfl rfl (by kernel_rfl) (fun _ _ _ h => h) (Or.inl ⟨by rfl, ?_⟩) ?_ ?_
                rotate_left
                · intro w'
                  go_simp
                  with_reducible rfl
                rotate_left
                · simp only [Act.put, List.setIfInBounds_toArray, List.set_cons_zero, List.set_cons_succ, i64_w, i32_w]
                  rfl
                refine pure_ (i := 7) (N := some 80) (v := ?_) (a' := ?_) #[true, true, true, true, true, true, true, true, false, false, false, false, false, false] rfl rfl (by kernel_rfl) (fun _ _ _ h => h) (Or.inl ⟨by rfl, ?_⟩) ?_ ?_
                rotate_left
                · intro w'
                  go_simp
                  with_reducible rfl
                rotate_left
                · simp only [Act.put, List.setIfInBounds_toArray, List.set_cons_zero, List.set_cons_succ, i64_w, i32_w]
                  rfl
                refine pure_ (i := 8) (N := some 81) (v := ?_) (a' := ?_) #[true, true, true, true, true, true, true, true, true, false, false, false, false, false] rfl rfl (by kernel_rfl) (fun _ _ _ h => h) (Or.inl ⟨by rfl, ?_⟩) ?_ ?_
                rotate_left
                · intro w'
                  go_simp
                  with_reducible rfl
                rotate_left
                · simp only [Act.put, List.setIfInBounds_toArray, List.set_cons_zero, List.set_cons_succ, i64_w, i32_w]
                  rfl
                refine take_ (i := 9) (N := some 82) (v := .agg #[.string yk, .int .u32 yp, .int .i64 ys]) (a' := ?_) #[true, true, true, true, true, true, true, true, true, true, false, false, false, false] rfl rfl (by kernel_rfl) (fun _ _ _ h => h) (Or.inl ⟨by rfl, ?_⟩) hHeld ?_ ?_
                · rintro w' ⟨s0, s1, s2, s3⟩
                  go_simp
                rotate_left
                · simp only [Act.put, List.setIfInBounds_toArray, List.set_cons_zero, List.set_cons_succ, i64_w, i32_w]
                  rfl
                refine take_ (i := 10) (N := some 83) (v := .agg #[.string xk, .int .u32 ap, .int .i64 xs]) (a' := ?_) #[true, true, true, true, true, true, true, true, true, true, true, false, false, false] rfl rfl (by kernel_rfl) (fun _ _ _ h => h) (yields_row 43 (.tmp 10) rfl (by rfl) g10 rfl 43 #[.string xk, .int .u32 ap, .int .i64 xs] (0, 0) _ (fun w_ h => h.1) Try.underlying43 rfl (by kernel_rfl)) hHeld ?_ ?_
                rotate_left
                · simp only [Act.put, List.setIfInBounds_toArray, List.set_cons_zero, List.set_cons_succ, i64_w, i32_w]
                  rfl
                refine pure_ (i := 11) (N := some 84) (v := .bool false) (a' := ?_) #[true, true, true, true, true, true, true, true, true, true, true, true, false, false] rfl rfl (by kernel_rfl) (fun _ _ _ h => h) (Or.inl ⟨by rfl, ?_⟩) ?_ ?_
                · intro w'
                  go_simp; exact fun h1_ h2_ h3_ => hq ⟨tl_inj h1_, h2_, h3_⟩
                rotate_left
                · simp only [Act.put, List.setIfInBounds_toArray, List.set_cons_zero, List.set_cons_succ, i64_w, i32_w]
                  rfl
                refine pure_ (i := 12) (N := some 85) (v := .bool false) (a' := ?_) #[true, true, true, true, true, true, true, true, true, true, true, true, true, false] rfl rfl (by kernel_rfl) (fun _ _ _ h => h) (Or.inl ⟨by rfl, ?_⟩) ?_ ?_
                · intro w'
                  go_simp
                rotate_left
                · simp only [Act.put, List.setIfInBounds_toArray, List.set_cons_zero, List.set_cons_succ, i64_w, i32_w]
                  rfl
                refine pure_ (i := 13) (N := some 12) (v := ?_) (a' := ?_) #[true, true, true, true, true, true, true, true, true, true, true, true, true, true] rfl rfl (by kernel_rfl) (fun _ _ _ h => h) (Or.inl ⟨by rfl, ?_⟩) ?_ ?_
                rotate_left
                · intro w'
                  go_simp
                  with_reducible rfl
                rotate_left
                · simp only [Act.put, List.setIfInBounds_toArray, List.set_cons_zero, List.set_cons_succ, i64_w, i32_w]
                  rfl
                refine done_ (by kernel_rfl) ?_
                clear m0_ m1_ m2_
                go_wp2_with fail
                go_meet
                exact ⟨rfl, HP, HV, HM, H9, H10, HK⟩
            · have e1_ : decide ((P : Int) < (its.length : Int)) = false := decide_eq_false (by omega)
              obtain rfl : B = false := by rw [HBB.out]; exact isIn_end (by rw [← HPP.out]; exact h3)
              refine start_ (n := 14) (S := fun w' => True) (ds := []) #[false, false, false, false, false, false, false, false, false, false, false, false, false, false] (by kernel_rfl) rfl rfl trivial (fun hHeld => ?_)
              have hb5 := bdrew (Below.refl wc.heap.size wc)
              have n_HP := Lib.hid (HP.out.step hb5)
              have n_HV := Lib.hid (HV.out.below hb5)
              have n_HM := Lib.hid (HM.out.below hb5)
              have n_H9 := Lib.hid (H9.out.step hb5)
              have n_H10 := Lib.hid (H10.out.step hb5)
              have n_HK := Lib.hid (HK.out.trans (hb5.mono HK.out.size))
              clear hb5 HP HV HM H9 H10 HK
              have HP := n_HP
              have HV := n_HV
              have HM := n_HM
              have H9 := n_H9
              have H10 := n_H10
              have HK := n_HK
              clear n_HP n_HV n_HM n_H9 n_H10 n_HK
              generalize wc.drew = xd at *
              refine pure_ (i := 0) (N := some 73) (v := ?_) (a' := ?_) #[true, false, false, false, false, false, false, false, false, false, false, false, false, false] rfl rfl (by kernel_rfl) (fun _ _ _ h => h) (Or.inl ⟨by rfl, ?_⟩) ?_ ?_
              rotate_left
              · intro w'
                go_simp
                with_reducible rfl
              rotate_left
              · simp only [Act.put, List.setIfInBounds_toArray, List.set_cons_zero, List.set_cons_succ, i64_w, i32_w]
                rfl
              refine pure_ (i := 1) (N := some 74) (v := ?_) (a' := ?_) #[true, true, false, false, false, false, false, false, false, false, false, false, false, false] rfl rfl (by kernel_rfl) (fun _ _ _ h => h) (Or.inl ⟨by rfl, ?_⟩) ?_ ?_
              rotate_left
              · intro w'
                go_simp
                with_reducible rfl
              rotate_left
              · simp only [Act.put, List.setIfInBounds_toArray, List.set_cons_zero, List.set_cons_succ, i64_w, i32_w]
                rfl
              refine pure_ (i := 2) (N := some 75) (v := ?_) (a' := ?_) #[true, true, true, false, false, false, false, false, false, false, false, false, false, false] rfl rfl (by kernel_rfl) (fun _ _ _ h => h) (Or.inl ⟨by rfl, ?_⟩) ?_ ?_
              rotate_left
              · intro w'
                go_simp
                with_reducible rfl
              rotate_left
              · simp only [Act.put, List.setIfInBounds_toArray, List.set_cons_zero, List.set_cons_succ, i64_w, i32_w]
                rfl
              refine pure_ (i := 3) (N := some 76) (v := .bool false) (a' := ?_) #[true, true, true, true, false, false, false, false, false, false, false, false, false, false] rfl rfl (by kernel_rfl) (fun _ _ _ h => h) (Or.inl ⟨by rfl, ?_⟩) ?_ ?_
              · intro w'
                go_simp; try simp [e1_]; try omega
              rotate_left
              · simp only [Act.put, List.setIfInBounds_toArray, List.set_cons_zero, List.set_cons_succ, i64_w, i32_w]
                rfl
              refine pure_ (i := 4) (N := some 77) (v := .bool false) (a' := ?_) #[true, true, true, true, true, false, false, false, false, false, false, false, false, false] rfl rfl (by kernel_rfl) (fun _ _ _ h => h) (Or.inl ⟨by rfl, ?_⟩) ?_ ?_
              · intro w'
                go_simp
              rotate_left
              · simp only [Act.put, List.setIfInBounds_toArray, List.set_cons_zero, List.set_cons_succ, i64_w, i32_w]
                rfl
              refine pure_ (i := 5) (N := some 78) (v := undef) (a' := ?_) #[true, true, true, true, true, true, false, false, false, false, false, false, false, false] rfl rfl (by kernel_rfl) (fun _ _ _ h => h) (Or.inr ⟨by rfl, rfl⟩) ?_ ?_
              rotate_left
              · simp only [Act.put, List.setIfInBounds_toArray, List.set_cons_zero, List.set_cons_succ, i64_w, i32_w]
                rfl
              refine pure_ (i := 6) (N := some 79) (v := undef) (a' := ?_) #[true, true, true, true, true, true, true, false, false, false, false, false, false, false] rfl rfl (by kernel_rfl) (fun _ _ _ h => h) (Or.inr ⟨by rfl, rfl⟩) ?_ ?_
              rotate_left
              · simp only [Act.put, List.setIfInBounds_toArray, List.set_cons_zero, List.set_cons_succ, i64_w, i32_w]
                rfl
              refine pure_ (i := 7) (N := some 80) (v := undef) (a' := ?_) #[true, true, true, true, true, true, true, true, false, false, false, false, false, false] rfl rfl (by kernel_rfl) (fun _ _ _ h => h) (Or.inr ⟨by rfl, rfl⟩) ?_ ?_
              rotate_left
              · simp only [Act.put, List.setIfInBounds_toArray, List.set_cons_zero, List.set_cons_succ, i64_w, i32_w]
                rfl
              refine pure_ (i := 8) (N := some 81) (v := undef) (a' := ?_) #[true, true, true, true, true, true, true, true, true, false, false, false, false, false] rfl rfl (by kernel_rfl) (fun _ _ _ h => h) (Or.inr ⟨by rfl, rfl⟩) ?_ ?_
              rotate_left
              · simp only [Act.put, List.setIfInBounds_toArray, List.set_cons_zero, List.set_cons_succ, i64_w, i32_w]
                rfl
              refine pure_ (i := 9) (N := some 82) (v := undef) (a' := ?_) #[true, true, true, true, true, true, true, true, true, true, false, false, false, false] rfl rfl (by kernel_rfl) (fun _ _ _ h => h) (Or.inr ⟨by rfl, rfl⟩) ?_ ?_
              rotate_left
              · simp only [Act.put, List.setIfInBounds_toArray, List.set_cons_zero, List.set_cons_succ, i64_w, i32_w]
                rfl
              refine pure_ (i := 10) (N := some 83) (v := undef) (a' := ?_) #[true, true, true, true, true, true, true, true, true, true, true, false, false, false] rfl rfl (by kernel_rfl) (fun _ _ _ h => h) (Or.inr ⟨by rfl, rfl⟩) ?_ ?_
              rotate_left
              · simp only [Act.put, List.setIfInBounds_toArray, List.set_cons_zero, List.set_cons_succ, i64_w, i32_w]
                rfl
              refine pure_ (i := 11) (N := some 84) (v := undef) (a' := ?_) #[true, true, true, true, true, true, true, true, true, true, true, true, false, false] rfl rfl (by kernel_rfl) (fun _ _ _ h => h) (Or.inr ⟨by rfl, rfl⟩) ?_ ?_
              rotate_left
              · simp only [Act.put, List.setIfInBounds_toArray, List.set_cons_zero, List.set_cons_succ, i64_w, i32_w]
                rfl
              refine pure_ (i := 12) (N := some 85) (v := ?_) (a' := ?_) #[true, true, true, true, true, true, true, true, true, true, true, true, true, false] rfl rfl (by kernel_rfl) (fun _ _ _ h => h) (Or.inl ⟨by rfl, ?_⟩) ?_ ?_
              rotate_left
              · intro w'
                go_simp
                with_reducible rfl
              rotate_left
              · simp only [Act.put, List.setIfInBounds_toArray, List.set_cons_zero, List.set_cons_succ, i64_w, i32_w]
                rfl
              refine pure_ (i := 13) (N := some 12) (v := ?_) (a' := ?_) #[true, true, true, true, true, true, true, true, true, true, true, true, true, true] rfl rfl (by kernel_rfl) (fun _ _ _ h => h) (Or.inl ⟨by rfl, ?_⟩) ?_ ?_
              rotate_left
              · intro w'
                go_simp
                with_reducible rfl
              rotate_left
              · simp only [Act.put, List.setIfInBounds_toArray, List.set_cons_zero, List.set_cons_succ, i64_w, i32_w]
                rfl
              refine done_ (by kernel_rfl) ?_
              go_wp2_with fail
              go_meet
              exact ⟨rfl, HP, HV, HM, H9, H10, HK⟩
        case rest =>
        clear HP HV HM H9 H10 HK
        obtain ⟨rfl, HP, HV, HM, H9, H10, HK⟩ := hcut
        go_upto_region 15 with (first | (with_reducible refine isLoadN 43 (.tmp 10) ?_; with_unfolding_all refine wpList_load_row rfl 43 (.tmp 10) rfl g10 (by kernel_rfl) 43 #[.string xk, .int .u32 ap, .int .i64 xs] (0, 0) _ H10.out Try.underlying43 rfl (by kernel_rfl) ?_) | (go_at_call 18; refine (find_I HM.out HL.out.sorted (by omega) xk ap xs).mono ?_; rintro e w7 ⟨rfl, hb5⟩; rw [← HPP.out, ← HBB.out]; have n_HP := Lib.hid (HP.out.step hb5); have n_HV := Lib.hid (HV.out.below hb5); have n_HM := Lib.hid (HM.out.below hb5); have n_H9 := Lib.hid (H9.out.step hb5); have n_H10 := Lib.hid (H10.out.step hb5); have n_HK := Lib.hid (HK.out.trans (hb5.mono HK.out.size)); clear hb5 HP HV HM H9 H10 HK; have HP := n_HP; have HV := n_HV; have HM := n_HM; have H9 := n_H9; have H10 := n_H10; have HK := n_HK; clear n_HP n_HV n_HM n_H9 n_H10 n_HK))
        go_upto_region 17 with (first | (with_reducible refine isGuarded ?_; refine guardOn (by with_unfolding_all rfl) ?_; intro _ _) | (with_reducible refine isGuarded ?_; refine guardOff (by with_unfolding_all rfl) rfl ?_) | (rw [run_neq_bool _ _ _ _ Try.underlying4]))
        go_upto_region 18 with (first | (with_reducible refine isStoreN 38 (.tmp 15) (.tmp 100) ?_; with_unfolding_all refine wpList_store_row rfl 38 (.tmp 15) (.tmp 100) rfl w7.heap.size #[.int .i64 0, .int .i64 0, .string ⟨#[]⟩, .string ⟨#[]⟩] (by kernel_rfl) (by kernel_rfl) 38 #[.int .i64 0, .int .i64 0, .string ⟨#[]⟩, .string ⟨#[]⟩] (Blk.new w7 38 #[.int .i64 0, .int .i64 0, .string ⟨#[]⟩, .string ⟨#[]⟩]) (by kernel_rfl) rfl (by simp [Value.oneCell']) ?_))
        have HNP15 := Lib.hid (Nat.ne_of_lt HP.out.lt)
        have HN915 := Lib.hid (Nat.ne_of_lt H9.out.lt)
        have HN1015 := Lib.hid (Nat.ne_of_lt H10.out.lt)
        have HG15b := Lib.hid HK.out.size
        have HG915 := Lib.hid (Nat.le_of_lt H9.out.lt)
        have hB := Lib.hid (blk_setRow (cs' := #[.int .i64 0, .int .i64 0, .string ⟨#[]⟩, .string ⟨#[]⟩]) (Blk.new w7 38 #[.int .i64 0, .int .i64 0, .string ⟨#[]⟩, .string ⟨#[]⟩]))
        have hb5 := setRow_below (balloc (Below.refl w7.heap.size w7) (.cells #[.int .i64 0, .int .i64 0, .string ⟨#[]⟩, .string ⟨#[]⟩] 38)) (Nat.le_refl w7.heap.size) #[.int .i64 0, .int .i64 0, .string ⟨#[]⟩, .string ⟨#[]⟩]
        have n_HP := Lib.hid (HP.out.step hb5)
        have n_HV := Lib.hid (HV.out.below hb5)
        have n_HM := Lib.hid (HM.out.below hb5)
        have n_H9 := Lib.hid (H9.out.step hb5)
        have n_H10 := Lib.hid (H10.out.step hb5)
        have n_HK := Lib.hid (HK.out.trans (hb5.mono HK.out.size))
        clear hb5 HP HV HM H9 H10 HK
        have HP := n_HP
        have HV := n_HV
        have HM := n_HM
        have H9 := n_H9
        have H10 := n_H10
        have HK := n_HK
        clear n_HP n_HV n_HM n_H9 n_H10 n_HK
        generalize ((w7.alloc (.cells #[.int .i64 0, .int .i64 0, .string ⟨#[]⟩, .string ⟨#[]⟩] 38)).setRow w7.heap.size #[.int .i64 0, .int .i64 0, .string ⟨#[]⟩, .string ⟨#[]⟩]) = w8 at *
        generalize w7.heap.size = g15 at *
        have H15 := hB
        clear hB
        obtain ⟨i0, hi0, hz0, hz1, hz2⟩ := info_partsI infoIT
        go_upto_region 19 with (first | (at_builtin; refine wpList_append_own _ rfl _ _ 51 rfl w8.heap.size 47 i0 _ 4 40 Try.underlying51 hi0 hz0 hz1 hz2 rfl (by decide) (.slice (some ⟨w8.heap.size, 0, none⟩) 0 0) 0 [] rfl (own_of_blk (base := w8.heap.size) (size := 4) (n := 0) (Blk.new w8 47 #[]) (Nat.le_refl _) rfl (by decide)) ⟨mb, mo, none⟩ its.length mc (its.map It.cells).flatten rfl (flat_len its) (RowsI.below HM.out (balloc (Below.refl w8.heap.size w8) _)).news (flat_one its) (by unfold maxLen; omega) (by omega) (by simp) ?_; intro v9 w9 ho9 hg9 hn9))
        rw [Nat.zero_add, List.nil_append] at ho9
        have hb5 := (balloc (Below.refl w8.heap.size w8) (.cells #[] 47)).grown hg9 (by simp) (fun k e => by cases e; exact Nat.le_refl _)
        have hf9 : ∃ kg kc, v9 = .slice (some ⟨kg, 0, none⟩) its.length kc := by
          rcases ho9.2 with ⟨e, h0⟩ | ⟨g, cap, cur, e, _⟩
          · exact absurd (hn9.1 e).1 (by simp)
          · exact ⟨g, cap, e⟩
        obtain ⟨kg, kc, rfl⟩ := hf9
        have HO := Lib.hid ho9
        have HG15k := Lib.hid (Nat.le_of_lt H15.out.lt)
        clear hg9 hn9 ho9
        have HKgk := Lib.hid (show its.length ≤ kc from own_cap HO.out)
        have n_HP := Lib.hid (HP.out.step hb5)
        have n_HV := Lib.hid (HV.out.below hb5)
        have n_HM := Lib.hid (HM.out.below hb5)
        have n_H9 := Lib.hid (H9.out.step hb5)
        have n_H10 := Lib.hid (H10.out.step hb5)
        have n_HK := Lib.hid (HK.out.trans (hb5.mono HK.out.size))
        have n_H15 := Lib.hid (H15.out.step hb5)
        clear hb5 HP HV HM H9 H10 HK H15
        have HP := n_HP
        have HV := n_HV
        have HM := n_HM
        have H9 := n_H9
        have H10 := n_H10
        have HK := n_HK
        have H15 := n_H15
        clear n_HP n_HV n_HM n_H9 n_H10 n_HK n_H15
        generalize w8.heap.size = gk at *
        clear hi0 hz0 hz1 hz2
        have z0_ := H9.out.cell 0
        go_upto_block 4 with fail
        clear z0_
        go_cut [16, 17, 18] from 106 to 186 (fun wv fv kv wx => ∃ (its2 : List It) (kb ko kc2 : Nat) (fi qk qa : Int) (qs qo : ByteArray), wv = .int .i64 fi ∧ fv = .int .i64 fi ∧ kv = .slice (some ⟨kb, ko, none⟩) its2.length kc2 ∧ its2.length ≤ kc2 ∧ Hid (Blk wx g15 38 #[.int .i64 qk, .int .i64 qa, .string qs, .string qo]) ∧ Hid (RowsI wx (gp + 1) wx.heap.size kb ko its2) ∧ Hid (ActR its lsn hd ak an fi qk qa qs qo its2) ∧ Hid (Blk wx gp 28 #[.int .u32 3, .int .u64 lsn, .int .i64 3, .string (HD hd), Vp]) ∧ Hid (OwnP wx w.heap.size Vp (List.map slotOf its)) ∧ Hid (RowsI wx (gp + 1) g9 mb mo its) ∧ Hid (Blk wx g9 53 #[.int .i64 ak, .int .i64 an, .string ay, .int .u32 ap, .int .i64 as_, .bool al]) ∧ Hid (Blk wx g10 43 #[.string xk, .int .u32 ap, .int .i64 xs]) ∧ Hid (Below w.heap.size w wx))
        case first =>
          have hg9k : gp + 1 ≤ gk := by have h1_ := HG9.out; have h2_ := HG915.out; have h3_ := HG15k.out; omega
          have HLO := Lib.hid hg9k
          clear hg9k
          rcases (show ak = 3 ∨ (ak ≠ 3 ∧ ak = 4) ∨ (ak ≠ 3 ∧ ak ≠ 4 ∧ ak = 5) ∨ (ak ≠ 3 ∧ ak ≠ 4 ∧ ak ≠ 5) from by omega) with q3 | ⟨_, q4⟩ | ⟨_, _, q5⟩ | ⟨q3, q4, q5⟩
          · subst q3
            have z5_ := H9.out.cell 5
            go_upto_region 25 with fail
            rcases (show B = true ∨ B = false from by cases B <;> simp) with hB | hB
            · subst hB
              as_aux_lemma =>
                have HTY := Lib.hid (show P < its.length ∧ ∀ h : P < its.length, ∃ yl, (its[P]'h) = ⟨xk, ap, xs, yl⟩ ∧ PNe.node_Turn.f 200 3 lsn 3 (HD hd) (its.map slotOf) xk ap xs al = some ((4 : Int), (P : Int), slotOf (⟨xk, ap, xs, al⟩ : It), slotOf its[P], (0 : Int)) ∧ apR 3 lsn 3 (HD hd) (its.map slotOf) 4 P (slotOf (⟨xk, ap, xs, al⟩ : It)) (slotOf its[P]) 2 = (3, 2, 3, HD hd, (its.set P (⟨xk, ap, xs, al⟩ : It)).map slotOf, 0) ∧ LeafS (its.set P (⟨xk, ap, xs, al⟩ : It)) from by
                  obtain ⟨h1_, h2_⟩ := isIn_lt HBB.out.symm
                  have h3_ := HPP.out
                  subst h3_
                  exact ⟨h1_, fun h => ⟨its[pos its (xk, ap, xs)].live, ent_eq h2_, turn_yes HL.out 3 lsn hd (⟨xk, ap, xs, al⟩ : It) (HX.out al) h1_ h2_, ap_setL HL.out h1_ (HX.out al) h2_.symm lsn hd, HL.out.set h1_ (HX.out al) h2_.symm⟩⟩)
                have hPl := HTY.out.1
                obtain ⟨yl, hye, hty, hap, hls⟩ := HTY.out.2 hPl
                clear HTY
                have HYE := Lib.hid hye
                generalize slotOf its[P] = so at *
                have HTN := Lib.hid hty
                have HAP := Lib.hid hap
                have HLS := Lib.hid hls
                clear hye hty hap hls
                go_upto_region 26 with (first | (with_reducible refine isLoadN 28 (.tmp 5) ?_; with_unfolding_all refine wpList_load_row rfl 28 (.tmp 5) rfl gp (by kernel_rfl) 28 #[.int .u32 3, .int .u64 lsn, .int .i64 3, .string (HD hd), Vp] (0, 0) _ HP.out Try.underlying28 rfl (by kernel_rfl) ?_) | (with_reducible refine isLoadN 43 (.tmp 10) ?_; with_unfolding_all refine wpList_load_row rfl 43 (.tmp 10) rfl g10 (by kernel_rfl) 43 #[.string xk, .int .u32 ap, .int .i64 xs] (0, 0) _ H10.out Try.underlying43 rfl (by kernel_rfl) ?_) | (go_at_call 19; refine (turn_any HL.out 3 lsn hd HV.out (⟨xk, ap, xs, al⟩ : It) (HX.out al) _ _ _ _ _ HTN.out).mono ?_; rintro e w10 ⟨rfl, hb5⟩; have n_HP := Lib.hid (HP.out.step hb5); have n_HV := Lib.hid (HV.out.below hb5); have n_HM := Lib.hid (HM.out.below hb5); have n_H9 := Lib.hid (H9.out.step hb5); have n_H10 := Lib.hid (H10.out.step hb5); have n_HK := Lib.hid (HK.out.trans (hb5.mono HK.out.size)); have n_H15 := Lib.hid (H15.out.step hb5); have n_HO := Lib.hid (own_below HO.out hb5); clear hb5 HP HV HM H9 H10 HK H15 HO; have HP := n_HP; have HV := n_HV; have HM := n_HM; have H9 := n_H9; have H10 := n_H10; have HK := n_HK; have H15 := n_H15; have HO := n_HO; clear n_HP n_HV n_HM n_H9 n_H10 n_HK n_H15 n_HO) | (with_reducible refine isStoreN 38 (.tmp 15) (.tmp 139) ?_; with_unfolding_all refine wpList_store_row rfl 38 (.tmp 15) (.tmp 139) rfl g15 #[.int .i64 4, .int .i64 P, .string (slotOf (⟨xk, ap, xs, al⟩ : It)), .string so] (by kernel_rfl) (by kernel_rfl) 38 #[.int .i64 0, .int .i64 0, .string ⟨#[]⟩, .string ⟨#[]⟩] H15.out rfl (by kernel_rfl) (by simp [Value.oneCell']) ?_))
                have n_HP := Lib.hid (blk_setRowL HP.out #[.int .i64 4, .int .i64 P, .string (slotOf (⟨xk, ap, xs, al⟩ : It)), .string so] HNP15.out)
                have n_HV := Lib.hid (OwnP.setRow (cs' := #[.int .i64 4, .int .i64 P, .string (slotOf (⟨xk, ap, xs, al⟩ : It)), .string so]) HV.out H15.out (by decide))
                have n_HM := Lib.hid (HM.out.setRow (.inr HG915.out) #[.int .i64 4, .int .i64 P, .string (slotOf (⟨xk, ap, xs, al⟩ : It)), .string so])
                have n_H9 := Lib.hid (blk_setRowL H9.out #[.int .i64 4, .int .i64 P, .string (slotOf (⟨xk, ap, xs, al⟩ : It)), .string so] HN915.out)
                have n_H10 := Lib.hid (blk_setRowL H10.out #[.int .i64 4, .int .i64 P, .string (slotOf (⟨xk, ap, xs, al⟩ : It)), .string so] HN1015.out)
                have n_HK := Lib.hid (setRow_below HK.out HG15b.out #[.int .i64 4, .int .i64 P, .string (slotOf (⟨xk, ap, xs, al⟩ : It)), .string so])
                have n_H15 := Lib.hid (blk_setRow (cs' := #[.int .i64 4, .int .i64 P, .string (slotOf (⟨xk, ap, xs, al⟩ : It)), .string so]) H15.out)
                have n_HO := Lib.hid (own_setRow (cs' := #[.int .i64 4, .int .i64 P, .string (slotOf (⟨xk, ap, xs, al⟩ : It)), .string so]) HO.out H15.out (by decide))
                clear HP HV HM H9 H10 HK H15 HO
                have HP := n_HP
                have HV := n_HV
                have HM := n_HM
                have H9 := n_H9
                have H10 := n_H10
                have HK := n_HK
                have H15 := n_H15
                have HO := n_HO
                clear n_HP n_HV n_HM n_H9 n_H10 n_HK n_H15 n_HO
                generalize w10.setRow g15 #[.int .i64 4, .int .i64 P, .string (slotOf (⟨xk, ap, xs, al⟩ : It)), .string so] = w11 at *
                clear z5_
                have z5_ := H9.out.cell 5
                go_upto_region 29 with fail
                have j0_ : (0 : Int) ≤ P := by omega
                have j1_ : (P : Int) < its.length := by omega
                have c3_ := HO.out.cellAt (P * 4 + 3) (by omega)
                have fz_ := HO.out.frozenAt (P * 4 + 3)
                rw [live_at hPl] at c3_
                go_wp2_with fail
                go_meet
                obtain ⟨hst, hgr⟩ := World.ownsRow.stored HO.out (P * 4 + 3) (.bool al)
                rw [live_set its P xk ap xs yl al hPl HYE.out] at hst
                have hkg := (HO.out.lt kg rfl).1
                have hg9k : g9 ≤ kg := by have h1_ := HG915.out; have h2_ := HG15k.out; omega
                have hwk : w.heap.size ≤ kg := by have h1_ := HG15b.out; have h2_ := HG15k.out; omega
                have n_P := Lib.hid (HP.out.grown hgr (fun e_ => own_ne_blk HO.out HP.out (by decide) e_.symm))
                have n_9 := Lib.hid (H9.out.grown hgr (fun e_ => own_ne_blk HO.out H9.out (by decide) e_.symm))
                have n_10 := Lib.hid (H10.out.grown hgr (fun e_ => own_ne_blk HO.out H10.out (by decide) e_.symm))
                have n_15 := Lib.hid (H15.out.grown hgr (fun e_ => own_ne_blk HO.out H15.out (by decide) e_.symm))
                have n_V := Lib.hid (OwnP.grown HV.out hgr (own_ne_own HV.out HO.out (by decide)))
                have n_M := Lib.hid (HM.out.kept hgr (fun g e => by cases e; exact .inr hg9k))
                have n_K := Lib.hid (HK.out.grown hgr HK.out.size (fun k_ e_ => by cases e_; exact hwk))
                clear HP H9 H10 H15 HV HM HK
                have HP := n_P
                have H9 := n_9
                have H10 := n_10
                have H15 := n_15
                have HV := n_V
                have HM := n_M
                have HK := n_K
                exact ⟨its.set P (⟨xk, ap, xs, al⟩ : It), kg, 0, kc, 0, 4, P, slotOf (⟨xk, ap, xs, al⟩ : It), so, rfl, rfl, (by rw [List.length_set]), (by rw [List.length_set]; exact HKgk.out), H15, Lib.hid (RowsI.mono (RowsI.of_own (c := kc) (by rw [List.length_set]; exact hst)) HLO.out (Nat.le_refl _) (Nat.le_refl _)), Lib.hid (.inr ⟨rfl, .inr ⟨hd, hhd, HAP.out, HLS.out, fun h_ => by omega⟩⟩), HP, HV, HM, H9, H10, HK⟩
            · subst hB
              as_aux_lemma =>
                have HTN := Lib.hid (turn_no HL.out 3 lsn hd (⟨xk, ap, xs, al⟩ : It) (HX.out al) (show isIn its (xk, ap, xs) = false from HBB.out.symm) al)
                go_upto_region 26 with (first | (with_reducible refine isLoadN 28 (.tmp 5) ?_; with_unfolding_all refine wpList_load_row rfl 28 (.tmp 5) rfl gp (by kernel_rfl) 28 #[.int .u32 3, .int .u64 lsn, .int .i64 3, .string (HD hd), Vp] (0, 0) _ HP.out Try.underlying28 rfl (by kernel_rfl) ?_) | (with_reducible refine isLoadN 43 (.tmp 10) ?_; with_unfolding_all refine wpList_load_row rfl 43 (.tmp 10) rfl g10 (by kernel_rfl) 43 #[.string xk, .int .u32 ap, .int .i64 xs] (0, 0) _ H10.out Try.underlying43 rfl (by kernel_rfl) ?_) | (go_at_call 19; refine (turn_any HL.out 3 lsn hd HV.out (⟨xk, ap, xs, al⟩ : It) (HX.out al) _ _ _ _ _ HTN.out).mono ?_; rintro e w10 ⟨rfl, hb5⟩; have n_HP := Lib.hid (HP.out.step hb5); have n_HV := Lib.hid (HV.out.below hb5); have n_HM := Lib.hid (HM.out.below hb5); have n_H9 := Lib.hid (H9.out.step hb5); have n_H10 := Lib.hid (H10.out.step hb5); have n_HK := Lib.hid (HK.out.trans (hb5.mono HK.out.size)); have n_H15 := Lib.hid (H15.out.step hb5); have n_HO := Lib.hid (own_below HO.out hb5); clear hb5 HP HV HM H9 H10 HK H15 HO; have HP := n_HP; have HV := n_HV; have HM := n_HM; have H9 := n_H9; have H10 := n_H10; have HK := n_HK; have H15 := n_H15; have HO := n_HO; clear n_HP n_HV n_HM n_H9 n_H10 n_HK n_H15 n_HO) | (with_reducible refine isStoreN 38 (.tmp 15) (.tmp 139) ?_; with_unfolding_all refine wpList_store_row rfl 38 (.tmp 15) (.tmp 139) rfl g15 #[.int .i64 0, .int .i64 0, .string ⟨#[]⟩, .string ⟨#[]⟩] (by kernel_rfl) (by kernel_rfl) 38 #[.int .i64 0, .int .i64 0, .string ⟨#[]⟩, .string ⟨#[]⟩] H15.out rfl (by kernel_rfl) (by simp [Value.oneCell']) ?_))
                have n_HP := Lib.hid (blk_setRowL HP.out #[.int .i64 0, .int .i64 0, .string ⟨#[]⟩, .string ⟨#[]⟩] HNP15.out)
                have n_HV := Lib.hid (OwnP.setRow (cs' := #[.int .i64 0, .int .i64 0, .string ⟨#[]⟩, .string ⟨#[]⟩]) HV.out H15.out (by decide))
                have n_HM := Lib.hid (HM.out.setRow (.inr HG915.out) #[.int .i64 0, .int .i64 0, .string ⟨#[]⟩, .string ⟨#[]⟩])
                have n_H9 := Lib.hid (blk_setRowL H9.out #[.int .i64 0, .int .i64 0, .string ⟨#[]⟩, .string ⟨#[]⟩] HN915.out)
                have n_H10 := Lib.hid (blk_setRowL H10.out #[.int .i64 0, .int .i64 0, .string ⟨#[]⟩, .string ⟨#[]⟩] HN1015.out)
                have n_HK := Lib.hid (setRow_below HK.out HG15b.out #[.int .i64 0, .int .i64 0, .string ⟨#[]⟩, .string ⟨#[]⟩])
                have n_H15 := Lib.hid (blk_setRow (cs' := #[.int .i64 0, .int .i64 0, .string ⟨#[]⟩, .string ⟨#[]⟩]) H15.out)
                have n_HO := Lib.hid (own_setRow (cs' := #[.int .i64 0, .int .i64 0, .string ⟨#[]⟩, .string ⟨#[]⟩]) HO.out H15.out (by decide))
                clear HP HV HM H9 H10 HK H15 HO
                have HP := n_HP
                have HV := n_HV
                have HM := n_HM
                have H9 := n_H9
                have H10 := n_H10
                have HK := n_HK
                have H15 := n_H15
                have HO := n_HO
                clear n_HP n_HV n_HM n_H9 n_H10 n_HK n_H15 n_HO
                generalize w10.setRow g15 #[.int .i64 0, .int .i64 0, .string ⟨#[]⟩, .string ⟨#[]⟩] = w11 at *
                go_wp2_with fail
                go_meet
                exact ⟨its, kg, 0, kc, 2, 0, 0, ⟨#[]⟩, ⟨#[]⟩, rfl, rfl, rfl, HKgk.out, H15, Lib.hid (RowsI.mono (RowsI.of_own HO.out) HLO.out (Nat.le_refl _) (Nat.le_refl _)), Lib.hid (.inl (by decide)), HP, HV, HM, H9, H10, HK⟩
          · subst q4
            have z1_ := H9.out.cell 1
            go_upto_region 31 with fail
            by_cases hin : 0 ≤ an ∧ an < (its.length : Int)
            · obtain ⟨n, hn_⟩ := Int.eq_ofNat_of_zero_le hin.1
              as_aux_lemma =>
                have hnl : n < its.length := by omega
                clear hin
                subst hn_
                have HTN := Lib.hid (take_yes 3 lsn hd hnl)
                have HAP := Lib.hid (ap_eraseL HL.out hnl lsn hd)
                have HLS := Lib.hid (HL.out.erase hnl)
                generalize slotOf its[n] = so at *
                go_upto_region 32 with (first | (with_reducible refine isLoadN 28 (.tmp 5) ?_; with_unfolding_all refine wpList_load_row rfl 28 (.tmp 5) rfl gp (by kernel_rfl) 28 #[.int .u32 3, .int .u64 lsn, .int .i64 3, .string (HD hd), Vp] (0, 0) _ HP.out Try.underlying28 rfl (by kernel_rfl) ?_) | (go_at_call 20; refine (take_any 3 lsn hd HV.out _ _ _ _ _ _ HTN.out).mono ?_; rintro e w10 ⟨rfl, hb5⟩; have n_HP := Lib.hid (HP.out.step hb5); have n_HV := Lib.hid (HV.out.below hb5); have n_HM := Lib.hid (HM.out.below hb5); have n_H9 := Lib.hid (H9.out.step hb5); have n_H10 := Lib.hid (H10.out.step hb5); have n_HK := Lib.hid (HK.out.trans (hb5.mono HK.out.size)); have n_H15 := Lib.hid (H15.out.step hb5); have n_HO := Lib.hid (own_below HO.out hb5); clear hb5 HP HV HM H9 H10 HK H15 HO; have HP := n_HP; have HV := n_HV; have HM := n_HM; have H9 := n_H9; have H10 := n_H10; have HK := n_HK; have H15 := n_H15; have HO := n_HO; clear n_HP n_HV n_HM n_H9 n_H10 n_HK n_H15 n_HO) | (with_reducible refine isStoreN 38 (.tmp 15) (.tmp 155) ?_; with_unfolding_all refine wpList_store_row rfl 38 (.tmp 15) (.tmp 155) rfl g15 #[.int .i64 3, .int .i64 n, .string ⟨#[]⟩, .string so] (by kernel_rfl) (by kernel_rfl) 38 #[.int .i64 0, .int .i64 0, .string ⟨#[]⟩, .string ⟨#[]⟩] H15.out rfl (by kernel_rfl) (by simp [Value.oneCell']) ?_))
                have n_HP := Lib.hid (blk_setRowL HP.out #[.int .i64 3, .int .i64 n, .string ⟨#[]⟩, .string so] HNP15.out)
                have n_HV := Lib.hid (OwnP.setRow (cs' := #[.int .i64 3, .int .i64 n, .string ⟨#[]⟩, .string so]) HV.out H15.out (by decide))
                have n_HM := Lib.hid (HM.out.setRow (.inr HG915.out) #[.int .i64 3, .int .i64 n, .string ⟨#[]⟩, .string so])
                have n_H9 := Lib.hid (blk_setRowL H9.out #[.int .i64 3, .int .i64 n, .string ⟨#[]⟩, .string so] HN915.out)
                have n_H10 := Lib.hid (blk_setRowL H10.out #[.int .i64 3, .int .i64 n, .string ⟨#[]⟩, .string so] HN1015.out)
                have n_HK := Lib.hid (setRow_below HK.out HG15b.out #[.int .i64 3, .int .i64 n, .string ⟨#[]⟩, .string so])
                have n_H15 := Lib.hid (blk_setRow (cs' := #[.int .i64 3, .int .i64 n, .string ⟨#[]⟩, .string so]) H15.out)
                have n_HO := Lib.hid (own_setRow (cs' := #[.int .i64 3, .int .i64 n, .string ⟨#[]⟩, .string so]) HO.out H15.out (by decide))
                clear HP HV HM H9 H10 HK H15 HO
                have HP := n_HP
                have HV := n_HV
                have HM := n_HM
                have H9 := n_H9
                have H10 := n_H10
                have HK := n_HK
                have H15 := n_H15
                have HO := n_HO
                clear n_HP n_HV n_HM n_H9 n_H10 n_HK n_H15 n_HO
                generalize w10.setRow g15 #[.int .i64 3, .int .i64 n, .string ⟨#[]⟩, .string so] = w11 at *
                clear z1_
                have z1_ := H9.out.cell 1
                have f1_ : decide ((n : Int) ≥ 0) = true := decide_eq_true (by omega)
                have f2_ : decide (0 ≤ (n : Int)) = true := decide_eq_true (by omega)
                have f3_ : decide ((n : Int) < (its.length : Int)) = true := decide_eq_true (by omega)
                have f4_ : decide (n < its.length) = true := decide_eq_true (by omega)
                go_upto_region 35 with (first | (with_reducible refine isGuarded ?_; refine guardOn (by with_unfolding_all rfl) ?_; intro _ _))
                clear f1_ f2_ f3_ f4_ z1_
                obtain ⟨tl, htl, htn⟩ := tail_at (kg := kg) (kc := kc) (n := n) (m := its.length) HKgk.out
                have n0_ : (0 : Int) ≤ n := by omega
                have n1_ : (n : Int) < its.length := by omega
                have hkc := HKgk.out
                have z1_ : w11.cell? ⟨g9, 1, none⟩ = some (.int .i64 n) := H9.out.cell 1
                refine start_ (n := 13) (S := fun w' => w'.cell? ⟨g9, 1, none⟩ = some (.int .i64 n)) (ds := []) #[false, false, false, false, false, false, false, false, false, false, false, false, false] (by kernel_rfl) rfl rfl z1_ (fun hHeld => ?_)
                have hb5 := bdrew (Below.refl w11.heap.size w11)
                have n_HP := Lib.hid (HP.out.step hb5)
                have n_HV := Lib.hid (HV.out.below hb5)
                have n_HM := Lib.hid (HM.out.below hb5)
                have n_H9 := Lib.hid (H9.out.step hb5)
                have n_H10 := Lib.hid (H10.out.step hb5)
                have n_HK := Lib.hid (HK.out.trans (hb5.mono HK.out.size))
                have n_H15 := Lib.hid (H15.out.step hb5)
                have n_HO := Lib.hid (own_below HO.out hb5)
                clear hb5 HP HV HM H9 H10 HK H15 HO
                have HP := n_HP
                have HV := n_HV
                have HM := n_HM
                have H9 := n_H9
                have H10 := n_H10
                have HK := n_HK
                have H15 := n_H15
                have HO := n_HO
                clear n_HP n_HV n_HM n_H9 n_H10 n_HK n_H15 n_HO
                generalize w11.drew = xd at *
                clear z1_
                have z1_ : xd.cell? ⟨g9, 1, none⟩ = some (.int .i64 n) := H9.out.cell 1
                refine pure_ (i := 0) (N := some 167) (v := ?_) (a' := ?_) #[true, false, false, false, false, false, false, false, false, false, false, false, false] rfl rfl (by kernel_rfl) (fun _ _ _ h => h) (Or.inl ⟨by rfl, ?_⟩) ?_ ?_
                rotate_left
                · intro w'
                  go_simp
                  with_reducible rfl
                rotate_left
                · simp only [Act.put, List.setIfInBounds_toArray, List.set_cons_zero, List.set_cons_succ, i64_w, i32_w]
                  rfl
                refine pure_ (i := 1) (N := some 168) (v := ?_) (a' := ?_) #[true, true, false, false, false, false, false, false, false, false, false, false, false] rfl rfl (by kernel_rfl) (fun _ _ _ h => h) (Or.inl ⟨by rfl, ?_⟩) ?_ ?_
                rotate_left
                · intro w'
                  go_simp
                  with_reducible rfl
                rotate_left
                · simp only [Act.put, List.setIfInBounds_toArray, List.set_cons_zero, List.set_cons_succ, i64_w, i32_w]
                  rfl
                refine pure_ (i := 3) (N := some 170) (v := ?_) (a' := ?_) #[true, true, false, true, false, false, false, false, false, false, false, false, false] rfl rfl (by kernel_rfl) (fun _ _ _ h => h) (Or.inl ⟨by rfl, ?_⟩) ?_ ?_
                rotate_left
                · intro w'
                  go_simp
                  with_reducible rfl
                rotate_left
                · simp only [Act.put, List.setIfInBounds_toArray, List.set_cons_zero, List.set_cons_succ, i64_w, i32_w]
                  rfl
                refine pure_ (i := 6) (N := some 173) (v := ?_) (a' := ?_) #[true, true, false, true, false, false, true, false, false, false, false, false, false] rfl rfl (by kernel_rfl) (fun _ _ _ h => h) (Or.inl ⟨by rfl, ?_⟩) ?_ ?_
                rotate_left
                · intro w'
                  go_simp
                  with_reducible rfl
                rotate_left
                · simp only [Act.put, List.setIfInBounds_toArray, List.set_cons_zero, List.set_cons_succ, i64_w, i32_w]
                  rfl
                refine pure_ (i := 7) (N := some 174) (v := ?_) (a' := ?_) #[true, true, false, true, false, false, true, true, false, false, false, false, false] rfl rfl (by kernel_rfl) (fun _ _ _ h => h) (Or.inl ⟨by rfl, ?_⟩) ?_ ?_
                rotate_left
                · intro w'
                  go_simp
                  with_reducible rfl
                rotate_left
                · simp only [Act.put, List.setIfInBounds_toArray, List.set_cons_zero, List.set_cons_succ, i64_w, i32_w]
                  rfl
                refine take_ (i := 2) (N := some 169) (v := ?_) (a' := ?_) #[true, true, true, true, false, false, true, true, false, false, false, false, false] rfl rfl (by kernel_rfl) (fun _ _ _ h => h) (Or.inl ⟨by rfl, ?_⟩) hHeld ?_ ?_
                rotate_left
                · rintro w' s0
                  go_simp
                  with_reducible rfl
                rotate_left
                · simp only [Act.put, List.setIfInBounds_toArray, List.set_cons_zero, List.set_cons_succ, i64_w, i32_w]
                  rfl
                refine take_ (i := 4) (N := some 171) (v := ?_) (a' := ?_) #[true, true, true, true, true, false, true, true, false, false, false, false, false] rfl rfl (by kernel_rfl) (fun _ _ _ h => h) (Or.inl ⟨by rfl, ?_⟩) hHeld ?_ ?_
                rotate_left
                · rintro w' s0
                  go_simp
                  with_reducible rfl
                rotate_left
                · simp only [Act.put, List.setIfInBounds_toArray, List.set_cons_zero, List.set_cons_succ, i64_w, i32_w]
                  rfl
                refine pure_ (i := 5) (N := some 172) (v := .slice (some ⟨kg, 0, none⟩) n n) (a' := ?_) #[true, true, true, true, true, true, true, true, false, false, false, false, false] rfl rfl (by kernel_rfl) (fun _ _ _ h => h) (Or.inl ⟨by rfl, ?_⟩) ?_ ?_
                · intro w'
                  go_simp; intro h_; omega
                rotate_left
                · simp only [Act.put, List.setIfInBounds_toArray, List.set_cons_zero, List.set_cons_succ, i64_w, i32_w]
                  rfl
                refine take_ (i := 8) (N := some 175) (v := ?_) (a' := ?_) #[true, true, true, true, true, true, true, true, true, false, false, false, false] rfl rfl (by kernel_rfl) (fun _ _ _ h => h) (Or.inl ⟨by rfl, ?_⟩) hHeld ?_ ?_
                rotate_left
                · rintro w' s0
                  go_simp
                  with_reducible rfl
                rotate_left
                · simp only [Act.put, List.setIfInBounds_toArray, List.set_cons_zero, List.set_cons_succ, i64_w, i32_w]
                  rfl
                refine pure_ (i := 9) (N := some 176) (v := .int .i64 ((n : Int) + 1)) (a' := ?_) #[true, true, true, true, true, true, true, true, true, true, false, false, false] rfl rfl (by kernel_rfl) (fun _ _ _ h => h) (Or.inl ⟨by rfl, ?_⟩) ?_ ?_
                · intro w'
                  go_simp; rw [IntKind.wrap_i64]; omega
                rotate_left
                · simp only [Act.put, List.setIfInBounds_toArray, List.set_cons_zero, List.set_cons_succ, i64_w, i32_w]
                  rfl
                refine pure_ (i := 10) (N := some 177) (v := .slice (some tl) (its.length - (n + 1)) (kc - (n + 1))) (a' := ?_) #[true, true, true, true, true, true, true, true, true, true, true, false, false] rfl rfl (by kernel_rfl) (fun _ _ _ h => h) (Or.inl ⟨by rfl, ?_⟩) ?_ ?_
                · intro w'
                  go_simp; intro h_; have h2_ := h_ (by omega); omega
                rotate_left
                · simp only [Act.put, List.setIfInBounds_toArray, List.set_cons_zero, List.set_cons_succ, i64_w, i32_w]
                  rfl
                refine one_ (i := 11) (N := some 178) #[true, true, true, true, true, true, true, true, true, true, true, true, false] rfl rfl (by kernel_rfl) (by decide) (fun K hK => ?_)
                clear hHeld
                refine cut_step rfl (.tmp 172) (.tmp 177) rfl (RowsI.of_own HO.out) (by omega) n hnl rfl tl htn (by rfl) ?_
                intro kb ko kc2 x3 hR_ hcap_ hg_
                have hb5 : Below xd.heap.size xd x3 := ⟨hg_.os, hg_.tape, hg_.output, hg_.size, fun k_ hk_ => hg_.block k_ hk_ (by simp)⟩
                have HR := Lib.hid (hR_.mono HLO.out (Nat.le_refl _) (Nat.le_refl _))
                clear hR_ hg_
                have n_HP := Lib.hid (HP.out.step hb5)
                have n_HV := Lib.hid (HV.out.below hb5)
                have n_HM := Lib.hid (HM.out.below hb5)
                have n_H9 := Lib.hid (H9.out.step hb5)
                have n_H10 := Lib.hid (H10.out.step hb5)
                have n_HK := Lib.hid (HK.out.trans (hb5.mono HK.out.size))
                have n_H15 := Lib.hid (H15.out.step hb5)
                clear hb5 HP HV HM H9 H10 HK H15
                have HP := n_HP
                have HV := n_HV
                have HM := n_HM
                have H9 := n_H9
                have H10 := n_H10
                have HK := n_HK
                have H15 := n_H15
                clear n_HP n_HV n_HM n_H9 n_H10 n_HK n_H15
                clear z1_
                have z1_ : x3.cell? ⟨g9, 1, none⟩ = some (.int .i64 n) := H9.out.cell 1
                refine hK.out _ _ z1_ (fun hHeld => ?_)
                clear hK K
                refine norm_ (a' := ?_) ?_ ?_
                rotate_left
                · show Act.put _ (some 178) _ = _
                  simp only [Act.put, List.setIfInBounds_toArray, List.set_cons_zero, List.set_cons_succ]
                  rfl
                refine pure_ (i := 12) (N := some 18) (v := ?_) (a' := ?_) #[true, true, true, true, true, true, true, true, true, true, true, true, true] rfl rfl (by kernel_rfl) (fun _ _ _ h => h) (Or.inl ⟨by rfl, ?_⟩) ?_ ?_
                rotate_left
                · intro w'
                  go_simp
                  with_reducible rfl
                rotate_left
                · simp only [Act.put, List.setIfInBounds_toArray, List.set_cons_zero, List.set_cons_succ, i64_w, i32_w]
                  rfl
                refine done_ (by kernel_rfl) ?_
                go_wp2_with fail
                go_meet
                have hle_ : (its.eraseIdx n).length = its.length - 1 := by rw [List.length_eraseIdx, if_pos hnl]
                exact ⟨its.eraseIdx n, kb, ko, kc2, 0, 3, n, ⟨#[]⟩, so, rfl, rfl, (by rw [hle_]), (by rw [hle_]; exact hcap_), H15, Lib.hid (HR.out), Lib.hid (.inr ⟨rfl, .inr ⟨hd, hhd, HAP.out, HLS.out, fun h_ => by omega⟩⟩), HP, HV, HM, H9, H10, HK⟩
            · have hno : an < 0 ∨ (its.length : Int) ≤ an := by omega
              as_aux_lemma =>
                clear hin
                have HTN := Lib.hid (take_no 3 lsn hd (its.map slotOf) an (by rw [List.length_map]; exact hno))
                go_upto_region 32 with (first | (with_reducible refine isLoadN 28 (.tmp 5) ?_; with_unfolding_all refine wpList_load_row rfl 28 (.tmp 5) rfl gp (by kernel_rfl) 28 #[.int .u32 3, .int .u64 lsn, .int .i64 3, .string (HD hd), Vp] (0, 0) _ HP.out Try.underlying28 rfl (by kernel_rfl) ?_) | (go_at_call 20; refine (take_any 3 lsn hd HV.out _ _ _ _ _ _ HTN.out).mono ?_; rintro e w10 ⟨rfl, hb5⟩; have n_HP := Lib.hid (HP.out.step hb5); have n_HV := Lib.hid (HV.out.below hb5); have n_HM := Lib.hid (HM.out.below hb5); have n_H9 := Lib.hid (H9.out.step hb5); have n_H10 := Lib.hid (H10.out.step hb5); have n_HK := Lib.hid (HK.out.trans (hb5.mono HK.out.size)); have n_H15 := Lib.hid (H15.out.step hb5); have n_HO := Lib.hid (own_below HO.out hb5); clear hb5 HP HV HM H9 H10 HK H15 HO; have HP := n_HP; have HV := n_HV; have HM := n_HM; have H9 := n_H9; have H10 := n_H10; have HK := n_HK; have H15 := n_H15; have HO := n_HO; clear n_HP n_HV n_HM n_H9 n_H10 n_HK n_H15 n_HO) | (with_reducible refine isStoreN 38 (.tmp 15) (.tmp 155) ?_; with_unfolding_all refine wpList_store_row rfl 38 (.tmp 15) (.tmp 155) rfl g15 #[.int .i64 0, .int .i64 0, .string ⟨#[]⟩, .string ⟨#[]⟩] (by kernel_rfl) (by kernel_rfl) 38 #[.int .i64 0, .int .i64 0, .string ⟨#[]⟩, .string ⟨#[]⟩] H15.out rfl (by kernel_rfl) (by simp [Value.oneCell']) ?_))
                have n_HP := Lib.hid (blk_setRowL HP.out #[.int .i64 0, .int .i64 0, .string ⟨#[]⟩, .string ⟨#[]⟩] HNP15.out)
                have n_HV := Lib.hid (OwnP.setRow (cs' := #[.int .i64 0, .int .i64 0, .string ⟨#[]⟩, .string ⟨#[]⟩]) HV.out H15.out (by decide))
                have n_HM := Lib.hid (HM.out.setRow (.inr HG915.out) #[.int .i64 0, .int .i64 0, .string ⟨#[]⟩, .string ⟨#[]⟩])
                have n_H9 := Lib.hid (blk_setRowL H9.out #[.int .i64 0, .int .i64 0, .string ⟨#[]⟩, .string ⟨#[]⟩] HN915.out)
                have n_H10 := Lib.hid (blk_setRowL H10.out #[.int .i64 0, .int .i64 0, .string ⟨#[]⟩, .string ⟨#[]⟩] HN1015.out)
                have n_HK := Lib.hid (setRow_below HK.out HG15b.out #[.int .i64 0, .int .i64 0, .string ⟨#[]⟩, .string ⟨#[]⟩])
                have n_H15 := Lib.hid (blk_setRow (cs' := #[.int .i64 0, .int .i64 0, .string ⟨#[]⟩, .string ⟨#[]⟩]) H15.out)
                have n_HO := Lib.hid (own_setRow (cs' := #[.int .i64 0, .int .i64 0, .string ⟨#[]⟩, .string ⟨#[]⟩]) HO.out H15.out (by decide))
                clear HP HV HM H9 H10 HK H15 HO
                have HP := n_HP
                have HV := n_HV
                have HM := n_HM
                have H9 := n_H9
                have H10 := n_H10
                have HK := n_HK
                have H15 := n_H15
                have HO := n_HO
                clear n_HP n_HV n_HM n_H9 n_H10 n_HK n_H15 n_HO
                generalize w10.setRow g15 #[.int .i64 0, .int .i64 0, .string ⟨#[]⟩, .string ⟨#[]⟩] = w11 at *
                clear z1_
                have z1_ := H9.out.cell 1
                rcases (show an < 0 ∨ (0 ≤ an ∧ (its.length : Int) ≤ an) from by omega) with h1_ | ⟨h1_, h2_⟩
                · have f1_ : decide (an ≥ 0) = false := decide_eq_false (by omega)
                  have f2_ : decide (0 ≤ an) = false := decide_eq_false (by omega)
                  clear h1_ hno
                  go_wp2_with (first | (with_reducible refine isGuarded ?_; refine guardOn (by with_unfolding_all rfl) ?_; intro _ _) | (with_reducible refine isGuarded ?_; refine guardOff (by with_unfolding_all rfl) rfl ?_))
                  go_meet
                  exact ⟨its, kg, 0, kc, 2, 0, 0, ⟨#[]⟩, ⟨#[]⟩, rfl, rfl, rfl, HKgk.out, H15, Lib.hid (RowsI.mono (RowsI.of_own HO.out) HLO.out (Nat.le_refl _) (Nat.le_refl _)), Lib.hid (.inl (by decide)), HP, HV, HM, H9, H10, HK⟩
                · have f1_ : decide (an ≥ 0) = true := decide_eq_true (by omega)
                  have f2_ : decide (0 ≤ an) = true := decide_eq_true (by omega)
                  have f3_ : decide (an < (its.length : Int)) = false := decide_eq_false (by omega)
                  clear h1_ h2_ hno
                  go_wp2_with (first | (with_reducible refine isGuarded ?_; refine guardOn (by with_unfolding_all rfl) ?_; intro _ _) | (with_reducible refine isGuarded ?_; refine guardOff (by with_unfolding_all rfl) rfl ?_))
                  go_meet
                  exact ⟨its, kg, 0, kc, 2, 0, 0, ⟨#[]⟩, ⟨#[]⟩, rfl, rfl, rfl, HKgk.out, H15, Lib.hid (RowsI.mono (RowsI.of_own HO.out) HLO.out (Nat.le_refl _) (Nat.le_refl _)), Lib.hid (.inl (by decide)), HP, HV, HM, H9, H10, HK⟩
          · subst q5
            as_aux_lemma =>
              have z1_ := H9.out.cell 1
              go_upto_region 37 with fail
              obtain ⟨n5, hn5, hn5l⟩ := and12 an
              have hcv_ : IntKind.u32.wrap (n5 : Int) = (n5 : Int) := by rw [IntKind.wrap_u32]; omega
              go_wp2_with (first | (with_reducible refine isLoadN 28 (.tmp 5) ?_; with_unfolding_all refine wpList_load_row rfl 28 (.tmp 5) rfl gp (by kernel_rfl) 28 #[.int .u32 3, .int .u64 lsn, .int .i64 3, .string (HD hd), Vp] (0, 0) _ HP.out Try.underlying28 rfl (by kernel_rfl) ?_) | (go_at_call 21; (try simp only [hn5, hcv_]); refine (link_any 3 lsn hd n5 (by omega) HV.out).mono ?_; rintro e w10 ⟨rfl, hb5⟩; have n_HP := Lib.hid (HP.out.step hb5); have n_HV := Lib.hid (HV.out.below hb5); have n_HM := Lib.hid (HM.out.below hb5); have n_H9 := Lib.hid (H9.out.step hb5); have n_H10 := Lib.hid (H10.out.step hb5); have n_HK := Lib.hid (HK.out.trans (hb5.mono HK.out.size)); have n_H15 := Lib.hid (H15.out.step hb5); have n_HO := Lib.hid (own_below HO.out hb5); clear hb5 HP HV HM H9 H10 HK H15 HO; have HP := n_HP; have HV := n_HV; have HM := n_HM; have H9 := n_H9; have H10 := n_H10; have HK := n_HK; have H15 := n_H15; have HO := n_HO; clear n_HP n_HV n_HM n_H9 n_H10 n_HK n_H15 n_HO) | (with_reducible refine isStoreN 38 (.tmp 15) (.tmp 186) ?_; with_unfolding_all refine wpList_store_row rfl 38 (.tmp 15) (.tmp 186) rfl g15 #[.int .i64 5, .int .i64 0, .string (HD n5), .string (HD hd)] (by kernel_rfl) (by kernel_rfl) 38 #[.int .i64 0, .int .i64 0, .string ⟨#[]⟩, .string ⟨#[]⟩] H15.out rfl (by kernel_rfl) (by simp [Value.oneCell']) ?_))
              have n_HP := Lib.hid (blk_setRowL HP.out #[.int .i64 5, .int .i64 0, .string (HD n5), .string (HD hd)] HNP15.out)
              have n_HV := Lib.hid (OwnP.setRow (cs' := #[.int .i64 5, .int .i64 0, .string (HD n5), .string (HD hd)]) HV.out H15.out (by decide))
              have n_HM := Lib.hid (HM.out.setRow (.inr HG915.out) #[.int .i64 5, .int .i64 0, .string (HD n5), .string (HD hd)])
              have n_H9 := Lib.hid (blk_setRowL H9.out #[.int .i64 5, .int .i64 0, .string (HD n5), .string (HD hd)] HN915.out)
              have n_H10 := Lib.hid (blk_setRowL H10.out #[.int .i64 5, .int .i64 0, .string (HD n5), .string (HD hd)] HN1015.out)
              have n_HK := Lib.hid (setRow_below HK.out HG15b.out #[.int .i64 5, .int .i64 0, .string (HD n5), .string (HD hd)])
              have n_H15 := Lib.hid (blk_setRow (cs' := #[.int .i64 5, .int .i64 0, .string (HD n5), .string (HD hd)]) H15.out)
              have n_HO := Lib.hid (own_setRow (cs' := #[.int .i64 5, .int .i64 0, .string (HD n5), .string (HD hd)]) HO.out H15.out (by decide))
              clear HP HV HM H9 H10 HK H15 HO
              have HP := n_HP
              have HV := n_HV
              have HM := n_HM
              have H9 := n_H9
              have H10 := n_H10
              have HK := n_HK
              have H15 := n_H15
              have HO := n_HO
              clear n_HP n_HV n_HM n_H9 n_H10 n_HK n_H15 n_HO
              generalize w10.setRow g15 #[.int .i64 5, .int .i64 0, .string (HD n5), .string (HD hd)] = w11 at *
              go_meet
              exact ⟨its, kg, 0, kc, 0, 5, 0, HD n5, HD hd, rfl, rfl, rfl, HKgk.out, H15, Lib.hid (RowsI.mono (RowsI.of_own HO.out) HLO.out (Nat.le_refl _) (Nat.le_refl _)), Lib.hid (.inr ⟨rfl, .inr ⟨n5, by omega, ap_headL HL.out lsn hd n5, HL.out, fun _ => hn5⟩⟩), HP, HV, HM, H9, H10, HK⟩
          · have q34 : True := trivial
            have e3_ : decide (ak = 3) = false := decide_eq_false (by omega)
            have b3_ : (ak == 3) = false := by simp; omega
            have e4_ : decide (ak = 4) = false := decide_eq_false (by omega)
            have b4_ : (ak == 4) = false := by simp; omega
            have e5_ : decide (ak = 5) = false := decide_eq_false (by omega)
            have b5_ : (ak == 5) = false := by simp; omega
            have z5_ := H9.out.cell 5
            go_upto_region 20 with fail
            clear e3_ e4_ e5_ b3_ b4_ b5_
            have Q5 := Lib.hid q5
            clear q3 q4 q5
            rcases (show B = true ∨ B = false from by cases B <;> simp) with hB | hB
            · subst hB
              as_aux_lemma =>
                have HI1 := Lib.hid (show isIn its (It.ent (⟨xk, ap, xs, al⟩ : It)) = true from HBB.out.symm)
                go_upto_region 21 with (first | (with_reducible refine isLoadN 28 (.tmp 5) ?_; with_unfolding_all refine wpList_load_row rfl 28 (.tmp 5) rfl gp (by kernel_rfl) 28 #[.int .u32 3, .int .u64 lsn, .int .i64 3, .string (HD hd), Vp] (0, 0) _ HP.out Try.underlying28 rfl (by kernel_rfl) ?_) | (with_reducible refine isLoadN 43 (.tmp 10) ?_; with_unfolding_all refine wpList_load_row rfl 43 (.tmp 10) rfl g10 (by kernel_rfl) 43 #[.string xk, .int .u32 ap, .int .i64 xs] (0, 0) _ H10.out Try.underlying43 rfl (by kernel_rfl) ?_) | (go_at_call 14; refine (putI_any HL.out 3 lsn hd HV.out (⟨xk, ap, xs, al⟩ : It) (HX.out al) 0 0 (⟨#[]⟩) 121 (by rw [HI1.out]; rfl)).mono ?_; rintro e w10 ⟨rfl, hb5⟩; have n_HP := Lib.hid (HP.out.step hb5); have n_HV := Lib.hid (HV.out.below hb5); have n_HM := Lib.hid (HM.out.below hb5); have n_H9 := Lib.hid (H9.out.step hb5); have n_H10 := Lib.hid (H10.out.step hb5); have n_HK := Lib.hid (HK.out.trans (hb5.mono HK.out.size)); have n_H15 := Lib.hid (H15.out.step hb5); have n_HO := Lib.hid (own_below HO.out hb5); clear hb5 HP HV HM H9 H10 HK H15 HO; have HP := n_HP; have HV := n_HV; have HM := n_HM; have H9 := n_H9; have H10 := n_H10; have HK := n_HK; have H15 := n_H15; have HO := n_HO; clear n_HP n_HV n_HM n_H9 n_H10 n_HK n_H15 n_HO) | (with_reducible refine isStoreN 38 (.tmp 15) (.tmp 113) ?_; with_unfolding_all refine wpList_store_row rfl 38 (.tmp 15) (.tmp 113) rfl g15 #[.int .i64 0, .int .i64 0, .string ⟨#[]⟩, .string ⟨#[]⟩] (by kernel_rfl) (by kernel_rfl) 38 #[.int .i64 0, .int .i64 0, .string ⟨#[]⟩, .string ⟨#[]⟩] H15.out rfl (by kernel_rfl) (by simp [Value.oneCell']) ?_))
                have n_HP := Lib.hid (blk_setRowL HP.out #[.int .i64 0, .int .i64 0, .string ⟨#[]⟩, .string ⟨#[]⟩] HNP15.out)
                have n_HV := Lib.hid (OwnP.setRow (cs' := #[.int .i64 0, .int .i64 0, .string ⟨#[]⟩, .string ⟨#[]⟩]) HV.out H15.out (by decide))
                have n_HM := Lib.hid (HM.out.setRow (.inr HG915.out) #[.int .i64 0, .int .i64 0, .string ⟨#[]⟩, .string ⟨#[]⟩])
                have n_H9 := Lib.hid (blk_setRowL H9.out #[.int .i64 0, .int .i64 0, .string ⟨#[]⟩, .string ⟨#[]⟩] HN915.out)
                have n_H10 := Lib.hid (blk_setRowL H10.out #[.int .i64 0, .int .i64 0, .string ⟨#[]⟩, .string ⟨#[]⟩] HN1015.out)
                have n_HK := Lib.hid (setRow_below HK.out HG15b.out #[.int .i64 0, .int .i64 0, .string ⟨#[]⟩, .string ⟨#[]⟩])
                have n_H15 := Lib.hid (blk_setRow (cs' := #[.int .i64 0, .int .i64 0, .string ⟨#[]⟩, .string ⟨#[]⟩]) H15.out)
                have n_HO := Lib.hid (own_setRow (cs' := #[.int .i64 0, .int .i64 0, .string ⟨#[]⟩, .string ⟨#[]⟩]) HO.out H15.out (by decide))
                clear HP HV HM H9 H10 HK H15 HO
                have HP := n_HP
                have HV := n_HV
                have HM := n_HM
                have H9 := n_H9
                have H10 := n_H10
                have HK := n_HK
                have H15 := n_H15
                have HO := n_HO
                clear n_HP n_HV n_HM n_H9 n_H10 n_HK n_H15 n_HO
                generalize w10.setRow g15 #[.int .i64 0, .int .i64 0, .string ⟨#[]⟩, .string ⟨#[]⟩] = w11 at *
                go_wp2_with fail
                go_meet
                exact ⟨its, kg, 0, kc, 121, 0, 0, ⟨#[]⟩, ⟨#[]⟩, rfl, rfl, rfl, HKgk.out, H15, Lib.hid (RowsI.mono (RowsI.of_own HO.out) HLO.out (Nat.le_refl _) (Nat.le_refl _)), Lib.hid (.inl (by decide)), HP, HV, HM, H9, H10, HK⟩
            · subst hB
              as_aux_lemma =>
                have HI1 := Lib.hid (show isIn its (It.ent (⟨xk, ap, xs, al⟩ : It)) = false from HBB.out.symm)
                have HPQ := Lib.hid (show pos its (It.ent (⟨xk, ap, xs, al⟩ : It)) = P from HPP.out.symm)
                go_upto_region 21 with (first | (with_reducible refine isLoadN 28 (.tmp 5) ?_; with_unfolding_all refine wpList_load_row rfl 28 (.tmp 5) rfl gp (by kernel_rfl) 28 #[.int .u32 3, .int .u64 lsn, .int .i64 3, .string (HD hd), Vp] (0, 0) _ HP.out Try.underlying28 rfl (by kernel_rfl) ?_) | (with_reducible refine isLoadN 43 (.tmp 10) ?_; with_unfolding_all refine wpList_load_row rfl 43 (.tmp 10) rfl g10 (by kernel_rfl) 43 #[.string xk, .int .u32 ap, .int .i64 xs] (0, 0) _ H10.out Try.underlying43 rfl (by kernel_rfl) ?_) | (go_at_call 14; refine (putI_any HL.out 3 lsn hd HV.out (⟨xk, ap, xs, al⟩ : It) (HX.out al) 2 P (slotOf (⟨xk, ap, xs, al⟩ : It)) 0 (by rw [HI1.out, HPQ.out]; rfl)).mono ?_; rintro e w10 ⟨rfl, hb5⟩; have n_HP := Lib.hid (HP.out.step hb5); have n_HV := Lib.hid (HV.out.below hb5); have n_HM := Lib.hid (HM.out.below hb5); have n_H9 := Lib.hid (H9.out.step hb5); have n_H10 := Lib.hid (H10.out.step hb5); have n_HK := Lib.hid (HK.out.trans (hb5.mono HK.out.size)); have n_H15 := Lib.hid (H15.out.step hb5); have n_HO := Lib.hid (own_below HO.out hb5); clear hb5 HP HV HM H9 H10 HK H15 HO; have HP := n_HP; have HV := n_HV; have HM := n_HM; have H9 := n_H9; have H10 := n_H10; have HK := n_HK; have H15 := n_H15; have HO := n_HO; clear n_HP n_HV n_HM n_H9 n_H10 n_HK n_H15 n_HO) | (with_reducible refine isStoreN 38 (.tmp 15) (.tmp 113) ?_; with_unfolding_all refine wpList_store_row rfl 38 (.tmp 15) (.tmp 113) rfl g15 #[.int .i64 2, .int .i64 P, .string (slotOf (⟨xk, ap, xs, al⟩ : It)), .string ⟨#[]⟩] (by kernel_rfl) (by kernel_rfl) 38 #[.int .i64 0, .int .i64 0, .string ⟨#[]⟩, .string ⟨#[]⟩] H15.out rfl (by kernel_rfl) (by simp [Value.oneCell']) ?_))
                have n_HP := Lib.hid (blk_setRowL HP.out #[.int .i64 2, .int .i64 P, .string (slotOf (⟨xk, ap, xs, al⟩ : It)), .string ⟨#[]⟩] HNP15.out)
                have n_HV := Lib.hid (OwnP.setRow (cs' := #[.int .i64 2, .int .i64 P, .string (slotOf (⟨xk, ap, xs, al⟩ : It)), .string ⟨#[]⟩]) HV.out H15.out (by decide))
                have n_HM := Lib.hid (HM.out.setRow (.inr HG915.out) #[.int .i64 2, .int .i64 P, .string (slotOf (⟨xk, ap, xs, al⟩ : It)), .string ⟨#[]⟩])
                have n_H9 := Lib.hid (blk_setRowL H9.out #[.int .i64 2, .int .i64 P, .string (slotOf (⟨xk, ap, xs, al⟩ : It)), .string ⟨#[]⟩] HN915.out)
                have n_H10 := Lib.hid (blk_setRowL H10.out #[.int .i64 2, .int .i64 P, .string (slotOf (⟨xk, ap, xs, al⟩ : It)), .string ⟨#[]⟩] HN1015.out)
                have n_HK := Lib.hid (setRow_below HK.out HG15b.out #[.int .i64 2, .int .i64 P, .string (slotOf (⟨xk, ap, xs, al⟩ : It)), .string ⟨#[]⟩])
                have n_H15 := Lib.hid (blk_setRow (cs' := #[.int .i64 2, .int .i64 P, .string (slotOf (⟨xk, ap, xs, al⟩ : It)), .string ⟨#[]⟩]) H15.out)
                have n_HO := Lib.hid (own_setRow (cs' := #[.int .i64 2, .int .i64 P, .string (slotOf (⟨xk, ap, xs, al⟩ : It)), .string ⟨#[]⟩]) HO.out H15.out (by decide))
                clear HP HV HM H9 H10 HK H15 HO
                have HP := n_HP
                have HV := n_HV
                have HM := n_HM
                have H9 := n_H9
                have H10 := n_H10
                have HK := n_HK
                have H15 := n_H15
                have HO := n_HO
                clear n_HP n_HV n_HM n_H9 n_H10 n_HK n_H15 n_HO
                generalize w10.setRow g15 #[.int .i64 2, .int .i64 P, .string (slotOf (⟨xk, ap, xs, al⟩ : It)), .string ⟨#[]⟩] = w11 at *
                clear HO HKgk z5_
                have hple := HPLE.out
                go_upto_region 23 with fail
                obtain ⟨tl, htl, htn⟩ := tail_at2 (kg := mb) (ko := mo) (kc := mc) (n := P) (m := its.length) hmc
                obtain ⟨i0, hi0, hz0, hz1, hz2⟩ := info_partsI infoIT
                have I0 := Lib.hid hi0
                clear hi0
                have n0_ : (0 : Int) ≤ P := by omega
                have z5_ : w11.cell? ⟨g9, 5, none⟩ = some (.bool al) := H9.out.cell 5
                refine start_ (n := 16) (S := fun w' => Blk w' g10 43 #[.string xk, .int .u32 ap, .int .i64 xs] ∧ w'.cell? ⟨g9, 5, none⟩ = some (.bool al)) (ds := []) #[false, false, false, false, false, false, false, false, false, false, false, false, false, false, false, false] (by kernel_rfl) rfl rfl ⟨H10.out, z5_⟩ (fun hHeld => ?_)
                have hb5 := bdrew (Below.refl w11.heap.size w11)
                have n_HP := Lib.hid (HP.out.step hb5)
                have n_HV := Lib.hid (HV.out.below hb5)
                have n_HM := Lib.hid (HM.out.below hb5)
                have n_H9 := Lib.hid (H9.out.step hb5)
                have n_H10 := Lib.hid (H10.out.step hb5)
                have n_HK := Lib.hid (HK.out.trans (hb5.mono HK.out.size))
                have n_H15 := Lib.hid (H15.out.step hb5)
                clear hb5 HP HV HM H9 H10 HK H15
                have HP := n_HP
                have HV := n_HV
                have HM := n_HM
                have H9 := n_H9
                have H10 := n_H10
                have HK := n_HK
                have H15 := n_H15
                clear n_HP n_HV n_HM n_H9 n_H10 n_HK n_H15
                generalize w11.drew = xd at *
                clear z5_
                have z5_ : xd.cell? ⟨g9, 5, none⟩ = some (.bool al) := H9.out.cell 5
                refine pure_ (i := 1) (N := some 117) (v := ?_) (a' := ?_) #[false, true, false, false, false, false, false, false, false, false, false, false, false, false, false, false] rfl rfl (by kernel_rfl) (fun _ _ _ h => h) (Or.inl ⟨by rfl, ?_⟩) ?_ ?_
                rotate_left
                · intro w'
                  go_simp
                  with_reducible rfl
                rotate_left
                · simp only [Act.put, List.setIfInBounds_toArray, List.set_cons_zero, List.set_cons_succ, i64_w, i32_w]
                  rfl
                refine pure_ (i := 2) (N := some 118) (v := ?_) (a' := ?_) #[false, true, true, false, false, false, false, false, false, false, false, false, false, false, false, false] rfl rfl (by kernel_rfl) (fun _ _ _ h => h) (Or.inl ⟨by rfl, ?_⟩) ?_ ?_
                rotate_left
                · intro w'
                  go_simp
                  with_reducible rfl
                rotate_left
                · simp only [Act.put, List.setIfInBounds_toArray, List.set_cons_zero, List.set_cons_succ, i64_w, i32_w]
                  rfl
                refine pure_ (i := 3) (N := some 119) (v := .slice (some ⟨mb, mo, none⟩) P mc) (a' := ?_) #[false, true, true, true, false, false, false, false, false, false, false, false, false, false, false, false] rfl rfl (by kernel_rfl) (fun _ _ _ h => h) (Or.inl ⟨by rfl, ?_⟩) ?_ ?_
                · intro w'
                  go_simp; try (intro h_; omega)
                rotate_left
                · simp only [Act.put, List.setIfInBounds_toArray, List.set_cons_zero, List.set_cons_succ, i64_w, i32_w]
                  rfl
                refine pure_ (i := 6) (N := some 122) (v := ?_) (a' := ?_) #[false, true, true, true, false, false, true, false, false, false, false, false, false, false, false, false] rfl rfl (by kernel_rfl) (fun _ _ _ h => h) (Or.inl ⟨by rfl, ?_⟩) ?_ ?_
                rotate_left
                · intro w'
                  go_simp
                  with_reducible rfl
                rotate_left
                · simp only [Act.put, List.setIfInBounds_toArray, List.set_cons_zero, List.set_cons_succ, i64_w, i32_w]
                  rfl
                refine pure_ (i := 11) (N := some 127) (v := ?_) (a' := ?_) #[false, true, true, true, false, false, true, false, false, false, false, true, false, false, false, false] rfl rfl (by kernel_rfl) (fun _ _ _ h => h) (Or.inl ⟨by rfl, ?_⟩) ?_ ?_
                rotate_left
                · intro w'
                  go_simp
                  with_reducible rfl
                rotate_left
                · simp only [Act.put, List.setIfInBounds_toArray, List.set_cons_zero, List.set_cons_succ, i64_w, i32_w]
                  rfl
                refine pure_ (i := 12) (N := some 128) (v := ?_) (a' := ?_) #[false, true, true, true, false, false, true, false, false, false, false, true, true, false, false, false] rfl rfl (by kernel_rfl) (fun _ _ _ h => h) (Or.inl ⟨by rfl, ?_⟩) ?_ ?_
                rotate_left
                · intro w'
                  go_simp
                  with_reducible rfl
                rotate_left
                · simp only [Act.put, List.setIfInBounds_toArray, List.set_cons_zero, List.set_cons_succ, i64_w, i32_w]
                  rfl
                refine pure_ (i := 13) (N := some 129) (v := .slice (some tl) (its.length - P) (mc - P)) (a' := ?_) #[false, true, true, true, false, false, true, false, false, false, false, true, true, true, false, false] rfl rfl (by kernel_rfl) (fun _ _ _ h => h) (Or.inl ⟨by rfl, ?_⟩) ?_ ?_
                · intro w'
                  go_simp; try (intro h_; omega)
                rotate_left
                · simp only [Act.put, List.setIfInBounds_toArray, List.set_cons_zero, List.set_cons_succ, i64_w, i32_w]
                  rfl
                refine take_ (i := 5) (N := some 121) (v := .agg #[.string xk, .int .u32 ap, .int .i64 xs]) (a' := ?_) #[false, true, true, true, false, true, true, false, false, false, false, true, true, true, false, false] rfl rfl (by kernel_rfl) (fun _ _ _ h => h) (yields_row 43 (.tmp 10) rfl (by rfl) g10 rfl 43 #[.string xk, .int .u32 ap, .int .i64 xs] (0, 0) _ (fun w_ h => h.1) Try.underlying43 rfl (by kernel_rfl)) hHeld ?_ ?_
                rotate_left
                · simp only [Act.put, List.setIfInBounds_toArray, List.set_cons_zero, List.set_cons_succ, i64_w, i32_w]
                  rfl
                refine take_ (i := 7) (N := some 123) (v := ?_) (a' := ?_) #[false, true, true, true, false, true, true, true, false, false, false, true, true, true, false, false] rfl rfl (by kernel_rfl) (fun _ _ _ h => h) (Or.inl ⟨by rfl, ?_⟩) hHeld ?_ ?_
                rotate_left
                · rintro w' ⟨s0, s1⟩
                  go_simp
                  with_reducible rfl
                rotate_left
                · simp only [Act.put, List.setIfInBounds_toArray, List.set_cons_zero, List.set_cons_succ, i64_w, i32_w]
                  rfl
                refine pure_ (i := 8) (N := some 124) (v := .agg #[.string xk, .int .u32 ap, .int .i64 xs, .bool al]) (a' := ?_) #[false, true, true, true, false, true, true, true, true, false, false, true, true, true, false, false] rfl rfl (by kernel_rfl) (fun _ _ _ h => h) (Or.inl ⟨by rfl, ?_⟩) ?_ ?_
                · intro w'
                  go_simp
                rotate_left
                · simp only [Act.put, List.setIfInBounds_toArray, List.set_cons_zero, List.set_cons_succ, i64_w, i32_w]
                  rfl
                refine two_ (i := 0) (j := 9) (Ni := some 116) (Nj := some 125) #[true, true, true, true, false, true, true, true, true, false, false, true, true, true, false, false] #[false, true, true, true, false, true, true, true, true, true, false, true, true, true, false, false] rfl rfl rfl rfl (by kernel_rfl) (by decide) (by decide) (fun K hK => ?_) (fun K hK => ?_)
                · clear hHeld
                  refine value_ (w1 := xd.alloc (.cells #[] 47)) (v := .slice (some ⟨xd.heap.size, 0, none⟩) 0 0) (by rfl) rfl (by go_simp) ?_
                  have hb5 := balloc (Below.refl xd.heap.size xd) (.cells #[] 47)
                  have hQ := Lib.hid (own_of_blk (base := xd.heap.size) (size := 4) (n := 0) (Blk.new xd 47 #[]) (Nat.le_refl _) rfl (by decide))
                  have HQB := Lib.hid HK.out.size
                  have HQ9 := Lib.hid (Nat.le_of_lt H9.out.lt)
                  have HQP := Lib.hid (show gp + 1 ≤ xd.heap.size from HP.out.lt)
                  have n_HP := Lib.hid (HP.out.step hb5)
                  have n_HV := Lib.hid (HV.out.below hb5)
                  have n_HM := Lib.hid (HM.out.below hb5)
                  have n_H9 := Lib.hid (H9.out.step hb5)
                  have n_H10 := Lib.hid (H10.out.step hb5)
                  have n_HK := Lib.hid (HK.out.trans (hb5.mono HK.out.size))
                  have n_H15 := Lib.hid (H15.out.step hb5)
                  clear hb5 HP HV HM H9 H10 HK H15
                  have HP := n_HP
                  have HV := n_HV
                  have HM := n_HM
                  have H9 := n_H9
                  have H10 := n_H10
                  have HK := n_HK
                  have H15 := n_H15
                  clear n_HP n_HV n_HM n_H9 n_H10 n_HK n_H15
                  generalize xd.alloc (.cells #[] 47) = x4 at *
                  generalize xd.heap.size = gq at *
                  have HW := hQ
                  clear hQ
                  clear z5_
                  have z5_ : x4.cell? ⟨g9, 5, none⟩ = some (.bool al) := H9.out.cell 5
                  refine hK.out _ _ ⟨H10.out, z5_⟩ (fun hHeld => ?_)
                  clear hK K
                  refine norm_ (a' := ?_) ?_ ?_
                  rotate_left
                  · show Act.put _ (some 116) _ = _
                    simp only [Act.put, List.setIfInBounds_toArray, List.set_cons_zero, List.set_cons_succ]
                    rfl
                  refine two_ (i := 4) (j := 9) (Ni := some 120) (Nj := some 125) #[true, true, true, true, true, true, true, true, true, false, false, true, true, true, false, false] #[true, true, true, true, false, true, true, true, true, true, false, true, true, true, false, false] rfl rfl rfl rfl (by kernel_rfl) (by decide) (by decide) (fun K hK => ?_) (fun K hK => ?_)
                  · clear hHeld
                    refine step_append_own rfl (.tmp 116) (.tmp 119) 51 rfl gq 47 i0 _ 4 40 Try.underlying51 I0.out hz0 hz1 hz2 rfl (by decide) (.slice (some ⟨gq, 0, none⟩) (0) 0) (0) _ rfl HW.out ⟨mb, mo, none⟩ (P) (mc) (((its.take P).map It.cells).flatten) rfl (by rw [flat_len, List.length_take, Nat.min_eq_left hple]) ((HM.out.take P).news) (flat_one _) (by unfold maxLen; omega) (by omega) (Nat.le_of_lt (Nat.lt_of_le_of_lt (HW.out.lt gq rfl).1 (HW.out.lt gq rfl).2)) ?_
                    intro v_ x5 ho_ hg_ hnil_
                    obtain ⟨b4, cb4, rfl⟩ := own_nn_form ho_ (fun e_ => absurd (hnil_.1 e_).1 (by simp))
                    have n_HP := Lib.hid (HP.out.grown hg_ (fun e_ => own_ne_blk HW.out HP.out (by decide) e_.symm))
                    have n_HV := Lib.hid (OwnP.grown HV.out hg_ (own_ne_own HV.out HW.out (by decide)))
                    have n_HM := Lib.hid (HM.out.kept hg_ (fun g_ e_ => by cases e_; exact .inr (Nat.le_trans HQ9.out (HW.out.lt gq rfl).1)))
                    have n_H9 := Lib.hid (H9.out.grown hg_ (fun e_ => own_ne_blk HW.out H9.out (by decide) e_.symm))
                    have n_H10 := Lib.hid (H10.out.grown hg_ (fun e_ => own_ne_blk HW.out H10.out (by decide) e_.symm))
                    have n_HK := Lib.hid (HK.out.grown hg_ HK.out.size (fun k_ e_ => by cases e_; exact Nat.le_trans HQB.out (HW.out.lt gq rfl).1))
                    have n_H15 := Lib.hid (H15.out.grown hg_ (fun e_ => own_ne_blk HW.out H15.out (by decide) e_.symm))
                    have n_HW := Lib.hid (ho_)
                    clear HP HV HM H9 H10 HK H15 HW
                    have HP := n_HP
                    have HV := n_HV
                    have HM := n_HM
                    have H9 := n_H9
                    have H10 := n_H10
                    have HK := n_HK
                    have H15 := n_H15
                    have HW := n_HW
                    clear n_HP n_HV n_HM n_H9 n_H10 n_HK n_H15 n_HW
                    clear ho_ hg_ hnil_
                    clear z5_
                    have z5_ : x5.cell? ⟨g9, 5, none⟩ = some (.bool al) := H9.out.cell 5
                    refine hK.out _ _ ⟨H10.out, z5_⟩ (fun hHeld => ?_)
                    clear hK K
                    refine norm_ (a' := ?_) ?_ ?_
                    rotate_left
                    · show Act.put _ (some 120) _ = _
                      simp only [Act.put, List.setIfInBounds_toArray, List.set_cons_zero, List.set_cons_succ]
                      rfl
                    refine one_ (i := 9) (N := some 125) #[true, true, true, true, true, true, true, true, true, true, false, true, true, true, false, false] rfl rfl (by kernel_rfl) (by decide) (fun K hK => ?_)
                    clear hHeld
                    refine value_ (w1 := x5.alloc (.cells #[.string xk, .int .u32 ap, .int .i64 xs, .bool al] 47)) (v := .slice (some ⟨x5.heap.size, 0, none⟩) 1 1) (by rfl) rfl (by go_simp) ?_
                    have hb5 := balloc (Below.refl x5.heap.size x5) (.cells #[.string xk, .int .u32 ap, .int .i64 xs, .bool al] 47)
                    have hI := Lib.hid (RowsI.mono (RowsI.of_own (l := [(⟨xk, ap, xs, al⟩ : It)]) (c := 1) (own_of_blk (base := x5.heap.size) (size := 4) (n := 1) (Blk.new x5 47 #[.string xk, .int .u32 ap, .int .i64 xs, .bool al]) (Nat.le_refl _) rfl (by decide))) (Nat.le_refl _) (show (x5.alloc (.cells #[.string xk, .int .u32 ap, .int .i64 xs, .bool al] 47)).heap.size ≤ x5.heap.size + 1 by simp) (by simp))
                    have n_HP := Lib.hid (HP.out.step hb5)
                    have n_HV := Lib.hid (HV.out.below hb5)
                    have n_HM := Lib.hid (HM.out.below hb5)
                    have n_H9 := Lib.hid (H9.out.step hb5)
                    have n_H10 := Lib.hid (H10.out.step hb5)
                    have n_HK := Lib.hid (HK.out.trans (hb5.mono HK.out.size))
                    have n_H15 := Lib.hid (H15.out.step hb5)
                    have n_HW := Lib.hid (own_below HW.out hb5)
                    clear hb5 HP HV HM H9 H10 HK H15 HW
                    have HP := n_HP
                    have HV := n_HV
                    have HM := n_HM
                    have H9 := n_H9
                    have H10 := n_H10
                    have HK := n_HK
                    have H15 := n_H15
                    have HW := n_HW
                    clear n_HP n_HV n_HM n_H9 n_H10 n_HK n_H15 n_HW
                    generalize x5.alloc (.cells #[.string xk, .int .u32 ap, .int .i64 xs, .bool al] 47) = x6 at *
                    generalize x5.heap.size = gl at *
                    have HI := hI
                    clear hI
                    clear z5_
                    have z5_ : x6.cell? ⟨g9, 5, none⟩ = some (.bool al) := H9.out.cell 5
                    refine hK.out _ _ ⟨H10.out, z5_⟩ (fun hHeld => ?_)
                    clear hK K
                    refine norm_ (a' := ?_) ?_ ?_
                    rotate_left
                    · show Act.put _ (some 125) _ = _
                      simp only [Act.put, List.setIfInBounds_toArray, List.set_cons_zero, List.set_cons_succ]
                      rfl
                    refine one_ (i := 10) (N := some 126) #[true, true, true, true, true, true, true, true, true, true, true, true, true, true, false, false] rfl rfl (by kernel_rfl) (by decide) (fun K hK => ?_)
                    clear hHeld
                    refine step_append_own rfl (.tmp 120) (.tmp 125) 51 rfl gq 47 i0 _ 4 40 Try.underlying51 I0.out hz0 hz1 hz2 rfl (by decide) (.slice (some ⟨b4, 0, none⟩) (0 + P) cb4) (0 + P) _ rfl HW.out ⟨gl, 0, none⟩ (1) (1) (([(⟨xk, ap, xs, al⟩ : It)].map It.cells).flatten) rfl (flat_len _) (HI.out.news) (flat_one _) (by unfold maxLen; omega) (by omega) (Nat.le_of_lt (Nat.lt_of_le_of_lt (HW.out.lt b4 rfl).1 (HW.out.lt b4 rfl).2)) ?_
                    intro v_ x7 ho_ hg_ hnil_
                    obtain ⟨b10, cb10, rfl⟩ := own_nn_form ho_ (fun e_ => absurd (hnil_.1 e_).1 (by simp))
                    have n_HP := Lib.hid (HP.out.grown hg_ (fun e_ => own_ne_blk HW.out HP.out (by decide) e_.symm))
                    have n_HV := Lib.hid (OwnP.grown HV.out hg_ (own_ne_own HV.out HW.out (by decide)))
                    have n_HM := Lib.hid (HM.out.kept hg_ (fun g_ e_ => by cases e_; exact .inr (Nat.le_trans HQ9.out (HW.out.lt b4 rfl).1)))
                    have n_H9 := Lib.hid (H9.out.grown hg_ (fun e_ => own_ne_blk HW.out H9.out (by decide) e_.symm))
                    have n_H10 := Lib.hid (H10.out.grown hg_ (fun e_ => own_ne_blk HW.out H10.out (by decide) e_.symm))
                    have n_HK := Lib.hid (HK.out.grown hg_ HK.out.size (fun k_ e_ => by cases e_; exact Nat.le_trans HQB.out (HW.out.lt b4 rfl).1))
                    have n_H15 := Lib.hid (H15.out.grown hg_ (fun e_ => own_ne_blk HW.out H15.out (by decide) e_.symm))
                    have n_HW := Lib.hid (ho_)
                    clear HP HV HM H9 H10 HK H15 HW
                    have HP := n_HP
                    have HV := n_HV
                    have HM := n_HM
                    have H9 := n_H9
                    have H10 := n_H10
                    have HK := n_HK
                    have H15 := n_H15
                    have HW := n_HW
                    clear n_HP n_HV n_HM n_H9 n_H10 n_HK n_H15 n_HW
                    clear ho_ hg_ hnil_
                    clear z5_
                    have z5_ : x7.cell? ⟨g9, 5, none⟩ = some (.bool al) := H9.out.cell 5
                    refine hK.out _ _ ⟨H10.out, z5_⟩ (fun hHeld => ?_)
                    clear hK K
                    refine norm_ (a' := ?_) ?_ ?_
                    rotate_left
                    · show Act.put _ (some 126) _ = _
                      simp only [Act.put, List.setIfInBounds_toArray, List.set_cons_zero, List.set_cons_succ]
                      rfl
                    refine one_ (i := 14) (N := some 130) #[true, true, true, true, true, true, true, true, true, true, true, true, true, true, true, false] rfl rfl (by kernel_rfl) (by decide) (fun K hK => ?_)
                    clear hHeld
                    refine step_append_own rfl (.tmp 126) (.tmp 129) 51 rfl gq 47 i0 _ 4 40 Try.underlying51 I0.out hz0 hz1 hz2 rfl (by decide) (.slice (some ⟨b10, 0, none⟩) (0 + P + 1) cb10) (0 + P + 1) _ rfl HW.out tl (its.length - P) (mc - P) (((its.drop P).map It.cells).flatten) rfl (by rw [flat_len, List.length_drop]) (tail_news HM.out hple htn) (flat_one _) (by unfold maxLen; omega) (by omega) (Nat.le_of_lt (Nat.lt_of_le_of_lt (HW.out.lt b10 rfl).1 (HW.out.lt b10 rfl).2)) ?_
                    intro v_ x8 ho_ hg_ hnil_
                    obtain ⟨b14, cb14, rfl⟩ := own_nn_form ho_ (fun e_ => absurd (hnil_.1 e_).1 (by simp))
                    have n_HP := Lib.hid (HP.out.grown hg_ (fun e_ => own_ne_blk HW.out HP.out (by decide) e_.symm))
                    have n_HV := Lib.hid (OwnP.grown HV.out hg_ (own_ne_own HV.out HW.out (by decide)))
                    have n_HM := Lib.hid (HM.out.kept hg_ (fun g_ e_ => by cases e_; exact .inr (Nat.le_trans HQ9.out (HW.out.lt b10 rfl).1)))
                    have n_H9 := Lib.hid (H9.out.grown hg_ (fun e_ => own_ne_blk HW.out H9.out (by decide) e_.symm))
                    have n_H10 := Lib.hid (H10.out.grown hg_ (fun e_ => own_ne_blk HW.out H10.out (by decide) e_.symm))
                    have n_HK := Lib.hid (HK.out.grown hg_ HK.out.size (fun k_ e_ => by cases e_; exact Nat.le_trans HQB.out (HW.out.lt b10 rfl).1))
                    have n_H15 := Lib.hid (H15.out.grown hg_ (fun e_ => own_ne_blk HW.out H15.out (by decide) e_.symm))
                    have n_HW := Lib.hid (ho_)
                    clear HP HV HM H9 H10 HK H15 HW
                    have HP := n_HP
                    have HV := n_HV
                    have HM := n_HM
                    have H9 := n_H9
                    have H10 := n_H10
                    have HK := n_HK
                    have H15 := n_H15
                    have HW := n_HW
                    clear n_HP n_HV n_HM n_H9 n_H10 n_HK n_H15 n_HW
                    clear ho_ hg_ hnil_
                    clear z5_
                    have z5_ : x8.cell? ⟨g9, 5, none⟩ = some (.bool al) := H9.out.cell 5
                    refine hK.out _ _ ⟨H10.out, z5_⟩ (fun hHeld => ?_)
                    clear hK K
                    refine norm_ (a' := ?_) ?_ ?_
                    rotate_left
                    · show Act.put _ (some 130) _ = _
                      simp only [Act.put, List.setIfInBounds_toArray, List.set_cons_zero, List.set_cons_succ]
                      rfl
                    refine pure_ (i := 15) (N := some 18) (v := ?_) (a' := ?_) #[true, true, true, true, true, true, true, true, true, true, true, true, true, true, true, true] rfl rfl (by kernel_rfl) (fun _ _ _ h => h) (Or.inl ⟨by rfl, ?_⟩) ?_ ?_
                    rotate_left
                    · intro w'
                      go_simp
                      with_reducible rfl
                    rotate_left
                    · simp only [Act.put, List.setIfInBounds_toArray, List.set_cons_zero, List.set_cons_succ, i64_w, i32_w]
                      rfl
                    refine done_ (by kernel_rfl) ?_
                    go_wp2_with fail
                    go_meet
                    have hle_ : 0 + P + 1 + (its.length - P) = (insAt its P (⟨xk, ap, xs, al⟩ : It)).length := by rw [insAt_len _ _ _ hple]; omega
                    have hxs_ : (([] ++ ((its.take P).map It.cells).flatten) ++ ([(⟨xk, ap, xs, al⟩ : It)].map It.cells).flatten) ++ ((its.drop P).map It.cells).flatten = ((insAt its P (⟨xk, ap, xs, al⟩ : It)).map It.cells).flatten := by rw [← ins_flat]; simp
                    have hW_ := HW.out
                    rw [hxs_] at hW_
                    have hW2_ := hW_
                    rw [hle_] at hW2_
                    exact ⟨insAt its P (⟨xk, ap, xs, al⟩ : It), b14, 0, cb14, 0, 2, P, slotOf (⟨xk, ap, xs, al⟩ : It), ⟨#[]⟩, rfl, rfl, (by rw [← hle_, Nat.zero_add]), own_cap hW2_, H15, Lib.hid (RowsI.mono (RowsI.of_own hW2_) HQP.out (Nat.le_refl _) (Nat.le_refl _)), Lib.hid (ins_act HL.out (HX.out al) HPQ.out.symm HI1.out lsn hd hhd ak an Q5.out), HP, HV, HM, H9, H10, HK⟩
                  · clear hHeld
                    refine value_ (w1 := x4.alloc (.cells #[.string xk, .int .u32 ap, .int .i64 xs, .bool al] 47)) (v := .slice (some ⟨x4.heap.size, 0, none⟩) 1 1) (by rfl) rfl (by go_simp) ?_
                    have hb5 := balloc (Below.refl x4.heap.size x4) (.cells #[.string xk, .int .u32 ap, .int .i64 xs, .bool al] 47)
                    have hI := Lib.hid (RowsI.mono (RowsI.of_own (l := [(⟨xk, ap, xs, al⟩ : It)]) (c := 1) (own_of_blk (base := x4.heap.size) (size := 4) (n := 1) (Blk.new x4 47 #[.string xk, .int .u32 ap, .int .i64 xs, .bool al]) (Nat.le_refl _) rfl (by decide))) (Nat.le_refl _) (show (x4.alloc (.cells #[.string xk, .int .u32 ap, .int .i64 xs, .bool al] 47)).heap.size ≤ x4.heap.size + 1 by simp) (by simp))
                    have HGL := Lib.hid (show gq ≠ x4.heap.size from Nat.ne_of_lt (HW.out.lt gq rfl).2)
                    have n_HP := Lib.hid (HP.out.step hb5)
                    have n_HV := Lib.hid (HV.out.below hb5)
                    have n_HM := Lib.hid (HM.out.below hb5)
                    have n_H9 := Lib.hid (H9.out.step hb5)
                    have n_H10 := Lib.hid (H10.out.step hb5)
                    have n_HK := Lib.hid (HK.out.trans (hb5.mono HK.out.size))
                    have n_H15 := Lib.hid (H15.out.step hb5)
                    have n_HW := Lib.hid (own_below HW.out hb5)
                    clear hb5 HP HV HM H9 H10 HK H15 HW
                    have HP := n_HP
                    have HV := n_HV
                    have HM := n_HM
                    have H9 := n_H9
                    have H10 := n_H10
                    have HK := n_HK
                    have H15 := n_H15
                    have HW := n_HW
                    clear n_HP n_HV n_HM n_H9 n_H10 n_HK n_H15 n_HW
                    generalize x4.alloc (.cells #[.string xk, .int .u32 ap, .int .i64 xs, .bool al] 47) = x9 at *
                    generalize x4.heap.size = gl at *
                    have HI := hI
                    clear hI
                    clear z5_
                    have z5_ : x9.cell? ⟨g9, 5, none⟩ = some (.bool al) := H9.out.cell 5
                    refine hK.out _ _ ⟨H10.out, z5_⟩ (fun hHeld => ?_)
                    clear hK K
                    refine norm_ (a' := ?_) ?_ ?_
                    rotate_left
                    · show Act.put _ (some 125) _ = _
                      simp only [Act.put, List.setIfInBounds_toArray, List.set_cons_zero, List.set_cons_succ]
                      rfl
                    refine one_ (i := 4) (N := some 120) #[true, true, true, true, true, true, true, true, true, true, false, true, true, true, false, false] rfl rfl (by kernel_rfl) (by decide) (fun K hK => ?_)
                    clear hHeld
                    refine step_append_own rfl (.tmp 116) (.tmp 119) 51 rfl gq 47 i0 _ 4 40 Try.underlying51 I0.out hz0 hz1 hz2 rfl (by decide) (.slice (some ⟨gq, 0, none⟩) (0) 0) (0) _ rfl HW.out ⟨mb, mo, none⟩ (P) (mc) (((its.take P).map It.cells).flatten) rfl (by rw [flat_len, List.length_take, Nat.min_eq_left hple]) ((HM.out.take P).news) (flat_one _) (by unfold maxLen; omega) (by omega) (Nat.le_of_lt (Nat.lt_of_le_of_lt (HW.out.lt gq rfl).1 (HW.out.lt gq rfl).2)) ?_
                    intro v_ x10 ho_ hg_ hnil_
                    obtain ⟨b4, cb4, rfl⟩ := own_nn_form ho_ (fun e_ => absurd (hnil_.1 e_).1 (by simp))
                    have n_HP := Lib.hid (HP.out.grown hg_ (fun e_ => own_ne_blk HW.out HP.out (by decide) e_.symm))
                    have n_HV := Lib.hid (OwnP.grown HV.out hg_ (own_ne_own HV.out HW.out (by decide)))
                    have n_HM := Lib.hid (HM.out.kept hg_ (fun g_ e_ => by cases e_; exact .inr (Nat.le_trans HQ9.out (HW.out.lt gq rfl).1)))
                    have n_H9 := Lib.hid (H9.out.grown hg_ (fun e_ => own_ne_blk HW.out H9.out (by decide) e_.symm))
                    have n_H10 := Lib.hid (H10.out.grown hg_ (fun e_ => own_ne_blk HW.out H10.out (by decide) e_.symm))
                    have n_HK := Lib.hid (HK.out.grown hg_ HK.out.size (fun k_ e_ => by cases e_; exact Nat.le_trans HQB.out (HW.out.lt gq rfl).1))
                    have n_H15 := Lib.hid (H15.out.grown hg_ (fun e_ => own_ne_blk HW.out H15.out (by decide) e_.symm))
                    have n_HW := Lib.hid (ho_)
                    have n_HI := Lib.hid (HI.out.kept hg_ (fun g_ e_ => by cases e_; have h_ := HGL.out; show gq < gl ∨ gl + 1 ≤ gq; omega))
                    clear HP HV HM H9 H10 HK H15 HW HI
                    have HP := n_HP
                    have HV := n_HV
                    have HM := n_HM
                    have H9 := n_H9
                    have H10 := n_H10
                    have HK := n_HK
                    have H15 := n_H15
                    have HW := n_HW
                    have HI := n_HI
                    clear n_HP n_HV n_HM n_H9 n_H10 n_HK n_H15 n_HW n_HI
                    clear ho_ hg_ hnil_
                    clear z5_
                    have z5_ : x10.cell? ⟨g9, 5, none⟩ = some (.bool al) := H9.out.cell 5
                    refine hK.out _ _ ⟨H10.out, z5_⟩ (fun hHeld => ?_)
                    clear hK K
                    refine norm_ (a' := ?_) ?_ ?_
                    rotate_left
                    · show Act.put _ (some 120) _ = _
                      simp only [Act.put, List.setIfInBounds_toArray, List.set_cons_zero, List.set_cons_succ]
                      rfl
                    refine one_ (i := 10) (N := some 126) #[true, true, true, true, true, true, true, true, true, true, true, true, true, true, false, false] rfl rfl (by kernel_rfl) (by decide) (fun K hK => ?_)
                    clear hHeld
                    refine step_append_own rfl (.tmp 120) (.tmp 125) 51 rfl gq 47 i0 _ 4 40 Try.underlying51 I0.out hz0 hz1 hz2 rfl (by decide) (.slice (some ⟨b4, 0, none⟩) (0 + P) cb4) (0 + P) _ rfl HW.out ⟨gl, 0, none⟩ (1) (1) (([(⟨xk, ap, xs, al⟩ : It)].map It.cells).flatten) rfl (flat_len _) (HI.out.news) (flat_one _) (by unfold maxLen; omega) (by omega) (Nat.le_of_lt (Nat.lt_of_le_of_lt (HW.out.lt b4 rfl).1 (HW.out.lt b4 rfl).2)) ?_
                    intro v_ x11 ho_ hg_ hnil_
                    obtain ⟨b10, cb10, rfl⟩ := own_nn_form ho_ (fun e_ => absurd (hnil_.1 e_).1 (by simp))
                    have n_HP := Lib.hid (HP.out.grown hg_ (fun e_ => own_ne_blk HW.out HP.out (by decide) e_.symm))
                    have n_HV := Lib.hid (OwnP.grown HV.out hg_ (own_ne_own HV.out HW.out (by decide)))
                    have n_HM := Lib.hid (HM.out.kept hg_ (fun g_ e_ => by cases e_; exact .inr (Nat.le_trans HQ9.out (HW.out.lt b4 rfl).1)))
                    have n_H9 := Lib.hid (H9.out.grown hg_ (fun e_ => own_ne_blk HW.out H9.out (by decide) e_.symm))
                    have n_H10 := Lib.hid (H10.out.grown hg_ (fun e_ => own_ne_blk HW.out H10.out (by decide) e_.symm))
                    have n_HK := Lib.hid (HK.out.grown hg_ HK.out.size (fun k_ e_ => by cases e_; exact Nat.le_trans HQB.out (HW.out.lt b4 rfl).1))
                    have n_H15 := Lib.hid (H15.out.grown hg_ (fun e_ => own_ne_blk HW.out H15.out (by decide) e_.symm))
                    have n_HW := Lib.hid (ho_)
                    clear HP HV HM H9 H10 HK H15 HW
                    have HP := n_HP
                    have HV := n_HV
                    have HM := n_HM
                    have H9 := n_H9
                    have H10 := n_H10
                    have HK := n_HK
                    have H15 := n_H15
                    have HW := n_HW
                    clear n_HP n_HV n_HM n_H9 n_H10 n_HK n_H15 n_HW
                    clear ho_ hg_ hnil_
                    clear z5_
                    have z5_ : x11.cell? ⟨g9, 5, none⟩ = some (.bool al) := H9.out.cell 5
                    refine hK.out _ _ ⟨H10.out, z5_⟩ (fun hHeld => ?_)
                    clear hK K
                    refine norm_ (a' := ?_) ?_ ?_
                    rotate_left
                    · show Act.put _ (some 126) _ = _
                      simp only [Act.put, List.setIfInBounds_toArray, List.set_cons_zero, List.set_cons_succ]
                      rfl
                    refine one_ (i := 14) (N := some 130) #[true, true, true, true, true, true, true, true, true, true, true, true, true, true, true, false] rfl rfl (by kernel_rfl) (by decide) (fun K hK => ?_)
                    clear hHeld
                    refine step_append_own rfl (.tmp 126) (.tmp 129) 51 rfl gq 47 i0 _ 4 40 Try.underlying51 I0.out hz0 hz1 hz2 rfl (by decide) (.slice (some ⟨b10, 0, none⟩) (0 + P + 1) cb10) (0 + P + 1) _ rfl HW.out tl (its.length - P) (mc - P) (((its.drop P).map It.cells).flatten) rfl (by rw [flat_len, List.length_drop]) (tail_news HM.out hple htn) (flat_one _) (by unfold maxLen; omega) (by omega) (Nat.le_of_lt (Nat.lt_of_le_of_lt (HW.out.lt b10 rfl).1 (HW.out.lt b10 rfl).2)) ?_
                    intro v_ x12 ho_ hg_ hnil_
                    obtain ⟨b14, cb14, rfl⟩ := own_nn_form ho_ (fun e_ => absurd (hnil_.1 e_).1 (by simp))
                    have n_HP := Lib.hid (HP.out.grown hg_ (fun e_ => own_ne_blk HW.out HP.out (by decide) e_.symm))
                    have n_HV := Lib.hid (OwnP.grown HV.out hg_ (own_ne_own HV.out HW.out (by decide)))
                    have n_HM := Lib.hid (HM.out.kept hg_ (fun g_ e_ => by cases e_; exact .inr (Nat.le_trans HQ9.out (HW.out.lt b10 rfl).1)))
                    have n_H9 := Lib.hid (H9.out.grown hg_ (fun e_ => own_ne_blk HW.out H9.out (by decide) e_.symm))
                    have n_H10 := Lib.hid (H10.out.grown hg_ (fun e_ => own_ne_blk HW.out H10.out (by decide) e_.symm))
                    have n_HK := Lib.hid (HK.out.grown hg_ HK.out.size (fun k_ e_ => by cases e_; exact Nat.le_trans HQB.out (HW.out.lt b10 rfl).1))
                    have n_H15 := Lib.hid (H15.out.grown hg_ (fun e_ => own_ne_blk HW.out H15.out (by decide) e_.symm))
                    have n_HW := Lib.hid (ho_)
                    clear HP HV HM H9 H10 HK H15 HW
                    have HP := n_HP
                    have HV := n_HV
                    have HM := n_HM
                    have H9 := n_H9
                    have H10 := n_H10
                    have HK := n_HK
                    have H15 := n_H15
                    have HW := n_HW
                    clear n_HP n_HV n_HM n_H9 n_H10 n_HK n_H15 n_HW
                    clear ho_ hg_ hnil_
                    clear z5_
                    have z5_ : x12.cell? ⟨g9, 5, none⟩ = some (.bool al) := H9.out.cell 5
                    refine hK.out _ _ ⟨H10.out, z5_⟩ (fun hHeld => ?_)
                    clear hK K
                    refine norm_ (a' := ?_) ?_ ?_
                    rotate_left
                    · show Act.put _ (some 130) _ = _
                      simp only [Act.put, List.setIfInBounds_toArray, List.set_cons_zero, List.set_cons_succ]
                      rfl
                    refine pure_ (i := 15) (N := some 18) (v := ?_) (a' := ?_) #[true, true, true, true, true, true, true, true, true, true, true, true, true, true, true, true] rfl rfl (by kernel_rfl) (fun _ _ _ h => h) (Or.inl ⟨by rfl, ?_⟩) ?_ ?_
                    rotate_left
                    · intro w'
                      go_simp
                      with_reducible rfl
                    rotate_left
                    · simp only [Act.put, List.setIfInBounds_toArray, List.set_cons_zero, List.set_cons_succ, i64_w, i32_w]
                      rfl
                    refine done_ (by kernel_rfl) ?_
                    go_wp2_with fail
                    go_meet
                    have hle_ : 0 + P + 1 + (its.length - P) = (insAt its P (⟨xk, ap, xs, al⟩ : It)).length := by rw [insAt_len _ _ _ hple]; omega
                    have hxs_ : (([] ++ ((its.take P).map It.cells).flatten) ++ ([(⟨xk, ap, xs, al⟩ : It)].map It.cells).flatten) ++ ((its.drop P).map It.cells).flatten = ((insAt its P (⟨xk, ap, xs, al⟩ : It)).map It.cells).flatten := by rw [← ins_flat]; simp
                    have hW_ := HW.out
                    rw [hxs_] at hW_
                    have hW2_ := hW_
                    rw [hle_] at hW2_
                    exact ⟨insAt its P (⟨xk, ap, xs, al⟩ : It), b14, 0, cb14, 0, 2, P, slotOf (⟨xk, ap, xs, al⟩ : It), ⟨#[]⟩, rfl, rfl, (by rw [← hle_, Nat.zero_add]), own_cap hW2_, H15, Lib.hid (RowsI.mono (RowsI.of_own hW2_) HQP.out (Nat.le_refl _) (Nat.le_refl _)), Lib.hid (ins_act HL.out (HX.out al) HPQ.out.symm HI1.out lsn hd hhd ak an Q5.out), HP, HV, HM, H9, H10, HK⟩
                · clear hHeld
                  refine value_ (w1 := xd.alloc (.cells #[.string xk, .int .u32 ap, .int .i64 xs, .bool al] 47)) (v := .slice (some ⟨xd.heap.size, 0, none⟩) 1 1) (by rfl) rfl (by go_simp) ?_
                  have hb5 := balloc (Below.refl xd.heap.size xd) (.cells #[.string xk, .int .u32 ap, .int .i64 xs, .bool al] 47)
                  have hI := Lib.hid (RowsI.mono (RowsI.of_own (l := [(⟨xk, ap, xs, al⟩ : It)]) (c := 1) (own_of_blk (base := xd.heap.size) (size := 4) (n := 1) (Blk.new xd 47 #[.string xk, .int .u32 ap, .int .i64 xs, .bool al]) (Nat.le_refl _) rfl (by decide))) (Nat.le_refl _) (show (xd.alloc (.cells #[.string xk, .int .u32 ap, .int .i64 xs, .bool al] 47)).heap.size ≤ xd.heap.size + 1 by simp) (by simp))
                  have n_HP := Lib.hid (HP.out.step hb5)
                  have n_HV := Lib.hid (HV.out.below hb5)
                  have n_HM := Lib.hid (HM.out.below hb5)
                  have n_H9 := Lib.hid (H9.out.step hb5)
                  have n_H10 := Lib.hid (H10.out.step hb5)
                  have n_HK := Lib.hid (HK.out.trans (hb5.mono HK.out.size))
                  have n_H15 := Lib.hid (H15.out.step hb5)
                  clear hb5 HP HV HM H9 H10 HK H15
                  have HP := n_HP
                  have HV := n_HV
                  have HM := n_HM
                  have H9 := n_H9
                  have H10 := n_H10
                  have HK := n_HK
                  have H15 := n_H15
                  clear n_HP n_HV n_HM n_H9 n_H10 n_HK n_H15
                  generalize xd.alloc (.cells #[.string xk, .int .u32 ap, .int .i64 xs, .bool al] 47) = x13 at *
                  generalize xd.heap.size = gl at *
                  have HI := hI
                  clear hI
                  clear z5_
                  have z5_ : x13.cell? ⟨g9, 5, none⟩ = some (.bool al) := H9.out.cell 5
                  refine hK.out _ _ ⟨H10.out, z5_⟩ (fun hHeld => ?_)
                  clear hK K
                  refine norm_ (a' := ?_) ?_ ?_
                  rotate_left
                  · show Act.put _ (some 125) _ = _
                    simp only [Act.put, List.setIfInBounds_toArray, List.set_cons_zero, List.set_cons_succ]
                    rfl
                  refine one_ (i := 0) (N := some 116) #[true, true, true, true, false, true, true, true, true, true, false, true, true, true, false, false] rfl rfl (by kernel_rfl) (by decide) (fun K hK => ?_)
                  clear hHeld
                  refine value_ (w1 := x13.alloc (.cells #[] 47)) (v := .slice (some ⟨x13.heap.size, 0, none⟩) 0 0) (by rfl) rfl (by go_simp) ?_
                  have hb5 := balloc (Below.refl x13.heap.size x13) (.cells #[] 47)
                  have hQ := Lib.hid (own_of_blk (base := x13.heap.size) (size := 4) (n := 0) (Blk.new x13 47 #[]) (Nat.le_refl _) rfl (by decide))
                  have HQB := Lib.hid HK.out.size
                  have HQ9 := Lib.hid (Nat.le_of_lt H9.out.lt)
                  have HQP := Lib.hid (show gp + 1 ≤ x13.heap.size from HP.out.lt)
                  have HGL := Lib.hid (show x13.heap.size ≠ gl from by have h_ := HI.out.hw; omega)
                  have n_HP := Lib.hid (HP.out.step hb5)
                  have n_HV := Lib.hid (HV.out.below hb5)
                  have n_HM := Lib.hid (HM.out.below hb5)
                  have n_H9 := Lib.hid (H9.out.step hb5)
                  have n_H10 := Lib.hid (H10.out.step hb5)
                  have n_HK := Lib.hid (HK.out.trans (hb5.mono HK.out.size))
                  have n_H15 := Lib.hid (H15.out.step hb5)
                  have n_HI := Lib.hid (HI.out.below hb5)
                  clear hb5 HP HV HM H9 H10 HK H15 HI
                  have HP := n_HP
                  have HV := n_HV
                  have HM := n_HM
                  have H9 := n_H9
                  have H10 := n_H10
                  have HK := n_HK
                  have H15 := n_H15
                  have HI := n_HI
                  clear n_HP n_HV n_HM n_H9 n_H10 n_HK n_H15 n_HI
                  generalize x13.alloc (.cells #[] 47) = x14 at *
                  generalize x13.heap.size = gq at *
                  have HW := hQ
                  clear hQ
                  clear z5_
                  have z5_ : x14.cell? ⟨g9, 5, none⟩ = some (.bool al) := H9.out.cell 5
                  refine hK.out _ _ ⟨H10.out, z5_⟩ (fun hHeld => ?_)
                  clear hK K
                  refine norm_ (a' := ?_) ?_ ?_
                  rotate_left
                  · show Act.put _ (some 116) _ = _
                    simp only [Act.put, List.setIfInBounds_toArray, List.set_cons_zero, List.set_cons_succ]
                    rfl
                  refine one_ (i := 4) (N := some 120) #[true, true, true, true, true, true, true, true, true, true, false, true, true, true, false, false] rfl rfl (by kernel_rfl) (by decide) (fun K hK => ?_)
                  clear hHeld
                  refine step_append_own rfl (.tmp 116) (.tmp 119) 51 rfl gq 47 i0 _ 4 40 Try.underlying51 I0.out hz0 hz1 hz2 rfl (by decide) (.slice (some ⟨gq, 0, none⟩) (0) 0) (0) _ rfl HW.out ⟨mb, mo, none⟩ (P) (mc) (((its.take P).map It.cells).flatten) rfl (by rw [flat_len, List.length_take, Nat.min_eq_left hple]) ((HM.out.take P).news) (flat_one _) (by unfold maxLen; omega) (by omega) (Nat.le_of_lt (Nat.lt_of_le_of_lt (HW.out.lt gq rfl).1 (HW.out.lt gq rfl).2)) ?_
                  intro v_ x15 ho_ hg_ hnil_
                  obtain ⟨b4, cb4, rfl⟩ := own_nn_form ho_ (fun e_ => absurd (hnil_.1 e_).1 (by simp))
                  have n_HP := Lib.hid (HP.out.grown hg_ (fun e_ => own_ne_blk HW.out HP.out (by decide) e_.symm))
                  have n_HV := Lib.hid (OwnP.grown HV.out hg_ (own_ne_own HV.out HW.out (by decide)))
                  have n_HM := Lib.hid (HM.out.kept hg_ (fun g_ e_ => by cases e_; exact .inr (Nat.le_trans HQ9.out (HW.out.lt gq rfl).1)))
                  have n_H9 := Lib.hid (H9.out.grown hg_ (fun e_ => own_ne_blk HW.out H9.out (by decide) e_.symm))
                  have n_H10 := Lib.hid (H10.out.grown hg_ (fun e_ => own_ne_blk HW.out H10.out (by decide) e_.symm))
                  have n_HK := Lib.hid (HK.out.grown hg_ HK.out.size (fun k_ e_ => by cases e_; exact Nat.le_trans HQB.out (HW.out.lt gq rfl).1))
                  have n_H15 := Lib.hid (H15.out.grown hg_ (fun e_ => own_ne_blk HW.out H15.out (by decide) e_.symm))
                  have n_HW := Lib.hid (ho_)
                  have n_HI := Lib.hid (HI.out.kept hg_ (fun g_ e_ => by cases e_; have h_ := HGL.out; show gq < gl ∨ gl + 1 ≤ gq; omega))
                  clear HP HV HM H9 H10 HK H15 HW HI
                  have HP := n_HP
                  have HV := n_HV
                  have HM := n_HM
                  have H9 := n_H9
                  have H10 := n_H10
                  have HK := n_HK
                  have H15 := n_H15
                  have HW := n_HW
                  have HI := n_HI
                  clear n_HP n_HV n_HM n_H9 n_H10 n_HK n_H15 n_HW n_HI
                  clear ho_ hg_ hnil_
                  clear z5_
                  have z5_ : x15.cell? ⟨g9, 5, none⟩ = some (.bool al) := H9.out.cell 5
                  refine hK.out _ _ ⟨H10.out, z5_⟩ (fun hHeld => ?_)
                  clear hK K
                  refine norm_ (a' := ?_) ?_ ?_
                  rotate_left
                  · show Act.put _ (some 120) _ = _
                    simp only [Act.put, List.setIfInBounds_toArray, List.set_cons_zero, List.set_cons_succ]
                    rfl
                  refine one_ (i := 10) (N := some 126) #[true, true, true, true, true, true, true, true, true, true, true, true, true, true, false, false] rfl rfl (by kernel_rfl) (by decide) (fun K hK => ?_)
                  clear hHeld
                  refine step_append_own rfl (.tmp 120) (.tmp 125) 51 rfl gq 47 i0 _ 4 40 Try.underlying51 I0.out hz0 hz1 hz2 rfl (by decide) (.slice (some ⟨b4, 0, none⟩) (0 + P) cb4) (0 + P) _ rfl HW.out ⟨gl, 0, none⟩ (1) (1) (([(⟨xk, ap, xs, al⟩ : It)].map It.cells).flatten) rfl (flat_len _) (HI.out.news) (flat_one _) (by unfold maxLen; omega) (by omega) (Nat.le_of_lt (Nat.lt_of_le_of_lt (HW.out.lt b4 rfl).1 (HW.out.lt b4 rfl).2)) ?_
                  intro v_ x16 ho_ hg_ hnil_
                  obtain ⟨b10, cb10, rfl⟩ := own_nn_form ho_ (fun e_ => absurd (hnil_.1 e_).1 (by simp))
                  have n_HP := Lib.hid (HP.out.grown hg_ (fun e_ => own_ne_blk HW.out HP.out (by decide) e_.symm))
                  have n_HV := Lib.hid (OwnP.grown HV.out hg_ (own_ne_own HV.out HW.out (by decide)))
                  have n_HM := Lib.hid (HM.out.kept hg_ (fun g_ e_ => by cases e_; exact .inr (Nat.le_trans HQ9.out (HW.out.lt b4 rfl).1)))
                  have n_H9 := Lib.hid (H9.out.grown hg_ (fun e_ => own_ne_blk HW.out H9.out (by decide) e_.symm))
                  have n_H10 := Lib.hid (H10.out.grown hg_ (fun e_ => own_ne_blk HW.out H10.out (by decide) e_.symm))
                  have n_HK := Lib.hid (HK.out.grown hg_ HK.out.size (fun k_ e_ => by cases e_; exact Nat.le_trans HQB.out (HW.out.lt b4 rfl).1))
                  have n_H15 := Lib.hid (H15.out.grown hg_ (fun e_ => own_ne_blk HW.out H15.out (by decide) e_.symm))
                  have n_HW := Lib.hid (ho_)
                  clear HP HV HM H9 H10 HK H15 HW
                  have HP := n_HP
                  have HV := n_HV
                  have HM := n_HM
                  have H9 := n_H9
                  have H10 := n_H10
                  have HK := n_HK
                  have H15 := n_H15
                  have HW := n_HW
                  clear n_HP n_HV n_HM n_H9 n_H10 n_HK n_H15 n_HW
                  clear ho_ hg_ hnil_
                  clear z5_
                  have z5_ : x16.cell? ⟨g9, 5, none⟩ = some (.bool al) := H9.out.cell 5
                  refine hK.out _ _ ⟨H10.out, z5_⟩ (fun hHeld => ?_)
                  clear hK K
                  refine norm_ (a' := ?_) ?_ ?_
                  rotate_left
                  · show Act.put _ (some 126) _ = _
                    simp only [Act.put, List.setIfInBounds_toArray, List.set_cons_zero, List.set_cons_succ]
                    rfl
                  refine one_ (i := 14) (N := some 130) #[true, true, true, true, true, true, true, true, true, true, true, true, true, true, true, false] rfl rfl (by kernel_rfl) (by decide) (fun K hK => ?_)
                  clear hHeld
                  refine step_append_own rfl (.tmp 126) (.tmp 129) 51 rfl gq 47 i0 _ 4 40 Try.underlying51 I0.out hz0 hz1 hz2 rfl (by decide) (.slice (some ⟨b10, 0, none⟩) (0 + P + 1) cb10) (0 + P + 1) _ rfl HW.out tl (its.length - P) (mc - P) (((its.drop P).map It.cells).flatten) rfl (by rw [flat_len, List.length_drop]) (tail_news HM.out hple htn) (flat_one _) (by unfold maxLen; omega) (by omega) (Nat.le_of_lt (Nat.lt_of_le_of_lt (HW.out.lt b10 rfl).1 (HW.out.lt b10 rfl).2)) ?_
                  intro v_ x17 ho_ hg_ hnil_
                  obtain ⟨b14, cb14, rfl⟩ := own_nn_form ho_ (fun e_ => absurd (hnil_.1 e_).1 (by simp))
                  have n_HP := Lib.hid (HP.out.grown hg_ (fun e_ => own_ne_blk HW.out HP.out (by decide) e_.symm))
                  have n_HV := Lib.hid (OwnP.grown HV.out hg_ (own_ne_own HV.out HW.out (by decide)))
                  have n_HM := Lib.hid (HM.out.kept hg_ (fun g_ e_ => by cases e_; exact .inr (Nat.le_trans HQ9.out (HW.out.lt b10 rfl).1)))
                  have n_H9 := Lib.hid (H9.out.grown hg_ (fun e_ => own_ne_blk HW.out H9.out (by decide) e_.symm))
                  have n_H10 := Lib.hid (H10.out.grown hg_ (fun e_ => own_ne_blk HW.out H10.out (by decide) e_.symm))
                  have n_HK := Lib.hid (HK.out.grown hg_ HK.out.size (fun k_ e_ => by cases e_; exact Nat.le_trans HQB.out (HW.out.lt b10 rfl).1))
                  have n_H15 := Lib.hid (H15.out.grown hg_ (fun e_ => own_ne_blk HW.out H15.out (by decide) e_.symm))
                  have n_HW := Lib.hid (ho_)
                  clear HP HV HM H9 H10 HK H15 HW
                  have HP := n_HP
                  have HV := n_HV
                  have HM := n_HM
                  have H9 := n_H9
                  have H10 := n_H10
                  have HK := n_HK
                  have H15 := n_H15
                  have HW := n_HW
                  clear n_HP n_HV n_HM n_H9 n_H10 n_HK n_H15 n_HW
                  clear ho_ hg_ hnil_
                  clear z5_
                  have z5_ : x17.cell? ⟨g9, 5, none⟩ = some (.bool al) := H9.out.cell 5
                  refine hK.out _ _ ⟨H10.out, z5_⟩ (fun hHeld => ?_)
                  clear hK K
                  refine norm_ (a' := ?_) ?_ ?_
                  rotate_left
                  · show Act.put _ (some 130) _ = _
                    simp only [Act.put, List.setIfInBounds_toArray, List.set_cons_zero, List.set_cons_succ]
                    rfl
                  refine pure_ (i := 15) (N := some 18) (v := ?_) (a' := ?_) #[true, true, true, true, true, true, true, true, true, true, true, true, true, true, true, true] rfl rfl (by kernel_rfl) (fun _ _ _ h => h) (Or.inl ⟨by rfl, ?_⟩) ?_ ?_
                  rotate_left
                  · intro w'
                    go_simp
                    with_reducible rfl
                  rotate_left
                  · simp only [Act.put, List.setIfInBounds_toArray, List.set_cons_zero, List.set_cons_succ, i64_w, i32_w]
                    rfl
                  refine done_ (by kernel_rfl) ?_
                  go_wp2_with fail
                  go_meet
                  have hle_ : 0 + P + 1 + (its.length - P) = (insAt its P (⟨xk, ap, xs, al⟩ : It)).length := by rw [insAt_len _ _ _ hple]; omega
                  have hxs_ : (([] ++ ((its.take P).map It.cells).flatten) ++ ([(⟨xk, ap, xs, al⟩ : It)].map It.cells).flatten) ++ ((its.drop P).map It.cells).flatten = ((insAt its P (⟨xk, ap, xs, al⟩ : It)).map It.cells).flatten := by rw [← ins_flat]; simp
                  have hW_ := HW.out
                  rw [hxs_] at hW_
                  have hW2_ := hW_
                  rw [hle_] at hW2_
                  exact ⟨insAt its P (⟨xk, ap, xs, al⟩ : It), b14, 0, cb14, 0, 2, P, slotOf (⟨xk, ap, xs, al⟩ : It), ⟨#[]⟩, rfl, rfl, (by rw [← hle_, Nat.zero_add]), own_cap hW2_, H15, Lib.hid (RowsI.mono (RowsI.of_own hW2_) HQP.out (Nat.le_refl _) (Nat.le_refl _)), Lib.hid (ins_act HL.out (HX.out al) HPQ.out.symm HI1.out lsn hd hhd ak an Q5.out), HP, HV, HM, H9, H10, HK⟩
        case rest =>
        clear HP HV HM H9 H10 HK H15 HO HKgk HG15k
        obtain ⟨its2, kb, ko, kc2, fi, qk, qa, qs, qo, rfl, rfl, rfl, hkc2, H15, HR, HACT, HP, HV, HM, H9, H10, HK⟩ := hcut
        rcases HACT.out with hfi | ⟨hfi, hap⟩
        · have f0_ : decide (fi = 0) = false := decide_eq_false hfi
          have f1_ : (fi == 0) = false := by simp [hfi]
          clear HACT
          go_wp2_with fail
          go_roundw
          case rel => exact ⟨k + 1, its, lsn, hd, Vp, mb, mo, mc, rfl, by first | rfl | go_num, by omega, by omega, hhd, hmc, HL, HP, HV, Lib.hid HM.out.top, HK⟩
          case measure => simp [intOf]; omega
        · subst hfi
          clear HACT HM H10
          have HSZ := Lib.hid (show ∀ x ∈ List.map slotOf its, x.size ≤ 140737488350000 from fun x hx_ => by obtain ⟨y, hy_, rfl⟩ := List.mem_map.1 hx_; have h3_ := (HL.out.good y hy_).2.2.2.2; rw [slotOf_size]; omega)
          rcases hap with hap | ⟨hd2, hhd2, hap, hl2, h5⟩
          · have HAP := Lib.hid hap
            as_aux_lemma =>
              clear hap
              go_upto_region 42 with (first | (with_reducible refine isLoadN 28 (.tmp 5) ?_; with_unfolding_all refine wpList_load_row rfl 28 (.tmp 5) rfl gp (by kernel_rfl) 28 #[.int .u32 3, .int .u64 lsn, .int .i64 3, .string (HD hd), Vp] (0, 0) _ HP.out Try.underlying28 rfl (by kernel_rfl) ?_) | (with_reducible refine isLoadN 38 (.tmp 15) ?_; with_unfolding_all refine wpList_load_row rfl 38 (.tmp 15) rfl g15 (by kernel_rfl) 38 #[.int .i64 qk, .int .i64 qa, .string qs, .string qo] (0, 0) _ H15.out Try.underlying38 rfl (by kernel_rfl) ?_) | (go_at_call 11; refine (ap_own 3 lsn 3 (HD hd) qk qa qs qo 2 HV.out (by rw [List.length_map]; omega) HSZ.out (by rw [HD_size]; omega)).mono ?_; rintro e w10 ⟨vq, he_, ho_, hb5⟩; rw [HAP.out] at he_ ho_; subst he_; have HQ := Lib.hid (OwnP.lower (show OwnP w10 _ vq ([] : List ByteArray) from ho_) HK.out.size); clear ho_; obtain ⟨Aq, cq, hVq⟩ := own_len HQ.out (show List.length ([] : List ByteArray) = 0 by first | rfl | exact List.length_map _); subst hVq; have n_HP := Lib.hid (HP.out.step hb5); have n_HR := Lib.hid (HR.out.below hb5); have n_H9 := Lib.hid (H9.out.step hb5); have n_H15 := Lib.hid (H15.out.step hb5); have n_HK := Lib.hid (HK.out.trans (hb5.mono HK.out.size)); clear hb5 HP HR H9 H15 HK; have HP := n_HP; have HR := n_HR; have H9 := n_H9; have H15 := n_H15; have HK := n_HK; clear n_HP n_HR n_H9 n_H15 n_HK) | (with_reducible refine isStoreN 28 (.tmp 19) (.tmp 196) ?_; with_unfolding_all refine wpList_store_row rfl 28 (.tmp 19) (.tmp 196) rfl w10.heap.size #[.int .u32 0, .int .u64 0, .int .i64 0, .string ⟨#[]⟩, .slice Aq 0 cq] (by kernel_rfl) (by kernel_rfl) 28 #[.int .u32 0, .int .u64 0, .int .i64 0, .string ⟨#[]⟩, .slice none 0 0] (Blk.new w10 28 #[.int .u32 0, .int .u64 0, .int .i64 0, .string ⟨#[]⟩, .slice none 0 0]) (by kernel_rfl) rfl (by simp [Value.oneCell']) ?_))
              have hB := Lib.hid (blk_setRow (cs' := #[.int .u32 0, .int .u64 0, .int .i64 0, .string ⟨#[]⟩, .slice Aq 0 cq]) (Blk.new w10 28 #[.int .u32 0, .int .u64 0, .int .i64 0, .string ⟨#[]⟩, .slice none 0 0]))
              have hb5 := setRow_below (balloc (Below.refl w10.heap.size w10) (.cells #[.int .u32 0, .int .u64 0, .int .i64 0, .string ⟨#[]⟩, .slice none 0 0] 28)) (Nat.le_refl w10.heap.size) #[.int .u32 0, .int .u64 0, .int .i64 0, .string ⟨#[]⟩, .slice Aq 0 cq]
              have n_HP := Lib.hid (HP.out.step hb5)
              have n_HR := Lib.hid (HR.out.below hb5)
              have n_H9 := Lib.hid (H9.out.step hb5)
              have n_H15 := Lib.hid (H15.out.step hb5)
              have n_HK := Lib.hid (HK.out.trans (hb5.mono HK.out.size))
              clear hb5 HP HR H9 H15 HK
              have HP := n_HP
              have HR := n_HR
              have H9 := n_H9
              have H15 := n_H15
              have HK := n_HK
              clear n_HP n_HR n_H9 n_H15 n_HK
              generalize ((w10.alloc (.cells #[.int .u32 0, .int .u64 0, .int .i64 0, .string ⟨#[]⟩, .slice none 0 0] 28)).setRow w10.heap.size #[.int .u32 0, .int .u64 0, .int .i64 0, .string ⟨#[]⟩, .slice Aq 0 cq]) = w12 at *
              generalize w10.heap.size = g19 at *
              have H19 := hB
              clear hB
              go_wp2_with fail
              go_ret
              exact ⟨rfl, HK.out⟩
          · have HAP := Lib.hid hap
            as_aux_lemma =>
              have HL2 := Lib.hid hl2
              have H5_ := Lib.hid h5
              clear hap hl2 h5
              go_upto_region 42 with (first | (with_reducible refine isLoadN 28 (.tmp 5) ?_; with_unfolding_all refine wpList_load_row rfl 28 (.tmp 5) rfl gp (by kernel_rfl) 28 #[.int .u32 3, .int .u64 lsn, .int .i64 3, .string (HD hd), Vp] (0, 0) _ HP.out Try.underlying28 rfl (by kernel_rfl) ?_) | (with_reducible refine isLoadN 38 (.tmp 15) ?_; with_unfolding_all refine wpList_load_row rfl 38 (.tmp 15) rfl g15 (by kernel_rfl) 38 #[.int .i64 qk, .int .i64 qa, .string qs, .string qo] (0, 0) _ H15.out Try.underlying38 rfl (by kernel_rfl) ?_) | (go_at_call 11; refine (ap_own 3 lsn 3 (HD hd) qk qa qs qo 2 HV.out (by rw [List.length_map]; omega) HSZ.out (by rw [HD_size]; omega)).mono ?_; rintro e w10 ⟨vq, he_, ho_, hb5⟩; rw [HAP.out] at he_ ho_; subst he_; have HQ := Lib.hid (OwnP.lower (show OwnP w10 _ vq (List.map slotOf its2) from ho_) HK.out.size); clear ho_; obtain ⟨Aq, cq, hVq⟩ := own_len HQ.out (show List.length (List.map slotOf its2) = its2.length by first | rfl | exact List.length_map _); subst hVq; have n_HP := Lib.hid (HP.out.step hb5); have n_HR := Lib.hid (HR.out.below hb5); have n_H9 := Lib.hid (H9.out.step hb5); have n_H15 := Lib.hid (H15.out.step hb5); have n_HK := Lib.hid (HK.out.trans (hb5.mono HK.out.size)); clear hb5 HP HR H9 H15 HK; have HP := n_HP; have HR := n_HR; have H9 := n_H9; have H15 := n_H15; have HK := n_HK; clear n_HP n_HR n_H9 n_H15 n_HK) | (with_reducible refine isStoreN 28 (.tmp 19) (.tmp 196) ?_; with_unfolding_all refine wpList_store_row rfl 28 (.tmp 19) (.tmp 196) rfl w10.heap.size #[.int .u32 3, .int .u64 2, .int .i64 3, .string (HD hd2), (.slice Aq its2.length cq)] (by kernel_rfl) (by kernel_rfl) 28 #[.int .u32 0, .int .u64 0, .int .i64 0, .string ⟨#[]⟩, .slice none 0 0] (Blk.new w10 28 #[.int .u32 0, .int .u64 0, .int .i64 0, .string ⟨#[]⟩, .slice none 0 0]) (by kernel_rfl) rfl (sh_oneL _ _ _ _ _) ?_))
              have hB := Lib.hid (blk_setRow (cs' := #[.int .u32 3, .int .u64 2, .int .i64 3, .string (HD hd2), (.slice Aq its2.length cq)]) (Blk.new w10 28 #[.int .u32 0, .int .u64 0, .int .i64 0, .string ⟨#[]⟩, .slice none 0 0]))
              have hb5 := setRow_below (balloc (Below.refl w10.heap.size w10) (.cells #[.int .u32 0, .int .u64 0, .int .i64 0, .string ⟨#[]⟩, .slice none 0 0] 28)) (Nat.le_refl w10.heap.size) #[.int .u32 3, .int .u64 2, .int .i64 3, .string (HD hd2), (.slice Aq its2.length cq)]
              have n_HP := Lib.hid (HP.out.step hb5)
              have n_HR := Lib.hid (HR.out.below hb5)
              have n_H9 := Lib.hid (H9.out.step hb5)
              have n_H15 := Lib.hid (H15.out.step hb5)
              have n_HK := Lib.hid (HK.out.trans (hb5.mono HK.out.size))
              have n_HQ := Lib.hid (HQ.out.below hb5)
              clear hb5 HP HR H9 H15 HK HQ
              have HP := n_HP
              have HR := n_HR
              have H9 := n_H9
              have H15 := n_H15
              have HK := n_HK
              have HQ := n_HQ
              clear n_HP n_HR n_H9 n_H15 n_HK n_HQ
              generalize ((w10.alloc (.cells #[.int .u32 0, .int .u64 0, .int .i64 0, .string ⟨#[]⟩, .slice none 0 0] 28)).setRow w10.heap.size #[.int .u32 3, .int .u64 2, .int .i64 3, .string (HD hd2), (.slice Aq its2.length cq)]) = w12 at *
              generalize w10.heap.size = g19 at *
              have H19 := hB
              clear hB
              go_upto_region 45 with (first | (with_reducible refine isLoadN 28 (.tmp 19) ?_; with_unfolding_all refine wpList_load_row rfl 28 (.tmp 19) rfl g19 (by kernel_rfl) 28 #[.int .u32 3, .int .u64 2, .int .i64 3, .string (HD hd2), (.slice Aq its2.length cq)] (0, 0) _ H19.out Try.underlying28 rfl (by kernel_rfl) ?_) | (with_reducible refine isStoreN 28 (.tmp 5) (.tmp 202) ?_; with_unfolding_all refine wpList_store_row rfl 28 (.tmp 5) (.tmp 202) rfl gp #[.int .u32 3, .int .u64 2, .int .i64 3, .string (HD hd2), (.slice Aq its2.length cq)] (by kernel_rfl) (by kernel_rfl) 28 #[.int .u32 3, .int .u64 lsn, .int .i64 3, .string (HD hd), Vp] HP.out rfl (by kernel_rfl) (sh_oneL _ _ _ _ _) ?_))
              have n_HP := Lib.hid (blk_setRow (cs' := #[.int .u32 3, .int .u64 2, .int .i64 3, .string (HD hd2), (.slice Aq its2.length cq)]) HP.out)
              have n_H9 := Lib.hid (blk_setRowL H9.out #[.int .u32 3, .int .u64 2, .int .i64 3, .string (HD hd2), (.slice Aq its2.length cq)] (Ne.symm (Nat.ne_of_lt HG9.out)))
              have n_HQ := Lib.hid (OwnP.setRow (cs' := #[.int .u32 3, .int .u64 2, .int .i64 3, .string (HD hd2), (.slice Aq its2.length cq)]) HQ.out HP.out (by decide))
              have n_HR := Lib.hid (HR.out.setRow (.inl (Nat.lt_succ_self gp)) #[.int .u32 3, .int .u64 2, .int .i64 3, .string (HD hd2), (.slice Aq its2.length cq)])
              have n_HK := Lib.hid (setRow_below HK.out HGP.out #[.int .u32 3, .int .u64 2, .int .i64 3, .string (HD hd2), (.slice Aq its2.length cq)])
              clear HP H9 HQ HR HK
              have HP := n_HP
              have H9 := n_H9
              have HQ := n_HQ
              have HR := n_HR
              have HK := n_HK
              clear n_HP n_H9 n_HQ n_HR n_HK
              generalize w12.setRow gp #[.int .u32 3, .int .u64 2, .int .i64 3, .string (HD hd2), (.slice Aq its2.length cq)] = w13 at *
              clear HV H15 H19
              rcases (show ak = 5 ∨ ak ≠ 5 from by omega) with q5 | q5
              · subst q5
                as_aux_lemma =>
                  have HN5 := Lib.hid (H5_.out rfl)
                  clear H5_
                  have z0_ : w13.cell? ⟨g9, 0, none⟩ = some (.int .i64 5) := H9.out.cell 0
                  have z1_ : w13.cell? ⟨g9, 1, none⟩ = some (.int .i64 an) := H9.out.cell 1
                  refine start_ (n := 18) (S := fun w' => Blk w' gp 28 #[.int .u32 3, .int .u64 2, .int .i64 3, .string (HD hd2), (.slice Aq its2.length cq)] ∧ w'.cell? ⟨g9, 0, none⟩ = some (.int .i64 5) ∧ w'.cell? ⟨g9, 1, none⟩ = some (.int .i64 an)) (ds := []) #[false, false, false, false, false, false, false, false, false, false, false, false, false, false, false, false, false, false] (by kernel_rfl) rfl rfl ⟨HP.out, z0_, z1_⟩ (fun hHeld => ?_)
                  have hb5 := bdrew (Below.refl w13.heap.size w13)
                  have n_HP := Lib.hid (HP.out.step hb5)
                  have n_HQ := Lib.hid (HQ.out.below hb5)
                  have n_HR := Lib.hid (HR.out.below hb5)
                  have n_H9 := Lib.hid (H9.out.step hb5)
                  have n_HK := Lib.hid (HK.out.trans (hb5.mono HK.out.size))
                  clear hb5 HP HQ HR H9 HK
                  have HP := n_HP
                  have HQ := n_HQ
                  have HR := n_HR
                  have H9 := n_H9
                  have HK := n_HK
                  clear n_HP n_HQ n_HR n_H9 n_HK
                  generalize w13.drew = xd at *
                  clear z0_ z1_
                  have z0_ : xd.cell? ⟨g9, 0, none⟩ = some (.int .i64 5) := H9.out.cell 0
                  have z1_ : xd.cell? ⟨g9, 1, none⟩ = some (.int .i64 an) := H9.out.cell 1
                  refine pure_ (i := 0) (N := some 204) (v := ?_) (a' := ?_) #[true, false, false, false, false, false, false, false, false, false, false, false, false, false, false, false, false, false] rfl rfl (by kernel_rfl) (fun _ _ _ h => h) (Or.inl ⟨by rfl, ?_⟩) ?_ ?_
                  rotate_left
                  · intro w'
                    go_simp
                    with_reducible rfl
                  rotate_left
                  · simp only [Act.put, List.setIfInBounds_toArray, List.set_cons_zero, List.set_cons_succ, i64_w, i32_w]
                    rfl
                  refine take_ (i := 1) (N := some 205) (v := ?_) (a' := ?_) #[true, true, false, false, false, false, false, false, false, false, false, false, false, false, false, false, false, false] rfl rfl (by kernel_rfl) (fun _ _ _ h => h) (Or.inl ⟨by rfl, ?_⟩) hHeld ?_ ?_
                  rotate_left
                  · rintro w' ⟨s0, s1, s2⟩
                    go_simp
                    with_reducible rfl
                  rotate_left
                  · simp only [Act.put, List.setIfInBounds_toArray, List.set_cons_zero, List.set_cons_succ, i64_w, i32_w]
                    rfl
                  refine pure_ (i := 2) (N := some 206) (v := .bool true) (a' := ?_) #[true, true, true, false, false, false, false, false, false, false, false, false, false, false, false, false, false, false] rfl rfl (by kernel_rfl) (fun _ _ _ h => h) (Or.inl ⟨by rfl, ?_⟩) ?_ ?_
                  · intro w'
                    go_simp; try simp
                  rotate_left
                  · simp only [Act.put, List.setIfInBounds_toArray, List.set_cons_zero, List.set_cons_succ, i64_w, i32_w]
                    rfl
                  refine pure_ (i := 3) (N := some 207) (v := .bool true) (a' := ?_) #[true, true, true, true, false, false, false, false, false, false, false, false, false, false, false, false, false, false] rfl rfl (by kernel_rfl) (fun _ _ _ h => h) (Or.inl ⟨by rfl, ?_⟩) ?_ ?_
                  · intro w'
                    go_simp
                  rotate_left
                  · simp only [Act.put, List.setIfInBounds_toArray, List.set_cons_zero, List.set_cons_succ, i64_w, i32_w]
                    rfl
                  refine pure_ (i := 6) (N := some 210) (v := ?_) (a' := ?_) #[true, true, true, true, false, false, true, false, false, false, false, false, false, false, false, false, false, false] rfl rfl (by kernel_rfl) (fun _ _ _ h => h) (Or.inl ⟨by rfl, ?_⟩) ?_ ?_
                  rotate_left
                  · intro w'
                    go_simp
                    with_reducible rfl
                  rotate_left
                  · simp only [Act.put, List.setIfInBounds_toArray, List.set_cons_zero, List.set_cons_succ, i64_w, i32_w]
                    rfl
                  refine take_ (i := 4) (N := some 208) (v := .agg #[.int .u32 3, .int .u64 2, .int .i64 3, .string (HD hd2), (.slice Aq its2.length cq)]) (a' := ?_) #[true, true, true, true, true, false, true, false, false, false, false, false, false, false, false, false, false, false] rfl rfl (by kernel_rfl) (fun _ _ _ h => h) (yields_row 28 (.tmp 5) rfl (by rfl) gp rfl 28 #[.int .u32 3, .int .u64 2, .int .i64 3, .string (HD hd2), (.slice Aq its2.length cq)] (0, 0) _ (fun w_ h => h.1) Try.underlying28 rfl (by kernel_rfl)) hHeld ?_ ?_
                  rotate_left
                  · simp only [Act.put, List.setIfInBounds_toArray, List.set_cons_zero, List.set_cons_succ, i64_w, i32_w]
                    rfl
                  refine take_ (i := 7) (N := some 211) (v := ?_) (a' := ?_) #[true, true, true, true, true, false, true, true, false, false, false, false, false, false, false, false, false, false] rfl rfl (by kernel_rfl) (fun _ _ _ h => h) (Or.inl ⟨by rfl, ?_⟩) hHeld ?_ ?_
                  rotate_left
                  · rintro w' ⟨s0, s1, s2⟩
                    go_simp
                    with_reducible rfl
                  rotate_left
                  · simp only [Act.put, List.setIfInBounds_toArray, List.set_cons_zero, List.set_cons_succ, i64_w, i32_w]
                    rfl
                  refine pure_ (i := 8) (N := some 212) (v := .int .i64 hd2) (a' := ?_) #[true, true, true, true, true, false, true, true, true, false, false, false, false, false, false, false, false, false] rfl rfl (by kernel_rfl) (fun _ _ _ h => h) (Or.inl ⟨by rfl, ?_⟩) ?_ ?_
                  · intro w'
                    go_simp; exact HN5.out
                  rotate_left
                  · simp only [Act.put, List.setIfInBounds_toArray, List.set_cons_zero, List.set_cons_succ, i64_w, i32_w]
                    rfl
                  refine pure_ (i := 9) (N := some 213) (v := .int .u32 hd2) (a' := ?_) #[true, true, true, true, true, false, true, true, true, true, false, false, false, false, false, false, false, false] rfl rfl (by kernel_rfl) (fun _ _ _ h => h) (Or.inl ⟨by rfl, ?_⟩) ?_ ?_
                  · intro w'
                    go_simp; rw [IntKind.wrap_u32]; omega
                  rotate_left
                  · simp only [Act.put, List.setIfInBounds_toArray, List.set_cons_zero, List.set_cons_succ, i64_w, i32_w]
                    rfl
                  refine one_ (i := 5) (N := some 209) #[true, true, true, true, true, true, true, true, true, true, false, false, false, false, false, false, false, false] rfl rfl (by kernel_rfl) (by decide) (fun K hK => ?_)
                  clear hHeld
                  refine goes_ Try.func15 (by kernel_rfl) rfl #[.agg #[.int .u32 3, .int .u64 2, .int .i64 3, .string (HD hd2), (.slice Aq its2.length cq)]] (by rfl) rfl rfl (by (try simp only [List.map_toArray, List.map_cons, List.map_nil]); first | done | rfl) ?_
                  refine (next_any 3 2 hd2 hhd2 HQ.out).mono ?_
                  rintro e_ x18 ⟨rfl, hb5⟩
                  have n_HP := Lib.hid (HP.out.step hb5)
                  have n_HQ := Lib.hid (HQ.out.below hb5)
                  have n_HR := Lib.hid (HR.out.below hb5)
                  have n_H9 := Lib.hid (H9.out.step hb5)
                  have n_HK := Lib.hid (HK.out.trans (hb5.mono HK.out.size))
                  clear hb5 HP HQ HR H9 HK
                  have HP := n_HP
                  have HQ := n_HQ
                  have HR := n_HR
                  have H9 := n_H9
                  have HK := n_HK
                  clear n_HP n_HQ n_HR n_H9 n_HK
                  refine ⟨_, rfl, ?_⟩
                  clear z0_ z1_
                  have z0_ : x18.cell? ⟨g9, 0, none⟩ = some (.int .i64 5) := H9.out.cell 0
                  have z1_ : x18.cell? ⟨g9, 1, none⟩ = some (.int .i64 an) := H9.out.cell 1
                  refine hK.out _ _ ⟨HP.out, z0_, z1_⟩ (fun hHeld => ?_)
                  clear hK K
                  refine norm_ (a' := ?_) ?_ ?_
                  rotate_left
                  · show Act.put _ (some 209) _ = _
                    simp only [Act.put, List.setIfInBounds_toArray, List.set_cons_zero, List.set_cons_succ]
                    rfl
                  refine pure_ (i := 10) (N := some 214) (v := .bool false) (a' := ?_) #[true, true, true, true, true, true, true, true, true, true, true, false, false, false, false, false, false, false] rfl rfl (by kernel_rfl) (fun _ _ _ h => h) (Or.inl ⟨by rfl, ?_⟩) ?_ ?_
                  · intro w'
                    go_simp; try simp
                  rotate_left
                  · simp only [Act.put, List.setIfInBounds_toArray, List.set_cons_zero, List.set_cons_succ, i64_w, i32_w]
                    rfl
                  refine pure_ (i := 11) (N := some 215) (v := .bool false) (a' := ?_) #[true, true, true, true, true, true, true, true, true, true, true, true, false, false, false, false, false, false] rfl rfl (by kernel_rfl) (fun _ _ _ h => h) (Or.inl ⟨by rfl, ?_⟩) ?_ ?_
                  · intro w'
                    go_simp; try simp
                  rotate_left
                  · simp only [Act.put, List.setIfInBounds_toArray, List.set_cons_zero, List.set_cons_succ, i64_w, i32_w]
                    rfl
                  refine pure_ (i := 12) (N := some 216) (v := .bool false) (a' := ?_) #[true, true, true, true, true, true, true, true, true, true, true, true, true, false, false, false, false, false] rfl rfl (by kernel_rfl) (fun _ _ _ h => h) (Or.inl ⟨by rfl, ?_⟩) ?_ ?_
                  · intro w'
                    go_simp
                  rotate_left
                  · simp only [Act.put, List.setIfInBounds_toArray, List.set_cons_zero, List.set_cons_succ, i64_w, i32_w]
                    rfl
                  refine pure_ (i := 14) (N := some 218) (v := ?_) (a' := ?_) #[true, true, true, true, true, true, true, true, true, true, true, true, true, false, true, false, false, false] rfl rfl (by kernel_rfl) (fun _ _ _ h => h) (Or.inl ⟨by rfl, ?_⟩) ?_ ?_
                  rotate_left
                  · intro w'
                    go_simp
                    with_reducible rfl
                  rotate_left
                  · simp only [Act.put, List.setIfInBounds_toArray, List.set_cons_zero, List.set_cons_succ, i64_w, i32_w]
                    rfl
                  refine take_ (i := 13) (N := some 217) (v := .agg #[.int .u32 3, .int .u64 2, .int .i64 3, .string (HD hd2), (.slice Aq its2.length cq)]) (a' := ?_) #[true, true, true, true, true, true, true, true, true, true, true, true, true, true, true, false, false, false] rfl rfl (by kernel_rfl) (fun _ _ _ h => h) (yields_row 28 (.tmp 5) rfl (by rfl) gp rfl 28 #[.int .u32 3, .int .u64 2, .int .i64 3, .string (HD hd2), (.slice Aq its2.length cq)] (0, 0) _ (fun w_ h => h.1) Try.underlying28 rfl (by kernel_rfl)) hHeld ?_ ?_
                  rotate_left
                  · simp only [Act.put, List.setIfInBounds_toArray, List.set_cons_zero, List.set_cons_succ, i64_w, i32_w]
                    rfl
                  refine one_ (i := 15) (N := some 219) #[true, true, true, true, true, true, true, true, true, true, true, true, true, true, true, true, false, false] rfl rfl (by kernel_rfl) (by decide) (fun K hK => ?_)
                  clear hHeld
                  refine goes_ Try.func22 (by kernel_rfl) rfl #[.agg #[.int .u32 3, .int .u64 2, .int .i64 3, .string (HD hd2), (.slice Aq its2.length cq)], .slice (some ⟨kb, ko, none⟩) its2.length kc2] (by rfl) rfl rfl (by (try simp only [List.map_toArray, List.map_cons, List.map_nil]); first | done | rfl) ?_
                  refine (says_any 2 hd2 HL2.out HQ.out HR.out).mono ?_
                  rintro e_ x19 ⟨rfl, hb5⟩
                  have n_HP := Lib.hid (HP.out.step hb5)
                  have n_HQ := Lib.hid (HQ.out.below hb5)
                  have n_HR := Lib.hid (HR.out.below hb5)
                  have n_H9 := Lib.hid (H9.out.step hb5)
                  have n_HK := Lib.hid (HK.out.trans (hb5.mono HK.out.size))
                  clear hb5 HP HQ HR H9 HK
                  have HP := n_HP
                  have HQ := n_HQ
                  have HR := n_HR
                  have H9 := n_H9
                  have HK := n_HK
                  clear n_HP n_HQ n_HR n_H9 n_HK
                  refine ⟨_, rfl, ?_⟩
                  clear z0_ z1_
                  have z0_ : x19.cell? ⟨g9, 0, none⟩ = some (.int .i64 5) := H9.out.cell 0
                  have z1_ : x19.cell? ⟨g9, 1, none⟩ = some (.int .i64 an) := H9.out.cell 1
                  refine hK.out _ _ ⟨HP.out, z0_, z1_⟩ (fun hHeld => ?_)
                  clear hK K
                  refine norm_ (a' := ?_) ?_ ?_
                  rotate_left
                  · show Act.put _ (some 219) _ = _
                    simp only [Act.put, List.setIfInBounds_toArray, List.set_cons_zero, List.set_cons_succ]
                    rfl
                  refine pure_ (i := 16) (N := some 220) (v := .bool false) (a' := ?_) #[true, true, true, true, true, true, true, true, true, true, true, true, true, true, true, true, true, false] rfl rfl (by kernel_rfl) (fun _ _ _ h => h) (Or.inl ⟨by rfl, ?_⟩) ?_ ?_
                  · intro w'
                    go_simp; try simp
                  rotate_left
                  · simp only [Act.put, List.setIfInBounds_toArray, List.set_cons_zero, List.set_cons_succ, i64_w, i32_w]
                    rfl
                  refine pure_ (i := 17) (N := some 221) (v := .bool false) (a' := ?_) #[true, true, true, true, true, true, true, true, true, true, true, true, true, true, true, true, true, true] rfl rfl (by kernel_rfl) (fun _ _ _ h => h) (Or.inl ⟨by rfl, ?_⟩) ?_ ?_
                  · intro w'
                    go_simp
                  rotate_left
                  · simp only [Act.put, List.setIfInBounds_toArray, List.set_cons_zero, List.set_cons_succ, i64_w, i32_w]
                    rfl
                  refine done_ (by kernel_rfl) ?_
                  clear z0_ z1_
                  go_wp2_with fail
                  go_roundw
                  case rel => exact ⟨k + 1, its2, 2, hd2, _, kb, ko, kc2, rfl, by first | rfl | go_num, by omega, by omega, hhd2, hkc2, HL2, HP, HQ, Lib.hid HR.out.top, HK⟩
                  case measure => simp [intOf]; omega
              · clear H5_
                as_aux_lemma =>
                  have z0_ : w13.cell? ⟨g9, 0, none⟩ = some (.int .i64 ak) := H9.out.cell 0
                  have z1_ : w13.cell? ⟨g9, 1, none⟩ = some (.int .i64 an) := H9.out.cell 1
                  refine start_ (n := 18) (S := fun w' => Blk w' gp 28 #[.int .u32 3, .int .u64 2, .int .i64 3, .string (HD hd2), (.slice Aq its2.length cq)] ∧ w'.cell? ⟨g9, 0, none⟩ = some (.int .i64 ak) ∧ w'.cell? ⟨g9, 1, none⟩ = some (.int .i64 an)) (ds := []) #[false, false, false, false, false, false, false, false, false, false, false, false, false, false, false, false, false, false] (by kernel_rfl) rfl rfl ⟨HP.out, z0_, z1_⟩ (fun hHeld => ?_)
                  have hb5 := bdrew (Below.refl w13.heap.size w13)
                  have n_HP := Lib.hid (HP.out.step hb5)
                  have n_HQ := Lib.hid (HQ.out.below hb5)
                  have n_HR := Lib.hid (HR.out.below hb5)
                  have n_H9 := Lib.hid (H9.out.step hb5)
                  have n_HK := Lib.hid (HK.out.trans (hb5.mono HK.out.size))
                  clear hb5 HP HQ HR H9 HK
                  have HP := n_HP
                  have HQ := n_HQ
                  have HR := n_HR
                  have H9 := n_H9
                  have HK := n_HK
                  clear n_HP n_HQ n_HR n_H9 n_HK
                  generalize w13.drew = xd at *
                  clear z0_ z1_
                  have z0_ : xd.cell? ⟨g9, 0, none⟩ = some (.int .i64 ak) := H9.out.cell 0
                  have z1_ : xd.cell? ⟨g9, 1, none⟩ = some (.int .i64 an) := H9.out.cell 1
                  refine pure_ (i := 0) (N := some 204) (v := ?_) (a' := ?_) #[true, false, false, false, false, false, false, false, false, false, false, false, false, false, false, false, false, false] rfl rfl (by kernel_rfl) (fun _ _ _ h => h) (Or.inl ⟨by rfl, ?_⟩) ?_ ?_
                  rotate_left
                  · intro w'
                    go_simp
                    with_reducible rfl
                  rotate_left
                  · simp only [Act.put, List.setIfInBounds_toArray, List.set_cons_zero, List.set_cons_succ, i64_w, i32_w]
                    rfl
                  refine take_ (i := 1) (N := some 205) (v := ?_) (a' := ?_) #[true, true, false, false, false, false, false, false, false, false, false, false, false, false, false, false, false, false] rfl rfl (by kernel_rfl) (fun _ _ _ h => h) (Or.inl ⟨by rfl, ?_⟩) hHeld ?_ ?_
                  rotate_left
                  · rintro w' ⟨s0, s1, s2⟩
                    go_simp
                    with_reducible rfl
                  rotate_left
                  · simp only [Act.put, List.setIfInBounds_toArray, List.set_cons_zero, List.set_cons_succ, i64_w, i32_w]
                    rfl
                  refine pure_ (i := 2) (N := some 206) (v := .bool false) (a' := ?_) #[true, true, true, false, false, false, false, false, false, false, false, false, false, false, false, false, false, false] rfl rfl (by kernel_rfl) (fun _ _ _ h => h) (Or.inl ⟨by rfl, ?_⟩) ?_ ?_
                  · intro w'
                    go_simp; (try exact q5)
                  rotate_left
                  · simp only [Act.put, List.setIfInBounds_toArray, List.set_cons_zero, List.set_cons_succ, i64_w, i32_w]
                    rfl
                  refine pure_ (i := 3) (N := some 207) (v := .bool false) (a' := ?_) #[true, true, true, true, false, false, false, false, false, false, false, false, false, false, false, false, false, false] rfl rfl (by kernel_rfl) (fun _ _ _ h => h) (Or.inl ⟨by rfl, ?_⟩) ?_ ?_
                  · intro w'
                    go_simp
                  rotate_left
                  · simp only [Act.put, List.setIfInBounds_toArray, List.set_cons_zero, List.set_cons_succ, i64_w, i32_w]
                    rfl
                  refine pure_ (i := 4) (N := some 208) (v := undef) (a' := ?_) #[true, true, true, true, true, false, false, false, false, false, false, false, false, false, false, false, false, false] rfl rfl (by kernel_rfl) (fun _ _ _ h => h) (Or.inr ⟨by rfl, rfl⟩) ?_ ?_
                  rotate_left
                  · simp only [Act.put, List.setIfInBounds_toArray, List.set_cons_zero, List.set_cons_succ, i64_w, i32_w]
                    rfl
                  refine pure_ (i := 5) (N := some 209) (v := undef) (a' := ?_) #[true, true, true, true, true, true, false, false, false, false, false, false, false, false, false, false, false, false] rfl rfl (by kernel_rfl) (fun _ _ _ h => h) (Or.inr ⟨by rfl, rfl⟩) ?_ ?_
                  rotate_left
                  · simp only [Act.put, List.setIfInBounds_toArray, List.set_cons_zero, List.set_cons_succ, i64_w, i32_w]
                    rfl
                  refine pure_ (i := 6) (N := some 210) (v := undef) (a' := ?_) #[true, true, true, true, true, true, true, false, false, false, false, false, false, false, false, false, false, false] rfl rfl (by kernel_rfl) (fun _ _ _ h => h) (Or.inr ⟨by rfl, rfl⟩) ?_ ?_
                  rotate_left
                  · simp only [Act.put, List.setIfInBounds_toArray, List.set_cons_zero, List.set_cons_succ, i64_w, i32_w]
                    rfl
                  refine pure_ (i := 7) (N := some 211) (v := undef) (a' := ?_) #[true, true, true, true, true, true, true, true, false, false, false, false, false, false, false, false, false, false] rfl rfl (by kernel_rfl) (fun _ _ _ h => h) (Or.inr ⟨by rfl, rfl⟩) ?_ ?_
                  rotate_left
                  · simp only [Act.put, List.setIfInBounds_toArray, List.set_cons_zero, List.set_cons_succ, i64_w, i32_w]
                    rfl
                  refine pure_ (i := 8) (N := some 212) (v := undef) (a' := ?_) #[true, true, true, true, true, true, true, true, true, false, false, false, false, false, false, false, false, false] rfl rfl (by kernel_rfl) (fun _ _ _ h => h) (Or.inr ⟨by rfl, rfl⟩) ?_ ?_
                  rotate_left
                  · simp only [Act.put, List.setIfInBounds_toArray, List.set_cons_zero, List.set_cons_succ, i64_w, i32_w]
                    rfl
                  refine pure_ (i := 9) (N := some 213) (v := undef) (a' := ?_) #[true, true, true, true, true, true, true, true, true, true, false, false, false, false, false, false, false, false] rfl rfl (by kernel_rfl) (fun _ _ _ h => h) (Or.inr ⟨by rfl, rfl⟩) ?_ ?_
                  rotate_left
                  · simp only [Act.put, List.setIfInBounds_toArray, List.set_cons_zero, List.set_cons_succ, i64_w, i32_w]
                    rfl
                  refine pure_ (i := 10) (N := some 214) (v := undef) (a' := ?_) #[true, true, true, true, true, true, true, true, true, true, true, false, false, false, false, false, false, false] rfl rfl (by kernel_rfl) (fun _ _ _ h => h) (Or.inr ⟨by rfl, rfl⟩) ?_ ?_
                  rotate_left
                  · simp only [Act.put, List.setIfInBounds_toArray, List.set_cons_zero, List.set_cons_succ, i64_w, i32_w]
                    rfl
                  refine pure_ (i := 11) (N := some 215) (v := .bool false) (a' := ?_) #[true, true, true, true, true, true, true, true, true, true, true, true, false, false, false, false, false, false] rfl rfl (by kernel_rfl) (fun _ _ _ h => h) (Or.inl ⟨by rfl, ?_⟩) ?_ ?_
                  · intro w'
                    go_simp
                  rotate_left
                  · simp only [Act.put, List.setIfInBounds_toArray, List.set_cons_zero, List.set_cons_succ, i64_w, i32_w]
                    rfl
                  refine pure_ (i := 12) (N := some 216) (v := .bool false) (a' := ?_) #[true, true, true, true, true, true, true, true, true, true, true, true, true, false, false, false, false, false] rfl rfl (by kernel_rfl) (fun _ _ _ h => h) (Or.inl ⟨by rfl, ?_⟩) ?_ ?_
                  · intro w'
                    go_simp
                  rotate_left
                  · simp only [Act.put, List.setIfInBounds_toArray, List.set_cons_zero, List.set_cons_succ, i64_w, i32_w]
                    rfl
                  refine pure_ (i := 14) (N := some 218) (v := ?_) (a' := ?_) #[true, true, true, true, true, true, true, true, true, true, true, true, true, false, true, false, false, false] rfl rfl (by kernel_rfl) (fun _ _ _ h => h) (Or.inl ⟨by rfl, ?_⟩) ?_ ?_
                  rotate_left
                  · intro w'
                    go_simp
                    with_reducible rfl
                  rotate_left
                  · simp only [Act.put, List.setIfInBounds_toArray, List.set_cons_zero, List.set_cons_succ, i64_w, i32_w]
                    rfl
                  refine take_ (i := 13) (N := some 217) (v := .agg #[.int .u32 3, .int .u64 2, .int .i64 3, .string (HD hd2), (.slice Aq its2.length cq)]) (a' := ?_) #[true, true, true, true, true, true, true, true, true, true, true, true, true, true, true, false, false, false] rfl rfl (by kernel_rfl) (fun _ _ _ h => h) (yields_row 28 (.tmp 5) rfl (by rfl) gp rfl 28 #[.int .u32 3, .int .u64 2, .int .i64 3, .string (HD hd2), (.slice Aq its2.length cq)] (0, 0) _ (fun w_ h => h.1) Try.underlying28 rfl (by kernel_rfl)) hHeld ?_ ?_
                  rotate_left
                  · simp only [Act.put, List.setIfInBounds_toArray, List.set_cons_zero, List.set_cons_succ, i64_w, i32_w]
                    rfl
                  refine one_ (i := 15) (N := some 219) #[true, true, true, true, true, true, true, true, true, true, true, true, true, true, true, true, false, false] rfl rfl (by kernel_rfl) (by decide) (fun K hK => ?_)
                  clear hHeld
                  refine goes_ Try.func22 (by kernel_rfl) rfl #[.agg #[.int .u32 3, .int .u64 2, .int .i64 3, .string (HD hd2), (.slice Aq its2.length cq)], .slice (some ⟨kb, ko, none⟩) its2.length kc2] (by rfl) rfl rfl (by (try simp only [List.map_toArray, List.map_cons, List.map_nil]); first | done | rfl) ?_
                  refine (says_any 2 hd2 HL2.out HQ.out HR.out).mono ?_
                  rintro e_ x20 ⟨rfl, hb5⟩
                  have n_HP := Lib.hid (HP.out.step hb5)
                  have n_HQ := Lib.hid (HQ.out.below hb5)
                  have n_HR := Lib.hid (HR.out.below hb5)
                  have n_H9 := Lib.hid (H9.out.step hb5)
                  have n_HK := Lib.hid (HK.out.trans (hb5.mono HK.out.size))
                  clear hb5 HP HQ HR H9 HK
                  have HP := n_HP
                  have HQ := n_HQ
                  have HR := n_HR
                  have H9 := n_H9
                  have HK := n_HK
                  clear n_HP n_HQ n_HR n_H9 n_HK
                  refine ⟨_, rfl, ?_⟩
                  clear z0_ z1_
                  have z0_ : x20.cell? ⟨g9, 0, none⟩ = some (.int .i64 ak) := H9.out.cell 0
                  have z1_ : x20.cell? ⟨g9, 1, none⟩ = some (.int .i64 an) := H9.out.cell 1
                  refine hK.out _ _ ⟨HP.out, z0_, z1_⟩ (fun hHeld => ?_)
                  clear hK K
                  refine norm_ (a' := ?_) ?_ ?_
                  rotate_left
                  · show Act.put _ (some 219) _ = _
                    simp only [Act.put, List.setIfInBounds_toArray, List.set_cons_zero, List.set_cons_succ]
                    rfl
                  refine pure_ (i := 16) (N := some 220) (v := .bool false) (a' := ?_) #[true, true, true, true, true, true, true, true, true, true, true, true, true, true, true, true, true, false] rfl rfl (by kernel_rfl) (fun _ _ _ h => h) (Or.inl ⟨by rfl, ?_⟩) ?_ ?_
                  · intro w'
                    go_simp; try simp
                  rotate_left
                  · simp only [Act.put, List.setIfInBounds_toArray, List.set_cons_zero, List.set_cons_succ, i64_w, i32_w]
                    rfl
                  refine pure_ (i := 17) (N := some 221) (v := .bool false) (a' := ?_) #[true, true, true, true, true, true, true, true, true, true, true, true, true, true, true, true, true, true] rfl rfl (by kernel_rfl) (fun _ _ _ h => h) (Or.inl ⟨by rfl, ?_⟩) ?_ ?_
                  · intro w'
                    go_simp
                  rotate_left
                  · simp only [Act.put, List.setIfInBounds_toArray, List.set_cons_zero, List.set_cons_succ, i64_w, i32_w]
                    rfl
                  refine done_ (by kernel_rfl) ?_
                  clear z0_ z1_
                  go_wp2_with fail
                  go_roundw
                  case rel => exact ⟨k + 1, its2, 2, hd2, _, kb, ko, kc2, rfl, by first | rfl | go_num, by omega, by omega, hhd2, hkc2, HL2, HP, HQ, Lib.hid HR.out.top, HK⟩
                  case measure => simp [intOf]; omega
      · by_cases h1 : k < l.length
        · have d1 : decide ((k : Int) < (l.length : Int)) = true := by simpa using h1
          have d2 : decide ((k : Int) < 40) = false := decide_eq_false (by omega)
          have d3 : decide (k < l.length) = true := decide_eq_true h1
          have d4 : decide (k < 40) = false := decide_eq_false (by omega)
          clear h1 hc
          go_wp2_with fail
          go_meet
          exact HK
        · have d1 : decide ((k : Int) < (l.length : Int)) = false := decide_eq_false (by omega)
          have d3 : decide (k < l.length) = false := decide_eq_false h1
          clear h1 hc
          go_wp2_with fail
          go_meet
          exact HK
  case rest =>
  go_wp2_with fail
  go_ret
  exact ⟨rfl, hcut.out⟩
end Go.Proofs.Ytfegabikfkmepaa
end
