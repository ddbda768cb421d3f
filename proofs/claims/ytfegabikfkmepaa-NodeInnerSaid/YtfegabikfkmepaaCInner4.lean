/- Children are put into an inner page in their order, and an entry goes down to the last child that does not begin behind it, as the document has it: for every level, every list of children and every entry; no condition. -/
import Derived.Test.YtfegabikfkmepaaCInner3
section
namespace Go.Proofs.Ytfegabikfkmepaa
open Go.RowKit Go.Gi Go.GiRow Go.Proofs.YtfegabikfkmepaaW.PrintWords Go.Proofs.YtfegabikfkmepaaW.PrintLast Go.Proofs.YtfegabikfkmepaaW.PrintMore PNe
set_option maxRecDepth 20000
set_option linter.unusedSimpArgs false
set_option linter.unusedVariables false
theorem blk_setRowI {w : World} {g T b : Nat} {cs : Array Value} (hb : Blk w g T cs) (cs' : Array Value) (h : g ≠ b) : Blk (w.setRow b cs') g T cs := (setRow_other w b g cs' h).trans hb
theorem own_setRowI {w : World} {base g n : Nat} {v : Value} {size : Nat} {e : TypeId} {xs : List Value} {cs' : Array Value} (h : w.ownsRow base e size v n xs) (hne : v.ownBlock ≠ some g) : (w.setRow g cs').ownsRow base e size v n xs :=
  h.kept (row := some g) ⟨rfl, rfl, rfl, by simp, fun k hk hn => setRow_other w g k cs' (fun e => hn (by rw [e]))⟩ (.inr hne)
theorem own_newI {w : World} {base n : Nat} {e : TypeId} {size : Nat} {v : Value} {xs : List Value} (h : w.ownsRow base e size v n xs) : v.ownBlock ≠ some w.heap.size := fun e => Nat.lt_irrefl _ (h.lt _ e).2
theorem infoCH : (Try.prog.info? 66).map (fun i => (i.zero, i.size, i.bytes)) = some (some (.agg #[.int .u32 0, .string ⟨#[]⟩, .int .u32 0, .int .i64 0]), 4, 40) := by kernel_rfl
theorem flat_snocI (l : List ChN) (x : ChN) : ((l ++ [x]).map ChN.cells).flatten = (l.map ChN.cells).flatten ++ ChN.cells x := by simp
theorem sh_one (lsn : Int) (lv : Nat) (A : Option Addr) (n c : Nat) : (#[Value.int .u32 3, .int .u64 lsn, .int .i64 4, .string (H1 lv), .slice A n c]).all (·.oneCell') = true := by simp [Value.oneCell']
theorem good_snoc {l : List ChN} {x : ChN} (hl : ∀ y ∈ l, ChN.Good y) (hx : ChN.Good x) : ∀ y ∈ l ++ [x], ChN.Good y := fun y hy => by
  rcases List.mem_append.1 hy with h | h
  · exact hl y h
  · rw [List.mem_singleton.1 h]; exact hx
theorem slot_last {ms ms1 : List ChN} {x : ChN} {k : Nat} (h1 : ms1 = ms ++ [x]) (hk : ms.length = k) {h : k < (List.map cslot ms1).length} : (List.map cslot ms1)[k]'h = cslot x := by
  subst h1 hk
  simp
set_option maxHeartbeats 64000000 in
theorem nodeInner_any (lv : Nat) (hlv : lv ≤ 255) (A0 : Option Addr) (c0 : Nat) (l : List ChN) (ek : ByteArray) (ep es : Int) (w : World) (hA : RdRows ChN.cells 4 w A0 l) (hp : ∀ x ∈ l, (0 ≤ x.page ∧ x.page ≤ 4294967295) ∧ 0 ≤ x.rp ∧ x.rp ≤ 4294967295) (hl : l.length ≤ 1000000000000000) (hep : 0 ≤ ep ∧ ep ≤ 4294967295) :
    Calls Try.prog 6 #[.int .u8 lv, .slice A0 l.length c0, .agg #[.string ek, .int .u32 ep, .int .i64 es]] w fun e w' => e = .returned (.bool true) ∧ Below w.heap.size w w' := by
  have HA := Lib.hid hA
  have HP := Lib.hid hp
  have HEP := Lib.hid hep
  clear hA hp hep
  obtain ⟨m15, hm, hm15⟩ := and15 es
  go_enter Try.func6, Try.ntmps6
  go_upto_region 1 with fail
  have H5 := Lib.hid (Blk.new w 43 #[.string ek, .int .u32 ep, .int .i64 es])
  have HK := Lib.hid (balloc (Below.refl w.heap.size w) (.cells #[.string ek, .int .u32 ep, .int .i64 es] 43))
  generalize w.alloc (.cells #[.string ek, .int .u32 ep, .int .i64 es] 43) = w0 at *
  have c2_ := H5.out.cell 2
  go_cut [7] from 25 to 29 (fun a wx => a = .int .i64 ((m15 : Int) - 1) ∧ Hid (Blk wx w.heap.size 43 #[.string ek, .int .u32 ep, .int .i64 es]) ∧ Hid (Below w.heap.size w wx))
  case first =>
    have hw_ : IntKind.i64.wrap ((m15 : Int) - 1) = (m15 : Int) - 1 := by rw [IntKind.wrap_i64]; omega
    have hw2_ : wrap64 ((m15 : Int) - 1) = (m15 : Int) - 1 := by unfold wrap64; omega
    go_wp2_with fail
    go_meet
    exact ⟨by first | rfl | (simp only [hm, hw_]) | (simp only [hm, hw2_]) | (simp [hm, hw_, hw2_]), H5, HK⟩
  case rest =>
  clear H5 HK c2_
  obtain ⟨h7, H5, HK⟩ := hcut
  obtain ⟨at_, hat⟩ : ∃ a, a = (m15 : Int) - 1 := ⟨_, rfl⟩
  rw [← hat] at h7
  have HAT := Lib.hid (show -1 ≤ at_ ∧ at_ ≤ 14 by omega)
  clear hat hm hm15
  subst h7
  go_upto_region 3 with (first | (go_at_call 12; refine (page_Blank.calls 3 3 0 0 ⟨#[]⟩ [] _ rfl).mono ?_; rintro e w1 ⟨v1, rfl, hR1, hb5⟩; obtain ⟨A1, m1, rfl⟩ := Kd.R_slice hR1; have hRR := Kd.R_reads' hR1; have HC := Lib.hid hRR.2.2; have HN := Lib.hid hRR.2.1; have n_5 := Lib.hid (H5.out.step hb5); have n_K := Lib.hid (HK.out.trans (hb5.mono HK.out.size)); clear hR1 hb5 hRR H5 HK; have H5 := n_5; have HK := n_K; clear n_5 n_K) | (go_at_call 23; refine (formI_any lv hlv _).mono ?_; rintro e w2 ⟨rfl, hb5⟩; have n_C := Lib.hid (Kd.C_below HC.out hb5); have n_5 := Lib.hid (H5.out.step hb5); have n_K := Lib.hid (HK.out.trans (hb5.mono HK.out.size)); clear hb5 H5 HK HC; have HC := n_C; have H5 := n_5; have HK := n_K; clear n_5 n_K n_C) | (go_at_call 11; refine (apply_any 3 0 0 ⟨#[]⟩ [] A1 m1 1 4 (H1 lv) ⟨#[]⟩ 1 _ HC.out HN.out (by simp) (by simp) (by decide)).mono ?_; rintro e w3 ⟨v3, he, ho, hb5⟩; rw [ap_fmtI] at he ho; subst he; obtain ⟨A3, m3, hv3⟩ := own_sl ho; subst hv3; have HV := Lib.hid (OwnP.lower (show OwnP w3 w2.heap.size (.slice A3 ([] : List ByteArray).length m3) (([] : List ChN).map cslot) from ho) HK.out.size); have n_5 := Lib.hid (H5.out.step hb5); have n_K := Lib.hid (HK.out.trans (hb5.mono HK.out.size)); clear ho hb5 HC H5 HK HN; have H5 := n_5; have HK := n_K; clear n_5 n_K) | (with_reducible refine isStoreN 28 (.tmp 8) (.tmp 36) ?_; with_unfolding_all refine wpList_store_row rfl 28 (.tmp 8) (.tmp 36) rfl w3.heap.size #[.int .u32 3, .int .u64 1, .int .i64 4, .string (H1 lv), (.slice A3 0 m3)] (by kernel_rfl) (by kernel_rfl) 28 #[.int .u32 0, .int .u64 0, .int .i64 0, .string ⟨#[]⟩, .slice none 0 0] (Blk.new w3 28 #[.int .u32 0, .int .u64 0, .int .i64 0, .string ⟨#[]⟩, .slice none 0 0]) (by kernel_rfl) rfl (sh_one _ _ _ _ _) ?_))
  have hB := Lib.hid (blk_setRow (cs' := #[.int .u32 3, .int .u64 1, .int .i64 4, .string (H1 lv), (.slice A3 0 m3)]) (Blk.new w3 28 #[.int .u32 0, .int .u64 0, .int .i64 0, .string ⟨#[]⟩, .slice none 0 0]))
  have HG8 := Lib.hid (Nat.ne_of_lt H5.out.lt)
  have HG8b := Lib.hid HK.out.size
  have hb5 := setRow_below (balloc (Below.refl w3.heap.size w3) (.cells #[.int .u32 0, .int .u64 0, .int .i64 0, .string ⟨#[]⟩, .slice none 0 0] 28)) (Nat.le_refl w3.heap.size) #[.int .u32 3, .int .u64 1, .int .i64 4, .string (H1 lv), (.slice A3 0 m3)]
  have n_H5 := Lib.hid (H5.out.step hb5)
  have n_HV := Lib.hid (HV.out.below hb5)
  have n_HK := Lib.hid (HK.out.trans (hb5.mono HK.out.size))
  clear hb5 H5 HV HK
  have H5 := n_H5
  have HV := n_HV
  have HK := n_HK
  clear n_H5 n_HV n_HK
  generalize ((w3.alloc (.cells #[.int .u32 0, .int .u64 0, .int .i64 0, .string ⟨#[]⟩, .slice none 0 0] 28)).setRow w3.heap.size #[.int .u32 3, .int .u64 1, .int .i64 4, .string (H1 lv), (.slice A3 0 m3)]) = w4 at *
  generalize w3.heap.size = g8 at *
  have H8 := hB
  clear hB
  go_upto_region 5 with (first | (with_reducible refine isLoadG 28 (.tmp 8) ?_; with_unfolding_all refine wpList_load_row_on rfl 28 (.tmp 8) rfl g8 (by kernel_rfl) 28 #[.int .u32 3, .int .u64 1, .int .i64 4, .string (H1 lv), (.slice A3 0 m3)] (0, 0) _ H8.out Try.underlying28 rfl (by kernel_rfl) ?_) | (go_at_call 7; refine (awake_h _).mono ?_; rintro e' w5 ⟨rfl, hb5⟩; have n_H5 := Lib.hid (H5.out.step hb5); have n_H8 := Lib.hid (H8.out.step hb5); have n_HV := Lib.hid (HV.out.below hb5); have n_HK := Lib.hid (HK.out.trans (hb5.mono HK.out.size)); clear hb5 H5 H8 HV HK; have H5 := n_H5; have H8 := n_H8; have HV := n_HV; have HK := n_HK; clear n_H5 n_H8 n_HV n_HK) | (go_at_call 24; refine (level_own 3 1 lv hlv HV.out).mono ?_; rintro e' w5 ⟨rfl, hb5⟩; have n_H5 := Lib.hid (H5.out.step hb5); have n_H8 := Lib.hid (H8.out.step hb5); have n_HV := Lib.hid (HV.out.below hb5); have n_HK := Lib.hid (HK.out.trans (hb5.mono HK.out.size)); clear hb5 H5 H8 HV HK; have H5 := n_H5; have H8 := n_H8; have HV := n_HV; have HK := n_HK; clear n_H5 n_H8 n_HV n_HK) | (with_reducible refine isGuarded ?_; refine guardOn (by with_unfolding_all rfl) ?_; intro _ _))
  go_upto_block 0 with fail
  have hgm := HK.out.size
  have HM := Lib.hid (own_of_blk (base := w.heap.size) (size := 4) (n := 0) (Blk.new w5 66 #[]) hgm rfl (by decide))
  have hb5 := balloc (Below.refl w5.heap.size w5) (.cells #[] 66)
  have n_H5 := Lib.hid (H5.out.step hb5)
  have n_H8 := Lib.hid (H8.out.step hb5)
  have n_HV := Lib.hid (HV.out.below hb5)
  have n_HK := Lib.hid (HK.out.trans (hb5.mono HK.out.size))
  clear hb5 H5 H8 HV HK
  have H5 := n_H5
  have H8 := n_H8
  have HV := n_HV
  have HK := n_HK
  clear n_H5 n_H8 n_HV n_HK
  generalize w5.alloc (.cells #[] 66) = w6 at *
  generalize w5.heap.size = gm at *
  go_cut [10, 11, 12, 13, 14] from 52 to 104 (fun mv _ _ _ _ wx => ∃ (ms : List ChN) (lsn : Int) (Vp : Value) (Vm : Value), Vm = mv ∧ ms.length ≤ 12 ∧ Hid (∀ x ∈ ms, ChN.Good x) ∧ Hid (Blk wx w.heap.size 43 #[.string ek, .int .u32 ep, .int .i64 es]) ∧ Hid (Blk wx g8 28 #[.int .u32 3, .int .u64 lsn, .int .i64 4, .string (H1 lv), Vp]) ∧ Hid (OwnP wx w.heap.size Vp (List.map cslot ms)) ∧ Hid (World.ownsRow wx w.heap.size 66 4 Vm (List.length ms) (List.map ChN.cells ms).flatten) ∧ Hid (Below w.heap.size w wx))
  case first =>
    go_wp2_with fail
    go_loopw [10, 11] (fun mv iv wr => ∃ (k : Nat) (ms : List ChN) (lsn : Int) (Vp : Value) (Vm : Value), Vm = mv ∧ iv = .int .i64 k ∧ k ≤ l.length ∧ k ≤ 12 ∧ Hid (ms.length = k) ∧ Hid (∀ x ∈ ms, ChN.Good x) ∧ Hid (Blk wr w.heap.size 43 #[.string ek, .int .u32 ep, .int .i64 es]) ∧ Hid (Blk wr g8 28 #[.int .u32 3, .int .u64 lsn, .int .i64 4, .string (H1 lv), Vp]) ∧ Hid (OwnP wr w.heap.size Vp (List.map cslot ms)) ∧ Hid (World.ownsRow wr w.heap.size 66 4 Vm (List.length ms) (List.map ChN.cells ms).flatten) ∧ Hid (Below w.heap.size w wr))
      (fun mv iv _ => l.length - (intOf iv).toNat)
    case atStart => exact ⟨0, [], 1, _, _, rfl, rfl, Nat.zero_le _, by omega, Lib.hid rfl, Lib.hid (fun x hx => absurd hx (by simp)), H5, H8, HV, HM, HK⟩
    case round =>
      clear H5 H8 HV HM HK
      obtain ⟨k, ms, lsn, Vp, Vm, rfl, rfl, hk1, hk2, HMS, HGd, H5, H8, HV, HM, HK⟩ := hrel
      by_cases hc : k < l.length ∧ k < 12
      · obtain ⟨h1, h2⟩ := hc
        have d1 : decide ((k : Int) < (l.length : Int)) = true := by simpa using h1
        have d2 : decide ((k : Int) < 12) = true := decide_eq_true (by omega)
        go_upto_region 9 with fail
        clear d1 d2
        obtain ⟨ab, off, hA0, hab, hcl⟩ := HA.out k h1
        have hpg := HP.out _ (List.getElem_mem h1)
        generalize hx_ : l[k] = x at *
        clear hx_
        obtain ⟨xp, xk, xrp, xrs⟩ := x
        have HY := Lib.hid hcl
        clear hcl
        have HX := Lib.hid (show ChN.Good ⟨xp, ek12 xk, xrp, es16 xrs⟩ from ⟨hpg.1, hpg.2, es16_le _, ek12_size _⟩)
        have i0_ : (0 : Int) ≤ k := by omega
        have i1_ : (k : Int) < l.length := by omega
        have y0 := (HK.out.cell (p := ⟨ab, off + k * 4, none⟩) hab).trans (HY.out 0 _ rfl)
        have y1 := (HK.out.cell (p := ⟨ab, off + k * 4 + 1, none⟩) hab).trans (HY.out 1 _ rfl)
        have y2 := (HK.out.cell (p := ⟨ab, off + k * 4 + 2, none⟩) hab).trans (HY.out 2 _ rfl)
        have y3 := (HK.out.cell (p := ⟨ab, off + k * 4 + 3, none⟩) hab).trans (HY.out 3 _ rfl)
        subst hA0
        go_cut [12] from 62 to 73 (fun cv wx => ∃ g12, cv = .pointer (some ⟨g12, 0, none⟩) ∧ Hid (Blk wx g12 66 #[.int .u32 xp, .string (ek12 xk), .int .u32 xrp, .int .i64 (es16 xrs)]) ∧ Hid (Vm.ownBlock ≠ some g12) ∧ Hid (g8 ≠ g12) ∧ Hid (w.heap.size ≤ g12) ∧ Hid (Blk wx w.heap.size 43 #[.string ek, .int .u32 ep, .int .i64 es]) ∧ Hid (Blk wx g8 28 #[.int .u32 3, .int .u64 lsn, .int .i64 4, .string (H1 lv), Vp]) ∧ Hid (OwnP wx w.heap.size Vp (List.map cslot ms)) ∧ Hid (World.ownsRow wx w.heap.size 66 4 Vm (List.length ms) (List.map ChN.cells ms).flatten) ∧ Hid (Below w.heap.size w wx))
        case first =>
          refine start_ (n := 14) (S := fun w' => w'.cell? ⟨ab, off + k * 4, none⟩ = some (.int .u32 xp) ∧ w'.cell? ⟨ab, off + k * 4 + 1, none⟩ = some (.string xk) ∧ w'.cell? ⟨ab, off + k * 4 + 2, none⟩ = some (.int .u32 xrp) ∧ w'.cell? ⟨ab, off + k * 4 + 3, none⟩ = some (.int .i64 xrs)) (ds := []) #[false, false, false, false, false, false, false, false, false, false, false, false, false, false] (by kernel_rfl) rfl rfl ⟨y0, y1, y2, y3⟩ (fun hHeld => ?_)
          have hb5 := bdrew (Below.refl wr.heap.size wr)
          have n_H5 := Lib.hid (H5.out.step hb5)
          have n_H8 := Lib.hid (H8.out.step hb5)
          have n_HV := Lib.hid (HV.out.below hb5)
          have n_HM := Lib.hid (own_below HM.out hb5)
          have n_HK := Lib.hid (HK.out.trans (hb5.mono HK.out.size))
          clear hb5 H5 H8 HV HM HK
          have H5 := n_H5
          have H8 := n_H8
          have HV := n_HV
          have HM := n_HM
          have HK := n_HK
          clear n_H5 n_H8 n_HV n_HM n_HK
          generalize wr.drew = xd at *
          clear y0 y1 y2 y3
          have y0 : xd.cell? ⟨ab, off + k * 4, none⟩ = some (.int .u32 xp) := (HK.out.cell (p := ⟨ab, off + k * 4, none⟩) hab).trans (HY.out 0 _ rfl)
          have y1 : xd.cell? ⟨ab, off + k * 4 + 1, none⟩ = some (.string xk) := (HK.out.cell (p := ⟨ab, off + k * 4 + 1, none⟩) hab).trans (HY.out 1 _ rfl)
          have y2 : xd.cell? ⟨ab, off + k * 4 + 2, none⟩ = some (.int .u32 xrp) := (HK.out.cell (p := ⟨ab, off + k * 4 + 2, none⟩) hab).trans (HY.out 2 _ rfl)
          have y3 : xd.cell? ⟨ab, off + k * 4 + 3, none⟩ = some (.int .i64 xrs) := (HK.out.cell (p := ⟨ab, off + k * 4 + 3, none⟩) hab).trans (HY.out 3 _ rfl)
          refine pure_ (i := 0) (N := some 62) (v := ?_) (a' := ?_) #[true, false, false, false, false, false, false, false, false, false, false, false, false, false] rfl rfl (by kernel_rfl) (fun _ _ _ h => h) (Or.inl ⟨by rfl, ?_⟩) ?_ ?_
          rotate_left
          · intro w'
            go_simp
            with_reducible rfl
          rotate_left
          · simp only [Act.put, List.setIfInBounds_toArray, List.set_cons_zero, List.set_cons_succ, i64_w, i32_w]
            rfl
          refine pure_ (i := 1) (N := some 63) (v := ?_) (a' := ?_) #[true, true, false, false, false, false, false, false, false, false, false, false, false, false] rfl rfl (by kernel_rfl) (fun _ _ _ h => h) (Or.inl ⟨by rfl, ?_⟩) ?_ ?_
          rotate_left
          · intro w'
            go_simp
            with_reducible rfl
          rotate_left
          · simp only [Act.put, List.setIfInBounds_toArray, List.set_cons_zero, List.set_cons_succ, i64_w, i32_w]
            rfl
          refine pure_ (i := 2) (N := some 64) (v := ?_) (a' := ?_) #[true, true, true, false, false, false, false, false, false, false, false, false, false, false] rfl rfl (by kernel_rfl) (fun _ _ _ h => h) (Or.inl ⟨by rfl, ?_⟩) ?_ ?_
          rotate_left
          · intro w'
            go_simp
            with_reducible rfl
          rotate_left
          · simp only [Act.put, List.setIfInBounds_toArray, List.set_cons_zero, List.set_cons_succ, i64_w, i32_w]
            rfl
          refine pure_ (i := 3) (N := some 65) (v := ?_) (a' := ?_) #[true, true, true, true, false, false, false, false, false, false, false, false, false, false] rfl rfl (by kernel_rfl) (fun _ _ _ h => h) (Or.inl ⟨by rfl, ?_⟩) ?_ ?_
          rotate_left
          · intro w'
            go_simp
            with_reducible rfl
          rotate_left
          · simp only [Act.put, List.setIfInBounds_toArray, List.set_cons_zero, List.set_cons_succ, i64_w, i32_w]
            rfl
          refine pure_ (i := 5) (N := some 67) (v := ?_) (a' := ?_) #[true, true, true, true, false, true, false, false, false, false, false, false, false, false] rfl rfl (by kernel_rfl) (fun _ _ _ h => h) (Or.inl ⟨by rfl, ?_⟩) ?_ ?_
          rotate_left
          · intro w'
            go_simp
            with_reducible rfl
          rotate_left
          · simp only [Act.put, List.setIfInBounds_toArray, List.set_cons_zero, List.set_cons_succ, i64_w, i32_w]
            rfl
          refine pure_ (i := 6) (N := some 68) (v := ?_) (a' := ?_) #[true, true, true, true, false, true, true, false, false, false, false, false, false, false] rfl rfl (by kernel_rfl) (fun _ _ _ h => h) (Or.inl ⟨by rfl, ?_⟩) ?_ ?_
          rotate_left
          · intro w'
            go_simp
            with_reducible rfl
          rotate_left
          · simp only [Act.put, List.setIfInBounds_toArray, List.set_cons_zero, List.set_cons_succ, i64_w, i32_w]
            rfl
          refine pure_ (i := 7) (N := some 69) (v := ?_) (a' := ?_) #[true, true, true, true, false, true, true, true, false, false, false, false, false, false] rfl rfl (by kernel_rfl) (fun _ _ _ h => h) (Or.inl ⟨by rfl, ?_⟩) ?_ ?_
          rotate_left
          · intro w'
            go_simp
            with_reducible rfl
          rotate_left
          · simp only [Act.put, List.setIfInBounds_toArray, List.set_cons_zero, List.set_cons_succ, i64_w, i32_w]
            rfl
          refine pure_ (i := 8) (N := some 70) (v := ?_) (a' := ?_) #[true, true, true, true, false, true, true, true, true, false, false, false, false, false] rfl rfl (by kernel_rfl) (fun _ _ _ h => h) (Or.inl ⟨by rfl, ?_⟩) ?_ ?_
          rotate_left
          · intro w'
            go_simp
            with_reducible rfl
          rotate_left
          · simp only [Act.put, List.setIfInBounds_toArray, List.set_cons_zero, List.set_cons_succ, i64_w, i32_w]
            rfl
          refine take_ (i := 4) (N := some 66) (v := .int .u32 xp) (a' := ?_) #[true, true, true, true, true, true, true, true, true, false, false, false, false, false] rfl rfl (by kernel_rfl) (fun _ _ _ h => h) (Or.inl ⟨by rfl, ?_⟩) hHeld ?_ ?_
          · rintro w' ⟨s0, s1, s2, s3⟩
            go_simp
          rotate_left
          · simp only [Act.put, List.setIfInBounds_toArray, List.set_cons_zero, List.set_cons_succ, i64_w, i32_w]
            rfl
          refine take_ (i := 9) (N := some 71) (v := .agg #[.string xk, .int .u32 xrp, .int .i64 xrs]) (a' := ?_) #[true, true, true, true, true, true, true, true, true, true, false, false, false, false] rfl rfl (by kernel_rfl) (fun _ _ _ h => h) (Or.inl ⟨by rfl, ?_⟩) hHeld ?_ ?_
          · rintro w' ⟨s0, s1, s2, s3⟩
            go_simp
          rotate_left
          · simp only [Act.put, List.setIfInBounds_toArray, List.set_cons_zero, List.set_cons_succ, i64_w, i32_w]
            rfl
          refine two_ (i := 10) (j := 12) (Ni := some 72) (Nj := some 12) #[true, true, true, true, true, true, true, true, true, true, true, false, false, false] #[true, true, true, true, true, true, true, true, true, true, false, false, true, false] rfl rfl rfl rfl (by kernel_rfl) (by decide) (by decide) (fun K hK => ?_) (fun K hK => ?_)
          · clear hHeld
            refine goes_ Try.func16 (by kernel_rfl) rfl #[.agg #[.string xk, .int .u32 xrp, .int .i64 xrs]] (by rfl) rfl rfl (by (try simp only [List.map_toArray, List.map_cons, List.map_nil]); first | done | rfl) ?_
            refine (entry_any xk xrp xrs _).mono ?_
            rintro e_ x1 ⟨rfl, hb5⟩
            have n_H5 := Lib.hid (H5.out.step hb5)
            have n_H8 := Lib.hid (H8.out.step hb5)
            have n_HV := Lib.hid (HV.out.below hb5)
            have n_HM := Lib.hid (own_below HM.out hb5)
            have n_HK := Lib.hid (HK.out.trans (hb5.mono HK.out.size))
            clear hb5 H5 H8 HV HM HK
            have H5 := n_H5
            have H8 := n_H8
            have HV := n_HV
            have HM := n_HM
            have HK := n_HK
            clear n_H5 n_H8 n_HV n_HM n_HK
            refine ⟨_, rfl, ?_⟩
            clear y0 y1 y2 y3
            have y0 : x1.cell? ⟨ab, off + k * 4, none⟩ = some (.int .u32 xp) := (HK.out.cell (p := ⟨ab, off + k * 4, none⟩) hab).trans (HY.out 0 _ rfl)
            have y1 : x1.cell? ⟨ab, off + k * 4 + 1, none⟩ = some (.string xk) := (HK.out.cell (p := ⟨ab, off + k * 4 + 1, none⟩) hab).trans (HY.out 1 _ rfl)
            have y2 : x1.cell? ⟨ab, off + k * 4 + 2, none⟩ = some (.int .u32 xrp) := (HK.out.cell (p := ⟨ab, off + k * 4 + 2, none⟩) hab).trans (HY.out 2 _ rfl)
            have y3 : x1.cell? ⟨ab, off + k * 4 + 3, none⟩ = some (.int .i64 xrs) := (HK.out.cell (p := ⟨ab, off + k * 4 + 3, none⟩) hab).trans (HY.out 3 _ rfl)
            refine hK.out _ _ ⟨y0, y1, y2, y3⟩ (fun hHeld => ?_)
            clear hK K
            refine norm_ (a' := ?_) ?_ ?_
            rotate_left
            · show Act.put _ (some 72) _ = _
              simp only [Act.put, List.setIfInBounds_toArray, List.set_cons_zero, List.set_cons_succ]
              rfl
            refine pure_ (i := 11) (N := some 73) (v := .agg #[.int .u32 xp, .string (ek12 xk), .int .u32 xrp, .int .i64 (es16 xrs)]) (a' := ?_) #[true, true, true, true, true, true, true, true, true, true, true, true, false, false] rfl rfl (by kernel_rfl) (fun _ _ _ h => h) (Or.inl ⟨by rfl, ?_⟩) ?_ ?_
            · intro w'
              go_simp
            rotate_left
            · simp only [Act.put, List.setIfInBounds_toArray, List.set_cons_zero, List.set_cons_succ, i64_w, i32_w]
              rfl
            refine one_ (i := 12) (N := some 12) #[true, true, true, true, true, true, true, true, true, true, true, true, true, false] rfl rfl (by kernel_rfl) (by decide) (fun K hK => ?_)
            clear hHeld
            refine value_ (w1 := x1.alloc (.cells #[.int .u32 0, .string ⟨#[]⟩, .int .u32 0, .int .i64 0] 66)) (v := .pointer (some ⟨x1.heap.size, 0, none⟩)) (by rfl) rfl (by go_simp) ?_
            have hb5 := balloc (Below.refl x1.heap.size x1) (.cells #[.int .u32 0, .string ⟨#[]⟩, .int .u32 0, .int .i64 0] 66)
            have hL := Lib.hid (Blk.new x1 66 #[.int .u32 0, .string ⟨#[]⟩, .int .u32 0, .int .i64 0])
            have hg12b := Lib.hid HK.out.size
            have nH5_g12 := Lib.hid (Nat.ne_of_lt H5.out.lt)
            have nH8_g12 := Lib.hid (Nat.ne_of_lt H8.out.lt)
            have nHM_g12 := Lib.hid (own_newI HM.out)
            have n_H5 := Lib.hid (H5.out.step hb5)
            have n_H8 := Lib.hid (H8.out.step hb5)
            have n_HV := Lib.hid (HV.out.below hb5)
            have n_HM := Lib.hid (own_below HM.out hb5)
            have n_HK := Lib.hid (HK.out.trans (hb5.mono HK.out.size))
            clear hb5 H5 H8 HV HM HK
            have H5 := n_H5
            have H8 := n_H8
            have HV := n_HV
            have HM := n_HM
            have HK := n_HK
            clear n_H5 n_H8 n_HV n_HM n_HK
            generalize x1.alloc (.cells #[.int .u32 0, .string ⟨#[]⟩, .int .u32 0, .int .i64 0] 66) = x2 at *
            generalize x1.heap.size = g12 at *
            have H12 := hL
            clear hL
            clear y0 y1 y2 y3
            have y0 : x2.cell? ⟨ab, off + k * 4, none⟩ = some (.int .u32 xp) := (HK.out.cell (p := ⟨ab, off + k * 4, none⟩) hab).trans (HY.out 0 _ rfl)
            have y1 : x2.cell? ⟨ab, off + k * 4 + 1, none⟩ = some (.string xk) := (HK.out.cell (p := ⟨ab, off + k * 4 + 1, none⟩) hab).trans (HY.out 1 _ rfl)
            have y2 : x2.cell? ⟨ab, off + k * 4 + 2, none⟩ = some (.int .u32 xrp) := (HK.out.cell (p := ⟨ab, off + k * 4 + 2, none⟩) hab).trans (HY.out 2 _ rfl)
            have y3 : x2.cell? ⟨ab, off + k * 4 + 3, none⟩ = some (.int .i64 xrs) := (HK.out.cell (p := ⟨ab, off + k * 4 + 3, none⟩) hab).trans (HY.out 3 _ rfl)
            refine hK.out _ _ ⟨y0, y1, y2, y3⟩ (fun hHeld => ?_)
            clear hK K
            refine norm_ (a' := ?_) ?_ ?_
            rotate_left
            · show Act.put _ (some 12) _ = _
              simp only [Act.put, List.setIfInBounds_toArray, List.set_cons_zero, List.set_cons_succ]
              rfl
            refine one_ (i := 13) (N := none) #[true, true, true, true, true, true, true, true, true, true, true, true, true, true] rfl rfl (by kernel_rfl) (by decide) (fun K hK => ?_)
            clear hHeld
            refine skip_ (w1 := x2.setRow g12 #[.int .u32 xp, .string (ek12 xk), .int .u32 xrp, .int .i64 (es16 xrs)]) (by rfl) rfl (run_store_rowI 66 (.tmp 12) (.tmp 73) rfl g12 #[.int .u32 xp, .string (ek12 xk), .int .u32 xrp, .int .i64 (es16 xrs)] rfl (by rfl) 66 _ H12.out (by kernel_rfl) rfl (by simp [Value.oneCell'])) ?_
            have n_H5 := Lib.hid (blk_setRowI H5.out #[.int .u32 xp, .string (ek12 xk), .int .u32 xrp, .int .i64 (es16 xrs)] nH5_g12.out)
            have n_H8 := Lib.hid (blk_setRowI H8.out #[.int .u32 xp, .string (ek12 xk), .int .u32 xrp, .int .i64 (es16 xrs)] nH8_g12.out)
            have n_HV := Lib.hid (OwnP.setRow (cs' := #[.int .u32 xp, .string (ek12 xk), .int .u32 xrp, .int .i64 (es16 xrs)]) HV.out H12.out (by decide))
            have n_HM := Lib.hid (own_setRowI (cs' := #[.int .u32 xp, .string (ek12 xk), .int .u32 xrp, .int .i64 (es16 xrs)]) HM.out nHM_g12.out)
            have n_HK := Lib.hid (setRow_below HK.out hg12b.out #[.int .u32 xp, .string (ek12 xk), .int .u32 xrp, .int .i64 (es16 xrs)])
            have n_H12 := Lib.hid (blk_setRow (cs' := #[.int .u32 xp, .string (ek12 xk), .int .u32 xrp, .int .i64 (es16 xrs)]) H12.out)
            clear H5 H8 HV HM HK H12
            have H5 := n_H5
            have H8 := n_H8
            have HV := n_HV
            have HM := n_HM
            have HK := n_HK
            have H12 := n_H12
            clear n_H5 n_H8 n_HV n_HM n_HK n_H12
            generalize x2.setRow g12 #[.int .u32 xp, .string (ek12 xk), .int .u32 xrp, .int .i64 (es16 xrs)] = x3 at *
            clear y0 y1 y2 y3
            have y0 : x3.cell? ⟨ab, off + k * 4, none⟩ = some (.int .u32 xp) := (HK.out.cell (p := ⟨ab, off + k * 4, none⟩) hab).trans (HY.out 0 _ rfl)
            have y1 : x3.cell? ⟨ab, off + k * 4 + 1, none⟩ = some (.string xk) := (HK.out.cell (p := ⟨ab, off + k * 4 + 1, none⟩) hab).trans (HY.out 1 _ rfl)
            have y2 : x3.cell? ⟨ab, off + k * 4 + 2, none⟩ = some (.int .u32 xrp) := (HK.out.cell (p := ⟨ab, off + k * 4 + 2, none⟩) hab).trans (HY.out 2 _ rfl)
            have y3 : x3.cell? ⟨ab, off + k * 4 + 3, none⟩ = some (.int .i64 xrs) := (HK.out.cell (p := ⟨ab, off + k * 4 + 3, none⟩) hab).trans (HY.out 3 _ rfl)
            refine hK.out _ _ ⟨y0, y1, y2, y3⟩ (fun hHeld => ?_)
            clear hK K
            refine done_ (by kernel_rfl) ?_
            go_wp2_with fail
            go_meet
            exact ⟨g12, rfl, H12, nHM_g12, nH8_g12, hg12b, H5, H8, HV, HM, HK⟩
          · clear hHeld
            refine value_ (w1 := xd.alloc (.cells #[.int .u32 0, .string ⟨#[]⟩, .int .u32 0, .int .i64 0] 66)) (v := .pointer (some ⟨xd.heap.size, 0, none⟩)) (by rfl) rfl (by go_simp) ?_
            have hb5 := balloc (Below.refl xd.heap.size xd) (.cells #[.int .u32 0, .string ⟨#[]⟩, .int .u32 0, .int .i64 0] 66)
            have hL := Lib.hid (Blk.new xd 66 #[.int .u32 0, .string ⟨#[]⟩, .int .u32 0, .int .i64 0])
            have hg12b := Lib.hid HK.out.size
            have nH5_g12 := Lib.hid (Nat.ne_of_lt H5.out.lt)
            have nH8_g12 := Lib.hid (Nat.ne_of_lt H8.out.lt)
            have nHM_g12 := Lib.hid (own_newI HM.out)
            have n_H5 := Lib.hid (H5.out.step hb5)
            have n_H8 := Lib.hid (H8.out.step hb5)
            have n_HV := Lib.hid (HV.out.below hb5)
            have n_HM := Lib.hid (own_below HM.out hb5)
            have n_HK := Lib.hid (HK.out.trans (hb5.mono HK.out.size))
            clear hb5 H5 H8 HV HM HK
            have H5 := n_H5
            have H8 := n_H8
            have HV := n_HV
            have HM := n_HM
            have HK := n_HK
            clear n_H5 n_H8 n_HV n_HM n_HK
            generalize xd.alloc (.cells #[.int .u32 0, .string ⟨#[]⟩, .int .u32 0, .int .i64 0] 66) = x4 at *
            generalize xd.heap.size = g12 at *
            have H12 := hL
            clear hL
            clear y0 y1 y2 y3
            have y0 : x4.cell? ⟨ab, off + k * 4, none⟩ = some (.int .u32 xp) := (HK.out.cell (p := ⟨ab, off + k * 4, none⟩) hab).trans (HY.out 0 _ rfl)
            have y1 : x4.cell? ⟨ab, off + k * 4 + 1, none⟩ = some (.string xk) := (HK.out.cell (p := ⟨ab, off + k * 4 + 1, none⟩) hab).trans (HY.out 1 _ rfl)
            have y2 : x4.cell? ⟨ab, off + k * 4 + 2, none⟩ = some (.int .u32 xrp) := (HK.out.cell (p := ⟨ab, off + k * 4 + 2, none⟩) hab).trans (HY.out 2 _ rfl)
            have y3 : x4.cell? ⟨ab, off + k * 4 + 3, none⟩ = some (.int .i64 xrs) := (HK.out.cell (p := ⟨ab, off + k * 4 + 3, none⟩) hab).trans (HY.out 3 _ rfl)
            refine hK.out _ _ ⟨y0, y1, y2, y3⟩ (fun hHeld => ?_)
            clear hK K
            refine norm_ (a' := ?_) ?_ ?_
            rotate_left
            · show Act.put _ (some 12) _ = _
              simp only [Act.put, List.setIfInBounds_toArray, List.set_cons_zero, List.set_cons_succ]
              rfl
            refine one_ (i := 10) (N := some 72) #[true, true, true, true, true, true, true, true, true, true, true, false, true, false] rfl rfl (by kernel_rfl) (by decide) (fun K hK => ?_)
            clear hHeld
            refine goes_ Try.func16 (by kernel_rfl) rfl #[.agg #[.string xk, .int .u32 xrp, .int .i64 xrs]] (by rfl) rfl rfl (by (try simp only [List.map_toArray, List.map_cons, List.map_nil]); first | done | rfl) ?_
            refine (entry_any xk xrp xrs _).mono ?_
            rintro e_ x5 ⟨rfl, hb5⟩
            have n_H5 := Lib.hid (H5.out.step hb5)
            have n_H8 := Lib.hid (H8.out.step hb5)
            have n_HV := Lib.hid (HV.out.below hb5)
            have n_HM := Lib.hid (own_below HM.out hb5)
            have n_HK := Lib.hid (HK.out.trans (hb5.mono HK.out.size))
            have n_H12 := Lib.hid (H12.out.step hb5)
            clear hb5 H5 H8 HV HM HK H12
            have H5 := n_H5
            have H8 := n_H8
            have HV := n_HV
            have HM := n_HM
            have HK := n_HK
            have H12 := n_H12
            clear n_H5 n_H8 n_HV n_HM n_HK n_H12
            refine ⟨_, rfl, ?_⟩
            clear y0 y1 y2 y3
            have y0 : x5.cell? ⟨ab, off + k * 4, none⟩ = some (.int .u32 xp) := (HK.out.cell (p := ⟨ab, off + k * 4, none⟩) hab).trans (HY.out 0 _ rfl)
            have y1 : x5.cell? ⟨ab, off + k * 4 + 1, none⟩ = some (.string xk) := (HK.out.cell (p := ⟨ab, off + k * 4 + 1, none⟩) hab).trans (HY.out 1 _ rfl)
            have y2 : x5.cell? ⟨ab, off + k * 4 + 2, none⟩ = some (.int .u32 xrp) := (HK.out.cell (p := ⟨ab, off + k * 4 + 2, none⟩) hab).trans (HY.out 2 _ rfl)
            have y3 : x5.cell? ⟨ab, off + k * 4 + 3, none⟩ = some (.int .i64 xrs) := (HK.out.cell (p := ⟨ab, off + k * 4 + 3, none⟩) hab).trans (HY.out 3 _ rfl)
            refine hK.out _ _ ⟨y0, y1, y2, y3⟩ (fun hHeld => ?_)
            clear hK K
            refine norm_ (a' := ?_) ?_ ?_
            rotate_left
            · show Act.put _ (some 72) _ = _
              simp only [Act.put, List.setIfInBounds_toArray, List.set_cons_zero, List.set_cons_succ]
              rfl
            refine pure_ (i := 11) (N := some 73) (v := .agg #[.int .u32 xp, .string (ek12 xk), .int .u32 xrp, .int .i64 (es16 xrs)]) (a' := ?_) #[true, true, true, true, true, true, true, true, true, true, true, true, true, false] rfl rfl (by kernel_rfl) (fun _ _ _ h => h) (Or.inl ⟨by rfl, ?_⟩) ?_ ?_
            · intro w'
              go_simp
            rotate_left
            · simp only [Act.put, List.setIfInBounds_toArray, List.set_cons_zero, List.set_cons_succ, i64_w, i32_w]
              rfl
            refine one_ (i := 13) (N := none) #[true, true, true, true, true, true, true, true, true, true, true, true, true, true] rfl rfl (by kernel_rfl) (by decide) (fun K hK => ?_)
            clear hHeld
            refine skip_ (w1 := x5.setRow g12 #[.int .u32 xp, .string (ek12 xk), .int .u32 xrp, .int .i64 (es16 xrs)]) (by rfl) rfl (run_store_rowI 66 (.tmp 12) (.tmp 73) rfl g12 #[.int .u32 xp, .string (ek12 xk), .int .u32 xrp, .int .i64 (es16 xrs)] rfl (by rfl) 66 _ H12.out (by kernel_rfl) rfl (by simp [Value.oneCell'])) ?_
            have n_H5 := Lib.hid (blk_setRowI H5.out #[.int .u32 xp, .string (ek12 xk), .int .u32 xrp, .int .i64 (es16 xrs)] nH5_g12.out)
            have n_H8 := Lib.hid (blk_setRowI H8.out #[.int .u32 xp, .string (ek12 xk), .int .u32 xrp, .int .i64 (es16 xrs)] nH8_g12.out)
            have n_HV := Lib.hid (OwnP.setRow (cs' := #[.int .u32 xp, .string (ek12 xk), .int .u32 xrp, .int .i64 (es16 xrs)]) HV.out H12.out (by decide))
            have n_HM := Lib.hid (own_setRowI (cs' := #[.int .u32 xp, .string (ek12 xk), .int .u32 xrp, .int .i64 (es16 xrs)]) HM.out nHM_g12.out)
            have n_HK := Lib.hid (setRow_below HK.out hg12b.out #[.int .u32 xp, .string (ek12 xk), .int .u32 xrp, .int .i64 (es16 xrs)])
            have n_H12 := Lib.hid (blk_setRow (cs' := #[.int .u32 xp, .string (ek12 xk), .int .u32 xrp, .int .i64 (es16 xrs)]) H12.out)
            clear H5 H8 HV HM HK H12
            have H5 := n_H5
            have H8 := n_H8
            have HV := n_HV
            have HM := n_HM
            have HK := n_HK
            have H12 := n_H12
            clear n_H5 n_H8 n_HV n_HM n_HK n_H12
            generalize x5.setRow g12 #[.int .u32 xp, .string (ek12 xk), .int .u32 xrp, .int .i64 (es16 xrs)] = x6 at *
            clear y0 y1 y2 y3
            have y0 : x6.cell? ⟨ab, off + k * 4, none⟩ = some (.int .u32 xp) := (HK.out.cell (p := ⟨ab, off + k * 4, none⟩) hab).trans (HY.out 0 _ rfl)
            have y1 : x6.cell? ⟨ab, off + k * 4 + 1, none⟩ = some (.string xk) := (HK.out.cell (p := ⟨ab, off + k * 4 + 1, none⟩) hab).trans (HY.out 1 _ rfl)
            have y2 : x6.cell? ⟨ab, off + k * 4 + 2, none⟩ = some (.int .u32 xrp) := (HK.out.cell (p := ⟨ab, off + k * 4 + 2, none⟩) hab).trans (HY.out 2 _ rfl)
            have y3 : x6.cell? ⟨ab, off + k * 4 + 3, none⟩ = some (.int .i64 xrs) := (HK.out.cell (p := ⟨ab, off + k * 4 + 3, none⟩) hab).trans (HY.out 3 _ rfl)
            refine hK.out _ _ ⟨y0, y1, y2, y3⟩ (fun hHeld => ?_)
            clear hK K
            refine done_ (by kernel_rfl) ?_
            go_wp2_with fail
            go_meet
            exact ⟨g12, rfl, H12, nHM_g12, nH8_g12, hg12b, H5, H8, HV, HM, HK⟩
        case rest =>
        clear H5 H8 HV HM HK y0 y1 y2 y3
        obtain ⟨g12, rfl, H12, HN12, HN8, HG12, H5, H8, HV, HM, HK⟩ := hcut
        go_upto_region 10 with fail
        obtain ⟨Ap, cp, hVp⟩ := own_sl HV.out
        rw [List.length_map] at hVp
        subst hVp
        have h64_ := Lib.hid (show (List.map cslot ms).length ≤ 64 by rw [List.length_map]; have h_ := HMS.out; omega)
        obtain ⟨ms1, hms1⟩ : ∃ z, z = ms ++ [(⟨xp, ek12 xk, xrp, es16 xrs⟩ : ChN)] := ⟨_, rfl⟩
        have HL1 := Lib.hid (show ms1.length = k + 1 by rw [hms1, List.length_append, List.length_singleton, HMS.out])
        have HG1 := Lib.hid (show ∀ x ∈ ms1, ChN.Good x from by rw [hms1]; exact good_snoc HGd.out HX.out)
        have HS1 := Lib.hid hms1
        have HSZ := Lib.hid (show ∀ x ∈ List.map cslot ms, x.size ≤ 140737488350000 from fun x hx_ => by obtain ⟨y, hy_, rfl⟩ := List.mem_map.1 hx_; have h3_ := (HGd.out y hy_).2.2.2; rw [cslot_size]; omega)
        have hap_ := ap_insI ms HGd.out (by have h_ := HMS.out; omega) (⟨xp, ek12 xk, xrp, es16 xrs⟩ : ChN) HX.out lsn lv
        rw [← hms1, HMS.out] at hap_
        have HAP := Lib.hid hap_
        clear hap_ hms1
        go_cut [13, 14] from 74 to 81 (fun qv ev wx => ∃ g13 Vq, qv = .pointer (some ⟨g13, 0, none⟩) ∧ ev = .int .i64 0 ∧ Hid (Blk wx g13 28 #[.int .u32 3, .int .u64 2, .int .i64 4, .string (H1 lv), Vq]) ∧ Hid (OwnP wx w.heap.size Vq (List.map cslot ms1)) ∧ Hid (Blk wx g12 66 #[.int .u32 xp, .string (ek12 xk), .int .u32 xrp, .int .i64 (es16 xrs)]) ∧ Hid (g8 ≠ g13) ∧ Hid (Blk wx w.heap.size 43 #[.string ek, .int .u32 ep, .int .i64 es]) ∧ Hid (Blk wx g8 28 #[.int .u32 3, .int .u64 lsn, .int .i64 4, .string (H1 lv), (.slice Ap ms.length cp)]) ∧ Hid (OwnP wx w.heap.size (.slice Ap ms.length cp) (List.map cslot ms)) ∧ Hid (World.ownsRow wx w.heap.size 66 4 Vm (List.length ms) (List.map ChN.cells ms).flatten) ∧ Hid (Below w.heap.size w wx))
        case first =>
          refine start_ (n := 11) (S := fun w' => Blk w' g8 28 #[.int .u32 3, .int .u64 lsn, .int .i64 4, .string (H1 lv), (.slice Ap ms.length cp)] ∧ Blk w' g12 66 #[.int .u32 xp, .string (ek12 xk), .int .u32 xrp, .int .i64 (es16 xrs)]) (ds := []) #[false, false, false, false, false, false, false, false, false, false, false] (by kernel_rfl) rfl rfl ⟨H8.out, H12.out⟩ (fun hHeld => ?_)
          have hb5 := bdrew (Below.refl wc.heap.size wc)
          have n_H5 := Lib.hid (H5.out.step hb5)
          have n_H8 := Lib.hid (H8.out.step hb5)
          have n_HV := Lib.hid (HV.out.below hb5)
          have n_HM := Lib.hid (own_below HM.out hb5)
          have n_HK := Lib.hid (HK.out.trans (hb5.mono HK.out.size))
          have n_H12 := Lib.hid (H12.out.step hb5)
          clear hb5 H5 H8 HV HM HK H12
          have H5 := n_H5
          have H8 := n_H8
          have HV := n_HV
          have HM := n_HM
          have HK := n_HK
          have H12 := n_H12
          clear n_H5 n_H8 n_HV n_HM n_HK n_H12
          generalize wc.drew = xd at *
          refine pure_ (i := 1) (N := some 76) (v := ?_) (a' := ?_) #[false, true, false, false, false, false, false, false, false, false, false] rfl rfl (by kernel_rfl) (fun _ _ _ h => h) (Or.inl ⟨by rfl, ?_⟩) ?_ ?_
          rotate_left
          · intro w'
            go_simp
            with_reducible rfl
          rotate_left
          · simp only [Act.put, List.setIfInBounds_toArray, List.set_cons_zero, List.set_cons_succ, i64_w, i32_w]
            rfl
          refine take_ (i := 0) (N := some 75) (v := .agg #[.int .u32 3, .int .u64 lsn, .int .i64 4, .string (H1 lv), (.slice Ap ms.length cp)]) (a' := ?_) #[true, true, false, false, false, false, false, false, false, false, false] rfl rfl (by kernel_rfl) (fun _ _ _ h => h) (yields_row 28 (.tmp 8) rfl (by rfl) g8 rfl 28 #[.int .u32 3, .int .u64 lsn, .int .i64 4, .string (H1 lv), (.slice Ap ms.length cp)] (0, 0) _ (fun w_ h => h.1) Try.underlying28 rfl (by kernel_rfl)) hHeld ?_ ?_
          rotate_left
          · simp only [Act.put, List.setIfInBounds_toArray, List.set_cons_zero, List.set_cons_succ, i64_w, i32_w]
            rfl
          refine take_ (i := 2) (N := some 77) (v := .agg #[.int .u32 xp, .string (ek12 xk), .int .u32 xrp, .int .i64 (es16 xrs)]) (a' := ?_) #[true, true, true, false, false, false, false, false, false, false, false] rfl rfl (by kernel_rfl) (fun _ _ _ h => h) (yields_row 66 (.tmp 12) rfl (by rfl) g12 rfl 66 #[.int .u32 xp, .string (ek12 xk), .int .u32 xrp, .int .i64 (es16 xrs)] (0, 0) _ (fun w_ h => h.2) Try.underlying66 rfl (by kernel_rfl)) hHeld ?_ ?_
          rotate_left
          · simp only [Act.put, List.setIfInBounds_toArray, List.set_cons_zero, List.set_cons_succ, i64_w, i32_w]
            rfl
          refine two_ (i := 3) (j := 8) (Ni := some 78) (Nj := some 13) #[true, true, true, true, false, false, false, false, false, false, false] #[true, true, true, false, false, false, false, false, true, false, false] rfl rfl rfl rfl (by kernel_rfl) (by decide) (by decide) (fun K hK => ?_) (fun K hK => ?_)
          · clear hHeld
            refine goes_ Try.func25 (by kernel_rfl) rfl #[.int .i64 k, .agg #[.int .u32 xp, .string (ek12 xk), .int .u32 xrp, .int .i64 (es16 xrs)]] (by rfl) rfl rfl (by (try simp only [List.map_toArray, List.map_cons, List.map_nil]); first | done | rfl) ?_
            refine (putChild_any k (⟨xp, ek12 xk, xrp, es16 xrs⟩ : ChN) HX.out _).mono ?_
            rintro e_ x7 ⟨rfl, hb5⟩
            have n_H5 := Lib.hid (H5.out.step hb5)
            have n_H8 := Lib.hid (H8.out.step hb5)
            have n_HV := Lib.hid (HV.out.below hb5)
            have n_HM := Lib.hid (own_below HM.out hb5)
            have n_HK := Lib.hid (HK.out.trans (hb5.mono HK.out.size))
            have n_H12 := Lib.hid (H12.out.step hb5)
            clear hb5 H5 H8 HV HM HK H12
            have H5 := n_H5
            have H8 := n_H8
            have HV := n_HV
            have HM := n_HM
            have HK := n_HK
            have H12 := n_H12
            clear n_H5 n_H8 n_HV n_HM n_HK n_H12
            refine ⟨_, rfl, ?_⟩
            refine hK.out _ _ ⟨H8.out, H12.out⟩ (fun hHeld => ?_)
            clear hK K
            refine norm_ (a' := ?_) ?_ ?_
            rotate_left
            · show Act.put _ (some 78) _ = _
              simp only [Act.put, List.setIfInBounds_toArray, List.set_cons_zero, List.set_cons_succ]
              rfl
            refine two_ (i := 4) (j := 8) (Ni := some 79) (Nj := some 13) #[true, true, true, true, true, false, false, false, false, false, false] #[true, true, true, true, false, false, false, false, true, false, false] rfl rfl rfl rfl (by kernel_rfl) (by decide) (by decide) (fun K hK => ?_) (fun K hK => ?_)
            · clear hHeld
              refine goes_ Try.func11 (by kernel_rfl) rfl #[.agg #[.int .u32 3, .int .u64 lsn, .int .i64 4, .string (H1 lv), (.slice Ap ms.length cp)], .agg #[.int .i64 2, .int .i64 k, .string (cslot (⟨xp, ek12 xk, xrp, es16 xrs⟩ : ChN)), .string ⟨#[]⟩], .int .u64 2] (by rfl) rfl rfl (by (try simp only [List.map_toArray, List.map_cons, List.map_nil]); first | done | rfl) ?_
              refine (ap_own 3 lsn 4 (H1 lv) 2 k (cslot (⟨xp, ek12 xk, xrp, es16 xrs⟩ : ChN)) ⟨#[]⟩ 2 HV.out h64_.out HSZ.out (by rw [H1_size]; omega)).mono ?_
              rintro e_ x8 ⟨vq, he_, ho_, hb5⟩
              rw [HAP.out] at he_ ho_
              subst he_
              have HQ := Lib.hid (OwnP.lower (show OwnP x8 x7.heap.size vq (List.map cslot ms1) from ho_) HK.out.size)
              clear ho_
              obtain ⟨Aq, cq, hVq⟩ := own_sl HQ.out
              rw [List.length_map] at hVq
              subst hVq
              have n_H5 := Lib.hid (H5.out.step hb5)
              have n_H8 := Lib.hid (H8.out.step hb5)
              have n_HV := Lib.hid (HV.out.below hb5)
              have n_HM := Lib.hid (own_below HM.out hb5)
              have n_HK := Lib.hid (HK.out.trans (hb5.mono HK.out.size))
              have n_H12 := Lib.hid (H12.out.step hb5)
              clear hb5 H5 H8 HV HM HK H12
              have H5 := n_H5
              have H8 := n_H8
              have HV := n_HV
              have HM := n_HM
              have HK := n_HK
              have H12 := n_H12
              clear n_H5 n_H8 n_HV n_HM n_HK n_H12
              refine ⟨_, rfl, ?_⟩
              refine hK.out _ _ ⟨H8.out, H12.out⟩ (fun hHeld => ?_)
              clear hK K
              refine norm_ (a' := ?_) ?_ ?_
              rotate_left
              · show Act.put _ (some 79) _ = _
                simp only [Act.put, List.setIfInBounds_toArray, List.set_cons_zero, List.set_cons_succ]
                rfl
              refine pure_ (i := 5) (N := some 74) (v := ?_) (a' := ?_) #[true, true, true, true, true, true, false, false, false, false, false] rfl rfl (by kernel_rfl) (fun _ _ _ h => h) (Or.inl ⟨by rfl, ?_⟩) ?_ ?_
              rotate_left
              · intro w'
                go_simp
                with_reducible rfl
              rotate_left
              · simp only [Act.put, List.setIfInBounds_toArray, List.set_cons_zero, List.set_cons_succ, i64_w, i32_w]
                rfl
              refine pure_ (i := 6) (N := some 80) (v := ?_) (a' := ?_) #[true, true, true, true, true, true, true, false, false, false, false] rfl rfl (by kernel_rfl) (fun _ _ _ h => h) (Or.inl ⟨by rfl, ?_⟩) ?_ ?_
              rotate_left
              · intro w'
                go_simp
                with_reducible rfl
              rotate_left
              · simp only [Act.put, List.setIfInBounds_toArray, List.set_cons_zero, List.set_cons_succ, i64_w, i32_w]
                rfl
              refine pure_ (i := 7) (N := some 81) (v := ?_) (a' := ?_) #[true, true, true, true, true, true, true, true, false, false, false] rfl rfl (by kernel_rfl) (fun _ _ _ h => h) (Or.inl ⟨by rfl, ?_⟩) ?_ ?_
              rotate_left
              · intro w'
                go_simp
                with_reducible rfl
              rotate_left
              · simp only [Act.put, List.setIfInBounds_toArray, List.set_cons_zero, List.set_cons_succ, i64_w, i32_w]
                rfl
              refine one_ (i := 8) (N := some 13) #[true, true, true, true, true, true, true, true, true, false, false] rfl rfl (by kernel_rfl) (by decide) (fun K hK => ?_)
              clear hHeld
              refine value_ (w1 := x8.alloc (.cells #[.int .u32 0, .int .u64 0, .int .i64 0, .string ⟨#[]⟩, .slice none 0 0] 28)) (v := .pointer (some ⟨x8.heap.size, 0, none⟩)) (by rfl) rfl (by go_simp) ?_
              have hb5 := balloc (Below.refl x8.heap.size x8) (.cells #[.int .u32 0, .int .u64 0, .int .i64 0, .string ⟨#[]⟩, .slice none 0 0] 28)
              have hL := Lib.hid (Blk.new x8 28 #[.int .u32 0, .int .u64 0, .int .i64 0, .string ⟨#[]⟩, .slice none 0 0])
              have hg13b := Lib.hid HK.out.size
              have nH5_g13 := Lib.hid (Nat.ne_of_lt H5.out.lt)
              have nH8_g13 := Lib.hid (Nat.ne_of_lt H8.out.lt)
              have nHM_g13 := Lib.hid (own_newI HM.out)
              have nH12_g13 := Lib.hid (Nat.ne_of_lt H12.out.lt)
              have n_H5 := Lib.hid (H5.out.step hb5)
              have n_H8 := Lib.hid (H8.out.step hb5)
              have n_HV := Lib.hid (HV.out.below hb5)
              have n_HM := Lib.hid (own_below HM.out hb5)
              have n_HK := Lib.hid (HK.out.trans (hb5.mono HK.out.size))
              have n_H12 := Lib.hid (H12.out.step hb5)
              have n_HQ := Lib.hid (HQ.out.below hb5)
              clear hb5 H5 H8 HV HM HK H12 HQ
              have H5 := n_H5
              have H8 := n_H8
              have HV := n_HV
              have HM := n_HM
              have HK := n_HK
              have H12 := n_H12
              have HQ := n_HQ
              clear n_H5 n_H8 n_HV n_HM n_HK n_H12 n_HQ
              generalize x8.alloc (.cells #[.int .u32 0, .int .u64 0, .int .i64 0, .string ⟨#[]⟩, .slice none 0 0] 28) = x9 at *
              generalize x8.heap.size = g13 at *
              have H13 := hL
              clear hL
              refine hK.out _ _ ⟨H8.out, H12.out⟩ (fun hHeld => ?_)
              clear hK K
              refine norm_ (a' := ?_) ?_ ?_
              rotate_left
              · show Act.put _ (some 13) _ = _
                simp only [Act.put, List.setIfInBounds_toArray, List.set_cons_zero, List.set_cons_succ]
                rfl
              refine one_ (i := 9) (N := none) #[true, true, true, true, true, true, true, true, true, true, false] rfl rfl (by kernel_rfl) (by decide) (fun K hK => ?_)
              clear hHeld
              refine skip_ (w1 := x9.setRow g13 #[.int .u32 3, .int .u64 2, .int .i64 4, .string (H1 lv), (.slice Aq ms1.length cq)]) (by rfl) rfl (run_store_rowI 28 (.tmp 13) (.tmp 80) rfl g13 #[.int .u32 3, .int .u64 2, .int .i64 4, .string (H1 lv), (.slice Aq ms1.length cq)] rfl (by rfl) 28 _ H13.out (by kernel_rfl) rfl (sh_one _ _ _ _ _)) ?_
              have n_H5 := Lib.hid (blk_setRowI H5.out #[.int .u32 3, .int .u64 2, .int .i64 4, .string (H1 lv), (.slice Aq ms1.length cq)] nH5_g13.out)
              have n_H8 := Lib.hid (blk_setRowI H8.out #[.int .u32 3, .int .u64 2, .int .i64 4, .string (H1 lv), (.slice Aq ms1.length cq)] nH8_g13.out)
              have n_HV := Lib.hid (OwnP.setRow (cs' := #[.int .u32 3, .int .u64 2, .int .i64 4, .string (H1 lv), (.slice Aq ms1.length cq)]) HV.out H13.out (by decide))
              have n_HM := Lib.hid (own_setRowI (cs' := #[.int .u32 3, .int .u64 2, .int .i64 4, .string (H1 lv), (.slice Aq ms1.length cq)]) HM.out nHM_g13.out)
              have n_HK := Lib.hid (setRow_below HK.out hg13b.out #[.int .u32 3, .int .u64 2, .int .i64 4, .string (H1 lv), (.slice Aq ms1.length cq)])
              have n_H12 := Lib.hid (blk_setRowI H12.out #[.int .u32 3, .int .u64 2, .int .i64 4, .string (H1 lv), (.slice Aq ms1.length cq)] nH12_g13.out)
              have n_HQ := Lib.hid (OwnP.setRow (cs' := #[.int .u32 3, .int .u64 2, .int .i64 4, .string (H1 lv), (.slice Aq ms1.length cq)]) HQ.out H13.out (by decide))
              have n_H13 := Lib.hid (blk_setRow (cs' := #[.int .u32 3, .int .u64 2, .int .i64 4, .string (H1 lv), (.slice Aq ms1.length cq)]) H13.out)
              clear H5 H8 HV HM HK H12 HQ H13
              have H5 := n_H5
              have H8 := n_H8
              have HV := n_HV
              have HM := n_HM
              have HK := n_HK
              have H12 := n_H12
              have HQ := n_HQ
              have H13 := n_H13
              clear n_H5 n_H8 n_HV n_HM n_HK n_H12 n_HQ n_H13
              generalize x9.setRow g13 #[.int .u32 3, .int .u64 2, .int .i64 4, .string (H1 lv), (.slice Aq ms1.length cq)] = x10 at *
              refine hK.out _ _ ⟨H8.out, H12.out⟩ (fun hHeld => ?_)
              clear hK K
              refine pure_ (i := 10) (N := some 14) (v := ?_) (a' := ?_) #[true, true, true, true, true, true, true, true, true, true, true] rfl rfl (by kernel_rfl) (fun _ _ _ h => h) (Or.inl ⟨by rfl, ?_⟩) ?_ ?_
              rotate_left
              · intro w'
                go_simp
                with_reducible rfl
              rotate_left
              · simp only [Act.put, List.setIfInBounds_toArray, List.set_cons_zero, List.set_cons_succ, i64_w, i32_w]
                rfl
              refine done_ (by kernel_rfl) ?_
              go_wp2_with fail
              go_meet
              exact ⟨g13, _, rfl, rfl, H13, HQ, H12, nH8_g13, H5, H8, HV, HM, HK⟩
            · clear hHeld
              refine value_ (w1 := x7.alloc (.cells #[.int .u32 0, .int .u64 0, .int .i64 0, .string ⟨#[]⟩, .slice none 0 0] 28)) (v := .pointer (some ⟨x7.heap.size, 0, none⟩)) (by rfl) rfl (by go_simp) ?_
              have hb5 := balloc (Below.refl x7.heap.size x7) (.cells #[.int .u32 0, .int .u64 0, .int .i64 0, .string ⟨#[]⟩, .slice none 0 0] 28)
              have hL := Lib.hid (Blk.new x7 28 #[.int .u32 0, .int .u64 0, .int .i64 0, .string ⟨#[]⟩, .slice none 0 0])
              have hg13b := Lib.hid HK.out.size
              have nH5_g13 := Lib.hid (Nat.ne_of_lt H5.out.lt)
              have nH8_g13 := Lib.hid (Nat.ne_of_lt H8.out.lt)
              have nHM_g13 := Lib.hid (own_newI HM.out)
              have nH12_g13 := Lib.hid (Nat.ne_of_lt H12.out.lt)
              have n_H5 := Lib.hid (H5.out.step hb5)
              have n_H8 := Lib.hid (H8.out.step hb5)
              have n_HV := Lib.hid (HV.out.below hb5)
              have n_HM := Lib.hid (own_below HM.out hb5)
              have n_HK := Lib.hid (HK.out.trans (hb5.mono HK.out.size))
              have n_H12 := Lib.hid (H12.out.step hb5)
              clear hb5 H5 H8 HV HM HK H12
              have H5 := n_H5
              have H8 := n_H8
              have HV := n_HV
              have HM := n_HM
              have HK := n_HK
              have H12 := n_H12
              clear n_H5 n_H8 n_HV n_HM n_HK n_H12
              generalize x7.alloc (.cells #[.int .u32 0, .int .u64 0, .int .i64 0, .string ⟨#[]⟩, .slice none 0 0] 28) = x11 at *
              generalize x7.heap.size = g13 at *
              have H13 := hL
              clear hL
              refine hK.out _ _ ⟨H8.out, H12.out⟩ (fun hHeld => ?_)
              clear hK K
              refine norm_ (a' := ?_) ?_ ?_
              rotate_left
              · show Act.put _ (some 13) _ = _
                simp only [Act.put, List.setIfInBounds_toArray, List.set_cons_zero, List.set_cons_succ]
                rfl
              refine one_ (i := 4) (N := some 79) #[true, true, true, true, true, false, false, false, true, false, false] rfl rfl (by kernel_rfl) (by decide) (fun K hK => ?_)
              clear hHeld
              refine goes_ Try.func11 (by kernel_rfl) rfl #[.agg #[.int .u32 3, .int .u64 lsn, .int .i64 4, .string (H1 lv), (.slice Ap ms.length cp)], .agg #[.int .i64 2, .int .i64 k, .string (cslot (⟨xp, ek12 xk, xrp, es16 xrs⟩ : ChN)), .string ⟨#[]⟩], .int .u64 2] (by rfl) rfl rfl (by (try simp only [List.map_toArray, List.map_cons, List.map_nil]); first | done | rfl) ?_
              refine (ap_own 3 lsn 4 (H1 lv) 2 k (cslot (⟨xp, ek12 xk, xrp, es16 xrs⟩ : ChN)) ⟨#[]⟩ 2 HV.out h64_.out HSZ.out (by rw [H1_size]; omega)).mono ?_
              rintro e_ x12 ⟨vq, he_, ho_, hb5⟩
              rw [HAP.out] at he_ ho_
              subst he_
              have HQ := Lib.hid (OwnP.lower (show OwnP x12 x11.heap.size vq (List.map cslot ms1) from ho_) HK.out.size)
              clear ho_
              obtain ⟨Aq, cq, hVq⟩ := own_sl HQ.out
              rw [List.length_map] at hVq
              subst hVq
              have n_H5 := Lib.hid (H5.out.step hb5)
              have n_H8 := Lib.hid (H8.out.step hb5)
              have n_HV := Lib.hid (HV.out.below hb5)
              have n_HM := Lib.hid (own_below HM.out hb5)
              have n_HK := Lib.hid (HK.out.trans (hb5.mono HK.out.size))
              have n_H12 := Lib.hid (H12.out.step hb5)
              have n_H13 := Lib.hid (H13.out.step hb5)
              clear hb5 H5 H8 HV HM HK H12 H13
              have H5 := n_H5
              have H8 := n_H8
              have HV := n_HV
              have HM := n_HM
              have HK := n_HK
              have H12 := n_H12
              have H13 := n_H13
              clear n_H5 n_H8 n_HV n_HM n_HK n_H12 n_H13
              refine ⟨_, rfl, ?_⟩
              refine hK.out _ _ ⟨H8.out, H12.out⟩ (fun hHeld => ?_)
              clear hK K
              refine norm_ (a' := ?_) ?_ ?_
              rotate_left
              · show Act.put _ (some 79) _ = _
                simp only [Act.put, List.setIfInBounds_toArray, List.set_cons_zero, List.set_cons_succ]
                rfl
              refine pure_ (i := 5) (N := some 74) (v := ?_) (a' := ?_) #[true, true, true, true, true, true, false, false, true, false, false] rfl rfl (by kernel_rfl) (fun _ _ _ h => h) (Or.inl ⟨by rfl, ?_⟩) ?_ ?_
              rotate_left
              · intro w'
                go_simp
                with_reducible rfl
              rotate_left
              · simp only [Act.put, List.setIfInBounds_toArray, List.set_cons_zero, List.set_cons_succ, i64_w, i32_w]
                rfl
              refine pure_ (i := 6) (N := some 80) (v := ?_) (a' := ?_) #[true, true, true, true, true, true, true, false, true, false, false] rfl rfl (by kernel_rfl) (fun _ _ _ h => h) (Or.inl ⟨by rfl, ?_⟩) ?_ ?_
              rotate_left
              · intro w'
                go_simp
                with_reducible rfl
              rotate_left
              · simp only [Act.put, List.setIfInBounds_toArray, List.set_cons_zero, List.set_cons_succ, i64_w, i32_w]
                rfl
              refine pure_ (i := 7) (N := some 81) (v := ?_) (a' := ?_) #[true, true, true, true, true, true, true, true, true, false, false] rfl rfl (by kernel_rfl) (fun _ _ _ h => h) (Or.inl ⟨by rfl, ?_⟩) ?_ ?_
              rotate_left
              · intro w'
                go_simp
                with_reducible rfl
              rotate_left
              · simp only [Act.put, List.setIfInBounds_toArray, List.set_cons_zero, List.set_cons_succ, i64_w, i32_w]
                rfl
              refine one_ (i := 9) (N := none) #[true, true, true, true, true, true, true, true, true, true, false] rfl rfl (by kernel_rfl) (by decide) (fun K hK => ?_)
              clear hHeld
              refine skip_ (w1 := x12.setRow g13 #[.int .u32 3, .int .u64 2, .int .i64 4, .string (H1 lv), (.slice Aq ms1.length cq)]) (by rfl) rfl (run_store_rowI 28 (.tmp 13) (.tmp 80) rfl g13 #[.int .u32 3, .int .u64 2, .int .i64 4, .string (H1 lv), (.slice Aq ms1.length cq)] rfl (by rfl) 28 _ H13.out (by kernel_rfl) rfl (sh_one _ _ _ _ _)) ?_
              have n_H5 := Lib.hid (blk_setRowI H5.out #[.int .u32 3, .int .u64 2, .int .i64 4, .string (H1 lv), (.slice Aq ms1.length cq)] nH5_g13.out)
              have n_H8 := Lib.hid (blk_setRowI H8.out #[.int .u32 3, .int .u64 2, .int .i64 4, .string (H1 lv), (.slice Aq ms1.length cq)] nH8_g13.out)
              have n_HV := Lib.hid (OwnP.setRow (cs' := #[.int .u32 3, .int .u64 2, .int .i64 4, .string (H1 lv), (.slice Aq ms1.length cq)]) HV.out H13.out (by decide))
              have n_HM := Lib.hid (own_setRowI (cs' := #[.int .u32 3, .int .u64 2, .int .i64 4, .string (H1 lv), (.slice Aq ms1.length cq)]) HM.out nHM_g13.out)
              have n_HK := Lib.hid (setRow_below HK.out hg13b.out #[.int .u32 3, .int .u64 2, .int .i64 4, .string (H1 lv), (.slice Aq ms1.length cq)])
              have n_H12 := Lib.hid (blk_setRowI H12.out #[.int .u32 3, .int .u64 2, .int .i64 4, .string (H1 lv), (.slice Aq ms1.length cq)] nH12_g13.out)
              have n_HQ := Lib.hid (OwnP.setRow (cs' := #[.int .u32 3, .int .u64 2, .int .i64 4, .string (H1 lv), (.slice Aq ms1.length cq)]) HQ.out H13.out (by decide))
              have n_H13 := Lib.hid (blk_setRow (cs' := #[.int .u32 3, .int .u64 2, .int .i64 4, .string (H1 lv), (.slice Aq ms1.length cq)]) H13.out)
              clear H5 H8 HV HM HK H12 HQ H13
              have H5 := n_H5
              have H8 := n_H8
              have HV := n_HV
              have HM := n_HM
              have HK := n_HK
              have H12 := n_H12
              have HQ := n_HQ
              have H13 := n_H13
              clear n_H5 n_H8 n_HV n_HM n_HK n_H12 n_HQ n_H13
              generalize x12.setRow g13 #[.int .u32 3, .int .u64 2, .int .i64 4, .string (H1 lv), (.slice Aq ms1.length cq)] = x13 at *
              refine hK.out _ _ ⟨H8.out, H12.out⟩ (fun hHeld => ?_)
              clear hK K
              refine pure_ (i := 10) (N := some 14) (v := ?_) (a' := ?_) #[true, true, true, true, true, true, true, true, true, true, true] rfl rfl (by kernel_rfl) (fun _ _ _ h => h) (Or.inl ⟨by rfl, ?_⟩) ?_ ?_
              rotate_left
              · intro w'
                go_simp
                with_reducible rfl
              rotate_left
              · simp only [Act.put, List.setIfInBounds_toArray, List.set_cons_zero, List.set_cons_succ, i64_w, i32_w]
                rfl
              refine done_ (by kernel_rfl) ?_
              go_wp2_with fail
              go_meet
              exact ⟨g13, _, rfl, rfl, H13, HQ, H12, nH8_g13, H5, H8, HV, HM, HK⟩
          · clear hHeld
            refine value_ (w1 := xd.alloc (.cells #[.int .u32 0, .int .u64 0, .int .i64 0, .string ⟨#[]⟩, .slice none 0 0] 28)) (v := .pointer (some ⟨xd.heap.size, 0, none⟩)) (by rfl) rfl (by go_simp) ?_
            have hb5 := balloc (Below.refl xd.heap.size xd) (.cells #[.int .u32 0, .int .u64 0, .int .i64 0, .string ⟨#[]⟩, .slice none 0 0] 28)
            have hL := Lib.hid (Blk.new xd 28 #[.int .u32 0, .int .u64 0, .int .i64 0, .string ⟨#[]⟩, .slice none 0 0])
            have hg13b := Lib.hid HK.out.size
            have nH5_g13 := Lib.hid (Nat.ne_of_lt H5.out.lt)
            have nH8_g13 := Lib.hid (Nat.ne_of_lt H8.out.lt)
            have nHM_g13 := Lib.hid (own_newI HM.out)
            have nH12_g13 := Lib.hid (Nat.ne_of_lt H12.out.lt)
            have n_H5 := Lib.hid (H5.out.step hb5)
            have n_H8 := Lib.hid (H8.out.step hb5)
            have n_HV := Lib.hid (HV.out.below hb5)
            have n_HM := Lib.hid (own_below HM.out hb5)
            have n_HK := Lib.hid (HK.out.trans (hb5.mono HK.out.size))
            have n_H12 := Lib.hid (H12.out.step hb5)
            clear hb5 H5 H8 HV HM HK H12
            have H5 := n_H5
            have H8 := n_H8
            have HV := n_HV
            have HM := n_HM
            have HK := n_HK
            have H12 := n_H12
            clear n_H5 n_H8 n_HV n_HM n_HK n_H12
            generalize xd.alloc (.cells #[.int .u32 0, .int .u64 0, .int .i64 0, .string ⟨#[]⟩, .slice none 0 0] 28) = x14 at *
            generalize xd.heap.size = g13 at *
            have H13 := hL
            clear hL
            refine hK.out _ _ ⟨H8.out, H12.out⟩ (fun hHeld => ?_)
            clear hK K
            refine norm_ (a' := ?_) ?_ ?_
            rotate_left
            · show Act.put _ (some 13) _ = _
              simp only [Act.put, List.setIfInBounds_toArray, List.set_cons_zero, List.set_cons_succ]
              rfl
            refine one_ (i := 3) (N := some 78) #[true, true, true, true, false, false, false, false, true, false, false] rfl rfl (by kernel_rfl) (by decide) (fun K hK => ?_)
            clear hHeld
            refine goes_ Try.func25 (by kernel_rfl) rfl #[.int .i64 k, .agg #[.int .u32 xp, .string (ek12 xk), .int .u32 xrp, .int .i64 (es16 xrs)]] (by rfl) rfl rfl (by (try simp only [List.map_toArray, List.map_cons, List.map_nil]); first | done | rfl) ?_
            refine (putChild_any k (⟨xp, ek12 xk, xrp, es16 xrs⟩ : ChN) HX.out _).mono ?_
            rintro e_ x15 ⟨rfl, hb5⟩
            have n_H5 := Lib.hid (H5.out.step hb5)
            have n_H8 := Lib.hid (H8.out.step hb5)
            have n_HV := Lib.hid (HV.out.below hb5)
            have n_HM := Lib.hid (own_below HM.out hb5)
            have n_HK := Lib.hid (HK.out.trans (hb5.mono HK.out.size))
            have n_H12 := Lib.hid (H12.out.step hb5)
            have n_H13 := Lib.hid (H13.out.step hb5)
            clear hb5 H5 H8 HV HM HK H12 H13
            have H5 := n_H5
            have H8 := n_H8
            have HV := n_HV
            have HM := n_HM
            have HK := n_HK
            have H12 := n_H12
            have H13 := n_H13
            clear n_H5 n_H8 n_HV n_HM n_HK n_H12 n_H13
            refine ⟨_, rfl, ?_⟩
            refine hK.out _ _ ⟨H8.out, H12.out⟩ (fun hHeld => ?_)
            clear hK K
            refine norm_ (a' := ?_) ?_ ?_
            rotate_left
            · show Act.put _ (some 78) _ = _
              simp only [Act.put, List.setIfInBounds_toArray, List.set_cons_zero, List.set_cons_succ]
              rfl
            refine one_ (i := 4) (N := some 79) #[true, true, true, true, true, false, false, false, true, false, false] rfl rfl (by kernel_rfl) (by decide) (fun K hK => ?_)
            clear hHeld
            refine goes_ Try.func11 (by kernel_rfl) rfl #[.agg #[.int .u32 3, .int .u64 lsn, .int .i64 4, .string (H1 lv), (.slice Ap ms.length cp)], .agg #[.int .i64 2, .int .i64 k, .string (cslot (⟨xp, ek12 xk, xrp, es16 xrs⟩ : ChN)), .string ⟨#[]⟩], .int .u64 2] (by rfl) rfl rfl (by (try simp only [List.map_toArray, List.map_cons, List.map_nil]); first | done | rfl) ?_
            refine (ap_own 3 lsn 4 (H1 lv) 2 k (cslot (⟨xp, ek12 xk, xrp, es16 xrs⟩ : ChN)) ⟨#[]⟩ 2 HV.out h64_.out HSZ.out (by rw [H1_size]; omega)).mono ?_
            rintro e_ x16 ⟨vq, he_, ho_, hb5⟩
            rw [HAP.out] at he_ ho_
            subst he_
            have HQ := Lib.hid (OwnP.lower (show OwnP x16 x15.heap.size vq (List.map cslot ms1) from ho_) HK.out.size)
            clear ho_
            obtain ⟨Aq, cq, hVq⟩ := own_sl HQ.out
            rw [List.length_map] at hVq
            subst hVq
            have n_H5 := Lib.hid (H5.out.step hb5)
            have n_H8 := Lib.hid (H8.out.step hb5)
            have n_HV := Lib.hid (HV.out.below hb5)
            have n_HM := Lib.hid (own_below HM.out hb5)
            have n_HK := Lib.hid (HK.out.trans (hb5.mono HK.out.size))
            have n_H12 := Lib.hid (H12.out.step hb5)
            have n_H13 := Lib.hid (H13.out.step hb5)
            clear hb5 H5 H8 HV HM HK H12 H13
            have H5 := n_H5
            have H8 := n_H8
            have HV := n_HV
            have HM := n_HM
            have HK := n_HK
            have H12 := n_H12
            have H13 := n_H13
            clear n_H5 n_H8 n_HV n_HM n_HK n_H12 n_H13
            refine ⟨_, rfl, ?_⟩
            refine hK.out _ _ ⟨H8.out, H12.out⟩ (fun hHeld => ?_)
            clear hK K
            refine norm_ (a' := ?_) ?_ ?_
            rotate_left
            · show Act.put _ (some 79) _ = _
              simp only [Act.put, List.setIfInBounds_toArray, List.set_cons_zero, List.set_cons_succ]
              rfl
            refine pure_ (i := 5) (N := some 74) (v := ?_) (a' := ?_) #[true, true, true, true, true, true, false, false, true, false, false] rfl rfl (by kernel_rfl) (fun _ _ _ h => h) (Or.inl ⟨by rfl, ?_⟩) ?_ ?_
            rotate_left
            · intro w'
              go_simp
              with_reducible rfl
            rotate_left
            · simp only [Act.put, List.setIfInBounds_toArray, List.set_cons_zero, List.set_cons_succ, i64_w, i32_w]
              rfl
            refine pure_ (i := 6) (N := some 80) (v := ?_) (a' := ?_) #[true, true, true, true, true, true, true, false, true, false, false] rfl rfl (by kernel_rfl) (fun _ _ _ h => h) (Or.inl ⟨by rfl, ?_⟩) ?_ ?_
            rotate_left
            · intro w'
              go_simp
              with_reducible rfl
            rotate_left
            · simp only [Act.put, List.setIfInBounds_toArray, List.set_cons_zero, List.set_cons_succ, i64_w, i32_w]
              rfl
            refine pure_ (i := 7) (N := some 81) (v := ?_) (a' := ?_) #[true, true, true, true, true, true, true, true, true, false, false] rfl rfl (by kernel_rfl) (fun _ _ _ h => h) (Or.inl ⟨by rfl, ?_⟩) ?_ ?_
            rotate_left
            · intro w'
              go_simp
              with_reducible rfl
            rotate_left
            · simp only [Act.put, List.setIfInBounds_toArray, List.set_cons_zero, List.set_cons_succ, i64_w, i32_w]
              rfl
            refine one_ (i := 9) (N := none) #[true, true, true, true, true, true, true, true, true, true, false] rfl rfl (by kernel_rfl) (by decide) (fun K hK => ?_)
            clear hHeld
            refine skip_ (w1 := x16.setRow g13 #[.int .u32 3, .int .u64 2, .int .i64 4, .string (H1 lv), (.slice Aq ms1.length cq)]) (by rfl) rfl (run_store_rowI 28 (.tmp 13) (.tmp 80) rfl g13 #[.int .u32 3, .int .u64 2, .int .i64 4, .string (H1 lv), (.slice Aq ms1.length cq)] rfl (by rfl) 28 _ H13.out (by kernel_rfl) rfl (sh_one _ _ _ _ _)) ?_
            have n_H5 := Lib.hid (blk_setRowI H5.out #[.int .u32 3, .int .u64 2, .int .i64 4, .string (H1 lv), (.slice Aq ms1.length cq)] nH5_g13.out)
            have n_H8 := Lib.hid (blk_setRowI H8.out #[.int .u32 3, .int .u64 2, .int .i64 4, .string (H1 lv), (.slice Aq ms1.length cq)] nH8_g13.out)
            have n_HV := Lib.hid (OwnP.setRow (cs' := #[.int .u32 3, .int .u64 2, .int .i64 4, .string (H1 lv), (.slice Aq ms1.length cq)]) HV.out H13.out (by decide))
            have n_HM := Lib.hid (own_setRowI (cs' := #[.int .u32 3, .int .u64 2, .int .i64 4, .string (H1 lv), (.slice Aq ms1.length cq)]) HM.out nHM_g13.out)
            have n_HK := Lib.hid (setRow_below HK.out hg13b.out #[.int .u32 3, .int .u64 2, .int .i64 4, .string (H1 lv), (.slice Aq ms1.length cq)])
            have n_H12 := Lib.hid (blk_setRowI H12.out #[.int .u32 3, .int .u64 2, .int .i64 4, .string (H1 lv), (.slice Aq ms1.length cq)] nH12_g13.out)
            have n_HQ := Lib.hid (OwnP.setRow (cs' := #[.int .u32 3, .int .u64 2, .int .i64 4, .string (H1 lv), (.slice Aq ms1.length cq)]) HQ.out H13.out (by decide))
            have n_H13 := Lib.hid (blk_setRow (cs' := #[.int .u32 3, .int .u64 2, .int .i64 4, .string (H1 lv), (.slice Aq ms1.length cq)]) H13.out)
            clear H5 H8 HV HM HK H12 HQ H13
            have H5 := n_H5
            have H8 := n_H8
            have HV := n_HV
            have HM := n_HM
            have HK := n_HK
            have H12 := n_H12
            have HQ := n_HQ
            have H13 := n_H13
            clear n_H5 n_H8 n_HV n_HM n_HK n_H12 n_HQ n_H13
            generalize x16.setRow g13 #[.int .u32 3, .int .u64 2, .int .i64 4, .string (H1 lv), (.slice Aq ms1.length cq)] = x17 at *
            refine hK.out _ _ ⟨H8.out, H12.out⟩ (fun hHeld => ?_)
            clear hK K
            refine pure_ (i := 10) (N := some 14) (v := ?_) (a' := ?_) #[true, true, true, true, true, true, true, true, true, true, true] rfl rfl (by kernel_rfl) (fun _ _ _ h => h) (Or.inl ⟨by rfl, ?_⟩) ?_ ?_
            rotate_left
            · intro w'
              go_simp
              with_reducible rfl
            rotate_left
            · simp only [Act.put, List.setIfInBounds_toArray, List.set_cons_zero, List.set_cons_succ, i64_w, i32_w]
              rfl
            refine done_ (by kernel_rfl) ?_
            go_wp2_with fail
            go_meet
            exact ⟨g13, _, rfl, rfl, H13, HQ, H12, nH8_g13, H5, H8, HV, HM, HK⟩
        case rest =>
        clear H5 H8 HV HM HK H12 HSZ HAP h64_
        obtain ⟨g13, Vq, rfl, rfl, H13, HQ, H12, HN813, H5, H8, HV, HM, HK⟩ := hcut
        go_upto_region 11 with fail
        obtain ⟨Aq, cq, hVq⟩ := own_sl HQ.out
        rw [List.length_map] at hVq
        subst hVq
        obtain ⟨bq, hAq, hbq⟩ := slot_at HQ.out k (by rw [List.length_map, HL1.out]; omega)
        rw [slot_last HS1.out HMS.out] at hbq
        subst hAq
        have HBQ := Lib.hid hbq
        clear hbq
        go_cut [99] from 82 to 98 (fun bv wx => bv = .bool false ∧ Hid (Blk wx g13 28 #[.int .u32 3, .int .u64 2, .int .i64 4, .string (H1 lv), (.slice (some ⟨bq, 0, none⟩) ms1.length cq)]) ∧ Hid (OwnP wx w.heap.size (.slice (some ⟨bq, 0, none⟩) ms1.length cq) (List.map cslot ms1)) ∧ Hid (Blk wx g12 66 #[.int .u32 xp, .string (ek12 xk), .int .u32 xrp, .int .i64 (es16 xrs)]) ∧ Hid (Blk wx w.heap.size 43 #[.string ek, .int .u32 ep, .int .i64 es]) ∧ Hid (Blk wx g8 28 #[.int .u32 3, .int .u64 lsn, .int .i64 4, .string (H1 lv), (.slice Ap ms.length cp)]) ∧ Hid (OwnP wx w.heap.size (.slice Ap ms.length cp) (List.map cslot ms)) ∧ Hid (World.ownsRow wx w.heap.size 66 4 Vm (List.length ms) (List.map ChN.cells ms).flatten) ∧ Hid (Below w.heap.size w wx))
        case first =>
          have i2_ : (k : Int) < (ms1.length : Int) := by have h_ := HL1.out; omega
          have q4_ := H13.out.cell 4
          have z0_ := H12.out.cell 0
          have z1_ := H12.out.cell 1
          have z2_ := H12.out.cell 2
          have z3_ := H12.out.cell 3
          have s0_ := HBQ.out _ HQ.out
          refine start_ (n := 18) (S := fun w' => w'.cell? ⟨g13, 4, none⟩ = some (.slice (some ⟨bq, 0, none⟩) ms1.length cq) ∧ w'.cell? ⟨g12, 0, none⟩ = some (.int .u32 xp) ∧ w'.cell? ⟨g12, 1, none⟩ = some (.string (ek12 xk)) ∧ w'.cell? ⟨g12, 2, none⟩ = some (.int .u32 xrp) ∧ w'.cell? ⟨g12, 3, none⟩ = some (.int .i64 (es16 xrs)) ∧ w'.cell? ⟨bq, k, none⟩ = some (.string (cslot (⟨xp, ek12 xk, xrp, es16 xrs⟩ : ChN)))) (ds := []) #[false, false, false, false, false, false, false, false, false, false, false, false, false, false, false, false, false, false] (by kernel_rfl) rfl rfl ⟨q4_, z0_, z1_, z2_, z3_, s0_⟩ (fun hHeld => ?_)
          have hb5 := bdrew (Below.refl wc.heap.size wc)
          have n_H5 := Lib.hid (H5.out.step hb5)
          have n_H8 := Lib.hid (H8.out.step hb5)
          have n_HV := Lib.hid (HV.out.below hb5)
          have n_HM := Lib.hid (own_below HM.out hb5)
          have n_HK := Lib.hid (HK.out.trans (hb5.mono HK.out.size))
          have n_H12 := Lib.hid (H12.out.step hb5)
          have n_H13 := Lib.hid (H13.out.step hb5)
          have n_HQ := Lib.hid (HQ.out.below hb5)
          clear hb5 H5 H8 HV HM HK H12 H13 HQ
          have H5 := n_H5
          have H8 := n_H8
          have HV := n_HV
          have HM := n_HM
          have HK := n_HK
          have H12 := n_H12
          have H13 := n_H13
          have HQ := n_HQ
          clear n_H5 n_H8 n_HV n_HM n_HK n_H12 n_H13 n_HQ
          generalize wc.drew = xd at *
          clear q4_ z0_ z1_ z2_ z3_ s0_
          have q4_ := H13.out.cell 4
          have z0_ := H12.out.cell 0
          have z1_ := H12.out.cell 1
          have z2_ := H12.out.cell 2
          have z3_ := H12.out.cell 3
          have s0_ := HBQ.out _ HQ.out
          refine pure_ (i := 0) (N := some 82) (v := ?_) (a' := ?_) #[true, false, false, false, false, false, false, false, false, false, false, false, false, false, false, false, false, false] rfl rfl (by kernel_rfl) (fun _ _ _ h => h) (Or.inl ⟨by rfl, ?_⟩) ?_ ?_
          rotate_left
          · intro w'
            go_simp
            with_reducible rfl
          rotate_left
          · simp only [Act.put, List.setIfInBounds_toArray, List.set_cons_zero, List.set_cons_succ, i64_w, i32_w]
            rfl
          refine pure_ (i := 1) (N := some 83) (v := ?_) (a' := ?_) #[true, true, false, false, false, false, false, false, false, false, false, false, false, false, false, false, false, false] rfl rfl (by kernel_rfl) (fun _ _ _ h => h) (Or.inl ⟨by rfl, ?_⟩) ?_ ?_
          rotate_left
          · intro w'
            go_simp
            with_reducible rfl
          rotate_left
          · simp only [Act.put, List.setIfInBounds_toArray, List.set_cons_zero, List.set_cons_succ, i64_w, i32_w]
            rfl
          refine pure_ (i := 2) (N := some 84) (v := ?_) (a' := ?_) #[true, true, true, false, false, false, false, false, false, false, false, false, false, false, false, false, false, false] rfl rfl (by kernel_rfl) (fun _ _ _ h => h) (Or.inl ⟨by rfl, ?_⟩) ?_ ?_
          rotate_left
          · intro w'
            go_simp
            with_reducible rfl
          rotate_left
          · simp only [Act.put, List.setIfInBounds_toArray, List.set_cons_zero, List.set_cons_succ, i64_w, i32_w]
            rfl
          refine pure_ (i := 3) (N := some 85) (v := ?_) (a' := ?_) #[true, true, true, true, false, false, false, false, false, false, false, false, false, false, false, false, false, false] rfl rfl (by kernel_rfl) (fun _ _ _ h => h) (Or.inl ⟨by rfl, ?_⟩) ?_ ?_
          rotate_left
          · intro w'
            go_simp
            with_reducible rfl
          rotate_left
          · simp only [Act.put, List.setIfInBounds_toArray, List.set_cons_zero, List.set_cons_succ, i64_w, i32_w]
            rfl
          refine pure_ (i := 5) (N := some 87) (v := ?_) (a' := ?_) #[true, true, true, true, false, true, false, false, false, false, false, false, false, false, false, false, false, false] rfl rfl (by kernel_rfl) (fun _ _ _ h => h) (Or.inl ⟨by rfl, ?_⟩) ?_ ?_
          rotate_left
          · intro w'
            go_simp
            with_reducible rfl
          rotate_left
          · simp only [Act.put, List.setIfInBounds_toArray, List.set_cons_zero, List.set_cons_succ, i64_w, i32_w]
            rfl
          refine pure_ (i := 8) (N := some 90) (v := ?_) (a' := ?_) #[true, true, true, true, false, true, false, false, true, false, false, false, false, false, false, false, false, false] rfl rfl (by kernel_rfl) (fun _ _ _ h => h) (Or.inl ⟨by rfl, ?_⟩) ?_ ?_
          rotate_left
          · intro w'
            go_simp
            with_reducible rfl
          rotate_left
          · simp only [Act.put, List.setIfInBounds_toArray, List.set_cons_zero, List.set_cons_succ, i64_w, i32_w]
            rfl
          refine pure_ (i := 12) (N := some 94) (v := ?_) (a' := ?_) #[true, true, true, true, false, true, false, false, true, false, false, false, true, false, false, false, false, false] rfl rfl (by kernel_rfl) (fun _ _ _ h => h) (Or.inl ⟨by rfl, ?_⟩) ?_ ?_
          rotate_left
          · intro w'
            go_simp
            with_reducible rfl
          rotate_left
          · simp only [Act.put, List.setIfInBounds_toArray, List.set_cons_zero, List.set_cons_succ, i64_w, i32_w]
            rfl
          refine take_ (i := 4) (N := some 86) (v := ?_) (a' := ?_) #[true, true, true, true, true, true, false, false, true, false, false, false, true, false, false, false, false, false] rfl rfl (by kernel_rfl) (fun _ _ _ h => h) (Or.inl ⟨by rfl, ?_⟩) hHeld ?_ ?_
          rotate_left
          · rintro w' ⟨s0, s1, s2, s3, s4, s5⟩
            go_simp
            with_reducible rfl
          rotate_left
          · simp only [Act.put, List.setIfInBounds_toArray, List.set_cons_zero, List.set_cons_succ, i64_w, i32_w]
            rfl
          refine pure_ (i := 6) (N := some 88) (v := ?_) (a' := ?_) #[true, true, true, true, true, true, true, false, true, false, false, false, true, false, false, false, false, false] rfl rfl (by kernel_rfl) (fun _ _ _ h => h) (Or.inl ⟨by rfl, ?_⟩) ?_ ?_
          rotate_left
          · intro w'
            go_simp
            with_reducible rfl
          rotate_left
          · simp only [Act.put, List.setIfInBounds_toArray, List.set_cons_zero, List.set_cons_succ, i64_w, i32_w]
            rfl
          refine take_ (i := 7) (N := some 89) (v := .string (cslot (⟨xp, ek12 xk, xrp, es16 xrs⟩ : ChN))) (a' := ?_) #[true, true, true, true, true, true, true, true, true, false, false, false, true, false, false, false, false, false] rfl rfl (by kernel_rfl) (fun _ _ _ h => h) (Or.inl ⟨by rfl, ?_⟩) hHeld ?_ ?_
          · rintro w' ⟨s0, s1, s2, s3, s4, s5⟩
            go_simp
          rotate_left
          · simp only [Act.put, List.setIfInBounds_toArray, List.set_cons_zero, List.set_cons_succ, i64_w, i32_w]
            rfl
          refine take_ (i := 9) (N := some 91) (v := ?_) (a' := ?_) #[true, true, true, true, true, true, true, true, true, true, false, false, true, false, false, false, false, false] rfl rfl (by kernel_rfl) (fun _ _ _ h => h) (Or.inl ⟨by rfl, ?_⟩) hHeld ?_ ?_
          rotate_left
          · rintro w' ⟨s0, s1, s2, s3, s4, s5⟩
            go_simp
            with_reducible rfl
          rotate_left
          · simp only [Act.put, List.setIfInBounds_toArray, List.set_cons_zero, List.set_cons_succ, i64_w, i32_w]
            rfl
          refine pure_ (i := 10) (N := some 92) (v := .int .u64 xp) (a' := ?_) #[true, true, true, true, true, true, true, true, true, true, true, false, true, false, false, false, false, false] rfl rfl (by kernel_rfl) (fun _ _ _ h => h) (Or.inl ⟨by rfl, ?_⟩) ?_ ?_
          · intro w'
            have h_ : 0 ≤ xp ∧ xp ≤ 4294967295 := HX.out.1; go_simp; exact u64_w h_.1 (by omega)
          rotate_left
          · simp only [Act.put, List.setIfInBounds_toArray, List.set_cons_zero, List.set_cons_succ, i64_w, i32_w]
            rfl
          refine take_ (i := 13) (N := some 95) (v := .agg #[.string (ek12 xk), .int .u32 xrp, .int .i64 (es16 xrs)]) (a' := ?_) #[true, true, true, true, true, true, true, true, true, true, true, false, true, true, false, false, false, false] rfl rfl (by kernel_rfl) (fun _ _ _ h => h) (Or.inl ⟨by rfl, ?_⟩) hHeld ?_ ?_
          · rintro w' ⟨s0, s1, s2, s3, s4, s5⟩
            go_simp
          rotate_left
          · simp only [Act.put, List.setIfInBounds_toArray, List.set_cons_zero, List.set_cons_succ, i64_w, i32_w]
            rfl
          refine one_ (i := 11) (N := some 93) #[true, true, true, true, true, true, true, true, true, true, true, true, true, true, false, false, false, false] rfl rfl (by kernel_rfl) (by decide) (fun K hK => ?_)
          clear hHeld
          refine goes_ Try.func26 (by kernel_rfl) rfl #[.int .u64 xp, .int .i64 4] (by rfl) rfl rfl (by (try simp only [List.map_toArray, List.map_cons, List.map_nil]); first | done | rfl) ?_
          refine (put4_any HX.out.1.1 HX.out.1.2 _).mono ?_
          rintro e_ x18 ⟨rfl, hb5⟩
          have n_H5 := Lib.hid (H5.out.step hb5)
          have n_H8 := Lib.hid (H8.out.step hb5)
          have n_HV := Lib.hid (HV.out.below hb5)
          have n_HM := Lib.hid (own_below HM.out hb5)
          have n_HK := Lib.hid (HK.out.trans (hb5.mono HK.out.size))
          have n_H12 := Lib.hid (H12.out.step hb5)
          have n_H13 := Lib.hid (H13.out.step hb5)
          have n_HQ := Lib.hid (HQ.out.below hb5)
          clear hb5 H5 H8 HV HM HK H12 H13 HQ
          have H5 := n_H5
          have H8 := n_H8
          have HV := n_HV
          have HM := n_HM
          have HK := n_HK
          have H12 := n_H12
          have H13 := n_H13
          have HQ := n_HQ
          clear n_H5 n_H8 n_HV n_HM n_HK n_H12 n_H13 n_HQ
          refine ⟨_, rfl, ?_⟩
          clear q4_ z0_ z1_ z2_ z3_ s0_
          have q4_ := H13.out.cell 4
          have z0_ := H12.out.cell 0
          have z1_ := H12.out.cell 1
          have z2_ := H12.out.cell 2
          have z3_ := H12.out.cell 3
          have s0_ := HBQ.out _ HQ.out
          refine hK.out _ _ ⟨q4_, z0_, z1_, z2_, z3_, s0_⟩ (fun hHeld => ?_)
          clear hK K
          refine norm_ (a' := ?_) ?_ ?_
          rotate_left
          · show Act.put _ (some 93) _ = _
            simp only [Act.put, List.setIfInBounds_toArray, List.set_cons_zero, List.set_cons_succ]
            rfl
          refine one_ (i := 14) (N := some 96) #[true, true, true, true, true, true, true, true, true, true, true, true, true, true, true, false, false, false] rfl rfl (by kernel_rfl) (by decide) (fun K hK => ?_)
          clear hHeld
          refine goes_ Try.func27 (by kernel_rfl) rfl #[.agg #[.string (ek12 xk), .int .u32 xrp, .int .i64 (es16 xrs)]] (by rfl) rfl rfl (by (try simp only [List.map_toArray, List.map_cons, List.map_nil]); first | done | rfl) ?_
          refine (slotc_any (⟨xp, ek12 xk, xrp, es16 xrs⟩ : ChN) HX.out _).mono ?_
          rintro e_ x19 ⟨rfl, hb5⟩
          have n_H5 := Lib.hid (H5.out.step hb5)
          have n_H8 := Lib.hid (H8.out.step hb5)
          have n_HV := Lib.hid (HV.out.below hb5)
          have n_HM := Lib.hid (own_below HM.out hb5)
          have n_HK := Lib.hid (HK.out.trans (hb5.mono HK.out.size))
          have n_H12 := Lib.hid (H12.out.step hb5)
          have n_H13 := Lib.hid (H13.out.step hb5)
          have n_HQ := Lib.hid (HQ.out.below hb5)
          clear hb5 H5 H8 HV HM HK H12 H13 HQ
          have H5 := n_H5
          have H8 := n_H8
          have HV := n_HV
          have HM := n_HM
          have HK := n_HK
          have H12 := n_H12
          have H13 := n_H13
          have HQ := n_HQ
          clear n_H5 n_H8 n_HV n_HM n_HK n_H12 n_H13 n_HQ
          refine ⟨_, rfl, ?_⟩
          clear q4_ z0_ z1_ z2_ z3_ s0_
          have q4_ := H13.out.cell 4
          have z0_ := H12.out.cell 0
          have z1_ := H12.out.cell 1
          have z2_ := H12.out.cell 2
          have z3_ := H12.out.cell 3
          have s0_ := HBQ.out _ HQ.out
          refine hK.out _ _ ⟨q4_, z0_, z1_, z2_, z3_, s0_⟩ (fun hHeld => ?_)
          clear hK K
          refine norm_ (a' := ?_) ?_ ?_
          rotate_left
          · show Act.put _ (some 96) _ = _
            simp only [Act.put, List.setIfInBounds_toArray, List.set_cons_zero, List.set_cons_succ]
            rfl
          refine pure_ (i := 15) (N := some 97) (v := .string (cslot (⟨xp, ek12 xk, xrp, es16 xrs⟩ : ChN))) (a' := ?_) #[true, true, true, true, true, true, true, true, true, true, true, true, true, true, true, true, false, false] rfl rfl (by kernel_rfl) (fun _ _ _ h => h) (Or.inl ⟨by rfl, ?_⟩) ?_ ?_
          · intro w'
            go_simp; have hz_ := ek12_size xk; rw [if_neg (by simp only [bs_size, List.length_append, putL_length, es_]; omega)]; have h_ := cslot_cat (⟨xp, ek12 xk, xrp, es16 xrs⟩ : ChN); simp only [List.append_assoc] at h_; rw [h_]
          rotate_left
          · simp only [Act.put, List.setIfInBounds_toArray, List.set_cons_zero, List.set_cons_succ, i64_w, i32_w]
            rfl
          refine pure_ (i := 16) (N := some 98) (v := .bool false) (a' := ?_) #[true, true, true, true, true, true, true, true, true, true, true, true, true, true, true, true, true, false] rfl rfl (by kernel_rfl) (fun _ _ _ h => h) (Or.inl ⟨by rfl, ?_⟩) ?_ ?_
          · intro w'
            go_simp
          rotate_left
          · simp only [Act.put, List.setIfInBounds_toArray, List.set_cons_zero, List.set_cons_succ, i64_w, i32_w]
            rfl
          refine pure_ (i := 17) (N := some 99) (v := .bool false) (a' := ?_) #[true, true, true, true, true, true, true, true, true, true, true, true, true, true, true, true, true, true] rfl rfl (by kernel_rfl) (fun _ _ _ h => h) (Or.inl ⟨by rfl, ?_⟩) ?_ ?_
          · intro w'
            go_simp
          rotate_left
          · simp only [Act.put, List.setIfInBounds_toArray, List.set_cons_zero, List.set_cons_succ, i64_w, i32_w]
            rfl
          refine done_ (by kernel_rfl) ?_
          go_wp2_with fail
          go_meet
          exact ⟨rfl, H13, HQ, H12, H5, H8, HV, HM, HK⟩
        case rest =>
        clear H5 H8 HV HM HK H12 H13 HQ
        obtain ⟨rfl, H13, HQ, H12, H5, H8, HV, HM, HK⟩ := hcut
        go_upto_region 13 with fail
        obtain ⟨i0, hi0, hz0, hz1, hz2⟩ := info_partsI infoCH
        have I0 := Lib.hid hi0
        clear hi0
        refine start_ (n := 7) (S := fun w' => Blk w' g13 28 #[.int .u32 3, .int .u64 2, .int .i64 4, .string (H1 lv), (.slice (some ⟨bq, 0, none⟩) ms1.length cq)] ∧ Blk w' g12 66 #[.int .u32 xp, .string (ek12 xk), .int .u32 xrp, .int .i64 (es16 xrs)]) (ds := []) #[false, false, false, false, false, false, false] (by kernel_rfl) rfl rfl ⟨H13.out, H12.out⟩ (fun hHeld => ?_)
        have hb5 := bdrew (Below.refl wc.heap.size wc)
        have n_H5 := Lib.hid (H5.out.step hb5)
        have n_H8 := Lib.hid (H8.out.step hb5)
        have n_HV := Lib.hid (HV.out.below hb5)
        have n_HM := Lib.hid (own_below HM.out hb5)
        have n_HK := Lib.hid (HK.out.trans (hb5.mono HK.out.size))
        have n_H12 := Lib.hid (H12.out.step hb5)
        have n_H13 := Lib.hid (H13.out.step hb5)
        have n_HQ := Lib.hid (HQ.out.below hb5)
        clear hb5 H5 H8 HV HM HK H12 H13 HQ
        have H5 := n_H5
        have H8 := n_H8
        have HV := n_HV
        have HM := n_HM
        have HK := n_HK
        have H12 := n_H12
        have H13 := n_H13
        have HQ := n_HQ
        clear n_H5 n_H8 n_HV n_HM n_HK n_H12 n_H13 n_HQ
        generalize wc.drew = xd at *
        refine take_ (i := 0) (N := some 100) (v := .agg #[.int .u32 3, .int .u64 2, .int .i64 4, .string (H1 lv), (.slice (some ⟨bq, 0, none⟩) ms1.length cq)]) (a' := ?_) #[true, false, false, false, false, false, false] rfl rfl (by kernel_rfl) (fun _ _ _ h => h) (yields_row 28 (.tmp 13) rfl (by rfl) g13 rfl 28 #[.int .u32 3, .int .u64 2, .int .i64 4, .string (H1 lv), (.slice (some ⟨bq, 0, none⟩) ms1.length cq)] (0, 0) _ (fun w_ h => h.1) Try.underlying28 rfl (by kernel_rfl)) hHeld ?_ ?_
        rotate_left
        · simp only [Act.put, List.setIfInBounds_toArray, List.set_cons_zero, List.set_cons_succ, i64_w, i32_w]
          rfl
        refine pure_ (i := 1) (N := some 101) (v := ?_) (a' := ?_) #[true, true, false, false, false, false, false] rfl rfl (by kernel_rfl) (fun _ _ _ h => h) (Or.inl ⟨by rfl, ?_⟩) ?_ ?_
        rotate_left
        · intro w'
          go_simp
          with_reducible rfl
        rotate_left
        · simp only [Act.put, List.setIfInBounds_toArray, List.set_cons_zero, List.set_cons_succ, i64_w, i32_w]
          rfl
        refine take_ (i := 2) (N := some 102) (v := .agg #[.int .u32 xp, .string (ek12 xk), .int .u32 xrp, .int .i64 (es16 xrs)]) (a' := ?_) #[true, true, true, false, false, false, false] rfl rfl (by kernel_rfl) (fun _ _ _ h => h) (yields_row 66 (.tmp 12) rfl (by rfl) g12 rfl 66 #[.int .u32 xp, .string (ek12 xk), .int .u32 xrp, .int .i64 (es16 xrs)] (0, 0) _ (fun w_ h => h.2) Try.underlying66 rfl (by kernel_rfl)) hHeld ?_ ?_
        rotate_left
        · simp only [Act.put, List.setIfInBounds_toArray, List.set_cons_zero, List.set_cons_succ, i64_w, i32_w]
          rfl
        refine one_ (i := 3) (N := some 103) #[true, true, true, true, false, false, false] rfl rfl (by kernel_rfl) (by decide) (fun K hK => ?_)
        clear hHeld
        refine value_ (w1 := xd.alloc (.cells #[.int .u32 xp, .string (ek12 xk), .int .u32 xrp, .int .i64 (es16 xrs)] 66)) (v := .slice (some ⟨xd.heap.size, 0, none⟩) 1 1) (by rfl) rfl (by go_simp) ?_
        have hb5 := balloc (Below.refl xd.heap.size xd) (.cells #[.int .u32 xp, .string (ek12 xk), .int .u32 xrp, .int .i64 (es16 xrs)] 66)
        have hL := Lib.hid (Blk.new xd 66 #[.int .u32 xp, .string (ek12 xk), .int .u32 xrp, .int .i64 (es16 xrs)])
        have hgb := Lib.hid HK.out.size
        have n_H5 := Lib.hid (H5.out.step hb5)
        have n_H8 := Lib.hid (H8.out.step hb5)
        have n_HV := Lib.hid (HV.out.below hb5)
        have n_HM := Lib.hid (own_below HM.out hb5)
        have n_HK := Lib.hid (HK.out.trans (hb5.mono HK.out.size))
        have n_H12 := Lib.hid (H12.out.step hb5)
        have n_H13 := Lib.hid (H13.out.step hb5)
        have n_HQ := Lib.hid (HQ.out.below hb5)
        clear hb5 H5 H8 HV HM HK H12 H13 HQ
        have H5 := n_H5
        have H8 := n_H8
        have HV := n_HV
        have HM := n_HM
        have HK := n_HK
        have H12 := n_H12
        have H13 := n_H13
        have HQ := n_HQ
        clear n_H5 n_H8 n_HV n_HM n_HK n_H12 n_H13 n_HQ
        generalize xd.alloc (.cells #[.int .u32 xp, .string (ek12 xk), .int .u32 xrp, .int .i64 (es16 xrs)] 66) = x20 at *
        generalize xd.heap.size = gl at *
        refine hK.out _ _ ⟨H13.out, H12.out⟩ (fun hHeld => ?_)
        clear hK K
        refine norm_ (a' := ?_) ?_ ?_
        rotate_left
        · show Act.put _ (some 103) _ = _
          simp only [Act.put, List.setIfInBounds_toArray, List.set_cons_zero, List.set_cons_succ]
          rfl
        refine one_ (i := 4) (N := some 104) #[true, true, true, true, true, false, false] rfl rfl (by kernel_rfl) (by decide) (fun K hK => ?_)
        clear hHeld
        refine step_append_own rfl (.tmp 101) (.tmp 103) 63 rfl w.heap.size 66 i0 _ 4 40 Try.underlying63 I0.out hz0 hz1 hz2 rfl (by decide) Vm ms.length _ rfl HM.out ⟨gl, 0, none⟩ 1 1 (ChN.cells (⟨xp, ek12 xk, xrp, es16 xrs⟩ : ChN)) rfl rfl (cellsB hL.out) (by simp [ChN.cells, Value.oneCell']) (by have h_ := HMS.out; unfold maxLen; omega) (by have h_ := HMS.out; omega) HK.out.size ?_
        intro mn x21 ho_ hg_ hnil_
        have n_5 := Lib.hid (H5.out.grown hg_ (fun e_ => own_ne_blk HM.out H5.out (by decide) e_.symm))
        have n_8 := Lib.hid (H8.out.grown hg_ (fun e_ => own_ne_blk HM.out H8.out (by decide) e_.symm))
        have n_13 := Lib.hid (H13.out.grown hg_ (fun e_ => own_ne_blk HM.out H13.out (by decide) e_.symm))
        have n_12 := Lib.hid (H12.out.grown hg_ (fun e_ => HN12.out e_.symm))
        have n_V := Lib.hid (OwnP.grown HV.out hg_ (own_ne_own HV.out HM.out (by decide)))
        have n_Q := Lib.hid (OwnP.grown HQ.out hg_ (own_ne_own HQ.out HM.out (by decide)))
        have n_K := Lib.hid (HK.out.grown hg_ HK.out.size (fun k_ e_ => (HM.out.lt k_ e_).1))
        have n_M := Lib.hid (show World.ownsRow x21 w.heap.size 66 4 mn (List.length ms1) (List.map ChN.cells ms1).flatten from by rw [HS1.out, flat_snocI, List.length_append, List.length_singleton]; exact ho_)
        clear H5 H8 H13 H12 HV HQ HK HM ho_ hg_ hnil_ hL
        have H5 := n_5
        have H8 := n_8
        have H13 := n_13
        have H12 := n_12
        have HV := n_V
        have HQ := n_Q
        have HK := n_K
        have HM := n_M
        clear n_5 n_8 n_13 n_12 n_V n_Q n_K n_M
        refine hK.out _ _ ⟨H13.out, H12.out⟩ (fun hHeld => ?_)
        clear hK K
        refine norm_ (a' := ?_) ?_ ?_
        rotate_left
        · show Act.put _ (some 104) _ = _
          simp only [Act.put, List.setIfInBounds_toArray, List.set_cons_zero, List.set_cons_succ]
          rfl
        refine one_ (i := 5) (N := none) #[true, true, true, true, true, true, false] rfl rfl (by kernel_rfl) (by decide) (fun K hK => ?_)
        clear hHeld
        refine skip_ (w1 := x21.setRow g8 #[.int .u32 3, .int .u64 2, .int .i64 4, .string (H1 lv), (.slice (some ⟨bq, 0, none⟩) ms1.length cq)]) (by rfl) rfl (run_store_rowI 28 (.tmp 8) (.tmp 100) rfl g8 #[.int .u32 3, .int .u64 2, .int .i64 4, .string (H1 lv), (.slice (some ⟨bq, 0, none⟩) ms1.length cq)] rfl (by rfl) 28 _ H8.out (by kernel_rfl) rfl (sh_one _ _ _ _ _)) ?_
        have n_8 := Lib.hid (blk_setRow (cs' := #[.int .u32 3, .int .u64 2, .int .i64 4, .string (H1 lv), (.slice (some ⟨bq, 0, none⟩) ms1.length cq)]) H8.out)
        have n_5 := Lib.hid (blk_setRowI H5.out #[.int .u32 3, .int .u64 2, .int .i64 4, .string (H1 lv), (.slice (some ⟨bq, 0, none⟩) ms1.length cq)] HG8.out)
        have n_13 := Lib.hid (blk_setRowI H13.out #[.int .u32 3, .int .u64 2, .int .i64 4, .string (H1 lv), (.slice (some ⟨bq, 0, none⟩) ms1.length cq)] (Ne.symm HN813.out))
        have n_12 := Lib.hid (blk_setRowI H12.out #[.int .u32 3, .int .u64 2, .int .i64 4, .string (H1 lv), (.slice (some ⟨bq, 0, none⟩) ms1.length cq)] (Ne.symm HN8.out))
        have n_Q := Lib.hid (OwnP.setRow (cs' := #[.int .u32 3, .int .u64 2, .int .i64 4, .string (H1 lv), (.slice (some ⟨bq, 0, none⟩) ms1.length cq)]) HQ.out H8.out (by decide))
        have n_M := Lib.hid (own_setRowI (cs' := #[.int .u32 3, .int .u64 2, .int .i64 4, .string (H1 lv), (.slice (some ⟨bq, 0, none⟩) ms1.length cq)]) HM.out (own_ne_blk HM.out H8.out (by decide)))
        have n_K := Lib.hid (setRow_below HK.out (show w.heap.size ≤ g8 from HG8b.out) #[.int .u32 3, .int .u64 2, .int .i64 4, .string (H1 lv), (.slice (some ⟨bq, 0, none⟩) ms1.length cq)])
        clear H5 H8 H13 H12 HV HQ HK HM
        have H5 := n_5
        have H8 := n_8
        have H13 := n_13
        have H12 := n_12
        have HQ := n_Q
        have HK := n_K
        have HM := n_M
        clear n_5 n_8 n_13 n_12 n_Q n_K n_M
        generalize x21.setRow g8 #[.int .u32 3, .int .u64 2, .int .i64 4, .string (H1 lv), (.slice (some ⟨bq, 0, none⟩) ms1.length cq)] = x22 at *
        refine hK.out _ _ ⟨H13.out, H12.out⟩ (fun hHeld => ?_)
        clear hK K
        refine pure_ (i := 6) (N := some 10) (v := ?_) (a' := ?_) #[true, true, true, true, true, true, true] rfl rfl (by kernel_rfl) (fun _ _ _ h => h) (Or.inl ⟨by rfl, ?_⟩) ?_ ?_
        rotate_left
        · intro w'
          go_simp
          with_reducible rfl
        rotate_left
        · simp only [Act.put, List.setIfInBounds_toArray, List.set_cons_zero, List.set_cons_succ, i64_w, i32_w]
          rfl
        refine done_ (by kernel_rfl) ?_
        go_wp2_with fail
        go_roundw
        case rel => exact ⟨k + 1, ms1, 2, _, _, rfl, by first | rfl | go_num, by omega, by omega, HL1, HG1, H5, H8, HQ, HM, HK⟩
        case measure => simp [intOf]; omega
      · by_cases h1 : k < l.length
        · have d1 : decide ((k : Int) < (l.length : Int)) = true := by simpa using h1
          have d2 : decide ((k : Int) < 12) = false := decide_eq_false (by omega)
          have d3 : decide (k < l.length) = true := decide_eq_true h1
          have d4 : decide (k < 12) = false := decide_eq_false (by omega)
          clear h1 hc
          go_wp2_with fail
          go_meet
          exact ⟨ms, lsn, Vp, _, rfl, by have h_ := HMS.out; omega, HGd, H5, H8, HV, HM, HK⟩
        · have d1 : decide ((k : Int) < (l.length : Int)) = false := decide_eq_false (by omega)
          have d3 : decide (k < l.length) = false := decide_eq_false h1
          clear h1 hc
          go_wp2_with fail
          go_meet
          exact ⟨ms, lsn, Vp, _, rfl, by have h_ := HMS.out; omega, HGd, H5, H8, HV, HM, HK⟩
  case rest =>
  clear H5 H8 HV HM HK HA HP
  obtain ⟨ms, lsn, Vp, Vm, rfl, hm12, HGd, H5, H8, HV, HM, HK⟩ := hcut
  obtain ⟨Am, cm, hVm⟩ := own_sl HM.out
  subst hVm
  obtain ⟨Ap, cp, hVp⟩ := own_sl HV.out
  rw [List.length_map] at hVp
  subst hVp
  go_upto_block 2 with (first | (with_reducible refine isLoadN 28 (.tmp 8) ?_; with_unfolding_all refine wpList_load_row rfl 28 (.tmp 8) rfl g8 (by kernel_rfl) 28 #[.int .u32 3, .int .u64 lsn, .int .i64 4, .string (H1 lv), (.slice Ap ms.length cp)] (0, 0) _ H8.out Try.underlying28 rfl (by kernel_rfl) ?_) | (go_at_call 28; refine (inner_own 3 lsn lv HGd.out (by omega) HV.out).mono ?_; rintro e' w7 ⟨Ak, ck, rfl, hC_, hb5⟩; have HC := Lib.hid hC_; clear hC_; have n_H5 := Lib.hid (H5.out.step hb5); have n_H8 := Lib.hid (H8.out.step hb5); have n_HV := Lib.hid (HV.out.below hb5); have n_HM := Lib.hid (own_below HM.out hb5); have n_HK := Lib.hid (HK.out.trans (hb5.mono HK.out.size)); clear hb5 H5 H8 HV HM HK; have H5 := n_H5; have H8 := n_H8; have HV := n_HV; have HM := n_HM; have HK := n_HK; clear n_H5 n_H8 n_HV n_HM n_HK) | (with_reducible refine isGuarded ?_; refine guardOn (by with_unfolding_all rfl) ?_; intro _ _))
  go_cut [17, 18] from 119 to 146 (fun wv _ wx => wv = .int .i64 ((dnN ms ek ep es ms.length : Nat) : Int) ∧ Hid (Blk wx w.heap.size 43 #[.string ek, .int .u32 ep, .int .i64 es]) ∧ Hid (Blk wx g8 28 #[.int .u32 3, .int .u64 lsn, .int .i64 4, .string (H1 lv), (.slice Ap ms.length cp)]) ∧ Hid (OwnP wx w.heap.size (.slice Ap ms.length cp) (List.map cslot ms)) ∧ Hid (World.ownsRow wx w.heap.size 66 4 (.slice Am ms.length cm) (List.length ms) (List.map ChN.cells ms).flatten) ∧ Hid (RowsC wx Ak ck ms) ∧ Hid (Below w.heap.size w wx))
  case first =>
    go_wp2_with fail
    go_loopw [17, 18] (fun wv iv wr => ∃ i : Nat, iv = .int .i64 i ∧ i ≤ ms.length ∧ wv = .int .i64 ((dnN ms ek ep es i : Nat) : Int) ∧ Hid (Blk wr w.heap.size 43 #[.string ek, .int .u32 ep, .int .i64 es]) ∧ Hid (Blk wr g8 28 #[.int .u32 3, .int .u64 lsn, .int .i64 4, .string (H1 lv), (.slice Ap ms.length cp)]) ∧ Hid (OwnP wr w.heap.size (.slice Ap ms.length cp) (List.map cslot ms)) ∧ Hid (World.ownsRow wr w.heap.size 66 4 (.slice Am ms.length cm) (List.length ms) (List.map ChN.cells ms).flatten) ∧ Hid (RowsC wr Ak ck ms) ∧ Hid (Below w.heap.size w wr))
      (fun _ iv _ => ms.length - (intOf iv).toNat)
    case atStart => exact ⟨0, rfl, Nat.zero_le _, rfl, H5, H8, HV, HM, HC, HK⟩
    case round =>
      clear H5 H8 HV HM HC HK
      obtain ⟨i, rfl, hi, rfl, H5, H8, HV, HM, HC, HK⟩ := hrel
      by_cases h1 : i < ms.length
      · have e1_ : decide ((i : Int) < (ms.length : Int)) = true := decide_eq_true (by omega)
        have e2_ : decide (i < ms.length) = true := decide_eq_true h1
        go_upto_region 21 with fail
        clear e1_ e2_
        obtain ⟨mb, hAm, hmb⟩ := rowM_at HM.out rfl i h1
        obtain ⟨kb, ko, hAk, hkb⟩ := rowC_at HC.out i h1
        obtain ⟨x, hx_⟩ : ∃ x, ms[i] = x := ⟨_, rfl⟩
        rw [hx_] at hmb hkb
        have HXX := Lib.hid hx_
        clear hx_
        obtain ⟨xp, xk, xrp, xrs⟩ := x
        have HMB := Lib.hid hmb
        have HKB := Lib.hid hkb
        clear hmb hkb
        have i0_ : (0 : Int) ≤ i := by omega
        have i1_ : (i : Int) < ms.length := by omega
        subst hAm
        subst hAk
        go_cut [133] from 125 to 132 (fun bv wx => bv = .bool false ∧ Hid (Blk wx w.heap.size 43 #[.string ek, .int .u32 ep, .int .i64 es]) ∧ Hid (Blk wx g8 28 #[.int .u32 3, .int .u64 lsn, .int .i64 4, .string (H1 lv), (.slice Ap ms.length cp)]) ∧ Hid (OwnP wx w.heap.size (.slice Ap ms.length cp) (List.map cslot ms)) ∧ Hid (World.ownsRow wx w.heap.size 66 4 (.slice (some ⟨mb, 0, none⟩) ms.length cm) (List.length ms) (List.map ChN.cells ms).flatten) ∧ Hid (RowsC wx (some ⟨kb, ko, none⟩) ck ms) ∧ Hid (Below w.heap.size w wx))
        case first =>
          have m0_ : wr.cell? ⟨mb, i * 4, none⟩ = some (.int .u32 xp) := (by simpa using HMB.out wr HM.out 0 _ rfl)
          have m1_ : wr.cell? ⟨mb, i * 4 + 1, none⟩ = some (.string xk) := (by simpa using HMB.out wr HM.out 1 _ rfl)
          have m2_ : wr.cell? ⟨mb, i * 4 + 2, none⟩ = some (.int .u32 xrp) := (by simpa using HMB.out wr HM.out 2 _ rfl)
          have m3_ : wr.cell? ⟨mb, i * 4 + 3, none⟩ = some (.int .i64 xrs) := (by simpa using HMB.out wr HM.out 3 _ rfl)
          have k0_ : wr.cell? ⟨kb, ko + i * 4, none⟩ = some (.int .u32 xp) := (by simpa using HKB.out wr HC.out 0 _ rfl)
          have k1_ : wr.cell? ⟨kb, ko + i * 4 + 1, none⟩ = some (.string xk) := (by simpa using HKB.out wr HC.out 1 _ rfl)
          have k2_ : wr.cell? ⟨kb, ko + i * 4 + 2, none⟩ = some (.int .u32 xrp) := (by simpa using HKB.out wr HC.out 2 _ rfl)
          have k3_ : wr.cell? ⟨kb, ko + i * 4 + 3, none⟩ = some (.int .i64 xrs) := (by simpa using HKB.out wr HC.out 3 _ rfl)
          refine start_ (n := 9) (S := fun w' => w'.cell? ⟨mb, i * 4, none⟩ = some (.int .u32 xp) ∧ w'.cell? ⟨mb, i * 4 + 1, none⟩ = some (.string xk) ∧ w'.cell? ⟨mb, i * 4 + 2, none⟩ = some (.int .u32 xrp) ∧ w'.cell? ⟨mb, i * 4 + 3, none⟩ = some (.int .i64 xrs) ∧ w'.cell? ⟨kb, ko + i * 4, none⟩ = some (.int .u32 xp) ∧ w'.cell? ⟨kb, ko + i * 4 + 1, none⟩ = some (.string xk) ∧ w'.cell? ⟨kb, ko + i * 4 + 2, none⟩ = some (.int .u32 xrp) ∧ w'.cell? ⟨kb, ko + i * 4 + 3, none⟩ = some (.int .i64 xrs)) (ds := []) #[false, false, false, false, false, false, false, false, false] (by kernel_rfl) rfl rfl ⟨m0_, m1_, m2_, m3_, k0_, k1_, k2_, k3_⟩ (fun hHeld => ?_)
          have hb5 := bdrew (Below.refl wr.heap.size wr)
          have n_H5 := Lib.hid (H5.out.step hb5)
          have n_H8 := Lib.hid (H8.out.step hb5)
          have n_HV := Lib.hid (HV.out.below hb5)
          have n_HM := Lib.hid (own_below HM.out hb5)
          have n_HC := Lib.hid (HC.out.below hb5)
          have n_HK := Lib.hid (HK.out.trans (hb5.mono HK.out.size))
          clear hb5 H5 H8 HV HM HC HK
          have H5 := n_H5
          have H8 := n_H8
          have HV := n_HV
          have HM := n_HM
          have HC := n_HC
          have HK := n_HK
          clear n_H5 n_H8 n_HV n_HM n_HC n_HK
          generalize wr.drew = xd at *
          refine pure_ (i := 0) (N := some 125) (v := ?_) (a' := ?_) #[true, false, false, false, false, false, false, false, false] rfl rfl (by kernel_rfl) (fun _ _ _ h => h) (Or.inl ⟨by rfl, ?_⟩) ?_ ?_
          rotate_left
          · intro w'
            go_simp
            with_reducible rfl
          rotate_left
          · simp only [Act.put, List.setIfInBounds_toArray, List.set_cons_zero, List.set_cons_succ, i64_w, i32_w]
            rfl
          refine pure_ (i := 1) (N := some 126) (v := ?_) (a' := ?_) #[true, true, false, false, false, false, false, false, false] rfl rfl (by kernel_rfl) (fun _ _ _ h => h) (Or.inl ⟨by rfl, ?_⟩) ?_ ?_
          rotate_left
          · intro w'
            go_simp
            with_reducible rfl
          rotate_left
          · simp only [Act.put, List.setIfInBounds_toArray, List.set_cons_zero, List.set_cons_succ, i64_w, i32_w]
            rfl
          refine pure_ (i := 2) (N := some 127) (v := ?_) (a' := ?_) #[true, true, true, false, false, false, false, false, false] rfl rfl (by kernel_rfl) (fun _ _ _ h => h) (Or.inl ⟨by rfl, ?_⟩) ?_ ?_
          rotate_left
          · intro w'
            go_simp
            with_reducible rfl
          rotate_left
          · simp only [Act.put, List.setIfInBounds_toArray, List.set_cons_zero, List.set_cons_succ, i64_w, i32_w]
            rfl
          refine pure_ (i := 4) (N := some 129) (v := ?_) (a' := ?_) #[true, true, true, false, true, false, false, false, false] rfl rfl (by kernel_rfl) (fun _ _ _ h => h) (Or.inl ⟨by rfl, ?_⟩) ?_ ?_
          rotate_left
          · intro w'
            go_simp
            with_reducible rfl
          rotate_left
          · simp only [Act.put, List.setIfInBounds_toArray, List.set_cons_zero, List.set_cons_succ, i64_w, i32_w]
            rfl
          refine pure_ (i := 5) (N := some 130) (v := ?_) (a' := ?_) #[true, true, true, false, true, true, false, false, false] rfl rfl (by kernel_rfl) (fun _ _ _ h => h) (Or.inl ⟨by rfl, ?_⟩) ?_ ?_
          rotate_left
          · intro w'
            go_simp
            with_reducible rfl
          rotate_left
          · simp only [Act.put, List.setIfInBounds_toArray, List.set_cons_zero, List.set_cons_succ, i64_w, i32_w]
            rfl
          refine pure_ (i := 6) (N := some 131) (v := ?_) (a' := ?_) #[true, true, true, false, true, true, true, false, false] rfl rfl (by kernel_rfl) (fun _ _ _ h => h) (Or.inl ⟨by rfl, ?_⟩) ?_ ?_
          rotate_left
          · intro w'
            go_simp
            with_reducible rfl
          rotate_left
          · simp only [Act.put, List.setIfInBounds_toArray, List.set_cons_zero, List.set_cons_succ, i64_w, i32_w]
            rfl
          refine take_ (i := 3) (N := some 128) (v := .agg #[.int .u32 xp, .string xk, .int .u32 xrp, .int .i64 xrs]) (a' := ?_) #[true, true, true, true, true, true, true, false, false] rfl rfl (by kernel_rfl) (fun _ _ _ h => h) (Or.inl ⟨by rfl, ?_⟩) hHeld ?_ ?_
          · rintro w' ⟨s0, s1, s2, s3, s4, s5, s6, s7⟩
            go_simp
          rotate_left
          · simp only [Act.put, List.setIfInBounds_toArray, List.set_cons_zero, List.set_cons_succ, i64_w, i32_w]
            rfl
          refine take_ (i := 7) (N := some 132) (v := .agg #[.int .u32 xp, .string xk, .int .u32 xrp, .int .i64 xrs]) (a' := ?_) #[true, true, true, true, true, true, true, true, false] rfl rfl (by kernel_rfl) (fun _ _ _ h => h) (Or.inl ⟨by rfl, ?_⟩) hHeld ?_ ?_
          · rintro w' ⟨s0, s1, s2, s3, s4, s5, s6, s7⟩
            go_simp
          rotate_left
          · simp only [Act.put, List.setIfInBounds_toArray, List.set_cons_zero, List.set_cons_succ, i64_w, i32_w]
            rfl
          refine pure_ (i := 8) (N := some 133) (v := .bool false) (a' := ?_) #[true, true, true, true, true, true, true, true, true] rfl rfl (by kernel_rfl) (fun _ _ _ h => h) (Or.inl ⟨by rfl, ?_⟩) ?_ ?_
          · intro w'
            go_simp; try simp
          rotate_left
          · simp only [Act.put, List.setIfInBounds_toArray, List.set_cons_zero, List.set_cons_succ, i64_w, i32_w]
            rfl
          refine done_ (by kernel_rfl) ?_
          clear m0_ m1_ m2_ m3_ k0_ k1_ k2_ k3_
          go_wp2_with fail
          go_meet
          exact ⟨rfl, H5, H8, HV, HM, HC, HK⟩
        case rest =>
        clear H5 H8 HV HM HC HK
        obtain ⟨rfl, H5, H8, HV, HM, HC, HK⟩ := hcut
        go_upto_region 23 with fail
        go_cut [145] from 134 to 144 (fun bv wx => ∃ b : Bool, bv = .bool b ∧ Hid (b = true ↔ (0 < i ∧ bef ek ep es xk xrp xrs = false)) ∧ Hid (Blk wx w.heap.size 43 #[.string ek, .int .u32 ep, .int .i64 es]) ∧ Hid (Blk wx g8 28 #[.int .u32 3, .int .u64 lsn, .int .i64 4, .string (H1 lv), (.slice Ap ms.length cp)]) ∧ Hid (OwnP wx w.heap.size (.slice Ap ms.length cp) (List.map cslot ms)) ∧ Hid (World.ownsRow wx w.heap.size 66 4 (.slice (some ⟨mb, 0, none⟩) ms.length cm) (List.length ms) (List.map ChN.cells ms).flatten) ∧ Hid (RowsC wx (some ⟨kb, ko, none⟩) ck ms) ∧ Hid (Below w.heap.size w wx))
        case first =>
          rcases Nat.eq_zero_or_pos i with h0 | h0
          · have HZ := Lib.hid h0
            clear h0
            refine start_ (n := 12) (S := fun w' => True) (ds := []) #[false, false, false, false, false, false, false, false, false, false, false, false] (by kernel_rfl) rfl rfl trivial (fun hHeld => ?_)
            have hb5 := bdrew (Below.refl wc.heap.size wc)
            have n_H5 := Lib.hid (H5.out.step hb5)
            have n_H8 := Lib.hid (H8.out.step hb5)
            have n_HV := Lib.hid (HV.out.below hb5)
            have n_HM := Lib.hid (own_below HM.out hb5)
            have n_HC := Lib.hid (HC.out.below hb5)
            have n_HK := Lib.hid (HK.out.trans (hb5.mono HK.out.size))
            clear hb5 H5 H8 HV HM HC HK
            have H5 := n_H5
            have H8 := n_H8
            have HV := n_HV
            have HM := n_HM
            have HC := n_HC
            have HK := n_HK
            clear n_H5 n_H8 n_HV n_HM n_HC n_HK
            generalize wc.drew = xd at *
            refine pure_ (i := 0) (N := some 134) (v := ?_) (a' := ?_) #[true, false, false, false, false, false, false, false, false, false, false, false] rfl rfl (by kernel_rfl) (fun _ _ _ h => h) (Or.inl ⟨by rfl, ?_⟩) ?_ ?_
            rotate_left
            · intro w'
              go_simp
              with_reducible rfl
            rotate_left
            · simp only [Act.put, List.setIfInBounds_toArray, List.set_cons_zero, List.set_cons_succ, i64_w, i32_w]
              rfl
            refine pure_ (i := 1) (N := some 135) (v := .bool false) (a' := ?_) #[true, true, false, false, false, false, false, false, false, false, false, false] rfl rfl (by kernel_rfl) (fun _ _ _ h => h) (Or.inl ⟨by rfl, ?_⟩) ?_ ?_
            · intro w'
              have h_ := HZ.out; go_simp; try (simp; omega)
            rotate_left
            · simp only [Act.put, List.setIfInBounds_toArray, List.set_cons_zero, List.set_cons_succ, i64_w, i32_w]
              rfl
            refine pure_ (i := 2) (N := some 136) (v := ?_) (a' := ?_) #[true, true, true, false, false, false, false, false, false, false, false, false] rfl rfl (by kernel_rfl) (fun _ _ _ h => h) (Or.inl ⟨by rfl, ?_⟩) ?_ ?_
            rotate_left
            · intro w'
              go_simp
              with_reducible rfl
            rotate_left
            · simp only [Act.put, List.setIfInBounds_toArray, List.set_cons_zero, List.set_cons_succ, i64_w, i32_w]
              rfl
            refine pure_ (i := 3) (N := some 137) (v := undef) (a' := ?_) #[true, true, true, true, false, false, false, false, false, false, false, false] rfl rfl (by kernel_rfl) (fun _ _ _ h => h) (Or.inr ⟨by rfl, rfl⟩) ?_ ?_
            rotate_left
            · simp only [Act.put, List.setIfInBounds_toArray, List.set_cons_zero, List.set_cons_succ, i64_w, i32_w]
              rfl
            refine pure_ (i := 4) (N := some 138) (v := undef) (a' := ?_) #[true, true, true, true, true, false, false, false, false, false, false, false] rfl rfl (by kernel_rfl) (fun _ _ _ h => h) (Or.inr ⟨by rfl, rfl⟩) ?_ ?_
            rotate_left
            · simp only [Act.put, List.setIfInBounds_toArray, List.set_cons_zero, List.set_cons_succ, i64_w, i32_w]
              rfl
            refine pure_ (i := 5) (N := some 139) (v := undef) (a' := ?_) #[true, true, true, true, true, true, false, false, false, false, false, false] rfl rfl (by kernel_rfl) (fun _ _ _ h => h) (Or.inr ⟨by rfl, rfl⟩) ?_ ?_
            rotate_left
            · simp only [Act.put, List.setIfInBounds_toArray, List.set_cons_zero, List.set_cons_succ, i64_w, i32_w]
              rfl
            refine pure_ (i := 6) (N := some 140) (v := undef) (a' := ?_) #[true, true, true, true, true, true, true, false, false, false, false, false] rfl rfl (by kernel_rfl) (fun _ _ _ h => h) (Or.inr ⟨by rfl, rfl⟩) ?_ ?_
            rotate_left
            · simp only [Act.put, List.setIfInBounds_toArray, List.set_cons_zero, List.set_cons_succ, i64_w, i32_w]
              rfl
            refine pure_ (i := 7) (N := some 141) (v := undef) (a' := ?_) #[true, true, true, true, true, true, true, true, false, false, false, false] rfl rfl (by kernel_rfl) (fun _ _ _ h => h) (Or.inr ⟨by rfl, rfl⟩) ?_ ?_
            rotate_left
            · simp only [Act.put, List.setIfInBounds_toArray, List.set_cons_zero, List.set_cons_succ, i64_w, i32_w]
              rfl
            refine pure_ (i := 8) (N := some 142) (v := undef) (a' := ?_) #[true, true, true, true, true, true, true, true, true, false, false, false] rfl rfl (by kernel_rfl) (fun _ _ _ h => h) (Or.inr ⟨by rfl, rfl⟩) ?_ ?_
            rotate_left
            · simp only [Act.put, List.setIfInBounds_toArray, List.set_cons_zero, List.set_cons_succ, i64_w, i32_w]
              rfl
            refine pure_ (i := 9) (N := some 143) (v := undef) (a' := ?_) #[true, true, true, true, true, true, true, true, true, true, false, false] rfl rfl (by kernel_rfl) (fun _ _ _ h => h) (Or.inr ⟨by rfl, rfl⟩) ?_ ?_
            rotate_left
            · simp only [Act.put, List.setIfInBounds_toArray, List.set_cons_zero, List.set_cons_succ, i64_w, i32_w]
              rfl
            refine pure_ (i := 10) (N := some 144) (v := undef) (a' := ?_) #[true, true, true, true, true, true, true, true, true, true, true, false] rfl rfl (by kernel_rfl) (fun _ _ _ h => h) (Or.inr ⟨by rfl, rfl⟩) ?_ ?_
            rotate_left
            · simp only [Act.put, List.setIfInBounds_toArray, List.set_cons_zero, List.set_cons_succ, i64_w, i32_w]
              rfl
            refine pure_ (i := 11) (N := some 145) (v := ?_) (a' := ?_) #[true, true, true, true, true, true, true, true, true, true, true, true] rfl rfl (by kernel_rfl) (fun _ _ _ h => h) (Or.inl ⟨by rfl, ?_⟩) ?_ ?_
            rotate_left
            · intro w'
              go_simp
              with_reducible rfl
            rotate_left
            · simp only [Act.put, List.setIfInBounds_toArray, List.set_cons_zero, List.set_cons_succ, i64_w, i32_w]
              rfl
            refine done_ (by kernel_rfl) ?_
            go_wp2_with fail
            go_meet
            exact ⟨_, rfl, Lib.hid (by have h_ := HZ.out; simp; omega), H5, H8, HV, HM, HC, HK⟩
          · have HZ := Lib.hid h0
            clear h0
            have m0_ : wc.cell? ⟨mb, i * 4, none⟩ = some (.int .u32 xp) := (by simpa using HMB.out wc HM.out 0 _ rfl)
            have m1_ : wc.cell? ⟨mb, i * 4 + 1, none⟩ = some (.string xk) := (by simpa using HMB.out wc HM.out 1 _ rfl)
            have m2_ : wc.cell? ⟨mb, i * 4 + 2, none⟩ = some (.int .u32 xrp) := (by simpa using HMB.out wc HM.out 2 _ rfl)
            have m3_ : wc.cell? ⟨mb, i * 4 + 3, none⟩ = some (.int .i64 xrs) := (by simpa using HMB.out wc HM.out 3 _ rfl)
            refine start_ (n := 12) (S := fun w' => Blk w' w.heap.size 43 #[.string ek, .int .u32 ep, .int .i64 es] ∧ w'.cell? ⟨mb, i * 4, none⟩ = some (.int .u32 xp) ∧ w'.cell? ⟨mb, i * 4 + 1, none⟩ = some (.string xk) ∧ w'.cell? ⟨mb, i * 4 + 2, none⟩ = some (.int .u32 xrp) ∧ w'.cell? ⟨mb, i * 4 + 3, none⟩ = some (.int .i64 xrs)) (ds := []) #[false, false, false, false, false, false, false, false, false, false, false, false] (by kernel_rfl) rfl rfl ⟨H5.out, m0_, m1_, m2_, m3_⟩ (fun hHeld => ?_)
            have hb5 := bdrew (Below.refl wc.heap.size wc)
            have n_H5 := Lib.hid (H5.out.step hb5)
            have n_H8 := Lib.hid (H8.out.step hb5)
            have n_HV := Lib.hid (HV.out.below hb5)
            have n_HM := Lib.hid (own_below HM.out hb5)
            have n_HC := Lib.hid (HC.out.below hb5)
            have n_HK := Lib.hid (HK.out.trans (hb5.mono HK.out.size))
            clear hb5 H5 H8 HV HM HC HK
            have H5 := n_H5
            have H8 := n_H8
            have HV := n_HV
            have HM := n_HM
            have HC := n_HC
            have HK := n_HK
            clear n_H5 n_H8 n_HV n_HM n_HC n_HK
            generalize wc.drew = xd at *
            clear m0_ m1_ m2_ m3_
            have m0_ : xd.cell? ⟨mb, i * 4, none⟩ = some (.int .u32 xp) := (by simpa using HMB.out xd HM.out 0 _ rfl)
            have m1_ : xd.cell? ⟨mb, i * 4 + 1, none⟩ = some (.string xk) := (by simpa using HMB.out xd HM.out 1 _ rfl)
            have m2_ : xd.cell? ⟨mb, i * 4 + 2, none⟩ = some (.int .u32 xrp) := (by simpa using HMB.out xd HM.out 2 _ rfl)
            have m3_ : xd.cell? ⟨mb, i * 4 + 3, none⟩ = some (.int .i64 xrs) := (by simpa using HMB.out xd HM.out 3 _ rfl)
            refine pure_ (i := 0) (N := some 134) (v := ?_) (a' := ?_) #[true, false, false, false, false, false, false, false, false, false, false, false] rfl rfl (by kernel_rfl) (fun _ _ _ h => h) (Or.inl ⟨by rfl, ?_⟩) ?_ ?_
            rotate_left
            · intro w'
              go_simp
              with_reducible rfl
            rotate_left
            · simp only [Act.put, List.setIfInBounds_toArray, List.set_cons_zero, List.set_cons_succ, i64_w, i32_w]
              rfl
            refine pure_ (i := 1) (N := some 135) (v := .bool true) (a' := ?_) #[true, true, false, false, false, false, false, false, false, false, false, false] rfl rfl (by kernel_rfl) (fun _ _ _ h => h) (Or.inl ⟨by rfl, ?_⟩) ?_ ?_
            · intro w'
              have h_ := HZ.out; go_simp; try (simp; omega)
            rotate_left
            · simp only [Act.put, List.setIfInBounds_toArray, List.set_cons_zero, List.set_cons_succ, i64_w, i32_w]
              rfl
            refine pure_ (i := 2) (N := some 136) (v := ?_) (a' := ?_) #[true, true, true, false, false, false, false, false, false, false, false, false] rfl rfl (by kernel_rfl) (fun _ _ _ h => h) (Or.inl ⟨by rfl, ?_⟩) ?_ ?_
            rotate_left
            · intro w'
              go_simp
              with_reducible rfl
            rotate_left
            · simp only [Act.put, List.setIfInBounds_toArray, List.set_cons_zero, List.set_cons_succ, i64_w, i32_w]
              rfl
            refine pure_ (i := 4) (N := some 138) (v := ?_) (a' := ?_) #[true, true, true, false, true, false, false, false, false, false, false, false] rfl rfl (by kernel_rfl) (fun _ _ _ h => h) (Or.inl ⟨by rfl, ?_⟩) ?_ ?_
            rotate_left
            · intro w'
              go_simp
              with_reducible rfl
            rotate_left
            · simp only [Act.put, List.setIfInBounds_toArray, List.set_cons_zero, List.set_cons_succ, i64_w, i32_w]
              rfl
            refine pure_ (i := 5) (N := some 139) (v := ?_) (a' := ?_) #[true, true, true, false, true, true, false, false, false, false, false, false] rfl rfl (by kernel_rfl) (fun _ _ _ h => h) (Or.inl ⟨by rfl, ?_⟩) ?_ ?_
            rotate_left
            · intro w'
              go_simp
              with_reducible rfl
            rotate_left
            · simp only [Act.put, List.setIfInBounds_toArray, List.set_cons_zero, List.set_cons_succ, i64_w, i32_w]
              rfl
            refine pure_ (i := 6) (N := some 140) (v := ?_) (a' := ?_) #[true, true, true, false, true, true, true, false, false, false, false, false] rfl rfl (by kernel_rfl) (fun _ _ _ h => h) (Or.inl ⟨by rfl, ?_⟩) ?_ ?_
            rotate_left
            · intro w'
              go_simp
              with_reducible rfl
            rotate_left
            · simp only [Act.put, List.setIfInBounds_toArray, List.set_cons_zero, List.set_cons_succ, i64_w, i32_w]
              rfl
            refine pure_ (i := 7) (N := some 141) (v := ?_) (a' := ?_) #[true, true, true, false, true, true, true, true, false, false, false, false] rfl rfl (by kernel_rfl) (fun _ _ _ h => h) (Or.inl ⟨by rfl, ?_⟩) ?_ ?_
            rotate_left
            · intro w'
              go_simp
              with_reducible rfl
            rotate_left
            · simp only [Act.put, List.setIfInBounds_toArray, List.set_cons_zero, List.set_cons_succ, i64_w, i32_w]
              rfl
            refine take_ (i := 3) (N := some 137) (v := .agg #[.string ek, .int .u32 ep, .int .i64 es]) (a' := ?_) #[true, true, true, true, true, true, true, true, false, false, false, false] rfl rfl (by kernel_rfl) (fun _ _ _ h => h) (yields_row 43 (.tmp 5) rfl (by rfl) w.heap.size rfl 43 #[.string ek, .int .u32 ep, .int .i64 es] (0, 0) _ (fun w_ h => h.1) Try.underlying43 rfl (by kernel_rfl)) hHeld ?_ ?_
            rotate_left
            · simp only [Act.put, List.setIfInBounds_toArray, List.set_cons_zero, List.set_cons_succ, i64_w, i32_w]
              rfl
            refine take_ (i := 8) (N := some 142) (v := .agg #[.string xk, .int .u32 xrp, .int .i64 xrs]) (a' := ?_) #[true, true, true, true, true, true, true, true, true, false, false, false] rfl rfl (by kernel_rfl) (fun _ _ _ h => h) (Or.inl ⟨by rfl, ?_⟩) hHeld ?_ ?_
            · rintro w' ⟨s0, s1, s2, s3, s4⟩
              go_simp
            rotate_left
            · simp only [Act.put, List.setIfInBounds_toArray, List.set_cons_zero, List.set_cons_succ, i64_w, i32_w]
              rfl
            refine one_ (i := 9) (N := some 143) #[true, true, true, true, true, true, true, true, true, true, false, false] rfl rfl (by kernel_rfl) (by decide) (fun K hK => ?_)
            clear hHeld
            refine goes_ Try.func17 (by kernel_rfl) rfl #[.agg #[.string ek, .int .u32 ep, .int .i64 es], .agg #[.string xk, .int .u32 xrp, .int .i64 xrs]] (by rfl) rfl rfl (by (try simp only [List.map_toArray, List.map_cons, List.map_nil]); first | done | rfl) ?_
            refine (before_any ek ep es xk xrp xrs _).mono ?_
            rintro e_ x23 ⟨rfl, hb5⟩
            have n_H5 := Lib.hid (H5.out.step hb5)
            have n_H8 := Lib.hid (H8.out.step hb5)
            have n_HV := Lib.hid (HV.out.below hb5)
            have n_HM := Lib.hid (own_below HM.out hb5)
            have n_HC := Lib.hid (HC.out.below hb5)
            have n_HK := Lib.hid (HK.out.trans (hb5.mono HK.out.size))
            clear hb5 H5 H8 HV HM HC HK
            have H5 := n_H5
            have H8 := n_H8
            have HV := n_HV
            have HM := n_HM
            have HC := n_HC
            have HK := n_HK
            clear n_H5 n_H8 n_HV n_HM n_HC n_HK
            refine ⟨_, rfl, ?_⟩
            clear m0_ m1_ m2_ m3_
            have m0_ : x23.cell? ⟨mb, i * 4, none⟩ = some (.int .u32 xp) := (by simpa using HMB.out x23 HM.out 0 _ rfl)
            have m1_ : x23.cell? ⟨mb, i * 4 + 1, none⟩ = some (.string xk) := (by simpa using HMB.out x23 HM.out 1 _ rfl)
            have m2_ : x23.cell? ⟨mb, i * 4 + 2, none⟩ = some (.int .u32 xrp) := (by simpa using HMB.out x23 HM.out 2 _ rfl)
            have m3_ : x23.cell? ⟨mb, i * 4 + 3, none⟩ = some (.int .i64 xrs) := (by simpa using HMB.out x23 HM.out 3 _ rfl)
            refine hK.out _ _ ⟨H5.out, m0_, m1_, m2_, m3_⟩ (fun hHeld => ?_)
            clear hK K
            refine norm_ (a' := ?_) ?_ ?_
            rotate_left
            · show Act.put _ (some 143) _ = _
              simp only [Act.put, List.setIfInBounds_toArray, List.set_cons_zero, List.set_cons_succ]
              rfl
            refine pure_ (i := 10) (N := some 144) (v := ?_) (a' := ?_) #[true, true, true, true, true, true, true, true, true, true, true, false] rfl rfl (by kernel_rfl) (fun _ _ _ h => h) (Or.inl ⟨by rfl, ?_⟩) ?_ ?_
            rotate_left
            · intro w'
              go_simp
              with_reducible rfl
            rotate_left
            · simp only [Act.put, List.setIfInBounds_toArray, List.set_cons_zero, List.set_cons_succ, i64_w, i32_w]
              rfl
            refine pure_ (i := 11) (N := some 145) (v := ?_) (a' := ?_) #[true, true, true, true, true, true, true, true, true, true, true, true] rfl rfl (by kernel_rfl) (fun _ _ _ h => h) (Or.inl ⟨by rfl, ?_⟩) ?_ ?_
            rotate_left
            · intro w'
              go_simp
              with_reducible rfl
            rotate_left
            · simp only [Act.put, List.setIfInBounds_toArray, List.set_cons_zero, List.set_cons_succ, i64_w, i32_w]
              rfl
            refine done_ (by kernel_rfl) ?_
            clear m0_ m1_ m2_ m3_
            go_wp2_with fail
            go_meet
            exact ⟨_, rfl, Lib.hid (by have h_ := HZ.out; simp [h_]), H5, H8, HV, HM, HC, HK⟩
        case rest =>
        clear H5 H8 HV HM HC HK
        obtain ⟨b, rfl, HBB, H5, H8, HV, HM, HC, HK⟩ := hcut
        rcases (show b = true ∨ b = false from by cases b <;> simp) with hb0 | hb0
        · have HD := Lib.hid (dn_yes h1 HXX.out (HBB.out.1 hb0).1 (HBB.out.1 hb0).2)
          clear HBB
          subst hb0
          go_wp2_with fail
          go_roundw
          case rel => exact ⟨i + 1, by first | rfl | go_num, by omega, by rw [HD.out], H5, H8, HV, HM, HC, HK⟩
          case measure => simp [intOf]; omega
        · have HD := Lib.hid (dn_no h1 HXX.out (fun h_ => by have h2_ := HBB.out.2 h_; rw [hb0] at h2_; cases h2_))
          clear HBB
          subst hb0
          go_wp2_with fail
          go_roundw
          case rel => exact ⟨i + 1, by first | rfl | go_num, by omega, by rw [HD.out], H5, H8, HV, HM, HC, HK⟩
          case measure => simp [intOf]; omega
      · obtain rfl : i = ms.length := by omega
        have e1_ : decide ((ms.length : Int) < (ms.length : Int)) = false := decide_eq_false (by omega)
        clear h1
        go_wp2_with fail
        go_meet
        exact ⟨rfl, H5, H8, HV, HM, HC, HK⟩
  case rest =>
  clear H5 H8 HV HM HC HK
  obtain ⟨rfl, H5, H8, HV, HM, HC, HK⟩ := hcut
  generalize hdn : ((dnN ms ek ep es ms.length : Nat) : Int) = dv at *
  have HDN := Lib.hid hdn
  clear hdn
  go_upto_region 25 with fail
  by_cases hin : 0 ≤ at_ ∧ at_ < (ms.length : Int)
  · obtain ⟨n, hn_⟩ := Int.eq_ofNat_of_zero_le hin.1
    subst hn_
    have hn : n < ms.length := by omega
    have HX2 := Lib.hid (show ChN.Good ⟨ms[n].page, ek12 ek, ep, es16 es⟩ from ⟨(HGd.out _ (List.getElem_mem hn)).1, HEP.out, es16_le _, ek12_size _⟩)
    have HSF := Lib.hid (fun (W : World) (h : OwnP W w.heap.size (.slice Ap ms.length cp) (List.map cslot ms)) => setFrom_own_yes 3 lsn lv HGd.out (by omega) h n hn ⟨ms[n].page, ek12 ek, ep, es16 es⟩ HX2.out rfl)
    have hap_ := ap_setI ms HGd.out hm12 n hn ⟨ms[n].page, ek12 ek, ep, es16 es⟩ HX2.out lsn lv
    obtain ⟨ms2, hms2⟩ : ∃ z, z = ms.set n ⟨ms[n].page, ek12 ek, ep, es16 es⟩ := ⟨_, rfl⟩
    rw [← hms2] at hap_
    have HAP := Lib.hid hap_
    have HG2 := Lib.hid (show ∀ x ∈ ms2, ChN.Good x from fun x hx => by rw [hms2] at hx; rcases List.mem_or_eq_of_mem_set hx with h | h; exact HGd.out x h; rw [h]; exact HX2.out)
    have HL2 := Lib.hid (show ms2.length = ms.length by rw [hms2, List.length_set])
    have HS2 := Lib.hid (show ∀ h : n < ms2.length, ms2[n] = ⟨ms[n].page, ek12 ek, ep, es16 es⟩ from fun h => by subst hms2; simp)
    clear hap_ hms2
    obtain ⟨x, hx_⟩ : ∃ x, ms[n] = x := ⟨_, rfl⟩
    rw [hx_] at HX2 HSF HAP HS2
    have HXX := Lib.hid hx_
    clear hx_
    obtain ⟨xp, xk, xrp, xrs⟩ := x
    have n0_ : (0 : Int) ≤ n := by omega
    have n1_ : (n : Int) < ms.length := by omega
    clear hin
    go_cut [19, 20] from 147 to 154 (fun ov ev wx => ∃ g19, ov = .pointer (some ⟨g19, 0, none⟩) ∧ ev = .int .i64 0 ∧ Hid (Blk wx g19 38 #[.int .i64 4, .int .i64 n, .string (cslot (⟨xp, ek12 ek, ep, es16 es⟩ : ChN)), .string (cslot ⟨xp, xk, xrp, xrs⟩)]) ∧ Hid (Blk wx w.heap.size 43 #[.string ek, .int .u32 ep, .int .i64 es]) ∧ Hid (Blk wx g8 28 #[.int .u32 3, .int .u64 lsn, .int .i64 4, .string (H1 lv), (.slice Ap ms.length cp)]) ∧ Hid (OwnP wx w.heap.size (.slice Ap ms.length cp) (List.map cslot ms)) ∧ Hid (World.ownsRow wx w.heap.size 66 4 (.slice Am ms.length cm) (List.length ms) (List.map ChN.cells ms).flatten) ∧ Hid (RowsC wx Ak ck ms) ∧ Hid (Below w.heap.size w wx))
    case first =>
      refine start_ (n := 11) (S := fun w' => Blk w' g8 28 #[.int .u32 3, .int .u64 lsn, .int .i64 4, .string (H1 lv), (.slice Ap ms.length cp)] ∧ Blk w' w.heap.size 43 #[.string ek, .int .u32 ep, .int .i64 es]) (ds := []) #[false, false, false, false, false, false, false, false, false, false, false] (by kernel_rfl) rfl rfl ⟨H8.out, H5.out⟩ (fun hHeld => ?_)
      have hb5 := bdrew (Below.refl wc.heap.size wc)
      have n_H5 := Lib.hid (H5.out.step hb5)
      have n_H8 := Lib.hid (H8.out.step hb5)
      have n_HV := Lib.hid (HV.out.below hb5)
      have n_HM := Lib.hid (own_below HM.out hb5)
      have n_HC := Lib.hid (HC.out.below hb5)
      have n_HK := Lib.hid (HK.out.trans (hb5.mono HK.out.size))
      clear hb5 H5 H8 HV HM HC HK
      have H5 := n_H5
      have H8 := n_H8
      have HV := n_HV
      have HM := n_HM
      have HC := n_HC
      have HK := n_HK
      clear n_H5 n_H8 n_HV n_HM n_HC n_HK
      generalize wc.drew = xd at *
      refine pure_ (i := 1) (N := some 149) (v := ?_) (a' := ?_) #[false, true, false, false, false, false, false, false, false, false, false] rfl rfl (by kernel_rfl) (fun _ _ _ h => h) (Or.inl ⟨by rfl, ?_⟩) ?_ ?_
      rotate_left
      · intro w'
        go_simp
        with_reducible rfl
      rotate_left
      · simp only [Act.put, List.setIfInBounds_toArray, List.set_cons_zero, List.set_cons_succ, i64_w, i32_w]
        rfl
      refine take_ (i := 0) (N := some 148) (v := .agg #[.int .u32 3, .int .u64 lsn, .int .i64 4, .string (H1 lv), (.slice Ap ms.length cp)]) (a' := ?_) #[true, true, false, false, false, false, false, false, false, false, false] rfl rfl (by kernel_rfl) (fun _ _ _ h => h) (yields_row 28 (.tmp 8) rfl (by rfl) g8 rfl 28 #[.int .u32 3, .int .u64 lsn, .int .i64 4, .string (H1 lv), (.slice Ap ms.length cp)] (0, 0) _ (fun w_ h => h.1) Try.underlying28 rfl (by kernel_rfl)) hHeld ?_ ?_
      rotate_left
      · simp only [Act.put, List.setIfInBounds_toArray, List.set_cons_zero, List.set_cons_succ, i64_w, i32_w]
        rfl
      refine take_ (i := 2) (N := some 150) (v := .agg #[.string ek, .int .u32 ep, .int .i64 es]) (a' := ?_) #[true, true, true, false, false, false, false, false, false, false, false] rfl rfl (by kernel_rfl) (fun _ _ _ h => h) (yields_row 43 (.tmp 5) rfl (by rfl) w.heap.size rfl 43 #[.string ek, .int .u32 ep, .int .i64 es] (0, 0) _ (fun w_ h => h.2) Try.underlying43 rfl (by kernel_rfl)) hHeld ?_ ?_
      rotate_left
      · simp only [Act.put, List.setIfInBounds_toArray, List.set_cons_zero, List.set_cons_succ, i64_w, i32_w]
        rfl
      refine two_ (i := 3) (j := 8) (Ni := some 151) (Nj := some 19) #[true, true, true, true, false, false, false, false, false, false, false] #[true, true, true, false, false, false, false, false, true, false, false] rfl rfl rfl rfl (by kernel_rfl) (by decide) (by decide) (fun K hK => ?_) (fun K hK => ?_)
      · clear hHeld
        refine goes_ Try.func16 (by kernel_rfl) rfl #[.agg #[.string ek, .int .u32 ep, .int .i64 es]] (by rfl) rfl rfl (by (try simp only [List.map_toArray, List.map_cons, List.map_nil]); first | done | rfl) ?_
        refine (entry_any ek ep es _).mono ?_
        rintro e_ x24 ⟨rfl, hb5⟩
        have n_H5 := Lib.hid (H5.out.step hb5)
        have n_H8 := Lib.hid (H8.out.step hb5)
        have n_HV := Lib.hid (HV.out.below hb5)
        have n_HM := Lib.hid (own_below HM.out hb5)
        have n_HC := Lib.hid (HC.out.below hb5)
        have n_HK := Lib.hid (HK.out.trans (hb5.mono HK.out.size))
        clear hb5 H5 H8 HV HM HC HK
        have H5 := n_H5
        have H8 := n_H8
        have HV := n_HV
        have HM := n_HM
        have HC := n_HC
        have HK := n_HK
        clear n_H5 n_H8 n_HV n_HM n_HC n_HK
        refine ⟨_, rfl, ?_⟩
        refine hK.out _ _ ⟨H8.out, H5.out⟩ (fun hHeld => ?_)
        clear hK K
        refine norm_ (a' := ?_) ?_ ?_
        rotate_left
        · show Act.put _ (some 151) _ = _
          simp only [Act.put, List.setIfInBounds_toArray, List.set_cons_zero, List.set_cons_succ]
          rfl
        refine two_ (i := 4) (j := 8) (Ni := some 152) (Nj := some 19) #[true, true, true, true, true, false, false, false, false, false, false] #[true, true, true, true, false, false, false, false, true, false, false] rfl rfl rfl rfl (by kernel_rfl) (by decide) (by decide) (fun K hK => ?_) (fun K hK => ?_)
        · clear hHeld
          refine goes_ Try.func29 (by kernel_rfl) rfl #[.agg #[.int .u32 3, .int .u64 lsn, .int .i64 4, .string (H1 lv), (.slice Ap ms.length cp)], .int .i64 n, .agg #[.string (ek12 ek), .int .u32 ep, .int .i64 (es16 es)]] (by rfl) rfl rfl (by (try simp only [List.map_toArray, List.map_cons, List.map_nil]); first | done | rfl) ?_
          refine (HSF.out _ HV.out).mono ?_
          rintro e_ x25 ⟨rfl, hb5⟩
          have n_H5 := Lib.hid (H5.out.step hb5)
          have n_H8 := Lib.hid (H8.out.step hb5)
          have n_HV := Lib.hid (HV.out.below hb5)
          have n_HM := Lib.hid (own_below HM.out hb5)
          have n_HC := Lib.hid (HC.out.below hb5)
          have n_HK := Lib.hid (HK.out.trans (hb5.mono HK.out.size))
          clear hb5 H5 H8 HV HM HC HK
          have H5 := n_H5
          have H8 := n_H8
          have HV := n_HV
          have HM := n_HM
          have HC := n_HC
          have HK := n_HK
          clear n_H5 n_H8 n_HV n_HM n_HC n_HK
          refine ⟨_, rfl, ?_⟩
          refine hK.out _ _ ⟨H8.out, H5.out⟩ (fun hHeld => ?_)
          clear hK K
          refine norm_ (a' := ?_) ?_ ?_
          rotate_left
          · show Act.put _ (some 152) _ = _
            simp only [Act.put, List.setIfInBounds_toArray, List.set_cons_zero, List.set_cons_succ]
            rfl
          refine pure_ (i := 5) (N := some 147) (v := ?_) (a' := ?_) #[true, true, true, true, true, true, false, false, false, false, false] rfl rfl (by kernel_rfl) (fun _ _ _ h => h) (Or.inl ⟨by rfl, ?_⟩) ?_ ?_
          rotate_left
          · intro w'
            go_simp
            with_reducible rfl
          rotate_left
          · simp only [Act.put, List.setIfInBounds_toArray, List.set_cons_zero, List.set_cons_succ, i64_w, i32_w]
            rfl
          refine pure_ (i := 6) (N := some 153) (v := ?_) (a' := ?_) #[true, true, true, true, true, true, true, false, false, false, false] rfl rfl (by kernel_rfl) (fun _ _ _ h => h) (Or.inl ⟨by rfl, ?_⟩) ?_ ?_
          rotate_left
          · intro w'
            go_simp
            with_reducible rfl
          rotate_left
          · simp only [Act.put, List.setIfInBounds_toArray, List.set_cons_zero, List.set_cons_succ, i64_w, i32_w]
            rfl
          refine pure_ (i := 7) (N := some 154) (v := ?_) (a' := ?_) #[true, true, true, true, true, true, true, true, false, false, false] rfl rfl (by kernel_rfl) (fun _ _ _ h => h) (Or.inl ⟨by rfl, ?_⟩) ?_ ?_
          rotate_left
          · intro w'
            go_simp
            with_reducible rfl
          rotate_left
          · simp only [Act.put, List.setIfInBounds_toArray, List.set_cons_zero, List.set_cons_succ, i64_w, i32_w]
            rfl
          refine one_ (i := 8) (N := some 19) #[true, true, true, true, true, true, true, true, true, false, false] rfl rfl (by kernel_rfl) (by decide) (fun K hK => ?_)
          have nHC_g19 := Lib.hid (rowsC_new HC.out)
          clear hHeld
          refine value_ (w1 := x25.alloc (.cells #[.int .i64 0, .int .i64 0, .string ⟨#[]⟩, .string ⟨#[]⟩] 38)) (v := .pointer (some ⟨x25.heap.size, 0, none⟩)) (by rfl) rfl (by go_simp) ?_
          have hb5 := balloc (Below.refl x25.heap.size x25) (.cells #[.int .i64 0, .int .i64 0, .string ⟨#[]⟩, .string ⟨#[]⟩] 38)
          have hL := Lib.hid (Blk.new x25 38 #[.int .i64 0, .int .i64 0, .string ⟨#[]⟩, .string ⟨#[]⟩])
          have hg19b := Lib.hid HK.out.size
          have nH5_g19 := Lib.hid (Nat.ne_of_lt H5.out.lt)
          have nH8_g19 := Lib.hid (Nat.ne_of_lt H8.out.lt)
          have nHM_g19 := Lib.hid (own_newI HM.out)
          have n_H5 := Lib.hid (H5.out.step hb5)
          have n_H8 := Lib.hid (H8.out.step hb5)
          have n_HV := Lib.hid (HV.out.below hb5)
          have n_HM := Lib.hid (own_below HM.out hb5)
          have n_HC := Lib.hid (HC.out.below hb5)
          have n_HK := Lib.hid (HK.out.trans (hb5.mono HK.out.size))
          clear hb5 H5 H8 HV HM HC HK
          have H5 := n_H5
          have H8 := n_H8
          have HV := n_HV
          have HM := n_HM
          have HC := n_HC
          have HK := n_HK
          clear n_H5 n_H8 n_HV n_HM n_HC n_HK
          generalize x25.alloc (.cells #[.int .i64 0, .int .i64 0, .string ⟨#[]⟩, .string ⟨#[]⟩] 38) = x26 at *
          generalize x25.heap.size = g19 at *
          have H19 := hL
          clear hL
          refine hK.out _ _ ⟨H8.out, H5.out⟩ (fun hHeld => ?_)
          clear hK K
          refine norm_ (a' := ?_) ?_ ?_
          rotate_left
          · show Act.put _ (some 19) _ = _
            simp only [Act.put, List.setIfInBounds_toArray, List.set_cons_zero, List.set_cons_succ]
            rfl
          refine one_ (i := 9) (N := none) #[true, true, true, true, true, true, true, true, true, true, false] rfl rfl (by kernel_rfl) (by decide) (fun K hK => ?_)
          clear hHeld
          refine skip_ (w1 := x26.setRow g19 #[.int .i64 4, .int .i64 n, .string (cslot (⟨xp, ek12 ek, ep, es16 es⟩ : ChN)), .string (cslot ⟨xp, xk, xrp, xrs⟩)]) (by rfl) rfl (run_store_rowI 38 (.tmp 19) (.tmp 153) rfl g19 #[.int .i64 4, .int .i64 n, .string (cslot (⟨xp, ek12 ek, ep, es16 es⟩ : ChN)), .string (cslot ⟨xp, xk, xrp, xrs⟩)] rfl (by rfl) 38 _ H19.out (by kernel_rfl) rfl (by simp [Value.oneCell'])) ?_
          have n_H5 := Lib.hid (blk_setRowI H5.out #[.int .i64 4, .int .i64 n, .string (cslot (⟨xp, ek12 ek, ep, es16 es⟩ : ChN)), .string (cslot ⟨xp, xk, xrp, xrs⟩)] nH5_g19.out)
          have n_H8 := Lib.hid (blk_setRowI H8.out #[.int .i64 4, .int .i64 n, .string (cslot (⟨xp, ek12 ek, ep, es16 es⟩ : ChN)), .string (cslot ⟨xp, xk, xrp, xrs⟩)] nH8_g19.out)
          have n_HV := Lib.hid (OwnP.setRow (cs' := #[.int .i64 4, .int .i64 n, .string (cslot (⟨xp, ek12 ek, ep, es16 es⟩ : ChN)), .string (cslot ⟨xp, xk, xrp, xrs⟩)]) HV.out H19.out (by decide))
          have n_HM := Lib.hid (own_setRowI (cs' := #[.int .i64 4, .int .i64 n, .string (cslot (⟨xp, ek12 ek, ep, es16 es⟩ : ChN)), .string (cslot ⟨xp, xk, xrp, xrs⟩)]) HM.out nHM_g19.out)
          have n_HC := Lib.hid (RowsC.far HC.out (cs' := #[.int .i64 4, .int .i64 n, .string (cslot (⟨xp, ek12 ek, ep, es16 es⟩ : ChN)), .string (cslot ⟨xp, xk, xrp, xrs⟩)]) nHC_g19.out)
          have n_HK := Lib.hid (setRow_below HK.out hg19b.out #[.int .i64 4, .int .i64 n, .string (cslot (⟨xp, ek12 ek, ep, es16 es⟩ : ChN)), .string (cslot ⟨xp, xk, xrp, xrs⟩)])
          have n_H19 := Lib.hid (blk_setRow (cs' := #[.int .i64 4, .int .i64 n, .string (cslot (⟨xp, ek12 ek, ep, es16 es⟩ : ChN)), .string (cslot ⟨xp, xk, xrp, xrs⟩)]) H19.out)
          clear H5 H8 HV HM HC HK H19
          have H5 := n_H5
          have H8 := n_H8
          have HV := n_HV
          have HM := n_HM
          have HC := n_HC
          have HK := n_HK
          have H19 := n_H19
          clear n_H5 n_H8 n_HV n_HM n_HC n_HK n_H19
          generalize x26.setRow g19 #[.int .i64 4, .int .i64 n, .string (cslot (⟨xp, ek12 ek, ep, es16 es⟩ : ChN)), .string (cslot ⟨xp, xk, xrp, xrs⟩)] = x27 at *
          refine hK.out _ _ ⟨H8.out, H5.out⟩ (fun hHeld => ?_)
          clear hK K
          refine pure_ (i := 10) (N := some 20) (v := ?_) (a' := ?_) #[true, true, true, true, true, true, true, true, true, true, true] rfl rfl (by kernel_rfl) (fun _ _ _ h => h) (Or.inl ⟨by rfl, ?_⟩) ?_ ?_
          rotate_left
          · intro w'
            go_simp
            with_reducible rfl
          rotate_left
          · simp only [Act.put, List.setIfInBounds_toArray, List.set_cons_zero, List.set_cons_succ, i64_w, i32_w]
            rfl
          refine done_ (by kernel_rfl) ?_
          go_wp2_with fail
          go_meet
          exact ⟨g19, rfl, rfl, H19, H5, H8, HV, HM, HC, HK⟩
        · have nHC_g19 := Lib.hid (rowsC_new HC.out)
          clear hHeld
          refine value_ (w1 := x24.alloc (.cells #[.int .i64 0, .int .i64 0, .string ⟨#[]⟩, .string ⟨#[]⟩] 38)) (v := .pointer (some ⟨x24.heap.size, 0, none⟩)) (by rfl) rfl (by go_simp) ?_
          have hb5 := balloc (Below.refl x24.heap.size x24) (.cells #[.int .i64 0, .int .i64 0, .string ⟨#[]⟩, .string ⟨#[]⟩] 38)
          have hL := Lib.hid (Blk.new x24 38 #[.int .i64 0, .int .i64 0, .string ⟨#[]⟩, .string ⟨#[]⟩])
          have hg19b := Lib.hid HK.out.size
          have nH5_g19 := Lib.hid (Nat.ne_of_lt H5.out.lt)
          have nH8_g19 := Lib.hid (Nat.ne_of_lt H8.out.lt)
          have nHM_g19 := Lib.hid (own_newI HM.out)
          have n_H5 := Lib.hid (H5.out.step hb5)
          have n_H8 := Lib.hid (H8.out.step hb5)
          have n_HV := Lib.hid (HV.out.below hb5)
          have n_HM := Lib.hid (own_below HM.out hb5)
          have n_HC := Lib.hid (HC.out.below hb5)
          have n_HK := Lib.hid (HK.out.trans (hb5.mono HK.out.size))
          clear hb5 H5 H8 HV HM HC HK
          have H5 := n_H5
          have H8 := n_H8
          have HV := n_HV
          have HM := n_HM
          have HC := n_HC
          have HK := n_HK
          clear n_H5 n_H8 n_HV n_HM n_HC n_HK
          generalize x24.alloc (.cells #[.int .i64 0, .int .i64 0, .string ⟨#[]⟩, .string ⟨#[]⟩] 38) = x28 at *
          generalize x24.heap.size = g19 at *
          have H19 := hL
          clear hL
          refine hK.out _ _ ⟨H8.out, H5.out⟩ (fun hHeld => ?_)
          clear hK K
          refine norm_ (a' := ?_) ?_ ?_
          rotate_left
          · show Act.put _ (some 19) _ = _
            simp only [Act.put, List.setIfInBounds_toArray, List.set_cons_zero, List.set_cons_succ]
            rfl
          refine one_ (i := 4) (N := some 152) #[true, true, true, true, true, false, false, false, true, false, false] rfl rfl (by kernel_rfl) (by decide) (fun K hK => ?_)
          clear hHeld
          refine goes_ Try.func29 (by kernel_rfl) rfl #[.agg #[.int .u32 3, .int .u64 lsn, .int .i64 4, .string (H1 lv), (.slice Ap ms.length cp)], .int .i64 n, .agg #[.string (ek12 ek), .int .u32 ep, .int .i64 (es16 es)]] (by rfl) rfl rfl (by (try simp only [List.map_toArray, List.map_cons, List.map_nil]); first | done | rfl) ?_
          refine (HSF.out _ HV.out).mono ?_
          rintro e_ x29 ⟨rfl, hb5⟩
          have n_H5 := Lib.hid (H5.out.step hb5)
          have n_H8 := Lib.hid (H8.out.step hb5)
          have n_HV := Lib.hid (HV.out.below hb5)
          have n_HM := Lib.hid (own_below HM.out hb5)
          have n_HC := Lib.hid (HC.out.below hb5)
          have n_HK := Lib.hid (HK.out.trans (hb5.mono HK.out.size))
          have n_H19 := Lib.hid (H19.out.step hb5)
          clear hb5 H5 H8 HV HM HC HK H19
          have H5 := n_H5
          have H8 := n_H8
          have HV := n_HV
          have HM := n_HM
          have HC := n_HC
          have HK := n_HK
          have H19 := n_H19
          clear n_H5 n_H8 n_HV n_HM n_HC n_HK n_H19
          refine ⟨_, rfl, ?_⟩
          refine hK.out _ _ ⟨H8.out, H5.out⟩ (fun hHeld => ?_)
          clear hK K
          refine norm_ (a' := ?_) ?_ ?_
          rotate_left
          · show Act.put _ (some 152) _ = _
            simp only [Act.put, List.setIfInBounds_toArray, List.set_cons_zero, List.set_cons_succ]
            rfl
          refine pure_ (i := 5) (N := some 147) (v := ?_) (a' := ?_) #[true, true, true, true, true, true, false, false, true, false, false] rfl rfl (by kernel_rfl) (fun _ _ _ h => h) (Or.inl ⟨by rfl, ?_⟩) ?_ ?_
          rotate_left
          · intro w'
            go_simp
            with_reducible rfl
          rotate_left
          · simp only [Act.put, List.setIfInBounds_toArray, List.set_cons_zero, List.set_cons_succ, i64_w, i32_w]
            rfl
          refine pure_ (i := 6) (N := some 153) (v := ?_) (a' := ?_) #[true, true, true, true, true, true, true, false, true, false, false] rfl rfl (by kernel_rfl) (fun _ _ _ h => h) (Or.inl ⟨by rfl, ?_⟩) ?_ ?_
          rotate_left
          · intro w'
            go_simp
            with_reducible rfl
          rotate_left
          · simp only [Act.put, List.setIfInBounds_toArray, List.set_cons_zero, List.set_cons_succ, i64_w, i32_w]
            rfl
          refine pure_ (i := 7) (N := some 154) (v := ?_) (a' := ?_) #[true, true, true, true, true, true, true, true, true, false, false] rfl rfl (by kernel_rfl) (fun _ _ _ h => h) (Or.inl ⟨by rfl, ?_⟩) ?_ ?_
          rotate_left
          · intro w'
            go_simp
            with_reducible rfl
          rotate_left
          · simp only [Act.put, List.setIfInBounds_toArray, List.set_cons_zero, List.set_cons_succ, i64_w, i32_w]
            rfl
          refine one_ (i := 9) (N := none) #[true, true, true, true, true, true, true, true, true, true, false] rfl rfl (by kernel_rfl) (by decide) (fun K hK => ?_)
          clear hHeld
          refine skip_ (w1 := x29.setRow g19 #[.int .i64 4, .int .i64 n, .string (cslot (⟨xp, ek12 ek, ep, es16 es⟩ : ChN)), .string (cslot ⟨xp, xk, xrp, xrs⟩)]) (by rfl) rfl (run_store_rowI 38 (.tmp 19) (.tmp 153) rfl g19 #[.int .i64 4, .int .i64 n, .string (cslot (⟨xp, ek12 ek, ep, es16 es⟩ : ChN)), .string (cslot ⟨xp, xk, xrp, xrs⟩)] rfl (by rfl) 38 _ H19.out (by kernel_rfl) rfl (by simp [Value.oneCell'])) ?_
          have n_H5 := Lib.hid (blk_setRowI H5.out #[.int .i64 4, .int .i64 n, .string (cslot (⟨xp, ek12 ek, ep, es16 es⟩ : ChN)), .string (cslot ⟨xp, xk, xrp, xrs⟩)] nH5_g19.out)
          have n_H8 := Lib.hid (blk_setRowI H8.out #[.int .i64 4, .int .i64 n, .string (cslot (⟨xp, ek12 ek, ep, es16 es⟩ : ChN)), .string (cslot ⟨xp, xk, xrp, xrs⟩)] nH8_g19.out)
          have n_HV := Lib.hid (OwnP.setRow (cs' := #[.int .i64 4, .int .i64 n, .string (cslot (⟨xp, ek12 ek, ep, es16 es⟩ : ChN)), .string (cslot ⟨xp, xk, xrp, xrs⟩)]) HV.out H19.out (by decide))
          have n_HM := Lib.hid (own_setRowI (cs' := #[.int .i64 4, .int .i64 n, .string (cslot (⟨xp, ek12 ek, ep, es16 es⟩ : ChN)), .string (cslot ⟨xp, xk, xrp, xrs⟩)]) HM.out nHM_g19.out)
          have n_HC := Lib.hid (RowsC.far HC.out (cs' := #[.int .i64 4, .int .i64 n, .string (cslot (⟨xp, ek12 ek, ep, es16 es⟩ : ChN)), .string (cslot ⟨xp, xk, xrp, xrs⟩)]) nHC_g19.out)
          have n_HK := Lib.hid (setRow_below HK.out hg19b.out #[.int .i64 4, .int .i64 n, .string (cslot (⟨xp, ek12 ek, ep, es16 es⟩ : ChN)), .string (cslot ⟨xp, xk, xrp, xrs⟩)])
          have n_H19 := Lib.hid (blk_setRow (cs' := #[.int .i64 4, .int .i64 n, .string (cslot (⟨xp, ek12 ek, ep, es16 es⟩ : ChN)), .string (cslot ⟨xp, xk, xrp, xrs⟩)]) H19.out)
          clear H5 H8 HV HM HC HK H19
          have H5 := n_H5
          have H8 := n_H8
          have HV := n_HV
          have HM := n_HM
          have HC := n_HC
          have HK := n_HK
          have H19 := n_H19
          clear n_H5 n_H8 n_HV n_HM n_HC n_HK n_H19
          generalize x29.setRow g19 #[.int .i64 4, .int .i64 n, .string (cslot (⟨xp, ek12 ek, ep, es16 es⟩ : ChN)), .string (cslot ⟨xp, xk, xrp, xrs⟩)] = x30 at *
          refine hK.out _ _ ⟨H8.out, H5.out⟩ (fun hHeld => ?_)
          clear hK K
          refine pure_ (i := 10) (N := some 20) (v := ?_) (a' := ?_) #[true, true, true, true, true, true, true, true, true, true, true] rfl rfl (by kernel_rfl) (fun _ _ _ h => h) (Or.inl ⟨by rfl, ?_⟩) ?_ ?_
          rotate_left
          · intro w'
            go_simp
            with_reducible rfl
          rotate_left
          · simp only [Act.put, List.setIfInBounds_toArray, List.set_cons_zero, List.set_cons_succ, i64_w, i32_w]
            rfl
          refine done_ (by kernel_rfl) ?_
          go_wp2_with fail
          go_meet
          exact ⟨g19, rfl, rfl, H19, H5, H8, HV, HM, HC, HK⟩
      · have nHC_g19 := Lib.hid (rowsC_new HC.out)
        clear hHeld
        refine value_ (w1 := xd.alloc (.cells #[.int .i64 0, .int .i64 0, .string ⟨#[]⟩, .string ⟨#[]⟩] 38)) (v := .pointer (some ⟨xd.heap.size, 0, none⟩)) (by rfl) rfl (by go_simp) ?_
        have hb5 := balloc (Below.refl xd.heap.size xd) (.cells #[.int .i64 0, .int .i64 0, .string ⟨#[]⟩, .string ⟨#[]⟩] 38)
        have hL := Lib.hid (Blk.new xd 38 #[.int .i64 0, .int .i64 0, .string ⟨#[]⟩, .string ⟨#[]⟩])
        have hg19b := Lib.hid HK.out.size
        have nH5_g19 := Lib.hid (Nat.ne_of_lt H5.out.lt)
        have nH8_g19 := Lib.hid (Nat.ne_of_lt H8.out.lt)
        have nHM_g19 := Lib.hid (own_newI HM.out)
        have n_H5 := Lib.hid (H5.out.step hb5)
        have n_H8 := Lib.hid (H8.out.step hb5)
        have n_HV := Lib.hid (HV.out.below hb5)
        have n_HM := Lib.hid (own_below HM.out hb5)
        have n_HC := Lib.hid (HC.out.below hb5)
        have n_HK := Lib.hid (HK.out.trans (hb5.mono HK.out.size))
        clear hb5 H5 H8 HV HM HC HK
        have H5 := n_H5
        have H8 := n_H8
        have HV := n_HV
        have HM := n_HM
        have HC := n_HC
        have HK := n_HK
        clear n_H5 n_H8 n_HV n_HM n_HC n_HK
        generalize xd.alloc (.cells #[.int .i64 0, .int .i64 0, .string ⟨#[]⟩, .string ⟨#[]⟩] 38) = x31 at *
        generalize xd.heap.size = g19 at *
        have H19 := hL
        clear hL
        refine hK.out _ _ ⟨H8.out, H5.out⟩ (fun hHeld => ?_)
        clear hK K
        refine norm_ (a' := ?_) ?_ ?_
        rotate_left
        · show Act.put _ (some 19) _ = _
          simp only [Act.put, List.setIfInBounds_toArray, List.set_cons_zero, List.set_cons_succ]
          rfl
        refine one_ (i := 3) (N := some 151) #[true, true, true, true, false, false, false, false, true, false, false] rfl rfl (by kernel_rfl) (by decide) (fun K hK => ?_)
        clear hHeld
        refine goes_ Try.func16 (by kernel_rfl) rfl #[.agg #[.string ek, .int .u32 ep, .int .i64 es]] (by rfl) rfl rfl (by (try simp only [List.map_toArray, List.map_cons, List.map_nil]); first | done | rfl) ?_
        refine (entry_any ek ep es _).mono ?_
        rintro e_ x32 ⟨rfl, hb5⟩
        have n_H5 := Lib.hid (H5.out.step hb5)
        have n_H8 := Lib.hid (H8.out.step hb5)
        have n_HV := Lib.hid (HV.out.below hb5)
        have n_HM := Lib.hid (own_below HM.out hb5)
        have n_HC := Lib.hid (HC.out.below hb5)
        have n_HK := Lib.hid (HK.out.trans (hb5.mono HK.out.size))
        have n_H19 := Lib.hid (H19.out.step hb5)
        clear hb5 H5 H8 HV HM HC HK H19
        have H5 := n_H5
        have H8 := n_H8
        have HV := n_HV
        have HM := n_HM
        have HC := n_HC
        have HK := n_HK
        have H19 := n_H19
        clear n_H5 n_H8 n_HV n_HM n_HC n_HK n_H19
        refine ⟨_, rfl, ?_⟩
        refine hK.out _ _ ⟨H8.out, H5.out⟩ (fun hHeld => ?_)
        clear hK K
        refine norm_ (a' := ?_) ?_ ?_
        rotate_left
        · show Act.put _ (some 151) _ = _
          simp only [Act.put, List.setIfInBounds_toArray, List.set_cons_zero, List.set_cons_succ]
          rfl
        refine one_ (i := 4) (N := some 152) #[true, true, true, true, true, false, false, false, true, false, false] rfl rfl (by kernel_rfl) (by decide) (fun K hK => ?_)
        clear hHeld
        refine goes_ Try.func29 (by kernel_rfl) rfl #[.agg #[.int .u32 3, .int .u64 lsn, .int .i64 4, .string (H1 lv), (.slice Ap ms.length cp)], .int .i64 n, .agg #[.string (ek12 ek), .int .u32 ep, .int .i64 (es16 es)]] (by rfl) rfl rfl (by (try simp only [List.map_toArray, List.map_cons, List.map_nil]); first | done | rfl) ?_
        refine (HSF.out _ HV.out).mono ?_
        rintro e_ x33 ⟨rfl, hb5⟩
        have n_H5 := Lib.hid (H5.out.step hb5)
        have n_H8 := Lib.hid (H8.out.step hb5)
        have n_HV := Lib.hid (HV.out.below hb5)
        have n_HM := Lib.hid (own_below HM.out hb5)
        have n_HC := Lib.hid (HC.out.below hb5)
        have n_HK := Lib.hid (HK.out.trans (hb5.mono HK.out.size))
        have n_H19 := Lib.hid (H19.out.step hb5)
        clear hb5 H5 H8 HV HM HC HK H19
        have H5 := n_H5
        have H8 := n_H8
        have HV := n_HV
        have HM := n_HM
        have HC := n_HC
        have HK := n_HK
        have H19 := n_H19
        clear n_H5 n_H8 n_HV n_HM n_HC n_HK n_H19
        refine ⟨_, rfl, ?_⟩
        refine hK.out _ _ ⟨H8.out, H5.out⟩ (fun hHeld => ?_)
        clear hK K
        refine norm_ (a' := ?_) ?_ ?_
        rotate_left
        · show Act.put _ (some 152) _ = _
          simp only [Act.put, List.setIfInBounds_toArray, List.set_cons_zero, List.set_cons_succ]
          rfl
        refine pure_ (i := 5) (N := some 147) (v := ?_) (a' := ?_) #[true, true, true, true, true, true, false, false, true, false, false] rfl rfl (by kernel_rfl) (fun _ _ _ h => h) (Or.inl ⟨by rfl, ?_⟩) ?_ ?_
        rotate_left
        · intro w'
          go_simp
          with_reducible rfl
        rotate_left
        · simp only [Act.put, List.setIfInBounds_toArray, List.set_cons_zero, List.set_cons_succ, i64_w, i32_w]
          rfl
        refine pure_ (i := 6) (N := some 153) (v := ?_) (a' := ?_) #[true, true, true, true, true, true, true, false, true, false, false] rfl rfl (by kernel_rfl) (fun _ _ _ h => h) (Or.inl ⟨by rfl, ?_⟩) ?_ ?_
        rotate_left
        · intro w'
          go_simp
          with_reducible rfl
        rotate_left
        · simp only [Act.put, List.setIfInBounds_toArray, List.set_cons_zero, List.set_cons_succ, i64_w, i32_w]
          rfl
        refine pure_ (i := 7) (N := some 154) (v := ?_) (a' := ?_) #[true, true, true, true, true, true, true, true, true, false, false] rfl rfl (by kernel_rfl) (fun _ _ _ h => h) (Or.inl ⟨by rfl, ?_⟩) ?_ ?_
        rotate_left
        · intro w'
          go_simp
          with_reducible rfl
        rotate_left
        · simp only [Act.put, List.setIfInBounds_toArray, List.set_cons_zero, List.set_cons_succ, i64_w, i32_w]
          rfl
        refine one_ (i := 9) (N := none) #[true, true, true, true, true, true, true, true, true, true, false] rfl rfl (by kernel_rfl) (by decide) (fun K hK => ?_)
        clear hHeld
        refine skip_ (w1 := x33.setRow g19 #[.int .i64 4, .int .i64 n, .string (cslot (⟨xp, ek12 ek, ep, es16 es⟩ : ChN)), .string (cslot ⟨xp, xk, xrp, xrs⟩)]) (by rfl) rfl (run_store_rowI 38 (.tmp 19) (.tmp 153) rfl g19 #[.int .i64 4, .int .i64 n, .string (cslot (⟨xp, ek12 ek, ep, es16 es⟩ : ChN)), .string (cslot ⟨xp, xk, xrp, xrs⟩)] rfl (by rfl) 38 _ H19.out (by kernel_rfl) rfl (by simp [Value.oneCell'])) ?_
        have n_H5 := Lib.hid (blk_setRowI H5.out #[.int .i64 4, .int .i64 n, .string (cslot (⟨xp, ek12 ek, ep, es16 es⟩ : ChN)), .string (cslot ⟨xp, xk, xrp, xrs⟩)] nH5_g19.out)
        have n_H8 := Lib.hid (blk_setRowI H8.out #[.int .i64 4, .int .i64 n, .string (cslot (⟨xp, ek12 ek, ep, es16 es⟩ : ChN)), .string (cslot ⟨xp, xk, xrp, xrs⟩)] nH8_g19.out)
        have n_HV := Lib.hid (OwnP.setRow (cs' := #[.int .i64 4, .int .i64 n, .string (cslot (⟨xp, ek12 ek, ep, es16 es⟩ : ChN)), .string (cslot ⟨xp, xk, xrp, xrs⟩)]) HV.out H19.out (by decide))
        have n_HM := Lib.hid (own_setRowI (cs' := #[.int .i64 4, .int .i64 n, .string (cslot (⟨xp, ek12 ek, ep, es16 es⟩ : ChN)), .string (cslot ⟨xp, xk, xrp, xrs⟩)]) HM.out nHM_g19.out)
        have n_HC := Lib.hid (RowsC.far HC.out (cs' := #[.int .i64 4, .int .i64 n, .string (cslot (⟨xp, ek12 ek, ep, es16 es⟩ : ChN)), .string (cslot ⟨xp, xk, xrp, xrs⟩)]) nHC_g19.out)
        have n_HK := Lib.hid (setRow_below HK.out hg19b.out #[.int .i64 4, .int .i64 n, .string (cslot (⟨xp, ek12 ek, ep, es16 es⟩ : ChN)), .string (cslot ⟨xp, xk, xrp, xrs⟩)])
        have n_H19 := Lib.hid (blk_setRow (cs' := #[.int .i64 4, .int .i64 n, .string (cslot (⟨xp, ek12 ek, ep, es16 es⟩ : ChN)), .string (cslot ⟨xp, xk, xrp, xrs⟩)]) H19.out)
        clear H5 H8 HV HM HC HK H19
        have H5 := n_H5
        have H8 := n_H8
        have HV := n_HV
        have HM := n_HM
        have HC := n_HC
        have HK := n_HK
        have H19 := n_H19
        clear n_H5 n_H8 n_HV n_HM n_HC n_HK n_H19
        generalize x33.setRow g19 #[.int .i64 4, .int .i64 n, .string (cslot (⟨xp, ek12 ek, ep, es16 es⟩ : ChN)), .string (cslot ⟨xp, xk, xrp, xrs⟩)] = x34 at *
        refine hK.out _ _ ⟨H8.out, H5.out⟩ (fun hHeld => ?_)
        clear hK K
        refine pure_ (i := 10) (N := some 20) (v := ?_) (a' := ?_) #[true, true, true, true, true, true, true, true, true, true, true] rfl rfl (by kernel_rfl) (fun _ _ _ h => h) (Or.inl ⟨by rfl, ?_⟩) ?_ ?_
        rotate_left
        · intro w'
          go_simp
          with_reducible rfl
        rotate_left
        · simp only [Act.put, List.setIfInBounds_toArray, List.set_cons_zero, List.set_cons_succ, i64_w, i32_w]
          rfl
        refine done_ (by kernel_rfl) ?_
        go_wp2_with fail
        go_meet
        exact ⟨g19, rfl, rfl, H19, H5, H8, HV, HM, HC, HK⟩
    case rest =>
    clear H5 H8 HV HM HC HK
    obtain ⟨g19, rfl, rfl, H19, H5, H8, HV, HM, HC, HK⟩ := hcut
    have f1_ : decide ((n : Int) < 0) = false := decide_eq_false (by omega)
    have f2_ : decide ((n : Int) ≥ (ms.length : Int)) = false := decide_eq_false (by omega)
    have f3_ : decide ((ms.length : Int) ≤ (n : Int)) = false := decide_eq_false (by omega)
    have f4_ : decide (ms.length ≤ n) = false := decide_eq_false (by omega)
    go_upto_region 29 with (first | (with_reducible refine isLoadN 28 (.tmp 8) ?_; with_unfolding_all refine wpList_load_row rfl 28 (.tmp 8) rfl g8 (by kernel_rfl) 28 #[.int .u32 3, .int .u64 lsn, .int .i64 4, .string (H1 lv), (.slice Ap ms.length cp)] (0, 0) _ H8.out Try.underlying28 rfl (by kernel_rfl) ?_) | (with_reducible refine isLoadN 38 (.tmp 19) ?_; with_unfolding_all refine wpList_load_row rfl 38 (.tmp 19) rfl g19 (by kernel_rfl) 38 #[.int .i64 4, .int .i64 n, .string (cslot (⟨xp, ek12 ek, ep, es16 es⟩ : ChN)), .string (cslot ⟨xp, xk, xrp, xrs⟩)] (0, 0) _ H19.out Try.underlying38 rfl (by kernel_rfl) ?_) | (go_at_call 11; refine (ap_own 3 lsn 4 (H1 lv) 4 n (cslot (⟨xp, ek12 ek, ep, es16 es⟩ : ChN)) (cslot ⟨xp, xk, xrp, xrs⟩) 3 HV.out (by rw [List.length_map]; omega) (fun x hx_ => by obtain ⟨y, hy_, rfl⟩ := List.mem_map.1 hx_; have h3_ := (HGd.out y hy_).2.2.2; rw [cslot_size]; omega) (by rw [H1_size]; omega)).mono ?_; rintro e w10 ⟨vq, he_, ho_, hb5⟩; rw [HAP.out] at he_ ho_; subst he_; have HQ := Lib.hid (OwnP.lower (show OwnP w10 _ vq (List.map cslot ms2) from ho_) HK.out.size); clear ho_; obtain ⟨Aq, cq, hVq⟩ := own_sl HQ.out; rw [List.length_map] at hVq; subst hVq; have n_H5 := Lib.hid (H5.out.step hb5); have n_H8 := Lib.hid (H8.out.step hb5); have n_HV := Lib.hid (HV.out.below hb5); have n_HM := Lib.hid (own_below HM.out hb5); have n_HC := Lib.hid (HC.out.below hb5); have n_HK := Lib.hid (HK.out.trans (hb5.mono HK.out.size)); have n_H19 := Lib.hid (H19.out.step hb5); clear hb5 H5 H8 HV HM HC HK H19; have H5 := n_H5; have H8 := n_H8; have HV := n_HV; have HM := n_HM; have HC := n_HC; have HK := n_HK; have H19 := n_H19; clear n_H5 n_H8 n_HV n_HM n_HC n_HK n_H19) | (with_reducible refine isStoreN 28 (.tmp 21) (.tmp 176) ?_; with_unfolding_all refine wpList_store_row rfl 28 (.tmp 21) (.tmp 176) rfl w10.heap.size #[.int .u32 3, .int .u64 3, .int .i64 4, .string (H1 lv), (.slice Aq ms2.length cq)] (by kernel_rfl) (by kernel_rfl) 28 #[.int .u32 0, .int .u64 0, .int .i64 0, .string ⟨#[]⟩, .slice none 0 0] (Blk.new w10 28 #[.int .u32 0, .int .u64 0, .int .i64 0, .string ⟨#[]⟩, .slice none 0 0]) (by kernel_rfl) rfl (sh_one _ _ _ _ _) ?_) | (with_reducible refine isGuarded ?_; refine guardOn (by with_unfolding_all rfl) ?_; intro _ _))
    have hB := Lib.hid (blk_setRow (cs' := #[.int .u32 3, .int .u64 3, .int .i64 4, .string (H1 lv), (.slice Aq ms2.length cq)]) (Blk.new w10 28 #[.int .u32 0, .int .u64 0, .int .i64 0, .string ⟨#[]⟩, .slice none 0 0]))
    have hb5 := setRow_below (balloc (Below.refl w10.heap.size w10) (.cells #[.int .u32 0, .int .u64 0, .int .i64 0, .string ⟨#[]⟩, .slice none 0 0] 28)) (Nat.le_refl w10.heap.size) #[.int .u32 3, .int .u64 3, .int .i64 4, .string (H1 lv), (.slice Aq ms2.length cq)]
    have n_H5 := Lib.hid (H5.out.step hb5)
    have n_H8 := Lib.hid (H8.out.step hb5)
    have n_HV := Lib.hid (HV.out.below hb5)
    have n_HM := Lib.hid (own_below HM.out hb5)
    have n_HC := Lib.hid (HC.out.below hb5)
    have n_HK := Lib.hid (HK.out.trans (hb5.mono HK.out.size))
    have n_H19 := Lib.hid (H19.out.step hb5)
    have n_HQ := Lib.hid (HQ.out.below hb5)
    clear hb5 H5 H8 HV HM HC HK H19 HQ
    have H5 := n_H5
    have H8 := n_H8
    have HV := n_HV
    have HM := n_HM
    have HC := n_HC
    have HK := n_HK
    have H19 := n_H19
    have HQ := n_HQ
    clear n_H5 n_H8 n_HV n_HM n_HC n_HK n_H19 n_HQ
    generalize ((w10.alloc (.cells #[.int .u32 0, .int .u64 0, .int .i64 0, .string ⟨#[]⟩, .slice none 0 0] 28)).setRow w10.heap.size #[.int .u32 3, .int .u64 3, .int .i64 4, .string (H1 lv), (.slice Aq ms2.length cq)]) = w11 at *
    generalize w10.heap.size = g21 at *
    have H21 := hB
    clear hB
    clear f1_ f2_ f3_ f4_
    go_upto_region 30 with (first | (with_reducible refine isLoadN 28 (.tmp 21) ?_; with_unfolding_all refine wpList_load_row rfl 28 (.tmp 21) rfl g21 (by kernel_rfl) 28 #[.int .u32 3, .int .u64 3, .int .i64 4, .string (H1 lv), (.slice Aq ms2.length cq)] (0, 0) _ H21.out Try.underlying28 rfl (by kernel_rfl) ?_) | (go_at_call 28; refine (inner_own 3 3 lv HG2.out (by have h_ := HL2.out; omega) HQ.out).mono ?_; rintro e' w12 ⟨An, cn, rfl, hC_, hb5⟩; have HCn := Lib.hid hC_; clear hC_; have n_H5 := Lib.hid (H5.out.step hb5); have n_H8 := Lib.hid (H8.out.step hb5); have n_HV := Lib.hid (HV.out.below hb5); have n_HM := Lib.hid (own_below HM.out hb5); have n_HC := Lib.hid (HC.out.below hb5); have n_HK := Lib.hid (HK.out.trans (hb5.mono HK.out.size)); have n_H19 := Lib.hid (H19.out.step hb5); have n_HQ := Lib.hid (HQ.out.below hb5); have n_H21 := Lib.hid (H21.out.step hb5); clear hb5 H5 H8 HV HM HC HK H19 HQ H21; have H5 := n_H5; have H8 := n_H8; have HV := n_HV; have HM := n_HM; have HC := n_HC; have HK := n_HK; have H19 := n_H19; have HQ := n_HQ; have H21 := n_H21; clear n_H5 n_H8 n_HV n_HM n_HC n_HK n_H19 n_HQ n_H21))
    obtain ⟨mb, hAm, hmb⟩ := rowM_at HM.out rfl n hn
    obtain ⟨nb, no_, hAn, hnb⟩ := rowC_at HCn.out n (by have h_ := HL2.out; omega)
    rw [HXX.out] at hmb
    rw [HS2.out] at hnb
    have HMB := Lib.hid hmb
    have HNB := Lib.hid hnb
    clear hmb hnb
    subst hAm
    subst hAn
    have n2_ : (n : Int) < ms2.length := by have h_ := HL2.out; omega
    have n_c0 : w12.cell? ⟨nb, no_ + n * 4, none⟩ = some (.int .u32 xp) := (by simpa using HNB.out w12 HCn.out 0 _ rfl)
    have n_c1 : w12.cell? ⟨nb, no_ + n * 4 + 1, none⟩ = some (.string (ek12 ek)) := (by simpa using HNB.out w12 HCn.out 1 _ rfl)
    have n_c2 : w12.cell? ⟨nb, no_ + n * 4 + 2, none⟩ = some (.int .u32 ep) := (by simpa using HNB.out w12 HCn.out 2 _ rfl)
    have n_c3 : w12.cell? ⟨nb, no_ + n * 4 + 3, none⟩ = some (.int .i64 (es16 es)) := (by simpa using HNB.out w12 HCn.out 3 _ rfl)
    have m_c0 : w12.cell? ⟨mb, n * 4, none⟩ = some (.int .u32 xp) := (by simpa using HMB.out w12 HM.out 0 _ rfl)
    refine start_ (n := 41) (S := fun w' => Blk w' w.heap.size 43 #[.string ek, .int .u32 ep, .int .i64 es] ∧ w'.cell? ⟨nb, no_ + n * 4, none⟩ = some (.int .u32 xp) ∧ w'.cell? ⟨nb, no_ + n * 4 + 1, none⟩ = some (.string (ek12 ek)) ∧ w'.cell? ⟨nb, no_ + n * 4 + 2, none⟩ = some (.int .u32 ep) ∧ w'.cell? ⟨nb, no_ + n * 4 + 3, none⟩ = some (.int .i64 (es16 es)) ∧ w'.cell? ⟨mb, n * 4, none⟩ = some (.int .u32 xp)) (ds := []) #[false, false, false, false, false, false, false, false, false, false, false, false, false, false, false, false, false, false, false, false, false, false, false, false, false, false, false, false, false, false, false, false, false, false, false, false, false, false, false, false, false] (by kernel_rfl) rfl rfl ⟨H5.out, n_c0, n_c1, n_c2, n_c3, m_c0⟩ (fun hHeld => ?_)
    have hb5 := bdrew (Below.refl w12.heap.size w12)
    have n_H5 := Lib.hid (H5.out.step hb5)
    have n_HM := Lib.hid (own_below HM.out hb5)
    have n_HC := Lib.hid (HC.out.below hb5)
    have n_HCn := Lib.hid (HCn.out.below hb5)
    have n_HK := Lib.hid (HK.out.trans (hb5.mono HK.out.size))
    clear hb5 H5 HM HC HCn HK
    have H5 := n_H5
    have HM := n_HM
    have HC := n_HC
    have HCn := n_HCn
    have HK := n_HK
    clear n_H5 n_HM n_HC n_HCn n_HK
    generalize w12.drew = xd at *
    clear n_c0 n_c1 n_c2 n_c3 m_c0
    have n_c0 : xd.cell? ⟨nb, no_ + n * 4, none⟩ = some (.int .u32 xp) := (by simpa using HNB.out xd HCn.out 0 _ rfl)
    have n_c1 : xd.cell? ⟨nb, no_ + n * 4 + 1, none⟩ = some (.string (ek12 ek)) := (by simpa using HNB.out xd HCn.out 1 _ rfl)
    have n_c2 : xd.cell? ⟨nb, no_ + n * 4 + 2, none⟩ = some (.int .u32 ep) := (by simpa using HNB.out xd HCn.out 2 _ rfl)
    have n_c3 : xd.cell? ⟨nb, no_ + n * 4 + 3, none⟩ = some (.int .i64 (es16 es)) := (by simpa using HNB.out xd HCn.out 3 _ rfl)
    have m_c0 : xd.cell? ⟨mb, n * 4, none⟩ = some (.int .u32 xp) := (by simpa using HMB.out xd HM.out 0 _ rfl)
    refine pure_ (i := 0) (N := some 183) (v := ?_) (a' := ?_) #[true, false, false, false, false, false, false, false, false, false, false, false, false, false, false, false, false, false, false, false, false, false, false, false, false, false, false, false, false, false, false, false, false, false, false, false, false, false, false, false, false] rfl rfl (by kernel_rfl) (fun _ _ _ h => h) (Or.inl ⟨by rfl, ?_⟩) ?_ ?_
    rotate_left
    · intro w'
      go_simp
      with_reducible rfl
    rotate_left
    · simp only [Act.put, List.setIfInBounds_toArray, List.set_cons_zero, List.set_cons_succ, i64_w, i32_w]
      rfl
    refine pure_ (i := 3) (N := some 186) (v := ?_) (a' := ?_) #[true, false, false, true, false, false, false, false, false, false, false, false, false, false, false, false, false, false, false, false, false, false, false, false, false, false, false, false, false, false, false, false, false, false, false, false, false, false, false, false, false] rfl rfl (by kernel_rfl) (fun _ _ _ h => h) (Or.inl ⟨by rfl, ?_⟩) ?_ ?_
    rotate_left
    · intro w'
      go_simp
      with_reducible rfl
    rotate_left
    · simp only [Act.put, List.setIfInBounds_toArray, List.set_cons_zero, List.set_cons_succ, i64_w, i32_w]
      rfl
    refine take_ (i := 1) (N := some 184) (v := .agg #[.string ek, .int .u32 ep, .int .i64 es]) (a' := ?_) #[true, true, false, true, false, false, false, false, false, false, false, false, false, false, false, false, false, false, false, false, false, false, false, false, false, false, false, false, false, false, false, false, false, false, false, false, false, false, false, false, false] rfl rfl (by kernel_rfl) (fun _ _ _ h => h) (yields_row 43 (.tmp 5) rfl (by rfl) w.heap.size rfl 43 #[.string ek, .int .u32 ep, .int .i64 es] (0, 0) _ (fun w_ h => h.1) Try.underlying43 rfl (by kernel_rfl)) hHeld ?_ ?_
    rotate_left
    · simp only [Act.put, List.setIfInBounds_toArray, List.set_cons_zero, List.set_cons_succ, i64_w, i32_w]
      rfl
    refine one_ (i := 2) (N := some 185) #[true, true, true, true, false, false, false, false, false, false, false, false, false, false, false, false, false, false, false, false, false, false, false, false, false, false, false, false, false, false, false, false, false, false, false, false, false, false, false, false, false] rfl rfl (by kernel_rfl) (by decide) (fun K hK => ?_)
    clear hHeld
    refine goes_ Try.func30 (by kernel_rfl) rfl #[.slice Ak ms.length ck, .agg #[.string ek, .int .u32 ep, .int .i64 es]] (by rfl) rfl rfl (by (try simp only [List.map_toArray, List.map_cons, List.map_nil]); first | done | rfl) ?_
    refine (down_own HC.out (by omega) ek ep es).mono ?_
    rintro e_ x35 ⟨rfl, hb5⟩
    rw [HDN.out]
    have n_H5 := Lib.hid (H5.out.step hb5)
    have n_HM := Lib.hid (own_below HM.out hb5)
    have n_HC := Lib.hid (HC.out.below hb5)
    have n_HCn := Lib.hid (HCn.out.below hb5)
    have n_HK := Lib.hid (HK.out.trans (hb5.mono HK.out.size))
    clear hb5 H5 HM HC HCn HK
    have H5 := n_H5
    have HM := n_HM
    have HC := n_HC
    have HCn := n_HCn
    have HK := n_HK
    clear n_H5 n_HM n_HC n_HCn n_HK
    refine ⟨_, rfl, ?_⟩
    clear n_c0 n_c1 n_c2 n_c3 m_c0
    have n_c0 : x35.cell? ⟨nb, no_ + n * 4, none⟩ = some (.int .u32 xp) := (by simpa using HNB.out x35 HCn.out 0 _ rfl)
    have n_c1 : x35.cell? ⟨nb, no_ + n * 4 + 1, none⟩ = some (.string (ek12 ek)) := (by simpa using HNB.out x35 HCn.out 1 _ rfl)
    have n_c2 : x35.cell? ⟨nb, no_ + n * 4 + 2, none⟩ = some (.int .u32 ep) := (by simpa using HNB.out x35 HCn.out 2 _ rfl)
    have n_c3 : x35.cell? ⟨nb, no_ + n * 4 + 3, none⟩ = some (.int .i64 (es16 es)) := (by simpa using HNB.out x35 HCn.out 3 _ rfl)
    have m_c0 : x35.cell? ⟨mb, n * 4, none⟩ = some (.int .u32 xp) := (by simpa using HMB.out x35 HM.out 0 _ rfl)
    refine hK.out _ _ ⟨H5.out, n_c0, n_c1, n_c2, n_c3, m_c0⟩ (fun hHeld => ?_)
    clear hK K
    refine norm_ (a' := ?_) ?_ ?_
    rotate_left
    · show Act.put _ (some 185) _ = _
      simp only [Act.put, List.setIfInBounds_toArray, List.set_cons_zero, List.set_cons_succ]
      rfl
    refine pure_ (i := 4) (N := some 187) (v := .bool true) (a' := ?_) #[true, true, true, true, true, false, false, false, false, false, false, false, false, false, false, false, false, false, false, false, false, false, false, false, false, false, false, false, false, false, false, false, false, false, false, false, false, false, false, false, false] rfl rfl (by kernel_rfl) (fun _ _ _ h => h) (Or.inl ⟨by rfl, ?_⟩) ?_ ?_
    · intro w'
      go_simp; try simp
    rotate_left
    · simp only [Act.put, List.setIfInBounds_toArray, List.set_cons_zero, List.set_cons_succ, i64_w, i32_w]
      rfl
    refine pure_ (i := 5) (N := some 188) (v := ?_) (a' := ?_) #[true, true, true, true, true, true, false, false, false, false, false, false, false, false, false, false, false, false, false, false, false, false, false, false, false, false, false, false, false, false, false, false, false, false, false, false, false, false, false, false, false] rfl rfl (by kernel_rfl) (fun _ _ _ h => h) (Or.inl ⟨by rfl, ?_⟩) ?_ ?_
    rotate_left
    · intro w'
      go_simp
      with_reducible rfl
    rotate_left
    · simp only [Act.put, List.setIfInBounds_toArray, List.set_cons_zero, List.set_cons_succ, i64_w, i32_w]
      rfl
    refine pure_ (i := 6) (N := some 189) (v := ?_) (a' := ?_) #[true, true, true, true, true, true, true, false, false, false, false, false, false, false, false, false, false, false, false, false, false, false, false, false, false, false, false, false, false, false, false, false, false, false, false, false, false, false, false, false, false] rfl rfl (by kernel_rfl) (fun _ _ _ h => h) (Or.inl ⟨by rfl, ?_⟩) ?_ ?_
    rotate_left
    · intro w'
      go_simp
      with_reducible rfl
    rotate_left
    · simp only [Act.put, List.setIfInBounds_toArray, List.set_cons_zero, List.set_cons_succ, i64_w, i32_w]
      rfl
    refine pure_ (i := 7) (N := some 190) (v := .bool true) (a' := ?_) #[true, true, true, true, true, true, true, true, false, false, false, false, false, false, false, false, false, false, false, false, false, false, false, false, false, false, false, false, false, false, false, false, false, false, false, false, false, false, false, false, false] rfl rfl (by kernel_rfl) (fun _ _ _ h => h) (Or.inl ⟨by rfl, ?_⟩) ?_ ?_
    · intro w'
      go_simp
    rotate_left
    · simp only [Act.put, List.setIfInBounds_toArray, List.set_cons_zero, List.set_cons_succ, i64_w, i32_w]
      rfl
    refine pure_ (i := 8) (N := some 191) (v := ?_) (a' := ?_) #[true, true, true, true, true, true, true, true, true, false, false, false, false, false, false, false, false, false, false, false, false, false, false, false, false, false, false, false, false, false, false, false, false, false, false, false, false, false, false, false, false] rfl rfl (by kernel_rfl) (fun _ _ _ h => h) (Or.inl ⟨by rfl, ?_⟩) ?_ ?_
    rotate_left
    · intro w'
      go_simp
      with_reducible rfl
    rotate_left
    · simp only [Act.put, List.setIfInBounds_toArray, List.set_cons_zero, List.set_cons_succ, i64_w, i32_w]
      rfl
    refine pure_ (i := 9) (N := some 192) (v := ?_) (a' := ?_) #[true, true, true, true, true, true, true, true, true, true, false, false, false, false, false, false, false, false, false, false, false, false, false, false, false, false, false, false, false, false, false, false, false, false, false, false, false, false, false, false, false] rfl rfl (by kernel_rfl) (fun _ _ _ h => h) (Or.inl ⟨by rfl, ?_⟩) ?_ ?_
    rotate_left
    · intro w'
      go_simp
      with_reducible rfl
    rotate_left
    · simp only [Act.put, List.setIfInBounds_toArray, List.set_cons_zero, List.set_cons_succ, i64_w, i32_w]
      rfl
    refine pure_ (i := 10) (N := some 193) (v := ?_) (a' := ?_) #[true, true, true, true, true, true, true, true, true, true, true, false, false, false, false, false, false, false, false, false, false, false, false, false, false, false, false, false, false, false, false, false, false, false, false, false, false, false, false, false, false] rfl rfl (by kernel_rfl) (fun _ _ _ h => h) (Or.inl ⟨by rfl, ?_⟩) ?_ ?_
    rotate_left
    · intro w'
      go_simp
      with_reducible rfl
    rotate_left
    · simp only [Act.put, List.setIfInBounds_toArray, List.set_cons_zero, List.set_cons_succ, i64_w, i32_w]
      rfl
    refine pure_ (i := 11) (N := some 194) (v := .bool true) (a' := ?_) #[true, true, true, true, true, true, true, true, true, true, true, true, false, false, false, false, false, false, false, false, false, false, false, false, false, false, false, false, false, false, false, false, false, false, false, false, false, false, false, false, false] rfl rfl (by kernel_rfl) (fun _ _ _ h => h) (Or.inl ⟨by rfl, ?_⟩) ?_ ?_
    · intro w'
      go_simp
    rotate_left
    · simp only [Act.put, List.setIfInBounds_toArray, List.set_cons_zero, List.set_cons_succ, i64_w, i32_w]
      rfl
    refine pure_ (i := 12) (N := some 195) (v := ?_) (a' := ?_) #[true, true, true, true, true, true, true, true, true, true, true, true, true, false, false, false, false, false, false, false, false, false, false, false, false, false, false, false, false, false, false, false, false, false, false, false, false, false, false, false, false] rfl rfl (by kernel_rfl) (fun _ _ _ h => h) (Or.inl ⟨by rfl, ?_⟩) ?_ ?_
    rotate_left
    · intro w'
      go_simp
      with_reducible rfl
    rotate_left
    · simp only [Act.put, List.setIfInBounds_toArray, List.set_cons_zero, List.set_cons_succ, i64_w, i32_w]
      rfl
    refine pure_ (i := 13) (N := some 196) (v := ?_) (a' := ?_) #[true, true, true, true, true, true, true, true, true, true, true, true, true, true, false, false, false, false, false, false, false, false, false, false, false, false, false, false, false, false, false, false, false, false, false, false, false, false, false, false, false] rfl rfl (by kernel_rfl) (fun _ _ _ h => h) (Or.inl ⟨by rfl, ?_⟩) ?_ ?_
    rotate_left
    · intro w'
      go_simp
      with_reducible rfl
    rotate_left
    · simp only [Act.put, List.setIfInBounds_toArray, List.set_cons_zero, List.set_cons_succ, i64_w, i32_w]
      rfl
    refine pure_ (i := 14) (N := some 197) (v := ?_) (a' := ?_) #[true, true, true, true, true, true, true, true, true, true, true, true, true, true, true, false, false, false, false, false, false, false, false, false, false, false, false, false, false, false, false, false, false, false, false, false, false, false, false, false, false] rfl rfl (by kernel_rfl) (fun _ _ _ h => h) (Or.inl ⟨by rfl, ?_⟩) ?_ ?_
    rotate_left
    · intro w'
      go_simp
      with_reducible rfl
    rotate_left
    · simp only [Act.put, List.setIfInBounds_toArray, List.set_cons_zero, List.set_cons_succ, i64_w, i32_w]
      rfl
    refine pure_ (i := 15) (N := some 198) (v := .bool true) (a' := ?_) #[true, true, true, true, true, true, true, true, true, true, true, true, true, true, true, true, false, false, false, false, false, false, false, false, false, false, false, false, false, false, false, false, false, false, false, false, false, false, false, false, false] rfl rfl (by kernel_rfl) (fun _ _ _ h => h) (Or.inl ⟨by rfl, ?_⟩) ?_ ?_
    · intro w'
      go_simp
    rotate_left
    · simp only [Act.put, List.setIfInBounds_toArray, List.set_cons_zero, List.set_cons_succ, i64_w, i32_w]
      rfl
    refine pure_ (i := 16) (N := some 199) (v := ?_) (a' := ?_) #[true, true, true, true, true, true, true, true, true, true, true, true, true, true, true, true, true, false, false, false, false, false, false, false, false, false, false, false, false, false, false, false, false, false, false, false, false, false, false, false, false] rfl rfl (by kernel_rfl) (fun _ _ _ h => h) (Or.inl ⟨by rfl, ?_⟩) ?_ ?_
    rotate_left
    · intro w'
      go_simp
      with_reducible rfl
    rotate_left
    · simp only [Act.put, List.setIfInBounds_toArray, List.set_cons_zero, List.set_cons_succ, i64_w, i32_w]
      rfl
    refine pure_ (i := 17) (N := some 200) (v := ?_) (a' := ?_) #[true, true, true, true, true, true, true, true, true, true, true, true, true, true, true, true, true, true, false, false, false, false, false, false, false, false, false, false, false, false, false, false, false, false, false, false, false, false, false, false, false] rfl rfl (by kernel_rfl) (fun _ _ _ h => h) (Or.inl ⟨by rfl, ?_⟩) ?_ ?_
    rotate_left
    · intro w'
      go_simp
      with_reducible rfl
    rotate_left
    · simp only [Act.put, List.setIfInBounds_toArray, List.set_cons_zero, List.set_cons_succ, i64_w, i32_w]
      rfl
    refine pure_ (i := 18) (N := some 201) (v := ?_) (a' := ?_) #[true, true, true, true, true, true, true, true, true, true, true, true, true, true, true, true, true, true, true, false, false, false, false, false, false, false, false, false, false, false, false, false, false, false, false, false, false, false, false, false, false] rfl rfl (by kernel_rfl) (fun _ _ _ h => h) (Or.inl ⟨by rfl, ?_⟩) ?_ ?_
    rotate_left
    · intro w'
      go_simp
      with_reducible rfl
    rotate_left
    · simp only [Act.put, List.setIfInBounds_toArray, List.set_cons_zero, List.set_cons_succ, i64_w, i32_w]
      rfl
    refine pure_ (i := 19) (N := some 202) (v := ?_) (a' := ?_) #[true, true, true, true, true, true, true, true, true, true, true, true, true, true, true, true, true, true, true, true, false, false, false, false, false, false, false, false, false, false, false, false, false, false, false, false, false, false, false, false, false] rfl rfl (by kernel_rfl) (fun _ _ _ h => h) (Or.inl ⟨by rfl, ?_⟩) ?_ ?_
    rotate_left
    · intro w'
      go_simp
      with_reducible rfl
    rotate_left
    · simp only [Act.put, List.setIfInBounds_toArray, List.set_cons_zero, List.set_cons_succ, i64_w, i32_w]
      rfl
    refine pure_ (i := 20) (N := some 203) (v := ?_) (a' := ?_) #[true, true, true, true, true, true, true, true, true, true, true, true, true, true, true, true, true, true, true, true, true, false, false, false, false, false, false, false, false, false, false, false, false, false, false, false, false, false, false, false, false] rfl rfl (by kernel_rfl) (fun _ _ _ h => h) (Or.inl ⟨by rfl, ?_⟩) ?_ ?_
    rotate_left
    · intro w'
      go_simp
      with_reducible rfl
    rotate_left
    · simp only [Act.put, List.setIfInBounds_toArray, List.set_cons_zero, List.set_cons_succ, i64_w, i32_w]
      rfl
    refine pure_ (i := 21) (N := some 204) (v := ?_) (a' := ?_) #[true, true, true, true, true, true, true, true, true, true, true, true, true, true, true, true, true, true, true, true, true, true, false, false, false, false, false, false, false, false, false, false, false, false, false, false, false, false, false, false, false] rfl rfl (by kernel_rfl) (fun _ _ _ h => h) (Or.inl ⟨by rfl, ?_⟩) ?_ ?_
    rotate_left
    · intro w'
      go_simp
      with_reducible rfl
    rotate_left
    · simp only [Act.put, List.setIfInBounds_toArray, List.set_cons_zero, List.set_cons_succ, i64_w, i32_w]
      rfl
    refine take_ (i := 22) (N := some 205) (v := .agg #[.string (ek12 ek), .int .u32 ep, .int .i64 (es16 es)]) (a' := ?_) #[true, true, true, true, true, true, true, true, true, true, true, true, true, true, true, true, true, true, true, true, true, true, true, false, false, false, false, false, false, false, false, false, false, false, false, false, false, false, false, false, false] rfl rfl (by kernel_rfl) (fun _ _ _ h => h) (Or.inl ⟨by rfl, ?_⟩) hHeld ?_ ?_
    · rintro w' ⟨s0, s1, s2, s3, s4, s5⟩
      go_simp
    rotate_left
    · simp only [Act.put, List.setIfInBounds_toArray, List.set_cons_zero, List.set_cons_succ, i64_w, i32_w]
      rfl
    refine take_ (i := 23) (N := some 206) (v := .agg #[.string ek, .int .u32 ep, .int .i64 es]) (a' := ?_) #[true, true, true, true, true, true, true, true, true, true, true, true, true, true, true, true, true, true, true, true, true, true, true, true, false, false, false, false, false, false, false, false, false, false, false, false, false, false, false, false, false] rfl rfl (by kernel_rfl) (fun _ _ _ h => h) (yields_row 43 (.tmp 5) rfl (by rfl) w.heap.size rfl 43 #[.string ek, .int .u32 ep, .int .i64 es] (0, 0) _ (fun w_ h => h.1) Try.underlying43 rfl (by kernel_rfl)) hHeld ?_ ?_
    rotate_left
    · simp only [Act.put, List.setIfInBounds_toArray, List.set_cons_zero, List.set_cons_succ, i64_w, i32_w]
      rfl
    refine one_ (i := 24) (N := some 207) #[true, true, true, true, true, true, true, true, true, true, true, true, true, true, true, true, true, true, true, true, true, true, true, true, true, false, false, false, false, false, false, false, false, false, false, false, false, false, false, false, false] rfl rfl (by kernel_rfl) (by decide) (fun K hK => ?_)
    clear hHeld
    refine goes_ Try.func16 (by kernel_rfl) rfl #[.agg #[.string ek, .int .u32 ep, .int .i64 es]] (by rfl) rfl rfl (by (try simp only [List.map_toArray, List.map_cons, List.map_nil]); first | done | rfl) ?_
    refine (entry_any ek ep es _).mono ?_
    rintro e_ x36 ⟨rfl, hb5⟩
    have n_H5 := Lib.hid (H5.out.step hb5)
    have n_HM := Lib.hid (own_below HM.out hb5)
    have n_HC := Lib.hid (HC.out.below hb5)
    have n_HCn := Lib.hid (HCn.out.below hb5)
    have n_HK := Lib.hid (HK.out.trans (hb5.mono HK.out.size))
    clear hb5 H5 HM HC HCn HK
    have H5 := n_H5
    have HM := n_HM
    have HC := n_HC
    have HCn := n_HCn
    have HK := n_HK
    clear n_H5 n_HM n_HC n_HCn n_HK
    refine ⟨_, rfl, ?_⟩
    clear n_c0 n_c1 n_c2 n_c3 m_c0
    have n_c0 : x36.cell? ⟨nb, no_ + n * 4, none⟩ = some (.int .u32 xp) := (by simpa using HNB.out x36 HCn.out 0 _ rfl)
    have n_c1 : x36.cell? ⟨nb, no_ + n * 4 + 1, none⟩ = some (.string (ek12 ek)) := (by simpa using HNB.out x36 HCn.out 1 _ rfl)
    have n_c2 : x36.cell? ⟨nb, no_ + n * 4 + 2, none⟩ = some (.int .u32 ep) := (by simpa using HNB.out x36 HCn.out 2 _ rfl)
    have n_c3 : x36.cell? ⟨nb, no_ + n * 4 + 3, none⟩ = some (.int .i64 (es16 es)) := (by simpa using HNB.out x36 HCn.out 3 _ rfl)
    have m_c0 : x36.cell? ⟨mb, n * 4, none⟩ = some (.int .u32 xp) := (by simpa using HMB.out x36 HM.out 0 _ rfl)
    refine hK.out _ _ ⟨H5.out, n_c0, n_c1, n_c2, n_c3, m_c0⟩ (fun hHeld => ?_)
    clear hK K
    refine norm_ (a' := ?_) ?_ ?_
    rotate_left
    · show Act.put _ (some 207) _ = _
      simp only [Act.put, List.setIfInBounds_toArray, List.set_cons_zero, List.set_cons_succ]
      rfl
    refine pure_ (i := 25) (N := some 208) (v := .bool true) (a' := ?_) #[true, true, true, true, true, true, true, true, true, true, true, true, true, true, true, true, true, true, true, true, true, true, true, true, true, true, false, false, false, false, false, false, false, false, false, false, false, false, false, false, false] rfl rfl (by kernel_rfl) (fun _ _ _ h => h) (Or.inl ⟨by rfl, ?_⟩) ?_ ?_
    · intro w'
      go_simp; try simp
    rotate_left
    · simp only [Act.put, List.setIfInBounds_toArray, List.set_cons_zero, List.set_cons_succ, i64_w, i32_w]
      rfl
    refine pure_ (i := 26) (N := some 209) (v := ?_) (a' := ?_) #[true, true, true, true, true, true, true, true, true, true, true, true, true, true, true, true, true, true, true, true, true, true, true, true, true, true, true, false, false, false, false, false, false, false, false, false, false, false, false, false, false] rfl rfl (by kernel_rfl) (fun _ _ _ h => h) (Or.inl ⟨by rfl, ?_⟩) ?_ ?_
    rotate_left
    · intro w'
      go_simp
      with_reducible rfl
    rotate_left
    · simp only [Act.put, List.setIfInBounds_toArray, List.set_cons_zero, List.set_cons_succ, i64_w, i32_w]
      rfl
    refine pure_ (i := 27) (N := some 210) (v := ?_) (a' := ?_) #[true, true, true, true, true, true, true, true, true, true, true, true, true, true, true, true, true, true, true, true, true, true, true, true, true, true, true, true, false, false, false, false, false, false, false, false, false, false, false, false, false] rfl rfl (by kernel_rfl) (fun _ _ _ h => h) (Or.inl ⟨by rfl, ?_⟩) ?_ ?_
    rotate_left
    · intro w'
      go_simp
      with_reducible rfl
    rotate_left
    · simp only [Act.put, List.setIfInBounds_toArray, List.set_cons_zero, List.set_cons_succ, i64_w, i32_w]
      rfl
    refine pure_ (i := 28) (N := some 211) (v := ?_) (a' := ?_) #[true, true, true, true, true, true, true, true, true, true, true, true, true, true, true, true, true, true, true, true, true, true, true, true, true, true, true, true, true, false, false, false, false, false, false, false, false, false, false, false, false] rfl rfl (by kernel_rfl) (fun _ _ _ h => h) (Or.inl ⟨by rfl, ?_⟩) ?_ ?_
    rotate_left
    · intro w'
      go_simp
      with_reducible rfl
    rotate_left
    · simp only [Act.put, List.setIfInBounds_toArray, List.set_cons_zero, List.set_cons_succ, i64_w, i32_w]
      rfl
    refine pure_ (i := 29) (N := some 212) (v := ?_) (a' := ?_) #[true, true, true, true, true, true, true, true, true, true, true, true, true, true, true, true, true, true, true, true, true, true, true, true, true, true, true, true, true, true, false, false, false, false, false, false, false, false, false, false, false] rfl rfl (by kernel_rfl) (fun _ _ _ h => h) (Or.inl ⟨by rfl, ?_⟩) ?_ ?_
    rotate_left
    · intro w'
      go_simp
      with_reducible rfl
    rotate_left
    · simp only [Act.put, List.setIfInBounds_toArray, List.set_cons_zero, List.set_cons_succ, i64_w, i32_w]
      rfl
    refine pure_ (i := 30) (N := some 213) (v := ?_) (a' := ?_) #[true, true, true, true, true, true, true, true, true, true, true, true, true, true, true, true, true, true, true, true, true, true, true, true, true, true, true, true, true, true, true, false, false, false, false, false, false, false, false, false, false] rfl rfl (by kernel_rfl) (fun _ _ _ h => h) (Or.inl ⟨by rfl, ?_⟩) ?_ ?_
    rotate_left
    · intro w'
      go_simp
      with_reducible rfl
    rotate_left
    · simp only [Act.put, List.setIfInBounds_toArray, List.set_cons_zero, List.set_cons_succ, i64_w, i32_w]
      rfl
    refine pure_ (i := 31) (N := some 214) (v := ?_) (a' := ?_) #[true, true, true, true, true, true, true, true, true, true, true, true, true, true, true, true, true, true, true, true, true, true, true, true, true, true, true, true, true, true, true, true, false, false, false, false, false, false, false, false, false] rfl rfl (by kernel_rfl) (fun _ _ _ h => h) (Or.inl ⟨by rfl, ?_⟩) ?_ ?_
    rotate_left
    · intro w'
      go_simp
      with_reducible rfl
    rotate_left
    · simp only [Act.put, List.setIfInBounds_toArray, List.set_cons_zero, List.set_cons_succ, i64_w, i32_w]
      rfl
    refine pure_ (i := 33) (N := some 216) (v := ?_) (a' := ?_) #[true, true, true, true, true, true, true, true, true, true, true, true, true, true, true, true, true, true, true, true, true, true, true, true, true, true, true, true, true, true, true, true, false, true, false, false, false, false, false, false, false] rfl rfl (by kernel_rfl) (fun _ _ _ h => h) (Or.inl ⟨by rfl, ?_⟩) ?_ ?_
    rotate_left
    · intro w'
      go_simp
      with_reducible rfl
    rotate_left
    · simp only [Act.put, List.setIfInBounds_toArray, List.set_cons_zero, List.set_cons_succ, i64_w, i32_w]
      rfl
    refine pure_ (i := 34) (N := some 217) (v := ?_) (a' := ?_) #[true, true, true, true, true, true, true, true, true, true, true, true, true, true, true, true, true, true, true, true, true, true, true, true, true, true, true, true, true, true, true, true, false, true, true, false, false, false, false, false, false] rfl rfl (by kernel_rfl) (fun _ _ _ h => h) (Or.inl ⟨by rfl, ?_⟩) ?_ ?_
    rotate_left
    · intro w'
      go_simp
      with_reducible rfl
    rotate_left
    · simp only [Act.put, List.setIfInBounds_toArray, List.set_cons_zero, List.set_cons_succ, i64_w, i32_w]
      rfl
    refine pure_ (i := 35) (N := some 218) (v := ?_) (a' := ?_) #[true, true, true, true, true, true, true, true, true, true, true, true, true, true, true, true, true, true, true, true, true, true, true, true, true, true, true, true, true, true, true, true, false, true, true, true, false, false, false, false, false] rfl rfl (by kernel_rfl) (fun _ _ _ h => h) (Or.inl ⟨by rfl, ?_⟩) ?_ ?_
    rotate_left
    · intro w'
      go_simp
      with_reducible rfl
    rotate_left
    · simp only [Act.put, List.setIfInBounds_toArray, List.set_cons_zero, List.set_cons_succ, i64_w, i32_w]
      rfl
    refine pure_ (i := 36) (N := some 219) (v := ?_) (a' := ?_) #[true, true, true, true, true, true, true, true, true, true, true, true, true, true, true, true, true, true, true, true, true, true, true, true, true, true, true, true, true, true, true, true, false, true, true, true, true, false, false, false, false] rfl rfl (by kernel_rfl) (fun _ _ _ h => h) (Or.inl ⟨by rfl, ?_⟩) ?_ ?_
    rotate_left
    · intro w'
      go_simp
      with_reducible rfl
    rotate_left
    · simp only [Act.put, List.setIfInBounds_toArray, List.set_cons_zero, List.set_cons_succ, i64_w, i32_w]
      rfl
    refine take_ (i := 32) (N := some 215) (v := .int .u32 xp) (a' := ?_) #[true, true, true, true, true, true, true, true, true, true, true, true, true, true, true, true, true, true, true, true, true, true, true, true, true, true, true, true, true, true, true, true, true, true, true, true, true, false, false, false, false] rfl rfl (by kernel_rfl) (fun _ _ _ h => h) (Or.inl ⟨by rfl, ?_⟩) hHeld ?_ ?_
    · rintro w' ⟨s0, s1, s2, s3, s4, s5⟩
      go_simp
    rotate_left
    · simp only [Act.put, List.setIfInBounds_toArray, List.set_cons_zero, List.set_cons_succ, i64_w, i32_w]
      rfl
    refine take_ (i := 37) (N := some 220) (v := .int .u32 xp) (a' := ?_) #[true, true, true, true, true, true, true, true, true, true, true, true, true, true, true, true, true, true, true, true, true, true, true, true, true, true, true, true, true, true, true, true, true, true, true, true, true, true, false, false, false] rfl rfl (by kernel_rfl) (fun _ _ _ h => h) (Or.inl ⟨by rfl, ?_⟩) hHeld ?_ ?_
    · rintro w' ⟨s0, s1, s2, s3, s4, s5⟩
      go_simp
    rotate_left
    · simp only [Act.put, List.setIfInBounds_toArray, List.set_cons_zero, List.set_cons_succ, i64_w, i32_w]
      rfl
    refine pure_ (i := 38) (N := some 221) (v := .bool true) (a' := ?_) #[true, true, true, true, true, true, true, true, true, true, true, true, true, true, true, true, true, true, true, true, true, true, true, true, true, true, true, true, true, true, true, true, true, true, true, true, true, true, true, false, false] rfl rfl (by kernel_rfl) (fun _ _ _ h => h) (Or.inl ⟨by rfl, ?_⟩) ?_ ?_
    · intro w'
      go_simp; try simp
    rotate_left
    · simp only [Act.put, List.setIfInBounds_toArray, List.set_cons_zero, List.set_cons_succ, i64_w, i32_w]
      rfl
    refine pure_ (i := 39) (N := some 222) (v := ?_) (a' := ?_) #[true, true, true, true, true, true, true, true, true, true, true, true, true, true, true, true, true, true, true, true, true, true, true, true, true, true, true, true, true, true, true, true, true, true, true, true, true, true, true, true, false] rfl rfl (by kernel_rfl) (fun _ _ _ h => h) (Or.inl ⟨by rfl, ?_⟩) ?_ ?_
    rotate_left
    · intro w'
      go_simp
      with_reducible rfl
    rotate_left
    · simp only [Act.put, List.setIfInBounds_toArray, List.set_cons_zero, List.set_cons_succ, i64_w, i32_w]
      rfl
    refine pure_ (i := 40) (N := some 6) (v := ?_) (a' := ?_) #[true, true, true, true, true, true, true, true, true, true, true, true, true, true, true, true, true, true, true, true, true, true, true, true, true, true, true, true, true, true, true, true, true, true, true, true, true, true, true, true, true] rfl rfl (by kernel_rfl) (fun _ _ _ h => h) (Or.inl ⟨by rfl, ?_⟩) ?_ ?_
    rotate_left
    · intro w'
      go_simp
      with_reducible rfl
    rotate_left
    · simp only [Act.put, List.setIfInBounds_toArray, List.set_cons_zero, List.set_cons_succ, i64_w, i32_w]
      rfl
    refine done_ (by kernel_rfl) ?_
    go_wp2_with fail
    go_ret
    exact ⟨rfl, HK.out⟩
  · have hno : at_ < 0 ∨ (ms.length : Int) ≤ at_ := by omega
    have HNO := Lib.hid hno
    clear hin hno
    go_cut [19, 20] from 147 to 154 (fun ov ev wx => ∃ g19, ov = .pointer (some ⟨g19, 0, none⟩) ∧ ev = .int .i64 2 ∧ Hid (Blk wx g19 38 #[.int .i64 0, .int .i64 0, .string ⟨#[]⟩, .string ⟨#[]⟩]) ∧ Hid (Blk wx w.heap.size 43 #[.string ek, .int .u32 ep, .int .i64 es]) ∧ Hid (Blk wx g8 28 #[.int .u32 3, .int .u64 lsn, .int .i64 4, .string (H1 lv), (.slice Ap ms.length cp)]) ∧ Hid (OwnP wx w.heap.size (.slice Ap ms.length cp) (List.map cslot ms)) ∧ Hid (World.ownsRow wx w.heap.size 66 4 (.slice Am ms.length cm) (List.length ms) (List.map ChN.cells ms).flatten) ∧ Hid (RowsC wx Ak ck ms) ∧ Hid (Below w.heap.size w wx))
    case first =>
      refine start_ (n := 11) (S := fun w' => Blk w' g8 28 #[.int .u32 3, .int .u64 lsn, .int .i64 4, .string (H1 lv), (.slice Ap ms.length cp)] ∧ Blk w' w.heap.size 43 #[.string ek, .int .u32 ep, .int .i64 es]) (ds := []) #[false, false, false, false, false, false, false, false, false, false, false] (by kernel_rfl) rfl rfl ⟨H8.out, H5.out⟩ (fun hHeld => ?_)
      have hb5 := bdrew (Below.refl wc.heap.size wc)
      have n_H5 := Lib.hid (H5.out.step hb5)
      have n_H8 := Lib.hid (H8.out.step hb5)
      have n_HV := Lib.hid (HV.out.below hb5)
      have n_HM := Lib.hid (own_below HM.out hb5)
      have n_HC := Lib.hid (HC.out.below hb5)
      have n_HK := Lib.hid (HK.out.trans (hb5.mono HK.out.size))
      clear hb5 H5 H8 HV HM HC HK
      have H5 := n_H5
      have H8 := n_H8
      have HV := n_HV
      have HM := n_HM
      have HC := n_HC
      have HK := n_HK
      clear n_H5 n_H8 n_HV n_HM n_HC n_HK
      generalize wc.drew = xd at *
      refine pure_ (i := 1) (N := some 149) (v := ?_) (a' := ?_) #[false, true, false, false, false, false, false, false, false, false, false] rfl rfl (by kernel_rfl) (fun _ _ _ h => h) (Or.inl ⟨by rfl, ?_⟩) ?_ ?_
      rotate_left
      · intro w'
        go_simp
        with_reducible rfl
      rotate_left
      · simp only [Act.put, List.setIfInBounds_toArray, List.set_cons_zero, List.set_cons_succ, i64_w, i32_w]
        rfl
      refine take_ (i := 0) (N := some 148) (v := .agg #[.int .u32 3, .int .u64 lsn, .int .i64 4, .string (H1 lv), (.slice Ap ms.length cp)]) (a' := ?_) #[true, true, false, false, false, false, false, false, false, false, false] rfl rfl (by kernel_rfl) (fun _ _ _ h => h) (yields_row 28 (.tmp 8) rfl (by rfl) g8 rfl 28 #[.int .u32 3, .int .u64 lsn, .int .i64 4, .string (H1 lv), (.slice Ap ms.length cp)] (0, 0) _ (fun w_ h => h.1) Try.underlying28 rfl (by kernel_rfl)) hHeld ?_ ?_
      rotate_left
      · simp only [Act.put, List.setIfInBounds_toArray, List.set_cons_zero, List.set_cons_succ, i64_w, i32_w]
        rfl
      refine take_ (i := 2) (N := some 150) (v := .agg #[.string ek, .int .u32 ep, .int .i64 es]) (a' := ?_) #[true, true, true, false, false, false, false, false, false, false, false] rfl rfl (by kernel_rfl) (fun _ _ _ h => h) (yields_row 43 (.tmp 5) rfl (by rfl) w.heap.size rfl 43 #[.string ek, .int .u32 ep, .int .i64 es] (0, 0) _ (fun w_ h => h.2) Try.underlying43 rfl (by kernel_rfl)) hHeld ?_ ?_
      rotate_left
      · simp only [Act.put, List.setIfInBounds_toArray, List.set_cons_zero, List.set_cons_succ, i64_w, i32_w]
        rfl
      refine two_ (i := 3) (j := 8) (Ni := some 151) (Nj := some 19) #[true, true, true, true, false, false, false, false, false, false, false] #[true, true, true, false, false, false, false, false, true, false, false] rfl rfl rfl rfl (by kernel_rfl) (by decide) (by decide) (fun K hK => ?_) (fun K hK => ?_)
      · clear hHeld
        refine goes_ Try.func16 (by kernel_rfl) rfl #[.agg #[.string ek, .int .u32 ep, .int .i64 es]] (by rfl) rfl rfl (by (try simp only [List.map_toArray, List.map_cons, List.map_nil]); first | done | rfl) ?_
        refine (entry_any ek ep es _).mono ?_
        rintro e_ x37 ⟨rfl, hb5⟩
        have n_H5 := Lib.hid (H5.out.step hb5)
        have n_H8 := Lib.hid (H8.out.step hb5)
        have n_HV := Lib.hid (HV.out.below hb5)
        have n_HM := Lib.hid (own_below HM.out hb5)
        have n_HC := Lib.hid (HC.out.below hb5)
        have n_HK := Lib.hid (HK.out.trans (hb5.mono HK.out.size))
        clear hb5 H5 H8 HV HM HC HK
        have H5 := n_H5
        have H8 := n_H8
        have HV := n_HV
        have HM := n_HM
        have HC := n_HC
        have HK := n_HK
        clear n_H5 n_H8 n_HV n_HM n_HC n_HK
        refine ⟨_, rfl, ?_⟩
        refine hK.out _ _ ⟨H8.out, H5.out⟩ (fun hHeld => ?_)
        clear hK K
        refine norm_ (a' := ?_) ?_ ?_
        rotate_left
        · show Act.put _ (some 151) _ = _
          simp only [Act.put, List.setIfInBounds_toArray, List.set_cons_zero, List.set_cons_succ]
          rfl
        refine two_ (i := 4) (j := 8) (Ni := some 152) (Nj := some 19) #[true, true, true, true, true, false, false, false, false, false, false] #[true, true, true, true, false, false, false, false, true, false, false] rfl rfl rfl rfl (by kernel_rfl) (by decide) (by decide) (fun K hK => ?_) (fun K hK => ?_)
        · clear hHeld
          refine goes_ Try.func29 (by kernel_rfl) rfl #[.agg #[.int .u32 3, .int .u64 lsn, .int .i64 4, .string (H1 lv), (.slice Ap ms.length cp)], .int .i64 at_, .agg #[.string (ek12 ek), .int .u32 ep, .int .i64 (es16 es)]] (by rfl) rfl rfl (by (try simp only [List.map_toArray, List.map_cons, List.map_nil]); first | done | rfl) ?_
          refine (setFrom_own_no 3 lsn lv HGd.out (by omega) HV.out at_ HNO.out (ek12 ek) ep (es16 es)).mono ?_
          rintro e_ x38 ⟨rfl, hb5⟩
          have n_H5 := Lib.hid (H5.out.step hb5)
          have n_H8 := Lib.hid (H8.out.step hb5)
          have n_HV := Lib.hid (HV.out.below hb5)
          have n_HM := Lib.hid (own_below HM.out hb5)
          have n_HC := Lib.hid (HC.out.below hb5)
          have n_HK := Lib.hid (HK.out.trans (hb5.mono HK.out.size))
          clear hb5 H5 H8 HV HM HC HK
          have H5 := n_H5
          have H8 := n_H8
          have HV := n_HV
          have HM := n_HM
          have HC := n_HC
          have HK := n_HK
          clear n_H5 n_H8 n_HV n_HM n_HC n_HK
          refine ⟨_, rfl, ?_⟩
          refine hK.out _ _ ⟨H8.out, H5.out⟩ (fun hHeld => ?_)
          clear hK K
          refine norm_ (a' := ?_) ?_ ?_
          rotate_left
          · show Act.put _ (some 152) _ = _
            simp only [Act.put, List.setIfInBounds_toArray, List.set_cons_zero, List.set_cons_succ]
            rfl
          refine pure_ (i := 5) (N := some 147) (v := ?_) (a' := ?_) #[true, true, true, true, true, true, false, false, false, false, false] rfl rfl (by kernel_rfl) (fun _ _ _ h => h) (Or.inl ⟨by rfl, ?_⟩) ?_ ?_
          rotate_left
          · intro w'
            go_simp
            with_reducible rfl
          rotate_left
          · simp only [Act.put, List.setIfInBounds_toArray, List.set_cons_zero, List.set_cons_succ, i64_w, i32_w]
            rfl
          refine pure_ (i := 6) (N := some 153) (v := ?_) (a' := ?_) #[true, true, true, true, true, true, true, false, false, false, false] rfl rfl (by kernel_rfl) (fun _ _ _ h => h) (Or.inl ⟨by rfl, ?_⟩) ?_ ?_
          rotate_left
          · intro w'
            go_simp
            with_reducible rfl
          rotate_left
          · simp only [Act.put, List.setIfInBounds_toArray, List.set_cons_zero, List.set_cons_succ, i64_w, i32_w]
            rfl
          refine pure_ (i := 7) (N := some 154) (v := ?_) (a' := ?_) #[true, true, true, true, true, true, true, true, false, false, false] rfl rfl (by kernel_rfl) (fun _ _ _ h => h) (Or.inl ⟨by rfl, ?_⟩) ?_ ?_
          rotate_left
          · intro w'
            go_simp
            with_reducible rfl
          rotate_left
          · simp only [Act.put, List.setIfInBounds_toArray, List.set_cons_zero, List.set_cons_succ, i64_w, i32_w]
            rfl
          refine one_ (i := 8) (N := some 19) #[true, true, true, true, true, true, true, true, true, false, false] rfl rfl (by kernel_rfl) (by decide) (fun K hK => ?_)
          have nHC_g19 := Lib.hid (rowsC_new HC.out)
          clear hHeld
          refine value_ (w1 := x38.alloc (.cells #[.int .i64 0, .int .i64 0, .string ⟨#[]⟩, .string ⟨#[]⟩] 38)) (v := .pointer (some ⟨x38.heap.size, 0, none⟩)) (by rfl) rfl (by go_simp) ?_
          have hb5 := balloc (Below.refl x38.heap.size x38) (.cells #[.int .i64 0, .int .i64 0, .string ⟨#[]⟩, .string ⟨#[]⟩] 38)
          have hL := Lib.hid (Blk.new x38 38 #[.int .i64 0, .int .i64 0, .string ⟨#[]⟩, .string ⟨#[]⟩])
          have hg19b := Lib.hid HK.out.size
          have nH5_g19 := Lib.hid (Nat.ne_of_lt H5.out.lt)
          have nH8_g19 := Lib.hid (Nat.ne_of_lt H8.out.lt)
          have nHM_g19 := Lib.hid (own_newI HM.out)
          have n_H5 := Lib.hid (H5.out.step hb5)
          have n_H8 := Lib.hid (H8.out.step hb5)
          have n_HV := Lib.hid (HV.out.below hb5)
          have n_HM := Lib.hid (own_below HM.out hb5)
          have n_HC := Lib.hid (HC.out.below hb5)
          have n_HK := Lib.hid (HK.out.trans (hb5.mono HK.out.size))
          clear hb5 H5 H8 HV HM HC HK
          have H5 := n_H5
          have H8 := n_H8
          have HV := n_HV
          have HM := n_HM
          have HC := n_HC
          have HK := n_HK
          clear n_H5 n_H8 n_HV n_HM n_HC n_HK
          generalize x38.alloc (.cells #[.int .i64 0, .int .i64 0, .string ⟨#[]⟩, .string ⟨#[]⟩] 38) = x39 at *
          generalize x38.heap.size = g19 at *
          have H19 := hL
          clear hL
          refine hK.out _ _ ⟨H8.out, H5.out⟩ (fun hHeld => ?_)
          clear hK K
          refine norm_ (a' := ?_) ?_ ?_
          rotate_left
          · show Act.put _ (some 19) _ = _
            simp only [Act.put, List.setIfInBounds_toArray, List.set_cons_zero, List.set_cons_succ]
            rfl
          refine one_ (i := 9) (N := none) #[true, true, true, true, true, true, true, true, true, true, false] rfl rfl (by kernel_rfl) (by decide) (fun K hK => ?_)
          clear hHeld
          refine skip_ (w1 := x39.setRow g19 #[.int .i64 0, .int .i64 0, .string ⟨#[]⟩, .string ⟨#[]⟩]) (by rfl) rfl (run_store_rowI 38 (.tmp 19) (.tmp 153) rfl g19 #[.int .i64 0, .int .i64 0, .string ⟨#[]⟩, .string ⟨#[]⟩] rfl (by rfl) 38 _ H19.out (by kernel_rfl) rfl (by simp [Value.oneCell'])) ?_
          have n_H5 := Lib.hid (blk_setRowI H5.out #[.int .i64 0, .int .i64 0, .string ⟨#[]⟩, .string ⟨#[]⟩] nH5_g19.out)
          have n_H8 := Lib.hid (blk_setRowI H8.out #[.int .i64 0, .int .i64 0, .string ⟨#[]⟩, .string ⟨#[]⟩] nH8_g19.out)
          have n_HV := Lib.hid (OwnP.setRow (cs' := #[.int .i64 0, .int .i64 0, .string ⟨#[]⟩, .string ⟨#[]⟩]) HV.out H19.out (by decide))
          have n_HM := Lib.hid (own_setRowI (cs' := #[.int .i64 0, .int .i64 0, .string ⟨#[]⟩, .string ⟨#[]⟩]) HM.out nHM_g19.out)
          have n_HC := Lib.hid (RowsC.far HC.out (cs' := #[.int .i64 0, .int .i64 0, .string ⟨#[]⟩, .string ⟨#[]⟩]) nHC_g19.out)
          have n_HK := Lib.hid (setRow_below HK.out hg19b.out #[.int .i64 0, .int .i64 0, .string ⟨#[]⟩, .string ⟨#[]⟩])
          have n_H19 := Lib.hid (blk_setRow (cs' := #[.int .i64 0, .int .i64 0, .string ⟨#[]⟩, .string ⟨#[]⟩]) H19.out)
          clear H5 H8 HV HM HC HK H19
          have H5 := n_H5
          have H8 := n_H8
          have HV := n_HV
          have HM := n_HM
          have HC := n_HC
          have HK := n_HK
          have H19 := n_H19
          clear n_H5 n_H8 n_HV n_HM n_HC n_HK n_H19
          generalize x39.setRow g19 #[.int .i64 0, .int .i64 0, .string ⟨#[]⟩, .string ⟨#[]⟩] = x40 at *
          refine hK.out _ _ ⟨H8.out, H5.out⟩ (fun hHeld => ?_)
          clear hK K
          refine pure_ (i := 10) (N := some 20) (v := ?_) (a' := ?_) #[true, true, true, true, true, true, true, true, true, true, true] rfl rfl (by kernel_rfl) (fun _ _ _ h => h) (Or.inl ⟨by rfl, ?_⟩) ?_ ?_
          rotate_left
          · intro w'
            go_simp
            with_reducible rfl
          rotate_left
          · simp only [Act.put, List.setIfInBounds_toArray, List.set_cons_zero, List.set_cons_succ, i64_w, i32_w]
            rfl
          refine done_ (by kernel_rfl) ?_
          go_wp2_with fail
          go_meet
          exact ⟨g19, rfl, rfl, H19, H5, H8, HV, HM, HC, HK⟩
        · have nHC_g19 := Lib.hid (rowsC_new HC.out)
          clear hHeld
          refine value_ (w1 := x37.alloc (.cells #[.int .i64 0, .int .i64 0, .string ⟨#[]⟩, .string ⟨#[]⟩] 38)) (v := .pointer (some ⟨x37.heap.size, 0, none⟩)) (by rfl) rfl (by go_simp) ?_
          have hb5 := balloc (Below.refl x37.heap.size x37) (.cells #[.int .i64 0, .int .i64 0, .string ⟨#[]⟩, .string ⟨#[]⟩] 38)
          have hL := Lib.hid (Blk.new x37 38 #[.int .i64 0, .int .i64 0, .string ⟨#[]⟩, .string ⟨#[]⟩])
          have hg19b := Lib.hid HK.out.size
          have nH5_g19 := Lib.hid (Nat.ne_of_lt H5.out.lt)
          have nH8_g19 := Lib.hid (Nat.ne_of_lt H8.out.lt)
          have nHM_g19 := Lib.hid (own_newI HM.out)
          have n_H5 := Lib.hid (H5.out.step hb5)
          have n_H8 := Lib.hid (H8.out.step hb5)
          have n_HV := Lib.hid (HV.out.below hb5)
          have n_HM := Lib.hid (own_below HM.out hb5)
          have n_HC := Lib.hid (HC.out.below hb5)
          have n_HK := Lib.hid (HK.out.trans (hb5.mono HK.out.size))
          clear hb5 H5 H8 HV HM HC HK
          have H5 := n_H5
          have H8 := n_H8
          have HV := n_HV
          have HM := n_HM
          have HC := n_HC
          have HK := n_HK
          clear n_H5 n_H8 n_HV n_HM n_HC n_HK
          generalize x37.alloc (.cells #[.int .i64 0, .int .i64 0, .string ⟨#[]⟩, .string ⟨#[]⟩] 38) = x41 at *
          generalize x37.heap.size = g19 at *
          have H19 := hL
          clear hL
          refine hK.out _ _ ⟨H8.out, H5.out⟩ (fun hHeld => ?_)
          clear hK K
          refine norm_ (a' := ?_) ?_ ?_
          rotate_left
          · show Act.put _ (some 19) _ = _
            simp only [Act.put, List.setIfInBounds_toArray, List.set_cons_zero, List.set_cons_succ]
            rfl
          refine one_ (i := 4) (N := some 152) #[true, true, true, true, true, false, false, false, true, false, false] rfl rfl (by kernel_rfl) (by decide) (fun K hK => ?_)
          clear hHeld
          refine goes_ Try.func29 (by kernel_rfl) rfl #[.agg #[.int .u32 3, .int .u64 lsn, .int .i64 4, .string (H1 lv), (.slice Ap ms.length cp)], .int .i64 at_, .agg #[.string (ek12 ek), .int .u32 ep, .int .i64 (es16 es)]] (by rfl) rfl rfl (by (try simp only [List.map_toArray, List.map_cons, List.map_nil]); first | done | rfl) ?_
          refine (setFrom_own_no 3 lsn lv HGd.out (by omega) HV.out at_ HNO.out (ek12 ek) ep (es16 es)).mono ?_
          rintro e_ x42 ⟨rfl, hb5⟩
          have n_H5 := Lib.hid (H5.out.step hb5)
          have n_H8 := Lib.hid (H8.out.step hb5)
          have n_HV := Lib.hid (HV.out.below hb5)
          have n_HM := Lib.hid (own_below HM.out hb5)
          have n_HC := Lib.hid (HC.out.below hb5)
          have n_HK := Lib.hid (HK.out.trans (hb5.mono HK.out.size))
          have n_H19 := Lib.hid (H19.out.step hb5)
          clear hb5 H5 H8 HV HM HC HK H19
          have H5 := n_H5
          have H8 := n_H8
          have HV := n_HV
          have HM := n_HM
          have HC := n_HC
          have HK := n_HK
          have H19 := n_H19
          clear n_H5 n_H8 n_HV n_HM n_HC n_HK n_H19
          refine ⟨_, rfl, ?_⟩
          refine hK.out _ _ ⟨H8.out, H5.out⟩ (fun hHeld => ?_)
          clear hK K
          refine norm_ (a' := ?_) ?_ ?_
          rotate_left
          · show Act.put _ (some 152) _ = _
            simp only [Act.put, List.setIfInBounds_toArray, List.set_cons_zero, List.set_cons_succ]
            rfl
          refine pure_ (i := 5) (N := some 147) (v := ?_) (a' := ?_) #[true, true, true, true, true, true, false, false, true, false, false] rfl rfl (by kernel_rfl) (fun _ _ _ h => h) (Or.inl ⟨by rfl, ?_⟩) ?_ ?_
          rotate_left
          · intro w'
            go_simp
            with_reducible rfl
          rotate_left
          · simp only [Act.put, List.setIfInBounds_toArray, List.set_cons_zero, List.set_cons_succ, i64_w, i32_w]
            rfl
          refine pure_ (i := 6) (N := some 153) (v := ?_) (a' := ?_) #[true, true, true, true, true, true, true, false, true, false, false] rfl rfl (by kernel_rfl) (fun _ _ _ h => h) (Or.inl ⟨by rfl, ?_⟩) ?_ ?_
          rotate_left
          · intro w'
            go_simp
            with_reducible rfl
          rotate_left
          · simp only [Act.put, List.setIfInBounds_toArray, List.set_cons_zero, List.set_cons_succ, i64_w, i32_w]
            rfl
          refine pure_ (i := 7) (N := some 154) (v := ?_) (a' := ?_) #[true, true, true, true, true, true, true, true, true, false, false] rfl rfl (by kernel_rfl) (fun _ _ _ h => h) (Or.inl ⟨by rfl, ?_⟩) ?_ ?_
          rotate_left
          · intro w'
            go_simp
            with_reducible rfl
          rotate_left
          · simp only [Act.put, List.setIfInBounds_toArray, List.set_cons_zero, List.set_cons_succ, i64_w, i32_w]
            rfl
          refine one_ (i := 9) (N := none) #[true, true, true, true, true, true, true, true, true, true, false] rfl rfl (by kernel_rfl) (by decide) (fun K hK => ?_)
          clear hHeld
          refine skip_ (w1 := x42.setRow g19 #[.int .i64 0, .int .i64 0, .string ⟨#[]⟩, .string ⟨#[]⟩]) (by rfl) rfl (run_store_rowI 38 (.tmp 19) (.tmp 153) rfl g19 #[.int .i64 0, .int .i64 0, .string ⟨#[]⟩, .string ⟨#[]⟩] rfl (by rfl) 38 _ H19.out (by kernel_rfl) rfl (by simp [Value.oneCell'])) ?_
          have n_H5 := Lib.hid (blk_setRowI H5.out #[.int .i64 0, .int .i64 0, .string ⟨#[]⟩, .string ⟨#[]⟩] nH5_g19.out)
          have n_H8 := Lib.hid (blk_setRowI H8.out #[.int .i64 0, .int .i64 0, .string ⟨#[]⟩, .string ⟨#[]⟩] nH8_g19.out)
          have n_HV := Lib.hid (OwnP.setRow (cs' := #[.int .i64 0, .int .i64 0, .string ⟨#[]⟩, .string ⟨#[]⟩]) HV.out H19.out (by decide))
          have n_HM := Lib.hid (own_setRowI (cs' := #[.int .i64 0, .int .i64 0, .string ⟨#[]⟩, .string ⟨#[]⟩]) HM.out nHM_g19.out)
          have n_HC := Lib.hid (RowsC.far HC.out (cs' := #[.int .i64 0, .int .i64 0, .string ⟨#[]⟩, .string ⟨#[]⟩]) nHC_g19.out)
          have n_HK := Lib.hid (setRow_below HK.out hg19b.out #[.int .i64 0, .int .i64 0, .string ⟨#[]⟩, .string ⟨#[]⟩])
          have n_H19 := Lib.hid (blk_setRow (cs' := #[.int .i64 0, .int .i64 0, .string ⟨#[]⟩, .string ⟨#[]⟩]) H19.out)
          clear H5 H8 HV HM HC HK H19
          have H5 := n_H5
          have H8 := n_H8
          have HV := n_HV
          have HM := n_HM
          have HC := n_HC
          have HK := n_HK
          have H19 := n_H19
          clear n_H5 n_H8 n_HV n_HM n_HC n_HK n_H19
          generalize x42.setRow g19 #[.int .i64 0, .int .i64 0, .string ⟨#[]⟩, .string ⟨#[]⟩] = x43 at *
          refine hK.out _ _ ⟨H8.out, H5.out⟩ (fun hHeld => ?_)
          clear hK K
          refine pure_ (i := 10) (N := some 20) (v := ?_) (a' := ?_) #[true, true, true, true, true, true, true, true, true, true, true] rfl rfl (by kernel_rfl) (fun _ _ _ h => h) (Or.inl ⟨by rfl, ?_⟩) ?_ ?_
          rotate_left
          · intro w'
            go_simp
            with_reducible rfl
          rotate_left
          · simp only [Act.put, List.setIfInBounds_toArray, List.set_cons_zero, List.set_cons_succ, i64_w, i32_w]
            rfl
          refine done_ (by kernel_rfl) ?_
          go_wp2_with fail
          go_meet
          exact ⟨g19, rfl, rfl, H19, H5, H8, HV, HM, HC, HK⟩
      · have nHC_g19 := Lib.hid (rowsC_new HC.out)
        clear hHeld
        refine value_ (w1 := xd.alloc (.cells #[.int .i64 0, .int .i64 0, .string ⟨#[]⟩, .string ⟨#[]⟩] 38)) (v := .pointer (some ⟨xd.heap.size, 0, none⟩)) (by rfl) rfl (by go_simp) ?_
        have hb5 := balloc (Below.refl xd.heap.size xd) (.cells #[.int .i64 0, .int .i64 0, .string ⟨#[]⟩, .string ⟨#[]⟩] 38)
        have hL := Lib.hid (Blk.new xd 38 #[.int .i64 0, .int .i64 0, .string ⟨#[]⟩, .string ⟨#[]⟩])
        have hg19b := Lib.hid HK.out.size
        have nH5_g19 := Lib.hid (Nat.ne_of_lt H5.out.lt)
        have nH8_g19 := Lib.hid (Nat.ne_of_lt H8.out.lt)
        have nHM_g19 := Lib.hid (own_newI HM.out)
        have n_H5 := Lib.hid (H5.out.step hb5)
        have n_H8 := Lib.hid (H8.out.step hb5)
        have n_HV := Lib.hid (HV.out.below hb5)
        have n_HM := Lib.hid (own_below HM.out hb5)
        have n_HC := Lib.hid (HC.out.below hb5)
        have n_HK := Lib.hid (HK.out.trans (hb5.mono HK.out.size))
        clear hb5 H5 H8 HV HM HC HK
        have H5 := n_H5
        have H8 := n_H8
        have HV := n_HV
        have HM := n_HM
        have HC := n_HC
        have HK := n_HK
        clear n_H5 n_H8 n_HV n_HM n_HC n_HK
        generalize xd.alloc (.cells #[.int .i64 0, .int .i64 0, .string ⟨#[]⟩, .string ⟨#[]⟩] 38) = x44 at *
        generalize xd.heap.size = g19 at *
        have H19 := hL
        clear hL
        refine hK.out _ _ ⟨H8.out, H5.out⟩ (fun hHeld => ?_)
        clear hK K
        refine norm_ (a' := ?_) ?_ ?_
        rotate_left
        · show Act.put _ (some 19) _ = _
          simp only [Act.put, List.setIfInBounds_toArray, List.set_cons_zero, List.set_cons_succ]
          rfl
        refine one_ (i := 3) (N := some 151) #[true, true, true, true, false, false, false, false, true, false, false] rfl rfl (by kernel_rfl) (by decide) (fun K hK => ?_)
        clear hHeld
        refine goes_ Try.func16 (by kernel_rfl) rfl #[.agg #[.string ek, .int .u32 ep, .int .i64 es]] (by rfl) rfl rfl (by (try simp only [List.map_toArray, List.map_cons, List.map_nil]); first | done | rfl) ?_
        refine (entry_any ek ep es _).mono ?_
        rintro e_ x45 ⟨rfl, hb5⟩
        have n_H5 := Lib.hid (H5.out.step hb5)
        have n_H8 := Lib.hid (H8.out.step hb5)
        have n_HV := Lib.hid (HV.out.below hb5)
        have n_HM := Lib.hid (own_below HM.out hb5)
        have n_HC := Lib.hid (HC.out.below hb5)
        have n_HK := Lib.hid (HK.out.trans (hb5.mono HK.out.size))
        have n_H19 := Lib.hid (H19.out.step hb5)
        clear hb5 H5 H8 HV HM HC HK H19
        have H5 := n_H5
        have H8 := n_H8
        have HV := n_HV
        have HM := n_HM
        have HC := n_HC
        have HK := n_HK
        have H19 := n_H19
        clear n_H5 n_H8 n_HV n_HM n_HC n_HK n_H19
        refine ⟨_, rfl, ?_⟩
        refine hK.out _ _ ⟨H8.out, H5.out⟩ (fun hHeld => ?_)
        clear hK K
        refine norm_ (a' := ?_) ?_ ?_
        rotate_left
        · show Act.put _ (some 151) _ = _
          simp only [Act.put, List.setIfInBounds_toArray, List.set_cons_zero, List.set_cons_succ]
          rfl
        refine one_ (i := 4) (N := some 152) #[true, true, true, true, true, false, false, false, true, false, false] rfl rfl (by kernel_rfl) (by decide) (fun K hK => ?_)
        clear hHeld
        refine goes_ Try.func29 (by kernel_rfl) rfl #[.agg #[.int .u32 3, .int .u64 lsn, .int .i64 4, .string (H1 lv), (.slice Ap ms.length cp)], .int .i64 at_, .agg #[.string (ek12 ek), .int .u32 ep, .int .i64 (es16 es)]] (by rfl) rfl rfl (by (try simp only [List.map_toArray, List.map_cons, List.map_nil]); first | done | rfl) ?_
        refine (setFrom_own_no 3 lsn lv HGd.out (by omega) HV.out at_ HNO.out (ek12 ek) ep (es16 es)).mono ?_
        rintro e_ x46 ⟨rfl, hb5⟩
        have n_H5 := Lib.hid (H5.out.step hb5)
        have n_H8 := Lib.hid (H8.out.step hb5)
        have n_HV := Lib.hid (HV.out.below hb5)
        have n_HM := Lib.hid (own_below HM.out hb5)
        have n_HC := Lib.hid (HC.out.below hb5)
        have n_HK := Lib.hid (HK.out.trans (hb5.mono HK.out.size))
        have n_H19 := Lib.hid (H19.out.step hb5)
        clear hb5 H5 H8 HV HM HC HK H19
        have H5 := n_H5
        have H8 := n_H8
        have HV := n_HV
        have HM := n_HM
        have HC := n_HC
        have HK := n_HK
        have H19 := n_H19
        clear n_H5 n_H8 n_HV n_HM n_HC n_HK n_H19
        refine ⟨_, rfl, ?_⟩
        refine hK.out _ _ ⟨H8.out, H5.out⟩ (fun hHeld => ?_)
        clear hK K
        refine norm_ (a' := ?_) ?_ ?_
        rotate_left
        · show Act.put _ (some 152) _ = _
          simp only [Act.put, List.setIfInBounds_toArray, List.set_cons_zero, List.set_cons_succ]
          rfl
        refine pure_ (i := 5) (N := some 147) (v := ?_) (a' := ?_) #[true, true, true, true, true, true, false, false, true, false, false] rfl rfl (by kernel_rfl) (fun _ _ _ h => h) (Or.inl ⟨by rfl, ?_⟩) ?_ ?_
        rotate_left
        · intro w'
          go_simp
          with_reducible rfl
        rotate_left
        · simp only [Act.put, List.setIfInBounds_toArray, List.set_cons_zero, List.set_cons_succ, i64_w, i32_w]
          rfl
        refine pure_ (i := 6) (N := some 153) (v := ?_) (a' := ?_) #[true, true, true, true, true, true, true, false, true, false, false] rfl rfl (by kernel_rfl) (fun _ _ _ h => h) (Or.inl ⟨by rfl, ?_⟩) ?_ ?_
        rotate_left
        · intro w'
          go_simp
          with_reducible rfl
        rotate_left
        · simp only [Act.put, List.setIfInBounds_toArray, List.set_cons_zero, List.set_cons_succ, i64_w, i32_w]
          rfl
        refine pure_ (i := 7) (N := some 154) (v := ?_) (a' := ?_) #[true, true, true, true, true, true, true, true, true, false, false] rfl rfl (by kernel_rfl) (fun _ _ _ h => h) (Or.inl ⟨by rfl, ?_⟩) ?_ ?_
        rotate_left
        · intro w'
          go_simp
          with_reducible rfl
        rotate_left
        · simp only [Act.put, List.setIfInBounds_toArray, List.set_cons_zero, List.set_cons_succ, i64_w, i32_w]
          rfl
        refine one_ (i := 9) (N := none) #[true, true, true, true, true, true, true, true, true, true, false] rfl rfl (by kernel_rfl) (by decide) (fun K hK => ?_)
        clear hHeld
        refine skip_ (w1 := x46.setRow g19 #[.int .i64 0, .int .i64 0, .string ⟨#[]⟩, .string ⟨#[]⟩]) (by rfl) rfl (run_store_rowI 38 (.tmp 19) (.tmp 153) rfl g19 #[.int .i64 0, .int .i64 0, .string ⟨#[]⟩, .string ⟨#[]⟩] rfl (by rfl) 38 _ H19.out (by kernel_rfl) rfl (by simp [Value.oneCell'])) ?_
        have n_H5 := Lib.hid (blk_setRowI H5.out #[.int .i64 0, .int .i64 0, .string ⟨#[]⟩, .string ⟨#[]⟩] nH5_g19.out)
        have n_H8 := Lib.hid (blk_setRowI H8.out #[.int .i64 0, .int .i64 0, .string ⟨#[]⟩, .string ⟨#[]⟩] nH8_g19.out)
        have n_HV := Lib.hid (OwnP.setRow (cs' := #[.int .i64 0, .int .i64 0, .string ⟨#[]⟩, .string ⟨#[]⟩]) HV.out H19.out (by decide))
        have n_HM := Lib.hid (own_setRowI (cs' := #[.int .i64 0, .int .i64 0, .string ⟨#[]⟩, .string ⟨#[]⟩]) HM.out nHM_g19.out)
        have n_HC := Lib.hid (RowsC.far HC.out (cs' := #[.int .i64 0, .int .i64 0, .string ⟨#[]⟩, .string ⟨#[]⟩]) nHC_g19.out)
        have n_HK := Lib.hid (setRow_below HK.out hg19b.out #[.int .i64 0, .int .i64 0, .string ⟨#[]⟩, .string ⟨#[]⟩])
        have n_H19 := Lib.hid (blk_setRow (cs' := #[.int .i64 0, .int .i64 0, .string ⟨#[]⟩, .string ⟨#[]⟩]) H19.out)
        clear H5 H8 HV HM HC HK H19
        have H5 := n_H5
        have H8 := n_H8
        have HV := n_HV
        have HM := n_HM
        have HC := n_HC
        have HK := n_HK
        have H19 := n_H19
        clear n_H5 n_H8 n_HV n_HM n_HC n_HK n_H19
        generalize x46.setRow g19 #[.int .i64 0, .int .i64 0, .string ⟨#[]⟩, .string ⟨#[]⟩] = x47 at *
        refine hK.out _ _ ⟨H8.out, H5.out⟩ (fun hHeld => ?_)
        clear hK K
        refine pure_ (i := 10) (N := some 20) (v := ?_) (a' := ?_) #[true, true, true, true, true, true, true, true, true, true, true] rfl rfl (by kernel_rfl) (fun _ _ _ h => h) (Or.inl ⟨by rfl, ?_⟩) ?_ ?_
        rotate_left
        · intro w'
          go_simp
          with_reducible rfl
        rotate_left
        · simp only [Act.put, List.setIfInBounds_toArray, List.set_cons_zero, List.set_cons_succ, i64_w, i32_w]
          rfl
        refine done_ (by kernel_rfl) ?_
        go_wp2_with fail
        go_meet
        exact ⟨g19, rfl, rfl, H19, H5, H8, HV, HM, HC, HK⟩
    case rest =>
    clear H5 H8 HV HM HC HK
    obtain ⟨g19, rfl, rfl, H19, H5, H8, HV, HM, HC, HK⟩ := hcut
    rcases HNO.out with hno | hno
    · have f1_ : decide (at_ < 0) = true := decide_eq_true hno
      clear hno
      go_wp2_with (first | (with_reducible refine isLoadN 43 (.tmp 5) ?_; with_unfolding_all refine wpList_load_row rfl 43 (.tmp 5) rfl w.heap.size (by kernel_rfl) 43 #[.string ek, .int .u32 ep, .int .i64 es] (0, 0) _ H5.out Try.underlying43 rfl (by kernel_rfl) ?_) | (go_at_call 30; refine (down_own HC.out (by omega) ek ep es).mono ?_; rintro e' w9 ⟨rfl, hb5⟩; rw [HDN.out]; have n_H5 := Lib.hid (H5.out.step hb5); have n_H8 := Lib.hid (H8.out.step hb5); have n_HV := Lib.hid (HV.out.below hb5); have n_HM := Lib.hid (own_below HM.out hb5); have n_HC := Lib.hid (HC.out.below hb5); have n_HK := Lib.hid (HK.out.trans (hb5.mono HK.out.size)); clear hb5 H5 H8 HV HM HC HK; have H5 := n_H5; have H8 := n_H8; have HV := n_HV; have HM := n_HM; have HC := n_HC; have HK := n_HK; clear n_H5 n_H8 n_HV n_HM n_HC n_HK) | (with_reducible refine isGuarded ?_; refine guardOn (by with_unfolding_all rfl) ?_; intro _ _) | (with_reducible refine isGuarded ?_; refine guardOff (by with_unfolding_all rfl) rfl ?_))
      go_ret
      exact ⟨rfl, HK.out⟩
    · have f1_ : decide (at_ < 0) = false := decide_eq_false (by omega)
      have f2_ : decide (at_ ≥ (ms.length : Int)) = true := decide_eq_true (by omega)
      have f3_ : decide ((ms.length : Int) ≤ at_) = true := decide_eq_true (by omega)
      clear hno
      go_wp2_with (first | (with_reducible refine isLoadN 43 (.tmp 5) ?_; with_unfolding_all refine wpList_load_row rfl 43 (.tmp 5) rfl w.heap.size (by kernel_rfl) 43 #[.string ek, .int .u32 ep, .int .i64 es] (0, 0) _ H5.out Try.underlying43 rfl (by kernel_rfl) ?_) | (go_at_call 30; refine (down_own HC.out (by omega) ek ep es).mono ?_; rintro e' w9 ⟨rfl, hb5⟩; rw [HDN.out]; have n_H5 := Lib.hid (H5.out.step hb5); have n_H8 := Lib.hid (H8.out.step hb5); have n_HV := Lib.hid (HV.out.below hb5); have n_HM := Lib.hid (own_below HM.out hb5); have n_HC := Lib.hid (HC.out.below hb5); have n_HK := Lib.hid (HK.out.trans (hb5.mono HK.out.size)); clear hb5 H5 H8 HV HM HC HK; have H5 := n_H5; have H8 := n_H8; have HV := n_HV; have HM := n_HM; have HC := n_HC; have HK := n_HK; clear n_H5 n_H8 n_HV n_HM n_HC n_HK) | (with_reducible refine isGuarded ?_; refine guardOn (by with_unfolding_all rfl) ?_; intro _ _) | (with_reducible refine isGuarded ?_; refine guardOff (by with_unfolding_all rfl) rfl ?_))
      go_ret
      exact ⟨rfl, HK.out⟩
end Go.Proofs.Ytfegabikfkmepaa
end
section
namespace Go.Proofs.Ytfegabikfkmepaa.nodeInnerRow
open Go.ChangeShapes Go.WideShapes Go.ChangeAt Go.RowKit Go.Gi Go.GiRow Go.Proofs.YtfegabikfkmepaaW.PrintWords OpenK PNe
set_option maxRecDepth 100000
theorem own : ownKnob Try.prog.godebug = none := by kernel_rfl
theorem laid : laidOutB Try.prog = true := by kernel_rfl
theorem opens_rid : Opens Try.prog 41 k41 (fun x => (Lit.int .u32 x.f0).wf = true ∧ (Lit.int .i64 x.f1).wf = true) :=
  opens_struct Try.underlying41 (opens_cons (opens_int Try.underlying23) rfl (by kernel_rfl) (opens_one (opens_int Try.underlying3) rfl (by kernel_rfl))) (by kernel_rfl) (fun a => ⟨a.1, a.2⟩) (fun _ => rfl)
theorem opens_en : Opens Try.prog 43 k43 (fun x => x.f0.size ≤ 140737488351232 ∧ (Lit.int .u32 x.f1.f0).wf = true ∧ (Lit.int .i64 x.f1.f1).wf = true) :=
  opens_struct Try.underlying43 (opens_cons (opens_string Try.underlying9) rfl (by kernel_rfl) (opens_one opens_rid rfl (by kernel_rfl))) (by kernel_rfl) (fun a => ⟨a.1, a.2⟩) (fun _ => rfl)
theorem opens_ch : Opens Try.prog 66 k66 (fun x => (Lit.int .u32 x.f0).wf = true ∧ x.f1.f0.size ≤ 140737488351232 ∧ (Lit.int .u32 x.f1.f1.f0).wf = true ∧ (Lit.int .i64 x.f1.f1.f1).wf = true) :=
  opens_struct Try.underlying66 (opens_cons (opens_int Try.underlying23) rfl (by kernel_rfl) (opens_one opens_en rfl (by kernel_rfl))) (by kernel_rfl) (fun a => ⟨a.1, a.2⟩) (fun _ => rfl)
theorem opens_chs : Opens Try.prog 63 (Kd.slice 66 k66) (fun l => l.length * 40 ≤ 140737488351232 ∧ ∀ x ∈ l, (Lit.int .u32 x.f0).wf = true ∧ x.f1.f0.size ≤ 140737488351232 ∧ (Lit.int .u32 x.f1.f1.f0).wf = true ∧ (Lit.int .i64 x.f1.f1.f1).wf = true) :=
  opens_slice Try.underlying63 (by kernel_rfl) (by decide) (by kernel_rfl) opens_ch
def toCh (x : S66) : ChN := ⟨x.f0, x.f1.f0, x.f1.f1.f0, x.f1.f1.f1⟩
theorem map_toCh (l : List S66) : (l.map toCh).map ofCh = l := by rw [List.map_map]; exact List.map_id l
set_option maxRecDepth 100000 in
set_option maxHeartbeats 6400000 in
theorem lifted (os : Os) (started : os.Started) (H : Type) (enc : TypeId × Value → H) :
    ReturnsInHanded {} Try.checked os 6 .any (Rows.nodeInnerSpec.pre6 enc Try.prog Try.f6 Rows.nodeInnerRow.domain false) (Rows.nodeInnerSpec.post enc Try.prog Try.f6 false true false false) := by
  refine returnsInHanded_of_change_sized (C := Try.checked) own started (by kernel_rfl) Try.func6
    (ChangeSpec.witness6 (enc := enc) (C := Try.checked) false ⟨#[], #[.int .u8 0, .slice none 0 0, .agg #[.string ByteArray.empty, .int .u32 0, .int .i64 0]], []⟩ 8 (by kernel_rfl) (by kernel_rfl) (by kernel_rfl) (by kernel_rfl)) ?_
  intro W base args ds gs before hval0 hW _ hsz0 _
  have hsz : (DataW.weightsEach Try.prog (Try.f6.params.toList ++ Rows.nodeInnerSpec.plain.varTypes Try.prog) (ds ++ gs)).all (· ≤ reachBytes) = true := hsz0
  have hval : ∀ (j : Nat) t v, Try.f6.params[j]? = some t → args[j]? = some v → Value.okWide Try.prog W .any base t v := hval0
  have hW' := hW
  obtain ⟨p, q, hA0, hV, rfl, _, _⟩ := hW
  have hA : DataW.TrodAll enc Try.prog W 0 (fun _ => true) true Try.f6.params.toList args.toList ds p := hA0
  rw [Try.params6] at hA hval hsz
  obtain ⟨v0, vs0, d0, ds0, p0, q0, hargs, rfl, rfl, h0, r0⟩ := trodAll_cons hA
  obtain ⟨v1, vs1, d1, ds1, p1, q1, rfl, rfl, rfl, h1, r1⟩ := trodAll_cons r0
  obtain ⟨v2, vs2, d2, ds2, p2, q2, rfl, rfl, rfl, h2, r2⟩ := trodAll_cons r1
  obtain ⟨rfl, rfl, rfl⟩ := trodAll_nil r2
  obtain rfl : args = #[v0, v1, v2] := by cases args; simp_all
  obtain ⟨rfl, rfl⟩ := trodVars_none hV
  obtain ⟨a0, rfl, rfl, rfl, w0⟩ := open_int Try.underlying5 (hval 0 5 v0 rfl rfl) h0
  have b0 := bounds_u8 w0
  obtain ⟨lv, rfl⟩ := Int.eq_ofNat_of_zero_le b0.1
  obtain ⟨a, len, cap, hv⟩ := okWide_slice Try.underlying63 (hval 1 63 v1 rfl rfl)
  subst hv
  obtain ⟨fuel, hf⟩ := h1
  obtain ⟨l, ⟨A, c, e, hc, hC⟩, hn, hB⟩ := opens_chs H enc W _ _ fuel _ _ hf (OpenK.light_each hsz 1 _ _ rfl rfl)
  simp only [Value.cells, List.cons.injEq, Value.slice.injEq, and_true] at e
  obtain ⟨rfl, rfl, rfl⟩ := e
  obtain ⟨cs, rfl, hsz2⟩ := okWide_struct Try.underlying43 (hval 2 43 v2 rfl rfl)
  obtain ⟨fuel2, hf2⟩ := h2
  obtain ⟨x, hk, hB2⟩ := opens_en H enc W _ _ fuel2 _ _ hf2 (OpenK.light_each hsz 2 _ _ rfl rfl)
  have hcs := k43_open hk
  obtain ⟨cl⟩ := cs
  simp only [Value.cells] at hcs
  subst hcs
  have b2 := bounds_u32 hB2.2.1
  obtain ⟨l2, hl2⟩ : ∃ l2, l2 = l.map toCh := ⟨_, rfl⟩
  have hlen : l.length = l2.length := by rw [hl2, List.length_map]
  have hR : RowsC W a cap l2 := ⟨by rw [hl2, map_toCh, List.length_map]; exact hC, by rw [← hlen]; exact hc⟩
  have hgo : ∀ x ∈ l2, (0 ≤ x.page ∧ x.page ≤ 4294967295) ∧ 0 ≤ x.rp ∧ x.rp ≤ 4294967295 := fun x hx => by
    rw [hl2] at hx
    obtain ⟨y, hy, rfl⟩ := List.mem_map.1 hx
    have hy := hB y hy
    exact ⟨bounds_u32 hy.1, bounds_u32 hy.2.2.1⟩
  have hm := nodeInner_any lv (by omega) a cap l2 x.f0 x.f1.f0 x.f1.f1 W hR.rd hgo (by omega) b2
  rw [← hlen] at hm
  refine hm.mono fun e W' ⟨he, bel⟩ => ?_
  subst he
  refine ⟨_, rfl, law_post (tb := 4) laid (by kernel_rfl) rfl Try.underlying4 rfl (fun ds hds => ?_) hW' bel⟩
  match ds, hds with
  | [_, _, _], _ => rfl
theorem over : Rows.nodeInnerRow.holds Try.pinned (OpenSpec.ofChange Rows.nodeInnerSpec) :=
  OpenClaim.holds_of_wide 6 Try.f6 rfl rfl rfl rfl rfl rfl rfl ⟨rfl, rfl, rfl, rfl, rfl⟩ rfl rfl rfl rfl rfl (by kernel_rfl) Try.func6 (by kernel_rfl)
    (of_decide_eq_true (by kernel_rfl)) (by unfold Func.isWrapper; first | (rw [if_pos (by decide +kernel)]; kernel_rfl) | (rw [if_neg (by decide +kernel)]; exact ⟨rfl, rfl⟩))
    (fun os started H enc _ => lifted os started H enc)
end Go.Proofs.Ytfegabikfkmepaa.nodeInnerRow
namespace Go.Proofs.Ytfegabikfkmepaa
/-- The row, under a short name, for the claim. -/
theorem nodeInner_holds : Rows.NodeInnerSaid := nodeInnerRow.over
#print axioms nodeInner_holds
end Go.Proofs.Ytfegabikfkmepaa
end
