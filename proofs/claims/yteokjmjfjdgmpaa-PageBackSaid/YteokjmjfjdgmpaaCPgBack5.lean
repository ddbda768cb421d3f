/- Behind a change its inverse makes the page as it was; changes behind one another are taken back from the last to the first: for every page and every list of changes; no condition. -/
import Derived.Test.YteokjmjfjdgmpaaCPgBack4
section
namespace Go.Proofs.Yteokjmjfjdgmpaa
open Go.RowKit Go.Gi Go.GiRow Go.Proofs.YteokjmjfjdgmpaaW.PrintWords Go.Proofs.YteokjmjfjdgmpaaW.PrintLast Go.Proofs.YteokjmjfjdgmpaaW.PrintMore
set_option maxRecDepth 20000
set_option linter.unusedSimpArgs false
set_option linter.unusedVariables false
theorem own_ofB {w : World} {g T size n base : Nat} {cs : Array Value} (h : w.heap[g]? = some (.cells cs T (0, 0))) (hb : base ≤ g) (hs : cs.size = n * size) (hn : n ≤ maxLen) : w.ownsRow base T size (.slice (some ⟨g, 0, none⟩) n n) n cs.toList := by
  refine ⟨by simpa using hs, .inr ⟨g, n, cs, rfl, hb, h, Nat.le_refl _, hn, hs, ?_⟩⟩
  rw [List.take_of_length_le (by simp; omega)]
theorem own_setRowN {w : World} {base g n : Nat} {v : Value} {size : Nat} {e : TypeId} {xs : List Value} {cs' : Array Value} (h : w.ownsRow base e size v n xs) (hne : v.ownBlock ≠ some g) : (w.setRow g cs').ownsRow base e size v n xs :=
  h.kept (row := some g) ⟨rfl, rfl, rfl, by simp, fun k hk hn => setRow_other w g k cs' (fun e => hn (by rw [e]))⟩ (.inr hne)
theorem shP_one {num lsn kind : Int} {head : ByteArray} {v : Value} (h : ∃ A n c, v = .slice A n c) : (shP num lsn kind head v).all (·.oneCell') = true := by
  obtain ⟨A, n, c, rfl⟩ := h
  simp [shP, Value.oneCell']
theorem was_one {num : Int} {x : WasR} (h : ∃ A n c, x.v = .slice A n c) : ∀ u ∈ WasR.cells num x, u.oneCell' = true := by
  obtain ⟨A, n, c, h⟩ := h
  intro u hu
  unfold WasR.cells at hu
  rw [h] at hu
  simp only [List.mem_cons, List.not_mem_nil, or_false] at hu
  rcases hu with rfl | rfl | rfl | rfl | rfl <;> rfl
theorem own_isl {w : World} {base : Nat} {v : Value} {slots : List ByteArray} (h : OwnP w base v slots) : ∃ A n c, v = .slice A n c := by
  obtain ⟨A, c, e⟩ := own_sl h
  exact ⟨A, _, c, e⟩
theorem sl_isl {w0 W : World} {v : Value} {slots : List ByteArray} (h : Sl w0 W v slots) : ∃ A n c, v = .slice A n c := by
  rcases h with ⟨A, c, h, _⟩ | h
  · exact ⟨A, _, c, h⟩
  · exact own_isl h
set_option maxHeartbeats 16000000 in
theorem pageBack_any (p : PgS) (num : Int) (A : Option Addr) (c : Nat) (l : List OpS) (A0 : Option Addr) (c0 : Nat) (w : World) (hC0 : Kd.C Kd.string w A p.slots.length p.slots) (hc : p.slots.length ≤ c) (hA : RdRows OpS.cells 4 w A0 l) (hs : p.slots.length ≤ 8796093021952) (hh : p.head.size ≤ 140737488351232) (hx : ∀ x ∈ p.slots, x.size ≤ 140737488351232) (hl : l.length ≤ 1000000000000000000) :
    Calls Try.prog 7 #[.agg (shP num p.lsn p.kind p.head (.slice A p.slots.length c)), .slice A0 l.length c0] w fun e w' => e = .returned (.bool true) ∧ Below w.heap.size w w' := by
  have hC := Lib.hid hC0
  have HL := Lib.hid hA
  have HX := Lib.hid hx
  clear hC0 hA hx
  obtain ⟨R, hR0⟩ : ∃ R, PPg.roomW (wrap64 (485 - (p.head.size : Int))) p.slots = R := ⟨_, rfl⟩
  have hR := Lib.hid hR0
  clear hR0
  have hcond : (R < 0) ∨ (¬ R < 0 ∧ 64 < p.slots.length) ∨ (¬ R < 0 ∧ p.slots.length ≤ 64 ∧ 32 < p.head.size) ∨ (¬ R < 0 ∧ p.slots.length ≤ 64 ∧ p.head.size ≤ 32 ∧ p.kind < 0) ∨ (¬ R < 0 ∧ p.slots.length ≤ 64 ∧ p.head.size ≤ 32 ∧ 0 ≤ p.kind ∧ 255 < p.kind) ∨ (¬ R < 0 ∧ p.slots.length ≤ 64 ∧ p.head.size ≤ 32 ∧ 0 ≤ p.kind ∧ p.kind ≤ 255) := by omega
  have HB2 := Lib.hid (Blk.new w 28 (shP num p.lsn p.kind p.head (.slice A p.slots.length c)))
  have HK := Lib.hid (balloc (Below.refl w.heap.size w) (.cells (shP num p.lsn p.kind p.head (.slice A p.slots.length c)) 28))
  go_enter Try.func7, Try.ntmps7
  go_upto_region 1 with fail
  generalize (w.alloc (.cells (shP num p.lsn p.kind p.head (.slice A p.slots.length c)) 28)) = w1 at *
  rcases hcond with h1 | ⟨h1, h2⟩ | ⟨h1, h2, h3⟩ | ⟨h1, h2, h3, h4⟩ | ⟨h1, h2, h3, h4, h5⟩ | ⟨h1, h2, h3, h4, h5⟩
  · have e1_ : decide (R < 0) = true := decide_eq_true h1
    go_wp2_with (first | (with_reducible (refine isList ?_; with_unfolding_all refine wpList_load_row rfl 28 (.tmp 2) rfl w.heap.size (by kernel_rfl) 28 (shP num p.lsn p.kind p.head (.slice A p.slots.length c)) (0, 0) _ HB2.out Try.underlying28 rfl (by kernel_rfl) ?_)) | (go_at_call 10; refine (lref_any num p.lsn p.kind p.head A p.slots.length c _).mono ?_; rintro e w2 ⟨rfl, hb5⟩; have n_HB2 := Lib.hid (HB2.out.step hb5); have n_HK := Lib.hid (bstep HK.out hb5); clear hb5 HB2 HK; have HB2 := n_HB2; have HK := n_HK; clear n_HB2 n_HK) | (go_at_call 15; refine (rroom_own num p.lsn p.kind p.head p.slots A c _ (Kd.C_below hC.out HK.out) hc (by omega)).mono ?_; rintro e w3 ⟨rfl, hb5⟩; rw [hR.out]; have n_HB2 := Lib.hid (HB2.out.step hb5); have n_HK := Lib.hid (bstep HK.out hb5); clear hb5 HB2 HK; have HB2 := n_HB2; have HK := n_HK; clear n_HB2 n_HK; obtain ⟨p0_, p1_, p2_, p3_, p4_⟩ := shP_cells HB2.out) | (go_at_call 13; refine (awake_any _).mono ?_; rintro e w9 ⟨rfl, hb5⟩; have n_HB2 := Lib.hid (HB2.out.step hb5); have n_HK := Lib.hid (bstep HK.out hb5); clear hb5 HB2 HK; have HB2 := n_HB2; have HK := n_HK; clear n_HB2 n_HK))
    go_ret
    exact ⟨rfl, HK.out⟩
  · have e1_ : decide (R < 0) = false := decide_eq_false h1
    have f0_ : decide ((p.slots.length : Int) > 64) = true := decide_eq_true (by omega)
    have g0_ : decide (p.slots.length > 64) = true := decide_eq_true (by omega)
    go_wp2_with (first | (with_reducible (refine isList ?_; with_unfolding_all refine wpList_load_row rfl 28 (.tmp 2) rfl w.heap.size (by kernel_rfl) 28 (shP num p.lsn p.kind p.head (.slice A p.slots.length c)) (0, 0) _ HB2.out Try.underlying28 rfl (by kernel_rfl) ?_)) | (go_at_call 10; refine (lref_any num p.lsn p.kind p.head A p.slots.length c _).mono ?_; rintro e w2 ⟨rfl, hb5⟩; have n_HB2 := Lib.hid (HB2.out.step hb5); have n_HK := Lib.hid (bstep HK.out hb5); clear hb5 HB2 HK; have HB2 := n_HB2; have HK := n_HK; clear n_HB2 n_HK) | (go_at_call 15; refine (rroom_own num p.lsn p.kind p.head p.slots A c _ (Kd.C_below hC.out HK.out) hc (by omega)).mono ?_; rintro e w3 ⟨rfl, hb5⟩; rw [hR.out]; have n_HB2 := Lib.hid (HB2.out.step hb5); have n_HK := Lib.hid (bstep HK.out hb5); clear hb5 HB2 HK; have HB2 := n_HB2; have HK := n_HK; clear n_HB2 n_HK; obtain ⟨p0_, p1_, p2_, p3_, p4_⟩ := shP_cells HB2.out) | (go_at_call 13; refine (awake_any _).mono ?_; rintro e w9 ⟨rfl, hb5⟩; have n_HB2 := Lib.hid (HB2.out.step hb5); have n_HK := Lib.hid (bstep HK.out hb5); clear hb5 HB2 HK; have HB2 := n_HB2; have HK := n_HK; clear n_HB2 n_HK))
    go_ret
    exact ⟨rfl, HK.out⟩
  · have e1_ : decide (R < 0) = false := decide_eq_false h1
    have f0_ : decide ((p.slots.length : Int) > 64) = false := decide_eq_false (by omega)
    have g0_ : decide (p.slots.length > 64) = false := decide_eq_false (by omega)
    have f1_ : decide ((p.head.size : Int) > 32) = true := decide_eq_true (by omega)
    have g1_ : decide (p.head.size > 32) = true := decide_eq_true (by omega)
    go_wp2_with (first | (with_reducible (refine isList ?_; with_unfolding_all refine wpList_load_row rfl 28 (.tmp 2) rfl w.heap.size (by kernel_rfl) 28 (shP num p.lsn p.kind p.head (.slice A p.slots.length c)) (0, 0) _ HB2.out Try.underlying28 rfl (by kernel_rfl) ?_)) | (go_at_call 10; refine (lref_any num p.lsn p.kind p.head A p.slots.length c _).mono ?_; rintro e w2 ⟨rfl, hb5⟩; have n_HB2 := Lib.hid (HB2.out.step hb5); have n_HK := Lib.hid (bstep HK.out hb5); clear hb5 HB2 HK; have HB2 := n_HB2; have HK := n_HK; clear n_HB2 n_HK) | (go_at_call 15; refine (rroom_own num p.lsn p.kind p.head p.slots A c _ (Kd.C_below hC.out HK.out) hc (by omega)).mono ?_; rintro e w3 ⟨rfl, hb5⟩; rw [hR.out]; have n_HB2 := Lib.hid (HB2.out.step hb5); have n_HK := Lib.hid (bstep HK.out hb5); clear hb5 HB2 HK; have HB2 := n_HB2; have HK := n_HK; clear n_HB2 n_HK; obtain ⟨p0_, p1_, p2_, p3_, p4_⟩ := shP_cells HB2.out) | (go_at_call 13; refine (awake_any _).mono ?_; rintro e w9 ⟨rfl, hb5⟩; have n_HB2 := Lib.hid (HB2.out.step hb5); have n_HK := Lib.hid (bstep HK.out hb5); clear hb5 HB2 HK; have HB2 := n_HB2; have HK := n_HK; clear n_HB2 n_HK))
    go_ret
    exact ⟨rfl, HK.out⟩
  · have e1_ : decide (R < 0) = false := decide_eq_false h1
    have f0_ : decide ((p.slots.length : Int) > 64) = false := decide_eq_false (by omega)
    have g0_ : decide (p.slots.length > 64) = false := decide_eq_false (by omega)
    have f1_ : decide ((p.head.size : Int) > 32) = false := decide_eq_false (by omega)
    have g1_ : decide (p.head.size > 32) = false := decide_eq_false (by omega)
    have f2_ : decide (p.kind < 0) = true := decide_eq_true (by omega)
    go_wp2_with (first | (with_reducible (refine isList ?_; with_unfolding_all refine wpList_load_row rfl 28 (.tmp 2) rfl w.heap.size (by kernel_rfl) 28 (shP num p.lsn p.kind p.head (.slice A p.slots.length c)) (0, 0) _ HB2.out Try.underlying28 rfl (by kernel_rfl) ?_)) | (go_at_call 10; refine (lref_any num p.lsn p.kind p.head A p.slots.length c _).mono ?_; rintro e w2 ⟨rfl, hb5⟩; have n_HB2 := Lib.hid (HB2.out.step hb5); have n_HK := Lib.hid (bstep HK.out hb5); clear hb5 HB2 HK; have HB2 := n_HB2; have HK := n_HK; clear n_HB2 n_HK) | (go_at_call 15; refine (rroom_own num p.lsn p.kind p.head p.slots A c _ (Kd.C_below hC.out HK.out) hc (by omega)).mono ?_; rintro e w3 ⟨rfl, hb5⟩; rw [hR.out]; have n_HB2 := Lib.hid (HB2.out.step hb5); have n_HK := Lib.hid (bstep HK.out hb5); clear hb5 HB2 HK; have HB2 := n_HB2; have HK := n_HK; clear n_HB2 n_HK; obtain ⟨p0_, p1_, p2_, p3_, p4_⟩ := shP_cells HB2.out) | (go_at_call 13; refine (awake_any _).mono ?_; rintro e w9 ⟨rfl, hb5⟩; have n_HB2 := Lib.hid (HB2.out.step hb5); have n_HK := Lib.hid (bstep HK.out hb5); clear hb5 HB2 HK; have HB2 := n_HB2; have HK := n_HK; clear n_HB2 n_HK))
    go_ret
    exact ⟨rfl, HK.out⟩
  · have e1_ : decide (R < 0) = false := decide_eq_false h1
    have f0_ : decide ((p.slots.length : Int) > 64) = false := decide_eq_false (by omega)
    have g0_ : decide (p.slots.length > 64) = false := decide_eq_false (by omega)
    have f1_ : decide ((p.head.size : Int) > 32) = false := decide_eq_false (by omega)
    have g1_ : decide (p.head.size > 32) = false := decide_eq_false (by omega)
    have f2_ : decide (p.kind < 0) = false := decide_eq_false (by omega)
    have f3_ : decide (p.kind > 255) = true := decide_eq_true (by omega)
    go_wp2_with (first | (with_reducible (refine isList ?_; with_unfolding_all refine wpList_load_row rfl 28 (.tmp 2) rfl w.heap.size (by kernel_rfl) 28 (shP num p.lsn p.kind p.head (.slice A p.slots.length c)) (0, 0) _ HB2.out Try.underlying28 rfl (by kernel_rfl) ?_)) | (go_at_call 10; refine (lref_any num p.lsn p.kind p.head A p.slots.length c _).mono ?_; rintro e w2 ⟨rfl, hb5⟩; have n_HB2 := Lib.hid (HB2.out.step hb5); have n_HK := Lib.hid (bstep HK.out hb5); clear hb5 HB2 HK; have HB2 := n_HB2; have HK := n_HK; clear n_HB2 n_HK) | (go_at_call 15; refine (rroom_own num p.lsn p.kind p.head p.slots A c _ (Kd.C_below hC.out HK.out) hc (by omega)).mono ?_; rintro e w3 ⟨rfl, hb5⟩; rw [hR.out]; have n_HB2 := Lib.hid (HB2.out.step hb5); have n_HK := Lib.hid (bstep HK.out hb5); clear hb5 HB2 HK; have HB2 := n_HB2; have HK := n_HK; clear n_HB2 n_HK; obtain ⟨p0_, p1_, p2_, p3_, p4_⟩ := shP_cells HB2.out) | (go_at_call 13; refine (awake_any _).mono ?_; rintro e w9 ⟨rfl, hb5⟩; have n_HB2 := Lib.hid (HB2.out.step hb5); have n_HK := Lib.hid (bstep HK.out hb5); clear hb5 HB2 HK; have HB2 := n_HB2; have HK := n_HK; clear n_HB2 n_HK))
    go_ret
    exact ⟨rfl, HK.out⟩
  have hsl : slotsN p.slots ≤ 9007199254478976 := by have h_ := slotsN_le64 p.slots p.slots.length h2 HX.out; rw [List.take_length] at h_; exact h_
  have hroom : p.head.size + slotsN p.slots ≤ 485 := by
    have h_ := hR.out
    have e_ : wrap64 (485 - (p.head.size : Int)) = 485 - p.head.size := by unfold wrap64; omega
    rw [e_, PPg.roomW_small _ _ (by omega) (by omega)] at h_
    omega
  have HOK0 := Lib.hid (show PgOk p.kind p.head p.slots from ⟨h4, h5, h3, h2, hroom⟩)
  clear hsl hroom HX
  have e1_ : decide (R < 0) = false := decide_eq_false h1
  have f0_ : decide ((p.slots.length : Int) > 64) = false := decide_eq_false (by omega)
  have g0_ : decide (p.slots.length > 64) = false := decide_eq_false (by omega)
  have f1_ : decide ((p.head.size : Int) > 32) = false := decide_eq_false (by omega)
  have g1_ : decide (p.head.size > 32) = false := decide_eq_false (by omega)
  have f2_ : decide (p.kind < 0) = false := decide_eq_false (by omega)
  have f3_ : decide (p.kind > 255) = false := decide_eq_false (by omega)
  go_upto_region 4 with (first | (with_reducible (refine isList ?_; with_unfolding_all refine wpList_load_row rfl 28 (.tmp 2) rfl w.heap.size (by kernel_rfl) 28 (shP num p.lsn p.kind p.head (.slice A p.slots.length c)) (0, 0) _ HB2.out Try.underlying28 rfl (by kernel_rfl) ?_)) | (go_at_call 10; refine (lref_any num p.lsn p.kind p.head A p.slots.length c _).mono ?_; rintro e w2 ⟨rfl, hb5⟩; have n_HB2 := Lib.hid (HB2.out.step hb5); have n_HK := Lib.hid (bstep HK.out hb5); clear hb5 HB2 HK; have HB2 := n_HB2; have HK := n_HK; clear n_HB2 n_HK) | (go_at_call 15; refine (rroom_own num p.lsn p.kind p.head p.slots A c _ (Kd.C_below hC.out HK.out) hc (by omega)).mono ?_; rintro e w3 ⟨rfl, hb5⟩; rw [hR.out]; have n_HB2 := Lib.hid (HB2.out.step hb5); have n_HK := Lib.hid (bstep HK.out hb5); clear hb5 HB2 HK; have HB2 := n_HB2; have HK := n_HK; clear n_HB2 n_HK; obtain ⟨p0_, p1_, p2_, p3_, p4_⟩ := shP_cells HB2.out) | (with_reducible (refine isList ?_; with_unfolding_all refine wpList_store_row rfl 28 (.tmp 5) (.tmp 42) rfl w3.heap.size (shP num p.lsn p.kind p.head (.slice A p.slots.length c)) (by kernel_rfl) (by kernel_rfl) 28 #[.int .u32 0, .int .u64 0, .int .i64 0, .string ⟨#[]⟩, .slice none 0 0] (Blk.new w3 28 #[.int .u32 0, .int .u64 0, .int .i64 0, .string ⟨#[]⟩, .slice none 0 0]) (by kernel_rfl) rfl (by simp [shP, Value.oneCell']) ?_)))
  clear p0_ p1_ p2_ p3_ p4_
  have hB5 := blk_setRow (cs' := (shP num p.lsn p.kind p.head (.slice A p.slots.length c))) (Blk.new w3 28 #[.int .u32 0, .int .u64 0, .int .i64 0, .string ⟨#[]⟩, .slice none 0 0])
  have hb5 := setRow_below (balloc (Below.refl w3.heap.size w3) (.cells #[.int .u32 0, .int .u64 0, .int .i64 0, .string ⟨#[]⟩, .slice none 0 0] 28)) (Nat.le_refl w3.heap.size) (shP num p.lsn p.kind p.head (.slice A p.slots.length c))
  have hG5 := HK.out.size
  have HN25 := Lib.hid (Nat.ne_of_lt HB2.out.lt)
  have n_HB2 := Lib.hid (HB2.out.step hb5)
  have n_HK := Lib.hid (bstep HK.out hb5)
  clear hb5 HB2 HK
  have HB2 := n_HB2
  have HK := n_HK
  clear n_HB2 n_HK
  generalize ((w3.alloc (.cells #[.int .u32 0, .int .u64 0, .int .i64 0, .string ⟨#[]⟩, .slice none 0 0] 28)).setRow w3.heap.size (shP num p.lsn p.kind p.head (.slice A p.slots.length c))) = w4 at *
  generalize w3.heap.size = g5 at *
  have HB5 := Lib.hid hB5
  clear hB5
  go_upto_block 0 with fail
  have hL6 := (Blk.new w4 54 #[]).alloc (.cells #[] 28)
  have hL7 := Blk.new (w4.alloc (.cells #[] 54)) 28 #[]
  have hb5 := balloc (balloc (Below.refl w4.heap.size w4) (.cells #[] 54)) (.cells #[] 28)
  have hsz : (w4.alloc (.cells #[] 54)).heap.size = w4.heap.size + 1 := by simp
  rw [hsz] at hL7
  have hGL := HK.out.size
  have hl2 := HB2.out.lt
  have hl5 := HB5.out.lt
  have HW2 := Lib.hid (show (Value.slice (some ⟨w4.heap.size + 1, 0, none⟩) 0 0).ownBlock ≠ some w.heap.size from fun e_ => by have h_ : w4.heap.size + 1 = w.heap.size := (by simpa [Value.ownBlock] using e_); omega)
  have HW5 := Lib.hid (show (Value.slice (some ⟨w4.heap.size + 1, 0, none⟩) 0 0).ownBlock ≠ some g5 from fun e_ => by have h_ : w4.heap.size + 1 = g5 := (by simpa [Value.ownBlock] using e_); omega)
  have n_HB2 := Lib.hid (HB2.out.step hb5)
  have n_HB5 := Lib.hid (HB5.out.step hb5)
  have n_HK := Lib.hid (bstep HK.out hb5)
  clear hb5 HB2 HB5 HK
  have HB2 := n_HB2
  have HB5 := n_HB5
  have HK := n_HK
  clear n_HB2 n_HB5 n_HK
  have HD0 := Lib.hid (own_ofB (base := w.heap.size) (size := 4) (n := 0) hL6 hGL rfl (by decide))
  have HW0 := Lib.hid (own_ofB (base := w.heap.size) (size := 5) (n := 0) hL7 (by omega) rfl (by decide))
  clear hL6 hL7 hsz hl2 hl5
  generalize ((w4.alloc (.cells #[] 54)).alloc (.cells #[] 28)) = w5 at *
  generalize w4.heap.size = gl at *
  have HV0 := Lib.hid (show Sl w w5 (.slice A p.slots.length c) p.slots from .inl ⟨A, c, rfl, hc, hC.out⟩)

  go_cut [6, 7, 8, 9, 10, 11] from 45 to 97 (fun vd vw _ _ _ _ wx => ∃ (was : List WasR) (dn : List OpS) (q : PgS) (Vq : Value), dn.length ≤ 40 ∧ Hid (Trail num p (was.map WasR.pg) dn q) ∧ Hid (PgOk q.kind q.head q.slots) ∧ Hid (vw.ownBlock ≠ some g5) ∧ Hid (wx.ownsRow w.heap.size 54 4 vd dn.length (dn.map OpS.cells).flatten) ∧ Hid (wx.ownsRow w.heap.size 28 5 vw was.length (was.map (WasR.cells num)).flatten) ∧ Hid (Sls w wx was) ∧ Hid (Blk wx w.heap.size 28 (shP num p.lsn p.kind p.head (.slice A p.slots.length c))) ∧ Hid (Blk wx g5 28 (shP num q.lsn q.kind q.head Vq)) ∧ Hid (Sl w wx Vq q.slots) ∧ Hid (Below w.heap.size w wx))
  case first =>
    go_wp2_with fail
    go_loopw [6, 7, 8] (fun vd vw iv wr => ∃ (k : Nat) (was : List WasR) (dn : List OpS) (q : PgS) (Vq : Value), iv = .int .i64 k ∧ k ≤ l.length ∧ k ≤ 40 ∧ dn.length ≤ k ∧ Hid (Trail num p (was.map WasR.pg) dn q) ∧ Hid (PgOk q.kind q.head q.slots) ∧ Hid (vw.ownBlock ≠ some w.heap.size) ∧ Hid (vw.ownBlock ≠ some g5) ∧ Hid (wr.ownsRow w.heap.size 54 4 vd dn.length (dn.map OpS.cells).flatten) ∧ Hid (wr.ownsRow w.heap.size 28 5 vw was.length (was.map (WasR.cells num)).flatten) ∧ Hid (Sls w wr was) ∧ Hid (Blk wr w.heap.size 28 (shP num p.lsn p.kind p.head (.slice A p.slots.length c))) ∧ Hid (Blk wr g5 28 (shP num q.lsn q.kind q.head Vq)) ∧ Hid (Sl w wr Vq q.slots) ∧ Hid (Below w.heap.size w wr))
      (fun _ _ iv _ => l.length - (intOf iv).toNat)
    case atStart => exact ⟨0, [], [], p, .slice A p.slots.length c, rfl, Nat.zero_le _, by omega, Nat.zero_le _, Lib.hid (.nil _ ⟨rfl, rfl, rfl⟩), HOK0, HW2, HW5, HD0, HW0, Lib.hid (fun x hx => absurd hx (by simp)), HB2, HB5, HV0, HK⟩
    case round =>
      clear HB2 HB5 HK HD0 HW0 HV0 HW2 HW5
      obtain ⟨k, was, dn, q, Vq, rfl, hk, hk40, hdl, HT, HOK, HW2, HW5, HD, HW, HWS, HB2, HB5, HV, HK⟩ := hrel
      have hwl : was.length = dn.length := by have h_ := HT.out.len; rw [List.length_map] at h_; exact h_
      have hx : (¬ k < l.length ∧ decide ((k : Int) < (l.length : Int)) = false) ∨ (k < l.length ∧ decide ((k : Int) < (l.length : Int)) = true ∧ ¬ (k : Int) < 40 ∧ decide ((k : Int) < 40) = false) ∨ (k < l.length ∧ decide ((k : Int) < (l.length : Int)) = true ∧ (k : Int) < 40 ∧ decide ((k : Int) < 40) = true) := by
        by_cases h1 : k < l.length
        · by_cases h2 : k < 40
          · exact .inr (.inr ⟨h1, decide_eq_true (by omega), by omega, decide_eq_true (by omega)⟩)
          · exact .inr (.inl ⟨h1, decide_eq_true (by omega), by omega, decide_eq_false (by omega)⟩)
        · exact .inl ⟨h1, decide_eq_false (by omega)⟩
      rcases hx with ⟨h1, d1⟩ | ⟨h1, d1, h2, d2⟩ | ⟨h1, d1, h2, d2⟩
      · go_wp2_with fail
        go_meet
        exact ⟨was, dn, q, Vq, by omega, HT, HOK, HW5, HD, HW, HWS, HB2, HB5, HV, HK⟩
      · go_wp2_with fail
        go_meet
        exact ⟨was, dn, q, Vq, by omega, HT, HOK, HW5, HD, HW, HWS, HB2, HB5, HV, HK⟩
      obtain ⟨bA, offA, rfl, hbA, y0', y1', y2', y3'⟩ := opL HL.out k h1
      generalize l[k] = x at *
      obtain ⟨xk, xa, xs, xo⟩ := x
      simp only at y0' y1' y2' y3'
      have HY0 := Lib.hid y0'
      have HY1 := Lib.hid y1'
      have HY2 := Lib.hid y2'
      have HY3 := Lib.hid y3'
      clear y0' y1' y2' y3'
      obtain ⟨ik, ia, is_, io, hinv⟩ : ∃ ik ia is_ io, invO xk xa xs xo = (ik, ia, is_, io) := ⟨_, _, _, _, rfl⟩
      have HI := Lib.hid hinv
      clear hinv
      have i0_ : (0 : Int) ≤ k := by omega
      have i1_ : (k : Int) < l.length := by omega
      have y0 := (HK.out.cell (p := ⟨bA, offA + k * 4, none⟩) hbA).trans HY0.out
      have y1 := (HK.out.cell (p := ⟨bA, offA + k * 4 + 1, none⟩) hbA).trans HY1.out
      have y2 := (HK.out.cell (p := ⟨bA, offA + k * 4 + 2, none⟩) hbA).trans HY2.out
      have y3 := (HK.out.cell (p := ⟨bA, offA + k * 4 + 3, none⟩) hbA).trans HY3.out
      go_upto_region 10 with (first | (go_at_call 24; refine (inv_any HI.out _).mono ?_; rintro e wi ⟨rfl, hb5⟩; have n_HD := Lib.hid (own_below HD.out hb5); have n_HW := Lib.hid (own_below HW.out hb5); have n_HWS := Lib.hid (Sls.below HWS.out hb5); have n_HB2 := Lib.hid (HB2.out.step hb5); have n_HB5 := Lib.hid (HB5.out.step hb5); have n_HV := Lib.hid (HV.out.below hb5); have n_HK := Lib.hid (bstep HK.out hb5); clear hb5 HD HW HWS HB2 HB5 HV HK; have HD := n_HD; have HW := n_HW; have HWS := n_HWS; have HB2 := n_HB2; have HB5 := n_HB5; have HV := n_HV; have HK := n_HK; clear n_HD n_HW n_HWS n_HB2 n_HB5 n_HV n_HK) | (with_reducible (refine isList ?_; with_unfolding_all refine wpList_store_row rfl 54 (.tmp 9) (.tmp 59) rfl wi.heap.size #[.int .i64 ik, .int .i64 ia, .string is_, .string io] (by kernel_rfl) (by kernel_rfl) 54 #[.int .i64 0, .int .i64 0, .string ⟨#[]⟩, .string ⟨#[]⟩] (Blk.new wi 54 #[.int .i64 0, .int .i64 0, .string ⟨#[]⟩, .string ⟨#[]⟩]) (by kernel_rfl) rfl (by simp [shP, Value.oneCell']) ?_)))
      clear y0 y1 y2 y3
      have h9 := blk_setRow (cs' := #[.int .i64 ik, .int .i64 ia, .string is_, .string io]) (Blk.new wi 54 #[.int .i64 0, .int .i64 0, .string ⟨#[]⟩, .string ⟨#[]⟩])
      have hb5 := setRow_below (balloc (Below.refl wi.heap.size wi) (.cells #[.int .i64 0, .int .i64 0, .string ⟨#[]⟩, .string ⟨#[]⟩] 54)) (Nat.le_refl wi.heap.size) #[.int .i64 ik, .int .i64 ia, .string is_, .string io]
      have HD9 := Lib.hid (own_ne_new HD.out)
      have n_HD := Lib.hid (own_below HD.out hb5)
      have n_HW := Lib.hid (own_below HW.out hb5)
      have n_HWS := Lib.hid (Sls.below HWS.out hb5)
      have n_HB2 := Lib.hid (HB2.out.step hb5)
      have n_HB5 := Lib.hid (HB5.out.step hb5)
      have n_HV := Lib.hid (HV.out.below hb5)
      have n_HK := Lib.hid (bstep HK.out hb5)
      clear hb5 HD HW HWS HB2 HB5 HV HK
      have HD := n_HD
      have HW := n_HW
      have HWS := n_HWS
      have HB2 := n_HB2
      have HB5 := n_HB5
      have HV := n_HV
      have HK := n_HK
      clear n_HD n_HW n_HWS n_HB2 n_HB5 n_HV n_HK
      generalize ((wi.alloc (.cells #[.int .i64 0, .int .i64 0, .string ⟨#[]⟩, .string ⟨#[]⟩] 54)).setRow wi.heap.size #[.int .i64 ik, .int .i64 ia, .string is_, .string io]) = wd at *
      generalize wi.heap.size = g9 at *
      have H9 := Lib.hid h9
      clear h9
      try simp only [Act.put]
      go_cut [68] from 60 to 67 (fun v68 wx => v68 = .bool false ∧ Hid (Blk wx g9 54 #[.int .i64 ik, .int .i64 ia, .string is_, .string io]) ∧ Hid (wx.ownsRow w.heap.size 54 4 u6 dn.length (dn.map OpS.cells).flatten) ∧ Hid (wx.ownsRow w.heap.size 28 5 u7 was.length (was.map (WasR.cells num)).flatten) ∧ Hid (Sls w wx was) ∧ Hid (Blk wx w.heap.size 28 (shP num p.lsn p.kind p.head (.slice A p.slots.length c))) ∧ Hid (Blk wx g5 28 (shP num q.lsn q.kind q.head Vq)) ∧ Hid (Sl w wx Vq q.slots) ∧ Hid (Below w.heap.size w wx))
      case first =>
        have y0 := (HK.out.cell (p := ⟨bA, offA + k * 4, none⟩) hbA).trans HY0.out
        have y1 := (HK.out.cell (p := ⟨bA, offA + k * 4 + 1, none⟩) hbA).trans HY1.out
        have y2 := (HK.out.cell (p := ⟨bA, offA + k * 4 + 2, none⟩) hbA).trans HY2.out
        have y3 := (HK.out.cell (p := ⟨bA, offA + k * 4 + 3, none⟩) hbA).trans HY3.out
        refine start_ (n := 9) (S := fun w' => Blk w' g9 54 #[.int .i64 ik, .int .i64 ia, .string is_, .string io] ∧ w'.cell? ⟨bA, offA + k * 4, none⟩ = some (.int .i64 xk) ∧ w'.cell? ⟨bA, offA + k * 4 + 1, none⟩ = some (.int .i64 xa) ∧ w'.cell? ⟨bA, offA + k * 4 + 2, none⟩ = some (.string xs) ∧ w'.cell? ⟨bA, offA + k * 4 + 3, none⟩ = some (.string xo)) (ds := []) #[false, false, false, false, false, false, false, false, false] (by kernel_rfl) rfl rfl ⟨H9.out, y0, y1, y2, y3⟩ (fun hHeld => ?_)
        refine pure_ (i := 2) (N := some 62) (v := ?_) (a' := ?_) #[false, false, true, false, false, false, false, false, false] rfl rfl (by kernel_rfl) (fun _ _ _ h => h) (Or.inl ⟨by rfl, ?_⟩) ?_ ?_
        rotate_left
        · intro w'
          go_simp
          with_reducible rfl
        rotate_left
        · simp only [Act.put, List.setIfInBounds_toArray, List.set_cons_zero, List.set_cons_succ, i64_w, i32_w]
          rfl
        refine pure_ (i := 3) (N := some 63) (v := ?_) (a' := ?_) #[false, false, true, true, false, false, false, false, false] rfl rfl (by kernel_rfl) (fun _ _ _ h => h) (Or.inl ⟨by rfl, ?_⟩) ?_ ?_
        rotate_left
        · intro w'
          go_simp
          with_reducible rfl
        rotate_left
        · simp only [Act.put, List.setIfInBounds_toArray, List.set_cons_zero, List.set_cons_succ, i64_w, i32_w]
          rfl
        refine pure_ (i := 4) (N := some 64) (v := ?_) (a' := ?_) #[false, false, true, true, true, false, false, false, false] rfl rfl (by kernel_rfl) (fun _ _ _ h => h) (Or.inl ⟨by rfl, ?_⟩) ?_ ?_
        rotate_left
        · intro w'
          go_simp
          with_reducible rfl
        rotate_left
        · simp only [Act.put, List.setIfInBounds_toArray, List.set_cons_zero, List.set_cons_succ, i64_w, i32_w]
          rfl
        refine take_ (i := 0) (N := some 60) (v := .agg #[.int .i64 ik, .int .i64 ia, .string is_, .string io]) (a' := ?_) #[true, false, true, true, true, false, false, false, false] rfl rfl (by kernel_rfl) (fun _ _ _ h => h) (yields_row 54 (.tmp 9) rfl (by rfl) g9 rfl 54 #[.int .i64 ik, .int .i64 ia, .string is_, .string io] (0, 0) _ (fun w_ h => h.1) Try.underlying54 rfl (by kernel_rfl)) hHeld ?_ ?_
        rotate_left
        · simp only [Act.put, List.setIfInBounds_toArray, List.set_cons_zero, List.set_cons_succ]
          rfl
        refine take_ (i := 5) (N := some 65) (v := .agg #[.int .i64 xk, .int .i64 xa, .string xs, .string xo]) (a' := ?_) #[true, false, true, true, true, true, false, false, false] rfl rfl (by kernel_rfl) (fun _ _ _ h => h) (Or.inl ⟨by rfl, ?_⟩) hHeld ?_ ?_
        · rintro w' ⟨s0, s1, s2, s3, s4⟩
          go_simp
        rotate_left
        · simp only [Act.put, List.setIfInBounds_toArray, List.set_cons_zero, List.set_cons_succ]
          rfl
        clear hHeld y0 y1 y2 y3
        have hb5 := bdrew (Below.refl wd.heap.size wd)
        have n_HD := Lib.hid (own_below HD.out hb5)
        have n_HW := Lib.hid (own_below HW.out hb5)
        have n_HWS := Lib.hid (Sls.below HWS.out hb5)
        have n_HB2 := Lib.hid (HB2.out.step hb5)
        have n_HB5 := Lib.hid (HB5.out.step hb5)
        have n_HV := Lib.hid (HV.out.below hb5)
        have n_HK := Lib.hid (bstep HK.out hb5)
        have n_H9 := Lib.hid (H9.out.step hb5)
        clear hb5 HD HW HWS HB2 HB5 HV HK H9
        have HD := n_HD
        have HW := n_HW
        have HWS := n_HWS
        have HB2 := n_HB2
        have HB5 := n_HB5
        have HV := n_HV
        have HK := n_HK
        have H9 := n_H9
        clear n_HD n_HW n_HWS n_HB2 n_HB5 n_HV n_HK n_H9
        generalize wd.drew = u323 at *
        refine one_ (i := 1) (N := some 61) #[true, true, true, true, true, true, false, false, false] rfl rfl (by kernel_rfl) (by decide) (fun K hK => ?_)
        refine goes_ Try.func25 (by kernel_rfl) rfl #[.agg #[.int .i64 ik, .int .i64 ia, .string is_, .string io]] (by rfl) rfl rfl (by (try simp only [List.map_toArray, List.map_cons, List.map_nil]); first | done | rfl) ?_
        refine (op_any ik ia is_ io _).mono ?_
        rintro e_ u324 ⟨rfl, hb5⟩
        have n_HD := Lib.hid (own_below HD.out hb5)
        have n_HW := Lib.hid (own_below HW.out hb5)
        have n_HWS := Lib.hid (Sls.below HWS.out hb5)
        have n_HB2 := Lib.hid (HB2.out.step hb5)
        have n_HB5 := Lib.hid (HB5.out.step hb5)
        have n_HV := Lib.hid (HV.out.below hb5)
        have n_HK := Lib.hid (bstep HK.out hb5)
        have n_H9 := Lib.hid (H9.out.step hb5)
        clear hb5 HD HW HWS HB2 HB5 HV HK H9
        have HD := n_HD
        have HW := n_HW
        have HWS := n_HWS
        have HB2 := n_HB2
        have HB5 := n_HB5
        have HV := n_HV
        have HK := n_HK
        have H9 := n_H9
        clear n_HD n_HW n_HWS n_HB2 n_HB5 n_HV n_HK n_H9
        refine ⟨_, rfl, ?_⟩
        have y0 := (HK.out.cell (p := ⟨bA, offA + k * 4, none⟩) hbA).trans HY0.out
        have y1 := (HK.out.cell (p := ⟨bA, offA + k * 4 + 1, none⟩) hbA).trans HY1.out
        have y2 := (HK.out.cell (p := ⟨bA, offA + k * 4 + 2, none⟩) hbA).trans HY2.out
        have y3 := (HK.out.cell (p := ⟨bA, offA + k * 4 + 3, none⟩) hbA).trans HY3.out
        refine hK.out _ _ ⟨H9.out, y0, y1, y2, y3⟩ (fun hHeld => ?_)
        clear hK K hHeld y0 y1 y2 y3
        refine norm_ (a' := ?_) ?_ ?_
        rotate_left
        · show Act.put _ (some 61) _ = _
          simp only [Act.put, List.setIfInBounds_toArray, List.set_cons_zero, List.set_cons_succ]
          rfl
        refine one_ (i := 6) (N := some 66) #[true, true, true, true, true, true, true, false, false] rfl rfl (by kernel_rfl) (by decide) (fun K hK => ?_)
        refine goes_ Try.func25 (by kernel_rfl) rfl #[.agg #[.int .i64 xk, .int .i64 xa, .string xs, .string xo]] (by rfl) rfl rfl (by (try simp only [List.map_toArray, List.map_cons, List.map_nil]); first | done | rfl) ?_
        refine (op_any xk xa xs xo _).mono ?_
        rintro e_ u325 ⟨rfl, hb5⟩
        have n_HD := Lib.hid (own_below HD.out hb5)
        have n_HW := Lib.hid (own_below HW.out hb5)
        have n_HWS := Lib.hid (Sls.below HWS.out hb5)
        have n_HB2 := Lib.hid (HB2.out.step hb5)
        have n_HB5 := Lib.hid (HB5.out.step hb5)
        have n_HV := Lib.hid (HV.out.below hb5)
        have n_HK := Lib.hid (bstep HK.out hb5)
        have n_H9 := Lib.hid (H9.out.step hb5)
        clear hb5 HD HW HWS HB2 HB5 HV HK H9
        have HD := n_HD
        have HW := n_HW
        have HWS := n_HWS
        have HB2 := n_HB2
        have HB5 := n_HB5
        have HV := n_HV
        have HK := n_HK
        have H9 := n_H9
        clear n_HD n_HW n_HWS n_HB2 n_HB5 n_HV n_HK n_H9
        refine ⟨_, rfl, ?_⟩
        have y0 := (HK.out.cell (p := ⟨bA, offA + k * 4, none⟩) hbA).trans HY0.out
        have y1 := (HK.out.cell (p := ⟨bA, offA + k * 4 + 1, none⟩) hbA).trans HY1.out
        have y2 := (HK.out.cell (p := ⟨bA, offA + k * 4 + 2, none⟩) hbA).trans HY2.out
        have y3 := (HK.out.cell (p := ⟨bA, offA + k * 4 + 3, none⟩) hbA).trans HY3.out
        refine hK.out _ _ ⟨H9.out, y0, y1, y2, y3⟩ (fun hHeld => ?_)
        clear hK K hHeld y0 y1 y2 y3
        refine norm_ (a' := ?_) ?_ ?_
        rotate_left
        · show Act.put _ (some 66) _ = _
          simp only [Act.put, List.setIfInBounds_toArray, List.set_cons_zero, List.set_cons_succ]
          rfl
        refine one_ (i := 7) (N := some 67) #[true, true, true, true, true, true, true, true, false] rfl rfl (by kernel_rfl) (by decide) (fun K hK => ?_)
        refine goes_ Try.func26 (by kernel_rfl) rfl #[.agg #[.int .i64 xk, .int .i64 xa, .string xs, .string xo]] (by rfl) rfl rfl (by (try simp only [List.map_toArray, List.map_cons, List.map_nil]); first | done | rfl) ?_
        refine (rinv_any HI.out _).mono ?_
        rintro e_ u326 ⟨rfl, hb5⟩
        have n_HD := Lib.hid (own_below HD.out hb5)
        have n_HW := Lib.hid (own_below HW.out hb5)
        have n_HWS := Lib.hid (Sls.below HWS.out hb5)
        have n_HB2 := Lib.hid (HB2.out.step hb5)
        have n_HB5 := Lib.hid (HB5.out.step hb5)
        have n_HV := Lib.hid (HV.out.below hb5)
        have n_HK := Lib.hid (bstep HK.out hb5)
        have n_H9 := Lib.hid (H9.out.step hb5)
        clear hb5 HD HW HWS HB2 HB5 HV HK H9
        have HD := n_HD
        have HW := n_HW
        have HWS := n_HWS
        have HB2 := n_HB2
        have HB5 := n_HB5
        have HV := n_HV
        have HK := n_HK
        have H9 := n_H9
        clear n_HD n_HW n_HWS n_HB2 n_HB5 n_HV n_HK n_H9
        refine ⟨_, rfl, ?_⟩
        have y0 := (HK.out.cell (p := ⟨bA, offA + k * 4, none⟩) hbA).trans HY0.out
        have y1 := (HK.out.cell (p := ⟨bA, offA + k * 4 + 1, none⟩) hbA).trans HY1.out
        have y2 := (HK.out.cell (p := ⟨bA, offA + k * 4 + 2, none⟩) hbA).trans HY2.out
        have y3 := (HK.out.cell (p := ⟨bA, offA + k * 4 + 3, none⟩) hbA).trans HY3.out
        refine hK.out _ _ ⟨H9.out, y0, y1, y2, y3⟩ (fun hHeld => ?_)
        clear hK K hHeld y0 y1 y2 y3
        refine norm_ (a' := ?_) ?_ ?_
        rotate_left
        · show Act.put _ (some 67) _ = _
          simp only [Act.put, List.setIfInBounds_toArray, List.set_cons_zero, List.set_cons_succ]
          rfl
        refine pure_ (i := 8) (N := some 68) (v := .bool false) (a' := ?_) #[true, true, true, true, true, true, true, true, true] rfl rfl (by kernel_rfl) (fun _ _ _ h => h) (Or.inl ⟨by rfl, ?_⟩) ?_ ?_
        · intro w'
          go_simp
        rotate_left
        · simp only [Act.put, List.setIfInBounds_toArray, List.set_cons_zero, List.set_cons_succ, i64_w, i32_w]
          rfl
        refine done_ (by kernel_rfl) ?_
        go_wp2_with fail
        go_meet
        exact ⟨rfl, H9, HD, HW, HWS, HB2, HB5, HV, HK⟩
      case rest =>
      obtain ⟨rfl, k0, k1, k2, k3, k4, k5, k6, k7⟩ := hcut
      clear H9 HD HW HWS HB2 HB5 HV HK
      have H9 := k0
      have HD := k1
      have HW := k2
      have HWS := k3
      have HB2 := k4
      have HB5 := k5
      have HV := k6
      have HK := k7
      clear k0 k1 k2 k3 k4 k5 k6 k7
      have y0 := (HK.out.cell (p := ⟨bA, offA + k * 4, none⟩) hbA).trans HY0.out
      have y1 := (HK.out.cell (p := ⟨bA, offA + k * 4 + 1, none⟩) hbA).trans HY1.out
      have y2 := (HK.out.cell (p := ⟨bA, offA + k * 4 + 2, none⟩) hbA).trans HY2.out
      have y3 := (HK.out.cell (p := ⟨bA, offA + k * 4 + 3, none⟩) hbA).trans HY3.out
      by_cases hk1 : xk = 1
      · have e1_ : (xk == 1) = true := by simp [hk1]
        go_wp2_with fail
        clear y0 y1 y2 y3
        go_roundw
        case rel => exact ⟨k + 1, was, dn, q, Vq, by go_num, by omega, by omega, by omega, HT, HOK, HW2, HW5, HD, HW, HWS, HB2, HB5, HV, HK⟩
        case measure => simp [intOf]; omega
      have e1_ : (xk == 1) = false := by simp [hk1]
      obtain ⟨n', l', kd', hd', sl', f, hap⟩ : ∃ n' l' kd' hd' sl' f, apR num q.lsn q.kind q.head q.slots xk xa xs xo ((k : Int) + 1) = (n', l', kd', hd', sl', f) := ⟨_, _, _, _, _, _, rfl⟩
      have HAP := Lib.hid hap
      clear hap
      have hwu1 : IntKind.u64.wrap ((k : Int) + 1) = (k : Int) + 1 := by rw [IntKind.wrap_u64]; omega
      have hwu2 : ((k : Int) + 1) % 18446744073709551616 = (k : Int) + 1 := by omega
      have hwk1 : IntKind.i64.wrap ((k : Int) + 1) = (k : Int) + 1 := by rw [IntKind.wrap_i64]; omega
      have hwk2 : wrap64 ((k : Int) + 1) = (k : Int) + 1 := by unfold wrap64; omega
      go_upto_region 13 with fail
      clear y0 y1 y2 y3
      go_cut [10, 11] from 75 to 86 (fun v10 v11 wx => ∃ g10 Vn, v10 = .pointer (some ⟨g10, 0, none⟩) ∧ v11 = .int .i64 f ∧ w.heap.size ≤ g10 ∧ Hid (g9 ≠ g10) ∧ Hid (u7.ownBlock ≠ some g10) ∧ Hid (Blk wx g10 28 (shP n' l' kd' hd' Vn)) ∧ Hid (OwnP wx w.heap.size Vn sl') ∧ Hid (Blk wx g9 54 #[.int .i64 ik, .int .i64 ia, .string is_, .string io]) ∧ Hid (wx.ownsRow w.heap.size 54 4 u6 dn.length (dn.map OpS.cells).flatten) ∧ Hid (wx.ownsRow w.heap.size 28 5 u7 was.length (was.map (WasR.cells num)).flatten) ∧ Hid (Sls w wx was) ∧ Hid (Blk wx w.heap.size 28 (shP num p.lsn p.kind p.head (.slice A p.slots.length c))) ∧ Hid (Blk wx g5 28 (shP num q.lsn q.kind q.head Vq)) ∧ Hid (Sl w wx Vq q.slots) ∧ Hid (Below w.heap.size w wx))
      case first =>
        have y0 := (HK.out.cell (p := ⟨bA, offA + k * 4, none⟩) hbA).trans HY0.out
        have y1 := (HK.out.cell (p := ⟨bA, offA + k * 4 + 1, none⟩) hbA).trans HY1.out
        have y2 := (HK.out.cell (p := ⟨bA, offA + k * 4 + 2, none⟩) hbA).trans HY2.out
        have y3 := (HK.out.cell (p := ⟨bA, offA + k * 4 + 3, none⟩) hbA).trans HY3.out
        refine start_ (n := 15) (S := fun w' => Blk w' g5 28 (shP num q.lsn q.kind q.head Vq) ∧ w'.cell? ⟨bA, offA + k * 4, none⟩ = some (.int .i64 xk) ∧ w'.cell? ⟨bA, offA + k * 4 + 1, none⟩ = some (.int .i64 xa) ∧ w'.cell? ⟨bA, offA + k * 4 + 2, none⟩ = some (.string xs) ∧ w'.cell? ⟨bA, offA + k * 4 + 3, none⟩ = some (.string xo)) (ds := [13]) #[false, false, false, false, false, false, false, false, false, false, false, false, false, false, false] (by kernel_rfl) rfl rfl ⟨HB5.out, y0, y1, y2, y3⟩ (fun hHeld => ?_)
        refine pure_ (i := 1) (N := some 77) (v := ?_) (a' := ?_) #[false, true, false, false, false, false, false, false, false, false, false, false, false, false, false] rfl rfl (by kernel_rfl) (fun _ _ _ h => h) (Or.inl ⟨by rfl, ?_⟩) ?_ ?_
        rotate_left
        · intro w'
          go_simp
          with_reducible rfl
        rotate_left
        · simp only [Act.put, List.setIfInBounds_toArray, List.set_cons_zero, List.set_cons_succ, i64_w, i32_w]
          rfl
        refine pure_ (i := 2) (N := some 78) (v := ?_) (a' := ?_) #[false, true, true, false, false, false, false, false, false, false, false, false, false, false, false] rfl rfl (by kernel_rfl) (fun _ _ _ h => h) (Or.inl ⟨by rfl, ?_⟩) ?_ ?_
        rotate_left
        · intro w'
          go_simp
          with_reducible rfl
        rotate_left
        · simp only [Act.put, List.setIfInBounds_toArray, List.set_cons_zero, List.set_cons_succ, i64_w, i32_w]
          rfl
        refine pure_ (i := 3) (N := some 79) (v := ?_) (a' := ?_) #[false, true, true, true, false, false, false, false, false, false, false, false, false, false, false] rfl rfl (by kernel_rfl) (fun _ _ _ h => h) (Or.inl ⟨by rfl, ?_⟩) ?_ ?_
        rotate_left
        · intro w'
          go_simp
          with_reducible rfl
        rotate_left
        · simp only [Act.put, List.setIfInBounds_toArray, List.set_cons_zero, List.set_cons_succ, i64_w, i32_w]
          rfl
        refine pure_ (i := 5) (N := some 81) (v := ?_) (a' := ?_) #[false, true, true, true, false, true, false, false, false, false, false, false, false, false, false] rfl rfl (by kernel_rfl) (fun _ _ _ h => h) (Or.inl ⟨by rfl, ?_⟩) ?_ ?_
        rotate_left
        · intro w'
          go_simp
          with_reducible rfl
        rotate_left
        · simp only [Act.put, List.setIfInBounds_toArray, List.set_cons_zero, List.set_cons_succ, i64_w, i32_w]
          rfl
        refine pure_ (i := 6) (N := some 82) (v := .int .i64 ((k : Int) + 1)) (a' := ?_) #[false, true, true, true, false, true, true, false, false, false, false, false, false, false, false] rfl rfl (by kernel_rfl) (fun _ _ _ h => h) (Or.inl ⟨by rfl, ?_⟩) ?_ ?_
        · intro w'
          go_simp
        rotate_left
        · simp only [Act.put, List.setIfInBounds_toArray, List.set_cons_zero, List.set_cons_succ, i64_w, i32_w]
          rfl
        refine pure_ (i := 7) (N := some 83) (v := .int .u64 ((k : Int) + 1)) (a' := ?_) #[false, true, true, true, false, true, true, true, false, false, false, false, false, false, false] rfl rfl (by kernel_rfl) (fun _ _ _ h => h) (Or.inl ⟨by rfl, ?_⟩) ?_ ?_
        · intro w'
          go_simp
        rotate_left
        · simp only [Act.put, List.setIfInBounds_toArray, List.set_cons_zero, List.set_cons_succ, i64_w, i32_w]
          rfl
        refine take_ (i := 0) (N := some 76) (v := .agg (shP num q.lsn q.kind q.head Vq)) (a' := ?_) #[true, true, true, true, false, true, true, true, false, false, false, false, false, false, false] rfl rfl (by kernel_rfl) (fun _ _ _ h => h) (yields_row 28 (.tmp 5) rfl (by rfl) g5 rfl 28 (shP num q.lsn q.kind q.head Vq) (0, 0) _ (fun w_ h => h.1) Try.underlying28 rfl (by kernel_rfl)) hHeld ?_ ?_
        rotate_left
        · simp only [Act.put, List.setIfInBounds_toArray, List.set_cons_zero, List.set_cons_succ]
          rfl
        refine take_ (i := 4) (N := some 80) (v := .agg #[.int .i64 xk, .int .i64 xa, .string xs, .string xo]) (a' := ?_) #[true, true, true, true, true, true, true, true, false, false, false, false, false, false, false] rfl rfl (by kernel_rfl) (fun _ _ _ h => h) (Or.inl ⟨by rfl, ?_⟩) hHeld ?_ ?_
        · rintro w' ⟨s0, s1, s2, s3, s4⟩
          go_simp
        rotate_left
        · simp only [Act.put, List.setIfInBounds_toArray, List.set_cons_zero, List.set_cons_succ]
          rfl
        clear hHeld y0 y1 y2 y3
        have hb5 := bdrew (Below.refl wc.heap.size wc)
        have n_HD := Lib.hid (own_below HD.out hb5)
        have n_HW := Lib.hid (own_below HW.out hb5)
        have n_HWS := Lib.hid (Sls.below HWS.out hb5)
        have n_HB2 := Lib.hid (HB2.out.step hb5)
        have n_HB5 := Lib.hid (HB5.out.step hb5)
        have n_HV := Lib.hid (HV.out.below hb5)
        have n_HK := Lib.hid (bstep HK.out hb5)
        have n_H9 := Lib.hid (H9.out.step hb5)
        clear hb5 HD HW HWS HB2 HB5 HV HK H9
        have HD := n_HD
        have HW := n_HW
        have HWS := n_HWS
        have HB2 := n_HB2
        have HB5 := n_HB5
        have HV := n_HV
        have HK := n_HK
        have H9 := n_H9
        clear n_HD n_HW n_HWS n_HB2 n_HB5 n_HV n_HK n_H9
        generalize wc.drew = u301 at *
        refine two_ (i := 8) (j := 12) (Ni := some 84) (Nj := some 10) #[true, true, true, true, true, true, true, true, true, false, false, false, false, false, false] #[true, true, true, true, true, true, true, true, false, false, false, false, true, false, false] rfl rfl rfl rfl (by kernel_rfl) (by decide) (by decide) (fun K hK => ?_) (fun K hK => ?_)
        · refine goes_ Try.func23 (by kernel_rfl) rfl #[.agg (shP num q.lsn q.kind q.head Vq), .agg #[.int .i64 xk, .int .i64 xa, .string xs, .string xo], .int .u64 ((k : Int) + 1)] (by rfl) rfl rfl (by (try simp only [List.map_toArray, List.map_cons, List.map_nil]); first | done | rfl) ?_
          refine (ap_sl num q.lsn q.kind q.head xk xa xs xo ((k : Int) + 1) HV.out HK.out HOK.out HAP.out).mono ?_
          rintro e_ u302 ⟨Vn, rfl, ho, hb5⟩
          have HVn := Lib.hid ho
          clear ho
          have n_HD := Lib.hid (own_below HD.out hb5)
          have n_HW := Lib.hid (own_below HW.out hb5)
          have n_HWS := Lib.hid (Sls.below HWS.out hb5)
          have n_HB2 := Lib.hid (HB2.out.step hb5)
          have n_HB5 := Lib.hid (HB5.out.step hb5)
          have n_HV := Lib.hid (HV.out.below hb5)
          have n_HK := Lib.hid (bstep HK.out hb5)
          have n_H9 := Lib.hid (H9.out.step hb5)
          clear hb5 HD HW HWS HB2 HB5 HV HK H9
          have HD := n_HD
          have HW := n_HW
          have HWS := n_HWS
          have HB2 := n_HB2
          have HB5 := n_HB5
          have HV := n_HV
          have HK := n_HK
          have H9 := n_H9
          clear n_HD n_HW n_HWS n_HB2 n_HB5 n_HV n_HK n_H9
          refine ⟨_, rfl, ?_⟩
          have y0 := (HK.out.cell (p := ⟨bA, offA + k * 4, none⟩) hbA).trans HY0.out
          have y1 := (HK.out.cell (p := ⟨bA, offA + k * 4 + 1, none⟩) hbA).trans HY1.out
          have y2 := (HK.out.cell (p := ⟨bA, offA + k * 4 + 2, none⟩) hbA).trans HY2.out
          have y3 := (HK.out.cell (p := ⟨bA, offA + k * 4 + 3, none⟩) hbA).trans HY3.out
          refine hK.out _ _ ⟨HB5.out, y0, y1, y2, y3⟩ (fun hHeld => ?_)
          clear hK K hHeld y0 y1 y2 y3
          refine norm_ (a' := ?_) ?_ ?_
          rotate_left
          · show Act.put _ (some 84) _ = _
            simp only [Act.put, List.setIfInBounds_toArray, List.set_cons_zero, List.set_cons_succ]
            rfl
          refine pure_ (i := 9) (N := some 75) (v := ?_) (a' := ?_) #[true, true, true, true, true, true, true, true, true, true, false, false, false, false, false] rfl rfl (by kernel_rfl) (fun _ _ _ h => h) (Or.inl ⟨by rfl, ?_⟩) ?_ ?_
          rotate_left
          · intro w'
            go_simp
            with_reducible rfl
          rotate_left
          · simp only [Act.put, List.setIfInBounds_toArray, List.set_cons_zero, List.set_cons_succ, i64_w, i32_w]
            rfl
          refine pure_ (i := 10) (N := some 85) (v := ?_) (a' := ?_) #[true, true, true, true, true, true, true, true, true, true, true, false, false, false, false] rfl rfl (by kernel_rfl) (fun _ _ _ h => h) (Or.inl ⟨by rfl, ?_⟩) ?_ ?_
          rotate_left
          · intro w'
            go_simp
            with_reducible rfl
          rotate_left
          · simp only [Act.put, List.setIfInBounds_toArray, List.set_cons_zero, List.set_cons_succ, i64_w, i32_w]
            rfl
          refine pure_ (i := 11) (N := some 86) (v := ?_) (a' := ?_) #[true, true, true, true, true, true, true, true, true, true, true, true, false, false, false] rfl rfl (by kernel_rfl) (fun _ _ _ h => h) (Or.inl ⟨by rfl, ?_⟩) ?_ ?_
          rotate_left
          · intro w'
            go_simp
            with_reducible rfl
          rotate_left
          · simp only [Act.put, List.setIfInBounds_toArray, List.set_cons_zero, List.set_cons_succ, i64_w, i32_w]
            rfl
          refine one_ (i := 12) (N := some 10) #[true, true, true, true, true, true, true, true, true, true, true, true, true, false, false] rfl rfl (by kernel_rfl) (by decide) (fun K hK => ?_)
          refine value_ (w1 := u302.alloc (.cells #[.int .u32 0, .int .u64 0, .int .i64 0, .string ⟨#[]⟩, .slice none 0 0] 28)) (v := .pointer (some ⟨u302.heap.size, 0, none⟩)) (by rfl) rfl (by go_simp) ?_
          have hb5 := balloc (Below.refl u302.heap.size u302) (.cells #[.int .u32 0, .int .u64 0, .int .i64 0, .string ⟨#[]⟩, .slice none 0 0] 28)
          have hL := Blk.new u302 28 #[.int .u32 0, .int .u64 0, .int .i64 0, .string ⟨#[]⟩, .slice none 0 0]
          have hG := HK.out.size
          have hn2 := Lib.hid (Nat.ne_of_lt HB2.out.lt)
          have hn5 := Lib.hid (Nat.ne_of_lt HB5.out.lt)
          have hn9 := Lib.hid (Nat.ne_of_lt H9.out.lt)
          have hnw := Lib.hid (own_ne_new HW.out)
          have n_HD := Lib.hid (own_below HD.out hb5)
          have n_HW := Lib.hid (own_below HW.out hb5)
          have n_HWS := Lib.hid (Sls.below HWS.out hb5)
          have n_HB2 := Lib.hid (HB2.out.step hb5)
          have n_HB5 := Lib.hid (HB5.out.step hb5)
          have n_HV := Lib.hid (HV.out.below hb5)
          have n_HK := Lib.hid (bstep HK.out hb5)
          have n_H9 := Lib.hid (H9.out.step hb5)
          have n_HVn := Lib.hid (HVn.out.below hb5)
          clear hb5 HD HW HWS HB2 HB5 HV HK H9 HVn
          have HD := n_HD
          have HW := n_HW
          have HWS := n_HWS
          have HB2 := n_HB2
          have HB5 := n_HB5
          have HV := n_HV
          have HK := n_HK
          have H9 := n_H9
          have HVn := n_HVn
          clear n_HD n_HW n_HWS n_HB2 n_HB5 n_HV n_HK n_H9 n_HVn
          generalize u302.alloc (.cells #[.int .u32 0, .int .u64 0, .int .i64 0, .string ⟨#[]⟩, .slice none 0 0] 28) = u303 at *
          generalize u302.heap.size = g10 at *
          have H10 := Lib.hid hL
          clear hL
          have y0 := (HK.out.cell (p := ⟨bA, offA + k * 4, none⟩) hbA).trans HY0.out
          have y1 := (HK.out.cell (p := ⟨bA, offA + k * 4 + 1, none⟩) hbA).trans HY1.out
          have y2 := (HK.out.cell (p := ⟨bA, offA + k * 4 + 2, none⟩) hbA).trans HY2.out
          have y3 := (HK.out.cell (p := ⟨bA, offA + k * 4 + 3, none⟩) hbA).trans HY3.out
          refine hK.out _ _ ⟨HB5.out, y0, y1, y2, y3⟩ (fun hHeld => ?_)
          clear hK K hHeld y0 y1 y2 y3
          refine norm_ (a' := ?_) ?_ ?_
          rotate_left
          · show Act.put _ (some 10) _ = _
            simp only [Act.put, List.setIfInBounds_toArray, List.set_cons_zero, List.set_cons_succ]
            rfl
          refine last_ (i := 13) (N := none) #[true, true, true, true, true, true, true, true, true, true, true, true, true, true, false] rfl rfl (by kernel_rfl) (by decide) (fun K hK => ?_)
          refine skip_ (w1 := u303.setRow g10 (shP n' l' kd' hd' Vn)) (by rfl) rfl (run_store_row 28 (.tmp 10) (.tmp 85) rfl g10 (shP n' l' kd' hd' Vn) rfl rfl 28 _ H10.out (by kernel_rfl) rfl (shP_one (own_isl HVn.out))) ?_
          refine hK.out _ _ ?_
          clear hK K
          refine pure_ (i := 14) (N := some 11) (v := ?_) (a' := ?_) #[true, true, true, true, true, true, true, true, true, true, true, true, true, true, true] rfl rfl (by kernel_rfl) (fun _ _ _ h => h) (Or.inl ⟨by rfl, ?_⟩) ?_ ?_
          rotate_left
          · intro w'
            go_simp
            with_reducible rfl
          rotate_left
          · simp only [Act.put, List.setIfInBounds_toArray, List.set_cons_zero, List.set_cons_succ, i64_w, i32_w]
            rfl
          refine done_ (by kernel_rfl) ?_
          have n_HD := Lib.hid (own_setRow (cs' := (shP n' l' kd' hd' Vn)) HD.out H10.out (by decide))
          have n_HW := Lib.hid (own_setRowN (cs' := (shP n' l' kd' hd' Vn)) HW.out hnw.out)
          have n_HWS := Lib.hid (Sls.setRow (shP n' l' kd' hd' Vn) HWS.out H10.out (by decide))
          have n_HB2 := Lib.hid (blk_setRow_far HB2.out (shP n' l' kd' hd' Vn) hn2.out)
          have n_HB5 := Lib.hid (blk_setRow_far HB5.out (shP n' l' kd' hd' Vn) hn5.out)
          have n_HV := Lib.hid (Sl.setRow (shP n' l' kd' hd' Vn) HV.out H10.out (by decide))
          have n_HVn := Lib.hid (OwnP.setRow (cs' := (shP n' l' kd' hd' Vn)) HVn.out H10.out (by decide))
          have n_H9 := Lib.hid (blk_setRow_far H9.out (shP n' l' kd' hd' Vn) hn9.out)
          have n_HK := Lib.hid (setRow_below HK.out hG (shP n' l' kd' hd' Vn))
          have n_H10 := Lib.hid (blk_setRow (cs' := (shP n' l' kd' hd' Vn)) H10.out)
          clear HD HW HWS HB2 HB5 HV HVn H9 HK H10
          have HD := n_HD
          have HW := n_HW
          have HWS := n_HWS
          have HB2 := n_HB2
          have HB5 := n_HB5
          have HV := n_HV
          have HVn := n_HVn
          have H9 := n_H9
          have HK := n_HK
          have H10 := n_H10
          clear n_HD n_HW n_HWS n_HB2 n_HB5 n_HV n_HVn n_H9 n_HK n_H10
          generalize u303.setRow g10 (shP n' l' kd' hd' Vn) = u304 at *
          go_wp2_with fail
          go_meet
          exact ⟨g10, Vn, rfl, rfl, hG, hn9, hnw, H10, HVn, H9, HD, HW, HWS, HB2, HB5, HV, HK⟩
        · refine value_ (w1 := u301.alloc (.cells #[.int .u32 0, .int .u64 0, .int .i64 0, .string ⟨#[]⟩, .slice none 0 0] 28)) (v := .pointer (some ⟨u301.heap.size, 0, none⟩)) (by rfl) rfl (by go_simp) ?_
          have hb5 := balloc (Below.refl u301.heap.size u301) (.cells #[.int .u32 0, .int .u64 0, .int .i64 0, .string ⟨#[]⟩, .slice none 0 0] 28)
          have hL := Blk.new u301 28 #[.int .u32 0, .int .u64 0, .int .i64 0, .string ⟨#[]⟩, .slice none 0 0]
          have hG := HK.out.size
          have hn2 := Lib.hid (Nat.ne_of_lt HB2.out.lt)
          have hn5 := Lib.hid (Nat.ne_of_lt HB5.out.lt)
          have hn9 := Lib.hid (Nat.ne_of_lt H9.out.lt)
          have hnw := Lib.hid (own_ne_new HW.out)
          have n_HD := Lib.hid (own_below HD.out hb5)
          have n_HW := Lib.hid (own_below HW.out hb5)
          have n_HWS := Lib.hid (Sls.below HWS.out hb5)
          have n_HB2 := Lib.hid (HB2.out.step hb5)
          have n_HB5 := Lib.hid (HB5.out.step hb5)
          have n_HV := Lib.hid (HV.out.below hb5)
          have n_HK := Lib.hid (bstep HK.out hb5)
          have n_H9 := Lib.hid (H9.out.step hb5)
          clear hb5 HD HW HWS HB2 HB5 HV HK H9
          have HD := n_HD
          have HW := n_HW
          have HWS := n_HWS
          have HB2 := n_HB2
          have HB5 := n_HB5
          have HV := n_HV
          have HK := n_HK
          have H9 := n_H9
          clear n_HD n_HW n_HWS n_HB2 n_HB5 n_HV n_HK n_H9
          generalize u301.alloc (.cells #[.int .u32 0, .int .u64 0, .int .i64 0, .string ⟨#[]⟩, .slice none 0 0] 28) = u305 at *
          generalize u301.heap.size = g10 at *
          have H10 := Lib.hid hL
          clear hL
          have y0 := (HK.out.cell (p := ⟨bA, offA + k * 4, none⟩) hbA).trans HY0.out
          have y1 := (HK.out.cell (p := ⟨bA, offA + k * 4 + 1, none⟩) hbA).trans HY1.out
          have y2 := (HK.out.cell (p := ⟨bA, offA + k * 4 + 2, none⟩) hbA).trans HY2.out
          have y3 := (HK.out.cell (p := ⟨bA, offA + k * 4 + 3, none⟩) hbA).trans HY3.out
          refine hK.out _ _ ⟨HB5.out, y0, y1, y2, y3⟩ (fun hHeld => ?_)
          clear hK K hHeld y0 y1 y2 y3
          refine norm_ (a' := ?_) ?_ ?_
          rotate_left
          · show Act.put _ (some 10) _ = _
            simp only [Act.put, List.setIfInBounds_toArray, List.set_cons_zero, List.set_cons_succ]
            rfl
          refine one_ (i := 8) (N := some 84) #[true, true, true, true, true, true, true, true, true, false, false, false, true, false, false] rfl rfl (by kernel_rfl) (by decide) (fun K hK => ?_)
          refine goes_ Try.func23 (by kernel_rfl) rfl #[.agg (shP num q.lsn q.kind q.head Vq), .agg #[.int .i64 xk, .int .i64 xa, .string xs, .string xo], .int .u64 ((k : Int) + 1)] (by rfl) rfl rfl (by (try simp only [List.map_toArray, List.map_cons, List.map_nil]); first | done | rfl) ?_
          refine (ap_sl num q.lsn q.kind q.head xk xa xs xo ((k : Int) + 1) HV.out HK.out HOK.out HAP.out).mono ?_
          rintro e_ u306 ⟨Vn, rfl, ho, hb5⟩
          have HVn := Lib.hid ho
          clear ho
          have n_HD := Lib.hid (own_below HD.out hb5)
          have n_HW := Lib.hid (own_below HW.out hb5)
          have n_HWS := Lib.hid (Sls.below HWS.out hb5)
          have n_HB2 := Lib.hid (HB2.out.step hb5)
          have n_HB5 := Lib.hid (HB5.out.step hb5)
          have n_HV := Lib.hid (HV.out.below hb5)
          have n_HK := Lib.hid (bstep HK.out hb5)
          have n_H9 := Lib.hid (H9.out.step hb5)
          have n_H10 := Lib.hid (H10.out.step hb5)
          clear hb5 HD HW HWS HB2 HB5 HV HK H9 H10
          have HD := n_HD
          have HW := n_HW
          have HWS := n_HWS
          have HB2 := n_HB2
          have HB5 := n_HB5
          have HV := n_HV
          have HK := n_HK
          have H9 := n_H9
          have H10 := n_H10
          clear n_HD n_HW n_HWS n_HB2 n_HB5 n_HV n_HK n_H9 n_H10
          refine ⟨_, rfl, ?_⟩
          have y0 := (HK.out.cell (p := ⟨bA, offA + k * 4, none⟩) hbA).trans HY0.out
          have y1 := (HK.out.cell (p := ⟨bA, offA + k * 4 + 1, none⟩) hbA).trans HY1.out
          have y2 := (HK.out.cell (p := ⟨bA, offA + k * 4 + 2, none⟩) hbA).trans HY2.out
          have y3 := (HK.out.cell (p := ⟨bA, offA + k * 4 + 3, none⟩) hbA).trans HY3.out
          refine hK.out _ _ ⟨HB5.out, y0, y1, y2, y3⟩ (fun hHeld => ?_)
          clear hK K hHeld y0 y1 y2 y3
          refine norm_ (a' := ?_) ?_ ?_
          rotate_left
          · show Act.put _ (some 84) _ = _
            simp only [Act.put, List.setIfInBounds_toArray, List.set_cons_zero, List.set_cons_succ]
            rfl
          refine pure_ (i := 9) (N := some 75) (v := ?_) (a' := ?_) #[true, true, true, true, true, true, true, true, true, true, false, false, true, false, false] rfl rfl (by kernel_rfl) (fun _ _ _ h => h) (Or.inl ⟨by rfl, ?_⟩) ?_ ?_
          rotate_left
          · intro w'
            go_simp
            with_reducible rfl
          rotate_left
          · simp only [Act.put, List.setIfInBounds_toArray, List.set_cons_zero, List.set_cons_succ, i64_w, i32_w]
            rfl
          refine pure_ (i := 10) (N := some 85) (v := ?_) (a' := ?_) #[true, true, true, true, true, true, true, true, true, true, true, false, true, false, false] rfl rfl (by kernel_rfl) (fun _ _ _ h => h) (Or.inl ⟨by rfl, ?_⟩) ?_ ?_
          rotate_left
          · intro w'
            go_simp
            with_reducible rfl
          rotate_left
          · simp only [Act.put, List.setIfInBounds_toArray, List.set_cons_zero, List.set_cons_succ, i64_w, i32_w]
            rfl
          refine pure_ (i := 11) (N := some 86) (v := ?_) (a' := ?_) #[true, true, true, true, true, true, true, true, true, true, true, true, true, false, false] rfl rfl (by kernel_rfl) (fun _ _ _ h => h) (Or.inl ⟨by rfl, ?_⟩) ?_ ?_
          rotate_left
          · intro w'
            go_simp
            with_reducible rfl
          rotate_left
          · simp only [Act.put, List.setIfInBounds_toArray, List.set_cons_zero, List.set_cons_succ, i64_w, i32_w]
            rfl
          refine last_ (i := 13) (N := none) #[true, true, true, true, true, true, true, true, true, true, true, true, true, true, false] rfl rfl (by kernel_rfl) (by decide) (fun K hK => ?_)
          refine skip_ (w1 := u306.setRow g10 (shP n' l' kd' hd' Vn)) (by rfl) rfl (run_store_row 28 (.tmp 10) (.tmp 85) rfl g10 (shP n' l' kd' hd' Vn) rfl rfl 28 _ H10.out (by kernel_rfl) rfl (shP_one (own_isl HVn.out))) ?_
          refine hK.out _ _ ?_
          clear hK K
          refine pure_ (i := 14) (N := some 11) (v := ?_) (a' := ?_) #[true, true, true, true, true, true, true, true, true, true, true, true, true, true, true] rfl rfl (by kernel_rfl) (fun _ _ _ h => h) (Or.inl ⟨by rfl, ?_⟩) ?_ ?_
          rotate_left
          · intro w'
            go_simp
            with_reducible rfl
          rotate_left
          · simp only [Act.put, List.setIfInBounds_toArray, List.set_cons_zero, List.set_cons_succ, i64_w, i32_w]
            rfl
          refine done_ (by kernel_rfl) ?_
          have n_HD := Lib.hid (own_setRow (cs' := (shP n' l' kd' hd' Vn)) HD.out H10.out (by decide))
          have n_HW := Lib.hid (own_setRowN (cs' := (shP n' l' kd' hd' Vn)) HW.out hnw.out)
          have n_HWS := Lib.hid (Sls.setRow (shP n' l' kd' hd' Vn) HWS.out H10.out (by decide))
          have n_HB2 := Lib.hid (blk_setRow_far HB2.out (shP n' l' kd' hd' Vn) hn2.out)
          have n_HB5 := Lib.hid (blk_setRow_far HB5.out (shP n' l' kd' hd' Vn) hn5.out)
          have n_HV := Lib.hid (Sl.setRow (shP n' l' kd' hd' Vn) HV.out H10.out (by decide))
          have n_HVn := Lib.hid (OwnP.setRow (cs' := (shP n' l' kd' hd' Vn)) HVn.out H10.out (by decide))
          have n_H9 := Lib.hid (blk_setRow_far H9.out (shP n' l' kd' hd' Vn) hn9.out)
          have n_HK := Lib.hid (setRow_below HK.out hG (shP n' l' kd' hd' Vn))
          have n_H10 := Lib.hid (blk_setRow (cs' := (shP n' l' kd' hd' Vn)) H10.out)
          clear HD HW HWS HB2 HB5 HV HVn H9 HK H10
          have HD := n_HD
          have HW := n_HW
          have HWS := n_HWS
          have HB2 := n_HB2
          have HB5 := n_HB5
          have HV := n_HV
          have HVn := n_HVn
          have H9 := n_H9
          have HK := n_HK
          have H10 := n_H10
          clear n_HD n_HW n_HWS n_HB2 n_HB5 n_HV n_HVn n_H9 n_HK n_H10
          generalize u306.setRow g10 (shP n' l' kd' hd' Vn) = u307 at *
          go_wp2_with fail
          go_meet
          exact ⟨g10, Vn, rfl, rfl, hG, hn9, hnw, H10, HVn, H9, HD, HW, HWS, HB2, HB5, HV, HK⟩
      case rest =>
      clear hwu1 hwu2 hwk1 hwk2
      obtain ⟨g10, Vn, rfl, rfl, hG, hn9, hnw, k0, k1, k2, k3, k4, k5, k6, k7, k8, k9⟩ := hcut
      clear H9 HD HW HWS HB2 HB5 HV HK
      have H10 := k0
      have HVn := k1
      have H9 := k2
      have HD := k3
      have HW := k4
      have HWS := k5
      have HB2 := k6
      have HB5 := k7
      have HV := k8
      have HK := k9
      clear k0 k1 k2 k3 k4 k5 k6 k7 k8 k9
      by_cases hf : f = 0
      · subst hf
        obtain ⟨hn', hl', hok2, hback⟩ := ap_back HOK.out hk1 HAP.out
        obtain rfl : num = n' := hn'.symm
        obtain rfl : ((k : Int) + 1) = l' := hl'.symm
        rw [HI.out] at hback
        have HBK := Lib.hid (show Back num q ⟨ik, ia, is_, io⟩ ⟨(k : Int) + 1, kd', hd', sl'⟩ from ⟨HOK.out, hok2, hback⟩)
        clear hok2 hback HAP HI
        go_upto_region 15 with fail
        have HB5l := Lib.hid (show Blk wc g5 28 #[.int .u32 num, .int .u64 q.lsn, .int .i64 q.kind, .string q.head, Vq] from HB5.out)
        clear HB5
        have HB5 := HB5l
        clear HB5l
        refine start_ (n := 12) (S := fun w' => Blk w' g5 28 #[.int .u32 num, .int .u64 q.lsn, .int .i64 q.kind, .string q.head, Vq] ∧ Blk w' g9 54 #[.int .i64 ik, .int .i64 ia, .string is_, .string io] ∧ Blk w' g10 28 (shP num ((k : Int) + 1) kd' hd' Vn)) (ds := [11]) #[false, false, false, false, false, false, false, false, false, false, false, false] (by kernel_rfl) rfl rfl ⟨HB5.out, H9.out, H10.out⟩ (fun hHeld => ?_)
        refine pure_ (i := 0) (N := some 89) (v := ?_) (a' := ?_) #[true, false, false, false, false, false, false, false, false, false, false, false] rfl rfl (by kernel_rfl) (fun _ _ _ h => h) (Or.inl ⟨by rfl, ?_⟩) ?_ ?_
        rotate_left
        · intro w'
          go_simp
          with_reducible rfl
        rotate_left
        · simp only [Act.put, List.setIfInBounds_toArray, List.set_cons_zero, List.set_cons_succ, i64_w, i32_w]
          rfl
        refine pure_ (i := 4) (N := some 93) (v := ?_) (a' := ?_) #[true, false, false, false, true, false, false, false, false, false, false, false] rfl rfl (by kernel_rfl) (fun _ _ _ h => h) (Or.inl ⟨by rfl, ?_⟩) ?_ ?_
        rotate_left
        · intro w'
          go_simp
          with_reducible rfl
        rotate_left
        · simp only [Act.put, List.setIfInBounds_toArray, List.set_cons_zero, List.set_cons_succ, i64_w, i32_w]
          rfl
        refine take_ (i := 1) (N := some 90) (v := .agg #[.int .u32 num, .int .u64 q.lsn, .int .i64 q.kind, .string q.head, Vq]) (a' := ?_) #[true, true, false, false, true, false, false, false, false, false, false, false] rfl rfl (by kernel_rfl) (fun _ _ _ h => h) (yields_row 28 (.tmp 5) rfl (by rfl) g5 rfl 28 #[.int .u32 num, .int .u64 q.lsn, .int .i64 q.kind, .string q.head, Vq] (0, 0) _ (fun w_ h => h.1) Try.underlying28 rfl (by kernel_rfl)) hHeld ?_ ?_
        rotate_left
        · simp only [Act.put, List.setIfInBounds_toArray, List.set_cons_zero, List.set_cons_succ]
          rfl
        refine take_ (i := 5) (N := some 94) (v := .agg #[.int .i64 ik, .int .i64 ia, .string is_, .string io]) (a' := ?_) #[true, true, false, false, true, true, false, false, false, false, false, false] rfl rfl (by kernel_rfl) (fun _ _ _ h => h) (yields_row 54 (.tmp 9) rfl (by rfl) g9 rfl 54 #[.int .i64 ik, .int .i64 ia, .string is_, .string io] (0, 0) _ (fun w_ h => h.2.1) Try.underlying54 rfl (by kernel_rfl)) hHeld ?_ ?_
        rotate_left
        · simp only [Act.put, List.setIfInBounds_toArray, List.set_cons_zero, List.set_cons_succ]
          rfl
        refine take_ (i := 8) (N := some 97) (v := .agg (shP num ((k : Int) + 1) kd' hd' Vn)) (a' := ?_) #[true, true, false, false, true, true, false, false, true, false, false, false] rfl rfl (by kernel_rfl) (fun _ _ _ h => h) (yields_row 28 (.tmp 10) rfl (by rfl) g10 rfl 28 (shP num ((k : Int) + 1) kd' hd' Vn) (0, 0) _ (fun w_ h => h.2.2) Try.underlying28 rfl (by kernel_rfl)) hHeld ?_ ?_
        rotate_left
        · simp only [Act.put, List.setIfInBounds_toArray, List.set_cons_zero, List.set_cons_succ]
          rfl
        clear hHeld
        have hb5 := bdrew (Below.refl wc.heap.size wc)
        have n_HD := Lib.hid (own_below HD.out hb5)
        have n_HW := Lib.hid (own_below HW.out hb5)
        have n_HWS := Lib.hid (Sls.below HWS.out hb5)
        have n_HB2 := Lib.hid (HB2.out.step hb5)
        have n_HB5 := Lib.hid (HB5.out.step hb5)
        have n_HV := Lib.hid (HV.out.below hb5)
        have n_HK := Lib.hid (bstep HK.out hb5)
        have n_H9 := Lib.hid (H9.out.step hb5)
        have n_H10 := Lib.hid (H10.out.step hb5)
        have n_HVn := Lib.hid (HVn.out.below hb5)
        clear hb5 HD HW HWS HB2 HB5 HV HK H9 H10 HVn
        have HD := n_HD
        have HW := n_HW
        have HWS := n_HWS
        have HB2 := n_HB2
        have HB5 := n_HB5
        have HV := n_HV
        have HK := n_HK
        have H9 := n_H9
        have H10 := n_H10
        have HVn := n_HVn
        clear n_HD n_HW n_HWS n_HB2 n_HB5 n_HV n_HK n_H9 n_H10 n_HVn
        generalize wc.drew = u308 at *
        refine two_ (i := 2) (j := 6) (Ni := some 91) (Nj := some 95) #[true, true, true, false, true, true, false, false, true, false, false, false] #[true, true, false, false, true, true, true, false, true, false, false, false] rfl rfl rfl rfl (by kernel_rfl) (by decide) (by decide) (fun K hK => ?_) (fun K hK => ?_)
        · refine value_ (w1 := u308.alloc (.cells #[.int .u32 num, .int .u64 q.lsn, .int .i64 q.kind, .string q.head, Vq] 28)) (v := .slice (some ⟨u308.heap.size, 0, none⟩) 1 1) (by rfl) rfl (by go_simp) ?_
          have hb5 := balloc (Below.refl u308.heap.size u308) (.cells #[.int .u32 num, .int .u64 q.lsn, .int .i64 q.kind, .string q.head, Vq] 28)
          have hL := Blk.new u308 28 #[.int .u32 num, .int .u64 q.lsn, .int .i64 q.kind, .string q.head, Vq]
          have hnl := Lib.hid (own_ne_new HW.out)
          have n_HD := Lib.hid (own_below HD.out hb5)
          have n_HW := Lib.hid (own_below HW.out hb5)
          have n_HWS := Lib.hid (Sls.below HWS.out hb5)
          have n_HB2 := Lib.hid (HB2.out.step hb5)
          have n_HB5 := Lib.hid (HB5.out.step hb5)
          have n_HV := Lib.hid (HV.out.below hb5)
          have n_HK := Lib.hid (bstep HK.out hb5)
          have n_H9 := Lib.hid (H9.out.step hb5)
          have n_H10 := Lib.hid (H10.out.step hb5)
          have n_HVn := Lib.hid (HVn.out.below hb5)
          clear hb5 HD HW HWS HB2 HB5 HV HK H9 H10 HVn
          have HD := n_HD
          have HW := n_HW
          have HWS := n_HWS
          have HB2 := n_HB2
          have HB5 := n_HB5
          have HV := n_HV
          have HK := n_HK
          have H9 := n_H9
          have H10 := n_H10
          have HVn := n_HVn
          clear n_HD n_HW n_HWS n_HB2 n_HB5 n_HV n_HK n_H9 n_H10 n_HVn
          generalize u308.alloc (.cells #[.int .u32 num, .int .u64 q.lsn, .int .i64 q.kind, .string q.head, Vq] 28) = u309 at *
          generalize u308.heap.size = b91 at *
          have HLw := Lib.hid hL
          clear hL
          refine hK.out _ _ ⟨HB5.out, H9.out, H10.out⟩ (fun hHeld => ?_)
          clear hK K hHeld 
          refine norm_ (a' := ?_) ?_ ?_
          rotate_left
          · show Act.put _ (some 91) _ = _
            simp only [Act.put, List.setIfInBounds_toArray, List.set_cons_zero, List.set_cons_succ]
            rfl
          refine two_ (i := 3) (j := 6) (Ni := some 92) (Nj := some 95) #[true, true, true, true, true, true, false, false, true, false, false, false] #[true, true, true, false, true, true, true, false, true, false, false, false] rfl rfl rfl rfl (by kernel_rfl) (by decide) (by decide) (fun K hK => ?_) (fun K hK => ?_)
          · refine app1_step (by rfl) rfl (.tmp 89) (.tmp 91) 59 rfl 28 (.agg #[.int .u32 0, .int .u64 0, .int .i64 0, .string ⟨#[]⟩, .slice none 0 0]) 5 64 Try.underlying59 infoSh rfl (by decide) u7 rfl w.heap.size was.length ((was.map (WasR.cells num)).flatten) HW.out ⟨b91, 0, none⟩ rfl (WasR.cells num ⟨q, Vq⟩) rfl (blkP_cells HLw.out) (was_one (sl_isl HV.out)) (by omega) (by omega) HK.out.size ?_
            intro vw' u310 ho hg hat
            have n_HB2 := Lib.hid (HB2.out.grown hg (fun e_ => HW2.out e_.symm))
            have n_HB5 := Lib.hid (HB5.out.grown hg (fun e_ => HW5.out e_.symm))
            have n_H9 := Lib.hid (H9.out.grown hg (fun e_ => own_ne_blk HW.out H9.out (by decide) e_.symm))
            have n_H10 := Lib.hid (H10.out.grown hg (fun e_ => hnw.out e_.symm))
            have n_HD := Lib.hid (HD.out.kept hg (own_ne_own HD.out HW.out (by decide)))
            have n_HWS := Lib.hid (Sls.grown HWS.out hg HW.out (by decide))
            have n_HV := Lib.hid (Sl.grown HV.out hg HW.out (by decide))
            have n_HVn := Lib.hid (OwnP.grown HVn.out hg (own_ne_own HVn.out HW.out (by decide)))
            have n_HK := Lib.hid (HK.out.grown hg HK.out.size (fun k_ e_ => (HW.out.lt k_ e_).1))
            have nW2 := Lib.hid (show vw'.ownBlock ≠ some w.heap.size from fun e_ => by rcases hat with h_ | h_; (exact HW2.out (h_ ▸ e_)); (rw [h_] at e_; have h2_ := HB2.out.lt; have h3_ := Option.some.inj e_; omega))
            have nW5 := Lib.hid (show vw'.ownBlock ≠ some g5 from fun e_ => by rcases hat with h_ | h_; (exact HW5.out (h_ ▸ e_)); (rw [h_] at e_; have h2_ := HB5.out.lt; have h3_ := Option.some.inj e_; omega))
            have n_HW := Lib.hid ho
            clear ho hg hat HLw HW HW2 HW5 hnw hnl HB2 HB5 H9 H10 HD HWS HV HVn HK
            have HB2 := n_HB2
            have HB5 := n_HB5
            have H9 := n_H9
            have H10 := n_H10
            have HD := n_HD
            have HWS := n_HWS
            have HV := n_HV
            have HVn := n_HVn
            have HK := n_HK
            have HW := n_HW
            have HW2 := nW2
            have HW5 := nW5
            clear nW2 nW5 n_HB2 n_HB5 n_H9 n_H10 n_HD n_HWS n_HV n_HVn n_HK n_HW
            refine hK.out _ _ ⟨HB5.out, H9.out, H10.out⟩ (fun hHeld => ?_)
            clear hK K hHeld 
            refine norm_ (a' := ?_) ?_ ?_
            rotate_left
            · show Act.put _ (some 92) _ = _
              simp only [Act.put, List.setIfInBounds_toArray, List.set_cons_zero, List.set_cons_succ]
              rfl
            refine one_ (i := 6) (N := some 95) #[true, true, true, true, true, true, true, false, true, false, false, false] rfl rfl (by kernel_rfl) (by decide) (fun K hK => ?_)
            refine value_ (w1 := u310.alloc (.cells #[.int .i64 ik, .int .i64 ia, .string is_, .string io] 54)) (v := .slice (some ⟨u310.heap.size, 0, none⟩) 1 1) (by rfl) rfl (by go_simp) ?_
            have hb5 := balloc (Below.refl u310.heap.size u310) (.cells #[.int .i64 ik, .int .i64 ia, .string is_, .string io] 54)
            have hL := Blk.new u310 54 #[.int .i64 ik, .int .i64 ia, .string is_, .string io]
            have hnm := Lib.hid (own_ne_new HD.out)
            have n_HD := Lib.hid (own_below HD.out hb5)
            have n_HW := Lib.hid (own_below HW.out hb5)
            have n_HWS := Lib.hid (Sls.below HWS.out hb5)
            have n_HB2 := Lib.hid (HB2.out.step hb5)
            have n_HB5 := Lib.hid (HB5.out.step hb5)
            have n_HV := Lib.hid (HV.out.below hb5)
            have n_HK := Lib.hid (bstep HK.out hb5)
            have n_H9 := Lib.hid (H9.out.step hb5)
            have n_H10 := Lib.hid (H10.out.step hb5)
            have n_HVn := Lib.hid (HVn.out.below hb5)
            clear hb5 HD HW HWS HB2 HB5 HV HK H9 H10 HVn
            have HD := n_HD
            have HW := n_HW
            have HWS := n_HWS
            have HB2 := n_HB2
            have HB5 := n_HB5
            have HV := n_HV
            have HK := n_HK
            have H9 := n_H9
            have H10 := n_H10
            have HVn := n_HVn
            clear n_HD n_HW n_HWS n_HB2 n_HB5 n_HV n_HK n_H9 n_H10 n_HVn
            generalize u310.alloc (.cells #[.int .i64 ik, .int .i64 ia, .string is_, .string io] 54) = u311 at *
            generalize u310.heap.size = b95 at *
            have HLd := Lib.hid hL
            clear hL
            refine hK.out _ _ ⟨HB5.out, H9.out, H10.out⟩ (fun hHeld => ?_)
            clear hK K hHeld 
            refine norm_ (a' := ?_) ?_ ?_
            rotate_left
            · show Act.put _ (some 95) _ = _
              simp only [Act.put, List.setIfInBounds_toArray, List.set_cons_zero, List.set_cons_succ]
              rfl
            refine one_ (i := 7) (N := some 96) #[true, true, true, true, true, true, true, true, true, false, false, false] rfl rfl (by kernel_rfl) (by decide) (fun K hK => ?_)
            refine app1_step (by rfl) rfl (.tmp 93) (.tmp 95) 58 rfl 54 (.agg #[.int .i64 0, .int .i64 0, .string ⟨#[]⟩, .string ⟨#[]⟩]) 4 48 Try.underlying58 infoOp rfl (by decide) u6 rfl w.heap.size dn.length ((dn.map OpS.cells).flatten) HD.out ⟨b95, 0, none⟩ rfl (OpS.cells ⟨ik, ia, is_, io⟩) rfl (blkP_cells HLd.out) (by simp [OpS.cells, Value.oneCell']) (by omega) (by omega) HK.out.size ?_
            intro vd' u312 ho hg hat
            have n_HB2 := Lib.hid (HB2.out.grown hg (fun e_ => own_ne_blk HD.out HB2.out (by decide) e_.symm))
            have n_HB5 := Lib.hid (HB5.out.grown hg (fun e_ => own_ne_blk HD.out HB5.out (by decide) e_.symm))
            have n_H9 := Lib.hid (H9.out.grown hg (fun e_ => HD9.out e_.symm))
            have n_H10 := Lib.hid (H10.out.grown hg (fun e_ => own_ne_blk HD.out H10.out (by decide) e_.symm))
            have n_HW := Lib.hid (HW.out.kept hg (own_ne_own HW.out HD.out (by decide)))
            have n_HWS := Lib.hid (Sls.grown HWS.out hg HD.out (by decide))
            have n_HV := Lib.hid (Sl.grown HV.out hg HD.out (by decide))
            have n_HVn := Lib.hid (OwnP.grown HVn.out hg (own_ne_own HVn.out HD.out (by decide)))
            have n_HK := Lib.hid (HK.out.grown hg HK.out.size (fun k_ e_ => (HD.out.lt k_ e_).1))
            have n_HD := Lib.hid ho
            clear ho hg hat HLd HD HD9 hnm HB2 HB5 H9 H10 HW HWS HV HVn HK
            have HB2 := n_HB2
            have HB5 := n_HB5
            have H9 := n_H9
            have H10 := n_H10
            have HW := n_HW
            have HWS := n_HWS
            have HV := n_HV
            have HVn := n_HVn
            have HK := n_HK
            have HD := n_HD
            clear n_HB2 n_HB5 n_H9 n_H10 n_HW n_HWS n_HV n_HVn n_HK n_HD
            refine hK.out _ _ ⟨HB5.out, H9.out, H10.out⟩ (fun hHeld => ?_)
            clear hK K hHeld 
            refine norm_ (a' := ?_) ?_ ?_
            rotate_left
            · show Act.put _ (some 96) _ = _
              simp only [Act.put, List.setIfInBounds_toArray, List.set_cons_zero, List.set_cons_succ]
              rfl
            refine pure_ (i := 9) (N := some 7) (v := ?_) (a' := ?_) #[true, true, true, true, true, true, true, true, true, true, false, false] rfl rfl (by kernel_rfl) (fun _ _ _ h => h) (Or.inl ⟨by rfl, ?_⟩) ?_ ?_
            rotate_left
            · intro w'
              go_simp
              with_reducible rfl
            rotate_left
            · simp only [Act.put, List.setIfInBounds_toArray, List.set_cons_zero, List.set_cons_succ, i64_w, i32_w]
              rfl
            refine pure_ (i := 10) (N := some 6) (v := ?_) (a' := ?_) #[true, true, true, true, true, true, true, true, true, true, true, false] rfl rfl (by kernel_rfl) (fun _ _ _ h => h) (Or.inl ⟨by rfl, ?_⟩) ?_ ?_
            rotate_left
            · intro w'
              go_simp
              with_reducible rfl
            rotate_left
            · simp only [Act.put, List.setIfInBounds_toArray, List.set_cons_zero, List.set_cons_succ, i64_w, i32_w]
              rfl
            refine last_ (i := 11) (N := none) #[true, true, true, true, true, true, true, true, true, true, true, true] rfl rfl (by kernel_rfl) (by decide) (fun K hK => ?_)
            refine skip_ (w1 := u312.setRow g5 (shP num ((k : Int) + 1) kd' hd' Vn)) (by rfl) rfl (run_store_row 28 (.tmp 5) (.tmp 97) rfl g5 (shP num ((k : Int) + 1) kd' hd' Vn) rfl rfl 28 _ HB5.out (by kernel_rfl) rfl (shP_one (own_isl HVn.out))) ?_
            refine hK.out _ _ ?_
            clear hK K
            refine done_ (by kernel_rfl) ?_
            have n_HD := Lib.hid (own_setRow (cs' := (shP num ((k : Int) + 1) kd' hd' Vn)) HD.out HB5.out (by decide))
            have n_HW := Lib.hid (own_setRowN (cs' := (shP num ((k : Int) + 1) kd' hd' Vn)) HW.out HW5.out)
            have n_HWS := Lib.hid (Sls.setRow (shP num ((k : Int) + 1) kd' hd' Vn) HWS.out HB5.out (by decide))
            have n_HB2 := Lib.hid (blk_setRow_far HB2.out (shP num ((k : Int) + 1) kd' hd' Vn) HN25.out)
            have n_HV := Lib.hid (Sl.setRow (shP num ((k : Int) + 1) kd' hd' Vn) HV.out HB5.out (by decide))
            have n_HVn := Lib.hid (OwnP.setRow (cs' := (shP num ((k : Int) + 1) kd' hd' Vn)) HVn.out HB5.out (by decide))
            have n_HK := Lib.hid (setRow_below HK.out hG5 (shP num ((k : Int) + 1) kd' hd' Vn))
            have n_HB5 := Lib.hid (blk_setRow (cs' := (shP num ((k : Int) + 1) kd' hd' Vn)) HB5.out)
            clear HD HW HWS HB2 HV HVn HK HB5
            have HD := n_HD
            have HW := n_HW
            have HWS := n_HWS
            have HB2 := n_HB2
            have HV := n_HV
            have HVn := n_HVn
            have HK := n_HK
            have HB5 := n_HB5
            clear n_HD n_HW n_HWS n_HB2 n_HV n_HVn n_HK n_HB5
            clear H9 H10
            generalize u312.setRow g5 (shP num ((k : Int) + 1) kd' hd' Vn) = u313 at *
            go_wp2_with fail
            go_roundw
            case rel => exact ⟨k + 1, was ++ [⟨q, Vq⟩], dn ++ [⟨ik, ia, is_, io⟩], ⟨(k : Int) + 1, kd', hd', sl'⟩, Vn, by go_num, by omega, by omega, by simp; omega, Lib.hid (by rw [List.map_append]; exact .snoc HT.out HBK.out), Lib.hid HBK.out.2.1, HW2, HW5, Lib.hid (by rw [List.length_append, List.map_append, List.flatten_append]; simpa using HD.out), Lib.hid (by rw [List.length_append, List.map_append, List.flatten_append]; simpa using HW.out), Lib.hid (Sls.snoc HWS.out HV.out), HB2, HB5, Lib.hid (.inr HVn.out), HK⟩
            case measure => simp [intOf]; omega
          · refine value_ (w1 := u309.alloc (.cells #[.int .i64 ik, .int .i64 ia, .string is_, .string io] 54)) (v := .slice (some ⟨u309.heap.size, 0, none⟩) 1 1) (by rfl) rfl (by go_simp) ?_
            have hb5 := balloc (Below.refl u309.heap.size u309) (.cells #[.int .i64 ik, .int .i64 ia, .string is_, .string io] 54)
            have hL := Blk.new u309 54 #[.int .i64 ik, .int .i64 ia, .string is_, .string io]
            have hnm := Lib.hid (own_ne_new HD.out)
            have n_HD := Lib.hid (own_below HD.out hb5)
            have n_HW := Lib.hid (own_below HW.out hb5)
            have n_HWS := Lib.hid (Sls.below HWS.out hb5)
            have n_HB2 := Lib.hid (HB2.out.step hb5)
            have n_HB5 := Lib.hid (HB5.out.step hb5)
            have n_HV := Lib.hid (HV.out.below hb5)
            have n_HK := Lib.hid (bstep HK.out hb5)
            have n_H9 := Lib.hid (H9.out.step hb5)
            have n_H10 := Lib.hid (H10.out.step hb5)
            have n_HVn := Lib.hid (HVn.out.below hb5)
            have n_HLw := Lib.hid (HLw.out.step hb5)
            clear hb5 HD HW HWS HB2 HB5 HV HK H9 H10 HVn HLw
            have HD := n_HD
            have HW := n_HW
            have HWS := n_HWS
            have HB2 := n_HB2
            have HB5 := n_HB5
            have HV := n_HV
            have HK := n_HK
            have H9 := n_H9
            have H10 := n_H10
            have HVn := n_HVn
            have HLw := n_HLw
            clear n_HD n_HW n_HWS n_HB2 n_HB5 n_HV n_HK n_H9 n_H10 n_HVn n_HLw
            generalize u309.alloc (.cells #[.int .i64 ik, .int .i64 ia, .string is_, .string io] 54) = u314 at *
            generalize u309.heap.size = b95 at *
            have HLd := Lib.hid hL
            clear hL
            refine hK.out _ _ ⟨HB5.out, H9.out, H10.out⟩ (fun hHeld => ?_)
            clear hK K hHeld 
            refine norm_ (a' := ?_) ?_ ?_
            rotate_left
            · show Act.put _ (some 95) _ = _
              simp only [Act.put, List.setIfInBounds_toArray, List.set_cons_zero, List.set_cons_succ]
              rfl
            refine one_ (i := 3) (N := some 92) #[true, true, true, true, true, true, true, false, true, false, false, false] rfl rfl (by kernel_rfl) (by decide) (fun K hK => ?_)
            refine app1_step (by rfl) rfl (.tmp 89) (.tmp 91) 59 rfl 28 (.agg #[.int .u32 0, .int .u64 0, .int .i64 0, .string ⟨#[]⟩, .slice none 0 0]) 5 64 Try.underlying59 infoSh rfl (by decide) u7 rfl w.heap.size was.length ((was.map (WasR.cells num)).flatten) HW.out ⟨b91, 0, none⟩ rfl (WasR.cells num ⟨q, Vq⟩) rfl (blkP_cells HLw.out) (was_one (sl_isl HV.out)) (by omega) (by omega) HK.out.size ?_
            intro vw' u315 ho hg hat
            have n_HB2 := Lib.hid (HB2.out.grown hg (fun e_ => HW2.out e_.symm))
            have n_HB5 := Lib.hid (HB5.out.grown hg (fun e_ => HW5.out e_.symm))
            have n_H9 := Lib.hid (H9.out.grown hg (fun e_ => own_ne_blk HW.out H9.out (by decide) e_.symm))
            have n_H10 := Lib.hid (H10.out.grown hg (fun e_ => hnw.out e_.symm))
            have n_HD := Lib.hid (HD.out.kept hg (own_ne_own HD.out HW.out (by decide)))
            have n_HWS := Lib.hid (Sls.grown HWS.out hg HW.out (by decide))
            have n_HV := Lib.hid (Sl.grown HV.out hg HW.out (by decide))
            have n_HVn := Lib.hid (OwnP.grown HVn.out hg (own_ne_own HVn.out HW.out (by decide)))
            have n_HK := Lib.hid (HK.out.grown hg HK.out.size (fun k_ e_ => (HW.out.lt k_ e_).1))
            have n_HLd := Lib.hid (HLd.out.grown hg (fun e_ => own_ne_blk HW.out HLd.out (by decide) e_.symm))
            have nW2 := Lib.hid (show vw'.ownBlock ≠ some w.heap.size from fun e_ => by rcases hat with h_ | h_; (exact HW2.out (h_ ▸ e_)); (rw [h_] at e_; have h2_ := HB2.out.lt; have h3_ := Option.some.inj e_; omega))
            have nW5 := Lib.hid (show vw'.ownBlock ≠ some g5 from fun e_ => by rcases hat with h_ | h_; (exact HW5.out (h_ ▸ e_)); (rw [h_] at e_; have h2_ := HB5.out.lt; have h3_ := Option.some.inj e_; omega))
            have n_HW := Lib.hid ho
            clear ho hg hat HLw HW HW2 HW5 hnw hnl HB2 HB5 H9 H10 HD HWS HV HVn HK HLd
            have HB2 := n_HB2
            have HB5 := n_HB5
            have H9 := n_H9
            have H10 := n_H10
            have HD := n_HD
            have HWS := n_HWS
            have HV := n_HV
            have HVn := n_HVn
            have HK := n_HK
            have HLd := n_HLd
            have HW := n_HW
            have HW2 := nW2
            have HW5 := nW5
            clear nW2 nW5 n_HB2 n_HB5 n_H9 n_H10 n_HD n_HWS n_HV n_HVn n_HK n_HLd n_HW
            refine hK.out _ _ ⟨HB5.out, H9.out, H10.out⟩ (fun hHeld => ?_)
            clear hK K hHeld 
            refine norm_ (a' := ?_) ?_ ?_
            rotate_left
            · show Act.put _ (some 92) _ = _
              simp only [Act.put, List.setIfInBounds_toArray, List.set_cons_zero, List.set_cons_succ]
              rfl
            refine one_ (i := 7) (N := some 96) #[true, true, true, true, true, true, true, true, true, false, false, false] rfl rfl (by kernel_rfl) (by decide) (fun K hK => ?_)
            refine app1_step (by rfl) rfl (.tmp 93) (.tmp 95) 58 rfl 54 (.agg #[.int .i64 0, .int .i64 0, .string ⟨#[]⟩, .string ⟨#[]⟩]) 4 48 Try.underlying58 infoOp rfl (by decide) u6 rfl w.heap.size dn.length ((dn.map OpS.cells).flatten) HD.out ⟨b95, 0, none⟩ rfl (OpS.cells ⟨ik, ia, is_, io⟩) rfl (blkP_cells HLd.out) (by simp [OpS.cells, Value.oneCell']) (by omega) (by omega) HK.out.size ?_
            intro vd' u316 ho hg hat
            have n_HB2 := Lib.hid (HB2.out.grown hg (fun e_ => own_ne_blk HD.out HB2.out (by decide) e_.symm))
            have n_HB5 := Lib.hid (HB5.out.grown hg (fun e_ => own_ne_blk HD.out HB5.out (by decide) e_.symm))
            have n_H9 := Lib.hid (H9.out.grown hg (fun e_ => HD9.out e_.symm))
            have n_H10 := Lib.hid (H10.out.grown hg (fun e_ => own_ne_blk HD.out H10.out (by decide) e_.symm))
            have n_HW := Lib.hid (HW.out.kept hg (own_ne_own HW.out HD.out (by decide)))
            have n_HWS := Lib.hid (Sls.grown HWS.out hg HD.out (by decide))
            have n_HV := Lib.hid (Sl.grown HV.out hg HD.out (by decide))
            have n_HVn := Lib.hid (OwnP.grown HVn.out hg (own_ne_own HVn.out HD.out (by decide)))
            have n_HK := Lib.hid (HK.out.grown hg HK.out.size (fun k_ e_ => (HD.out.lt k_ e_).1))
            have n_HD := Lib.hid ho
            clear ho hg hat HLd HD HD9 hnm HB2 HB5 H9 H10 HW HWS HV HVn HK
            have HB2 := n_HB2
            have HB5 := n_HB5
            have H9 := n_H9
            have H10 := n_H10
            have HW := n_HW
            have HWS := n_HWS
            have HV := n_HV
            have HVn := n_HVn
            have HK := n_HK
            have HD := n_HD
            clear n_HB2 n_HB5 n_H9 n_H10 n_HW n_HWS n_HV n_HVn n_HK n_HD
            refine hK.out _ _ ⟨HB5.out, H9.out, H10.out⟩ (fun hHeld => ?_)
            clear hK K hHeld 
            refine norm_ (a' := ?_) ?_ ?_
            rotate_left
            · show Act.put _ (some 96) _ = _
              simp only [Act.put, List.setIfInBounds_toArray, List.set_cons_zero, List.set_cons_succ]
              rfl
            refine pure_ (i := 9) (N := some 7) (v := ?_) (a' := ?_) #[true, true, true, true, true, true, true, true, true, true, false, false] rfl rfl (by kernel_rfl) (fun _ _ _ h => h) (Or.inl ⟨by rfl, ?_⟩) ?_ ?_
            rotate_left
            · intro w'
              go_simp
              with_reducible rfl
            rotate_left
            · simp only [Act.put, List.setIfInBounds_toArray, List.set_cons_zero, List.set_cons_succ, i64_w, i32_w]
              rfl
            refine pure_ (i := 10) (N := some 6) (v := ?_) (a' := ?_) #[true, true, true, true, true, true, true, true, true, true, true, false] rfl rfl (by kernel_rfl) (fun _ _ _ h => h) (Or.inl ⟨by rfl, ?_⟩) ?_ ?_
            rotate_left
            · intro w'
              go_simp
              with_reducible rfl
            rotate_left
            · simp only [Act.put, List.setIfInBounds_toArray, List.set_cons_zero, List.set_cons_succ, i64_w, i32_w]
              rfl
            refine last_ (i := 11) (N := none) #[true, true, true, true, true, true, true, true, true, true, true, true] rfl rfl (by kernel_rfl) (by decide) (fun K hK => ?_)
            refine skip_ (w1 := u316.setRow g5 (shP num ((k : Int) + 1) kd' hd' Vn)) (by rfl) rfl (run_store_row 28 (.tmp 5) (.tmp 97) rfl g5 (shP num ((k : Int) + 1) kd' hd' Vn) rfl rfl 28 _ HB5.out (by kernel_rfl) rfl (shP_one (own_isl HVn.out))) ?_
            refine hK.out _ _ ?_
            clear hK K
            refine done_ (by kernel_rfl) ?_
            have n_HD := Lib.hid (own_setRow (cs' := (shP num ((k : Int) + 1) kd' hd' Vn)) HD.out HB5.out (by decide))
            have n_HW := Lib.hid (own_setRowN (cs' := (shP num ((k : Int) + 1) kd' hd' Vn)) HW.out HW5.out)
            have n_HWS := Lib.hid (Sls.setRow (shP num ((k : Int) + 1) kd' hd' Vn) HWS.out HB5.out (by decide))
            have n_HB2 := Lib.hid (blk_setRow_far HB2.out (shP num ((k : Int) + 1) kd' hd' Vn) HN25.out)
            have n_HV := Lib.hid (Sl.setRow (shP num ((k : Int) + 1) kd' hd' Vn) HV.out HB5.out (by decide))
            have n_HVn := Lib.hid (OwnP.setRow (cs' := (shP num ((k : Int) + 1) kd' hd' Vn)) HVn.out HB5.out (by decide))
            have n_HK := Lib.hid (setRow_below HK.out hG5 (shP num ((k : Int) + 1) kd' hd' Vn))
            have n_HB5 := Lib.hid (blk_setRow (cs' := (shP num ((k : Int) + 1) kd' hd' Vn)) HB5.out)
            clear HD HW HWS HB2 HV HVn HK HB5
            have HD := n_HD
            have HW := n_HW
            have HWS := n_HWS
            have HB2 := n_HB2
            have HV := n_HV
            have HVn := n_HVn
            have HK := n_HK
            have HB5 := n_HB5
            clear n_HD n_HW n_HWS n_HB2 n_HV n_HVn n_HK n_HB5
            clear H9 H10
            generalize u316.setRow g5 (shP num ((k : Int) + 1) kd' hd' Vn) = u317 at *
            go_wp2_with fail
            go_roundw
            case rel => exact ⟨k + 1, was ++ [⟨q, Vq⟩], dn ++ [⟨ik, ia, is_, io⟩], ⟨(k : Int) + 1, kd', hd', sl'⟩, Vn, by go_num, by omega, by omega, by simp; omega, Lib.hid (by rw [List.map_append]; exact .snoc HT.out HBK.out), Lib.hid HBK.out.2.1, HW2, HW5, Lib.hid (by rw [List.length_append, List.map_append, List.flatten_append]; simpa using HD.out), Lib.hid (by rw [List.length_append, List.map_append, List.flatten_append]; simpa using HW.out), Lib.hid (Sls.snoc HWS.out HV.out), HB2, HB5, Lib.hid (.inr HVn.out), HK⟩
            case measure => simp [intOf]; omega
        · refine value_ (w1 := u308.alloc (.cells #[.int .i64 ik, .int .i64 ia, .string is_, .string io] 54)) (v := .slice (some ⟨u308.heap.size, 0, none⟩) 1 1) (by rfl) rfl (by go_simp) ?_
          have hb5 := balloc (Below.refl u308.heap.size u308) (.cells #[.int .i64 ik, .int .i64 ia, .string is_, .string io] 54)
          have hL := Blk.new u308 54 #[.int .i64 ik, .int .i64 ia, .string is_, .string io]
          have hnm := Lib.hid (own_ne_new HD.out)
          have n_HD := Lib.hid (own_below HD.out hb5)
          have n_HW := Lib.hid (own_below HW.out hb5)
          have n_HWS := Lib.hid (Sls.below HWS.out hb5)
          have n_HB2 := Lib.hid (HB2.out.step hb5)
          have n_HB5 := Lib.hid (HB5.out.step hb5)
          have n_HV := Lib.hid (HV.out.below hb5)
          have n_HK := Lib.hid (bstep HK.out hb5)
          have n_H9 := Lib.hid (H9.out.step hb5)
          have n_H10 := Lib.hid (H10.out.step hb5)
          have n_HVn := Lib.hid (HVn.out.below hb5)
          clear hb5 HD HW HWS HB2 HB5 HV HK H9 H10 HVn
          have HD := n_HD
          have HW := n_HW
          have HWS := n_HWS
          have HB2 := n_HB2
          have HB5 := n_HB5
          have HV := n_HV
          have HK := n_HK
          have H9 := n_H9
          have H10 := n_H10
          have HVn := n_HVn
          clear n_HD n_HW n_HWS n_HB2 n_HB5 n_HV n_HK n_H9 n_H10 n_HVn
          generalize u308.alloc (.cells #[.int .i64 ik, .int .i64 ia, .string is_, .string io] 54) = u318 at *
          generalize u308.heap.size = b95 at *
          have HLd := Lib.hid hL
          clear hL
          refine hK.out _ _ ⟨HB5.out, H9.out, H10.out⟩ (fun hHeld => ?_)
          clear hK K hHeld 
          refine norm_ (a' := ?_) ?_ ?_
          rotate_left
          · show Act.put _ (some 95) _ = _
            simp only [Act.put, List.setIfInBounds_toArray, List.set_cons_zero, List.set_cons_succ]
            rfl
          refine one_ (i := 2) (N := some 91) #[true, true, true, false, true, true, true, false, true, false, false, false] rfl rfl (by kernel_rfl) (by decide) (fun K hK => ?_)
          refine value_ (w1 := u318.alloc (.cells #[.int .u32 num, .int .u64 q.lsn, .int .i64 q.kind, .string q.head, Vq] 28)) (v := .slice (some ⟨u318.heap.size, 0, none⟩) 1 1) (by rfl) rfl (by go_simp) ?_
          have hb5 := balloc (Below.refl u318.heap.size u318) (.cells #[.int .u32 num, .int .u64 q.lsn, .int .i64 q.kind, .string q.head, Vq] 28)
          have hL := Blk.new u318 28 #[.int .u32 num, .int .u64 q.lsn, .int .i64 q.kind, .string q.head, Vq]
          have hnl := Lib.hid (own_ne_new HW.out)
          have hm1 : Hid (b95 ≠ u318.heap.size) := Lib.hid (Nat.ne_of_lt HLd.out.lt)
          have n_HD := Lib.hid (own_below HD.out hb5)
          have n_HW := Lib.hid (own_below HW.out hb5)
          have n_HWS := Lib.hid (Sls.below HWS.out hb5)
          have n_HB2 := Lib.hid (HB2.out.step hb5)
          have n_HB5 := Lib.hid (HB5.out.step hb5)
          have n_HV := Lib.hid (HV.out.below hb5)
          have n_HK := Lib.hid (bstep HK.out hb5)
          have n_H9 := Lib.hid (H9.out.step hb5)
          have n_H10 := Lib.hid (H10.out.step hb5)
          have n_HVn := Lib.hid (HVn.out.below hb5)
          have n_HLd := Lib.hid (HLd.out.step hb5)
          clear hb5 HD HW HWS HB2 HB5 HV HK H9 H10 HVn HLd
          have HD := n_HD
          have HW := n_HW
          have HWS := n_HWS
          have HB2 := n_HB2
          have HB5 := n_HB5
          have HV := n_HV
          have HK := n_HK
          have H9 := n_H9
          have H10 := n_H10
          have HVn := n_HVn
          have HLd := n_HLd
          clear n_HD n_HW n_HWS n_HB2 n_HB5 n_HV n_HK n_H9 n_H10 n_HVn n_HLd
          generalize u318.alloc (.cells #[.int .u32 num, .int .u64 q.lsn, .int .i64 q.kind, .string q.head, Vq] 28) = u319 at *
          generalize u318.heap.size = b91 at *
          have HLw := Lib.hid hL
          clear hL
          refine hK.out _ _ ⟨HB5.out, H9.out, H10.out⟩ (fun hHeld => ?_)
          clear hK K hHeld 
          refine norm_ (a' := ?_) ?_ ?_
          rotate_left
          · show Act.put _ (some 91) _ = _
            simp only [Act.put, List.setIfInBounds_toArray, List.set_cons_zero, List.set_cons_succ]
            rfl
          refine one_ (i := 3) (N := some 92) #[true, true, true, true, true, true, true, false, true, false, false, false] rfl rfl (by kernel_rfl) (by decide) (fun K hK => ?_)
          refine app1_step (by rfl) rfl (.tmp 89) (.tmp 91) 59 rfl 28 (.agg #[.int .u32 0, .int .u64 0, .int .i64 0, .string ⟨#[]⟩, .slice none 0 0]) 5 64 Try.underlying59 infoSh rfl (by decide) u7 rfl w.heap.size was.length ((was.map (WasR.cells num)).flatten) HW.out ⟨b91, 0, none⟩ rfl (WasR.cells num ⟨q, Vq⟩) rfl (blkP_cells HLw.out) (was_one (sl_isl HV.out)) (by omega) (by omega) HK.out.size ?_
          intro vw' u320 ho hg hat
          have n_HB2 := Lib.hid (HB2.out.grown hg (fun e_ => HW2.out e_.symm))
          have n_HB5 := Lib.hid (HB5.out.grown hg (fun e_ => HW5.out e_.symm))
          have n_H9 := Lib.hid (H9.out.grown hg (fun e_ => own_ne_blk HW.out H9.out (by decide) e_.symm))
          have n_H10 := Lib.hid (H10.out.grown hg (fun e_ => hnw.out e_.symm))
          have n_HD := Lib.hid (HD.out.kept hg (own_ne_own HD.out HW.out (by decide)))
          have n_HWS := Lib.hid (Sls.grown HWS.out hg HW.out (by decide))
          have n_HV := Lib.hid (Sl.grown HV.out hg HW.out (by decide))
          have n_HVn := Lib.hid (OwnP.grown HVn.out hg (own_ne_own HVn.out HW.out (by decide)))
          have n_HK := Lib.hid (HK.out.grown hg HK.out.size (fun k_ e_ => (HW.out.lt k_ e_).1))
          have n_HLd := Lib.hid (HLd.out.grown hg (fun e_ => own_ne_blk HW.out HLd.out (by decide) e_.symm))
          have nW2 := Lib.hid (show vw'.ownBlock ≠ some w.heap.size from fun e_ => by rcases hat with h_ | h_; (exact HW2.out (h_ ▸ e_)); (rw [h_] at e_; have h2_ := HB2.out.lt; have h3_ := Option.some.inj e_; omega))
          have nW5 := Lib.hid (show vw'.ownBlock ≠ some g5 from fun e_ => by rcases hat with h_ | h_; (exact HW5.out (h_ ▸ e_)); (rw [h_] at e_; have h2_ := HB5.out.lt; have h3_ := Option.some.inj e_; omega))
          have n_HW := Lib.hid ho
          clear ho hg hat HLw HW HW2 HW5 hnw hnl HB2 HB5 H9 H10 HD HWS HV HVn HK HLd
          have HB2 := n_HB2
          have HB5 := n_HB5
          have H9 := n_H9
          have H10 := n_H10
          have HD := n_HD
          have HWS := n_HWS
          have HV := n_HV
          have HVn := n_HVn
          have HK := n_HK
          have HLd := n_HLd
          have HW := n_HW
          have HW2 := nW2
          have HW5 := nW5
          clear nW2 nW5 n_HB2 n_HB5 n_H9 n_H10 n_HD n_HWS n_HV n_HVn n_HK n_HLd n_HW
          refine hK.out _ _ ⟨HB5.out, H9.out, H10.out⟩ (fun hHeld => ?_)
          clear hK K hHeld 
          refine norm_ (a' := ?_) ?_ ?_
          rotate_left
          · show Act.put _ (some 92) _ = _
            simp only [Act.put, List.setIfInBounds_toArray, List.set_cons_zero, List.set_cons_succ]
            rfl
          refine one_ (i := 7) (N := some 96) #[true, true, true, true, true, true, true, true, true, false, false, false] rfl rfl (by kernel_rfl) (by decide) (fun K hK => ?_)
          refine app1_step (by rfl) rfl (.tmp 93) (.tmp 95) 58 rfl 54 (.agg #[.int .i64 0, .int .i64 0, .string ⟨#[]⟩, .string ⟨#[]⟩]) 4 48 Try.underlying58 infoOp rfl (by decide) u6 rfl w.heap.size dn.length ((dn.map OpS.cells).flatten) HD.out ⟨b95, 0, none⟩ rfl (OpS.cells ⟨ik, ia, is_, io⟩) rfl (blkP_cells HLd.out) (by simp [OpS.cells, Value.oneCell']) (by omega) (by omega) HK.out.size ?_
          intro vd' u321 ho hg hat
          have n_HB2 := Lib.hid (HB2.out.grown hg (fun e_ => own_ne_blk HD.out HB2.out (by decide) e_.symm))
          have n_HB5 := Lib.hid (HB5.out.grown hg (fun e_ => own_ne_blk HD.out HB5.out (by decide) e_.symm))
          have n_H9 := Lib.hid (H9.out.grown hg (fun e_ => HD9.out e_.symm))
          have n_H10 := Lib.hid (H10.out.grown hg (fun e_ => own_ne_blk HD.out H10.out (by decide) e_.symm))
          have n_HW := Lib.hid (HW.out.kept hg (own_ne_own HW.out HD.out (by decide)))
          have n_HWS := Lib.hid (Sls.grown HWS.out hg HD.out (by decide))
          have n_HV := Lib.hid (Sl.grown HV.out hg HD.out (by decide))
          have n_HVn := Lib.hid (OwnP.grown HVn.out hg (own_ne_own HVn.out HD.out (by decide)))
          have n_HK := Lib.hid (HK.out.grown hg HK.out.size (fun k_ e_ => (HD.out.lt k_ e_).1))
          have n_HD := Lib.hid ho
          clear ho hg hat HLd HD HD9 hnm HB2 HB5 H9 H10 HW HWS HV HVn HK
          have HB2 := n_HB2
          have HB5 := n_HB5
          have H9 := n_H9
          have H10 := n_H10
          have HW := n_HW
          have HWS := n_HWS
          have HV := n_HV
          have HVn := n_HVn
          have HK := n_HK
          have HD := n_HD
          clear n_HB2 n_HB5 n_H9 n_H10 n_HW n_HWS n_HV n_HVn n_HK n_HD
          refine hK.out _ _ ⟨HB5.out, H9.out, H10.out⟩ (fun hHeld => ?_)
          clear hK K hHeld 
          refine norm_ (a' := ?_) ?_ ?_
          rotate_left
          · show Act.put _ (some 96) _ = _
            simp only [Act.put, List.setIfInBounds_toArray, List.set_cons_zero, List.set_cons_succ]
            rfl
          refine pure_ (i := 9) (N := some 7) (v := ?_) (a' := ?_) #[true, true, true, true, true, true, true, true, true, true, false, false] rfl rfl (by kernel_rfl) (fun _ _ _ h => h) (Or.inl ⟨by rfl, ?_⟩) ?_ ?_
          rotate_left
          · intro w'
            go_simp
            with_reducible rfl
          rotate_left
          · simp only [Act.put, List.setIfInBounds_toArray, List.set_cons_zero, List.set_cons_succ, i64_w, i32_w]
            rfl
          refine pure_ (i := 10) (N := some 6) (v := ?_) (a' := ?_) #[true, true, true, true, true, true, true, true, true, true, true, false] rfl rfl (by kernel_rfl) (fun _ _ _ h => h) (Or.inl ⟨by rfl, ?_⟩) ?_ ?_
          rotate_left
          · intro w'
            go_simp
            with_reducible rfl
          rotate_left
          · simp only [Act.put, List.setIfInBounds_toArray, List.set_cons_zero, List.set_cons_succ, i64_w, i32_w]
            rfl
          refine last_ (i := 11) (N := none) #[true, true, true, true, true, true, true, true, true, true, true, true] rfl rfl (by kernel_rfl) (by decide) (fun K hK => ?_)
          refine skip_ (w1 := u321.setRow g5 (shP num ((k : Int) + 1) kd' hd' Vn)) (by rfl) rfl (run_store_row 28 (.tmp 5) (.tmp 97) rfl g5 (shP num ((k : Int) + 1) kd' hd' Vn) rfl rfl 28 _ HB5.out (by kernel_rfl) rfl (shP_one (own_isl HVn.out))) ?_
          refine hK.out _ _ ?_
          clear hK K
          refine done_ (by kernel_rfl) ?_
          have n_HD := Lib.hid (own_setRow (cs' := (shP num ((k : Int) + 1) kd' hd' Vn)) HD.out HB5.out (by decide))
          have n_HW := Lib.hid (own_setRowN (cs' := (shP num ((k : Int) + 1) kd' hd' Vn)) HW.out HW5.out)
          have n_HWS := Lib.hid (Sls.setRow (shP num ((k : Int) + 1) kd' hd' Vn) HWS.out HB5.out (by decide))
          have n_HB2 := Lib.hid (blk_setRow_far HB2.out (shP num ((k : Int) + 1) kd' hd' Vn) HN25.out)
          have n_HV := Lib.hid (Sl.setRow (shP num ((k : Int) + 1) kd' hd' Vn) HV.out HB5.out (by decide))
          have n_HVn := Lib.hid (OwnP.setRow (cs' := (shP num ((k : Int) + 1) kd' hd' Vn)) HVn.out HB5.out (by decide))
          have n_HK := Lib.hid (setRow_below HK.out hG5 (shP num ((k : Int) + 1) kd' hd' Vn))
          have n_HB5 := Lib.hid (blk_setRow (cs' := (shP num ((k : Int) + 1) kd' hd' Vn)) HB5.out)
          clear HD HW HWS HB2 HV HVn HK HB5
          have HD := n_HD
          have HW := n_HW
          have HWS := n_HWS
          have HB2 := n_HB2
          have HV := n_HV
          have HVn := n_HVn
          have HK := n_HK
          have HB5 := n_HB5
          clear n_HD n_HW n_HWS n_HB2 n_HV n_HVn n_HK n_HB5
          clear H9 H10
          generalize u321.setRow g5 (shP num ((k : Int) + 1) kd' hd' Vn) = u322 at *
          go_wp2_with fail
          go_roundw
          case rel => exact ⟨k + 1, was ++ [⟨q, Vq⟩], dn ++ [⟨ik, ia, is_, io⟩], ⟨(k : Int) + 1, kd', hd', sl'⟩, Vn, by go_num, by omega, by omega, by simp; omega, Lib.hid (by rw [List.map_append]; exact .snoc HT.out HBK.out), Lib.hid HBK.out.2.1, HW2, HW5, Lib.hid (by rw [List.length_append, List.map_append, List.flatten_append]; simpa using HD.out), Lib.hid (by rw [List.length_append, List.map_append, List.flatten_append]; simpa using HW.out), Lib.hid (Sls.snoc HWS.out HV.out), HB2, HB5, Lib.hid (.inr HVn.out), HK⟩
          case measure => simp [intOf]; omega
      · have hne : (f != 0) = true := by simp [hf]
        go_wp2_with fail
        go_roundw
        case rel => exact ⟨k + 1, was, dn, q, Vq, by go_num, by omega, by omega, by omega, HT, HOK, HW2, HW5, HD, HW, HWS, HB2, HB5, HV, HK⟩
        case measure => simp [intOf]; omega
  case rest =>
  obtain ⟨was, dn, q, Vq, hdl, HT, HOK, HW5n, k0, k1, k2, k3, k4, k5, k6⟩ := hcut
  clear HB2 HB5 HK HD0 HW0 HV0 HW2 HW5
  have HW5 := HW5n
  clear HW5n
  have HD := k0
  have HW := k1
  have HWS := k2
  have HB2 := k3
  have HB5 := k4
  have HV := k5
  have HK := k6
  clear k0 k1 k2 k3 k4 k5 k6
  have hwl : was.length = dn.length := by have h_ := HT.out.len; rw [List.length_map] at h_; exact h_
  obtain ⟨Ad, cd, hvd⟩ := own_sl HD.out
  subst hvd
  obtain ⟨Aw, cw, hvw⟩ := own_sl HW.out
  subst hvw
  have HT0 := Lib.hid (show Trail num p ((was.take dn.length).map WasR.pg) (dn.take dn.length) q by rw [List.take_length, ← hwl, List.take_length]; exact HT.out)
  have HWL := Lib.hid hwl
  clear HT hwl
  go_wp2_with fail
  go_loopw [12] (fun jv wr => ∃ (m : Nat) (j : Int) (q : PgS) (Vq : Value), jv = .int .i64 j ∧ j = (m : Int) - 1 ∧ m ≤ dn.length ∧ Hid (Trail num p ((was.take m).map WasR.pg) (dn.take m) q) ∧ Hid (PgOk q.kind q.head q.slots) ∧ Hid (wr.ownsRow w.heap.size 54 4 (.slice Ad dn.length cd) dn.length (dn.map OpS.cells).flatten) ∧ Hid (wr.ownsRow w.heap.size 28 5 (.slice Aw was.length cw) was.length (was.map (WasR.cells num)).flatten) ∧ Hid (Sls w wr was) ∧ Hid (Blk wr w.heap.size 28 (shP num p.lsn p.kind p.head (.slice A p.slots.length c))) ∧ Hid (Blk wr g5 28 (shP num q.lsn q.kind q.head Vq)) ∧ Hid (Sl w wr Vq q.slots) ∧ Hid (Below w.heap.size w wr))
    (fun jv _ => (intOf jv + 1).toNat)
  case atStart => exact ⟨dn.length, (dn.length : Int) - 1, q, Vq, by go_num, rfl, Nat.le_refl _, HT0, HOK, HD, HW, HWS, HB2, HB5, HV, HK⟩
  case round =>
    clear HT0 HOK HD HW HWS HB2 HB5 HV HK
    obtain ⟨m0, j, q, Vq, rfl, hj, hm, HT, HOK, HD, HW, HWS, HB2, HB5, HV, HK⟩ := hrel
    cases m0 with
    | zero =>
      obtain rfl : j = -1 := by omega
      obtain ⟨ql, qk, qh, qs⟩ := q
      have h3_ := HT.out
      simp only [List.take_zero, List.map_nil] at h3_
      obtain ⟨e1, e2, e3⟩ := h3_.none
      simp only at e1 e2 e3
      subst e1 e2 e3
      have HB5n := Lib.hid (show Blk wr g5 28 (shP num ql p.kind p.head Vq) from HB5.out)
      have HVn := Lib.hid (show Sl w wr Vq p.slots from HV.out)
      clear hj hm HT h3_ HB5 HV HD HW HWS HOK
      have HB5 := HB5n
      have HV := HVn
      clear HB5n HVn
      go_wp2_with (first | (go_at_call 13; refine (awake_any _).mono ?_; rintro e w9 ⟨rfl, hb5⟩; have n_HB2 := Lib.hid (HB2.out.step hb5); have n_HB5 := Lib.hid (HB5.out.step hb5); have n_HV := Lib.hid (HV.out.below hb5); have n_HK := Lib.hid (bstep HK.out hb5); clear hb5 HB2 HB5 HV HK; have HB2 := n_HB2; have HB5 := n_HB5; have HV := n_HV; have HK := n_HK; clear n_HB2 n_HB5 n_HV n_HK) | (with_reducible (refine isList ?_; with_unfolding_all refine wpList_load_row_on rfl 28 (.tmp 5) rfl g5 (by kernel_rfl) 28 (shP num ql p.kind p.head Vq) (0, 0) _ HB5.out Try.underlying28 rfl (by kernel_rfl) ?_)) | (with_reducible (refine isList ?_; with_unfolding_all refine wpList_load_row_on rfl 28 (.tmp 2) rfl w.heap.size (by kernel_rfl) 28 (shP num p.lsn p.kind p.head (.slice A p.slots.length c)) (0, 0) _ HB2.out Try.underlying28 rfl (by kernel_rfl) ?_)) | (go_at_call 17; refine (same_sl num ql p.lsn p.kind p.head HV.out (.inl ⟨A, c, rfl, hc, hC.out⟩) HK.out h2).mono ?_; rintro e w10 ⟨rfl, hb5⟩; have n_ := Lib.hid (bstep HK.out hb5); clear HK hb5; have HK := n_; clear n_))
      go_ret
      exact ⟨rfl, HK.out⟩
    | succ m =>
      obtain rfl : j = (m : Int) := by omega
      have hmd : m < dn.length := by omega
      have hmw : m < was.length := by rw [HWL.out]; exact hmd
      obtain ⟨hbk, htr⟩ := Trail.at hmw hmd HT.out
      obtain ⟨bd, hAd, _⟩ := doneEl HD.out hmd
      subst hAd
      obtain ⟨bw, hAw, _⟩ := wasEl HW.out hmw
      subst hAw
      obtain ⟨⟨⟨pl, pk, ph, ps⟩, pv⟩, hwm⟩ : ∃ x_, was[m] = x_ := ⟨_, rfl⟩
      obtain ⟨⟨xk, xa, xs, xo⟩, hdm⟩ : ∃ x_, dn[m] = x_ := ⟨_, rfl⟩
      rw [hwm, hdm] at hbk
      rw [hwm] at htr
      have HBK := Lib.hid hbk
      have HTR := Lib.hid htr
      have HWM := Lib.hid hwm
      have HDM := Lib.hid hdm
      clear hbk htr hwm hdm HT hj
      have i0_ : (0 : Int) ≤ m := by omega
      have i1_ : (m : Int) < dn.length := by omega
      have i2_ : (m : Int) < was.length := by omega
      go_upto_region 19 with fail
      go_cut [13, 14] from 105 to 113 (fun v13 v14 wx => ∃ g13 Vn, v13 = .pointer (some ⟨g13, 0, none⟩) ∧ v14 = .int .i64 0 ∧ w.heap.size ≤ g13 ∧ Hid (Value.ownBlock (.slice (some ⟨bw, 0, none⟩) was.length cw) ≠ some g13) ∧ Hid (Blk wx g13 28 (shP num 7 pk ph Vn)) ∧ Hid (OwnP wx w.heap.size Vn ps) ∧ Hid (wx.ownsRow w.heap.size 54 4 (.slice (some ⟨bd, 0, none⟩) dn.length cd) dn.length (dn.map OpS.cells).flatten) ∧ Hid (wx.ownsRow w.heap.size 28 5 (.slice (some ⟨bw, 0, none⟩) was.length cw) was.length (was.map (WasR.cells num)).flatten) ∧ Hid (Sls w wx was) ∧ Hid (Blk wx w.heap.size 28 (shP num p.lsn p.kind p.head (.slice A p.slots.length c))) ∧ Hid (Blk wx g5 28 (shP num q.lsn q.kind q.head Vq)) ∧ Hid (Sl w wx Vq q.slots) ∧ Hid (Below w.heap.size w wx))
      case first =>
        obtain ⟨e0, e1, e2, e3⟩ := doneAt HD.out hmd HDM.out
        simp only at e0 e1 e2 e3
        refine start_ (n := 12) (S := fun w' => Blk w' g5 28 (shP num q.lsn q.kind q.head Vq) ∧ w'.cell? ⟨bd, m * 4, none⟩ = some (.int .i64 xk) ∧ w'.cell? ⟨bd, m * 4 + 1, none⟩ = some (.int .i64 xa) ∧ w'.cell? ⟨bd, m * 4 + 2, none⟩ = some (.string xs) ∧ w'.cell? ⟨bd, m * 4 + 3, none⟩ = some (.string xo)) (ds := [10]) #[false, false, false, false, false, false, false, false, false, false, false, false] (by kernel_rfl) rfl rfl ⟨HB5.out, e0, e1, e2, e3⟩ (fun hHeld => ?_)
        refine pure_ (i := 1) (N := some 107) (v := ?_) (a' := ?_) #[false, true, false, false, false, false, false, false, false, false, false, false] rfl rfl (by kernel_rfl) (fun _ _ _ h => h) (Or.inl ⟨by rfl, ?_⟩) ?_ ?_
        rotate_left
        · intro w'
          go_simp
          with_reducible rfl
        rotate_left
        · simp only [Act.put, List.setIfInBounds_toArray, List.set_cons_zero, List.set_cons_succ, i64_w, i32_w]
          rfl
        refine pure_ (i := 2) (N := some 108) (v := ?_) (a' := ?_) #[false, true, true, false, false, false, false, false, false, false, false, false] rfl rfl (by kernel_rfl) (fun _ _ _ h => h) (Or.inl ⟨by rfl, ?_⟩) ?_ ?_
        rotate_left
        · intro w'
          go_simp
          with_reducible rfl
        rotate_left
        · simp only [Act.put, List.setIfInBounds_toArray, List.set_cons_zero, List.set_cons_succ, i64_w, i32_w]
          rfl
        refine pure_ (i := 3) (N := some 109) (v := ?_) (a' := ?_) #[false, true, true, true, false, false, false, false, false, false, false, false] rfl rfl (by kernel_rfl) (fun _ _ _ h => h) (Or.inl ⟨by rfl, ?_⟩) ?_ ?_
        rotate_left
        · intro w'
          go_simp
          with_reducible rfl
        rotate_left
        · simp only [Act.put, List.setIfInBounds_toArray, List.set_cons_zero, List.set_cons_succ, i64_w, i32_w]
          rfl
        refine take_ (i := 0) (N := some 106) (v := .agg (shP num q.lsn q.kind q.head Vq)) (a' := ?_) #[true, true, true, true, false, false, false, false, false, false, false, false] rfl rfl (by kernel_rfl) (fun _ _ _ h => h) (yields_row 28 (.tmp 5) rfl (by rfl) g5 rfl 28 (shP num q.lsn q.kind q.head Vq) (0, 0) _ (fun w_ h => h.1) Try.underlying28 rfl (by kernel_rfl)) hHeld ?_ ?_
        rotate_left
        · simp only [Act.put, List.setIfInBounds_toArray, List.set_cons_zero, List.set_cons_succ]
          rfl
        refine take_ (i := 4) (N := some 110) (v := .agg #[.int .i64 xk, .int .i64 xa, .string xs, .string xo]) (a' := ?_) #[true, true, true, true, true, false, false, false, false, false, false, false] rfl rfl (by kernel_rfl) (fun _ _ _ h => h) (Or.inl ⟨by rfl, ?_⟩) hHeld ?_ ?_
        · rintro w' ⟨s0, s1, s2, s3, s4⟩
          go_simp
        rotate_left
        · simp only [Act.put, List.setIfInBounds_toArray, List.set_cons_zero, List.set_cons_succ]
          rfl
        clear hHeld e0 e1 e2 e3
        have hb5 := bdrew (Below.refl wr.heap.size wr)
        have n_HD := Lib.hid (own_below HD.out hb5)
        have n_HW := Lib.hid (own_below HW.out hb5)
        have n_HWS := Lib.hid (Sls.below HWS.out hb5)
        have n_HB2 := Lib.hid (HB2.out.step hb5)
        have n_HB5 := Lib.hid (HB5.out.step hb5)
        have n_HV := Lib.hid (HV.out.below hb5)
        have n_HK := Lib.hid (bstep HK.out hb5)
        clear hb5 HD HW HWS HB2 HB5 HV HK
        have HD := n_HD
        have HW := n_HW
        have HWS := n_HWS
        have HB2 := n_HB2
        have HB5 := n_HB5
        have HV := n_HV
        have HK := n_HK
        clear n_HD n_HW n_HWS n_HB2 n_HB5 n_HV n_HK
        generalize wr.drew = u327 at *
        refine two_ (i := 5) (j := 9) (Ni := some 111) (Nj := some 13) #[true, true, true, true, true, true, false, false, false, false, false, false] #[true, true, true, true, true, false, false, false, false, true, false, false] rfl rfl rfl rfl (by kernel_rfl) (by decide) (by decide) (fun K hK => ?_) (fun K hK => ?_)
        · refine goes_ Try.func23 (by kernel_rfl) rfl #[.agg (shP num q.lsn q.kind q.head Vq), .agg #[.int .i64 xk, .int .i64 xa, .string xs, .string xo], .int .u64 7] (by rfl) rfl rfl (by (try simp only [List.map_toArray, List.map_cons, List.map_nil]); first | done | rfl) ?_
          refine (ap_sl num q.lsn q.kind q.head xk xa xs xo 7 HV.out HK.out HOK.out (HBK.out.2.2 q.lsn 7)).mono ?_
          rintro e_ u328 ⟨Vn, rfl, ho, hb5⟩
          have HVn := Lib.hid ho
          clear ho
          have n_HD := Lib.hid (own_below HD.out hb5)
          have n_HW := Lib.hid (own_below HW.out hb5)
          have n_HWS := Lib.hid (Sls.below HWS.out hb5)
          have n_HB2 := Lib.hid (HB2.out.step hb5)
          have n_HB5 := Lib.hid (HB5.out.step hb5)
          have n_HV := Lib.hid (HV.out.below hb5)
          have n_HK := Lib.hid (bstep HK.out hb5)
          clear hb5 HD HW HWS HB2 HB5 HV HK
          have HD := n_HD
          have HW := n_HW
          have HWS := n_HWS
          have HB2 := n_HB2
          have HB5 := n_HB5
          have HV := n_HV
          have HK := n_HK
          clear n_HD n_HW n_HWS n_HB2 n_HB5 n_HV n_HK
          refine ⟨_, rfl, ?_⟩
          obtain ⟨e0, e1, e2, e3⟩ := doneAt HD.out hmd HDM.out
          simp only at e0 e1 e2 e3
          refine hK.out _ _ ⟨HB5.out, e0, e1, e2, e3⟩ (fun hHeld => ?_)
          clear hK K hHeld e0 e1 e2 e3
          refine norm_ (a' := ?_) ?_ ?_
          rotate_left
          · show Act.put _ (some 111) _ = _
            simp only [Act.put, List.setIfInBounds_toArray, List.set_cons_zero, List.set_cons_succ]
            rfl
          refine pure_ (i := 6) (N := some 105) (v := ?_) (a' := ?_) #[true, true, true, true, true, true, true, false, false, false, false, false] rfl rfl (by kernel_rfl) (fun _ _ _ h => h) (Or.inl ⟨by rfl, ?_⟩) ?_ ?_
          rotate_left
          · intro w'
            go_simp
            with_reducible rfl
          rotate_left
          · simp only [Act.put, List.setIfInBounds_toArray, List.set_cons_zero, List.set_cons_succ, i64_w, i32_w]
            rfl
          refine pure_ (i := 7) (N := some 112) (v := ?_) (a' := ?_) #[true, true, true, true, true, true, true, true, false, false, false, false] rfl rfl (by kernel_rfl) (fun _ _ _ h => h) (Or.inl ⟨by rfl, ?_⟩) ?_ ?_
          rotate_left
          · intro w'
            go_simp
            with_reducible rfl
          rotate_left
          · simp only [Act.put, List.setIfInBounds_toArray, List.set_cons_zero, List.set_cons_succ, i64_w, i32_w]
            rfl
          refine pure_ (i := 8) (N := some 113) (v := ?_) (a' := ?_) #[true, true, true, true, true, true, true, true, true, false, false, false] rfl rfl (by kernel_rfl) (fun _ _ _ h => h) (Or.inl ⟨by rfl, ?_⟩) ?_ ?_
          rotate_left
          · intro w'
            go_simp
            with_reducible rfl
          rotate_left
          · simp only [Act.put, List.setIfInBounds_toArray, List.set_cons_zero, List.set_cons_succ, i64_w, i32_w]
            rfl
          refine one_ (i := 9) (N := some 13) #[true, true, true, true, true, true, true, true, true, true, false, false] rfl rfl (by kernel_rfl) (by decide) (fun K hK => ?_)
          refine value_ (w1 := u328.alloc (.cells #[.int .u32 0, .int .u64 0, .int .i64 0, .string ⟨#[]⟩, .slice none 0 0] 28)) (v := .pointer (some ⟨u328.heap.size, 0, none⟩)) (by rfl) rfl (by go_simp) ?_
          have hb5 := balloc (Below.refl u328.heap.size u328) (.cells #[.int .u32 0, .int .u64 0, .int .i64 0, .string ⟨#[]⟩, .slice none 0 0] 28)
          have hL := Blk.new u328 28 #[.int .u32 0, .int .u64 0, .int .i64 0, .string ⟨#[]⟩, .slice none 0 0]
          have hG := HK.out.size
          have hn2 := Lib.hid (Nat.ne_of_lt HB2.out.lt)
          have hn5 := Lib.hid (Nat.ne_of_lt HB5.out.lt)
          have hnw := Lib.hid (own_ne_new HW.out)
          have n_HD := Lib.hid (own_below HD.out hb5)
          have n_HW := Lib.hid (own_below HW.out hb5)
          have n_HWS := Lib.hid (Sls.below HWS.out hb5)
          have n_HB2 := Lib.hid (HB2.out.step hb5)
          have n_HB5 := Lib.hid (HB5.out.step hb5)
          have n_HV := Lib.hid (HV.out.below hb5)
          have n_HK := Lib.hid (bstep HK.out hb5)
          have n_HVn := Lib.hid (HVn.out.below hb5)
          clear hb5 HD HW HWS HB2 HB5 HV HK HVn
          have HD := n_HD
          have HW := n_HW
          have HWS := n_HWS
          have HB2 := n_HB2
          have HB5 := n_HB5
          have HV := n_HV
          have HK := n_HK
          have HVn := n_HVn
          clear n_HD n_HW n_HWS n_HB2 n_HB5 n_HV n_HK n_HVn
          generalize u328.alloc (.cells #[.int .u32 0, .int .u64 0, .int .i64 0, .string ⟨#[]⟩, .slice none 0 0] 28) = u329 at *
          generalize u328.heap.size = g13 at *
          have H13 := Lib.hid hL
          clear hL
          obtain ⟨e0, e1, e2, e3⟩ := doneAt HD.out hmd HDM.out
          simp only at e0 e1 e2 e3
          refine hK.out _ _ ⟨HB5.out, e0, e1, e2, e3⟩ (fun hHeld => ?_)
          clear hK K hHeld e0 e1 e2 e3
          refine norm_ (a' := ?_) ?_ ?_
          rotate_left
          · show Act.put _ (some 13) _ = _
            simp only [Act.put, List.setIfInBounds_toArray, List.set_cons_zero, List.set_cons_succ]
            rfl
          refine last_ (i := 10) (N := none) #[true, true, true, true, true, true, true, true, true, true, true, false] rfl rfl (by kernel_rfl) (by decide) (fun K hK => ?_)
          refine skip_ (w1 := u329.setRow g13 (shP num 7 pk ph Vn)) (by rfl) rfl (run_store_row 28 (.tmp 13) (.tmp 112) rfl g13 (shP num 7 pk ph Vn) rfl rfl 28 _ H13.out (by kernel_rfl) rfl (shP_one (own_isl HVn.out))) ?_
          refine hK.out _ _ ?_
          clear hK K
          refine pure_ (i := 11) (N := some 14) (v := ?_) (a' := ?_) #[true, true, true, true, true, true, true, true, true, true, true, true] rfl rfl (by kernel_rfl) (fun _ _ _ h => h) (Or.inl ⟨by rfl, ?_⟩) ?_ ?_
          rotate_left
          · intro w'
            go_simp
            with_reducible rfl
          rotate_left
          · simp only [Act.put, List.setIfInBounds_toArray, List.set_cons_zero, List.set_cons_succ, i64_w, i32_w]
            rfl
          refine done_ (by kernel_rfl) ?_
          have n_HD := Lib.hid (own_setRow (cs' := (shP num 7 pk ph Vn)) HD.out H13.out (by decide))
          have n_HW := Lib.hid (own_setRowN (cs' := (shP num 7 pk ph Vn)) HW.out hnw.out)
          have n_HWS := Lib.hid (Sls.setRow (shP num 7 pk ph Vn) HWS.out H13.out (by decide))
          have n_HB2 := Lib.hid (blk_setRow_far HB2.out (shP num 7 pk ph Vn) hn2.out)
          have n_HB5 := Lib.hid (blk_setRow_far HB5.out (shP num 7 pk ph Vn) hn5.out)
          have n_HV := Lib.hid (Sl.setRow (shP num 7 pk ph Vn) HV.out H13.out (by decide))
          have n_HVn := Lib.hid (OwnP.setRow (cs' := (shP num 7 pk ph Vn)) HVn.out H13.out (by decide))
          have n_HK := Lib.hid (setRow_below HK.out hG (shP num 7 pk ph Vn))
          have n_H13 := Lib.hid (blk_setRow (cs' := (shP num 7 pk ph Vn)) H13.out)
          clear HD HW HWS HB2 HB5 HV HVn HK H13
          have HD := n_HD
          have HW := n_HW
          have HWS := n_HWS
          have HB2 := n_HB2
          have HB5 := n_HB5
          have HV := n_HV
          have HVn := n_HVn
          have HK := n_HK
          have H13 := n_H13
          clear n_HD n_HW n_HWS n_HB2 n_HB5 n_HV n_HVn n_HK n_H13
          generalize u329.setRow g13 (shP num 7 pk ph Vn) = u330 at *
          go_wp2_with fail
          go_meet
          exact ⟨g13, Vn, rfl, rfl, hG, hnw, H13, HVn, HD, HW, HWS, HB2, HB5, HV, HK⟩
        · refine value_ (w1 := u327.alloc (.cells #[.int .u32 0, .int .u64 0, .int .i64 0, .string ⟨#[]⟩, .slice none 0 0] 28)) (v := .pointer (some ⟨u327.heap.size, 0, none⟩)) (by rfl) rfl (by go_simp) ?_
          have hb5 := balloc (Below.refl u327.heap.size u327) (.cells #[.int .u32 0, .int .u64 0, .int .i64 0, .string ⟨#[]⟩, .slice none 0 0] 28)
          have hL := Blk.new u327 28 #[.int .u32 0, .int .u64 0, .int .i64 0, .string ⟨#[]⟩, .slice none 0 0]
          have hG := HK.out.size
          have hn2 := Lib.hid (Nat.ne_of_lt HB2.out.lt)
          have hn5 := Lib.hid (Nat.ne_of_lt HB5.out.lt)
          have hnw := Lib.hid (own_ne_new HW.out)
          have n_HD := Lib.hid (own_below HD.out hb5)
          have n_HW := Lib.hid (own_below HW.out hb5)
          have n_HWS := Lib.hid (Sls.below HWS.out hb5)
          have n_HB2 := Lib.hid (HB2.out.step hb5)
          have n_HB5 := Lib.hid (HB5.out.step hb5)
          have n_HV := Lib.hid (HV.out.below hb5)
          have n_HK := Lib.hid (bstep HK.out hb5)
          clear hb5 HD HW HWS HB2 HB5 HV HK
          have HD := n_HD
          have HW := n_HW
          have HWS := n_HWS
          have HB2 := n_HB2
          have HB5 := n_HB5
          have HV := n_HV
          have HK := n_HK
          clear n_HD n_HW n_HWS n_HB2 n_HB5 n_HV n_HK
          generalize u327.alloc (.cells #[.int .u32 0, .int .u64 0, .int .i64 0, .string ⟨#[]⟩, .slice none 0 0] 28) = u331 at *
          generalize u327.heap.size = g13 at *
          have H13 := Lib.hid hL
          clear hL
          obtain ⟨e0, e1, e2, e3⟩ := doneAt HD.out hmd HDM.out
          simp only at e0 e1 e2 e3
          refine hK.out _ _ ⟨HB5.out, e0, e1, e2, e3⟩ (fun hHeld => ?_)
          clear hK K hHeld e0 e1 e2 e3
          refine norm_ (a' := ?_) ?_ ?_
          rotate_left
          · show Act.put _ (some 13) _ = _
            simp only [Act.put, List.setIfInBounds_toArray, List.set_cons_zero, List.set_cons_succ]
            rfl
          refine one_ (i := 5) (N := some 111) #[true, true, true, true, true, true, false, false, false, true, false, false] rfl rfl (by kernel_rfl) (by decide) (fun K hK => ?_)
          refine goes_ Try.func23 (by kernel_rfl) rfl #[.agg (shP num q.lsn q.kind q.head Vq), .agg #[.int .i64 xk, .int .i64 xa, .string xs, .string xo], .int .u64 7] (by rfl) rfl rfl (by (try simp only [List.map_toArray, List.map_cons, List.map_nil]); first | done | rfl) ?_
          refine (ap_sl num q.lsn q.kind q.head xk xa xs xo 7 HV.out HK.out HOK.out (HBK.out.2.2 q.lsn 7)).mono ?_
          rintro e_ u332 ⟨Vn, rfl, ho, hb5⟩
          have HVn := Lib.hid ho
          clear ho
          have n_HD := Lib.hid (own_below HD.out hb5)
          have n_HW := Lib.hid (own_below HW.out hb5)
          have n_HWS := Lib.hid (Sls.below HWS.out hb5)
          have n_HB2 := Lib.hid (HB2.out.step hb5)
          have n_HB5 := Lib.hid (HB5.out.step hb5)
          have n_HV := Lib.hid (HV.out.below hb5)
          have n_HK := Lib.hid (bstep HK.out hb5)
          have n_H13 := Lib.hid (H13.out.step hb5)
          clear hb5 HD HW HWS HB2 HB5 HV HK H13
          have HD := n_HD
          have HW := n_HW
          have HWS := n_HWS
          have HB2 := n_HB2
          have HB5 := n_HB5
          have HV := n_HV
          have HK := n_HK
          have H13 := n_H13
          clear n_HD n_HW n_HWS n_HB2 n_HB5 n_HV n_HK n_H13
          refine ⟨_, rfl, ?_⟩
          obtain ⟨e0, e1, e2, e3⟩ := doneAt HD.out hmd HDM.out
          simp only at e0 e1 e2 e3
          refine hK.out _ _ ⟨HB5.out, e0, e1, e2, e3⟩ (fun hHeld => ?_)
          clear hK K hHeld e0 e1 e2 e3
          refine norm_ (a' := ?_) ?_ ?_
          rotate_left
          · show Act.put _ (some 111) _ = _
            simp only [Act.put, List.setIfInBounds_toArray, List.set_cons_zero, List.set_cons_succ]
            rfl
          refine pure_ (i := 6) (N := some 105) (v := ?_) (a' := ?_) #[true, true, true, true, true, true, true, false, false, true, false, false] rfl rfl (by kernel_rfl) (fun _ _ _ h => h) (Or.inl ⟨by rfl, ?_⟩) ?_ ?_
          rotate_left
          · intro w'
            go_simp
            with_reducible rfl
          rotate_left
          · simp only [Act.put, List.setIfInBounds_toArray, List.set_cons_zero, List.set_cons_succ, i64_w, i32_w]
            rfl
          refine pure_ (i := 7) (N := some 112) (v := ?_) (a' := ?_) #[true, true, true, true, true, true, true, true, false, true, false, false] rfl rfl (by kernel_rfl) (fun _ _ _ h => h) (Or.inl ⟨by rfl, ?_⟩) ?_ ?_
          rotate_left
          · intro w'
            go_simp
            with_reducible rfl
          rotate_left
          · simp only [Act.put, List.setIfInBounds_toArray, List.set_cons_zero, List.set_cons_succ, i64_w, i32_w]
            rfl
          refine pure_ (i := 8) (N := some 113) (v := ?_) (a' := ?_) #[true, true, true, true, true, true, true, true, true, true, false, false] rfl rfl (by kernel_rfl) (fun _ _ _ h => h) (Or.inl ⟨by rfl, ?_⟩) ?_ ?_
          rotate_left
          · intro w'
            go_simp
            with_reducible rfl
          rotate_left
          · simp only [Act.put, List.setIfInBounds_toArray, List.set_cons_zero, List.set_cons_succ, i64_w, i32_w]
            rfl
          refine last_ (i := 10) (N := none) #[true, true, true, true, true, true, true, true, true, true, true, false] rfl rfl (by kernel_rfl) (by decide) (fun K hK => ?_)
          refine skip_ (w1 := u332.setRow g13 (shP num 7 pk ph Vn)) (by rfl) rfl (run_store_row 28 (.tmp 13) (.tmp 112) rfl g13 (shP num 7 pk ph Vn) rfl rfl 28 _ H13.out (by kernel_rfl) rfl (shP_one (own_isl HVn.out))) ?_
          refine hK.out _ _ ?_
          clear hK K
          refine pure_ (i := 11) (N := some 14) (v := ?_) (a' := ?_) #[true, true, true, true, true, true, true, true, true, true, true, true] rfl rfl (by kernel_rfl) (fun _ _ _ h => h) (Or.inl ⟨by rfl, ?_⟩) ?_ ?_
          rotate_left
          · intro w'
            go_simp
            with_reducible rfl
          rotate_left
          · simp only [Act.put, List.setIfInBounds_toArray, List.set_cons_zero, List.set_cons_succ, i64_w, i32_w]
            rfl
          refine done_ (by kernel_rfl) ?_
          have n_HD := Lib.hid (own_setRow (cs' := (shP num 7 pk ph Vn)) HD.out H13.out (by decide))
          have n_HW := Lib.hid (own_setRowN (cs' := (shP num 7 pk ph Vn)) HW.out hnw.out)
          have n_HWS := Lib.hid (Sls.setRow (shP num 7 pk ph Vn) HWS.out H13.out (by decide))
          have n_HB2 := Lib.hid (blk_setRow_far HB2.out (shP num 7 pk ph Vn) hn2.out)
          have n_HB5 := Lib.hid (blk_setRow_far HB5.out (shP num 7 pk ph Vn) hn5.out)
          have n_HV := Lib.hid (Sl.setRow (shP num 7 pk ph Vn) HV.out H13.out (by decide))
          have n_HVn := Lib.hid (OwnP.setRow (cs' := (shP num 7 pk ph Vn)) HVn.out H13.out (by decide))
          have n_HK := Lib.hid (setRow_below HK.out hG (shP num 7 pk ph Vn))
          have n_H13 := Lib.hid (blk_setRow (cs' := (shP num 7 pk ph Vn)) H13.out)
          clear HD HW HWS HB2 HB5 HV HVn HK H13
          have HD := n_HD
          have HW := n_HW
          have HWS := n_HWS
          have HB2 := n_HB2
          have HB5 := n_HB5
          have HV := n_HV
          have HVn := n_HVn
          have HK := n_HK
          have H13 := n_H13
          clear n_HD n_HW n_HWS n_HB2 n_HB5 n_HV n_HVn n_HK n_H13
          generalize u332.setRow g13 (shP num 7 pk ph Vn) = u333 at *
          go_wp2_with fail
          go_meet
          exact ⟨g13, Vn, rfl, rfl, hG, hnw, H13, HVn, HD, HW, HWS, HB2, HB5, HV, HK⟩
      case rest =>
      obtain ⟨g13, Vn, rfl, rfl, hG, hnw, k0, k1, k2, k3, k4, k5, k6, k7, k8⟩ := hcut
      clear HD HW HWS HB2 HB5 HV HK
      have H13 := k0
      have HVn := k1
      have HD := k2
      have HW := k3
      have HWS := k4
      have HB2 := k5
      have HB5 := k6
      have HV := k7
      have HK := k8
      clear k0 k1 k2 k3 k4 k5 k6 k7 k8
      go_upto_region 20 with fail
      obtain ⟨z0, z1, z2, z3, z4⟩ := wasAt HW.out hmw HWM.out
      simp only at z0 z1 z2 z3 z4
      refine start_ (n := 11) (S := fun w' => Blk w' g13 28 (shP num 7 pk ph Vn) ∧ w'.cell? ⟨bw, m * 5, none⟩ = some (.int .u32 num) ∧ w'.cell? ⟨bw, m * 5 + 1, none⟩ = some (.int .u64 pl) ∧ w'.cell? ⟨bw, m * 5 + 2, none⟩ = some (.int .i64 pk) ∧ w'.cell? ⟨bw, m * 5 + 3, none⟩ = some (.string ph) ∧ w'.cell? ⟨bw, m * 5 + 4, none⟩ = some (pv)) (ds := []) #[false, false, false, false, false, false, false, false, false, false, false] (by kernel_rfl) rfl rfl ⟨H13.out, z0, z1, z2, z3, z4⟩ (fun hHeld => ?_)
      refine pure_ (i := 0) (N := some 114) (v := ?_) (a' := ?_) #[true, false, false, false, false, false, false, false, false, false, false] rfl rfl (by kernel_rfl) (fun _ _ _ h => h) (Or.inl ⟨by rfl, ?_⟩) ?_ ?_
      rotate_left
      · intro w'
        go_simp
        with_reducible rfl
      rotate_left
      · simp only [Act.put, List.setIfInBounds_toArray, List.set_cons_zero, List.set_cons_succ, i64_w, i32_w]
        rfl
      refine pure_ (i := 1) (N := some 115) (v := ?_) (a' := ?_) #[true, true, false, false, false, false, false, false, false, false, false] rfl rfl (by kernel_rfl) (fun _ _ _ h => h) (Or.inl ⟨by rfl, ?_⟩) ?_ ?_
      rotate_left
      · intro w'
        go_simp
        with_reducible rfl
      rotate_left
      · simp only [Act.put, List.setIfInBounds_toArray, List.set_cons_zero, List.set_cons_succ, i64_w, i32_w]
        rfl
      refine pure_ (i := 2) (N := some 116) (v := ?_) (a' := ?_) #[true, true, true, false, false, false, false, false, false, false, false] rfl rfl (by kernel_rfl) (fun _ _ _ h => h) (Or.inl ⟨by rfl, ?_⟩) ?_ ?_
      rotate_left
      · intro w'
        go_simp
        with_reducible rfl
      rotate_left
      · simp only [Act.put, List.setIfInBounds_toArray, List.set_cons_zero, List.set_cons_succ, i64_w, i32_w]
        rfl
      refine take_ (i := 3) (N := some 117) (v := .agg (shP num 7 pk ph Vn)) (a' := ?_) #[true, true, true, true, false, false, false, false, false, false, false] rfl rfl (by kernel_rfl) (fun _ _ _ h => h) (yields_row 28 (.tmp 13) rfl (by rfl) g13 rfl 28 (shP num 7 pk ph Vn) (0, 0) _ (fun w_ h => h.1) Try.underlying28 rfl (by kernel_rfl)) hHeld ?_ ?_
      rotate_left
      · simp only [Act.put, List.setIfInBounds_toArray, List.set_cons_zero, List.set_cons_succ]
        rfl
      refine pure_ (i := 4) (N := some 118) (v := ?_) (a' := ?_) #[true, true, true, true, true, false, false, false, false, false, false] rfl rfl (by kernel_rfl) (fun _ _ _ h => h) (Or.inl ⟨by rfl, ?_⟩) ?_ ?_
      rotate_left
      · intro w'
        go_simp
        with_reducible rfl
      rotate_left
      · simp only [Act.put, List.setIfInBounds_toArray, List.set_cons_zero, List.set_cons_succ, i64_w, i32_w]
        rfl
      refine pure_ (i := 5) (N := some 119) (v := ?_) (a' := ?_) #[true, true, true, true, true, true, false, false, false, false, false] rfl rfl (by kernel_rfl) (fun _ _ _ h => h) (Or.inl ⟨by rfl, ?_⟩) ?_ ?_
      rotate_left
      · intro w'
        go_simp
        with_reducible rfl
      rotate_left
      · simp only [Act.put, List.setIfInBounds_toArray, List.set_cons_zero, List.set_cons_succ, i64_w, i32_w]
        rfl
      refine pure_ (i := 6) (N := some 120) (v := ?_) (a' := ?_) #[true, true, true, true, true, true, true, false, false, false, false] rfl rfl (by kernel_rfl) (fun _ _ _ h => h) (Or.inl ⟨by rfl, ?_⟩) ?_ ?_
      rotate_left
      · intro w'
        go_simp
        with_reducible rfl
      rotate_left
      · simp only [Act.put, List.setIfInBounds_toArray, List.set_cons_zero, List.set_cons_succ, i64_w, i32_w]
        rfl
      refine take_ (i := 7) (N := some 121) (v := .agg #[.int .u32 num, .int .u64 pl, .int .i64 pk, .string ph, pv]) (a' := ?_) #[true, true, true, true, true, true, true, true, false, false, false] rfl rfl (by kernel_rfl) (fun _ _ _ h => h) (Or.inl ⟨by rfl, ?_⟩) hHeld ?_ ?_
      · rintro w' ⟨s0, s1, s2, s3, s4, s5⟩
        go_simp
      rotate_left
      · simp only [Act.put, List.setIfInBounds_toArray, List.set_cons_zero, List.set_cons_succ]
        rfl
      clear hHeld z0 z1 z2 z3 z4
      have hb5 := bdrew (Below.refl wc.heap.size wc)
      have n_HD := Lib.hid (own_below HD.out hb5)
      have n_HW := Lib.hid (own_below HW.out hb5)
      have n_HWS := Lib.hid (Sls.below HWS.out hb5)
      have n_HB2 := Lib.hid (HB2.out.step hb5)
      have n_HB5 := Lib.hid (HB5.out.step hb5)
      have n_HV := Lib.hid (HV.out.below hb5)
      have n_HK := Lib.hid (bstep HK.out hb5)
      have n_H13 := Lib.hid (H13.out.step hb5)
      have n_HVn := Lib.hid (HVn.out.below hb5)
      clear hb5 HD HW HWS HB2 HB5 HV HK H13 HVn
      have HD := n_HD
      have HW := n_HW
      have HWS := n_HWS
      have HB2 := n_HB2
      have HB5 := n_HB5
      have HV := n_HV
      have HK := n_HK
      have H13 := n_H13
      have HVn := n_HVn
      clear n_HD n_HW n_HWS n_HB2 n_HB5 n_HV n_HK n_H13 n_HVn
      generalize wc.drew = u334 at *
      refine one_ (i := 8) (N := some 122) #[true, true, true, true, true, true, true, true, true, false, false] rfl rfl (by kernel_rfl) (by decide) (fun K hK => ?_)
      refine goes_ Try.func17 (by kernel_rfl) rfl #[.agg (shP num 7 pk ph Vn), .agg #[.int .u32 num, .int .u64 pl, .int .i64 pk, .string ph, pv]] (by rfl) rfl rfl (by (try simp only [List.map_toArray, List.map_cons, List.map_nil]); first | done | rfl) ?_
      refine (same_sl num 7 pl pk ph (.inr HVn.out) (Sls.at HWS.out hmw HWM.out) HK.out HBK.out.1.n64).mono ?_
      rintro e_ u335 ⟨rfl, hb5⟩
      have n_HD := Lib.hid (own_below HD.out hb5)
      have n_HW := Lib.hid (own_below HW.out hb5)
      have n_HWS := Lib.hid (Sls.below HWS.out hb5)
      have n_HB2 := Lib.hid (HB2.out.step hb5)
      have n_HB5 := Lib.hid (HB5.out.step hb5)
      have n_HV := Lib.hid (HV.out.below hb5)
      have n_HK := Lib.hid (bstep HK.out hb5)
      have n_H13 := Lib.hid (H13.out.step hb5)
      have n_HVn := Lib.hid (HVn.out.below hb5)
      clear hb5 HD HW HWS HB2 HB5 HV HK H13 HVn
      have HD := n_HD
      have HW := n_HW
      have HWS := n_HWS
      have HB2 := n_HB2
      have HB5 := n_HB5
      have HV := n_HV
      have HK := n_HK
      have H13 := n_H13
      have HVn := n_HVn
      clear n_HD n_HW n_HWS n_HB2 n_HB5 n_HV n_HK n_H13 n_HVn
      refine ⟨_, rfl, ?_⟩
      obtain ⟨z0, z1, z2, z3, z4⟩ := wasAt HW.out hmw HWM.out
      simp only at z0 z1 z2 z3 z4
      refine hK.out _ _ ⟨H13.out, z0, z1, z2, z3, z4⟩ (fun hHeld => ?_)
      clear hK K hHeld z0 z1 z2 z3 z4
      refine norm_ (a' := ?_) ?_ ?_
      rotate_left
      · show Act.put _ (some 122) _ = _
        simp only [Act.put, List.setIfInBounds_toArray, List.set_cons_zero, List.set_cons_succ]
        rfl
      refine pure_ (i := 9) (N := some 123) (v := ?_) (a' := ?_) #[true, true, true, true, true, true, true, true, true, true, false] rfl rfl (by kernel_rfl) (fun _ _ _ h => h) (Or.inl ⟨by rfl, ?_⟩) ?_ ?_
      rotate_left
      · intro w'
        go_simp
        with_reducible rfl
      rotate_left
      · simp only [Act.put, List.setIfInBounds_toArray, List.set_cons_zero, List.set_cons_succ, i64_w, i32_w]
        rfl
      refine pure_ (i := 10) (N := some 124) (v := ?_) (a' := ?_) #[true, true, true, true, true, true, true, true, true, true, true] rfl rfl (by kernel_rfl) (fun _ _ _ h => h) (Or.inl ⟨by rfl, ?_⟩) ?_ ?_
      rotate_left
      · intro w'
        go_simp
        with_reducible rfl
      rotate_left
      · simp only [Act.put, List.setIfInBounds_toArray, List.set_cons_zero, List.set_cons_succ, i64_w, i32_w]
        rfl
      refine done_ (by kernel_rfl) ?_
      go_wp2_with (first | (with_reducible (refine isList ?_; with_unfolding_all refine wpList_load_row rfl 28 (.tmp 13) rfl g13 (by kernel_rfl) 28 (shP num 7 pk ph Vn) (0, 0) _ H13.out Try.underlying28 rfl (by kernel_rfl) ?_)) | (with_reducible (refine isList ?_; with_unfolding_all refine wpList_store_row rfl 28 (.tmp 5) (.tmp 125) rfl g5 (shP num 7 pk ph Vn) (by kernel_rfl) (by kernel_rfl) 28 (shP num q.lsn q.kind q.head Vq) HB5.out (by kernel_rfl) rfl (shP_one (own_isl HVn.out)) ?_)))
      go_roundw
      case rel => exact ⟨m, (m : Int) - 1, ⟨7, pk, ph, ps⟩, Vn, by go_num, rfl, by omega, Lib.hid (HTR.out.lsn rfl rfl rfl), Lib.hid HBK.out.1, Lib.hid (own_setRow HD.out HB5.out (by decide)), Lib.hid (own_setRowN HW.out HW5.out), Lib.hid (Sls.setRow _ HWS.out HB5.out (by decide)), Lib.hid (blk_setRow_far HB2.out _ HN25.out), Lib.hid (blk_setRow HB5.out), Lib.hid (.inr (OwnP.setRow HVn.out HB5.out (by decide))), Lib.hid (setRow_below HK.out hG5 _)⟩
      case measure => simp [intOf]; try omega
end Go.Proofs.Yteokjmjfjdgmpaa
end
section
namespace Go.Proofs.Yteokjmjfjdgmpaa.pageBackRow
open Go.ChangeShapes Go.WideShapes Go.ChangeAt Go.RowKit Go.GiRow Go.Proofs.YteokjmjfjdgmpaaW.PrintWords OpenK
theorem own : ownKnob Try.prog.godebug = none := by kernel_rfl
theorem laid : laidOutB Try.prog = true := by kernel_rfl
def kOpS : Kd OpS := Kd.iso (Kd.pair (Kd.int .i64) (Kd.pair (Kd.int .i64) (Kd.pair Kd.string Kd.string))) (fun x : OpS => (x.k, x.a, x.s, x.o))
def opFits (x : OpS) : Prop := True
theorem opens_weak {α : Type} {P : Program} {t : TypeId} {k : Kd α} {B B' : α → Prop} (h : Opens P t k B) (hB : ∀ a, B a → B' a) : Opens P t k B' := fun H enc W spare held fuel cs x hx hl => by
  obtain ⟨a, h1, h2⟩ := h H enc W spare held fuel cs x hx hl
  exact ⟨a, h1, hB a h2⟩
theorem opens_opS : Opens Try.prog 54 kOpS opFits :=
  opens_weak (opens_struct Try.underlying54 (opens_cons (opens_int Try.underlying3) rfl (by kernel_rfl) (opens_cons (opens_int Try.underlying3) rfl (by kernel_rfl) (opens_cons (opens_string Try.underlying9) rfl (by kernel_rfl) (opens_one (opens_string Try.underlying9) rfl (by kernel_rfl))))) (by kernel_rfl) (fun a => (⟨a.1, a.2.1, a.2.2.1, a.2.2.2⟩ : OpS)) (fun _ => rfl)) (fun _ _ => trivial)
theorem opens_opsS : Opens Try.prog 58 (Kd.slice 54 kOpS) (fun l => l.length * 48 ≤ 140737488351232 ∧ ∀ x ∈ l, opFits x) :=
  opens_slice Try.underlying58 (by kernel_rfl) (by decide) (by kernel_rfl) opens_opS
theorem op_open {w : World} {x : OpS} {cs : List Value} (h : kOpS.K w x cs) : cs = x.cells := by
  obtain ⟨_, _, rfl, rfl, ⟨_, _, rfl, rfl, ⟨_, _, rfl, rfl, rfl⟩⟩⟩ := h
  exact rfl
theorem rd_of_C {α β : Type} {k : Kd β} {of : α → β} {cells : α → List Value} {n : Nat} (hsz : k.sz = n) (hn : 0 < n) (hk : ∀ w a cs, k.K w (of a) cs → cs = cells a) (hlen : ∀ a, (cells a).length = n) {w : World} {A : Option Addr} {l : List α}
    (h : Kd.C k w A l.length (l.map of)) : RdRows cells n w A l := fun j hj => by
  obtain ⟨h1, h2, h3⟩ := h
  obtain ⟨ad, rfl, hc⟩ := h3 (by omega)
  have hat : ∀ i (hi : i < l.length) x u, (cells l[i])[x]? = some u → w.cell? (ad.add (i * n + x)) = some u := by
    intro i hi x u hu
    obtain ⟨c, hcl, hK, hcell⟩ := hc i (of l[i]) (by simp [hi])
    have e := hk _ _ _ hK
    subst e
    rw [hsz] at hcell
    exact hcell x u hu
  have hc0 := hat 0 (by omega) 0 _ (List.getElem?_eq_getElem (by rw [hlen]; exact hn))
  rw [show ad.add (0 * n + 0) = ad by unfold Addr.add; simp] at hc0
  have hsp : ad.spot = none := by
    unfold World.cell? at hc0
    cases hs : ad.spot with
    | none => rfl
    | some y =>
      simp [hs] at hc0
      split at hc0 <;> simp_all
  obtain ⟨b, off, sp⟩ := ad
  simp only at hsp
  subst hsp
  refine ⟨b, off, rfl, World.block_lt_of_cell? w _ hc0, fun x u hu => ?_⟩
  have := hat j hj x u hu
  rw [show (⟨b, off, none⟩ : Addr).add (j * n + x) = ⟨b, off + j * n + x, none⟩ by unfold Addr.add; split <;> simp_all [Nat.add_assoc]] at this
  exact this
set_option maxRecDepth 100000 in
set_option maxHeartbeats 6400000 in
theorem lifted (os : Os) (started : os.Started) (H : Type) (enc : TypeId × Value → H) :
    ReturnsInHanded {} Try.checked os 7 .any (Rows.pageBackSpec.pre6 enc Try.prog Try.f7 Rows.pageBackRow.domain false) (Rows.pageBackSpec.post enc Try.prog Try.f7 false true false false) := by
  refine returnsInHanded_of_change_sized (C := Try.checked) own started (by kernel_rfl) Try.func7
    (ChangeSpec.witness6 (enc := enc) (C := Try.checked) false ⟨#[], #[.agg #[.int .u32 0, .int .u64 0, .int .i64 0, .string ByteArray.empty, .slice none 0 0], .slice none 0 0], []⟩ 8 (by kernel_rfl) (by kernel_rfl) (by kernel_rfl) (by kernel_rfl)) ?_
  intro W base args ds gs before hval0 hW _ hsz0 _
  have hsz : (DataW.weightsEach Try.prog (Try.f7.params.toList ++ Rows.pageBackSpec.plain.varTypes Try.prog) (ds ++ gs)).all (· ≤ reachBytes) = true := hsz0
  have hval : ∀ (j : Nat) t v, Try.f7.params[j]? = some t → args[j]? = some v → Value.okWide Try.prog W .any base t v := hval0
  have hW' := hW
  obtain ⟨p, q, hA0, hV, rfl, _, _⟩ := hW
  have hA : DataW.TrodAll enc Try.prog W 0 (fun _ => true) true Try.f7.params.toList args.toList ds p := hA0
  rw [Try.params7] at hA hval hsz
  obtain ⟨v0, vs0, d0, ds0, p0, q0, hargs, rfl, rfl, h0, r0⟩ := trodAll_cons hA
  obtain ⟨v1, vs1, d1, ds1, p1, q1, rfl, rfl, rfl, h1, r1⟩ := trodAll_cons r0
  obtain ⟨rfl, rfl, rfl⟩ := trodAll_nil r1
  obtain rfl : args = #[v0, v1] := by cases args; simp_all
  obtain ⟨rfl, rfl⟩ := trodVars_none hV
  obtain ⟨x, A, c, rfl, g1, g2, _, _, g5, g6, g7⟩ := sheet_open (hval 0 28 v0 rfl rfl) h0 (OpenK.light_each hsz 0 _ _ rfl rfl)
  obtain ⟨a, len, cap, hv⟩ := okWide_slice Try.underlying58 (hval 1 58 v1 rfl rfl)
  subst hv
  obtain ⟨fuel, hf⟩ := h1
  obtain ⟨l, ⟨A', c', e, hc, hC⟩, hn, hB⟩ := opens_opsS H enc W _ _ fuel _ _ hf (OpenK.light_each hsz 1 _ _ rfl rfl)
  simp only [Value.cells, List.cons.injEq, Value.slice.injEq, and_true] at e
  obtain ⟨rfl, rfl, rfl⟩ := e
  refine (pageBack_any ⟨x.lsn, x.kind, x.head, x.slots⟩ x.num A c l a cap W g2 g1 (rd_of_C (k := kOpS) (of := fun x : OpS => x) rfl (by decide) (fun _ _ _ h => op_open h) (fun _ => rfl) (by rw [List.map_id']; exact hC)) g6 g5 g7 (by omega)).mono fun e W' ⟨he, bel⟩ => ?_
  subst he
  refine ⟨_, rfl, law_post (tb := 4) laid (by kernel_rfl) rfl Try.underlying4 rfl (fun ds hds => ?_) hW' bel⟩
  match ds, hds with
  | [_, _], _ => rfl
theorem over : Rows.pageBackRow.holds Try.pinned (OpenSpec.ofChange Rows.pageBackSpec) :=
  OpenClaim.holds_of_wide 7 Try.f7 rfl rfl rfl rfl rfl rfl rfl ⟨rfl, rfl, rfl, rfl, rfl⟩ rfl rfl rfl rfl rfl (by kernel_rfl) Try.func7 (by kernel_rfl)
    (of_decide_eq_true (by kernel_rfl)) (by unfold Func.isWrapper; first | (rw [if_pos (by decide +kernel)]; kernel_rfl) | (rw [if_neg (by decide +kernel)]; exact ⟨rfl, rfl⟩))
    (fun os started H enc _ => lifted os started H enc)
end Go.Proofs.Yteokjmjfjdgmpaa.pageBackRow
namespace Go.Proofs.Yteokjmjfjdgmpaa
/-- The row, under a short name, for the claim. -/
theorem pageBack_holds : Rows.PageBackSaid := pageBackRow.over
#print axioms pageBack_holds
end Go.Proofs.Yteokjmjfjdgmpaa
end
