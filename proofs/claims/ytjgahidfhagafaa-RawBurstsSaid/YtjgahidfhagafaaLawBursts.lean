import Derived.Test.YtjgahidfhagafaaBurst
import Derived.Test.YtjgahidfhagafaaBeq
import Derived.Test.YtjgahidfhagafaaLaw01a
import Derived.Lib.ConvBytes
import Derived.Laws.BytesArg
import Derived.Laws.BitsAllLaws
import Derived.Deep.DeepCutAuto
namespace Go.Proofs.Ytjgahidfhagafaa
open Go.RowKit Go.Gi
set_option maxRecDepth 20000
set_option linter.unusedSimpArgs false
set_option linter.unusedVariables false

/-- A row of bytes of the call's own. -/
structure BRow (w : World) (g : Nat) (l : List UInt8) : Prop where
  lt : g < w.heap.size
  cell : ∀ j (h : j < l.length), w.cell? ⟨g, j, none⟩ = some (.int .u8 (l[j]).toNat)
  frozen : ∀ j, j < l.length → w.frozen? ⟨g, j, none⟩ = false
theorem BRow.step {w w' : World} {g : Nat} {l : List UInt8} (h : BRow w g l) (hb : Below w.heap.size w w') : BRow w' g l :=
  ⟨Nat.lt_of_lt_of_le h.lt hb.size, fun j hj => (hb.cell (p := ⟨g, j, none⟩) h.lt).trans (h.cell j hj), fun j hj => (hb.frozen (p := ⟨g, j, none⟩) h.lt).trans (h.frozen j hj)⟩
theorem BRow.set_ {w : World} {g : Nat} {l : List UInt8} (h : BRow w g l) (p : Nat) (hp : p < l.length) (b : UInt8) : BRow (w.setCell ⟨g, p, none⟩ (.int .u8 b.toNat)) g (l.set p b) := by
  refine ⟨by simpa [World.setCell] using h.lt, fun j hj => ?_, fun j hj => by rw [World.frozen?_setCell]; exact h.frozen j (by simpa using hj)⟩
  rw [List.length_set] at hj
  by_cases e : p = j
  · subst e
    rw [cellSame (by rw [h.cell p hp]; rfl)]
    simp
  · have : (⟨g, j, none⟩ : Addr) ≠ ⟨g, p, none⟩ := fun x => e (by injection x with _ x _; exact x.symm)
    rw [World.cell?_setCell_other _ _ _ _ (fun x => this x.symm), h.cell j hj]
    simp [List.getElem_set, e]
theorem BRow.string {P : Program} {w : World} {g : Nat} {l : List UInt8} {src dst e : TypeId} (hs : P.underlying src = some (.slice e)) (he : P.underlying e = some (.int .u8)) (hd : P.underlying dst = some .string) (h : BRow w g l) (cap : Nat) :
    (convert src dst (.slice (some ⟨g, 0, none⟩) l.length cap)).run P w = .ok (.string (bs l)) w := by
  have := run_convert_bytes_arg w src e hs he g 0 l.length cap (l.map fun b => (b.toNat : Int)) (by simp) (fun i hi => ?_) dst hd
  · rw [this]
    congr 2
    simp [strOfNums, bs, Function.comp_def]
  · rw [Nat.zero_add, h.cell i hi]
    simp [List.getD, List.getElem?_eq_getElem hi]
theorem BRow.new (w : World) (e : TypeId) (s : ByteArray) : BRow (Lib.bytesWorld w e s) w.heap.size s.data.toList := by
  refine ⟨by rw [Lib.bytesWorld_size]; omega, fun j hj => ?_, fun j hj => ?_⟩
  · rw [Lib.bytesWorld_cell w e s j (by simpa using hj)]
    simp [List.getD, List.getElem?_eq_getElem hj]
  · have : j < s.size := by simpa using hj
    simp [World.frozen?, Lib.bytesWorld_at_new, Lib.bytesCells]
    omega
theorem bel_bytesWorld (w : World) (e : TypeId) (s : ByteArray) : Below w.heap.size w (Lib.bytesWorld w e s) :=
  ⟨rfl, rfl, rfl, by rw [Lib.bytesWorld_size]; omega, fun k hk => Lib.bytesWorld_at_old w e s k hk⟩

theorem first_law (at_ : Int) (n : Nat) (h0 : 0 < n) (h1 : n ≤ 1000) : ∃ f : Nat, f < 8 * n ∧ ((at_.tmod (8 * n) + 8 * n).tmod (8 * n)) = (f : Int) ∧ -8000 ≤ at_.tmod (8 * n) ∧ at_.tmod (8 * n) ≤ 8000 ∧ 0 ≤ at_.tmod (8 * n) + 8 * n := by
  have hm : (8 * (n : Int)) ≠ 0 := by omega
  have h2 : at_.tmod (8 * n) < 8 * n := Int.tmod_lt_of_pos _ (by omega)
  have h3 : -(8 * (n : Int)) < at_.tmod (8 * n) := by
    rcases Int.le_total 0 at_ with h | h
    · have := Int.tmod_nonneg (8 * (n : Int)) h; omega
    · have := Int.tmod_lt_of_pos (-at_) (show (0 : Int) < 8 * n by omega)
      rw [Int.neg_tmod] at this
      omega
  generalize at_.tmod (8 * n) = r at *
  have h4 : 0 ≤ (r + 8 * n).tmod (8 * n) := Int.tmod_nonneg _ (by omega)
  have h5 : (r + 8 * n).tmod (8 * n) < 8 * n := Int.tmod_lt_of_pos _ (by omega)
  exact ⟨((r + 8 * n).tmod (8 * n)).toNat, by omega, by omega, by omega, by omega, by omega⟩

theorem bursts_awake (w : World) (K : Ending → World → Prop) (h : ∀ w', Below w.heap.size w w' → K (.returned (.bool true)) w') : Calls Try.prog 9 #[] w K :=
  (awake01 w).mono fun e w' ⟨he, hb⟩ => by subst he; exact h w' hb

attribute [local go_sem] bs_size bs_append
set_option maxHeartbeats 3200000 in
theorem rawBursts_any (sl : List UInt8) (at_ burst : Int) (w : World) (hat : -9223372036854775808 ≤ at_ ∧ at_ ≤ 9223372036854775807) (hb : 0 ≤ burst ∧ burst ≤ 4294967295) (hs : sl.length ≤ 140737488351232) :
    Calls Try.prog 4 #[.string (bs sl), .int .i64 at_, .int .u32 burst] w fun e w' => e = .returned (.bool true) ∧ Below w.heap.size w w' := by
  by_cases hz : sl.length = 0
  · have hzb : ((sl.length : Int) == 0) = true := by simp [hz]
    have hnil : sl = [] := List.eq_nil_of_length_eq_zero hz
    go_enter Try.func4, Try.ntmps4
    go_wp2_with (go_at_call 9; refine (awake01 _).mono ?_; rintro e w2 ⟨rfl, hb2⟩)
    go_ret
    exact ⟨rfl, hb2⟩
  have hzb : ((sl.length : Int) == 0) = false := by simp; intro h; simp [h] at hz
  have hnil : ¬ sl = [] := by intro h; simp [h] at hz
  by_cases hz2 : 1000 < sl.length
  · have hzd : decide (1000 < (sl.length : Int)) = true := decide_eq_true (by omega)
    go_enter Try.func4, Try.ntmps4
    go_wp2_with (go_at_call 9; refine (awake01 _).mono ?_; rintro e w2 ⟨rfl, hb2⟩)
    go_ret
    exact ⟨rfl, hb2⟩
  · have hz0 : 0 < sl.length := by omega
    have hz1 : sl.length ≤ 1000 := by omega
    have hzd : ¬ 1000 < (sl.length : Int) := by omega
    clear hz hz2
    have hcv := Lib.run_convert_string_bytes (P := Try.prog) w 9 27 5 (bs sl) Try.underlying9 Try.underlying27 Try.underlying5
    have hB0 := BRow.new w 5 (bs sl)
    rw [toList_bs] at hB0
    have hB := Lib.hid hB0
    clear hB0
    have hW := Lib.hid (bel_bytesWorld w 5 (bs sl))
    rw [bs_size] at hcv
    generalize Lib.bytesWorld w 5 (bs sl) = w1 at *
    generalize grownCap w sl.length 0 5 = cap at *
    obtain ⟨f, hf, hff, hr1, hr2, hr3⟩ := first_law at_ sl.length hz0 hz1
    generalize hrr : at_.tmod (8 * sl.length) = r at *
    have hmz : ¬ (8 * (sl.length : Int)) = 0 := by omega
    go_enter Try.func4, Try.ntmps4
    go_wp2_with fail
    go_loopw [9] (fun i wr => ∃ (k B : Nat) (l : List UInt8), k ≤ 32 ∧ i = .int .i64 k ∧ l.length = sl.length ∧ B < 2 ^ k ∧ numL l = numL sl ^^^ (2 ^ f * B) ∧ BRow wr w.heap.size l ∧ Below w.heap.size w wr)
      (fun i _ => 32 - (intOf i).toNat)
    case atStart => exact ⟨0, 0, sl, by omega, rfl, rfl, by simp, by simp, hB.out, hW.out⟩
    case round =>
      obtain ⟨k, B, l, hk, rfl, hl, hBk, hn, hR, hWr⟩ := hrel
      have HR := Lib.hid hR
      have HW := Lib.hid hWr
      have HN := Lib.hid hn
      have HBk := Lib.hid hBk
      clear hR hWr hn hBk hB hW
      by_cases hlt : k < 32
      · have i1 : (k : Int) < 32 := by omega
        by_cases hp : f + k < 8 * sl.length
        · have hp2 : (f : Int) + k < 8 * sl.length := by omega
          by_cases hc : (bits .and .u32 (burst / 2 ^ k) 1 == 1) = true
          · have hpl : (f + k) / 8 < l.length := by omega
            have hc1 := HR.out.cell _ hpl
            have hf1 := HR.out.frozen _ hpl
            have hS := Lib.hid (HR.out.set_ _ hpl (UInt8.ofNat (l[(f + k) / 8].toNat ^^^ 2 ^ ((f + k) % 8))))
            have hbl := l[(f + k) / 8].toNat_lt
            generalize hbb : l[(f + k) / 8].toNat = bb at *
            have hq := Nat.mod_lt (f + k) (show 0 < 8 by decide)
            have hv : bits .xor .u8 (bb : Int) ((2 : Int) ^ ((f + k) % 8) % 256) = ((UInt8.ofNat (bb ^^^ 2 ^ ((f + k) % 8))).toNat : Int) := by
              have h2 : (2 ^ ((f + k) % 8) : Nat) < 256 := Nat.pow_lt_pow_right (n := 8) (by decide) hq
              have h3 := byte_xor_lt hbl hq
              rw [show ((2 : Int) ^ ((f + k) % 8)) = ((2 ^ ((f + k) % 8) : Nat) : Int) by simp, Int.emod_eq_of_lt (Int.natCast_nonneg _) (show ((2 ^ ((f + k) % 8) : Nat) : Int) < 256 from Int.ofNat_lt.2 h2), u8_xor_nat _ _ hbl h2, UInt8.toNat_ofNat', Nat.mod_eq_of_lt (show bb ^^^ 2 ^ ((f + k) % 8) < 2 ^ 8 from h3)]
            have Hv := Lib.hid hv
            clear hv
            obtain ⟨g1, g2, g3⟩ := flip_step hl HBk.out HN.out hp
            have Hfl := Lib.hid (flipL_set l (f + k) hpl)
            rw [hbb] at Hfl
            have G2 := Lib.hid g2
            have G3 := Lib.hid g3
            clear g2 g3
            go_wp2
            rw [Hv.out]
            go_roundw
            case rel => exact ⟨k + 1, B ^^^ 2 ^ k, flipL l (f + k), by omega, by go_num, g1, G2.out, G3.out, by rw [Hfl.out]; exact hS.out, bsetAt HW.out (Nat.le_refl _) _⟩
            case measure => simp [intOf]; omega
          · have hc2 : (bits .and .u32 (burst / 2 ^ k) 1 == 1) = false := by simpa using hc
            go_wp2
            go_roundw
            case rel => exact ⟨k + 1, B, l, by omega, by go_num, hl, Nat.lt_of_lt_of_le HBk.out (Nat.pow_le_pow_right (by decide) (by omega)), HN.out, HR.out, HW.out⟩
            case measure => simp [intOf]; omega
        · have hp2 : ¬ (f : Int) + k < 8 * sl.length := by omega
          go_wp2
          go_roundw
          case rel => exact ⟨k + 1, B, l, by omega, by go_num, hl, Nat.lt_of_lt_of_le HBk.out (Nat.pow_le_pow_right (by decide) (by omega)), HN.out, HR.out, HW.out⟩
          case measure => simp [intOf]; omega
      · obtain rfl : k = 32 := by omega
        have hlaw := burst_law sl l f B hl (by omega) HBk.out HN.out
        have hm1 : (bs sl).size ≤ maxLen := by rw [bs_size]; unfold maxLen; omega
        have hm2 : (bs l).size ≤ maxLen := by rw [bs_size]; unfold maxLen; omega
        have M1 := Lib.hid hm1
        have M2 := Lib.hid hm2
        clear hm1 hm2
        obtain ⟨b, hb1⟩ : ∃ b, (sumL 0 sl == sumL 0 l) = b := ⟨_, rfl⟩
        have hb2 : (sl == l) = b := by
          rw [← hb1, Bool.eq_iff_iff]
          simp only [beq_iff_eq]
          exact hlaw.symm
        have HB2 := Lib.hid hb2
        clear hb2
        have hb3 : (sumL 0 (bs sl).data.toList == sumL 0 (bs l).data.toList) = b := by rw [toList_bs, toList_bs]; exact hb1
        clear hlaw hb1
        have HL := Lib.hid hl
        clear hl
        go_upto_region 11 with fail
        go_cut [6] (fun v wx => v = .bool true ∧ Below w.heap.size w wx)
        case first =>
          go_region_with ((first | (go_at_call 9; refine (awake01 _).mono ?_; rintro e w2 ⟨rfl, hb2⟩; have hb3 : Below wr.heap.size wr w2 := (bstep (by repeat (first | (with_reducible exact Below.refl _ _) | (with_reducible apply bdrew) | (with_reducible apply bdrewN))) hb2); have W2 := Lib.hid (bstep HW.out hb3); have hs2 := BRow.string (P := Try.prog) Try.underlying27 Try.underlying5 Try.underlying9 (HR.out.step hb3) cap; rw [HL.out] at hs2; clear hb2 hb3) | (go_at_call 10; refine (sum_any _ _ (by first | exact M1.out | exact M2.out)).mono ?_; rintro e w' ⟨rfl, rfl⟩)))
          all_goals
            go_wp2_with fail
            go_meet
            exact ⟨by simp [bs_tl, HB2.out], W2.out⟩
        case rest =>
          obtain ⟨rfl, hB⟩ := hcut
          go_wp2
          go_ret
          exact ⟨rfl, hB⟩
end Go.Proofs.Ytjgahidfhagafaa
