/- A full page that is cut in two leaves room in both halves for the longest entry, if it has four slots or more: for every list of entries; no condition. -/
import Derived.Test.YtfegabikfkmepaaCHalves4
section
namespace Go.Proofs.Ytfegabikfkmepaa
open Go.RowKit Go.Gi Go.GiRow Go.Proofs.YtfegabikfkmepaaW.PrintWords Go.Proofs.YtfegabikfkmepaaW.PrintLast Go.Proofs.YtfegabikfkmepaaW.PrintMore PNe
set_option maxRecDepth 20000
set_option linter.unusedSimpArgs false
set_option linter.unusedVariables false
structure En where
  key : ByteArray
  page : Int
  slot : Int
def En.cells (x : En) : List Value := [.string x.key, .int .u32 x.page, .int .i64 x.slot]
def H0 : ByteArray := bs (putL 4 0)
theorem H0_size : H0.size = 4 := rfl
theorem blank_f : page_Blank.f 3 = some (3, 0, 0, ⟨#[]⟩, []) := rfl
theorem formL_f : node_FormatLeaf.f 0 = some (1, 3, H0, ⟨#[]⟩) := by kernel_rfl
theorem ap_form : apR 3 0 0 ⟨#[]⟩ [] 1 3 H0 ⟨#[]⟩ 1 = (3, 1, 3, H0, [], 0) := by kernel_rfl
def shC (lsn : Int) (v : Value) : Array Value := #[.int .u32 3, .int .u64 lsn, .int .i64 3, .string H0, v]
def LeafOk (its : List It) : Prop := (∀ x ∈ its, It.Good x) ∧ slotsN (its.map slotOf) ≤ 481
theorem slots9 (its : List It) : 9 * its.length ≤ slotsN (its.map slotOf) := by
  induction its with
  | nil => simp
  | cons x l ih =>
    rw [List.map_cons, slotsN_cons, slotOf_size, List.length_cons]
    omega
theorem slots_mem {its : List It} {s : ByteArray} (h : s ∈ its.map slotOf) : s.size ≤ slotsN (its.map slotOf) := by
  obtain ⟨a, b, e⟩ := List.append_of_mem h
  rw [e]
  have := slotsN_append a (s :: b)
  rw [slotsN_cons] at this
  omega
def fullV (its : List It) : Bool := decide (408 < slotsN (its.map slotOf))
theorem full_leaf {its : List It} (h : LeafOk its) (lsn : Int) : node_Full.f 3 lsn 3 H0 (its.map slotOf) = some (fullV its) := by
  have h9 := slots9 its
  have h2 := h.2
  unfold node_Full.f page_Room.f fullV
  rw [if_neg (by decide), if_neg (by rw [List.length_map]; omega), if_pos ⟨by rw [List.length_map]; omega, fun x hx => by have := slots_mem hx; omega, by decide⟩, Option.bind_some]
  congr 1
  have e : ((485 : Int) - (H0.size : Nat) - (slotsN (its.map slotOf) : Nat) < (2 + 7) + 64) ↔ 408 < slotsN (its.map slotOf) := by
    rw [H0_size]
    omega
  exact decide_eq_decide.2 e
theorem full_some {its : List It} (h : LeafOk its) (lsn : Int) : ∃ b, node_Full.f 3 lsn 3 H0 (its.map slotOf) = some b := ⟨_, full_leaf h lsn⟩
def insIt (its : List It) (i : Nat) (x : It) : List It := its.take i ++ x :: its.drop i
theorem insIt_map (its : List It) (i : Nat) (x : It) : (insIt its i x).map slotOf = insL (its.map slotOf) i (slotOf x) := by
  simp [insIt, insL, List.map_take, List.map_drop]
theorem slotsN_insL (l : List ByteArray) (i : Nat) (s : ByteArray) : slotsN (insL l i s) = slotsN l + 2 + s.size := by
  have h := slotsN_append (l.take i) (s :: l.drop i)
  have h2 := slotsN_append (l.take i) (l.drop i)
  rw [List.take_append_drop] at h2
  rw [slotsN_cons] at h
  unfold insL
  omega
theorem full_false {its : List It} {lsn : Int} (h : LeafOk its) (hf : node_Full.f 3 lsn 3 H0 (its.map slotOf) = some false) : slotsN (its.map slotOf) ≤ 408 := by
  rw [full_leaf h] at hf
  have := Option.some.inj hf
  unfold fullV at this
  have := of_decide_eq_false this
  omega
theorem ap_ins_leaf (its : List It) (h : LeafOk its) (hf : slotsN (its.map slotOf) ≤ 408) (x : It) (hx : It.Good x) (i : Nat) (hi : i ≤ its.length) (lsn l : Int) :
    apR 3 lsn 3 H0 (its.map slotOf) 2 i (slotOf x) ⟨#[]⟩ l = (3, l, 3, H0, (insIt its i x).map slotOf, 0) ∧ LeafOk (insIt its i x) := by
  have h9 := slots9 its
  have hz := slotOf_size x
  have hk := hx.2.2.2.2
  have hn : slotsN ((insIt its i x).map slotOf) = slotsN (its.map slotOf) + 2 + (slotOf x).size := by rw [insIt_map, slotsN_insL]
  have hE : opEs 2 i (slotOf x) (⟨#[]⟩ : ByteArray) = 0 := (opE_pos (by
    have es : (slotOf x).data.toList.length = (slotOf x).size := by simp
    unfold opOk
    rw [es]
    refine ⟨by omega, by simp, .inr (.inl ⟨rfl, by omega, by omega, by simp⟩)⟩)).symm
  have hS : stE 3 H0 (its.map slotOf) 2 i (slotOf x) (⟨#[]⟩ : ByteArray) = 0 := by
    unfold stE
    rw [if_pos rfl, if_neg (by rw [List.length_map]; omega), if_neg (by rw [List.length_map]; omega)]
  refine ⟨?_, fun y hy => ?_, by omega⟩
  · unfold apR
    rw [if_neg (by rw [hE]; simp), if_neg (by rw [hS]; simp), if_neg (by decide), if_pos rfl, Int.toNat_natCast, ← insIt_map]
    unfold finR
    rw [if_neg (by rw [hn, H0_size]; omega)]
  · unfold insIt at hy
    rcases List.mem_append.1 hy with hy | hy
    · exact h.1 _ (List.mem_of_mem_take hy)
    · rcases List.mem_cons.1 hy with rfl | hy
      · exact hx
      · exact h.1 _ (List.mem_of_mem_drop hy)
theorem sh_cells {w : World} {g : Nat} {lsn : Int} {V : Value} (h : Blk w g 28 (shC lsn V)) : w.cell? ⟨g, 0, none⟩ = some (.int .u32 3) ∧ w.cell? ⟨g, 1, none⟩ = some (.int .u64 lsn) ∧ w.cell? ⟨g, 2, none⟩ = some (.int .i64 3) ∧ w.cell? ⟨g, 3, none⟩ = some (.string H0) ∧ w.cell? ⟨g, 4, none⟩ = some V := ⟨h.cell 0, h.cell 1, h.cell 2, h.cell 3, h.cell 4⟩
theorem own_form {w : World} {base n c : Nat} {A : Option Addr} {slots : List ByteArray} (h : OwnP w base (.slice A n c) slots) (hn : 0 < slots.length) : ∃ g, A = some ⟨g, 0, none⟩ ∧ slots.length ≤ c ∧ c ≤ maxLen := by
  rcases h.2 with ⟨e, h0⟩ | ⟨g, cap, cur, e, h1, h2, h3, h4, _⟩
  · omega
  · injection e with e1 e2 e3
    subst e3
    exact ⟨g, e1, h3, h4⟩
theorem full_part {its : List It} (h : LeafOk its) (l : List It) (hl : ∀ x ∈ l, x ∈ its) (hn : slotsN (l.map slotOf) ≤ 408) (lsn : Int) : node_Full.f 3 lsn 3 H0 (l.map slotOf) = some false := by
  rw [full_leaf ⟨fun x hx => h.1 x (hl x hx), by omega⟩]
  congr 1
  exact decide_eq_false (by omega)
theorem half_own2 {w : World} {base : Nat} {v : Value} {slots : List ByteArray} (num lsn kind : Int) (head : ByteArray) (k : Nat) (r : Int) (h : OwnP w base v slots) (hf : PNd.node_Half.f k num lsn kind head slots = some r) :
    Calls Try.prog 10 #[.agg #[.int .u32 num, .int .u64 lsn, .int .i64 kind, .string head, v]] w fun e w' => e = .returned (.int .i64 r) ∧ Below w.heap.size w w' := by
  obtain ⟨A, c, rfl, hc, hC⟩ := own_C h
  exact PNd.node_Half.calls k num lsn kind head A c slots r w hC hc hf
theorem sz_slots (l : List ByteArray) : (slotsN l : Int) = 2 * l.length + PNd.sz l := by
  induction l with
  | nil => rfl
  | cons s l ih => rw [slotsN_cons, PNd.sz_cons, List.length_cons]; omega
theorem sz_le {its : List It} (h : LeafOk its) : PNd.sz (its.map slotOf) ≤ 481 := by
  have h1 := sz_slots (its.map slotOf)
  have h2 := h.2
  omega
theorem sz_range (its : List It) (h : ∀ x ∈ its, It.Good x) : 7 * (its.length : Int) ≤ PNd.sz (its.map slotOf) ∧ PNd.sz (its.map slotOf) ≤ 71 * its.length := by
  induction its with
  | nil => exact ⟨by decide, by decide⟩
  | cons x l ih =>
    have := ih (fun y hy => h y (by simp [hy]))
    have hx := (h x (by simp)).2.2.2.2
    rw [List.map_cons, PNd.sz_cons, slotOf_size, List.length_cons]
    omega
theorem hAt_min (l : List ByteArray) : ∀ d i j, PNd.hAt l d i = some j → 2 * PNd.sz (l.take (j + 1)) ≥ PNd.sz l ∧ ∀ m, i ≤ m → m < j → ¬ 2 * PNd.sz (l.take (m + 1)) ≥ PNd.sz l
  | 0, _, _, h => by simp [PNd.hAt] at h
  | d + 1, i, j, h => by
    rw [PNd.hAt] at h
    split at h
    · rename_i hc
      injection h with h
      subst h
      exact ⟨hc, fun m h1 h2 => absurd h1 (by omega)⟩
    · rename_i hc
      obtain ⟨h1, h2⟩ := hAt_min l d (i + 1) j h
      refine ⟨h1, fun m h3 h4 => ?_⟩
      rcases Nat.lt_or_ge i m with h5 | h5
      · exact h2 m h5 h4
      · obtain rfl : m = i := by omega
        exact hc
theorem halves_nums (its : List It) (h : LeafOk its) (hf : 408 < slotsN (its.map slotOf)) : ∃ at_ : Nat, PNd.halfV (its.map slotOf) = (at_ : Int) ∧ 1 ≤ at_ ∧ at_ < its.length ∧ 4 ≤ its.length ∧ slotsN ((its.map slotOf).take at_) ≤ 408 ∧ slotsN ((its.map slotOf).drop at_) ≤ 408 := by
  have hl : (its.map slotOf).length = its.length := List.length_map ..
  have hS := sz_slots (its.map slotOf)
  have hR := sz_range its h.1
  have h2 := h.2
  have h9 := slots9 its
  unfold PNd.halfV
  cases hc : PNd.hAt (its.map slotOf) (its.map slotOf).length 0 with
  | none =>
    have := PNd.hAt_none (its.map slotOf) _ 0 (by omega) hc
    omega
  | some j =>
    obtain ⟨m1, m2⟩ := hAt_min _ _ _ _ hc
    have hj := PNd.hAt_spec _ _ _ _ hc
    have hjl : j < its.length := by omega
    have ht := PNd.sz_take (its.map slotOf) j (by omega)
    have hz : ((its.map slotOf)[j]'(by omega)).size = 7 + its[j].key.size := by rw [List.getElem_map, slotOf_size]
    have hk := (h.1 _ (List.getElem_mem hjl)).2.2.2.2
    have hj1 : 1 ≤ j := by
      rcases Nat.eq_zero_or_pos j with h0 | h0
      · subst h0
        rw [List.take_zero, PNd.sz_nil] at ht
        omega
      · exact h0
    have hm := m2 (j - 1) (Nat.zero_le _) (by omega)
    rw [show j - 1 + 1 = j by omega] at hm
    have ra := sz_range (its.take j) (fun x hx => h.1 x (List.mem_of_mem_take hx))
    have rb := sz_range (its.drop j) (fun x hx => h.1 x (List.mem_of_mem_drop hx))
    have sa := sz_slots ((its.map slotOf).take j)
    have sb := sz_slots ((its.map slotOf).drop j)
    have sc : slotsN (its.map slotOf) = slotsN ((its.map slotOf).take j) + slotsN ((its.map slotOf).drop j) := by rw [← slotsN_append, List.take_append_drop]
    rw [← List.map_take, List.length_map, List.length_take] at sa
    rw [← List.map_drop, List.length_map, List.length_drop] at sb
    rw [List.length_take] at ra
    rw [List.length_drop] at rb
    simp only [← List.map_take, ← List.map_drop] at ht hm sc m1
    refine ⟨j, ?_, hj1, hjl, by omega, by rw [← List.map_take]; omega, by rw [← List.map_drop]; omega⟩
    show mn (mx (j : Int) 1) (((its.map slotOf).length : Int) - 1) = (j : Int)
    unfold mn mx
    rw [if_neg (by omega), if_neg (by omega)]
set_option maxHeartbeats 64000000 in
theorem halves_any (A0 : Option Addr) (c0 : Nat) (l : List En) (w : World) (hA : RdRows En.cells 3 w A0 l) (hp : ∀ x ∈ l, 0 ≤ x.page ∧ x.page ≤ 4294967295) (hl : l.length ≤ 1000000000000000) :
    Calls Try.prog 4 #[.slice A0 l.length c0] w fun e w' => e = .returned (.bool true) ∧ Below w.heap.size w w' := by
  have HA := Lib.hid hA
  have HP := Lib.hid hp
  clear hA hp
  go_enter Try.func4, Try.ntmps4
  go_upto_region 2 with (first
    | (go_at_call 12; refine (page_Blank.calls 3 3 0 0 ⟨#[]⟩ [] _ blank_f).mono ?_; rintro e w1 ⟨v1, rfl, hR1, hb1⟩; obtain ⟨A1, m1, rfl⟩ := Kd.R_slice hR1; have hRR := Kd.R_reads' hR1; have HC := Lib.hid hRR.2.2; have HN := Lib.hid hRR.2.1; have HK := Lib.hid hb1; clear hR1 hb1 hRR)
    | (go_at_call 13; refine (node_FormatLeaf.calls 0 1 3 H0 ⟨#[]⟩ _ formL_f).mono ?_; rintro e w2 ⟨rfl, hb2⟩; have HC2 := Lib.hid (Kd.C_below HC.out hb2); have HK2 := Lib.hid (bstep HK.out hb2); clear HC HK hb2; have HC := HC2; have HK := HK2; clear HC2 HK2)
    | (go_at_call 11; refine (apply_any 3 0 0 ⟨#[]⟩ [] A1 m1 1 3 H0 ⟨#[]⟩ 1 _ HC.out HN.out (by simp) (by simp) (by decide)).mono ?_; rintro e w3 ⟨v3, he, ho, hb3⟩; rw [ap_form] at he ho; subst he; obtain ⟨A3, m3, hv3⟩ := own_sl ho; subst hv3; have HO := Lib.hid (OwnP.lower (show OwnP w3 w2.heap.size (.slice A3 ([] : List ByteArray).length m3) (([] : List It).map slotOf) from ho) HK.out.size); have HK2 := Lib.hid (bstep HK.out hb3); clear ho hb3 HC HK HN; have HK := HK2; clear HK2)
    | (refine wpList_store_row rfl 28 (.tmp 3) (.tmp 18) rfl w3.heap.size (shC 1 (.slice A3 ([] : List ByteArray).length m3)) rfl rfl 28 #[.int .u32 0, .int .u64 0, .int .i64 0, .string ⟨#[]⟩, .slice none 0 0] (Blk.new w3 28 #[.int .u32 0, .int .u64 0, .int .i64 0, .string ⟨#[]⟩, .slice none 0 0]) (by kernel_rfl) rfl (by simp [shC, Value.oneCell']) ?_))
  have hB0 := Blk.new w3 28 #[.int .u32 0, .int .u64 0, .int .i64 0, .string ⟨#[]⟩, .slice none 0 0]
  have hB : Blk ((w3.alloc (.cells #[.int .u32 0, .int .u64 0, .int .i64 0, .string ⟨#[]⟩, .slice none 0 0] 28)).setRow w3.heap.size (shC 1 (.slice A3 ([] : List ByteArray).length m3))) w3.heap.size 28 (shC 1 (.slice A3 ([] : List ByteArray).length m3)) := blk_setRow hB0
  have hO : OwnP ((w3.alloc (.cells #[.int .u32 0, .int .u64 0, .int .i64 0, .string ⟨#[]⟩, .slice none 0 0] 28)).setRow w3.heap.size (shC 1 (.slice A3 ([] : List ByteArray).length m3))) w.heap.size (.slice A3 ([] : List ByteArray).length m3) (([] : List It).map slotOf) := OwnP.setRow (HO.out.below (balloc (Below.refl _ _) _)) hB0 (by decide)
  have hK : Below w.heap.size w ((w3.alloc (.cells #[.int .u32 0, .int .u64 0, .int .i64 0, .string ⟨#[]⟩, .slice none 0 0] 28)).setRow w3.heap.size (shC 1 (.slice A3 ([] : List ByteArray).length m3))) := setRow_below (balloc HK.out _) HK.out.size _
  have hG := HK.out.size
  clear HO HK hB0
  simp only [List.length_nil] at hB hO hK
  generalize (w3.alloc (.cells #[.int .u32 0, .int .u64 0, .int .i64 0, .string ⟨#[]⟩, .slice none 0 0] 28)).setRow w3.heap.size (shC 1 (.slice A3 0 m3)) = w4 at *
  generalize w3.heap.size = g3 at *
  have HB := Lib.hid hB
  have HO := Lib.hid hO
  have HK := Lib.hid hK
  clear hB hO hK
  go_upto_block 0 with (first | (go_at_call 7; refine (awake_any _).mono ?_; rintro e w5 ⟨rfl, hb5⟩; have HO5 := Lib.hid (HO.out.below hb5); have HB5 := Lib.hid (HB.out.step hb5); have HK5 := Lib.hid (bstep HK.out hb5); clear HO HB HK hb5; have HO := HO5; have HB := HB5; have HK := HK5; clear HO5 HB5 HK5))
  go_cut [5, 6, 7, 8, 9, 10] from 26 to 80 (fun _ _ _ _ _ _ wx => ∃ (its : List It) (lsn : Int) (V : Value), Hid (Blk wx g3 28 (shC lsn V)) ∧ Hid (OwnP wx w.heap.size V (its.map slotOf)) ∧ Hid (Below w.heap.size w wx) ∧ Hid (LeafOk its))
  case first =>
   go_wp2_with fail
   go_loopw [5] (fun i wr => ∃ (k : Nat) (its : List It) (lsn : Int) (V : Value), i = .int .i64 k ∧ k ≤ l.length ∧ Hid (Blk wr g3 28 (shC lsn V)) ∧ Hid (OwnP wr w.heap.size V (its.map slotOf)) ∧ Hid (Below w.heap.size w wr) ∧ Hid (LeafOk its))
     (fun i _ => l.length - (intOf i).toNat)
   case atStart => exact ⟨0, [], 1, _, rfl, Nat.zero_le _, HB, HO, HK, ⟨fun x hx => absurd hx (by simp), by decide⟩⟩
   case round =>
     clear HB HO HK
     obtain ⟨k, its, lsn, V, rfl, hk, HB, HO, HK, HL⟩ := hrel
     obtain ⟨b, hb⟩ : ∃ b, node_Full.f 3 lsn 3 H0 (its.map slotOf) = some b := full_some HL.out lsn
     have HF := Lib.hid hb
     clear hb
     by_cases hc : k < l.length ∧ k < 80 ∧ b = false
     · obtain ⟨h1, h2, rfl⟩ := hc
       have d1 : decide ((k : Int) < (l.length : Int)) = true := by simpa using h1
       have d2 : decide ((k : Int) < 80) = true := decide_eq_true (by omega)
       go_upto_region 7 with (first | (refine wpList_load_row_on rfl 28 (.tmp 3) rfl g3 rfl 28 (shC lsn V) (0, 0) _ HB.out Try.underlying28 rfl (by kernel_rfl) ?_) | (go_at_call 8; refine (full_own 3 lsn 3 H0 _ HO.out HF.out).mono ?_; rintro e w5 ⟨rfl, hb5⟩; have HO5 := Lib.hid (HO.out.below hb5); have HB5 := Lib.hid (HB.out.step hb5); have HK5 := Lib.hid (bstep HK.out hb5); clear HO HB HK hb5; have HO := HO5; have HB := HB5; have HK := HK5; clear HO5 HB5 HK5))
       obtain ⟨ab, off, rfl, hab, hcl⟩ := HA.out k h1
       have y0 := (HK.out.cell (p := ⟨ab, off + k * 3 + 0, none⟩) hab).trans (hcl 0 _ rfl)
       have y1 := (HK.out.cell (p := ⟨ab, off + k * 3 + 1, none⟩) hab).trans (hcl 1 _ rfl)
       have y2 := (HK.out.cell (p := ⟨ab, off + k * 3 + 2, none⟩) hab).trans (hcl 2 _ rfl)
       rw [Nat.add_zero] at y0
       have hpg := HP.out _ (List.getElem_mem h1)
       clear hcl
       generalize l[k] = x at *
       obtain ⟨xk, xp, xs⟩ := x
       simp only at y0 y1 y2 hpg
       have i0 : (0 : Int) ≤ k := by omega
       have i1 : (k : Int) < l.length := by omega
       go_upto_region 8 with fail
       have hE := Blk.new w5 43 #[.string xk, .int .u32 xp, .int .i64 xs]
       have hb5 := balloc (Below.refl w5.heap.size w5) (.cells #[.string xk, .int .u32 xp, .int .i64 xs] 43)
       have HN6 := Lib.hid (fun e : g3 = w5.heap.size => Nat.lt_irrefl _ (e ▸ HB.out.lt))
       have HG6 := Lib.hid HK.out.size
       have HO5 := Lib.hid (HO.out.below hb5); have HB5 := Lib.hid (HB.out.step hb5); have HK5 := Lib.hid (bstep HK.out hb5); clear HO HB HK hb5; have HO := HO5; have HB := HB5; have HK := HK5; clear HO5 HB5 HK5
       generalize w5.alloc (.cells #[.string xk, .int .u32 xp, .int .i64 xs] 43) = w6 at *
       generalize w5.heap.size = g6 at *
       have HE := Lib.hid hE
       have e0 := hE.cell 0
       have e1 := hE.cell 1
       have e2 := hE.cell 2
       have f0 := hE.frozen 0
       have f2 := hE.frozen 2
       clear hE y0 y1 y2 i0 i1
       obtain ⟨m, hm, hm2⟩ := and16 xs
       have HM := Lib.hid hm
       clear hm
       have hkey : ∃ (kk : ByteArray) (w7 : World), kk.size ≤ 64 ∧ ((decide ((64 : Int) < (xk.size : Int)) = true ∧ ¬ ((xk.size : Int) < 64) ∧ Hid ((w6.setCell ⟨g6, 0, none⟩ (.string (xk.extract 0 64))).setCell ⟨g6, 2, none⟩ (.int .i64 (Go.bits .and .i64 xs 65535)) = w7)) ∨ (decide ((64 : Int) < (xk.size : Int)) = false ∧ ¬ ((64 : Int) < (xk.size : Int)) ∧ Hid (w6.setCell ⟨g6, 2, none⟩ (.int .i64 (Go.bits .and .i64 xs 65535)) = w7))) ∧ Blk w7 g6 43 #[.string kk, .int .u32 xp, .int .i64 m] ∧ Blk w7 g3 28 (shC lsn V) ∧ OwnP w7 w.heap.size V (its.map slotOf) ∧ Below w.heap.size w w7 := by
         by_cases hkl : 64 < xk.size
         · refine ⟨xk.extract 0 64, _, by rw [ByteArray.size_extract]; omega, .inl ⟨decide_eq_true (by omega), by omega, Lib.hid rfl⟩, ?_⟩
           have q1 := (HE.out.set_ 0 (.string (xk.extract 0 64))).set_ 2 (.int .i64 (Go.bits .and .i64 xs 65535))
           refine ⟨?_, (HB.out.far HN6.out _).far HN6.out _, OwnP.set (OwnP.set HO.out HE.out (by decide)) (HE.out.set_ 0 _) (by decide), bsetAt (bsetAt HK.out HG6.out _) HG6.out _⟩
           rw [HM.out] at q1 ⊢
           exact q1
         · refine ⟨xk, _, by omega, .inr ⟨decide_eq_false (by omega), by omega, Lib.hid rfl⟩, ?_⟩
           have q1 := HE.out.set_ 2 (.int .i64 (Go.bits .and .i64 xs 65535))
           refine ⟨?_, HB.out.far HN6.out _, OwnP.set HO.out HE.out (by decide), bsetAt HK.out HG6.out _⟩
           rw [HM.out] at q1 ⊢
           exact q1
       obtain ⟨kk, w7, hk64, hw7, q1, q2, q3, q4⟩ := hkey
       have HE7 := Lib.hid q1
       have HB7 := Lib.hid q2
       have HO7 := Lib.hid q3
       have HK7 := Lib.hid q4
       clear q1 q2 q3 q4
       have hgd : It.Good ⟨kk, xp, m, true⟩ := ⟨hpg.1, hpg.2, by show (0 : Int) ≤ m; omega, by show (m : Int) ≤ 65535; omega, hk64⟩
       rcases hw7 with ⟨d3, d4, HW7⟩ | ⟨d3, d4, HW7⟩
       all_goals
         go_upto_region 11 with fail
         rw [HW7.out]
         clear HW7 HE HB HO HK e0 e1 e2 f0 f2 HM
         have HE := HE7
         have HB := HB7
         have HO := HO7
         have HK := HK7
         clear HE7 HB7 HO7 HK7
         cases hi : findIs its kk xp m with
         | true =>
           have HR := Lib.hid (show (if findIs its kk xp m = true then (0, 0, ⟨#[]⟩, ⟨#[]⟩, 121) else (2, (findAt its kk xp m : Int), slotOf ⟨kk, xp, m, true⟩, ⟨#[]⟩, 0) : Int × Int × ByteArray × ByteArray × Int) = (0, 0, ⟨#[]⟩, ⟨#[]⟩, 121) by rw [if_pos hi])
           clear hi
           go_upto_region 12 with (first | (refine wpList_load_row rfl 28 (.tmp 3) rfl g3 rfl 28 (shC lsn V) (0, 0) _ HB.out Try.underlying28 rfl (by kernel_rfl) ?_) | (refine wpList_load_row rfl 43 (.tmp 6) rfl g6 rfl 43 #[.string kk, .int .u32 xp, .int .i64 m] (0, 0) _ HE.out Try.underlying43 rfl (by kernel_rfl) ?_) | (go_at_call 14; refine (put_own 3 lsn H0 its HL.out.1 (by have h_ := slots9 its; have h2_ := HL.out.2; omega) rfl ⟨kk, xp, m, true⟩ hgd HO.out 0 0 ⟨#[]⟩ 121 HR.out).mono ?_; rintro e w8 ⟨rfl, hb8⟩; have HO5 := Lib.hid (HO.out.below hb8); have HB5 := Lib.hid (HB.out.step hb8); have HK5 := Lib.hid (bstep HK.out hb8); clear HO HB HK HE hb8; have HO := HO5; have HB := HB5; have HK := HK5; clear HO5 HB5 HK5) | (refine wpList_store_row rfl 38 (.tmp 7) (.tmp 64) rfl w8.heap.size #[.int .i64 0, .int .i64 0, .string ⟨#[]⟩, .string ⟨#[]⟩] rfl rfl 38 #[.int .i64 0, .int .i64 0, .string ⟨#[]⟩, .string ⟨#[]⟩] (Blk.new w8 38 #[.int .i64 0, .int .i64 0, .string ⟨#[]⟩, .string ⟨#[]⟩]) (by kernel_rfl) rfl (by simp [shC, Value.oneCell']) ?_))
           have hb5 := setRow_below (balloc (Below.refl w8.heap.size w8) (.cells #[.int .i64 0, .int .i64 0, .string ⟨#[]⟩, .string ⟨#[]⟩] 38)) (Nat.le_refl w8.heap.size) #[.int .i64 0, .int .i64 0, .string ⟨#[]⟩, .string ⟨#[]⟩]
           have HO5 := Lib.hid (HO.out.below hb5); have HB5 := Lib.hid (HB.out.step hb5); have HK5 := Lib.hid (bstep HK.out hb5); clear HO HB HK hb5; have HO := HO5; have HB := HB5; have HK := HK5; clear HO5 HB5 HK5
           generalize (w8.alloc (.cells #[.int .i64 0, .int .i64 0, .string ⟨#[]⟩, .string ⟨#[]⟩] 38)).setRow w8.heap.size #[.int .i64 0, .int .i64 0, .string ⟨#[]⟩, .string ⟨#[]⟩] = w9 at *
           go_wp2
           go_roundw
           case rel => exact ⟨k + 1, its, lsn, V, by go_num, by omega, HB, HO, HK, HL⟩
           case measure => simp [intOf]; omega
         | false =>
           have hat : findAt its kk xp m ≤ its.length := (bsr_le _ _ _ _ (Nat.zero_le _)).2
           obtain ⟨hap, hok⟩ := ap_ins_leaf its HL.out (full_false HL.out HF.out) ⟨kk, xp, m, true⟩ hgd _ hat lsn 2
           have HAP := Lib.hid hap
           have HOK := Lib.hid hok
           clear hap hok hat
           obtain ⟨sl, hsl⟩ : ∃ sl, sl = slotOf ⟨kk, xp, m, true⟩ := ⟨_, rfl⟩
           obtain ⟨fa, hfa⟩ : ∃ fa, fa = findAt its kk xp m := ⟨_, rfl⟩
           rw [← hsl, ← hfa] at HAP
           rw [← hfa] at HOK
           have HR := Lib.hid (show (if findIs its kk xp m = true then (0, 0, ⟨#[]⟩, ⟨#[]⟩, 121) else (2, (findAt its kk xp m : Int), slotOf ⟨kk, xp, m, true⟩, ⟨#[]⟩, 0) : Int × Int × ByteArray × ByteArray × Int) = (2, (fa : Int), sl, ⟨#[]⟩, 0) by rw [hi, hsl, hfa]; rfl)
           clear hi hsl hfa
           go_upto_region 12 with (first | (refine wpList_load_row rfl 28 (.tmp 3) rfl g3 rfl 28 (shC lsn V) (0, 0) _ HB.out Try.underlying28 rfl (by kernel_rfl) ?_) | (refine wpList_load_row rfl 43 (.tmp 6) rfl g6 rfl 43 #[.string kk, .int .u32 xp, .int .i64 m] (0, 0) _ HE.out Try.underlying43 rfl (by kernel_rfl) ?_) | (go_at_call 14; refine (put_own 3 lsn H0 its HL.out.1 (by have h_ := slots9 its; have h2_ := HL.out.2; omega) rfl ⟨kk, xp, m, true⟩ hgd HO.out 2 (fa : Int) sl 0 HR.out).mono ?_; rintro e w8 ⟨rfl, hb8⟩; have HO5 := Lib.hid (HO.out.below hb8); have HB5 := Lib.hid (HB.out.step hb8); have HK5 := Lib.hid (bstep HK.out hb8); clear HO HB HK HE hb8; have HO := HO5; have HB := HB5; have HK := HK5; clear HO5 HB5 HK5) | (refine wpList_store_row rfl 38 (.tmp 7) (.tmp 64) rfl w8.heap.size #[.int .i64 2, .int .i64 fa, .string sl, .string ⟨#[]⟩] rfl rfl 38 #[.int .i64 0, .int .i64 0, .string ⟨#[]⟩, .string ⟨#[]⟩] (Blk.new w8 38 #[.int .i64 0, .int .i64 0, .string ⟨#[]⟩, .string ⟨#[]⟩]) (by kernel_rfl) rfl (by simp [shC, Value.oneCell']) ?_))
           have hQ := blk_setRow (cs' := #[.int .i64 2, .int .i64 fa, .string sl, .string ⟨#[]⟩]) (Blk.new w8 38 #[.int .i64 0, .int .i64 0, .string ⟨#[]⟩, .string ⟨#[]⟩])
           have hb5 := setRow_below (balloc (Below.refl w8.heap.size w8) (.cells #[.int .i64 0, .int .i64 0, .string ⟨#[]⟩, .string ⟨#[]⟩] 38)) (Nat.le_refl w8.heap.size) #[.int .i64 2, .int .i64 fa, .string sl, .string ⟨#[]⟩]
           have HO5 := Lib.hid (HO.out.below hb5); have HB5 := Lib.hid (HB.out.step hb5); have HK5 := Lib.hid (bstep HK.out hb5); clear HO HB HK hb5; have HO := HO5; have HB := HB5; have HK := HK5; clear HO5 HB5 HK5
           generalize (w8.alloc (.cells #[.int .i64 0, .int .i64 0, .string ⟨#[]⟩, .string ⟨#[]⟩] 38)).setRow w8.heap.size #[.int .i64 2, .int .i64 fa, .string sl, .string ⟨#[]⟩] = w9 at *
           generalize w8.heap.size = g7 at *
           have HQ := Lib.hid hQ
           clear hQ
           go_upto_region 14 with (first | (refine wpList_load_row rfl 28 (.tmp 3) rfl g3 rfl 28 (shC lsn V) (0, 0) _ HB.out Try.underlying28 rfl (by kernel_rfl) ?_) | (refine wpList_load_row rfl 38 (.tmp 7) rfl g7 rfl 38 #[.int .i64 2, .int .i64 fa, .string sl, .string ⟨#[]⟩] (0, 0) _ HQ.out Try.underlying38 rfl (by kernel_rfl) ?_) | (go_at_call 11; refine (ap_own 3 lsn 3 H0 2 fa sl ⟨#[]⟩ 2 HO.out (by have h_ := slots9 its; have h2_ := HL.out.2; simp; omega) (fun x_ hx_ => by have h_ := slots_mem hx_; have h2_ := HL.out.2; omega) (by decide)).mono ?_; rintro e w10 ⟨v10, he, ho, hb10⟩; rw [HAP.out] at he ho; subst he; obtain ⟨A10, m10, hv10⟩ := own_sl ho; rw [List.length_map] at hv10; subst hv10; have HO10 := Lib.hid (OwnP.lower (show OwnP w10 w9.heap.size (.slice A10 (insIt its fa ⟨kk, xp, m, true⟩).length m10) ((insIt its fa ⟨kk, xp, m, true⟩).map slotOf) from ho) HK.out.size); have HB10 := Lib.hid (HB.out.step hb10); have HK10 := Lib.hid (bstep HK.out hb10); clear HO HB HK HQ ho hb10 HAP; have HO := HO10; have HB := HB10; have HK := HK10; clear HO10 HB10 HK10) | (refine wpList_store_row rfl 28 (.tmp 9) (.tmp 72) rfl w10.heap.size (shC 2 (.slice A10 (insIt its fa ⟨kk, xp, m, true⟩).length m10)) rfl rfl 28 #[.int .u32 0, .int .u64 0, .int .i64 0, .string ⟨#[]⟩, .slice none 0 0] (Blk.new w10 28 #[.int .u32 0, .int .u64 0, .int .i64 0, .string ⟨#[]⟩, .slice none 0 0]) (by kernel_rfl) rfl (by simp [shC, Value.oneCell']) ?_))
           have hP := blk_setRow (cs' := shC 2 (.slice A10 (insIt its fa ⟨kk, xp, m, true⟩).length m10)) (Blk.new w10 28 #[.int .u32 0, .int .u64 0, .int .i64 0, .string ⟨#[]⟩, .slice none 0 0])
           have hb5 := setRow_below (balloc (Below.refl w10.heap.size w10) (.cells #[.int .u32 0, .int .u64 0, .int .i64 0, .string ⟨#[]⟩, .slice none 0 0] 28)) (Nat.le_refl w10.heap.size) (shC 2 (.slice A10 (insIt its fa ⟨kk, xp, m, true⟩).length m10))
           have HN9 := Lib.hid (fun e : g3 = w10.heap.size => Nat.lt_irrefl _ (e ▸ HB.out.lt))
           have HO5 := Lib.hid (HO.out.below hb5); have HB5 := Lib.hid (HB.out.step hb5); have HK5 := Lib.hid (bstep HK.out hb5); clear HO HB HK hb5; have HO := HO5; have HB := HB5; have HK := HK5; clear HO5 HB5 HK5
           generalize (w10.alloc (.cells #[.int .u32 0, .int .u64 0, .int .i64 0, .string ⟨#[]⟩, .slice none 0 0] 28)).setRow w10.heap.size (shC 2 (.slice A10 (insIt its fa ⟨kk, xp, m, true⟩).length m10)) = w11 at *
           generalize w10.heap.size = g9 at *
           have HP9 := Lib.hid hP
           clear hP
           go_wp2_with (first | (refine wpList_load_row rfl 28 (.tmp 9) rfl g9 rfl 28 (shC 2 (.slice A10 (insIt its fa ⟨kk, xp, m, true⟩).length m10)) (0, 0) _ HP9.out Try.underlying28 rfl (by kernel_rfl) ?_) | (refine wpList_store_row rfl 28 (.tmp 3) (.tmp 80) rfl g3 (shC 2 (.slice A10 (insIt its fa ⟨kk, xp, m, true⟩).length m10)) rfl rfl 28 (shC lsn V) HB.out (by kernel_rfl) rfl (by simp [shC, Value.oneCell']) ?_))
           go_roundw
           case rel => exact ⟨k + 1, insIt its fa ⟨kk, xp, m, true⟩, 2, .slice A10 (insIt its fa ⟨kk, xp, m, true⟩).length m10, by go_num, by omega, blk_setRow HB.out, OwnP.setRow HO.out HB.out (by decide), setRow_below HK.out hG _, HOK⟩
           case measure => simp [intOf]; omega
     · have hx : (¬ k < l.length ∧ decide ((k : Int) < (l.length : Int)) = false) ∨ (k < l.length ∧ decide ((k : Int) < (l.length : Int)) = true ∧ ¬ (k : Int) < 80 ∧ decide ((k : Int) < 80) = false) ∨ (k < l.length ∧ decide ((k : Int) < (l.length : Int)) = true ∧ (k : Int) < 80 ∧ decide ((k : Int) < 80) = true ∧ b = true) := by
         by_cases h1 : k < l.length
         · by_cases h2 : k < 80
           · refine .inr (.inr ⟨h1, decide_eq_true (by omega), by omega, decide_eq_true (by omega), ?_⟩)
             cases b with
             | true => rfl
             | false => exact absurd ⟨h1, h2, rfl⟩ hc
           · exact .inr (.inl ⟨h1, decide_eq_true (by omega), by omega, decide_eq_false (by omega)⟩)
         · exact .inl ⟨h1, decide_eq_false (by omega)⟩
       clear hc
       rcases hx with ⟨h1, d1⟩ | ⟨h1, d1, h2, d2⟩ | ⟨h1, d1, h2, d2, rfl⟩
       all_goals
         go_wp2_with (first | (refine wpList_load_row_on rfl 28 (.tmp 3) rfl g3 rfl 28 (shC lsn V) (0, 0) _ HB.out Try.underlying28 rfl (by kernel_rfl) ?_) | (go_at_call 8; refine (full_own 3 lsn 3 H0 _ HO.out HF.out).mono ?_; rintro e w5 ⟨rfl, hb5⟩; have HO5 := Lib.hid (HO.out.below hb5); have HB5 := Lib.hid (HB.out.step hb5); have HK5 := Lib.hid (bstep HK.out hb5); clear HO HB HK hb5; have HO := HO5; have HB := HB5; have HK := HK5; clear HO5 HB5 HK5))
         go_meet
         exact ⟨its, lsn, V, HB, HO, HK, HL⟩
  case rest =>
  obtain ⟨its, lsn, V, HB1, HO1, HK1, HL⟩ := hcut
  clear HB HO HK
  have HB := HB1
  have HO := HO1
  have HK := HK1
  clear HB1 HO1 HK1
  obtain ⟨VA, Vm, hV⟩ := own_sl HO.out
  rw [List.length_map] at hV
  subst hV
  cases hfv : fullV its with
  | false =>
    have HF := Lib.hid (show node_Full.f 3 lsn 3 H0 (its.map slotOf) = some false by rw [full_leaf HL.out, hfv])
    clear hfv
    go_wp2_with (first | (refine wpList_load_row rfl 28 (.tmp 3) rfl g3 rfl 28 (shC lsn (.slice VA its.length Vm)) (0, 0) _ HB.out Try.underlying28 rfl (by kernel_rfl) ?_) | (go_at_call 8; refine (full_own 3 lsn 3 H0 _ HO.out HF.out).mono ?_; rintro e w5 ⟨rfl, hb5⟩; have HO5 := Lib.hid (HO.out.below hb5); have HB5 := Lib.hid (HB.out.step hb5); have HK5 := Lib.hid (bstep HK.out hb5); clear HO HB HK hb5; have HO := HO5; have HB := HB5; have HK := HK5; clear HO5 HB5 HK5))
    go_ret
    exact ⟨rfl, HK.out⟩
  | true =>
    have HF := Lib.hid (show node_Full.f 3 lsn 3 H0 (its.map slotOf) = some true by rw [full_leaf HL.out, hfv])
    obtain ⟨at_, hat, n1, n2, n3, n4, n5⟩ := halves_nums its HL.out (of_decide_eq_true hfv)
    have HH := Lib.hid (show PNd.node_Half.f (2 * its.length + 2) 3 lsn 3 H0 (its.map slotOf) = some (at_ : Int) by rw [PNd.half_f _ (by have h_ := sz_le HL.out; omega) (by have h_ := slots9 its; have h2_ := HL.out.2; rw [List.length_map]; omega) _ _ _ _ _ (by rw [List.length_map]; omega), hat])
    clear hfv hat
    go_upto_region 20 with (first | (refine wpList_load_row rfl 28 (.tmp 3) rfl g3 rfl 28 (shC lsn (.slice VA its.length Vm)) (0, 0) _ HB.out Try.underlying28 rfl (by kernel_rfl) ?_) | (go_at_call 8; refine (full_own 3 lsn 3 H0 _ HO.out HF.out).mono ?_; rintro e w5 ⟨rfl, hb5⟩; have HO5 := Lib.hid (HO.out.below hb5); have HB5 := Lib.hid (HB.out.step hb5); have HK5 := Lib.hid (bstep HK.out hb5); clear HO HB HK hb5; have HO := HO5; have HB := HB5; have HK := HK5; clear HO5 HB5 HK5) | (go_at_call 10; refine (half_own2 3 lsn 3 H0 _ _ HO.out HH.out).mono ?_; rintro e w5 ⟨rfl, hb5⟩; have HO5 := Lib.hid (HO.out.below hb5); have HB5 := Lib.hid (HB.out.step hb5); have HK5 := Lib.hid (bstep HK.out hb5); clear HO HB HK hb5; have HO := HO5; have HB := HB5; have HK := HK5; clear HO5 HB5 HK5))
    clear HF HH
    go_cut [12, 13] from 86 to 87 (fun s12 s13 wx => ∃ ga gb, s12 = .pointer (some ⟨ga, 0, none⟩) ∧ s13 = .pointer (some ⟨gb, 0, none⟩) ∧ ga ≠ gb ∧ ga ≠ g3 ∧ gb ≠ g3 ∧ w.heap.size ≤ ga ∧ w.heap.size ≤ gb ∧ Hid (Blk wx ga 28 (shC lsn (.slice VA its.length Vm))) ∧ Hid (Blk wx gb 28 (shC lsn (.slice VA its.length Vm))) ∧ Hid (Blk wx g3 28 (shC lsn (.slice VA its.length Vm))) ∧ Hid (OwnP wx w.heap.size (.slice VA its.length Vm) (its.map slotOf)) ∧ Hid (Below w.heap.size w wx))
    case first =>
      obtain ⟨c0, c1, c2, c3, c4⟩ := sh_cells HB.out
      have hlt := HB.out.lt
      have q1 := Blk.new w5 28 (shC lsn (.slice VA its.length Vm))
      have q2 := Lib.hid (q1.alloc (.cells (shC lsn (.slice VA its.length Vm)) 28))
      have q3 := Blk.new (w5.alloc (.cells (shC lsn (.slice VA its.length Vm)) 28)) 28 (shC lsn (.slice VA its.length Vm))
      rw [size_al] at q3
      have q4 := Lib.hid q3
      have q5 := Lib.hid ((HB.out.alloc (.cells (shC lsn (.slice VA its.length Vm)) 28)).alloc (.cells (shC lsn (.slice VA its.length Vm)) 28))
      have q6 := Lib.hid (balloc (balloc (Below.refl w5.heap.size w5) (.cells (shC lsn (.slice VA its.length Vm)) 28)) (.cells (shC lsn (.slice VA its.length Vm)) 28))
      have q7 := Lib.hid (balloc (balloc HK.out (.cells (shC lsn (.slice VA its.length Vm)) 28)) (.cells (shC lsn (.slice VA its.length Vm)) 28))
      have hle := HK.out.size
      clear q1 q3
      go_region
      all_goals
        go_wp2_with fail
        go_meet
        first
        | exact ⟨w5.heap.size, w5.heap.size + 1, rfl, rfl, by omega, by omega, by omega, hle, by omega, q2.out, q4.out, q5.out, HO.out.below (bdrew q6.out), bdrew q7.out⟩
        | exact ⟨w5.heap.size + 1, w5.heap.size, rfl, rfl, by omega, by omega, by omega, by omega, hle, q4.out, q2.out, q5.out, HO.out.below (bdrew q6.out), bdrew q7.out⟩
    case rest =>
    obtain ⟨ga, gb, rfl, rfl, na, nb, nc, ka, kb, HA9, HB9, HB1, HO1, HK1⟩ := hcut
    clear HB HO HK
    have HB := HB1
    have HO := HO1
    have HK := HK1
    clear HB1 HO1 HK1
    have hform := own_form HO.out (by rw [List.length_map]; omega)
    obtain ⟨gv, rfl, hVm, hVx⟩ := hform
    have hlm : (its.map slotOf).length = its.length := List.length_map ..
    rw [hlm] at hVm
    clear hlm
    go_upto_region 21 with fail
    go_cut [] from 88 to 101 (fun wx => ∃ va vb, Hid (Blk wx ga 28 (shC lsn va)) ∧ Hid (OwnP wx w.heap.size va ((its.map slotOf).take at_)) ∧ Hid (Blk wx gb 28 (shC lsn vb)) ∧ Hid (OwnP wx w.heap.size vb ((its.map slotOf).drop at_)) ∧ Hid (Blk wx g3 28 (shC lsn (.slice (some ⟨gv, 0, none⟩) its.length Vm))) ∧ Hid (Below w.heap.size w wx))
    case first =>
      have c4 := (sh_cells HB.out).2.2.2.2
      have i0 : (0 : Int) ≤ (at_ : Int) := by omega
      have i1 : (at_ : Int) ≤ (Vm : Int) := by omega
      have i2 : (at_ : Int) ≤ (its.length : Int) := by omega
      have i3 : ¬ Vm = at_ := by omega
      have i4 : ¬ (Vm : Int) = (at_ : Int) := by omega
      have i5 : (its.length : Int) ≤ (Vm : Int) := by omega
      have i6 : ((its.length : Int) - (at_ : Int)).toNat = its.length - at_ := by omega
      refine start_ (n := 16) (S := fun w' => w'.cell? ⟨g3, 4, none⟩ = some (.slice (some ⟨gv, 0, none⟩) its.length Vm)) (ds := [13, 15]) #[false, false, false, false, false, false, false, false, false, false, false, false, false, false, false, false] (by kernel_rfl) rfl rfl c4 (fun hHeld => ?_)
      refine pure_ (i := 1) (N := some 89) (v := ?_) (a' := ?_) #[false, true, false, false, false, false, false, false, false, false, false, false, false, false, false, false] rfl rfl (by kernel_rfl) (fun _ _ _ h => h) (Or.inl ⟨by rfl, ?_⟩) ?_ ?_
      rotate_left
      · intro w'
        go_simp
        with_reducible rfl
      rotate_left
      · simp only [Act.put, List.setIfInBounds_toArray, List.set_cons_zero, List.set_cons_succ, i64_w, i32_w]
        rfl
      refine take_ (i := 2) (N := some 90) (v := ?_) (a' := ?_) #[false, true, true, false, false, false, false, false, false, false, false, false, false, false, false, false] rfl rfl (by kernel_rfl) (fun _ _ _ h => h) (Or.inl ⟨by rfl, ?_⟩) hHeld ?_ ?_
      rotate_left
      · rintro w' s0
        go_simp
        with_reducible rfl
      rotate_left
      · simp only [Act.put, List.setIfInBounds_toArray, List.set_cons_zero, List.set_cons_succ, i64_w, i32_w]
        rfl
      refine pure_ (i := 3) (N := some 91) (v := ?_) (a' := ?_) #[false, true, true, true, false, false, false, false, false, false, false, false, false, false, false, false] rfl rfl (by kernel_rfl) (fun _ _ _ h => h) (Or.inl ⟨by rfl, ?_⟩) ?_ ?_
      rotate_left
      · intro w'
        go_simp
        with_reducible rfl
      rotate_left
      · simp only [Act.put, List.setIfInBounds_toArray, List.set_cons_zero, List.set_cons_succ, i64_w, i32_w]
        rfl
      refine pure_ (i := 4) (N := some 92) (v := ?_) (a' := ?_) #[false, true, true, true, true, false, false, false, false, false, false, false, false, false, false, false] rfl rfl (by kernel_rfl) (fun _ _ _ h => h) (Or.inl ⟨by rfl, ?_⟩) ?_ ?_
      rotate_left
      · intro w'
        go_simp
        with_reducible rfl
      rotate_left
      · simp only [Act.put, List.setIfInBounds_toArray, List.set_cons_zero, List.set_cons_succ, i64_w, i32_w]
        rfl
      refine pure_ (i := 7) (N := some 95) (v := ?_) (a' := ?_) #[false, true, true, true, true, false, false, true, false, false, false, false, false, false, false, false] rfl rfl (by kernel_rfl) (fun _ _ _ h => h) (Or.inl ⟨by rfl, ?_⟩) ?_ ?_
      rotate_left
      · intro w'
        go_simp
        with_reducible rfl
      rotate_left
      · simp only [Act.put, List.setIfInBounds_toArray, List.set_cons_zero, List.set_cons_succ, i64_w, i32_w]
        rfl
      refine take_ (i := 8) (N := some 96) (v := ?_) (a' := ?_) #[false, true, true, true, true, false, false, true, true, false, false, false, false, false, false, false] rfl rfl (by kernel_rfl) (fun _ _ _ h => h) (Or.inl ⟨by rfl, ?_⟩) hHeld ?_ ?_
      rotate_left
      · rintro w' s0
        go_simp
        with_reducible rfl
      rotate_left
      · simp only [Act.put, List.setIfInBounds_toArray, List.set_cons_zero, List.set_cons_succ, i64_w, i32_w]
        rfl
      refine pure_ (i := 9) (N := some 97) (v := ?_) (a' := ?_) #[false, true, true, true, true, false, false, true, true, true, false, false, false, false, false, false] rfl rfl (by kernel_rfl) (fun _ _ _ h => h) (Or.inl ⟨by rfl, ?_⟩) ?_ ?_
      rotate_left
      · intro w'
        go_simp
        with_reducible rfl
      rotate_left
      · simp only [Act.put, List.setIfInBounds_toArray, List.set_cons_zero, List.set_cons_succ, i64_w, i32_w]
        rfl
      refine pure_ (i := 10) (N := some 98) (v := ?_) (a' := ?_) #[false, true, true, true, true, false, false, true, true, true, true, false, false, false, false, false] rfl rfl (by kernel_rfl) (fun _ _ _ h => h) (Or.inl ⟨by rfl, ?_⟩) ?_ ?_
      rotate_left
      · intro w'
        go_simp
        with_reducible rfl
      rotate_left
      · simp only [Act.put, List.setIfInBounds_toArray, List.set_cons_zero, List.set_cons_succ, i64_w, i32_w]
        rfl
      have HB0 := Lib.hid HB.out.drew
      have HA0 := Lib.hid HA9.out.drew
      have HC0 := Lib.hid HB9.out.drew
      have HO0 := Lib.hid (HO.out.below (bdrew (Below.refl _ _)))
      have HK0 := Lib.hid (bdrew HK.out)
      clear HB HA9 HB9 HO HK c4
      have HB := HB0
      have HA9 := HA0
      have HB9 := HC0
      have HO := HO0
      have HK := HK0
      clear HB0 HA0 HC0 HO0 HK0 hHeld
      generalize wc.drew = x0 at *
      refine two_ (i := 0) (j := 6) (Ni := some 88) (Nj := some 94) #[true, true, true, true, true, false, false, true, true, true, true, false, false, false, false, false] #[false, true, true, true, true, false, true, true, true, true, true, false, false, false, false, false] rfl rfl rfl rfl (by kernel_rfl) (by decide) (by decide) (fun K hK => ?_) (fun K hK => ?_)
      · refine value_ (w1 := x0.alloc (.cells #[] 9)) (v := .slice (some ⟨x0.heap.size, 0, none⟩) 0 0) (by rfl) rfl (by go_simp) ?_
        have hb5 := balloc (Below.refl x0.heap.size x0) (.cells #[] 9)
        have hL := Blk.new x0 9 #[]
        have hb1 := HK.out.size
        have hgvb1 := Lib.hid (show gv ≠ x0.heap.size from Nat.ne_of_lt (own_lt_ HO.out))
        have n_HB := Lib.hid (HB.out.step hb5)
        have n_HA9 := Lib.hid (HA9.out.step hb5)
        have n_HB9 := Lib.hid (HB9.out.step hb5)
        have n_HO := Lib.hid (HO.out.below hb5)
        have n_HK := Lib.hid (bstep HK.out hb5)
        clear hb5 HB HA9 HB9 HO HK
        have HB := n_HB
        have HA9 := n_HA9
        have HB9 := n_HB9
        have HO := n_HO
        have HK := n_HK
        clear n_HB n_HA9 n_HB9 n_HO n_HK
        generalize x0.alloc (.cells #[] 9) = x1 at *
        generalize x0.heap.size = b1 at *
        have HL1 := Lib.hid hL
        clear hL
        refine hK.out _ _ ((sh_cells HB.out).2.2.2.2) (fun hHeld => ?_)
        clear hK K hHeld
        refine norm_ (a' := ?_) ?_ ?_
        rotate_left
        · show Act.put _ (some 88) _ = _
          simp only [Act.put, List.setIfInBounds_toArray, List.set_cons_zero, List.set_cons_succ]
          rfl
        refine two_ (i := 5) (j := 6) (Ni := some 93) (Nj := some 94) #[true, true, true, true, true, true, false, true, true, true, true, false, false, false, false, false] #[true, true, true, true, true, false, true, true, true, true, true, false, false, false, false, false] rfl rfl rfl rfl (by kernel_rfl) (by decide) (by decide) (fun K hK => ?_) (fun K hK => ?_)
        · refine app_step (by rfl) rfl (.tmp 88) (.tmp 92) 26 rfl 9 (.string ⟨#[]⟩) 16 Try.underlying26 infoStr rfl (.slice (some ⟨b1, 0, none⟩) 0 0) rfl w.heap.size (lit_own HL1.out hb1) ⟨gv, 0, none⟩ at_ Vm (by first | rfl | (simp only [i6]; rfl)) (strV ((its.map slotOf).take at_)) (by rw [strV_len]; simp; try omega) (cells_take HO.out at_ (by rw [List.length_map]; omega)) (strV_one _) (by have h_ := slots9 its; have h2_ := HL.out.2; omega) (by have h_ := slots9 its; have h2_ := HL.out.2; omega) HK.out.size ?_
          intro v1 x2 ho hg hat
          have n_HB := Lib.hid (HB.out.grown hg (fun e_ => own_ne_blk (lit_own HL1.out hb1) HB.out (by decide) e_.symm))
          have n_HA9 := Lib.hid (HA9.out.grown hg (fun e_ => own_ne_blk (lit_own HL1.out hb1) HA9.out (by decide) e_.symm))
          have n_HB9 := Lib.hid (HB9.out.grown hg (fun e_ => own_ne_blk (lit_own HL1.out hb1) HB9.out (by decide) e_.symm))
          have n_HK := Lib.hid (HK.out.grown hg HK.out.size (fun k_ e_ => by have h_ : b1 = k_ := (by simpa [Value.ownBlock] using e_); omega))
          have n_HO := Lib.hid (OwnP.grown HO.out hg (.inr (fun e_ => hgvb1.out (by simpa [Value.ownBlock] using e_))))
          have n_R := Lib.hid (show OwnP x2 w.heap.size v1 ((its.map slotOf).take at_) from by unfold OwnP; rw [show ((its.map slotOf).take at_).length = at_ by simp; try omega]; exact ho)
          clear hg hat ho HB HA9 HB9 HK HO HL1
          have HB := n_HB
          have HA9 := n_HA9
          have HB9 := n_HB9
          have HK := n_HK
          have HO := n_HO
          have HR1 := n_R
          clear n_R n_HB n_HA9 n_HB9 n_HK n_HO
          refine hK.out _ _ ((sh_cells HB.out).2.2.2.2) (fun hHeld => ?_)
          clear hK K hHeld
          refine norm_ (a' := ?_) ?_ ?_
          rotate_left
          · show Act.put _ (some 93) _ = _
            simp only [Act.put, List.setIfInBounds_toArray, List.set_cons_zero, List.set_cons_succ]
            rfl
          refine pure_ (i := 12) (N := some 100) (v := ?_) (a' := ?_) #[true, true, true, true, true, true, false, true, true, true, true, false, true, false, false, false] rfl rfl (by kernel_rfl) (fun _ _ _ h => h) (Or.inl ⟨by rfl, ?_⟩) ?_ ?_
          rotate_left
          · intro w'
            go_simp
            with_reducible rfl
          rotate_left
          · simp only [Act.put, List.setIfInBounds_toArray, List.set_cons_zero, List.set_cons_succ, i64_w, i32_w]
            rfl
          refine one_ (i := 6) (N := some 94) #[true, true, true, true, true, true, true, true, true, true, true, false, true, false, false, false] rfl rfl (by kernel_rfl) (by decide) (fun K hK => ?_)
          refine value_ (w1 := x2.alloc (.cells #[] 9)) (v := .slice (some ⟨x2.heap.size, 0, none⟩) 0 0) (by rfl) rfl (by go_simp) ?_
          have hb5 := balloc (Below.refl x2.heap.size x2) (.cells #[] 9)
          have hL := Blk.new x2 9 #[]
          have hb2 := HK.out.size
          have hD := Lib.hid (own_ne_new HR1.out)
          have n_HB := Lib.hid (HB.out.step hb5)
          have n_HA9 := Lib.hid (HA9.out.step hb5)
          have n_HB9 := Lib.hid (HB9.out.step hb5)
          have n_HO := Lib.hid (HO.out.below hb5)
          have n_HK := Lib.hid (bstep HK.out hb5)
          have n_HR1 := Lib.hid (HR1.out.below hb5)
          clear hb5 HB HA9 HB9 HO HK HR1
          have HB := n_HB
          have HA9 := n_HA9
          have HB9 := n_HB9
          have HO := n_HO
          have HK := n_HK
          have HR1 := n_HR1
          clear n_HB n_HA9 n_HB9 n_HO n_HK n_HR1
          generalize x2.alloc (.cells #[] 9) = x3 at *
          generalize x2.heap.size = b2 at *
          have HL2 := Lib.hid hL
          clear hL
          refine hK.out _ _ ((sh_cells HB.out).2.2.2.2) (fun hHeld => ?_)
          clear hK K hHeld
          refine norm_ (a' := ?_) ?_ ?_
          rotate_left
          · show Act.put _ (some 94) _ = _
            simp only [Act.put, List.setIfInBounds_toArray, List.set_cons_zero, List.set_cons_succ]
            rfl
          refine one_ (i := 11) (N := some 99) #[true, true, true, true, true, true, true, true, true, true, true, true, true, false, false, false] rfl rfl (by kernel_rfl) (by decide) (fun K hK => ?_)
          refine app_step (by rfl) rfl (.tmp 94) (.tmp 98) 26 rfl 9 (.string ⟨#[]⟩) 16 Try.underlying26 infoStr rfl (.slice (some ⟨b2, 0, none⟩) 0 0) rfl w.heap.size (lit_own HL2.out hb2) ⟨gv, at_, none⟩ (its.length - at_) (Vm - at_) (by first | rfl | (simp only [i6]; rfl)) (strV ((its.map slotOf).drop at_)) (by rw [strV_len]; simp; try omega) (cells_drop HO.out at_) (strV_one _) (by have h_ := slots9 its; have h2_ := HL.out.2; omega) (by have h_ := slots9 its; have h2_ := HL.out.2; omega) HK.out.size ?_
          intro v2 x4 ho hg hat
          have n_HB := Lib.hid (HB.out.grown hg (fun e_ => own_ne_blk (lit_own HL2.out hb2) HB.out (by decide) e_.symm))
          have n_HA9 := Lib.hid (HA9.out.grown hg (fun e_ => own_ne_blk (lit_own HL2.out hb2) HA9.out (by decide) e_.symm))
          have n_HB9 := Lib.hid (HB9.out.grown hg (fun e_ => own_ne_blk (lit_own HL2.out hb2) HB9.out (by decide) e_.symm))
          have n_HK := Lib.hid (HK.out.grown hg HK.out.size (fun k_ e_ => by have h_ : b2 = k_ := (by simpa [Value.ownBlock] using e_); omega))
          have n_HR1 := Lib.hid (OwnP.grown HR1.out hg (.inr hD.out))
          have n_R := Lib.hid (show OwnP x4 w.heap.size v2 ((its.map slotOf).drop at_) from by unfold OwnP; rw [show ((its.map slotOf).drop at_).length = (its.length - at_) by simp; try omega]; exact ho)
          clear hg hat ho HB HA9 HB9 HK HR1 HL2 HO
          have HB := n_HB
          have HA9 := n_HA9
          have HB9 := n_HB9
          have HK := n_HK
          have HR1 := n_HR1
          have HR2 := n_R
          clear n_R n_HB n_HA9 n_HB9 n_HK n_HR1
          refine hK.out _ _ ((sh_cells HB.out).2.2.2.2) (fun hHeld => ?_)
          clear hK K hHeld
          refine norm_ (a' := ?_) ?_ ?_
          rotate_left
          · show Act.put _ (some 99) _ = _
            simp only [Act.put, List.setIfInBounds_toArray, List.set_cons_zero, List.set_cons_succ]
            rfl
          obtain ⟨A1, c1, hv1⟩ := own_sl HR1.out
          subst hv1
          obtain ⟨A2, c2, hv2⟩ := own_sl HR2.out
          subst hv2
          obtain ⟨y0, y1, y2, y3, y4⟩ := sh_cells HA9.out
          obtain ⟨z0, z1, z2, z3, z4⟩ := sh_cells HB9.out
          have fa := HA9.out.frozen 4
          have fb := HB9.out.frozen 4
          refine last_ (i := 13) (N := none) #[true, true, true, true, true, true, true, true, true, true, true, true, true, true, false, false] rfl rfl (by kernel_rfl) (by decide) (fun K hK => ?_)
          refine skip_ (w1 := (x4.setCell ⟨ga, 4, none⟩ (.slice A1 ((its.map slotOf).take at_).length c1))) (by rfl) rfl ?_ ?_
          · go_simp
          refine hK.out _ _ ?_
          clear hK K
          refine pure_ (i := 14) (N := some 101) (v := ?_) (a' := ?_) #[true, true, true, true, true, true, true, true, true, true, true, true, true, true, true, false] rfl rfl (by kernel_rfl) (fun _ _ _ h => h) (Or.inl ⟨by rfl, ?_⟩) ?_ ?_
          rotate_left
          · intro w'
            go_simp
            with_reducible rfl
          rotate_left
          · simp only [Act.put, List.setIfInBounds_toArray, List.set_cons_zero, List.set_cons_succ, i64_w, i32_w]
            rfl
          refine last_ (i := 15) (N := none) #[true, true, true, true, true, true, true, true, true, true, true, true, true, true, true, true] rfl rfl (by kernel_rfl) (by decide) (fun K hK => ?_)
          refine skip_ (w1 := ((x4.setCell ⟨ga, 4, none⟩ (.slice A1 ((its.map slotOf).take at_).length c1)).setCell ⟨gb, 4, none⟩ (.slice A2 ((its.map slotOf).drop at_).length c2))) (by rfl) rfl ?_ ?_
          · go_simp
          refine hK.out _ _ ?_
          clear hK K
          refine done_ (by kernel_rfl) ?_
          go_wp2_with fail
          go_meet
          exact ⟨_, _, (HA9.out.set_ 4 (.slice A1 ((its.map slotOf).take at_).length c1)).far na _, OwnP.set (OwnP.set HR1.out HA9.out (by decide)) (HB9.out.far (Ne.symm na) _) (by decide), (HB9.out.far (Ne.symm na) _).set_ 4 (.slice A2 ((its.map slotOf).drop at_).length c2), OwnP.set (OwnP.set HR2.out HA9.out (by decide)) (HB9.out.far (Ne.symm na) _) (by decide), (HB.out.far (Ne.symm nb) _).far (Ne.symm nc) _, bsetAt (bsetAt HK.out ka _) kb _⟩
        · refine value_ (w1 := x1.alloc (.cells #[] 9)) (v := .slice (some ⟨x1.heap.size, 0, none⟩) 0 0) (by rfl) rfl (by go_simp) ?_
          have hb5 := balloc (Below.refl x1.heap.size x1) (.cells #[] 9)
          have hL := Blk.new x1 9 #[]
          have hb2 := HK.out.size
          have hNb : Hid (b1 ≠ x1.heap.size) := Lib.hid (Nat.ne_of_lt HL1.out.lt)
          have n_HB := Lib.hid (HB.out.step hb5)
          have n_HA9 := Lib.hid (HA9.out.step hb5)
          have n_HB9 := Lib.hid (HB9.out.step hb5)
          have n_HO := Lib.hid (HO.out.below hb5)
          have n_HK := Lib.hid (bstep HK.out hb5)
          have n_HL1 := Lib.hid (HL1.out.step hb5)
          clear hb5 HB HA9 HB9 HO HK HL1
          have HB := n_HB
          have HA9 := n_HA9
          have HB9 := n_HB9
          have HO := n_HO
          have HK := n_HK
          have HL1 := n_HL1
          clear n_HB n_HA9 n_HB9 n_HO n_HK n_HL1
          generalize x1.alloc (.cells #[] 9) = x5 at *
          generalize x1.heap.size = b2 at *
          have HL2 := Lib.hid hL
          clear hL
          refine hK.out _ _ ((sh_cells HB.out).2.2.2.2) (fun hHeld => ?_)
          clear hK K hHeld
          refine norm_ (a' := ?_) ?_ ?_
          rotate_left
          · show Act.put _ (some 94) _ = _
            simp only [Act.put, List.setIfInBounds_toArray, List.set_cons_zero, List.set_cons_succ]
            rfl
          refine one_ (i := 5) (N := some 93) #[true, true, true, true, true, true, true, true, true, true, true, false, false, false, false, false] rfl rfl (by kernel_rfl) (by decide) (fun K hK => ?_)
          refine app_step (by rfl) rfl (.tmp 88) (.tmp 92) 26 rfl 9 (.string ⟨#[]⟩) 16 Try.underlying26 infoStr rfl (.slice (some ⟨b1, 0, none⟩) 0 0) rfl w.heap.size (lit_own HL1.out hb1) ⟨gv, 0, none⟩ at_ Vm (by first | rfl | (simp only [i6]; rfl)) (strV ((its.map slotOf).take at_)) (by rw [strV_len]; simp; try omega) (cells_take HO.out at_ (by rw [List.length_map]; omega)) (strV_one _) (by have h_ := slots9 its; have h2_ := HL.out.2; omega) (by have h_ := slots9 its; have h2_ := HL.out.2; omega) HK.out.size ?_
          intro v1 x6 ho hg hat
          have hD := Lib.hid (show v1.ownBlock ≠ some b2 from fun e_ => by
            rcases hat with h_ | h_
            · rw [h_] at e_
              exact hNb.out (by simpa [Value.ownBlock] using e_)
            · rw [h_] at e_
              have h2_ := HL2.out.lt
              have h3_ : x5.heap.size = b2 := by simpa using e_
              omega)
          have n_HB := Lib.hid (HB.out.grown hg (fun e_ => own_ne_blk (lit_own HL1.out hb1) HB.out (by decide) e_.symm))
          have n_HA9 := Lib.hid (HA9.out.grown hg (fun e_ => own_ne_blk (lit_own HL1.out hb1) HA9.out (by decide) e_.symm))
          have n_HB9 := Lib.hid (HB9.out.grown hg (fun e_ => own_ne_blk (lit_own HL1.out hb1) HB9.out (by decide) e_.symm))
          have n_HK := Lib.hid (HK.out.grown hg HK.out.size (fun k_ e_ => by have h_ : b1 = k_ := (by simpa [Value.ownBlock] using e_); omega))
          have n_HO := Lib.hid (OwnP.grown HO.out hg (.inr (fun e_ => hgvb1.out (by simpa [Value.ownBlock] using e_))))
          have n_HL2 := Lib.hid (HL2.out.grown hg (fun e_ => hNb.out (by have h_ : b2 = b1 := (by simpa [Value.ownBlock] using e_); exact h_.symm)))
          have n_R := Lib.hid (show OwnP x6 w.heap.size v1 ((its.map slotOf).take at_) from by unfold OwnP; rw [show ((its.map slotOf).take at_).length = at_ by simp; try omega]; exact ho)
          clear hg hat ho HB HA9 HB9 HK HO HL2 HL1
          have HB := n_HB
          have HA9 := n_HA9
          have HB9 := n_HB9
          have HK := n_HK
          have HO := n_HO
          have HL2 := n_HL2
          have HR1 := n_R
          clear n_R n_HB n_HA9 n_HB9 n_HK n_HO n_HL2
          refine hK.out _ _ ((sh_cells HB.out).2.2.2.2) (fun hHeld => ?_)
          clear hK K hHeld
          refine norm_ (a' := ?_) ?_ ?_
          rotate_left
          · show Act.put _ (some 93) _ = _
            simp only [Act.put, List.setIfInBounds_toArray, List.set_cons_zero, List.set_cons_succ]
            rfl
          refine pure_ (i := 12) (N := some 100) (v := ?_) (a' := ?_) #[true, true, true, true, true, true, true, true, true, true, true, false, true, false, false, false] rfl rfl (by kernel_rfl) (fun _ _ _ h => h) (Or.inl ⟨by rfl, ?_⟩) ?_ ?_
          rotate_left
          · intro w'
            go_simp
            with_reducible rfl
          rotate_left
          · simp only [Act.put, List.setIfInBounds_toArray, List.set_cons_zero, List.set_cons_succ, i64_w, i32_w]
            rfl
          refine one_ (i := 11) (N := some 99) #[true, true, true, true, true, true, true, true, true, true, true, true, true, false, false, false] rfl rfl (by kernel_rfl) (by decide) (fun K hK => ?_)
          refine app_step (by rfl) rfl (.tmp 94) (.tmp 98) 26 rfl 9 (.string ⟨#[]⟩) 16 Try.underlying26 infoStr rfl (.slice (some ⟨b2, 0, none⟩) 0 0) rfl w.heap.size (lit_own HL2.out hb2) ⟨gv, at_, none⟩ (its.length - at_) (Vm - at_) (by first | rfl | (simp only [i6]; rfl)) (strV ((its.map slotOf).drop at_)) (by rw [strV_len]; simp; try omega) (cells_drop HO.out at_) (strV_one _) (by have h_ := slots9 its; have h2_ := HL.out.2; omega) (by have h_ := slots9 its; have h2_ := HL.out.2; omega) HK.out.size ?_
          intro v2 x7 ho hg hat
          have n_HB := Lib.hid (HB.out.grown hg (fun e_ => own_ne_blk (lit_own HL2.out hb2) HB.out (by decide) e_.symm))
          have n_HA9 := Lib.hid (HA9.out.grown hg (fun e_ => own_ne_blk (lit_own HL2.out hb2) HA9.out (by decide) e_.symm))
          have n_HB9 := Lib.hid (HB9.out.grown hg (fun e_ => own_ne_blk (lit_own HL2.out hb2) HB9.out (by decide) e_.symm))
          have n_HK := Lib.hid (HK.out.grown hg HK.out.size (fun k_ e_ => by have h_ : b2 = k_ := (by simpa [Value.ownBlock] using e_); omega))
          have n_HR1 := Lib.hid (OwnP.grown HR1.out hg (.inr hD.out))
          have n_R := Lib.hid (show OwnP x7 w.heap.size v2 ((its.map slotOf).drop at_) from by unfold OwnP; rw [show ((its.map slotOf).drop at_).length = (its.length - at_) by simp; try omega]; exact ho)
          clear hg hat ho HB HA9 HB9 HK HR1 HL2 HO
          have HB := n_HB
          have HA9 := n_HA9
          have HB9 := n_HB9
          have HK := n_HK
          have HR1 := n_HR1
          have HR2 := n_R
          clear n_R n_HB n_HA9 n_HB9 n_HK n_HR1
          refine hK.out _ _ ((sh_cells HB.out).2.2.2.2) (fun hHeld => ?_)
          clear hK K hHeld
          refine norm_ (a' := ?_) ?_ ?_
          rotate_left
          · show Act.put _ (some 99) _ = _
            simp only [Act.put, List.setIfInBounds_toArray, List.set_cons_zero, List.set_cons_succ]
            rfl
          obtain ⟨A1, c1, hv1⟩ := own_sl HR1.out
          subst hv1
          obtain ⟨A2, c2, hv2⟩ := own_sl HR2.out
          subst hv2
          obtain ⟨y0, y1, y2, y3, y4⟩ := sh_cells HA9.out
          obtain ⟨z0, z1, z2, z3, z4⟩ := sh_cells HB9.out
          have fa := HA9.out.frozen 4
          have fb := HB9.out.frozen 4
          refine last_ (i := 13) (N := none) #[true, true, true, true, true, true, true, true, true, true, true, true, true, true, false, false] rfl rfl (by kernel_rfl) (by decide) (fun K hK => ?_)
          refine skip_ (w1 := (x7.setCell ⟨ga, 4, none⟩ (.slice A1 ((its.map slotOf).take at_).length c1))) (by rfl) rfl ?_ ?_
          · go_simp
          refine hK.out _ _ ?_
          clear hK K
          refine pure_ (i := 14) (N := some 101) (v := ?_) (a' := ?_) #[true, true, true, true, true, true, true, true, true, true, true, true, true, true, true, false] rfl rfl (by kernel_rfl) (fun _ _ _ h => h) (Or.inl ⟨by rfl, ?_⟩) ?_ ?_
          rotate_left
          · intro w'
            go_simp
            with_reducible rfl
          rotate_left
          · simp only [Act.put, List.setIfInBounds_toArray, List.set_cons_zero, List.set_cons_succ, i64_w, i32_w]
            rfl
          refine last_ (i := 15) (N := none) #[true, true, true, true, true, true, true, true, true, true, true, true, true, true, true, true] rfl rfl (by kernel_rfl) (by decide) (fun K hK => ?_)
          refine skip_ (w1 := ((x7.setCell ⟨ga, 4, none⟩ (.slice A1 ((its.map slotOf).take at_).length c1)).setCell ⟨gb, 4, none⟩ (.slice A2 ((its.map slotOf).drop at_).length c2))) (by rfl) rfl ?_ ?_
          · go_simp
          refine hK.out _ _ ?_
          clear hK K
          refine done_ (by kernel_rfl) ?_
          go_wp2_with fail
          go_meet
          exact ⟨_, _, (HA9.out.set_ 4 (.slice A1 ((its.map slotOf).take at_).length c1)).far na _, OwnP.set (OwnP.set HR1.out HA9.out (by decide)) (HB9.out.far (Ne.symm na) _) (by decide), (HB9.out.far (Ne.symm na) _).set_ 4 (.slice A2 ((its.map slotOf).drop at_).length c2), OwnP.set (OwnP.set HR2.out HA9.out (by decide)) (HB9.out.far (Ne.symm na) _) (by decide), (HB.out.far (Ne.symm nb) _).far (Ne.symm nc) _, bsetAt (bsetAt HK.out ka _) kb _⟩
      · refine value_ (w1 := x0.alloc (.cells #[] 9)) (v := .slice (some ⟨x0.heap.size, 0, none⟩) 0 0) (by rfl) rfl (by go_simp) ?_
        have hb5 := balloc (Below.refl x0.heap.size x0) (.cells #[] 9)
        have hL := Blk.new x0 9 #[]
        have hb2 := HK.out.size
        have n_HB := Lib.hid (HB.out.step hb5)
        have n_HA9 := Lib.hid (HA9.out.step hb5)
        have n_HB9 := Lib.hid (HB9.out.step hb5)
        have n_HO := Lib.hid (HO.out.below hb5)
        have n_HK := Lib.hid (bstep HK.out hb5)
        clear hb5 HB HA9 HB9 HO HK
        have HB := n_HB
        have HA9 := n_HA9
        have HB9 := n_HB9
        have HO := n_HO
        have HK := n_HK
        clear n_HB n_HA9 n_HB9 n_HO n_HK
        generalize x0.alloc (.cells #[] 9) = x8 at *
        generalize x0.heap.size = b2 at *
        have HL2 := Lib.hid hL
        clear hL
        refine hK.out _ _ ((sh_cells HB.out).2.2.2.2) (fun hHeld => ?_)
        clear hK K hHeld
        refine norm_ (a' := ?_) ?_ ?_
        rotate_left
        · show Act.put _ (some 94) _ = _
          simp only [Act.put, List.setIfInBounds_toArray, List.set_cons_zero, List.set_cons_succ]
          rfl
        refine one_ (i := 0) (N := some 88) #[true, true, true, true, true, false, true, true, true, true, true, false, false, false, false, false] rfl rfl (by kernel_rfl) (by decide) (fun K hK => ?_)
        refine value_ (w1 := x8.alloc (.cells #[] 9)) (v := .slice (some ⟨x8.heap.size, 0, none⟩) 0 0) (by rfl) rfl (by go_simp) ?_
        have hb5 := balloc (Below.refl x8.heap.size x8) (.cells #[] 9)
        have hL := Blk.new x8 9 #[]
        have hb1 := HK.out.size
        have hgvb1 := Lib.hid (show gv ≠ x8.heap.size from Nat.ne_of_lt (own_lt_ HO.out))
        have hNb : Hid (x8.heap.size ≠ b2) := Lib.hid (Nat.ne_of_gt HL2.out.lt)
        have n_HB := Lib.hid (HB.out.step hb5)
        have n_HA9 := Lib.hid (HA9.out.step hb5)
        have n_HB9 := Lib.hid (HB9.out.step hb5)
        have n_HO := Lib.hid (HO.out.below hb5)
        have n_HK := Lib.hid (bstep HK.out hb5)
        have n_HL2 := Lib.hid (HL2.out.step hb5)
        clear hb5 HB HA9 HB9 HO HK HL2
        have HB := n_HB
        have HA9 := n_HA9
        have HB9 := n_HB9
        have HO := n_HO
        have HK := n_HK
        have HL2 := n_HL2
        clear n_HB n_HA9 n_HB9 n_HO n_HK n_HL2
        generalize x8.alloc (.cells #[] 9) = x9 at *
        generalize x8.heap.size = b1 at *
        have HL1 := Lib.hid hL
        clear hL
        refine hK.out _ _ ((sh_cells HB.out).2.2.2.2) (fun hHeld => ?_)
        clear hK K hHeld
        refine norm_ (a' := ?_) ?_ ?_
        rotate_left
        · show Act.put _ (some 88) _ = _
          simp only [Act.put, List.setIfInBounds_toArray, List.set_cons_zero, List.set_cons_succ]
          rfl
        refine one_ (i := 5) (N := some 93) #[true, true, true, true, true, true, true, true, true, true, true, false, false, false, false, false] rfl rfl (by kernel_rfl) (by decide) (fun K hK => ?_)
        refine app_step (by rfl) rfl (.tmp 88) (.tmp 92) 26 rfl 9 (.string ⟨#[]⟩) 16 Try.underlying26 infoStr rfl (.slice (some ⟨b1, 0, none⟩) 0 0) rfl w.heap.size (lit_own HL1.out hb1) ⟨gv, 0, none⟩ at_ Vm (by first | rfl | (simp only [i6]; rfl)) (strV ((its.map slotOf).take at_)) (by rw [strV_len]; simp; try omega) (cells_take HO.out at_ (by rw [List.length_map]; omega)) (strV_one _) (by have h_ := slots9 its; have h2_ := HL.out.2; omega) (by have h_ := slots9 its; have h2_ := HL.out.2; omega) HK.out.size ?_
        intro v1 x10 ho hg hat
        have hD := Lib.hid (show v1.ownBlock ≠ some b2 from fun e_ => by
          rcases hat with h_ | h_
          · rw [h_] at e_
            exact hNb.out (by simpa [Value.ownBlock] using e_)
          · rw [h_] at e_
            have h2_ := HL2.out.lt
            have h3_ : x9.heap.size = b2 := by simpa using e_
            omega)
        have n_HB := Lib.hid (HB.out.grown hg (fun e_ => own_ne_blk (lit_own HL1.out hb1) HB.out (by decide) e_.symm))
        have n_HA9 := Lib.hid (HA9.out.grown hg (fun e_ => own_ne_blk (lit_own HL1.out hb1) HA9.out (by decide) e_.symm))
        have n_HB9 := Lib.hid (HB9.out.grown hg (fun e_ => own_ne_blk (lit_own HL1.out hb1) HB9.out (by decide) e_.symm))
        have n_HK := Lib.hid (HK.out.grown hg HK.out.size (fun k_ e_ => by have h_ : b1 = k_ := (by simpa [Value.ownBlock] using e_); omega))
        have n_HO := Lib.hid (OwnP.grown HO.out hg (.inr (fun e_ => hgvb1.out (by simpa [Value.ownBlock] using e_))))
        have n_HL2 := Lib.hid (HL2.out.grown hg (fun e_ => hNb.out (by have h_ : b2 = b1 := (by simpa [Value.ownBlock] using e_); exact h_.symm)))
        have n_R := Lib.hid (show OwnP x10 w.heap.size v1 ((its.map slotOf).take at_) from by unfold OwnP; rw [show ((its.map slotOf).take at_).length = at_ by simp; try omega]; exact ho)
        clear hg hat ho HB HA9 HB9 HK HO HL2 HL1
        have HB := n_HB
        have HA9 := n_HA9
        have HB9 := n_HB9
        have HK := n_HK
        have HO := n_HO
        have HL2 := n_HL2
        have HR1 := n_R
        clear n_R n_HB n_HA9 n_HB9 n_HK n_HO n_HL2
        refine hK.out _ _ ((sh_cells HB.out).2.2.2.2) (fun hHeld => ?_)
        clear hK K hHeld
        refine norm_ (a' := ?_) ?_ ?_
        rotate_left
        · show Act.put _ (some 93) _ = _
          simp only [Act.put, List.setIfInBounds_toArray, List.set_cons_zero, List.set_cons_succ]
          rfl
        refine pure_ (i := 12) (N := some 100) (v := ?_) (a' := ?_) #[true, true, true, true, true, true, true, true, true, true, true, false, true, false, false, false] rfl rfl (by kernel_rfl) (fun _ _ _ h => h) (Or.inl ⟨by rfl, ?_⟩) ?_ ?_
        rotate_left
        · intro w'
          go_simp
          with_reducible rfl
        rotate_left
        · simp only [Act.put, List.setIfInBounds_toArray, List.set_cons_zero, List.set_cons_succ, i64_w, i32_w]
          rfl
        refine one_ (i := 11) (N := some 99) #[true, true, true, true, true, true, true, true, true, true, true, true, true, false, false, false] rfl rfl (by kernel_rfl) (by decide) (fun K hK => ?_)
        refine app_step (by rfl) rfl (.tmp 94) (.tmp 98) 26 rfl 9 (.string ⟨#[]⟩) 16 Try.underlying26 infoStr rfl (.slice (some ⟨b2, 0, none⟩) 0 0) rfl w.heap.size (lit_own HL2.out hb2) ⟨gv, at_, none⟩ (its.length - at_) (Vm - at_) (by first | rfl | (simp only [i6]; rfl)) (strV ((its.map slotOf).drop at_)) (by rw [strV_len]; simp; try omega) (cells_drop HO.out at_) (strV_one _) (by have h_ := slots9 its; have h2_ := HL.out.2; omega) (by have h_ := slots9 its; have h2_ := HL.out.2; omega) HK.out.size ?_
        intro v2 x11 ho hg hat
        have n_HB := Lib.hid (HB.out.grown hg (fun e_ => own_ne_blk (lit_own HL2.out hb2) HB.out (by decide) e_.symm))
        have n_HA9 := Lib.hid (HA9.out.grown hg (fun e_ => own_ne_blk (lit_own HL2.out hb2) HA9.out (by decide) e_.symm))
        have n_HB9 := Lib.hid (HB9.out.grown hg (fun e_ => own_ne_blk (lit_own HL2.out hb2) HB9.out (by decide) e_.symm))
        have n_HK := Lib.hid (HK.out.grown hg HK.out.size (fun k_ e_ => by have h_ : b2 = k_ := (by simpa [Value.ownBlock] using e_); omega))
        have n_HR1 := Lib.hid (OwnP.grown HR1.out hg (.inr hD.out))
        have n_R := Lib.hid (show OwnP x11 w.heap.size v2 ((its.map slotOf).drop at_) from by unfold OwnP; rw [show ((its.map slotOf).drop at_).length = (its.length - at_) by simp; try omega]; exact ho)
        clear hg hat ho HB HA9 HB9 HK HR1 HL2 HO
        have HB := n_HB
        have HA9 := n_HA9
        have HB9 := n_HB9
        have HK := n_HK
        have HR1 := n_HR1
        have HR2 := n_R
        clear n_R n_HB n_HA9 n_HB9 n_HK n_HR1
        refine hK.out _ _ ((sh_cells HB.out).2.2.2.2) (fun hHeld => ?_)
        clear hK K hHeld
        refine norm_ (a' := ?_) ?_ ?_
        rotate_left
        · show Act.put _ (some 99) _ = _
          simp only [Act.put, List.setIfInBounds_toArray, List.set_cons_zero, List.set_cons_succ]
          rfl
        obtain ⟨A1, c1, hv1⟩ := own_sl HR1.out
        subst hv1
        obtain ⟨A2, c2, hv2⟩ := own_sl HR2.out
        subst hv2
        obtain ⟨y0, y1, y2, y3, y4⟩ := sh_cells HA9.out
        obtain ⟨z0, z1, z2, z3, z4⟩ := sh_cells HB9.out
        have fa := HA9.out.frozen 4
        have fb := HB9.out.frozen 4
        refine last_ (i := 13) (N := none) #[true, true, true, true, true, true, true, true, true, true, true, true, true, true, false, false] rfl rfl (by kernel_rfl) (by decide) (fun K hK => ?_)
        refine skip_ (w1 := (x11.setCell ⟨ga, 4, none⟩ (.slice A1 ((its.map slotOf).take at_).length c1))) (by rfl) rfl ?_ ?_
        · go_simp
        refine hK.out _ _ ?_
        clear hK K
        refine pure_ (i := 14) (N := some 101) (v := ?_) (a' := ?_) #[true, true, true, true, true, true, true, true, true, true, true, true, true, true, true, false] rfl rfl (by kernel_rfl) (fun _ _ _ h => h) (Or.inl ⟨by rfl, ?_⟩) ?_ ?_
        rotate_left
        · intro w'
          go_simp
          with_reducible rfl
        rotate_left
        · simp only [Act.put, List.setIfInBounds_toArray, List.set_cons_zero, List.set_cons_succ, i64_w, i32_w]
          rfl
        refine last_ (i := 15) (N := none) #[true, true, true, true, true, true, true, true, true, true, true, true, true, true, true, true] rfl rfl (by kernel_rfl) (by decide) (fun K hK => ?_)
        refine skip_ (w1 := ((x11.setCell ⟨ga, 4, none⟩ (.slice A1 ((its.map slotOf).take at_).length c1)).setCell ⟨gb, 4, none⟩ (.slice A2 ((its.map slotOf).drop at_).length c2))) (by rfl) rfl ?_ ?_
        · go_simp
        refine hK.out _ _ ?_
        clear hK K
        refine done_ (by kernel_rfl) ?_
        go_wp2_with fail
        go_meet
        exact ⟨_, _, (HA9.out.set_ 4 (.slice A1 ((its.map slotOf).take at_).length c1)).far na _, OwnP.set (OwnP.set HR1.out HA9.out (by decide)) (HB9.out.far (Ne.symm na) _) (by decide), (HB9.out.far (Ne.symm na) _).set_ 4 (.slice A2 ((its.map slotOf).drop at_).length c2), OwnP.set (OwnP.set HR2.out HA9.out (by decide)) (HB9.out.far (Ne.symm na) _) (by decide), (HB.out.far (Ne.symm nb) _).far (Ne.symm nc) _, bsetAt (bsetAt HK.out ka _) kb _⟩
    case rest =>
    obtain ⟨va, vb, k1, k2, k3, k4, k5, k6⟩ := hcut
    clear HB HA9 HB9 HO HK
    have HA9 := k1
    have HRa := k2
    have HB9 := k3
    have HRb := k4
    have HB := k5
    have HK := k6
    clear k1 k2 k3 k4 k5 k6
    have HFa := Lib.hid (full_part HL.out (its.take at_) (fun x hx => List.mem_of_mem_take hx) (by rw [List.map_take]; exact n4) lsn)
    have HFb := Lib.hid (full_part HL.out (its.drop at_) (fun x hx => List.mem_of_mem_drop hx) (by rw [List.map_drop]; exact n5) lsn)
    rw [List.map_take] at HFa
    rw [List.map_drop] at HFb
    have c4 := (sh_cells HB.out).2.2.2.2
    have j1 : (1 : Int) ≤ (at_ : Int) := by omega
    have j2 : (at_ : Int) < (its.length : Int) := by omega
    have j3 : (4 : Int) ≤ (its.length : Int) := by omega
    have e1 : decide ((1 : Int) ≤ (at_ : Int)) = true := decide_eq_true j1
    have e2 : decide ((at_ : Int) < (its.length : Int)) = true := decide_eq_true j2
    have e3 : decide ((4 : Int) ≤ (its.length : Int)) = true := decide_eq_true j3
    go_wp2_with (first | (refine wpList_load_row_on rfl 28 (.tmp 12) rfl ga rfl 28 (shC lsn va) (0, 0) _ HA9.out Try.underlying28 rfl (by kernel_rfl) ?_) | (refine wpList_load_row_on rfl 28 (.tmp 13) rfl gb rfl 28 (shC lsn vb) (0, 0) _ HB9.out Try.underlying28 rfl (by kernel_rfl) ?_) | (go_at_call_of 8 (Value.agg (shC lsn va)); refine (full_own 3 lsn 3 H0 _ HRa.out HFa.out).mono ?_; rintro e w5 ⟨rfl, hb5⟩; have HA5 := Lib.hid (HA9.out.step hb5); have HB5 := Lib.hid (HB9.out.step hb5); have HRa5 := Lib.hid (HRa.out.below hb5); have HRb5 := Lib.hid (HRb.out.below hb5); have HK5 := Lib.hid (bstep HK.out hb5); clear HA9 HB9 HRa HRb HK HB c4 hb5; have HA9 := HA5; have HB9 := HB5; have HRa := HRa5; have HRb := HRb5; have HK := HK5; have HB := HK; have c4 := HK; clear HA5 HB5 HRa5 HRb5 HK5) | (go_at_call_of 8 (Value.agg (shC lsn vb)); refine (full_own 3 lsn 3 H0 _ HRb.out HFb.out).mono ?_; rintro e w5 ⟨rfl, hb5⟩; have HA5 := Lib.hid (HA9.out.step hb5); have HB5 := Lib.hid (HB9.out.step hb5); have HRa5 := Lib.hid (HRa.out.below hb5); have HRb5 := Lib.hid (HRb.out.below hb5); have HK5 := Lib.hid (bstep HK.out hb5); clear HA9 HB9 HRa HRb HK HB c4 hb5; have HA9 := HA5; have HB9 := HB5; have HRa := HRa5; have HRb := HRb5; have HK := HK5; have HB := HK; have c4 := HK; clear HA5 HB5 HRa5 HRb5 HK5))
    go_ret
    exact ⟨rfl, HK.out⟩
end Go.Proofs.Ytfegabikfkmepaa
end
section
namespace Go.Proofs.Ytfegabikfkmepaa
open Go.ChangeShapes Go.WideShapes Go.RowKit Go.Gi Go.GiRow Go.Proofs.YtfegabikfkmepaaW.PrintWords OpenK
set_option maxRecDepth 100000
def kEn : Kd En := Kd.iso (Kd.pair Kd.string (Kd.pair (Kd.int .u32) (Kd.int .i64))) (fun x : En => (x.key, x.page, x.slot))
theorem opens_rid : Opens Try.prog 41 (Kd.pair (Kd.int .u32) (Kd.int .i64)) (fun x => (Lit.int .u32 x.1).wf = true ∧ (Lit.int .i64 x.2).wf = true) :=
  opens_struct (f := fun x => x) Try.underlying41 (opens_cons (opens_int Try.underlying23) rfl (by kernel_rfl) (opens_one (opens_int Try.underlying3) rfl (by kernel_rfl))) (by kernel_rfl) (fun a => a) (fun _ => rfl)
theorem opens_en : Opens Try.prog 43 kEn (fun x => x.key.size ≤ 140737488351232 ∧ (Lit.int .u32 x.page).wf = true ∧ (Lit.int .i64 x.slot).wf = true) :=
  opens_struct Try.underlying43 (opens_cons (opens_string Try.underlying9) rfl (by kernel_rfl) (opens_one opens_rid rfl (by kernel_rfl))) (by kernel_rfl) (fun a => ⟨a.1, a.2.1, a.2.2⟩) (fun _ => rfl)
theorem opens_ens : Opens Try.prog 32 (Kd.slice 43 kEn) (fun l => l.length * 32 ≤ 140737488351232 ∧ ∀ x ∈ l, x.key.size ≤ 140737488351232 ∧ (Lit.int .u32 x.page).wf = true ∧ (Lit.int .i64 x.slot).wf = true) :=
  opens_slice Try.underlying32 (by kernel_rfl) (by decide) (by kernel_rfl) opens_en
theorem enrows_of_C {w : World} {A : Option Addr} {l : List En} (h : Kd.C kEn w A l.length l) : RdRows En.cells 3 w A l := by
  intro k hk
  have hcells : ∀ (i : Nat) (hi : i < l.length), ∃ ad, A = some ad ∧ ∀ j u, (En.cells l[i])[j]? = some u → w.cell? (ad.add (i * 3 + j)) = some u := by
    intro i hi
    obtain ⟨ad, rfl, hc⟩ := h.2.2 (by omega)
    obtain ⟨c, hl, hr, hcell⟩ := hc i _ (List.getElem?_eq_getElem hi)
    have hr' : c = En.cells l[i] := by
      obtain ⟨c0, c1, rfl, h0, ⟨d0, d1, rfl, h1, h2⟩⟩ := hr
      have h0' : c0 = [Value.string l[i].key] := h0
      have h1' : d0 = [Value.int .u32 l[i].page] := h1
      have h2' : d1 = [Value.int .i64 l[i].slot] := h2
      rw [h0', h1', h2']
      rfl
    rw [hr'] at hcell
    exact ⟨ad, rfl, hcell⟩
  obtain ⟨ad, rfl, hc⟩ := hcells k hk
  obtain ⟨ad', e', hc0⟩ := hcells 0 (by omega)
  injection e' with e'
  subst e'
  have h01 := hc0 0 _ rfl
  have e0 : ad.add (0 * 3 + 0) = ad := by unfold Addr.add; simp
  rw [e0] at h01
  have hsp : ad.spot = none := by
    unfold World.cell? at h01
    cases hs : ad.spot with
    | none => rfl
    | some y =>
      simp [hs] at h01
      split at h01 <;> simp_all
  obtain ⟨b, off, sp⟩ := ad
  simp only at hsp
  subst hsp
  have ha : ∀ i, (⟨b, off, none⟩ : Addr).add i = ⟨b, off + i, none⟩ := fun i => by unfold Addr.add; split <;> simp_all
  refine ⟨b, off, rfl, World.block_lt_of_cell? w _ h01, ?_⟩
  intro j u hu
  have := hc j u (by simpa using hu)
  rw [ha] at this
  rw [Nat.add_assoc]
  exact this
end Go.Proofs.Ytfegabikfkmepaa
namespace Go.Proofs.Ytfegabikfkmepaa.nodeHalvesRow
open Go.ChangeShapes Go.WideShapes Go.ChangeAt Go.RowKit Go.GiRow
theorem own : ownKnob Try.prog.godebug = none := by kernel_rfl
theorem laid : laidOutB Try.prog = true := by kernel_rfl
set_option maxRecDepth 100000 in
set_option maxHeartbeats 6400000 in
theorem lifted (os : Os) (started : os.Started) (H : Type) (enc : TypeId × Value → H) :
    ReturnsInHanded {} Try.checked os 4 .any (Rows.nodeHalvesSpec.pre6 enc Try.prog Try.f4 Rows.nodeHalvesRow.domain false) (Rows.nodeHalvesSpec.post enc Try.prog Try.f4 false true false false) := by
  refine returnsInHanded_of_change_sized (C := Try.checked) own started (by kernel_rfl) Try.func4
    (ChangeSpec.witness6 (enc := enc) (C := Try.checked) false ⟨#[], #[.slice none 0 0], []⟩ 8 (by kernel_rfl) (by kernel_rfl) (by kernel_rfl) (by kernel_rfl)) ?_
  intro W base args ds gs before hval0 hW _ hsz0 _
  have hsz : (DataW.weightsEach Try.prog (Try.f4.params.toList ++ Rows.nodeHalvesSpec.plain.varTypes Try.prog) (ds ++ gs)).all (· ≤ reachBytes) = true := hsz0
  have hval : ∀ (j : Nat) t v, Try.f4.params[j]? = some t → args[j]? = some v → Value.okWide Try.prog W .any base t v := hval0
  have hW' := hW
  obtain ⟨p, q, hA0, hV, rfl, _, _⟩ := hW
  have hA : DataW.TrodAll enc Try.prog W 0 (fun _ => true) true Try.f4.params.toList args.toList ds p := hA0
  rw [Try.params4] at hA hval hsz
  obtain ⟨v0, vs0, d0, ds0, p0, q0, hargs, rfl, rfl, h0, r0⟩ := trodAll_cons hA
  obtain ⟨rfl, rfl, rfl⟩ := trodAll_nil r0
  obtain rfl : args = #[v0] := by cases args; simp_all
  obtain ⟨rfl, rfl⟩ := trodVars_none hV
  obtain ⟨a, len, cap, hv⟩ := okWide_slice Try.underlying32 (hval 0 32 v0 rfl rfl)
  subst hv
  obtain ⟨fuel, hf⟩ := h0
  obtain ⟨l, ⟨A, c, e, hc, hC⟩, hn, hB⟩ := opens_ens H enc W _ _ fuel _ _ hf (OpenK.light_each hsz 0 _ _ rfl rfl)
  simp only [Value.cells, List.cons.injEq, Value.slice.injEq, and_true] at e
  obtain ⟨rfl, rfl, rfl⟩ := e
  refine (halves_any a cap l W (enrows_of_C hC) (fun x hx => by have := bounds_u32 (hB x hx).2.1; exact this) (by omega)).mono fun e W' ⟨he, bel⟩ => ?_
  subst he
  refine ⟨_, rfl, law_post (tb := 4) laid (by kernel_rfl) rfl Try.underlying4 rfl (fun ds hds => ?_) hW' bel⟩
  match ds, hds with
  | [_], _ => rfl
theorem over : Rows.nodeHalvesRow.holds Try.pinned (OpenSpec.ofChange Rows.nodeHalvesSpec) :=
  OpenClaim.holds_of_wide 4 Try.f4 rfl rfl rfl rfl rfl rfl rfl ⟨rfl, rfl, rfl, rfl, rfl⟩ rfl rfl rfl rfl rfl (by kernel_rfl) Try.func4 (by kernel_rfl)
    (of_decide_eq_true (by kernel_rfl)) (by unfold Func.isWrapper; first | (rw [if_pos (by decide +kernel)]; kernel_rfl) | (rw [if_neg (by decide +kernel)]; exact ⟨rfl, rfl⟩))
    (fun os started H enc _ => lifted os started H enc)
end Go.Proofs.Ytfegabikfkmepaa.nodeHalvesRow
namespace Go.Proofs.Ytfegabikfkmepaa
/-- The row, under a short name, for the claim. -/
theorem nodeHalves_holds : Rows.NodeHalvesSaid := nodeHalvesRow.over
#print axioms nodeHalves_holds
end Go.Proofs.Ytfegabikfkmepaa
end
