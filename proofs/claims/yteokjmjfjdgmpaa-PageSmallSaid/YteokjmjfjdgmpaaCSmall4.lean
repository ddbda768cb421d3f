/- Blank pages, kinds and heads as texts, and whether two pages are the same: for every two pages and every number; no condition. -/
import Derived.Test.YteokjmjfjdgmpaaCSmall3
section
namespace Go.Proofs.Yteokjmjfjdgmpaa.PPg
open Go.RowKit Go.Proofs.YteokjmjfjdgmpaaW.PrintWords Go.Proofs.YteokjmjfjdgmpaaW.PrintLast Go.Proofs.YteokjmjfjdgmpaaW.PrintMore
open Go.Gi
set_option linter.unusedVariables false
set_option linter.unusedSimpArgs false
theorem w64 {x : Int} (h : -9223372036854775808 ≤ x ∧ x ≤ 9223372036854775807) : wrap64 x = x := by unfold wrap64; omega
theorem len_sz (s : ByteArray) : s.data.toList.length = s.size := by simp
theorem bs_list (s : ByteArray) : s.toList = s.data.toList := ByteArray.toList_eq s
theorem toList_inj {a b : ByteArray} : a.toList = b.toList ↔ a = b := by
  rw [bs_list, bs_list]
  constructor
  · intro h; rw [← bs_toList a, h, bs_toList]
  · intro h; rw [h]
theorem rNum_ok {L : List UInt8} {a : Nat} {n : Int} (h : 0 ≤ n ∧ n ≤ 8) : rNum L a 0 n = if (L.length : Int) - a < n then (0, a, 4) else (numL ((L.drop a).take n.toNat), a + n.toNat, 0) := by
  unfold rNum; rw [if_neg (by simp), if_neg (by omega)]
theorem rNum_err {L : List UInt8} {a : Nat} {e n : Int} (h : e ≠ 0) : rNum L a e n = (0, a, e) := by unfold rNum; rw [if_pos h]
theorem rTake_err {L : List UInt8} {a : Nat} {e n : Int} (h : e ≠ 0) : rTake L a e n = ([], a, e) := by unfold rTake; rw [if_pos h]
theorem rdNum (s : ByteArray) (a : Nat) (e n : Int) (ha : a ≤ s.size) (hs : s.size ≤ 4000000000000000000) (hn : 0 ≤ n ∧ n ≤ 8) :
    raw_Reader_Number.f s a e n = some (((rNum s.data.toList a e n).1 : Int), s, ((rNum s.data.toList a e n).2.1 : Int), (rNum s.data.toList a e n).2.2) := by
  unfold raw_Reader_Number.f raw_Reader_Err.f
  simp only [Option.bind_some]
  by_cases he : e = 0
  · subst he
    rw [if_pos rfl]
    unfold raw_Get.f
    rw [if_pos ⟨by omega, by omega, by omega⟩]
    simp only [Option.bind_some, Int.toNat_natCast]
    rw [rNum_ok hn, len_sz]
    by_cases hc : (s.size : Int) - a < n
    · rw [if_pos hc]; rfl
    · rw [if_neg hc]
      simp only [if_true]
      rw [w64 (by omega), show ((a : Int) + n) = ((a + n.toNat : Nat) : Int) by omega]
  · rw [if_neg he, rNum_err he]; rfl
theorem rdTake (s : ByteArray) (a : Nat) (e n : Int) (ha : a ≤ s.size) (hs : s.size ≤ 4000000000000000000) (hn : 0 ≤ n ∧ n ≤ 4000000000000000000) :
    raw_Reader_Bytes.f s a e n = some (bs (rTake s.data.toList a e n).1, s, ((rTake s.data.toList a e n).2.1 : Int), (rTake s.data.toList a e n).2.2) := by
  unfold raw_Reader_Bytes.f raw_Reader_Err.f
  simp only [Option.bind_some]
  by_cases he : e = 0
  · subst he
    rw [if_pos rfl, if_neg (by omega)]
    have h1 : wrap64 ((s.size : Int) - a) = s.size - a := w64 (by omega)
    have h2 : wrap64 ((a : Int) + n) = a + n := w64 (by omega)
    have h3 : wrap64 ((a : Int) + n - n) = a := by rw [w64 (by omega)]; omega
    rw [h1, h2, h3]
    by_cases hc : (s.size : Int) - a < n
    · rw [if_pos hc]
      rw [show rTake s.data.toList a 0 n = ([], a, 4) by unfold rTake; rw [if_neg (by simp), if_neg (by omega), len_sz, if_pos hc]]
      rfl
    · rw [if_neg hc, if_pos (by omega), if_pos (by omega), if_pos (by omega)]
      rw [show rTake s.data.toList a 0 n = ((s.data.toList.drop a).take n.toNat, a + n.toNat, 0) by unfold rTake; rw [if_neg (by simp), if_neg (by omega), len_sz, if_neg hc]]
      rw [extract_bs, Int.toNat_natCast, show ((a : Int) + n).toNat - a = n.toNat by omega, show (a : Int) + n = ((a + n.toNat : Nat) : Int) by omega]
  · rw [if_neg he, rTake_err he]; rfl
def fin (s : ByteArray) (p : PgR) (e : Int) : PgR × Int := if e = 0 ∧ pgErr p.kind p.head p.slots = 0 ∧ pgStr p.num p.lsn p.kind p.head p.slots = s then (p, 0) else (pgZ, 6)
def tup (x : PgR × Int) : Int × Int × Int × ByteArray × List ByteArray × Int := (x.1.num, x.1.lsn, x.1.kind, x.1.head, x.1.slots, x.2)
theorem rd_nat (l : List Nat) (i : Nat) (h : i < l.length) : rd (l.map (fun n : Nat => (n : Int))) (i : Int) = (l[i] : Int) := by
  unfold rd
  simp [h]
def Small (l : List ByteArray) : Prop := ∀ s ∈ l, s.size ≤ 140737488351232
theorem enc_f {num lsn kind : Int} {head : ByteArray} {slots : List ByteArray} (h : 0 ≤ num ∧ num ≤ 4294967295 ∧ 0 ≤ lsn ∧ lsn ≤ 18446744073709551615) (hs : Small slots) :
    page_Encode.f num lsn kind head slots = some (pgStr num lsn kind head slots, pgErr kind head slots) := by
  unfold page_Encode.f
  rw [if_pos ⟨h.1, h.2.1, h.2.2.1, h.2.2.2, hs⟩]
theorem dec_l1 (x0 s : ByteArray) (hs : s.size ≤ 1000000) (num lsn kind : Int) (head : ByteArray) (hb : 0 ≤ num ∧ num ≤ 4294967295 ∧ 0 ≤ lsn ∧ lsn ≤ 18446744073709551615) : ∀ (rest done : List Nat) (a : Nat) (e : Int) (acc : List ByteArray),
    (∀ n ∈ rest, n ≤ 65535) → (done ++ rest).length ≤ 255 → acc.length = done.length → Small acc → a ≤ s.size →
    Ev (fun k => page_Decode.l1 k x0 ((done ++ rest).map (fun n : Nat => (n : Int))) ((done ++ rest).length : Int) (done.length : Int) s a e num lsn kind head acc)
      (tup (fin x0 ⟨num, lsn, kind, head, acc ++ (rdTxts s.data.toList rest a e).1⟩ (rdTxts s.data.toList rest a e).2.2))
  | [], done, a, e, acc, hr, hl, hacc, hsm, ha => by
    refine Ev.step (f := fun _ => some (tup (fin x0 ⟨num, lsn, kind, head, acc ++ []⟩ e))) (fun k => ?_) (Ev.now _)
    simp only [page_Decode.l1]
    rw [if_neg (by simp), enc_f hb hsm]
    unfold raw_Reader_Err.f
    simp only [Option.bind_some, List.append_nil]
    unfold fin
    by_cases h1 : e = 0
    · rw [if_pos h1]
      by_cases h2 : pgErr kind head acc = 0
      · rw [if_pos h2]
        by_cases h3 : pgStr num lsn kind head acc = x0
        · rw [if_pos (toList_inj.2 h3), if_pos ⟨h1, h2, h3⟩]; rfl
        · rw [if_neg (fun h => h3 (toList_inj.1 h)), if_neg (fun h => h3 h.2.2)]; rfl
      · rw [if_neg h2, if_neg (fun h => h2 h.2.1)]; rfl
    · rw [if_neg h1, if_neg (fun h => h1 h.1)]; rfl
  | n :: rest, done, a, e, acc, hr, hl, hacc, hsm, ha => by
    have hn := hr n (by simp)
    have hlen : (done ++ n :: rest).length = done.length + (rest.length + 1) := by simp
    have hT := rdTake s a e n ha (by omega) (by omega)
    have hle := rTake_le s.data.toList a e n (by rw [len_sz]; exact ha)
    rw [len_sz] at hle
    have hlen2 := rTake_len s.data.toList a e n
    have ih := dec_l1 x0 s hs num lsn kind head hb rest (done ++ [n]) (rTake s.data.toList a e n).2.1 (rTake s.data.toList a e n).2.2 (acc ++ [bs (rTake s.data.toList a e n).1]) (fun m hm => hr m (by simp [hm])) (by simp at hl ⊢; omega) (by simp [hacc])
      (fun x hx => by
        rcases List.mem_append.1 hx with h | h
        · exact hsm x h
        · rw [List.mem_singleton.1 h, bs_size]; omega) hle
    simp only [List.append_assoc, List.singleton_append] at ih
    simp only [rdTxts]
    refine Ev.step (fun k => ?_) ih
    simp only [page_Decode.l1]
    rw [if_pos (by rw [hlen]; omega), if_pos (by omega), if_pos (by rw [List.length_map, hlen]; omega), rd_nat _ _ (by rw [hlen]; omega)]
    rw [show (done ++ n :: rest)[done.length]'(by rw [hlen]; omega) = n by simp, hT]
    simp only [Option.bind_some]
    rw [if_pos (by omega), w64 (by omega), show ((done.length : Int) + 1) = (((done ++ [n]).length : Nat) : Int) by simp]
theorem dec_l0 (x0 s : ByteArray) (hs : s.size ≤ 1000000) (num lsn kind : Int) (head : ByteArray) (hb : 0 ≤ num ∧ num ≤ 4294967295 ∧ 0 ≤ lsn ∧ lsn ≤ 18446744073709551615) : ∀ (n : Nat) (done : List Nat) (a : Nat) (e : Int),
    (∀ m ∈ done, m ≤ 65535) → done.length + n ≤ 255 → a ≤ s.size →
    Ev (fun k => page_Decode.l0 k x0 (done.map (fun n : Nat => (n : Int))) (n : Int) s a e num lsn kind head)
      (tup (fin x0 ⟨num, lsn, kind, head, (rdTxts s.data.toList (done ++ (rdLens s.data.toList n a e).1) (rdLens s.data.toList n a e).2.1 (rdLens s.data.toList n a e).2.2).1⟩ (rdTxts s.data.toList (done ++ (rdLens s.data.toList n a e).1) (rdLens s.data.toList n a e).2.1 (rdLens s.data.toList n a e).2.2).2.2))
  | 0, done, a, e, hd, hl, ha => by
    have ih := dec_l1 x0 s hs num lsn kind head hb done [] a e [] hd (by simpa using hl) rfl (fun x hx => by simp at hx) ha
    simp only [List.append_nil, List.nil_append] at ih
    simp only [rdLens, List.append_nil]
    refine Ev.step (fun k => ?_) ih
    simp only [page_Decode.l0]
    rw [if_neg (by simp), List.length_map]
    rfl
  | n + 1, done, a, e, hd, hl, ha => by
    have hT := rdNum s a e 2 ha (by omega) (by omega)
    have hle := rNum_le s.data.toList a e 2 (by rw [len_sz]; exact ha)
    rw [len_sz] at hle
    have hv : (rNum s.data.toList a e 2).1 ≤ 65535 := by
      by_cases he : e = 0
      · subst he
        rw [rNum_ok (by omega)]
        split
        · simp
        · have h1 := numL_lt ((s.data.toList.drop a).take (2 : Int).toNat)
          have h2 : 256 ^ ((s.data.toList.drop a).take (2 : Int).toNat).length ≤ 256 ^ 2 := Nat.pow_le_pow_right (by decide) (List.length_take_le _ _)
          simp only
          omega
      · rw [rNum_err he]; simp
    have ih := dec_l0 x0 s hs num lsn kind head hb n (done ++ [(rNum s.data.toList a e 2).1]) (rNum s.data.toList a e 2).2.1 (rNum s.data.toList a e 2).2.2 (fun m hm => by
        rcases List.mem_append.1 hm with h | h
        · exact hd m h
        · rw [List.mem_singleton.1 h]; exact hv) (by simp; omega) hle
    simp only [List.append_assoc, List.singleton_append] at ih
    simp only [rdLens]
    refine Ev.step (fun k => ?_) ih
    simp only [page_Decode.l0]
    rw [if_pos (by omega), hT]
    simp only [Option.bind_some]
    rw [if_pos (by rw [List.length_map]; omega), w64 (by omega), w64 (by omega), show (((n + 1 : Nat) : Int) - 1) = (n : Int) by omega]
    simp only [List.map_append, List.map_cons, List.map_nil]
end Go.Proofs.Yteokjmjfjdgmpaa.PPg
end
section
namespace Go.Proofs.Yteokjmjfjdgmpaa.PPg
open Go.RowKit Go.Proofs.YteokjmjfjdgmpaaW.PrintWords Go.Proofs.YteokjmjfjdgmpaaW.PrintLast Go.Proofs.YteokjmjfjdgmpaaW.PrintMore
open Go.Gi
set_option linter.unusedVariables false
set_option linter.unusedSimpArgs false
theorem rNum_lt' (L : List UInt8) (a : Nat) (e : Int) (n : Nat) : (rNum L a e n).1 < 256 ^ n := by
  have h0 : 0 < 256 ^ n := Nat.pow_pos (by decide)
  unfold rNum
  split
  · exact h0
  split
  · exact h0
  split
  · exact h0
  · simp only [Int.toNat_natCast]
    exact Nat.lt_of_lt_of_le (numL_lt _) (Nat.pow_le_pow_right (by decide) (List.length_take_le _ _))
theorem nlt1 (L : List UInt8) (a : Nat) (e : Int) : (rNum L a e 1).1 < 256 := rNum_lt' L a e 1
theorem nlt4 (L : List UInt8) (a : Nat) (e : Int) : (rNum L a e 4).1 < 4294967296 := rNum_lt' L a e 4
theorem nlt8 (L : List UInt8) (a : Nat) (e : Int) : (rNum L a e 8).1 < 18446744073709551616 := rNum_lt' L a e 8
theorem count_zero (L : List UInt8) : L.count 0 = L.length ↔ L = List.replicate L.length 0 := by
  rw [List.count_eq_length, List.eq_replicate_iff]
  constructor
  · intro h; exact ⟨rfl, fun b hb => (h b hb).symm⟩
  · intro h b hb; exact (h.2 b hb).symm
theorem decP_fin (s : ByteArray) : decP s = if s.size < 512 then (pgZ, 4) else if 512 < s.size then (pgZ, 5)
  else if s.data.toList = List.replicate 512 0 then (pgZ, 0)
  else if (s.data.toList.drop 4).take 8 ≠ s.data.toList.drop 504 then (pgZ, 34)
  else if (numL (s.data.toList.take 4) : Int) ≠ sumL 0 (s.data.toList.drop 4) then (pgZ, 32)
  else fin s (rdPg (s.data.toList.drop 4) 0).1 (rdPg (s.data.toList.drop 4) 0).2.2 := rfl
theorem numAt {L : List UInt8} (h : 4 ≤ L.length) : rNum L 0 0 4 = (numL (L.take 4), 4, 0) := by
  rw [rNum_ok (by omega), if_neg (by omega)]; rfl
set_option maxHeartbeats 800000 in
theorem dec_f (s : ByteArray) (hs : s.size ≤ 9223372036854775807) : Ev (fun k => page_Decode.f k s) (tup (decP s)) := by
  rw [decP_fin]
  by_cases h1 : s.size < 512
  · rw [if_pos h1]
    refine Ev.congr (fun k => ?_) (Ev.now _)
    unfold page_Decode.f
    rw [if_pos (by omega)]; rfl
  rw [if_neg h1]
  by_cases h2 : 512 < s.size
  · rw [if_pos h2]
    refine Ev.congr (fun k => ?_) (Ev.now _)
    unfold page_Decode.f
    rw [if_neg (by omega), if_pos (by omega)]; rfl
  rw [if_neg h2]
  have hz : s.size = 512 := by omega
  have hL := len_sz s
  have hc : strings_Count.f s (⟨#[0]⟩ : ByteArray) = some ((s.data.toList.count 0 : Nat) : Int) := by unfold strings_Count.f; rw [if_pos rfl]; rfl
  by_cases h3 : s.data.toList = List.replicate 512 0
  · rw [if_pos h3]
    refine Ev.congr (fun k => ?_) (Ev.now _)
    unfold page_Decode.f
    rw [if_neg (by omega), if_neg (by omega), hc]
    simp only [Option.bind_some]
    rw [if_pos (by have := (count_zero s.data.toList).2 (by rw [hL, hz]; exact h3); omega)]; rfl
  rw [if_neg h3]
  have hc3 : ¬ ((s.data.toList.count 0 : Nat) : Int) = (s.size : Int) := fun h => h3 (by have := (count_zero s.data.toList).1 (by omega); rw [hL, hz] at this; exact this)
  have e1 : (s.extract 4 12).toList = (s.data.toList.drop 4).take 8 := by rw [bs_list, extract_toList]
  have e2 : (s.extract 504 s.size).toList = s.data.toList.drop 504 := by
    rw [bs_list, extract_toList, List.take_of_length_le]
    rw [List.length_drop]; omega
  by_cases h4 : (s.data.toList.drop 4).take 8 = s.data.toList.drop 504
  · rw [if_neg (by simpa using h4)]
    have e3 : (s.extract 4 s.size).data.toList = s.data.toList.drop 4 := by
      rw [extract_toList, List.take_of_length_le]
      rw [List.length_drop]; omega
    have e4 : (s.extract 4 s.size).size = 508 := by rw [← len_sz, e3, List.length_drop]; omega
    have hg : raw_Get.f s 0 4 = some ((numL (s.data.toList.take 4) : Int), 0) := by
      unfold raw_Get.f
      rw [if_pos ⟨by omega, by omega, by omega⟩, show (0 : Int).toNat = 0 from rfl, numAt (by omega)]
    have hsum : raw_Sum.f (s.extract 4 s.size) = some (sumL 0 (s.data.toList.drop 4)) := by
      unfold raw_Sum.f
      rw [if_pos (by omega), e3]
    have hlt : numL (s.data.toList.take 4) < 4294967296 := by
      have := nlt4 s.data.toList 0 0
      rwa [numAt (by omega)] at this
    by_cases h5 : (numL (s.data.toList.take 4) : Int) = sumL 0 (s.data.toList.drop 4)
    · rw [if_neg (by simpa using h5)]
      obtain ⟨s', hs'⟩ : ∃ s', s' = s.extract 4 s.size := ⟨_, rfl⟩
      have hs1 : s'.data.toList = s.data.toList.drop 4 := by rw [hs', e3]
      have hs2 : s'.size = 508 := by rw [hs', e4]
      obtain ⟨L, hLd⟩ : ∃ L, L = s'.data.toList := ⟨_, rfl⟩
      have hLl : L.length = 508 := by rw [hLd, len_sz, hs2]
      rw [← hs1]
      have q1 : (rNum L 0 0 8).2.1 ≤ 508 := by have := rNum_le L 0 0 8 (by omega); omega
      have q2 : (rNum L (rNum L 0 0 8).2.1 (rNum L 0 0 8).2.2 4).2.1 ≤ 508 := by have := rNum_le L (rNum L 0 0 8).2.1 (rNum L 0 0 8).2.2 4 (by omega); omega
      obtain ⟨v1, p1, x1, g1⟩ : ∃ v p x, rNum L 0 0 8 = (v, p, x) := ⟨_, _, _, rfl⟩
      have b1 := nlt8 L 0 0
      rw [g1] at q1 q2 b1
      obtain ⟨v2, p2, x2, g2⟩ : ∃ v p x, rNum L p1 x1 4 = (v, p, x) := ⟨_, _, _, rfl⟩
      have b2 := nlt4 L p1 x1
      simp only at q1 q2
      rw [g2] at q2 b2
      obtain ⟨v3, p3, x3, g3⟩ : ∃ v p x, rNum L p2 x2 1 = (v, p, x) := ⟨_, _, _, rfl⟩
      have b3 := nlt1 L p2 x2
      have q3 := rNum_le L p2 x2 1 (by simp only at q2; omega)
      rw [g3] at q3 b3
      obtain ⟨v4, p4, x4, g4⟩ : ∃ v p x, rNum L p3 x3 1 = (v, p, x) := ⟨_, _, _, rfl⟩
      have b4 := nlt1 L p3 x3
      have q4 := rNum_le L p3 x3 1 (by simp only at q3; omega)
      rw [g4] at q4 b4
      obtain ⟨v5, p5, x5, g5⟩ : ∃ v p x, rTake L p4 x4 v4 = (v, p, x) := ⟨_, _, _, rfl⟩
      have q5 := rTake_le L p4 x4 v4 (by simp only at q4; omega)
      rw [g5] at q5
      obtain ⟨v6, p6, x6, g6⟩ : ∃ v p x, rNum L p5 x5 1 = (v, p, x) := ⟨_, _, _, rfl⟩
      have b6 := nlt1 L p5 x5
      have q6 := rNum_le L p5 x5 1 (by simp only at q5; omega)
      rw [g6] at q6 b6
      simp only at q2 q3 q4 q5 q6 b1 b2 b3 b4 b6
      have l0 := dec_l0 s s' (by omega) (v2 : Int) (v1 : Int) (v3 : Int) (bs v5) ⟨by omega, by omega, by omega, by omega⟩ v6 [] p6 x6 (fun m hm => by simp at hm) (by simp; omega) (by omega)
      have hrd : rdPg s'.data.toList 0 = (⟨v2, v1, v3, bs v5, (rdTxts s'.data.toList (rdLens s'.data.toList v6 p6 x6).1 (rdLens s'.data.toList v6 p6 x6).2.1 (rdLens s'.data.toList v6 p6 x6).2.2).1⟩, (rdTxts s'.data.toList (rdLens s'.data.toList v6 p6 x6).1 (rdLens s'.data.toList v6 p6 x6).2.1 (rdLens s'.data.toList v6 p6 x6).2.2).2.1, (rdTxts s'.data.toList (rdLens s'.data.toList v6 p6 x6).1 (rdLens s'.data.toList v6 p6 x6).2.1 (rdLens s'.data.toList v6 p6 x6).2.2).2.2) := by
        rw [← hLd]
        unfold rdPg
        simp only [g1, g2, g3, g4, g5, g6]
      rw [hrd]
      refine Ev.congr (fun k => ?_) l0
      unfold page_Decode.f
      rw [if_neg (by omega), if_neg (by omega), hc]
      simp only [Option.bind_some]
      rw [if_neg hc3, if_pos (by omega), if_pos (by omega), if_pos (by rw [e1, e2]; exact h4), hg]
      simp only [Option.bind_some]
      rw [if_pos (by omega), hsum]
      simp only [Option.bind_some]
      rw [if_pos (by rw [← h5]; omega)]
      unfold raw_NewReader.f
      simp only [Option.bind_some]
      rw [← hs']
      have r1 := rdNum s' 0 0 8 (by omega) (by omega) (by omega)
      rw [← hLd, g1] at r1
      have r2 := rdNum s' p1 x1 4 (by omega) (by omega) (by omega)
      rw [← hLd, g2] at r2
      have r3 := rdNum s' p2 x2 1 (by omega) (by omega) (by omega)
      rw [← hLd, g3] at r3
      have r4 := rdNum s' p3 x3 1 (by omega) (by omega) (by omega)
      rw [← hLd, g4] at r4
      have r5 := rdTake s' p4 x4 v4 (by omega) (by omega) (by omega)
      rw [← hLd, g5] at r5
      have r6 := rdNum s' p5 x5 1 (by omega) (by omega) (by omega)
      rw [← hLd, g6] at r6
      have r1' : raw_Reader_Number.f s' 0 0 8 = some ((v1 : Int), s', (p1 : Int), x1) := r1
      rw [r1']
      simp only [Option.bind_some]
      rw [r2]
      simp only [Option.bind_some]
      rw [r3]
      simp only [Option.bind_some]
      rw [r4]
      simp only [Option.bind_some]
      rw [w64 (by omega), r5]
      simp only [Option.bind_some]
      rw [r6]
      simp only [Option.bind_some]
      rw [w64 (by omega), w64 (by omega), show ((v2 : Int) % 4294967296) = v2 by omega]
      rfl
    · rw [if_pos h5]
      refine Ev.congr (fun k => ?_) (Ev.now _)
      unfold page_Decode.f
      rw [if_neg (by omega), if_neg (by omega), hc]
      simp only [Option.bind_some]
      rw [if_neg hc3, if_pos (by omega), if_pos (by omega), if_pos (by rw [e1, e2]; exact h4), hg]
      simp only [Option.bind_some]
      rw [if_pos (by omega), hsum]
      simp only [Option.bind_some]
      rw [if_neg (by intro h; exact h5 (by omega))]; rfl
  · rw [if_pos h4]
    refine Ev.congr (fun k => ?_) (Ev.now _)
    unfold page_Decode.f
    rw [if_neg (by omega), if_neg (by omega), hc]
    simp only [Option.bind_some]
    rw [if_neg hc3, if_pos (by omega), if_pos (by omega), if_neg (by rw [e1, e2]; exact h4)]; rfl
end Go.Proofs.Yteokjmjfjdgmpaa.PPg
end
section
namespace Go.Proofs.Yteokjmjfjdgmpaa.PPg
open Go.RowKit Go.Proofs.YteokjmjfjdgmpaaW.PrintWords Go.Proofs.YteokjmjfjdgmpaaW.PrintLast Go.Proofs.YteokjmjfjdgmpaaW.PrintMore
open Go.Gi
set_option linter.unusedVariables false
set_option linter.unusedSimpArgs false
theorem rdOf_at (l : List ByteArray) (i : Nat) (h : i < l.length) : rdOf ByteArray.empty l (i : Int) = l[i] := by
  unfold rdOf
  simp [h]
end Go.Proofs.Yteokjmjfjdgmpaa.PPg
end
section
namespace Go.Proofs.Yteokjmjfjdgmpaa.PPg
open Go.RowKit Go.Proofs.YteokjmjfjdgmpaaW.PrintWords Go.Proofs.YteokjmjfjdgmpaaW.PrintLast Go.Proofs.YteokjmjfjdgmpaaW.PrintMore
open Go.Gi
set_option linter.unusedVariables false
set_option linter.unusedSimpArgs false
theorem eq_l0 : ∀ (r0 r1 d0 d1 : List ByteArray), d0.length = d1.length → r0.length = r1.length → (d0 ++ r0).length ≤ 4000000000000000000 →
    Ev (fun k => slices_Equal_string_string.l0 k (d0 ++ r0) (d1 ++ r1) ((d0 ++ r0).length : Int) (d0.length : Int)) (decide (r0 = r1))
  | [], [], d0, d1, hd, hr, hl => by
    refine Ev.step (f := fun _ => some true) (fun k => ?_) (Ev.now _)
    simp only [slices_Equal_string_string.l0]
    rw [if_neg (by simp)]
  | s :: r0, t :: r1, d0, d1, hd, hr, hl => by
    have h0 : (d0 ++ s :: r0).length = d0.length + (r0.length + 1) := by simp
    have h1 : (d1 ++ t :: r1).length = d1.length + (r1.length + 1) := by simp
    have hrr : r0.length = r1.length := by simpa using hr
    by_cases e : s = t
    · have ih := eq_l0 r0 r1 (d0 ++ [s]) (d1 ++ [t]) (by simp [hd]) hrr (by simpa using hl)
      simp only [List.append_assoc, List.singleton_append] at ih
      rw [show decide (s :: r0 = t :: r1) = decide (r0 = r1) by simp [e]]
      refine Ev.step (fun k => ?_) ih
      simp only [slices_Equal_string_string.l0]
      rw [if_pos (by omega), if_pos (by omega), if_pos (by omega), if_pos (by omega), rdOf_at _ _ (by omega)]
      rw [show rdOf ByteArray.empty (d1 ++ t :: r1) (d0.length : Int) = t by rw [hd, rdOf_at _ _ (by omega)]; simp]
      rw [show (d0 ++ s :: r0)[d0.length]'(by omega) = s by simp, if_pos (by rw [e]), w64 (by omega), show ((d0.length : Int) + 1) = (((d0 ++ [s]).length : Nat) : Int) by simp]
    · rw [show decide (s :: r0 = t :: r1) = false by simp [e]]
      refine Ev.step (f := fun _ => some false) (fun k => ?_) (Ev.now _)
      simp only [slices_Equal_string_string.l0]
      rw [if_pos (by omega), if_pos (by omega), if_pos (by omega), if_pos (by omega), rdOf_at _ _ (by omega)]
      rw [show rdOf ByteArray.empty (d1 ++ t :: r1) (d0.length : Int) = t by rw [hd, rdOf_at _ _ (by omega)]; simp]
      rw [show (d0 ++ s :: r0)[d0.length]'(by omega) = s by simp, if_neg (fun h => e (toList_inj.1 h))]
  | [], _ :: _, _, _, _, hr, _ => by simp at hr
  | _ :: _, [], _, _, _, hr, _ => by simp at hr
theorem eq_f (a b : List ByteArray) (h : a.length ≤ 4000000000000000000) : Ev (fun k => slices_Equal_string_string.f k a b) (decide (a = b)) := by
  by_cases e : a.length = b.length
  · refine Ev.congr (fun k => ?_) (eq_l0 a b [] [] rfl e (by simpa using h))
    unfold slices_Equal_string_string.f
    rw [if_pos (by omega)]
    rfl
  · rw [decide_eq_false (fun h => e (by rw [h]))]
    refine Ev.congr (fun k => ?_) (Ev.now _)
    unfold slices_Equal_string_string.f
    rw [if_neg (by omega)]
def sameB (n k : Int) (h : ByteArray) (s : List ByteArray) (n' k' : Int) (h' : ByteArray) (s' : List ByteArray) : Bool := decide (n = n') && (decide (k = k') && (decide (h = h') && decide (s = s')))
theorem sameB_self (n k : Int) (h : ByteArray) (s : List ByteArray) : sameB n k h s n k h s = true := by simp [sameB]
theorem same_f (n l k : Int) (h : ByteArray) (s : List ByteArray) (n' l' k' : Int) (h' : ByteArray) (s' : List ByteArray) (hl : s.length ≤ 4000000000000000000) : Ev (fun m => page_Same.f m n l k h s n' l' k' h' s') (sameB n k h s n' k' h' s') := by
  unfold sameB
  by_cases h1 : n = n'
  · by_cases h2 : k = k'
    · by_cases h3 : h = h'
      · rw [decide_eq_true h1, decide_eq_true h2, decide_eq_true h3]
        simp only [Bool.true_and]
        refine Ev.congr (fun m => ?_) (Ev.bind (f := fun _ t => some t) (eq_f s s' hl) (Ev.now _))
        unfold page_Same.f
        rw [if_pos h1, if_pos h2, if_pos (by rw [h3])]
      · rw [decide_eq_true h1, decide_eq_true h2, decide_eq_false h3]
        refine Ev.congr (fun m => ?_) (Ev.now _)
        unfold page_Same.f
        rw [if_pos h1, if_pos h2, if_neg (fun e => h3 (toList_inj.1 e))]
        rfl
    · rw [decide_eq_true h1, decide_eq_false h2]
      refine Ev.congr (fun m => ?_) (Ev.now _)
      unfold page_Same.f
      rw [if_pos h1, if_neg h2]
      rfl
  · rw [decide_eq_false h1]
    refine Ev.congr (fun m => ?_) (Ev.now _)
    unfold page_Same.f
    rw [if_neg h1]
    rfl
theorem rsame_l0 (n l k : Int) (h : ByteArray) (n' l' k' : Int) (h' : ByteArray) : ∀ (r0 r1 d0 d1 : List ByteArray), d0.length = d1.length → r0.length = r1.length → (d0 ++ r0).length ≤ 4000000000000000000 →
    Ev (fun m => girderref03_Same.l0 m (d0.length : Int) n l k h (d0 ++ r0) n' l' k' h' (d1 ++ r1)) (decide (r0 = r1))
  | [], [], d0, d1, hd, hr, hl => by
    refine Ev.step (f := fun _ => some true) (fun k => ?_) (Ev.now _)
    simp only [girderref03_Same.l0]
    rw [if_neg (by simp)]
  | s :: r0, t :: r1, d0, d1, hd, hr, hl => by
    have h0 : (d0 ++ s :: r0).length = d0.length + (r0.length + 1) := by simp
    have h1 : (d1 ++ t :: r1).length = d1.length + (r1.length + 1) := by simp
    have hrr : r0.length = r1.length := by simpa using hr
    by_cases e : s = t
    · have ih := rsame_l0 n l k h n' l' k' h' r0 r1 (d0 ++ [s]) (d1 ++ [t]) (by simp [hd]) hrr (by simpa using hl)
      simp only [List.append_assoc, List.singleton_append] at ih
      rw [show decide (s :: r0 = t :: r1) = decide (r0 = r1) by simp [e]]
      refine Ev.step (fun k => ?_) ih
      simp only [girderref03_Same.l0]
      rw [if_pos (by omega), if_pos (by omega), if_pos (by omega), rdOf_at _ _ (by omega)]
      rw [show rdOf ByteArray.empty (d1 ++ t :: r1) (d0.length : Int) = t by rw [hd, rdOf_at _ _ (by omega)]; simp]
      rw [show (d0 ++ s :: r0)[d0.length]'(by omega) = s by simp, if_pos (by rw [e]), w64 (by omega), show ((d0.length : Int) + 1) = (((d0 ++ [s]).length : Nat) : Int) by simp]
    · rw [show decide (s :: r0 = t :: r1) = false by simp [e]]
      refine Ev.step (f := fun _ => some false) (fun k => ?_) (Ev.now _)
      simp only [girderref03_Same.l0]
      rw [if_pos (by omega), if_pos (by omega), if_pos (by omega), rdOf_at _ _ (by omega)]
      rw [show rdOf ByteArray.empty (d1 ++ t :: r1) (d0.length : Int) = t by rw [hd, rdOf_at _ _ (by omega)]; simp]
      rw [show (d0 ++ s :: r0)[d0.length]'(by omega) = s by simp, if_neg (fun h => e (toList_inj.1 h))]
  | [], _ :: _, _, _, _, hr, _ => by simp at hr
  | _ :: _, [], _, _, _, hr, _ => by simp at hr
theorem rsame_f (n l k : Int) (h : ByteArray) (s : List ByteArray) (n' l' k' : Int) (h' : ByteArray) (s' : List ByteArray) (hl : s.length ≤ 4000000000000000000) : Ev (fun m => girderref03_Same.f m n l k h s n' l' k' h' s') (sameB n k h s n' k' h' s') := by
  have bad : Ev (fun m => girderref03_Same.j0 m true n l k h s n' l' k' h' s') false := Ev.step (f := fun _ => some false) (fun m => by simp only [girderref03_Same.j0]; rfl) (Ev.now _)
  unfold sameB
  by_cases h1 : n = n'
  · by_cases h2 : k = k'
    · by_cases h3 : h = h'
      · rw [decide_eq_true h1, decide_eq_true h2, decide_eq_true h3]
        simp only [Bool.true_and]
        by_cases h4 : s.length = s'.length
        · have l0 := rsame_l0 n l k h n' l' k' h' s s' [] [] rfl h4 (by simpa using hl)
          have j0 : Ev (fun m => girderref03_Same.j0 m false n l k h s n' l' k' h' s') (decide (s = s')) := Ev.step (fun m => by simp only [girderref03_Same.j0]; rw [if_neg (by simp)]; rfl) l0
          refine Ev.congr (fun m => ?_) j0
          unfold girderref03_Same.f
          rw [if_pos h1, if_pos h2, if_pos (by rw [h3]), show ((s.length : Int) != (s'.length : Int)) = false by simp [h4]]
        · rw [decide_eq_false (fun e => h4 (by rw [e]))]
          refine Ev.congr (fun m => ?_) bad
          unfold girderref03_Same.f
          rw [if_pos h1, if_pos h2, if_pos (by rw [h3]), show ((s.length : Int) != (s'.length : Int)) = true by simp; omega]
      · rw [decide_eq_true h1, decide_eq_true h2, decide_eq_false h3]
        refine Ev.congr (fun m => ?_) bad
        unfold girderref03_Same.f
        rw [if_pos h1, if_pos h2, if_neg (fun e => h3 (toList_inj.1 e))]
    · rw [decide_eq_true h1, decide_eq_false h2]
      refine Ev.congr (fun m => ?_) bad
      unfold girderref03_Same.f
      rw [if_pos h1, if_neg h2]
  · rw [decide_eq_false h1]
    refine Ev.congr (fun m => ?_) bad
    unfold girderref03_Same.f
    rw [if_neg h1]
theorem pgAll_size {num lsn kind : Int} {head : ByteArray} {slots : List ByteArray} (h : pgErr kind head slots = 0) : (bs (pgAll num lsn kind head slots)).size = 512 := by
  rw [bs_size, pgAll_len (pgErr_zero.1 h).2.2.2.2]
theorem pgStr_pos {num lsn kind : Int} {head : ByteArray} {slots : List ByteArray} (h : pgErr kind head slots = 0) : pgStr num lsn kind head slots = bs (pgAll num lsn kind head slots) := by unfold pgStr; rw [if_pos h]
theorem awake_eq (X : ByteArray) (hE : page_Encode.f 3 0 2 (⟨#[]⟩ : ByteArray) [⟨#[97]⟩] = some (X, 0)) (k : Nat) : girderlaw03_awake.f k = (page_Decode.f k X).bind fun bt => if (0 : Int) = 0 then (if bt.2.2.2.2.2 = 0 then ((page_Same.f k 3 0 2 (⟨#[]⟩ : ByteArray) [⟨#[97]⟩] bt.1 bt.2.1 bt.2.2.1 bt.2.2.2.1 bt.2.2.2.2.1).bind fun t => (if t = true then (some ((X.size : Int) == 512)) else (some false))) else (some false)) else (some false) := by
  unfold girderlaw03_awake.f
  rewrite [Option.bind_some, hE, Option.bind_some]
  exact rfl
theorem awake_end (X : ByteArray) (hsz : X.size = 512) : Ev (fun k => ((page_Same.f k 3 0 2 (⟨#[]⟩ : ByteArray) [⟨#[97]⟩] 3 0 2 (⟨#[]⟩ : ByteArray) [⟨#[97]⟩]).bind fun t => (if t = true then (some ((X.size : Int) == 512)) else (some false)))) true := by
  have hS := same_f 3 0 2 (⟨#[]⟩ : ByteArray) [⟨#[97]⟩] 3 0 2 (⟨#[]⟩ : ByteArray) [⟨#[97]⟩] (by simp)
  rw [sameB_self] at hS
  refine Ev.bind hS ?_
  simp only [if_true, hsz]
  exact Ev.now _
theorem awake_X (X : ByteArray) (hsz : X.size = 512) (hE : page_Encode.f 3 0 2 (⟨#[]⟩ : ByteArray) [⟨#[97]⟩] = some (X, 0)) (hD : Ev (fun k => page_Decode.f k X) (tup (⟨3, 0, 2, ⟨#[]⟩, [⟨#[97]⟩]⟩, 0))) : Ev (fun k => girderlaw03_awake.f k) true := by
  refine Ev.congr (fun k => awake_eq X hE k) (Ev.bind hD ?_)
  exact awake_end X hsz
theorem awake_f : Ev (fun k => girderlaw03_awake.f k) true := by
  have he : pgErr 2 (⟨#[]⟩ : ByteArray) [⟨#[97]⟩] = 0 := by decide
  have hsm : Small [⟨#[97]⟩] := fun s hs => by rw [List.mem_singleton.1 hs]; decide
  have hE := enc_f (num := 3) (lsn := 0) (kind := 2) (head := ⟨#[]⟩) (slots := [⟨#[97]⟩]) (by omega) hsm
  rw [he, pgStr_pos he] at hE
  have hsz := pgAll_size (num := 3) (lsn := 0) he
  have hD := dec_f (bs (pgAll 3 0 2 (⟨#[]⟩ : ByteArray) [⟨#[97]⟩])) (by omega)
  rw [dec_enc he (by omega) (by omega) (by omega) (by omega)] at hD
  exact awake_X _ hsz hE hD
theorem ref_f (n l k : Int) (h : ByteArray) (s : List ByteArray) : girderlaw03_ref.f n l k h s = some (n, l, k, h, s) := rfl
theorem lsame_f (n l k : Int) (h : ByteArray) (s : List ByteArray) (n' l' k' : Int) (h' : ByteArray) (s' : List ByteArray) (hl : s.length ≤ 4000000000000000000) : Ev (fun m => girderlaw03_same.f m n l k h s n' l' k' h' s') (decide (l = l') && sameB n k h s n' k' h' s') := by
  by_cases e : l = l'
  · rw [decide_eq_true e, Bool.true_and]
    refine Ev.congr (fun m => ?_) (Ev.bind (f := fun _ t => some t) (rsame_f n l k h s n' l' k' h' s' hl) (Ev.now _))
    unfold girderlaw03_same.f
    rw [if_pos e, ref_f]
    rfl
  · rw [decide_eq_false e, Bool.false_and]
    refine Ev.congr (fun m => ?_) (Ev.now _)
    unfold girderlaw03_same.f
    rw [if_neg e]
theorem kind_f (k : Int) (h : ByteArray) (hs : h.size ≤ 4000000000000000000) : ∃ X, page_Kind.f k h = some X ∧ girderref03_Turned.f k h = some X := by
  have e : (strOfNums [k % 256]).size + h.size ≤ 9223372036854775807 := by
    have : (strOfNums [k % 256]).size = 1 := rfl
    omega
  refine ⟨strOfNums [k % 256] ++ h, ?_, ?_⟩
  · unfold page_Kind.f
    rewrite [Option.bind_some, if_pos e]
    rfl
  · unfold girderref03_Turned.f
    rewrite [Option.bind_some, if_pos e]
    rfl
end Go.Proofs.Yteokjmjfjdgmpaa.PPg
end
section
namespace Go.Proofs.Yteokjmjfjdgmpaa.PPg
open Go.RowKit Go.Proofs.YteokjmjfjdgmpaaW.PrintWords Go.Proofs.YteokjmjfjdgmpaaW.PrintLast Go.Proofs.YteokjmjfjdgmpaaW.PrintMore
open Go.Gi
set_option linter.unusedVariables false
set_option linter.unusedSimpArgs false
theorem pageSmall_pure (n0 l0 k0 : Int) (h0 : ByteArray) (s0 : List ByteArray) (n1 l1 k1 : Int) (h1 : ByteArray) (s1 : List ByteArray) (n : Int) (hs : h0.size ≤ 4000000000000000000) (hl0 : s0.length ≤ 4000000000000000000) : ∃ k, girderlaw03_PageSmall.f k n0 l0 k0 h0 s0 n1 l1 k1 h1 s1 n = some true := by
  apply Ev.rounds
  obtain ⟨X, hX1, hX2⟩ := kind_f k0 h0 hs
  apply Ev.congr
  · intro k
    unfold girderlaw03_PageSmall.f page_Blank.f
    rewrite [Option.bind_some]
    exact rfl
  refine Ev.bind awake_f ?_
  simp only [if_true, Option.bind_some, hX1, hX2, ref_f]
  refine Ev.bind (lsame_f n 0 0 ⟨#[]⟩ [] n 0 0 ⟨#[]⟩ [] (by simp)) ?_
  rw [sameB_self]
  simp only [decide_true, Bool.and_self, if_true]
  refine Ev.bind (same_f n0 l0 k0 h0 s0 n1 l1 k1 h1 s1 hl0) ?_
  refine Ev.bind (rsame_f n0 l0 k0 h0 s0 n1 l1 k1 h1 s1 hl0) ?_
  simp only [BEq.rfl, if_true]
  have h2 := same_f n0 l0 k0 h0 s0 n0 l0 k0 h0 s0 hl0
  rw [sameB_self] at h2
  exact Ev.bind h2 (Ev.now _)
end Go.Proofs.Yteokjmjfjdgmpaa.PPg
end
section
namespace Go.Proofs.Yteokjmjfjdgmpaa.pageSmallRow
open Go.ChangeShapes Go.WideShapes Go.ChangeAt Go.RowKit Go.GiRow
open Go.ChangeMaps (open_string shut_string)
theorem own : ownKnob Try.prog.godebug = none := by kernel_rfl
theorem laid : laidOutB Try.prog = true := by kernel_rfl
set_option maxRecDepth 100000 in
set_option maxHeartbeats 6400000 in
theorem lifted (os : Os) (started : os.Started) (H : Type) (enc : TypeId × Value → H) :
    ReturnsInHanded {} Try.checked os 5 .any (Rows.pageSmallSpec.pre6 enc Try.prog Try.f5 Rows.pageSmallRow.domain false) (Rows.pageSmallSpec.post enc Try.prog Try.f5 false true false false) := by
  refine returnsInHanded_of_change_sized (C := Try.checked) own started (by kernel_rfl) Try.func5
    (ChangeSpec.witness6 (enc := enc) (C := Try.checked) false ⟨#[], #[.agg #[.int .u32 0, .int .u64 0, .int .i64 0, .string ByteArray.empty, .slice none 0 0], .agg #[.int .u32 0, .int .u64 0, .int .i64 0, .string ByteArray.empty, .slice none 0 0], .int .u32 0], []⟩ 8 (by kernel_rfl) (by kernel_rfl) (by kernel_rfl) (by kernel_rfl)) ?_
  intro W base args ds gs before hval0 hW _ hsz0 _
  have hsz : (DataW.weightsEach Try.prog (Try.f5.params.toList ++ Rows.pageSmallSpec.plain.varTypes Try.prog) (ds ++ gs)).all (· ≤ reachBytes) = true := hsz0
  have hval : ∀ (j : Nat) t v, Try.f5.params[j]? = some t → args[j]? = some v → Value.okWide Try.prog W .any base t v := hval0
  have hW' := hW
  obtain ⟨p, q, hA0, hV, rfl, _, _⟩ := hW
  have hA : DataW.TrodAll enc Try.prog W 0 (fun _ => true) true Try.f5.params.toList args.toList ds p := hA0
  rw [Try.params5] at hA hval hsz
  obtain ⟨v0, vs0, d0, ds0, p0, q0, hargs, rfl, rfl, h0, r0⟩ := trodAll_cons hA
  obtain ⟨v1, vs1, d1, ds1, p1, q1, rfl, rfl, rfl, h1, r1⟩ := trodAll_cons r0
  obtain ⟨v2, vs2, d2, ds2, p2, q2, rfl, rfl, rfl, h2, r2⟩ := trodAll_cons r1
  obtain ⟨rfl, rfl, rfl⟩ := trodAll_nil r2
  obtain rfl : args = #[v0, v1, v2] := by cases args; simp_all
  obtain ⟨rfl, rfl⟩ := trodVars_none hV
  obtain ⟨x0, A0, c0, rfl, hc0, hr0, b0, k0, g0, n0, s0⟩ := sheet_open (hval 0 28 v0 rfl rfl) h0 (OpenK.light_each hsz 0 _ _ rfl rfl)
  obtain ⟨x1, A1, c1, rfl, hc1, hr1, b1, k1, g1, n1, s1⟩ := sheet_open (hval 1 28 v1 rfl rfl) h1 (OpenK.light_each hsz 1 _ _ rfl rfl)
  obtain ⟨a2, rfl, rfl, rfl, w2⟩ := open_int Try.underlying22 (hval 2 22 v2 rfl rfl) h2
  have wb2 := bounds_u32 w2
  obtain ⟨k, hk⟩ := PPg.pageSmall_pure x0.num x0.lsn x0.kind x0.head x0.slots x1.num x1.lsn x1.kind x1.head x1.slots a2 (by omega) (by omega)
  refine (PPg.girderlaw03_PageSmall.calls k x0.num x0.lsn x0.kind x0.head A0 c0 x0.slots x1.num x1.lsn x1.kind x1.head A1 c1 x1.slots a2 true W hr0 hc0 hr1 hc1 hk).mono fun e W' ⟨he, bel⟩ => ?_
  subst he
  refine ⟨_, rfl, law_post (tb := 4) laid (by kernel_rfl) rfl Try.underlying4 rfl (fun ds hds => ?_) hW' bel⟩
  match ds, hds with
  | [_, _, _], _ => rfl
theorem over : Rows.pageSmallRow.holds Try.pinned (OpenSpec.ofChange Rows.pageSmallSpec) :=
  OpenClaim.holds_of_wide 5 Try.f5 rfl rfl rfl rfl rfl rfl rfl ⟨rfl, rfl, rfl, rfl, rfl⟩ rfl rfl rfl rfl rfl (by kernel_rfl) Try.func5 (by kernel_rfl)
    (of_decide_eq_true (by kernel_rfl)) (by unfold Func.isWrapper; first | (rw [if_pos (by decide +kernel)]; kernel_rfl) | (rw [if_neg (by decide +kernel)]; exact ⟨rfl, rfl⟩))
    (fun os started H enc _ => lifted os started H enc)
end Go.Proofs.Yteokjmjfjdgmpaa.pageSmallRow
namespace Go.Proofs.Yteokjmjfjdgmpaa
/-- The row, under a short name, for the claim. -/
theorem pageSmall_holds : Rows.PageSmallSaid := pageSmallRow.over
#print axioms pageSmall_holds
end Go.Proofs.Yteokjmjfjdgmpaa
end
