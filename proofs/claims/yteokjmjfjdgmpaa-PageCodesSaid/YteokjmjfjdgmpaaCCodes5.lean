/- Pages are told as 512 bytes, and read again; other bytes are refused: for every page and every string; no condition. -/
import Derived.Test.YteokjmjfjdgmpaaCCodes4
section
namespace Go.Proofs.Yteokjmjfjdgmpaa.PPg
open Go.RowKit Go.Proofs.YteokjmjfjdgmpaaW.PrintWords Go.Proofs.YteokjmjfjdgmpaaW.PrintLast Go.Proofs.YteokjmjfjdgmpaaW.PrintMore
open Go.Gi
set_option linter.unusedVariables false
set_option linter.unusedSimpArgs false
theorem w64 {x : Int} (h : -9223372036854775808 ≤ x ∧ x ≤ 9223372036854775807) : wrap64 x = x := by unfold wrap64; omega
theorem len_sz (s : ByteArray) : s.data.toList.length = s.size := by simp
theorem bs_list (s : ByteArray) : s.toList = s.data.toList := ByteArray.toList_eq s
theorem toList_inj {a b : ByteArray} : a.toList = b.toList ↔ a = b := by
  rw [bs_list, bs_list]
  constructor
  · intro h; rw [← bs_toList a, h, bs_toList]
  · intro h; rw [h]
theorem rNum_ok {L : List UInt8} {a : Nat} {n : Int} (h : 0 ≤ n ∧ n ≤ 8) : rNum L a 0 n = if (L.length : Int) - a < n then (0, a, 4) else (numL ((L.drop a).take n.toNat), a + n.toNat, 0) := by
  unfold rNum; rw [if_neg (by simp), if_neg (by omega)]
theorem rNum_err {L : List UInt8} {a : Nat} {e n : Int} (h : e ≠ 0) : rNum L a e n = (0, a, e) := by unfold rNum; rw [if_pos h]
theorem rTake_err {L : List UInt8} {a : Nat} {e n : Int} (h : e ≠ 0) : rTake L a e n = ([], a, e) := by unfold rTake; rw [if_pos h]
theorem rdNum (s : ByteArray) (a : Nat) (e n : Int) (ha : a ≤ s.size) (hs : s.size ≤ 4000000000000000000) (hn : 0 ≤ n ∧ n ≤ 8) :
    raw_Reader_Number.f s a e n = some (((rNum s.data.toList a e n).1 : Int), s, ((rNum s.data.toList a e n).2.1 : Int), (rNum s.data.toList a e n).2.2) := by
  unfold raw_Reader_Number.f raw_Reader_Err.f
  simp only [Option.bind_some]
  by_cases he : e = 0
  · subst he
    rw [if_pos rfl]
    unfold raw_Get.f
    rw [if_pos ⟨by omega, by omega, by omega⟩]
    simp only [Option.bind_some, Int.toNat_natCast]
    rw [rNum_ok hn, len_sz]
    by_cases hc : (s.size : Int) - a < n
    · rw [if_pos hc]; rfl
    · rw [if_neg hc]
      simp only [if_true]
      rw [w64 (by omega), show ((a : Int) + n) = ((a + n.toNat : Nat) : Int) by omega]
  · rw [if_neg he, rNum_err he]; rfl
theorem rdTake (s : ByteArray) (a : Nat) (e n : Int) (ha : a ≤ s.size) (hs : s.size ≤ 4000000000000000000) (hn : 0 ≤ n ∧ n ≤ 4000000000000000000) :
    raw_Reader_Bytes.f s a e n = some (bs (rTake s.data.toList a e n).1, s, ((rTake s.data.toList a e n).2.1 : Int), (rTake s.data.toList a e n).2.2) := by
  unfold raw_Reader_Bytes.f raw_Reader_Err.f
  simp only [Option.bind_some]
  by_cases he : e = 0
  · subst he
    rw [if_pos rfl, if_neg (by omega)]
    have h1 : wrap64 ((s.size : Int) - a) = s.size - a := w64 (by omega)
    have h2 : wrap64 ((a : Int) + n) = a + n := w64 (by omega)
    have h3 : wrap64 ((a : Int) + n - n) = a := by rw [w64 (by omega)]; omega
    rw [h1, h2, h3]
    by_cases hc : (s.size : Int) - a < n
    · rw [if_pos hc]
      rw [show rTake s.data.toList a 0 n = ([], a, 4) by unfold rTake; rw [if_neg (by simp), if_neg (by omega), len_sz, if_pos hc]]
      rfl
    · rw [if_neg hc, if_pos (by omega), if_pos (by omega), if_pos (by omega)]
      rw [show rTake s.data.toList a 0 n = ((s.data.toList.drop a).take n.toNat, a + n.toNat, 0) by unfold rTake; rw [if_neg (by simp), if_neg (by omega), len_sz, if_neg hc]]
      rw [extract_bs, Int.toNat_natCast, show ((a : Int) + n).toNat - a = n.toNat by omega, show (a : Int) + n = ((a + n.toNat : Nat) : Int) by omega]
  · rw [if_neg he, rTake_err he]; rfl
def fin (s : ByteArray) (p : PgR) (e : Int) : PgR × Int := if e = 0 ∧ pgErr p.kind p.head p.slots = 0 ∧ pgStr p.num p.lsn p.kind p.head p.slots = s then (p, 0) else (pgZ, 6)
def tup (x : PgR × Int) : Int × Int × Int × ByteArray × List ByteArray × Int := (x.1.num, x.1.lsn, x.1.kind, x.1.head, x.1.slots, x.2)
theorem rd_nat (l : List Nat) (i : Nat) (h : i < l.length) : rd (l.map (fun n : Nat => (n : Int))) (i : Int) = (l[i] : Int) := by
  unfold rd
  simp [h]
def Small (l : List ByteArray) : Prop := ∀ s ∈ l, s.size ≤ 140737488351232
theorem enc_f {num lsn kind : Int} {head : ByteArray} {slots : List ByteArray} (h : 0 ≤ num ∧ num ≤ 4294967295 ∧ 0 ≤ lsn ∧ lsn ≤ 18446744073709551615) (hs : Small slots) :
    page_Encode.f num lsn kind head slots = some (pgStr num lsn kind head slots, pgErr kind head slots) := by
  unfold page_Encode.f
  rw [if_pos ⟨h.1, h.2.1, h.2.2.1, h.2.2.2, hs⟩]
theorem dec_l1 (x0 s : ByteArray) (hs : s.size ≤ 1000000) (num lsn kind : Int) (head : ByteArray) (hb : 0 ≤ num ∧ num ≤ 4294967295 ∧ 0 ≤ lsn ∧ lsn ≤ 18446744073709551615) : ∀ (rest done : List Nat) (a : Nat) (e : Int) (acc : List ByteArray),
    (∀ n ∈ rest, n ≤ 65535) → (done ++ rest).length ≤ 255 → acc.length = done.length → Small acc → a ≤ s.size →
    Ev (fun k => page_Decode.l1 k x0 ((done ++ rest).map (fun n : Nat => (n : Int))) ((done ++ rest).length : Int) (done.length : Int) s a e num lsn kind head acc)
      (tup (fin x0 ⟨num, lsn, kind, head, acc ++ (rdTxts s.data.toList rest a e).1⟩ (rdTxts s.data.toList rest a e).2.2))
  | [], done, a, e, acc, hr, hl, hacc, hsm, ha => by
    refine Ev.step (f := fun _ => some (tup (fin x0 ⟨num, lsn, kind, head, acc ++ []⟩ e))) (fun k => ?_) (Ev.now _)
    simp only [page_Decode.l1]
    rw [if_neg (by simp), enc_f hb hsm]
    unfold raw_Reader_Err.f
    simp only [Option.bind_some, List.append_nil]
    unfold fin
    by_cases h1 : e = 0
    · rw [if_pos h1]
      by_cases h2 : pgErr kind head acc = 0
      · rw [if_pos h2]
        by_cases h3 : pgStr num lsn kind head acc = x0
        · rw [if_pos (toList_inj.2 h3), if_pos ⟨h1, h2, h3⟩]; rfl
        · rw [if_neg (fun h => h3 (toList_inj.1 h)), if_neg (fun h => h3 h.2.2)]; rfl
      · rw [if_neg h2, if_neg (fun h => h2 h.2.1)]; rfl
    · rw [if_neg h1, if_neg (fun h => h1 h.1)]; rfl
  | n :: rest, done, a, e, acc, hr, hl, hacc, hsm, ha => by
    have hn := hr n (by simp)
    have hlen : (done ++ n :: rest).length = done.length + (rest.length + 1) := by simp
    have hT := rdTake s a e n ha (by omega) (by omega)
    have hle := rTake_le s.data.toList a e n (by rw [len_sz]; exact ha)
    rw [len_sz] at hle
    have hlen2 := rTake_len s.data.toList a e n
    have ih := dec_l1 x0 s hs num lsn kind head hb rest (done ++ [n]) (rTake s.data.toList a e n).2.1 (rTake s.data.toList a e n).2.2 (acc ++ [bs (rTake s.data.toList a e n).1]) (fun m hm => hr m (by simp [hm])) (by simp at hl ⊢; omega) (by simp [hacc])
      (fun x hx => by
        rcases List.mem_append.1 hx with h | h
        · exact hsm x h
        · rw [List.mem_singleton.1 h, bs_size]; omega) hle
    simp only [List.append_assoc, List.singleton_append] at ih
    simp only [rdTxts]
    refine Ev.step (fun k => ?_) ih
    simp only [page_Decode.l1]
    rw [if_pos (by rw [hlen]; omega), if_pos (by omega), if_pos (by rw [List.length_map, hlen]; omega), rd_nat _ _ (by rw [hlen]; omega)]
    rw [show (done ++ n :: rest)[done.length]'(by rw [hlen]; omega) = n by simp, hT]
    simp only [Option.bind_some]
    rw [if_pos (by omega), w64 (by omega), show ((done.length : Int) + 1) = (((done ++ [n]).length : Nat) : Int) by simp]
theorem dec_l0 (x0 s : ByteArray) (hs : s.size ≤ 1000000) (num lsn kind : Int) (head : ByteArray) (hb : 0 ≤ num ∧ num ≤ 4294967295 ∧ 0 ≤ lsn ∧ lsn ≤ 18446744073709551615) : ∀ (n : Nat) (done : List Nat) (a : Nat) (e : Int),
    (∀ m ∈ done, m ≤ 65535) → done.length + n ≤ 255 → a ≤ s.size →
    Ev (fun k => page_Decode.l0 k x0 (done.map (fun n : Nat => (n : Int))) (n : Int) s a e num lsn kind head)
      (tup (fin x0 ⟨num, lsn, kind, head, (rdTxts s.data.toList (done ++ (rdLens s.data.toList n a e).1) (rdLens s.data.toList n a e).2.1 (rdLens s.data.toList n a e).2.2).1⟩ (rdTxts s.data.toList (done ++ (rdLens s.data.toList n a e).1) (rdLens s.data.toList n a e).2.1 (rdLens s.data.toList n a e).2.2).2.2))
  | 0, done, a, e, hd, hl, ha => by
    have ih := dec_l1 x0 s hs num lsn kind head hb done [] a e [] hd (by simpa using hl) rfl (fun x hx => by simp at hx) ha
    simp only [List.append_nil, List.nil_append] at ih
    simp only [rdLens, List.append_nil]
    refine Ev.step (fun k => ?_) ih
    simp only [page_Decode.l0]
    rw [if_neg (by simp), List.length_map]
    rfl
  | n + 1, done, a, e, hd, hl, ha => by
    have hT := rdNum s a e 2 ha (by omega) (by omega)
    have hle := rNum_le s.data.toList a e 2 (by rw [len_sz]; exact ha)
    rw [len_sz] at hle
    have hv : (rNum s.data.toList a e 2).1 ≤ 65535 := by
      by_cases he : e = 0
      · subst he
        rw [rNum_ok (by omega)]
        split
        · simp
        · have h1 := numL_lt ((s.data.toList.drop a).take (2 : Int).toNat)
          have h2 : 256 ^ ((s.data.toList.drop a).take (2 : Int).toNat).length ≤ 256 ^ 2 := Nat.pow_le_pow_right (by decide) (List.length_take_le _ _)
          simp only
          omega
      · rw [rNum_err he]; simp
    have ih := dec_l0 x0 s hs num lsn kind head hb n (done ++ [(rNum s.data.toList a e 2).1]) (rNum s.data.toList a e 2).2.1 (rNum s.data.toList a e 2).2.2 (fun m hm => by
        rcases List.mem_append.1 hm with h | h
        · exact hd m h
        · rw [List.mem_singleton.1 h]; exact hv) (by simp; omega) hle
    simp only [List.append_assoc, List.singleton_append] at ih
    simp only [rdLens]
    refine Ev.step (fun k => ?_) ih
    simp only [page_Decode.l0]
    rw [if_pos (by omega), hT]
    simp only [Option.bind_some]
    rw [if_pos (by rw [List.length_map]; omega), w64 (by omega), w64 (by omega), show (((n + 1 : Nat) : Int) - 1) = (n : Int) by omega]
    simp only [List.map_append, List.map_cons, List.map_nil]
end Go.Proofs.Yteokjmjfjdgmpaa.PPg
end
section
namespace Go.Proofs.Yteokjmjfjdgmpaa.PPg
open Go.RowKit Go.Proofs.YteokjmjfjdgmpaaW.PrintWords Go.Proofs.YteokjmjfjdgmpaaW.PrintLast Go.Proofs.YteokjmjfjdgmpaaW.PrintMore
open Go.Gi
set_option linter.unusedVariables false
set_option linter.unusedSimpArgs false
theorem rNum_lt' (L : List UInt8) (a : Nat) (e : Int) (n : Nat) : (rNum L a e n).1 < 256 ^ n := by
  have h0 : 0 < 256 ^ n := Nat.pow_pos (by decide)
  unfold rNum
  split
  · exact h0
  split
  · exact h0
  split
  · exact h0
  · simp only [Int.toNat_natCast]
    exact Nat.lt_of_lt_of_le (numL_lt _) (Nat.pow_le_pow_right (by decide) (List.length_take_le _ _))
theorem nlt1 (L : List UInt8) (a : Nat) (e : Int) : (rNum L a e 1).1 < 256 := rNum_lt' L a e 1
theorem nlt4 (L : List UInt8) (a : Nat) (e : Int) : (rNum L a e 4).1 < 4294967296 := rNum_lt' L a e 4
theorem nlt8 (L : List UInt8) (a : Nat) (e : Int) : (rNum L a e 8).1 < 18446744073709551616 := rNum_lt' L a e 8
theorem count_zero (L : List UInt8) : L.count 0 = L.length ↔ L = List.replicate L.length 0 := by
  rw [List.count_eq_length, List.eq_replicate_iff]
  constructor
  · intro h; exact ⟨rfl, fun b hb => (h b hb).symm⟩
  · intro h b hb; exact (h.2 b hb).symm
theorem decP_fin (s : ByteArray) : decP s = if s.size < 512 then (pgZ, 4) else if 512 < s.size then (pgZ, 5)
  else if s.data.toList = List.replicate 512 0 then (pgZ, 0)
  else if (s.data.toList.drop 4).take 8 ≠ s.data.toList.drop 504 then (pgZ, 34)
  else if (numL (s.data.toList.take 4) : Int) ≠ sumL 0 (s.data.toList.drop 4) then (pgZ, 32)
  else fin s (rdPg (s.data.toList.drop 4) 0).1 (rdPg (s.data.toList.drop 4) 0).2.2 := rfl
theorem numAt {L : List UInt8} (h : 4 ≤ L.length) : rNum L 0 0 4 = (numL (L.take 4), 4, 0) := by
  rw [rNum_ok (by omega), if_neg (by omega)]; rfl
set_option maxHeartbeats 800000 in
theorem dec_f (s : ByteArray) (hs : s.size ≤ 9223372036854775807) : Ev (fun k => page_Decode.f k s) (tup (decP s)) := by
  rw [decP_fin]
  by_cases h1 : s.size < 512
  · rw [if_pos h1]
    refine Ev.congr (fun k => ?_) (Ev.now _)
    unfold page_Decode.f
    rw [if_pos (by omega)]; rfl
  rw [if_neg h1]
  by_cases h2 : 512 < s.size
  · rw [if_pos h2]
    refine Ev.congr (fun k => ?_) (Ev.now _)
    unfold page_Decode.f
    rw [if_neg (by omega), if_pos (by omega)]; rfl
  rw [if_neg h2]
  have hz : s.size = 512 := by omega
  have hL := len_sz s
  have hc : strings_Count.f s (⟨#[0]⟩ : ByteArray) = some ((s.data.toList.count 0 : Nat) : Int) := by unfold strings_Count.f; rw [if_pos rfl]; rfl
  by_cases h3 : s.data.toList = List.replicate 512 0
  · rw [if_pos h3]
    refine Ev.congr (fun k => ?_) (Ev.now _)
    unfold page_Decode.f
    rw [if_neg (by omega), if_neg (by omega), hc]
    simp only [Option.bind_some]
    rw [if_pos (by have := (count_zero s.data.toList).2 (by rw [hL, hz]; exact h3); omega)]; rfl
  rw [if_neg h3]
  have hc3 : ¬ ((s.data.toList.count 0 : Nat) : Int) = (s.size : Int) := fun h => h3 (by have := (count_zero s.data.toList).1 (by omega); rw [hL, hz] at this; exact this)
  have e1 : (s.extract 4 12).toList = (s.data.toList.drop 4).take 8 := by rw [bs_list, extract_toList]
  have e2 : (s.extract 504 s.size).toList = s.data.toList.drop 504 := by
    rw [bs_list, extract_toList, List.take_of_length_le]
    rw [List.length_drop]; omega
  by_cases h4 : (s.data.toList.drop 4).take 8 = s.data.toList.drop 504
  · rw [if_neg (by simpa using h4)]
    have e3 : (s.extract 4 s.size).data.toList = s.data.toList.drop 4 := by
      rw [extract_toList, List.take_of_length_le]
      rw [List.length_drop]; omega
    have e4 : (s.extract 4 s.size).size = 508 := by rw [← len_sz, e3, List.length_drop]; omega
    have hg : raw_Get.f s 0 4 = some ((numL (s.data.toList.take 4) : Int), 0) := by
      unfold raw_Get.f
      rw [if_pos ⟨by omega, by omega, by omega⟩, show (0 : Int).toNat = 0 from rfl, numAt (by omega)]
    have hsum : raw_Sum.f (s.extract 4 s.size) = some (sumL 0 (s.data.toList.drop 4)) := by
      unfold raw_Sum.f
      rw [if_pos (by omega), e3]
    have hlt : numL (s.data.toList.take 4) < 4294967296 := by
      have := nlt4 s.data.toList 0 0
      rwa [numAt (by omega)] at this
    by_cases h5 : (numL (s.data.toList.take 4) : Int) = sumL 0 (s.data.toList.drop 4)
    · rw [if_neg (by simpa using h5)]
      obtain ⟨s', hs'⟩ : ∃ s', s' = s.extract 4 s.size := ⟨_, rfl⟩
      have hs1 : s'.data.toList = s.data.toList.drop 4 := by rw [hs', e3]
      have hs2 : s'.size = 508 := by rw [hs', e4]
      obtain ⟨L, hLd⟩ : ∃ L, L = s'.data.toList := ⟨_, rfl⟩
      have hLl : L.length = 508 := by rw [hLd, len_sz, hs2]
      rw [← hs1]
      have q1 : (rNum L 0 0 8).2.1 ≤ 508 := by have := rNum_le L 0 0 8 (by omega); omega
      have q2 : (rNum L (rNum L 0 0 8).2.1 (rNum L 0 0 8).2.2 4).2.1 ≤ 508 := by have := rNum_le L (rNum L 0 0 8).2.1 (rNum L 0 0 8).2.2 4 (by omega); omega
      obtain ⟨v1, p1, x1, g1⟩ : ∃ v p x, rNum L 0 0 8 = (v, p, x) := ⟨_, _, _, rfl⟩
      have b1 := nlt8 L 0 0
      rw [g1] at q1 q2 b1
      obtain ⟨v2, p2, x2, g2⟩ : ∃ v p x, rNum L p1 x1 4 = (v, p, x) := ⟨_, _, _, rfl⟩
      have b2 := nlt4 L p1 x1
      simp only at q1 q2
      rw [g2] at q2 b2
      obtain ⟨v3, p3, x3, g3⟩ : ∃ v p x, rNum L p2 x2 1 = (v, p, x) := ⟨_, _, _, rfl⟩
      have b3 := nlt1 L p2 x2
      have q3 := rNum_le L p2 x2 1 (by simp only at q2; omega)
      rw [g3] at q3 b3
      obtain ⟨v4, p4, x4, g4⟩ : ∃ v p x, rNum L p3 x3 1 = (v, p, x) := ⟨_, _, _, rfl⟩
      have b4 := nlt1 L p3 x3
      have q4 := rNum_le L p3 x3 1 (by simp only at q3; omega)
      rw [g4] at q4 b4
      obtain ⟨v5, p5, x5, g5⟩ : ∃ v p x, rTake L p4 x4 v4 = (v, p, x) := ⟨_, _, _, rfl⟩
      have q5 := rTake_le L p4 x4 v4 (by simp only at q4; omega)
      rw [g5] at q5
      obtain ⟨v6, p6, x6, g6⟩ : ∃ v p x, rNum L p5 x5 1 = (v, p, x) := ⟨_, _, _, rfl⟩
      have b6 := nlt1 L p5 x5
      have q6 := rNum_le L p5 x5 1 (by simp only at q5; omega)
      rw [g6] at q6 b6
      simp only at q2 q3 q4 q5 q6 b1 b2 b3 b4 b6
      have l0 := dec_l0 s s' (by omega) (v2 : Int) (v1 : Int) (v3 : Int) (bs v5) ⟨by omega, by omega, by omega, by omega⟩ v6 [] p6 x6 (fun m hm => by simp at hm) (by simp; omega) (by omega)
      have hrd : rdPg s'.data.toList 0 = (⟨v2, v1, v3, bs v5, (rdTxts s'.data.toList (rdLens s'.data.toList v6 p6 x6).1 (rdLens s'.data.toList v6 p6 x6).2.1 (rdLens s'.data.toList v6 p6 x6).2.2).1⟩, (rdTxts s'.data.toList (rdLens s'.data.toList v6 p6 x6).1 (rdLens s'.data.toList v6 p6 x6).2.1 (rdLens s'.data.toList v6 p6 x6).2.2).2.1, (rdTxts s'.data.toList (rdLens s'.data.toList v6 p6 x6).1 (rdLens s'.data.toList v6 p6 x6).2.1 (rdLens s'.data.toList v6 p6 x6).2.2).2.2) := by
        rw [← hLd]
        unfold rdPg
        simp only [g1, g2, g3, g4, g5, g6]
      rw [hrd]
      refine Ev.congr (fun k => ?_) l0
      unfold page_Decode.f
      rw [if_neg (by omega), if_neg (by omega), hc]
      simp only [Option.bind_some]
      rw [if_neg hc3, if_pos (by omega), if_pos (by omega), if_pos (by rw [e1, e2]; exact h4), hg]
      simp only [Option.bind_some]
      rw [if_pos (by omega), hsum]
      simp only [Option.bind_some]
      rw [if_pos (by rw [← h5]; omega)]
      unfold raw_NewReader.f
      simp only [Option.bind_some]
      rw [← hs']
      have r1 := rdNum s' 0 0 8 (by omega) (by omega) (by omega)
      rw [← hLd, g1] at r1
      have r2 := rdNum s' p1 x1 4 (by omega) (by omega) (by omega)
      rw [← hLd, g2] at r2
      have r3 := rdNum s' p2 x2 1 (by omega) (by omega) (by omega)
      rw [← hLd, g3] at r3
      have r4 := rdNum s' p3 x3 1 (by omega) (by omega) (by omega)
      rw [← hLd, g4] at r4
      have r5 := rdTake s' p4 x4 v4 (by omega) (by omega) (by omega)
      rw [← hLd, g5] at r5
      have r6 := rdNum s' p5 x5 1 (by omega) (by omega) (by omega)
      rw [← hLd, g6] at r6
      have r1' : raw_Reader_Number.f s' 0 0 8 = some ((v1 : Int), s', (p1 : Int), x1) := r1
      rw [r1']
      simp only [Option.bind_some]
      rw [r2]
      simp only [Option.bind_some]
      rw [r3]
      simp only [Option.bind_some]
      rw [r4]
      simp only [Option.bind_some]
      rw [w64 (by omega), r5]
      simp only [Option.bind_some]
      rw [r6]
      simp only [Option.bind_some]
      rw [w64 (by omega), w64 (by omega), show ((v2 : Int) % 4294967296) = v2 by omega]
      rfl
    · rw [if_pos h5]
      refine Ev.congr (fun k => ?_) (Ev.now _)
      unfold page_Decode.f
      rw [if_neg (by omega), if_neg (by omega), hc]
      simp only [Option.bind_some]
      rw [if_neg hc3, if_pos (by omega), if_pos (by omega), if_pos (by rw [e1, e2]; exact h4), hg]
      simp only [Option.bind_some]
      rw [if_pos (by omega), hsum]
      simp only [Option.bind_some]
      rw [if_neg (by intro h; exact h5 (by omega))]; rfl
  · rw [if_pos h4]
    refine Ev.congr (fun k => ?_) (Ev.now _)
    unfold page_Decode.f
    rw [if_neg (by omega), if_neg (by omega), hc]
    simp only [Option.bind_some]
    rw [if_neg hc3, if_pos (by omega), if_pos (by omega), if_neg (by rw [e1, e2]; exact h4)]; rfl
end Go.Proofs.Yteokjmjfjdgmpaa.PPg
end
section
namespace Go.Proofs.Yteokjmjfjdgmpaa.PPg
open Go.RowKit Go.Proofs.YteokjmjfjdgmpaaW.PrintWords Go.Proofs.YteokjmjfjdgmpaaW.PrintLast Go.Proofs.YteokjmjfjdgmpaaW.PrintMore
open Go.Gi
set_option linter.unusedVariables false
set_option linter.unusedSimpArgs false
theorem Ev.sbind {α β : Type} {g : Nat → Option β} {h : Nat → Option α} {F : Nat → α → Option β} {a : α} {r : β} (ha : Ev h a) (e : ∀ k, g (k + 1) = (h k).bind (F k)) (kk : Ev (fun n => F n a) r) : Ev g r := Ev.step e (Ev.bind ha kk)
theorem u64w {x : Int} (h : 0 ≤ x ∧ x ≤ 18446744073709551615) : IntKind.u64.wrap x = x := by rw [wrapu64]; omega
theorem put_f {x n : Int} (h : 0 ≤ x ∧ x ≤ 18446744073709551615) : girderref01_Put.f x n = some (bs (putL (clamp8 n) x.toNat)) := by unfold girderref01_Put.f; rw [if_pos h]
theorem cl1 : clamp8 1 = 1 := rfl
theorem cl2 : clamp8 2 = 2 := rfl
theorem cl4 : clamp8 4 = 4 := rfl
theorem cl8 : clamp8 8 = 8 := rfl
theorem rdOf_at (l : List ByteArray) (i : Nat) (h : i < l.length) : rdOf ByteArray.empty l (i : Int) = l[i] := by
  unfold rdOf
  simp [h]
def roomW : Int → List ByteArray → Int
  | x, [] => x
  | x, s :: l => roomW (wrap64 (x - wrap64 (2 + (s.size : Int)))) l
theorem rroom_l0 (num lsn kind : Int) (head : ByteArray) : ∀ (rest done : List ByteArray) (x : Int), (done ++ rest).length ≤ 4000000000000000000 →
    Ev (fun k => girderref03_Room.l0 k x (done.length : Int) num lsn kind head (done ++ rest)) (roomW x rest)
  | [], done, x, h => by
    refine Ev.step (f := fun _ => some x) (fun k => ?_) (Ev.now _)
    simp only [girderref03_Room.l0]
    rw [if_neg (by simp)]
  | s :: rest, done, x, h => by
    have ih := rroom_l0 num lsn kind head rest (done ++ [s]) (wrap64 (x - wrap64 (2 + (s.size : Int)))) (by simpa using h)
    simp only [List.append_assoc, List.singleton_append] at ih
    have hl : (done ++ s :: rest).length = done.length + (rest.length + 1) := by simp
    refine Ev.step (fun k => ?_) ih
    simp only [girderref03_Room.l0]
    rw [if_pos (by rw [hl]; omega), if_pos (by omega), rdOf_at _ _ (by rw [hl]; omega), w64 (x := (done.length : Int) + 1) (by omega), show ((done.length : Int) + 1) = (((done ++ [s]).length : Nat) : Int) by simp]
    rw [show (done ++ s :: rest)[done.length]'(by rw [hl]; omega) = s by simp]
theorem rroom_f (num lsn kind : Int) (head : ByteArray) (slots : List ByteArray) (h : slots.length ≤ 4000000000000000000) : Ev (fun k => girderref03_Room.f k num lsn kind head slots) (roomW (wrap64 (485 - (head.size : Int))) slots) := by
  have := rroom_l0 num lsn kind head slots [] (wrap64 (485 - (head.size : Int))) (by simpa using h)
  exact this
theorem roomW_small : ∀ (l : List ByteArray) (x : Int), -4000000000000000000 ≤ x - slotsN l → x ≤ 485 → roomW x l = x - slotsN l
  | [], x, _, _ => by simp [roomW, slotsN]
  | s :: l, x, h, h1 => by
    have e : slotsN (s :: l) = 2 + s.size + slotsN l := rfl
    rw [e] at h ⊢
    rw [roomW, w64 (x := 2 + (s.size : Int)) (by omega), w64 (by omega), roomW_small l _ (by omega) (by omega)]
    omega
def encFin (lsn : Int) (T : List UInt8) : List UInt8 := putL 4 (sumL 0 (T ++ List.replicate (500 - T.length) 0 ++ putL 8 lsn.toNat)).toNat ++ (T ++ List.replicate (500 - T.length) 0 ++ putL 8 lsn.toNat)
theorem strOf_zeros (n : Nat) : strOfNums (List.replicate n 0) = bs (List.replicate n 0) := by
  unfold strOfNums bs
  simp
theorem renc_l1 (num lsn kind : Int) (head : ByteArray) (hl : 0 ≤ lsn ∧ lsn ≤ 18446744073709551615) : ∀ (rest done : List ByteArray) (l : List UInt8), (done ++ rest).length ≤ 64 → l.length + (txtsB rest).length ≤ 500 →
    Ev (fun k => girderref03_Encode.l1 k (bs l) (done.length : Int) num lsn kind head (done ++ rest)) (bs (encFin lsn (l ++ txtsB rest)), 0)
  | [], done, l, h, h2 => by
    have e0 : txtsB [] = [] := rfl
    rw [e0, List.length_nil] at h2
    simp only [e0, List.append_nil]
    refine Ev.step (f := fun _ => some (bs (encFin lsn l), 0)) (fun k => ?_) (Ev.now _)
    simp only [girderref03_Encode.l1]
    rw [if_neg (by simp)]
    have hz : wrap64 (500 - ((bs l).size : Int)) = ((500 - l.length : Nat) : Int) := by rw [w64 (by rw [bs_size]; omega), bs_size]; omega
    rw [hz, Int.toNat_natCast, if_pos (by omega), if_pos (by omega)]
    simp only [Option.bind_some]
    rw [put_f hl, cl8]
    simp only [Option.bind_some]
    have e1 : strOfNums (List.replicate (500 - l.length) 0) ++ bs (putL 8 lsn.toNat) = bs (List.replicate (500 - l.length) 0 ++ putL 8 lsn.toNat) := by rw [strOf_zeros, bs_append]
    have e2 : bs l ++ (strOfNums (List.replicate (500 - l.length) 0) ++ bs (putL 8 lsn.toNat)) = bs (l ++ List.replicate (500 - l.length) 0 ++ putL 8 lsn.toNat) := by rw [e1, bs_append, List.append_assoc]
    have hlen : (l ++ List.replicate (500 - l.length) 0 ++ putL 8 lsn.toNat).length = 508 := by simp [putL_length]; omega
    rw [e2, e1]
    have hB : (bs (l ++ List.replicate (500 - l.length) 0 ++ putL 8 lsn.toNat)).size = 508 := by rw [bs_size, hlen]
    have hA : (strOfNums (List.replicate (500 - l.length) 0)).size + (bs (putL 8 lsn.toNat)).size ≤ 9223372036854775807 := by rw [strOf_zeros, bs_size, bs_size]; simp [putL_length]; omega
    have hA2 : (bs l).size + (bs (List.replicate (500 - l.length) 0 ++ putL 8 lsn.toNat)).size ≤ 9223372036854775807 := by rw [bs_size, bs_size]; simp [putL_length]; omega
    rw [if_pos hA, if_pos hA2]
    have hM : girderref01_More.f 0 (bs (l ++ List.replicate (500 - l.length) 0 ++ putL 8 lsn.toNat)) = some (sumL 0 (l ++ List.replicate (500 - l.length) 0 ++ putL 8 lsn.toNat)) := by
      unfold girderref01_More.f
      rw [if_pos ⟨by omega, by omega, by omega⟩, toList_bs]
    rw [hM]
    have hr := sumL_range 0 (l ++ List.replicate (500 - l.length) 0 ++ putL 8 lsn.toNat)
    simp only [Option.bind_some]
    rw [u64w (by omega), put_f (by omega), cl4]
    simp only [Option.bind_some]
    rw [if_pos (by rw [hB, bs_size, putL_length]; omega), bs_append]
    rfl
  | s :: rest, done, l, h, h2 => by
    have e : txtsB (s :: rest) = s.data.toList ++ txtsB rest := by simp [txtsB]
    have hs : s.data.toList.length = s.size := by simp
    rw [e, List.length_append] at h2
    have ih := renc_l1 num lsn kind head hl rest (done ++ [s]) (l ++ s.data.toList) (by simpa using h) (by rw [List.length_append]; omega)
    simp only [List.append_assoc, List.singleton_append] at ih
    rw [e]
    have hl2 : (done ++ s :: rest).length = done.length + (rest.length + 1) := by simp
    refine Ev.step (fun k => ?_) ih
    simp only [girderref03_Encode.l1]
    rw [if_pos (by rw [hl2]; omega), if_pos (by omega), rdOf_at _ _ (by rw [hl2]; omega)]
    rw [show (done ++ s :: rest)[done.length]'(by rw [hl2]; omega) = s by simp]
    rw [if_pos (by rw [bs_size]; omega), w64 (by omega), show ((done.length : Int) + 1) = (((done ++ [s]).length : Nat) : Int) by simp]
    rw [show bs l ++ s = bs (l ++ s.data.toList) by rw [← bs_append, bs_toList]]
theorem renc_l0 (num lsn kind : Int) (head : ByteArray) (hl : 0 ≤ lsn ∧ lsn ≤ 18446744073709551615) : ∀ (rest done : List ByteArray) (l : List UInt8), (done ++ rest).length ≤ 64 → l.length + (lensB rest).length + (txtsB (done ++ rest)).length ≤ 500 → (∀ s ∈ rest, s.size ≤ 500) →
    Ev (fun k => girderref03_Encode.l0 k (bs l) (done.length : Int) num lsn kind head (done ++ rest)) (bs (encFin lsn (l ++ lensB rest ++ txtsB (done ++ rest))), 0)
  | [], done, l, h, h2, h3 => by
    have e0 : lensB [] = [] := rfl
    rw [e0, List.append_nil]
    simp only [List.append_nil] at h h2 ⊢
    rw [e0, List.length_nil] at h2
    have ih := renc_l1 num lsn kind head hl done [] l (by simpa using h) (by omega)
    rw [List.nil_append] at ih
    refine Ev.step (fun k => ?_) ih
    simp only [girderref03_Encode.l0]
    rw [if_neg (by simp)]
    rfl
  | s :: rest, done, l, h, h2, h3 => by
    have e : lensB (s :: rest) = putL 2 s.size ++ lensB rest := by simp [lensB]
    have hs := h3 s (by simp)
    rw [e, List.length_append, putL_length] at h2
    have ih := renc_l0 num lsn kind head hl rest (done ++ [s]) (l ++ putL 2 s.size) (by simpa using h) (by rw [List.append_assoc, List.singleton_append, List.length_append, putL_length]; omega) (fun x hx => h3 x (by simp [hx]))
    simp only [List.append_assoc, List.singleton_append] at ih
    rw [e]
    simp only [List.append_assoc]
    have hl2 : (done ++ s :: rest).length = done.length + (rest.length + 1) := by simp
    refine Ev.step (fun k => ?_) ih
    simp only [girderref03_Encode.l0]
    rw [if_pos (by rw [hl2]; omega), if_pos (by omega), rdOf_at _ _ (by rw [hl2]; omega)]
    rw [show (done ++ s :: rest)[done.length]'(by rw [hl2]; omega) = s by simp]
    rw [u64w (by omega), put_f (by omega), cl2, Int.toNat_natCast]
    simp only [Option.bind_some]
    rw [if_pos (by rw [bs_size, bs_size, putL_length]; omega), w64 (by omega), show ((done.length : Int) + 1) = (((done ++ [s]).length : Nat) : Int) by simp, bs_append]
theorem renc_f (num lsn kind : Int) (head : ByteArray) (slots : List ByteArray) (hb : 0 ≤ num ∧ num ≤ 4294967295 ∧ 0 ≤ lsn ∧ lsn ≤ 18446744073709551615) (hs : Small slots) :
    Ev (fun k => girderref03_Encode.f k num lsn kind head slots) (pgStr num lsn kind head slots, pgErr kind head slots) := by
  have bad : ∀ (h : pgErr kind head slots = 1), Ev (fun k => girderref03_Encode.j0 k true num lsn kind head slots) (pgStr num lsn kind head slots, pgErr kind head slots) := fun h => by
    unfold pgStr
    rw [h]
    refine Ev.step (f := fun _ => some ((⟨#[]⟩ : ByteArray), 1)) (fun k => ?_) (Ev.now _)
    simp only [girderref03_Encode.j0]
    rfl
  by_cases h1 : kind < 0
  · refine Ev.congr (fun k => ?_) (bad (by unfold pgErr; rw [if_pos (.inl h1)]))
    unfold girderref03_Encode.f; rw [if_pos h1]
  by_cases h2 : 255 < kind
  · refine Ev.congr (fun k => ?_) (bad (by unfold pgErr; rw [if_pos (.inr (.inl h2))]))
    unfold girderref03_Encode.f; rw [if_neg h1, if_pos h2]
  by_cases h3 : 32 < head.size
  · refine Ev.congr (fun k => ?_) (bad (by unfold pgErr; rw [if_pos (.inr (.inr (.inl h3)))]))
    unfold girderref03_Encode.f; rw [if_neg h1, if_neg h2, if_pos (by omega)]
  by_cases h4 : 64 < slots.length
  · refine Ev.congr (fun k => ?_) (bad (by unfold pgErr; rw [if_pos (.inr (.inr (.inr h4)))]))
    unfold girderref03_Encode.f; rw [if_neg h1, if_neg h2, if_neg (by omega), decide_eq_true (by omega)]
  have hA : ¬ (kind < 0 ∨ 255 < kind ∨ 32 < head.size ∨ 64 < slots.length) := by omega
  have hsl := slotsN_le64 slots slots.length (by omega) hs
  rw [List.take_length] at hsl
  have hroom := rroom_f num lsn kind head slots (by omega)
  rw [w64 (by omega), roomW_small _ _ (by omega) (by omega)] at hroom
  refine Ev.congr (g := fun k => girderref03_Encode.f k num lsn kind head slots) (f := fun k => girderref03_Encode.j0 k false num lsn kind head slots) (fun k => ?_) ?_
  · unfold girderref03_Encode.f; rw [if_neg h1, if_neg h2, if_neg (by omega), decide_eq_false (by omega)]
  by_cases h5 : 485 < head.size + slotsN slots
  · unfold pgStr
    rw [show pgErr kind head slots = 30 by unfold pgErr; rw [if_neg hA, if_pos h5]]
    apply Ev.sbind hroom
    · intro k
      simp only [girderref03_Encode.j0]
      rw [if_neg (by simp)]
    · refine Ev.congr (fun k => ?_) (Ev.now _)
      rw [if_pos (by omega)]
      rfl
  · have h6 : pgErr kind head slots = 0 := by unfold pgErr; rw [if_neg hA, if_neg h5]
    unfold pgStr
    rw [h6, if_pos rfl]
    have hh : head.data.toList.length = head.size := by simp
    have htop : pgTop num lsn kind head slots = putL 8 lsn.toNat ++ putL 4 num.toNat ++ putL 1 kind.toNat ++ putL 1 head.size ++ head.data.toList ++ putL 1 slots.length ++ lensB slots ++ txtsB slots := rfl
    have hlt := txtsB_len slots
    obtain ⟨T0, hT0⟩ : ∃ T, T = putL 8 lsn.toNat ++ putL 4 num.toNat ++ putL 1 kind.toNat ++ putL 1 head.size ++ head.data.toList ++ putL 1 slots.length := ⟨_, rfl⟩
    have hT0l : T0.length = 15 + head.size := by rw [hT0]; simp only [List.length_append, putL_length, hh]; omega
    have l0 := renc_l0 num lsn kind head ⟨hb.2.2.1, hb.2.2.2⟩ slots [] T0 (by simpa using (show slots.length ≤ 64 by omega)) (by rw [List.nil_append]; omega) (fun s hs => by have := slots_small (head := head) (slots := slots) (by omega) s hs; omega)
    rw [List.nil_append, hT0, ← htop] at l0
    have hfin : encFin lsn (pgTop num lsn kind head slots) = pgAll num lsn kind head slots := rfl
    rw [hfin] at l0
    apply Ev.sbind hroom
    · intro k
      simp only [girderref03_Encode.j0]
      rw [if_neg (by simp)]
    · refine Ev.congr (fun k => ?_) l0
      rw [if_neg (by omega), put_f ⟨by omega, by omega⟩, u64w (x := num) (by omega), put_f ⟨by omega, by omega⟩]
      simp only [Option.bind_some]
      rw [if_pos (by rw [bs_size, bs_size, putL_length, putL_length, cl8, cl4]; omega), u64w (x := kind) (by omega), put_f ⟨by omega, by omega⟩]
      simp only [Option.bind_some, bs_append]
      rw [if_pos (by rw [bs_size, bs_size, List.length_append]; simp only [putL_length, cl8, cl4, cl1]; omega), u64w (x := (head.size : Int)) (by omega), put_f ⟨by omega, by omega⟩]
      simp only [Option.bind_some, bs_append]
      rw [if_pos (by rw [bs_size, bs_size]; simp only [List.length_append, putL_length, cl8, cl4, cl1]; omega), if_pos (by rw [bs_size]; simp only [List.length_append, putL_length, cl8, cl4, cl1]; omega), u64w (x := (slots.length : Int)) (by omega), put_f ⟨by omega, by omega⟩]
      simp only [Option.bind_some]
      have hcat : ∀ l : List UInt8, bs l ++ head = bs (l ++ head.data.toList) := fun l => by rw [← bs_append, bs_toList]
      rw [hcat, bs_append, if_pos (by rw [bs_size, bs_size]; simp only [List.length_append, putL_length, cl8, cl4, cl1, hh]; omega)]
      simp only [cl8, cl4, cl1, Int.toNat_natCast]
      rfl
end Go.Proofs.Yteokjmjfjdgmpaa.PPg
end
section
namespace Go.Proofs.Yteokjmjfjdgmpaa.PPg
open Go.RowKit Go.Proofs.YteokjmjfjdgmpaaW.PrintWords Go.Proofs.YteokjmjfjdgmpaaW.PrintLast Go.Proofs.YteokjmjfjdgmpaaW.PrintMore
open Go.Gi
set_option linter.unusedVariables false
set_option linter.unusedSimpArgs false
theorem rnum_f (s : ByteArray) (a : Nat) (e n : Int) (ha : a ≤ s.size) (hs : s.size ≤ 4000000000000000000) :
    girderref01_Reader_Number.f s a e n = some (s, ((rNum s.data.toList a e n).2.1 : Int), (rNum s.data.toList a e n).2.2, ((rNum s.data.toList a e n).1 : Int)) := by
  unfold girderref01_Reader_Number.f
  rw [if_pos ⟨by omega, by omega, by omega⟩, Int.toNat_natCast]
theorem rtake_f (s : ByteArray) (a : Nat) (e n : Int) (ha : a ≤ s.size) (hs : s.size ≤ 4000000000000000000) :
    girderref01_Reader_Take.f s a e n = some (s, ((rTake s.data.toList a e n).2.1 : Int), (rTake s.data.toList a e n).2.2, bs (rTake s.data.toList a e n).1) := by
  unfold girderref01_Reader_Take.f
  rw [if_pos ⟨by omega, by omega, by omega⟩, Int.toNat_natCast]
theorem rdec_l1 (s : ByteArray) (hs : s.size ≤ 1000000) (num lsn kind : Int) (head : ByteArray) (hb : 0 ≤ num ∧ num ≤ 4294967295 ∧ 0 ≤ lsn ∧ lsn ≤ 18446744073709551615) : ∀ (rest done : List Nat) (a : Nat) (e : Int) (acc : List ByteArray),
    (∀ n ∈ rest, n ≤ 65535) → (done ++ rest).length ≤ 255 → acc.length = done.length → Small acc → a ≤ s.size →
    Ev (fun k => girderref03_Decode.l1 k s ((done ++ rest).map (fun n : Nat => (n : Int))) (done.length : Int) s a e num lsn kind head acc)
      (tup (fin s ⟨num, lsn, kind, head, acc ++ (rdTxts s.data.toList rest a e).1⟩ (rdTxts s.data.toList rest a e).2.2))
  | [], done, a, e, acc, hr, hl, hacc, hsm, ha => by
    apply Ev.sbind (renc_f num lsn kind head acc hb hsm)
    · intro k
      simp only [girderref03_Decode.l1]
      rw [if_neg (by simp)]
    · simp only [rdTxts, List.append_nil]
      refine Ev.congr (fun k => ?_) (Ev.now _)
      unfold fin
      by_cases h1 : e = 0
      · rw [if_pos h1]
        by_cases h2 : pgErr kind head acc = 0
        · rw [if_pos h2]
          by_cases h3 : pgStr num lsn kind head acc = s
          · rw [if_pos (toList_inj.2 h3), if_pos ⟨h1, h2, h3⟩]; rfl
          · rw [if_neg (fun h => h3 (toList_inj.1 h)), if_neg (fun h => h3 h.2.2)]; rfl
        · rw [if_neg h2, if_neg (fun h => h2 h.2.1)]; rfl
      · rw [if_neg h1, if_neg (fun h => h1 h.1)]; rfl
  | n :: rest, done, a, e, acc, hr, hl, hacc, hsm, ha => by
    have hn := hr n (by simp)
    have hlen : (done ++ n :: rest).length = done.length + (rest.length + 1) := by simp
    have hT := rtake_f s a e n ha (by omega)
    have hle := rTake_le s.data.toList a e n (by rw [len_sz]; exact ha)
    rw [len_sz] at hle
    have hlen2 := rTake_len s.data.toList a e n
    have ih := rdec_l1 s hs num lsn kind head hb rest (done ++ [n]) (rTake s.data.toList a e n).2.1 (rTake s.data.toList a e n).2.2 (acc ++ [bs (rTake s.data.toList a e n).1]) (fun m hm => hr m (by simp [hm])) (by simp at hl ⊢; omega) (by simp [hacc])
      (fun x hx => by
        rcases List.mem_append.1 hx with h | h
        · exact hsm x h
        · rw [List.mem_singleton.1 h, bs_size]; omega) hle
    simp only [List.append_assoc, List.singleton_append] at ih
    simp only [rdTxts]
    refine Ev.step (fun k => ?_) ih
    simp only [girderref03_Decode.l1]
    rw [if_pos (by rw [List.length_map, hlen]; omega), if_pos (by omega), rd_nat _ _ (by rw [hlen]; omega)]
    rw [show (done ++ n :: rest)[done.length]'(by rw [hlen]; omega) = n by simp, hT]
    simp only [Option.bind_some]
    rw [if_pos (by omega), w64 (by omega), show ((done.length : Int) + 1) = (((done ++ [n]).length : Nat) : Int) by simp]
theorem nlt2 (L : List UInt8) (a : Nat) (e : Int) : (rNum L a e 2).1 < 65536 := rNum_lt' L a e 2
theorem rdec_l0 (s : ByteArray) (hs : s.size ≤ 1000000) (num lsn kind : Int) (head : ByteArray) (hb : 0 ≤ num ∧ num ≤ 4294967295 ∧ 0 ≤ lsn ∧ lsn ≤ 18446744073709551615) : ∀ (n : Nat) (done : List Nat) (a : Nat) (e : Int),
    (∀ m ∈ done, m ≤ 65535) → done.length + n ≤ 255 → a ≤ s.size →
    Ev (fun k => girderref03_Decode.l0 k s ((done.length + n : Nat) : Int) (done.map (fun n : Nat => (n : Int))) (done.length : Int) s a e num lsn kind head)
      (tup (fin s ⟨num, lsn, kind, head, (rdTxts s.data.toList (done ++ (rdLens s.data.toList n a e).1) (rdLens s.data.toList n a e).2.1 (rdLens s.data.toList n a e).2.2).1⟩ (rdTxts s.data.toList (done ++ (rdLens s.data.toList n a e).1) (rdLens s.data.toList n a e).2.1 (rdLens s.data.toList n a e).2.2).2.2))
  | 0, done, a, e, hd, hl, ha => by
    have ih := rdec_l1 s hs num lsn kind head hb done [] a e [] hd (by simpa using hl) rfl (fun x hx => by simp at hx) ha
    simp only [List.append_nil, List.nil_append] at ih
    simp only [rdLens, List.append_nil]
    refine Ev.step (fun k => ?_) ih
    simp only [girderref03_Decode.l0]
    rw [if_neg (by omega)]
    rfl
  | n + 1, done, a, e, hd, hl, ha => by
    have hT := rnum_f s a e 2 ha (by omega)
    have hle := rNum_le s.data.toList a e 2 (by rw [len_sz]; exact ha)
    rw [len_sz] at hle
    have hv := nlt2 s.data.toList a e
    have ih := rdec_l0 s hs num lsn kind head hb n (done ++ [(rNum s.data.toList a e 2).1]) (rNum s.data.toList a e 2).2.1 (rNum s.data.toList a e 2).2.2 (fun m hm => by
        rcases List.mem_append.1 hm with h | h
        · exact hd m h
        · rw [List.mem_singleton.1 h]; omega) (by simp; omega) hle
    simp only [List.append_assoc, List.singleton_append] at ih
    simp only [rdLens]
    refine Ev.step (fun k => ?_) ih
    simp only [girderref03_Decode.l0]
    rw [if_pos (by omega), hT]
    simp only [Option.bind_some]
    rw [if_pos (by rw [List.length_map]; omega), w64 (by omega), u64w (by omega)]
    simp only [List.map_append, List.map_cons, List.map_nil, List.length_append, List.length_singleton]
    rw [show done.length + 1 + n = done.length + (n + 1) by omega, show ((done.length : Int) + 1) = ((done.length + 1 : Nat) : Int) by omega]
theorem rNum_drop {L : List UInt8} (h : 4 ≤ L.length) (a : Nat) (e n : Int) : rNum L (a + 4) e n = ((rNum (L.drop 4) a e n).1, (rNum (L.drop 4) a e n).2.1 + 4, (rNum (L.drop 4) a e n).2.2) := by
  unfold rNum
  by_cases h1 : e ≠ 0
  · rw [if_pos h1, if_pos h1]
  rw [if_neg h1, if_neg h1]
  by_cases h2 : n < 0 ∨ 8 < n
  · rw [if_pos h2, if_pos h2]
  rw [if_neg h2, if_neg h2, List.length_drop, List.drop_drop]
  by_cases h3 : (L.length : Int) - (a + 4 : Nat) < n
  · rw [if_pos h3, if_pos (by omega)]
  · rw [if_neg h3, if_neg (by omega), Nat.add_comm 4 a, show a + 4 + n.toNat = a + n.toNat + 4 by omega]
theorem rTake_drop {L : List UInt8} (h : 4 ≤ L.length) (a : Nat) (e n : Int) : rTake L (a + 4) e n = ((rTake (L.drop 4) a e n).1, (rTake (L.drop 4) a e n).2.1 + 4, (rTake (L.drop 4) a e n).2.2) := by
  unfold rTake
  by_cases h1 : e ≠ 0
  · rw [if_pos h1, if_pos h1]
  rw [if_neg h1, if_neg h1]
  by_cases h2 : n < 0
  · rw [if_pos h2, if_pos h2]
  rw [if_neg h2, if_neg h2, List.length_drop, List.drop_drop]
  by_cases h3 : (L.length : Int) - (a + 4 : Nat) < n
  · rw [if_pos h3, if_pos (by omega)]
  · rw [if_neg h3, if_neg (by omega), Nat.add_comm 4 a, show a + 4 + n.toNat = a + n.toNat + 4 by omega]
theorem rdLens_drop {L : List UInt8} (h : 4 ≤ L.length) : ∀ (n a : Nat) (e : Int), rdLens L n (a + 4) e = ((rdLens (L.drop 4) n a e).1, (rdLens (L.drop 4) n a e).2.1 + 4, (rdLens (L.drop 4) n a e).2.2)
  | 0, a, e => rfl
  | n + 1, a, e => by
    simp only [rdLens, rNum_drop h, rdLens_drop h n]
theorem rdTxts_drop {L : List UInt8} (h : 4 ≤ L.length) : ∀ (l : List Nat) (a : Nat) (e : Int), rdTxts L l (a + 4) e = ((rdTxts (L.drop 4) l a e).1, (rdTxts (L.drop 4) l a e).2.1 + 4, (rdTxts (L.drop 4) l a e).2.2)
  | [], a, e => rfl
  | n :: l, a, e => by
    simp only [rdTxts, rTake_drop h, rdTxts_drop h l]
theorem rdPg_drop {L : List UInt8} (h : 4 ≤ L.length) : (rdPg L 4).1 = (rdPg (L.drop 4) 0).1 ∧ (rdPg L 4).2.2 = (rdPg (L.drop 4) 0).2.2 := by
  have h0 := rNum_drop h 0 0 8
  rw [Nat.zero_add] at h0
  unfold rdPg
  simp only [h0, rNum_drop h, rTake_drop h, rdLens_drop h, rdTxts_drop h, and_self]
set_option maxHeartbeats 800000 in
theorem rdec_f (s : ByteArray) (hs : s.size ≤ 9223372036854775807) : Ev (fun k => girderref03_Decode.f k s) (tup (decP s)) := by
  rw [decP_fin]
  by_cases h1 : s.size < 512
  · rw [if_pos h1]
    refine Ev.congr (fun k => ?_) (Ev.now _)
    unfold girderref03_Decode.f
    rw [if_pos (by omega)]; rfl
  rw [if_neg h1]
  by_cases h2 : 512 < s.size
  · rw [if_pos h2]
    refine Ev.congr (fun k => ?_) (Ev.now _)
    unfold girderref03_Decode.f
    rw [if_neg (by omega), if_pos (by omega)]; rfl
  rw [if_neg h2]
  have hz : s.size = 512 := by omega
  have hL := len_sz s
  have hzz : (strOfNums (List.replicate 512 0)).toList = List.replicate 512 0 := by rw [strOf_zeros, bs_list, toList_bs]
  by_cases h3 : s.data.toList = List.replicate 512 0
  · rw [if_pos h3]
    refine Ev.congr (fun k => ?_) (Ev.now _)
    unfold girderref03_Decode.f
    rw [if_neg (by omega), if_neg (by omega), if_pos (by rw [hzz, bs_list]; exact h3)]; rfl
  rw [if_neg h3]
  have hc3 : ¬ s.toList = (strOfNums (List.replicate 512 0)).toList := by rw [hzz, bs_list]; exact h3
  have e1 : (s.extract 4 12).toList = (s.data.toList.drop 4).take 8 := by rw [bs_list, extract_toList]
  have e2 : (s.extract 504 s.size).toList = s.data.toList.drop 504 := by
    rw [bs_list, extract_toList, List.take_of_length_le]
    rw [List.length_drop]; omega
  by_cases h4 : (s.data.toList.drop 4).take 8 = s.data.toList.drop 504
  · rw [if_neg (by simpa using h4)]
    have e3 : (s.extract 4 s.size).data.toList = s.data.toList.drop 4 := by
      rw [extract_toList, List.take_of_length_le]
      rw [List.length_drop]; omega
    have e4 : (s.extract 4 s.size).size = 508 := by rw [← len_sz, e3, List.length_drop]; omega
    have e5 : (s.extract 0 4).data.toList = s.data.toList.take 4 := by rw [extract_toList]; rfl
    have e6 : (s.extract 0 4).size = 4 := by rw [← len_sz, e5, List.length_take]; omega
    have hlt : numL (s.data.toList.take 4) < 4294967296 := by
      have := nlt4 s.data.toList 0 0
      rwa [numAt (by omega)] at this
    have hg : girderref01_Number.f (s.extract 0 4) = some (numL (s.data.toList.take 4) : Int) := by
      unfold girderref01_Number.f
      rw [if_pos (by omega), e5, Nat.mod_eq_of_lt (by omega)]
    have hsum : girderref01_More.f 0 (s.extract 4 s.size) = some (sumL 0 (s.data.toList.drop 4)) := by
      unfold girderref01_More.f
      rw [if_pos ⟨by omega, by omega, by omega⟩, e3]
    have hsr := sumL_range 0 (s.data.toList.drop 4)
    by_cases h5 : (numL (s.data.toList.take 4) : Int) = sumL 0 (s.data.toList.drop 4)
    · rw [if_neg (by simpa using h5)]
      obtain ⟨L, hLd⟩ : ∃ L, L = s.data.toList := ⟨_, rfl⟩
      have hLl : L.length = 512 := by rw [hLd, len_sz, hz]
      obtain ⟨hp1, hp2⟩ := rdPg_drop (L := L) (by omega)
      rw [← hLd, ← hp1, ← hp2]
      have q1 : (rNum L 4 0 8).2.1 ≤ 512 := by have := rNum_le L 4 0 8 (by omega); omega
      obtain ⟨v1, p1, x1, g1⟩ : ∃ v p x, rNum L 4 0 8 = (v, p, x) := ⟨_, _, _, rfl⟩
      have b1 := nlt8 L 4 0
      rw [g1] at q1 b1
      simp only at q1 b1
      obtain ⟨v2, p2, x2, g2⟩ : ∃ v p x, rNum L p1 x1 4 = (v, p, x) := ⟨_, _, _, rfl⟩
      have b2 := nlt4 L p1 x1
      have q2 := rNum_le L p1 x1 4 (by omega)
      rw [g2] at q2 b2
      simp only at q2 b2
      obtain ⟨v3, p3, x3, g3⟩ : ∃ v p x, rNum L p2 x2 1 = (v, p, x) := ⟨_, _, _, rfl⟩
      have b3 := nlt1 L p2 x2
      have q3 := rNum_le L p2 x2 1 (by omega)
      rw [g3] at q3 b3
      simp only at q3 b3
      obtain ⟨v4, p4, x4, g4⟩ : ∃ v p x, rNum L p3 x3 1 = (v, p, x) := ⟨_, _, _, rfl⟩
      have b4 := nlt1 L p3 x3
      have q4 := rNum_le L p3 x3 1 (by omega)
      rw [g4] at q4 b4
      simp only at q4 b4
      obtain ⟨v5, p5, x5, g5⟩ : ∃ v p x, rTake L p4 x4 v4 = (v, p, x) := ⟨_, _, _, rfl⟩
      have q5 := rTake_le L p4 x4 v4 (by omega)
      rw [g5] at q5
      simp only at q5
      obtain ⟨v6, p6, x6, g6⟩ : ∃ v p x, rNum L p5 x5 1 = (v, p, x) := ⟨_, _, _, rfl⟩
      have b6 := nlt1 L p5 x5
      have q6 := rNum_le L p5 x5 1 (by omega)
      rw [g6] at q6 b6
      simp only at q6 b6
      have l0 := rdec_l0 s (by omega) (v2 : Int) (v1 : Int) (v3 : Int) (bs v5) ⟨by omega, by omega, by omega, by omega⟩ v6 [] p6 x6 (fun m hm => by simp at hm) (by simp; omega) (by omega)
      rw [← hLd] at l0
      simp only [List.nil_append, List.length_nil, Nat.zero_add, List.map_nil] at l0
      have hrd : rdPg L 4 = (⟨v2, v1, v3, bs v5, (rdTxts L (rdLens L v6 p6 x6).1 (rdLens L v6 p6 x6).2.1 (rdLens L v6 p6 x6).2.2).1⟩, (rdTxts L (rdLens L v6 p6 x6).1 (rdLens L v6 p6 x6).2.1 (rdLens L v6 p6 x6).2.2).2.1, (rdTxts L (rdLens L v6 p6 x6).1 (rdLens L v6 p6 x6).2.1 (rdLens L v6 p6 x6).2.2).2.2) := by
        unfold rdPg
        simp only [g1, g2, g3, g4, g5, g6]
      rw [hrd]
      refine Ev.congr (fun k => ?_) l0
      unfold girderref03_Decode.f
      rw [if_neg (by omega), if_neg (by omega), if_neg hc3, if_pos (by omega), if_pos (by omega), if_pos (by rw [e1, e2]; exact h4), if_pos (by omega), hg]
      simp only [Option.bind_some]
      rw [hsum]
      simp only [Option.bind_some]
      rw [u64w (by omega), if_pos h5]
      have r1 := rnum_f s 4 0 8 (by omega) (by omega)
      rw [← hLd, g1] at r1
      have r2 := rnum_f s p1 x1 4 (by omega) (by omega)
      rw [← hLd, g2] at r2
      have r3 := rnum_f s p2 x2 1 (by omega) (by omega)
      rw [← hLd, g3] at r3
      have r4 := rnum_f s p3 x3 1 (by omega) (by omega)
      rw [← hLd, g4] at r4
      have r5 := rtake_f s p4 x4 v4 (by omega) (by omega)
      rw [← hLd, g5] at r5
      have r6 := rnum_f s p5 x5 1 (by omega) (by omega)
      rw [← hLd, g6] at r6
      have r1' : girderref01_Reader_Number.f s 4 0 8 = some (s, (p1 : Int), x1, (v1 : Int)) := r1
      rw [r1']
      simp only [Option.bind_some]
      rw [r2]
      simp only [Option.bind_some]
      rw [r3]
      simp only [Option.bind_some]
      rw [r4]
      simp only [Option.bind_some]
      rw [w64 (by omega), r5]
      simp only [Option.bind_some]
      rw [r6]
      simp only [Option.bind_some]
      rw [w64 (by omega), show ((v2 : Int) % 4294967296) = v2 by omega]
      rfl
    · rw [if_pos h5]
      refine Ev.congr (fun k => ?_) (Ev.now _)
      unfold girderref03_Decode.f
      rw [if_neg (by omega), if_neg (by omega), if_neg hc3, if_pos (by omega), if_pos (by omega), if_pos (by rw [e1, e2]; exact h4), if_pos (by omega), hg]
      simp only [Option.bind_some]
      rw [hsum]
      simp only [Option.bind_some]
      rw [u64w (by omega), if_neg h5]; rfl
  · rw [if_pos h4]
    refine Ev.congr (fun k => ?_) (Ev.now _)
    unfold girderref03_Decode.f
    rw [if_neg (by omega), if_neg (by omega), if_neg hc3, if_pos (by omega), if_pos (by omega), if_neg (by rw [e1, e2]; exact h4)]; rfl
end Go.Proofs.Yteokjmjfjdgmpaa.PPg
end
section
namespace Go.Proofs.Yteokjmjfjdgmpaa.PPg
open Go.RowKit Go.Proofs.YteokjmjfjdgmpaaW.PrintWords Go.Proofs.YteokjmjfjdgmpaaW.PrintLast Go.Proofs.YteokjmjfjdgmpaaW.PrintMore
open Go.Gi
set_option linter.unusedVariables false
set_option linter.unusedSimpArgs false
theorem eq_l0 : ∀ (r0 r1 d0 d1 : List ByteArray), d0.length = d1.length → r0.length = r1.length → (d0 ++ r0).length ≤ 4000000000000000000 →
    Ev (fun k => slices_Equal_string_string.l0 k (d0 ++ r0) (d1 ++ r1) ((d0 ++ r0).length : Int) (d0.length : Int)) (decide (r0 = r1))
  | [], [], d0, d1, hd, hr, hl => by
    refine Ev.step (f := fun _ => some true) (fun k => ?_) (Ev.now _)
    simp only [slices_Equal_string_string.l0]
    rw [if_neg (by simp)]
  | s :: r0, t :: r1, d0, d1, hd, hr, hl => by
    have h0 : (d0 ++ s :: r0).length = d0.length + (r0.length + 1) := by simp
    have h1 : (d1 ++ t :: r1).length = d1.length + (r1.length + 1) := by simp
    have hrr : r0.length = r1.length := by simpa using hr
    by_cases e : s = t
    · have ih := eq_l0 r0 r1 (d0 ++ [s]) (d1 ++ [t]) (by simp [hd]) hrr (by simpa using hl)
      simp only [List.append_assoc, List.singleton_append] at ih
      rw [show decide (s :: r0 = t :: r1) = decide (r0 = r1) by simp [e]]
      refine Ev.step (fun k => ?_) ih
      simp only [slices_Equal_string_string.l0]
      rw [if_pos (by omega), if_pos (by omega), if_pos (by omega), if_pos (by omega), rdOf_at _ _ (by omega)]
      rw [show rdOf ByteArray.empty (d1 ++ t :: r1) (d0.length : Int) = t by rw [hd, rdOf_at _ _ (by omega)]; simp]
      rw [show (d0 ++ s :: r0)[d0.length]'(by omega) = s by simp, if_pos (by rw [e]), w64 (by omega), show ((d0.length : Int) + 1) = (((d0 ++ [s]).length : Nat) : Int) by simp]
    · rw [show decide (s :: r0 = t :: r1) = false by simp [e]]
      refine Ev.step (f := fun _ => some false) (fun k => ?_) (Ev.now _)
      simp only [slices_Equal_string_string.l0]
      rw [if_pos (by omega), if_pos (by omega), if_pos (by omega), if_pos (by omega), rdOf_at _ _ (by omega)]
      rw [show rdOf ByteArray.empty (d1 ++ t :: r1) (d0.length : Int) = t by rw [hd, rdOf_at _ _ (by omega)]; simp]
      rw [show (d0 ++ s :: r0)[d0.length]'(by omega) = s by simp, if_neg (fun h => e (toList_inj.1 h))]
  | [], _ :: _, _, _, _, hr, _ => by simp at hr
  | _ :: _, [], _, _, _, hr, _ => by simp at hr
theorem eq_f (a b : List ByteArray) (h : a.length ≤ 4000000000000000000) : Ev (fun k => slices_Equal_string_string.f k a b) (decide (a = b)) := by
  by_cases e : a.length = b.length
  · refine Ev.congr (fun k => ?_) (eq_l0 a b [] [] rfl e (by simpa using h))
    unfold slices_Equal_string_string.f
    rw [if_pos (by omega)]
    rfl
  · rw [decide_eq_false (fun h => e (by rw [h]))]
    refine Ev.congr (fun k => ?_) (Ev.now _)
    unfold slices_Equal_string_string.f
    rw [if_neg (by omega)]
def sameB (n k : Int) (h : ByteArray) (s : List ByteArray) (n' k' : Int) (h' : ByteArray) (s' : List ByteArray) : Bool := decide (n = n') && (decide (k = k') && (decide (h = h') && decide (s = s')))
theorem sameB_self (n k : Int) (h : ByteArray) (s : List ByteArray) : sameB n k h s n k h s = true := by simp [sameB]
theorem same_f (n l k : Int) (h : ByteArray) (s : List ByteArray) (n' l' k' : Int) (h' : ByteArray) (s' : List ByteArray) (hl : s.length ≤ 4000000000000000000) : Ev (fun m => page_Same.f m n l k h s n' l' k' h' s') (sameB n k h s n' k' h' s') := by
  unfold sameB
  by_cases h1 : n = n'
  · by_cases h2 : k = k'
    · by_cases h3 : h = h'
      · rw [decide_eq_true h1, decide_eq_true h2, decide_eq_true h3]
        simp only [Bool.true_and]
        refine Ev.congr (fun m => ?_) (Ev.bind (f := fun _ t => some t) (eq_f s s' hl) (Ev.now _))
        unfold page_Same.f
        rw [if_pos h1, if_pos h2, if_pos (by rw [h3])]
      · rw [decide_eq_true h1, decide_eq_true h2, decide_eq_false h3]
        refine Ev.congr (fun m => ?_) (Ev.now _)
        unfold page_Same.f
        rw [if_pos h1, if_pos h2, if_neg (fun e => h3 (toList_inj.1 e))]
        rfl
    · rw [decide_eq_true h1, decide_eq_false h2]
      refine Ev.congr (fun m => ?_) (Ev.now _)
      unfold page_Same.f
      rw [if_pos h1, if_neg h2]
      rfl
  · rw [decide_eq_false h1]
    refine Ev.congr (fun m => ?_) (Ev.now _)
    unfold page_Same.f
    rw [if_neg h1]
    rfl
theorem rsame_l0 (n l k : Int) (h : ByteArray) (n' l' k' : Int) (h' : ByteArray) : ∀ (r0 r1 d0 d1 : List ByteArray), d0.length = d1.length → r0.length = r1.length → (d0 ++ r0).length ≤ 4000000000000000000 →
    Ev (fun m => girderref03_Same.l0 m (d0.length : Int) n l k h (d0 ++ r0) n' l' k' h' (d1 ++ r1)) (decide (r0 = r1))
  | [], [], d0, d1, hd, hr, hl => by
    refine Ev.step (f := fun _ => some true) (fun k => ?_) (Ev.now _)
    simp only [girderref03_Same.l0]
    rw [if_neg (by simp)]
  | s :: r0, t :: r1, d0, d1, hd, hr, hl => by
    have h0 : (d0 ++ s :: r0).length = d0.length + (r0.length + 1) := by simp
    have h1 : (d1 ++ t :: r1).length = d1.length + (r1.length + 1) := by simp
    have hrr : r0.length = r1.length := by simpa using hr
    by_cases e : s = t
    · have ih := rsame_l0 n l k h n' l' k' h' r0 r1 (d0 ++ [s]) (d1 ++ [t]) (by simp [hd]) hrr (by simpa using hl)
      simp only [List.append_assoc, List.singleton_append] at ih
      rw [show decide (s :: r0 = t :: r1) = decide (r0 = r1) by simp [e]]
      refine Ev.step (fun k => ?_) ih
      simp only [girderref03_Same.l0]
      rw [if_pos (by omega), if_pos (by omega), if_pos (by omega), rdOf_at _ _ (by omega)]
      rw [show rdOf ByteArray.empty (d1 ++ t :: r1) (d0.length : Int) = t by rw [hd, rdOf_at _ _ (by omega)]; simp]
      rw [show (d0 ++ s :: r0)[d0.length]'(by omega) = s by simp, if_pos (by rw [e]), w64 (by omega), show ((d0.length : Int) + 1) = (((d0 ++ [s]).length : Nat) : Int) by simp]
    · rw [show decide (s :: r0 = t :: r1) = false by simp [e]]
      refine Ev.step (f := fun _ => some false) (fun k => ?_) (Ev.now _)
      simp only [girderref03_Same.l0]
      rw [if_pos (by omega), if_pos (by omega), if_pos (by omega), rdOf_at _ _ (by omega)]
      rw [show rdOf ByteArray.empty (d1 ++ t :: r1) (d0.length : Int) = t by rw [hd, rdOf_at _ _ (by omega)]; simp]
      rw [show (d0 ++ s :: r0)[d0.length]'(by omega) = s by simp, if_neg (fun h => e (toList_inj.1 h))]
  | [], _ :: _, _, _, _, hr, _ => by simp at hr
  | _ :: _, [], _, _, _, hr, _ => by simp at hr
theorem rsame_f (n l k : Int) (h : ByteArray) (s : List ByteArray) (n' l' k' : Int) (h' : ByteArray) (s' : List ByteArray) (hl : s.length ≤ 4000000000000000000) : Ev (fun m => girderref03_Same.f m n l k h s n' l' k' h' s') (sameB n k h s n' k' h' s') := by
  have bad : Ev (fun m => girderref03_Same.j0 m true n l k h s n' l' k' h' s') false := Ev.step (f := fun _ => some false) (fun m => by simp only [girderref03_Same.j0]; rfl) (Ev.now _)
  unfold sameB
  by_cases h1 : n = n'
  · by_cases h2 : k = k'
    · by_cases h3 : h = h'
      · rw [decide_eq_true h1, decide_eq_true h2, decide_eq_true h3]
        simp only [Bool.true_and]
        by_cases h4 : s.length = s'.length
        · have l0 := rsame_l0 n l k h n' l' k' h' s s' [] [] rfl h4 (by simpa using hl)
          have j0 : Ev (fun m => girderref03_Same.j0 m false n l k h s n' l' k' h' s') (decide (s = s')) := Ev.step (fun m => by simp only [girderref03_Same.j0]; rw [if_neg (by simp)]; rfl) l0
          refine Ev.congr (fun m => ?_) j0
          unfold girderref03_Same.f
          rw [if_pos h1, if_pos h2, if_pos (by rw [h3]), show ((s.length : Int) != (s'.length : Int)) = false by simp [h4]]
        · rw [decide_eq_false (fun e => h4 (by rw [e]))]
          refine Ev.congr (fun m => ?_) bad
          unfold girderref03_Same.f
          rw [if_pos h1, if_pos h2, if_pos (by rw [h3]), show ((s.length : Int) != (s'.length : Int)) = true by simp; omega]
      · rw [decide_eq_true h1, decide_eq_true h2, decide_eq_false h3]
        refine Ev.congr (fun m => ?_) bad
        unfold girderref03_Same.f
        rw [if_pos h1, if_pos h2, if_neg (fun e => h3 (toList_inj.1 e))]
    · rw [decide_eq_true h1, decide_eq_false h2]
      refine Ev.congr (fun m => ?_) bad
      unfold girderref03_Same.f
      rw [if_pos h1, if_neg h2]
  · rw [decide_eq_false h1]
    refine Ev.congr (fun m => ?_) bad
    unfold girderref03_Same.f
    rw [if_neg h1]
theorem pgAll_size {num lsn kind : Int} {head : ByteArray} {slots : List ByteArray} (h : pgErr kind head slots = 0) : (bs (pgAll num lsn kind head slots)).size = 512 := by
  rw [bs_size, pgAll_len (pgErr_zero.1 h).2.2.2.2]
theorem pgStr_pos {num lsn kind : Int} {head : ByteArray} {slots : List ByteArray} (h : pgErr kind head slots = 0) : pgStr num lsn kind head slots = bs (pgAll num lsn kind head slots) := by unfold pgStr; rw [if_pos h]
theorem awake_eq (X : ByteArray) (hE : page_Encode.f 3 0 2 (⟨#[]⟩ : ByteArray) [⟨#[97]⟩] = some (X, 0)) (k : Nat) : girderlaw03_awake.f k = (page_Decode.f k X).bind fun bt => if (0 : Int) = 0 then (if bt.2.2.2.2.2 = 0 then ((page_Same.f k 3 0 2 (⟨#[]⟩ : ByteArray) [⟨#[97]⟩] bt.1 bt.2.1 bt.2.2.1 bt.2.2.2.1 bt.2.2.2.2.1).bind fun t => (if t = true then (some ((X.size : Int) == 512)) else (some false))) else (some false)) else (some false) := by
  unfold girderlaw03_awake.f
  rewrite [Option.bind_some, hE, Option.bind_some]
  exact rfl
theorem awake_end (X : ByteArray) (hsz : X.size = 512) : Ev (fun k => ((page_Same.f k 3 0 2 (⟨#[]⟩ : ByteArray) [⟨#[97]⟩] 3 0 2 (⟨#[]⟩ : ByteArray) [⟨#[97]⟩]).bind fun t => (if t = true then (some ((X.size : Int) == 512)) else (some false)))) true := by
  have hS := same_f 3 0 2 (⟨#[]⟩ : ByteArray) [⟨#[97]⟩] 3 0 2 (⟨#[]⟩ : ByteArray) [⟨#[97]⟩] (by simp)
  rw [sameB_self] at hS
  refine Ev.bind hS ?_
  simp only [if_true, hsz]
  exact Ev.now _
theorem awake_X (X : ByteArray) (hsz : X.size = 512) (hE : page_Encode.f 3 0 2 (⟨#[]⟩ : ByteArray) [⟨#[97]⟩] = some (X, 0)) (hD : Ev (fun k => page_Decode.f k X) (tup (⟨3, 0, 2, ⟨#[]⟩, [⟨#[97]⟩]⟩, 0))) : Ev (fun k => girderlaw03_awake.f k) true := by
  refine Ev.congr (fun k => awake_eq X hE k) (Ev.bind hD ?_)
  exact awake_end X hsz
theorem awake_f : Ev (fun k => girderlaw03_awake.f k) true := by
  have he : pgErr 2 (⟨#[]⟩ : ByteArray) [⟨#[97]⟩] = 0 := by decide
  have hsm : Small [⟨#[97]⟩] := fun s hs => by rw [List.mem_singleton.1 hs]; decide
  have hE := enc_f (num := 3) (lsn := 0) (kind := 2) (head := ⟨#[]⟩) (slots := [⟨#[97]⟩]) (by omega) hsm
  rw [he, pgStr_pos he] at hE
  have hsz := pgAll_size (num := 3) (lsn := 0) he
  have hD := dec_f (bs (pgAll 3 0 2 (⟨#[]⟩ : ByteArray) [⟨#[97]⟩])) (by omega)
  rw [dec_enc he (by omega) (by omega) (by omega) (by omega)] at hD
  exact awake_X _ hsz hE hD
theorem ref_f (n l k : Int) (h : ByteArray) (s : List ByteArray) : girderlaw03_ref.f n l k h s = some (n, l, k, h, s) := rfl
theorem lsame_f (n l k : Int) (h : ByteArray) (s : List ByteArray) (n' l' k' : Int) (h' : ByteArray) (s' : List ByteArray) (hl : s.length ≤ 4000000000000000000) : Ev (fun m => girderlaw03_same.f m n l k h s n' l' k' h' s') (decide (l = l') && sameB n k h s n' k' h' s') := by
  by_cases e : l = l'
  · rw [decide_eq_true e, Bool.true_and]
    refine Ev.congr (fun m => ?_) (Ev.bind (f := fun _ t => some t) (rsame_f n l k h s n' l' k' h' s' hl) (Ev.now _))
    unfold girderlaw03_same.f
    rw [if_pos e, ref_f]
    rfl
  · rw [decide_eq_false e, Bool.false_and]
    refine Ev.congr (fun m => ?_) (Ev.now _)
    unfold girderlaw03_same.f
    rw [if_neg e]
theorem proom_l0 : ∀ (rest done : List ByteArray) (x : Int), (done ++ rest).length ≤ 4000000000000000000 →
    Ev (fun k => page_Room.l0 k x (done ++ rest) ((done ++ rest).length : Int) (done.length : Int)) (roomW x rest)
  | [], done, x, h => by
    refine Ev.step (f := fun _ => some x) (fun k => ?_) (Ev.now _)
    simp only [page_Room.l0]
    rw [if_neg (by simp)]
  | s :: rest, done, x, h => by
    have ih := proom_l0 rest (done ++ [s]) (wrap64 (x - wrap64 (2 + (s.size : Int)))) (by simpa using h)
    simp only [List.append_assoc, List.singleton_append] at ih
    have hl : (done ++ s :: rest).length = done.length + (rest.length + 1) := by simp
    refine Ev.step (fun k => ?_) ih
    simp only [page_Room.l0]
    rw [if_pos (by rw [hl]; omega), if_pos (by omega), if_pos (by rw [hl]; omega), rdOf_at _ _ (by rw [hl]; omega), w64 (x := (done.length : Int) + 1) (by omega), show ((done.length : Int) + 1) = (((done ++ [s]).length : Nat) : Int) by simp]
    rw [show (done ++ s :: rest)[done.length]'(by rw [hl]; omega) = s by simp]
theorem proom_f (num lsn kind : Int) (head : ByteArray) (slots : List ByteArray) (h : slots.length ≤ 4000000000000000000) : Ev (fun k => page_Room.f k num lsn kind head slots) (roomW (wrap64 (485 - (head.size : Int))) slots) := proom_l0 slots [] (wrap64 (485 - (head.size : Int))) (by simpa using h)
theorem decP_len (s : ByteArray) : (decP s).1.slots.length ≤ 64 := by
  have h0 : pgZ.slots.length ≤ 64 := by simp [pgZ]
  rw [decP_fin]
  split
  · exact h0
  split
  · exact h0
  split
  · exact h0
  split
  · exact h0
  split
  · exact h0
  unfold fin
  split
  · rename_i h; exact (pgErr_zero.1 h.2.1).2.2.2.1
  · exact h0
theorem pageCodes_pure (n0 l0 k0 : Int) (h0 : ByteArray) (s0 : List ByteArray) (s : ByteArray) (b0 : 0 ≤ n0 ∧ n0 ≤ 4294967295 ∧ 0 ≤ l0 ∧ l0 ≤ 18446744073709551615) (hs0 : Small s0) (hl0 : s0.length ≤ 4000000000000000000) (hs : s.size ≤ 9223372036854775807) : ∃ k, girderlaw03_PageCodes.f k n0 l0 k0 h0 s0 s = some true := by
  apply Ev.rounds
  unfold girderlaw03_PageCodes.f
  simp only [enc_f b0 hs0, Option.bind_some, ref_f]
  refine Ev.bind (renc_f n0 l0 k0 h0 s0 b0 hs0) ?_
  refine Ev.bind (dec_f s hs) ?_
  refine Ev.bind (rdec_f s hs) ?_
  refine Ev.bind awake_f ?_
  simp only [if_true]
  refine Ev.bind (proom_f n0 l0 k0 h0 s0 hl0) ?_
  refine Ev.bind (rroom_f n0 l0 k0 h0 s0 hl0) ?_
  simp only [if_true]
  obtain ⟨d, hd⟩ : ∃ d, d = decP s := ⟨_, rfl⟩
  have hdl := decP_len s
  rw [← hd] at hdl ⊢
  have hS := lsame_f d.1.num d.1.lsn d.1.kind d.1.head d.1.slots d.1.num d.1.lsn d.1.kind d.1.head d.1.slots (by omega)
  rw [sameB_self] at hS
  simp only [decide_true, Bool.and_self] at hS
  refine Ev.bind hS ?_
  simp only [if_true, bne_self_eq_false]
  by_cases e0 : pgErr k0 h0 s0 = 0
  · have hD := dec_f (bs (pgAll n0 l0 k0 h0 s0)) (by rw [pgAll_size e0]; omega)
    rw [dec_enc e0 b0.1 b0.2.1 b0.2.2.1 b0.2.2.2] at hD
    have h2 := same_f n0 l0 k0 h0 s0 n0 l0 k0 h0 s0 hl0
    rw [sameB_self] at h2
    rw [pgStr_pos e0, e0]
    have e1 : ∀ k, girderlaw03_PageCodes.j0 (k + 1) (bs (pgAll n0 l0 k0 h0 s0)) 0 false n0 l0 k0 h0 s0 = (page_Decode.f k (bs (pgAll n0 l0 k0 h0 s0))).bind fun bt => if bt.2.2.2.2.2 = 0 then ((page_Same.f k bt.1 bt.2.1 bt.2.2.1 bt.2.2.2.1 bt.2.2.2.2.1 n0 l0 k0 h0 s0).bind fun t => if t = true then some (bt.2.1 == l0) else some false) else some false := fun k => by
      simp only [girderlaw03_PageCodes.j0]
      rw [if_neg (by simp), if_pos trivial]
    refine Ev.step e1 (Ev.bind hD ?_)
    simp only [tup, if_true]
    refine Ev.bind h2 ?_
    simp only [if_true]
    refine Ev.congr (fun k => ?_) (Ev.now _)
    simp
  · refine Ev.step (f := fun _ => some true) (fun k => ?_) (Ev.now _)
    simp only [girderlaw03_PageCodes.j0]
    rw [if_neg (by simp), if_neg e0]
end Go.Proofs.Yteokjmjfjdgmpaa.PPg
end
section
namespace Go.Proofs.Yteokjmjfjdgmpaa.pageCodesRow
open Go.ChangeShapes Go.WideShapes Go.ChangeAt Go.RowKit Go.GiRow
open Go.ChangeMaps (open_string shut_string)
theorem own : ownKnob Try.prog.godebug = none := by kernel_rfl
theorem laid : laidOutB Try.prog = true := by kernel_rfl
set_option maxRecDepth 100000 in
set_option maxHeartbeats 6400000 in
theorem lifted (os : Os) (started : os.Started) (H : Type) (enc : TypeId × Value → H) :
    ReturnsInHanded {} Try.checked os 3 .any (Rows.pageCodesSpec.pre6 enc Try.prog Try.f3 Rows.pageCodesRow.domain false) (Rows.pageCodesSpec.post enc Try.prog Try.f3 false true false false) := by
  refine returnsInHanded_of_change_sized (C := Try.checked) own started (by kernel_rfl) Try.func3
    (ChangeSpec.witness6 (enc := enc) (C := Try.checked) false ⟨#[], #[.agg #[.int .u32 0, .int .u64 0, .int .i64 0, .string ByteArray.empty, .slice none 0 0], .string ByteArray.empty], []⟩ 8 (by kernel_rfl) (by kernel_rfl) (by kernel_rfl) (by kernel_rfl)) ?_
  intro W base args ds gs before hval0 hW _ hsz0 _
  have hsz : (DataW.weightsEach Try.prog (Try.f3.params.toList ++ Rows.pageCodesSpec.plain.varTypes Try.prog) (ds ++ gs)).all (· ≤ reachBytes) = true := hsz0
  have hval : ∀ (j : Nat) t v, Try.f3.params[j]? = some t → args[j]? = some v → Value.okWide Try.prog W .any base t v := hval0
  have hW' := hW
  obtain ⟨p, q, hA0, hV, rfl, _, _⟩ := hW
  have hA : DataW.TrodAll enc Try.prog W 0 (fun _ => true) true Try.f3.params.toList args.toList ds p := hA0
  rw [Try.params3] at hA hval hsz
  obtain ⟨v0, vs0, d0, ds0, p0, q0, hargs, rfl, rfl, h0, r0⟩ := trodAll_cons hA
  obtain ⟨v1, vs1, d1, ds1, p1, q1, rfl, rfl, rfl, h1, r1⟩ := trodAll_cons r0
  obtain ⟨rfl, rfl, rfl⟩ := trodAll_nil r1
  obtain rfl : args = #[v0, v1] := by cases args; simp_all
  obtain ⟨rfl, rfl⟩ := trodVars_none hV
  obtain ⟨x0, A0, c0, rfl, hc0, hr0, b0, k0, g0, n0, s0⟩ := sheet_open (hval 0 28 v0 rfl rfl) h0 (OpenK.light_each hsz 0 _ _ rfl rfl)
  obtain ⟨a1, rfl, rfl, rfl, y1⟩ := open_string Try.underlying9 (hval 1 9 v1 rfl rfl) h1
  have w1 : a1.size ≤ 140737488351232 := by
    have z := sized_string hsz (j := 1) (t := 9) rfl rfl
    rw [Array.length_toList] at z
    exact z
  obtain ⟨k, hk⟩ := PPg.pageCodes_pure x0.num x0.lsn x0.kind x0.head x0.slots a1 b0 s0 (by omega) (by omega)
  refine (PPg.girderlaw03_PageCodes.calls k x0.num x0.lsn x0.kind x0.head A0 c0 x0.slots a1 true W hr0 hc0 hk).mono fun e W' ⟨he, bel⟩ => ?_
  subst he
  refine ⟨_, rfl, law_post (tb := 4) laid (by kernel_rfl) rfl Try.underlying4 rfl (fun ds hds => ?_) hW' bel⟩
  match ds, hds with
  | [_, _], _ => rfl
theorem over : Rows.pageCodesRow.holds Try.pinned (OpenSpec.ofChange Rows.pageCodesSpec) :=
  OpenClaim.holds_of_wide 3 Try.f3 rfl rfl rfl rfl rfl rfl rfl ⟨rfl, rfl, rfl, rfl, rfl⟩ rfl rfl rfl rfl rfl (by kernel_rfl) Try.func3 (by kernel_rfl)
    (of_decide_eq_true (by kernel_rfl)) (by unfold Func.isWrapper; first | (rw [if_pos (by decide +kernel)]; kernel_rfl) | (rw [if_neg (by decide +kernel)]; exact ⟨rfl, rfl⟩))
    (fun os started H enc _ => lifted os started H enc)
end Go.Proofs.Yteokjmjfjdgmpaa.pageCodesRow
namespace Go.Proofs.Yteokjmjfjdgmpaa
/-- The row, under a short name, for the claim. -/
theorem pageCodes_holds : Rows.PageCodesSaid := pageCodesRow.over
#print axioms pageCodes_holds
end Go.Proofs.Yteokjmjfjdgmpaa
end
