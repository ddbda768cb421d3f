import Derived.Test.YteokjmjfjdgmpaaCPgBack1
section
namespace Go.Proofs.Yteokjmjfjdgmpaa
open Go.RowKit Go.Gi Go.GiRow Go.Proofs.YteokjmjfjdgmpaaW.PrintWords PAp
set_option maxRecDepth 20000
set_option linter.unusedSimpArgs false
set_option linter.unusedVariables false
def kindB (kind : Int) (head : ByteArray) : ByteArray := strOfNums [kind % 256] ++ head
def stE (kind : Int) (head : ByteArray) (slots : List ByteArray) (k a : Int) (s o : ByteArray) : Int :=
  if k = 2 then (if a > (slots.length : Int) then 1 else if (slots.length : Int) ≥ 64 then 3 else 0)
  else if k = 3 ∨ k = 4 then (if a ≥ (slots.length : Int) then 1 else if (rdOf ByteArray.empty slots a).toList = o.toList then 0 else 31)
  else if k = 5 then (if head.toList = o.toList then 0 else 31)
  else if k = 7 then (if (slots.length : Int) = 0 then (if (kindB kind head).toList = o.toList then 0 else 31) else 1)
  else if k = 6 then (if (slots.length : Int) = 0 then 1 else if ((rdOf ByteArray.empty slots 0).size : Int) - a < s.size then 1
    else if ((rdOf ByteArray.empty slots 0).extract a.toNat (a + s.size).toNat).toList = o.toList then 0 else 31)
  else 0
theorem opEs_ok {k a : Int} {s o : ByteArray} (h : opEs k a s o = 0) : opOk k a s.data.toList o.data.toList := by
  unfold opEs opE at h
  split at h
  · assumption
  · cases h
theorem w64s {x : Int} (h0 : -9223372036854775808 ≤ x) (h1 : x ≤ 9223372036854775807) : wrap64 x = x := by
  unfold wrap64; omega
theorem kindB_size (kind : Int) (head : ByteArray) : (kindB kind head).size = 1 + head.size := by
  unfold kindB
  rw [ByteArray.size_append]
  rfl
theorem st_f (num lsn kind : Int) (head : ByteArray) (slots : List ByteArray) (k a : Int) (s o : ByteArray) (hE : opEs k a s o = 0) (h64 : slots.length ≤ 64) (hs : ∀ x ∈ slots, x.size ≤ 140737488350000) (hh : head.size ≤ 140737488350000) :
    page_stands.f 3 num lsn kind head slots k a s o = some (stE kind head slots k a s o) := by
  obtain ⟨hs1, ho1, hk⟩ := opEs_ok hE
  have es : s.data.toList.length = s.size := by simp
  have eo : o.data.toList.length = o.size := by simp
  rw [es] at hs1 hk
  rw [eo] at ho1 hk
  have hz : (rdOf ByteArray.empty slots 0).size ≤ 140737488350000 := by
    unfold rdOf
    cases slots with
    | nil => exact Nat.zero_le _
    | cons x l => exact hs x (by simp)
  unfold page_stands.f stE
  rcases hk with h | h | h | h | h | h | h
  · obtain ⟨rfl, h⟩ := h
    simp [page_stands.j0]
  · obtain ⟨rfl, h⟩ := h
    simp only [if_true]
    split
    · rfl
    · split <;> rfl
  · obtain ⟨rfl, h⟩ := h
    simp [page_stands.j0]
    split
    · rfl
    · rw [if_pos (by omega), if_pos (by omega)]
      split <;> rfl
  · obtain ⟨rfl, h⟩ := h
    simp [page_stands.j0]
    split
    · rfl
    · rw [if_pos (by omega), if_pos (by omega)]
      split <;> rfl
  · obtain ⟨rfl, h⟩ := h
    simp [page_stands.j0]
    split <;> rfl
  · obtain ⟨rfl, h⟩ := h
    have w1 := w64s (x := ((rdOf ByteArray.empty slots 0).size : Int) - a) (by omega) (by omega)
    have w2 := w64s (x := a + (s.size : Int)) (by omega) (by omega)
    simp [page_stands.j0, page_stands.j1, w1, w2]
    by_cases h0 : slots = []
    · simp [h0]
    · have hp : 0 < slots.length := by
        cases slots with
        | nil => exact absurd rfl h0
        | cons _ _ => simp
      simp only [h0, if_false, if_pos hp]
      by_cases h1 : ((rdOf ByteArray.empty slots 0).size : Int) - a < s.size
      · simp [h1]
      · simp only [h1, if_false]
        rw [if_pos (by omega), if_pos (by omega), if_pos (by omega)]
        split <;> rfl
  · obtain ⟨rfl, h⟩ := h
    have e1 : page_Kind.f kind head = some (kindB kind head) := by
      unfold page_Kind.f
      have := kindB_size kind head
      unfold kindB at this
      rw [ByteArray.size_append] at this
      rw [Option.bind_some, if_pos (by omega)]
      rfl
    simp [page_stands.j0, e1]
    by_cases h0 : slots = []
    · simp [h0]
      split <;> rfl
    · simp [h0]
end Go.Proofs.Yteokjmjfjdgmpaa
end
section
namespace Go.Proofs.Yteokjmjfjdgmpaa
open Go.RowKit Go.Gi Go.GiRow Go.Proofs.YteokjmjfjdgmpaaW.PrintWords PAp
set_option maxRecDepth 20000
set_option linter.unusedSimpArgs false
set_option linter.unusedVariables false
theorem rdrows_of_C {w : World} {A : Option Addr} {l : List ByteArray} (h : Kd.C Kd.string w A l.length l) : RdRows strC 1 w A l := by
  intro k hk
  obtain ⟨ad, rfl, hc⟩ := h.2.2 (by omega)
  obtain ⟨c, hl, hr, hcell⟩ := hc k _ (List.getElem?_eq_getElem hk)
  have hr' : c = [Value.string l[k]] := hr
  rw [hr'] at hcell
  have h0 := hcell 0 _ rfl
  obtain ⟨c1, _, hr1, hcell1⟩ := hc 0 _ (List.getElem?_eq_getElem (show 0 < l.length by omega))
  have hr1' : c1 = [Value.string l[0]] := hr1
  have h01 := hcell1 0 (Value.string l[0]) (by rw [hr1']; rfl)
  have e0 : ad.add 0 = ad := by unfold Addr.add; simp
  rw [Nat.zero_mul, show ad.add (0 + 0) = ad from e0] at h01
  have hsp : ad.spot = none := by
    unfold World.cell? at h01
    cases hs : ad.spot with
    | none => rfl
    | some y =>
      simp [hs] at h01
      split at h01 <;> simp_all
  obtain ⟨b, off, sp⟩ := ad
  simp only at hsp
  subst hsp
  have ha : ∀ i, (⟨b, off, none⟩ : Addr).add i = ⟨b, off + i, none⟩ := fun i => by unfold Addr.add; split <;> simp_all
  refine ⟨b, off, rfl, ?_, ?_⟩
  · have := World.block_lt_of_cell? w _ h0
    rw [ha] at this
    exact this
  · intro j u hu
    have := hcell j u hu
    rw [ha] at this
    have e : off + k * 1 + j = off + (k * Kd.string.sz + j) := by show off + k * 1 + j = off + (k * 1 + j); omega
    rw [e]
    exact this
def putB (p s : ByteArray) (i : Nat) : ByteArray := p.extract 0 i ++ s ++ p.extract (i + s.size) p.size
def apR (num lsn kind : Int) (head : ByteArray) (slots : List ByteArray) (k a : Int) (s o : ByteArray) (l : Int) : Int × Int × Int × ByteArray × List ByteArray × Int :=
  if opEs k a s o ≠ 0 then (0, 0, 0, ⟨#[]⟩, [], 33)
  else if stE kind head slots k a s o ≠ 0 then (0, 0, 0, ⟨#[]⟩, [], stE kind head slots k a s o)
  else if k = 1 then finR num l a s []
  else if k = 2 then finR num l kind head (insL slots a.toNat s)
  else if k = 3 then finR num l kind head (slots.eraseIdx a.toNat)
  else if k = 4 then finR num l kind head (slots.set a.toNat s)
  else if k = 5 then finR num l kind s slots
  else if k = 7 then finR num l (bt s 0) (s.extract 1 s.size) slots
  else finR num l kind head (slots.set 0 (putB (rdOf ByteArray.empty slots 0) s a.toNat))
theorem mem_ins {l : List ByteArray} {i : Nat} {s x : ByteArray} (h : x ∈ insL l i s) : x = s ∨ x ∈ l := by
  unfold insL at h
  rcases List.mem_append.1 h with h | h
  · exact .inr (List.mem_of_mem_take h)
  · rcases List.mem_cons.1 h with h | h
    · exact .inl h
    · exact .inr (List.mem_of_mem_drop h)
theorem apply_any (num lsn kind : Int) (head : ByteArray) (slots : List ByteArray) (AA : Option Addr) (cc : Nat) (k a : Int) (s o : ByteArray) (l : Int) (w : World) (hr : Kd.C Kd.string w AA slots.length slots) (hc : slots.length ≤ cc)
    (h64 : slots.length ≤ 64) (hs : ∀ x ∈ slots, x.size ≤ 140737488350000) (hh : head.size ≤ 140737488350000) :
    Calls Try.prog 23 #[.agg #[.int .u32 num, .int .u64 lsn, .int .i64 kind, .string head, .slice AA slots.length cc], .agg #[.int .i64 k, .int .i64 a, .string s, .string o], .int .u64 l] w (apPost w (apR num lsn kind head slots k a s o l)) := by
  have hA := rdrows_of_C hr
  by_cases hE : opEs k a s o = 0
  · have hst : ∀ w', Below w.heap.size w w' → _ := fun w' hb => page_stands.calls 3 num lsn kind head AA cc slots k a s o _ w' (Kd.C_below hr hb) hc (st_f num lsn kind head slots k a s o hE h64 hs hh)
    unfold apR
    rw [if_neg (by simpa using hE)]
    by_cases hS : stE kind head slots k a s o = 0
    · rw [if_neg (by simpa using hS)]
      rw [hS] at hst
      obtain ⟨hs1, ho1, hk⟩ := opEs_ok hE
      have es : s.data.toList.length = s.size := by simp
      rw [es] at hs1 hk
      unfold stE at hS
      rcases hk with h | h | h | h | h | h | h
      · obtain ⟨rfl, h⟩ := h
        exact apply_k1 num lsn kind head slots AA cc a s o l w hA h64 hE hst (by simp) (by omega)
      · obtain ⟨rfl, h⟩ := h
        obtain ⟨i, rfl⟩ := Int.eq_ofNat_of_zero_le h.1
        simp at hS
        have h1 : i ≤ slots.length := by
          apply Nat.le_of_not_lt
          intro hlt
          rw [if_pos (by omega)] at hS
          cases hS
        rw [if_neg (by omega)] at hS
        have h2 : slots.length < 64 := by
          apply Nat.lt_of_not_le
          intro hlt
          rw [if_pos (by omega)] at hS
          cases hS
        exact apply_k2 num lsn kind head slots AA cc i s o l w hA h64 hE hst h1 h2 (fun x hx => by rcases mem_ins hx with rfl | hx; omega; have := hs x hx; omega) (by omega)
      · obtain ⟨rfl, h⟩ := h
        obtain ⟨i, rfl⟩ := Int.eq_ofNat_of_zero_le h.1
        simp at hS
        have h1 : i < slots.length := by
          apply Nat.lt_of_not_le
          intro hlt
          rw [if_pos (by omega)] at hS
          cases hS
        exact apply_k3 num lsn kind head slots AA cc i s o l w hA h64 hE hst h1 (fun x hx => by have := hs x (List.mem_of_mem_eraseIdx hx); omega) (by omega)
      · obtain ⟨rfl, h⟩ := h
        obtain ⟨i, rfl⟩ := Int.eq_ofNat_of_zero_le h.1
        simp at hS
        have h1 : i < slots.length := by
          apply Nat.lt_of_not_le
          intro hlt
          rw [if_pos (by omega)] at hS
          cases hS
        exact apply_k4 num lsn kind head slots AA cc i s o l w hA h64 hE hst _ rfl h1 (fun x hx => by rcases List.mem_or_eq_of_mem_set hx with hx | rfl; have := hs x hx; omega; omega) (by omega)
      · obtain ⟨rfl, h⟩ := h
        exact apply_k5 num lsn kind head slots AA cc a s o l w hA h64 hE hst (fun x hx => by have := hs x hx; omega) (by omega)
      · obtain ⟨rfl, h⟩ := h
        obtain ⟨i, rfl⟩ := Int.eq_ofNat_of_zero_le h.1
        simp at hS
        have hp : 0 < slots.length := by
          cases slots with
          | nil => simp at hS
          | cons _ _ => simp
        have hne : ¬ slots = [] := by intro e; rw [e] at hp; cases hp
        rw [if_neg hne] at hS
        have e0 : rdOf ByteArray.empty slots 0 = slots[0] := by unfold rdOf; simp [List.getD_eq_getElem?_getD, List.getElem?_eq_getElem hp]
        have hz := hs _ (List.getElem_mem hp)
        rw [e0] at hS
        have h1 : i + s.size ≤ slots[0].size := by
          apply Nat.le_of_not_lt
          intro hlt
          rw [if_pos (by omega)] at hS
          cases hS
        rw [e0]
        have hps : (putB slots[0] s i).size = slots[0].size := by
          unfold putB
          rw [ByteArray.size_append, ByteArray.size_append, ByteArray.size_extract, ByteArray.size_extract]
          omega
        exact apply_k6 num lsn kind head slots AA cc i s o l w hA h64 hE hst slots[0] (putB slots[0] s i) _ hp (fun _ => rfl) rfl h1 (by omega) rfl (fun x hx => by rcases List.mem_or_eq_of_mem_set hx with hx | rfl; have := hs x hx; omega; rw [Int.toNat_natCast, hps]; omega) (by omega)
      · obtain ⟨rfl, h⟩ := h
        have hb := bt_range s 0
        exact apply_k7 num lsn kind head slots AA cc a s o l w hA h64 hE hst (bt s 0) (s.extract 1 s.size) (by omega) (fun h => by
          have e := bt_at s 0 h
          have e' : ((s[0]'h).toNat : Int) = bt s 0 := e
          rw [e', w64s (by omega) (by omega)]) rfl (fun x hx => by have := hs x hx; omega) (by rw [ByteArray.size_extract]; omega)
    · rw [if_pos hS]
      exact apply_st num lsn kind head slots AA cc k a s o l w hA h64 _ hS hE hst
  · unfold apR
    rw [if_pos hE]
    exact apply_bad num lsn kind head slots AA cc k a s o l w hA h64 (by unfold opEs opE at *; split at hE <;> simp_all) trivial
end Go.Proofs.Yteokjmjfjdgmpaa
end
section
namespace Go.Proofs.Yteokjmjfjdgmpaa
open Go.RowKit Go.Gi Go.GiRow Go.Proofs.YteokjmjfjdgmpaaW.PrintWords
set_option maxRecDepth 20000
set_option linter.unusedSimpArgs false
set_option linter.unusedVariables false
structure PgOk (kind : Int) (head : ByteArray) (slots : List ByteArray) : Prop where
  k0 : 0 ≤ kind
  k1 : kind ≤ 255
  hh : head.size ≤ 32
  n64 : slots.length ≤ 64
  room : head.size + slotsN slots ≤ 485
def invO (k a : Int) (s o : ByteArray) : Int × Int × ByteArray × ByteArray :=
  if k = 1 then (1, 0, ⟨#[]⟩, ⟨#[]⟩) else if k = 2 then (3, a, ⟨#[]⟩, s) else if k = 3 then (2, a, o, ⟨#[]⟩) else if k = 4 ∨ k = 5 ∨ k = 6 ∨ k = 7 then (k, a, o, s) else (k, a, s, o)
def doR (num kind : Int) (head : ByteArray) (slots : List ByteArray) (k a : Int) (s : ByteArray) (l : Int) : Int × Int × Int × ByteArray × List ByteArray × Int :=
  if k = 1 then finR num l a s []
  else if k = 2 then finR num l kind head (insL slots a.toNat s)
  else if k = 3 then finR num l kind head (slots.eraseIdx a.toNat)
  else if k = 4 then finR num l kind head (slots.set a.toNat s)
  else if k = 5 then finR num l kind s slots
  else if k = 7 then finR num l (bt s 0) (s.extract 1 s.size) slots
  else finR num l kind head (slots.set 0 (putB (rdOf ByteArray.empty slots 0) s a.toNat))
theorem apR_go {num lsn kind : Int} {head : ByteArray} {slots : List ByteArray} {k a : Int} {s o : ByteArray} {l : Int} (hE : opOk k a s.data.toList o.data.toList) (hS : stE kind head slots k a s o = 0) :
    apR num lsn kind head slots k a s o l = doR num kind head slots k a s l := by
  have hE' : opEs k a s o = 0 := (opE_pos hE).symm
  unfold apR doR
  rw [if_neg (by rw [hE']; simp), if_neg (by rw [hS]; simp)]
theorem apR_ok {num lsn kind : Int} {head : ByteArray} {slots : List ByteArray} {k a : Int} {s o : ByteArray} {l : Int} {n' l' kd' : Int} {hd' : ByteArray} {sl' : List ByteArray} (h : apR num lsn kind head slots k a s o l = (n', l', kd', hd', sl', 0)) :
    opOk k a s.data.toList o.data.toList ∧ stE kind head slots k a s o = 0 ∧ doR num kind head slots k a s l = (n', l', kd', hd', sl', 0) := by
  by_cases hE : opEs k a s o = 0
  · by_cases hS : stE kind head slots k a s o = 0
    · rw [apR_go (opEs_ok hE) hS] at h
      exact ⟨opEs_ok hE, hS, h⟩
    · unfold apR at h
      rw [if_neg (by rw [hE]; simp), if_pos hS] at h
      simp only [Prod.mk.injEq] at h
      exact absurd h.2.2.2.2.2 hS
  · unfold apR at h
    rw [if_pos hE] at h
    simp only [Prod.mk.injEq] at h
    exact absurd h.2.2.2.2.2 (by decide)
theorem finR_ok {num l KD : Int} {HD : ByteArray} {SL : List ByteArray} {n' l' kd' : Int} {hd' : ByteArray} {sl' : List ByteArray} (h : finR num l KD HD SL = (n', l', kd', hd', sl', 0)) : HD.size + slotsN SL ≤ 485 ∧ n' = num ∧ l' = l ∧ kd' = KD ∧ hd' = HD ∧ sl' = SL := by
  unfold finR at h
  split at h
  · simp only [Prod.mk.injEq] at h
    exact absurd h.2.2.2.2.2 (by decide)
  · simp only [Prod.mk.injEq] at h
    obtain ⟨rfl, rfl, rfl, rfl, rfl, _⟩ := h
    exact ⟨by omega, rfl, rfl, rfl, rfl, rfl⟩
theorem finR_in {num l KD : Int} {HD : ByteArray} {SL : List ByteArray} (h : HD.size + slotsN SL ≤ 485) : finR num l KD HD SL = (num, l, KD, HD, SL, 0) := by
  unfold finR
  rw [if_neg (by omega)]
theorem tlD (s : ByteArray) : s.toList = s.data.toList := by first | exact Lib.toList_data s | simp
theorem baE {a b : ByteArray} (h : a.data.toList = b.data.toList) : a = b := by
  rw [← bs_toList a, h, bs_toList b]
theorem baE' {a b : ByteArray} (h : a.toList = b.toList) : a = b := baE (by rw [← tlD, ← tlD, h])
theorem szD (s : ByteArray) : s.data.toList.length = s.size := by simp
theorem rdAt (l : List ByteArray) (i : Nat) (h : i < l.length) : rdOf ByteArray.empty l (i : Int) = l[i] := by
  unfold rdOf
  simp [List.getD_eq_getElem?_getD, List.getElem?_eq_getElem h]
theorem ins_at (l : List ByteArray) (i : Nat) (s : ByteArray) (h : i ≤ l.length) : rdOf ByteArray.empty (insL l i s) (i : Int) = s := by
  have ht : (l.take i).length = i := by rw [List.length_take]; omega
  unfold rdOf insL
  rw [List.getD_eq_getElem?_getD]
  have e : ((i : Int)).toNat = i := Int.toNat_natCast i
  first
  | (rw [e, List.getElem?_append_right (by omega), ht]; simp)
  | (simp only [e]; rw [List.getElem?_append_right (by omega), ht]; simp)
theorem erase_ins (l : List ByteArray) (i : Nat) (s : ByteArray) (h : i ≤ l.length) : (insL l i s).eraseIdx i = l := by
  unfold insL
  have ht : (l.take i).length = i := by rw [List.length_take]; omega
  rw [List.eraseIdx_append_of_length_le (by omega), ht, Nat.sub_self, List.eraseIdx_cons_zero, List.take_append_drop]
theorem ins_erase (l : List ByteArray) (i : Nat) (h : i < l.length) : insL (l.eraseIdx i) i l[i] = l := by
  unfold insL
  rw [List.eraseIdx_eq_take_drop_succ]
  have ht : (l.take i).length = i := by rw [List.length_take]; omega
  rw [List.take_left' ht, List.drop_left' ht, ← List.drop_eq_getElem_cons h, List.take_append_drop]
theorem set_set' (l : List ByteArray) (i : Nat) (s : ByteArray) (h : i < l.length) : (l.set i s).set i l[i] = l := by
  rw [List.set_set]
  apply List.ext_getElem (by simp)
  intro j h1 h2
  rw [List.getElem_set]
  split
  · next e => subst e; rfl
  · rfl
theorem putB_data (p s : ByteArray) (i : Nat) (h : i + s.size ≤ p.size) : (putB p s i).data.toList = p.data.toList.take i ++ (s.data.toList ++ p.data.toList.drop (i + s.size)) := by
  have hl : p.data.toList.length = p.size := by simp
  unfold putB
  rw [ByteArray.data_append, ByteArray.data_append, Array.toList_append, Array.toList_append, extract_toList, extract_toList, List.drop_zero, Nat.sub_zero, List.append_assoc]
  congr 2
  rw [List.take_of_length_le (by rw [List.length_drop, hl]; omega)]
theorem putB_size (p s : ByteArray) (i : Nat) (h : i + s.size ≤ p.size) : (putB p s i).size = p.size := by
  unfold putB
  rw [ByteArray.size_append, ByteArray.size_append, ByteArray.size_extract, ByteArray.size_extract]
  omega
theorem put_there (p s : ByteArray) (i : Nat) (h : i + s.size ≤ p.size) : (putB p s i).extract i (i + s.size) = s := by
  apply baE
  have ht : (p.data.toList.take i).length = i := by rw [List.length_take, szD]; omega
  rw [extract_toList, putB_data p s i h, List.drop_left' ht, Nat.add_sub_cancel_left, List.take_left' (szD s)]
theorem put_back (p s o : ByteArray) (i : Nat) (h : i + s.size ≤ p.size) (hz : s.size = o.size) (he : p.extract i (i + s.size) = o) : putB (putB p s i) o i = p := by
  apply baE
  have hps := putB_size p s i h
  have ht : (p.data.toList.take i).length = i := by rw [List.length_take, szD]; omega
  have ht2 : (p.data.toList.take i ++ s.data.toList).length = i + s.size := by rw [List.length_append, ht, szD]
  rw [putB_data _ o i (by omega), ← hz, putB_data p s i h, List.take_left' ht, ← List.append_assoc (p.data.toList.take i) s.data.toList, List.drop_left' ht2, ← he, extract_toList, Nat.add_sub_cancel_left]
  rw [← List.drop_drop, List.take_append_drop, List.take_append_drop]
theorem btN (s : ByteArray) (h : 0 < s.size) : bt s 0 = ((s.data.toList[0]'(by rw [szD]; exact h)).toNat : Int) := by
  unfold bt
  rw [dif_pos (by simpa using h)]
  rfl
theorem son_byte (n : Int) (h0 : 0 ≤ n) (h1 : n ≤ 255) : ∃ b : UInt8, (strOfNums [n]).data.toList = [b] ∧ (b.toNat : Int) = n := by
  obtain ⟨m, rfl⟩ := Int.eq_ofNat_of_zero_le h0
  refine ⟨UInt8.ofNat m, by simp [strOfNums], ?_⟩
  simp
  omega
theorem kindB_of (s : ByteArray) (h : 1 ≤ s.size) : kindB (bt s 0) (s.extract 1 s.size) = s := by
  apply baE
  have hp : 0 < s.data.toList.length := by rw [szD]; exact h
  have hb := btN s h
  obtain ⟨b, e1, e2⟩ := son_byte (bt s 0) (bt_range s 0).1 (by have := (bt_range s 0).2; omega)
  have hm : bt s 0 % 256 = bt s 0 := by have := bt_range s 0; omega
  unfold kindB
  rw [hm, ByteArray.data_append, Array.toList_append, e1, extract_toList, List.take_of_length_le (by rw [List.length_drop, szD]; omega)]
  have : b = s.data.toList[0] := by
    apply UInt8.toNat_inj.1
    rw [hb] at e2
    omega
  rw [this]
  have := List.drop_eq_getElem_cons hp
  rw [List.drop_zero] at this
  rw [show [s.data.toList[0]] ++ List.drop 1 s.data.toList = s.data.toList[0] :: List.drop (0 + 1) s.data.toList from rfl, ← this]
theorem of_kindB (kind : Int) (head o : ByteArray) (h0 : 0 ≤ kind) (h1 : kind ≤ 255) (h : kindB kind head = o) : bt o 0 = kind ∧ o.extract 1 o.size = head := by
  obtain ⟨b, e1, e2⟩ := son_byte kind h0 h1
  have hd : o.data.toList = b :: head.data.toList := by
    rw [← h]
    unfold kindB
    rw [show kind % 256 = kind by omega, ByteArray.data_append, Array.toList_append, e1]
    rfl
  have hs : o.size = 1 + head.size := by rw [← h]; exact kindB_size kind head
  constructor
  · rw [btN o (by omega), ← e2]
    congr 2
    simp only [hd, List.getElem_cons_zero]
  · apply baE
    rw [extract_toList, hd]
    show List.take (o.size - 1) head.data.toList = _
    rw [List.take_of_length_le (by rw [szD]; omega)]
theorem ap_back {num lsn kind : Int} {head : ByteArray} {slots : List ByteArray} {k a : Int} {s o : ByteArray} {l : Int} {n' l' kd' : Int} {hd' : ByteArray} {sl' : List ByteArray} (hok : PgOk kind head slots) (hk1 : k ≠ 1)
    (h : apR num lsn kind head slots k a s o l = (n', l', kd', hd', sl', 0)) :
    n' = num ∧ l' = l ∧ PgOk kd' hd' sl' ∧ ∀ lsn2 l2, apR num lsn2 kd' hd' sl' (invO k a s o).1 (invO k a s o).2.1 (invO k a s o).2.2.1 (invO k a s o).2.2.2 l2 = (num, l2, kind, head, slots, 0) := by
  obtain ⟨hE, hS, hD⟩ := apR_ok h
  obtain ⟨hs1, ho1, hk⟩ := hE
  rw [szD] at hs1 ho1
  simp only [szD] at hk
  have hz : (⟨#[]⟩ : ByteArray).size = 0 := rfl
  obtain ⟨k0, k1, k2, k3, k4⟩ := hok
  unfold stE at hS
  unfold doR at hD
  rcases hk with hk | hk | hk | hk | hk | hk | hk
  · exact absurd hk.1 hk1
  · obtain ⟨rfl, hk⟩ := hk
    obtain ⟨i, rfl⟩ := Int.eq_ofNat_of_zero_le hk.1
    rw [if_pos rfl] at hS
    rw [if_neg (by decide), if_pos rfl, Int.toNat_natCast] at hD
    have h1 : i ≤ slots.length := by
      apply Nat.le_of_not_lt
      intro hlt
      rw [if_pos (by omega)] at hS
      cases hS
    rw [if_neg (by omega)] at hS
    have h2 : slots.length < 64 := by
      apply Nat.lt_of_not_le
      intro hlt
      rw [if_pos (by omega)] at hS
      cases hS
    obtain ⟨hr, rfl, rfl, rfl, rfl, rfl⟩ := finR_ok hD
    refine ⟨rfl, rfl, ⟨k0, k1, k2, by rw [insL_len _ _ _ h1]; omega, hr⟩, fun lsn2 l2 => ?_⟩
    show apR n' lsn2 kd' hd' (insL slots i s) 3 i ⟨#[]⟩ s l2 = _
    rw [apR_go ⟨by rw [szD, hz]; omega, by rw [szD]; omega, .inr (.inr (.inl ⟨rfl, by omega, by omega, by rw [szD]; rfl⟩))⟩ (by
      unfold stE
      rw [if_neg (by decide), if_pos (by decide), if_neg (by rw [insL_len _ _ _ h1]; omega), ins_at _ _ _ h1, if_pos rfl])]
    unfold doR
    rw [if_neg (by decide), if_neg (by decide), if_pos rfl, Int.toNat_natCast, erase_ins _ _ _ h1, finR_in k4]
  · obtain ⟨rfl, hk⟩ := hk
    obtain ⟨i, rfl⟩ := Int.eq_ofNat_of_zero_le hk.1
    rw [if_neg (by decide), if_pos (by decide)] at hS
    rw [if_neg (by decide), if_neg (by decide), if_pos rfl, Int.toNat_natCast] at hD
    have h1 : i < slots.length := by
      apply Nat.lt_of_not_le
      intro hlt
      rw [if_pos (by omega)] at hS
      cases hS
    rw [if_neg (by omega), rdAt _ _ h1] at hS
    have he : slots[i] = o := by
      apply baE'
      by_cases hx : slots[i].toList = o.toList
      · exact hx
      · rw [if_neg hx] at hS; cases hS
    obtain ⟨hr, rfl, rfl, rfl, rfl, rfl⟩ := finR_ok hD
    have hln : (slots.eraseIdx i).length = slots.length - 1 := List.length_eraseIdx_of_lt h1
    refine ⟨rfl, rfl, ⟨k0, k1, k2, by omega, hr⟩, fun lsn2 l2 => ?_⟩
    show apR n' lsn2 kd' hd' (slots.eraseIdx i) 2 i o ⟨#[]⟩ l2 = _
    rw [apR_go ⟨by rw [szD]; omega, by rw [szD, hz]; omega, .inr (.inl ⟨rfl, by omega, by omega, by rw [szD]; rfl⟩)⟩ (by
      unfold stE
      rw [if_pos rfl, if_neg (by omega), if_neg (by omega)])]
    unfold doR
    rw [if_neg (by decide), if_pos rfl, Int.toNat_natCast, ← he, ins_erase _ _ h1, finR_in k4]
  · obtain ⟨rfl, hk⟩ := hk
    obtain ⟨i, rfl⟩ := Int.eq_ofNat_of_zero_le hk.1
    rw [if_neg (by decide), if_pos (by decide)] at hS
    rw [if_neg (by decide), if_neg (by decide), if_neg (by decide), if_pos rfl, Int.toNat_natCast] at hD
    have h1 : i < slots.length := by
      apply Nat.lt_of_not_le
      intro hlt
      rw [if_pos (by omega)] at hS
      cases hS
    rw [if_neg (by omega), rdAt _ _ h1] at hS
    have he : slots[i] = o := by
      apply baE'
      by_cases hx : slots[i].toList = o.toList
      · exact hx
      · rw [if_neg hx] at hS; cases hS
    obtain ⟨hr, rfl, rfl, rfl, rfl, rfl⟩ := finR_ok hD
    refine ⟨rfl, rfl, ⟨k0, k1, k2, by rw [List.length_set]; omega, hr⟩, fun lsn2 l2 => ?_⟩
    show apR n' lsn2 kd' hd' (slots.set i s) 4 i o s l2 = _
    rw [apR_go ⟨by rw [szD]; omega, by rw [szD]; omega, .inr (.inr (.inr (.inl ⟨rfl, by omega, by omega⟩)))⟩ (by
      unfold stE
      rw [if_neg (by decide), if_pos (by decide), if_neg (by rw [List.length_set]; omega), rdAt _ _ (by rw [List.length_set]; exact h1), List.getElem_set_self, if_pos rfl])]
    unfold doR
    rw [if_neg (by decide), if_neg (by decide), if_neg (by decide), if_pos rfl, Int.toNat_natCast, ← he, set_set' _ _ _ h1, finR_in k4]
  · obtain ⟨rfl, rfl, hk, hk'⟩ := hk
    rw [if_neg (by decide), if_neg (by decide), if_pos rfl] at hS
    rw [if_neg (by decide), if_neg (by decide), if_neg (by decide), if_neg (by decide), if_pos rfl] at hD
    have he : head = o := by
      apply baE'
      by_cases hx : head.toList = o.toList
      · exact hx
      · rw [if_neg hx] at hS; cases hS
    subst he
    obtain ⟨hr, rfl, rfl, rfl, rfl, rfl⟩ := finR_ok hD
    refine ⟨rfl, rfl, ⟨k0, k1, hk, k3, hr⟩, fun lsn2 l2 => ?_⟩
    show apR n' lsn2 kd' hd' sl' 5 0 head hd' l2 = _
    rw [apR_go ⟨by rw [szD]; omega, by rw [szD]; omega, .inr (.inr (.inr (.inr (.inl ⟨rfl, rfl, by rw [szD]; omega, by rw [szD]; omega⟩))))⟩ (by
      unfold stE
      rw [if_neg (by decide), if_neg (by decide), if_pos rfl, if_pos rfl])]
    unfold doR
    rw [if_neg (by decide), if_neg (by decide), if_neg (by decide), if_neg (by decide), if_pos rfl, finR_in k4]
  · obtain ⟨rfl, hk0, hk, hq1, hq2⟩ := hk
    obtain ⟨i, rfl⟩ := Int.eq_ofNat_of_zero_le hk0
    rw [if_neg (by decide), if_neg (by decide), if_neg (by decide), if_neg (by decide), if_pos rfl] at hS
    rw [if_neg (by decide), if_neg (by decide), if_neg (by decide), if_neg (by decide), if_neg (by decide), if_neg (by decide), Int.toNat_natCast] at hD
    have hp : 0 < slots.length := by
      apply Nat.lt_of_not_le
      intro hlt
      rw [if_pos (by omega)] at hS
      cases hS
    rw [if_neg (by omega)] at hS
    have e0 := rdAt slots 0 hp
    have e0' : rdOf ByteArray.empty slots 0 = slots[0] := e0
    rw [e0'] at hS hD
    have h1 : i + s.size ≤ slots[0].size := by
      apply Nat.le_of_not_lt
      intro hlt
      rw [if_pos (by omega)] at hS
      cases hS
    rw [if_neg (by omega), Int.toNat_natCast, show ((i : Int) + (s.size : Int)).toNat = i + s.size by omega] at hS
    have he : slots[0].extract i (i + s.size) = o := by
      apply baE'
      by_cases hx : (slots[0].extract i (i + s.size)).toList = o.toList
      · exact hx
      · rw [if_neg hx] at hS; cases hS
    obtain ⟨hr, rfl, rfl, rfl, rfl, rfl⟩ := finR_ok hD
    refine ⟨rfl, rfl, ⟨k0, k1, k2, by rw [List.length_set]; omega, hr⟩, fun lsn2 l2 => ?_⟩
    show apR n' lsn2 kd' hd' (slots.set 0 (putB slots[0] s i)) 6 i o s l2 = _
    have hp2 : 0 < (slots.set 0 (putB slots[0] s i)).length := by rw [List.length_set]; exact hp
    have e2 : rdOf ByteArray.empty (slots.set 0 (putB slots[0] s i)) 0 = putB slots[0] s i := by
      have := rdAt (slots.set 0 (putB slots[0] s i)) 0 hp2
      rw [List.getElem_set_self] at this
      exact this
    have hps := putB_size slots[0] s i h1
    rw [apR_go ⟨by rw [szD]; omega, by rw [szD]; omega, .inr (.inr (.inr (.inr (.inr (.inl ⟨rfl, by omega, hk, by rw [szD, szD]; omega, by rw [szD]; omega⟩)))))⟩ (by
      unfold stE
      rw [if_neg (by decide), if_neg (by decide), if_neg (by decide), if_neg (by decide), if_pos rfl, if_neg (by omega), e2, if_neg (by rw [hps]; omega), Int.toNat_natCast, show ((i : Int) + (o.size : Int)).toNat = i + s.size by omega, put_there _ _ _ h1, if_pos rfl])]
    unfold doR
    rw [if_neg (by decide), if_neg (by decide), if_neg (by decide), if_neg (by decide), if_neg (by decide), if_neg (by decide), Int.toNat_natCast, e2, put_back _ _ _ _ h1 (by omega) he, set_set' _ _ _ hp, finR_in k4]
  · obtain ⟨rfl, rfl, hq1, hq2, hq3, hq4⟩ := hk
    rw [if_neg (by decide), if_neg (by decide), if_neg (by decide), if_pos rfl] at hS
    rw [if_neg (by decide), if_neg (by decide), if_neg (by decide), if_neg (by decide), if_neg (by decide), if_pos rfl] at hD
    have hp : slots.length = 0 := by
      apply Classical.byContradiction
      intro hne
      rw [if_neg (by omega)] at hS
      cases hS
    rw [if_pos (by omega)] at hS
    have he : kindB kind head = o := by
      apply baE'
      by_cases hx : (kindB kind head).toList = o.toList
      · exact hx
      · rw [if_neg hx] at hS; cases hS
    obtain ⟨hr, rfl, rfl, rfl, rfl, rfl⟩ := finR_ok hD
    have hb := bt_range s 0
    have hxs : (s.extract 1 s.size).size = s.size - 1 := by rw [ByteArray.size_extract]; omega
    refine ⟨rfl, rfl, ⟨hb.1, by omega, by omega, k3, hr⟩, fun lsn2 l2 => ?_⟩
    show apR n' lsn2 (bt s 0) (s.extract 1 s.size) sl' 7 0 o s l2 = _
    obtain ⟨f1, f2⟩ := of_kindB kind head o k0 k1 he
    rw [apR_go ⟨by rw [szD]; omega, by rw [szD]; omega, .inr (.inr (.inr (.inr (.inr (.inr ⟨rfl, rfl, by rw [szD]; omega, by rw [szD]; omega, by rw [szD]; omega, by rw [szD]; omega⟩)))))⟩ (by
      unfold stE
      rw [if_neg (by decide), if_neg (by decide), if_neg (by decide), if_pos rfl, if_pos (by omega), kindB_of s hq1, if_pos rfl])]
    unfold doR
    rw [if_neg (by decide), if_neg (by decide), if_neg (by decide), if_neg (by decide), if_neg (by decide), if_pos rfl, f1, f2, finR_in k4]
structure PgS where
  lsn : Int
  kind : Int
  head : ByteArray
  slots : List ByteArray
structure OpS where
  k : Int
  a : Int
  s : ByteArray
  o : ByteArray
def OpS.cells (x : OpS) : List Value := [.int .i64 x.k, .int .i64 x.a, .string x.s, .string x.o]
def Back (num : Int) (p : PgS) (x : OpS) (q : PgS) : Prop :=
  PgOk p.kind p.head p.slots ∧ PgOk q.kind q.head q.slots ∧ ∀ lsn l, apR num lsn q.kind q.head q.slots x.k x.a x.s x.o l = (num, l, p.kind, p.head, p.slots, 0)
inductive Trail (num : Int) (p0 : PgS) : List PgS → List OpS → PgS → Prop
  | nil (q : PgS) (h : q.kind = p0.kind ∧ q.head = p0.head ∧ q.slots = p0.slots) : Trail num p0 [] [] q
  | snoc {was : List PgS} {done : List OpS} {p q : PgS} {x : OpS} (h : Trail num p0 was done p) (hb : Back num p x q) : Trail num p0 (was ++ [p]) (done ++ [x]) q
end Go.Proofs.Yteokjmjfjdgmpaa
end
section
namespace Go.Proofs.Yteokjmjfjdgmpaa
open Go.RowKit Go.Gi Go.GiRow Go.Proofs.YteokjmjfjdgmpaaW.PrintWords Go.Proofs.YteokjmjfjdgmpaaW.PrintLast Go.Proofs.YteokjmjfjdgmpaaW.PrintMore
set_option maxRecDepth 20000
set_option linter.unusedSimpArgs false
set_option linter.unusedVariables false
def OwnP (w : World) (base : Nat) (v : Value) (slots : List ByteArray) : Prop := w.ownsRow base 9 1 v slots.length (strV slots)
theorem own_C {w : World} {base : Nat} {v : Value} {slots : List ByteArray} (h : OwnP w base v slots) : ∃ A c, v = .slice A slots.length c ∧ slots.length ≤ c ∧ Kd.C Kd.string w A slots.length slots := by
  obtain ⟨A, c, rfl⟩ := own_sl h
  have hR : Kd.R Kd.string 9 w base (fun _ => True) (.slice A slots.length c) slots := Kd.R_of_own h (fun _ _ => trivial)
  exact ⟨A, c, rfl, (Kd.R_reads' hR).2.1, (Kd.R_reads' hR).2.2⟩
theorem OwnP.below {w w' : World} {base : Nat} {v : Value} {slots : List ByteArray} (h : OwnP w base v slots) (hb : Below w.heap.size w w') : OwnP w' base v slots := own_below h hb
theorem OwnP.lower {w : World} {base base' : Nat} {v : Value} {slots : List ByteArray} (h : OwnP w base v slots) (hb : base' ≤ base) : OwnP w base' v slots := own_le h hb
theorem OwnP.setRow {w : World} {base g T : Nat} {v : Value} {slots : List ByteArray} {cs cs' : Array Value} (h : OwnP w base v slots) (hb : Blk w g T cs) (ht : T ≠ 9) : OwnP (w.setRow g cs') base v slots := own_setRow h hb ht
theorem OwnP.set {w : World} {base b o T : Nat} {v u : Value} {slots : List ByteArray} {cs : Array Value} (h : OwnP w base v slots) (hb : Blk w b T cs) (ht : T ≠ 9) : OwnP (w.setCell ⟨b, o, none⟩ u) base v slots := own_set h hb ht
theorem OwnP.grown {w w' : World} {base : Nat} {v : Value} {slots : List ByteArray} {row : Option Nat} (h : OwnP w base v slots) (hg : w.grownBy w' row) (hne : v.ownBlock = none ∨ v.ownBlock ≠ row) : OwnP w' base v slots := World.ownsRow.kept h hg hne
theorem app1_step {P : Program} {ops : Array Oper} {o : Oper} {a : Act} {w : World} {K : Act → World → Prop} {Q : Exit → Act → World → Prop} {N : Option Tmp} (hw : Region.wanted o (yielded ops a.tmps) = true) (hN : o.dst = N)
    (s x : Operand) (t : TypeId) (ho : o.op = .call { callee := .builtin .append, args := #[s, x], argTypes := #[t, t] }) (e : TypeId) (z : Value) (size bytes : Nat) (ht : P.underlying t = some (.slice e))
    (hinfo : (P.info? e).map (fun i => (i.zero, i.size, i.bytes)) = some (some z, size, bytes)) (hzs : z.cells.size = size) (hsz : 0 < size) (v : Value) (hs : a.eval s = v) (base n : Nat) (xs : List Value) (hown : w.ownsRow base e size v n xs)
    (ad : Addr) (hx : a.eval x = .slice (some ad) 1 1) (news : List Value) (hl : news.length = size) (hnews : ∀ j u, news[j]? = some u → w.cell? (ad.add j) = some u) (h1 : ∀ u ∈ news, u.oneCell' = true)
    (hm : n ≤ 1000000) (hb : (n + 1) * bytes ≤ 140737488355328) (hbase : base ≤ w.heap.size)
    (h : ∀ v' w', w'.ownsRow base e size v' (n + 1) (xs ++ news) → w.grownBy w' v.ownBlock → (v'.ownBlock = v.ownBlock ∨ v'.ownBlock = some w.heap.size) → K (a.put N v') w') :
    if Region.wanted o (yielded ops a.tmps) = true then Oper.wp P o a w K Q else K (a.put N undef) w := by
  obtain ⟨i0, hi, hzz⟩ := Option.map_eq_some_iff.1 hinfo
  simp only [Prod.mk.injEq] at hzz
  obtain ⟨hz0, hz1, hz2⟩ := hzz
  obtain ⟨v1, w1, hr, h2, h3, _, h5⟩ := run_append_own_at (P := P) (w := w) base t o.type e i0 z size bytes ht hi hz0 hz1 hz2 hzs hsz v n xs hown ad 1 1 news (by omega) hnews h1 (by unfold maxLen; omega) hb hbase
  rw [if_pos hw]
  subst hN
  unfold Oper.wp execOp
  simp only [ho, resolve, invoke, builtin, Sem.run_bind, Sem.run_pure, Result.andThen_ok, List.map_toArray, List.map_cons, List.map_nil, hs, hx, hr]
  exact h v1 w1 h2 h3 h5
theorem infoOp : (Try.prog.info? 54).map (fun i => (i.zero, i.size, i.bytes)) = some (some (.agg #[.int .i64 0, .int .i64 0, .string ⟨#[]⟩, .string ⟨#[]⟩]), 4, 48) := by kernel_rfl
end Go.Proofs.Yteokjmjfjdgmpaa
end
section
namespace Go.Proofs.Yteokjmjfjdgmpaa
open Go.RowKit Go.Gi Go.Proofs.YteokjmjfjdgmpaaW.PrintWords Go.Proofs.YteokjmjfjdgmpaaW.PrintLast Go.Proofs.YteokjmjfjdgmpaaW.PrintMore
theorem yields_row {P : Program} {ops : Array Oper} {S : World → Prop} {o : Oper} {a : Act} (ty : TypeId) (x : Operand) (ho : o.op = .load ty x) (hw : Region.wanted o (yielded ops a.tmps) = true)
    (g : Nat) (hx : a.eval x = .pointer (some ⟨g, 0, none⟩)) (t : TypeId) (cs : Array Value) (fr : Nat × Nat) (d : TypeDesc) (hg : ∀ w : World, S w → w.heap[g]? = some (.cells cs t fr))
    (hu : P.underlying ty = some d) (hd : (match d with | .struct _ | .array _ _ => true | _ => false) = true) (hi : (P.info? ty).map (·.size) = some cs.size) : YieldsIf P ops S o (.agg cs) a :=
  Or.inl ⟨hw, fun w hs => by
    unfold execOp
    simp only [ho, hx, Instr.loadAt, Instr.sureAddr, Sem.run_bind, Sem.run_pure, Result.andThen_ok, run_loadVar_row w g t ty cs fr d (hg w hs) hu hd hi]⟩
theorem run_store_row {P : Program} {o : Oper} {a : Act} {w : World} (ty : TypeId) (x y : Operand) (ho : o.op = .store ty x y)
    (g : Nat) (cells : Array Value) (hx : a.eval x = .pointer (some ⟨g, 0, none⟩)) (hy : a.eval y = .agg cells)
    (t : TypeId) (old : Array Value) (hg : w.heap[g]? = some (.cells old t (0, 0))) (hi : (P.info? ty).map (·.size) = some cells.size)
    (hold : old.size = cells.size) (h1 : cells.all (·.oneCell') = true) : (execOp a.eval o).run P w = .ok .skip (w.setRow g cells) := by
  unfold execOp
  simp only [ho, hx, hy, Instr.storeAt, Instr.sureAddr, Sem.run_bind, Sem.run_pure, Result.andThen_ok, run_storeVar_row w g t ty old cells hg hi hold h1]
end Go.Proofs.Yteokjmjfjdgmpaa
end
section
namespace Go.Gi
open Go.RowKit
set_option maxRecDepth 20000
theorem append_str_at {P : Program} (w : World) (base : Nat) (t u ty e : TypeId) (i : TypeInfo) (ht : P.underlying t = some (.slice e)) (hu : P.underlying u = some .string) (hi : P.info? e = some i) (hz : i.zero = some (.int .u8 0))
    (hsize : i.size = 1) (hby : i.bytes = 1) (v : Value) (n : Nat) (xs : List Value) (hown : w.ownsRow base e 1 v n xs) (s : ByteArray)
    (h63 : n + s.size ≤ maxLen) (hbytes : n + s.size ≤ 140737488355328) {v' : Value} {w' : World} (hr : (Builtin.append_ #[t, u] ty #[v, .string s]).run P w = .ok v' w') :
    v'.ownBlock = v.ownBlock ∨ v'.ownBlock = some w.heap.size := by
  have hsmall : n + s.size ≤ 9223372036854775807 := by simp only [maxLen] at h63; omega
  have hxl : xs.length = n := by simpa using hown.1
  rcases hown.2 with ⟨rfl, rfl⟩ | ⟨g, cap, cur, rfl, hbg, hg, hnc, hcm, hcs, htake⟩
  · by_cases hm : s.size = 0
    · have hf := Lib.run_firstCells_string (P := P) w 1 s
      rw [hm] at hf
      simp [Builtin.append_, run_underlying ht, run_underlying hu, sizeOf, typeInfo, hi, hsize, Builtin.lenOf, hm, hf] at hr
      exact .inl (by rw [← hr.1])
    · have h2 := run_append_nil_string (P := P) w t u ty e i (.int .u8 0) ht hu hi hz s (by omega) (by omega) (by rw [hby]; omega)
      rw [h2] at hr
      injection hr with e1 _
      exact .inr (by rw [← e1]; rfl)
  · by_cases hroom : n + s.size ≤ cap
    · have hcs' : cur.size = cap := by simpa using hcs
      have h2 := Lib.run_append_room_string (P := P) w t u ty e i ht hu hi hsize g n cap cur hg s hroom (by omega)
      rw [h2] at hr
      injection hr with e1 _
      exact .inl (by rw [← e1]; rfl)
    · have holds : ∀ j u, xs[j]? = some u → w.cell? ((⟨g, 0, none⟩ : Addr).add j) = some u := hown.cells (g := g) rfl
      have h2 := Lib.run_append_grow_string (P := P) w t u ty e i (.int .u8 0) ht hu hi hz ⟨g, 0, none⟩ n cap xs (by rw [hsize]; simpa using hxl) holds s (by omega) (by omega) (by rw [hby]; exact growslice_fits (by omega) (by omega))
      rw [h2] at hr
      injection hr with e1 _
      exact .inr (by rw [← e1]; rfl)
theorem wpList_append_str {P : Program} {w : World} {ops : Array Oper} {rest : List Oper} {o : Oper} {a : Act} {Q : Exit → Act → World → Prop} (hgd : o.guard = none) (sl x : Operand) (t u : TypeId)
    (ho : o.op = .call { callee := .builtin .append, args := #[sl, x], argTypes := #[t, u] })
    (base : Nat) (e : TypeId) (i : TypeInfo) (ht : P.underlying t = some (.slice e)) (hu : P.underlying u = some .string) (hi : P.info? e = some i) (hz : i.zero = some (.int .u8 0))
    (hsize : i.size = 1) (hby : i.bytes = 1)
    (v : Value) (l : List UInt8) (hs : a.eval sl = v) (hown : w.ownsRow base e 1 v l.length (l.map u8V)) (s : ByteArray) (hx : a.eval x = .string s)
    (hbytes : l.length + s.size ≤ 140737488355328) (hbase : base ≤ w.heap.size)
    (h : ∀ v' w', w'.ownsRow base e 1 v' (l ++ s.data.toList).length ((l ++ s.data.toList).map u8V) → w.grownBy w' v.ownBlock → (v'.ownBlock = v.ownBlock ∨ v'.ownBlock = some w.heap.size) → wpList P ops Q rest (a.put o.dst v') w') : wpList P ops Q (o :: rest) a w := by
  refine wpList_plain hgd fun K hK => ?_
  have h63 : l.length + s.size ≤ maxLen := by unfold maxLen; omega
  obtain ⟨v', w', hr, h2, h3, _⟩ := Lib.run_append_own_string (P := P) w base t u o.type e i ht hu hi hz hsize hby v _ _ hown s h63 hbytes hbase
  have h4 := append_str_at w base t u o.type e i ht hu hi hz hsize hby v _ _ hown s h63 hbytes hr
  unfold Oper.wp execOp
  simp only [ho, resolve, invoke, builtin, Sem.run_bind, Sem.run_pure, Result.andThen_ok, List.map_toArray, List.map_cons, List.map_nil, hs, hx, hr]
  refine hK _ _ (h v' w' ?_ h3 h4)
  have e1 : (l ++ s.data.toList).length = l.length + s.size := by simp
  have e2 : (l ++ s.data.toList).map u8V = l.map u8V ++ Lib.strCells s := by rw [List.map_append]; rfl
  rw [e1, e2]
  exact h2
def Wr (w : World) (TW TE base g : Nat) (r : Option Nat) (l : List UInt8) : Prop :=
  base ≤ g ∧ ∃ v, w.heap[g]? = some (.cells #[v] TW (0, 0)) ∧ w.ownsRow base TE 1 v l.length (l.map u8V) ∧ v.ownBlock = r
structure WK (w w' : World) (g : Nat) (r r' : Option Nat) : Prop where
  os : w'.os = w.os
  tape : w'.tape = w.tape
  output : w'.output = w.output
  size : w.heap.size ≤ w'.heap.size
  block : ∀ k, k < w.heap.size → k ≠ g → some k ≠ r → w'.heap[k]? = w.heap[k]?
  next : r' = r ∨ ∃ k, r' = some k ∧ w.heap.size ≤ k
theorem WK.refl (w : World) (g : Nat) (r : Option Nat) : WK w w g r r := ⟨rfl, rfl, rfl, Nat.le_refl _, fun _ _ _ _ => rfl, .inl rfl⟩
theorem WK.trans {a b c : World} {g : Nat} {r r1 r2 : Option Nat} (h : WK a b g r r1) (k : WK b c g r1 r2) : WK a c g r r2 := by
  refine ⟨k.os.trans h.os, k.tape.trans h.tape, k.output.trans h.output, Nat.le_trans h.size k.size, fun i hi hg hr => ?_, ?_⟩
  · refine (k.block i (Nat.lt_of_lt_of_le hi h.size) hg ?_).trans (h.block i hi hg hr)
    rcases h.next with rfl | ⟨j, rfl, hj⟩
    · exact hr
    · intro e; injection e with e; omega
  · rcases k.next with rfl | ⟨j, rfl, hj⟩
    · exact h.next
    · exact .inr ⟨j, rfl, Nat.le_trans h.size hj⟩
theorem WK.pre {a b c : World} {g : Nat} {r r' : Option Nat} (h : Below a.heap.size a b) (k : WK b c g r r') : WK a c g r r' := by
  refine ⟨k.os.trans h.os, k.tape.trans h.tape, k.output.trans h.output, Nat.le_trans h.size k.size, fun i hi hg hr => (k.block i (Nat.lt_of_lt_of_le hi h.size) hg hr).trans (h.block i hi), ?_⟩
  rcases k.next with rfl | ⟨j, rfl, hj⟩
  · exact .inl rfl
  · exact .inr ⟨j, rfl, Nat.le_trans h.size hj⟩
theorem WK.post {a b c : World} {g : Nat} {r r' : Option Nat} (k : WK a b g r r') (h : Below b.heap.size b c) : WK a c g r r' :=
  ⟨h.os.trans k.os, h.tape.trans k.tape, h.output.trans k.output, Nat.le_trans k.size h.size, fun i hi hg hr => (h.block i (Nat.lt_of_lt_of_le hi k.size)).trans (k.block i hi hg hr), k.next⟩
section
variable {w w' : World} {TW TE base g : Nat} {r r' : Option Nat} {l : List UInt8}
theorem Wr.lt (h : Wr w TW TE base g r l) : g < w.heap.size := by
  obtain ⟨_, v, hg, _⟩ := h
  exact (Array.getElem?_eq_some_iff.1 hg).1
theorem Wr.row (h : Wr w TW TE base g r l) : ∀ k, r = some k → base ≤ k ∧ k < w.heap.size := by
  obtain ⟨_, v, hg, ho, rfl⟩ := h
  exact ho.lt
theorem Wr.step (h : Wr w TW TE base g r l) (hb : Below w.heap.size w w') : Wr w' TW TE base g r l := by
  obtain ⟨hg, v, hc, ho, rfl⟩ := h
  refine ⟨hg, v, (hb.block g (Array.getElem?_eq_some_iff.1 hc).1).trans hc, ho.kept (row := none) ⟨hb.os, hb.tape, hb.output, hb.size, fun k hk _ => hb.block k hk⟩ ?_, rfl⟩
  cases hv : v.ownBlock <;> simp
theorem Wr.alloc (h : Wr w TW TE base g r l) (o : Obj) : Wr (w.alloc o) TW TE base g r l := h.step (balloc (Below.refl _ _) o)
theorem Wr.drew (h : Wr w TW TE base g r l) : Wr w.drew TW TE base g r l := h.step (bdrew (Below.refl _ _))
theorem Wr.drewN (h : Wr w TW TE base g r l) (n : Nat) : Wr (w.drewN n) TW TE base g r l := h.step (bdrewN (Below.refl _ _) n)
theorem WK.below {w0 : World} (hB : Below w0.heap.size w0 w) (h : WK w w' g r r') (hg : w0.heap.size ≤ g) (hr : ∀ k, r = some k → w0.heap.size ≤ k) : Below w0.heap.size w0 w' :=
  hB.trans ⟨h.os, h.tape, h.output, h.size, fun k hk => h.block k (Nat.lt_of_lt_of_le hk hB.size) (by omega) (fun e => by have := hr k e.symm; omega)⟩
theorem WK.blk (hw : Wr w TW TE base g r l) (h : WK w w' g r r') {b T : Nat} {cs : Array Value} (hb : Blk w b T cs) (h1 : T ≠ TW) (h2 : T ≠ TE) : Blk w' b T cs := by
  obtain ⟨_, v, hg, ho, rfl⟩ := hw
  refine (h.block b hb.lt ?_ ?_).trans hb
  · rintro rfl
    unfold Blk at hb
    rw [hg] at hb
    injection hb with hb
    injection hb with _ ht
    exact h1 ht.symm
  · intro e
    rcases ho.2 with ⟨rfl, _⟩ | ⟨g', cap, cur, rfl, _, hh, _⟩
    · simp [Value.ownBlock] at e
    · simp [Value.ownBlock] at e
      subst e
      unfold Blk at hb
      rw [hh] at hb
      injection hb with hb
      injection hb with _ ht
      exact h2 ht.symm
end
theorem own_ne_of {w : World} {base TE TW n g : Nat} {v : Value} {xs : List Value} {cs : Array Value} (ho : w.ownsRow base TE 1 v n xs) (hg : w.heap[g]? = some (.cells cs TW (0, 0))) (ht : TW ≠ TE) : some g ≠ v.ownBlock := by
  intro e
  rcases ho.2 with ⟨rfl, _⟩ | ⟨g', cap, cur, rfl, _, hh, _⟩
  · simp [Value.ownBlock] at e
  · simp [Value.ownBlock] at e
    subst e
    rw [hh] at hg
    injection hg with hg
    injection hg with _ h2
    exact ht h2.symm
end Go.Gi
end
section
namespace Go.Proofs.Yteokjmjfjdgmpaa
open Go.RowKit Go.Gi
set_option maxRecDepth 20000
attribute [local go_sem] max2_int min2_int max_two min_two
theorem infoU8 : (Try.prog.info? 5).map (fun i => (i.zero, i.size, i.bytes)) = some (some (.int .u8 0), 1, 1) := by kernel_rfl
theorem u8V_ofNat (n k : Nat) : Value.int .u8 ((n : Int) / 256 ^ k % 256) = u8V (UInt8.ofNat (n / 256 ^ k)) := by
  simp [u8V]
set_option maxHeartbeats 400000 in
theorem put_any (n long : Int) (w : World) (h0 : 0 ≤ n) (h1 : n ≤ 18446744073709551615) :
    Calls Try.prog 32 #[.int .u64 n, .int .i64 long] w fun e w' => e = .returned (.string (bs (putL (clamp8 long) n.toNat))) ∧ Below w.heap.size w w' := by
  obtain ⟨i0, hi, hz0, hz1, hz2⟩ := info_parts infoU8
  obtain ⟨m, hm⟩ : ∃ m : Int, min (max long 0) 8 = m := ⟨_, rfl⟩
  have hm0 : 0 ≤ m := by omega
  have hm8 : m ≤ 8 := by omega
  have hc : clamp8 long = m.toNat := by unfold clamp8; rw [hm]
  rw [hc]
  clear hc
  obtain ⟨n, rfl⟩ := Int.eq_ofNat_of_zero_le h0
  go_enter Try.func32, Try.ntmps32
  go_wp2
  go_loopw [0, 5, 9] (fun x v i wr => ∃ k : Nat, k ≤ m.toNat ∧ x = .int .u64 ((n / 256 ^ k : Nat) : Int) ∧ i = .int .i64 k ∧ wr.ownsRow w.heap.size 5 1 v k ((putL k n).map u8V) ∧ Below w.heap.size w wr)
      (fun _ _ i _ => m.toNat - (intOf i).toNat)
  case atStart => exact ⟨0, Nat.zero_le _, by simp, rfl, World.ownsRow_nil _ _ _ _, Below.refl _ _⟩
  case round =>
    obtain ⟨k, hk, rfl, rfl, hown, hb⟩ := hrel
    have Hb := Lib.hid hb
    clear hb
    by_cases hlt : k < m.toNat
    · go_wp2_with (at_builtin; refine wpList_append_own _ rfl _ _ 55 rfl w.heap.size 5 i0 (.int .u8 0) 1 1 Try.underlying55 hi hz0 hz1 hz2 rfl (by decide) _ _ _ rfl (hown.alloc _) ⟨wr.heap.size, 0, none⟩ 1 1 [.int .u8 ((n : Int) / 256 ^ k % 256)] rfl rfl ?c1 ?c2 ?c3 ?c4 ?c5 ?_)
      case c1 => intro j u hj; match j, hj with | 0, hj => simp at hj; subst hj; simp [Addr.add]
      case c2 => intro u hu; simp at hu; subst hu; rfl
      case c3 => unfold maxLen; omega
      case c4 => omega
      case c5 => have := Hb.out.size; simp; omega
      intro v' w1 hown1 hgrow1 _
      have hb1 : Below w.heap.size w w1 := (Hb.out.alloc Hb.out.size _).grown hgrow1 (by have := Hb.out.size; simp; omega) (fun k hk => (hown.lt k hk).1)
      have Hb1 := Lib.hid hb1
      clear hb1 Hb
      rw [u8V_ofNat, ← List.map_singleton, ← List.map_append, ← putL_snoc] at hown1
      go_wp2
      go_roundw
      case rel => exact ⟨k + 1, by omega, by simp only [Value.int.injEq, true_and]; rw [Nat.pow_succ, ← Nat.div_div_eq_div_mul]; simp, by go_num, hown1, Hb1.out⟩
      case measure => simp [intOf]; omega
    · have hcv := own_string (P := Try.prog) Try.underlying55 Try.underlying5 Try.underlying9 hown
      obtain rfl : k = m.toNat := by omega
      go_wp2
      go_ret
      exact ⟨by simp, Hb.out⟩
end Go.Proofs.Yteokjmjfjdgmpaa
end
section
namespace Go.Proofs.Yteokjmjfjdgmpaa
open Go.RowKit Go.Gi
set_option maxRecDepth 20000
set_option maxHeartbeats 400000 in
theorem more_any (sum : Int) (s : ByteArray) (w : World) (hs : s.size ≤ maxLen) :
    Calls Try.prog 58 #[.int .u32 sum, .string s] w fun e w' => e = .returned (.int .u32 (sumL sum s.data.toList)) ∧ w' = w := by
  unfold maxLen at hs
  have hr0 := bits_u32_range .xor sum 4294967295
  obtain ⟨r0, hr⟩ : ∃ r0, bits .xor .u32 sum 4294967295 = r0 := ⟨_, rfl⟩
  have hsum : sumL sum s.data.toList = bits .xor .u32 (crcL r0 s.data.toList) 4294967295 := by unfold sumL; rw [hr]
  rw [hsum]
  rw [hr] at hr0
  clear hsum
  go_enter Try.func58, Try.ntmps58
  go_wp2
  clear hr
  go_loop [5, 6, 11] (fun r _ i => ∃ k : Nat, k ≤ s.size ∧ i = .int .i64 k ∧ r = .int .u32 (crcL r0 (s.data.toList.take k)))
      (fun _ _ i => s.size - (intOf i).toNat)
  case atStart => exact ⟨0, Nat.zero_le _, rfl, rfl⟩
  case round =>
    obtain ⟨k, hk, rfl, rfl⟩ := hrel
    have hz := crcL_range hr0 (s.data.toList.take k)
    by_cases hlt : k < s.size
    · have hsn : crcL r0 (s.data.toList.take (k + 1)) = crcB (crcL r0 (s.data.toList.take k)) s[k] := by rw [take_snoc s k hlt, crcL_snoc]
      have Hsn := Lib.hid hsn
      clear hsn
      generalize crcL r0 (s.data.toList.take k) = z at *
      have hy := bits_u32_range .xor z s[k].toNat
      obtain ⟨hz0, hz1⟩ := hz
      have hbt : (s[k].toNat : Int) < 256 := by have := s[k].toNat_lt; omega
      go_wp2
      unfold crcB at Hsn
      generalize bits .xor .u32 z ↑s[k].toNat = x0 at *
      clear hbt
      go_loop [5, 20] (fun r i => ∃ j : Nat, j ≤ 8 ∧ i = .int .i64 j ∧ r = .int .u32 (bitN j x0))
         (fun _ i => 8 - (intOf i).toNat)
      case atStart => exact ⟨0, by omega, rfl, rfl⟩
      case round =>
        obtain ⟨j, hj, rfl, rfl⟩ := hrel
        obtain ⟨hy0, hy1⟩ := bitN_range hy j
        by_cases hl8 : j < 8
        · have H1 := Lib.hid (show bitN (j + 1) x0 = bit1 (bitN j x0) from rfl)
          generalize bitN j x0 = y at *
          unfold bit1 at H1
          by_cases hb : bits .and .u32 y 1 = 1
          · have Hb := Lib.hid hb
            have hb' : (bits .and .u32 y 1 == 1) = true := by simp [hb]
            clear hb
            go_wp2
            go_round
            case rel => exact ⟨j + 1, by omega, by go_num, by rw [H1.out, if_pos Hb.out]⟩
            case measure => simp [intOf]; omega
          · have Hb := Lib.hid hb
            have hb' : (bits .and .u32 y 1 == 1) = false := by simp [hb]
            clear hb
            go_wp2
            go_round
            case rel => exact ⟨j + 1, by omega, by go_num, by rw [H1.out, if_neg Hb.out]⟩
            case measure => simp [intOf]; omega
        · obtain rfl : j = 8 := by omega
          go_wp2
          go_round
          case rel => exact ⟨k + 1, by omega, by go_num, by rw [Hsn.out]⟩
          case measure => simp [intOf]; omega
    · obtain rfl : k = s.size := by omega
      go_wp2
      go_ret
      exact ⟨ret_int (by rw [List.take_of_length_le (by simp)]), rfl⟩
end Go.Proofs.Yteokjmjfjdgmpaa
end
section
namespace Go.Proofs.Yteokjmjfjdgmpaa
open Go.RowKit Go.Gi
set_option maxRecDepth 20000
theorem sum_any (s : ByteArray) (w : World) (hs : s.size ≤ maxLen) :
    Calls Try.prog 33 #[.string s] w fun e w' => e = .returned (.int .u32 (sumL 0 s.data.toList)) ∧ w' = w := by
  go_enter Try.func33, Try.ntmps33
  go_wp2_with (go_at_call 58; refine (more_any _ _ _ hs).mono ?_; rintro e w' ⟨rfl, rfl⟩)
  go_ret
  exact ⟨rfl, rfl⟩
end Go.Proofs.Yteokjmjfjdgmpaa
end
section
namespace Go.Proofs.Yteokjmjfjdgmpaa
open Go.RowKit Go.Gi
set_option maxRecDepth 20000
set_option linter.unusedVariables false
theorem newWriter_any (w : World) (base : Nat) (hb : base ≤ w.heap.size) :
    Calls Try.prog 27 #[] w fun e w' => ∃ g, e = .returned (.pointer (some ⟨g, 0, none⟩)) ∧ Wr w' 98 5 base g none [] ∧ g = w.heap.size ∧ Below w.heap.size w w' := by
  go_enter Try.func27, Try.ntmps27
  go_wp2
  go_ret
  exact ⟨_, rfl, ⟨hb, _, Blk.new w _ _, World.ownsRow_nil _ _ _ _, rfl⟩, rfl, balloc (Below.refl _ _) _⟩
theorem own_slice {w : World} {base e size n : Nat} {v : Value} {xs : List Value} (h : w.ownsRow base e size v n xs) : ∃ A c, v = .slice A n c := by
  rcases h.2 with ⟨rfl, rfl⟩ | ⟨g, cap, _, rfl, _⟩
  · exact ⟨_, _, rfl⟩
  · exact ⟨_, _, rfl⟩
set_option maxHeartbeats 800000 in
theorem wbytes_any {w : World} {base g : Nat} {r : Option Nat} {l : List UInt8} (h : Wr w 98 5 base g r l) (s : ByteArray) (hs : l.length + s.size ≤ 140737488355328) :
    Calls Try.prog 29 #[.pointer (some ⟨g, 0, none⟩), .string s] w fun e w' => e = .returned (.tuple #[]) ∧ ∃ r', Wr w' 98 5 base g r' (l ++ s.data.toList) ∧ WK w w' g r r' := by
  obtain ⟨i0, hi, hz0, hz1, hz2⟩ := info_parts infoU8
  have hlt := h.lt
  obtain ⟨hbg, v, hg, hown, rfl⟩ := h
  obtain ⟨A, c, rfl⟩ := own_slice hown
  have c0 : w.cell? ⟨g, 0, none⟩ = some (.slice A l.length c) := by simp [World.cell?, hg]
  have f0 : w.frozen? ⟨g, 0, none⟩ = false := by simp [World.frozen?, hg]
  have HG := Lib.hid hg
  clear hg
  have hbs : base ≤ w.heap.size := by omega
  go_enter Try.func29, Try.ntmps29
  go_wp2_with (at_builtin; refine wpList_append_str rfl _ _ 55 9 rfl base 5 i0 Try.underlying55 Try.underlying9 hi hz0 hz1 hz2 _ l rfl hown s rfl hs hbs ?_; intro v1 w1 hown1 hg1 hat; obtain ⟨A1, c1, rfl⟩ := own_slice hown1; have hne : some g ≠ (Value.slice A l.length c).ownBlock := (own_ne_of hown HG.out (by decide)); have HG1 := Lib.hid ((hg1.block g hlt hne).trans HG.out); have k0 : w1.cell? ⟨g, 0, none⟩ = some (.slice A l.length c) := (by have := HG1.out; simp [World.cell?, this]); have kf : w1.frozen? ⟨g, 0, none⟩ = false := (by have := HG1.out; simp [World.frozen?, this]); have Hown1 := Lib.hid hown1; have Hat := Lib.hid hat; have Hg1 := Lib.hid hg1; clear hown1 hat hg1)
  go_end0
  have hlen : (l ++ s.data.toList).length = l.length + s.size := by simp
  have Hown2 := Hown1.out
  have Hat2 := Hat.out
  have hg2 : w.grownBy w1 (Value.slice A l.length c).ownBlock := Hg1.out
  have hat2 : (Value.slice A1 (l.length + s.size) c1).ownBlock = (Value.slice A l.length c).ownBlock ∨ (Value.slice A1 (l.length + s.size) c1).ownBlock = some w.heap.size := by
    rw [hlen] at Hat2
    exact Hat2
  clear Hat2
  have hown2 : w1.ownsRow base 5 1 (Value.slice A1 (l.length + s.size) c1) (l ++ s.data.toList).length (List.map u8V (l ++ s.data.toList)) := by
    rw [← hlen]; exact Hown2
  clear Hown2
  have hne1 : some g ≠ (Value.slice A1 (l.length + s.size) c1).ownBlock := own_ne_of hown2 HG1.out (by decide)
  have HB : Blk w1 g 98 #[.slice A l.length c] := HG1.out
  have hset := gset (World.grownBy.refl w1 (some g)) 0 (.slice A1 (l.length + s.size) c1)
  refine ⟨rfl, _, ⟨hbg, _, HB.set_ 0 _, hown2.kept hset (.inr (fun e => hne1 e.symm)), rfl⟩, ⟨hset.os.trans hg2.os, hset.tape.trans hg2.tape, hset.output.trans hg2.output, Nat.le_trans hg2.size hset.size, fun k hk hkg hkr => ?_, ?_⟩⟩
  · exact (hset.block k (Nat.lt_of_lt_of_le hk hg2.size) (fun e => hkg (by injection e))).trans (hg2.block k hk hkr)
  · rcases hat2 with h | h
    · exact .inl h
    · exact .inr ⟨_, h, Nat.le_refl _⟩
theorem wnumber_any {w : World} {base g : Nat} {r : Option Nat} {l : List UInt8} (h : Wr w 98 5 base g r l) (n long : Int) (h0 : 0 ≤ n) (h1 : n ≤ 18446744073709551615) (hs : l.length + 8 ≤ 140737488355328) :
    Calls Try.prog 28 #[.pointer (some ⟨g, 0, none⟩), .int .u64 n, .int .i64 long] w fun e w' => e = .returned (.tuple #[]) ∧ ∃ r', Wr w' 98 5 base g r' (l ++ putL (clamp8 long) n.toNat) ∧ WK w w' g r r' := by
  have H := Lib.hid h
  clear h
  have h8 : clamp8 long ≤ 8 := by unfold clamp8; omega
  have hl : l.length + (bs (putL (clamp8 long) n.toNat)).size ≤ 140737488355328 := by rw [bs_size, putL_length]; omega
  go_enter Try.func28, Try.ntmps28
  go_wp2_with (first | (go_at_call 32; refine (put_any _ _ _ h0 h1).mono ?_; rintro e w1 ⟨rfl, hb1⟩; have Hb1 := Lib.hid hb1; clear hb1) | (go_at_call 29; refine (wbytes_any (H.out.step Hb1.out) _ hl).mono ?_; rintro e w2 ⟨rfl, r2, hw2, hk2⟩; have Hw2 := Lib.hid hw2; have Hk2 := Lib.hid hk2; clear hw2 hk2))
  go_end0
  refine ⟨rfl, r2, ?_, WK.pre Hb1.out Hk2.out⟩
  have := Hw2.out
  rw [toList_bs] at this
  exact this
theorem wlen_any {w : World} {base g : Nat} {r : Option Nat} {l : List UInt8} (h : Wr w 98 5 base g r l) :
    Calls Try.prog 31 #[.pointer (some ⟨g, 0, none⟩)] w fun e w' => e = .returned (.int .i64 l.length) ∧ w' = w := by
  obtain ⟨hbg, v, hg, hown, rfl⟩ := h
  obtain ⟨A, c, rfl⟩ := own_slice hown
  have c0 : w.cell? ⟨g, 0, none⟩ = some (.slice A l.length c) := by simp [World.cell?, hg]
  clear hg hown
  go_enter Try.func31, Try.ntmps31
  go_wp2
  go_ret
  exact ⟨rfl, rfl⟩
theorem wall_any {w : World} {base g : Nat} {r : Option Nat} {l : List UInt8} (h : Wr w 98 5 base g r l) :
    Calls Try.prog 34 #[.pointer (some ⟨g, 0, none⟩)] w fun e w' => e = .returned (.string (bs l)) ∧ w' = w := by
  obtain ⟨hbg, v, hg, hown, rfl⟩ := h
  have hcv := own_string (P := Try.prog) Try.underlying55 Try.underlying5 Try.underlying9 hown
  obtain ⟨A, c, rfl⟩ := own_slice hown
  have c0 : w.cell? ⟨g, 0, none⟩ = some (.slice A l.length c) := by simp [World.cell?, hg]
  clear hg hown
  go_enter Try.func34, Try.ntmps34
  go_wp2
  go_ret
  exact ⟨rfl, rfl⟩
end Go.Proofs.Yteokjmjfjdgmpaa
end
section
namespace Go.Proofs.Yteokjmjfjdgmpaa
open Go.RowKit Go.Gi Go.GiRow
set_option maxRecDepth 20000
set_option linter.unusedSimpArgs false
set_option linter.unusedVariables false
theorem c8_1' : clamp8 1 = 1 := rfl
theorem c8_2' : clamp8 2 = 2 := rfl
theorem c8_4' : clamp8 4 = 4 := rfl
theorem c8_8' : clamp8 8 = 8 := rfl
set_option maxHeartbeats 16000000 in
theorem pgenc_arg (num lsn kind : Int) (head : ByteArray) (slots : List ByteArray) (AA : Option Addr) (cc : Nat) (w : World) (h : kind < 0 ∨ 255 < kind ∨ 32 < head.size ∨ 64 < slots.length) :
    Calls Try.prog 8 #[.agg #[.int .u32 num, .int .u64 lsn, .int .i64 kind, .string head, .slice AA slots.length cc]] w fun e w' => e = .returned (.tuple #[.string ⟨#[]⟩, .int .i64 1]) ∧ Below w.heap.size w w' := by
  have h' : kind < 0 ∨ (¬ kind < 0 ∧ 255 < kind) ∨ (¬ kind < 0 ∧ ¬ 255 < kind ∧ (32 : Int) < head.size) ∨ (¬ kind < 0 ∧ ¬ 255 < kind ∧ ¬ (32 : Int) < head.size ∧ (64 : Int) < slots.length) := by omega
  clear h
  rcases h' with h1 | ⟨h1, h2⟩ | ⟨h1, h2, h3⟩ | ⟨h1, h2, h3, h4⟩
  · have d1 : decide (kind < 0) = true := by simpa using h1
    go_enter Try.func8, Try.ntmps8
    go_wp2
    go_ret2
    exact ⟨rfl, balloc (Below.refl _ _) _⟩
  · have d1 : decide (kind < 0) = false := by simpa using h1
    have d2 : decide (255 < kind) = true := by simpa using h2
    go_enter Try.func8, Try.ntmps8
    go_wp2
    go_ret2
    exact ⟨rfl, balloc (Below.refl _ _) _⟩
  · have d1 : decide (kind < 0) = false := by simpa using h1
    have d2 : decide (255 < kind) = false := by simpa using h2
    have d3 : decide ((32 : Int) < head.size) = true := by simp; omega
    go_enter Try.func8, Try.ntmps8
    go_wp2
    go_ret2
    exact ⟨rfl, balloc (Below.refl _ _) _⟩
  · have d1 : decide (kind < 0) = false := by simpa using h1
    have d2 : decide (255 < kind) = false := by simpa using h2
    have d3 : decide ((32 : Int) < head.size) = false := by simp; omega
    have d4 : decide ((64 : Int) < slots.length) = true := by simp; omega
    go_enter Try.func8, Try.ntmps8
    go_wp2
    go_ret2
    exact ⟨rfl, balloc (Below.refl _ _) _⟩
set_option maxHeartbeats 16000000 in
theorem pgenc_full (num lsn kind : Int) (head : ByteArray) (slots : List ByteArray) (AA : Option Addr) (cc : Nat) (w : World) (hA : RdRows strC 1 w AA slots) (hs : ∀ s ∈ slots, s.size ≤ 140737488351232)
    (h1 : 0 ≤ kind) (h2 : kind ≤ 255) (h3 : head.size ≤ 32) (h4 : slots.length ≤ 64) (h5 : 485 < head.size + slotsN slots) :
    Calls Try.prog 8 #[.agg #[.int .u32 num, .int .u64 lsn, .int .i64 kind, .string head, .slice AA slots.length cc]] w fun e w' => e = .returned (.tuple #[.string ⟨#[]⟩, .int .i64 30]) ∧ Below w.heap.size w w' := by
  have d1 : decide (kind < 0) = false := by simp; omega
  have d2 : decide (255 < kind) = false := by simp; omega
  have d3 : decide ((32 : Int) < head.size) = false := by simp; omega
  have d4 : decide ((64 : Int) < slots.length) = false := by simp; omega
  have hroom := fun (w' : World) (hb : Below w.heap.size w w') => room_any num lsn kind head slots AA cc w' (rows_bl1 hA hb) h4 hs (by omega)
  have HR := Lib.hid hroom
  have d5 : decide ((485 : Int) - head.size - slotsN slots < 0) = true := by simp; omega
  clear hroom hA hs h1 h2 h3 h4 h5
  generalize (485 : Int) - head.size - slotsN slots = rm at *
  go_enter Try.func8, Try.ntmps8
  go_upto_region 1 with fail
  have hB := Blk.new w 28 #[.int .u32 num, .int .u64 lsn, .int .i64 kind, .string head, .slice AA slots.length cc]
  have hW := balloc (Below.refl w.heap.size w) (.cells #[.int .u32 num, .int .u64 lsn, .int .i64 kind, .string head, .slice AA slots.length cc] 28)
  obtain ⟨c0, c1, c2, c3, c4⟩ := pgCells hB
  have HB := Lib.hid hB
  have HK := Lib.hid hW
  clear hB hW
  generalize w.alloc (.cells #[.int .u32 num, .int .u64 lsn, .int .i64 kind, .string head, .slice AA slots.length cc] 28) = w0 at *
  go_wp2_with (first | (refine wpList_load_row rfl 28 (.tmp 1) rfl w.heap.size rfl 28 #[.int .u32 num, .int .u64 lsn, .int .i64 kind, .string head, .slice AA slots.length cc] (0, 0) _ HB.out Try.underlying28 rfl (by kernel_rfl) ?_) | (go_at_call 14; refine (HR.out _ HK.out).mono ?_; rintro e w1 ⟨rfl, hb1⟩; have HK1 := Lib.hid (bstep HK.out hb1); clear hb1))
  go_ret2
  exact ⟨rfl, HK1.out⟩
theorem sum_any0 (s : ByteArray) (w : World) (hs : s.size ≤ maxLen) :
    Calls Try.prog 33 #[.string s] w fun e w' => e = .returned (.int .u32 (sumL 0 s.data.toList)) ∧ w' = w := by
  have HS := Lib.hid hs
  clear hs
  go_enter Try.func33, Try.ntmps33
  go_wp2_with (go_at_call 58; refine (more_any _ _ _ HS.out).mono ?_; rintro e w' ⟨rfl, rfl⟩)
  go_ret
  exact ⟨rfl, rfl⟩
theorem zeros_any (m : Nat) (hm : m ≤ 500) (w : World) :
    Calls Try.prog 30 #[.string ⟨#[0]⟩, .int .i64 (500 - (m : Int))] w fun e w' => e = .returned (.string (bs (List.replicate (500 - m) 0))) ∧ Below w.heap.size w w' := by
  have h := Go.Proofs.Try.strings_Repeat ⟨#[0]⟩ (500 - m) w (by omega) (by show 1 * (500 - m) ≤ _; omega)
  have e1 : (500 - (m : Int)) = ((500 - m : Nat) : Int) := by omega
  have e2 : Lib.repeatL (ByteArray.mk #[0]).data.toList (500 - m) = List.replicate (500 - m) 0 := by
    have := Lib.repeatL_replicate 0 1 (500 - m)
    simpa using this
  rw [e1]
  rw [e2] at h
  exact h
set_option maxHeartbeats 16000000 in
theorem pgenc_ok (num lsn kind : Int) (head : ByteArray) (slots : List ByteArray) (AA : Option Addr) (cc : Nat) (w : World) (hA : RdRows strC 1 w AA slots)
    (hn0 : 0 ≤ num) (hn1 : num ≤ 4294967295) (hl0 : 0 ≤ lsn) (hl1 : lsn ≤ 18446744073709551615)
    (h1 : 0 ≤ kind) (h2 : kind ≤ 255) (h3 : head.size ≤ 32) (h4 : slots.length ≤ 64) (h5 : head.size + slotsN slots ≤ 485) :
    Calls Try.prog 8 #[.agg #[.int .u32 num, .int .u64 lsn, .int .i64 kind, .string head, .slice AA slots.length cc]] w fun e w' => e = .returned (.tuple #[.string (bs (pgAll num lsn kind head slots)), .int .i64 0]) ∧ Below w.heap.size w w' := by
  have d1 : decide (kind < 0) = false := by simp; omega
  have d2 : decide (255 < kind) = false := by simp; omega
  have d3 : decide ((32 : Int) < head.size) = false := by simp; omega
  have d4 : decide ((64 : Int) < slots.length) = false := by simp; omega
  have hs : ∀ s ∈ slots, s.size ≤ 485 := fun s hs => by
    obtain ⟨a, b, rfl⟩ := List.append_of_mem hs
    have := slotsN_append a (s :: b)
    rw [slotsN_cons] at this
    omega
  have hroom := fun (w' : World) (hb : Below w.heap.size w w') => room_any num lsn kind head slots AA cc w' (rows_bl1 hA hb) h4 (fun s h => by have := hs s h; omega) (by omega)
  have HR := Lib.hid hroom
  have d5 : decide ((485 : Int) - head.size - slotsN slots < 0) = false := by simp; omega
  have HS := Lib.hid hs
  have hLens : ∀ k, (lensB (slots.take k)).length ≤ 128 := fun k => by rw [lensB_len, List.length_take]; omega
  have hTxts : ∀ k, (txtsB (slots.take k)).length ≤ 485 := fun k => by
    have := txtsB_len (slots.take k)
    have := slotsN_take_le slots k
    omega
  have HLn := Lib.hid hLens
  have HTx := Lib.hid hTxts
  obtain ⟨LL, hLL⟩ : ∃ L, L = pgAll num lsn kind head slots := ⟨_, rfl⟩
  have hTL := pgTop_len num lsn kind head slots
  have hTop : pgTop num lsn kind head slots = putL 8 lsn.toNat ++ putL 4 num.toNat ++ putL 1 kind.toNat ++ putL 1 head.size ++ head.data.toList ++ putL 1 slots.length ++ lensB slots ++ txtsB slots := rfl
  unfold pgAll pgBody at hLL
  have hAll : pgAll num lsn kind head slots = LL := by rw [hLL]; rfl
  rw [hAll]
  obtain ⟨TT, hTT⟩ : ∃ T, T = pgTop num lsn kind head slots := ⟨_, rfl⟩
  rw [← hTT] at hLL hTL hTop
  have hTm : TT.length ≤ 500 := by omega
  have HLL := Lib.hid hLL
  have HTop := Lib.hid hTop
  have HA := Lib.hid hA
  clear hroom hA hs hLens hTxts hLL hTop hAll hTT hTL
  generalize (485 : Int) - head.size - slotsN slots = rm at *
  go_enter Try.func8, Try.ntmps8
  go_upto_region 1 with fail
  have hB := Blk.new w 28 #[.int .u32 num, .int .u64 lsn, .int .i64 kind, .string head, .slice AA slots.length cc]
  have hW := balloc (Below.refl w.heap.size w) (.cells #[.int .u32 num, .int .u64 lsn, .int .i64 kind, .string head, .slice AA slots.length cc] 28)
  obtain ⟨c0, c1, c2, c3, c4⟩ := pgCells hB
  have HB := Lib.hid hB
  have HK := Lib.hid hW
  clear hB hW
  generalize w.alloc (.cells #[.int .u32 num, .int .u64 lsn, .int .i64 kind, .string head, .slice AA slots.length cc] 28) = w0 at *
  go_upto_region 6 with (first | (refine wpList_load_row rfl 28 (.tmp 1) rfl w.heap.size rfl 28 #[.int .u32 num, .int .u64 lsn, .int .i64 kind, .string head, .slice AA slots.length cc] (0, 0) _ HB.out Try.underlying28 rfl (by kernel_rfl) ?_) | (go_at_call 14; refine (HR.out _ HK.out).mono ?_; rintro e w1 ⟨rfl, hb1⟩; clear c0 c1 c2 c3 c4; obtain ⟨c0, c1, c2, c3, c4⟩ := pgCells (HB.out.step hb1); have HB1 := Lib.hid (HB.out.step hb1); have HK1 := Lib.hid (bstep HK.out hb1); clear hb1 HB HK; have HB := HB1; have HK := HK1; clear HB1 HK1) | (go_at_call 27; refine (newWriter_any _ w.heap.size HK.out.size).mono ?_; rintro e w1 ⟨g, rfl, h1, hg, hb1⟩; have HW := Lib.hid h1; clear c0 c1 c2 c3 c4; obtain ⟨c0, c1, c2, c3, c4⟩ := pgCells (HB.out.step hb1); have HB1 := Lib.hid (HB.out.step hb1); have HK1 := Lib.hid (bstep HK.out hb1); clear hb1 h1 hg HB HK; have HB := HB1; have HK := HK1; clear HB1 HK1))
  go_upto_region 12 with (first | (go_at_call 28; refine (wnumber_any HW.out _ _ (by omega) (by omega) (by simp [clamp8, putL_length]; try omega)).mono ?_; rintro e w1 ⟨rfl, r1, h1, k1⟩; clear c0 c1 c2 c3 c4; obtain ⟨c0, c1, c2, c3, c4⟩ := pgCells (WK.blk HW.out k1 HB.out (by decide) (by decide)); have HB1 := Lib.hid (WK.blk HW.out k1 HB.out (by decide) (by decide)); have HK1 := Lib.hid (k1.below HK.out HW.out.1 (fun j e => (HW.out.row j e).1)); have HW1 := Lib.hid h1; clear HW HB HK h1 k1; have HW := HW1; have HB := HB1; have HK := HK1; clear HW1 HB1 HK1) | (go_at_call 29; refine (wbytes_any HW.out _ (by simp [clamp8, putL_length]; try omega)).mono ?_; rintro e w1 ⟨rfl, r1, h1, k1⟩; clear c0 c1 c2 c3 c4; obtain ⟨c0, c1, c2, c3, c4⟩ := pgCells (WK.blk HW.out k1 HB.out (by decide) (by decide)); have HB1 := Lib.hid (WK.blk HW.out k1 HB.out (by decide) (by decide)); have HK1 := Lib.hid (k1.below HK.out HW.out.1 (fun j e => (HW.out.row j e).1)); have HW1 := Lib.hid h1; clear HW HB HK h1 k1; have HW := HW1; have HB := HB1; have HK := HK1; clear HW1 HB1 HK1))
  have hw1 := HW.out
  rw [List.nil_append, c8_1', c8_4', c8_8', Int.toNat_natCast, Int.toNat_natCast] at hw1
  have HW1 := Lib.hid hw1
  clear HW hw1
  have HW := HW1
  clear HW1
  generalize hL1 : putL 8 lsn.toNat ++ putL 4 num.toNat ++ putL 1 kind.toNat ++ putL 1 head.size ++ head.data.toList ++ putL 1 slots.length = L1 at *
  have hL1l : L1.length ≤ 47 := by rw [← hL1]; simp [putL_length]; omega
  clear hL1
  go_wp2
  go_loopw [6, 68] (fun _ i wr => ∃ (k : Nat) (rx : Option Nat), k ≤ slots.length ∧ i = .int .i64 k ∧ Wr wr 98 5 w.heap.size g rx (L1 ++ lensB (slots.take k)) ∧ Blk wr w.heap.size 28 #[.int .u32 num, .int .u64 lsn, .int .i64 kind, .string head, .slice AA slots.length cc] ∧ Below w.heap.size w wr)
    (fun _ i _ => slots.length - (intOf i).toNat)
  case atStart => exact ⟨0, _, Nat.zero_le _, rfl, by simpa [lensB] using HW.out, HB.out, HK.out⟩
  case round =>
    obtain ⟨k, rx, hk, rfl, hwr, hbr, hkr⟩ := hrel
    clear c0 c1 c2 c3 c4 HW HB HK
    have HW := Lib.hid hwr
    have HB := Lib.hid hbr
    have HK := Lib.hid hkr
    clear hwr hbr hkr
    by_cases hlt : k < slots.length
    · obtain ⟨b, off, rfl, hc, hbz⟩ := rows_at HA.out HK.out k hlt
      have hst := Lib.hid (lensB_take slots k hlt)
      have hsz := HS.out _ (List.getElem_mem hlt)
      have hlk := HLn.out k
      generalize slots[k] = s at *
      generalize lensB (slots.take k) = sn at *
      have i0 : (0 : Int) ≤ k := by omega
      have i1 : (k : Int) < slots.length := by omega
      go_wp2_with (go_at_call 28; refine (wnumber_any HW.out _ _ (by omega) (by omega) (by simp; omega)).mono ?_; rintro e w1 ⟨rfl, r1, h1, k1⟩; have HB1 := Lib.hid (WK.blk HW.out k1 HB.out (by decide) (by decide)); have HK1 := Lib.hid (k1.below HK.out HW.out.1 (fun j e => (HW.out.row j e).1)); have HW1 := Lib.hid h1; clear HW HB HK h1 k1 hc)
      go_roundw
      case rel =>
        refine ⟨k + 1, r1, by omega, by go_num, ?_, HB1.out, HK1.out⟩
        have := HW1.out
        rw [hst.out, ← List.append_assoc]
        rw [c8_2', Int.toNat_natCast] at this
        exact this
      case measure => simp [intOf]; omega
    · obtain rfl : k = slots.length := by omega
      rw [List.take_length] at HW
      obtain ⟨c0, c1, c2, c3, c4⟩ := pgCells HB.out
      have hl2 := HLn.out slots.length
      rw [List.take_length] at hl2
      generalize lensB slots = L2 at *
      go_wp2
      go_loopw [8, 81] (fun _ i wr => ∃ (k : Nat) (rx : Option Nat), k ≤ slots.length ∧ i = .int .i64 k ∧ Wr wr 98 5 w.heap.size g rx (L1 ++ L2 ++ txtsB (slots.take k)) ∧ Blk wr w.heap.size 28 #[.int .u32 num, .int .u64 lsn, .int .i64 kind, .string head, .slice AA slots.length cc] ∧ Below w.heap.size w wr)
        (fun _ i _ => slots.length - (intOf i).toNat)
      case atStart => exact ⟨0, _, Nat.zero_le _, rfl, by simpa [txtsB] using HW.out, HB.out, HK.out⟩
      case round =>
        obtain ⟨k, rx, hk, rfl, hwr, hbr, hkr⟩ := hrel
        clear c0 c1 c2 c3 c4 HW HB HK
        have HW := Lib.hid hwr
        have HB := Lib.hid hbr
        have HK := Lib.hid hkr
        clear hwr hbr hkr
        by_cases hlt : k < slots.length
        · obtain ⟨b, off, rfl, hc, hbz⟩ := rows_at HA.out HK.out k hlt
          have hst := Lib.hid (txtsB_take slots k hlt)
          have hsz := HS.out _ (List.getElem_mem hlt)
          have hlk := HTx.out k
          generalize slots[k] = s at *
          generalize txtsB (slots.take k) = sn at *
          have i0 : (0 : Int) ≤ k := by omega
          have i1 : (k : Int) < slots.length := by omega
          go_wp2_with (go_at_call 29; refine (wbytes_any HW.out _ (by simp; omega)).mono ?_; rintro e w1 ⟨rfl, r1, h1, k1⟩; have HB1 := Lib.hid (WK.blk HW.out k1 HB.out (by decide) (by decide)); have HK1 := Lib.hid (k1.below HK.out HW.out.1 (fun j e => (HW.out.row j e).1)); have HW1 := Lib.hid h1; clear HW HB HK h1 k1 hc)
          go_roundw
          case rel =>
            refine ⟨k + 1, r1, by omega, by go_num, ?_, HB1.out, HK1.out⟩
            have := HW1.out
            rw [hst.out, ← List.append_assoc]
            exact this
          case measure => simp [intOf]; omega
        · obtain rfl : k = slots.length := by omega
          rw [List.take_length, ← HTop.out] at HW
          obtain ⟨c0, c1, c2, c3, c4⟩ := pgCells HB.out
          clear HTop
          have hz500 : IntKind.i64.wrap (500 - (TT.length : Int)) = 500 - (TT.length : Int) := IntWalk.i64_in _ (by omega)
          go_upto_region 24 with (first | (go_at_call 31; refine (wlen_any HW.out).mono ?_; rintro e w1 ⟨rfl, rfl⟩) | (go_at_call 30; refine (zeros_any _ hTm _).mono ?_; rintro e w1 ⟨rfl, hb1⟩; clear c0 c1 c2 c3 c4; obtain ⟨c0, c1, c2, c3, c4⟩ := pgCells (HB.out.step hb1); have HW1 := Lib.hid (HW.out.step hb1); have HB1 := Lib.hid (HB.out.step hb1); have HK1 := Lib.hid (bstep HK.out hb1); clear hb1 HB HK HW; have HW := HW1; have HB := HB1; have HK := HK1; clear HB1 HK1 HW1) | (go_at_call 29; refine (wbytes_any HW.out _ (by rw [bs_size]; simp; omega)).mono ?_; rintro e w1 ⟨rfl, r1, h1, k1⟩; clear c0 c1 c2 c3 c4; obtain ⟨c0, c1, c2, c3, c4⟩ := pgCells (WK.blk HW.out k1 HB.out (by decide) (by decide)); have HB1 := Lib.hid (WK.blk HW.out k1 HB.out (by decide) (by decide)); have HK1 := Lib.hid (k1.below HK.out HW.out.1 (fun j e => (HW.out.row j e).1)); have HW1 := Lib.hid h1; clear HW HB HK h1 k1; have HW := HW1; have HB := HB1; have HK := HK1; clear HW1 HB1 HK1) | (go_at_call 28; refine (wnumber_any HW.out _ _ (by omega) (by omega) (by simp [bs_size, toList_bs]; omega)).mono ?_; rintro e w1 ⟨rfl, r1, h1, k1⟩; clear c0 c1 c2 c3 c4; obtain ⟨c0, c1, c2, c3, c4⟩ := pgCells (WK.blk HW.out k1 HB.out (by decide) (by decide)); have HB1 := Lib.hid (WK.blk HW.out k1 HB.out (by decide) (by decide)); have HK1 := Lib.hid (k1.below HK.out HW.out.1 (fun j e => (HW.out.row j e).1)); have HW1 := Lib.hid h1; clear HW HB HK h1 k1; have HW := HW1; have HB := HB1; have HK := HK1; clear HW1 HB1 HK1))
          have hw1 := HW.out
          rw [toList_bs, c8_8'] at hw1
          have HW1 := Lib.hid hw1
          clear HW hw1
          have HW := HW1
          clear HW1
          have hbl : (TT ++ List.replicate (500 - TT.length) 0 ++ putL 8 lsn.toNat).length = 508 := by simp [putL_length]; omega
          generalize TT ++ List.replicate (500 - TT.length) 0 ++ putL 8 lsn.toNat = BB at *
          obtain ⟨s0, s1⟩ := sumL_range 0 BB
          have HSm := Lib.hid (fun W => sum_any0 (bs BB) W (by rw [bs_size]; unfold maxLen; omega))
          rw [toList_bs] at HSm
          have hcat : ¬ 9223372036854775807 < (bs (putL (clamp8 4) (sumL 0 BB).toNat)).size + (bs BB).size := by rw [bs_size, bs_size, putL_length, hbl]; decide
          go_wp2_with (first | (go_at_call 34; refine (wall_any HW.out).mono ?_; rintro e w1 ⟨rfl, rfl⟩) | (go_at_call 33; refine (HSm.out _).mono ?_; rintro e w1 ⟨rfl, rfl⟩) | (go_at_call 32; refine (put_any _ _ _ s0 (by omega)).mono ?_; rintro e w1 ⟨rfl, hb1⟩; have HW1 := Lib.hid (HW.out.step hb1); have HK1 := Lib.hid (bstep HK.out hb1); clear hb1 HW HK; have HW := HW1; have HK := HK1; clear HW1 HK1))
          all_goals first
            | (go_ret2; refine ⟨?_, HK.out⟩; rw [bs_append, c8_4', HLL.out]; rfl)
            | exact absurd (by assumption) hcat
theorem pgenc_any (num lsn kind : Int) (head : ByteArray) (slots : List ByteArray) (AA : Option Addr) (cc : Nat) (w : World) (hA : RdRows strC 1 w AA slots) (hs : ∀ s ∈ slots, s.size ≤ 140737488351232)
    (hn0 : 0 ≤ num) (hn1 : num ≤ 4294967295) (hl0 : 0 ≤ lsn) (hl1 : lsn ≤ 18446744073709551615) :
    Calls Try.prog 8 #[.agg #[.int .u32 num, .int .u64 lsn, .int .i64 kind, .string head, .slice AA slots.length cc]] w fun e w' => e = .returned (.tuple #[.string (pgStr num lsn kind head slots), .int .i64 (pgErr kind head slots)]) ∧ Below w.heap.size w w' := by
  unfold pgStr
  by_cases h1 : kind < 0 ∨ 255 < kind ∨ 32 < head.size ∨ 64 < slots.length
  · rw [show pgErr kind head slots = 1 by unfold pgErr; rw [if_pos h1]]
    exact pgenc_arg num lsn kind head slots AA cc w h1
  · by_cases h2 : 485 < head.size + slotsN slots
    · rw [show pgErr kind head slots = 30 by unfold pgErr; rw [if_neg h1, if_pos h2]]
      exact pgenc_full num lsn kind head slots AA cc w hA hs (by omega) (by omega) (by omega) (by omega) h2
    · rw [show pgErr kind head slots = 0 by unfold pgErr; rw [if_neg h1, if_neg h2]]
      exact pgenc_ok num lsn kind head slots AA cc w hA hn0 hn1 hl0 hl1 (by omega) (by omega) (by omega) (by omega) (by omega)
end Go.Proofs.Yteokjmjfjdgmpaa
end
section
namespace Go.Proofs.Yteokjmjfjdgmpaa
open Go.RowKit Go.Gi
set_option maxRecDepth 20000
theorem get_arg (s : ByteArray) (at_ long : Int) (w : World) (h : long < 0 ∨ 8 < long ∨ at_ < 0 ∨ (s.size : Int) < at_) :
    Calls Try.prog 38 #[.string s, .int .i64 at_, .int .i64 long] w fun e w' => e = .returned (.tuple #[.int .u64 0, .int .i64 1]) ∧ w' = w := by
  go_enter Try.func38, Try.ntmps38
  by_cases h1 : long < 0
  · go_wp2; go_ret2; exact ⟨rfl, rfl⟩
  by_cases h2 : 8 < long
  · go_wp2; go_ret2; exact ⟨rfl, rfl⟩
  by_cases h3 : at_ < 0
  · go_wp2; go_ret2; exact ⟨rfl, rfl⟩
  have h4 : (s.size : Int) < at_ := by omega
  clear h
  go_wp2; go_ret2; exact ⟨rfl, rfl⟩
theorem get_cut (s : ByteArray) (at_ long : Int) (w : World) (h0 : 0 ≤ long) (h1 : long ≤ 8) (h2 : 0 ≤ at_) (h3 : at_ ≤ s.size) (h4 : (s.size : Int) - at_ < long) :
    Calls Try.prog 38 #[.string s, .int .i64 at_, .int .i64 long] w fun e w' => e = .returned (.tuple #[.int .u64 0, .int .i64 4]) ∧ w' = w := by
  go_enter Try.func38, Try.ntmps38
  go_wp2; go_ret2; exact ⟨rfl, rfl⟩
set_option maxHeartbeats 400000 in
theorem get_nat (s : ByteArray) (a n : Nat) (w : World) (hs : s.size ≤ maxLen) (h1 : n ≤ 8) (h4 : a + n ≤ s.size) :
    Calls Try.prog 38 #[.string s, .int .i64 a, .int .i64 n] w fun e w' => e = .returned (.tuple #[.int .u64 (numL ((s.data.toList.drop a).take n) : Nat), .int .i64 0]) ∧ w' = w := by
  unfold maxLen at hs
  have hl : ((s.data.toList.drop a).take n).length = n := by simp; omega
  obtain ⟨l, hleq⟩ : ∃ l, (s.data.toList.drop a).take n = l := ⟨_, rfl⟩
  have Hl := Lib.hid hleq
  rw [hleq] at hl
  rw [hleq]
  clear hleq
  have g1 : decide ((n : Int) < 0) = false := decide_eq_false (by omega)
  have g2 : decide (8 < (n : Int)) = false := decide_eq_false (by omega)
  have g3 : decide ((a : Int) < 0) = false := decide_eq_false (by omega)
  have g4 : decide (s.size < a) = false := decide_eq_false (by omega)
  have g5 : decide ((s.size : Int) - a < n) = false := decide_eq_false (by omega)
  go_enter Try.func38, Try.ntmps38
  go_wp2
  go_loop [8, 9] (fun x i => ∃ k : Nat, k ≤ n ∧ i = .int .i64 ((k : Int) - 1) ∧ x = .int .u64 ((numL (l.drop k) : Nat) : Int))
      (fun _ i => (intOf i + 1).toNat)
  case atStart => exact ⟨n, Nat.le_refl _, rfl, by rw [List.drop_eq_nil_of_le (by omega)]; rfl⟩
  case round =>
    obtain ⟨k, hk, rfl, rfl⟩ := hrel
    by_cases hk0 : k = 0
    · subst hk0
      go_wp2
      go_ret2
      exact ⟨rfl, rfl⟩
    · obtain ⟨j, rfl⟩ : ∃ j, k = j + 1 := ⟨k - 1, by omega⟩
      have hj : a + j < s.size := by omega
      have hjl : j < l.length := by omega
      have hget : l[j] = s[a + j] := by
        have h := Hl.out
        subst h
        simp
        rfl
      have hstep : numL (l.drop j) = s[a + j].toNat + 256 * numL (l.drop (j + 1)) := by
        rw [List.drop_eq_getElem_cons hjl, numL, hget]
      have hlt := numL_lt (l.drop (j + 1))
      have hlt2 : 256 ^ (l.drop (j + 1)).length ≤ 256 ^ 7 := Nat.pow_le_pow_right (by decide) (by simp; omega)
      have hq : numL (l.drop (j + 1)) < 72057594037927936 := Nat.lt_of_lt_of_le hlt hlt2
      have Hst := Lib.hid hstep
      clear hstep hlt hlt2 hget
      generalize numL (l.drop (j + 1)) = q at *
      go_wp2
      go_round
      case rel => exact ⟨j, by omega, by go_num, by rw [Hst.out, wrapu64, or_byte hq]⟩
      case measure => simp [intOf]
end Go.Proofs.Yteokjmjfjdgmpaa
end
section
namespace Go.Proofs.Yteokjmjfjdgmpaa.PPg
open Go.RowKit Go.Proofs.YteokjmjfjdgmpaaW.PrintWords Go.Proofs.YteokjmjfjdgmpaaW.PrintLast Go.Proofs.YteokjmjfjdgmpaaW.PrintMore
attribute [local go_sem] max2_int min2_int max_two min_two max_three min_three max_four min_four
set_option linter.unusedVariables false
set_option linter.unusedSimpArgs false
def errW : Option Int → Value
 | none => .nilIface
 | some c => .iface 0 (.int .i64 c)
theorem errW_none : errW none = .nilIface := rfl
theorem errW_some (c : Int) : errW (some c) = .iface 0 (.int .i64 c) := rfl
theorem info3 : (Try.prog.info? 3).map (fun i => (i.zero, i.size, i.bytes)) = some (some (.int .i64 0), 1, 8) := by kernel_rfl
theorem info9 : (Try.prog.info? 9).map (fun i => (i.zero, i.size, i.bytes)) = some (some (.string ⟨#[]⟩), 1, 16) := by kernel_rfl
end Go.Proofs.Yteokjmjfjdgmpaa.PPg
end
section
namespace Go.Proofs.Yteokjmjfjdgmpaa.PPg
open Go.RowKit Go.Proofs.YteokjmjfjdgmpaaW.PrintWords Go.Proofs.YteokjmjfjdgmpaaW.PrintLast Go.Proofs.YteokjmjfjdgmpaaW.PrintMore
attribute [local go_sem] max2_int min2_int max_two min_two max_three min_three max_four min_four
set_option linter.unusedVariables false
set_option linter.unusedSimpArgs false
theorem spot_none {w : World} {ad : Addr} {u : Value} (h : w.cell? ad = some u) : ad.spot = none := by
 unfold World.cell? at h
 cases hs : ad.spot with
 | none => rfl
 | some y =>
  simp [hs] at h
  split at h <;> simp_all
theorem add_at (b off i : Nat) : (⟨b, off, none⟩ : Addr).add i = ⟨b, off + i, none⟩ := by unfold Addr.add; split <;> simp_all
theorem rows_of_C {w : World} {A : Option Addr} {l : List ByteArray} (h : Kd.C Kd.string w A l.length l) : Go.GiRow.RdRows strC 1 w A l := by
 intro k hk
 obtain ⟨ad, rfl, hc⟩ := h.2.2 (by omega)
 obtain ⟨c, hl, hr, hcell⟩ := hc k _ (List.getElem?_eq_getElem hk)
 have hr' : c = [Value.string l[k]] := hr
 rw [hr'] at hcell
 have h0 := hcell 0 _ rfl
 obtain ⟨c1, _, hr1, hcell1⟩ := hc 0 _ (List.getElem?_eq_getElem (show 0 < l.length by omega))
 have hr1' : c1 = [Value.string l[0]] := hr1
 have h01 := hcell1 0 (Value.string l[0]) (by rw [hr1']; rfl)
 rw [Nat.zero_mul, show ad.add (0 + 0) = ad by unfold Addr.add; simp] at h01
 have hsp := spot_none h01
 obtain ⟨b, off, sp⟩ := ad
 simp only at hsp
 subst hsp
 refine ⟨b, off, rfl, ?_, ?_⟩
 ·have := World.block_lt_of_cell? w _ h0
  rw [add_at] at this
  exact this
 ·intro j u hu
  have := hcell j u hu
  rw [add_at] at this
  have e : off + k * 1 + j = off + (k * Kd.string.sz + j) := by show off + k * 1 + j = off + (k * 1 + j); omega
  rw [e]
  exact this
def page_Encode.f (a0_0 : Int) (a0_1 : Int) (a0_2 : Int) (a0_3 : ByteArray) (l0_4 : List ByteArray) : Option (ByteArray × Int) := if 0 ≤ a0_0 ∧ a0_0 ≤ 4294967295 ∧ 0 ≤ a0_1 ∧ a0_1 ≤ 18446744073709551615 ∧ (∀ s ∈ l0_4, s.size ≤ 140737488351232) then some (Go.Gi.pgStr a0_0 a0_1 a0_2 a0_3 l0_4, Go.Gi.pgErr a0_2 a0_3 l0_4) else none
set_option maxHeartbeats 8000000 in
set_option maxRecDepth 100000 in
theorem page_Encode.calls (a0_0 : Int) (a0_1 : Int) (a0_2 : Int) (a0_3 : ByteArray) (A0_4 : Option Addr) (c0_4 : Nat) (l0_4 : List ByteArray) (r1 : ByteArray) (r2 : Int) (w : World) (hr0_4 : Kd.C Kd.string w A0_4 l0_4.length l0_4) (hc0_4 : l0_4.length ≤ c0_4) (h : page_Encode.f a0_0 a0_1 a0_2 a0_3 l0_4 = some (r1, r2)) :
  Calls Try.prog 8 #[.agg #[.int .u32 a0_0, .int .u64 a0_1, .int .i64 a0_2, .string a0_3, .slice A0_4 l0_4.length c0_4]] w fun e w' => e = .returned (.tuple #[.string r1, .int .i64 r2]) ∧ Below w.heap.size w w' := by
 unfold page_Encode.f at h
 split at h
 ·rename_i hc
  obtain ⟨h1, h2, h3, h4, h5⟩ := hc
  obtain ⟨rfl, rfl⟩ := Prod.mk.inj (Option.some.inj h)
  exact pgenc_any a0_0 a0_1 a0_2 a0_3 l0_4 A0_4 c0_4 w (rows_of_C hr0_4) h5 h1 h2 h3 h4
 ·cases h
end Go.Proofs.Yteokjmjfjdgmpaa.PPg
end
section
namespace Go.Proofs.Yteokjmjfjdgmpaa.PPg
open Go.RowKit Go.Proofs.YteokjmjfjdgmpaaW.PrintWords Go.Proofs.YteokjmjfjdgmpaaW.PrintLast Go.Proofs.YteokjmjfjdgmpaaW.PrintMore
attribute [local go_sem] max2_int min2_int max_two min_two max_three min_three max_four min_four
set_option linter.unusedVariables false
set_option linter.unusedSimpArgs false
def girderref03_Room.l0 : Nat → Int → Int → Int → Int → Int → ByteArray → List ByteArray → Option (Int)
 | 0, _, _, _, _, _, _, _ => none
 | k + 1, x3, x4, x102000, x102001, x102002, x102003, x102004 => if x4 < (x102004.length : Int) then (if 0 ≤ x4 then (girderref03_Room.l0 k (wrap64 (x3 - (wrap64 (2 + ((rdOf ByteArray.empty x102004 x4).size : Int))))) (wrap64 (x4 + 1)) x102000 x102001 x102002 x102003 x102004) else (none)) else (some x3)
def girderref03_Room.f (k : Nat) (a0_0 : Int) (a0_1 : Int) (a0_2 : Int) (a0_3 : ByteArray) (l0_4 : List ByteArray) : Option (Int) := girderref03_Room.l0 k (wrap64 (485 - (a0_3.size : Int))) 0 a0_0 a0_1 a0_2 a0_3 l0_4
set_option maxHeartbeats 8000000 in
set_option maxRecDepth 100000 in
theorem girderref03_Room.calls (k : Nat) (a0_0 : Int) (a0_1 : Int) (a0_2 : Int) (a0_3 : ByteArray) (A0_4 : Option Addr) (c0_4 : Nat) (l0_4 : List ByteArray) (r : Int) (w : World) (hr0_4 : Kd.C Kd.string w A0_4 l0_4.length l0_4) (hc0_4 : l0_4.length ≤ c0_4) (h : girderref03_Room.f k a0_0 a0_1 a0_2 a0_3 l0_4 = some r) :
  Calls Try.prog 15 #[.agg #[.int .u32 a0_0, .int .u64 a0_1, .int .i64 a0_2, .string a0_3, .slice A0_4 l0_4.length c0_4]] w fun e w' => e = .returned (.int .i64 r) ∧ Below w.heap.size w w' := by
 have hu35 := Try.underlying35
 have HR0_4 := Aside0.mk hr0_4
 have HC0_4 := Aside0.mk hc0_4
 clear hr0_4 hc0_4
 have HB := Aside0.mk (Below.refl w.heap.size w)
 have H : (girderref03_Room.l0 k (wrap64 (485 - (a0_3.size : Int))) 0 a0_0 a0_1 a0_2 a0_3 l0_4) = some r := h
 clear h
 have H' := Aside0.mk H
 clear H
 go_enter Try.func15, Try.ntmps15
 go_wp2_with (first | ((with_reducible refine gate_dst (N := 1) rfl ?_); refine box_event ?hg (N := 1) ?hd (cs := #[.int .u32 a0_0, .int .u64 a0_1, .int .i64 a0_2, .string a0_3, .slice A0_4 l0_4.length c0_4]) (t := 35) ?hr ?_; (case hd => rfl); (case hg => rfl); (case hr => first | (go_simp; done) | (go_simp; rfl)); intro gb101 hg w2 hbox hb; have n0_ := Aside0.mk (below_step (by repeat (first | (with_reducible first | exact HB.out | apply below_alloc | apply pw_below_drewN | apply below_drew1) | exact HB.out)) hb); have n1_ := Aside0.mk (hbox); have n2_ := Aside0.mk ((by rw [hg]; exact (below_size (by repeat (first | (with_reducible first | exact HB.out | apply below_alloc | apply pw_below_drewN | apply below_drew1) | exact HB.out))) : w.heap.size ≤ gb101)); have n3_ := Aside0.mk ((by rw [hg]; exact (below_size (by repeat (first | (with_reducible first | exact HB.out | apply below_alloc | apply pw_below_drewN | apply below_drew1) | exact HB.out))) : w.heap.size ≤ gb101)); clear HB; have HB := n0_; have BK101 := n1_; have GW101 := n2_; have GE101 := n3_; clear n0_ n1_ n2_ n3_; clear hb hbox hg; have hcz3_0 : w2.cell? ⟨gb101, 0, none⟩ = some (.int .u32 a0_0) := (blk_cell BK101.out 0).trans rfl; have hcz3_1 : w2.cell? ⟨gb101, 1, none⟩ = some (.int .u64 a0_1) := (blk_cell BK101.out 1).trans rfl; have hcz3_2 : w2.cell? ⟨gb101, 2, none⟩ = some (.int .i64 a0_2) := (blk_cell BK101.out 2).trans rfl; have hcz3_3 : w2.cell? ⟨gb101, 3, none⟩ = some (.string a0_3) := (blk_cell BK101.out 3).trans rfl; have hcz3_4 : w2.cell? ⟨gb101, 4, none⟩ = some (.slice A0_4 l0_4.length c0_4) := (blk_cell BK101.out 4).trans rfl; have hfz3_0 := blk_frozen BK101.out 0; have hfz3_1 := blk_frozen BK101.out 1; have hfz3_2 := blk_frozen BK101.out 2; have hfz3_3 := blk_frozen BK101.out 3; have hfz3_4 := blk_frozen BK101.out 4))
 go_loopg [3, 4] k (fun kq v3 v4 w' => ∃ (x3_1 : Int) (x4_1 : Int), v3 = .int .i64 x3_1 ∧ v4 = .int .i64 x4_1 ∧ Aside0 (girderref03_Room.l0 kq x3_1 x4_1 a0_0 a0_1 a0_2 a0_3 l0_4 = some r) ∧ Aside0 (kq ≤ k) ∧ Aside0 (w'.heap[gb101]? = some (.cells #[.int .u32 a0_0, .int .u64 a0_1, .int .i64 a0_2, .string a0_3, (.slice A0_4 l0_4.length c0_4)] 35 (0, 0))) ∧ Aside0 (Below w.heap.size w w'))
 case atStart => exact ⟨(wrap64 (485 - (a0_3.size : Int))), (0), (by first | rfl | (simp; done) | (simp [*]; done)), (by first | rfl | (simp; done) | (simp [*]; done)), H', ⟨Nat.le_refl _⟩, ⟨by (with_reducible repeat (first | refine blk_drewN ?_ _ | refine blk_drew ?_ | refine blk_alloc ?_ _)); exact BK101.out⟩, ⟨by repeat (first | (with_reducible first | exact HB.out | apply below_alloc | apply pw_below_drewN | apply below_drew1 | refine below_set ?_ GE101.out) | exact HB.out)⟩⟩
 case round =>
  clear H'
  try clear c1
  try clear p2
  try clear hcz3_0
  try clear hcz3_1
  try clear hcz3_2
  try clear hcz3_3
  try clear hcz3_4
  try clear hfz3_0
  try clear hfz3_1
  try clear hfz3_2
  try clear hfz3_3
  try clear hfz3_4
  obtain ⟨x3_1, x4_1, rfl, rfl, HA, HK1, BK101, HB⟩ := hrel
  cases gk with
  | zero => exact absurd HA.out (by simp [girderref03_Room.l0])
  | succ k1 =>
   have H := HA.out
   clear HA
   simp only [girderref03_Room.l0] at H
   by_cases c4 : x4_1 < (l0_4.length : Int)
   ·rw [if_pos c4] at H
    have c4b0 : decide (x4_1 < (l0_4.length : Int)) = true := decide_eq_true c4
    clear c4
    by_cases c5 : 0 ≤ x4_1
    ·rw [if_pos c5] at H
     have c5b0 : decide (0 ≤ x4_1) = true := decide_eq_true c5
     clear c5
     have H' := Aside0.mk H
     clear H
     have hcz6_0 : wr.cell? ⟨gb101, 0, none⟩ = some (.int .u32 a0_0) := (blk_cell BK101.out 0).trans rfl
     have hcz6_1 : wr.cell? ⟨gb101, 1, none⟩ = some (.int .u64 a0_1) := (blk_cell BK101.out 1).trans rfl
     have hcz6_2 : wr.cell? ⟨gb101, 2, none⟩ = some (.int .i64 a0_2) := (blk_cell BK101.out 2).trans rfl
     have hcz6_3 : wr.cell? ⟨gb101, 3, none⟩ = some (.string a0_3) := (blk_cell BK101.out 3).trans rfl
     have hcz6_4 : wr.cell? ⟨gb101, 4, none⟩ = some (.slice A0_4 l0_4.length c0_4) := (blk_cell BK101.out 4).trans rfl
     have hfz6_0 := blk_frozen BK101.out 0
     have hfz6_1 := blk_frozen BK101.out 1
     have hfz6_2 := blk_frozen BK101.out 2
     have hfz6_3 := blk_frozen BK101.out 3
     have hfz6_4 := blk_frozen BK101.out 4
     have p102 : 0 ≤ (x4_1 : Int) := of_decide_eq_true (by first | (with_reducible assumption) | assumption)
     have q102 : x4_1 < (l0_4.length : Int) := of_decide_eq_true (by first | (with_reducible assumption) | assumption)
     obtain ⟨ad102, e102, hx102_0⟩ := Kd.at_string HR0_4.out x4_1 p102 q102
     cases e102
     replace hx102_0 := (HB.out.cell (World.block_lt_of_cell? w _ hx102_0)).trans hx102_0
     replace p102 := eq_true p102
     replace q102 := eq_true q102
     go_wp2
     go_roundg k1
     case measure => have := HK1.out; omega
     case rel => exact ⟨(wrap64 (x3_1 - (wrap64 (2 + ((rdOf ByteArray.empty l0_4 x4_1).size : Int))))), (wrap64 (x4_1 + 1)), (by first | rfl | (simp; done) | (simp [*]; done)), (by first | rfl | (simp; done) | (simp [*]; done)), H', ⟨by have := HK1.out; omega⟩, ⟨by (with_reducible repeat (first | refine blk_drewN ?_ _ | refine blk_drew ?_ | refine blk_alloc ?_ _)); exact BK101.out⟩, ⟨by repeat (first | (with_reducible first | exact HB.out | apply below_alloc | apply pw_below_drewN | apply below_drew1 | refine below_set ?_ GE101.out) | exact HB.out)⟩⟩
    ·rw [if_neg c5] at H
     exact absurd H (by simp)
   ·rw [if_neg c4] at H
    have c4b0 : decide (x4_1 < (l0_4.length : Int)) = false := decide_eq_false c4
    clear c4
    obtain rfl := Option.some.inj H
    have hcz7_0 : wr.cell? ⟨gb101, 0, none⟩ = some (.int .u32 a0_0) := (blk_cell BK101.out 0).trans rfl
    have hcz7_1 : wr.cell? ⟨gb101, 1, none⟩ = some (.int .u64 a0_1) := (blk_cell BK101.out 1).trans rfl
    have hcz7_2 : wr.cell? ⟨gb101, 2, none⟩ = some (.int .i64 a0_2) := (blk_cell BK101.out 2).trans rfl
    have hcz7_3 : wr.cell? ⟨gb101, 3, none⟩ = some (.string a0_3) := (blk_cell BK101.out 3).trans rfl
    have hcz7_4 : wr.cell? ⟨gb101, 4, none⟩ = some (.slice A0_4 l0_4.length c0_4) := (blk_cell BK101.out 4).trans rfl
    have hfz7_0 := blk_frozen BK101.out 0
    have hfz7_1 := blk_frozen BK101.out 1
    have hfz7_2 := blk_frozen BK101.out 2
    have hfz7_3 := blk_frozen BK101.out 3
    have hfz7_4 := blk_frozen BK101.out 4
    go_wp2
    go_ret
    exact ⟨by first | rfl | (simp [errW_none, errW_some] <;> rfl) | (simp [*, errW_none, errW_some] <;> rfl), by repeat (first | (with_reducible first | exact HB.out | apply below_alloc | apply pw_below_drewN | apply below_drew1 | refine below_set ?_ GE101.out) | exact HB.out)⟩
end Go.Proofs.Yteokjmjfjdgmpaa.PPg
end
section
namespace Go.Proofs.Yteokjmjfjdgmpaa.PPg
open Go.RowKit Go.Proofs.YteokjmjfjdgmpaaW.PrintWords Go.Proofs.YteokjmjfjdgmpaaW.PrintLast Go.Proofs.YteokjmjfjdgmpaaW.PrintMore
attribute [local go_sem] max2_int min2_int max_two min_two max_three min_three max_four min_four
set_option linter.unusedVariables false
set_option linter.unusedSimpArgs false
def raw_Sum.f (a0 : ByteArray) : Option (Int) := if a0.size ≤ 9223372036854775807 then some (Go.Gi.sumL 0 a0.data.toList) else none
set_option maxHeartbeats 8000000 in
set_option maxRecDepth 100000 in
theorem raw_Sum.calls (a0 : ByteArray) (r : Int) (w : World) (h : raw_Sum.f a0 = some r) :
  Calls Try.prog 33 #[.string a0] w fun e w' => e = .returned (.int .u32 r) ∧ Drawn0 w w' := by
 unfold raw_Sum.f at h
 split at h
 ·rename_i hc
  obtain rfl := Option.some.inj h
  exact (sum_any a0 w (by unfold maxLen; omega)).mono fun e w' ⟨x, y⟩ => ⟨x, y ▸ Drawn0.refl _⟩
 ·cases h
end Go.Proofs.Yteokjmjfjdgmpaa.PPg
end
section
namespace Go.Proofs.Yteokjmjfjdgmpaa.PPg
open Go.RowKit Go.Proofs.YteokjmjfjdgmpaaW.PrintWords Go.Proofs.YteokjmjfjdgmpaaW.PrintLast Go.Proofs.YteokjmjfjdgmpaaW.PrintMore
attribute [local go_sem] max2_int min2_int max_two min_two max_three min_three max_four min_four
set_option linter.unusedVariables false
set_option linter.unusedSimpArgs false
def strings_Count.f (a0 : ByteArray) (a1 : ByteArray) : Option (Int) := if a1 = (⟨#[0]⟩ : ByteArray) then some (Lib.countByte a0.data.toList 0) else none
set_option maxHeartbeats 8000000 in
set_option maxRecDepth 100000 in
theorem strings_Count.calls (a0 : ByteArray) (a1 : ByteArray) (r : Int) (w : World) (h : strings_Count.f a0 a1 = some r) :
  Calls Try.prog 37 #[.string a0, .string a1] w fun e w' => e = .returned (.int .i64 r) ∧ Drawn0 w w' := by
 unfold strings_Count.f at h
 split at h
 ·rename_i hc
  subst hc
  obtain rfl := Option.some.inj h
  exact (Go.Proofs.Try.strings_Count_one a0 0 w).mono fun e w' ⟨x, y⟩ => ⟨x, y ▸ Drawn0.refl _⟩
 ·cases h
end Go.Proofs.Yteokjmjfjdgmpaa.PPg
end
section
namespace Go.Proofs.Yteokjmjfjdgmpaa.PPg
open Go.RowKit Go.Proofs.YteokjmjfjdgmpaaW.PrintWords Go.Proofs.YteokjmjfjdgmpaaW.PrintLast Go.Proofs.YteokjmjfjdgmpaaW.PrintMore
attribute [local go_sem] max2_int min2_int max_two min_two max_three min_three max_four min_four
set_option linter.unusedVariables false
set_option linter.unusedSimpArgs false
def raw_Get.f (a0 : ByteArray) (a1 : Int) (a2 : Int) : Option (Int × Int) := if 0 ≤ a1 ∧ a1 ≤ (a0.size : Int) ∧ a0.size ≤ 9223372036854775807 then some (((Go.Gi.rNum a0.data.toList a1.toNat 0 a2).1 : Int), (Go.Gi.rNum a0.data.toList a1.toNat 0 a2).2.2) else none
set_option maxHeartbeats 8000000 in
set_option maxRecDepth 100000 in
theorem raw_Get.calls (a0 : ByteArray) (a1 : Int) (a2 : Int) (r1 : Int) (r2 : Int) (w : World) (h : raw_Get.f a0 a1 a2 = some (r1, r2)) :
  Calls Try.prog 38 #[.string a0, .int .i64 a1, .int .i64 a2] w fun e w' => e = .returned (.tuple #[.int .u64 r1, .int .i64 r2]) ∧ Drawn0 w w' := by
 unfold raw_Get.f at h
 split at h
 ·rename_i hc
  obtain ⟨h1, h2, h3⟩ := hc
  obtain ⟨rfl, rfl⟩ := Prod.mk.inj (Option.some.inj h)
  obtain ⟨a, rfl⟩ := Int.eq_ofNat_of_zero_le h1
  have hl : a0.data.toList.length = a0.size := by simp
  rw [Int.toNat_natCast]
  by_cases hb : a2 < 0 ∨ 8 < a2
  ·rw [Go.Gi.rNum_bad _ _ _ hb]
   exact (get_arg a0 a a2 w (by omega)).mono fun e w' ⟨x, y⟩ => ⟨x, y ▸ Drawn0.refl _⟩
  ·by_cases hcut : (a0.size : Int) - a < a2
   ·rw [show Go.Gi.rNum a0.data.toList a 0 a2 = (0, a, 4) by unfold Go.Gi.rNum; rw [if_neg (by simp), if_neg hb, hl, if_pos hcut]]
    exact (get_cut a0 a a2 w (by omega) (by omega) h1 h2 hcut).mono fun e w' ⟨x, y⟩ => ⟨x, y ▸ Drawn0.refl _⟩
   ·rw [show Go.Gi.rNum a0.data.toList a 0 a2 = (Go.Gi.numL ((a0.data.toList.drop a).take a2.toNat), a + a2.toNat, 0) by unfold Go.Gi.rNum; rw [if_neg (by simp), if_neg hb, hl, if_neg hcut]]
    obtain ⟨n, rfl⟩ := Int.eq_ofNat_of_zero_le (show 0 ≤ a2 by omega)
    rw [Int.toNat_natCast]
    exact (get_nat a0 a n w (by unfold maxLen; omega) (by omega) (by omega)).mono fun e w' ⟨x, y⟩ => ⟨x, y ▸ Drawn0.refl _⟩
 ·cases h
end Go.Proofs.Yteokjmjfjdgmpaa.PPg
end
section
namespace Go.Proofs.Yteokjmjfjdgmpaa.PPg
open Go.RowKit Go.Proofs.YteokjmjfjdgmpaaW.PrintWords Go.Proofs.YteokjmjfjdgmpaaW.PrintLast Go.Proofs.YteokjmjfjdgmpaaW.PrintMore
attribute [local go_sem] max2_int min2_int max_two min_two max_three min_three max_four min_four
set_option linter.unusedVariables false
set_option linter.unusedSimpArgs false
def IsS114 (w0 W : World) (g : Nat) (f0 : ByteArray) (f1 : Int) (f2 : Int) : Prop := W.heap[g]? = some (.cells #[.string f0, .int .i64 f1, .int .i64 f2] 114 (0, 0)) ∧ w0.heap.size ≤ g
theorem IsS114.grown {w0 W : World} {g : Nat} {f0 : ByteArray} {f1 : Int} {f2 : Int} {W1 : World} {row : Option Nat} (h : IsS114 w0 W g f0 f1 f2) (hw : W.grownBy W1 row) (hne : some g ≠ row) : IsS114 w0 W1 g f0 f1 f2 := by
 obtain ⟨hb, hg⟩ := h
 exact ⟨blk_grown hb hw hne, hg⟩
theorem IsS114.kept {w0 W : World} {g : Nat} {f0 : ByteArray} {f1 : Int} {f2 : Int} {W1 : World} {S : Nat → Prop} (h : IsS114 w0 W g f0 f1 f2) (hk : Kept W W1 S) (hne : ¬ S g) : IsS114 w0 W1 g f0 f1 f2 := by
 obtain ⟨hb, hg⟩ := h
 exact ⟨blk_kept hb hk hne, hg⟩
theorem IsS114.below {w0 W : World} {g : Nat} {f0 : ByteArray} {f1 : Int} {f2 : Int} {W1 : World} (h : IsS114 w0 W g f0 f1 f2) (hw : Below W.heap.size W W1) : IsS114 w0 W1 g f0 f1 f2 := h.grown (grown_of_below hw none) (by simp)
theorem IsS114.alloc {w0 W : World} {g : Nat} {f0 : ByteArray} {f1 : Int} {f2 : Int} (h : IsS114 w0 W g f0 f1 f2) (o : Obj) : IsS114 w0 (W.alloc o) g f0 f1 f2 := h.below (below_alloc (Below.refl _ _) o)
theorem IsS114.drewN {w0 W : World} {g : Nat} {f0 : ByteArray} {f1 : Int} {f2 : Int} (h : IsS114 w0 W g f0 f1 f2) (m : Nat) : IsS114 w0 (W.drewN m) g f0 f1 f2 := h
theorem IsS114.drew {w0 W : World} {g : Nat} {f0 : ByteArray} {f1 : Int} {f2 : Int} (h : IsS114 w0 W g f0 f1 f2) : IsS114 w0 W.drew g f0 f1 f2 := h
theorem IsS114.at_ {w0 W : World} {g : Nat} {f0 : ByteArray} {f1 : Int} {f2 : Int} {w' : World} {m : Nat} (hq : W.drewN m = w') (h : IsS114 w0 W g f0 f1 f2) : IsS114 w0 w' g f0 f1 f2 := by subst hq; exact IsS114.drewN h m
theorem IsS114.apart {w0 W : World} {g : Nat} {f0 : ByteArray} {f1 : Int} {f2 : Int} {α : Type} {d : Kd α} {e : Nat} {base : Nat} {ok : Nat → Prop} {v : Value} {xs : List α} (h : IsS114 w0 W g f0 f1 f2) (ho : d.R e W base ok v xs) (ht : ∀ q, q ∈ e :: d.E → q ≠ 114) : d.R e W base (fun k => ok k ∧ k ≠ g) v xs := by
 obtain ⟨hb, hg⟩ := h
 exact Kd.R_types ho hb ht
theorem IsS114.own_ne {w0 W : World} {g : Nat} {f0 : ByteArray} {f1 : Int} {f2 : Int} {α : Type} {d : Kd α} {e : Nat} {base : Nat} {ok : Nat → Prop} {v : Value} {xs : List α} (h : IsS114 w0 W g f0 f1 f2) (ho : d.R e W base ok v xs) (ht : e ≠ 114) : some g ≠ v.ownBlock := by
 obtain ⟨hb, hg⟩ := h
 exact Kd.R_ne ho hb ht
theorem IsS114.lt {w0 W : World} {g : Nat} {f0 : ByteArray} {f1 : Int} {f2 : Int} (h : IsS114 w0 W g f0 f1 f2) : g < W.heap.size := by
 obtain ⟨hb, hg⟩ := h
 exact blk_lt hb
theorem IsS114.ge {w0 W : World} {g : Nat} {f0 : ByteArray} {f1 : Int} {f2 : Int} (h : IsS114 w0 W g f0 f1 f2) : w0.heap.size ≤ g := by
 obtain ⟨hb, hg⟩ := h
 exact hg
theorem IsS114.ne_blk {w0 W : World} {g : Nat} {f0 : ByteArray} {f1 : Int} {f2 : Int} {a : Nat} {cs : Array Value} {t : TypeId} {fr : Nat × Nat} (h : IsS114 w0 W g f0 f1 f2) (hb2 : W.heap[a]? = some (.cells cs t fr)) (ht : t ≠ 114) : g ≠ a := by
 obtain ⟨hb, hg⟩ := h
 rintro rfl
 rw [hb] at hb2
 injection hb2 with hb2
 injection hb2 with _ ht2
 exact ht ht2.symm
theorem IsS114.far {w0 W : World} {g : Nat} {f0 : ByteArray} {f1 : Int} {f2 : Int} {p : Addr} (h : IsS114 w0 W g f0 f1 f2) (hne : g ≠ p.block) (u : Value) : IsS114 w0 (W.setCell p u) g f0 f1 f2 := by
 obtain ⟨hb, hg⟩ := h
 exact ⟨blk_far hb hne u, hg⟩
theorem cellS114_0 {W : World} {g : Nat} {f0 : ByteArray} {f1 : Int} {f2 : Int} (h : W.heap[g]? = some (.cells #[.string f0, .int .i64 f1, .int .i64 f2] 114 (0, 0))) : W.cell? ⟨g, 0, none⟩ = some (.string f0) := (blk_cell h 0).trans rfl
theorem IsS114.set_0 {w0 W : World} {g : Nat} {f0 : ByteArray} {f1 : Int} {f2 : Int} (h : IsS114 w0 W g f0 f1 f2) (x : ByteArray) : IsS114 w0 (W.setCell ⟨g, 0, none⟩ (.string x)) g x f1 f2 := by
 obtain ⟨hb, hg⟩ := h
 exact ⟨by simpa using blk_set hb 0 (.string x), hg⟩
theorem cellS114_1 {W : World} {g : Nat} {f0 : ByteArray} {f1 : Int} {f2 : Int} (h : W.heap[g]? = some (.cells #[.string f0, .int .i64 f1, .int .i64 f2] 114 (0, 0))) : W.cell? ⟨g, 1, none⟩ = some (.int .i64 f1) := (blk_cell h 1).trans rfl
theorem IsS114.set_1 {w0 W : World} {g : Nat} {f0 : ByteArray} {f1 : Int} {f2 : Int} (h : IsS114 w0 W g f0 f1 f2) (x : Int) : IsS114 w0 (W.setCell ⟨g, 1, none⟩ (.int .i64 x)) g f0 x f2 := by
 obtain ⟨hb, hg⟩ := h
 exact ⟨by simpa using blk_set hb 1 (.int .i64 x), hg⟩
theorem cellS114_2 {W : World} {g : Nat} {f0 : ByteArray} {f1 : Int} {f2 : Int} (h : W.heap[g]? = some (.cells #[.string f0, .int .i64 f1, .int .i64 f2] 114 (0, 0))) : W.cell? ⟨g, 2, none⟩ = some (.int .i64 f2) := (blk_cell h 2).trans rfl
theorem IsS114.set_2 {w0 W : World} {g : Nat} {f0 : ByteArray} {f1 : Int} {f2 : Int} (h : IsS114 w0 W g f0 f1 f2) (x : Int) : IsS114 w0 (W.setCell ⟨g, 2, none⟩ (.int .i64 x)) g f0 f1 x := by
 obtain ⟨hb, hg⟩ := h
 exact ⟨by simpa using blk_set hb 2 (.int .i64 x), hg⟩
theorem IsS114.new (w0 W : World) (f0 : ByteArray) (f1 : Int) (f2 : Int) (hB : Below w0.heap.size w0 W) : IsS114 w0 (W.alloc (.cells #[.string f0, .int .i64 f1, .int .i64 f2] 114)) W.heap.size f0 f1 f2 := ⟨by simpa using heap_alloc_new W _, hB.size⟩
def raw_NewReader.f (a0 : ByteArray) : Option (ByteArray × Int × Int) := some (a0, 0, 0)
set_option maxHeartbeats 8000000 in
set_option maxRecDepth 100000 in
theorem raw_NewReader.calls (a0 : ByteArray) (r1 : ByteArray) (r2 : Int) (r3 : Int) (w0 w : World) (hB : Below w0.heap.size w0 w) (h : raw_NewReader.f a0 = some (r1, r2, r3)) :
  Calls Try.prog 39 #[.string a0] w fun e w' => ∃ g_ : Nat, e = .returned (.pointer (some ⟨g_, 0, none⟩)) ∧ IsS114 w0 w' g_ r1 r2 r3 ∧ Below w0.heap.size w0 w' ∧ Below w.heap.size w w' := by
 have hu114 := Try.underlying114
 have HBW := Aside0.mk (Below.refl w.heap.size w)
 have HW0 := Aside0.mk hB.size
 have HB := Aside0.mk hB
 clear hB
 have H : (some (a0, 0, 0)) = some (r1, r2, r3) := h
 clear h
 simp only [Option.some.injEq, Prod.mk.injEq] at H
 obtain ⟨rfl, rfl, rfl⟩ := H
 go_enter Try.func39, Try.ntmps39
 go_wp2_with (first | ((with_reducible refine gate_dst (N := 5) rfl ?_); refine box_event ?hg (N := 5) ?hd (cs := #[.string a0, .int .i64 0, .int .i64 0]) (t := 114) ?hr ?_; (case hd => rfl); (case hg => rfl); (case hr => first | (go_simp; done) | (go_simp; rfl)); intro gb121 hg w2 hbox hb; have n0_ := Aside0.mk (below_step HBW.out hb); have n1_ := Aside0.mk (below_step (by repeat (first | (with_reducible first | exact HB.out | apply below_alloc | apply pw_below_drewN | apply below_drew1) | exact HB.out)) hb); have n2_ := Aside0.mk (hbox); have n3_ := Aside0.mk ((by rw [hg]; exact (below_size (by repeat (first | (with_reducible first | exact HBW.out | apply below_alloc | apply pw_below_drewN | apply below_drew1) | exact HBW.out))) : w.heap.size ≤ gb121)); have n4_ := Aside0.mk ((Nat.le_trans HW0.out (by rw [hg]; exact (below_size (by repeat (first | (with_reducible first | exact HBW.out | apply below_alloc | apply pw_below_drewN | apply below_drew1) | exact HBW.out))) : w.heap.size ≤ gb121) : w0.heap.size ≤ gb121)); clear HBW; clear HB; have HBW := n0_; have HB := n1_; have BK121 := n2_; have GW121 := n3_; have GE121 := n4_; clear n0_ n1_ n2_ n3_ n4_; clear hb hbox hg))
 go_ret
 exact ⟨_, rfl, (show IsS114 w0 _ gb121 a0 0 0 from ⟨by (with_reducible repeat (first | refine blk_drewN ?_ _ | refine blk_drew ?_ | refine blk_alloc ?_ _)); exact BK121.out, GE121.out⟩), by repeat (first | (with_reducible first | exact HB.out | apply below_alloc | apply pw_below_drewN | apply below_drew1 | refine below_set ?_ GE121.out) | exact HB.out), by repeat (first | (with_reducible first | exact HBW.out | apply below_alloc | apply pw_below_drewN | apply below_drew1 | refine below_set ?_ GW121.out) | exact HBW.out)⟩
end Go.Proofs.Yteokjmjfjdgmpaa.PPg
end
section
namespace Go.Proofs.Yteokjmjfjdgmpaa.PPg
open Go.RowKit Go.Proofs.YteokjmjfjdgmpaaW.PrintWords Go.Proofs.YteokjmjfjdgmpaaW.PrintLast Go.Proofs.YteokjmjfjdgmpaaW.PrintMore
attribute [local go_sem] max2_int min2_int max_two min_two max_three min_three max_four min_four
set_option linter.unusedVariables false
set_option linter.unusedSimpArgs false
def raw_Reader_Err.f (s0_0 : ByteArray) (s0_1 : Int) (s0_2 : Int) : Option (Int × ByteArray × Int × Int) := some (s0_2, s0_0, s0_1, s0_2)
set_option maxHeartbeats 8000000 in
set_option maxRecDepth 100000 in
theorem raw_Reader_Err.calls (g : Nat) (s0_0 : ByteArray) (s0_1 : Int) (s0_2 : Int) (r1 : Int) (r2 : ByteArray) (r3 : Int) (r4 : Int) (w0 w : World) (hI : IsS114 w0 w g s0_0 s0_1 s0_2) (hB : Below w0.heap.size w0 w) (h : raw_Reader_Err.f s0_0 s0_1 s0_2 = some (r1, r2, r3, r4)) :
  Calls Try.prog 42 #[.pointer (some ⟨g, 0, none⟩)] w fun e w' => e = .returned (.int .i64 r1) ∧ IsS114 w0 w' g r2 r3 r4 ∧ Below w0.heap.size w0 w' ∧ KeepBut w w' g none := by
 have HI0 := Aside0.mk hI
 have HK := Aside0.mk (KeepBut.refl w g none)
 have HL := Aside0.mk hB.size
 clear hI
 have HW0 := Aside0.mk hB.size
 have HB := Aside0.mk hB
 clear hB
 have H : (some (s0_2, s0_0, s0_1, s0_2)) = some (r1, r2, r3, r4) := h
 clear h
 simp only [Option.some.injEq, Prod.mk.injEq] at H
 obtain ⟨rfl, rfl, rfl, rfl⟩ := H
 obtain ⟨HGz2, hgz2⟩ := HI0.out
 have hcz2_0 := cellS114_0 HGz2
 have hcz2_1 := cellS114_1 HGz2
 have hcz2_2 := cellS114_2 HGz2
 have hfz2_0 := blk_frozen HGz2 0
 have hfz2_1 := blk_frozen HGz2 1
 have hfz2_2 := blk_frozen HGz2 2
 clear HGz2 hgz2
 go_enter Try.func42, Try.ntmps42
 go_wp2
 go_ret
 exact ⟨by first | rfl | (simp [errW_none, errW_some] <;> rfl) | (simp [*, errW_none, errW_some] <;> rfl), by repeat (first | (with_reducible first | exact HI0.out | apply IsS114.alloc | apply IsS114.drewN | apply IsS114.drew | apply IsS114.set_0 | apply IsS114.set_1 | apply IsS114.set_2) | exact HI0.out), by repeat (first | (with_reducible first | exact HB.out | apply below_alloc | apply pw_below_drewN | apply below_drew1 | refine below_set ?_ (IsS114.ge HI0.out)) | exact HB.out), by repeat (first | (with_reducible first | exact HK.out | apply KeepBut.set_ | apply keep_drewN | apply keep_drew | apply keep_alloc) | exact HK.out)⟩
end Go.Proofs.Yteokjmjfjdgmpaa.PPg
end
section
namespace Go.Proofs.Yteokjmjfjdgmpaa.PPg
open Go.RowKit Go.Proofs.YteokjmjfjdgmpaaW.PrintWords Go.Proofs.YteokjmjfjdgmpaaW.PrintLast Go.Proofs.YteokjmjfjdgmpaaW.PrintMore
attribute [local go_sem] max2_int min2_int max_two min_two max_three min_three max_four min_four
set_option linter.unusedVariables false
set_option linter.unusedSimpArgs false
def raw_Reader_Number.f (s0_0 : ByteArray) (s0_1 : Int) (s0_2 : Int) (a1 : Int) : Option (Int × ByteArray × Int × Int) := (raw_Reader_Err.f s0_0 s0_1 s0_2).bind fun bt122 => (if bt122.1 = 0 then ((raw_Get.f bt122.2.1 bt122.2.2.1 a1).bind fun bt126 => (if bt126.2 = 0 then (some (bt126.1, bt122.2.1, wrap64 (bt122.2.2.1 + a1), bt122.2.2.2)) else (some (0, bt122.2.1, bt122.2.2.1, bt126.2)))) else (some (0, bt122.2.1, bt122.2.2.1, bt122.2.2.2)))
set_option maxHeartbeats 8000000 in
set_option maxRecDepth 100000 in
theorem raw_Reader_Number.calls (g : Nat) (s0_0 : ByteArray) (s0_1 : Int) (s0_2 : Int) (a1 : Int) (r1 : Int) (r2 : ByteArray) (r3 : Int) (r4 : Int) (w0 w : World) (hI : IsS114 w0 w g s0_0 s0_1 s0_2) (hB : Below w0.heap.size w0 w) (h : raw_Reader_Number.f s0_0 s0_1 s0_2 a1 = some (r1, r2, r3, r4)) :
  Calls Try.prog 40 #[.pointer (some ⟨g, 0, none⟩), .int .i64 a1] w fun e w' => e = .returned (.int .u64 r1) ∧ IsS114 w0 w' g r2 r3 r4 ∧ Below w0.heap.size w0 w' ∧ KeepBut w w' g none := by
 have HI0 := Aside0.mk hI
 have HK := Aside0.mk (KeepBut.refl w g none)
 have HL := Aside0.mk hB.size
 clear hI
 have HW0 := Aside0.mk hB.size
 have HB := Aside0.mk hB
 clear hB
 have H : ((raw_Reader_Err.f s0_0 s0_1 s0_2).bind fun bt122 => (if bt122.1 = 0 then ((raw_Get.f bt122.2.1 bt122.2.2.1 a1).bind fun bt126 => (if bt126.2 = 0 then (some (bt126.1, bt122.2.1, wrap64 (bt122.2.2.1 + a1), bt122.2.2.2)) else (some (0, bt122.2.1, bt122.2.2.1, bt126.2)))) else (some (0, bt122.2.1, bt122.2.2.1, bt122.2.2.2)))) = some (r1, r2, r3, r4) := h
 clear h
 replace H := Option.bind_eq_some_iff.mp H
 obtain ⟨⟨t122, t123, t124, t125⟩, A30, H⟩ := H
 replace H : (if t122 = 0 then ((raw_Get.f t123 t124 a1).bind fun bt126 => (if bt126.2 = 0 then (some (bt126.1, t123, wrap64 (t124 + a1), t125)) else (some (0, t123, t124, bt126.2)))) else (some (0, t123, t124, t125))) = some (r1, r2, r3, r4) := H
 have A3 := Aside0.mk A30
 clear A30
 by_cases c4 : t122 = 0
 ·rw [if_pos c4] at H
  have c4b0 : (t122 == 0) = true := beq_iff_eq.mpr c4
  have c4b1 : (t122 != 0) = false := bne_eq_false_iff_eq.mpr c4
  clear c4
  replace H := Option.bind_eq_some_iff.mp H
  obtain ⟨⟨t126, t127⟩, A50, H⟩ := H
  replace H : (if t127 = 0 then (some (t126, t123, wrap64 (t124 + a1), t125)) else (some (0, t123, t124, t127))) = some (r1, r2, r3, r4) := H
  have A5 := Aside0.mk A50
  clear A50
  by_cases c6 : t127 = 0
  ·rw [if_pos c6] at H
   have c6b0 : (t127 == 0) = true := beq_iff_eq.mpr c6
   have c6b1 : (t127 != 0) = false := bne_eq_false_iff_eq.mpr c6
   clear c6
   simp only [Option.some.injEq, Prod.mk.injEq] at H
   obtain ⟨rfl, rfl, rfl, rfl⟩ := H
   go_enter Try.func40, Try.ntmps40
   go_wp2_with (first | (go_at_call 42; (with_reducible refine (raw_Reader_Err.calls g s0_0 s0_1 s0_2 t122 t123 t124 t125 w0 _ ?side1 ?side2 A3.out).mono ?_); (case side1 => repeat (first | (with_reducible first | exact HI0.out | apply IsS114.alloc | apply IsS114.drewN | apply IsS114.drew | apply IsS114.set_0 | apply IsS114.set_1 | apply IsS114.set_2) | exact HI0.out)); (case side2 => repeat (first | (with_reducible first | exact HB.out | apply below_alloc | apply pw_below_drewN | apply below_drew1 | refine below_set ?_ (IsS114.ge HI0.out)) | exact HB.out)); rintro e w7 ⟨rfl, hi, hb, hk⟩; have n0_ := Aside0.mk (KeepBut.trans (by repeat (first | (with_reducible first | exact HK.out | apply KeepBut.set_ | apply keep_drewN | apply keep_drew | apply keep_alloc) | exact HK.out)) hk (.inl rfl)); have n1_ := Aside0.mk (hb); have n2_ := Aside0.mk (hi); clear HK; clear HB; clear HI0; have HK := n0_; have HB := n1_; have HI0 := n2_; clear n0_ n1_ n2_; (try clear hb); (try clear hb2); (try clear hk); (try clear hi); obtain ⟨HGz8, hgz8⟩ := HI0.out; have hcz8_0 := cellS114_0 HGz8; have hcz8_1 := cellS114_1 HGz8; have hcz8_2 := cellS114_2 HGz8; have hfz8_0 := blk_frozen HGz8 0; have hfz8_1 := blk_frozen HGz8 1; have hfz8_2 := blk_frozen HGz8 2; clear HGz8 hgz8) | (go_at_call 38; (with_reducible refine (raw_Get.calls t123 t124 a1 t126 t127 _ A5.out).mono ?_); rintro e w' ⟨rfl, ⟨nd, rfl⟩⟩; (try first | exact ⟨rfl, _, World.drewN_drewN _ _ _⟩ | exact ⟨rfl, _, Eq.trans (World.drewN_drewN _ _ _) (congrArg (World.drewN _) (Nat.add_assoc _ _ _))⟩)))
   repeat (go_quiet (first | (go_at_call 42; (with_reducible refine (raw_Reader_Err.calls g s0_0 s0_1 s0_2 t122 t123 t124 t125 w0 _ ?side1 ?side2 A3.out).mono ?_); (case side1 => repeat (first | (with_reducible first | exact HI0.out | apply IsS114.alloc | apply IsS114.drewN | apply IsS114.drew | apply IsS114.set_0 | apply IsS114.set_1 | apply IsS114.set_2) | exact HI0.out)); (case side2 => repeat (first | (with_reducible first | exact HB.out | apply below_alloc | apply pw_below_drewN | apply below_drew1 | refine below_set ?_ (IsS114.ge HI0.out)) | exact HB.out)); rintro e w7 ⟨rfl, hi, hb, hk⟩; have n0_ := Aside0.mk (KeepBut.trans (by repeat (first | (with_reducible first | exact HK.out | apply KeepBut.set_ | apply keep_drewN | apply keep_drew | apply keep_alloc) | exact HK.out)) hk (.inl rfl)); have n1_ := Aside0.mk (hb); have n2_ := Aside0.mk (hi); clear HK; clear HB; clear HI0; have HK := n0_; have HB := n1_; have HI0 := n2_; clear n0_ n1_ n2_; (try clear hb); (try clear hb2); (try clear hk); (try clear hi); obtain ⟨HGz8, hgz8⟩ := HI0.out; have hcz8_0 := cellS114_0 HGz8; have hcz8_1 := cellS114_1 HGz8; have hcz8_2 := cellS114_2 HGz8; have hfz8_0 := blk_frozen HGz8 0; have hfz8_1 := blk_frozen HGz8 1; have hfz8_2 := blk_frozen HGz8 2; clear HGz8 hgz8) | (go_at_call 38; (with_reducible refine (raw_Get.calls t123 t124 a1 t126 t127 _ A5.out).mono ?_); rintro e w' ⟨rfl, ⟨nd, rfl⟩⟩; (try first | exact ⟨rfl, _, World.drewN_drewN _ _ _⟩ | exact ⟨rfl, _, Eq.trans (World.drewN_drewN _ _ _) (congrArg (World.drewN _) (Nat.add_assoc _ _ _))⟩))); try go_wp2_with (first | (go_at_call 42; (with_reducible refine (raw_Reader_Err.calls g s0_0 s0_1 s0_2 t122 t123 t124 t125 w0 _ ?side1 ?side2 A3.out).mono ?_); (case side1 => repeat (first | (with_reducible first | exact HI0.out | apply IsS114.alloc | apply IsS114.drewN | apply IsS114.drew | apply IsS114.set_0 | apply IsS114.set_1 | apply IsS114.set_2) | exact HI0.out)); (case side2 => repeat (first | (with_reducible first | exact HB.out | apply below_alloc | apply pw_below_drewN | apply below_drew1 | refine below_set ?_ (IsS114.ge HI0.out)) | exact HB.out)); rintro e w7 ⟨rfl, hi, hb, hk⟩; have n0_ := Aside0.mk (KeepBut.trans (by repeat (first | (with_reducible first | exact HK.out | apply KeepBut.set_ | apply keep_drewN | apply keep_drew | apply keep_alloc) | exact HK.out)) hk (.inl rfl)); have n1_ := Aside0.mk (hb); have n2_ := Aside0.mk (hi); clear HK; clear HB; clear HI0; have HK := n0_; have HB := n1_; have HI0 := n2_; clear n0_ n1_ n2_; (try clear hb); (try clear hb2); (try clear hk); (try clear hi); obtain ⟨HGz8, hgz8⟩ := HI0.out; have hcz8_0 := cellS114_0 HGz8; have hcz8_1 := cellS114_1 HGz8; have hcz8_2 := cellS114_2 HGz8; have hfz8_0 := blk_frozen HGz8 0; have hfz8_1 := blk_frozen HGz8 1; have hfz8_2 := blk_frozen HGz8 2; clear HGz8 hgz8) | (go_at_call 38; (with_reducible refine (raw_Get.calls t123 t124 a1 t126 t127 _ A5.out).mono ?_); rintro e w' ⟨rfl, ⟨nd, rfl⟩⟩; (try first | exact ⟨rfl, _, World.drewN_drewN _ _ _⟩ | exact ⟨rfl, _, Eq.trans (World.drewN_drewN _ _ _) (congrArg (World.drewN _) (Nat.add_assoc _ _ _))⟩))))
   go_ret
   exact ⟨by first | rfl | (simp [errW_none, errW_some] <;> rfl) | (simp [*, errW_none, errW_some] <;> rfl), by repeat (first | (with_reducible first | exact HI0.out | apply IsS114.alloc | apply IsS114.drewN | apply IsS114.drew | apply IsS114.set_0 | apply IsS114.set_1 | apply IsS114.set_2) | exact HI0.out), by repeat (first | (with_reducible first | exact HB.out | apply below_alloc | apply pw_below_drewN | apply below_drew1 | refine below_set ?_ (IsS114.ge HI0.out)) | exact HB.out), by repeat (first | (with_reducible first | exact HK.out | apply KeepBut.set_ | apply keep_drewN | apply keep_drew | apply keep_alloc) | exact HK.out)⟩
  ·rw [if_neg c6] at H
   have c6b0 : (t127 == 0) = false := beq_eq_false_iff_ne.mpr c6
   have c6b1 : (t127 != 0) = true := bne_iff_ne.mpr c6
   simp only [Option.some.injEq, Prod.mk.injEq] at H
   obtain ⟨rfl, rfl, rfl, rfl⟩ := H
   go_enter Try.func40, Try.ntmps40
   go_wp2_with (first | (go_at_call 42; (with_reducible refine (raw_Reader_Err.calls g s0_0 s0_1 s0_2 t122 t123 t124 t125 w0 _ ?side1 ?side2 A3.out).mono ?_); (case side1 => repeat (first | (with_reducible first | exact HI0.out | apply IsS114.alloc | apply IsS114.drewN | apply IsS114.drew | apply IsS114.set_0 | apply IsS114.set_1 | apply IsS114.set_2) | exact HI0.out)); (case side2 => repeat (first | (with_reducible first | exact HB.out | apply below_alloc | apply pw_below_drewN | apply below_drew1 | refine below_set ?_ (IsS114.ge HI0.out)) | exact HB.out)); rintro e w9 ⟨rfl, hi, hb, hk⟩; have n0_ := Aside0.mk (KeepBut.trans (by repeat (first | (with_reducible first | exact HK.out | apply KeepBut.set_ | apply keep_drewN | apply keep_drew | apply keep_alloc) | exact HK.out)) hk (.inl rfl)); have n1_ := Aside0.mk (hb); have n2_ := Aside0.mk (hi); clear HK; clear HB; clear HI0; have HK := n0_; have HB := n1_; have HI0 := n2_; clear n0_ n1_ n2_; (try clear hb); (try clear hb2); (try clear hk); (try clear hi); obtain ⟨HGz10, hgz10⟩ := HI0.out; have hcz10_0 := cellS114_0 HGz10; have hcz10_1 := cellS114_1 HGz10; have hcz10_2 := cellS114_2 HGz10; have hfz10_0 := blk_frozen HGz10 0; have hfz10_1 := blk_frozen HGz10 1; have hfz10_2 := blk_frozen HGz10 2; clear HGz10 hgz10) | (go_at_call 38; (with_reducible refine (raw_Get.calls t123 t124 a1 t126 t127 _ A5.out).mono ?_); rintro e w' ⟨rfl, ⟨nd, rfl⟩⟩; (try first | exact ⟨rfl, _, World.drewN_drewN _ _ _⟩ | exact ⟨rfl, _, Eq.trans (World.drewN_drewN _ _ _) (congrArg (World.drewN _) (Nat.add_assoc _ _ _))⟩)))
   repeat (go_quiet (first | (go_at_call 42; (with_reducible refine (raw_Reader_Err.calls g s0_0 s0_1 s0_2 t122 t123 t124 t125 w0 _ ?side1 ?side2 A3.out).mono ?_); (case side1 => repeat (first | (with_reducible first | exact HI0.out | apply IsS114.alloc | apply IsS114.drewN | apply IsS114.drew | apply IsS114.set_0 | apply IsS114.set_1 | apply IsS114.set_2) | exact HI0.out)); (case side2 => repeat (first | (with_reducible first | exact HB.out | apply below_alloc | apply pw_below_drewN | apply below_drew1 | refine below_set ?_ (IsS114.ge HI0.out)) | exact HB.out)); rintro e w9 ⟨rfl, hi, hb, hk⟩; have n0_ := Aside0.mk (KeepBut.trans (by repeat (first | (with_reducible first | exact HK.out | apply KeepBut.set_ | apply keep_drewN | apply keep_drew | apply keep_alloc) | exact HK.out)) hk (.inl rfl)); have n1_ := Aside0.mk (hb); have n2_ := Aside0.mk (hi); clear HK; clear HB; clear HI0; have HK := n0_; have HB := n1_; have HI0 := n2_; clear n0_ n1_ n2_; (try clear hb); (try clear hb2); (try clear hk); (try clear hi); obtain ⟨HGz10, hgz10⟩ := HI0.out; have hcz10_0 := cellS114_0 HGz10; have hcz10_1 := cellS114_1 HGz10; have hcz10_2 := cellS114_2 HGz10; have hfz10_0 := blk_frozen HGz10 0; have hfz10_1 := blk_frozen HGz10 1; have hfz10_2 := blk_frozen HGz10 2; clear HGz10 hgz10) | (go_at_call 38; (with_reducible refine (raw_Get.calls t123 t124 a1 t126 t127 _ A5.out).mono ?_); rintro e w' ⟨rfl, ⟨nd, rfl⟩⟩; (try first | exact ⟨rfl, _, World.drewN_drewN _ _ _⟩ | exact ⟨rfl, _, Eq.trans (World.drewN_drewN _ _ _) (congrArg (World.drewN _) (Nat.add_assoc _ _ _))⟩))); try go_wp2_with (first | (go_at_call 42; (with_reducible refine (raw_Reader_Err.calls g s0_0 s0_1 s0_2 t122 t123 t124 t125 w0 _ ?side1 ?side2 A3.out).mono ?_); (case side1 => repeat (first | (with_reducible first | exact HI0.out | apply IsS114.alloc | apply IsS114.drewN | apply IsS114.drew | apply IsS114.set_0 | apply IsS114.set_1 | apply IsS114.set_2) | exact HI0.out)); (case side2 => repeat (first | (with_reducible first | exact HB.out | apply below_alloc | apply pw_below_drewN | apply below_drew1 | refine below_set ?_ (IsS114.ge HI0.out)) | exact HB.out)); rintro e w9 ⟨rfl, hi, hb, hk⟩; have n0_ := Aside0.mk (KeepBut.trans (by repeat (first | (with_reducible first | exact HK.out | apply KeepBut.set_ | apply keep_drewN | apply keep_drew | apply keep_alloc) | exact HK.out)) hk (.inl rfl)); have n1_ := Aside0.mk (hb); have n2_ := Aside0.mk (hi); clear HK; clear HB; clear HI0; have HK := n0_; have HB := n1_; have HI0 := n2_; clear n0_ n1_ n2_; (try clear hb); (try clear hb2); (try clear hk); (try clear hi); obtain ⟨HGz10, hgz10⟩ := HI0.out; have hcz10_0 := cellS114_0 HGz10; have hcz10_1 := cellS114_1 HGz10; have hcz10_2 := cellS114_2 HGz10; have hfz10_0 := blk_frozen HGz10 0; have hfz10_1 := blk_frozen HGz10 1; have hfz10_2 := blk_frozen HGz10 2; clear HGz10 hgz10) | (go_at_call 38; (with_reducible refine (raw_Get.calls t123 t124 a1 t126 t127 _ A5.out).mono ?_); rintro e w' ⟨rfl, ⟨nd, rfl⟩⟩; (try first | exact ⟨rfl, _, World.drewN_drewN _ _ _⟩ | exact ⟨rfl, _, Eq.trans (World.drewN_drewN _ _ _) (congrArg (World.drewN _) (Nat.add_assoc _ _ _))⟩))))
   go_ret
   exact ⟨by first | rfl | (simp [errW_none, errW_some] <;> rfl) | (simp [*, errW_none, errW_some] <;> rfl), by repeat (first | (with_reducible first | exact HI0.out | apply IsS114.alloc | apply IsS114.drewN | apply IsS114.drew | apply IsS114.set_0 | apply IsS114.set_1 | apply IsS114.set_2) | exact HI0.out), by repeat (first | (with_reducible first | exact HB.out | apply below_alloc | apply pw_below_drewN | apply below_drew1 | refine below_set ?_ (IsS114.ge HI0.out)) | exact HB.out), by repeat (first | (with_reducible first | exact HK.out | apply KeepBut.set_ | apply keep_drewN | apply keep_drew | apply keep_alloc) | exact HK.out)⟩
 ·rw [if_neg c4] at H
  have c4b0 : (t122 == 0) = false := beq_eq_false_iff_ne.mpr c4
  have c4b1 : (t122 != 0) = true := bne_iff_ne.mpr c4
  simp only [Option.some.injEq, Prod.mk.injEq] at H
  obtain ⟨rfl, rfl, rfl, rfl⟩ := H
  go_enter Try.func40, Try.ntmps40
  go_wp2_with (first | (go_at_call 42; (with_reducible refine (raw_Reader_Err.calls g s0_0 s0_1 s0_2 t122 t123 t124 t125 w0 _ ?side1 ?side2 A3.out).mono ?_); (case side1 => repeat (first | (with_reducible first | exact HI0.out | apply IsS114.alloc | apply IsS114.drewN | apply IsS114.drew | apply IsS114.set_0 | apply IsS114.set_1 | apply IsS114.set_2) | exact HI0.out)); (case side2 => repeat (first | (with_reducible first | exact HB.out | apply below_alloc | apply pw_below_drewN | apply below_drew1 | refine below_set ?_ (IsS114.ge HI0.out)) | exact HB.out)); rintro e w11 ⟨rfl, hi, hb, hk⟩; have n0_ := Aside0.mk (KeepBut.trans (by repeat (first | (with_reducible first | exact HK.out | apply KeepBut.set_ | apply keep_drewN | apply keep_drew | apply keep_alloc) | exact HK.out)) hk (.inl rfl)); have n1_ := Aside0.mk (hb); have n2_ := Aside0.mk (hi); clear HK; clear HB; clear HI0; have HK := n0_; have HB := n1_; have HI0 := n2_; clear n0_ n1_ n2_; (try clear hb); (try clear hb2); (try clear hk); (try clear hi)))
  repeat (go_quiet (first | (go_at_call 42; (with_reducible refine (raw_Reader_Err.calls g s0_0 s0_1 s0_2 t122 t123 t124 t125 w0 _ ?side1 ?side2 A3.out).mono ?_); (case side1 => repeat (first | (with_reducible first | exact HI0.out | apply IsS114.alloc | apply IsS114.drewN | apply IsS114.drew | apply IsS114.set_0 | apply IsS114.set_1 | apply IsS114.set_2) | exact HI0.out)); (case side2 => repeat (first | (with_reducible first | exact HB.out | apply below_alloc | apply pw_below_drewN | apply below_drew1 | refine below_set ?_ (IsS114.ge HI0.out)) | exact HB.out)); rintro e w11 ⟨rfl, hi, hb, hk⟩; have n0_ := Aside0.mk (KeepBut.trans (by repeat (first | (with_reducible first | exact HK.out | apply KeepBut.set_ | apply keep_drewN | apply keep_drew | apply keep_alloc) | exact HK.out)) hk (.inl rfl)); have n1_ := Aside0.mk (hb); have n2_ := Aside0.mk (hi); clear HK; clear HB; clear HI0; have HK := n0_; have HB := n1_; have HI0 := n2_; clear n0_ n1_ n2_; (try clear hb); (try clear hb2); (try clear hk); (try clear hi))); try go_wp2_with (first | (go_at_call 42; (with_reducible refine (raw_Reader_Err.calls g s0_0 s0_1 s0_2 t122 t123 t124 t125 w0 _ ?side1 ?side2 A3.out).mono ?_); (case side1 => repeat (first | (with_reducible first | exact HI0.out | apply IsS114.alloc | apply IsS114.drewN | apply IsS114.drew | apply IsS114.set_0 | apply IsS114.set_1 | apply IsS114.set_2) | exact HI0.out)); (case side2 => repeat (first | (with_reducible first | exact HB.out | apply below_alloc | apply pw_below_drewN | apply below_drew1 | refine below_set ?_ (IsS114.ge HI0.out)) | exact HB.out)); rintro e w11 ⟨rfl, hi, hb, hk⟩; have n0_ := Aside0.mk (KeepBut.trans (by repeat (first | (with_reducible first | exact HK.out | apply KeepBut.set_ | apply keep_drewN | apply keep_drew | apply keep_alloc) | exact HK.out)) hk (.inl rfl)); have n1_ := Aside0.mk (hb); have n2_ := Aside0.mk (hi); clear HK; clear HB; clear HI0; have HK := n0_; have HB := n1_; have HI0 := n2_; clear n0_ n1_ n2_; (try clear hb); (try clear hb2); (try clear hk); (try clear hi))))
  go_ret
  exact ⟨by first | rfl | (simp [errW_none, errW_some] <;> rfl) | (simp [*, errW_none, errW_some] <;> rfl), by repeat (first | (with_reducible first | exact HI0.out | apply IsS114.alloc | apply IsS114.drewN | apply IsS114.drew | apply IsS114.set_0 | apply IsS114.set_1 | apply IsS114.set_2) | exact HI0.out), by repeat (first | (with_reducible first | exact HB.out | apply below_alloc | apply pw_below_drewN | apply below_drew1 | refine below_set ?_ (IsS114.ge HI0.out)) | exact HB.out), by repeat (first | (with_reducible first | exact HK.out | apply KeepBut.set_ | apply keep_drewN | apply keep_drew | apply keep_alloc) | exact HK.out)⟩
end Go.Proofs.Yteokjmjfjdgmpaa.PPg
end
section
namespace Go.Proofs.Yteokjmjfjdgmpaa.PPg
open Go.RowKit Go.Proofs.YteokjmjfjdgmpaaW.PrintWords Go.Proofs.YteokjmjfjdgmpaaW.PrintLast Go.Proofs.YteokjmjfjdgmpaaW.PrintMore
attribute [local go_sem] max2_int min2_int max_two min_two max_three min_three max_four min_four
set_option linter.unusedVariables false
set_option linter.unusedSimpArgs false
def raw_Reader_Bytes.f (s0_0 : ByteArray) (s0_1 : Int) (s0_2 : Int) (a1 : Int) : Option (ByteArray × ByteArray × Int × Int) := (raw_Reader_Err.f s0_0 s0_1 s0_2).bind fun bt128 => (if bt128.1 = 0 then (if a1 < 0 then (some ((⟨#[]⟩ : ByteArray), bt128.2.1, bt128.2.2.1, 1)) else (if (wrap64 ((bt128.2.1.size : Int) - bt128.2.2.1)) < a1 then (some ((⟨#[]⟩ : ByteArray), bt128.2.1, bt128.2.2.1, 4)) else (if 0 ≤ (wrap64 ((wrap64 (bt128.2.2.1 + a1)) - a1)) then (if (wrap64 ((wrap64 (bt128.2.2.1 + a1)) - a1)) ≤ (wrap64 (bt128.2.2.1 + a1)) then (if (wrap64 (bt128.2.2.1 + a1)) ≤ (bt128.2.1.size : Int) then (some (bt128.2.1.extract ((wrap64 ((wrap64 (bt128.2.2.1 + a1)) - a1)) : Int).toNat ((wrap64 (bt128.2.2.1 + a1)) : Int).toNat, bt128.2.1, wrap64 (bt128.2.2.1 + a1), bt128.2.2.2)) else (none)) else (none)) else (none)))) else (some ((⟨#[]⟩ : ByteArray), bt128.2.1, bt128.2.2.1, bt128.2.2.2)))
set_option maxHeartbeats 8000000 in
set_option maxRecDepth 100000 in
theorem raw_Reader_Bytes.calls (g : Nat) (s0_0 : ByteArray) (s0_1 : Int) (s0_2 : Int) (a1 : Int) (r1 : ByteArray) (r2 : ByteArray) (r3 : Int) (r4 : Int) (w0 w : World) (hI : IsS114 w0 w g s0_0 s0_1 s0_2) (hB : Below w0.heap.size w0 w) (h : raw_Reader_Bytes.f s0_0 s0_1 s0_2 a1 = some (r1, r2, r3, r4)) :
  Calls Try.prog 41 #[.pointer (some ⟨g, 0, none⟩), .int .i64 a1] w fun e w' => e = .returned (.string r1) ∧ IsS114 w0 w' g r2 r3 r4 ∧ Below w0.heap.size w0 w' ∧ KeepBut w w' g none := by
 have HI0 := Aside0.mk hI
 have HK := Aside0.mk (KeepBut.refl w g none)
 have HL := Aside0.mk hB.size
 clear hI
 have HW0 := Aside0.mk hB.size
 have HB := Aside0.mk hB
 clear hB
 have H : ((raw_Reader_Err.f s0_0 s0_1 s0_2).bind fun bt128 => (if bt128.1 = 0 then (if a1 < 0 then (some ((⟨#[]⟩ : ByteArray), bt128.2.1, bt128.2.2.1, 1)) else (if (wrap64 ((bt128.2.1.size : Int) - bt128.2.2.1)) < a1 then (some ((⟨#[]⟩ : ByteArray), bt128.2.1, bt128.2.2.1, 4)) else (if 0 ≤ (wrap64 ((wrap64 (bt128.2.2.1 + a1)) - a1)) then (if (wrap64 ((wrap64 (bt128.2.2.1 + a1)) - a1)) ≤ (wrap64 (bt128.2.2.1 + a1)) then (if (wrap64 (bt128.2.2.1 + a1)) ≤ (bt128.2.1.size : Int) then (some (bt128.2.1.extract ((wrap64 ((wrap64 (bt128.2.2.1 + a1)) - a1)) : Int).toNat ((wrap64 (bt128.2.2.1 + a1)) : Int).toNat, bt128.2.1, wrap64 (bt128.2.2.1 + a1), bt128.2.2.2)) else (none)) else (none)) else (none)))) else (some ((⟨#[]⟩ : ByteArray), bt128.2.1, bt128.2.2.1, bt128.2.2.2)))) = some (r1, r2, r3, r4) := h
 clear h
 replace H := Option.bind_eq_some_iff.mp H
 obtain ⟨⟨t128, t129, t130, t131⟩, A30, H⟩ := H
 replace H : (if t128 = 0 then (if a1 < 0 then (some ((⟨#[]⟩ : ByteArray), t129, t130, 1)) else (if (wrap64 ((t129.size : Int) - t130)) < a1 then (some ((⟨#[]⟩ : ByteArray), t129, t130, 4)) else (if 0 ≤ (wrap64 ((wrap64 (t130 + a1)) - a1)) then (if (wrap64 ((wrap64 (t130 + a1)) - a1)) ≤ (wrap64 (t130 + a1)) then (if (wrap64 (t130 + a1)) ≤ (t129.size : Int) then (some (t129.extract ((wrap64 ((wrap64 (t130 + a1)) - a1)) : Int).toNat ((wrap64 (t130 + a1)) : Int).toNat, t129, wrap64 (t130 + a1), t131)) else (none)) else (none)) else (none)))) else (some ((⟨#[]⟩ : ByteArray), t129, t130, t131))) = some (r1, r2, r3, r4) := H
 have A3 := Aside0.mk A30
 clear A30
 by_cases c4 : t128 = 0
 ·rw [if_pos c4] at H
  have c4b0 : (t128 == 0) = true := beq_iff_eq.mpr c4
  have c4b1 : (t128 != 0) = false := bne_eq_false_iff_eq.mpr c4
  clear c4
  by_cases c5 : a1 < 0
  ·rw [if_pos c5] at H
   have c5b0 : decide (a1 < 0) = true := decide_eq_true c5
   clear c5
   simp only [Option.some.injEq, Prod.mk.injEq] at H
   obtain ⟨rfl, rfl, rfl, rfl⟩ := H
   go_enter Try.func41, Try.ntmps41
   go_wp2_with (first | (go_at_call 42; (with_reducible refine (raw_Reader_Err.calls g s0_0 s0_1 s0_2 t128 t129 t130 t131 w0 _ ?side1 ?side2 A3.out).mono ?_); (case side1 => repeat (first | (with_reducible first | exact HI0.out | apply IsS114.alloc | apply IsS114.drewN | apply IsS114.drew | apply IsS114.set_0 | apply IsS114.set_1 | apply IsS114.set_2) | exact HI0.out)); (case side2 => repeat (first | (with_reducible first | exact HB.out | apply below_alloc | apply pw_below_drewN | apply below_drew1 | refine below_set ?_ (IsS114.ge HI0.out)) | exact HB.out)); rintro e w6 ⟨rfl, hi, hb, hk⟩; have n0_ := Aside0.mk (KeepBut.trans (by repeat (first | (with_reducible first | exact HK.out | apply KeepBut.set_ | apply keep_drewN | apply keep_drew | apply keep_alloc) | exact HK.out)) hk (.inl rfl)); have n1_ := Aside0.mk (hb); have n2_ := Aside0.mk (hi); clear HK; clear HB; clear HI0; have HK := n0_; have HB := n1_; have HI0 := n2_; clear n0_ n1_ n2_; (try clear hb); (try clear hb2); (try clear hk); (try clear hi); obtain ⟨HGz7, hgz7⟩ := HI0.out; have hcz7_0 := cellS114_0 HGz7; have hcz7_1 := cellS114_1 HGz7; have hcz7_2 := cellS114_2 HGz7; have hfz7_0 := blk_frozen HGz7 0; have hfz7_1 := blk_frozen HGz7 1; have hfz7_2 := blk_frozen HGz7 2; clear HGz7 hgz7))
   repeat (go_quiet (first | (go_at_call 42; (with_reducible refine (raw_Reader_Err.calls g s0_0 s0_1 s0_2 t128 t129 t130 t131 w0 _ ?side1 ?side2 A3.out).mono ?_); (case side1 => repeat (first | (with_reducible first | exact HI0.out | apply IsS114.alloc | apply IsS114.drewN | apply IsS114.drew | apply IsS114.set_0 | apply IsS114.set_1 | apply IsS114.set_2) | exact HI0.out)); (case side2 => repeat (first | (with_reducible first | exact HB.out | apply below_alloc | apply pw_below_drewN | apply below_drew1 | refine below_set ?_ (IsS114.ge HI0.out)) | exact HB.out)); rintro e w6 ⟨rfl, hi, hb, hk⟩; have n0_ := Aside0.mk (KeepBut.trans (by repeat (first | (with_reducible first | exact HK.out | apply KeepBut.set_ | apply keep_drewN | apply keep_drew | apply keep_alloc) | exact HK.out)) hk (.inl rfl)); have n1_ := Aside0.mk (hb); have n2_ := Aside0.mk (hi); clear HK; clear HB; clear HI0; have HK := n0_; have HB := n1_; have HI0 := n2_; clear n0_ n1_ n2_; (try clear hb); (try clear hb2); (try clear hk); (try clear hi); obtain ⟨HGz7, hgz7⟩ := HI0.out; have hcz7_0 := cellS114_0 HGz7; have hcz7_1 := cellS114_1 HGz7; have hcz7_2 := cellS114_2 HGz7; have hfz7_0 := blk_frozen HGz7 0; have hfz7_1 := blk_frozen HGz7 1; have hfz7_2 := blk_frozen HGz7 2; clear HGz7 hgz7)); try go_wp2_with (first | (go_at_call 42; (with_reducible refine (raw_Reader_Err.calls g s0_0 s0_1 s0_2 t128 t129 t130 t131 w0 _ ?side1 ?side2 A3.out).mono ?_); (case side1 => repeat (first | (with_reducible first | exact HI0.out | apply IsS114.alloc | apply IsS114.drewN | apply IsS114.drew | apply IsS114.set_0 | apply IsS114.set_1 | apply IsS114.set_2) | exact HI0.out)); (case side2 => repeat (first | (with_reducible first | exact HB.out | apply below_alloc | apply pw_below_drewN | apply below_drew1 | refine below_set ?_ (IsS114.ge HI0.out)) | exact HB.out)); rintro e w6 ⟨rfl, hi, hb, hk⟩; have n0_ := Aside0.mk (KeepBut.trans (by repeat (first | (with_reducible first | exact HK.out | apply KeepBut.set_ | apply keep_drewN | apply keep_drew | apply keep_alloc) | exact HK.out)) hk (.inl rfl)); have n1_ := Aside0.mk (hb); have n2_ := Aside0.mk (hi); clear HK; clear HB; clear HI0; have HK := n0_; have HB := n1_; have HI0 := n2_; clear n0_ n1_ n2_; (try clear hb); (try clear hb2); (try clear hk); (try clear hi); obtain ⟨HGz7, hgz7⟩ := HI0.out; have hcz7_0 := cellS114_0 HGz7; have hcz7_1 := cellS114_1 HGz7; have hcz7_2 := cellS114_2 HGz7; have hfz7_0 := blk_frozen HGz7 0; have hfz7_1 := blk_frozen HGz7 1; have hfz7_2 := blk_frozen HGz7 2; clear HGz7 hgz7)))
   go_ret
   exact ⟨by first | rfl | (simp [errW_none, errW_some] <;> rfl) | (simp [*, errW_none, errW_some] <;> rfl), by repeat (first | (with_reducible first | exact HI0.out | apply IsS114.alloc | apply IsS114.drewN | apply IsS114.drew | apply IsS114.set_0 | apply IsS114.set_1 | apply IsS114.set_2) | exact HI0.out), by repeat (first | (with_reducible first | exact HB.out | apply below_alloc | apply pw_below_drewN | apply below_drew1 | refine below_set ?_ (IsS114.ge HI0.out)) | exact HB.out), by repeat (first | (with_reducible first | exact HK.out | apply KeepBut.set_ | apply keep_drewN | apply keep_drew | apply keep_alloc) | exact HK.out)⟩
  ·rw [if_neg c5] at H
   have c5b0 : decide (a1 < 0) = false := decide_eq_false c5
   clear c5
   by_cases c8 : (wrap64 ((t129.size : Int) - t130)) < a1
   ·rw [if_pos c8] at H
    have c8b0 : decide ((wrap64 ((t129.size : Int) - t130)) < a1) = true := decide_eq_true c8
    clear c8
    simp only [Option.some.injEq, Prod.mk.injEq] at H
    obtain ⟨rfl, rfl, rfl, rfl⟩ := H
    go_enter Try.func41, Try.ntmps41
    go_wp2_with (first | (go_at_call 42; (with_reducible refine (raw_Reader_Err.calls g s0_0 s0_1 s0_2 t128 t129 t130 t131 w0 _ ?side1 ?side2 A3.out).mono ?_); (case side1 => repeat (first | (with_reducible first | exact HI0.out | apply IsS114.alloc | apply IsS114.drewN | apply IsS114.drew | apply IsS114.set_0 | apply IsS114.set_1 | apply IsS114.set_2) | exact HI0.out)); (case side2 => repeat (first | (with_reducible first | exact HB.out | apply below_alloc | apply pw_below_drewN | apply below_drew1 | refine below_set ?_ (IsS114.ge HI0.out)) | exact HB.out)); rintro e w9 ⟨rfl, hi, hb, hk⟩; have n0_ := Aside0.mk (KeepBut.trans (by repeat (first | (with_reducible first | exact HK.out | apply KeepBut.set_ | apply keep_drewN | apply keep_drew | apply keep_alloc) | exact HK.out)) hk (.inl rfl)); have n1_ := Aside0.mk (hb); have n2_ := Aside0.mk (hi); clear HK; clear HB; clear HI0; have HK := n0_; have HB := n1_; have HI0 := n2_; clear n0_ n1_ n2_; (try clear hb); (try clear hb2); (try clear hk); (try clear hi); obtain ⟨HGz10, hgz10⟩ := HI0.out; have hcz10_0 := cellS114_0 HGz10; have hcz10_1 := cellS114_1 HGz10; have hcz10_2 := cellS114_2 HGz10; have hfz10_0 := blk_frozen HGz10 0; have hfz10_1 := blk_frozen HGz10 1; have hfz10_2 := blk_frozen HGz10 2; clear HGz10 hgz10))
    repeat (go_quiet (first | (go_at_call 42; (with_reducible refine (raw_Reader_Err.calls g s0_0 s0_1 s0_2 t128 t129 t130 t131 w0 _ ?side1 ?side2 A3.out).mono ?_); (case side1 => repeat (first | (with_reducible first | exact HI0.out | apply IsS114.alloc | apply IsS114.drewN | apply IsS114.drew | apply IsS114.set_0 | apply IsS114.set_1 | apply IsS114.set_2) | exact HI0.out)); (case side2 => repeat (first | (with_reducible first | exact HB.out | apply below_alloc | apply pw_below_drewN | apply below_drew1 | refine below_set ?_ (IsS114.ge HI0.out)) | exact HB.out)); rintro e w9 ⟨rfl, hi, hb, hk⟩; have n0_ := Aside0.mk (KeepBut.trans (by repeat (first | (with_reducible first | exact HK.out | apply KeepBut.set_ | apply keep_drewN | apply keep_drew | apply keep_alloc) | exact HK.out)) hk (.inl rfl)); have n1_ := Aside0.mk (hb); have n2_ := Aside0.mk (hi); clear HK; clear HB; clear HI0; have HK := n0_; have HB := n1_; have HI0 := n2_; clear n0_ n1_ n2_; (try clear hb); (try clear hb2); (try clear hk); (try clear hi); obtain ⟨HGz10, hgz10⟩ := HI0.out; have hcz10_0 := cellS114_0 HGz10; have hcz10_1 := cellS114_1 HGz10; have hcz10_2 := cellS114_2 HGz10; have hfz10_0 := blk_frozen HGz10 0; have hfz10_1 := blk_frozen HGz10 1; have hfz10_2 := blk_frozen HGz10 2; clear HGz10 hgz10)); try go_wp2_with (first | (go_at_call 42; (with_reducible refine (raw_Reader_Err.calls g s0_0 s0_1 s0_2 t128 t129 t130 t131 w0 _ ?side1 ?side2 A3.out).mono ?_); (case side1 => repeat (first | (with_reducible first | exact HI0.out | apply IsS114.alloc | apply IsS114.drewN | apply IsS114.drew | apply IsS114.set_0 | apply IsS114.set_1 | apply IsS114.set_2) | exact HI0.out)); (case side2 => repeat (first | (with_reducible first | exact HB.out | apply below_alloc | apply pw_below_drewN | apply below_drew1 | refine below_set ?_ (IsS114.ge HI0.out)) | exact HB.out)); rintro e w9 ⟨rfl, hi, hb, hk⟩; have n0_ := Aside0.mk (KeepBut.trans (by repeat (first | (with_reducible first | exact HK.out | apply KeepBut.set_ | apply keep_drewN | apply keep_drew | apply keep_alloc) | exact HK.out)) hk (.inl rfl)); have n1_ := Aside0.mk (hb); have n2_ := Aside0.mk (hi); clear HK; clear HB; clear HI0; have HK := n0_; have HB := n1_; have HI0 := n2_; clear n0_ n1_ n2_; (try clear hb); (try clear hb2); (try clear hk); (try clear hi); obtain ⟨HGz10, hgz10⟩ := HI0.out; have hcz10_0 := cellS114_0 HGz10; have hcz10_1 := cellS114_1 HGz10; have hcz10_2 := cellS114_2 HGz10; have hfz10_0 := blk_frozen HGz10 0; have hfz10_1 := blk_frozen HGz10 1; have hfz10_2 := blk_frozen HGz10 2; clear HGz10 hgz10)))
    go_ret
    exact ⟨by first | rfl | (simp [errW_none, errW_some] <;> rfl) | (simp [*, errW_none, errW_some] <;> rfl), by repeat (first | (with_reducible first | exact HI0.out | apply IsS114.alloc | apply IsS114.drewN | apply IsS114.drew | apply IsS114.set_0 | apply IsS114.set_1 | apply IsS114.set_2) | exact HI0.out), by repeat (first | (with_reducible first | exact HB.out | apply below_alloc | apply pw_below_drewN | apply below_drew1 | refine below_set ?_ (IsS114.ge HI0.out)) | exact HB.out), by repeat (first | (with_reducible first | exact HK.out | apply KeepBut.set_ | apply keep_drewN | apply keep_drew | apply keep_alloc) | exact HK.out)⟩
   ·rw [if_neg c8] at H
    have c8b0 : decide ((wrap64 ((t129.size : Int) - t130)) < a1) = false := decide_eq_false c8
    clear c8
    obtain ⟨ji11, hji11⟩ : ∃ j_ : Int, (wrap64 ((wrap64 (t130 + a1)) - a1)) = j_ := ⟨_, rfl⟩
    replace H : (if 0 ≤ (ji11) then (if (ji11) ≤ (wrap64 (t130 + a1)) then (if (wrap64 (t130 + a1)) ≤ (t129.size : Int) then (some (t129.extract ((ji11) : Int).toNat ((wrap64 (t130 + a1)) : Int).toNat, t129, wrap64 (t130 + a1), t131)) else (none)) else (none)) else (none)) = some (r1, r2, r3, r4) := by first | (rw [hji11] at H; exact H) | (simp only [hji11] at H ⊢; exact H)
    (try rw [hji11] at A3)
    have hji11w : (IntKind.i64.wrap ((wrap64 (t130 + a1)) - a1)) = ji11 := (i64_w _).trans hji11
    by_cases c12 : 0 ≤ (ji11)
    ·rw [if_pos c12] at H
     have c12b0 := eq_true c12
     have c12b1 : decide (0 ≤ (ji11)) = true := decide_eq_true c12
     clear c12
     by_cases c13 : (ji11) ≤ (wrap64 (t130 + a1))
     ·rw [if_pos c13] at H
      have c13b0 := eq_true c13
      have c13b1 : decide ((ji11) ≤ (wrap64 (t130 + a1))) = true := decide_eq_true c13
      by_cases c14 : (wrap64 (t130 + a1)) ≤ (t129.size : Int)
      ·rw [if_pos c14] at H
       have c14b0 := eq_true c14
       have c14b1 : decide ((wrap64 (t130 + a1)) ≤ (t129.size : Int)) = true := decide_eq_true c14
       simp only [Option.some.injEq, Prod.mk.injEq] at H
       obtain ⟨rfl, rfl, rfl, rfl⟩ := H
       go_enter Try.func41, Try.ntmps41
       go_wp2_with (first | (go_at_call 42; (with_reducible refine (raw_Reader_Err.calls g s0_0 s0_1 s0_2 t128 t129 t130 t131 w0 _ ?side1 ?side2 A3.out).mono ?_); (case side1 => repeat (first | (with_reducible first | exact HI0.out | apply IsS114.alloc | apply IsS114.drewN | apply IsS114.drew | apply IsS114.set_0 | apply IsS114.set_1 | apply IsS114.set_2) | exact HI0.out)); (case side2 => repeat (first | (with_reducible first | exact HB.out | apply below_alloc | apply pw_below_drewN | apply below_drew1 | refine below_set ?_ (IsS114.ge HI0.out)) | exact HB.out)); rintro e w15 ⟨rfl, hi, hb, hk⟩; have n0_ := Aside0.mk (KeepBut.trans (by repeat (first | (with_reducible first | exact HK.out | apply KeepBut.set_ | apply keep_drewN | apply keep_drew | apply keep_alloc) | exact HK.out)) hk (.inl rfl)); have n1_ := Aside0.mk (hb); have n2_ := Aside0.mk (hi); clear HK; clear HB; clear HI0; have HK := n0_; have HB := n1_; have HI0 := n2_; clear n0_ n1_ n2_; (try clear hb); (try clear hb2); (try clear hk); (try clear hi); obtain ⟨HGz16, hgz16⟩ := HI0.out; have hcz16_0 := cellS114_0 HGz16; have hcz16_1 := cellS114_1 HGz16; have hcz16_2 := cellS114_2 HGz16; have hfz16_0 := blk_frozen HGz16 0; have hfz16_1 := blk_frozen HGz16 1; have hfz16_2 := blk_frozen HGz16 2; clear HGz16 hgz16))
       repeat (go_quiet (first | (go_at_call 42; (with_reducible refine (raw_Reader_Err.calls g s0_0 s0_1 s0_2 t128 t129 t130 t131 w0 _ ?side1 ?side2 A3.out).mono ?_); (case side1 => repeat (first | (with_reducible first | exact HI0.out | apply IsS114.alloc | apply IsS114.drewN | apply IsS114.drew | apply IsS114.set_0 | apply IsS114.set_1 | apply IsS114.set_2) | exact HI0.out)); (case side2 => repeat (first | (with_reducible first | exact HB.out | apply below_alloc | apply pw_below_drewN | apply below_drew1 | refine below_set ?_ (IsS114.ge HI0.out)) | exact HB.out)); rintro e w15 ⟨rfl, hi, hb, hk⟩; have n0_ := Aside0.mk (KeepBut.trans (by repeat (first | (with_reducible first | exact HK.out | apply KeepBut.set_ | apply keep_drewN | apply keep_drew | apply keep_alloc) | exact HK.out)) hk (.inl rfl)); have n1_ := Aside0.mk (hb); have n2_ := Aside0.mk (hi); clear HK; clear HB; clear HI0; have HK := n0_; have HB := n1_; have HI0 := n2_; clear n0_ n1_ n2_; (try clear hb); (try clear hb2); (try clear hk); (try clear hi); obtain ⟨HGz16, hgz16⟩ := HI0.out; have hcz16_0 := cellS114_0 HGz16; have hcz16_1 := cellS114_1 HGz16; have hcz16_2 := cellS114_2 HGz16; have hfz16_0 := blk_frozen HGz16 0; have hfz16_1 := blk_frozen HGz16 1; have hfz16_2 := blk_frozen HGz16 2; clear HGz16 hgz16)); try go_wp2_with (first | (go_at_call 42; (with_reducible refine (raw_Reader_Err.calls g s0_0 s0_1 s0_2 t128 t129 t130 t131 w0 _ ?side1 ?side2 A3.out).mono ?_); (case side1 => repeat (first | (with_reducible first | exact HI0.out | apply IsS114.alloc | apply IsS114.drewN | apply IsS114.drew | apply IsS114.set_0 | apply IsS114.set_1 | apply IsS114.set_2) | exact HI0.out)); (case side2 => repeat (first | (with_reducible first | exact HB.out | apply below_alloc | apply pw_below_drewN | apply below_drew1 | refine below_set ?_ (IsS114.ge HI0.out)) | exact HB.out)); rintro e w15 ⟨rfl, hi, hb, hk⟩; have n0_ := Aside0.mk (KeepBut.trans (by repeat (first | (with_reducible first | exact HK.out | apply KeepBut.set_ | apply keep_drewN | apply keep_drew | apply keep_alloc) | exact HK.out)) hk (.inl rfl)); have n1_ := Aside0.mk (hb); have n2_ := Aside0.mk (hi); clear HK; clear HB; clear HI0; have HK := n0_; have HB := n1_; have HI0 := n2_; clear n0_ n1_ n2_; (try clear hb); (try clear hb2); (try clear hk); (try clear hi); obtain ⟨HGz16, hgz16⟩ := HI0.out; have hcz16_0 := cellS114_0 HGz16; have hcz16_1 := cellS114_1 HGz16; have hcz16_2 := cellS114_2 HGz16; have hfz16_0 := blk_frozen HGz16 0; have hfz16_1 := blk_frozen HGz16 1; have hfz16_2 := blk_frozen HGz16 2; clear HGz16 hgz16)))
       go_ret
       exact ⟨by first | rfl | (simp [errW_none, errW_some] <;> rfl) | (simp only [← hji11]; first | rfl | (simp [errW_none, errW_some] <;> rfl)) | (simp [*, errW_none, errW_some] <;> rfl), by repeat (first | (with_reducible first | exact HI0.out | apply IsS114.alloc | apply IsS114.drewN | apply IsS114.drew | apply IsS114.set_0 | apply IsS114.set_1 | apply IsS114.set_2) | exact HI0.out), by repeat (first | (with_reducible first | exact HB.out | apply below_alloc | apply pw_below_drewN | apply below_drew1 | refine below_set ?_ (IsS114.ge HI0.out)) | exact HB.out), by repeat (first | (with_reducible first | exact HK.out | apply KeepBut.set_ | apply keep_drewN | apply keep_drew | apply keep_alloc) | exact HK.out)⟩
      ·rw [if_neg c14] at H
       exact absurd H (by simp)
     ·rw [if_neg c13] at H
      exact absurd H (by simp)
    ·rw [if_neg c12] at H
     exact absurd H (by simp)
 ·rw [if_neg c4] at H
  have c4b0 : (t128 == 0) = false := beq_eq_false_iff_ne.mpr c4
  have c4b1 : (t128 != 0) = true := bne_iff_ne.mpr c4
  simp only [Option.some.injEq, Prod.mk.injEq] at H
  obtain ⟨rfl, rfl, rfl, rfl⟩ := H
  go_enter Try.func41, Try.ntmps41
  go_wp2_with (first | (go_at_call 42; (with_reducible refine (raw_Reader_Err.calls g s0_0 s0_1 s0_2 t128 t129 t130 t131 w0 _ ?side1 ?side2 A3.out).mono ?_); (case side1 => repeat (first | (with_reducible first | exact HI0.out | apply IsS114.alloc | apply IsS114.drewN | apply IsS114.drew | apply IsS114.set_0 | apply IsS114.set_1 | apply IsS114.set_2) | exact HI0.out)); (case side2 => repeat (first | (with_reducible first | exact HB.out | apply below_alloc | apply pw_below_drewN | apply below_drew1 | refine below_set ?_ (IsS114.ge HI0.out)) | exact HB.out)); rintro e w17 ⟨rfl, hi, hb, hk⟩; have n0_ := Aside0.mk (KeepBut.trans (by repeat (first | (with_reducible first | exact HK.out | apply KeepBut.set_ | apply keep_drewN | apply keep_drew | apply keep_alloc) | exact HK.out)) hk (.inl rfl)); have n1_ := Aside0.mk (hb); have n2_ := Aside0.mk (hi); clear HK; clear HB; clear HI0; have HK := n0_; have HB := n1_; have HI0 := n2_; clear n0_ n1_ n2_; (try clear hb); (try clear hb2); (try clear hk); (try clear hi)))
  repeat (go_quiet (first | (go_at_call 42; (with_reducible refine (raw_Reader_Err.calls g s0_0 s0_1 s0_2 t128 t129 t130 t131 w0 _ ?side1 ?side2 A3.out).mono ?_); (case side1 => repeat (first | (with_reducible first | exact HI0.out | apply IsS114.alloc | apply IsS114.drewN | apply IsS114.drew | apply IsS114.set_0 | apply IsS114.set_1 | apply IsS114.set_2) | exact HI0.out)); (case side2 => repeat (first | (with_reducible first | exact HB.out | apply below_alloc | apply pw_below_drewN | apply below_drew1 | refine below_set ?_ (IsS114.ge HI0.out)) | exact HB.out)); rintro e w17 ⟨rfl, hi, hb, hk⟩; have n0_ := Aside0.mk (KeepBut.trans (by repeat (first | (with_reducible first | exact HK.out | apply KeepBut.set_ | apply keep_drewN | apply keep_drew | apply keep_alloc) | exact HK.out)) hk (.inl rfl)); have n1_ := Aside0.mk (hb); have n2_ := Aside0.mk (hi); clear HK; clear HB; clear HI0; have HK := n0_; have HB := n1_; have HI0 := n2_; clear n0_ n1_ n2_; (try clear hb); (try clear hb2); (try clear hk); (try clear hi))); try go_wp2_with (first | (go_at_call 42; (with_reducible refine (raw_Reader_Err.calls g s0_0 s0_1 s0_2 t128 t129 t130 t131 w0 _ ?side1 ?side2 A3.out).mono ?_); (case side1 => repeat (first | (with_reducible first | exact HI0.out | apply IsS114.alloc | apply IsS114.drewN | apply IsS114.drew | apply IsS114.set_0 | apply IsS114.set_1 | apply IsS114.set_2) | exact HI0.out)); (case side2 => repeat (first | (with_reducible first | exact HB.out | apply below_alloc | apply pw_below_drewN | apply below_drew1 | refine below_set ?_ (IsS114.ge HI0.out)) | exact HB.out)); rintro e w17 ⟨rfl, hi, hb, hk⟩; have n0_ := Aside0.mk (KeepBut.trans (by repeat (first | (with_reducible first | exact HK.out | apply KeepBut.set_ | apply keep_drewN | apply keep_drew | apply keep_alloc) | exact HK.out)) hk (.inl rfl)); have n1_ := Aside0.mk (hb); have n2_ := Aside0.mk (hi); clear HK; clear HB; clear HI0; have HK := n0_; have HB := n1_; have HI0 := n2_; clear n0_ n1_ n2_; (try clear hb); (try clear hb2); (try clear hk); (try clear hi))))
  go_ret
  exact ⟨by first | rfl | (simp [errW_none, errW_some] <;> rfl) | (simp [*, errW_none, errW_some] <;> rfl), by repeat (first | (with_reducible first | exact HI0.out | apply IsS114.alloc | apply IsS114.drewN | apply IsS114.drew | apply IsS114.set_0 | apply IsS114.set_1 | apply IsS114.set_2) | exact HI0.out), by repeat (first | (with_reducible first | exact HB.out | apply below_alloc | apply pw_below_drewN | apply below_drew1 | refine below_set ?_ (IsS114.ge HI0.out)) | exact HB.out), by repeat (first | (with_reducible first | exact HK.out | apply KeepBut.set_ | apply keep_drewN | apply keep_drew | apply keep_alloc) | exact HK.out)⟩
end Go.Proofs.Yteokjmjfjdgmpaa.PPg
end
