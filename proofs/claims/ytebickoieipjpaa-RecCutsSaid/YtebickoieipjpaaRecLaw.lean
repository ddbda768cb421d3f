/- What was told is read, and what is read was told: records over lists. No program. -/
import Derived.Test.YtebickoieipjpaaRecDecP
namespace Go.Gi
set_option linter.unusedSimpArgs false
set_option linter.unusedVariables false
theorem c1' : (256 : Nat) ^ 1 = 256 := rfl
theorem drop_len {L P R : List UInt8} {a : Nat} (h : L.drop a = P ++ R) : L.drop (a + P.length) = R ∧ (a + P.length ≤ L.length ∨ P = [] ∧ R = []) := by
  constructor
  · rw [← List.drop_drop, h, List.drop_left]
  · have := congrArg List.length h
    rw [List.length_drop, List.length_append] at this
    by_cases ha : a ≤ L.length
    · left; omega
    · right
      constructor <;> (apply List.eq_nil_of_length_eq_zero; omega)
theorem cNum {L R : List UInt8} {a n v : Nat} (h : L.drop a = putL n v ++ R) (ha : a ≤ L.length) (hn : n ≤ 8) (hv : v < 256 ^ n) : rNum L a 0 n = (v, a + n, 0) ∧ L.drop (a + n) = R ∧ a + n ≤ L.length := by
  have hl := congrArg List.length h
  rw [List.length_drop, List.length_append, putL_length] at hl
  obtain ⟨h1, _⟩ := drop_len h
  rw [putL_length] at h1
  refine ⟨?_, h1, by omega⟩
  unfold rNum
  rw [if_neg (by simp), if_neg (by omega), if_neg (by omega)]
  have ht : (L.drop a).take n = putL n v := by rw [h]; exact List.take_left' (putL_length n v)
  rw [Int.toNat_natCast, ht, numL_putL, Nat.mod_eq_of_lt hv]
theorem cText {L R : List UInt8} {a : Nat} {s : List UInt8} {most : Int} (h : L.drop a = txB s ++ R) (ha : a ≤ L.length) (hs : s.length ≤ 65535) (hm : (s.length : Int) ≤ most) : rText L a 0 most = (s, a + (txB s).length, 0) ∧ L.drop (a + (txB s).length) = R ∧ a + (txB s).length ≤ L.length := by
  unfold txB at h ⊢
  have hl := congrArg List.length h
  rw [List.length_drop, List.length_append, List.length_append, putL_length] at hl
  obtain ⟨h1, _⟩ := drop_len h
  refine ⟨?_, h1, by rw [List.length_append, putL_length]; omega⟩
  rw [List.length_append, putL_length]
  have ht : (L.drop a).take 2 = putL 2 s.length := by rw [h, List.append_assoc]; exact List.take_left' (putL_length 2 _)
  have hn : numL ((L.drop a).take 2) = s.length := by rw [ht, numL_putL]; omega
  have hd : L.drop (a + 2) = s ++ R := by
    rw [← List.drop_drop, h, List.append_assoc]
    exact List.drop_left' (putL_length 2 _)
  unfold rText
  rw [if_neg (by simp), if_neg (by omega), hn, if_neg (by omega), if_neg (by omega), hd, List.take_left]
  congr 2
  omega
theorem cBool {L R : List UInt8} {a : Nat} {b : Bool} (h : L.drop a = [if b then 1 else 0] ++ R) (ha : a ≤ L.length) : rBool L a 0 = (b, a + 1, 0) ∧ L.drop (a + 1) = R ∧ a + 1 ≤ L.length := by
  have hl := congrArg List.length h
  rw [List.length_drop, List.length_append] at hl
  simp only [List.length_cons, List.length_nil] at hl
  obtain ⟨h1, _⟩ := drop_len h
  refine ⟨?_, h1, by omega⟩
  have ht : numL ((L.drop a).take 1) = if b then 1 else 0 := by rw [h]; cases b <;> rfl
  unfold rBool
  rw [if_neg (by simp), if_neg (by omega), ht]
  cases b <;> rfl
/-! the other way -/
theorem sNum {L : List UInt8} {a n v a' : Nat} {e : Int} (h : rNum L a e n = (v, a', 0)) (ha : a ≤ L.length) : e = 0 ∧ L.drop a = putL n v ++ L.drop a' ∧ a' ≤ L.length := by
  unfold rNum at h
  split at h
  · rename_i he; injection h with _ h; injection h with _ h; exact absurd h he
  rename_i he
  split at h
  · injection h with _ h; injection h with _ h; cases h
  rename_i h1
  split at h
  · injection h with _ h; injection h with _ h; cases h
  rename_i h2
  injection h with hv h
  injection h with h3 _
  rw [Int.toNat_natCast] at hv h3
  have hlen : ((L.drop a).take n).length = n := by rw [List.length_take, List.length_drop]; omega
  refine ⟨by simpa using he, ?_, by omega⟩
  rw [← hv, ← h3]
  have := putL_numL ((L.drop a).take n)
  rw [hlen] at this
  rw [this, ← List.drop_drop, List.take_append_drop]
theorem sText {L : List UInt8} {a a' : Nat} {s : List UInt8} {e most : Int} (h : rText L a e most = (s, a', 0)) (ha : a ≤ L.length) : e = 0 ∧ L.drop a = txB s ++ L.drop a' ∧ a' ≤ L.length := by
  unfold rText at h
  split at h
  · rename_i he; injection h with _ h; injection h with _ h; exact absurd h he
  rename_i he
  split at h
  · injection h with _ h; injection h with _ h; cases h
  rename_i h1
  split at h
  · injection h with _ h; injection h with _ h; cases h
  rename_i h2
  split at h
  · injection h with _ h; injection h with _ h; cases h
  rename_i h3
  injection h with hv h
  injection h with h4 _
  have hlen : ((L.drop a).take 2).length = 2 := by rw [List.length_take, List.length_drop]; omega
  have hp := putL_numL ((L.drop a).take 2)
  rw [hlen] at hp
  generalize hN : numL ((L.drop a).take 2) = N at *
  have hsl : s.length = N := by rw [← hv, List.length_take, List.length_drop]; omega
  refine ⟨by simpa using he, ?_, by omega⟩
  unfold txB
  rw [hsl, hp, ← h4, ← hv, List.append_assoc, ← List.drop_drop (i := N), List.take_append_drop, ← List.drop_drop, List.take_append_drop]
theorem sBool {L : List UInt8} {a a' : Nat} {b : Bool} {e : Int} (h : rBool L a e = (b, a', 0)) (ha : a ≤ L.length) : e = 0 ∧ L.drop a = [if b then 1 else 0] ++ L.drop a' ∧ a' ≤ L.length := by
  unfold rBool at h
  split at h
  · rename_i he; injection h with _ h; injection h with _ h; exact absurd h he
  rename_i he
  split at h
  · injection h with _ h; injection h with _ h; cases h
  rename_i h1
  split at h
  · injection h with _ h; injection h with _ h; cases h
  rename_i h2
  injection h with hv h
  injection h with h4 _
  have hlen : ((L.drop a).take 1).length = 1 := by rw [List.length_take, List.length_drop]; omega
  have hp := putL_numL ((L.drop a).take 1)
  rw [hlen] at hp
  refine ⟨by simpa using he, ?_, by omega⟩
  rw [← h4, ← List.drop_drop]
  have : [if b = true then (1 : UInt8) else 0] = (L.drop a).take 1 := by
    rw [← hp, ← hv]
    generalize numL ((L.drop a).take 1) = N at *
    rcases (show N = 0 ∨ N = 1 by omega) with rfl | rfl <;> rfl
  rw [this, List.take_append_drop]
/-! many -/
theorem sMany {α : Type} {L : List UInt8} {f : Nat → Int → α × Nat × Int} {enc : α → List UInt8} (hf : ∀ a x a', f a 0 = (x, a', 0) → a ≤ L.length → L.drop a = enc x ++ L.drop a' ∧ a' ≤ L.length) :
    ∀ n acc a e l a', rdMany f n acc a e = (l, a', 0) → a ≤ L.length → e = 0 ∧ ∃ items, l = acc ++ items ∧ items.length = n ∧ L.drop a = (items.map enc).flatten ++ L.drop a' ∧ a' ≤ L.length
  | 0, acc, a, e, l, a', h, ha => by
    unfold rdMany at h
    injection h with h1 h2
    injection h2 with h2 h3
    exact ⟨h3, [], by rw [h1, List.append_nil], rfl, by rw [h2]; rfl, by omega⟩
  | n + 1, acc, a, e, l, a', h, ha => by
    unfold rdMany at h
    by_cases he : e = 0
    · subst he
      rw [if_pos rfl] at h
      obtain ⟨x, a1, e1, hx⟩ : ∃ x a1 e1, f a 0 = (x, a1, e1) := ⟨_, _, _, rfl⟩
      rw [hx] at h
      simp only at h
      have hz : e1 = 0 := by
        cases n with
        | zero => unfold rdMany at h; injection h with _ h; injection h
        | succ n =>
          unfold rdMany at h
          by_cases hz : e1 = 0
          · exact hz
          · rw [if_neg hz] at h; injection h with _ h; injection h
      subst hz
      obtain ⟨h1, h2⟩ := hf a x a1 hx ha
      obtain ⟨_, items, k1, k2, k3, k4⟩ := sMany hf n _ _ _ _ _ h h2
      refine ⟨rfl, x :: items, by rw [k1]; simp, by simp [k2], ?_, k4⟩
      rw [h1, k3]
      simp
    · rw [if_neg he] at h
      injection h with _ h
      injection h with _ h
      exact absurd h he
theorem cMany {α : Type} {L : List UInt8} {f : Nat → Int → α × Nat × Int} {enc : α → List UInt8} {P : α → Prop} (hf : ∀ a x R, P x → L.drop a = enc x ++ R → a ≤ L.length → f a 0 = (x, a + (enc x).length, 0) ∧ L.drop (a + (enc x).length) = R ∧ a + (enc x).length ≤ L.length) :
    ∀ (items acc : List α) (a : Nat) (R : List UInt8), (∀ x ∈ items, P x) → L.drop a = (items.map enc).flatten ++ R → a ≤ L.length →
      rdMany f items.length acc a 0 = (acc ++ items, a + (items.map enc).flatten.length, 0) ∧ L.drop (a + (items.map enc).flatten.length) = R ∧ a + (items.map enc).flatten.length ≤ L.length
  | [], acc, a, R, _, h, ha => by simpa [rdMany] using ⟨h, ha⟩
  | x :: items, acc, a, R, hp, h, ha => by
    rw [List.map_cons, List.flatten_cons, List.append_assoc] at h
    obtain ⟨h1, h2, h3⟩ := hf a x _ (hp x (by simp)) h ha
    obtain ⟨k1, k2, k3⟩ := cMany hf items (acc ++ [x]) _ R (fun y hy => hp y (by simp [hy])) h2 h3
    rw [List.length_cons, rdMany, if_pos rfl, h1]
    simp only [List.map_cons, List.flatten_cons, List.length_append]
    rw [← Nat.add_assoc]
    exact ⟨by rw [k1]; simp, k2, k3⟩
end Go.Gi
