import Derived.Test.YtjgahidfhagafaaRefTx
import Derived.Test.YtjgahidfhagafaaReader2
namespace Go.Proofs.Ytjgahidfhagafaa
open Go.RowKit Go.Gi
attribute [local go_sem] cellIte
set_option linter.unusedSimpArgs false
set_option linter.unusedVariables false

theorem gcell {W w1 : World} {g : Nat} (hb : W.grownBy w1 (some g)) : (∀ b o, b < W.heap.size → ¬ b = g → w1.cell? ⟨b, o, none⟩ = W.cell? ⟨b, o, none⟩) ∧ (∀ b o, b < W.heap.size → ¬ b = g → w1.frozen? ⟨b, o, none⟩ = W.frozen? ⟨b, o, none⟩) :=
  ⟨fun b o h hn => World.cell?_of_block (hb.block b h (fun e => hn (by injection e))), fun b o h hn => World.frozen?_of_block (hb.block b h (fun e => hn (by injection e)))⟩

theorem rend_any {g : Nat} {s : ByteArray} {a : Nat} {e : Int} {w : World} (h : Rd w 64 g s a e) (hs : s.size ≤ maxLen) (ha : a ≤ s.size) :
    Calls Try.prog 31 #[.pointer (some ⟨g, 0, none⟩)] w fun e' w' => e' = .returned (.int .i64 (rEnd s.data.toList a e)) ∧ Rd w' 64 g s a (rEnd s.data.toList a e) ∧ w.grownBy w' (some g) := by
  have H := Lib.hid h
  have Hs := Lib.hid hs
  have hl : s.data.toList.length = s.size := by simp
  clear h hs
  unfold rEnd
  rw [hl]
  by_cases h1 : (s.size : Int) - a > 0
  · rw [if_pos h1]
    clear hl
    go_enter Try.func31, Try.ntmps31
    go_wp2_with (first | (go_at_call 22; refine (left_any H.out Hs.out ha).mono ?_; rintro e w' ⟨rfl, n, rfl⟩) | (go_at_call 34; refine (fail_any (H.out.drewN _) 5).mono ?_; rintro e w1 ⟨rfl, h1, hg1⟩; have H1 := Lib.hid h1; clear h1) | (go_at_call 20; refine (err_any H1.out).mono ?_; rintro e w' ⟨rfl, rfl⟩))
    go_ret
    exact ⟨rfl, H1.out, gstep (gdrewN (World.grownBy.refl _ _) _) hg1⟩
  · rw [if_neg h1]
    clear hl
    go_enter Try.func31, Try.ntmps31
    go_wp2_with (first | (go_at_call 22; refine (left_any H.out Hs.out ha).mono ?_; rintro e w' ⟨rfl, n, rfl⟩) | (go_at_call 20; refine (err_any (H.out.drewN _)).mono ?_; rintro e w' ⟨rfl, rfl⟩))
    go_ret
    exact ⟨rfl, H.out.drewN _, gdrewN (World.grownBy.refl _ _) _⟩

theorem newReader_any (s : ByteArray) (w : World) :
    Calls Try.prog 18 #[.string s] w fun e w' => ∃ g, e = .returned (.pointer (some ⟨g, 0, none⟩)) ∧ Rd w' 64 g s 0 0 ∧ g = w.heap.size ∧ Below w.heap.size w w' := by
  go_enter Try.func18, Try.ntmps18
  go_wp2
  go_ret
  exact ⟨_, rfl, (Blk.new w _ _ : Blk _ _ _ _), rfl, balloc (Below.refl _ _) _⟩

theorem Rd.far {w : World} {T g b o : Nat} {s : ByteArray} {a : Nat} {e : Int} {u : Value} (h : Rd w T g s a e) (hne : ¬ b = g) : Rd (w.setCell ⟨b, o, none⟩ u) T g s a e :=
  (Below.heap_setCell w ⟨b, o, none⟩ u g (fun h => hne h.symm)).trans h
theorem gsetAt {a w : World} {row : Option Nat} {b o : Nat} {u : Value} (h : a.grownBy w row) (hp : a.heap.size ≤ b) : a.grownBy (w.setCell ⟨b, o, none⟩ u) row :=
  ⟨h.os, h.tape, h.output, by simpa [World.setCell] using h.size, fun k hk hne => (Below.heap_setCell w ⟨b, o, none⟩ u k (by show k ≠ b; omega)).trans (h.block k hk hne)⟩
theorem rtext_eq {g : Nat} {s : ByteArray} {a : Nat} {e : Int} {w : World} (h : Rd w 64 g s a e) (hs : s.size ≤ maxLen) (ha : a ≤ s.size) (n : Int) (l : List UInt8) (a1 : Nat) (e1 : Int) (hn : rText s.data.toList a e n = (l, a1, e1)) :
    Calls Try.prog 29 #[.pointer (some ⟨g, 0, none⟩), .int .i64 n] w fun e' w' => e' = .returned (.string (bs l)) ∧ Rd w' 64 g s a1 e1 ∧ w.grownBy w' (some g) := by
  have := rtext_any h n hs ha
  rw [hn] at this
  exact this
theorem rbool_eq {g : Nat} {s : ByteArray} {a : Nat} {e : Int} {w : World} (h : Rd w 64 g s a e) (hs : s.size ≤ maxLen) (ha : a ≤ s.size) (v : Bool) (a1 : Nat) (e1 : Int) (hn : rBool s.data.toList a e = (v, a1, e1)) :
    Calls Try.prog 30 #[.pointer (some ⟨g, 0, none⟩)] w fun e' w' => e' = .returned (.bool v) ∧ Rd w' 64 g s a1 e1 ∧ w.grownBy w' (some g) := by
  have := rbool_any h hs ha
  rw [hn] at this
  exact this
theorem rrtext_eq (s : ByteArray) (a : Nat) (e most : Int) (w : World) (hs : s.size ≤ maxLen) (ha : a ≤ s.size) (l : List UInt8) (a1 : Nat) (e1 : Int) (hn : rText s.data.toList a e most = (l, a1, e1)) :
    Calls Try.prog 38 #[.agg #[.string s, .int .i64 a, .int .i64 e], .int .i64 most] w fun e' w' =>
      e' = .returned (.tuple #[.agg #[.string s, .int .i64 a1, .int .i64 e1], .string (bs l)]) ∧ Below w.heap.size w w' := by
  have := rrtext_any s a e most w hs ha
  rw [hn] at this
  exact this
theorem rrbool_eq (s : ByteArray) (a : Nat) (e : Int) (w : World) (hs : s.size ≤ maxLen) (ha : a ≤ s.size) (v : Bool) (a1 : Nat) (e1 : Int) (hn : rBool s.data.toList a e = (v, a1, e1)) :
    Calls Try.prog 39 #[.agg #[.string s, .int .i64 a, .int .i64 e]] w fun e' w' =>
      e' = .returned (.tuple #[.agg #[.string s, .int .i64 a1, .int .i64 e1], .bool v]) ∧ Below w.heap.size w w' := by
  have := rrbool_any s a e w hs ha
  rw [hn] at this
  exact this

/-- The state behind an act. -/
def actSt (l : List UInt8) (kind n : Int) (a : Nat) (e : Int) : Nat × Int :=
  if kind = 0 then (rNum l a e n).2 else if kind = 1 then (rTake l a e n).2 else if kind = 2 then (rText l a e n).2
  else if kind = 3 then (rBool l a e).2 else if kind = 4 then (a, rFail e n) else (a, rEnd l a e)

set_option maxHeartbeats 1600000 in
theorem one0 {g : Nat} {s : ByteArray} {a : Nat} {e : Int} {w : World} (h : Rd w 64 g s a e) (n x : Int) (t : ByteArray) (hs : s.size ≤ maxLen) (ha : a ≤ s.size) :
    Calls Try.prog 19 #[.pointer (some ⟨g, 0, none⟩), .agg #[.string s, .int .i64 a, .int .i64 e], .agg #[.int .i64 0, .int .i64 n, .int .u64 x, .string t]] w fun e' w' =>
      e' = .returned (.tuple #[.agg #[.string s, .int .i64 ((rNum s.data.toList a e n).2.1 : Nat), .int .i64 ((rNum s.data.toList a e n).2.2)], .bool true]) ∧ Rd w' 64 g s ((rNum s.data.toList a e n).2.1) ((rNum s.data.toList a e n).2.2) ∧ w.grownBy w' (some g) := by
  have H := Lib.hid h
  have hgl := h.lt
  have q0 : ¬ w.heap.size = g := by omega
  have q1 : ¬ w.heap.size + 1 = g := by omega
  have q2 : ¬ w.heap.size + 1 + 1 = g := by omega
  have Hs := Lib.hid hs
  clear h hs
  obtain ⟨v, a1, e1, hn⟩ : ∃ v a1 e1, (rNum s.data.toList a e n) = (v, a1, e1) := ⟨_, _, _, rfl⟩
  have HN := Lib.hid hn
  rw [hn]
  clear hn
  go_enter Try.func19, Try.ntmps19
  go_wp2_with (first | (go_at_call 28; refine (num_eq (((H.out.alloc _).alloc _).alloc _) Hs.out ha n v a1 e1 HN.out).mono ?_; rintro e w1 ⟨rfl, h1, hg1⟩; obtain ⟨hc1, hf1⟩ := gcell hg1; have hz1 : w.heap.size + 1 + 1 < w1.heap.size := (by have := hg1.size; (try simp at this); omega); have hy1 : w.heap.size < w1.heap.size := (by omega); have hx1 : w.heap.size + 1 < w1.heap.size := (by omega); have H1 := Lib.hid h1; clear h1) | (go_at_call 36; refine (rnum_eq _ _ _ _ _ Hs.out ha _ _ _ HN.out).mono ?_; rintro e w2 ⟨rfl, hb2⟩; obtain ⟨hc2, hf2⟩ := bcell hb2; have hz2 : w.heap.size + 1 + 1 < w2.heap.size := (by have := hb2.size; (try simp at this); omega); have hy2 : w.heap.size < w2.heap.size := (by omega); have hx2 : w.heap.size + 1 < w2.heap.size := (by omega)))
  refine bodyPost_ret (v := .tuple #[.agg #[.string s, .int .i64 (a1 : Nat), .int .i64 e1], .bool true]) (by simp [results, Try.results19, go_sem, hc2, hc1, hz1, hy1, hx1, hz2, hy2, hx2, q0, q1, q2]) rfl ⟨rfl, ?_, ?_⟩
  · repeat (first | (with_reducible exact H1.out) | (with_reducible apply Rd.alloc) | (with_reducible refine Rd.far ?_ (by omega)) | (with_reducible apply Rd.drewN) | (with_reducible apply Rd.drew) | (with_reducible refine Rd.step ?_ hb2))
  · repeat (first | (with_reducible exact World.grownBy.refl _ _) | (with_reducible apply galloc) | (with_reducible refine gsetAt ?_ (by omega)) | (with_reducible apply gdrewN) | (with_reducible apply gdrew) | (with_reducible refine gbelow ?_ hb2) | (with_reducible refine gstep ?_ hg1))

set_option maxHeartbeats 1600000 in
theorem one1 {g : Nat} {s : ByteArray} {a : Nat} {e : Int} {w : World} (h : Rd w 64 g s a e) (n x : Int) (t : ByteArray) (hs : s.size ≤ maxLen) (ha : a ≤ s.size) :
    Calls Try.prog 19 #[.pointer (some ⟨g, 0, none⟩), .agg #[.string s, .int .i64 a, .int .i64 e], .agg #[.int .i64 1, .int .i64 n, .int .u64 x, .string t]] w fun e' w' =>
      e' = .returned (.tuple #[.agg #[.string s, .int .i64 ((rTake s.data.toList a e n).2.1 : Nat), .int .i64 ((rTake s.data.toList a e n).2.2)], .bool true]) ∧ Rd w' 64 g s ((rTake s.data.toList a e n).2.1) ((rTake s.data.toList a e n).2.2) ∧ w.grownBy w' (some g) := by
  have H := Lib.hid h
  have hgl := h.lt
  have q0 : ¬ w.heap.size = g := by omega
  have q1 : ¬ w.heap.size + 1 = g := by omega
  have q2 : ¬ w.heap.size + 1 + 1 = g := by omega
  have Hs := Lib.hid hs
  clear h hs
  obtain ⟨v, a1, e1, hn⟩ : ∃ v a1 e1, (rTake s.data.toList a e n) = (v, a1, e1) := ⟨_, _, _, rfl⟩
  have HN := Lib.hid hn
  rw [hn]
  clear hn
  go_enter Try.func19, Try.ntmps19
  go_wp2_with (first | (go_at_call 35; refine (bytes_eq (((H.out.alloc _).alloc _).alloc _) Hs.out ha n v a1 e1 HN.out).mono ?_; rintro e w1 ⟨rfl, h1, hg1⟩; obtain ⟨hc1, hf1⟩ := gcell hg1; have hz1 : w.heap.size + 1 + 1 < w1.heap.size := (by have := hg1.size; (try simp at this); omega); have hy1 : w.heap.size < w1.heap.size := (by omega); have hx1 : w.heap.size + 1 < w1.heap.size := (by omega); have H1 := Lib.hid h1; clear h1) | (go_at_call 37; refine (take_eq _ _ _ _ _ Hs.out ha _ _ _ HN.out).mono ?_; rintro e w2 ⟨rfl, hb2⟩; obtain ⟨hc2, hf2⟩ := bcell hb2; have hz2 : w.heap.size + 1 + 1 < w2.heap.size := (by have := hb2.size; (try simp at this); omega); have hy2 : w.heap.size < w2.heap.size := (by omega); have hx2 : w.heap.size + 1 < w2.heap.size := (by omega)))
  refine bodyPost_ret (v := .tuple #[.agg #[.string s, .int .i64 (a1 : Nat), .int .i64 e1], .bool true]) (by simp [results, Try.results19, go_sem, hc2, hc1, hz1, hy1, hx1, hz2, hy2, hx2, q0, q1, q2]) rfl ⟨rfl, ?_, ?_⟩
  · repeat (first | (with_reducible exact H1.out) | (with_reducible apply Rd.alloc) | (with_reducible refine Rd.far ?_ (by omega)) | (with_reducible apply Rd.drewN) | (with_reducible apply Rd.drew) | (with_reducible refine Rd.step ?_ hb2))
  · repeat (first | (with_reducible exact World.grownBy.refl _ _) | (with_reducible apply galloc) | (with_reducible refine gsetAt ?_ (by omega)) | (with_reducible apply gdrewN) | (with_reducible apply gdrew) | (with_reducible refine gbelow ?_ hb2) | (with_reducible refine gstep ?_ hg1))

set_option maxHeartbeats 1600000 in
theorem one2 {g : Nat} {s : ByteArray} {a : Nat} {e : Int} {w : World} (h : Rd w 64 g s a e) (n x : Int) (t : ByteArray) (hs : s.size ≤ maxLen) (ha : a ≤ s.size) :
    Calls Try.prog 19 #[.pointer (some ⟨g, 0, none⟩), .agg #[.string s, .int .i64 a, .int .i64 e], .agg #[.int .i64 2, .int .i64 n, .int .u64 x, .string t]] w fun e' w' =>
      e' = .returned (.tuple #[.agg #[.string s, .int .i64 ((rText s.data.toList a e n).2.1 : Nat), .int .i64 ((rText s.data.toList a e n).2.2)], .bool true]) ∧ Rd w' 64 g s ((rText s.data.toList a e n).2.1) ((rText s.data.toList a e n).2.2) ∧ w.grownBy w' (some g) := by
  have H := Lib.hid h
  have hgl := h.lt
  have q0 : ¬ w.heap.size = g := by omega
  have q1 : ¬ w.heap.size + 1 = g := by omega
  have q2 : ¬ w.heap.size + 1 + 1 = g := by omega
  have Hs := Lib.hid hs
  clear h hs
  obtain ⟨v, a1, e1, hn⟩ : ∃ v a1 e1, (rText s.data.toList a e n) = (v, a1, e1) := ⟨_, _, _, rfl⟩
  have HN := Lib.hid hn
  rw [hn]
  clear hn
  go_enter Try.func19, Try.ntmps19
  go_wp2_with (first | (go_at_call 29; refine (rtext_eq (((H.out.alloc _).alloc _).alloc _) Hs.out ha n v a1 e1 HN.out).mono ?_; rintro e w1 ⟨rfl, h1, hg1⟩; obtain ⟨hc1, hf1⟩ := gcell hg1; have hz1 : w.heap.size + 1 + 1 < w1.heap.size := (by have := hg1.size; (try simp at this); omega); have hy1 : w.heap.size < w1.heap.size := (by omega); have hx1 : w.heap.size + 1 < w1.heap.size := (by omega); have H1 := Lib.hid h1; clear h1) | (go_at_call 38; refine (rrtext_eq _ _ _ _ _ Hs.out ha _ _ _ HN.out).mono ?_; rintro e w2 ⟨rfl, hb2⟩; obtain ⟨hc2, hf2⟩ := bcell hb2; have hz2 : w.heap.size + 1 + 1 < w2.heap.size := (by have := hb2.size; (try simp at this); omega); have hy2 : w.heap.size < w2.heap.size := (by omega); have hx2 : w.heap.size + 1 < w2.heap.size := (by omega)))
  refine bodyPost_ret (v := .tuple #[.agg #[.string s, .int .i64 (a1 : Nat), .int .i64 e1], .bool true]) (by simp [results, Try.results19, go_sem, hc2, hc1, hz1, hy1, hx1, hz2, hy2, hx2, q0, q1, q2]) rfl ⟨rfl, ?_, ?_⟩
  · repeat (first | (with_reducible exact H1.out) | (with_reducible apply Rd.alloc) | (with_reducible refine Rd.far ?_ (by omega)) | (with_reducible apply Rd.drewN) | (with_reducible apply Rd.drew) | (with_reducible refine Rd.step ?_ hb2))
  · repeat (first | (with_reducible exact World.grownBy.refl _ _) | (with_reducible apply galloc) | (with_reducible refine gsetAt ?_ (by omega)) | (with_reducible apply gdrewN) | (with_reducible apply gdrew) | (with_reducible refine gbelow ?_ hb2) | (with_reducible refine gstep ?_ hg1))

set_option maxHeartbeats 1600000 in
theorem one3 {g : Nat} {s : ByteArray} {a : Nat} {e : Int} {w : World} (h : Rd w 64 g s a e) (n x : Int) (t : ByteArray) (hs : s.size ≤ maxLen) (ha : a ≤ s.size) :
    Calls Try.prog 19 #[.pointer (some ⟨g, 0, none⟩), .agg #[.string s, .int .i64 a, .int .i64 e], .agg #[.int .i64 3, .int .i64 n, .int .u64 x, .string t]] w fun e' w' =>
      e' = .returned (.tuple #[.agg #[.string s, .int .i64 ((rBool s.data.toList a e).2.1 : Nat), .int .i64 ((rBool s.data.toList a e).2.2)], .bool true]) ∧ Rd w' 64 g s ((rBool s.data.toList a e).2.1) ((rBool s.data.toList a e).2.2) ∧ w.grownBy w' (some g) := by
  have H := Lib.hid h
  have hgl := h.lt
  have q0 : ¬ w.heap.size = g := by omega
  have q1 : ¬ w.heap.size + 1 = g := by omega
  have q2 : ¬ w.heap.size + 1 + 1 = g := by omega
  have Hs := Lib.hid hs
  clear h hs
  obtain ⟨v, a1, e1, hn⟩ : ∃ v a1 e1, (rBool s.data.toList a e) = (v, a1, e1) := ⟨_, _, _, rfl⟩
  have HN := Lib.hid hn
  rw [hn]
  clear hn
  go_enter Try.func19, Try.ntmps19
  go_wp2_with (first | (go_at_call 30; refine (rbool_eq (((H.out.alloc _).alloc _).alloc _) Hs.out ha v a1 e1 HN.out).mono ?_; rintro e w1 ⟨rfl, h1, hg1⟩; obtain ⟨hc1, hf1⟩ := gcell hg1; have hz1 : w.heap.size + 1 + 1 < w1.heap.size := (by have := hg1.size; (try simp at this); omega); have hy1 : w.heap.size < w1.heap.size := (by omega); have hx1 : w.heap.size + 1 < w1.heap.size := (by omega); have H1 := Lib.hid h1; clear h1) | (go_at_call 39; refine (rrbool_eq _ _ _ _ Hs.out ha _ _ _ HN.out).mono ?_; rintro e w2 ⟨rfl, hb2⟩; obtain ⟨hc2, hf2⟩ := bcell hb2; have hz2 : w.heap.size + 1 + 1 < w2.heap.size := (by have := hb2.size; (try simp at this); omega); have hy2 : w.heap.size < w2.heap.size := (by omega); have hx2 : w.heap.size + 1 < w2.heap.size := (by omega)))
  refine bodyPost_ret (v := .tuple #[.agg #[.string s, .int .i64 (a1 : Nat), .int .i64 e1], .bool true]) (by simp [results, Try.results19, go_sem, hc2, hc1, hz1, hy1, hx1, hz2, hy2, hx2, q0, q1, q2]) rfl ⟨rfl, ?_, ?_⟩
  · repeat (first | (with_reducible exact H1.out) | (with_reducible apply Rd.alloc) | (with_reducible refine Rd.far ?_ (by omega)) | (with_reducible apply Rd.drewN) | (with_reducible apply Rd.drew) | (with_reducible refine Rd.step ?_ hb2))
  · repeat (first | (with_reducible exact World.grownBy.refl _ _) | (with_reducible apply galloc) | (with_reducible refine gsetAt ?_ (by omega)) | (with_reducible apply gdrewN) | (with_reducible apply gdrew) | (with_reducible refine gbelow ?_ hb2) | (with_reducible refine gstep ?_ hg1))

set_option maxHeartbeats 1600000 in
theorem one4 {g : Nat} {s : ByteArray} {a : Nat} {e : Int} {w : World} (h : Rd w 64 g s a e) (n x : Int) (t : ByteArray) (hs : s.size ≤ maxLen) (ha : a ≤ s.size) :
    Calls Try.prog 19 #[.pointer (some ⟨g, 0, none⟩), .agg #[.string s, .int .i64 a, .int .i64 e], .agg #[.int .i64 4, .int .i64 n, .int .u64 x, .string t]] w fun e' w' =>
      e' = .returned (.tuple #[.agg #[.string s, .int .i64 (a : Nat), .int .i64 (rFail e n)], .bool true]) ∧ Rd w' 64 g s (a) (rFail e n) ∧ w.grownBy w' (some g) := by
  have H := Lib.hid h
  have hgl := h.lt
  have q0 : ¬ w.heap.size = g := by omega
  have q1 : ¬ w.heap.size + 1 = g := by omega
  have q2 : ¬ w.heap.size + 1 + 1 = g := by omega
  have Hs := Lib.hid hs
  clear h hs
  unfold rFail
  by_cases he : e = 0
  · subst he
    rw [if_pos rfl]
    have HH : rFail 0 n = n := by unfold rFail; rw [if_pos rfl]
    go_enter Try.func19, Try.ntmps19
    go_wp2_with (go_at_call 34; refine (fail_any (((H.out.alloc _).alloc _).alloc _) n).mono ?_; rintro e w1 ⟨rfl, h1, hg1⟩; obtain ⟨hc1, hf1⟩ := gcell hg1; have hz1 : w.heap.size + 1 + 1 < w1.heap.size := (by have := hg1.size; (try simp at this); omega); have hy1 : w.heap.size < w1.heap.size := (by omega); have hx1 : w.heap.size + 1 < w1.heap.size := (by omega); rw [HH] at h1; have H1 := Lib.hid h1; clear h1)
    all_goals
      refine bodyPost_ret (v := .tuple #[.agg #[.string s, .int .i64 (a : Nat), .int .i64 (n)], .bool true]) (by simp [results, Try.results19, go_sem, hc1, hz1, hy1, hx1, q0, q1, q2]) rfl ⟨rfl, ?_, ?_⟩
      · repeat (first | (with_reducible exact H1.out) | (with_reducible apply Rd.alloc) | (with_reducible refine Rd.far ?_ (by omega)) | (with_reducible apply Rd.drewN) | (with_reducible apply Rd.drew))
      · repeat (first | (with_reducible exact World.grownBy.refl _ _) | (with_reducible apply galloc) | (with_reducible refine gsetAt ?_ (by omega)) | (with_reducible apply gdrewN) | (with_reducible apply gdrew) | (with_reducible refine gstep ?_ hg1))
  · rw [if_neg he]
    have hb : (e == 0) = false := by simp [he]
    have HH : rFail e n = e := by unfold rFail; rw [if_neg he]
    clear he
    go_enter Try.func19, Try.ntmps19
    go_wp2_with (go_at_call 34; refine (fail_any (((H.out.alloc _).alloc _).alloc _) n).mono ?_; rintro e w1 ⟨rfl, h1, hg1⟩; obtain ⟨hc1, hf1⟩ := gcell hg1; have hz1 : w.heap.size + 1 + 1 < w1.heap.size := (by have := hg1.size; (try simp at this); omega); have hy1 : w.heap.size < w1.heap.size := (by omega); have hx1 : w.heap.size + 1 < w1.heap.size := (by omega); rw [HH] at h1; have H1 := Lib.hid h1; clear h1)
    all_goals
      refine bodyPost_ret (v := .tuple #[.agg #[.string s, .int .i64 (a : Nat), .int .i64 (e)], .bool true]) (by simp [results, Try.results19, go_sem, hc1, hz1, hy1, hx1, q0, q1, q2]) rfl ⟨rfl, ?_, ?_⟩
      · repeat (first | (with_reducible exact H1.out) | (with_reducible apply Rd.alloc) | (with_reducible refine Rd.far ?_ (by omega)) | (with_reducible apply Rd.drewN) | (with_reducible apply Rd.drew))
      · repeat (first | (with_reducible exact World.grownBy.refl _ _) | (with_reducible apply galloc) | (with_reducible refine gsetAt ?_ (by omega)) | (with_reducible apply gdrewN) | (with_reducible apply gdrew) | (with_reducible refine gstep ?_ hg1))

set_option maxHeartbeats 1600000 in
theorem one5 {g : Nat} {s : ByteArray} {a : Nat} {e : Int} {w : World} (h : Rd w 64 g s a e) (kind n x : Int) (t : ByteArray) (hs : s.size ≤ maxLen) (ha : a ≤ s.size) (hk : kind < 0 ∨ 4 < kind) :
    Calls Try.prog 19 #[.pointer (some ⟨g, 0, none⟩), .agg #[.string s, .int .i64 a, .int .i64 e], .agg #[.int .i64 kind, .int .i64 n, .int .u64 x, .string t]] w fun e' w' =>
      e' = .returned (.tuple #[.agg #[.string s, .int .i64 (a : Nat), .int .i64 (rEnd s.data.toList a e)], .bool true]) ∧ Rd w' 64 g s (a) (rEnd s.data.toList a e) ∧ w.grownBy w' (some g) := by
  have H := Lib.hid h
  have hgl := h.lt
  have q0 : ¬ w.heap.size = g := by omega
  have q1 : ¬ w.heap.size + 1 = g := by omega
  have q2 : ¬ w.heap.size + 1 + 1 = g := by omega
  have Hs := Lib.hid hs
  clear h hs
  have k0 : (kind == 0) = false := by simp; omega
  have k1 : (kind == 1) = false := by simp; omega
  have k2 : (kind == 2) = false := by simp; omega
  have k3 : (kind == 3) = false := by simp; omega
  have k4 : (kind == 4) = false := by simp; omega
  clear hk
  have hl : s.data.toList.length = s.size := by simp
  by_cases he : e = 0
  · subst he
    by_cases h1 : a < s.size
    · have HE := Lib.hid (show rEnd s.data.toList a 0 = 5 by unfold rEnd rFail; rw [hl, if_pos (by omega), if_pos rfl])
      rw [HE.out]
      clear hl
      go_enter Try.func19, Try.ntmps19
      go_wp2_with (go_at_call 31; refine (rend_any (((H.out.alloc _).alloc _).alloc _) Hs.out ha).mono ?_; rintro e w1 ⟨rfl, h1, hg1⟩; rw [HE.out] at h1; rw [HE.out]; obtain ⟨hc1, hf1⟩ := gcell hg1; have hz1 : w.heap.size + 1 + 1 < w1.heap.size := (by have := hg1.size; (try simp at this); omega); have hy1 : w.heap.size < w1.heap.size := (by omega); have hx1 : w.heap.size + 1 < w1.heap.size := (by omega); have H1 := Lib.hid h1; clear h1)
      go_region
      all_goals go_wp2
      all_goals
        refine bodyPost_ret (v := .tuple #[.agg #[.string s, .int .i64 (a : Nat), .int .i64 (5)], .bool true]) (by simp [results, Try.results19, go_sem, hc1, hz1, hy1, hx1, q0, q1, q2]) rfl ⟨rfl, ?_, ?_⟩
        · repeat (first | (with_reducible exact H1.out) | (with_reducible apply Rd.alloc) | (with_reducible refine Rd.far ?_ (by omega)) | (with_reducible apply Rd.drewN) | (with_reducible apply Rd.drew))
        · repeat (first | (with_reducible exact World.grownBy.refl _ _) | (with_reducible apply galloc) | (with_reducible refine gsetAt ?_ (by omega)) | (with_reducible apply gdrewN) | (with_reducible apply gdrew) | (with_reducible refine gstep ?_ hg1))
    · have HE := Lib.hid (show rEnd s.data.toList a 0 = 0 by unfold rEnd rFail; rw [hl, if_neg (by omega)])
      rw [HE.out]
      clear hl
      go_enter Try.func19, Try.ntmps19
      go_wp2_with (go_at_call 31; refine (rend_any (((H.out.alloc _).alloc _).alloc _) Hs.out ha).mono ?_; rintro e w1 ⟨rfl, h1, hg1⟩; rw [HE.out] at h1; rw [HE.out]; obtain ⟨hc1, hf1⟩ := gcell hg1; have hz1 : w.heap.size + 1 + 1 < w1.heap.size := (by have := hg1.size; (try simp at this); omega); have hy1 : w.heap.size < w1.heap.size := (by omega); have hx1 : w.heap.size + 1 < w1.heap.size := (by omega); have H1 := Lib.hid h1; clear h1)
      go_region
      all_goals go_wp2
      all_goals
        refine bodyPost_ret (v := .tuple #[.agg #[.string s, .int .i64 (a : Nat), .int .i64 (0)], .bool true]) (by simp [results, Try.results19, go_sem, hc1, hz1, hy1, hx1, q0, q1, q2]) rfl ⟨rfl, ?_, ?_⟩
        · repeat (first | (with_reducible exact H1.out) | (with_reducible apply Rd.alloc) | (with_reducible refine Rd.far ?_ (by omega)) | (with_reducible apply Rd.drewN) | (with_reducible apply Rd.drew))
        · repeat (first | (with_reducible exact World.grownBy.refl _ _) | (with_reducible apply galloc) | (with_reducible refine gsetAt ?_ (by omega)) | (with_reducible apply gdrewN) | (with_reducible apply gdrew) | (with_reducible refine gstep ?_ hg1))
  · have HE := Lib.hid (show rEnd s.data.toList a e = e by unfold rEnd rFail; split <;> simp [he])
    rw [HE.out]
    have hb : (e == 0) = false := by simp [he]
    clear hl he
    go_enter Try.func19, Try.ntmps19
    go_wp2_with (go_at_call 31; refine (rend_any (((H.out.alloc _).alloc _).alloc _) Hs.out ha).mono ?_; rintro e w1 ⟨rfl, h1, hg1⟩; rw [HE.out] at h1; rw [HE.out]; obtain ⟨hc1, hf1⟩ := gcell hg1; have hz1 : w.heap.size + 1 + 1 < w1.heap.size := (by have := hg1.size; (try simp at this); omega); have hy1 : w.heap.size < w1.heap.size := (by omega); have hx1 : w.heap.size + 1 < w1.heap.size := (by omega); have H1 := Lib.hid h1; clear h1)
    go_region
    all_goals go_wp2
    all_goals
      refine bodyPost_ret (v := .tuple #[.agg #[.string s, .int .i64 (a : Nat), .int .i64 (e)], .bool true]) (by simp [results, Try.results19, go_sem, hc1, hz1, hy1, hx1, q0, q1, q2]) rfl ⟨rfl, ?_, ?_⟩
      · repeat (first | (with_reducible exact H1.out) | (with_reducible apply Rd.alloc) | (with_reducible refine Rd.far ?_ (by omega)) | (with_reducible apply Rd.drewN) | (with_reducible apply Rd.drew))
      · repeat (first | (with_reducible exact World.grownBy.refl _ _) | (with_reducible apply galloc) | (with_reducible refine gsetAt ?_ (by omega)) | (with_reducible apply gdrewN) | (with_reducible apply gdrew) | (with_reducible refine gstep ?_ hg1))

theorem one_any {g : Nat} {s : ByteArray} {a : Nat} {e : Int} {w : World} (h : Rd w 64 g s a e) (kind n x : Int) (t : ByteArray) (hs : s.size ≤ maxLen) (ha : a ≤ s.size) :
    Calls Try.prog 19 #[.pointer (some ⟨g, 0, none⟩), .agg #[.string s, .int .i64 a, .int .i64 e], .agg #[.int .i64 kind, .int .i64 n, .int .u64 x, .string t]] w fun e' w' =>
      e' = .returned (.tuple #[.agg #[.string s, .int .i64 ((actSt s.data.toList kind n a e).1 : Nat), .int .i64 (actSt s.data.toList kind n a e).2], .bool true]) ∧ Rd w' 64 g s (actSt s.data.toList kind n a e).1 (actSt s.data.toList kind n a e).2 ∧ w.grownBy w' (some g) := by
  unfold actSt
  by_cases h0 : kind = 0
  · subst h0; exact one0 h n x t hs ha
  by_cases h1 : kind = 1
  · subst h1; exact one1 h n x t hs ha
  by_cases h2 : kind = 2
  · subst h2; exact one2 h n x t hs ha
  by_cases h3 : kind = 3
  · subst h3; exact one3 h n x t hs ha
  by_cases h4 : kind = 4
  · subst h4; exact one4 h n x t hs ha
  rw [if_neg h0, if_neg h1, if_neg h2, if_neg h3, if_neg h4]
  exact one5 h kind n x t hs ha (by omega)

theorem actSt_le (l : List UInt8) (kind n : Int) (a : Nat) (e : Int) (ha : a ≤ l.length) : (actSt l kind n a e).1 ≤ l.length := by
  unfold actSt
  split
  · exact rNum_le l a e n ha
  split
  · exact rTake_le l a e n ha
  split
  · unfold rText
    split
    · exact ha
    split
    · exact ha
    split
    · exact ha
    split
    · exact ha
    · simp only []; omega
  split
  · unfold rBool
    split
    · exact ha
    split
    · exact ha
    split
    · exact ha
    · simp only []; omega
  split
  · exact ha
  · exact ha
end Go.Proofs.Ytjgahidfhagafaa
