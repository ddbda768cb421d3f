import Derived.Test.YtebickoieipjpaaWrBase
import Derived.Test.YtebickoieipjpaaRdBase
import Derived.Test.YtebickoieipjpaaRefNum
namespace Go.Proofs.Ytebickoieipjpaa
open Go.RowKit Go.Gi
set_option maxRecDepth 20000
set_option linter.unusedVariables false

theorem newWriter_any (w : World) (base : Nat) (hb : base ≤ w.heap.size) :
    Calls Try.prog 17 #[] w fun e w' => ∃ g, e = .returned (.pointer (some ⟨g, 0, none⟩)) ∧ Wr w' 94 5 base g none [] ∧ g = w.heap.size ∧ Below w.heap.size w w' := by
  go_enter Try.func17, Try.ntmps17
  go_wp2
  go_ret
  exact ⟨_, rfl, ⟨hb, _, Blk.new w _ _, World.ownsRow_nil _ _ _ _, rfl⟩, rfl, balloc (Below.refl _ _) _⟩

theorem own_slice {w : World} {base e size n : Nat} {v : Value} {xs : List Value} (h : w.ownsRow base e size v n xs) : ∃ A c, v = .slice A n c := by
  rcases h.2 with ⟨rfl, rfl⟩ | ⟨g, cap, _, rfl, _⟩
  · exact ⟨_, _, rfl⟩
  · exact ⟨_, _, rfl⟩

set_option maxHeartbeats 800000 in
theorem wbytes_any {w : World} {base g : Nat} {r : Option Nat} {l : List UInt8} (h : Wr w 94 5 base g r l) (s : ByteArray) (hs : l.length + s.size ≤ 140737488355328) :
    Calls Try.prog 38 #[.pointer (some ⟨g, 0, none⟩), .string s] w fun e w' => e = .returned (.tuple #[]) ∧ ∃ r', Wr w' 94 5 base g r' (l ++ s.data.toList) ∧ WK w w' g r r' := by
  obtain ⟨i0, hi, hz0, hz1, hz2⟩ := info_parts infoU8
  have hlt := h.lt
  obtain ⟨hbg, v, hg, hown, rfl⟩ := h
  obtain ⟨A, c, rfl⟩ := own_slice hown
  have c0 : w.cell? ⟨g, 0, none⟩ = some (.slice A l.length c) := by simp [World.cell?, hg]
  have f0 : w.frozen? ⟨g, 0, none⟩ = false := by simp [World.frozen?, hg]
  have HG := Lib.hid hg
  clear hg
  have hbs : base ≤ w.heap.size := by omega
  go_enter Try.func38, Try.ntmps38
  go_wp2_with (at_builtin; refine wpList_append_str rfl _ _ 92 9 rfl base 5 i0 Try.underlying92 Try.underlying9 hi hz0 hz1 hz2 _ l rfl hown s rfl hs hbs ?_; intro v1 w1 hown1 hg1 hat; obtain ⟨A1, c1, rfl⟩ := own_slice hown1; have hne : some g ≠ (Value.slice A l.length c).ownBlock := (own_ne_of hown HG.out (by decide)); have HG1 := Lib.hid ((hg1.block g hlt hne).trans HG.out); have k0 : w1.cell? ⟨g, 0, none⟩ = some (.slice A l.length c) := (by have := HG1.out; simp [World.cell?, this]); have kf : w1.frozen? ⟨g, 0, none⟩ = false := (by have := HG1.out; simp [World.frozen?, this]); have Hown1 := Lib.hid hown1; have Hat := Lib.hid hat; have Hg1 := Lib.hid hg1; clear hown1 hat hg1)
  go_end0
  have hlen : (l ++ s.data.toList).length = l.length + s.size := by simp
  have Hown2 := Hown1.out
  have Hat2 := Hat.out
  have hg2 : w.grownBy w1 (Value.slice A l.length c).ownBlock := Hg1.out
  have hat2 : (Value.slice A1 (l.length + s.size) c1).ownBlock = (Value.slice A l.length c).ownBlock ∨ (Value.slice A1 (l.length + s.size) c1).ownBlock = some w.heap.size := by
    rw [hlen] at Hat2
    exact Hat2
  clear Hat2
  have hown2 : w1.ownsRow base 5 1 (Value.slice A1 (l.length + s.size) c1) (l ++ s.data.toList).length (List.map u8V (l ++ s.data.toList)) := by
    rw [← hlen]; exact Hown2
  clear Hown2
  have hne1 : some g ≠ (Value.slice A1 (l.length + s.size) c1).ownBlock := own_ne_of hown2 HG1.out (by decide)
  have HB : Blk w1 g 94 #[.slice A l.length c] := HG1.out
  have hset := gset (World.grownBy.refl w1 (some g)) 0 (.slice A1 (l.length + s.size) c1)
  refine ⟨rfl, _, ⟨hbg, _, HB.set_ 0 _, hown2.kept hset (.inr (fun e => hne1 e.symm)), rfl⟩, ⟨hset.os.trans hg2.os, hset.tape.trans hg2.tape, hset.output.trans hg2.output, Nat.le_trans hg2.size hset.size, fun k hk hkg hkr => ?_, ?_⟩⟩
  · exact (hset.block k (Nat.lt_of_lt_of_le hk hg2.size) (fun e => hkg (by injection e))).trans (hg2.block k hk hkr)
  · rcases hat2 with h | h
    · exact .inl h
    · exact .inr ⟨_, h, Nat.le_refl _⟩

theorem wnumber_any {w : World} {base g : Nat} {r : Option Nat} {l : List UInt8} (h : Wr w 94 5 base g r l) (n long : Int) (h0 : 0 ≤ n) (h1 : n ≤ 18446744073709551615) (hs : l.length + 8 ≤ 140737488355328) :
    Calls Try.prog 18 #[.pointer (some ⟨g, 0, none⟩), .int .u64 n, .int .i64 long] w fun e w' => e = .returned (.tuple #[]) ∧ ∃ r', Wr w' 94 5 base g r' (l ++ putL (clamp8 long) n.toNat) ∧ WK w w' g r r' := by
  have H := Lib.hid h
  clear h
  have h8 : clamp8 long ≤ 8 := by unfold clamp8; omega
  have hl : l.length + (bs (putL (clamp8 long) n.toNat)).size ≤ 140737488355328 := by rw [bs_size, putL_length]; omega
  go_enter Try.func18, Try.ntmps18
  go_wp2_with (first | (go_at_call 39; refine (put_any _ _ _ h0 h1).mono ?_; rintro e w1 ⟨rfl, hb1⟩; have Hb1 := Lib.hid hb1; clear hb1) | (go_at_call 38; refine (wbytes_any (H.out.step Hb1.out) _ hl).mono ?_; rintro e w2 ⟨rfl, r2, hw2, hk2⟩; have Hw2 := Lib.hid hw2; have Hk2 := Lib.hid hk2; clear hw2 hk2))
  go_end0
  refine ⟨rfl, r2, ?_, WK.pre Hb1.out Hk2.out⟩
  have := Hw2.out
  rw [toList_bs] at this
  exact this

theorem wtext_ok {w : World} {base g : Nat} {r : Option Nat} {l : List UInt8} (h : Wr w 94 5 base g r l) (s : ByteArray) (h1 : s.size ≤ 65535) (hs : l.length + 65537 ≤ 140737488355328) :
    Calls Try.prog 40 #[.pointer (some ⟨g, 0, none⟩), .string s] w fun e w' => e = .returned (.int .i64 0) ∧ ∃ r', Wr w' 94 5 base g r' (l ++ putL 2 s.size ++ s.data.toList) ∧ WK w w' g r r' := by
  have H := Lib.hid h
  clear h
  have hl : l.length + (bs (putL 2 s.size) ++ s).size ≤ 140737488355328 := by rw [ByteArray.size_append, bs_size, putL_length]; omega
  go_enter Try.func40, Try.ntmps40
  go_wp2_with (first | (go_at_call 53; refine (text_ok _ _ h1).mono ?_; rintro e w1 ⟨rfl, hb1⟩; have Hb1 := Lib.hid hb1; clear hb1) | (go_at_call 38; refine (wbytes_any (H.out.step Hb1.out) _ hl).mono ?_; rintro e w2 ⟨rfl, r2, hw2, hk2⟩; have Hw2 := Lib.hid hw2; have Hk2 := Lib.hid hk2; clear hw2 hk2))
  go_ret
  refine ⟨rfl, r2, ?_, WK.pre Hb1.out Hk2.out⟩
  have := Hw2.out
  rw [show (bs (putL 2 s.size) ++ s).data.toList = putL 2 s.size ++ s.data.toList by simp [bs], ← List.append_assoc] at this
  exact this

theorem wtext_more {w : World} {base g : Nat} {r : Option Nat} {l : List UInt8} (h : Wr w 94 5 base g r l) (s : ByteArray) (hs : s.size ≤ maxLen) (h1 : 65535 < s.size) (hl : l.length ≤ 140737488355328) :
    Calls Try.prog 40 #[.pointer (some ⟨g, 0, none⟩), .string s] w fun e w' => e = .returned (.int .i64 5) ∧ ∃ r', Wr w' 94 5 base g r' l ∧ WK w w' g r r' := by
  have H := Lib.hid h
  have Hs := Lib.hid hs
  clear h hs
  have hl2 : l.length + (⟨#[]⟩ : ByteArray).size ≤ 140737488355328 := hl
  go_enter Try.func40, Try.ntmps40
  go_wp2_with (first | (go_at_call 53; refine (text_more _ _ Hs.out h1).mono ?_; rintro e w' ⟨rfl, rfl⟩) | (go_at_call 38; refine (wbytes_any H.out _ hl2).mono ?_; rintro e w2 ⟨rfl, r2, hw2, hk2⟩; have Hw2 := Lib.hid hw2; have Hk2 := Lib.hid hk2; clear hw2 hk2))
  go_ret
  refine ⟨rfl, r2, ?_, Hk2.out⟩
  have := Hw2.out
  simpa using this

theorem wbool_any {w : World} {base g : Nat} {r : Option Nat} {l : List UInt8} (h : Wr w 94 5 base g r l) (b : Bool) (hs : l.length + 8 ≤ 140737488355328) :
    Calls Try.prog 41 #[.pointer (some ⟨g, 0, none⟩), .bool b] w fun e w' => e = .returned (.tuple #[]) ∧ ∃ r', Wr w' 94 5 base g r' (l ++ [if b then 1 else 0]) ∧ WK w w' g r r' := by
  have H := Lib.hid h
  clear h
  cases b
  all_goals
    go_enter Try.func41, Try.ntmps41
    go_wp2_with (go_at_call 18; refine (wnumber_any H.out _ 1 (by decide) (by decide) hs).mono ?_; rintro e w2 ⟨rfl, r2, hw2, hk2⟩; have Hw2 := Lib.hid hw2; have Hk2 := Lib.hid hk2; clear hw2 hk2)
    go_end0
    exact ⟨rfl, r2, Hw2.out, Hk2.out⟩

theorem wall_any {w : World} {base g : Nat} {r : Option Nat} {l : List UInt8} (h : Wr w 94 5 base g r l) :
    Calls Try.prog 21 #[.pointer (some ⟨g, 0, none⟩)] w fun e w' => e = .returned (.string (bs l)) ∧ w' = w := by
  obtain ⟨hbg, v, hg, hown, rfl⟩ := h
  have hcv := own_string (P := Try.prog) Try.underlying92 Try.underlying5 Try.underlying9 hown
  obtain ⟨A, c, rfl⟩ := own_slice hown
  have c0 : w.cell? ⟨g, 0, none⟩ = some (.slice A l.length c) := by simp [World.cell?, hg]
  clear hg hown
  go_enter Try.func21, Try.ntmps21
  go_wp2
  go_ret
  exact ⟨rfl, rfl⟩
end Go.Proofs.Ytebickoieipjpaa
