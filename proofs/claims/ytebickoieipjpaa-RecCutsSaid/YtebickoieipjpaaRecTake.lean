import Derived.Test.YtebickoieipjpaaRecRead
import Derived.Test.YtebickoieipjpaaReader3
namespace Go.Proofs.Ytebickoieipjpaa
open Go.RowKit Go.Gi
set_option maxRecDepth 20000
set_option linter.unusedVariables false
theorem num_st {g : Nat} {L : List UInt8} {a : Nat} {e : Int} {w : World} (h : RS w 99 g L a e) (long : Int) (v a1 : Nat) (e1 : Int) (hn : rNum L a e long = (v, a1, e1)) :
    Calls Try.prog 23 #[.pointer (some ⟨g, 0, none⟩), .int .i64 long] w fun e' w' => e' = .returned (.int .u64 (v : Nat)) ∧ RS w' 99 g L a1 e1 ∧ w.grownBy w' (some g) := by
  have hle := rNum_le L a e long h.at_
  rw [hn] at hle
  exact (num_eq h.rd h.long (by rw [bs_size]; exact h.at_) long v a1 e1 (by rw [toList_bs]; exact hn)).mono fun _ _ ⟨x, y, z⟩ => ⟨x, ⟨y, hle, h.long⟩, z⟩
theorem text_st {g : Nat} {L : List UInt8} {a : Nat} {e : Int} {w : World} (h : RS w 99 g L a e) (most : Int) (v : List UInt8) (a1 : Nat) (e1 : Int) (hn : rText L a e most = (v, a1, e1)) :
    Calls Try.prog 43 #[.pointer (some ⟨g, 0, none⟩), .int .i64 most] w fun e' w' => e' = .returned (.string (bs v)) ∧ RS w' 99 g L a1 e1 ∧ w.grownBy w' (some g) := by
  have hle := rText_le L a e most h.at_
  rw [hn] at hle
  exact (rtext_eq h.rd h.long (by rw [bs_size]; exact h.at_) most v a1 e1 (by rw [toList_bs]; exact hn)).mono fun _ _ ⟨x, y, z⟩ => ⟨x, ⟨y, hle, h.long⟩, z⟩
theorem bool_st {g : Nat} {L : List UInt8} {a : Nat} {e : Int} {w : World} (h : RS w 99 g L a e) (v : Bool) (a1 : Nat) (e1 : Int) (hn : rBool L a e = (v, a1, e1)) :
    Calls Try.prog 44 #[.pointer (some ⟨g, 0, none⟩)] w fun e' w' => e' = .returned (.bool v) ∧ RS w' 99 g L a1 e1 ∧ w.grownBy w' (some g) := by
  have hle := rBool_le L a e h.at_
  rw [hn] at hle
  exact (rbool_eq h.rd h.long (by rw [bs_size]; exact h.at_) v a1 e1 (by rw [toList_bs]; exact hn)).mono fun _ _ ⟨x, y, z⟩ => ⟨x, ⟨y, hle, h.long⟩, z⟩
end Go.Proofs.Ytebickoieipjpaa
