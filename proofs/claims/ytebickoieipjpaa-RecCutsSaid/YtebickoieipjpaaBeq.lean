/- Strings as lists, compared. No program. -/
import Derived.Test.YtebickoieipjpaaBase
import Derived.Laws.StructEq
namespace Go.Gi
theorem bs_beq (a b : List UInt8) : (bs a == bs b) = (a == b) := by
  show ((bs a).data == (bs b).data) = _
  simp [bs]
theorem bs_beq_nil (s : List UInt8) : (bs s == (⟨#[]⟩ : ByteArray)) = decide (s.length = 0) := by
  have := bs_beq s []
  rw [bs_nil] at this
  rw [this]
  cases s <;> simp
theorem bs_inj {a b : List UInt8} (h : bs a = bs b) : a = b := by rw [← toList_bs a, h, toList_bs]
theorem bs_tl (s : List UInt8) : (bs s).toList = s := by rw [ByteArray.toList_eq, toList_bs]
theorem bs_empty (s : List UInt8) : (bs s).toList.isEmpty = decide (s.length = 0) := by
  rw [bs_tl]; cases s <;> simp
end Go.Gi
