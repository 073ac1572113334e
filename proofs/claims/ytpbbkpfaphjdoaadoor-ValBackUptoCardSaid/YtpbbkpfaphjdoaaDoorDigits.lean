/- sluiceref1.Digits, walked: a number's digits. -/
import Derived.Test.YtpbbkpfaphjdoaaDoorVals
import Derived.Lib.ItoaMem
namespace Go.Proofs.YtpbbkpfaphjdoaaDoor
open Go.ChangeShapes Go.WideShapes Go.ChangeAt Go.RowKit

theorem bytes_app (a b : List UInt8) : (⟨a.toArray⟩ : ByteArray) ++ (⟨b.toArray⟩ : ByteArray) = ⟨(a ++ b).toArray⟩ := by
  apply ByteArray.ext
  simp
theorem dec_next {n : Nat} (h : ¬ n < 10) : Lib.decDigits n = Lib.decDigits (n / 10) ++ [UInt8.ofNat (48 + n % 10)] := by rw [Lib.decDigits, dif_neg h]
theorem dec_one {n : Nat} (h : n < 10) : Lib.decDigits n = [UInt8.ofNat (48 + n)] := by rw [Lib.decDigits, dif_pos h]
theorem dec_len : ∀ (m n : Nat), n ≤ m → (Lib.decDigits n).length ≤ n / 10 + 1
  | 0, n, h => by rw [dec_one (by omega)]; show 1 ≤ _; omega
  | m + 1, n, h => by
    by_cases h10 : n < 10
    · rw [dec_one h10]; show 1 ≤ _; omega
    · have := dec_len m (n / 10) (by omega)
      rw [dec_next h10, List.length_append]
      show _ + 1 ≤ _
      omega
end Go.Proofs.YtpbbkpfaphjdoaaDoor
