/- Plain facts on decimal numerals as byte strings: no program in sight. -/
import Derived.Lib.ItoaNum
import Derived.Test.YtiaihdfpbgnaoaaDoorP0
namespace Go.Proofs.YtiaihdfpbgnaoaaDoor.P
open Go.RowKit Go.Proofs.YtiaihdfpbgnaoaaDoorW.PrintWords Go.Proofs.YtiaihdfpbgnaoaaDoorW.PrintLast Go.Proofs.YtiaihdfpbgnaoaaDoorW.PrintMore
set_option linter.unusedVariables false

/-- The decimal numeral of a number, as a string. -/
def dec (n : Int) : ByteArray := ⟨(Lib.itoa n).toArray⟩
theorem ba_size (l : List UInt8) : (⟨l.toArray⟩ : ByteArray).size = l.length := by simp [ByteArray.size]
theorem ba_append (a b : List UInt8) : (⟨a.toArray⟩ : ByteArray) ++ ⟨b.toArray⟩ = ⟨(a ++ b).toArray⟩ := by
  apply ByteArray.ext
  simp
theorem nDigits_le (u : Nat) : ∀ k, u < 10 ^ (k + 1) → Lib.nDigits u ≤ k + 1 := by
  intro k
  induction k generalizing u with
  | zero => intro h; rw [Lib.nDigits_small (by simpa using h)]; omega
  | succ k ih =>
    intro h
    by_cases hu : u < 10
    · rw [Lib.nDigits_small hu]; omega
    · rw [Lib.nDigits_big hu]
      have := ih (u / 10) (by rw [Nat.div_lt_iff_lt_mul (by omega)]; rw [Nat.pow_succ] at h; exact h)
      omega
theorem itoa_length (n : Int) (h0 : -9223372036854775808 ≤ n) (h1 : n ≤ 9223372036854775807) : (Lib.itoa n).length ≤ 20 := by
  unfold Lib.itoa
  split
  · have := nDigits_le n.natAbs 18 (by have : n.natAbs ≤ 9223372036854775808 := by omega
                                       exact Nat.lt_of_le_of_lt this (by decide))
    simp [Lib.decDigits_length]; omega
  · have := nDigits_le n.toNat 18 (by have : n.toNat ≤ 9223372036854775808 := by omega
                                      exact Nat.lt_of_le_of_lt this (by decide))
    simp [Lib.decDigits_length]; omega
theorem dec_size (n : Int) (h0 : -9223372036854775808 ≤ n) (h1 : n ≤ 9223372036854775807) : (dec n).size ≤ 20 := by
  unfold dec; rw [ba_size]; exact itoa_length n h0 h1
theorem dec_digit {n : Int} (h0 : 0 ≤ n) (h1 : n < 10) : dec n = ⟨#[UInt8.ofNat (48 + n.toNat)]⟩ := by
  unfold dec Lib.itoa
  rw [if_neg (by omega), Lib.decDigits_one (by omega)]
theorem dec_more {n : Int} (h1 : 10 ≤ n) : dec n = dec (n / 10) ++ dec (n % 10) := by
  rw [dec_digit (Int.emod_nonneg _ (by omega)) (Int.emod_lt_of_pos _ (by omega))]
  unfold dec Lib.itoa
  rw [if_neg (by omega), if_neg (by omega), Lib.decDigits, dif_neg (by omega), ba_append]
  congr 4
  · congr 1; omega
  · congr 2; omega
theorem dec_neg {n : Int} (h : n < 0) : dec n = (⟨#[45]⟩ : ByteArray) ++ dec (-n) := by
  unfold dec Lib.itoa
  rw [if_pos h, if_neg (by omega)]
  rw [show (⟨#[45]⟩ : ByteArray) = ⟨([45] : List UInt8).toArray⟩ from rfl, ba_append]
  congr 3
  simp
  congr 1; omega
end Go.Proofs.YtiaihdfpbgnaoaaDoor.P
