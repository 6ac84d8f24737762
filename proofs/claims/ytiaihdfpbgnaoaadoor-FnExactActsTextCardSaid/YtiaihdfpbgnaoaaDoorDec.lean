/- spec.Decimal returns the decimal numeral of a number that is at least 0. -/
import Derived.Test.YtiaihdfpbgnaoaaDoorTxt
import Derived.Test.YtiaihdfpbgnaoaaDoorPspecDecimal
namespace Go.Proofs.YtiaihdfpbgnaoaaDoor.P
open Go.RowKit Go.Proofs.YtiaihdfpbgnaoaaDoorW.PrintWords Go.Proofs.YtiaihdfpbgnaoaaDoorW.PrintLast Go.Proofs.YtiaihdfpbgnaoaaDoorW.PrintMore
set_option linter.unusedVariables false

theorem one_digit {n : Int} (h0 : 0 ≤ n) : strOfNums [(wrap64 (48 + Int.tmod n 10)) % 256] = dec (n % 10) := by
  rw [dec_digit (Int.emod_nonneg _ (by omega)) (Int.emod_lt_of_pos _ (by omega)), Int.tmod_eq_emod_of_nonneg h0]
  have hx : wrap64 (48 + n % 10) % 256 = 48 + n % 10 := by unfold wrap64; omega
  rw [hx]
  have e : (48 + n % 10).toNat = 48 + (n % 10).toNat := by omega
  simp [strOfNums, e]
theorem decimal_pure (m : Nat) : ∀ (k : Nat) (n : Int), 0 ≤ n → n < (10 : Int) ^ (m + 1) → n ≤ 9223372036854775807 → m < k → spec_Decimal.f k n = some (dec n) := by
  induction m with
  | zero =>
    intro k n h0 h1 h2 hk
    obtain ⟨k, rfl⟩ : ∃ j, k = j + 1 := ⟨k - 1, by omega⟩
    simp only [spec_Decimal.f]
    rw [if_pos (by simpa using h1), one_digit h0, Int.emod_eq_of_lt h0 (by simpa using h1)]
  | succ m ih =>
    intro k n h0 h1 h2 hk
    obtain ⟨k, rfl⟩ : ∃ j, k = j + 1 := ⟨k - 1, by omega⟩
    by_cases hn : n < 10
    · simp only [spec_Decimal.f]
      rw [if_pos hn, one_digit h0, Int.emod_eq_of_lt h0 hn]
    · have hd : wrap64 (Int.tdiv n 10) = n / 10 := by rw [Int.tdiv_eq_ediv_of_nonneg h0]; unfold wrap64; omega
      have hp : (10 : Int) ^ (m + 1 + 1) = (10 : Int) ^ (m + 1) * 10 := Int.pow_succ _ _
      have := ih k (n / 10) (by omega) (by rw [hp] at h1; omega) (by omega) (by omega)
      simp only [spec_Decimal.f]
      rw [if_neg hn, hd, this]
      simp only [Option.bind_some, one_digit h0]
      have a := dec_size (n / 10) (by omega) (by omega)
      have b := dec_size (n % 10) (by omega) (by omega)
      rw [if_pos (by omega), ← dec_more (by omega)]

/-- What spec.Decimal computes. -/
def specDecimal.f (n : Int) : Option ByteArray := if 0 ≤ n ∧ n ≤ 9223372036854775807 then some (dec n) else none
theorem specDecimal.calls (a0 : Int) (r : ByteArray) (w : World) (h : specDecimal.f a0 = some r) :
    Calls Tryd.prog 31 #[.int .i64 a0] w fun e w' => e = .returned (.string r) ∧ Below w.heap.size w w' := by
  unfold specDecimal.f at h
  split at h
  · rename_i hh
    obtain rfl := Option.some.inj h
    exact spec_Decimal.calls 20 a0 _ w (decimal_pure 18 20 a0 hh.1 (Int.lt_of_le_of_lt hh.2 (by decide)) hh.2 (by omega))
  · cases h
theorem decimal_any (n : Int) (w : World) (h0 : 0 ≤ n) (h1 : n ≤ 9223372036854775807) :
    Calls Tryd.prog 31 #[.int .i64 n] w fun e w' => e = .returned (.string (dec n)) ∧ Below w.heap.size w w' :=
  specDecimal.calls n _ w (by unfold specDecimal.f; rw [if_pos ⟨h0, h1⟩])
end Go.Proofs.YtiaihdfpbgnaoaaDoor.P
