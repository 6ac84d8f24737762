/- Plain law of totals: what ValidTotals and the reference's l06Totals answer is one and the same; the helpers of the laws. -/
import Derived.Test.YtiaihdfpbgnaoaaDoorLoops
import Derived.Test.YtiaihdfpbgnaoaaDoorL06T
import Derived.Test.YtiaihdfpbgnaoaaDoorPimplValidTotals
import Derived.Test.YtiaihdfpbgnaoaaDoorPspecl06Totals
import Derived.Test.YtiaihdfpbgnaoaaDoorPspecTotalsText
import Derived.Test.YtiaihdfpbgnaoaaDoorPlawstoTotalS
import Derived.Test.YtiaihdfpbgnaoaaDoorPlawseqTotalS
import Derived.Test.YtiaihdfpbgnaoaaDoorPlawsszTotalS
namespace Go.Proofs.YtiaihdfpbgnaoaaDoor.P
open Go.RowKit Go.Proofs.YtiaihdfpbgnaoaaDoorW.PrintWords Go.Proofs.YtiaihdfpbgnaoaaDoorW.PrintLast Go.Proofs.YtiaihdfpbgnaoaaDoorW.PrintMore
set_option linter.unusedVariables false
abbrev Tl := S38
abbrev Tz : Tl := z38

def okAt (l : List Tl) (i : Nat) : Bool :=
  decide ((0 ≤ (l.getD i Tz).f0 ∧ (l.getD i Tz).f0 ≤ 100000) ∧ (0 ≤ (l.getD i Tz).f1 ∧ (l.getD i Tz).f1 ≤ 1000000000000) ∧ (i = 0 ∨ ((l.getD (i - 1) Tz).f0 < (l.getD i Tz).f0 ∧ (l.getD (i - 1) Tz).f1 ≤ (l.getD i Tz).f1)))
def validTot (l : List Tl) : Bool := decide (l.length ≤ 60) && (List.range' 0 l.length).all (okAt l)

theorem rdT (l : List Tl) (i : Nat) : rd_T38 l (i : Int) = l.getD i Tz := by simp [rd_T38]
theorem within_eq (a b c : Int) : impl_within.f a b c = some (decide (b ≤ a ∧ a ≤ c)) := by
  unfold impl_within.f
  split
  · rename_i h; simp [h]
  · rename_i h; simp [h]
theorem l00In_eq (a b c : Int) : spec_l00In.f a b c = some (decide (b ≤ a ∧ a ≤ c)) := by
  unfold spec_l00In.f
  split
  · rename_i h; simp [show b ≤ a from h]
  · rename_i h; simp [show ¬ b ≤ a from h]
theorem positive_eq (a : Int) : spec_l06Positive.f a = some (decide (0 ≤ a ∧ a ≤ 1000000000000)) := by
  unfold spec_l06Positive.f
  rw [l00In_eq]; rfl

theorem impl_valid (l : List Tl) (hn : l.length ≤ 1048576) : impl_ValidTotals.f 2000 l = some (validTot l) := by
  unfold impl_ValidTotals.f validTot
  by_cases h60 : (l.length : Int) > 60
  · rw [if_pos h60]; simp; intro h; omega
  · rw [if_neg h60]
    have key := all_loop (okAt l) l.length (fun k i => impl_ValidTotals.l0 k l l (l.length : Int) i) (by omega) 1 (by omega) ?_ ?_ ?_ l.length 2000 0 (by omega) (by omega)
    · simp only [Int.ofNat_zero] at key
      rw [key]
      simp
      omega
    · intro k i hi hok
      have hok := of_decide_eq_true hok
      simp only [impl_ValidTotals.l0]
      rw [if_pos (by omega), if_pos (by omega), if_pos (by omega), within_eq, rdT]
      simp only [Option.bind_some]
      rw [if_pos (decide_eq_true hok.1), within_eq]
      simp only [Option.bind_some]
      rw [if_pos (decide_eq_true hok.2.1)]
      by_cases h0 : i = 0
      · subst h0; rw [if_neg (by omega)]
      · have := hok.2.2.resolve_left h0
        rw [if_pos (by omega), wrap_pred (by omega) (by omega), if_pos (by omega), if_pos (by omega), rdT, if_neg (by omega), if_neg (by omega)]
    · intro k i hi hok
      have hok := of_decide_eq_false hok
      simp only [impl_ValidTotals.l0]
      rw [if_pos (by omega), if_pos (by omega), if_pos (by omega), within_eq, rdT]
      simp only [Option.bind_some]
      by_cases c1 : (0 ≤ (l.getD i Tz).f0 ∧ (l.getD i Tz).f0 ≤ 100000)
      · rw [if_pos (decide_eq_true c1), within_eq]
        simp only [Option.bind_some]
        by_cases c2 : (0 ≤ (l.getD i Tz).f1 ∧ (l.getD i Tz).f1 ≤ 1000000000000)
        · rw [if_pos (decide_eq_true c2)]
          have h0 : ¬ i = 0 := fun h => hok ⟨c1, c2, .inl h⟩
          rw [if_pos (by omega), wrap_pred (by omega) (by omega), if_pos (by omega), if_pos (by omega), rdT]
          by_cases c3 : (l.getD (i - 1) Tz).f0 ≥ (l.getD i Tz).f0
          · rw [if_pos c3]
          · rw [if_neg c3, if_pos (by rcases Int.lt_or_le (l.getD i Tz).f1 (l.getD (i - 1) Tz).f1 with h | h; exact h; exact absurd ⟨c1, c2, .inr ⟨by omega, h⟩⟩ hok)]
        · rw [if_neg (by simp only [decide_eq_true_eq]; exact c2)]
      · rw [if_neg (by simp only [decide_eq_true_eq]; exact c1)]
    · intro k
      simp only [impl_ValidTotals.l0]
      rw [if_neg (by omega)]

theorem spec_valid (l : List Tl) (hn : l.length ≤ 1048576) : spec_l06Totals.f 2000 l = some (validTot l) := by
  unfold spec_l06Totals.f validTot
  by_cases h60 : (l.length : Int) > 60
  · rw [if_pos h60]; simp; intro h; omega
  · rw [if_neg h60]
    have key := all_loop (okAt l) l.length (fun k i => spec_l06Totals.l0 k l i) (by omega) 2 (by omega) ?_ ?_ ?_ l.length 2000 0 (by omega) (by omega)
    · simp only [Int.ofNat_zero] at key
      rw [key]
      simp
      omega
    · intro k i hi hok
      have hok := of_decide_eq_true hok
      simp only [spec_l06Totals.l0]
      rw [if_pos (by omega), if_pos (by omega), l00In_eq, rdT]
      simp only [Option.bind_some]
      rw [if_pos (decide_eq_true hok.1), positive_eq]
      simp only [Option.bind_some, spec_l06Totals.j1]
      rw [if_neg (by rw [decide_eq_true hok.2.1]; decide)]
      by_cases h0 : i = 0
      · subst h0; rw [if_neg (by omega)]
      · have := hok.2.2.resolve_left h0
        rw [if_pos (by omega), if_pos (by omega), if_pos (by omega), wrap_pred (by omega) (by omega), if_pos (by omega), if_pos (by omega), rdT, rdT, if_neg (by omega), if_neg (by omega)]
    · intro k i hi hok
      have hok := of_decide_eq_false hok
      simp only [spec_l06Totals.l0]
      rw [if_pos (by omega), if_pos (by omega), l00In_eq, rdT]
      simp only [Option.bind_some]
      by_cases c1 : (0 ≤ (l.getD i Tz).f0 ∧ (l.getD i Tz).f0 ≤ 100000)
      · rw [if_pos (decide_eq_true c1), positive_eq]
        simp only [Option.bind_some, spec_l06Totals.j1]
        by_cases c2 : (0 ≤ (l.getD i Tz).f1 ∧ (l.getD i Tz).f1 ≤ 1000000000000)
        · rw [if_neg (by rw [decide_eq_true c2]; decide)]
          have h0 : ¬ i = 0 := fun h => hok ⟨c1, c2, .inl h⟩
          rw [if_pos (by omega), if_pos (by omega), if_pos (by omega), wrap_pred (by omega) (by omega), if_pos (by omega), if_pos (by omega), rdT, rdT]
          by_cases c3 : (l.getD i Tz).f0 ≤ (l.getD (i - 1) Tz).f0
          · rw [if_pos c3]
          · rw [if_neg c3, if_pos (by rcases Int.lt_or_le (l.getD i Tz).f1 (l.getD (i - 1) Tz).f1 with h | h; exact h; exact absurd ⟨c1, c2, .inr ⟨by omega, h⟩⟩ hok)]
        · rw [if_pos (by rw [decide_eq_false c2]; rfl)]
      · rw [if_neg (by simp only [decide_eq_true_eq]; exact c1)]
        simp only [spec_l06Totals.j1]; rfl
    · intro k
      simp only [spec_l06Totals.l0]
      rw [if_neg (by omega)]

theorem okAt_okTotal {l : List Tl} {i : Nat} (h : okAt l i = true) : okTotal (l.getD i Tz) = true := by
  have h := of_decide_eq_true h
  unfold okTotal
  exact decide_eq_true ⟨h.1.1, by omega, h.2.1.1, h.2.1.2⟩
theorem valid_all {l : List Tl} (h : validTot l = true) : l.length ≤ 60 ∧ l.all okTotal = true := by
  unfold validTot at h
  simp only [Bool.and_eq_true, decide_eq_true_eq] at h
  refine ⟨h.1, List.all_eq_true.2 fun x hx => ?_⟩
  obtain ⟨i, hi, rfl⟩ := List.getElem_of_mem hx
  have := List.all_eq_true.1 h.2 i (by simp [List.mem_range']; omega)
  have := okAt_okTotal this
  rwa [List.getD_eq_getElem?_getD, List.getElem?_eq_getElem hi] at this

/-- The text of totals. -/
def totalsText (l : List Tl) : ByteArray := if validTot l = true then totalLines l else ⟨#[]⟩
theorem spec_text (l : List Tl) (hn : l.length ≤ 1048576) : spec_TotalsText.f 2000 l = some (totalsText l) := by
  unfold spec_TotalsText.f totalsText
  rw [spec_valid l hn]
  simp only [Option.bind_some]
  split
  · rename_i h
    obtain ⟨h1, h2⟩ := valid_all h
    unfold l06Text.f
    rw [if_pos ⟨h1, h2⟩]; rfl
  · rfl

def convT (x : S40) : Tl := ⟨x.f0, x.f1⟩
theorem to_totals (l : List S40) (hn : l.length ≤ 1048576) : laws_toTotalS.f 1048577 l = some (l.map convT) := by
  unfold laws_toTotalS.f
  rw [if_pos (by omega), if_pos (by omega)]
  have key := map_loop z40 convT l (fun k ys i => laws_toTotalS.l0 k l ys i) (by omega) ?_ ?_ l.length 1048577 0 (List.replicate ((l.length : Int)).toNat z38) (by omega) (by omega) (by simp)
  · simp only [Int.ofNat_zero] at key
    rw [key]; simp
  · intro k ys i hi hl
    simp only [laws_toTotalS.l0]
    rw [if_pos (by omega), if_pos (by omega)]
    simp only [laws_toTotal.f, Option.bind_some]
    rw [if_pos (by omega)]
    simp [convT, rd_T40]
  · intro k ys
    simp only [laws_toTotalS.l0]
    rw [if_neg (by omega)]
theorem eq_totals (l : List Tl) (hn : l.length ≤ 1048576) : laws_eqTotalS.f 1048577 l l = some true := by
  unfold laws_eqTotalS.f
  rw [if_pos rfl]
  have key := all_loop (fun _ => true) l.length (fun k i => laws_eqTotalS.l0 k l l i) (by omega) 1 (by omega) ?_ ?_ ?_ l.length 1048577 0 (by omega) (by omega)
  · rw [show ((0 : Nat) : Int) = 0 from rfl] at key
    rw [key]; simp
  · intro k i hi _
    simp only [laws_eqTotalS.l0]
    rw [if_pos (by omega), if_pos (by omega), if_pos (by omega)]
    simp [laws_eqTotal.f]
  · intro k i hi h; cases h
  · intro k
    simp only [laws_eqTotalS.l0]
    rw [if_neg (by omega)]
end Go.Proofs.YtiaihdfpbgnaoaaDoor.P
