/- Plain laws of the loops that the laws' own helpers run: copying a list element by element, comparing two lists, asking all elements. -/
import Derived.Test.YtiaihdfpbgnaoaaDoorP0
namespace Go.Proofs.YtiaihdfpbgnaoaaDoor.P
open Go.RowKit Go.Proofs.YtiaihdfpbgnaoaaDoorW.PrintWords Go.Proofs.YtiaihdfpbgnaoaaDoorW.PrintLast Go.Proofs.YtiaihdfpbgnaoaaDoorW.PrintMore
set_option linter.unusedVariables false

theorem wrap_succ {i : Nat} (h : i < 9223372036854775807) : wrap64 ((i : Int) + 1) = ((i + 1 : Nat) : Int) := by
  unfold wrap64; omega
theorem wrap_pred {i : Nat} (h0 : 0 < i) (h : i < 9223372036854775807) : wrap64 ((i : Int) - 1) = ((i - 1 : Nat) : Int) := by
  unfold wrap64; omega

/-- for i := range out { out[i] = conv(xs[i]) } -/
theorem map_loop {α β : Type} (d : α) (conv : α → β) (xs : List α) (F : Nat → List β → Int → Option (List β)) (hn : xs.length < 9223372036854775807)
    (hrec : ∀ k ys (i : Nat), i < xs.length → ys.length = xs.length → F (k + 1) ys i = F k (ys.set i (conv (xs.getD i d))) (wrap64 ((i : Int) + 1)))
    (hend : ∀ k ys, F (k + 1) ys (xs.length : Int) = some ys) :
    ∀ (m k i : Nat) (ys : List β), i + m = xs.length → m < k → ys.length = xs.length → F k ys i = some (ys.take i ++ (xs.drop i).map conv) := by
  intro m
  induction m with
  | zero =>
    intro k i ys hi hk hl
    obtain ⟨k, rfl⟩ : ∃ j, k = j + 1 := ⟨k - 1, by omega⟩
    obtain rfl : i = xs.length := by omega
    rw [hend, List.drop_length, ← hl, List.take_length]; simp
  | succ m ih =>
    intro k i ys hi hk hl
    obtain ⟨k, rfl⟩ : ∃ j, k = j + 1 := ⟨k - 1, by omega⟩
    have hlt : i < xs.length := by omega
    rw [hrec k ys i hlt hl, wrap_succ (by omega), ih k (i + 1) _ (by omega) (by omega) (by simpa using hl)]
    congr 1
    rw [List.take_succ_eq_append_getElem (by rw [List.length_set]; omega), List.getElem_set_self, List.take_set, List.drop_eq_getElem_cons hlt]
    rw [List.set_eq_of_length_le (by simp; omega), List.getD_eq_getElem?_getD, List.getElem?_eq_getElem hlt]
    rw [List.map_cons, List.append_assoc]; rfl
/-- for i := range xs { if !ok(i) { return false } }; return true -/
theorem all_loop (ok : Nat → Bool) (n : Nat) (F : Nat → Int → Option Bool) (hn : n < 9223372036854775807) (c : Nat) (hc : 0 < c)
    (hyes : ∀ k (i : Nat), i < n → ok i = true → F (k + c) i = F k (wrap64 ((i : Int) + 1)))
    (hno : ∀ k (i : Nat), i < n → ok i = false → F (k + c) i = some false)
    (hend : ∀ k, F (k + 1) (n : Int) = some true) :
    ∀ (m k i : Nat), i + m = n → (m + 1) * c ≤ k → F k i = some ((List.range' i m).all ok) := by
  intro m
  induction m with
  | zero =>
    intro k i hi hk
    obtain ⟨k, rfl⟩ : ∃ j, k = j + 1 := ⟨k - 1, by omega⟩
    obtain rfl : i = n := by omega
    rw [hend]; simp
  | succ m ih =>
    intro k i hi hk
    have hck : c ≤ k := Nat.le_trans (Nat.le_mul_of_pos_left c (by omega)) hk
    obtain ⟨k, rfl⟩ : ∃ j, k = j + c := ⟨k - c, by omega⟩
    rw [List.range'_succ, List.all_cons]
    cases h : ok i with
    | true =>
      rw [hyes k i (by omega) h, wrap_succ (by omega), ih k (i + 1) (by omega) (by rw [Nat.succ_mul] at hk; omega)]
      simp
    | false => rw [hno k i (by omega) h]; simp
/-- The same, where a round needs rounds of its own (K), and the ends are whatever they are. -/
theorem all_loop2 {R : Type} (ok : Nat → Bool) (n : Nat) (F : Nat → Int → Option R) (yes no : Option R) (hn : n < 9223372036854775807) (K c : Nat) (hc : 0 < c)
    (hyes : ∀ k (i : Nat), K ≤ k → i < n → ok i = true → F (k + c) i = F k (wrap64 ((i : Int) + 1)))
    (hno : ∀ k (i : Nat), K ≤ k → i < n → ok i = false → F (k + c) i = no)
    (hend : ∀ k, K ≤ k → F (k + 1) (n : Int) = yes) :
    ∀ (m k i : Nat), i + m = n → (m + 1) * c + K ≤ k → F k i = if (List.range' i m).all ok = true then yes else no := by
  intro m
  induction m with
  | zero =>
    intro k i hi hk
    obtain ⟨k, rfl⟩ : ∃ j, k = j + 1 := ⟨k - 1, by omega⟩
    obtain rfl : i = n := by omega
    rw [hend _ (by omega)]; simp
  | succ m ih =>
    intro k i hi hk
    have hck : c + K ≤ k := Nat.le_trans (Nat.add_le_add_right (Nat.le_mul_of_pos_left c (by omega)) K) hk
    obtain ⟨k, rfl⟩ : ∃ j, k = j + c := ⟨k - c, by omega⟩
    rw [List.range'_succ, List.all_cons]
    cases h : ok i with
    | true =>
      rw [hyes k i (by omega) (by omega) h, wrap_succ (by omega), ih k (i + 1) (by omega) (by rw [Nat.succ_mul] at hk; omega), Bool.true_and]
    | false => rw [hno k i (by omega) (by omega) h, Bool.false_and, if_neg (by decide)]
/-- All places of a list, or all its elements. -/
theorem all_range {α : Type} (d : α) (p : α → Bool) (l : List α) : ((List.range' 0 l.length).all fun i => p (l.getD i d)) = l.all p := by
  rw [Bool.eq_iff_iff, List.all_eq_true, List.all_eq_true]
  constructor
  · intro h x hx
    obtain ⟨i, hi, rfl⟩ := List.getElem_of_mem hx
    have := h i (by simp [List.mem_range']; omega)
    simpa [List.getD_eq_getElem?_getD, List.getElem?_eq_getElem hi] using this
  · intro h i hi
    have hlt : i < l.length := by simpa [List.mem_range'] using hi
    have := h l[i] (List.getElem_mem hlt)
    simpa [List.getD_eq_getElem?_getD, List.getElem?_eq_getElem hlt] using this
end Go.Proofs.YtiaihdfpbgnaoaaDoor.P
