/- From the reading of an argument as data to the lists that the printed contracts speak of. -/
import Derived.Test.YtiaihdfpbgnaoaaDoorP0
import Derived.Deep.Slices
import Derived.Deep.Fields
import Derived.ChangeSame
import Derived.OpenShut
import Derived.SizedLaws
import Derived.ShutString
import Derived.ProofKit
namespace Go.Proofs.YtiaihdfpbgnaoaaDoor.P
open Go.RowKit Go.Proofs.YtiaihdfpbgnaoaaDoorW.PrintWords Go.Proofs.YtiaihdfpbgnaoaaDoorW.PrintLast Go.Proofs.YtiaihdfpbgnaoaaDoorW.PrintMore
open Go.ChangeShapes Go.WideShapes Go.ChangeAt Go.Deep
set_option linter.unusedVariables false

section
variable {H : Type} {enc : TypeId × Value → H} {P : Program} {w : World} {base : Nat} {spare : Nat → Bool} {held : Bool}

/-- A slice of whatever elements, opened to its list. -/
theorem opens_slice {α : Type} [Inhabited α] (k : Kd α) (WF : α → Prop) {t e : TypeId} {fuel : Nat} {cs : List Value} {x : DataW H × List MemPlace}
    (ho : ∀ {fuel : Nat} {cs : List Value} {x : DataW H × List MemPlace}, DataW.trod enc P w base spare held fuel e cs = some x → ∃ a, k.K w a cs ∧ WF a)
    (hsz : k.sz = P.cellsOf e) (ht : P.underlying t = some (.slice e)) (h : DataW.trod enc P w base spare held fuel t cs = some x) :
    ∃ (A : Option Addr) (c : Nat) (xs : List α), cs = [.slice A xs.length c] ∧ xs.length ≤ c ∧ c ≤ maxLen ∧ Kd.C k w A xs.length xs ∧ ∀ a ∈ xs, WF a := by
  rcases open_slice ht h with ⟨rfl, _⟩ | ⟨a, len, cap, m, n, D, Pl, rfl, hb, hl, hm, hmm, hx, hi⟩
  · exact ⟨none, 0, [], rfl, Nat.le_refl _, Nat.zero_le _, ⟨rfl, by simp, fun h => absurd h (by simp)⟩, fun a ha => by cases ha⟩
  · have hml : len ≤ m := by rw [hmm]; split <;> omega
    have key : ∀ i, i < len → ∃ z : α × List Value, k.K w z.1 z.2 ∧ WF z.1 ∧ z.2.length = k.sz ∧ ∀ j u, z.2[j]? = some u → w.cell? (a.add (i * k.sz + j)) = some u := by
      intro i hil
      obtain ⟨cs', hc, hd⟩ := hi i (by omega)
      obtain ⟨z, hz, hw⟩ := ho hd
      obtain ⟨_, hcl, hat⟩ := World.cells?_some hc
      refine ⟨(z, cs'), hz, hw, by rw [hcl, hsz], fun j u hj => ?_⟩
      have hjl : j < P.cellsOf e := by rw [← hcl]; exact (List.getElem?_eq_some_iff.1 hj).1
      rw [hsz, ← Go.Deep.add_add, hat j hjl]
      exact hj
    have hf : ∃ f : Nat → α × List Value, ∀ i, i < len → k.K w (f i).1 (f i).2 ∧ WF (f i).1 ∧ (f i).2.length = k.sz ∧ ∀ j u, (f i).2[j]? = some u → w.cell? (a.add (i * k.sz + j)) = some u :=
      ⟨fun i => if h : i < len then Classical.choose (key i h) else (default, []), fun i h => by simp only [dif_pos h]; exact Classical.choose_spec (key i h)⟩
    obtain ⟨f, hf⟩ := hf
    have hL : ((List.range len).map fun i => (f i).1).length = len := by simp
    refine ⟨some a, cap, (List.range len).map fun i => (f i).1, by rw [hL], by rw [hL]; exact hl, hm, ⟨rfl, by rw [hL]; unfold maxLen at hm; omega, fun _ => ⟨a, rfl, fun j p hj => ?_⟩⟩, fun z hz => ?_⟩
    · have hjl : j < len := by have := (List.getElem?_eq_some_iff.1 hj).1; rwa [hL] at this
      have hp : (f j).1 = p := by simpa [List.getElem?_range, hjl] using hj
      subst hp
      exact ⟨(f j).2, (hf j hjl).2.2.1, (hf j hjl).1, (hf j hjl).2.2.2⟩
    · obtain ⟨i, hi, rfl⟩ := List.mem_map.1 hz
      exact (hf i (List.mem_range.1 hi)).2.1
end

/-- A whole number's range, as a kind says it. -/
def inI64 (n : Int) : Prop := -9223372036854775808 ≤ n ∧ n ≤ 9223372036854775807
theorem wf_inI64 {n : Int} (h : (Lit.int .i64 n).wf = true) : inI64 n := by
  simp [Lit.wf, IntKind.min, IntKind.max, IntKind.signed, IntKind.bits] at h
  exact h
theorem wf_inI8 {n : Int} (h : (Lit.int .i8 n).wf = true) : inI64 n := by
  simp [Lit.wf, IntKind.min, IntKind.max, IntKind.signed, IntKind.bits] at h
  exact ⟨by omega, by omega⟩
instance : Inhabited S40 := ⟨z40⟩
theorem open_Total {H : Type} {enc : TypeId × Value → H} {w : World} {base : Nat} {spare : Nat → Bool} {held : Bool} {fuel : Nat} {cs : List Value} {x : DataW H × List MemPlace}
    (h : DataW.trod enc Tryd.prog w base spare held fuel 40 cs = some x) : ∃ s : S40, k40.K w s cs ∧ inI64 s.f0 ∧ inI64 s.f1 := by
  obtain ⟨xs, n, rfl, hx, hlen, hxl, hg⟩ := DataW.trod_struct Tryd.underlying40 h
  have hc : Tryd.prog.cellsOf 40 = 2 := by kernel_rfl
  have hi : Tryd.prog.cellsOf 2 = 1 := by kernel_rfl
  rw [hc] at hlen
  match cs, hlen, xs, hxl with
  | [c0, c1], _, [y0, y1], _ =>
    have g0 := hg 0 _ rfl
    have g1 := hg 1 _ rfl
    simp [hi] at g0 g1
    obtain ⟨a, ha, _, wa⟩ := DataW.trod_int Tryd.underlying2 g0
    obtain ⟨b, hb, _, wb⟩ := DataW.trod_int Tryd.underlying2 g1
    injection ha with ha; injection hb with hb
    subst ha hb
    exact ⟨⟨a, b⟩, k40_mk w ⟨a, b⟩, wf_inI64 wa, wf_inI64 wb⟩
instance : Inhabited S57 := ⟨z57⟩
theorem open_Act {H : Type} {enc : TypeId × Value → H} {w : World} {base : Nat} {spare : Nat → Bool} {held : Bool} {fuel : Nat} {cs : List Value} {x : DataW H × List MemPlace}
    (h : DataW.trod enc Tryd.prog w base spare held fuel 57 cs = some x) : ∃ s : S57, k57.K w s cs ∧ inI64 s.f0 ∧ inI64 s.f1 := by
  obtain ⟨xs, n, rfl, hx, hlen, hxl, hg⟩ := DataW.trod_struct Tryd.underlying57 h
  have hc : Tryd.prog.cellsOf 57 = 2 := by kernel_rfl
  have hi : Tryd.prog.cellsOf 2 = 1 := by kernel_rfl
  have hi8 : Tryd.prog.cellsOf 53 = 1 := by kernel_rfl
  rw [hc] at hlen
  match cs, hlen, xs, hxl with
  | [c0, c1], _, [y0, y1], _ =>
    have g0 := hg 0 _ rfl
    have g1 := hg 1 _ rfl
    simp [hi, hi8] at g0 g1
    obtain ⟨a, ha, _, wa⟩ := DataW.trod_int Tryd.underlying53 g0
    obtain ⟨b, hb, _, wb⟩ := DataW.trod_int Tryd.underlying2 g1
    injection ha with ha; injection hb with hb
    subst ha hb
    exact ⟨⟨a, b⟩, k57_mk w ⟨a, b⟩, wf_inI8 wa, wf_inI64 wb⟩
end Go.Proofs.YtiaihdfpbgnaoaaDoor.P
