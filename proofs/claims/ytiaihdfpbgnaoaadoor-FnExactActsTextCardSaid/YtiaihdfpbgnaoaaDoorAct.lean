/- What an act's validity and text are; slices.ContainsFunc over acts; actsFault. -/
import Derived.Test.YtiaihdfpbgnaoaaDoorTxt
import Derived.Test.YtiaihdfpbgnaoaaDoorLoops
import Derived.Test.YtiaihdfpbgnaoaaDoorPimplactsFault1
import Derived.Test.YtiaihdfpbgnaoaaDoorPspecl07Act
import Derived.WalkSpells
import Derived.Outline
import Derived.Shelf.Abstract
namespace Go.Proofs.YtiaihdfpbgnaoaaDoor.P
open Go.RowKit Go.Proofs.YtiaihdfpbgnaoaaDoorW.PrintWords Go.Proofs.YtiaihdfpbgnaoaaDoorW.PrintLast Go.Proofs.YtiaihdfpbgnaoaaDoorW.PrintMore
set_option linter.unusedVariables false
set_option linter.unusedSimpArgs false
abbrev Ac := S55
abbrev Az : Ac := z55

def okAct (a : Ac) : Bool :=
  decide ((a.f0 = 1 ∨ a.f0 = 2) ∧ 0 ≤ a.f1 ∧ a.f1 ≤ 1000000000000 ∨ a.f0 = 3 ∧ -1 ≤ a.f1 ∧ a.f1 ≤ 1000000000000 ∨ (a.f0 = 4 ∨ a.f0 = 5) ∧ a.f1 = 0)
theorem withinA (a b c : Int) : impl_within.f a b c = some (decide (b ≤ a ∧ a ≤ c)) := by
  unfold impl_within.f
  split
  · rename_i h; simp [h]
  · rename_i h; simp [h]
theorem l00InA (a b c : Int) : spec_l00In.f a b c = some (decide (b ≤ a ∧ a ≤ c)) := by
  unfold spec_l00In.f
  split
  · rename_i h; simp [show b ≤ a from h]
  · rename_i h; simp [show ¬ b ≤ a from h]
theorem impl_act (k : Nat) (a : Ac) : impl_ValidAct.f (k + 1) a.f0 a.f1 = some (okAct a) := by
  unfold impl_ValidAct.f okAct
  simp only [impl_ValidAct.j0, withinA, Option.bind_some]
  by_cases h1 : a.f0 = 1
  · simp [h1]
  · by_cases h2 : a.f0 = 2
    · simp [h2]
    · by_cases h3 : a.f0 = 3
      · simp [h3]
      · by_cases h4 : a.f0 = 4
        · simp [h4]; rw [Bool.eq_iff_iff]; simp
        · by_cases h5 : a.f0 = 5
          · simp [h5]; rw [Bool.eq_iff_iff]; simp
          · simp [h1, h2, h3, h4, h5]
theorem spec_act (k : Nat) (a : Ac) : spec_l07Act.f (k + 1) a.f0 a.f1 = some (okAct a) := by
  unfold spec_l07Act.f okAct
  simp only [spec_l07Act.j0, l00InA, Option.bind_some]
  by_cases h1 : a.f0 = 1
  · simp [h1]
  · by_cases h2 : a.f0 = 2
    · simp [h2]
    · by_cases h3 : a.f0 = 3
      · simp [h3]
      · by_cases h4 : a.f0 = 4
        · simp [h4]; rw [Bool.eq_iff_iff]; simp
        · by_cases h5 : a.f0 = 5
          · simp [h5]; rw [Bool.eq_iff_iff]; simp
          · simp [h1, h2, h3, h4, h5]
theorem fault_calls (a : Ac) (w : World) :
    Calls Tryd.prog 38 #[.agg #[.int .i8 a.f0, .int .i64 a.f1]] w fun e w' => e = .returned (.bool (!okAct a)) ∧ Below w.heap.size w w' :=
  impl_actsFault_1.calls 1 a.f0 a.f1 _ w (by unfold impl_actsFault_1.f; rw [impl_act]; rfl)

/-- Where the first act is that is not valid; the length if there is none. -/
def badFrom (l : List Ac) (k : Nat) : Int := if l.all okAct = true then -1 else k

set_option maxHeartbeats 1000000 in
set_option maxRecDepth 100000 in
theorem indexBad (A0 : Option Addr) (c0 : Nat) (l0 : List Ac) (w : World) (hr0 : Kd.C k55 w A0 l0.length l0) (hc0 : l0.length ≤ c0) (hn : l0.length ≤ 1048576) :
    Calls Tryd.prog 43 #[.slice A0 l0.length c0, .func (.func 38) #[] #[]] w fun e w' => (∃ n : Int, e = .returned (.int .i64 n) ∧ -1 ≤ n ∧ n ≤ 1048576 ∧ (n < 0 ↔ l0.all okAct = true)) ∧ Below w.heap.size w w' := by
  have HR := Aside0.mk hr0
  clear hr0
  have eg := enters_of Tryd.func38 (by kernel_rfl) rfl
  go_enter Tryd.func43, Tryd.ntmps43
  go_wp2_with fail

  go_loopw [8] (fun i wr => ∃ k : Nat, k ≤ l0.length ∧ i = .int .i64 k ∧ Aside0 ((l0.take k).all okAct = true) ∧ Aside0 (Below w.heap.size w wr)) (fun i _ => l0.length - (intOf i).toNat)
  case atStart => exact ⟨0, Nat.zero_le _, rfl, ⟨rfl⟩, ⟨Below.refl _ _⟩⟩
  case round =>
    obtain ⟨k, hk, rfl, HA, HB⟩ := hrel
    by_cases hlt : k < l0.length
    · obtain ⟨ad, e, hx0, hx1⟩ := at_T55 HR.out (k : Int) (by omega) (by omega)
      cases e
      rw [Int.toNat_natCast] at hx0 hx1
      have hrd : rd_T55 l0 k = l0[k] := by simp [rd_T55, List.getD_eq_getElem?_getD, List.getElem?_eq_getElem hlt]
      have hsn : (l0.take (k + 1)).all okAct = ((l0.take k).all okAct && okAct l0[k]) := by
        rw [List.take_succ_eq_append_getElem hlt, List.all_append]; simp
      have hmem : okAct l0[k] = false → ¬ l0.all okAct = true := fun h h' => by
        have := List.all_eq_true.1 h' _ (List.getElem_mem hlt)
        rw [h] at this; cases this
      rw [hrd] at hx0 hx1
      generalize l0[k] = T at hx0 hx1 hsn hmem
      clear hrd
      replace hx0 := (HB.out.cell (World.block_lt_of_cell? w _ hx0)).trans hx0
      replace hx1 := (HB.out.cell (World.block_lt_of_cell? w _ hx1)).trans hx1
      have HS := Aside0.mk hsn
      have HM := Aside0.mk hmem
      clear hsn hmem
      have hfc := fault_calls T
      cases hb : okAct T with
      | true =>
        rw [hb] at hfc HS
        have HF := Aside0.mk hfc
        clear hb hfc
        go_wp2_with (go_at_call 38; refine (HF.out _).mono ?_; rintro e w2 ⟨rfl, hb⟩; (have HB2 := Aside0.mk (below_step HB.out hb)); clear hb)
        go_roundw
        case rel => exact ⟨k + 1, by omega, by go_num, ⟨by rw [HS.out, HA.out]; rfl⟩, HB2⟩
        case measure => simp [intOf]; omega
      | false =>
        have hno := HM.out hb
        rw [hb] at hfc
        have HF := Aside0.mk hfc
        have HN := Aside0.mk hno
        clear hb hfc hno
        go_wp2_with (go_at_call 38; refine (HF.out _).mono ?_; rintro e w2 ⟨rfl, hb⟩; (have HB2 := Aside0.mk (below_step HB.out hb)); clear hb)
        go_ret
        exact ⟨⟨(k : Int), rfl, by omega, by omega, ⟨fun h => by omega, fun h => absurd h HN.out⟩⟩, HB2.out⟩
    · obtain rfl : k = l0.length := by omega
      go_wp2
      go_ret
      exact ⟨⟨-1, rfl, by omega, by omega, ⟨fun _ => by have := HA.out; rwa [List.take_length] at this, fun _ => by omega⟩⟩, HB.out⟩

set_option maxHeartbeats 1000000 in
theorem containsBad (A0 : Option Addr) (c0 : Nat) (l0 : List Ac) (w : World) (hr0 : Kd.C k55 w A0 l0.length l0) (hc0 : l0.length ≤ c0) (hn : l0.length ≤ 1048576) :
    Calls Tryd.prog 37 #[.slice A0 l0.length c0, .func (.func 38) #[] #[]] w fun e w' => e = .returned (.bool (!l0.all okAct)) ∧ Below w.heap.size w w' := by
  have HR := Aside0.mk hr0
  clear hr0
  go_enter Tryd.func37, Tryd.ntmps37
  go_wp2_with fail
  refine (indexBad A0 c0 l0 _ HR.out hc0 hn).mono ?_
  rintro e w' ⟨⟨n, rfl, h0, h1, hiff⟩, hb⟩
  have hq : decide (0 ≤ n) = !l0.all okAct := by
    by_cases h : n < 0
    · rw [hiff.1 h]; simp; omega
    · have : ¬ l0.all okAct = true := fun h' => h (hiff.2 h')
      simp only [Bool.not_eq_true] at this
      rw [this]; simp; omega
  have HQ := Aside0.mk hq
  have HB := Aside0.mk hb
  clear hq hb hiff
  go_wp2_with fail
  go_ret
  exact ⟨by rw [← HQ.out]; rfl, HB.out⟩

/-- What actsFault answers. -/
def actsFaultOf (l : List Ac) : Int := if l.all okAct = true then (if 60 < l.length then 3 else 0) else 1
set_option maxHeartbeats 1000000 in
theorem actsFault_calls (A0 : Option Addr) (c0 : Nat) (l0 : List Ac) (w : World) (hr0 : Kd.C k55 w A0 l0.length l0) (hc0 : l0.length ≤ c0) (hn : l0.length ≤ 1048576) :
    Calls Tryd.prog 26 #[.slice A0 l0.length c0] w fun e w' => e = .returned (.int .i64 (actsFaultOf l0)) ∧ Below w.heap.size w w' := by
  unfold actsFaultOf
  have hcon := containsBad A0 c0 l0 w hr0 hc0 hn
  clear hr0
  cases h : l0.all okAct with
  | false =>
    rw [h] at hcon
    have HC := Aside0.mk hcon
    clear hcon h
    go_enter Tryd.func26, Tryd.ntmps26
    go_wp2_with fail
    refine HC.out.mono ?_
    rintro e w' ⟨rfl, hb⟩
    have HB := Aside0.mk hb
    clear hb
    go_wp2_with fail
    go_ret
    exact ⟨rfl, HB.out⟩
  | true =>
    rw [h] at hcon
    have HC := Aside0.mk hcon
    clear hcon h
    by_cases h60 : 60 < l0.length
    all_goals
      go_enter Tryd.func26, Tryd.ntmps26
      go_wp2_with fail
      refine HC.out.mono ?_
      rintro e w' ⟨rfl, hb⟩
      have HB := Aside0.mk hb
      clear hb
      go_wp2_with fail
      go_ret
      exact ⟨by simp [h60], HB.out⟩
end Go.Proofs.YtiaihdfpbgnaoaaDoor.P
