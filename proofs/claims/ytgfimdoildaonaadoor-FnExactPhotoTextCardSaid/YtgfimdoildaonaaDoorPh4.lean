/- Joined texts, in the order in which they were built alone: PimplStackwheels, Pimplwithin, Pspecl00Min, Pspecl01Size, Pspecl01Ok, Stk, Pspecl01Digits, PspecValidDigits, VDg. -/
import Derived.Test.YtgfimdoildaonaaDoorPh0
import Derived.Test.YtgfimdoildaonaaDoorPh1
import Derived.Test.YtgfimdoildaonaaDoorPh3
import Derived.WalkSpells
import Derived.Outline
import Derived.Shelf.Abstract
-- Written by a program of this session (a turned form of the kit's print) out of the translation.
namespace Go.Proofs.YtgfimdoildaonaaDoor.P
open Go.RowKit Go.Proofs.YtgfimdoildaonaaDoorW.PrintWords Go.Proofs.YtgfimdoildaonaaDoorW.PrintLast Go.Proofs.YtgfimdoildaonaaDoorW.PrintMore
attribute [local go_sem] max2_int min2_int max_two min_two max_three min_three max_four min_four   -- for this text's walks alone
set_option linter.unusedVariables false
set_option linter.unusedSimpArgs false

/-! ### impl_Stack_wheels: function 54 -/
def impl_Stack_wheels.f (l0 : List Int) : Option (Int) := some (l0.length : Int)
set_option maxHeartbeats 8000000 in
set_option maxRecDepth 100000 in
theorem impl_Stack_wheels.calls (A0 : Option Addr) (c0 : Nat) (l0 : List Int) (r : Int) (w : World) (hr0 : Kd.C (Kd.int .u8) w A0 l0.length l0) (hc0 : l0.length ≤ c0) (h : impl_Stack_wheels.f l0 = some r) :
    Calls Tryd.prog 54 #[.slice A0 l0.length c0] w fun e w' => e = .returned (.int .i64 r) ∧ Drawn0 w w' := by
  have HR0 := Aside0.mk hr0
  have HC0 := Aside0.mk hc0
  clear hr0 hc0
  have H : (some (l0.length : Int)) = some r := h
  clear h
  obtain rfl := Option.some.inj H
  go_enter Tryd.func54, Tryd.ntmps54
  go_wp2
  go_ret
  exact ⟨by first | rfl | (simp; done) | (simp [*]; done), by repeat (first | exact Drawn0.refl _ | apply Drawn0.step)⟩

end Go.Proofs.YtgfimdoildaonaaDoor.P

-- Written by a program of this session (a turned form of the kit's print) out of the translation.
namespace Go.Proofs.YtgfimdoildaonaaDoor.P
open Go.RowKit Go.Proofs.YtgfimdoildaonaaDoorW.PrintWords Go.Proofs.YtgfimdoildaonaaDoorW.PrintLast Go.Proofs.YtgfimdoildaonaaDoorW.PrintMore
attribute [local go_sem] max2_int min2_int max_two min_two max_three min_three max_four min_four   -- for this text's walks alone
set_option linter.unusedVariables false
set_option linter.unusedSimpArgs false

/-! ### impl_within: function 53 -/
def impl_within.f (a0 : Int) (a1 : Int) (a2 : Int) : Option (Bool) := if a1 ≤ a0 then (some (decide (a0 ≤ a2))) else (some false)
set_option maxHeartbeats 8000000 in
set_option maxRecDepth 100000 in
theorem impl_within.calls (a0 : Int) (a1 : Int) (a2 : Int) (r : Bool) (w : World) (h : impl_within.f a0 a1 a2 = some r) :
    Calls Tryd.prog 53 #[.int .i64 a0, .int .i64 a1, .int .i64 a2] w fun e w' => e = .returned (.bool r) ∧ Drawn0 w w' := by
  have H : (if a1 ≤ a0 then (some (decide (a0 ≤ a2))) else (some false)) = some r := h
  clear h
  by_cases c4 : a1 ≤ a0
  · rw [if_pos c4] at H
    have c4b0 : decide (a1 ≤ a0) = true := decide_eq_true c4
    clear c4
    obtain rfl := Option.some.inj H
    go_enter Tryd.func53, Tryd.ntmps53
    go_wp2
    go_ret
    exact ⟨by first | rfl | (simp; done) | (simp [*]; done), by repeat (first | exact Drawn0.refl _ | apply Drawn0.step)⟩
  · rw [if_neg c4] at H
    have c4b0 : decide (a1 ≤ a0) = false := decide_eq_false c4
    clear c4
    obtain rfl := Option.some.inj H
    go_enter Tryd.func53, Tryd.ntmps53
    go_wp2
    go_ret
    exact ⟨by first | rfl | (simp; done) | (simp [*]; done), by repeat (first | exact Drawn0.refl _ | apply Drawn0.step)⟩

end Go.Proofs.YtgfimdoildaonaaDoor.P

-- Written by a program of this session (a turned form of the kit's print) out of the translation.
namespace Go.Proofs.YtgfimdoildaonaaDoor.P
open Go.RowKit Go.Proofs.YtgfimdoildaonaaDoorW.PrintWords Go.Proofs.YtgfimdoildaonaaDoorW.PrintLast Go.Proofs.YtgfimdoildaonaaDoorW.PrintMore
attribute [local go_sem] max2_int min2_int max_two min_two max_three min_three max_four min_four   -- for this text's walks alone
set_option linter.unusedVariables false
set_option linter.unusedSimpArgs false

/-! ### spec_l00Min: function 68 -/
def spec_l00Min.f (a0 : Int) (a1 : Int) : Option (Int) := if a0 < a1 then (some a0) else (some a1)
set_option maxHeartbeats 8000000 in
set_option maxRecDepth 100000 in
theorem spec_l00Min.calls (a0 : Int) (a1 : Int) (r : Int) (w : World) (h : spec_l00Min.f a0 a1 = some r) :
    Calls Tryd.prog 68 #[.int .i64 a0, .int .i64 a1] w fun e w' => e = .returned (.int .i64 r) ∧ Drawn0 w w' := by
  have H : (if a0 < a1 then (some a0) else (some a1)) = some r := h
  clear h
  by_cases c3 : a0 < a1
  · rw [if_pos c3] at H
    have c3b0 : decide (a0 < a1) = true := decide_eq_true c3
    clear c3
    obtain rfl := Option.some.inj H
    go_enter Tryd.func68, Tryd.ntmps68
    go_wp2
    go_ret
    exact ⟨by first | rfl | (simp; done) | (simp [*]; done), by repeat (first | exact Drawn0.refl _ | apply Drawn0.step)⟩
  · rw [if_neg c3] at H
    have c3b0 : decide (a0 < a1) = false := decide_eq_false c3
    clear c3
    obtain rfl := Option.some.inj H
    go_enter Tryd.func68, Tryd.ntmps68
    go_wp2
    go_ret
    exact ⟨by first | rfl | (simp; done) | (simp [*]; done), by repeat (first | exact Drawn0.refl _ | apply Drawn0.step)⟩

end Go.Proofs.YtgfimdoildaonaaDoor.P

-- Written by a program of this session (a turned form of the kit's print) out of the translation.
namespace Go.Proofs.YtgfimdoildaonaaDoor.P
open Go.RowKit Go.Proofs.YtgfimdoildaonaaDoorW.PrintWords Go.Proofs.YtgfimdoildaonaaDoorW.PrintLast Go.Proofs.YtgfimdoildaonaaDoorW.PrintMore
attribute [local go_sem] max2_int min2_int max_two min_two max_three min_three max_four min_four   -- for this text's walks alone
set_option linter.unusedVariables false
set_option linter.unusedSimpArgs false

/-! ### spec_l01Size: function 50 -/
def spec_l01Size.l0 : Nat → List Int → Int → Int → Option (Int)
  | 0, _, _, _ => none
  | k + 1, x0, x3, x4 => if x4 < (x0.length : Int) then (if 0 ≤ x4 then ((spec_l00Min.f (wrap64 (x3 * (wrap64 (rd x0 x4)))) 1000000000001).bind fun t102 => (spec_l01Size.l0 k x0 t102 (wrap64 (x4 + 1)))) else (none)) else (some x3)
def spec_l01Size.f (k : Nat) (l0 : List Int) : Option (Int) := spec_l01Size.l0 k l0 1 0
theorem spec_l01Size.mono_l : ∀ k, (∀ y0 y1 y2, LeO (spec_l01Size.l0 k y0 y1 y2) (spec_l01Size.l0 (k + 1) y0 y1 y2))
  | 0 => fun _ _ _ r h => by simp [spec_l01Size.l0] at h
  | k + 1 => by
    have ih0 := spec_l01Size.mono_l k
    · intro y0 y1 y2
      unfold spec_l01Size.l0
      repeat' first
      | (with_reducible exact ih0 _ _ _)
      | (with_reducible exact LeO.refl _)
      | (with_reducible exact LeO.none _)
      | (with_reducible refine LeO.ite ?_ ?_)
      | (with_reducible refine LeO.bind ?_ (fun _ => ?_))
      | exact ih0 _ _ _
      | exact LeO.none _
      | refine LeO.ite ?_ ?_
      | refine LeO.bind ?_ (fun _ => ?_)
theorem spec_l01Size.mono : ∀ a0 k, LeO (spec_l01Size.f k a0) (spec_l01Size.f (k + 1) a0) := by
  intro a0 k
  have ih0 := spec_l01Size.mono_l k
  unfold spec_l01Size.f
  repeat' first
      | (with_reducible exact ih0 _ _ _)
      | (with_reducible exact LeO.refl _)
      | (with_reducible exact LeO.none _)
      | (with_reducible refine LeO.ite ?_ ?_)
      | (with_reducible refine LeO.bind ?_ (fun _ => ?_))
      | exact ih0 _ _ _
      | exact LeO.none _
      | refine LeO.ite ?_ ?_
      | refine LeO.bind ?_ (fun _ => ?_)
set_option maxHeartbeats 8000000 in
set_option maxRecDepth 100000 in
theorem spec_l01Size.calls (k : Nat) (A0 : Option Addr) (c0 : Nat) (l0 : List Int) (r : Int) (w : World) (hr0 : Kd.C (Kd.int .u8) w A0 l0.length l0) (hc0 : l0.length ≤ c0) (h : spec_l01Size.f k l0 = some r) :
    Calls Tryd.prog 50 #[.slice A0 l0.length c0] w fun e w' => e = .returned (.int .i64 r) ∧ Drawn0 w w' := by
  have HR0 := Aside0.mk hr0
  have HC0 := Aside0.mk hc0
  clear hr0 hc0
  have H : (spec_l01Size.l0 k l0 1 0) = some r := h
  clear h
  have H' := Aside0.mk H
  clear H
  go_enter Tryd.func50, Tryd.ntmps50
  go_wp2
  go_loopg [3, 4] k (fun kq v3 v4 w' => ∃ (x3_1 : Int) (x4_1 : Int), v3 = .int .i64 x3_1 ∧ v4 = .int .i64 x4_1 ∧ Aside0 (spec_l01Size.l0 kq l0 x3_1 x4_1 = some r) ∧ Aside0 (kq ≤ k) ∧ Drawn0 w w')
  case atStart => exact ⟨(1), (0), (by first | rfl | (simp; done) | (simp [*]; done)), (by first | rfl | (simp; done) | (simp [*]; done)), H', ⟨Nat.le_refl _⟩, by repeat (first | exact Drawn0.refl _ | apply Drawn0.step)⟩
  case round =>
    clear H'
    obtain ⟨x3_1, x4_1, rfl, rfl, HA, HK1, ⟨m1, rfl⟩⟩ := hrel
    cases gk with
    | zero => exact absurd HA.out (by simp [spec_l01Size.l0])
    | succ k1 =>
      have H := HA.out
      clear HA
      simp only [spec_l01Size.l0] at H
      by_cases c2 : x4_1 < (l0.length : Int)
      · rw [if_pos c2] at H
        have c2b0 : decide (x4_1 < (l0.length : Int)) = true := decide_eq_true c2
        clear c2
        by_cases c3 : 0 ≤ x4_1
        · rw [if_pos c3] at H
          have c3b0 : decide (0 ≤ x4_1) = true := decide_eq_true c3
          clear c3
          replace H := Option.bind_eq_some_iff.mp H
          obtain ⟨t102, A40, H⟩ := H
          replace H : (spec_l01Size.l0 k1 l0 t102 (wrap64 (x4_1 + 1))) = some r := H
          have A4 := Aside0.mk A40
          clear A40
          have H' := Aside0.mk H
          clear H
          have p101 : 0 ≤ (x4_1 : Int) := of_decide_eq_true (by first | (with_reducible assumption) | assumption)
          have q101 : x4_1 < (l0.length : Int) := of_decide_eq_true (by first | (with_reducible assumption) | assumption)
          obtain ⟨ad101, e101, hx101_0⟩ := Kd.at_int HR0.out x4_1 p101 q101
          cases e101
          replace p101 := eq_true p101
          replace q101 := eq_true q101
          go_wp2_with (first | ((with_reducible refine gate_callee (f := 68) rfl ?_); refine goesL_ (some 18) rfl rfl Tryd.func68 (by kernel_rfl) rfl #[.int .i64 (wrap64 (x3_1 * (wrap64 (rd l0 x4_1)))), .int .i64 1000000000001] rfl (by (try simp only [List.map_toArray, List.map_cons, List.map_nil]); first | done | rfl | (simp only [List.length_drop, List.length_take]; rfl)) ?_; (with_reducible refine (spec_l00Min.calls (wrap64 (x3_1 * (wrap64 (rd l0 x4_1)))) 1000000000001 t102 _ A4.out).mono ?_); rintro e w' ⟨rfl, ⟨nd, rfl⟩⟩; refine ⟨_, rfl, ?_⟩))
          go_roundg k1
          case measure => have := HK1.out; omega
          case rel => exact ⟨(t102), (wrap64 (x4_1 + 1)), (by first | rfl | (simp; done) | (simp [*]; done)), (by first | rfl | (simp; done) | (simp [*]; done)), H', ⟨by have := HK1.out; omega⟩, by repeat (first | exact Drawn0.refl _ | apply Drawn0.step)⟩
        · rw [if_neg c3] at H
          exact absurd H (by simp)
      · rw [if_neg c2] at H
        have c2b0 : decide (x4_1 < (l0.length : Int)) = false := decide_eq_false c2
        clear c2
        obtain rfl := Option.some.inj H
        go_wp2
        go_ret
        exact ⟨by first | rfl | (simp; done) | (simp [*]; done), by repeat (first | exact Drawn0.refl _ | apply Drawn0.step)⟩

end Go.Proofs.YtgfimdoildaonaaDoor.P

-- Written by a program of this session (a turned form of the kit's print) out of the translation.
namespace Go.Proofs.YtgfimdoildaonaaDoor.P
open Go.RowKit Go.Proofs.YtgfimdoildaonaaDoorW.PrintWords Go.Proofs.YtgfimdoildaonaaDoorW.PrintLast Go.Proofs.YtgfimdoildaonaaDoorW.PrintMore
attribute [local go_sem] max2_int min2_int max_two min_two max_three min_three max_four min_four   -- for this text's walks alone
set_option linter.unusedVariables false
set_option linter.unusedSimpArgs false

/-! ### spec_l01Ok: function 30 -/
def spec_l01Ok.l0 : Nat → List Int → Int → Option (Bool)
  | 0, _, _ => none
  | k + 1, x0, x3 => if x3 < (x0.length : Int) then (if 0 ≤ x3 then (if (rd x0 x3) < 2 then (some false) else (if (rd x0 x3) > 100 then (some false) else (spec_l01Ok.l0 k x0 (wrap64 (x3 + 1))))) else (none)) else ((spec_l01Size.f k x0).bind fun t106 => (some (decide (t106 ≤ 1000000000000))))
def spec_l01Ok.f (k : Nat) (l0 : List Int) : Option (Bool) := (spec_l00In.f (l0.length : Int) 1 8).bind fun t103 => (if t103 = true then (spec_l01Ok.l0 k l0 0) else (some false))
theorem spec_l01Ok.mono_l : ∀ k, (∀ y0 y1, LeO (spec_l01Ok.l0 k y0 y1) (spec_l01Ok.l0 (k + 1) y0 y1))
  | 0 => fun _ _ r h => by simp [spec_l01Ok.l0] at h
  | k + 1 => by
    have ih0 := spec_l01Ok.mono_l k
    · intro y0 y1
      unfold spec_l01Ok.l0
      repeat' first
      | (with_reducible exact ih0 _ _)
      | (with_reducible exact spec_l01Size.mono _ _)
      | (with_reducible exact LeO.refl _)
      | (with_reducible exact LeO.none _)
      | (with_reducible refine LeO.ite ?_ ?_)
      | (with_reducible refine LeO.bind ?_ (fun _ => ?_))
      | exact ih0 _ _
      | exact spec_l01Size.mono _ _
      | exact LeO.none _
      | refine LeO.ite ?_ ?_
      | refine LeO.bind ?_ (fun _ => ?_)
theorem spec_l01Ok.mono : ∀ a0 k, LeO (spec_l01Ok.f k a0) (spec_l01Ok.f (k + 1) a0) := by
  intro a0 k
  have ih0 := spec_l01Ok.mono_l k
  unfold spec_l01Ok.f
  repeat' first
      | (with_reducible exact ih0 _ _)
      | (with_reducible exact spec_l01Size.mono _ _)
      | (with_reducible exact LeO.refl _)
      | (with_reducible exact LeO.none _)
      | (with_reducible refine LeO.ite ?_ ?_)
      | (with_reducible refine LeO.bind ?_ (fun _ => ?_))
      | exact ih0 _ _
      | exact spec_l01Size.mono _ _
      | exact LeO.none _
      | refine LeO.ite ?_ ?_
      | refine LeO.bind ?_ (fun _ => ?_)
set_option maxHeartbeats 8000000 in
set_option maxRecDepth 100000 in
theorem spec_l01Ok.calls (k : Nat) (A0 : Option Addr) (c0 : Nat) (l0 : List Int) (r : Bool) (w : World) (hr0 : Kd.C (Kd.int .u8) w A0 l0.length l0) (hc0 : l0.length ≤ c0) (h : spec_l01Ok.f k l0 = some r) :
    Calls Tryd.prog 30 #[.slice A0 l0.length c0] w fun e w' => e = .returned (.bool r) ∧ Drawn0 w w' := by
  have HR0 := Aside0.mk hr0
  have HC0 := Aside0.mk hc0
  clear hr0 hc0
  have H : ((spec_l00In.f (l0.length : Int) 1 8).bind fun t103 => (if t103 = true then (spec_l01Ok.l0 k l0 0) else (some false))) = some r := h
  clear h
  replace H := Option.bind_eq_some_iff.mp H
  obtain ⟨t103, A20, H⟩ := H
  replace H : (if t103 = true then (spec_l01Ok.l0 k l0 0) else (some false)) = some r := H
  have A2 := Aside0.mk A20
  clear A20
  by_cases c3 : t103 = true
  · subst c3
    have H1 : (spec_l01Ok.l0 k l0 0) = some r := by rw [if_pos rfl] at H; exact H
    clear H
    have H := H1
    clear H1
    have H' := Aside0.mk H
    clear H
    go_enter Tryd.func30, Tryd.ntmps30
    go_wp2_with (first | ((with_reducible refine gate_callee (f := 49) rfl ?_); refine goesL_ (some 6) rfl rfl Tryd.func49 (by kernel_rfl) rfl #[.int .i64 (l0.length : Int), .int .i64 1, .int .i64 8] rfl (by (try simp only [List.map_toArray, List.map_cons, List.map_nil]); first | done | rfl | (simp only [List.length_drop, List.length_take]; rfl)) ?_; (with_reducible refine (spec_l00In.calls (l0.length : Int) 1 8 true _ A2.out).mono ?_); rintro e w' ⟨rfl, ⟨nd, rfl⟩⟩; refine ⟨_, rfl, ?_⟩))
    go_loopg [3] k (fun kq v3 w' => ∃ (x3_1 : Int), v3 = .int .i64 x3_1 ∧ Aside0 (spec_l01Ok.l0 kq l0 x3_1 = some r) ∧ Aside0 (kq ≤ k) ∧ Drawn0 w w')
    case atStart => exact ⟨(0), (by first | rfl | (simp; done) | (simp [*]; done)), H', ⟨Nat.le_refl _⟩, by repeat (first | exact Drawn0.refl _ | apply Drawn0.step)⟩
    case round =>
      clear H'
      try clear p2
      try clear c3
      obtain ⟨x3_1, rfl, HA, HK1, ⟨m1, rfl⟩⟩ := hrel
      cases gk with
      | zero => exact absurd HA.out (by simp [spec_l01Ok.l0])
      | succ k1 =>
        have H := HA.out
        clear HA
        simp only [spec_l01Ok.l0] at H
        by_cases c4 : x3_1 < (l0.length : Int)
        · rw [if_pos c4] at H
          have c4b0 : decide (x3_1 < (l0.length : Int)) = true := decide_eq_true c4
          clear c4
          by_cases c5 : 0 ≤ x3_1
          · rw [if_pos c5] at H
            have c5b0 : decide (0 ≤ x3_1) = true := decide_eq_true c5
            clear c5
            by_cases c6 : (rd l0 x3_1) < 2
            · rw [if_pos c6] at H
              have c6b0 : decide ((rd l0 x3_1) < 2) = true := decide_eq_true c6
              clear c6
              obtain rfl := Option.some.inj H
              have p104 : 0 ≤ (x3_1 : Int) := of_decide_eq_true (by first | (with_reducible assumption) | assumption)
              have q104 : x3_1 < (l0.length : Int) := of_decide_eq_true (by first | (with_reducible assumption) | assumption)
              obtain ⟨ad104, e104, hx104_0⟩ := Kd.at_int HR0.out x3_1 p104 q104
              cases e104
              replace p104 := eq_true p104
              replace q104 := eq_true q104
              go_wp2
              go_ret
              exact ⟨by first | rfl | (simp; done) | (simp [*]; done), by repeat (first | exact Drawn0.refl _ | apply Drawn0.step)⟩
            · rw [if_neg c6] at H
              have c6b0 : decide ((rd l0 x3_1) < 2) = false := decide_eq_false c6
              clear c6
              by_cases c7 : (rd l0 x3_1) > 100
              · rw [if_pos c7] at H
                have c7b0 : decide (100 < (rd l0 x3_1)) = true := decide_eq_true c7
                clear c7
                obtain rfl := Option.some.inj H
                have p104 : 0 ≤ (x3_1 : Int) := of_decide_eq_true (by first | (with_reducible assumption) | assumption)
                have q104 : x3_1 < (l0.length : Int) := of_decide_eq_true (by first | (with_reducible assumption) | assumption)
                obtain ⟨ad104, e104, hx104_0⟩ := Kd.at_int HR0.out x3_1 p104 q104
                cases e104
                replace p104 := eq_true p104
                replace q104 := eq_true q104
                have p105 : 0 ≤ (x3_1 : Int) := of_decide_eq_true (by first | (with_reducible assumption) | assumption)
                have q105 : x3_1 < (l0.length : Int) := of_decide_eq_true (by first | (with_reducible assumption) | assumption)
                obtain ⟨ad105, e105, hx105_0⟩ := Kd.at_int HR0.out x3_1 p105 q105
                obtain rfl : ad104 = ad105 := (by injection e105)
                replace p105 := eq_true p105
                replace q105 := eq_true q105
                go_wp2
                go_ret
                exact ⟨by first | rfl | (simp; done) | (simp [*]; done), by repeat (first | exact Drawn0.refl _ | apply Drawn0.step)⟩
              · rw [if_neg c7] at H
                have c7b0 : decide (100 < (rd l0 x3_1)) = false := decide_eq_false c7
                clear c7
                have H' := Aside0.mk H
                clear H
                have p104 : 0 ≤ (x3_1 : Int) := of_decide_eq_true (by first | (with_reducible assumption) | assumption)
                have q104 : x3_1 < (l0.length : Int) := of_decide_eq_true (by first | (with_reducible assumption) | assumption)
                obtain ⟨ad104, e104, hx104_0⟩ := Kd.at_int HR0.out x3_1 p104 q104
                cases e104
                replace p104 := eq_true p104
                replace q104 := eq_true q104
                have p105 : 0 ≤ (x3_1 : Int) := of_decide_eq_true (by first | (with_reducible assumption) | assumption)
                have q105 : x3_1 < (l0.length : Int) := of_decide_eq_true (by first | (with_reducible assumption) | assumption)
                obtain ⟨ad105, e105, hx105_0⟩ := Kd.at_int HR0.out x3_1 p105 q105
                obtain rfl : ad104 = ad105 := (by injection e105)
                replace p105 := eq_true p105
                replace q105 := eq_true q105
                go_wp2
                go_roundg k1
                case measure => have := HK1.out; omega
                case rel => exact ⟨(wrap64 (x3_1 + 1)), (by first | rfl | (simp; done) | (simp [*]; done)), H', ⟨by have := HK1.out; omega⟩, by repeat (first | exact Drawn0.refl _ | apply Drawn0.step)⟩
          · rw [if_neg c5] at H
            exact absurd H (by simp)
        · rw [if_neg c4] at H
          have c4b0 : decide (x3_1 < (l0.length : Int)) = false := decide_eq_false c4
          clear c4
          replace H := Option.bind_eq_some_iff.mp H
          obtain ⟨t106, A80, H⟩ := H
          replace H : (some (decide (t106 ≤ 1000000000000))) = some r := H
          have A8 := Aside0.mk A80
          clear A80
          obtain rfl := Option.some.inj H
          go_wp2_with (first | ((with_reducible refine gate_callee (f := 50) rfl ?_); refine goesL_ (some 27) rfl rfl Tryd.func50 (by kernel_rfl) rfl #[.slice A0 l0.length c0] rfl (by (try simp only [List.map_toArray, List.map_cons, List.map_nil]); first | done | rfl | (simp only [List.length_drop, List.length_take]; rfl)) ?_; (with_reducible refine (spec_l01Size.calls k1 _ _ l0 t106 _ ?side1 ?side2 A8.out).mono ?_); (case side1 => repeat (first | exact HR0.out | (with_reducible refine Kd.C_alloc ?_ _) | (with_reducible refine Kd.C_drewN ?_ _) | (with_reducible refine Kd.C_drew ?_))); (case side2 => exact HC0.out); rintro e w' ⟨rfl, ⟨nd, rfl⟩⟩; refine ⟨_, rfl, ?_⟩))
          go_ret
          exact ⟨by first | rfl | (simp; done) | (simp [*]; done), by repeat (first | exact Drawn0.refl _ | apply Drawn0.step)⟩
  · replace c3 := Bool.eq_false_iff.mpr c3
    subst c3
    have H1 : (some false) = some r := by rw [if_neg (show ¬ (false = true) by decide)] at H; exact H
    clear H
    have H := H1
    clear H1
    obtain rfl := Option.some.inj H
    go_enter Tryd.func30, Tryd.ntmps30
    go_wp2_with (first | ((with_reducible refine gate_callee (f := 49) rfl ?_); refine goesL_ (some 6) rfl rfl Tryd.func49 (by kernel_rfl) rfl #[.int .i64 (l0.length : Int), .int .i64 1, .int .i64 8] rfl (by (try simp only [List.map_toArray, List.map_cons, List.map_nil]); first | done | rfl | (simp only [List.length_drop, List.length_take]; rfl)) ?_; (with_reducible refine (spec_l00In.calls (l0.length : Int) 1 8 false _ A2.out).mono ?_); rintro e w' ⟨rfl, ⟨nd, rfl⟩⟩; refine ⟨_, rfl, ?_⟩))
    go_ret
    exact ⟨by first | rfl | (simp; done) | (simp [*]; done), by repeat (first | exact Drawn0.refl _ | apply Drawn0.step)⟩

end Go.Proofs.YtgfimdoildaonaaDoor.P

/- Whether a stack is valid: the program's ValidStack (with slices.ContainsFunc) and the reference's l01Ok. -/
namespace Go.Proofs.YtgfimdoildaonaaDoor.P
open Go.RowKit Go.Proofs.YtgfimdoildaonaaDoorW.PrintWords Go.Proofs.YtgfimdoildaonaaDoorW.PrintLast Go.Proofs.YtgfimdoildaonaaDoorW.PrintMore
set_option linter.unusedVariables false
set_option linter.unusedSimpArgs false
def okBase (b : Int) : Bool := decide (2 ≤ b ∧ b ≤ 100)
def sizeFrom (o : Int) : List Int → Int
  | [] => o
  | b :: r => sizeFrom (mn (wrap64 (o * wrap64 b)) 1000000000001) r
def stSize (s : List Int) : Int := sizeFrom 1 s
def okStk (s : List Int) : Bool := decide (1 ≤ s.length ∧ s.length ≤ 8) && (s.all okBase && decide (stSize s ≤ 1000000000000))
theorem withinS (a b c : Int) : impl_within.f a b c = some (decide (b ≤ a ∧ a ≤ c)) := by
  unfold impl_within.f
  split
  · rename_i h; simp [h]
  · rename_i h; simp [h]
theorem l00InS (a b c : Int) : spec_l00In.f a b c = some (decide (b ≤ a ∧ a ≤ c)) := by
  unfold spec_l00In.f
  split
  · rename_i h; simp [show b ≤ a from h]
  · rename_i h; simp [show ¬ b ≤ a from h]
theorem minS (a b : Int) : spec_l00Min.f a b = some (mn a b) := by
  unfold spec_l00Min.f mn
  repeat' split
  all_goals first | rfl | (congr 1; omega)
theorem rd_drop (s : List Int) (i : Nat) (h : i < s.length) : s.drop i = rd s i :: s.drop (i + 1) := by
  rw [List.drop_eq_getElem_cons h]
  congr 1
  simp [rd, List.getD_eq_getElem?_getD, List.getElem?_eq_getElem h]
theorem size_loop (s : List Int) (hs : s.length ≤ 1048576) : ∀ (d i k : Nat) (o : Int), s.length - i = d → i ≤ s.length → d < k → impl_Stack_size.l0 k o s (s.length : Int) (i : Int) = some (sizeFrom o (s.drop i)) := by
  intro d
  induction d with
  | zero =>
    intro i k o h1 h2 h3
    obtain ⟨k, rfl⟩ : ∃ m, k = m + 1 := ⟨k - 1, by omega⟩
    obtain rfl : i = s.length := by omega
    simp only [impl_Stack_size.l0]
    rw [if_neg (by omega), List.drop_length]; rfl
  | succ d ih =>
    intro i k o h1 h2 h3
    obtain ⟨k, rfl⟩ : ∃ m, k = m + 1 := ⟨k - 1, by omega⟩
    simp only [impl_Stack_size.l0]
    rw [if_pos (by omega), if_pos (by omega), if_pos (by omega), rd_drop s i (by omega), show wrap64 ((i : Int) + 1) = ((i + 1 : Nat) : Int) by unfold wrap64; omega]
    exact ih (i + 1) k _ (by omega) (by omega) (by omega)
theorem size_eq (k : Nat) (s : List Int) (hs : s.length ≤ 1048576) (hk : s.length < k) : impl_Stack_size.f k s = some (stSize s) :=
  size_loop s hs s.length 0 k 1 rfl (by omega) hk
theorem specSize_loop (s : List Int) (hs : s.length ≤ 1048576) : ∀ (d i k : Nat) (o : Int), s.length - i = d → i ≤ s.length → d < k → spec_l01Size.l0 k s o (i : Int) = some (sizeFrom o (s.drop i)) := by
  intro d
  induction d with
  | zero =>
    intro i k o h1 h2 h3
    obtain ⟨k, rfl⟩ : ∃ m, k = m + 1 := ⟨k - 1, by omega⟩
    obtain rfl : i = s.length := by omega
    simp only [spec_l01Size.l0]
    rw [if_neg (by omega), List.drop_length]; rfl
  | succ d ih =>
    intro i k o h1 h2 h3
    obtain ⟨k, rfl⟩ : ∃ m, k = m + 1 := ⟨k - 1, by omega⟩
    simp only [spec_l01Size.l0]
    rw [if_pos (by omega), if_pos (by omega), minS, Option.bind_some, rd_drop s i (by omega), show wrap64 ((i : Int) + 1) = ((i + 1 : Nat) : Int) by unfold wrap64; omega]
    exact ih (i + 1) k _ (by omega) (by omega) (by omega)
theorem specSize_eq (k : Nat) (s : List Int) (hs : s.length ≤ 1048576) (hk : s.length < k) : spec_l01Size.f k s = some (stSize s) :=
  specSize_loop s hs s.length 0 k 1 rfl (by omega) hk
theorem specOk_loop (s : List Int) (hs : s.length ≤ 1048576) : ∀ (d i k : Nat), s.length - i = d → i ≤ s.length → d + s.length + 1 < k →
    spec_l01Ok.l0 k s (i : Int) = some ((s.drop i).all okBase && decide (stSize s ≤ 1000000000000)) := by
  intro d
  induction d with
  | zero =>
    intro i k h1 h2 h3
    obtain ⟨k, rfl⟩ : ∃ m, k = m + 1 := ⟨k - 1, by omega⟩
    obtain rfl : i = s.length := by omega
    simp only [spec_l01Ok.l0]
    rw [if_neg (by omega), List.drop_length, specSize_eq k s hs (by omega)]
    rfl
  | succ d ih =>
    intro i k h1 h2 h3
    obtain ⟨k, rfl⟩ : ∃ m, k = m + 1 := ⟨k - 1, by omega⟩
    simp only [spec_l01Ok.l0]
    rw [if_pos (by omega), if_pos (by omega), rd_drop s i (by omega), List.all_cons]
    by_cases h : rd s i < 2
    · rw [if_pos h, show okBase (rd s i) = false by unfold okBase; simp; omega]; rfl
    · rw [if_neg h]
      by_cases h' : rd s i > 100
      · rw [if_pos h', show okBase (rd s i) = false by unfold okBase; simp; omega]; rfl
      · rw [if_neg h', show okBase (rd s i) = true by unfold okBase; simp; omega, show wrap64 ((i : Int) + 1) = ((i + 1 : Nat) : Int) by unfold wrap64; omega, Bool.true_and]
        exact ih (i + 1) k (by omega) (by omega) (by omega)
theorem specOk_eq (k : Nat) (s : List Int) (hs : s.length ≤ 1048576) (hk : 2 * s.length + 1 < k) : spec_l01Ok.f k s = some (okStk s) := by
  unfold spec_l01Ok.f okStk
  rw [l00InS, Option.bind_some]
  by_cases h : 1 ≤ s.length ∧ s.length ≤ 8
  · rw [show decide ((1 : Int) ≤ (s.length : Int) ∧ (s.length : Int) ≤ 8) = true from decide_eq_true (by omega), if_pos rfl, decide_eq_true h, Bool.true_and]
    exact specOk_loop s hs s.length 0 k rfl (by omega) (by omega)
  · rw [show decide ((1 : Int) ≤ (s.length : Int) ∧ (s.length : Int) ≤ 8) = false from decide_eq_false (by omega), if_neg (by simp), decide_eq_false h]; rfl

theorem vs1_calls (b : Int) (w : World) :
    Calls Tryd.prog 56 #[.int .u8 b] w fun e w' => e = .returned (.bool (!okBase b)) ∧ Below w.heap.size w w' := by
  refine (impl_ValidStack_1.calls b (!okBase b) w ?_).mono ?_
  · unfold impl_ValidStack_1.f okBase
    split
    · rename_i h; simp; omega
    · rename_i h; congr 1; rw [Bool.eq_iff_iff]; simp; omega
  · rintro e w' ⟨rfl, hd⟩
    exact ⟨rfl, by first | exact hd | exact hd.below | (obtain ⟨n, rfl⟩ := hd; exact pw_below_drewN (Below.refl _ _) n)⟩
set_option maxHeartbeats 1000000 in
set_option maxRecDepth 100000 in
theorem indexBase (A0 : Option Addr) (c0 : Nat) (l0 : List Int) (w : World) (hr0 : Kd.C (Kd.int .u8) w A0 l0.length l0) (hc0 : l0.length ≤ c0) (hn : l0.length ≤ 1048576) :
    Calls Tryd.prog 69 #[.slice A0 l0.length c0, .func (.func 56) #[] #[]] w fun e w' => (∃ n : Int, e = .returned (.int .i64 n) ∧ -1 ≤ n ∧ n ≤ 1048576 ∧ (n < 0 ↔ l0.all okBase = true)) ∧ Below w.heap.size w w' := by
  have HR := Aside0.mk hr0
  clear hr0
  have eg := enters_of Tryd.func56 (by kernel_rfl) rfl
  go_enter Tryd.func69, Tryd.ntmps69
  go_wp2_with fail
  go_loopw [8] (fun i wr => ∃ k : Nat, k ≤ l0.length ∧ i = .int .i64 k ∧ Aside0 ((l0.take k).all okBase = true) ∧ Aside0 (Below w.heap.size w wr)) (fun i _ => l0.length - (intOf i).toNat)
  case atStart => exact ⟨0, Nat.zero_le _, rfl, ⟨rfl⟩, ⟨Below.refl _ _⟩⟩
  case round =>
    obtain ⟨k, hk, rfl, HA, HB⟩ := hrel
    by_cases hlt : k < l0.length
    · obtain ⟨ad, e, hx0⟩ := Kd.at_int HR.out (k : Int) (by omega) (by omega)
      cases e
      rw [Int.toNat_natCast] at hx0
      have hrd : rd l0 k = l0[k] := by simp [rd, List.getD_eq_getElem?_getD, List.getElem?_eq_getElem hlt]
      have hsn : (l0.take (k + 1)).all okBase = ((l0.take k).all okBase && okBase l0[k]) := by
        rw [List.take_succ_eq_append_getElem hlt, List.all_append]; simp
      have hmem : okBase l0[k] = false → ¬ l0.all okBase = true := fun h h' => by
        have := List.all_eq_true.1 h' _ (List.getElem_mem hlt)
        rw [h] at this; cases this
      rw [hrd] at hx0
      generalize l0[k] = T at hx0 hsn hmem
      clear hrd
      replace hx0 := (HB.out.cell (World.block_lt_of_cell? w _ hx0)).trans hx0
      have HS := Aside0.mk hsn
      have HM := Aside0.mk hmem
      clear hsn hmem
      have hfc := vs1_calls T
      cases hb : okBase T with
      | true =>
        rw [hb] at hfc HS
        have HF := Aside0.mk hfc
        clear hb hfc
        go_wp2_with (go_at_call 56; refine (HF.out _).mono ?_; rintro e w2 ⟨rfl, hb⟩; (have HB2 := Aside0.mk (below_step HB.out hb)); clear hb)
        first
          | (go_roundw
             case rel => exact ⟨k + 1, by omega, by go_num, ⟨by rw [HS.out, HA.out]; rfl⟩, HB2⟩
             case measure => simp [intOf]; omega)
          | exact ⟨⟨k + 1, by omega, by go_num, ⟨by rw [HS.out, HA.out]; rfl⟩, HB2⟩, by simp [intOf]; try omega⟩
      | false =>
        have hno := HM.out hb
        rw [hb] at hfc
        have HF := Aside0.mk hfc
        have HN := Aside0.mk hno
        clear hb hfc hno
        go_wp2_with (go_at_call 56; refine (HF.out _).mono ?_; rintro e w2 ⟨rfl, hb⟩; (have HB2 := Aside0.mk (below_step HB.out hb)); clear hb)
        go_ret
        exact ⟨⟨(k : Int), rfl, by omega, by omega, ⟨fun h => by omega, fun h => absurd h HN.out⟩⟩, HB2.out⟩
    · obtain rfl : k = l0.length := by omega
      go_wp2
      go_ret
      exact ⟨⟨-1, rfl, by omega, by omega, ⟨fun _ => by have := HA.out; rwa [List.take_length] at this, fun _ => by omega⟩⟩, HB.out⟩

set_option maxHeartbeats 1000000 in
theorem containsBase (A0 : Option Addr) (c0 : Nat) (l0 : List Int) (w : World) (hr0 : Kd.C (Kd.int .u8) w A0 l0.length l0) (hc0 : l0.length ≤ c0) (hn : l0.length ≤ 1048576) :
    Calls Tryd.prog 55 #[.slice A0 l0.length c0, .func (.func 56) #[] #[]] w fun e w' => e = .returned (.bool (!l0.all okBase)) ∧ Below w.heap.size w w' := by
  have HR := Aside0.mk hr0
  clear hr0
  go_enter Tryd.func55, Tryd.ntmps55
  go_wp2_with fail
  refine (indexBase A0 c0 l0 _ HR.out hc0 hn).mono ?_
  rintro e w' ⟨⟨n, rfl, h0, h1, hiff⟩, hb⟩
  have hq : decide (0 ≤ n) = !l0.all okBase := by
    by_cases h : n < 0
    · rw [hiff.1 h]; simp; omega
    · have : ¬ l0.all okBase = true := fun h' => h (hiff.2 h')
      simp only [Bool.not_eq_true] at this
      rw [this]; simp; omega
  have HQ := Aside0.mk hq
  have HB := Aside0.mk hb
  clear hq hb hiff
  go_wp2_with fail
  go_ret
  exact ⟨by rw [← HQ.out]; rfl, HB.out⟩

set_option maxHeartbeats 1000000 in
set_option maxRecDepth 100000 in
theorem validStack_at (A0 : Option Addr) (c0 : Nat) (s : List Int) (w : World) (hr0 : Kd.C (Kd.int .u8) w A0 s.length s) (hc0 : s.length ≤ c0) (hn : s.length ≤ 1048576) :
    Calls Tryd.prog 33 #[.slice A0 s.length c0] w fun e w' => e = .returned (.bool (okStk s)) ∧ Below w.heap.size w w' := by
  have HR := Aside0.mk hr0
  have HCn := Aside0.mk (fun W hb => containsBase A0 c0 s W (Kd.C_below hr0 hb) hc0 hn)
  clear hr0
  have HWh := Aside0.mk (show impl_Stack_wheels.f s = some (s.length : Int) from rfl)
  have HWi := Aside0.mk (withinS (s.length : Int) 1 8)
  have HSz := Aside0.mk (size_eq (s.length + 1) s hn (by omega))
  obtain ⟨P, hP⟩ : ∃ P, P = okStk s := ⟨_, rfl⟩
  rw [← hP]
  unfold okStk at hP
  by_cases h : 1 ≤ s.length ∧ s.length ≤ 8
  · rw [show decide ((1 : Int) ≤ (s.length : Int) ∧ (s.length : Int) ≤ 8) = true from decide_eq_true (by omega)] at HWi
    rw [decide_eq_true h, Bool.true_and] at hP
    cases ha : s.all okBase with
    | true =>
      rw [ha] at hP HCn
      rw [Bool.true_and] at hP
      have HPo := Aside0.mk hP
      clear hP ha h
      generalize stSize s = z at HSz HPo
      go_enter Tryd.func33, Tryd.ntmps33
      go_wp2_with (first
        | (go_at_call 54; refine (impl_Stack_wheels.calls _ _ s _ _ HR.out hc0 HWh.out).mono ?_; rintro e w1 ⟨rfl, hb1⟩; (have HB1 := Aside0.mk (show Below w.heap.size w w1 from by first | exact hb1 | exact hb1.below | (obtain ⟨n, rfl⟩ := hb1; exact pw_below_drewN (Below.refl _ _) n))); clear hb1)
        | (go_at_call 53; refine (impl_within.calls _ _ _ _ _ HWi.out).mono ?_; rintro e w2 ⟨rfl, hb1⟩; (have HB2 := Aside0.mk (show Below w1.heap.size w1 w2 from by first | exact hb1 | exact hb1.below | (obtain ⟨n, rfl⟩ := hb1; exact pw_below_drewN (Below.refl _ _) n))); clear hb1; (have HB3 := Aside0.mk (below_step HB1.out HB2.out)))
        | (go_at_call 55; refine (HCn.out _ HB3.out).mono ?_; rintro e w4 ⟨rfl, hb1⟩; (have HB4 := Aside0.mk (below_step HB3.out hb1)); clear hb1)
        | (go_at_call 57; refine (impl_Stack_size.calls _ _ _ s _ _ (Kd.C_below HR.out HB4.out) hc0 HSz.out).mono ?_; rintro e w5 ⟨rfl, hb1⟩; (have HB5 := Aside0.mk (show Below w4.heap.size w4 w5 from by first | exact hb1 | exact hb1.below | (obtain ⟨n, rfl⟩ := hb1; exact pw_below_drewN (Below.refl _ _) n))); clear hb1; (have HB6 := Aside0.mk (below_step HB4.out HB5.out))))
      go_ret
      exact ⟨by rw [HPo.out]; rfl, HB6.out⟩
    | false =>
      rw [ha] at hP HCn
      rw [Bool.false_and] at hP
      have HPo := Aside0.mk hP
      clear hP ha h
      go_enter Tryd.func33, Tryd.ntmps33
      go_wp2_with (first
        | (go_at_call 54; refine (impl_Stack_wheels.calls _ _ s _ _ HR.out hc0 HWh.out).mono ?_; rintro e w1 ⟨rfl, hb1⟩; (have HB1 := Aside0.mk (show Below w.heap.size w w1 from by first | exact hb1 | exact hb1.below | (obtain ⟨n, rfl⟩ := hb1; exact pw_below_drewN (Below.refl _ _) n))); clear hb1)
        | (go_at_call 53; refine (impl_within.calls _ _ _ _ _ HWi.out).mono ?_; rintro e w2 ⟨rfl, hb1⟩; (have HB2 := Aside0.mk (show Below w1.heap.size w1 w2 from by first | exact hb1 | exact hb1.below | (obtain ⟨n, rfl⟩ := hb1; exact pw_below_drewN (Below.refl _ _) n))); clear hb1; (have HB3 := Aside0.mk (below_step HB1.out HB2.out)))
        | (go_at_call 55; refine (HCn.out _ HB3.out).mono ?_; rintro e w4 ⟨rfl, hb1⟩; (have HB4 := Aside0.mk (below_step HB3.out hb1)); clear hb1))
      go_ret
      exact ⟨by rw [HPo.out]; rfl, HB4.out⟩
  · rw [show decide ((1 : Int) ≤ (s.length : Int) ∧ (s.length : Int) ≤ 8) = false from decide_eq_false (by omega)] at HWi
    rw [decide_eq_false h, Bool.false_and] at hP
    have HPo := Aside0.mk hP
    clear hP h
    go_enter Tryd.func33, Tryd.ntmps33
    go_wp2_with (first
      | (go_at_call 54; refine (impl_Stack_wheels.calls _ _ s _ _ HR.out hc0 HWh.out).mono ?_; rintro e w1 ⟨rfl, hb1⟩; (have HB1 := Aside0.mk (show Below w.heap.size w w1 from by first | exact hb1 | exact hb1.below | (obtain ⟨n, rfl⟩ := hb1; exact pw_below_drewN (Below.refl _ _) n))); clear hb1)
      | (go_at_call 53; refine (impl_within.calls _ _ _ _ _ HWi.out).mono ?_; rintro e w2 ⟨rfl, hb1⟩; (have HB2 := Aside0.mk (show Below w1.heap.size w1 w2 from by first | exact hb1 | exact hb1.below | (obtain ⟨n, rfl⟩ := hb1; exact pw_below_drewN (Below.refl _ _) n))); clear hb1; (have HB3 := Aside0.mk (below_step HB1.out HB2.out))))
    go_ret
    exact ⟨by rw [HPo.out]; rfl, HB3.out⟩
end Go.Proofs.YtgfimdoildaonaaDoor.P

-- Written by a program of this session (a turned form of the kit's print) out of the translation.
namespace Go.Proofs.YtgfimdoildaonaaDoor.P
open Go.RowKit Go.Proofs.YtgfimdoildaonaaDoorW.PrintWords Go.Proofs.YtgfimdoildaonaaDoorW.PrintLast Go.Proofs.YtgfimdoildaonaaDoorW.PrintMore
attribute [local go_sem] max2_int min2_int max_two min_two max_three min_three max_four min_four   -- for this text's walks alone
set_option linter.unusedVariables false
set_option linter.unusedSimpArgs false

/-! ### spec_l01Digits: function 46 -/
def spec_l01Digits.l0 : Nat → List Int → Int → Int → Int → Int → Int → Int → Int → Int → Int → Option (Bool)
  | 0, _, _, _, _, _, _, _, _, _, _ => none
  | k + 1, x0, x5, x202000, x202001, x202002, x202003, x202004, x202005, x202006, x202007 => if x5 < 8 then (if x5 < (x0.length : Int) then (if 0 ≤ x5 then (if (nth [x202000, x202001, x202002, x202003, x202004, x202005, x202006, x202007] x5) ≥ (rd x0 x5) then (some false) else (if x5 ≥ (x0.length : Int) then (if (nth [x202000, x202001, x202002, x202003, x202004, x202005, x202006, x202007] x5) = 0 then (spec_l01Digits.l0 k x0 (wrap64 (x5 + 1)) x202000 x202001 x202002 x202003 x202004 x202005 x202006 x202007) else (some false)) else (spec_l01Digits.l0 k x0 (wrap64 (x5 + 1)) x202000 x202001 x202002 x202003 x202004 x202005 x202006 x202007))) else (none)) else (if x5 ≥ (x0.length : Int) then (if 0 ≤ x5 then (if (nth [x202000, x202001, x202002, x202003, x202004, x202005, x202006, x202007] x5) = 0 then (spec_l01Digits.l0 k x0 (wrap64 (x5 + 1)) x202000 x202001 x202002 x202003 x202004 x202005 x202006 x202007) else (some false)) else (none)) else (spec_l01Digits.l0 k x0 (wrap64 (x5 + 1)) x202000 x202001 x202002 x202003 x202004 x202005 x202006 x202007))) else (some true)
def spec_l01Digits.f (k : Nat) (l0 : List Int) (a1_0 : Int) (a1_1 : Int) (a1_2 : Int) (a1_3 : Int) (a1_4 : Int) (a1_5 : Int) (a1_6 : Int) (a1_7 : Int) : Option (Bool) := spec_l01Digits.l0 k l0 0 a1_0 a1_1 a1_2 a1_3 a1_4 a1_5 a1_6 a1_7
theorem spec_l01Digits.mono_l : ∀ k, (∀ y0 y1 y2 y3 y4 y5 y6 y7 y8 y9, LeO (spec_l01Digits.l0 k y0 y1 y2 y3 y4 y5 y6 y7 y8 y9) (spec_l01Digits.l0 (k + 1) y0 y1 y2 y3 y4 y5 y6 y7 y8 y9))
  | 0 => fun _ _ _ _ _ _ _ _ _ _ r h => by simp [spec_l01Digits.l0] at h
  | k + 1 => by
    have ih0 := spec_l01Digits.mono_l k
    · intro y0 y1 y2 y3 y4 y5 y6 y7 y8 y9
      unfold spec_l01Digits.l0
      repeat' first
      | (with_reducible exact ih0 _ _ _ _ _ _ _ _ _ _)
      | (with_reducible exact LeO.refl _)
      | (with_reducible exact LeO.none _)
      | (with_reducible refine LeO.ite ?_ ?_)
      | (with_reducible refine LeO.bind ?_ (fun _ => ?_))
      | exact ih0 _ _ _ _ _ _ _ _ _ _
      | exact LeO.none _
      | refine LeO.ite ?_ ?_
      | refine LeO.bind ?_ (fun _ => ?_)
theorem spec_l01Digits.mono : ∀ a0 a1 a2 a3 a4 a5 a6 a7 a8 k, LeO (spec_l01Digits.f k a0 a1 a2 a3 a4 a5 a6 a7 a8) (spec_l01Digits.f (k + 1) a0 a1 a2 a3 a4 a5 a6 a7 a8) := by
  intro a0 a1 a2 a3 a4 a5 a6 a7 a8 k
  have ih0 := spec_l01Digits.mono_l k
  unfold spec_l01Digits.f
  repeat' first
      | (with_reducible exact ih0 _ _ _ _ _ _ _ _ _ _)
      | (with_reducible exact LeO.refl _)
      | (with_reducible exact LeO.none _)
      | (with_reducible refine LeO.ite ?_ ?_)
      | (with_reducible refine LeO.bind ?_ (fun _ => ?_))
      | exact ih0 _ _ _ _ _ _ _ _ _ _
      | exact LeO.none _
      | refine LeO.ite ?_ ?_
      | refine LeO.bind ?_ (fun _ => ?_)
set_option maxHeartbeats 8000000 in
set_option maxRecDepth 100000 in
theorem spec_l01Digits.calls (k : Nat) (A0 : Option Addr) (c0 : Nat) (l0 : List Int) (a1_0 : Int) (a1_1 : Int) (a1_2 : Int) (a1_3 : Int) (a1_4 : Int) (a1_5 : Int) (a1_6 : Int) (a1_7 : Int) (r : Bool) (w : World) (hr0 : Kd.C (Kd.int .u8) w A0 l0.length l0) (hc0 : l0.length ≤ c0) (h : spec_l01Digits.f k l0 a1_0 a1_1 a1_2 a1_3 a1_4 a1_5 a1_6 a1_7 = some r) :
    Calls Tryd.prog 46 #[.slice A0 l0.length c0, .agg #[.int .u8 a1_0, .int .u8 a1_1, .int .u8 a1_2, .int .u8 a1_3, .int .u8 a1_4, .int .u8 a1_5, .int .u8 a1_6, .int .u8 a1_7]] w fun e w' => e = .returned (.bool r) ∧ Below w.heap.size w w' := by
  have hu37 := Tryd.underlying37
  have HR0 := Aside0.mk hr0
  have HC0 := Aside0.mk hc0
  clear hr0 hc0
  have HB := Aside0.mk (Below.refl w.heap.size w)
  have H : (spec_l01Digits.l0 k l0 0 a1_0 a1_1 a1_2 a1_3 a1_4 a1_5 a1_6 a1_7) = some r := h
  clear h
  have H' := Aside0.mk H
  clear H
  go_enter Tryd.func46, Tryd.ntmps46
  go_wp2_with (first | ((with_reducible refine gate_dst (N := 3) rfl ?_); (try (refine gate_guard (by rfl) ?_; dsimp only)); refine box_event ?hg (N := 3) ?hd (cs := #[.int .u8 a1_0, .int .u8 a1_1, .int .u8 a1_2, .int .u8 a1_3, .int .u8 a1_4, .int .u8 a1_5, .int .u8 a1_6, .int .u8 a1_7]) (t := 37) ?hr ?_; (case hd => rfl); (case hg => rfl); (case hr => first | (go_simp; done) | (go_simp; rfl)); intro gb201 hg w3 hbox hb; have n0_ := Aside0.mk (below_step (by repeat (first | (with_reducible first | exact HB.out | apply below_alloc | apply pw_below_drewN | apply below_drew1) | exact HB.out)) hb); have n1_ := Aside0.mk (hbox); have n2_ := Aside0.mk ((by rw [hg]; exact (below_size (by repeat (first | (with_reducible first | exact HB.out | apply below_alloc | apply pw_below_drewN | apply below_drew1) | exact HB.out))) : w.heap.size ≤ gb201)); have n3_ := Aside0.mk ((by rw [hg]; exact (below_size (by repeat (first | (with_reducible first | exact HB.out | apply below_alloc | apply pw_below_drewN | apply below_drew1) | exact HB.out))) : w.heap.size ≤ gb201)); clear HB; have HB := n0_; have BK201 := n1_; have GW201 := n2_; have GE201 := n3_; clear n0_ n1_ n2_ n3_; clear hb hbox hg))
  repeat (go_quiet (first | ((with_reducible refine gate_dst (N := 3) rfl ?_); (try (refine gate_guard (by rfl) ?_; dsimp only)); refine box_event ?hg (N := 3) ?hd (cs := #[.int .u8 a1_0, .int .u8 a1_1, .int .u8 a1_2, .int .u8 a1_3, .int .u8 a1_4, .int .u8 a1_5, .int .u8 a1_6, .int .u8 a1_7]) (t := 37) ?hr ?_; (case hd => rfl); (case hg => rfl); (case hr => first | (go_simp; done) | (go_simp; rfl)); intro gb201 hg w3 hbox hb; have n0_ := Aside0.mk (below_step (by repeat (first | (with_reducible first | exact HB.out | apply below_alloc | apply pw_below_drewN | apply below_drew1) | exact HB.out)) hb); have n1_ := Aside0.mk (hbox); have n2_ := Aside0.mk ((by rw [hg]; exact (below_size (by repeat (first | (with_reducible first | exact HB.out | apply below_alloc | apply pw_below_drewN | apply below_drew1) | exact HB.out))) : w.heap.size ≤ gb201)); have n3_ := Aside0.mk ((by rw [hg]; exact (below_size (by repeat (first | (with_reducible first | exact HB.out | apply below_alloc | apply pw_below_drewN | apply below_drew1) | exact HB.out))) : w.heap.size ≤ gb201)); clear HB; have HB := n0_; have BK201 := n1_; have GW201 := n2_; have GE201 := n3_; clear n0_ n1_ n2_ n3_; clear hb hbox hg)); try go_wp2_with (first | ((with_reducible refine gate_dst (N := 3) rfl ?_); (try (refine gate_guard (by rfl) ?_; dsimp only)); refine box_event ?hg (N := 3) ?hd (cs := #[.int .u8 a1_0, .int .u8 a1_1, .int .u8 a1_2, .int .u8 a1_3, .int .u8 a1_4, .int .u8 a1_5, .int .u8 a1_6, .int .u8 a1_7]) (t := 37) ?hr ?_; (case hd => rfl); (case hg => rfl); (case hr => first | (go_simp; done) | (go_simp; rfl)); intro gb201 hg w3 hbox hb; have n0_ := Aside0.mk (below_step (by repeat (first | (with_reducible first | exact HB.out | apply below_alloc | apply pw_below_drewN | apply below_drew1) | exact HB.out)) hb); have n1_ := Aside0.mk (hbox); have n2_ := Aside0.mk ((by rw [hg]; exact (below_size (by repeat (first | (with_reducible first | exact HB.out | apply below_alloc | apply pw_below_drewN | apply below_drew1) | exact HB.out))) : w.heap.size ≤ gb201)); have n3_ := Aside0.mk ((by rw [hg]; exact (below_size (by repeat (first | (with_reducible first | exact HB.out | apply below_alloc | apply pw_below_drewN | apply below_drew1) | exact HB.out))) : w.heap.size ≤ gb201)); clear HB; have HB := n0_; have BK201 := n1_; have GW201 := n2_; have GE201 := n3_; clear n0_ n1_ n2_ n3_; clear hb hbox hg)))
  go_loopg [5] k (fun kq v5 w' => ∃ (x5_1 : Int), v5 = .int .i64 x5_1 ∧ Aside0 (spec_l01Digits.l0 kq l0 x5_1 a1_0 a1_1 a1_2 a1_3 a1_4 a1_5 a1_6 a1_7 = some r) ∧ Aside0 (kq ≤ k) ∧ Aside0 (w'.heap[gb201]? = some (.cells #[.int .u8 a1_0, .int .u8 a1_1, .int .u8 a1_2, .int .u8 a1_3, .int .u8 a1_4, .int .u8 a1_5, .int .u8 a1_6, .int .u8 a1_7] 37 (0, 0))) ∧ Aside0 (Below w.heap.size w w'))
  case atStart => exact ⟨(0), (by first | rfl | (simp; done) | (simp [*]; done)), H', ⟨Nat.le_refl _⟩, ⟨by (with_reducible repeat (first | refine blk_drewN ?_ _ | refine blk_drew ?_ | refine blk_alloc ?_ _)); exact BK201.out⟩, ⟨by repeat (first | (with_reducible first | exact HB.out | apply below_alloc | apply pw_below_drewN | apply below_drew1 | refine below_set ?_ GE201.out) | exact HB.out)⟩⟩
  case round =>
    clear H'
    try clear p2
    obtain ⟨x5_1, rfl, HA, HK1, BK201, HB⟩ := hrel
    cases gk with
    | zero => exact absurd HA.out (by simp [spec_l01Digits.l0])
    | succ k1 =>
      have H := HA.out
      clear HA
      simp only [spec_l01Digits.l0] at H
      by_cases c4 : x5_1 < 8
      · rw [if_pos c4] at H
        have c4b0 : decide (x5_1 < 8) = true := decide_eq_true c4
        clear c4
        by_cases c5 : x5_1 < (l0.length : Int)
        · rw [if_pos c5] at H
          have c5b0 : decide (x5_1 < (l0.length : Int)) = true := decide_eq_true c5
          clear c5
          by_cases c6 : 0 ≤ x5_1
          · rw [if_pos c6] at H
            have c6b0 : decide (0 ≤ x5_1) = true := decide_eq_true c6
            clear c6
            by_cases c7 : (nth [a1_0, a1_1, a1_2, a1_3, a1_4, a1_5, a1_6, a1_7] x5_1) ≥ (rd l0 x5_1)
            · rw [if_pos c7] at H
              have c7b0 : decide ((rd l0 x5_1) ≤ (nth [a1_0, a1_1, a1_2, a1_3, a1_4, a1_5, a1_6, a1_7] x5_1)) = true := decide_eq_true c7
              clear c7
              obtain rfl := Option.some.inj H
              have hcz8_0 : wr.cell? ⟨gb201, 0, none⟩ = some (.int .u8 a1_0) := (blk_cell BK201.out 0).trans rfl
              have hcz8_1 : wr.cell? ⟨gb201, 1, none⟩ = some (.int .u8 a1_1) := (blk_cell BK201.out 1).trans rfl
              have hcz8_2 : wr.cell? ⟨gb201, 2, none⟩ = some (.int .u8 a1_2) := (blk_cell BK201.out 2).trans rfl
              have hcz8_3 : wr.cell? ⟨gb201, 3, none⟩ = some (.int .u8 a1_3) := (blk_cell BK201.out 3).trans rfl
              have hcz8_4 : wr.cell? ⟨gb201, 4, none⟩ = some (.int .u8 a1_4) := (blk_cell BK201.out 4).trans rfl
              have hcz8_5 : wr.cell? ⟨gb201, 5, none⟩ = some (.int .u8 a1_5) := (blk_cell BK201.out 5).trans rfl
              have hcz8_6 : wr.cell? ⟨gb201, 6, none⟩ = some (.int .u8 a1_6) := (blk_cell BK201.out 6).trans rfl
              have hcz8_7 : wr.cell? ⟨gb201, 7, none⟩ = some (.int .u8 a1_7) := (blk_cell BK201.out 7).trans rfl
              have hfz8_0 := blk_frozen BK201.out 0
              have hfz8_1 := blk_frozen BK201.out 1
              have hfz8_2 := blk_frozen BK201.out 2
              have hfz8_3 := blk_frozen BK201.out 3
              have hfz8_4 := blk_frozen BK201.out 4
              have hfz8_5 := blk_frozen BK201.out 5
              have hfz8_6 := blk_frozen BK201.out 6
              have hfz8_7 := blk_frozen BK201.out 7
              have p9 : 0 ≤ (x5_1 : Int) := of_decide_eq_true (by first | (with_reducible assumption) | assumption)
              have q9 : (x5_1 : Int) < 8 := of_decide_eq_true (by first | (with_reducible assumption) | assumption)
              have hx9_0 : wr.cell? ⟨gb201, (x5_1 : Int).toNat, none⟩ = some (.int .u8 (nth [a1_0, a1_1, a1_2, a1_3, a1_4, a1_5, a1_6, a1_7] x5_1)) := (blk_cell BK201.out _).trans (arr_nth .u8 [a1_0, a1_1, a1_2, a1_3, a1_4, a1_5, a1_6, a1_7] x5_1 8 rfl p9 q9)
              replace p9 := eq_true p9
              replace q9 := eq_true q9
              have p202 : 0 ≤ (x5_1 : Int) := of_decide_eq_true (by first | (with_reducible assumption) | assumption)
              have q202 : x5_1 < (l0.length : Int) := of_decide_eq_true (by first | (with_reducible assumption) | assumption)
              obtain ⟨ad202, e202, hx202_0⟩ := Kd.at_int HR0.out x5_1 p202 q202
              cases e202
              replace hx202_0 := (HB.out.cell (World.block_lt_of_cell? w _ hx202_0)).trans hx202_0
              replace p202 := eq_true p202
              replace q202 := eq_true q202
              go_wp2
              repeat (go_quiet (fail); try go_wp2)
              go_ret
              exact ⟨by first | rfl | (simp [errW_none, errW_some] <;> rfl) | (simp [*, errW_none, errW_some] <;> rfl), by repeat (first | (with_reducible first | exact HB.out | apply below_alloc | apply pw_below_drewN | apply below_drew1 | refine below_set ?_ GE201.out) | exact HB.out)⟩
            · rw [if_neg c7] at H
              have c7b0 : decide ((rd l0 x5_1) ≤ (nth [a1_0, a1_1, a1_2, a1_3, a1_4, a1_5, a1_6, a1_7] x5_1)) = false := decide_eq_false c7
              clear c7
              by_cases c10 : x5_1 ≥ (l0.length : Int)
              · rw [if_pos c10] at H
                have c10b0 : decide ((l0.length : Int) ≤ x5_1) = true := decide_eq_true c10
                clear c10
                by_cases c11 : (nth [a1_0, a1_1, a1_2, a1_3, a1_4, a1_5, a1_6, a1_7] x5_1) = 0
                · rw [if_pos c11] at H
                  have c11b0 : ((nth [a1_0, a1_1, a1_2, a1_3, a1_4, a1_5, a1_6, a1_7] x5_1) == 0) = true := beq_iff_eq.mpr c11
                  have c11b1 : ((nth [a1_0, a1_1, a1_2, a1_3, a1_4, a1_5, a1_6, a1_7] x5_1) != 0) = false := bne_eq_false_iff_eq.mpr c11
                  clear c11
                  have H' := Aside0.mk H
                  clear H
                  have hcz12_0 : wr.cell? ⟨gb201, 0, none⟩ = some (.int .u8 a1_0) := (blk_cell BK201.out 0).trans rfl
                  have hcz12_1 : wr.cell? ⟨gb201, 1, none⟩ = some (.int .u8 a1_1) := (blk_cell BK201.out 1).trans rfl
                  have hcz12_2 : wr.cell? ⟨gb201, 2, none⟩ = some (.int .u8 a1_2) := (blk_cell BK201.out 2).trans rfl
                  have hcz12_3 : wr.cell? ⟨gb201, 3, none⟩ = some (.int .u8 a1_3) := (blk_cell BK201.out 3).trans rfl
                  have hcz12_4 : wr.cell? ⟨gb201, 4, none⟩ = some (.int .u8 a1_4) := (blk_cell BK201.out 4).trans rfl
                  have hcz12_5 : wr.cell? ⟨gb201, 5, none⟩ = some (.int .u8 a1_5) := (blk_cell BK201.out 5).trans rfl
                  have hcz12_6 : wr.cell? ⟨gb201, 6, none⟩ = some (.int .u8 a1_6) := (blk_cell BK201.out 6).trans rfl
                  have hcz12_7 : wr.cell? ⟨gb201, 7, none⟩ = some (.int .u8 a1_7) := (blk_cell BK201.out 7).trans rfl
                  have hfz12_0 := blk_frozen BK201.out 0
                  have hfz12_1 := blk_frozen BK201.out 1
                  have hfz12_2 := blk_frozen BK201.out 2
                  have hfz12_3 := blk_frozen BK201.out 3
                  have hfz12_4 := blk_frozen BK201.out 4
                  have hfz12_5 := blk_frozen BK201.out 5
                  have hfz12_6 := blk_frozen BK201.out 6
                  have hfz12_7 := blk_frozen BK201.out 7
                  have p13 : 0 ≤ (x5_1 : Int) := of_decide_eq_true (by first | (with_reducible assumption) | assumption)
                  have q13 : (x5_1 : Int) < 8 := of_decide_eq_true (by first | (with_reducible assumption) | assumption)
                  have hx13_0 : wr.cell? ⟨gb201, (x5_1 : Int).toNat, none⟩ = some (.int .u8 (nth [a1_0, a1_1, a1_2, a1_3, a1_4, a1_5, a1_6, a1_7] x5_1)) := (blk_cell BK201.out _).trans (arr_nth .u8 [a1_0, a1_1, a1_2, a1_3, a1_4, a1_5, a1_6, a1_7] x5_1 8 rfl p13 q13)
                  replace p13 := eq_true p13
                  replace q13 := eq_true q13
                  have p202 : 0 ≤ (x5_1 : Int) := of_decide_eq_true (by first | (with_reducible assumption) | assumption)
                  have q202 : x5_1 < (l0.length : Int) := of_decide_eq_true (by first | (with_reducible assumption) | assumption)
                  obtain ⟨ad202, e202, hx202_0⟩ := Kd.at_int HR0.out x5_1 p202 q202
                  cases e202
                  replace hx202_0 := (HB.out.cell (World.block_lt_of_cell? w _ hx202_0)).trans hx202_0
                  replace p202 := eq_true p202
                  replace q202 := eq_true q202
                  have p14 : 0 ≤ (x5_1 : Int) := of_decide_eq_true (by first | (with_reducible assumption) | assumption)
                  have q14 : (x5_1 : Int) < 8 := of_decide_eq_true (by first | (with_reducible assumption) | assumption)
                  have hx14_0 : wr.cell? ⟨gb201, (x5_1 : Int).toNat, none⟩ = some (.int .u8 (nth [a1_0, a1_1, a1_2, a1_3, a1_4, a1_5, a1_6, a1_7] x5_1)) := (blk_cell BK201.out _).trans (arr_nth .u8 [a1_0, a1_1, a1_2, a1_3, a1_4, a1_5, a1_6, a1_7] x5_1 8 rfl p14 q14)
                  replace p14 := eq_true p14
                  replace q14 := eq_true q14
                  go_wp2
                  repeat (go_quiet (fail); try go_wp2)
                  go_roundg k1
                  case measure => have := HK1.out; omega
                  case rel => exact ⟨(wrap64 (x5_1 + 1)), (by first | rfl | (simp; done) | (simp [*]; done)), H', ⟨by have := HK1.out; omega⟩, ⟨by (with_reducible repeat (first | refine blk_drewN ?_ _ | refine blk_drew ?_ | refine blk_alloc ?_ _)); exact BK201.out⟩, ⟨by repeat (first | (with_reducible first | exact HB.out | apply below_alloc | apply pw_below_drewN | apply below_drew1 | refine below_set ?_ GE201.out) | exact HB.out)⟩⟩
                · rw [if_neg c11] at H
                  have c11b0 : ((nth [a1_0, a1_1, a1_2, a1_3, a1_4, a1_5, a1_6, a1_7] x5_1) == 0) = false := beq_eq_false_iff_ne.mpr c11
                  have c11b1 : ((nth [a1_0, a1_1, a1_2, a1_3, a1_4, a1_5, a1_6, a1_7] x5_1) != 0) = true := bne_iff_ne.mpr c11
                  obtain rfl := Option.some.inj H
                  have hcz15_0 : wr.cell? ⟨gb201, 0, none⟩ = some (.int .u8 a1_0) := (blk_cell BK201.out 0).trans rfl
                  have hcz15_1 : wr.cell? ⟨gb201, 1, none⟩ = some (.int .u8 a1_1) := (blk_cell BK201.out 1).trans rfl
                  have hcz15_2 : wr.cell? ⟨gb201, 2, none⟩ = some (.int .u8 a1_2) := (blk_cell BK201.out 2).trans rfl
                  have hcz15_3 : wr.cell? ⟨gb201, 3, none⟩ = some (.int .u8 a1_3) := (blk_cell BK201.out 3).trans rfl
                  have hcz15_4 : wr.cell? ⟨gb201, 4, none⟩ = some (.int .u8 a1_4) := (blk_cell BK201.out 4).trans rfl
                  have hcz15_5 : wr.cell? ⟨gb201, 5, none⟩ = some (.int .u8 a1_5) := (blk_cell BK201.out 5).trans rfl
                  have hcz15_6 : wr.cell? ⟨gb201, 6, none⟩ = some (.int .u8 a1_6) := (blk_cell BK201.out 6).trans rfl
                  have hcz15_7 : wr.cell? ⟨gb201, 7, none⟩ = some (.int .u8 a1_7) := (blk_cell BK201.out 7).trans rfl
                  have hfz15_0 := blk_frozen BK201.out 0
                  have hfz15_1 := blk_frozen BK201.out 1
                  have hfz15_2 := blk_frozen BK201.out 2
                  have hfz15_3 := blk_frozen BK201.out 3
                  have hfz15_4 := blk_frozen BK201.out 4
                  have hfz15_5 := blk_frozen BK201.out 5
                  have hfz15_6 := blk_frozen BK201.out 6
                  have hfz15_7 := blk_frozen BK201.out 7
                  have p16 : 0 ≤ (x5_1 : Int) := of_decide_eq_true (by first | (with_reducible assumption) | assumption)
                  have q16 : (x5_1 : Int) < 8 := of_decide_eq_true (by first | (with_reducible assumption) | assumption)
                  have hx16_0 : wr.cell? ⟨gb201, (x5_1 : Int).toNat, none⟩ = some (.int .u8 (nth [a1_0, a1_1, a1_2, a1_3, a1_4, a1_5, a1_6, a1_7] x5_1)) := (blk_cell BK201.out _).trans (arr_nth .u8 [a1_0, a1_1, a1_2, a1_3, a1_4, a1_5, a1_6, a1_7] x5_1 8 rfl p16 q16)
                  replace p16 := eq_true p16
                  replace q16 := eq_true q16
                  have p202 : 0 ≤ (x5_1 : Int) := of_decide_eq_true (by first | (with_reducible assumption) | assumption)
                  have q202 : x5_1 < (l0.length : Int) := of_decide_eq_true (by first | (with_reducible assumption) | assumption)
                  obtain ⟨ad202, e202, hx202_0⟩ := Kd.at_int HR0.out x5_1 p202 q202
                  cases e202
                  replace hx202_0 := (HB.out.cell (World.block_lt_of_cell? w _ hx202_0)).trans hx202_0
                  replace p202 := eq_true p202
                  replace q202 := eq_true q202
                  have p17 : 0 ≤ (x5_1 : Int) := of_decide_eq_true (by first | (with_reducible assumption) | assumption)
                  have q17 : (x5_1 : Int) < 8 := of_decide_eq_true (by first | (with_reducible assumption) | assumption)
                  have hx17_0 : wr.cell? ⟨gb201, (x5_1 : Int).toNat, none⟩ = some (.int .u8 (nth [a1_0, a1_1, a1_2, a1_3, a1_4, a1_5, a1_6, a1_7] x5_1)) := (blk_cell BK201.out _).trans (arr_nth .u8 [a1_0, a1_1, a1_2, a1_3, a1_4, a1_5, a1_6, a1_7] x5_1 8 rfl p17 q17)
                  replace p17 := eq_true p17
                  replace q17 := eq_true q17
                  go_wp2
                  repeat (go_quiet (fail); try go_wp2)
                  go_ret
                  exact ⟨by first | rfl | (simp [errW_none, errW_some] <;> rfl) | (simp [*, errW_none, errW_some] <;> rfl), by repeat (first | (with_reducible first | exact HB.out | apply below_alloc | apply pw_below_drewN | apply below_drew1 | refine below_set ?_ GE201.out) | exact HB.out)⟩
              · rw [if_neg c10] at H
                have c10b0 : decide ((l0.length : Int) ≤ x5_1) = false := decide_eq_false c10
                clear c10
                have H' := Aside0.mk H
                clear H
                have hcz18_0 : wr.cell? ⟨gb201, 0, none⟩ = some (.int .u8 a1_0) := (blk_cell BK201.out 0).trans rfl
                have hcz18_1 : wr.cell? ⟨gb201, 1, none⟩ = some (.int .u8 a1_1) := (blk_cell BK201.out 1).trans rfl
                have hcz18_2 : wr.cell? ⟨gb201, 2, none⟩ = some (.int .u8 a1_2) := (blk_cell BK201.out 2).trans rfl
                have hcz18_3 : wr.cell? ⟨gb201, 3, none⟩ = some (.int .u8 a1_3) := (blk_cell BK201.out 3).trans rfl
                have hcz18_4 : wr.cell? ⟨gb201, 4, none⟩ = some (.int .u8 a1_4) := (blk_cell BK201.out 4).trans rfl
                have hcz18_5 : wr.cell? ⟨gb201, 5, none⟩ = some (.int .u8 a1_5) := (blk_cell BK201.out 5).trans rfl
                have hcz18_6 : wr.cell? ⟨gb201, 6, none⟩ = some (.int .u8 a1_6) := (blk_cell BK201.out 6).trans rfl
                have hcz18_7 : wr.cell? ⟨gb201, 7, none⟩ = some (.int .u8 a1_7) := (blk_cell BK201.out 7).trans rfl
                have hfz18_0 := blk_frozen BK201.out 0
                have hfz18_1 := blk_frozen BK201.out 1
                have hfz18_2 := blk_frozen BK201.out 2
                have hfz18_3 := blk_frozen BK201.out 3
                have hfz18_4 := blk_frozen BK201.out 4
                have hfz18_5 := blk_frozen BK201.out 5
                have hfz18_6 := blk_frozen BK201.out 6
                have hfz18_7 := blk_frozen BK201.out 7
                have p19 : 0 ≤ (x5_1 : Int) := of_decide_eq_true (by first | (with_reducible assumption) | assumption)
                have q19 : (x5_1 : Int) < 8 := of_decide_eq_true (by first | (with_reducible assumption) | assumption)
                have hx19_0 : wr.cell? ⟨gb201, (x5_1 : Int).toNat, none⟩ = some (.int .u8 (nth [a1_0, a1_1, a1_2, a1_3, a1_4, a1_5, a1_6, a1_7] x5_1)) := (blk_cell BK201.out _).trans (arr_nth .u8 [a1_0, a1_1, a1_2, a1_3, a1_4, a1_5, a1_6, a1_7] x5_1 8 rfl p19 q19)
                replace p19 := eq_true p19
                replace q19 := eq_true q19
                have p202 : 0 ≤ (x5_1 : Int) := of_decide_eq_true (by first | (with_reducible assumption) | assumption)
                have q202 : x5_1 < (l0.length : Int) := of_decide_eq_true (by first | (with_reducible assumption) | assumption)
                obtain ⟨ad202, e202, hx202_0⟩ := Kd.at_int HR0.out x5_1 p202 q202
                cases e202
                replace hx202_0 := (HB.out.cell (World.block_lt_of_cell? w _ hx202_0)).trans hx202_0
                replace p202 := eq_true p202
                replace q202 := eq_true q202
                go_wp2
                repeat (go_quiet (fail); try go_wp2)
                go_roundg k1
                case measure => have := HK1.out; omega
                case rel => exact ⟨(wrap64 (x5_1 + 1)), (by first | rfl | (simp; done) | (simp [*]; done)), H', ⟨by have := HK1.out; omega⟩, ⟨by (with_reducible repeat (first | refine blk_drewN ?_ _ | refine blk_drew ?_ | refine blk_alloc ?_ _)); exact BK201.out⟩, ⟨by repeat (first | (with_reducible first | exact HB.out | apply below_alloc | apply pw_below_drewN | apply below_drew1 | refine below_set ?_ GE201.out) | exact HB.out)⟩⟩
          · rw [if_neg c6] at H
            exact absurd H (by simp)
        · rw [if_neg c5] at H
          have c5b0 : decide (x5_1 < (l0.length : Int)) = false := decide_eq_false c5
          clear c5
          by_cases c20 : x5_1 ≥ (l0.length : Int)
          · rw [if_pos c20] at H
            have c20b0 : decide ((l0.length : Int) ≤ x5_1) = true := decide_eq_true c20
            clear c20
            by_cases c21 : 0 ≤ x5_1
            · rw [if_pos c21] at H
              have c21b0 : decide (0 ≤ x5_1) = true := decide_eq_true c21
              clear c21
              by_cases c22 : (nth [a1_0, a1_1, a1_2, a1_3, a1_4, a1_5, a1_6, a1_7] x5_1) = 0
              · rw [if_pos c22] at H
                have c22b0 : ((nth [a1_0, a1_1, a1_2, a1_3, a1_4, a1_5, a1_6, a1_7] x5_1) == 0) = true := beq_iff_eq.mpr c22
                have c22b1 : ((nth [a1_0, a1_1, a1_2, a1_3, a1_4, a1_5, a1_6, a1_7] x5_1) != 0) = false := bne_eq_false_iff_eq.mpr c22
                clear c22
                have H' := Aside0.mk H
                clear H
                have hcz23_0 : wr.cell? ⟨gb201, 0, none⟩ = some (.int .u8 a1_0) := (blk_cell BK201.out 0).trans rfl
                have hcz23_1 : wr.cell? ⟨gb201, 1, none⟩ = some (.int .u8 a1_1) := (blk_cell BK201.out 1).trans rfl
                have hcz23_2 : wr.cell? ⟨gb201, 2, none⟩ = some (.int .u8 a1_2) := (blk_cell BK201.out 2).trans rfl
                have hcz23_3 : wr.cell? ⟨gb201, 3, none⟩ = some (.int .u8 a1_3) := (blk_cell BK201.out 3).trans rfl
                have hcz23_4 : wr.cell? ⟨gb201, 4, none⟩ = some (.int .u8 a1_4) := (blk_cell BK201.out 4).trans rfl
                have hcz23_5 : wr.cell? ⟨gb201, 5, none⟩ = some (.int .u8 a1_5) := (blk_cell BK201.out 5).trans rfl
                have hcz23_6 : wr.cell? ⟨gb201, 6, none⟩ = some (.int .u8 a1_6) := (blk_cell BK201.out 6).trans rfl
                have hcz23_7 : wr.cell? ⟨gb201, 7, none⟩ = some (.int .u8 a1_7) := (blk_cell BK201.out 7).trans rfl
                have hfz23_0 := blk_frozen BK201.out 0
                have hfz23_1 := blk_frozen BK201.out 1
                have hfz23_2 := blk_frozen BK201.out 2
                have hfz23_3 := blk_frozen BK201.out 3
                have hfz23_4 := blk_frozen BK201.out 4
                have hfz23_5 := blk_frozen BK201.out 5
                have hfz23_6 := blk_frozen BK201.out 6
                have hfz23_7 := blk_frozen BK201.out 7
                have p24 : 0 ≤ (x5_1 : Int) := of_decide_eq_true (by first | (with_reducible assumption) | assumption)
                have q24 : (x5_1 : Int) < 8 := of_decide_eq_true (by first | (with_reducible assumption) | assumption)
                have hx24_0 : wr.cell? ⟨gb201, (x5_1 : Int).toNat, none⟩ = some (.int .u8 (nth [a1_0, a1_1, a1_2, a1_3, a1_4, a1_5, a1_6, a1_7] x5_1)) := (blk_cell BK201.out _).trans (arr_nth .u8 [a1_0, a1_1, a1_2, a1_3, a1_4, a1_5, a1_6, a1_7] x5_1 8 rfl p24 q24)
                replace p24 := eq_true p24
                replace q24 := eq_true q24
                go_wp2
                repeat (go_quiet (fail); try go_wp2)
                go_roundg k1
                case measure => have := HK1.out; omega
                case rel => exact ⟨(wrap64 (x5_1 + 1)), (by first | rfl | (simp; done) | (simp [*]; done)), H', ⟨by have := HK1.out; omega⟩, ⟨by (with_reducible repeat (first | refine blk_drewN ?_ _ | refine blk_drew ?_ | refine blk_alloc ?_ _)); exact BK201.out⟩, ⟨by repeat (first | (with_reducible first | exact HB.out | apply below_alloc | apply pw_below_drewN | apply below_drew1 | refine below_set ?_ GE201.out) | exact HB.out)⟩⟩
              · rw [if_neg c22] at H
                have c22b0 : ((nth [a1_0, a1_1, a1_2, a1_3, a1_4, a1_5, a1_6, a1_7] x5_1) == 0) = false := beq_eq_false_iff_ne.mpr c22
                have c22b1 : ((nth [a1_0, a1_1, a1_2, a1_3, a1_4, a1_5, a1_6, a1_7] x5_1) != 0) = true := bne_iff_ne.mpr c22
                obtain rfl := Option.some.inj H
                have hcz25_0 : wr.cell? ⟨gb201, 0, none⟩ = some (.int .u8 a1_0) := (blk_cell BK201.out 0).trans rfl
                have hcz25_1 : wr.cell? ⟨gb201, 1, none⟩ = some (.int .u8 a1_1) := (blk_cell BK201.out 1).trans rfl
                have hcz25_2 : wr.cell? ⟨gb201, 2, none⟩ = some (.int .u8 a1_2) := (blk_cell BK201.out 2).trans rfl
                have hcz25_3 : wr.cell? ⟨gb201, 3, none⟩ = some (.int .u8 a1_3) := (blk_cell BK201.out 3).trans rfl
                have hcz25_4 : wr.cell? ⟨gb201, 4, none⟩ = some (.int .u8 a1_4) := (blk_cell BK201.out 4).trans rfl
                have hcz25_5 : wr.cell? ⟨gb201, 5, none⟩ = some (.int .u8 a1_5) := (blk_cell BK201.out 5).trans rfl
                have hcz25_6 : wr.cell? ⟨gb201, 6, none⟩ = some (.int .u8 a1_6) := (blk_cell BK201.out 6).trans rfl
                have hcz25_7 : wr.cell? ⟨gb201, 7, none⟩ = some (.int .u8 a1_7) := (blk_cell BK201.out 7).trans rfl
                have hfz25_0 := blk_frozen BK201.out 0
                have hfz25_1 := blk_frozen BK201.out 1
                have hfz25_2 := blk_frozen BK201.out 2
                have hfz25_3 := blk_frozen BK201.out 3
                have hfz25_4 := blk_frozen BK201.out 4
                have hfz25_5 := blk_frozen BK201.out 5
                have hfz25_6 := blk_frozen BK201.out 6
                have hfz25_7 := blk_frozen BK201.out 7
                have p26 : 0 ≤ (x5_1 : Int) := of_decide_eq_true (by first | (with_reducible assumption) | assumption)
                have q26 : (x5_1 : Int) < 8 := of_decide_eq_true (by first | (with_reducible assumption) | assumption)
                have hx26_0 : wr.cell? ⟨gb201, (x5_1 : Int).toNat, none⟩ = some (.int .u8 (nth [a1_0, a1_1, a1_2, a1_3, a1_4, a1_5, a1_6, a1_7] x5_1)) := (blk_cell BK201.out _).trans (arr_nth .u8 [a1_0, a1_1, a1_2, a1_3, a1_4, a1_5, a1_6, a1_7] x5_1 8 rfl p26 q26)
                replace p26 := eq_true p26
                replace q26 := eq_true q26
                go_wp2
                repeat (go_quiet (fail); try go_wp2)
                go_ret
                exact ⟨by first | rfl | (simp [errW_none, errW_some] <;> rfl) | (simp [*, errW_none, errW_some] <;> rfl), by repeat (first | (with_reducible first | exact HB.out | apply below_alloc | apply pw_below_drewN | apply below_drew1 | refine below_set ?_ GE201.out) | exact HB.out)⟩
            · rw [if_neg c21] at H
              exact absurd H (by simp)
          · rw [if_neg c20] at H
            have c20b0 : decide ((l0.length : Int) ≤ x5_1) = false := decide_eq_false c20
            clear c20
            have H' := Aside0.mk H
            clear H
            go_wp2
            repeat (go_quiet (fail); try go_wp2)
            go_roundg k1
            case measure => have := HK1.out; omega
            case rel => exact ⟨(wrap64 (x5_1 + 1)), (by first | rfl | (simp; done) | (simp [*]; done)), H', ⟨by have := HK1.out; omega⟩, ⟨by (with_reducible repeat (first | refine blk_drewN ?_ _ | refine blk_drew ?_ | refine blk_alloc ?_ _)); exact BK201.out⟩, ⟨by repeat (first | (with_reducible first | exact HB.out | apply below_alloc | apply pw_below_drewN | apply below_drew1 | refine below_set ?_ GE201.out) | exact HB.out)⟩⟩
      · rw [if_neg c4] at H
        have c4b0 : decide (x5_1 < 8) = false := decide_eq_false c4
        clear c4
        obtain rfl := Option.some.inj H
        go_wp2
        repeat (go_quiet (fail); try go_wp2)
        go_ret
        exact ⟨by first | rfl | (simp [errW_none, errW_some] <;> rfl) | (simp [*, errW_none, errW_some] <;> rfl), by repeat (first | (with_reducible first | exact HB.out | apply below_alloc | apply pw_below_drewN | apply below_drew1 | refine below_set ?_ GE201.out) | exact HB.out)⟩

end Go.Proofs.YtgfimdoildaonaaDoor.P

-- Written by a program of this session (a turned form of the kit's print) out of the translation.
namespace Go.Proofs.YtgfimdoildaonaaDoor.P
open Go.RowKit Go.Proofs.YtgfimdoildaonaaDoorW.PrintWords Go.Proofs.YtgfimdoildaonaaDoorW.PrintLast Go.Proofs.YtgfimdoildaonaaDoorW.PrintMore
attribute [local go_sem] max2_int min2_int max_two min_two max_three min_three max_four min_four   -- for this text's walks alone
set_option linter.unusedVariables false
set_option linter.unusedSimpArgs false

/-! ### spec_ValidDigits: function 26 -/
def spec_ValidDigits.f (k : Nat) (l0 : List Int) (a1_0 : Int) (a1_1 : Int) (a1_2 : Int) (a1_3 : Int) (a1_4 : Int) (a1_5 : Int) (a1_6 : Int) (a1_7 : Int) : Option (Bool) := (spec_l01Ok.f k l0).bind fun t204 => (if t204 = true then ((spec_l01Digits.f k l0 a1_0 a1_1 a1_2 a1_3 a1_4 a1_5 a1_6 a1_7).bind fun t205 => (some t205)) else (some false))
theorem spec_ValidDigits.mono : ∀ a0 a1 a2 a3 a4 a5 a6 a7 a8 k, LeO (spec_ValidDigits.f k a0 a1 a2 a3 a4 a5 a6 a7 a8) (spec_ValidDigits.f (k + 1) a0 a1 a2 a3 a4 a5 a6 a7 a8) := by
  intro a0 a1 a2 a3 a4 a5 a6 a7 a8 k
  unfold spec_ValidDigits.f
  repeat' first
      | (with_reducible exact spec_l01Digits.mono _ _ _ _ _ _ _ _ _ _)
      | (with_reducible exact spec_l01Ok.mono _ _)
      | (with_reducible exact LeO.refl _)
      | (with_reducible exact LeO.none _)
      | (with_reducible refine LeO.ite ?_ ?_)
      | (with_reducible refine LeO.bind ?_ (fun _ => ?_))
      | exact spec_l01Digits.mono _ _ _ _ _ _ _ _ _ _
      | exact spec_l01Ok.mono _ _
      | exact LeO.none _
      | refine LeO.ite ?_ ?_
      | refine LeO.bind ?_ (fun _ => ?_)
set_option maxHeartbeats 8000000 in
set_option maxRecDepth 100000 in
theorem spec_ValidDigits.calls (k : Nat) (A0 : Option Addr) (c0 : Nat) (l0 : List Int) (a1_0 : Int) (a1_1 : Int) (a1_2 : Int) (a1_3 : Int) (a1_4 : Int) (a1_5 : Int) (a1_6 : Int) (a1_7 : Int) (r : Bool) (w : World) (hr0 : Kd.C (Kd.int .u8) w A0 l0.length l0) (hc0 : l0.length ≤ c0) (h : spec_ValidDigits.f k l0 a1_0 a1_1 a1_2 a1_3 a1_4 a1_5 a1_6 a1_7 = some r) :
    Calls Tryd.prog 26 #[.slice A0 l0.length c0, .agg #[.int .u8 a1_0, .int .u8 a1_1, .int .u8 a1_2, .int .u8 a1_3, .int .u8 a1_4, .int .u8 a1_5, .int .u8 a1_6, .int .u8 a1_7]] w fun e w' => e = .returned (.bool r) ∧ Below w.heap.size w w' := by
  have hu37 := Tryd.underlying37
  have HR0 := Aside0.mk hr0
  have HC0 := Aside0.mk hc0
  clear hr0 hc0
  have HB := Aside0.mk (Below.refl w.heap.size w)
  have H : ((spec_l01Ok.f k l0).bind fun t204 => (if t204 = true then ((spec_l01Digits.f k l0 a1_0 a1_1 a1_2 a1_3 a1_4 a1_5 a1_6 a1_7).bind fun t205 => (some t205)) else (some false))) = some r := h
  clear h
  replace H := Option.bind_eq_some_iff.mp H
  obtain ⟨t204, A30, H⟩ := H
  replace H : (if t204 = true then ((spec_l01Digits.f k l0 a1_0 a1_1 a1_2 a1_3 a1_4 a1_5 a1_6 a1_7).bind fun t205 => (some t205)) else (some false)) = some r := H
  have A3 := Aside0.mk A30
  clear A30
  by_cases c4 : t204 = true
  · subst c4
    have H1 : ((spec_l01Digits.f k l0 a1_0 a1_1 a1_2 a1_3 a1_4 a1_5 a1_6 a1_7).bind fun t205 => (some t205)) = some r := by rw [if_pos rfl] at H; exact H
    clear H
    have H := H1
    clear H1
    replace H := Option.bind_eq_some_iff.mp H
    obtain ⟨t205, A50, H⟩ := H
    replace H : (some t205) = some r := H
    have A5 := Aside0.mk A50
    clear A50
    obtain rfl := Option.some.inj H
    go_enter Tryd.func26, Tryd.ntmps26
    go_wp2_with (first | ((with_reducible refine gate_dst (N := 3) rfl ?_); refine box_event ?hg (N := 3) ?hd (cs := #[.int .u8 a1_0, .int .u8 a1_1, .int .u8 a1_2, .int .u8 a1_3, .int .u8 a1_4, .int .u8 a1_5, .int .u8 a1_6, .int .u8 a1_7]) (t := 37) ?hr ?_; (case hd => rfl); (case hg => rfl); (case hr => first | (go_simp; done) | (go_simp; rfl)); intro gb203 hg w6 hbox hb; have n0_ := Aside0.mk (below_step (by repeat (first | (with_reducible first | exact HB.out | apply below_alloc | apply pw_below_drewN | apply below_drew1) | exact HB.out)) hb); have n1_ := Aside0.mk (hbox); have n2_ := Aside0.mk ((by rw [hg]; exact (below_size (by repeat (first | (with_reducible first | exact HB.out | apply below_alloc | apply pw_below_drewN | apply below_drew1) | exact HB.out))) : w.heap.size ≤ gb203)); have n3_ := Aside0.mk ((by rw [hg]; exact (below_size (by repeat (first | (with_reducible first | exact HB.out | apply below_alloc | apply pw_below_drewN | apply below_drew1) | exact HB.out))) : w.heap.size ≤ gb203)); clear HB; have HB := n0_; have BK203 := n1_; have GW203 := n2_; have GE203 := n3_; clear n0_ n1_ n2_ n3_; clear hb hbox hg) | ((with_reducible refine gate_callee (f := 30) rfl ?_); refine goesL_ (some 6) rfl rfl Tryd.func30 (by kernel_rfl) rfl #[.slice A0 l0.length c0] rfl (by (try simp only [List.map_toArray, List.map_cons, List.map_nil]); first | done | rfl | (simp only [List.length_drop, List.length_take]; rfl)) ?_; (with_reducible refine (spec_l01Ok.calls k _ _ l0 true _ ?side1 ?side2 A3.out).mono ?_); (case side1 => repeat (first | exact (Kd.C_below HR0.out HB.out) | (with_reducible refine Kd.C_alloc ?_ _) | (with_reducible refine Kd.C_drewN ?_ _) | (with_reducible refine Kd.C_drew ?_))); (case side2 => exact HC0.out); rintro e w' ⟨rfl, ⟨nd, rfl⟩⟩; refine ⟨_, rfl, ?_⟩; have hcz7_0 : w6.cell? ⟨gb203, 0, none⟩ = some (.int .u8 a1_0) := (blk_cell BK203.out 0).trans rfl; have hcz7_1 : w6.cell? ⟨gb203, 1, none⟩ = some (.int .u8 a1_1) := (blk_cell BK203.out 1).trans rfl; have hcz7_2 : w6.cell? ⟨gb203, 2, none⟩ = some (.int .u8 a1_2) := (blk_cell BK203.out 2).trans rfl; have hcz7_3 : w6.cell? ⟨gb203, 3, none⟩ = some (.int .u8 a1_3) := (blk_cell BK203.out 3).trans rfl; have hcz7_4 : w6.cell? ⟨gb203, 4, none⟩ = some (.int .u8 a1_4) := (blk_cell BK203.out 4).trans rfl; have hcz7_5 : w6.cell? ⟨gb203, 5, none⟩ = some (.int .u8 a1_5) := (blk_cell BK203.out 5).trans rfl; have hcz7_6 : w6.cell? ⟨gb203, 6, none⟩ = some (.int .u8 a1_6) := (blk_cell BK203.out 6).trans rfl; have hcz7_7 : w6.cell? ⟨gb203, 7, none⟩ = some (.int .u8 a1_7) := (blk_cell BK203.out 7).trans rfl; have hfz7_0 := blk_frozen BK203.out 0; have hfz7_1 := blk_frozen BK203.out 1; have hfz7_2 := blk_frozen BK203.out 2; have hfz7_3 := blk_frozen BK203.out 3; have hfz7_4 := blk_frozen BK203.out 4; have hfz7_5 := blk_frozen BK203.out 5; have hfz7_6 := blk_frozen BK203.out 6; have hfz7_7 := blk_frozen BK203.out 7) | (go_at_call 46; (with_reducible refine (spec_l01Digits.calls k _ _ l0 a1_0 a1_1 a1_2 a1_3 a1_4 a1_5 a1_6 a1_7 t205 _ ?side1 ?side2 A5.out).mono ?_); (case side1 => repeat (first | exact (Kd.C_below HR0.out (by repeat (first | (with_reducible first | exact HB.out | apply below_alloc | apply pw_below_drewN | apply below_drew1 | refine below_set ?_ GE203.out) | exact HB.out))) | (with_reducible refine Kd.C_alloc ?_ _) | (with_reducible refine Kd.C_drewN ?_ _) | (with_reducible refine Kd.C_drew ?_))); (case side2 => exact HC0.out); rintro e w8 ⟨rfl, hb⟩; have n0_ := Aside0.mk (blk_below (g := gb203) (o := .cells #[.int .u8 a1_0, .int .u8 a1_1, .int .u8 a1_2, .int .u8 a1_3, .int .u8 a1_4, .int .u8 a1_5, .int .u8 a1_6, .int .u8 a1_7] 37 (0, 0)) (by (with_reducible repeat (first | refine blk_drewN ?_ _ | refine blk_drew ?_ | refine blk_alloc ?_ _)); exact BK203.out) hb); have n1_ := Aside0.mk (below_step (by repeat (first | (with_reducible first | exact HB.out | apply below_alloc | apply pw_below_drewN | apply below_drew1 | refine below_set ?_ GE203.out) | exact HB.out)) hb); clear BK203; clear HB; have BK203 := n0_; have HB := n1_; clear n0_ n1_; (try clear hb); (try clear hb2); (try clear hk); (try clear hi)))
    go_ret
    exact ⟨by first | rfl | (simp [errW_none, errW_some] <;> rfl) | (simp [*, errW_none, errW_some] <;> rfl), by repeat (first | (with_reducible first | exact HB.out | apply below_alloc | apply pw_below_drewN | apply below_drew1 | refine below_set ?_ GE203.out) | exact HB.out)⟩
  · replace c4 := Bool.eq_false_iff.mpr c4
    subst c4
    have H1 : (some false) = some r := by rw [if_neg (show ¬ (false = true) by decide)] at H; exact H
    clear H
    have H := H1
    clear H1
    obtain rfl := Option.some.inj H
    go_enter Tryd.func26, Tryd.ntmps26
    go_wp2_with (first | ((with_reducible refine gate_dst (N := 3) rfl ?_); refine box_event ?hg (N := 3) ?hd (cs := #[.int .u8 a1_0, .int .u8 a1_1, .int .u8 a1_2, .int .u8 a1_3, .int .u8 a1_4, .int .u8 a1_5, .int .u8 a1_6, .int .u8 a1_7]) (t := 37) ?hr ?_; (case hd => rfl); (case hg => rfl); (case hr => first | (go_simp; done) | (go_simp; rfl)); intro gb203 hg w9 hbox hb; have n0_ := Aside0.mk (below_step (by repeat (first | (with_reducible first | exact HB.out | apply below_alloc | apply pw_below_drewN | apply below_drew1) | exact HB.out)) hb); have n1_ := Aside0.mk (hbox); have n2_ := Aside0.mk ((by rw [hg]; exact (below_size (by repeat (first | (with_reducible first | exact HB.out | apply below_alloc | apply pw_below_drewN | apply below_drew1) | exact HB.out))) : w.heap.size ≤ gb203)); have n3_ := Aside0.mk ((by rw [hg]; exact (below_size (by repeat (first | (with_reducible first | exact HB.out | apply below_alloc | apply pw_below_drewN | apply below_drew1) | exact HB.out))) : w.heap.size ≤ gb203)); clear HB; have HB := n0_; have BK203 := n1_; have GW203 := n2_; have GE203 := n3_; clear n0_ n1_ n2_ n3_; clear hb hbox hg) | ((with_reducible refine gate_callee (f := 30) rfl ?_); refine goesL_ (some 6) rfl rfl Tryd.func30 (by kernel_rfl) rfl #[.slice A0 l0.length c0] rfl (by (try simp only [List.map_toArray, List.map_cons, List.map_nil]); first | done | rfl | (simp only [List.length_drop, List.length_take]; rfl)) ?_; (with_reducible refine (spec_l01Ok.calls k _ _ l0 false _ ?side1 ?side2 A3.out).mono ?_); (case side1 => repeat (first | exact (Kd.C_below HR0.out HB.out) | (with_reducible refine Kd.C_alloc ?_ _) | (with_reducible refine Kd.C_drewN ?_ _) | (with_reducible refine Kd.C_drew ?_))); (case side2 => exact HC0.out); rintro e w' ⟨rfl, ⟨nd, rfl⟩⟩; refine ⟨_, rfl, ?_⟩))
    go_ret
    exact ⟨by first | rfl | (simp [errW_none, errW_some] <;> rfl) | (simp [*, errW_none, errW_some] <;> rfl), by repeat (first | (with_reducible first | exact HB.out | apply below_alloc | apply pw_below_drewN | apply below_drew1 | refine below_set ?_ GE203.out) | exact HB.out)⟩

end Go.Proofs.YtgfimdoildaonaaDoor.P

/- impl.ValidDigits. -/
namespace Go.Proofs.YtgfimdoildaonaaDoor.P
open Go.RowKit Go.Proofs.YtgfimdoildaonaaDoorW.PrintWords Go.Proofs.YtgfimdoildaonaaDoorW.PrintLast Go.Proofs.YtgfimdoildaonaaDoorW.PrintMore
set_option linter.unusedVariables false
set_option linter.unusedSimpArgs false
def okD (s : List Int) (d : Dg) (i : Nat) : Bool := if i < s.length then decide (nth (dlist d) i < rd s i) else decide (nth (dlist d) i = 0)
def okDg (s : List Int) (d : Dg) : Bool := okStk s && (List.range 8).all (okD s d)
theorem range_succ_all' (p : Nat → Bool) (n : Nat) : (List.range (n + 1)).all p = ((List.range n).all p && p n) := by
  rw [List.range_succ, List.all_append]; simp
theorem not_all_range' (p : Nat → Bool) (n m : Nat) (h : n < m) (hp : p n = false) : (List.range m).all p = false := by
  rw [List.all_eq_false]
  exact ⟨n, List.mem_range.2 h, by rw [hp]; simp⟩
theorem okStk_len {s : List Int} (h : okStk s = true) : 1 ≤ s.length ∧ s.length ≤ 8 := by
  unfold okStk at h
  simp only [Bool.and_eq_true, decide_eq_true_eq] at h
  exact h.1
theorem okStk_base {s : List Int} (h : okStk s = true) (i : Nat) (hi : i < s.length) : 2 ≤ rd s i ∧ rd s i ≤ 100 := by
  unfold okStk at h
  simp only [Bool.and_eq_true, decide_eq_true_eq] at h
  have := List.all_eq_true.1 h.2.1 (rd s i) (by
    have hrd : rd s i = s[i] := by simp [rd, List.getD_eq_getElem?_getD, List.getElem?_eq_getElem hi]
    rw [hrd]; exact List.getElem_mem hi)
  unfold okBase at this
  exact of_decide_eq_true this
theorem index_dg (d : Dg) (m : Int) (h0 : 0 ≤ m) (h1 : m < 8) (W : World) :
    (Instr.index 37 (.agg #[.int .u8 d.f0, .int .u8 d.f1, .int .u8 d.f2, .int .u8 d.f3, .int .u8 d.f4, .int .u8 d.f5, .int .u8 d.f6, .int .u8 d.f7]) (.int .i64 m)).run Tryd.prog W = .ok (.int .u8 (nth (dlist d) m)) W :=
  index_nth .u8 37 5 (dlist d) m 8 Tryd.underlying37 Tryd.isAgg5 Tryd.sizeOf5 rfl h0 h1 W

set_option maxHeartbeats 2000000 in
set_option maxRecDepth 100000 in
theorem validDigits_at (A0 : Option Addr) (c0 : Nat) (s : List Int) (d : Dg) (w : World) (hr : Kd.C (Kd.int .u8) w A0 s.length s) (hc : s.length ≤ c0) (hn : s.length ≤ 1048576) (hd : ∀ i : Nat, i < 8 → 0 ≤ nth (dlist d) i ∧ nth (dlist d) i ≤ 255) :
    Calls Tryd.prog 28 #[.slice A0 s.length c0, .agg #[.int .u8 d.f0, .int .u8 d.f1, .int .u8 d.f2, .int .u8 d.f3, .int .u8 d.f4, .int .u8 d.f5, .int .u8 d.f6, .int .u8 d.f7]] w fun e w' => e = .returned (.bool (okDg s d)) ∧ Below w.heap.size w w' := by
  have HX := Aside0.mk (index_dg d)
  have HR := Aside0.mk hr
  have HDA := Aside0.mk hd
  clear hr hd
  obtain ⟨P, hP⟩ : ∃ P, P = okDg s d := ⟨_, rfl⟩
  rw [← hP]
  have hP := Aside0.mk hP
  have HV := Aside0.mk (fun W hb => validStack_at A0 c0 s W (Kd.C_below HR.out hb) hc hn)
  cases hk : okStk s with
  | false =>
    rw [hk] at HV
    have HPo := Aside0.mk (show P = false from by rw [hP.out]; unfold okDg; rw [hk]; rfl)
    clear hk hP
    have HB1 := Aside0.mk (below_alloc (Below.refl w.heap.size w) (.cells #[.int .u8 d.f0, .int .u8 d.f1, .int .u8 d.f2, .int .u8 d.f3, .int .u8 d.f4, .int .u8 d.f5, .int .u8 d.f6, .int .u8 d.f7] 37))
    go_enter Tryd.func28, Tryd.ntmps28
    go_wp2_with (go_at_call 33; refine (HV.out _ HB1.out).mono ?_; rintro e w2 ⟨rfl, hb⟩; (have HB2 := Aside0.mk (below_step HB1.out hb)); clear hb)
    go_ret
    exact ⟨by rw [HPo.out]; rfl, HB2.out⟩
  | true =>
    rw [hk] at HV
    obtain ⟨hl1, hl8⟩ := okStk_len hk
    have HBA := Aside0.mk (okStk_base hk)
    have HPo := Aside0.mk (show P = (List.range 8).all (okD s d) from by rw [hP.out]; unfold okDg; rw [hk]; rfl)
    clear hk hP
    have HB1 := Aside0.mk (below_alloc (Below.refl w.heap.size w) (.cells #[.int .u8 d.f0, .int .u8 d.f1, .int .u8 d.f2, .int .u8 d.f3, .int .u8 d.f4, .int .u8 d.f5, .int .u8 d.f6, .int .u8 d.f7] 37))
    have HK1 := Aside0.mk (blk_new w (.cells #[.int .u8 d.f0, .int .u8 d.f1, .int .u8 d.f2, .int .u8 d.f3, .int .u8 d.f4, .int .u8 d.f5, .int .u8 d.f6, .int .u8 d.f7] 37))
    go_enter Tryd.func28, Tryd.ntmps28
    go_wp2_with (go_at_call 33; refine (HV.out _ HB1.out).mono ?_; rintro e w2 ⟨rfl, hb⟩; (have HB2 := Aside0.mk (below_step HB1.out hb)); (have HK2 := Aside0.mk (blk_below HK1.out hb)); clear hb; (have hq0 := (blk_cell HK2.out 0).trans rfl); (have hq1 := (blk_cell HK2.out 1).trans rfl); (have hq2 := (blk_cell HK2.out 2).trans rfl); (have hq3 := (blk_cell HK2.out 3).trans rfl); (have hq4 := (blk_cell HK2.out 4).trans rfl); (have hq5 := (blk_cell HK2.out 5).trans rfl); (have hq6 := (blk_cell HK2.out 6).trans rfl); (have hq7 := (blk_cell HK2.out 7).trans rfl))
    clear hq0 hq1 hq2 hq3 hq4 hq5 hq6 hq7
    go_loopw [11] (fun i wr => ∃ m : Nat, m ≤ 8 ∧ i = .int .i64 m ∧ Aside0 ((List.range m).all (okD s d) = true) ∧ Aside0 (Below w.heap.size w wr)) (fun i _ => 8 - (intOf i).toNat)
    case atStart => exact ⟨0, by omega, rfl, ⟨rfl⟩, HB2⟩
    case round =>
      clear HB2 HK2 HB1 HK1
      obtain ⟨m, hm, rfl, HA, HB⟩ := hrel
      by_cases hlt : m < 8
      · have hix := HX.out (m : Int) (by omega) (by omega)
        have HWh := Aside0.mk (show okD s d m = if m < s.length then decide (nth (dlist d) m < rd s m) else decide (nth (dlist d) m = 0) from rfl)
        have hdm := HDA.out m hlt
        generalize nth (dlist d) (m : Int) = z at hix HWh hdm
        obtain ⟨hz0, hz1⟩ := hdm
        by_cases hin : m < s.length
        · have hcmp : decide ((m : Int) < (s.length : Int)) = true := decide_eq_true (by omega)
          have hcmp' : decide ((s.length : Int) ≤ (m : Int)) = false := decide_eq_false (by omega)
          obtain ⟨ad, e, hy⟩ := Kd.at_int HR.out (m : Int) (by omega) (by omega)
          cases e
          rw [Int.toNat_natCast] at hy
          replace hy := (HB.out.cell (World.block_lt_of_cell? w _ hy)).trans hy
          have hbs := HBA.out m hin
          rw [if_pos hin] at HWh
          generalize rd s (m : Int) = b at hy hbs HWh
          have hm0 : (0 : Int) ≤ (m : Int) := by omega
          have hm1 : (m : Int) < (s.length : Int) := by omega
          by_cases hzb : z < b
          · have hzb' : decide (b ≤ z) = false := decide_eq_false (by omega)
            have HWe := Aside0.mk (show okD s d m = true by rw [HWh.out]; exact decide_eq_true hzb)
            clear HWh hzb
            go_wp2_with fail
            first
              | (go_roundw
                 case rel => exact ⟨m + 1, by omega, by go_num, ⟨by rw [range_succ_all', HA.out, HWe.out]; rfl⟩, HB⟩
                 case measure => simp [intOf]; try omega)
              | exact ⟨⟨m + 1, by omega, by go_num, ⟨by rw [range_succ_all', HA.out, HWe.out]; rfl⟩, HB⟩, by simp [intOf]; try omega⟩
          · have hzb' : decide (b ≤ z) = true := decide_eq_true (by omega)
            have HWe := Aside0.mk (show okD s d m = false by rw [HWh.out]; exact decide_eq_false hzb)
            clear HWh hzb
            go_wp2_with fail
            go_ret
            exact ⟨by rw [HPo.out, not_all_range' _ m 8 hlt HWe.out]; rfl, HB.out⟩
        · have hcmp : decide ((m : Int) < (s.length : Int)) = false := decide_eq_false (by omega)
          have hcmp' : decide ((s.length : Int) ≤ (m : Int)) = true := decide_eq_true (by omega)
          rw [if_neg hin] at HWh
          by_cases hz : z = 0
          · have hz' : decide (0 < z) = false := decide_eq_false (by omega)
            have HWe := Aside0.mk (show okD s d m = true by rw [HWh.out]; exact decide_eq_true hz)
            clear HWh hz
            go_wp2_with fail
            first
              | (go_roundw
                 case rel => exact ⟨m + 1, by omega, by go_num, ⟨by rw [range_succ_all', HA.out, HWe.out]; rfl⟩, HB⟩
                 case measure => simp [intOf]; try omega)
              | exact ⟨⟨m + 1, by omega, by go_num, ⟨by rw [range_succ_all', HA.out, HWe.out]; rfl⟩, HB⟩, by simp [intOf]; try omega⟩
          · have hz' : decide (0 < z) = true := decide_eq_true (by omega)
            have HWe := Aside0.mk (show okD s d m = false by rw [HWh.out]; exact decide_eq_false hz)
            clear HWh hz
            go_wp2_with fail
            go_ret
            exact ⟨by rw [HPo.out, not_all_range' _ m 8 hlt HWe.out]; rfl, HB.out⟩
      · obtain rfl : m = 8 := by omega
        go_wp2_with fail
        go_ret
        exact ⟨by rw [HPo.out, HA.out]; rfl, HB.out⟩
end Go.Proofs.YtgfimdoildaonaaDoor.P
