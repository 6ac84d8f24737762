/- Joined texts, in the order in which they were built alone: Pspecl05Wheel, PimplMarksdigits, Rnd, Back, Pad, Stx, PhT, PimplValidStack1, PimplStacksize. -/
import Derived.Test.YtgfimdoildaonaaDoorPh0
import Derived.Test.YtgfimdoildaonaaDoorPh1
import Derived.Test.YtgfimdoildaonaaDoorPh2
import Derived.Test.YtgfimdoildaonaaDoorWMore
import Derived.Test.YtgfimdoildaonaaDoorWTab
import Derived.OrdersIn
import Derived.RangeFuncNested
import Derived.RangeFuncBound
import Derived.RangeFuncCalls
import Derived.RangeFuncLeaves
import Derived.RangeFuncBox
import Derived.Test.YtgfimdoildaonaaDoorProg
import Derived.Shelf.Abstract
import Derived.WalkKit
import Derived.OwnWalkIn
import Derived.TacticsInMore
import Derived.LoopNIn
import Derived.LoopIn
import Derived.WalkSpells
import Derived.Outline
import Derived.Maps.AppendAt
import Derived.Laws.BitsAllLaws
import Derived.Laws.Strings
-- Written by a program of this session (a turned form of the kit's print) out of the translation.
namespace Go.Proofs.YtgfimdoildaonaaDoor.P
open Go.RowKit Go.Proofs.YtgfimdoildaonaaDoorW.PrintWords Go.Proofs.YtgfimdoildaonaaDoorW.PrintLast Go.Proofs.YtgfimdoildaonaaDoorW.PrintMore
attribute [local go_sem] eqPairB max2_int min2_int max_two min_two max_three min_three max_four min_four   -- for this text's walks alone
set_option linter.unusedVariables false
set_option linter.unusedSimpArgs false

/-! ### spec_l05Wheel: function 37 -/
def spec_l05Wheel.l0 : Nat → Int → ByteArray → Int → Int → Int → Option (ByteArray)
  | 0, _, _, _, _, _ => none
  | k + 1, x1, x5, x6, x135000, x135001 => if x6 < (wrap64 (x1)) then ((spec_l05Has.f x135000 x135001 x6).bind fun t137 => (if t137 = true then (if x5.toList = ([] : List UInt8) then ((specDecimal.f x6).bind fun t138 => (if x5.size + t138.size ≤ 9223372036854775807 then (spec_l05Wheel.l0 k x1 (x5 ++ t138) (wrap64 (x6 + 1)) x135000 x135001) else (none))) else (if x5.size + 1 ≤ 9223372036854775807 then ((specDecimal.f x6).bind fun t139 => (if (x5 ++ (⟨#[124]⟩ : ByteArray)).size + t139.size ≤ 9223372036854775807 then (spec_l05Wheel.l0 k x1 ((x5 ++ (⟨#[124]⟩ : ByteArray)) ++ t139) (wrap64 (x6 + 1)) x135000 x135001) else (none))) else (none))) else (spec_l05Wheel.l0 k x1 x5 (wrap64 (x6 + 1)) x135000 x135001))) else (some x5)
def spec_l05Wheel.f (k : Nat) (a0_0 : Int) (a0_1 : Int) (a1 : Int) : Option (ByteArray) := (spec_l05Full.f k a1).bind fun bt135 => (if a0_0 = bt135.1 then (if a0_1 = bt135.2 then (some (⟨#[63]⟩ : ByteArray)) else (spec_l05Wheel.l0 k a1 (⟨#[]⟩ : ByteArray) 0 a0_0 a0_1)) else (spec_l05Wheel.l0 k a1 (⟨#[]⟩ : ByteArray) 0 a0_0 a0_1))
theorem spec_l05Wheel.mono_l : ∀ k, (∀ y0 y1 y2 y3 y4, LeO (spec_l05Wheel.l0 k y0 y1 y2 y3 y4) (spec_l05Wheel.l0 (k + 1) y0 y1 y2 y3 y4))
  | 0 => fun _ _ _ _ _ r h => by simp [spec_l05Wheel.l0] at h
  | k + 1 => by
    have ih0 := spec_l05Wheel.mono_l k
    · intro y0 y1 y2 y3 y4
      unfold spec_l05Wheel.l0
      repeat' first
      | (with_reducible exact ih0 _ _ _ _ _)
      | (with_reducible exact spec_l05Full.mono _ _)
      | (with_reducible exact LeO.refl _)
      | (with_reducible exact LeO.none _)
      | (with_reducible refine LeO.ite ?_ ?_)
      | (with_reducible refine LeO.bind ?_ (fun _ => ?_))
      | exact ih0 _ _ _ _ _
      | exact spec_l05Full.mono _ _
      | exact LeO.none _
      | refine LeO.ite ?_ ?_
      | refine LeO.bind ?_ (fun _ => ?_)
theorem spec_l05Wheel.mono : ∀ a0 a1 a2 k, LeO (spec_l05Wheel.f k a0 a1 a2) (spec_l05Wheel.f (k + 1) a0 a1 a2) := by
  intro a0 a1 a2 k
  have ih0 := spec_l05Wheel.mono_l k
  unfold spec_l05Wheel.f
  repeat' first
      | (with_reducible exact ih0 _ _ _ _ _)
      | (with_reducible exact spec_l05Full.mono _ _)
      | (with_reducible exact LeO.refl _)
      | (with_reducible exact LeO.none _)
      | (with_reducible refine LeO.ite ?_ ?_)
      | (with_reducible refine LeO.bind ?_ (fun _ => ?_))
      | exact ih0 _ _ _ _ _
      | exact spec_l05Full.mono _ _
      | exact LeO.none _
      | refine LeO.ite ?_ ?_
      | refine LeO.bind ?_ (fun _ => ?_)
set_option maxHeartbeats 8000000 in
set_option maxRecDepth 100000 in
theorem spec_l05Wheel.calls (k : Nat) (a0_0 : Int) (a0_1 : Int) (a1 : Int) (r : ByteArray) (w : World) (h : spec_l05Wheel.f k a0_0 a0_1 a1 = some r) :
    Calls Tryd.prog 37 #[.agg #[.int .u64 a0_0, .int .u64 a0_1], .int .u8 a1] w fun e w' => e = .returned (.string r) ∧ Below w.heap.size w w' := by
  have hu29 := Tryd.underlying29
  have HB := Aside0.mk (Below.refl w.heap.size w)
  have H : ((spec_l05Full.f k a1).bind fun bt135 => (if a0_0 = bt135.1 then (if a0_1 = bt135.2 then (some (⟨#[63]⟩ : ByteArray)) else (spec_l05Wheel.l0 k a1 (⟨#[]⟩ : ByteArray) 0 a0_0 a0_1)) else (spec_l05Wheel.l0 k a1 (⟨#[]⟩ : ByteArray) 0 a0_0 a0_1))) = some r := h
  clear h
  replace H := Option.bind_eq_some_iff.mp H
  obtain ⟨⟨t135, t136⟩, A30, H⟩ := H
  replace H : (if a0_0 = t135 then (if a0_1 = t136 then (some (⟨#[63]⟩ : ByteArray)) else (spec_l05Wheel.l0 k a1 (⟨#[]⟩ : ByteArray) 0 a0_0 a0_1)) else (spec_l05Wheel.l0 k a1 (⟨#[]⟩ : ByteArray) 0 a0_0 a0_1)) = some r := H
  have A3 := Aside0.mk A30
  clear A30
  by_cases c4 : a0_0 = t135
  · rw [if_pos c4] at H
    have c4b0 : (a0_0 == t135) = true := beq_iff_eq.mpr c4
    have c4b1 : (a0_0 != t135) = false := bne_eq_false_iff_eq.mpr c4
    clear c4
    by_cases c5 : a0_1 = t136
    · rw [if_pos c5] at H
      have c5b0 : (a0_1 == t136) = true := beq_iff_eq.mpr c5
      have c5b1 : (a0_1 != t136) = false := bne_eq_false_iff_eq.mpr c5
      clear c5
      obtain rfl := Option.some.inj H
      go_enter Tryd.func37, Tryd.ntmps37
      try go_wp2_with (first | ((with_reducible refine gate_dst (N := 2) rfl ?_); refine box_event ?hg (N := 2) ?hd (cs := #[.int .u64 a0_0, .int .u64 a0_1]) (t := 29) ?hr ?_; (case hd => rfl); (case hg => rfl); (case hr => first | (go_simp; done) | (go_simp; rfl)); intro gb134 hg w6 hbox hb; have n0_ := Aside0.mk (below_step (by repeat (first | (with_reducible first | exact HB.out | apply below_alloc | apply pw_below_drewN | apply below_drew1) | exact HB.out)) hb); have n1_ := Aside0.mk (hbox); have n2_ := Aside0.mk ((by rw [hg]; exact (below_size (by repeat (first | (with_reducible first | exact HB.out | apply below_alloc | apply pw_below_drewN | apply below_drew1) | exact HB.out))) : w.heap.size ≤ gb134)); have n3_ := Aside0.mk ((by rw [hg]; exact (below_size (by repeat (first | (with_reducible first | exact HB.out | apply below_alloc | apply pw_below_drewN | apply below_drew1) | exact HB.out))) : w.heap.size ≤ gb134)); clear HB; have HB := n0_; have BK134 := n1_; have GW134 := n2_; have GE134 := n3_; clear n0_ n1_ n2_ n3_; clear hb hbox hg))
      have n0_ := Aside0.mk (blk_drew BK134.out)
      have n1_ := Aside0.mk (below_drew1 HB.out)
      clear BK134
      clear HB
      have BK134 := n0_
      have HB := n1_
      clear n0_ n1_
      refine start_ (n := 4) (S := fun w' => w'.cell? ⟨gb134, 0, none⟩ = some (.int .u64 a0_0) ∧ w'.cell? ⟨gb134, 1, none⟩ = some (.int .u64 a0_1)) (ds := []) #[false, false, false, false] (by kernel_rfl) rfl rfl ⟨(blk_cell BK134.out 0).trans rfl, (blk_cell BK134.out 1).trans rfl⟩ (fun hHeld => ?_)
      generalize w6.drew = w7 at BK134 HB hHeld ⊢
      refine pure_ (i := 1) (N := some 8) (v := ?_) (a' := ?_) #[false, true, false, false] rfl rfl (by kernel_rfl) (fun _ _ _ h => h) (Or.inl ⟨by rfl, ?_⟩) ?_ ?_
      rotate_left
      · intro w'
        go_simp
        with_reducible rfl
      rotate_left
      · simp only [Act.put, List.setIfInBounds_toArray, List.set_cons_zero, List.set_cons_succ, i64_w, i32_w]
        rfl
      refine take_ (i := 0) (N := some 7) (v := ?_) (a' := ?_) #[true, true, false, false] rfl rfl (by kernel_rfl) (fun _ _ _ h => h) (Or.inl ⟨by rfl, ?_⟩) hHeld ?_ ?_
      rotate_left
      · rintro w' ⟨s0, s1⟩
        go_simp
        with_reducible rfl
      rotate_left
      · simp only [Act.put, List.setIfInBounds_toArray, List.set_cons_zero, List.set_cons_succ, i64_w, i32_w]
        rfl
      refine one_ (i := 2) (N := some 9) #[true, true, true, false] rfl rfl (by kernel_rfl) (by decide) (fun K hK => ?_)
      refine goes_ Tryd.func61 (by kernel_rfl) rfl #[.int .u8 a1] (by rfl) rfl rfl (by (try simp only [List.map_toArray, List.map_cons, List.map_nil]); first | done | rfl | (simp only [List.length_drop, List.length_take]; rfl)) ?_
      with_reducible refine (spec_l05Full.calls k a1 t135 t136 _ A3.out).mono ?_
      rintro e w8 ⟨rfl, hb⟩
      refine ⟨_, rfl, ?_⟩
      have n0_ := Aside0.mk (blk_below (g := gb134) (o := .cells #[.int .u64 a0_0, .int .u64 a0_1] 29 (0, 0)) (by (with_reducible repeat (first | refine blk_drewN ?_ _ | refine blk_drew ?_ | refine blk_alloc ?_ _)); exact BK134.out) hb)
      have n1_ := Aside0.mk (below_step (by repeat (first | (with_reducible first | exact HB.out | apply below_alloc | apply pw_below_drewN | apply below_drew1 | refine below_set ?_ GE134.out) | exact HB.out)) hb)
      clear BK134
      clear HB
      have BK134 := n0_
      have HB := n1_
      clear n0_ n1_
      (try clear hb)
      (try clear hb2)
      (try clear hk)
      (try clear hi)
      refine hK.out _ _ ⟨(blk_cell BK134.out 0).trans rfl, (blk_cell BK134.out 1).trans rfl⟩ (fun hHeld => ?_)
      clear hK K
      refine norm_ (a' := ?_) ?_ ?_
      rotate_left
      · show Act.put _ (some 9) _ = _
        simp only [Act.put, List.setIfInBounds_toArray, List.set_cons_zero, List.set_cons_succ, i64_w, i32_w]
        rfl
      refine pure_ (i := 3) (N := some 10) (v := ?_) (a' := ?_) #[true, true, true, true] rfl rfl (by kernel_rfl) (fun _ _ _ h => h) (Or.inl ⟨by rfl, ?_⟩) ?_ ?_
      rotate_left
      · intro w'
        go_simp
        with_reducible rfl
      rotate_left
      · simp only [Act.put, List.setIfInBounds_toArray, List.set_cons_zero, List.set_cons_succ, i64_w, i32_w]
        rfl
      refine done_ (by kernel_rfl) ?_
      try go_wp2
      go_ret
      exact ⟨by first | rfl | (simp [errW_none, errW_some] <;> rfl) | (simp [*, errW_none, errW_some] <;> rfl), by repeat (first | (with_reducible first | exact HB.out | apply below_alloc | apply pw_below_drewN | apply below_drew1 | refine below_set ?_ GE134.out) | exact HB.out)⟩
    · rw [if_neg c5] at H
      have c5b0 : (a0_1 == t136) = false := beq_eq_false_iff_ne.mpr c5
      have c5b1 : (a0_1 != t136) = true := bne_iff_ne.mpr c5
      have H' := Aside0.mk H
      clear H
      go_enter Tryd.func37, Tryd.ntmps37
      try go_wp2_with (first | ((with_reducible refine gate_dst (N := 2) rfl ?_); refine box_event ?hg (N := 2) ?hd (cs := #[.int .u64 a0_0, .int .u64 a0_1]) (t := 29) ?hr ?_; (case hd => rfl); (case hg => rfl); (case hr => first | (go_simp; done) | (go_simp; rfl)); intro gb134 hg w9 hbox hb; have n0_ := Aside0.mk (below_step (by repeat (first | (with_reducible first | exact HB.out | apply below_alloc | apply pw_below_drewN | apply below_drew1) | exact HB.out)) hb); have n1_ := Aside0.mk (hbox); have n2_ := Aside0.mk ((by rw [hg]; exact (below_size (by repeat (first | (with_reducible first | exact HB.out | apply below_alloc | apply pw_below_drewN | apply below_drew1) | exact HB.out))) : w.heap.size ≤ gb134)); have n3_ := Aside0.mk ((by rw [hg]; exact (below_size (by repeat (first | (with_reducible first | exact HB.out | apply below_alloc | apply pw_below_drewN | apply below_drew1) | exact HB.out))) : w.heap.size ≤ gb134)); clear HB; have HB := n0_; have BK134 := n1_; have GW134 := n2_; have GE134 := n3_; clear n0_ n1_ n2_ n3_; clear hb hbox hg))
      have n0_ := Aside0.mk (blk_drew BK134.out)
      have n1_ := Aside0.mk (below_drew1 HB.out)
      clear BK134
      clear HB
      have BK134 := n0_
      have HB := n1_
      clear n0_ n1_
      refine start_ (n := 4) (S := fun w' => w'.cell? ⟨gb134, 0, none⟩ = some (.int .u64 a0_0) ∧ w'.cell? ⟨gb134, 1, none⟩ = some (.int .u64 a0_1)) (ds := []) #[false, false, false, false] (by kernel_rfl) rfl rfl ⟨(blk_cell BK134.out 0).trans rfl, (blk_cell BK134.out 1).trans rfl⟩ (fun hHeld => ?_)
      generalize w9.drew = w10 at BK134 HB hHeld ⊢
      refine pure_ (i := 1) (N := some 8) (v := ?_) (a' := ?_) #[false, true, false, false] rfl rfl (by kernel_rfl) (fun _ _ _ h => h) (Or.inl ⟨by rfl, ?_⟩) ?_ ?_
      rotate_left
      · intro w'
        go_simp
        with_reducible rfl
      rotate_left
      · simp only [Act.put, List.setIfInBounds_toArray, List.set_cons_zero, List.set_cons_succ, i64_w, i32_w]
        rfl
      refine take_ (i := 0) (N := some 7) (v := ?_) (a' := ?_) #[true, true, false, false] rfl rfl (by kernel_rfl) (fun _ _ _ h => h) (Or.inl ⟨by rfl, ?_⟩) hHeld ?_ ?_
      rotate_left
      · rintro w' ⟨s0, s1⟩
        go_simp
        with_reducible rfl
      rotate_left
      · simp only [Act.put, List.setIfInBounds_toArray, List.set_cons_zero, List.set_cons_succ, i64_w, i32_w]
        rfl
      refine one_ (i := 2) (N := some 9) #[true, true, true, false] rfl rfl (by kernel_rfl) (by decide) (fun K hK => ?_)
      refine goes_ Tryd.func61 (by kernel_rfl) rfl #[.int .u8 a1] (by rfl) rfl rfl (by (try simp only [List.map_toArray, List.map_cons, List.map_nil]); first | done | rfl | (simp only [List.length_drop, List.length_take]; rfl)) ?_
      with_reducible refine (spec_l05Full.calls k a1 t135 t136 _ A3.out).mono ?_
      rintro e w11 ⟨rfl, hb⟩
      refine ⟨_, rfl, ?_⟩
      have n0_ := Aside0.mk (blk_below (g := gb134) (o := .cells #[.int .u64 a0_0, .int .u64 a0_1] 29 (0, 0)) (by (with_reducible repeat (first | refine blk_drewN ?_ _ | refine blk_drew ?_ | refine blk_alloc ?_ _)); exact BK134.out) hb)
      have n1_ := Aside0.mk (below_step (by repeat (first | (with_reducible first | exact HB.out | apply below_alloc | apply pw_below_drewN | apply below_drew1 | refine below_set ?_ GE134.out) | exact HB.out)) hb)
      clear BK134
      clear HB
      have BK134 := n0_
      have HB := n1_
      clear n0_ n1_
      (try clear hb)
      (try clear hb2)
      (try clear hk)
      (try clear hi)
      refine hK.out _ _ ⟨(blk_cell BK134.out 0).trans rfl, (blk_cell BK134.out 1).trans rfl⟩ (fun hHeld => ?_)
      clear hK K
      refine norm_ (a' := ?_) ?_ ?_
      rotate_left
      · show Act.put _ (some 9) _ = _
        simp only [Act.put, List.setIfInBounds_toArray, List.set_cons_zero, List.set_cons_succ, i64_w, i32_w]
        rfl
      refine pure_ (i := 3) (N := some 10) (v := ?_) (a' := ?_) #[true, true, true, true] rfl rfl (by kernel_rfl) (fun _ _ _ h => h) (Or.inl ⟨by rfl, ?_⟩) ?_ ?_
      rotate_left
      · intro w'
        go_simp
        with_reducible rfl
      rotate_left
      · simp only [Act.put, List.setIfInBounds_toArray, List.set_cons_zero, List.set_cons_succ, i64_w, i32_w]
        rfl
      refine done_ (by kernel_rfl) ?_
      try go_wp2
      go_loopg [5, 6] k (fun kq v5 v6 w' => ∃ (x5_1 : ByteArray) (x6_1 : Int), v5 = .string x5_1 ∧ v6 = .int .i64 x6_1 ∧ Aside0 (spec_l05Wheel.l0 kq a1 x5_1 x6_1 a0_0 a0_1 = some r) ∧ Aside0 (kq ≤ k) ∧ Aside0 (w'.heap[gb134]? = some (.cells #[.int .u64 a0_0, .int .u64 a0_1] 29 (0, 0))) ∧ Aside0 (Below w.heap.size w w'))
      case atStart => exact ⟨((⟨#[]⟩ : ByteArray)), (0), (by first | rfl | (simp; done) | (simp [*]; done)), (by first | rfl | (simp; done) | (simp [*]; done)), H', ⟨Nat.le_refl _⟩, ⟨by (with_reducible repeat (first | refine blk_drewN ?_ _ | refine blk_drew ?_ | refine blk_alloc ?_ _)); exact BK134.out⟩, ⟨by repeat (first | (with_reducible first | exact HB.out | apply below_alloc | apply pw_below_drewN | apply below_drew1 | refine below_set ?_ GE134.out) | exact HB.out)⟩⟩
      case round =>
        clear H'
        try clear p2
        try clear c3
        try clear c4
        try clear c4b0
        try clear c4b1
        try clear c5
        try clear c5b0
        try clear c5b1
        try clear c6
        obtain ⟨x5_1, x6_1, rfl, rfl, HA, HK1, BK134, HB⟩ := hrel
        cases gk with
        | zero => exact absurd HA.out (by simp [spec_l05Wheel.l0])
        | succ k1 =>
          have H := HA.out
          clear HA
          simp only [spec_l05Wheel.l0] at H
          by_cases c12 : x6_1 < (wrap64 (a1))
          · rw [if_pos c12] at H
            have c12b0 : decide (x6_1 < (wrap64 (a1))) = true := decide_eq_true c12
            clear c12
            replace H := Option.bind_eq_some_iff.mp H
            obtain ⟨t137, A130, H⟩ := H
            replace H : (if t137 = true then (if x5_1.toList = ([] : List UInt8) then ((specDecimal.f x6_1).bind fun t138 => (if x5_1.size + t138.size ≤ 9223372036854775807 then (spec_l05Wheel.l0 k1 a1 (x5_1 ++ t138) (wrap64 (x6_1 + 1)) a0_0 a0_1) else (none))) else (if x5_1.size + 1 ≤ 9223372036854775807 then ((specDecimal.f x6_1).bind fun t139 => (if (x5_1 ++ (⟨#[124]⟩ : ByteArray)).size + t139.size ≤ 9223372036854775807 then (spec_l05Wheel.l0 k1 a1 ((x5_1 ++ (⟨#[124]⟩ : ByteArray)) ++ t139) (wrap64 (x6_1 + 1)) a0_0 a0_1) else (none))) else (none))) else (spec_l05Wheel.l0 k1 a1 x5_1 (wrap64 (x6_1 + 1)) a0_0 a0_1)) = some r := H
            have A13 := Aside0.mk A130
            clear A130
            by_cases c14 : t137 = true
            · subst c14
              have H1 : (if x5_1.toList = ([] : List UInt8) then ((specDecimal.f x6_1).bind fun t138 => (if x5_1.size + t138.size ≤ 9223372036854775807 then (spec_l05Wheel.l0 k1 a1 (x5_1 ++ t138) (wrap64 (x6_1 + 1)) a0_0 a0_1) else (none))) else (if x5_1.size + 1 ≤ 9223372036854775807 then ((specDecimal.f x6_1).bind fun t139 => (if (x5_1 ++ (⟨#[124]⟩ : ByteArray)).size + t139.size ≤ 9223372036854775807 then (spec_l05Wheel.l0 k1 a1 ((x5_1 ++ (⟨#[124]⟩ : ByteArray)) ++ t139) (wrap64 (x6_1 + 1)) a0_0 a0_1) else (none))) else (none))) = some r := by rw [if_pos rfl] at H; exact H
              clear H
              have H := H1
              clear H1
              by_cases c15 : x5_1.toList = ([] : List UInt8)
              · rw [if_pos c15] at H
                have c15b0 : (x5_1.toList == ([] : List UInt8)) = true := beq_iff_eq.mpr c15
                have c15b1 : (x5_1.toList != ([] : List UInt8)) = false := bne_eq_false_iff_eq.mpr c15
                clear c15
                replace H := Option.bind_eq_some_iff.mp H
                obtain ⟨t138, A160, H⟩ := H
                replace H : (if x5_1.size + t138.size ≤ 9223372036854775807 then (spec_l05Wheel.l0 k1 a1 (x5_1 ++ t138) (wrap64 (x6_1 + 1)) a0_0 a0_1) else (none)) = some r := H
                have A16 := Aside0.mk A160
                clear A160
                by_cases c17 : x5_1.size + t138.size ≤ 9223372036854775807
                · rw [if_pos c17] at H
                  have c17b0 := eq_true c17
                  have c17b1 : decide (x5_1.size + t138.size ≤ 9223372036854775807) = true := decide_eq_true c17
                  try have c17b2 : (9223372036854775807 < x5_1.size + t138.size) = False := eq_false (Nat.not_lt.2 c17)
                  have H' := Aside0.mk H
                  clear H
                  have hcz18_0 : wr.cell? ⟨gb134, 0, none⟩ = some (.int .u64 a0_0) := (blk_cell BK134.out 0).trans rfl
                  have hcz18_1 : wr.cell? ⟨gb134, 1, none⟩ = some (.int .u64 a0_1) := (blk_cell BK134.out 1).trans rfl
                  have hfz18_0 := blk_frozen BK134.out 0
                  have hfz18_1 := blk_frozen BK134.out 1
                  go_wp2_with (first | ((with_reducible refine gate_callee (f := 62) rfl ?_); refine goesL_ (some 19) rfl rfl Tryd.func62 (by kernel_rfl) rfl #[.agg #[.int .u64 a0_0, .int .u64 a0_1], .int .i64 x6_1] rfl (by (try simp only [List.map_toArray, List.map_cons, List.map_nil]); first | done | rfl | (simp only [List.length_drop, List.length_take]; rfl)) ?_; (with_reducible refine (spec_l05Has.calls a0_0 a0_1 x6_1 true _ A13.out).mono ?_); rintro e w19 ⟨rfl, hb⟩; refine ⟨_, rfl, ?_⟩; have n0_ := Aside0.mk (blk_below (g := gb134) (o := .cells #[.int .u64 a0_0, .int .u64 a0_1] 29 (0, 0)) (by (with_reducible repeat (first | refine blk_drewN ?_ _ | refine blk_drew ?_ | refine blk_alloc ?_ _)); exact BK134.out) hb); have n1_ := Aside0.mk (below_step (by repeat (first | (with_reducible first | exact HB.out | apply below_alloc | apply pw_below_drewN | apply below_drew1 | refine below_set ?_ GE134.out) | exact HB.out)) hb); clear BK134; clear HB; have BK134 := n0_; have HB := n1_; clear n0_ n1_; (try clear hb); (try clear hb2); (try clear hk); (try clear hi)) | ((with_reducible refine gate_callee (f := 52) rfl ?_); refine goesL_ (some 27) rfl rfl Tryd.func52 (by kernel_rfl) rfl #[.int .i64 x6_1] rfl (by (try simp only [List.map_toArray, List.map_cons, List.map_nil]); first | done | rfl | (simp only [List.length_drop, List.length_take]; rfl)) ?_; (with_reducible refine (specDecimal.calls x6_1 t138 _ A16.out).mono ?_); rintro e w20 ⟨rfl, hb⟩; refine ⟨_, rfl, ?_⟩; have n0_ := Aside0.mk (blk_below (g := gb134) (o := .cells #[.int .u64 a0_0, .int .u64 a0_1] 29 (0, 0)) (by (with_reducible repeat (first | refine blk_drewN ?_ _ | refine blk_drew ?_ | refine blk_alloc ?_ _)); exact BK134.out) hb); have n1_ := Aside0.mk (below_step (by repeat (first | (with_reducible first | exact HB.out | apply below_alloc | apply pw_below_drewN | apply below_drew1 | refine below_set ?_ GE134.out) | exact HB.out)) hb); clear BK134; clear HB; have BK134 := n0_; have HB := n1_; clear n0_ n1_; (try clear hb); (try clear hb2); (try clear hk); (try clear hi)))
                  go_roundg k1
                  case measure => have := HK1.out; omega
                  case rel => exact ⟨(x5_1 ++ t138), (wrap64 (x6_1 + 1)), (by first | rfl | (simp; done) | (simp [*]; done)), (by first | rfl | (simp; done) | (simp [*]; done)), H', ⟨by have := HK1.out; omega⟩, ⟨by (with_reducible repeat (first | refine blk_drewN ?_ _ | refine blk_drew ?_ | refine blk_alloc ?_ _)); exact BK134.out⟩, ⟨by repeat (first | (with_reducible first | exact HB.out | apply below_alloc | apply pw_below_drewN | apply below_drew1 | refine below_set ?_ GE134.out) | exact HB.out)⟩⟩
                · rw [if_neg c17] at H
                  exact absurd H (by simp)
              · rw [if_neg c15] at H
                have c15b0 : (x5_1.toList == ([] : List UInt8)) = false := beq_eq_false_iff_ne.mpr c15
                have c15b1 : (x5_1.toList != ([] : List UInt8)) = true := bne_iff_ne.mpr c15
                by_cases c21 : x5_1.size + 1 ≤ 9223372036854775807
                · rw [if_pos c21] at H
                  have c21b0 := eq_true c21
                  have c21b1 : decide (x5_1.size + 1 ≤ 9223372036854775807) = true := decide_eq_true c21
                  try have c21b2 : (9223372036854775807 < x5_1.size + 1) = False := eq_false (Nat.not_lt.2 c21)
                  replace H := Option.bind_eq_some_iff.mp H
                  obtain ⟨t139, A220, H⟩ := H
                  replace H : (if (x5_1 ++ (⟨#[124]⟩ : ByteArray)).size + t139.size ≤ 9223372036854775807 then (spec_l05Wheel.l0 k1 a1 ((x5_1 ++ (⟨#[124]⟩ : ByteArray)) ++ t139) (wrap64 (x6_1 + 1)) a0_0 a0_1) else (none)) = some r := H
                  have A22 := Aside0.mk A220
                  clear A220
                  by_cases c23 : (x5_1 ++ (⟨#[124]⟩ : ByteArray)).size + t139.size ≤ 9223372036854775807
                  · rw [if_pos c23] at H
                    have c23b0 := eq_true c23
                    have c23b1 : decide ((x5_1 ++ (⟨#[124]⟩ : ByteArray)).size + t139.size ≤ 9223372036854775807) = true := decide_eq_true c23
                    try have c23b2 : (9223372036854775807 < (x5_1 ++ (⟨#[124]⟩ : ByteArray)).size + t139.size) = False := eq_false (Nat.not_lt.2 c23)
                    simp only [ByteArray.size_append, show (⟨#[124]⟩ : ByteArray).size = 1 from rfl] at c23b0 c23b1 c23b2
                    have H' := Aside0.mk H
                    clear H
                    have hcz24_0 : wr.cell? ⟨gb134, 0, none⟩ = some (.int .u64 a0_0) := (blk_cell BK134.out 0).trans rfl
                    have hcz24_1 : wr.cell? ⟨gb134, 1, none⟩ = some (.int .u64 a0_1) := (blk_cell BK134.out 1).trans rfl
                    have hfz24_0 := blk_frozen BK134.out 0
                    have hfz24_1 := blk_frozen BK134.out 1
                    go_wp2_with (first | ((with_reducible refine gate_callee (f := 62) rfl ?_); refine goesL_ (some 19) rfl rfl Tryd.func62 (by kernel_rfl) rfl #[.agg #[.int .u64 a0_0, .int .u64 a0_1], .int .i64 x6_1] rfl (by (try simp only [List.map_toArray, List.map_cons, List.map_nil]); first | done | rfl | (simp only [List.length_drop, List.length_take]; rfl)) ?_; (with_reducible refine (spec_l05Has.calls a0_0 a0_1 x6_1 true _ A13.out).mono ?_); rintro e w25 ⟨rfl, hb⟩; refine ⟨_, rfl, ?_⟩; have n0_ := Aside0.mk (blk_below (g := gb134) (o := .cells #[.int .u64 a0_0, .int .u64 a0_1] 29 (0, 0)) (by (with_reducible repeat (first | refine blk_drewN ?_ _ | refine blk_drew ?_ | refine blk_alloc ?_ _)); exact BK134.out) hb); have n1_ := Aside0.mk (below_step (by repeat (first | (with_reducible first | exact HB.out | apply below_alloc | apply pw_below_drewN | apply below_drew1 | refine below_set ?_ GE134.out) | exact HB.out)) hb); clear BK134; clear HB; have BK134 := n0_; have HB := n1_; clear n0_ n1_; (try clear hb); (try clear hb2); (try clear hk); (try clear hi)) | ((with_reducible refine gate_callee (f := 52) rfl ?_); refine goesL_ (some 27) rfl rfl Tryd.func52 (by kernel_rfl) rfl #[.int .i64 x6_1] rfl (by (try simp only [List.map_toArray, List.map_cons, List.map_nil]); first | done | rfl | (simp only [List.length_drop, List.length_take]; rfl)) ?_; (with_reducible refine (specDecimal.calls x6_1 t139 _ A22.out).mono ?_); rintro e w26 ⟨rfl, hb⟩; refine ⟨_, rfl, ?_⟩; have n0_ := Aside0.mk (blk_below (g := gb134) (o := .cells #[.int .u64 a0_0, .int .u64 a0_1] 29 (0, 0)) (by (with_reducible repeat (first | refine blk_drewN ?_ _ | refine blk_drew ?_ | refine blk_alloc ?_ _)); exact BK134.out) hb); have n1_ := Aside0.mk (below_step (by repeat (first | (with_reducible first | exact HB.out | apply below_alloc | apply pw_below_drewN | apply below_drew1 | refine below_set ?_ GE134.out) | exact HB.out)) hb); clear BK134; clear HB; have BK134 := n0_; have HB := n1_; clear n0_ n1_; (try clear hb); (try clear hb2); (try clear hk); (try clear hi)))
                    go_roundg k1
                    case measure => have := HK1.out; omega
                    case rel => exact ⟨((x5_1 ++ (⟨#[124]⟩ : ByteArray)) ++ t139), (wrap64 (x6_1 + 1)), (by first | rfl | (simp; done) | (simp [*]; done)), (by first | rfl | (simp; done) | (simp [*]; done)), H', ⟨by have := HK1.out; omega⟩, ⟨by (with_reducible repeat (first | refine blk_drewN ?_ _ | refine blk_drew ?_ | refine blk_alloc ?_ _)); exact BK134.out⟩, ⟨by repeat (first | (with_reducible first | exact HB.out | apply below_alloc | apply pw_below_drewN | apply below_drew1 | refine below_set ?_ GE134.out) | exact HB.out)⟩⟩
                  · rw [if_neg c23] at H
                    exact absurd H (by simp)
                · rw [if_neg c21] at H
                  exact absurd H (by simp)
            · replace c14 := Bool.eq_false_iff.mpr c14
              subst c14
              have H1 : (spec_l05Wheel.l0 k1 a1 x5_1 (wrap64 (x6_1 + 1)) a0_0 a0_1) = some r := by rw [if_neg (show ¬ (false = true) by decide)] at H; exact H
              clear H
              have H := H1
              clear H1
              have H' := Aside0.mk H
              clear H
              have hcz27_0 : wr.cell? ⟨gb134, 0, none⟩ = some (.int .u64 a0_0) := (blk_cell BK134.out 0).trans rfl
              have hcz27_1 : wr.cell? ⟨gb134, 1, none⟩ = some (.int .u64 a0_1) := (blk_cell BK134.out 1).trans rfl
              have hfz27_0 := blk_frozen BK134.out 0
              have hfz27_1 := blk_frozen BK134.out 1
              go_wp2_with (first | ((with_reducible refine gate_callee (f := 62) rfl ?_); refine goesL_ (some 19) rfl rfl Tryd.func62 (by kernel_rfl) rfl #[.agg #[.int .u64 a0_0, .int .u64 a0_1], .int .i64 x6_1] rfl (by (try simp only [List.map_toArray, List.map_cons, List.map_nil]); first | done | rfl | (simp only [List.length_drop, List.length_take]; rfl)) ?_; (with_reducible refine (spec_l05Has.calls a0_0 a0_1 x6_1 false _ A13.out).mono ?_); rintro e w28 ⟨rfl, hb⟩; refine ⟨_, rfl, ?_⟩; have n0_ := Aside0.mk (blk_below (g := gb134) (o := .cells #[.int .u64 a0_0, .int .u64 a0_1] 29 (0, 0)) (by (with_reducible repeat (first | refine blk_drewN ?_ _ | refine blk_drew ?_ | refine blk_alloc ?_ _)); exact BK134.out) hb); have n1_ := Aside0.mk (below_step (by repeat (first | (with_reducible first | exact HB.out | apply below_alloc | apply pw_below_drewN | apply below_drew1 | refine below_set ?_ GE134.out) | exact HB.out)) hb); clear BK134; clear HB; have BK134 := n0_; have HB := n1_; clear n0_ n1_; (try clear hb); (try clear hb2); (try clear hk); (try clear hi)))
              go_roundg k1
              case measure => have := HK1.out; omega
              case rel => exact ⟨(x5_1), (wrap64 (x6_1 + 1)), (by first | rfl | (simp; done) | (simp [*]; done)), (by first | rfl | (simp; done) | (simp [*]; done)), H', ⟨by have := HK1.out; omega⟩, ⟨by (with_reducible repeat (first | refine blk_drewN ?_ _ | refine blk_drew ?_ | refine blk_alloc ?_ _)); exact BK134.out⟩, ⟨by repeat (first | (with_reducible first | exact HB.out | apply below_alloc | apply pw_below_drewN | apply below_drew1 | refine below_set ?_ GE134.out) | exact HB.out)⟩⟩
          · rw [if_neg c12] at H
            have c12b0 : decide (x6_1 < (wrap64 (a1))) = false := decide_eq_false c12
            clear c12
            obtain rfl := Option.some.inj H
            go_wp2
            go_ret
            exact ⟨by first | rfl | (simp [errW_none, errW_some] <;> rfl) | (simp [*, errW_none, errW_some] <;> rfl), by repeat (first | (with_reducible first | exact HB.out | apply below_alloc | apply pw_below_drewN | apply below_drew1 | refine below_set ?_ GE134.out) | exact HB.out)⟩
  · rw [if_neg c4] at H
    have c4b0 : (a0_0 == t135) = false := beq_eq_false_iff_ne.mpr c4
    have c4b1 : (a0_0 != t135) = true := bne_iff_ne.mpr c4
    have H' := Aside0.mk H
    clear H
    go_enter Tryd.func37, Tryd.ntmps37
    try go_wp2_with (first | ((with_reducible refine gate_dst (N := 2) rfl ?_); refine box_event ?hg (N := 2) ?hd (cs := #[.int .u64 a0_0, .int .u64 a0_1]) (t := 29) ?hr ?_; (case hd => rfl); (case hg => rfl); (case hr => first | (go_simp; done) | (go_simp; rfl)); intro gb134 hg w29 hbox hb; have n0_ := Aside0.mk (below_step (by repeat (first | (with_reducible first | exact HB.out | apply below_alloc | apply pw_below_drewN | apply below_drew1) | exact HB.out)) hb); have n1_ := Aside0.mk (hbox); have n2_ := Aside0.mk ((by rw [hg]; exact (below_size (by repeat (first | (with_reducible first | exact HB.out | apply below_alloc | apply pw_below_drewN | apply below_drew1) | exact HB.out))) : w.heap.size ≤ gb134)); have n3_ := Aside0.mk ((by rw [hg]; exact (below_size (by repeat (first | (with_reducible first | exact HB.out | apply below_alloc | apply pw_below_drewN | apply below_drew1) | exact HB.out))) : w.heap.size ≤ gb134)); clear HB; have HB := n0_; have BK134 := n1_; have GW134 := n2_; have GE134 := n3_; clear n0_ n1_ n2_ n3_; clear hb hbox hg))
    have n0_ := Aside0.mk (blk_drew BK134.out)
    have n1_ := Aside0.mk (below_drew1 HB.out)
    clear BK134
    clear HB
    have BK134 := n0_
    have HB := n1_
    clear n0_ n1_
    refine start_ (n := 4) (S := fun w' => w'.cell? ⟨gb134, 0, none⟩ = some (.int .u64 a0_0) ∧ w'.cell? ⟨gb134, 1, none⟩ = some (.int .u64 a0_1)) (ds := []) #[false, false, false, false] (by kernel_rfl) rfl rfl ⟨(blk_cell BK134.out 0).trans rfl, (blk_cell BK134.out 1).trans rfl⟩ (fun hHeld => ?_)
    generalize w29.drew = w30 at BK134 HB hHeld ⊢
    refine pure_ (i := 1) (N := some 8) (v := ?_) (a' := ?_) #[false, true, false, false] rfl rfl (by kernel_rfl) (fun _ _ _ h => h) (Or.inl ⟨by rfl, ?_⟩) ?_ ?_
    rotate_left
    · intro w'
      go_simp
      with_reducible rfl
    rotate_left
    · simp only [Act.put, List.setIfInBounds_toArray, List.set_cons_zero, List.set_cons_succ, i64_w, i32_w]
      rfl
    refine take_ (i := 0) (N := some 7) (v := ?_) (a' := ?_) #[true, true, false, false] rfl rfl (by kernel_rfl) (fun _ _ _ h => h) (Or.inl ⟨by rfl, ?_⟩) hHeld ?_ ?_
    rotate_left
    · rintro w' ⟨s0, s1⟩
      go_simp
      with_reducible rfl
    rotate_left
    · simp only [Act.put, List.setIfInBounds_toArray, List.set_cons_zero, List.set_cons_succ, i64_w, i32_w]
      rfl
    refine one_ (i := 2) (N := some 9) #[true, true, true, false] rfl rfl (by kernel_rfl) (by decide) (fun K hK => ?_)
    refine goes_ Tryd.func61 (by kernel_rfl) rfl #[.int .u8 a1] (by rfl) rfl rfl (by (try simp only [List.map_toArray, List.map_cons, List.map_nil]); first | done | rfl | (simp only [List.length_drop, List.length_take]; rfl)) ?_
    with_reducible refine (spec_l05Full.calls k a1 t135 t136 _ A3.out).mono ?_
    rintro e w31 ⟨rfl, hb⟩
    refine ⟨_, rfl, ?_⟩
    have n0_ := Aside0.mk (blk_below (g := gb134) (o := .cells #[.int .u64 a0_0, .int .u64 a0_1] 29 (0, 0)) (by (with_reducible repeat (first | refine blk_drewN ?_ _ | refine blk_drew ?_ | refine blk_alloc ?_ _)); exact BK134.out) hb)
    have n1_ := Aside0.mk (below_step (by repeat (first | (with_reducible first | exact HB.out | apply below_alloc | apply pw_below_drewN | apply below_drew1 | refine below_set ?_ GE134.out) | exact HB.out)) hb)
    clear BK134
    clear HB
    have BK134 := n0_
    have HB := n1_
    clear n0_ n1_
    (try clear hb)
    (try clear hb2)
    (try clear hk)
    (try clear hi)
    refine hK.out _ _ ⟨(blk_cell BK134.out 0).trans rfl, (blk_cell BK134.out 1).trans rfl⟩ (fun hHeld => ?_)
    clear hK K
    refine norm_ (a' := ?_) ?_ ?_
    rotate_left
    · show Act.put _ (some 9) _ = _
      simp only [Act.put, List.setIfInBounds_toArray, List.set_cons_zero, List.set_cons_succ, i64_w, i32_w]
      rfl
    refine pure_ (i := 3) (N := some 10) (v := ?_) (a' := ?_) #[true, true, true, true] rfl rfl (by kernel_rfl) (fun _ _ _ h => h) (Or.inl ⟨by rfl, ?_⟩) ?_ ?_
    rotate_left
    · intro w'
      go_simp
      with_reducible rfl
    rotate_left
    · simp only [Act.put, List.setIfInBounds_toArray, List.set_cons_zero, List.set_cons_succ, i64_w, i32_w]
      rfl
    refine done_ (by kernel_rfl) ?_
    try go_wp2
    go_loopg [5, 6] k (fun kq v5 v6 w' => ∃ (x5_1 : ByteArray) (x6_1 : Int), v5 = .string x5_1 ∧ v6 = .int .i64 x6_1 ∧ Aside0 (spec_l05Wheel.l0 kq a1 x5_1 x6_1 a0_0 a0_1 = some r) ∧ Aside0 (kq ≤ k) ∧ Aside0 (w'.heap[gb134]? = some (.cells #[.int .u64 a0_0, .int .u64 a0_1] 29 (0, 0))) ∧ Aside0 (Below w.heap.size w w'))
    case atStart => exact ⟨((⟨#[]⟩ : ByteArray)), (0), (by first | rfl | (simp; done) | (simp [*]; done)), (by first | rfl | (simp; done) | (simp [*]; done)), H', ⟨Nat.le_refl _⟩, ⟨by (with_reducible repeat (first | refine blk_drewN ?_ _ | refine blk_drew ?_ | refine blk_alloc ?_ _)); exact BK134.out⟩, ⟨by repeat (first | (with_reducible first | exact HB.out | apply below_alloc | apply pw_below_drewN | apply below_drew1 | refine below_set ?_ GE134.out) | exact HB.out)⟩⟩
    case round =>
      clear H'
      try clear c1
      try clear c2
      try clear p2
      try clear c3
      try clear c4
      try clear c4b0
      try clear c4b1
      try clear c5
      try clear c5b0
      try clear c5b1
      try clear c6
      try clear p6
      try clear c12
      try clear c12b0
      try clear c14
      try clear c15
      try clear c15b0
      try clear c15b1
      try clear c17
      try clear c17b0
      try clear c17b1
      try clear c17b2
      try clear c21
      try clear c21b0
      try clear c21b1
      try clear c21b2
      try clear c23
      try clear c23b0
      try clear c23b1
      try clear c23b2
      try clear hcz18_0
      try clear hcz18_1
      try clear hcz24_0
      try clear hcz24_1
      try clear hcz27_0
      try clear hcz27_1
      try clear hfz18_0
      try clear hfz18_1
      try clear hfz24_0
      try clear hfz24_1
      try clear hfz27_0
      try clear hfz27_1
      try clear p2
      obtain ⟨x5_1, x6_1, rfl, rfl, HA, HK1, BK134, HB⟩ := hrel
      cases gk with
      | zero => exact absurd HA.out (by simp [spec_l05Wheel.l0])
      | succ k1 =>
        have H := HA.out
        clear HA
        simp only [spec_l05Wheel.l0] at H
        by_cases c32 : x6_1 < (wrap64 (a1))
        · rw [if_pos c32] at H
          have c32b0 : decide (x6_1 < (wrap64 (a1))) = true := decide_eq_true c32
          clear c32
          replace H := Option.bind_eq_some_iff.mp H
          obtain ⟨t137, A330, H⟩ := H
          replace H : (if t137 = true then (if x5_1.toList = ([] : List UInt8) then ((specDecimal.f x6_1).bind fun t138 => (if x5_1.size + t138.size ≤ 9223372036854775807 then (spec_l05Wheel.l0 k1 a1 (x5_1 ++ t138) (wrap64 (x6_1 + 1)) a0_0 a0_1) else (none))) else (if x5_1.size + 1 ≤ 9223372036854775807 then ((specDecimal.f x6_1).bind fun t139 => (if (x5_1 ++ (⟨#[124]⟩ : ByteArray)).size + t139.size ≤ 9223372036854775807 then (spec_l05Wheel.l0 k1 a1 ((x5_1 ++ (⟨#[124]⟩ : ByteArray)) ++ t139) (wrap64 (x6_1 + 1)) a0_0 a0_1) else (none))) else (none))) else (spec_l05Wheel.l0 k1 a1 x5_1 (wrap64 (x6_1 + 1)) a0_0 a0_1)) = some r := H
          have A33 := Aside0.mk A330
          clear A330
          by_cases c34 : t137 = true
          · subst c34
            have H1 : (if x5_1.toList = ([] : List UInt8) then ((specDecimal.f x6_1).bind fun t138 => (if x5_1.size + t138.size ≤ 9223372036854775807 then (spec_l05Wheel.l0 k1 a1 (x5_1 ++ t138) (wrap64 (x6_1 + 1)) a0_0 a0_1) else (none))) else (if x5_1.size + 1 ≤ 9223372036854775807 then ((specDecimal.f x6_1).bind fun t139 => (if (x5_1 ++ (⟨#[124]⟩ : ByteArray)).size + t139.size ≤ 9223372036854775807 then (spec_l05Wheel.l0 k1 a1 ((x5_1 ++ (⟨#[124]⟩ : ByteArray)) ++ t139) (wrap64 (x6_1 + 1)) a0_0 a0_1) else (none))) else (none))) = some r := by rw [if_pos rfl] at H; exact H
            clear H
            have H := H1
            clear H1
            by_cases c35 : x5_1.toList = ([] : List UInt8)
            · rw [if_pos c35] at H
              have c35b0 : (x5_1.toList == ([] : List UInt8)) = true := beq_iff_eq.mpr c35
              have c35b1 : (x5_1.toList != ([] : List UInt8)) = false := bne_eq_false_iff_eq.mpr c35
              clear c35
              replace H := Option.bind_eq_some_iff.mp H
              obtain ⟨t138, A360, H⟩ := H
              replace H : (if x5_1.size + t138.size ≤ 9223372036854775807 then (spec_l05Wheel.l0 k1 a1 (x5_1 ++ t138) (wrap64 (x6_1 + 1)) a0_0 a0_1) else (none)) = some r := H
              have A36 := Aside0.mk A360
              clear A360
              by_cases c37 : x5_1.size + t138.size ≤ 9223372036854775807
              · rw [if_pos c37] at H
                have c37b0 := eq_true c37
                have c37b1 : decide (x5_1.size + t138.size ≤ 9223372036854775807) = true := decide_eq_true c37
                try have c37b2 : (9223372036854775807 < x5_1.size + t138.size) = False := eq_false (Nat.not_lt.2 c37)
                have H' := Aside0.mk H
                clear H
                have hcz38_0 : wr.cell? ⟨gb134, 0, none⟩ = some (.int .u64 a0_0) := (blk_cell BK134.out 0).trans rfl
                have hcz38_1 : wr.cell? ⟨gb134, 1, none⟩ = some (.int .u64 a0_1) := (blk_cell BK134.out 1).trans rfl
                have hfz38_0 := blk_frozen BK134.out 0
                have hfz38_1 := blk_frozen BK134.out 1
                go_wp2_with (first | ((with_reducible refine gate_callee (f := 62) rfl ?_); refine goesL_ (some 19) rfl rfl Tryd.func62 (by kernel_rfl) rfl #[.agg #[.int .u64 a0_0, .int .u64 a0_1], .int .i64 x6_1] rfl (by (try simp only [List.map_toArray, List.map_cons, List.map_nil]); first | done | rfl | (simp only [List.length_drop, List.length_take]; rfl)) ?_; (with_reducible refine (spec_l05Has.calls a0_0 a0_1 x6_1 true _ A33.out).mono ?_); rintro e w39 ⟨rfl, hb⟩; refine ⟨_, rfl, ?_⟩; have n0_ := Aside0.mk (blk_below (g := gb134) (o := .cells #[.int .u64 a0_0, .int .u64 a0_1] 29 (0, 0)) (by (with_reducible repeat (first | refine blk_drewN ?_ _ | refine blk_drew ?_ | refine blk_alloc ?_ _)); exact BK134.out) hb); have n1_ := Aside0.mk (below_step (by repeat (first | (with_reducible first | exact HB.out | apply below_alloc | apply pw_below_drewN | apply below_drew1 | refine below_set ?_ GE134.out) | exact HB.out)) hb); clear BK134; clear HB; have BK134 := n0_; have HB := n1_; clear n0_ n1_; (try clear hb); (try clear hb2); (try clear hk); (try clear hi)) | ((with_reducible refine gate_callee (f := 52) rfl ?_); refine goesL_ (some 27) rfl rfl Tryd.func52 (by kernel_rfl) rfl #[.int .i64 x6_1] rfl (by (try simp only [List.map_toArray, List.map_cons, List.map_nil]); first | done | rfl | (simp only [List.length_drop, List.length_take]; rfl)) ?_; (with_reducible refine (specDecimal.calls x6_1 t138 _ A36.out).mono ?_); rintro e w40 ⟨rfl, hb⟩; refine ⟨_, rfl, ?_⟩; have n0_ := Aside0.mk (blk_below (g := gb134) (o := .cells #[.int .u64 a0_0, .int .u64 a0_1] 29 (0, 0)) (by (with_reducible repeat (first | refine blk_drewN ?_ _ | refine blk_drew ?_ | refine blk_alloc ?_ _)); exact BK134.out) hb); have n1_ := Aside0.mk (below_step (by repeat (first | (with_reducible first | exact HB.out | apply below_alloc | apply pw_below_drewN | apply below_drew1 | refine below_set ?_ GE134.out) | exact HB.out)) hb); clear BK134; clear HB; have BK134 := n0_; have HB := n1_; clear n0_ n1_; (try clear hb); (try clear hb2); (try clear hk); (try clear hi)))
                go_roundg k1
                case measure => have := HK1.out; omega
                case rel => exact ⟨(x5_1 ++ t138), (wrap64 (x6_1 + 1)), (by first | rfl | (simp; done) | (simp [*]; done)), (by first | rfl | (simp; done) | (simp [*]; done)), H', ⟨by have := HK1.out; omega⟩, ⟨by (with_reducible repeat (first | refine blk_drewN ?_ _ | refine blk_drew ?_ | refine blk_alloc ?_ _)); exact BK134.out⟩, ⟨by repeat (first | (with_reducible first | exact HB.out | apply below_alloc | apply pw_below_drewN | apply below_drew1 | refine below_set ?_ GE134.out) | exact HB.out)⟩⟩
              · rw [if_neg c37] at H
                exact absurd H (by simp)
            · rw [if_neg c35] at H
              have c35b0 : (x5_1.toList == ([] : List UInt8)) = false := beq_eq_false_iff_ne.mpr c35
              have c35b1 : (x5_1.toList != ([] : List UInt8)) = true := bne_iff_ne.mpr c35
              by_cases c41 : x5_1.size + 1 ≤ 9223372036854775807
              · rw [if_pos c41] at H
                have c41b0 := eq_true c41
                have c41b1 : decide (x5_1.size + 1 ≤ 9223372036854775807) = true := decide_eq_true c41
                try have c41b2 : (9223372036854775807 < x5_1.size + 1) = False := eq_false (Nat.not_lt.2 c41)
                replace H := Option.bind_eq_some_iff.mp H
                obtain ⟨t139, A420, H⟩ := H
                replace H : (if (x5_1 ++ (⟨#[124]⟩ : ByteArray)).size + t139.size ≤ 9223372036854775807 then (spec_l05Wheel.l0 k1 a1 ((x5_1 ++ (⟨#[124]⟩ : ByteArray)) ++ t139) (wrap64 (x6_1 + 1)) a0_0 a0_1) else (none)) = some r := H
                have A42 := Aside0.mk A420
                clear A420
                by_cases c43 : (x5_1 ++ (⟨#[124]⟩ : ByteArray)).size + t139.size ≤ 9223372036854775807
                · rw [if_pos c43] at H
                  have c43b0 := eq_true c43
                  have c43b1 : decide ((x5_1 ++ (⟨#[124]⟩ : ByteArray)).size + t139.size ≤ 9223372036854775807) = true := decide_eq_true c43
                  try have c43b2 : (9223372036854775807 < (x5_1 ++ (⟨#[124]⟩ : ByteArray)).size + t139.size) = False := eq_false (Nat.not_lt.2 c43)
                  simp only [ByteArray.size_append, show (⟨#[124]⟩ : ByteArray).size = 1 from rfl] at c43b0 c43b1 c43b2
                  have H' := Aside0.mk H
                  clear H
                  have hcz44_0 : wr.cell? ⟨gb134, 0, none⟩ = some (.int .u64 a0_0) := (blk_cell BK134.out 0).trans rfl
                  have hcz44_1 : wr.cell? ⟨gb134, 1, none⟩ = some (.int .u64 a0_1) := (blk_cell BK134.out 1).trans rfl
                  have hfz44_0 := blk_frozen BK134.out 0
                  have hfz44_1 := blk_frozen BK134.out 1
                  go_wp2_with (first | ((with_reducible refine gate_callee (f := 62) rfl ?_); refine goesL_ (some 19) rfl rfl Tryd.func62 (by kernel_rfl) rfl #[.agg #[.int .u64 a0_0, .int .u64 a0_1], .int .i64 x6_1] rfl (by (try simp only [List.map_toArray, List.map_cons, List.map_nil]); first | done | rfl | (simp only [List.length_drop, List.length_take]; rfl)) ?_; (with_reducible refine (spec_l05Has.calls a0_0 a0_1 x6_1 true _ A33.out).mono ?_); rintro e w45 ⟨rfl, hb⟩; refine ⟨_, rfl, ?_⟩; have n0_ := Aside0.mk (blk_below (g := gb134) (o := .cells #[.int .u64 a0_0, .int .u64 a0_1] 29 (0, 0)) (by (with_reducible repeat (first | refine blk_drewN ?_ _ | refine blk_drew ?_ | refine blk_alloc ?_ _)); exact BK134.out) hb); have n1_ := Aside0.mk (below_step (by repeat (first | (with_reducible first | exact HB.out | apply below_alloc | apply pw_below_drewN | apply below_drew1 | refine below_set ?_ GE134.out) | exact HB.out)) hb); clear BK134; clear HB; have BK134 := n0_; have HB := n1_; clear n0_ n1_; (try clear hb); (try clear hb2); (try clear hk); (try clear hi)) | ((with_reducible refine gate_callee (f := 52) rfl ?_); refine goesL_ (some 27) rfl rfl Tryd.func52 (by kernel_rfl) rfl #[.int .i64 x6_1] rfl (by (try simp only [List.map_toArray, List.map_cons, List.map_nil]); first | done | rfl | (simp only [List.length_drop, List.length_take]; rfl)) ?_; (with_reducible refine (specDecimal.calls x6_1 t139 _ A42.out).mono ?_); rintro e w46 ⟨rfl, hb⟩; refine ⟨_, rfl, ?_⟩; have n0_ := Aside0.mk (blk_below (g := gb134) (o := .cells #[.int .u64 a0_0, .int .u64 a0_1] 29 (0, 0)) (by (with_reducible repeat (first | refine blk_drewN ?_ _ | refine blk_drew ?_ | refine blk_alloc ?_ _)); exact BK134.out) hb); have n1_ := Aside0.mk (below_step (by repeat (first | (with_reducible first | exact HB.out | apply below_alloc | apply pw_below_drewN | apply below_drew1 | refine below_set ?_ GE134.out) | exact HB.out)) hb); clear BK134; clear HB; have BK134 := n0_; have HB := n1_; clear n0_ n1_; (try clear hb); (try clear hb2); (try clear hk); (try clear hi)))
                  go_roundg k1
                  case measure => have := HK1.out; omega
                  case rel => exact ⟨((x5_1 ++ (⟨#[124]⟩ : ByteArray)) ++ t139), (wrap64 (x6_1 + 1)), (by first | rfl | (simp; done) | (simp [*]; done)), (by first | rfl | (simp; done) | (simp [*]; done)), H', ⟨by have := HK1.out; omega⟩, ⟨by (with_reducible repeat (first | refine blk_drewN ?_ _ | refine blk_drew ?_ | refine blk_alloc ?_ _)); exact BK134.out⟩, ⟨by repeat (first | (with_reducible first | exact HB.out | apply below_alloc | apply pw_below_drewN | apply below_drew1 | refine below_set ?_ GE134.out) | exact HB.out)⟩⟩
                · rw [if_neg c43] at H
                  exact absurd H (by simp)
              · rw [if_neg c41] at H
                exact absurd H (by simp)
          · replace c34 := Bool.eq_false_iff.mpr c34
            subst c34
            have H1 : (spec_l05Wheel.l0 k1 a1 x5_1 (wrap64 (x6_1 + 1)) a0_0 a0_1) = some r := by rw [if_neg (show ¬ (false = true) by decide)] at H; exact H
            clear H
            have H := H1
            clear H1
            have H' := Aside0.mk H
            clear H
            have hcz47_0 : wr.cell? ⟨gb134, 0, none⟩ = some (.int .u64 a0_0) := (blk_cell BK134.out 0).trans rfl
            have hcz47_1 : wr.cell? ⟨gb134, 1, none⟩ = some (.int .u64 a0_1) := (blk_cell BK134.out 1).trans rfl
            have hfz47_0 := blk_frozen BK134.out 0
            have hfz47_1 := blk_frozen BK134.out 1
            go_wp2_with (first | ((with_reducible refine gate_callee (f := 62) rfl ?_); refine goesL_ (some 19) rfl rfl Tryd.func62 (by kernel_rfl) rfl #[.agg #[.int .u64 a0_0, .int .u64 a0_1], .int .i64 x6_1] rfl (by (try simp only [List.map_toArray, List.map_cons, List.map_nil]); first | done | rfl | (simp only [List.length_drop, List.length_take]; rfl)) ?_; (with_reducible refine (spec_l05Has.calls a0_0 a0_1 x6_1 false _ A33.out).mono ?_); rintro e w48 ⟨rfl, hb⟩; refine ⟨_, rfl, ?_⟩; have n0_ := Aside0.mk (blk_below (g := gb134) (o := .cells #[.int .u64 a0_0, .int .u64 a0_1] 29 (0, 0)) (by (with_reducible repeat (first | refine blk_drewN ?_ _ | refine blk_drew ?_ | refine blk_alloc ?_ _)); exact BK134.out) hb); have n1_ := Aside0.mk (below_step (by repeat (first | (with_reducible first | exact HB.out | apply below_alloc | apply pw_below_drewN | apply below_drew1 | refine below_set ?_ GE134.out) | exact HB.out)) hb); clear BK134; clear HB; have BK134 := n0_; have HB := n1_; clear n0_ n1_; (try clear hb); (try clear hb2); (try clear hk); (try clear hi)))
            go_roundg k1
            case measure => have := HK1.out; omega
            case rel => exact ⟨(x5_1), (wrap64 (x6_1 + 1)), (by first | rfl | (simp; done) | (simp [*]; done)), (by first | rfl | (simp; done) | (simp [*]; done)), H', ⟨by have := HK1.out; omega⟩, ⟨by (with_reducible repeat (first | refine blk_drewN ?_ _ | refine blk_drew ?_ | refine blk_alloc ?_ _)); exact BK134.out⟩, ⟨by repeat (first | (with_reducible first | exact HB.out | apply below_alloc | apply pw_below_drewN | apply below_drew1 | refine below_set ?_ GE134.out) | exact HB.out)⟩⟩
        · rw [if_neg c32] at H
          have c32b0 : decide (x6_1 < (wrap64 (a1))) = false := decide_eq_false c32
          clear c32
          obtain rfl := Option.some.inj H
          go_wp2
          go_ret
          exact ⟨by first | rfl | (simp [errW_none, errW_some] <;> rfl) | (simp [*, errW_none, errW_some] <;> rfl), by repeat (first | (with_reducible first | exact HB.out | apply below_alloc | apply pw_below_drewN | apply below_drew1 | refine below_set ?_ GE134.out) | exact HB.out)⟩

end Go.Proofs.YtgfimdoildaonaaDoor.P

-- Written by a program of this session (a turned form of the kit's print) out of the translation.
namespace Go.Proofs.YtgfimdoildaonaaDoor.P
open Go.RowKit Go.Proofs.YtgfimdoildaonaaDoorW.PrintWords Go.Proofs.YtgfimdoildaonaaDoorW.PrintLast Go.Proofs.YtgfimdoildaonaaDoorW.PrintMore
attribute [local go_sem] max2_int min2_int max_two min_two max_three min_three max_four min_four   -- for this text's walks alone
set_option linter.unusedVariables false
set_option linter.unusedSimpArgs false

/-! ### impl_Marks_digits: function 23 -/
def impl_Marks_digits.l0 : Nat → List Int → Int → Int → Int → Option (List Int)
  | 0, _, _, _, _ => none
  | k + 1, x3, x6, x171000, x171001 => if x6 < 128 then ((impl_Marks_has.f x171000 x171001 x6).bind fun t174 => (if t174 = true then (if x3.length < 17592186044416 then (impl_Marks_digits.l0 k (x3 ++ [x6]) (wrap64 (x6 + 1)) x171000 x171001) else (none)) else (impl_Marks_digits.l0 k x3 (wrap64 (x6 + 1)) x171000 x171001))) else (some x3)
def impl_Marks_digits.f (k : Nat) (a0_0 : Int) (a0_1 : Int) : Option (List Int) := impl_Marks_digits.l0 k (([] : List Int)) 0 a0_0 a0_1
theorem impl_Marks_digits.mono_l : ∀ k, (∀ y0 y1 y2 y3, LeO (impl_Marks_digits.l0 k y0 y1 y2 y3) (impl_Marks_digits.l0 (k + 1) y0 y1 y2 y3))
  | 0 => fun _ _ _ _ r h => by simp [impl_Marks_digits.l0] at h
  | k + 1 => by
    have ih0 := impl_Marks_digits.mono_l k
    · intro y0 y1 y2 y3
      unfold impl_Marks_digits.l0
      repeat' first
      | (with_reducible exact ih0 _ _ _ _)
      | (with_reducible exact LeO.refl _)
      | (with_reducible exact LeO.none _)
      | (with_reducible refine LeO.ite ?_ ?_)
      | (with_reducible refine LeO.bind ?_ (fun _ => ?_))
      | exact ih0 _ _ _ _
      | exact LeO.none _
      | refine LeO.ite ?_ ?_
      | refine LeO.bind ?_ (fun _ => ?_)
theorem impl_Marks_digits.mono : ∀ a0 a1 k, LeO (impl_Marks_digits.f k a0 a1) (impl_Marks_digits.f (k + 1) a0 a1) := by
  intro a0 a1 k
  have ih0 := impl_Marks_digits.mono_l k
  unfold impl_Marks_digits.f
  repeat' first
      | (with_reducible exact ih0 _ _ _ _)
      | (with_reducible exact LeO.refl _)
      | (with_reducible exact LeO.none _)
      | (with_reducible refine LeO.ite ?_ ?_)
      | (with_reducible refine LeO.bind ?_ (fun _ => ?_))
      | exact ih0 _ _ _ _
      | exact LeO.none _
      | refine LeO.ite ?_ ?_
      | refine LeO.bind ?_ (fun _ => ?_)
set_option maxHeartbeats 8000000 in
set_option maxRecDepth 100000 in
theorem impl_Marks_digits.calls (k : Nat) (a0_0 : Int) (a0_1 : Int) (r : List Int) (w : World) (h : impl_Marks_digits.f k a0_0 a0_1 = some r) :
    Calls Tryd.prog 23 #[.agg #[.int .u64 a0_0, .int .u64 a0_1]] w fun e w' => ∃ v0_ : Value, e = .returned (v0_) ∧ Kd.R (Kd.int .i64) 3 w' w.heap.size (fun _ => True) v0_ r ∧ Below w.heap.size w w' := by
  have hu29 := Tryd.underlying29
  have HB := Aside0.mk (Below.refl w.heap.size w)
  have H : (impl_Marks_digits.l0 k (([] : List Int)) 0 a0_0 a0_1) = some r := h
  clear h
  obtain ⟨y171, hy171⟩ : ∃ y_ : List Int, y_ = (([] : List Int)) := ⟨_, rfl⟩
  replace H : (impl_Marks_digits.l0 k y171 0 a0_0 a0_1) = some r := by first | (rw [hy171]; with_reducible exact H) | (have H2_ := (Option.bind_some _ _).symm.trans H; rw [hy171]; with_reducible exact H2_) | (have H2_ := (Option.bind_some _ _).symm.trans H; with_reducible exact H2_) | with_reducible exact H | (rw [hy171]; exact H) | exact H
  have Ny171 := Aside0.mk hy171
  clear hy171
  have H' := Aside0.mk H
  clear H
  go_enter Tryd.func23, Tryd.ntmps23
  go_wp2_with (first | ((with_reducible refine gate_dst (N := 1) rfl ?_); refine box_event ?hg (N := 1) ?hd (cs := #[.int .u64 a0_0, .int .u64 a0_1]) (t := 29) ?hr ?_; (case hd => rfl); (case hg => rfl); (case hr => first | (go_simp; done) | (go_simp; rfl)); intro gb170 hg w2 hbox hb; have n0_ := Aside0.mk (below_step (by repeat (first | (with_reducible first | exact HB.out | apply below_alloc | apply pw_below_drewN | apply below_drew1) | exact HB.out)) hb); have n1_ := Aside0.mk (hbox); have n2_ := Aside0.mk ((by rw [hg]; exact (below_size (by repeat (first | (with_reducible first | exact HB.out | apply below_alloc | apply pw_below_drewN | apply below_drew1) | exact HB.out))) : w.heap.size ≤ gb170)); have n3_ := Aside0.mk ((by rw [hg]; exact (below_size (by repeat (first | (with_reducible first | exact HB.out | apply below_alloc | apply pw_below_drewN | apply below_drew1) | exact HB.out))) : w.heap.size ≤ gb170)); clear HB; have HB := n0_; have BK170 := n1_; have GW170 := n2_; have GE170 := n3_; clear n0_ n1_ n2_ n3_; clear hb hbox hg) | ((with_reducible refine gate_dst (N := 5) rfl ?_); refine Kd.R_lit (Kd.int .i64) _ 3 ?hg (N := 5) ?hd (xs := ([] : List Int)) (inner := []) (ok := fun _ => True) (okp := fun _ => True) ?hr ?hp (fun _ hk => hk) trivial (Below.refl _ _) (Nat.le_refl _) (by simp) ?_; (case hd => rfl); (case hg => rfl); (case hr => first | (go_simp; done) | (go_simp; rfl)); (case hp => exact (Reps.none _ _)); intro v172 w3 ho4 hb hg_ hnew_; clear hg_ hnew_; (first | rw [← Ny171.out] at ho4 | (simp only [Int.reduceToNat] at ho4; rw [← Ny171.out] at ho4)); have n0_ := Aside0.mk (Kd.R_lower ho4 (below_size (by repeat (first | (with_reducible first | exact HB.out | apply below_alloc | apply pw_below_drewN | apply below_drew1 | refine below_set ?_ GE170.out) | exact HB.out)))); have n1_ := Aside0.mk (blk_below (g := gb170) (o := .cells #[.int .u64 a0_0, .int .u64 a0_1] 29 (0, 0)) (by (with_reducible repeat (first | refine blk_drewN ?_ _ | refine blk_drew ?_ | refine blk_alloc ?_ _)); exact BK170.out) hb); have n2_ := Aside0.mk (below_step (by repeat (first | (with_reducible first | exact HB.out | apply below_alloc | apply pw_below_drewN | apply below_drew1 | refine below_set ?_ GE170.out) | exact HB.out)) hb); clear BK170; clear HB; have HO173 := n0_; have BK170 := n1_; have HB := n2_; clear n0_ n1_ n2_; clear hb ho4))
  go_loopg [3, 6] k (fun kq v3 v6 w' => ∃ (x3_1 : List Int) (x6_1 : Int), v6 = .int .i64 x6_1 ∧ Aside0 (impl_Marks_digits.l0 kq x3_1 x6_1 a0_0 a0_1 = some r) ∧ Aside0 (kq ≤ k) ∧ Aside0 (Kd.R (Kd.int .i64) 3 w' w.heap.size (fun _ => True) v3 x3_1) ∧ Aside0 (w'.heap[gb170]? = some (.cells #[.int .u64 a0_0, .int .u64 a0_1] 29 (0, 0))) ∧ Aside0 (Below w.heap.size w w'))
  case atStart => exact ⟨(y171), (0), (by first | rfl | (simp; done) | (simp [*]; done)), H', ⟨Nat.le_refl _⟩, ⟨by (with_reducible repeat (first | apply Kd.R_alloc | apply Kd.R_drewN | apply Kd.R_drew)); exact HO173.out⟩, ⟨by (with_reducible repeat (first | refine blk_drewN ?_ _ | refine blk_drew ?_ | refine blk_alloc ?_ _)); exact BK170.out⟩, ⟨by repeat (first | (with_reducible first | exact HB.out | apply below_alloc | apply pw_below_drewN | apply below_drew1 | refine below_set ?_ GE170.out) | exact HB.out)⟩⟩
  case round =>
    clear H'
    try clear c2
    try clear p2
    obtain ⟨x3_1, x6_1, rfl, HA, HK1, HO_3, BK170, HB⟩ := hrel
    cases gk with
    | zero => exact absurd HA.out (by simp [impl_Marks_digits.l0])
    | succ k1 =>
      have H := HA.out
      clear HA
      simp only [impl_Marks_digits.l0] at H
      by_cases c5 : x6_1 < 128
      · rw [if_pos c5] at H
        have c5b0 : decide (x6_1 < 128) = true := decide_eq_true c5
        clear c5
        replace H := Option.bind_eq_some_iff.mp H
        obtain ⟨t174, A60, H⟩ := H
        replace H : (if t174 = true then (if x3_1.length < 17592186044416 then (impl_Marks_digits.l0 k1 (x3_1 ++ [x6_1]) (wrap64 (x6_1 + 1)) a0_0 a0_1) else (none)) else (impl_Marks_digits.l0 k1 x3_1 (wrap64 (x6_1 + 1)) a0_0 a0_1)) = some r := H
        have A6 := Aside0.mk A60
        clear A60
        by_cases c7 : t174 = true
        · subst c7
          have H1 : (if x3_1.length < 17592186044416 then (impl_Marks_digits.l0 k1 (x3_1 ++ [x6_1]) (wrap64 (x6_1 + 1)) a0_0 a0_1) else (none)) = some r := by rw [if_pos rfl] at H; exact H
          clear H
          have H := H1
          clear H1
          by_cases c8 : x3_1.length < 17592186044416
          · rw [if_pos c8] at H
            have LMc8 := Aside0.mk c8
            clear c8
            obtain ⟨y175, hy175⟩ : ∃ y_ : List Int, y_ = (x3_1 ++ [x6_1]) := ⟨_, rfl⟩
            replace H : (impl_Marks_digits.l0 k1 y175 (wrap64 (x6_1 + 1)) a0_0 a0_1) = some r := by first | (rw [hy175]; with_reducible exact H) | (have H2_ := (Option.bind_some _ _).symm.trans H; rw [hy175]; with_reducible exact H2_) | (have H2_ := (Option.bind_some _ _).symm.trans H; with_reducible exact H2_) | with_reducible exact H | (rw [hy175]; exact H) | exact H
            have Ny175 := Aside0.mk hy175
            clear hy175
            have H' := Aside0.mk H
            clear H
            have hcz9_0 : wr.cell? ⟨gb170, 0, none⟩ = some (.int .u64 a0_0) := (blk_cell BK170.out 0).trans rfl
            have hcz9_1 : wr.cell? ⟨gb170, 1, none⟩ = some (.int .u64 a0_1) := (blk_cell BK170.out 1).trans rfl
            have hfz9_0 := blk_frozen BK170.out 0
            have hfz9_1 := blk_frozen BK170.out 1
            go_wp2_with (first | ((with_reducible refine gate_callee (f := 41) rfl ?_); refine goesL_ (some 11) rfl rfl Tryd.func41 (by kernel_rfl) rfl #[.agg #[.int .u64 a0_0, .int .u64 a0_1], .int .i64 x6_1] rfl (by (try simp only [List.map_toArray, List.map_cons, List.map_nil]); first | done | rfl | (simp only [List.length_drop, List.length_take]; rfl)) ?_; (with_reducible refine (impl_Marks_has.calls a0_0 a0_1 x6_1 true _ A6.out).mono ?_); rintro e w10 ⟨rfl, hb⟩; refine ⟨_, rfl, ?_⟩; have n0_ := Aside0.mk (Kd.R_below (by (with_reducible repeat (first | apply Kd.R_alloc | apply Kd.R_drewN | apply Kd.R_drew)); exact HO_3.out) hb); have n1_ := Aside0.mk (blk_below (g := gb170) (o := .cells #[.int .u64 a0_0, .int .u64 a0_1] 29 (0, 0)) (by (with_reducible repeat (first | refine blk_drewN ?_ _ | refine blk_drew ?_ | refine blk_alloc ?_ _)); exact BK170.out) hb); have n2_ := Aside0.mk (below_step (by repeat (first | (with_reducible first | exact HB.out | apply below_alloc | apply pw_below_drewN | apply below_drew1 | refine below_set ?_ GE170.out) | exact HB.out)) hb); clear HO_3; clear BK170; clear HB; have HO_3 := n0_; have BK170 := n1_; have HB := n2_; clear n0_ n1_ n2_; (try clear hb); (try clear hb2); (try clear hk); (try clear hi)) | ((with_reducible refine gate_builtin (b := .append) (xs := #[.tmp 12, .tmp 14]) rfl ?_); at_builtin; refine Kd.R_append (Kd.int .i64) (w0 := w) w.heap.size rfl (.tmp 12) (.tmp 14) 57 3 (.int .i64 0) 8 rfl Tryd.underlying57 info3 rfl (by decide) (by omega) u3 x3_1 x6_1 [.int .i64 x6_1] (fun _ => True) (fun _ => False) rfl rfl ?aP (fun _ hk => hk.elim) ?aF ?aO ?aB ?aS ?aL ?_; (case aP => exact rfl); (case aB => exact (by repeat (first | (with_reducible first | exact HB.out | apply below_alloc | apply pw_below_drewN | apply below_drew1 | refine below_set ?_ GE170.out) | exact HB.out))); (case aF => exact (fun _ _ => trivial)); (case aO => exact (by (with_reducible repeat (first | apply Kd.R_alloc | apply Kd.R_drewN | apply Kd.R_drew)); exact HO_3.out)); (case aS => exact (below_size (by repeat (first | (with_reducible first | exact HB.out | apply below_alloc | apply pw_below_drewN | apply below_drew1 | refine below_set ?_ GE170.out) | exact HB.out)))); (case aL => have := LMc8.out; omega); intro v176 w11 ho hb hg hat; rw [← Ny175.out] at ho; have n0_ := Aside0.mk (blk_grown (g := gb170) (o := .cells #[.int .u64 a0_0, .int .u64 a0_1] 29 (0, 0)) (by (with_reducible repeat (first | refine blk_drewN ?_ _ | refine blk_drew ?_ | refine blk_alloc ?_ _)); exact BK170.out) hg (Kd.R_ne HO_3.out BK170.out (by decide))); have n1_ := Aside0.mk (hb); have n2_ := Aside0.mk (ho); clear BK170; clear HB; clear HO_3; have BK170 := n0_; have HB := n1_; have HO177 := n2_; clear n0_ n1_ n2_; clear ho hb hg hat))
            go_roundg k1
            case measure => have := HK1.out; omega
            case rel => exact ⟨(y175), (wrap64 (x6_1 + 1)), (by first | rfl | (simp; done) | (simp [*]; done)), H', ⟨by have := HK1.out; omega⟩, ⟨by (with_reducible repeat (first | apply Kd.R_alloc | apply Kd.R_drewN | apply Kd.R_drew)); exact HO177.out⟩, ⟨by (with_reducible repeat (first | refine blk_drewN ?_ _ | refine blk_drew ?_ | refine blk_alloc ?_ _)); exact BK170.out⟩, ⟨by repeat (first | (with_reducible first | exact HB.out | apply below_alloc | apply pw_below_drewN | apply below_drew1 | refine below_set ?_ GE170.out) | exact HB.out)⟩⟩
          · rw [if_neg c8] at H
            exact absurd H (by simp)
        · replace c7 := Bool.eq_false_iff.mpr c7
          subst c7
          have H1 : (impl_Marks_digits.l0 k1 x3_1 (wrap64 (x6_1 + 1)) a0_0 a0_1) = some r := by rw [if_neg (show ¬ (false = true) by decide)] at H; exact H
          clear H
          have H := H1
          clear H1
          have H' := Aside0.mk H
          clear H
          have hcz12_0 : wr.cell? ⟨gb170, 0, none⟩ = some (.int .u64 a0_0) := (blk_cell BK170.out 0).trans rfl
          have hcz12_1 : wr.cell? ⟨gb170, 1, none⟩ = some (.int .u64 a0_1) := (blk_cell BK170.out 1).trans rfl
          have hfz12_0 := blk_frozen BK170.out 0
          have hfz12_1 := blk_frozen BK170.out 1
          go_wp2_with (first | ((with_reducible refine gate_callee (f := 41) rfl ?_); refine goesL_ (some 11) rfl rfl Tryd.func41 (by kernel_rfl) rfl #[.agg #[.int .u64 a0_0, .int .u64 a0_1], .int .i64 x6_1] rfl (by (try simp only [List.map_toArray, List.map_cons, List.map_nil]); first | done | rfl | (simp only [List.length_drop, List.length_take]; rfl)) ?_; (with_reducible refine (impl_Marks_has.calls a0_0 a0_1 x6_1 false _ A6.out).mono ?_); rintro e w13 ⟨rfl, hb⟩; refine ⟨_, rfl, ?_⟩; have n0_ := Aside0.mk (Kd.R_below (by (with_reducible repeat (first | apply Kd.R_alloc | apply Kd.R_drewN | apply Kd.R_drew)); exact HO_3.out) hb); have n1_ := Aside0.mk (blk_below (g := gb170) (o := .cells #[.int .u64 a0_0, .int .u64 a0_1] 29 (0, 0)) (by (with_reducible repeat (first | refine blk_drewN ?_ _ | refine blk_drew ?_ | refine blk_alloc ?_ _)); exact BK170.out) hb); have n2_ := Aside0.mk (below_step (by repeat (first | (with_reducible first | exact HB.out | apply below_alloc | apply pw_below_drewN | apply below_drew1 | refine below_set ?_ GE170.out) | exact HB.out)) hb); clear HO_3; clear BK170; clear HB; have HO_3 := n0_; have BK170 := n1_; have HB := n2_; clear n0_ n1_ n2_; (try clear hb); (try clear hb2); (try clear hk); (try clear hi)))
          go_roundg k1
          case measure => have := HK1.out; omega
          case rel => exact ⟨(x3_1), (wrap64 (x6_1 + 1)), (by first | rfl | (simp; done) | (simp [*]; done)), H', ⟨by have := HK1.out; omega⟩, ⟨by (with_reducible repeat (first | apply Kd.R_alloc | apply Kd.R_drewN | apply Kd.R_drew)); exact HO_3.out⟩, ⟨by (with_reducible repeat (first | refine blk_drewN ?_ _ | refine blk_drew ?_ | refine blk_alloc ?_ _)); exact BK170.out⟩, ⟨by repeat (first | (with_reducible first | exact HB.out | apply below_alloc | apply pw_below_drewN | apply below_drew1 | refine below_set ?_ GE170.out) | exact HB.out)⟩⟩
      · rw [if_neg c5] at H
        have c5b0 : decide (x6_1 < 128) = false := decide_eq_false c5
        clear c5
        obtain rfl := Option.some.inj H
        go_wp2
        go_ret
        exact ⟨_, by first | rfl | (simp [errW_none, errW_some] <;> rfl) | (simp [*, errW_none, errW_some] <;> rfl), by (with_reducible repeat (first | apply Kd.R_alloc | apply Kd.R_drewN | apply Kd.R_drew)); exact HO_3.out, by repeat (first | (with_reducible first | exact HB.out | apply below_alloc | apply pw_below_drewN | apply below_drew1 | refine below_set ?_ GE170.out) | exact HB.out)⟩

end Go.Proofs.YtgfimdoildaonaaDoor.P

/- A region that draws its order, in a round of a range over a function under the wide fence: by the plain calculus. -/
namespace Go.Proofs.YtgfimdoildaonaaDoor.P
open Go.RowKit Go.Proofs.YtgfimdoildaonaaDoorW.PrintWords Go.Proofs.YtgfimdoildaonaaDoorW.PrintLast Go.Proofs.YtgfimdoildaonaaDoorW.PrintMore
set_option linter.unusedVariables false
section
variable {P : Program} {ops : Array Oper} {Q : Exit → Act → World → Prop} {l n : Nat}
theorem rowsIn_round {row : String} {args : Array Value} {w : World} {R : Value → World → Prop} (h : Rows P row args w R) : RowsIn (Fence.wide.inRound l) n P row args w R :=
  fun c cs _ => let ⟨v, w', r, s⟩ := h c cs; ⟨v, w', r, stepsIn_wide.2 s⟩
theorem uponIn_round_of (hQ : ¬ LetsOut Q) {o : Oper} {a : Act} {K : Act → World → Prop} {r : Result Next} (h : o.upon P a K Q r) : o.uponIn (Fence.wide.inRound l) n P a K Q r := by
  cases r with
  | ok x w' =>
    cases x with
    | value v => exact h
    | skip => exact h
    | defer d => exact h
    | enter f args =>
      refine ⟨fun h' => (by cases h'), CallsIn.inRound l (callsIn_wide.2 (Calls.mono h ?_))⟩
      intro e w'' he
      cases e with
      | returned v => exact he
      | panicked c => exact he
      | outgrown => exact (hQ he).elim
    | row row args => exact ⟨fun h' => (by cases h'), rowsIn_round h⟩
    | round l f tmps assign body => exact (show False from h).elim
    | _ => exact (show False from h).elim
  | halt x w' =>
    cases x with
    | panic v => exact h
    | _ => exact (show False from h).elim
theorem operIn_round_of (hQ : ¬ LetsOut Q) {o : Oper} (hd : ∀ c, o.op ≠ .defer c) {a : Act} {w : World} {K : Act → World → Prop} (h : o.wp P a w K Q) : o.wpIn (Fence.wide.inRound l) n P a w K Q := by
  refine ⟨fun _ _ => trivial, ?_⟩
  rw [Oper.semAt_eq _ _ _ hd]
  exact uponIn_round_of hQ h
def noDefer (ops : Array Oper) : Bool := ops.all fun o => match o.op with
  | .defer _ => false
  | _ => true
theorem noDefer_at (h : noDefer ops = true) {i : Nat} {o : Oper} (ho : ops[i]? = some o) : ∀ c, o.op ≠ .defer c := by
  obtain ⟨hi, rfl⟩ := Array.getElem?_eq_some_iff.1 ho
  have := (Array.all_eq_true.1 h) i hi
  intro c hc
  rw [hc] at this
  cases this
theorem wpOpIn_round_of (hQ : ¬ LetsOut Q) (hd : noDefer ops = true) {i : Nat} {K : Act → World → Prop} {a : Act} {w : World} (h : wpOp P ops Q i K a w) : wpOpIn (Fence.wide.inRound l) n P ops Q i K a w := by
  unfold wpOp at h
  unfold wpOpIn
  cases ho : ops[i]? with
  | none => rw [ho] at h; exact h
  | some o =>
    rw [ho] at h
    simp only at h ⊢
    split
    · rename_i hw
      rw [if_pos hw] at h
      rcases h with h | ⟨_, h⟩
      · exact operIn_round_of hQ (noDefer_at hd ho) h
      · exact (hQ h).elim
    · rename_i hw
      rw [if_neg hw] at h
      exact ⟨fun _ _ => trivial, h⟩
theorem wpAnyIn_round_of (hQ : ¬ LetsOut Q) (hd : noDefer ops = true) {md : Region.Mode} : ∀ (fuel : Nat) (listed : Array Bool) (a : Act) (w : World), wpAny P md ops Q fuel listed a w → wpAnyIn (Fence.wide.inRound l) n P md ops Q fuel listed a w
  | 0, _, _, _, h => h
  | fuel + 1, _, _, _, h => ⟨h.1, fun i hi => wpOpIn_mono (fun a' w' h' => wpAnyIn_round_of hQ hd fuel _ a' w' h') (wpOpIn_round_of hQ hd (h.2 i hi))⟩
/-- The print's start of a drawing region, in a round. -/
theorem startIn_ {S : World → Prop} {ds : List Nat} {id m : Nat} {a : Act} {w : World} (lb : Array Bool) (hm : P.follows .mixedOrders = true) (hn : ops.size = m) (hl : Array.replicate m false = lb) (hQ : ¬ LetsOut Q) (hd : noDefer ops = true) (hS : S w.drew)
    (h : S w.drew → wpAnyLast P .any ops Q S ds m lb a w.drew) : (Code.region id ops true).wpIn (Fence.wide.inRound l) n P Q a w := by
  subst hn
  subst hl
  exact wpIn_region_any hm (wpAnyIn_round_of hQ hd _ _ _ _ (wpAny_of_last _ _ _ _ (h hS)))
end
theorem not_letsOut_G {α : Type} {B : Nat} {Kp : World → World → Prop} {I : List α → World → Prop} {Ix : Code → List α → World → Prop} {xs : List α} {W : World} : ¬ LetsOut (ownPostG B Kp I Ix xs W) :=
  fun ⟨_, _, h⟩ => h
end Go.Proofs.YtgfimdoildaonaaDoor.P

/- slices.Backward over a stack: the iterator's contract. -/
namespace Go.Proofs.YtgfimdoildaonaaDoor.P
open Go.RowKit Go.Shelf Go.Proofs.YtgfimdoildaonaaDoorW.PrintWords Go.Proofs.YtgfimdoildaonaaDoorW.PrintLast Go.Proofs.YtgfimdoildaonaaDoorW.PrintMore
set_option linter.unusedVariables false
set_option linter.unusedSimpArgs false
attribute [local go_sem] Oper.semAt_some

/-- The places of a list of n elements, from the last one down. -/
def dn (n : Nat) : List (Fin n) := (List.finRange n).reverse
theorem dn_length (n : Nat) : (dn n).length = n := by simp [dn]
theorem dn_take (n k : Nat) (h : k < n) : (dn n).take (k + 1) = (dn n).take k ++ [⟨n - 1 - k, by omega⟩] := by
  rw [List.take_succ_eq_append_getElem (by rw [dn_length]; exact h)]
  congr 2
  simp [dn, List.getElem_reverse]
theorem dn_map {α : Type} (n : Nat) (f : Nat → α) : (dn n).map (fun i => f i.1) = ((List.range n).map f).reverse := by
  unfold dn
  rw [List.map_reverse]
  congr 1
  apply List.ext_getElem
  · simp
  · intro i h1 h2; simp
/-- What a round keeps: what lay below, and the box of the slice. -/
def KpB (n0 Bs : Nat) (W W' : World) : Prop := Below n0 W W' ∧ W'.heap[Bs]? = W.heap[Bs]?
theorem kpB_t {n0 Bs : Nat} {A B C : World} (h : KpB n0 Bs A B) (k : KpB n0 Bs B C) : KpB n0 Bs A C := ⟨h.1.trans k.1, k.2.trans h.2⟩
theorem kpB_b {n0 Bs : Nat} {w : World} (hn : n0 ≤ w.heap.size) (hB : Bs < w.heap.size) (W : World) (l : Nat) (o o' : Obj) (hl : w.heap.size ≤ l) (h : W.heap[l]? = some o) (h1 : o.isCells = false) (h2 : o.isWalk = false) : KpB n0 Bs W (W.putObj l o') :=
  ⟨belowK_b hn W l o o' hl h h1 h2, World.putObj_heap_other (by omega)⟩

set_option maxRecDepth 100000 in
set_option maxHeartbeats 2000000 in
theorem back1_in (n : Nat) (hn : 1 ≤ n) (l Bs : Nat) (A : Option Addr) (c : Nat) (s : List Int) (w0 : World) (hr : Kd.C (Kd.int .u8) w0 A s.length s) (hs : s.length ≤ 1048576) (J Jx : List (Fin s.length) → World → Prop)
    (hY : ∀ pre x W, J pre W → pre.length < s.length → YieldAt Fence.wide (n - 1) Tryd.prog l #[.int .i64 (x.1 : Int), .int .u8 (rd s (x.1 : Int))] W fun e W' =>
      (e = .returned (.bool true) ∧ J (pre ++ [x]) W' ∧ KpB w0.heap.size Bs W W') ∨ (e = .returned (.bool false) ∧ Jx (pre ++ [x]) W'))
    (W : World) (hb0 : Below w0.heap.size w0 W) (hBs : Boxed W Bs 27 (.slice A s.length c)) (h0 : J [] W) :
    CallsIn Fence.wide n Tryd.prog 39 #[.func (.yield l) #[] #[], .pointer (some ⟨Bs, 0, none⟩)] W fun e W' => (∃ v, e = .returned v) ∧
      ((∃ ys, ys = dn s.length ∧ J ys W') ∨ (∃ pre, True ∧ Jx pre W')) := by
  have HR := Aside0.mk hr
  clear hr
  refine callsIn_of_wp Tryd.func39 rfl trivial ?_ rfl
  simp only [Tryd.ntmps39, List.size_toArray, List.length_cons, List.length_nil, Nat.reduceAdd, Nat.reduceSub, Array.replicate_succ, Array.replicate_zero, List.push_toArray, List.append_toArray, List.nil_append, List.cons_append]
  have hcs := hBs.cell
  have HBx := Aside0.mk hBs
  clear hBs
  gi_wp2
  gi_loopw [3] (fun i wr => ∃ j : Nat, j ≤ s.length ∧ i = .int .i64 ((j : Int) - 1) ∧ Aside0 (J ((dn s.length).take (s.length - j)) wr) ∧ Aside0 (Below w0.heap.size w0 wr) ∧ Aside0 (Boxed wr Bs 27 (.slice A s.length c)))
    (fun i _ => (intOf i + 1).toNat)
  case atStart => exact ⟨s.length, Nat.le_refl _, rfl, ⟨by rw [Nat.sub_self]; exact h0⟩, ⟨hb0⟩, HBx⟩
  case round =>
    clear hcs
    obtain ⟨j, hj, rfl, HJ, HB, HX⟩ := hrel
    cases j with
    | zero =>
      gi_wp2
      go_end0
      exact ⟨⟨_, rfl⟩, .inl ⟨_, rfl, by have := HJ.out; rw [Nat.sub_zero, List.take_of_length_le (by rw [dn_length]; exact Nat.le_refl _)] at this; exact this⟩⟩
    | succ m =>
      have hi : ((m + 1 : Nat) : Int) - 1 = (m : Int) := by omega
      rw [hi]
      clear hi
      obtain ⟨ad, e, hx⟩ := Kd.at_int HR.out (m : Int) (by omega) (by omega)
      cases e
      rw [Int.toNat_natCast] at hx
      replace hx := (HB.out.cell (World.block_lt_of_cell? w0 _ hx)).trans hx
      have hcs := HX.out.cell
      have hlt : m < s.length := by omega
      obtain ⟨fn, tmps, assign, body, hy, hR⟩ := hY _ ⟨m, hlt⟩ wr HJ.out (by rw [List.length_take, dn_length]; omega)
      dsimp only at hy
      have HS := Aside0.mk (show (dn s.length).take (s.length - m) = (dn s.length).take (s.length - (m + 1)) ++ [⟨m, hlt⟩] by
        have := dn_take s.length (s.length - (m + 1)) (by omega)
        rw [show s.length - (m + 1) + 1 = s.length - m by omega] at this
        rw [this]
        congr 3
        omega)
      generalize rd s (m : Int) = b at hx hy
      gi_wp2
      refine hR.mono ?_
      rintro e W3 (⟨rfl, hJ3, hk3⟩ | ⟨rfl, hJx3⟩)
      · have HJ3 := Aside0.mk hJ3
        have HK3 := Aside0.mk hk3
        clear hJ3 hk3
        gi_wp2
        go_roundw
        case rel => exact ⟨m, by omega, rfl, ⟨by rw [HS.out]; exact HJ3.out⟩, ⟨HB.out.trans HK3.out.1⟩, ⟨HK3.out.2.trans HX.out⟩⟩
        case measure => simp [intOf]; try omega
      · gi_wp2
        refine bodyPost_ret (results_none rfl _ _ _) rfl ?_
        exact ⟨⟨_, rfl⟩, .inr ⟨_, trivial, hJx3⟩⟩

set_option maxHeartbeats 1000000 in
theorem back_at (A : Option Addr) (len c : Nat) (w : World) :
    Calls Tryd.prog 21 #[.slice A len c] w fun e w' => e = .returned (.func (.func 39) #[] #[.pointer (some ⟨w.heap.size, 0, none⟩)]) ∧ w' = w.alloc (.cells #[.slice A len c] 27) := by
  go_enter Tryd.func21, Tryd.ntmps21
  go_wp2
  go_ret
  exact ⟨rfl, rfl⟩

theorem back_stops (n : Nat) (hn : 1 ≤ n) (Bs : Nat) (A : Option Addr) (c : Nat) (s : List Int) (w0 w : World) (hr : Kd.C (Kd.int .u8) w0 A s.length s) (hs : s.length ≤ 1048576) (hb0 : Below w0.heap.size w0 w) (hBs : Boxed w Bs 27 (.slice A s.length c)) :
    SeqStopsK Fence.wide n Tryd.prog 39 #[.pointer (some ⟨Bs, 0, none⟩)] (fun x : Fin s.length => #[Value.int .i64 (x.1 : Int), Value.int .u8 (rd s (x.1 : Int))]) (KpB w0.heap.size Bs)
      (fun ys => ys = dn s.length) (fun _ => True) s.length w := fun l J Jx W hW _ _ hY h0 =>
  back1_in n hn l Bs A c s w0 hr hs J Jx hY W (hb0.trans (hW.mono hb0.size)) ((hW.block Bs hBs.lt).trans hBs) h0
end Go.Proofs.YtgfimdoildaonaaDoor.P

/- impl.padded: a number with so many digits at least. -/
namespace Go.Proofs.YtgfimdoildaonaaDoor.P
open Go.RowKit Go.Proofs.YtgfimdoildaonaaDoorW.PrintWords Go.Proofs.YtgfimdoildaonaaDoorW.PrintLast Go.Proofs.YtgfimdoildaonaaDoorW.PrintMore
set_option linter.unusedVariables false
set_option linter.unusedSimpArgs false
def padT (n : Int) (dg : Nat) : ByteArray := ⟨(Lib.repeatL [48] (dg - (dec n).size)).toArray⟩ ++ dec n
set_option maxHeartbeats 1000000 in
theorem padded_at (n : Int) (dg : Nat) (w : World) (hT : Tab w) (h0 : -9223372036854775808 ≤ n) (h1 : n ≤ 9223372036854775807) (h2 : dg ≤ 20) :
    Calls Tryd.prog 48 #[.int .i64 n, .int .i64 dg] w fun e w' => e = .returned (.string (padT n dg)) ∧ Below w.heap.size w w' := by
  have hsz := dec_size n h0 h1
  have HT := Aside0.mk hT
  have hmx : max (0 : Int) ((dg : Int) - ((dec n).size : Int)) = ((dg - (dec n).size : Nat) : Int) := by omega
  have HP := Aside0.mk (show ∀ W, Calls Tryd.prog 67 #[.string ⟨#[48]⟩, .int .i64 ((dg - (dec n).size : Nat) : Int)] W fun e w' => e = .returned (.string ⟨(Lib.repeatL [48] (dg - (dec n).size)).toArray⟩) ∧ Below W.heap.size W w' from
    fun W => Tryd.strings_Repeat ⟨#[48]⟩ (dg - (dec n).size) W (by omega) (by show 1 * _ ≤ _; omega))
  have HD := Aside0.mk (decimalGo n w hT h0 h1)
  have HE := Aside0.mk (show padT n dg = ⟨(Lib.repeatL [48] (dg - (dec n).size)).toArray⟩ ++ dec n from rfl)
  have hl : (⟨(Lib.repeatL [48] (dg - (dec n).size)).toArray⟩ : ByteArray).size ≤ 20 := by
    rw [ba_size]
    rw [Lib.repeatL_length]; simp; omega
  generalize padT n dg = r at HE
  generalize (⟨(Lib.repeatL [48] (dg - (dec n).size)).toArray⟩ : ByteArray) = z at HP HE hl
  generalize dg - (dec n).size = q at hmx HP
  generalize dec n = t at hsz hmx HD HE
  have HM := Aside0.mk hmx
  clear hT
  go_enter Tryd.func48, Tryd.ntmps48
  go_wp2_with (go_at_call 35; refine HD.out.mono ?_; rintro e w1 ⟨rfl, hb⟩; (have HB := Aside0.mk hb); clear hb)
  have s1 : (9223372036854775807 < z.size + t.size) = False := eq_false (by omega)
  go_wp2_with (go_at_call 67; refine (HP.out _).mono ?_; rintro e w2 ⟨rfl, hb⟩; (have HB2 := Aside0.mk (below_step HB.out hb)); clear hb)
  go_ret
  exact ⟨by rw [HE.out]; rfl, HB2.out⟩
end Go.Proofs.YtgfimdoildaonaaDoor.P

/- impl's Stack.text: the digits' texts, the last wheel first, with colons between. -/
namespace Go.Proofs.YtgfimdoildaonaaDoor.P
open Go.RowKit Go.Shelf Go.Proofs.YtgfimdoildaonaaDoorW.PrintWords Go.Proofs.YtgfimdoildaonaaDoorW.PrintLast Go.Proofs.YtgfimdoildaonaaDoorW.PrintMore
set_option linter.unusedVariables false
set_option linter.unusedSimpArgs false
attribute [local go_sem] Oper.semAt_some
theorem infoStr : (Tryd.prog.info? 9).map (fun i => (i.zero, i.size, i.bytes)) = some (some (.string ⟨#[]⟩), 1, 16) := by kernel_rfl

/-- The text of a digit of a wheel. -/
def digT (b d : Int) : ByteArray := padT d (dec (b - 1)).size
structure Dg where
  f0 : Int
  f1 : Int
  f2 : Int
  f3 : Int
  f4 : Int
  f5 : Int
  f6 : Int
  f7 : Int
def dlist (d : Dg) : List Int := [d.f0, d.f1, d.f2, d.f3, d.f4, d.f5, d.f6, d.f7]
def stT (s : List Int) (d : Dg) (i : Nat) : ByteArray := digT (rd s i) (nth (dlist d) i)

theorem join_two (x y : List UInt8) (r : List (List UInt8)) (sep : List UInt8) : Lib.join (x :: y :: r) sep = x ++ sep ++ Lib.join (y :: r) sep := by
  rw [Lib.join_cons, Lib.join_cons]
  simp [Lib.joinTail]
theorem join_le (xs : List (List UInt8)) (m : Nat) (h : ∀ l ∈ xs, l.length ≤ m) : (Lib.join xs [58]).length ≤ xs.length * (m + 1) := by
  match xs, h with
  | [], _ => simp [Lib.join]
  | [x], h => simp [Lib.join]; have := h x (by simp); omega
  | x :: y :: r, h =>
    have ih := join_le (y :: r) m (fun l hl => h l (List.mem_cons_of_mem _ hl))
    have hx := h x (by simp)
    rw [join_two]
    simp only [List.length_append, List.length_cons, List.length_nil] at ih ⊢
    have : (r.length + 1 + 1) * (m + 1) = (r.length + 1) * (m + 1) + (m + 1) := Nat.succ_mul _ _
    omega
theorem padT_le (n : Int) (dg : Nat) (h0 : -9223372036854775808 ≤ n) (h1 : n ≤ 9223372036854775807) (h2 : dg ≤ 20) : (padT n dg).data.toList.length ≤ 100 := by
  have := dec_size n h0 h1
  have h3 : (padT n dg).data.toList.length = (dg - (dec n).size) + (dec n).size := by
    unfold padT
    rw [show (⟨(Lib.repeatL [48] (dg - (dec n).size)).toArray⟩ ++ dec n : ByteArray).data.toList = (Lib.repeatL [48] (dg - (dec n).size)) ++ (dec n).data.toList by simp, List.length_append]
    congr 1
    simp [Lib.repeatL_length]
  omega
theorem event_none {P : Program} {ops : Array Oper} {o : Oper} {a : Act} {Q : Exit → Act → World → Prop} {Kc : Act → World → Prop} {W w1 : World} (hw : Region.wanted o (yielded ops a.tmps) = true) (hN : o.dst = none) (hrun : (execOp a.eval o).run P W = .ok .skip w1) (h : Kc a w1) :
    if Region.wanted o (yielded ops a.tmps) = true then Oper.wp P o a W Kc Q else Kc (a.put none undef) W := by
  rw [if_pos hw]
  unfold Oper.wp
  rw [hrun]
  show Kc (a.put o.dst undef) w1
  rw [hN]
  exact h
theorem below_via {B : Nat} {w W W' : World} (h : Below B w W) (h' : Below B w W') (hs : W.heap.size ≤ W'.heap.size) : Below B W W' :=
  ⟨h'.os.trans h.os.symm, h'.tape.trans h.tape.symm, h'.output.trans h.output.symm, hs, fun k hk => (h'.block k hk).trans (h.block k hk).symm⟩
theorem keepsFrom_below {B : Nat} {W W' : World} (h : Below W.heap.size W W') : KeepsFrom B W W' :=
  ⟨h.size, fun k o _ hk _ => (h.block k (Array.getElem?_eq_some_iff.1 hk).1).trans hk⟩
theorem blk_own {W W' : World} {row : Option Nat} {g : Nat} {cs : Array Value} {t : TypeId} (h : W.heap[g]? = some (.cells cs t (0, 0))) (hg : W.grownBy W' row) (hr : ∀ r, row = some r → ∃ o : Obj, W.heap[r]? = some o ∧ o.isCells = false) :
    W'.heap[g]? = some (.cells cs t (0, 0)) :=
  blk_grown h hg (fun e => by obtain ⟨o, ho, hc⟩ := hr g e.symm; rw [h] at ho; cases ho; cases hc)
theorem row_own {W W' : World} {row : Option Nat} {base : Nat} {e : TypeId} {size n : Nat} {v : Value} {xs : List Value} (h : W.ownsRow base e size v n xs) (hg : W.grownBy W' row) (hr : ∀ r, row = some r → ∃ o : Obj, W.heap[r]? = some o ∧ o.isCells = false) :
    W'.ownsRow base e size v n xs := by
  refine own_move h (fun k hk => hg.block k (own_lt h k hk) (fun e' => ?_))
  obtain ⟨o, ho, hc⟩ := hr k e'.symm
  obtain ⟨cells, hcl⟩ := own_typed h k hk
  rw [hcl] at ho; cases ho; cases hc

/-- The text of digits. -/
def stTxt (s : List Int) (d : Dg) : ByteArray := ⟨(Lib.join (((List.range s.length).map (stT s d)).reverse.map (·.data.toList)) [58]).toArray⟩
set_option maxHeartbeats 2000000 in
set_option maxRecDepth 100000 in
theorem stackText_at (A0 : Option Addr) (c0 : Nat) (s : List Int) (d : Dg) (w : World) (hT : Tab w) (hr : Kd.C (Kd.int .u8) w A0 s.length s) (hs : s.length ≤ 8) (hs1 : 1 ≤ s.length)
    (hb : ∀ i : Nat, i < s.length → 2 ≤ rd s i ∧ rd s i ≤ 100) (hd : ∀ i : Nat, i < s.length → 0 ≤ nth (dlist d) i ∧ nth (dlist d) i ≤ 255) :
    Calls Tryd.prog 29 #[.slice A0 s.length c0, .agg #[.int .u8 d.f0, .int .u8 d.f1, .int .u8 d.f2, .int .u8 d.f3, .int .u8 d.f4, .int .u8 d.f5, .int .u8 d.f6, .int .u8 d.f7]] w fun e w' => e = .returned (.string (stTxt s d)) ∧ Below w.heap.size w w' := by
  have HT := Aside0.mk hT
  have HR := Aside0.mk hr
  have HBA := Aside0.mk hb
  have HDA := Aside0.mk hd
  clear hT hr hb hd
  obtain ⟨i0, hi, hz0, hz1, hz2⟩ := info_parts infoStr
  refine (callsIn_wide (n := 8)).1 ?_
  refine callsIn_of_wp_marks Tryd.func29 rfl trivial ?_ rfl
  simp only [Tryd.ntmps29, List.size_toArray, List.length_cons, List.length_nil, Nat.reduceAdd, Nat.reduceSub, Array.replicate_succ, Array.replicate_zero, List.push_toArray, List.append_toArray, List.nil_append, List.cons_append]
  gi_wp2_with (refine ⟨trivial, ?_⟩; gi_at_call 21; refine (callsIn_wide.2 (back_at _ _ _ _)).mono ?_; rintro e w' ⟨rfl, rfl⟩)
  have hW0g : ((((w.alloc (.cells #[.int .u8 d.f0, .int .u8 d.f1, .int .u8 d.f2, .int .u8 d.f3, .int .u8 d.f4, .int .u8 d.f5, .int .u8 d.f6, .int .u8 d.f7] 37)).alloc (.cells #[] 9)).alloc (.cells #[.slice (some ⟨w.heap.size + 1, 0, none⟩) 0 0] 52)).alloc (.cells #[.slice A0 s.length c0] 27)).heap.size = w.heap.size + 4 := by simp
  have hB0 : Below w.heap.size w ((((w.alloc (.cells #[.int .u8 d.f0, .int .u8 d.f1, .int .u8 d.f2, .int .u8 d.f3, .int .u8 d.f4, .int .u8 d.f5, .int .u8 d.f6, .int .u8 d.f7] 37)).alloc (.cells #[] 9)).alloc (.cells #[.slice (some ⟨w.heap.size + 1, 0, none⟩) 0 0] 52)).alloc (.cells #[.slice A0 s.length c0] 27)) := below_alloc (below_alloc (below_alloc (below_alloc (Below.refl _ _) _) _) _) _
  have b1 := blk_new w (.cells #[.int .u8 d.f0, .int .u8 d.f1, .int .u8 d.f2, .int .u8 d.f3, .int .u8 d.f4, .int .u8 d.f5, .int .u8 d.f6, .int .u8 d.f7] 37)
  have b2 := blk_new (w.alloc (.cells #[.int .u8 d.f0, .int .u8 d.f1, .int .u8 d.f2, .int .u8 d.f3, .int .u8 d.f4, .int .u8 d.f5, .int .u8 d.f6, .int .u8 d.f7] 37)) (.cells #[] 9)
  have b3 := blk_new ((w.alloc (.cells #[.int .u8 d.f0, .int .u8 d.f1, .int .u8 d.f2, .int .u8 d.f3, .int .u8 d.f4, .int .u8 d.f5, .int .u8 d.f6, .int .u8 d.f7] 37)).alloc (.cells #[] 9)) (.cells #[.slice (some ⟨w.heap.size + 1, 0, none⟩) 0 0] 52)
  have b4 := blk_new (((w.alloc (.cells #[.int .u8 d.f0, .int .u8 d.f1, .int .u8 d.f2, .int .u8 d.f3, .int .u8 d.f4, .int .u8 d.f5, .int .u8 d.f6, .int .u8 d.f7] 37)).alloc (.cells #[] 9)).alloc (.cells #[.slice (some ⟨w.heap.size + 1, 0, none⟩) 0 0] 52)) (.cells #[.slice A0 s.length c0] 27)
  simp only [World.size_alloc] at b2 b3 b4
  replace b1 := blk_alloc (blk_alloc (blk_alloc b1 (.cells #[] 9)) (.cells #[.slice (some ⟨w.heap.size + 1, 0, none⟩) 0 0] 52)) (.cells #[.slice A0 s.length c0] 27)
  replace b2 := blk_alloc (blk_alloc b2 (.cells #[.slice (some ⟨w.heap.size + 1, 0, none⟩) 0 0] 52)) (.cells #[.slice A0 s.length c0] 27)
  replace b3 := blk_alloc b3 (.cells #[.slice A0 s.length c0] 27)
  generalize ((((w.alloc (.cells #[.int .u8 d.f0, .int .u8 d.f1, .int .u8 d.f2, .int .u8 d.f3, .int .u8 d.f4, .int .u8 d.f5, .int .u8 d.f6, .int .u8 d.f7] 37)).alloc (.cells #[] 9)).alloc (.cells #[.slice (some ⟨w.heap.size + 1, 0, none⟩) 0 0] 52)).alloc (.cells #[.slice A0 s.length c0] 27)) = W0 at hW0g hB0 b1 b2 b3 b4 ⊢
  have hgp : w.heap.size ≤ w.heap.size + 1 + 1 := by omega
  have hgs : w.heap.size ≤ w.heap.size + 1 + 1 + 1 := by omega
  have HW0 := Aside0.mk hW0g
  have HB0 := Aside0.mk hB0
  refine wpIn_rangeFunc_ownG rfl (by omega) (gf := 39) (lb := #[.pointer (some ⟨w.heap.size + 1 + 1 + 1, 0, none⟩)]) rfl trivial (enters_of Tryd.func39 (by kernel_rfl) rfl)
    (back_stops _ (by omega) (w.heap.size + 1 + 1 + 1) A0 c0 s w W0 HR.out (by omega) hB0 b4) (fun h k => kpB_t h k) (kpB_b (by omega) (by omega)) (Below.refl _ _) (fun _ => rfl)
    (fun pre W => ((∃ v, Boxed W (w.heap.size + 1 + 1) 52 v ∧ W.ownsRow w.heap.size 9 1 v pre.length (encs Value.string (pre.map fun i => stT s d i.1))) ∧ (W.heap[w.heap.size]? = some (.cells #[.int .u8 d.f0, .int .u8 d.f1, .int .u8 d.f2, .int .u8 d.f3, .int .u8 d.f4, .int .u8 d.f5, .int .u8 d.f6, .int .u8 d.f7] 37 (0, 0)) ∧ Boxed W (w.heap.size + 1 + 1 + 1) 27 (.slice A0 s.length c0))) ∧ Below w.heap.size w W)
    (fun _ _ _ => False)
    (OwnFrom.and (Own.from (fun pre A B row hs hg hr => by
      obtain ⟨⟨v, h1, h2⟩, h3, h4⟩ := hs
      exact ⟨⟨v, blk_own h1 hg hr, row_own h2 hg hr⟩, blk_own h3 hg hr, blk_own h4 hg hr⟩) _) (ownFrom_below (Nat.le_refl _) (by omega)))
    (fun _ _ _ _ _ hs _ _ => hs)
    ⟨⟨⟨_, b3, ⟨rfl, .inr ⟨_, 0, #[], rfl, by omega, b2, Nat.le_refl _, by unfold maxLen; omega, rfl, rfl⟩⟩⟩, b1, b4⟩, hB0⟩
    (fun x => { tmps := #[.slice A0 s.length c0, .agg #[.int .u8 d.f0, .int .u8 d.f1, .int .u8 d.f2, .int .u8 d.f3, .int .u8 d.f4, .int .u8 d.f5, .int .u8 d.f6, .int .u8 d.f7], undef, .pointer (some ⟨w.heap.size, 0, none⟩), .string ⟨#[]⟩, .pointer (some ⟨w.heap.size + 1 + 1, 0, none⟩), .int .i64 (x.1 : Int), .int .u8 (rd s (x.1 : Int)), .slice (some ⟨w.heap.size + 1, 0, none⟩) 0 0, .slice A0 s.length c0, .func (.func 39) #[] #[.pointer (some ⟨w.heap.size + 1 + 1 + 1, 0, none⟩)], .int .i64 (x.1 : Int), .int .u8 (rd s (x.1 : Int)), undef, undef, undef, undef, undef, undef, undef, undef, undef, undef, undef, undef, undef, undef, undef], defers := [] }) ?assign ?body ?done ?stop
  case assign =>
    intro l x W K hK
    gi_wp2
    exact hK
  case body =>
    clear b1 b2 b3 b4 hW0g hB0
    rintro l pre x W ⟨⟨⟨v, hv, hrow⟩, hG, hS⟩, hB⟩ hlt
    have hx0 : (0 : Int) ≤ (x.1 : Int) := by omega
    have hx8 : (x.1 : Int) < 8 := by have := x.2; omega
    obtain ⟨hb0, hb1⟩ := HBA.out x.1 x.2
    obtain ⟨hd0, hd1⟩ := HDA.out x.1 x.2
    have hst : stT s d x.1 = padT (nth (dlist d) x.1) (dec (rd s x.1 - 1)).size := rfl
    have hdc : W.cell? ⟨w.heap.size, x.1, none⟩ = some (.int .u8 (nth (dlist d) x.1)) := by
      have := (blk_cell hG x.1).trans (arr_nth .u8 (dlist d) (x.1 : Int) 8 rfl hx0 hx8)
      exact this
    have HST := Aside0.mk hst
    generalize hbx : rd s (x.1 : Int) = bx at hb0 hb1 HST ⊢
    generalize hdx : nth (dlist d) (x.1 : Int) = dx at hd0 hd1 HST hdc
    clear hst hbx hdx
    have hpc := hv.cell
    have hpf := hv.frozen
    have HV := Aside0.mk hv
    have HROW := Aside0.mk hrow
    have HG := Aside0.mk hG
    have HS := Aside0.mk hS
    have HB := Aside0.mk hB
    have HTW := Aside0.mk (HT.out.below hB)
    clear hv hrow hG hS hB
    have hl8 : pre.length < 8 := by omega
    have hw1 : wrap64 dx = dx := by unfold wrap64; omega
    have HW3 := Aside0.mk (show wrap64 (wrap64 bx - 1) = bx - 1 by unfold wrap64; omega)
    have HW1 := Aside0.mk hw1
    clear hw1
    gi_wp2
    refine startIn_ (m := 14) (S := fun w' => w'.cell? ⟨w.heap.size + 1 + 1, 0, none⟩ = some v ∧ w'.cell? ⟨w.heap.size, x.1, none⟩ = some (.int .u8 dx)) (ds := [13]) #[false, false, false, false, false, false, false, false, false, false, false, false, false, false] (by kernel_rfl) rfl rfl (fun ⟨_, _, h⟩ => h) (by kernel_rfl) ⟨hpc, hdc⟩ (fun hHeld => ?_)
    have HBW := Aside0.mk (below_drew1 (Below.refl W.heap.size W))
    generalize W.drew = W1 at HBW hHeld ⊢
    refine pure_ (i := 1) (N := (some 14)) (v := ?_) (a' := ?_) #[false, true, false, false, false, false, false, false, false, false, false, false, false, false] rfl rfl (by kernel_rfl) (fun _ _ _ h => h) (Or.inl ⟨by rfl, ?_⟩) ?_ ?_
    rotate_left
    · intro w'
      go_simp
      with_reducible rfl
    rotate_left
    · simp only [Act.put, List.setIfInBounds_toArray, List.set_cons_zero, List.set_cons_succ, i64_w, i32_w]
      rfl
    refine pure_ (i := 2) (N := (some 15)) (v := ?_) (a' := ?_) #[false, true, true, false, false, false, false, false, false, false, false, false, false, false] rfl rfl (by kernel_rfl) (fun _ _ _ h => h) (Or.inl ⟨by rfl, ?_⟩) ?_ ?_
    rotate_left
    · intro w'
      go_simp
      with_reducible rfl
    rotate_left
    · simp only [Act.put, List.setIfInBounds_toArray, List.set_cons_zero, List.set_cons_succ, i64_w, i32_w]
      rfl
    refine take_ (i := 0) (N := (some 13)) (v := ?_) (a' := ?_) #[true, true, true, false, false, false, false, false, false, false, false, false, false, false] rfl rfl (by kernel_rfl) (fun _ _ _ h => h) (Or.inl ⟨by rfl, ?_⟩) hHeld ?_ ?_
    rotate_left
    · rintro w' ⟨s0, s1⟩
      go_simp
      with_reducible rfl
    rotate_left
    · simp only [Act.put, List.setIfInBounds_toArray, List.set_cons_zero, List.set_cons_succ, i64_w, i32_w]
      rfl
    refine take_ (i := 3) (N := (some 16)) (v := ?_) (a' := ?_) #[true, true, true, true, false, false, false, false, false, false, false, false, false, false] rfl rfl (by kernel_rfl) (fun _ _ _ h => h) (Or.inl ⟨by rfl, ?_⟩) hHeld ?_ ?_
    rotate_left
    · rintro w' ⟨s0, s1⟩
      go_simp
      with_reducible rfl
    rotate_left
    · simp only [Act.put, List.setIfInBounds_toArray, List.set_cons_zero, List.set_cons_succ, i64_w, i32_w]
      rfl
    refine pure_ (i := 4) (N := (some 17)) (v := ?_) (a' := ?_) #[true, true, true, true, true, false, false, false, false, false, false, false, false, false] rfl rfl (by kernel_rfl) (fun _ _ _ h => h) (Or.inl ⟨by rfl, ?_⟩) ?_ ?_
    rotate_left
    · intro w'
      go_simp
      with_reducible rfl
    rotate_left
    · simp only [Act.put, List.setIfInBounds_toArray, List.set_cons_zero, List.set_cons_succ, i64_w, i32_w]
      rfl
    refine pure_ (i := 5) (N := (some 18)) (v := ?_) (a' := ?_) #[true, true, true, true, true, true, false, false, false, false, false, false, false, false] rfl rfl (by kernel_rfl) (fun _ _ _ h => h) (Or.inl ⟨by rfl, ?_⟩) ?_ ?_
    rotate_left
    · intro w'
      go_simp
      with_reducible rfl
    rotate_left
    · simp only [Act.put, List.setIfInBounds_toArray, List.set_cons_zero, List.set_cons_succ, i64_w, i32_w]
      rfl
    refine pure_ (i := 6) (N := (some 19)) (v := ?_) (a' := ?_) #[true, true, true, true, true, true, true, false, false, false, false, false, false, false] rfl rfl (by kernel_rfl) (fun _ _ _ h => h) (Or.inl ⟨by rfl, ?_⟩) ?_ ?_
    rotate_left
    · intro w'
      go_simp
      with_reducible rfl
    rotate_left
    · simp only [Act.put, List.setIfInBounds_toArray, List.set_cons_zero, List.set_cons_succ, i64_w, i32_w]
      rfl
    refine pure_ (i := 7) (N := (some 20)) (v := ?_) (a' := ?_) #[true, true, true, true, true, true, true, true, false, false, false, false, false, false] rfl rfl (by kernel_rfl) (fun _ _ _ h => h) (Or.inl ⟨by rfl, ?_⟩) ?_ ?_
    rotate_left
    · intro w'
      go_simp
      with_reducible rfl
    rotate_left
    · simp only [Act.put, List.setIfInBounds_toArray, List.set_cons_zero, List.set_cons_succ, i64_w, i32_w]
      rfl
    refine one_ (i := 8) (N := (some 21)) #[true, true, true, true, true, true, true, true, true, false, false, false, false, false] rfl rfl (by kernel_rfl) (by decide) (fun K hK => ?_)
    refine goes_ Tryd.func35 (by kernel_rfl) rfl #[.int .i64 (wrap64 (wrap64 bx - 1))] (by rfl) rfl rfl (by (try simp only [List.map_toArray, List.map_cons, List.map_nil]); first | done | rfl) ?_
    rw [HW3.out]
    with_reducible refine (decimalGo (bx - 1) _ (HTW.out.below HBW.out) (by omega) (by omega)).mono ?_
    rintro e w1 ⟨rfl, hb⟩
    refine ⟨_, rfl, ?_⟩
    have n0_ := Aside0.mk (below_step HBW.out hb)
    clear hb HBW
    have HBW := n0_
    clear n0_
    refine hK.out _ _ ⟨(HBW.out.cell (World.block_lt_of_cell? _ _ hpc)).trans hpc, (HBW.out.cell (World.block_lt_of_cell? _ _ hdc)).trans hdc⟩ (fun hHeld => ?_)
    clear hK K
    refine norm_ (a' := ?_) ?_ ?_
    rotate_left
    · show Act.put _ (some 21) _ = _
      simp only [Act.put, List.setIfInBounds_toArray, List.set_cons_zero, List.set_cons_succ, i64_w, i32_w]
      rfl
    refine pure_ (i := 9) (N := (some 22)) (v := ?_) (a' := ?_) #[true, true, true, true, true, true, true, true, true, true, false, false, false, false] rfl rfl (by kernel_rfl) (fun _ _ _ h => h) (Or.inl ⟨by rfl, ?_⟩) ?_ ?_
    rotate_left
    · intro w'
      go_simp
      with_reducible rfl
    rotate_left
    · simp only [Act.put, List.setIfInBounds_toArray, List.set_cons_zero, List.set_cons_succ, i64_w, i32_w]
      rfl
    refine one_ (i := 10) (N := (some 23)) #[true, true, true, true, true, true, true, true, true, true, true, false, false, false] rfl rfl (by kernel_rfl) (by decide) (fun K hK => ?_)
    refine goes_ Tryd.func48 (by kernel_rfl) rfl #[.int .i64 (wrap64 dx), .int .i64 (dec (bx - 1)).size] (by rfl) rfl rfl (by (try simp only [List.map_toArray, List.map_cons, List.map_nil]); first | done | rfl) ?_
    rw [HW1.out]
    with_reducible refine (padded_at dx (dec (bx - 1)).size _ (HTW.out.below HBW.out) (by omega) (by omega) (dec_size _ (by omega) (by omega))).mono ?_
    rintro e w2 ⟨rfl, hb⟩
    refine ⟨_, rfl, ?_⟩
    have n0_ := Aside0.mk (below_step HBW.out hb)
    clear hb HBW
    have HBW := n0_
    clear n0_
    refine hK.out _ _ ⟨(HBW.out.cell (World.block_lt_of_cell? _ _ hpc)).trans hpc, (HBW.out.cell (World.block_lt_of_cell? _ _ hdc)).trans hdc⟩ (fun hHeld => ?_)
    clear hK K
    rw [← HST.out]
    obtain ⟨txt, htxt⟩ : ∃ t, t = stT s d x.1 := ⟨_, rfl⟩
    rw [← htxt]
    have HTXT := Aside0.mk htxt
    clear htxt
    refine norm_ (a' := ?_) ?_ ?_
    rotate_left
    · show Act.put _ (some 23) _ = _
      simp only [Act.put, List.setIfInBounds_toArray, List.set_cons_zero, List.set_cons_succ, i64_w, i32_w]
      rfl
    refine one_ (i := 11) (N := (some 24)) #[true, true, true, true, true, true, true, true, true, true, true, true, false, false] rfl rfl (by kernel_rfl) (by decide) (fun K hK => ?_)
    refine event_step (v := .slice (some ⟨w2.heap.size, 0, none⟩) 1 1) (w1 := w2.alloc (.cells #[.string txt] 9)) (by rfl) ?_ ?_
    · go_simp
    have HBW3 := Aside0.mk (below_alloc HBW.out (.cells #[.string txt] 9))
    refine hK.out _ _ ⟨(HBW3.out.cell (World.block_lt_of_cell? _ _ hpc)).trans hpc, (HBW3.out.cell (World.block_lt_of_cell? _ _ hdc)).trans hdc⟩ (fun hHeld => ?_)
    clear hK K
    refine norm_ (a' := ?_) ?_ ?_
    rotate_left
    · show Act.put _ (some 24) _ = _
      simp only [Act.put, List.setIfInBounds_toArray, List.set_cons_zero, List.set_cons_succ, i64_w, i32_w]
      rfl
    refine one_ (i := 12) (N := (some 25)) #[true, true, true, true, true, true, true, true, true, true, true, true, true, false] rfl rfl (by kernel_rfl) (by decide) (fun K hK => ?_)
    have hBW2 := below_step HB.out HBW.out
    refine Kd.R_append_step Kd.string (w0 := w) w.heap.size (by rfl) (.tmp 13) (.tmp 24) 52 9 (.string ⟨#[]⟩) 16 rfl Tryd.underlying52 infoStr rfl (by decide) (by omega) v (pre.map fun i => stT s d i.1) txt [.string txt] (fun _ => True) (fun _ => False) rfl rfl rfl (fun _ hk => hk.elim) (fun _ _ => trivial) ?aO hBW2 hBW2.size ?aL ?_
    case aO => exact Kd.R_below (Kd.R_of_own (by rw [List.length_map]; exact HROW.out) (fun _ _ => trivial)) HBW.out
    case aL => rw [List.length_map]; omega
    intro v1 w4 ho hb4 hg4 _
    have hg5 : (w2.alloc (.cells #[.string txt] 9)).heap.size ≤ w4.heap.size → w2.heap.size ≤ w4.heap.size := fun h => by simp at h; omega
    have hne1 : some (w.heap.size + 1 + 1) ≠ v.ownBlock := HV.out.not_row (by decide) HROW.out
    have hne2 : some (w.heap.size + 1 + 1 + 1) ≠ v.ownBlock := HS.out.not_row (by decide) HROW.out
    have hne3 : some w.heap.size ≠ v.ownBlock := Kd.R_ne (Kd.R_of_own (ok := fun _ => True) (by rw [List.length_map]; exact HROW.out) (fun _ _ => trivial) : Kd.string.R 9 W w.heap.size (fun _ => True) v (pre.map fun i => stT s d i.1)) HG.out (by decide)
    have hv4 : Boxed w4 (w.heap.size + 1 + 1) 52 v := blk_grown (blk_below HV.out HBW.out) hg4 hne1
    have hs4 : Boxed w4 (w.heap.size + 1 + 1 + 1) 27 (.slice A0 s.length c0) := blk_grown (blk_below HS.out HBW.out) hg4 hne2
    have hd4 := blk_grown (blk_below HG.out HBW.out) hg4 hne3
    have hk4 : KeepsFrom W0.heap.size W w4 := ((keepsFrom_below HBW.out).trans ((KeepsOthers.of_grownBy hg4 (fun j o ej hj => by
      have hrow2 := own_move HROW.out (fun k hk => HBW.out.block k (own_lt HROW.out k hk))
      obtain ⟨cells, hcl⟩ := own_typed hrow2 j ej
      rw [hcl] at hj; cases hj; rfl)).from _))
    have hown4 : w4.ownsRow w.heap.size 9 1 v1 (pre ++ [x]).length (encs Value.string ((pre ++ [x]).map fun i => stT s d i.1)) := by
      have := Kd.own_of_R ho
      rw [show (pre.map fun i => stT s d i.1) ++ [txt] = (pre ++ [x]).map fun i => stT s d i.1 by rw [List.map_append, List.map_cons, List.map_nil, HTXT.out], List.length_map] at this
      exact this
    have hsz4 : W.heap.size ≤ w4.heap.size := Nat.le_trans HBW.out.size hg4.size
    refine hK.out _ _ ⟨hv4.cell, (blk_cell hd4 x.1).trans (by rw [← blk_cell HG.out x.1]; exact hdc)⟩ (fun hHeld => ?_)
    clear hK K
    refine norm_ (a' := ?_) ?_ ?_
    rotate_left
    · show Act.put _ (some 25) _ = _
      simp only [Act.put, List.setIfInBounds_toArray, List.set_cons_zero, List.set_cons_succ, i64_w, i32_w]
      rfl
    have hp4 := hv4.cell
    have hf4 := hv4.frozen
    obtain ⟨A1, c1, rfl⟩ : ∃ A1 c1, v1 = .slice A1 (pre ++ [x]).length c1 := by
      rcases hown4.2 with ⟨_, h0⟩ | ⟨g, cap, _, e, _⟩
      · simp at h0
      · exact ⟨_, _, e⟩
    refine last_ (i := 13) (N := none) #[true, true, true, true, true, true, true, true, true, true, true, true, true, true] rfl rfl (by kernel_rfl) (by decide) (fun K hK => ?_)
    refine event_none (w1 := w4.setCell ⟨w.heap.size + 1 + 1, 0, none⟩ (.slice A1 (pre ++ [x]).length c1)) (by rfl) rfl ?_ ?_
    · go_simp
    refine hK.out _ _ ?_
    clear hK K
    refine done_ (by kernel_rfl) ?_
    refine ⟨hk4.trans ((KeepsOthers.setCell _ _ _).from _), ⟨below_via HB.out (hb4.setCell (p := ⟨w.heap.size + 1 + 1, 0, none⟩) hgp _) (by rw [show (w4.setCell ⟨w.heap.size + 1 + 1, 0, none⟩ (.slice A1 (pre ++ [x]).length c1)).heap.size = w4.heap.size by simp [World.setCell]]; exact hsz4), (blk_far hs4 (p := ⟨w.heap.size + 1 + 1, 0, none⟩) (by show _ ≠ w.heap.size + 1 + 1; omega) _).trans HS.out.symm⟩, ⟨⟨_, hv4.set _, ?_⟩, ?_, ?_⟩, hb4.setCell (p := ⟨w.heap.size + 1 + 1, 0, none⟩) hgp _⟩
    · exact own_move hown4 (fun k hk => Below.heap_setCell w4 ⟨w.heap.size + 1 + 1, 0, none⟩ _ k (by
        rintro rfl
        exact (hv4.not_row (by decide) hown4) hk.symm))
    · exact blk_far hd4 (p := ⟨w.heap.size + 1 + 1, 0, none⟩) (by show w.heap.size ≠ w.heap.size + 1 + 1; omega) _
    · exact blk_far hs4 (p := ⟨w.heap.size + 1 + 1, 0, none⟩) (by show _ ≠ w.heap.size + 1 + 1; omega) _
  case done =>
    clear b1 b2 b3 b4 hW0g hB0
    rintro D ys W hD rfl ⟨⟨⟨v, hv, hrow⟩, _, _⟩, hB⟩ hK
    have hdn : (dn s.length).map (fun i => stT s d i.1) = ((List.range s.length).map (stT s d)).reverse := dn_map s.length (stT s d)
    rw [hdn, dn_length] at hrow
    rcases hrow.2 with ⟨_, h0⟩ | ⟨g, cap, cur, rfl, hg, hcur, hcap, _, _, htk⟩
    · omega
    have hlen : ((List.range s.length).map (stT s d)).reverse.length = s.length := by simp
    have hcells : ∀ (j : Nat) x, (((List.range s.length).map (stT s d)).reverse)[j]? = some x → W.cell? ⟨g, 0 + j, none⟩ = some (.string x) := by
      intro j x hj
      have hjl : j < s.length := by
        have := (List.getElem?_eq_some_iff.1 hj).1
        rw [hlen] at this; exact this
      rw [Nat.zero_add, blk_cell hcur]
      have h2 : (encs Value.string ((List.range s.length).map (stT s d)).reverse)[j]? = some (.string x) := by
        unfold encs; rw [List.getElem?_map, hj]; rfl
      rw [← htk, List.getElem?_take_of_lt (by omega)] at h2
      simpa using h2
    have hJ := Tryd.strings_Join g 0 cap ((List.range s.length).map (stT s d)).reverse ⟨#[58]⟩ W hcells (blk_lt hcur) (by rw [hlen]; omega) (by rw [hlen]; exact hcap) ?hjl
    case hjl =>
      have := join_le (((List.range s.length).map (stT s d)).reverse.map (·.data.toList)) 100 (by
        intro l hl
        simp only [List.mem_map, List.mem_reverse, List.mem_range] at hl
        obtain ⟨t, ⟨i, hi, rfl⟩, rfl⟩ := hl
        have hd2 := HDA.out i hi
        have hb2 := HBA.out i hi
        exact padT_le _ _ (by omega) (by omega) (dec_size _ (by omega) (by omega)))
      rw [List.length_map, hlen] at this
      show (Lib.join _ [58]).length ≤ _
      omega
    rw [hlen] at hJ
    have HJ := Aside0.mk (show Calls Tryd.prog 25 #[.slice (some ⟨g, 0, none⟩) s.length cap, .string ⟨#[58]⟩] W fun e w' => e = .returned (.string (stTxt s d)) ∧ Below W.heap.size W w' from hJ)
    have HK := Aside0.mk hK
    have HB := Aside0.mk hB
    have hpc := hv.cell
    clear hJ hK hB hrow hcells htk hdn hlen hcur hv
    gi_wp2_with (refine ⟨trivial, ?_⟩; gi_at_call 25; refine (callsIn_wide.2 HJ.out).mono ?_; rintro e w5 ⟨rfl, hb5⟩; (have HB5 := Aside0.mk hb5); clear hb5)
    have hK5 := blk_below HK.out HB5.out
    refine ⟨by simp, .inl ⟨_, _, rfl, run_takeDeferred hK5, ?_⟩⟩
    exact ⟨_, results_tmp rfl _ _ _, rfl, (below_step HB.out HB5.out).trans (belowK_b (w := w) (Nat.le_refl _) w5 D _ _ (by have := HW0.out; omega) hK5 rfl rfl)⟩
  case stop =>
    rintro D c pre W _ _ h _
    exact h.elim
end Go.Proofs.YtgfimdoildaonaaDoor.P

/- The text of a wheel's marks, plainly: of both sides. Plain Lean. -/
namespace Go.Proofs.YtgfimdoildaonaaDoor.P
open Go.RowKit Go.Proofs.YtgfimdoildaonaaDoorW.PrintWords Go.Proofs.YtgfimdoildaonaaDoorW.PrintLast Go.Proofs.YtgfimdoildaonaaDoorW.PrintMore
set_option linter.unusedVariables false
set_option linter.unusedSimpArgs false

/-- The digits that are marked. -/
def mdigs (a b : Int) (n : Nat) : List Nat := (List.range n).filter (B a b)
theorem mdigs_succ (a b : Int) (n : Nat) : mdigs a b (n + 1) = mdigs a b n ++ (if B a b n then [n] else []) := by
  unfold mdigs
  rw [List.range_succ, List.filter_append]
  congr 1
  by_cases h : B a b n <;> simp [h]
theorem mdigs_len (a b : Int) (n : Nat) : (mdigs a b n).length ≤ n := by
  have := List.length_filter_le (B a b) (List.range n)
  rwa [List.length_range] at this
theorem mdigs_more (a b : Int) (base : Nat) (h : ∀ e, base ≤ e → e < 128 → B a b e = false) : ∀ n, base ≤ n → n ≤ 128 → mdigs a b n = mdigs a b base := by
  intro n
  induction n with
  | zero => intro h1 _; obtain rfl : base = 0 := by omega
            rfl
  | succ n ih =>
    intro h1 h2
    by_cases hb : base = n + 1
    · rw [hb]
    · rw [mdigs_succ, ih (by omega) (by omega), h n (by omega) (by omega)]; simp
theorem digits_loop (a b : Int) (ha : inU a) (hb : inU b) : ∀ (d k n : Nat), n ≤ 128 → 128 - n = d → d < k → impl_Marks_digits.l0 k ((mdigs a b n).map Int.ofNat) (n : Int) a b = some ((mdigs a b 128).map Int.ofNat) := by
  intro d
  induction d with
  | zero =>
    intro k n h1 h2 h3
    obtain ⟨k, rfl⟩ : ∃ m, k = m + 1 := ⟨k - 1, by omega⟩
    obtain rfl : n = 128 := by omega
    simp only [impl_Marks_digits.l0]
    rw [if_neg (by omega)]
  | succ d ih =>
    intro k n h1 h2 h3
    obtain ⟨k, rfl⟩ : ∃ m, k = m + 1 := ⟨k - 1, by omega⟩
    simp only [impl_Marks_digits.l0]
    have hl := mdigs_len a b n
    have e : wrap64 ((n : Int) + 1) = ((n + 1 : Nat) : Int) := by unfold wrap64; omega
    have ihn := ih k (n + 1) (by omega) (by omega) (by omega)
    rw [mdigs_succ] at ihn
    rw [if_pos (by omega), has_eq a b ha hb n (by omega), Option.bind_some, e]
    by_cases hB : B a b n = true
    · rw [if_pos hB, if_pos (by rw [List.length_map]; omega)]
      rw [if_pos hB, List.map_append] at ihn
      exact ihn
    · rw [if_neg hB]
      rw [if_neg hB, List.append_nil] at ihn
      exact ihn
theorem digits_eq (a b : Int) (ha : inU a) (hb : inU b) (k : Nat) (hk : 130 < k) : impl_Marks_digits.f k a b = some ((mdigs a b 128).map Int.ofNat) :=
  digits_loop a b ha hb 128 k 0 (by omega) rfl (by omega)

theorem popN_filter : ∀ n x, popN n x = ((List.range n).filter (x.testBit ·)).length
  | 0, x => rfl
  | n + 1, x => by
    show x % 2 + popN n (x / 2) = _
    rw [popN_filter n (x / 2), List.range_succ_eq_map, List.filter_cons, List.filter_map]
    have e : ((fun i => x.testBit i) ∘ Nat.succ) = fun i => (x / 2).testBit i := by
      funext i
      exact Nat.testBit_succ x i
    have e2 : (List.filter ((fun i => x.testBit i) ∘ Nat.succ) (List.range n)).length = (List.filter (fun i => (x / 2).testBit i) (List.range n)).length := by rw [e]
    have e3 : x.testBit 0 = decide (x % 2 = 1) := Nat.testBit_zero x
    rcases Nat.mod_two_eq_zero_or_one x with h | h
    · rw [if_neg (by rw [e3, h]; decide), List.length_map, e2]; omega
    · rw [if_pos (by rw [e3, h]; decide), List.length_cons, List.length_map, e2]; omega
theorem cnt_digs (a b : Int) : cntM a b = (mdigs a b 128).length := by
  unfold cntM mdigs
  rw [popN_filter, popN_filter]
  have e : List.range 128 = List.range 64 ++ (List.range 64).map (64 + ·) := by rw [← List.range_add]
  rw [e, List.filter_append, List.length_append, List.filter_map, List.length_map]
  have e1 : List.filter (fun i => a.toNat.testBit i) (List.range 64) = List.filter (B a b) (List.range 64) := by
    apply List.filter_congr
    intro i hi
    have := List.mem_range.1 hi
    unfold B; rw [if_pos this]
  have e2 : List.filter (fun i => b.toNat.testBit i) (List.range 64) = List.filter (B a b ∘ (64 + ·)) (List.range 64) := by
    apply List.filter_congr
    intro i hi
    show _ = B a b (64 + i)
    unfold B; rw [if_neg (by omega)]; congr 1; omega
  rw [e1, e2]
theorem B_ext (a b c d : Int) (ha : inU a) (hb : inU b) (hc : inU c) (hd : inU d) (h : ∀ e, e < 128 → B a b e = B c d e) : a = c ∧ b = d := by
  obtain ⟨x, rfl⟩ := Int.eq_ofNat_of_zero_le ha.1
  obtain ⟨y, rfl⟩ := Int.eq_ofNat_of_zero_le hb.1
  obtain ⟨z, rfl⟩ := Int.eq_ofNat_of_zero_le hc.1
  obtain ⟨t, rfl⟩ := Int.eq_ofNat_of_zero_le hd.1
  have hx : x < 2 ^ 64 := by have := ha.2; omega
  have hy : y < 2 ^ 64 := by have := hb.2; omega
  have hz : z < 2 ^ 64 := by have := hc.2; omega
  have ht : t < 2 ^ 64 := by have := hd.2; omega
  unfold B at h
  simp only [Int.toNat_natCast] at h
  constructor
  · congr 1
    apply Nat.eq_of_testBit_eq
    intro i
    by_cases hi : i < 64
    · have := h i (by omega); rwa [if_pos hi, if_pos hi] at this
    · rw [Nat.testBit_lt_two_pow (Nat.lt_of_lt_of_le hx (Nat.pow_le_pow_right (by decide) (by omega))), Nat.testBit_lt_two_pow (Nat.lt_of_lt_of_le hz (Nat.pow_le_pow_right (by decide) (by omega)))]
  · congr 1
    apply Nat.eq_of_testBit_eq
    intro i
    by_cases hi : i < 64
    · have := h (i + 64) (by omega); rw [if_neg (by omega), if_neg (by omega)] at this; rwa [show i + 64 - 64 = i by omega] at this
    · rw [Nat.testBit_lt_two_pow (Nat.lt_of_lt_of_le hy (Nat.pow_le_pow_right (by decide) (by omega))), Nat.testBit_lt_two_pow (Nat.lt_of_lt_of_le ht (Nat.pow_le_pow_right (by decide) (by omega)))]

theorem andNot_bit (a m : Nat) (ha : a < 18446744073709551616) (hm : m < 18446744073709551616) (h : Go.bits .andNot .u64 (a : Int) (m : Int) = 0) (i : Nat) (hi : a.testBit i = true) : m.testBit i = true := by
  rw [u64_andNot_nat a m ha hm] at h
  have h2 : (a &&& (18446744073709551615 - m)) = 0 := by exact_mod_cast h
  have h3 := congrArg (fun n => n.testBit i) h2
  simp only [Nat.testBit_and, hi, Bool.true_and, Nat.zero_testBit] at h3
  have h4 := Nat.testBit_two_pow_sub_succ (x := m) (n := 64) hm i
  rw [show 2 ^ 64 - (m + 1) = 18446744073709551615 - m by omega, h3] at h4
  have hi64 : i < 64 := by
    by_cases hlt : i < 64
    · exact hlt
    · rw [Nat.testBit_lt_two_pow (Nat.lt_of_lt_of_le (show a < 2 ^ 64 from ha) (Nat.pow_le_pow_right (by decide) (by omega)))] at hi; cases hi
  simp [hi64] at h4
  exact h4
/-- A valid wheel's marks lie below its base. -/
theorem wheel_below {s : List Int} {x : Ph} {i : Nat} (h : wheelOk s x i = true) (hi : i < s.length) (hb : 0 ≤ rd s i ∧ rd s i ≤ 100) (ha0 : inU (nth (mk0 x) i)) (ha1 : inU (nth (mk1 x) i)) :
    ¬ (nth (mk0 x) i = 0 ∧ nth (mk1 x) i = 0) ∧ ∀ e, (rd s i).toNat ≤ e → e < 128 → B (nth (mk0 x) i) (nth (mk1 x) i) e = false := by
  unfold wheelOk at h
  simp only at h
  rw [if_neg (by omega)] at h
  simp only [Bool.and_eq_true, Bool.not_eq_true', decide_eq_true_eq, decide_eq_false_iff_not] at h
  obtain ⟨h0, h1, h2⟩ := h
  refine ⟨h0, fun e he1 he2 => ?_⟩
  generalize nth (mk0 x) i = a at *
  generalize nth (mk1 x) i = b at *
  obtain ⟨base, hbase⟩ := Int.eq_ofNat_of_zero_le hb.1
  rw [hbase, Int.toNat_natCast] at h1 h2 he1
  have hl : base ≤ 100 := by have := hb.2; omega
  obtain ⟨f0, f1⟩ := full_in base (by omega)
  have hfB := full_B base (by omega) e he2
  obtain ⟨xa, rfl⟩ := Int.eq_ofNat_of_zero_le ha0.1
  obtain ⟨xb, rfl⟩ := Int.eq_ofNat_of_zero_le ha1.1
  obtain ⟨m0, hm0⟩ := Int.eq_ofNat_of_zero_le f0.1
  obtain ⟨m1, hm1⟩ := Int.eq_ofNat_of_zero_le f1.1
  rw [hm0] at h1 hfB f0
  rw [hm1] at h2 hfB f1
  have q1 := andNot_bit xa m0 (by have := ha0.2; omega) (by have := f0.2; omega) h1
  have q2 := andNot_bit xb m1 (by have := ha1.2; omega) (by have := f1.2; omega) h2
  rw [show decide (e < base) = false from decide_eq_false (by omega)] at hfB
  unfold B at hfB ⊢
  simp only [Int.toNat_natCast] at hfB ⊢
  by_cases hlt : e < 64
  · rw [if_pos hlt] at hfB ⊢
    cases hq : xa.testBit e with
    | false => rfl
    | true => rw [q1 e hq] at hfB; cases hfB
  · rw [if_neg hlt] at hfB ⊢
    cases hq : xb.testBit (e - 64) with
    | false => rfl
    | true => rw [q2 _ hq] at hfB; cases hfB
/-- All digits below the base are marked just when their count is the base. -/
theorem full_iff (a b : Int) (ha : inU a) (hb : inU b) (base : Nat) (hl : base ≤ 100) (h : ∀ e, base ≤ e → e < 128 → B a b e = false) : cntM a b = base ↔ (a = full0 base ∧ b = full1 base) := by
  rw [cnt_digs, mdigs_more a b base h 128 (by omega) (Nat.le_refl _)]
  obtain ⟨f0, f1⟩ := full_in base (by omega)
  constructor
  · intro hc
    apply B_ext a b _ _ ha hb f0 f1
    intro e he
    rw [full_B base (by omega) e he]
    by_cases hlt : e < base
    · rw [decide_eq_true hlt]
      have hall : ∀ z ∈ List.range base, B a b z = true := by
        have := (List.filter_sublist (p := B a b) (l := List.range base)).eq_of_length (by rw [List.length_range]; exact hc)
        exact List.filter_eq_self.1 this
      exact hall e (List.mem_range.2 hlt)
    · rw [h e (by omega) he, decide_eq_false hlt]
  · rintro ⟨rfl, rfl⟩
    unfold mdigs
    rw [List.filter_eq_self.2 (fun z hz => by rw [full_B base (by omega) z (by have := List.mem_range.1 hz; omega)]; exact decide_eq_true (List.mem_range.1 hz)), List.length_range]

theorem join_snoc (sep : List UInt8) : ∀ (xs : List (List UInt8)) (y : List UInt8), xs ≠ [] → Lib.join (xs ++ [y]) sep = Lib.join xs sep ++ sep ++ y
  | [], y, h => (h rfl).elim
  | [x], y, _ => by rw [List.singleton_append, join_two, Lib.join_one, Lib.join_one]
  | x :: z :: r, y, _ => by
    have := join_snoc sep (z :: r) y (by simp)
    rw [List.cons_append, List.cons_append, join_two, join_two, ← List.cons_append, this]
    simp
/-- The numerals of the marked digits below a place, with bars between. -/
def barT (a b : Int) (n : Nat) : ByteArray := ⟨(Lib.join ((mdigs a b n).map (fun d : Nat => (dec (d : Int)).data.toList)) [124]).toArray⟩
theorem dec_ne (n : Nat) (h : n < 1000000) : (dec (n : Int)).data.toList ≠ [] := by
  intro h0
  have h1 : (dec (n : Int)).size = 0 := by
    have : (dec (n : Int)).size = (dec (n : Int)).data.toList.length := rfl
    rw [this, h0]; rfl
  by_cases hn : n < 10
  · rw [dec_digit (by omega) (by omega)] at h1; cases h1
  · rw [dec_more (by omega), ByteArray.size_append, dec_digit (Int.emod_nonneg _ (by omega)) (Int.emod_lt_of_pos _ (by omega))] at h1
    have : (⟨#[UInt8.ofNat (48 + ((n : Int) % 10).toNat)]⟩ : ByteArray).size = 1 := rfl
    omega
theorem barT_nil (a b : Int) (n : Nat) (h : mdigs a b n = []) : barT a b n = ⟨#[]⟩ := by
  unfold barT; rw [h]; rfl
theorem barT_ne (a b : Int) (n : Nat) (hn : n ≤ 128) (h : mdigs a b n ≠ []) : (barT a b n).toList ≠ [] := by
  unfold barT
  rw [ByteArray.toList_mk]
  intro h0
  obtain ⟨d, r, hr⟩ : ∃ d r, mdigs a b n = d :: r := List.exists_cons_of_ne_nil h
  have hd : d < n := by
    have : d ∈ mdigs a b n := by rw [hr]; simp
    exact List.mem_range.1 (List.mem_filter.1 this).1
  rw [hr] at h0
  have hne := dec_ne d (by omega)
  cases r with
  | nil => rw [List.map_cons, List.map_nil, Lib.join_one] at h0; exact hne h0
  | cons e r => rw [List.map_cons, List.map_cons, join_two] at h0; simp at h0
theorem barT_succ (a b : Int) (n : Nat) (hn : n ≤ 127) : barT a b (n + 1) = if B a b n = true then (if mdigs a b n = [] then dec (n : Int) else (barT a b n ++ (⟨#[124]⟩ : ByteArray)) ++ dec (n : Int)) else barT a b n := by
  unfold barT
  rw [mdigs_succ]
  by_cases h : B a b n = true
  · rw [if_pos h, if_pos h, List.map_append, List.map_cons, List.map_nil]
    by_cases h2 : mdigs a b n = []
    · rw [if_pos h2, h2]; simp [Lib.join_one]
    · rw [if_neg h2, join_snoc _ _ _ (by simp [h2])]
      apply ByteArray.ext
      simp
  · rw [if_neg h, if_neg h, List.append_nil]
theorem barT_size (a b : Int) : ∀ n, n ≤ 128 → (barT a b n).size ≤ 21 * n
  | 0, _ => Nat.le_of_eq rfl
  | n + 1, h => by
    have ih := barT_size a b n (by omega)
    have hd := dec_size (n : Int) (by omega) (by omega)
    have h1 : (⟨#[124]⟩ : ByteArray).size = 1 := rfl
    rw [barT_succ a b n (by omega)]
    split
    · split
      · omega
      · rw [ByteArray.size_append, ByteArray.size_append]; omega
    · omega
theorem bar_loop (a b : Int) (ha : inU a) (hb : inU b) (base : Nat) (hl : base ≤ 100) : ∀ (d k n : Nat), n ≤ base → base - n = d → d < k → spec_l05Wheel.l0 k (base : Int) (barT a b n) (n : Int) a b = some (barT a b base) := by
  intro d
  induction d with
  | zero =>
    intro k n h1 h2 h3
    obtain ⟨k, rfl⟩ : ∃ m, k = m + 1 := ⟨k - 1, by omega⟩
    obtain rfl : n = base := by omega
    simp only [spec_l05Wheel.l0]
    rw [if_neg (by unfold wrap64; omega)]
  | succ d ih =>
    intro k n h1 h2 h3
    obtain ⟨k, rfl⟩ : ∃ m, k = m + 1 := ⟨k - 1, by omega⟩
    simp only [spec_l05Wheel.l0]
    have hsz := barT_size a b n (by omega)
    have hd := dec_size (n : Int) (by omega) (by omega)
    have h1' : (⟨#[124]⟩ : ByteArray).size = 1 := rfl
    have e : wrap64 ((n : Int) + 1) = ((n + 1 : Nat) : Int) := by unfold wrap64; omega
    have ihn := ih k (n + 1) (by omega) (by omega) (by omega)
    rw [barT_succ a b n (by omega)] at ihn
    have hdec : specDecimal.f (n : Int) = some (dec (n : Int)) := by unfold specDecimal.f; rw [if_pos (by omega)]
    rw [if_pos (by unfold wrap64; omega), specHas_eq a b ha hb n (by omega), Option.bind_some, e, hdec]
    simp only [Option.bind_some]
    by_cases hB : B a b n = true
    · rw [if_pos hB]
      rw [if_pos hB] at ihn
      by_cases h2 : mdigs a b n = []
      · rw [if_pos h2] at ihn
        have h0 := barT_nil a b n h2
        rw [h0, if_pos (by simp [ByteArray.toList_eq]), if_pos (by rw [show (⟨#[]⟩ : ByteArray).size = 0 from rfl]; omega)]
        rw [show (⟨#[]⟩ : ByteArray) ++ dec (n : Int) = dec (n : Int) by apply ByteArray.ext; simp]
        exact ihn
      · rw [if_neg h2] at ihn
        rw [if_neg (barT_ne a b n (by omega) h2), if_pos (by omega), if_pos (by rw [ByteArray.size_append]; omega)]
        exact ihn
    · rw [if_neg hB]
      rw [if_neg hB] at ihn
      exact ihn
/-- The text of a wheel's marks. -/
def wheelT (a b base : Int) : ByteArray := if (cntM a b : Int) = base then ⟨#[63]⟩ else barT a b 128
theorem barT_base (a b : Int) (base : Nat) (h : ∀ e, base ≤ e → e < 128 → B a b e = false) (hl : base ≤ 100) : barT a b 128 = barT a b base := by
  unfold barT
  rw [mdigs_more a b base h 128 (by omega) (by omega)]
theorem wheelT_size (a b base : Int) : (wheelT a b base).size ≤ 2688 := by
  unfold wheelT
  split
  · show 1 ≤ _; omega
  · have := barT_size a b 128 (Nat.le_refl _); omega
theorem specWheel_eq (a b : Int) (ha : inU a) (hb : inU b) (base : Nat) (hl : base ≤ 100) (h : ∀ e, base ≤ e → e < 128 → B a b e = false) (k : Nat) (hk : 140 < k) : spec_l05Wheel.f k a b (base : Int) = some (wheelT a b (base : Int)) := by
  unfold spec_l05Wheel.f wheelT
  rw [full_eq k base (by omega) (by omega), Option.bind_some]
  have hi := full_iff a b ha hb base hl h
  have hlp := bar_loop a b ha hb base hl base k 0 (by omega) rfl (by omega)
  rw [barT_base a b base h hl]
  have hlp2 : spec_l05Wheel.l0 k (base : Int) (⟨#[]⟩ : ByteArray) 0 a b = some (barT a b base) := hlp
  rw [hlp2]
  by_cases hc : cntM a b = base
  · obtain ⟨h0, h1⟩ := hi.1 hc
    rw [if_pos (show (cntM a b : Int) = base by omega), if_pos h0, if_pos h1]
  · rw [if_neg (show ¬ (cntM a b : Int) = base by omega)]
    by_cases h0 : a = full0 base
    · rw [if_pos h0, if_neg (fun h1 => hc (hi.2 ⟨h0, h1⟩))]
    · rw [if_neg h0]
end Go.Proofs.YtgfimdoildaonaaDoor.P

-- Written by a program of this session (a turned form of the kit's print) out of the translation.
namespace Go.Proofs.YtgfimdoildaonaaDoor.P
open Go.RowKit Go.Proofs.YtgfimdoildaonaaDoorW.PrintWords Go.Proofs.YtgfimdoildaonaaDoorW.PrintLast Go.Proofs.YtgfimdoildaonaaDoorW.PrintMore
attribute [local go_sem] max2_int min2_int max_two min_two max_three min_three max_four min_four   -- for this text's walks alone
set_option linter.unusedVariables false
set_option linter.unusedSimpArgs false

/-! ### impl_ValidStack_1: function 56 -/
def impl_ValidStack_1.f (a0 : Int) : Option (Bool) := if a0 < 2 then (some true) else (some (decide (a0 > 100)))
set_option maxHeartbeats 8000000 in
set_option maxRecDepth 100000 in
theorem impl_ValidStack_1.calls (a0 : Int) (r : Bool) (w : World) (h : impl_ValidStack_1.f a0 = some r) :
    Calls Tryd.prog 56 #[.int .u8 a0] w fun e w' => e = .returned (.bool r) ∧ Drawn0 w w' := by
  have H : (if a0 < 2 then (some true) else (some (decide (a0 > 100)))) = some r := h
  clear h
  by_cases c2 : a0 < 2
  · rw [if_pos c2] at H
    have c2b0 : decide (a0 < 2) = true := decide_eq_true c2
    clear c2
    obtain rfl := Option.some.inj H
    go_enter Tryd.func56, Tryd.ntmps56
    go_wp2
    go_ret
    exact ⟨by first | rfl | (simp; done) | (simp [*]; done), by repeat (first | exact Drawn0.refl _ | apply Drawn0.step)⟩
  · rw [if_neg c2] at H
    have c2b0 : decide (a0 < 2) = false := decide_eq_false c2
    clear c2
    obtain rfl := Option.some.inj H
    go_enter Tryd.func56, Tryd.ntmps56
    go_wp2
    go_ret
    exact ⟨by first | rfl | (simp; done) | (simp [*]; done), by repeat (first | exact Drawn0.refl _ | apply Drawn0.step)⟩

/-- THE ONE PURE STATEMENT of impl_ValidStack_1: yours. -/
def impl_ValidStack_1.Pure : Prop := ∀ (a0 : Int), (Lit.int .u8 a0).wf = true → impl_ValidStack_1.f a0 = some true
theorem impl_ValidStack_1.walk (P : impl_ValidStack_1.Pure) (a0 : Int) (w : World) (w0 : (Lit.int .u8 a0).wf = true) :
    Calls Tryd.prog 56 #[.int .u8 a0] w fun e w' => e = .returned (.bool true) ∧ Below w.heap.size w w' := by
  have h := P a0 w0
  refine (impl_ValidStack_1.calls a0 true w h).mono ?_
  rintro e w' ⟨rfl, hd⟩
  exact ⟨rfl, hd.below⟩

end Go.Proofs.YtgfimdoildaonaaDoor.P

-- Written by a program of this session (a turned form of the kit's print) out of the translation.
namespace Go.Proofs.YtgfimdoildaonaaDoor.P
open Go.RowKit Go.Proofs.YtgfimdoildaonaaDoorW.PrintWords Go.Proofs.YtgfimdoildaonaaDoorW.PrintLast Go.Proofs.YtgfimdoildaonaaDoorW.PrintMore
attribute [local go_sem] max2_int min2_int max_two min_two max_three min_three max_four min_four   -- for this text's walks alone
set_option linter.unusedVariables false
set_option linter.unusedSimpArgs false

/-! ### impl_Stack_size: function 57 -/
def impl_Stack_size.l0 : Nat → Int → List Int → Int → Int → Option (Int)
  | 0, _, _, _, _ => none
  | k + 1, x3, x6, x7, x8 => if x8 < x7 then (if 0 ≤ x8 then (if x8 < (x6.length : Int) then (impl_Stack_size.l0 k (mn (wrap64 (x3 * (wrap64 (rd x6 x8)))) 1000000000001) x6 x7 (wrap64 (x8 + 1))) else (none)) else (none)) else (some x3)
def impl_Stack_size.f (k : Nat) (l0 : List Int) : Option (Int) := impl_Stack_size.l0 k 1 l0 (l0.length : Int) 0
theorem impl_Stack_size.mono_l : ∀ k, (∀ y0 y1 y2 y3, LeO (impl_Stack_size.l0 k y0 y1 y2 y3) (impl_Stack_size.l0 (k + 1) y0 y1 y2 y3))
  | 0 => fun _ _ _ _ r h => by simp [impl_Stack_size.l0] at h
  | k + 1 => by
    have ih0 := impl_Stack_size.mono_l k
    · intro y0 y1 y2 y3
      unfold impl_Stack_size.l0
      repeat' first
      | (with_reducible exact ih0 _ _ _ _)
      | (with_reducible exact LeO.refl _)
      | (with_reducible exact LeO.none _)
      | (with_reducible refine LeO.ite ?_ ?_)
      | (with_reducible refine LeO.bind ?_ (fun _ => ?_))
      | exact ih0 _ _ _ _
      | exact LeO.none _
      | refine LeO.ite ?_ ?_
      | refine LeO.bind ?_ (fun _ => ?_)
theorem impl_Stack_size.mono : ∀ a0 k, LeO (impl_Stack_size.f k a0) (impl_Stack_size.f (k + 1) a0) := by
  intro a0 k
  have ih0 := impl_Stack_size.mono_l k
  unfold impl_Stack_size.f
  repeat' first
      | (with_reducible exact ih0 _ _ _ _)
      | (with_reducible exact LeO.refl _)
      | (with_reducible exact LeO.none _)
      | (with_reducible refine LeO.ite ?_ ?_)
      | (with_reducible refine LeO.bind ?_ (fun _ => ?_))
      | exact ih0 _ _ _ _
      | exact LeO.none _
      | refine LeO.ite ?_ ?_
      | refine LeO.bind ?_ (fun _ => ?_)
set_option maxHeartbeats 8000000 in
set_option maxRecDepth 100000 in
theorem impl_Stack_size.calls (k : Nat) (A0 : Option Addr) (c0 : Nat) (l0 : List Int) (r : Int) (w : World) (hr0 : Kd.C (Kd.int .u8) w A0 l0.length l0) (hc0 : l0.length ≤ c0) (h : impl_Stack_size.f k l0 = some r) :
    Calls Tryd.prog 57 #[.slice A0 l0.length c0] w fun e w' => e = .returned (.int .i64 r) ∧ Below w.heap.size w w' := by
  have HR0 := Aside0.mk hr0
  have HC0 := Aside0.mk hc0
  clear hr0 hc0
  have HB := Aside0.mk (Below.refl w.heap.size w)
  have H : (impl_Stack_size.l0 k 1 l0 (l0.length : Int) 0) = some r := h
  clear h
  have H' := Aside0.mk H
  clear H
  go_enter Tryd.func57, Tryd.ntmps57
  go_wp2
  go_loopg [3, 8] k (fun kq v3 v8 w' => ∃ (x3_1 : Int) (x8_1 : Int), v3 = .int .i64 x3_1 ∧ v8 = .int .i64 x8_1 ∧ Aside0 (impl_Stack_size.l0 kq x3_1 l0 (l0.length : Int) x8_1 = some r) ∧ Aside0 (kq ≤ k) ∧ Aside0 (Below w.heap.size w w'))
  case atStart => exact ⟨(1), (0), (by first | rfl | (simp; done) | (simp [*]; done)), (by first | rfl | (simp; done) | (simp [*]; done)), H', ⟨Nat.le_refl _⟩, ⟨by repeat (first | (with_reducible first | exact HB.out | apply below_alloc | apply pw_below_drewN | apply below_drew1) | exact HB.out)⟩⟩
  case round =>
    clear H'
    obtain ⟨x3_1, x8_1, rfl, rfl, HA, HK1, HB⟩ := hrel
    cases gk with
    | zero => exact absurd HA.out (by simp [impl_Stack_size.l0])
    | succ k1 =>
      have H := HA.out
      clear HA
      simp only [impl_Stack_size.l0] at H
      by_cases c2 : x8_1 < (l0.length : Int)
      · rw [if_pos c2] at H
        have c2b0 : decide (x8_1 < (l0.length : Int)) = true := decide_eq_true c2
        clear c2
        by_cases c3 : 0 ≤ x8_1
        · rw [if_pos c3] at H
          have c3b0 : decide (0 ≤ x8_1) = true := decide_eq_true c3
          clear c3
          by_cases c4 : x8_1 < (l0.length : Int)
          · rw [if_pos c4] at H
            have c4b0 : decide (x8_1 < (l0.length : Int)) = true := decide_eq_true c4
            clear c4
            obtain ⟨ji5, hji5⟩ : ∃ j_ : Int, (mn (wrap64 (x3_1 * (wrap64 (rd l0 x8_1)))) 1000000000001) = j_ := ⟨_, rfl⟩
            replace H : (impl_Stack_size.l0 k1 ji5 l0 (l0.length : Int) (wrap64 (x8_1 + 1))) = some r := by first | (rw [hji5] at H; exact H) | (simp only [hji5] at H ⊢; exact H)
            have hji5_ : (if 1000000000001 < (wrap64 (x3_1 * (wrap64 (rd l0 x8_1)))) then 1000000000001 else (wrap64 (x3_1 * (wrap64 (rd l0 x8_1))))) = ji5 := hji5
            have H' := Aside0.mk H
            clear H
            have p156 : 0 ≤ (x8_1 : Int) := of_decide_eq_true (by first | (with_reducible assumption) | assumption)
            have q156 : x8_1 < (l0.length : Int) := of_decide_eq_true (by first | (with_reducible assumption) | assumption)
            obtain ⟨ad156, e156, hx156_0⟩ := Kd.at_int HR0.out x8_1 p156 q156
            cases e156
            replace hx156_0 := (HB.out.cell (World.block_lt_of_cell? w _ hx156_0)).trans hx156_0
            replace p156 := eq_true p156
            replace q156 := eq_true q156
            go_wp2
            go_roundg k1
            case measure => have := HK1.out; omega
            case rel => exact ⟨(ji5), (wrap64 (x8_1 + 1)), (by first | rfl | (simp; done) | (simp only [← hji5] <;> (first | rfl | simp)) | (simp [*]; done)), (by first | rfl | (simp; done) | (simp [*]; done)), H', ⟨by have := HK1.out; omega⟩, ⟨by repeat (first | (with_reducible first | exact HB.out | apply below_alloc | apply pw_below_drewN | apply below_drew1) | exact HB.out)⟩⟩
          · rw [if_neg c4] at H
            exact absurd H (by simp)
        · rw [if_neg c3] at H
          exact absurd H (by simp)
      · rw [if_neg c2] at H
        have c2b0 : decide (x8_1 < (l0.length : Int)) = false := decide_eq_false c2
        clear c2
        obtain rfl := Option.some.inj H
        go_wp2
        go_ret
        exact ⟨by first | rfl | (simp [errW_none, errW_some] <;> rfl) | (simp [*, errW_none, errW_some] <;> rfl), by repeat (first | (with_reducible first | exact HB.out | apply below_alloc | apply pw_below_drewN | apply below_drew1) | exact HB.out)⟩

end Go.Proofs.YtgfimdoildaonaaDoor.P
