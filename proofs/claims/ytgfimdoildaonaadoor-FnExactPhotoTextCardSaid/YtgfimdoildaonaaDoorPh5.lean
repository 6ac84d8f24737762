/- Joined texts, in the order in which they were built alone: Pspecl01Digit, STx, PhS, POkI, PlawstoMarks, PlawstoPhoto, PhV, PTl. -/
import Derived.Test.YtgfimdoildaonaaDoorPh0
import Derived.Test.YtgfimdoildaonaaDoorPh2
import Derived.Test.YtgfimdoildaonaaDoorPh4
import Derived.Test.YtgfimdoildaonaaDoorPh3
-- Written by a program of this session (a turned form of the kit's print) out of the translation.
namespace Go.Proofs.YtgfimdoildaonaaDoor.P
open Go.RowKit Go.Proofs.YtgfimdoildaonaaDoorW.PrintWords Go.Proofs.YtgfimdoildaonaaDoorW.PrintLast Go.Proofs.YtgfimdoildaonaaDoorW.PrintMore
attribute [local go_sem] max2_int min2_int max_two min_two max_three min_three max_four min_four   -- for this text's walks alone
set_option linter.unusedVariables false
set_option linter.unusedSimpArgs false

/-! ### spec_l01Digit: function 47 -/
def spec_l01Digit.f (a0 : Int) (a1 : Int) : Option (ByteArray) := (specDecimal.f (wrap64 (a1))).bind fun t206 => (if a0 > 10 then (if a1 < 10 then (if 1 + t206.size ≤ 9223372036854775807 then (some ((⟨#[48]⟩ : ByteArray) ++ t206)) else (none)) else (some t206)) else (some t206))
set_option maxHeartbeats 8000000 in
set_option maxRecDepth 100000 in
theorem spec_l01Digit.calls (a0 : Int) (a1 : Int) (r : ByteArray) (w : World) (h : spec_l01Digit.f a0 a1 = some r) :
    Calls Tryd.prog 47 #[.int .u8 a0, .int .u8 a1] w fun e w' => e = .returned (.string r) ∧ Below w.heap.size w w' := by
  have HB := Aside0.mk (Below.refl w.heap.size w)
  have H : ((specDecimal.f (wrap64 (a1))).bind fun t206 => (if a0 > 10 then (if a1 < 10 then (if 1 + t206.size ≤ 9223372036854775807 then (some ((⟨#[48]⟩ : ByteArray) ++ t206)) else (none)) else (some t206)) else (some t206))) = some r := h
  clear h
  replace H := Option.bind_eq_some_iff.mp H
  obtain ⟨t206, A30, H⟩ := H
  replace H : (if a0 > 10 then (if a1 < 10 then (if 1 + t206.size ≤ 9223372036854775807 then (some ((⟨#[48]⟩ : ByteArray) ++ t206)) else (none)) else (some t206)) else (some t206)) = some r := H
  have A3 := Aside0.mk A30
  clear A30
  by_cases c4 : a0 > 10
  · rw [if_pos c4] at H
    have c4b0 : decide (10 < a0) = true := decide_eq_true c4
    clear c4
    by_cases c5 : a1 < 10
    · rw [if_pos c5] at H
      have c5b0 : decide (a1 < 10) = true := decide_eq_true c5
      clear c5
      by_cases c6 : 1 + t206.size ≤ 9223372036854775807
      · rw [if_pos c6] at H
        have c6b0 := eq_true c6
        have c6b1 : decide (1 + t206.size ≤ 9223372036854775807) = true := decide_eq_true c6
        try have c6b2 : (9223372036854775807 < 1 + t206.size) = False := eq_false (Nat.not_lt.2 c6)
        obtain rfl := Option.some.inj H
        go_enter Tryd.func47, Tryd.ntmps47
        go_wp2_with (first | ((with_reducible refine gate_callee (f := 52) rfl ?_); refine goesL_ (some 8) rfl rfl Tryd.func52 (by kernel_rfl) rfl #[.int .i64 (wrap64 (a1))] rfl (by (try simp only [List.map_toArray, List.map_cons, List.map_nil]); first | done | rfl | (simp only [List.length_drop, List.length_take]; rfl)) ?_; (with_reducible refine (specDecimal.calls (wrap64 (a1)) t206 _ A3.out).mono ?_); rintro e w7 ⟨rfl, hb⟩; refine ⟨_, rfl, ?_⟩; have n0_ := Aside0.mk (below_step (by repeat (first | (with_reducible first | exact HB.out | apply below_alloc | apply pw_below_drewN | apply below_drew1) | exact HB.out)) hb); clear HB; have HB := n0_; clear n0_; (try clear hb); (try clear hb2); (try clear hk); (try clear hi)))
        go_ret
        exact ⟨by first | rfl | (simp [errW_none, errW_some] <;> rfl) | (simp [*, errW_none, errW_some] <;> rfl), by repeat (first | (with_reducible first | exact HB.out | apply below_alloc | apply pw_below_drewN | apply below_drew1) | exact HB.out)⟩
      · rw [if_neg c6] at H
        exact absurd H (by simp)
    · rw [if_neg c5] at H
      have c5b0 : decide (a1 < 10) = false := decide_eq_false c5
      clear c5
      obtain rfl := Option.some.inj H
      go_enter Tryd.func47, Tryd.ntmps47
      go_wp2_with (first | ((with_reducible refine gate_callee (f := 52) rfl ?_); refine goesL_ (some 8) rfl rfl Tryd.func52 (by kernel_rfl) rfl #[.int .i64 (wrap64 (a1))] rfl (by (try simp only [List.map_toArray, List.map_cons, List.map_nil]); first | done | rfl | (simp only [List.length_drop, List.length_take]; rfl)) ?_; (with_reducible refine (specDecimal.calls (wrap64 (a1)) t206 _ A3.out).mono ?_); rintro e w8 ⟨rfl, hb⟩; refine ⟨_, rfl, ?_⟩; have n0_ := Aside0.mk (below_step (by repeat (first | (with_reducible first | exact HB.out | apply below_alloc | apply pw_below_drewN | apply below_drew1) | exact HB.out)) hb); clear HB; have HB := n0_; clear n0_; (try clear hb); (try clear hb2); (try clear hk); (try clear hi)))
      go_ret
      exact ⟨by first | rfl | (simp [errW_none, errW_some] <;> rfl) | (simp [*, errW_none, errW_some] <;> rfl), by repeat (first | (with_reducible first | exact HB.out | apply below_alloc | apply pw_below_drewN | apply below_drew1) | exact HB.out)⟩
  · rw [if_neg c4] at H
    have c4b0 : decide (10 < a0) = false := decide_eq_false c4
    clear c4
    obtain rfl := Option.some.inj H
    go_enter Tryd.func47, Tryd.ntmps47
    go_wp2_with (first | ((with_reducible refine gate_callee (f := 52) rfl ?_); refine goesL_ (some 8) rfl rfl Tryd.func52 (by kernel_rfl) rfl #[.int .i64 (wrap64 (a1))] rfl (by (try simp only [List.map_toArray, List.map_cons, List.map_nil]); first | done | rfl | (simp only [List.length_drop, List.length_take]; rfl)) ?_; (with_reducible refine (specDecimal.calls (wrap64 (a1)) t206 _ A3.out).mono ?_); rintro e w9 ⟨rfl, hb⟩; refine ⟨_, rfl, ?_⟩; have n0_ := Aside0.mk (below_step (by repeat (first | (with_reducible first | exact HB.out | apply below_alloc | apply pw_below_drewN | apply below_drew1) | exact HB.out)) hb); clear HB; have HB := n0_; clear n0_; (try clear hb); (try clear hb2); (try clear hk); (try clear hi)))
    go_ret
    exact ⟨by first | rfl | (simp [errW_none, errW_some] <;> rfl) | (simp [*, errW_none, errW_some] <;> rfl), by repeat (first | (with_reducible first | exact HB.out | apply below_alloc | apply pw_below_drewN | apply below_drew1) | exact HB.out)⟩

end Go.Proofs.YtgfimdoildaonaaDoor.P

/- spec's l01Text and DigitsText; impl.DigitsText: the same text. -/
namespace Go.Proofs.YtgfimdoildaonaaDoor.P
open Go.RowKit Go.Proofs.YtgfimdoildaonaaDoorW.PrintWords Go.Proofs.YtgfimdoildaonaaDoorW.PrintLast Go.Proofs.YtgfimdoildaonaaDoorW.PrintMore
set_option linter.unusedVariables false
set_option linter.unusedSimpArgs false
/-- The texts of the places below n, the last one first, with colons between. -/
def txtDown (f : Nat → ByteArray) : Nat → ByteArray
  | 0 => ⟨#[]⟩
  | m + 1 => f m ++ ((if 0 < m then ⟨#[58]⟩ else ⟨#[]⟩) ++ txtDown f m)
theorem txtDown_join (f : Nat → ByteArray) : ∀ n, txtDown f n = ⟨(Lib.join (((List.range n).map f).reverse.map (·.data.toList)) [58]).toArray⟩ := by
  intro n
  induction n with
  | zero => rfl
  | succ m ih =>
    rw [List.range_succ, List.map_append, List.reverse_append, List.map_append]
    simp only [txtDown, List.map_cons, List.map_nil, List.reverse_cons, List.reverse_nil, List.nil_append, List.singleton_append]
    cases m with
    | zero => apply ByteArray.ext; simp [txtDown, Lib.join_one]
    | succ q =>
      rw [if_pos (by omega), ih]
      have hne : ∃ y r, (((List.range (q + 1)).map f).reverse.map (·.data.toList)) = y :: r := by
        rw [List.range_succ, List.map_append, List.reverse_append, List.map_append]
        exact ⟨_, _, rfl⟩
      obtain ⟨y, r, hyr⟩ := hne
      rw [hyr, join_two]
      apply ByteArray.ext
      simp
theorem txtDown_size (f : Nat → ByteArray) (n : Nat) (h : ∀ i, i < n → (f i).size ≤ 100) : (txtDown f n).size ≤ 101 * n := by
  induction n with
  | zero => show (⟨#[]⟩ : ByteArray).size ≤ _; simp [ByteArray.size]
  | succ m ih =>
    have h1 := h m (by omega)
    have h2 := ih (fun i hi => h i (by omega))
    have h3 : (if 0 < m then (⟨#[58]⟩ : ByteArray) else ⟨#[]⟩).size ≤ 1 := by split <;> simp [ByteArray.size]
    simp only [txtDown, ByteArray.size_append]
    omega
theorem dec_size1 {n : Int} (h0 : 0 ≤ n) (h1 : n < 10) : (dec n).size = 1 := by rw [dec_digit h0 h1]; rfl
theorem dec_size2 {n : Int} (h0 : 10 ≤ n) (h1 : n < 100) : (dec n).size = 2 := by
  rw [dec_more h0, ByteArray.size_append, dec_size1 (by omega) (by omega), dec_size1 (by omega) (by omega)]
theorem digT_eq {b d : Int} (h0 : 2 ≤ b) (h1 : b ≤ 100) (h2 : 0 ≤ d) (h3 : d < b) : spec_l01Digit.f b d = some (digT b d) := by
  have hw : wrap64 d = d := by unfold wrap64; omega
  unfold spec_l01Digit.f specDecimal.f
  rw [hw, if_pos (by omega), Option.bind_some]
  unfold digT padT
  have e0 : (⟨(Lib.repeatL [48] 0).toArray⟩ : ByteArray) ++ dec d = dec d := by apply ByteArray.ext; simp [Lib.repeatL]
  by_cases hb : b > 10
  · rw [if_pos hb, dec_size2 (show 10 ≤ b - 1 by omega) (by omega)]
    by_cases hd : d < 10
    · rw [if_pos hd, dec_size1 h2 hd, if_pos (by omega), Lib.repeatL_one]
    · rw [if_neg hd, dec_size2 (show 10 ≤ d by omega) (by omega), e0]
  · rw [if_neg hb, dec_size1 (show 0 ≤ b - 1 by omega) (by omega), dec_size1 h2 (by omega), e0]
theorem okDg_all {s : List Int} {d : Dg} (h : okDg s d = true) : okStk s = true ∧ ∀ i : Nat, i < s.length → nth (dlist d) i < rd s i := by
  unfold okDg at h
  simp only [Bool.and_eq_true] at h
  refine ⟨h.1, fun i hi => ?_⟩
  have hl := (okStk_len h.1).2
  have := List.all_eq_true.1 h.2 i (List.mem_range.2 (by omega))
  unfold okD at this
  rw [if_pos hi] at this
  exact of_decide_eq_true this
theorem stT_size (s : List Int) (d : Dg) (h : okDg s d = true) (hd : ∀ i : Nat, i < 8 → 0 ≤ nth (dlist d) i ∧ nth (dlist d) i ≤ 255) (i : Nat) (hi : i < s.length) : (stT s d i).size ≤ 100 := by
  obtain ⟨hk, ho⟩ := okDg_all h
  have hl := okStk_len hk
  have hb := okStk_base hk i hi
  have hd2 := hd i (by omega)
  exact padT_le _ _ (by omega) (by omega) (dec_size _ (by omega) (by omega))
theorem stTxt_eq (s : List Int) (d : Dg) : stTxt s d = txtDown (stT s d) s.length := (txtDown_join _ _).symm

set_option maxHeartbeats 2000000 in
set_option maxRecDepth 100000 in
theorem l01Text_at (A0 : Option Addr) (c0 : Nat) (s : List Int) (d : Dg) (w : World) (hr : Kd.C (Kd.int .u8) w A0 s.length s) (hc : s.length ≤ c0) (hok : okDg s d = true) (hd : ∀ i : Nat, i < 8 → 0 ≤ nth (dlist d) i ∧ nth (dlist d) i ≤ 255) :
    Calls Tryd.prog 27 #[.slice A0 s.length c0, .agg #[.int .u8 d.f0, .int .u8 d.f1, .int .u8 d.f2, .int .u8 d.f3, .int .u8 d.f4, .int .u8 d.f5, .int .u8 d.f6, .int .u8 d.f7]] w fun e w' => e = .returned (.string (stTxt s d)) ∧ Below w.heap.size w w' := by
  have HR := Aside0.mk hr
  obtain ⟨hk, ho⟩ := okDg_all hok
  have hl8 := (okStk_len hk).2
  have HBA := Aside0.mk (okStk_base hk)
  have HO := Aside0.mk ho
  have HDA := Aside0.mk hd
  have HSZ := Aside0.mk (txtDown_size (stT s d) s.length (stT_size s d hok hd))
  rw [stTxt_eq]
  obtain ⟨total, htot⟩ : ∃ t, t = txtDown (stT s d) s.length := ⟨_, rfl⟩
  rw [← htot] at HSZ ⊢
  have HTOT := Aside0.mk htot
  clear hr hok hk ho hd htot
  have HB1 := Aside0.mk (below_alloc (Below.refl w.heap.size w) (.cells #[.int .u8 d.f0, .int .u8 d.f1, .int .u8 d.f2, .int .u8 d.f3, .int .u8 d.f4, .int .u8 d.f5, .int .u8 d.f6, .int .u8 d.f7] 37))
  have HK1 := Aside0.mk (blk_new w (.cells #[.int .u8 d.f0, .int .u8 d.f1, .int .u8 d.f2, .int .u8 d.f3, .int .u8 d.f4, .int .u8 d.f5, .int .u8 d.f6, .int .u8 d.f7] 37))
  go_enter Tryd.func27, Tryd.ntmps27
  go_wp2_with fail
  go_loopw [5, 6] (fun o i wr => ∃ (j : Nat) (out : ByteArray), j ≤ s.length ∧ i = .int .i64 ((j : Int) - 1) ∧ o = .string out ∧ Aside0 (out ++ txtDown (stT s d) j = total) ∧ Aside0 (Below w.heap.size w wr) ∧ Aside0 (wr.heap[w.heap.size]? = some (.cells #[.int .u8 d.f0, .int .u8 d.f1, .int .u8 d.f2, .int .u8 d.f3, .int .u8 d.f4, .int .u8 d.f5, .int .u8 d.f6, .int .u8 d.f7] 37 (0, 0)))) (fun _ i _ => (intOf i + 1).toNat)
  case atStart => exact ⟨s.length, ⟨#[]⟩, Nat.le_refl _, rfl, rfl, ⟨by rw [HTOT.out]; apply ByteArray.ext; simp⟩, HB1, HK1⟩
  case round =>
    clear HB1 HK1
    obtain ⟨j, out, hj, rfl, rfl, HE, HB, HK⟩ := hrel
    cases j with
    | zero =>
      have HE2 := Aside0.mk (show out = total by rw [← HE.out]; apply ByteArray.ext; simp [txtDown])
      clear HE
      go_wp2_with fail
      go_ret
      exact ⟨by rw [← HE2.out]; rfl, HB.out⟩
    | succ m =>
      have hi : ((m + 1 : Nat) : Int) - 1 = (m : Int) := by omega
      rw [hi]
      clear hi
      have hm0 : (0 : Int) ≤ (m : Int) := by omega
      have hm1 : (m : Int) < (s.length : Int) := by omega
      have hm8 : (m : Int) < 8 := by omega
      obtain ⟨ad, e, hx⟩ := Kd.at_int HR.out (m : Int) (by omega) (by omega)
      cases e
      rw [Int.toNat_natCast] at hx
      replace hx := (HB.out.cell (World.block_lt_of_cell? w _ hx)).trans hx
      have hdc : wr.cell? ⟨w.heap.size, m, none⟩ = some (.int .u8 (nth (dlist d) m)) := by
        have := (blk_cell HK.out m).trans (arr_nth .u8 (dlist d) (m : Int) 8 rfl hm0 hm8)
        exact this
      have hT := digT_eq (HBA.out m (by omega)).1 (HBA.out m (by omega)).2 (HDA.out m (by omega)).1 (HO.out m (by omega))
      have HT := Aside0.mk (show spec_l01Digit.f (rd s m) (nth (dlist d) m) = some (stT s d m) from hT)
      have HE1 := Aside0.mk (show out ++ (stT s d m ++ ((if 0 < m then ⟨#[58]⟩ else ⟨#[]⟩) ++ txtDown (stT s d) m)) = total from HE.out)
      have hsz : out.size + (stT s d m).size + 1 ≤ 101 * s.length + 1 := by
        have h := congrArg ByteArray.size HE1.out
        simp only [ByteArray.size_append] at h
        have := HSZ.out
        omega
      clear HE hT
      generalize rd s (m : Int) = bx at hx HT
      generalize nth (dlist d) (m : Int) = dx at hdc HT
      generalize stT s d m = txt at HT HE1 hsz
      have s1 : (9223372036854775807 < out.size + txt.size) = False := eq_false (by omega)
      have s2 : (9223372036854775807 < out.size + txt.size + 1) = False := eq_false (by omega)
      go_wp2_with fail
      refine start_ (n := 11) (S := fun w' => w'.cell? (ad.add m) = some (.int .u8 bx) ∧ w'.cell? ⟨w.heap.size, m, none⟩ = some (.int .u8 dx)) (ds := []) #[false, false, false, false, false, false, false, false, false, false, false] (by kernel_rfl) rfl rfl ⟨hx, hdc⟩ (fun hHeld => ?_)
      have HBW := Aside0.mk (below_drew1 (Below.refl wr.heap.size wr))
      generalize wr.drew = W1 at HBW hHeld ⊢
      refine pure_ (i := 0) (N := (some 14)) (v := ?_) (a' := ?_) #[true, false, false, false, false, false, false, false, false, false, false] rfl rfl (by kernel_rfl) (fun _ _ _ h => h) (Or.inl ⟨by rfl, ?_⟩) ?_ ?_
      rotate_left
      · intro w'
        go_simp
        with_reducible rfl
      rotate_left
      · simp only [Act.put, List.setIfInBounds_toArray, List.set_cons_zero, List.set_cons_succ, i64_w, i32_w]
        rfl
      refine pure_ (i := 1) (N := (some 15)) (v := ?_) (a' := ?_) #[true, true, false, false, false, false, false, false, false, false, false] rfl rfl (by kernel_rfl) (fun _ _ _ h => h) (Or.inl ⟨by rfl, ?_⟩) ?_ ?_
      rotate_left
      · intro w'
        go_simp
        with_reducible rfl
      rotate_left
      · simp only [Act.put, List.setIfInBounds_toArray, List.set_cons_zero, List.set_cons_succ, i64_w, i32_w]
        rfl
      refine pure_ (i := 2) (N := (some 16)) (v := ?_) (a' := ?_) #[true, true, true, false, false, false, false, false, false, false, false] rfl rfl (by kernel_rfl) (fun _ _ _ h => h) (Or.inl ⟨by rfl, ?_⟩) ?_ ?_
      rotate_left
      · intro w'
        go_simp
        with_reducible rfl
      rotate_left
      · simp only [Act.put, List.setIfInBounds_toArray, List.set_cons_zero, List.set_cons_succ, i64_w, i32_w]
        rfl
      refine pure_ (i := 3) (N := (some 17)) (v := ?_) (a' := ?_) #[true, true, true, true, false, false, false, false, false, false, false] rfl rfl (by kernel_rfl) (fun _ _ _ h => h) (Or.inl ⟨by rfl, ?_⟩) ?_ ?_
      rotate_left
      · intro w'
        go_simp
        with_reducible rfl
      rotate_left
      · simp only [Act.put, List.setIfInBounds_toArray, List.set_cons_zero, List.set_cons_succ, i64_w, i32_w]
        rfl
      refine take_ (i := 4) (N := (some 18)) (v := ?_) (a' := ?_) #[true, true, true, true, true, false, false, false, false, false, false] rfl rfl (by kernel_rfl) (fun _ _ _ h => h) (Or.inl ⟨by rfl, ?_⟩) hHeld ?_ ?_
      rotate_left
      · rintro w' ⟨s0, s1⟩
        go_simp
        with_reducible rfl
      rotate_left
      · simp only [Act.put, List.setIfInBounds_toArray, List.set_cons_zero, List.set_cons_succ, i64_w, i32_w]
        rfl
      refine pure_ (i := 5) (N := (some 19)) (v := ?_) (a' := ?_) #[true, true, true, true, true, true, false, false, false, false, false] rfl rfl (by kernel_rfl) (fun _ _ _ h => h) (Or.inl ⟨by rfl, ?_⟩) ?_ ?_
      rotate_left
      · intro w'
        go_simp
        with_reducible rfl
      rotate_left
      · simp only [Act.put, List.setIfInBounds_toArray, List.set_cons_zero, List.set_cons_succ, i64_w, i32_w]
        rfl
      refine pure_ (i := 6) (N := (some 20)) (v := ?_) (a' := ?_) #[true, true, true, true, true, true, true, false, false, false, false] rfl rfl (by kernel_rfl) (fun _ _ _ h => h) (Or.inl ⟨by rfl, ?_⟩) ?_ ?_
      rotate_left
      · intro w'
        go_simp
        with_reducible rfl
      rotate_left
      · simp only [Act.put, List.setIfInBounds_toArray, List.set_cons_zero, List.set_cons_succ, i64_w, i32_w]
        rfl
      refine take_ (i := 7) (N := (some 21)) (v := ?_) (a' := ?_) #[true, true, true, true, true, true, true, true, false, false, false] rfl rfl (by kernel_rfl) (fun _ _ _ h => h) (Or.inl ⟨by rfl, ?_⟩) hHeld ?_ ?_
      rotate_left
      · rintro w' ⟨s0, s1⟩
        go_simp
        with_reducible rfl
      rotate_left
      · simp only [Act.put, List.setIfInBounds_toArray, List.set_cons_zero, List.set_cons_succ, i64_w, i32_w]
        rfl
      refine one_ (i := 8) (N := (some 22)) #[true, true, true, true, true, true, true, true, true, false, false] rfl rfl (by kernel_rfl) (by decide) (fun K hK => ?_)
      refine goes_ Tryd.func47 (by kernel_rfl) rfl #[.int .u8 bx, .int .u8 dx] (by rfl) rfl rfl (by (try simp only [List.map_toArray, List.map_cons, List.map_nil]); first | done | rfl) ?_
      with_reducible refine (spec_l01Digit.calls bx dx txt _ HT.out).mono ?_
      rintro e w2 ⟨rfl, hb⟩
      refine ⟨_, rfl, ?_⟩
      have n0_ := Aside0.mk (below_step HBW.out hb)
      clear hb HBW
      have HBW := n0_
      clear n0_
      refine hK.out _ _ ⟨(HBW.out.cell (World.block_lt_of_cell? _ _ hx)).trans hx, (HBW.out.cell (World.block_lt_of_cell? _ _ hdc)).trans hdc⟩ (fun hHeld => ?_)
      clear hK K
      refine norm_ (a' := ?_) ?_ ?_
      rotate_left
      · show Act.put _ (some 22) _ = _
        simp only [Act.put, List.setIfInBounds_toArray, List.set_cons_zero, List.set_cons_succ, i64_w, i32_w]
        rfl
      refine pure_ (i := 9) (N := (some 23)) (v := ?_) (a' := ?_) #[true, true, true, true, true, true, true, true, true, true, false] rfl rfl (by kernel_rfl) (fun _ _ _ h => h) (Or.inl ⟨by rfl, ?_⟩) ?_ ?_
      rotate_left
      · intro w'
        go_simp
        with_reducible rfl
      rotate_left
      · simp only [Act.put, List.setIfInBounds_toArray, List.set_cons_zero, List.set_cons_succ, i64_w, i32_w]
        rfl
      refine pure_ (i := 10) (N := (some 5)) (v := ?_) (a' := ?_) #[true, true, true, true, true, true, true, true, true, true, true] rfl rfl (by kernel_rfl) (fun _ _ _ h => h) (Or.inl ⟨by rfl, ?_⟩) ?_ ?_
      rotate_left
      · intro w'
        go_simp
        with_reducible rfl
      rotate_left
      · simp only [Act.put, List.setIfInBounds_toArray, List.set_cons_zero, List.set_cons_succ, i64_w, i32_w]
        rfl
      refine done_ (by kernel_rfl) ?_
      have HB2 := Aside0.mk (below_step HB.out HBW.out)
      have HK2 := Aside0.mk (blk_below HK.out HBW.out)
      by_cases hz : 0 < m
      · have hmp : decide (0 < (m : Int)) = true := decide_eq_true (by omega)
        have HE2 := Aside0.mk (show (out ++ txt ++ ⟨#[58]⟩) ++ txtDown (stT s d) m = total by
          rw [← HE1.out, if_pos hz]; apply ByteArray.ext; simp)
        clear HE1
        go_wp2_with fail
        first
          | (go_roundw
             case rel => exact ⟨m, _, by omega, rfl, rfl, HE2, HB2, HK2⟩
             case measure => simp [intOf]; try omega)
          | exact ⟨⟨m, _, by omega, rfl, rfl, HE2, HB2, HK2⟩, by simp [intOf]; try omega⟩
      · have hmp : decide (0 < (m : Int)) = false := decide_eq_false (by omega)
        have HE2 := Aside0.mk (show (out ++ txt) ++ txtDown (stT s d) m = total by
          rw [← HE1.out, if_neg hz]; apply ByteArray.ext; simp)
        clear HE1
        go_wp2_with fail
        first
          | (go_roundw
             case rel => exact ⟨m, _, by omega, rfl, rfl, HE2, HB2, HK2⟩
             case measure => simp [intOf]; try omega)
          | exact ⟨⟨m, _, by omega, rfl, rfl, HE2, HB2, HK2⟩, by simp [intOf]; try omega⟩
end Go.Proofs.YtgfimdoildaonaaDoor.P

/- spec's l05Text, ValidPhoto and PhotoText. -/
namespace Go.Proofs.YtgfimdoildaonaaDoor.P
open Go.RowKit Go.Proofs.YtgfimdoildaonaaDoorW.PrintWords Go.Proofs.YtgfimdoildaonaaDoorW.PrintLast Go.Proofs.YtgfimdoildaonaaDoorW.PrintMore
set_option linter.unusedVariables false
set_option linter.unusedSimpArgs false
/-- A photo's marks are whole numbers of 64 bits. -/
def phIn (x : Ph) : Prop := ∀ i : Nat, i < 8 → inU (nth (mk0 x) i) ∧ inU (nth (mk1 x) i)
def phT (s : List Int) (x : Ph) (i : Nat) : ByteArray := wheelT (nth (mk0 x) i) (nth (mk1 x) i) (rd s i)
def photoText (s : List Int) (x : Ph) : ByteArray := if (okStk s && photoOk s x) = true then txtDown (phT s x) s.length else ⟨#[]⟩
theorem txtDown_size3 (f : Nat → ByteArray) (n : Nat) (h : ∀ i, i < n → (f i).size ≤ 2688) : (txtDown f n).size ≤ 2689 * n := by
  induction n with
  | zero => show (⟨#[]⟩ : ByteArray).size ≤ _; simp [ByteArray.size]
  | succ m ih =>
    have h1 := h m (by omega)
    have h2 := ih (fun i hi => h i (by omega))
    have h3 : (if 0 < m then (⟨#[58]⟩ : ByteArray) else ⟨#[]⟩).size ≤ 1 := by split <;> simp [ByteArray.size]
    simp only [txtDown, ByteArray.size_append]
    omega
theorem photo_wheel {s : List Int} {x : Ph} (h : photoOk s x = true) (i : Nat) (hi : i < 8) : wheelOk s x i = true := by
  unfold photoOk at h
  exact List.all_eq_true.1 h i (List.mem_range.2 hi)
theorem specW_eq (s : List Int) (x : Ph) (hk : okStk s = true) (ho : photoOk s x = true) (hx : phIn x) (i : Nat) (hi : i < s.length) (k : Nat) (h2 : 140 < k) : spec_l05Wheel.f k (nth (mk0 x) i) (nth (mk1 x) i) (rd s i) = some (phT s x i) := by
  obtain ⟨hl1, hl8⟩ := okStk_len hk
  have hb := okStk_base hk i hi
  obtain ⟨hx0, hx1⟩ := hx i (by omega)
  obtain ⟨_, hB⟩ := wheel_below (photo_wheel ho i (by omega)) hi (by omega) hx0 hx1
  have := specWheel_eq _ _ hx0 hx1 (rd s i).toNat (by omega) hB k h2
  rw [show ((rd s i).toNat : Int) = rd s i by omega] at this
  exact this

set_option maxHeartbeats 2000000 in
set_option maxRecDepth 100000 in
theorem l05Text_at (A0 : Option Addr) (c0 : Nat) (s : List Int) (x : Ph) (a : Addr) (w : World) (hr : Kd.C (Kd.int .u8) w A0 s.length s) (hc : s.length ≤ c0) (hk : okStk s = true) (ho : photoOk s x = true) (hx : phIn x) (hp : PhAt w a x) :
    Calls Tryd.prog 18 #[.slice A0 s.length c0, .pointer (some a)] w fun e w' => e = .returned (.string (txtDown (phT s x) s.length)) ∧ Below w.heap.size w w' := by
  have HR := Aside0.mk hr
  have HP := Aside0.mk hp
  have hl8 := (okStk_len hk).2
  have HW := Aside0.mk (fun i hi => specW_eq s x hk ho hx i hi 200 (by omega))
  have HSZ := Aside0.mk (txtDown_size3 (phT s x) s.length (fun i _ => wheelT_size _ _ _))
  obtain ⟨total, htot⟩ : ∃ t, t = txtDown (phT s x) s.length := ⟨_, rfl⟩
  rw [← htot] at HSZ ⊢
  have HTOT := Aside0.mk htot
  clear hr hk ho hx hp htot
  go_enter Tryd.func18, Tryd.ntmps18
  go_wp2_with fail
  go_loopw [5, 6] (fun o i wr => ∃ (j : Nat) (out : ByteArray), j ≤ s.length ∧ i = .int .i64 ((j : Int) - 1) ∧ o = .string out ∧ Aside0 (out ++ txtDown (phT s x) j = total) ∧ Aside0 (Below w.heap.size w wr)) (fun _ i _ => (intOf i + 1).toNat)
  case atStart => exact ⟨s.length, ⟨#[]⟩, Nat.le_refl _, rfl, rfl, ⟨by rw [HTOT.out]; apply ByteArray.ext; simp⟩, ⟨Below.refl _ _⟩⟩
  case round =>
    obtain ⟨j, out, hj, rfl, rfl, HE, HB⟩ := hrel
    cases j with
    | zero =>
      have HE2 := Aside0.mk (show out = total by rw [← HE.out]; apply ByteArray.ext; simp [txtDown])
      clear HE
      go_wp2_with fail
      go_ret
      exact ⟨by rw [← HE2.out]; rfl, HB.out⟩
    | succ m =>
      have hi : ((m + 1 : Nat) : Int) - 1 = (m : Int) := by omega
      rw [hi]
      clear hi
      have hm0 : (0 : Int) ≤ (m : Int) := by omega
      have hm1 : (m : Int) < (s.length : Int) := by omega
      have hm8 : (m : Int) < 8 := by omega
      obtain ⟨ad, e, hx⟩ := Kd.at_int HR.out (m : Int) (by omega) (by omega)
      cases e
      rw [Int.toNat_natCast] at hx
      replace hx := (HB.out.cell (World.block_lt_of_cell? w _ hx)).trans hx
      obtain ⟨hx0, hx1⟩ := (HP.out.below HB.out).cell (m : Int) hm0 hm8
      rw [Int.toNat_natCast] at hx0 hx1
      have hT := HW.out m (by omega)
      have HT := Aside0.mk hT
      have HE1 := Aside0.mk (show out ++ (phT s x m ++ ((if 0 < m then ⟨#[58]⟩ else ⟨#[]⟩) ++ txtDown (phT s x) m)) = total from HE.out)
      have hsz : out.size + (phT s x m).size + 1 ≤ 2689 * s.length + 1 := by
        have h := congrArg ByteArray.size HE1.out
        simp only [ByteArray.size_append] at h
        have := HSZ.out
        omega
      clear HE hT
      generalize rd s (m : Int) = bx at hx HT
      generalize nth (mk0 x) (m : Int) = z0 at hx0 HT
      generalize nth (mk1 x) (m : Int) = z1 at hx1 HT
      generalize phT s x m = txt at HT HE1 hsz
      have s1 : (9223372036854775807 < out.size + txt.size) = False := eq_false (by omega)
      have s2 : (9223372036854775807 < out.size + txt.size + 1) = False := eq_false (by omega)
      go_wp2_with fail
      refine start_ (n := 13) (S := fun w' => w'.cell? (a.add (m * 2)) = some (.int .u64 z0) ∧ w'.cell? ⟨(a.add (m * 2)).block, (a.add (m * 2)).off + 1, none⟩ = some (.int .u64 z1) ∧ w'.cell? (ad.add m) = some (.int .u8 bx)) (ds := []) #[false, false, false, false, false, false, false, false, false, false, false, false, false] (by kernel_rfl) rfl rfl ⟨hx0, hx1, hx⟩ (fun hHeld => ?_)
      have HBW := Aside0.mk (below_drew1 (Below.refl wr.heap.size wr))
      generalize wr.drew = W1 at HBW hHeld ⊢
      refine pure_ (i := 0) (N := (some 14)) (v := ?_) (a' := ?_) #[true, false, false, false, false, false, false, false, false, false, false, false, false] rfl rfl (by kernel_rfl) (fun _ _ _ h => h) (Or.inl ⟨by rfl, ?_⟩) ?_ ?_
      rotate_left
      · intro w'
        go_simp
        with_reducible rfl
      rotate_left
      · simp only [Act.put, List.setIfInBounds_toArray, List.set_cons_zero, List.set_cons_succ, i64_w, i32_w]
        rfl
      refine pure_ (i := 1) (N := (some 15)) (v := ?_) (a' := ?_) #[true, true, false, false, false, false, false, false, false, false, false, false, false] rfl rfl (by kernel_rfl) (fun _ _ _ h => h) (Or.inl ⟨by rfl, ?_⟩) ?_ ?_
      rotate_left
      · intro w'
        go_simp
        with_reducible rfl
      rotate_left
      · simp only [Act.put, List.setIfInBounds_toArray, List.set_cons_zero, List.set_cons_succ, i64_w, i32_w]
        rfl
      refine pure_ (i := 2) (N := (some 16)) (v := ?_) (a' := ?_) #[true, true, true, false, false, false, false, false, false, false, false, false, false] rfl rfl (by kernel_rfl) (fun _ _ _ h => h) (Or.inl ⟨by rfl, ?_⟩) ?_ ?_
      rotate_left
      · intro w'
        go_simp
        with_reducible rfl
      rotate_left
      · simp only [Act.put, List.setIfInBounds_toArray, List.set_cons_zero, List.set_cons_succ, i64_w, i32_w]
        rfl
      refine pure_ (i := 3) (N := (some 17)) (v := ?_) (a' := ?_) #[true, true, true, true, false, false, false, false, false, false, false, false, false] rfl rfl (by kernel_rfl) (fun _ _ _ h => h) (Or.inl ⟨by rfl, ?_⟩) ?_ ?_
      rotate_left
      · intro w'
        go_simp
        with_reducible rfl
      rotate_left
      · simp only [Act.put, List.setIfInBounds_toArray, List.set_cons_zero, List.set_cons_succ, i64_w, i32_w]
        rfl
      refine pure_ (i := 4) (N := (some 18)) (v := ?_) (a' := ?_) #[true, true, true, true, true, false, false, false, false, false, false, false, false] rfl rfl (by kernel_rfl) (fun _ _ _ h => h) (Or.inl ⟨by rfl, ?_⟩) ?_ ?_
      rotate_left
      · intro w'
        go_simp
        with_reducible rfl
      rotate_left
      · simp only [Act.put, List.setIfInBounds_toArray, List.set_cons_zero, List.set_cons_succ, i64_w, i32_w]
        rfl
      refine take_ (i := 5) (N := (some 19)) (v := ?_) (a' := ?_) #[true, true, true, true, true, true, false, false, false, false, false, false, false] rfl rfl (by kernel_rfl) (fun _ _ _ h => h) (Or.inl ⟨by rfl, ?_⟩) hHeld ?_ ?_
      rotate_left
      · rintro w' ⟨s0, s1, s2⟩
        go_simp
        with_reducible rfl
      rotate_left
      · simp only [Act.put, List.setIfInBounds_toArray, List.set_cons_zero, List.set_cons_succ, i64_w, i32_w]
        rfl
      refine pure_ (i := 6) (N := (some 20)) (v := ?_) (a' := ?_) #[true, true, true, true, true, true, true, false, false, false, false, false, false] rfl rfl (by kernel_rfl) (fun _ _ _ h => h) (Or.inl ⟨by rfl, ?_⟩) ?_ ?_
      rotate_left
      · intro w'
        go_simp
        with_reducible rfl
      rotate_left
      · simp only [Act.put, List.setIfInBounds_toArray, List.set_cons_zero, List.set_cons_succ, i64_w, i32_w]
        rfl
      refine pure_ (i := 7) (N := (some 21)) (v := ?_) (a' := ?_) #[true, true, true, true, true, true, true, true, false, false, false, false, false] rfl rfl (by kernel_rfl) (fun _ _ _ h => h) (Or.inl ⟨by rfl, ?_⟩) ?_ ?_
      rotate_left
      · intro w'
        go_simp
        with_reducible rfl
      rotate_left
      · simp only [Act.put, List.setIfInBounds_toArray, List.set_cons_zero, List.set_cons_succ, i64_w, i32_w]
        rfl
      refine pure_ (i := 8) (N := (some 22)) (v := ?_) (a' := ?_) #[true, true, true, true, true, true, true, true, true, false, false, false, false] rfl rfl (by kernel_rfl) (fun _ _ _ h => h) (Or.inl ⟨by rfl, ?_⟩) ?_ ?_
      rotate_left
      · intro w'
        go_simp
        with_reducible rfl
      rotate_left
      · simp only [Act.put, List.setIfInBounds_toArray, List.set_cons_zero, List.set_cons_succ, i64_w, i32_w]
        rfl
      refine take_ (i := 9) (N := (some 23)) (v := ?_) (a' := ?_) #[true, true, true, true, true, true, true, true, true, true, false, false, false] rfl rfl (by kernel_rfl) (fun _ _ _ h => h) (Or.inl ⟨by rfl, ?_⟩) hHeld ?_ ?_
      rotate_left
      · rintro w' ⟨s0, s1, s2⟩
        go_simp
        with_reducible rfl
      rotate_left
      · simp only [Act.put, List.setIfInBounds_toArray, List.set_cons_zero, List.set_cons_succ, i64_w, i32_w]
        rfl
      refine one_ (i := 10) (N := (some 24)) #[true, true, true, true, true, true, true, true, true, true, true, false, false] rfl rfl (by kernel_rfl) (by decide) (fun K hK => ?_)
      refine goes_ Tryd.func37 (by kernel_rfl) rfl #[.agg #[.int .u64 z0, .int .u64 z1], .int .u8 bx] (by rfl) rfl rfl (by (try simp only [List.map_toArray, List.map_cons, List.map_nil]); first | done | rfl) ?_
      with_reducible refine (spec_l05Wheel.calls 200 z0 z1 bx txt _ HT.out).mono ?_
      rintro e w2 ⟨rfl, hb⟩
      refine ⟨_, rfl, ?_⟩
      have n0_ := Aside0.mk (below_step HBW.out hb)
      clear hb HBW
      have HBW := n0_
      clear n0_
      refine hK.out _ _ ⟨(HBW.out.cell (World.block_lt_of_cell? _ _ hx0)).trans hx0, (HBW.out.cell (World.block_lt_of_cell? _ _ hx1)).trans hx1, (HBW.out.cell (World.block_lt_of_cell? _ _ hx)).trans hx⟩ (fun hHeld => ?_)
      clear hK K
      refine norm_ (a' := ?_) ?_ ?_
      rotate_left
      · show Act.put _ (some 24) _ = _
        simp only [Act.put, List.setIfInBounds_toArray, List.set_cons_zero, List.set_cons_succ, i64_w, i32_w]
        rfl
      refine pure_ (i := 11) (N := (some 25)) (v := ?_) (a' := ?_) #[true, true, true, true, true, true, true, true, true, true, true, true, false] rfl rfl (by kernel_rfl) (fun _ _ _ h => h) (Or.inl ⟨by rfl, ?_⟩) ?_ ?_
      rotate_left
      · intro w'
        go_simp
        with_reducible rfl
      rotate_left
      · simp only [Act.put, List.setIfInBounds_toArray, List.set_cons_zero, List.set_cons_succ, i64_w, i32_w]
        rfl
      refine pure_ (i := 12) (N := (some 5)) (v := ?_) (a' := ?_) #[true, true, true, true, true, true, true, true, true, true, true, true, true] rfl rfl (by kernel_rfl) (fun _ _ _ h => h) (Or.inl ⟨by rfl, ?_⟩) ?_ ?_
      rotate_left
      · intro w'
        go_simp
        with_reducible rfl
      rotate_left
      · simp only [Act.put, List.setIfInBounds_toArray, List.set_cons_zero, List.set_cons_succ, i64_w, i32_w]
        rfl
      refine done_ (by kernel_rfl) ?_
      have HB2 := Aside0.mk (below_step HB.out HBW.out)
      by_cases hz : 0 < m
      · have hmp : decide (0 < (m : Int)) = true := decide_eq_true (by omega)
        have HE2 := Aside0.mk (show (out ++ txt ++ ⟨#[58]⟩) ++ txtDown (phT s x) m = total by
          rw [← HE1.out, if_pos hz]; apply ByteArray.ext; simp)
        clear HE1
        go_wp2_with fail
        first
          | (go_roundw
             case rel => exact ⟨m, _, by omega, rfl, rfl, HE2, HB2⟩
             case measure => simp [intOf]; try omega)
          | exact ⟨⟨m, _, by omega, rfl, rfl, HE2, HB2⟩, by simp [intOf]; try omega⟩
      · have hmp : decide (0 < (m : Int)) = false := decide_eq_false (by omega)
        have HE2 := Aside0.mk (show (out ++ txt) ++ txtDown (phT s x) m = total by
          rw [← HE1.out, if_neg hz]; apply ByteArray.ext; simp)
        clear HE1
        go_wp2_with fail
        first
          | (go_roundw
             case rel => exact ⟨m, _, by omega, rfl, rfl, HE2, HB2⟩
             case measure => simp [intOf]; try omega)
          | exact ⟨⟨m, _, by omega, rfl, rfl, HE2, HB2⟩, by simp [intOf]; try omega⟩
end Go.Proofs.YtgfimdoildaonaaDoor.P

/- Photos: validity, as the program looks at it by a value. -/
namespace Go.Proofs.YtgfimdoildaonaaDoor.P
open Go.RowKit Go.Proofs.YtgfimdoildaonaaDoorW.PrintWords Go.Proofs.YtgfimdoildaonaaDoorW.PrintLast Go.Proofs.YtgfimdoildaonaaDoorW.PrintMore
set_option linter.unusedVariables false
set_option linter.unusedSimpArgs false
theorem index_ph (x : Ph) (m : Int) (h0 : 0 ≤ m) (h1 : m < 8) (W : World) :
    (Instr.index 31 (.agg #[.int .u64 x.f0.f0, .int .u64 x.f0.f1, .int .u64 x.f1.f0, .int .u64 x.f1.f1, .int .u64 x.f2.f0, .int .u64 x.f2.f1, .int .u64 x.f3.f0, .int .u64 x.f3.f1, .int .u64 x.f4.f0, .int .u64 x.f4.f1, .int .u64 x.f5.f0, .int .u64 x.f5.f1, .int .u64 x.f6.f0, .int .u64 x.f6.f1, .int .u64 x.f7.f0, .int .u64 x.f7.f1]) (.int .i64 m)).run Tryd.prog W = .ok (.agg #[.int .u64 (nth (mk0 x) m), .int .u64 (nth (mk1 x) m)]) W :=
  index_pair .u64 31 29 [(x.f0.f0, x.f0.f1), (x.f1.f0, x.f1.f1), (x.f2.f0, x.f2.f1), (x.f3.f0, x.f3.f1), (x.f4.f0, x.f4.f1), (x.f5.f0, x.f5.f1), (x.f6.f0, x.f6.f1), (x.f7.f0, x.f7.f1)] m 8 Tryd.underlying31 Tryd.isAgg29 Tryd.sizeOf29 rfl h0 h1 W

theorem two_blocks {W w2 : World} {n t1 t2 : Nat} {z0 z1 : Int} (hK : W.heap[n]? = some (.cells #[.int .u64 z0, .int .u64 z1] t1 (0, 0))) (hb : Below W.heap.size W w2) (F0 F1 : Int) :
    (w2.alloc (.cells #[.int .u64 F0, .int .u64 F1] t2)).cell? ⟨n, 0, none⟩ = some (.int .u64 z0) ∧ (w2.alloc (.cells #[.int .u64 F0, .int .u64 F1] t2)).cell? ⟨n, 1, none⟩ = some (.int .u64 z1) ∧
    (w2.alloc (.cells #[.int .u64 F0, .int .u64 F1] t2)).cell? ⟨w2.heap.size, 0, none⟩ = some (.int .u64 F0) ∧ (w2.alloc (.cells #[.int .u64 F0, .int .u64 F1] t2)).cell? ⟨w2.heap.size, 1, none⟩ = some (.int .u64 F1) := by
  have c0 : W.cell? ⟨n, 0, none⟩ = some (.int .u64 z0) := (blk_cell hK 0).trans rfl
  have c1 : W.cell? ⟨n, 1, none⟩ = some (.int .u64 z1) := (blk_cell hK 1).trans rfl
  have hb2 := below_alloc hb (.cells #[.int .u64 F0, .int .u64 F1] t2)
  exact ⟨(hb2.cell (World.block_lt_of_cell? _ _ c0)).trans c0, (hb2.cell (World.block_lt_of_cell? _ _ c1)).trans c1, (blk_cell (heap_alloc_new _ _) 0).trans rfl, (blk_cell (heap_alloc_new _ _) 1).trans rfl⟩
set_option maxHeartbeats 2000000 in
set_option maxRecDepth 100000 in
theorem photoOK_at (k : Nat) (hk : 140 < k) (A0 : Option Addr) (c0 : Nat) (s : List Int) (x : Ph) (w : World) (hr : Kd.C (Kd.int .u8) w A0 s.length s) (hc : s.length ≤ c0) (hs : s.length ≤ 8)
    (hb : ∀ i : Nat, i < s.length → 0 ≤ rd s i ∧ rd s i ≤ 100) :
    Calls Tryd.prog 38 #[.slice A0 s.length c0, .agg #[.int .u64 x.f0.f0, .int .u64 x.f0.f1, .int .u64 x.f1.f0, .int .u64 x.f1.f1, .int .u64 x.f2.f0, .int .u64 x.f2.f1, .int .u64 x.f3.f0, .int .u64 x.f3.f1, .int .u64 x.f4.f0, .int .u64 x.f4.f1, .int .u64 x.f5.f0, .int .u64 x.f5.f1, .int .u64 x.f6.f0, .int .u64 x.f6.f1, .int .u64 x.f7.f0, .int .u64 x.f7.f1]] w fun e w' => e = .returned (.bool (photoOk s x)) ∧ Below w.heap.size w w' := by
  have HX := Aside0.mk (index_ph x)
  have HR := Aside0.mk hr
  have HBA := Aside0.mk hb
  clear hr hb
  obtain ⟨P, hP⟩ : ∃ P, P = photoOk s x := ⟨_, rfl⟩
  rw [← hP]
  have HPo := Aside0.mk hP
  clear hP
  go_enter Tryd.func38, Tryd.ntmps38
  go_wp2_with fail
  go_loopw [9] (fun i wr => ∃ m : Nat, m ≤ 8 ∧ i = .int .i64 m ∧ Aside0 ((List.range m).all (wheelOk s x) = true) ∧ Aside0 (Below w.heap.size w wr)) (fun i _ => 8 - (intOf i).toNat)
  case atStart => exact ⟨0, by omega, rfl, ⟨rfl⟩, ⟨below_alloc (Below.refl _ _) _⟩⟩
  case round =>
    obtain ⟨m, hm, rfl, HA, HB⟩ := hrel
    by_cases hlt : m < 8
    · have hix := HX.out (m : Int) (by omega) (by omega)
      have HWh := Aside0.mk (show wheelOk s x m = (if s.length ≤ m then decide (nth (mk0 x) m = 0 ∧ nth (mk1 x) m = 0) else
        !decide (nth (mk0 x) m = 0 ∧ nth (mk1 x) m = 0) && (decide (Go.bits .andNot .u64 (nth (mk0 x) m) (full0 (rd s m).toNat) = 0) && decide (Go.bits .andNot .u64 (nth (mk1 x) m) (full1 (rd s m).toNat) = 0))) from rfl)
      generalize hz0 : nth (mk0 x) (m : Int) = z0 at hix HWh
      generalize hz1 : nth (mk1 x) (m : Int) = z1 at hix HWh
      clear hz0 hz1
      have heq : ∀ W : World, (Op.equalIn 10000 29 (.agg #[.int .u64 z0, .int .u64 z1]) (.agg #[.int .u64 0, .int .u64 0])).run Tryd.prog W = .ok (decide (z0 = 0 ∧ z1 = 0)) W := fun W => eqPair W z0 z1 0 0
      by_cases hge : s.length ≤ m
      · have HWe := Aside0.mk (show wheelOk s x m = decide (z0 = 0 ∧ z1 = 0) from by rw [HWh.out, if_pos hge])
        clear HWh
        have hcmp : decide ((s.length : Int) ≤ (m : Int)) = true := decide_eq_true (by omega)
        cases h0 : decide (z0 = 0 ∧ z1 = 0) with
        | true =>
          rw [h0] at heq HWe
          clear h0
          go_wp2_with fail
          exact ⟨⟨m + 1, by omega, by go_num, ⟨by rw [range_succ_all, HA.out, HWe.out]; rfl⟩, ⟨below_alloc HB.out _⟩⟩, by simp [intOf]; try omega⟩
        | false =>
          rw [h0] at heq HWe
          clear h0
          go_wp2_with fail
          go_ret
          exact ⟨by rw [HPo.out]; unfold photoOk; rw [not_all_range _ m 8 hlt HWe.out]; rfl, below_alloc HB.out _⟩
      · have hcmp : decide ((s.length : Int) ≤ (m : Int)) = false := decide_eq_false (by omega)
        obtain ⟨ad, e, hy⟩ := Kd.at_int HR.out (m : Int) (by omega) (by omega)
        cases e
        rw [Int.toNat_natCast] at hy
        replace hy := ((below_alloc HB.out (.cells #[.int .u64 z0, .int .u64 z1] 29)).cell (World.block_lt_of_cell? w _ hy)).trans hy
        have hbase := HBA.out m (by omega)
        have HWe := Aside0.mk (show wheelOk s x m = (!decide (z0 = 0 ∧ z1 = 0) && (decide (Go.bits .andNot .u64 z0 (full0 (rd s m).toNat) = 0) && decide (Go.bits .andNot .u64 z1 (full1 (rd s m).toNat) = 0))) from by rw [HWh.out, if_neg hge])
        clear HWh
        generalize rd s (m : Int) = base at hy hbase HWe
        obtain ⟨bn, rfl⟩ := Int.eq_ofNat_of_zero_le hbase.1
        rw [Int.toNat_natCast] at HWe
        have HFull := Aside0.mk (below_eq k bn (by omega) (by omega))
        have HB1 := Aside0.mk (below_alloc HB.out (.cells #[.int .u64 z0, .int .u64 z1] 29))
        have HK := Aside0.mk (heap_alloc_new wr (.cells #[.int .u64 z0, .int .u64 z1] 29))
        have hm0 : (0 : Int) ≤ (m : Int) := by omega
        have hm1 : (m : Int) < (s.length : Int) := by omega
        have hcv : wrap64 (bn : Int) = bn := by unfold wrap64; omega
        generalize full0 bn = F0 at HFull HWe
        generalize full1 bn = F1 at HFull HWe
        cases h0 : decide (z0 = 0 ∧ z1 = 0) with
        | true =>
          rw [h0] at heq HWe
          clear h0
          go_wp2_with (go_at_call 63; refine (impl_below.calls k _ _ _ _ HFull.out).mono ?_; rintro e w2 ⟨rfl, hb⟩; (have HB2 := Aside0.mk hb); (have hk0 := (two_blocks (t2 := 29) HK.out hb F0 F1).1); (have hk1 := (two_blocks (t2 := 29) HK.out hb F0 F1).2.1); (have hk2 := (two_blocks (t2 := 29) HK.out hb F0 F1).2.2.1); (have hk3 := (two_blocks (t2 := 29) HK.out hb F0 F1).2.2.2); clear hb)
          go_ret
          exact ⟨by rw [HPo.out]; unfold photoOk; rw [not_all_range _ m 8 hlt HWe.out]; rfl, below_alloc (below_step HB1.out HB2.out) _⟩
        | false =>
          rw [h0] at heq HWe
          clear h0
          by_cases g0 : Go.bits .andNot .u64 z0 F0 = 0
          · by_cases g1 : Go.bits .andNot .u64 z1 F1 = 0
            · have HWf := Aside0.mk (show wheelOk s x m = true from by rw [HWe.out, g0, g1]; rfl)
              clear HWe
              go_wp2_with (go_at_call 63; refine (impl_below.calls k _ _ _ _ HFull.out).mono ?_; rintro e w2 ⟨rfl, hb⟩; (have HB2 := Aside0.mk hb); (have hk0 := (two_blocks (t2 := 29) HK.out hb F0 F1).1); (have hk1 := (two_blocks (t2 := 29) HK.out hb F0 F1).2.1); (have hk2 := (two_blocks (t2 := 29) HK.out hb F0 F1).2.2.1); (have hk3 := (two_blocks (t2 := 29) HK.out hb F0 F1).2.2.2); clear hb)
              exact ⟨⟨m + 1, by omega, by go_num, ⟨by rw [range_succ_all, HA.out, HWf.out]; rfl⟩, ⟨below_alloc (below_step HB1.out HB2.out) _⟩⟩, by simp [intOf]; try omega⟩
            · have HWf := Aside0.mk (show wheelOk s x m = false from by rw [HWe.out, decide_eq_false g1]; simp)
              have g1' : (Go.bits .andNot .u64 z1 F1 = 0) = False := eq_false g1
              have g1'' : (Go.bits .andNot .u64 z1 F1 == 0) = false := by simpa using g1
              clear HWe g1
              go_wp2_with (go_at_call 63; refine (impl_below.calls k _ _ _ _ HFull.out).mono ?_; rintro e w2 ⟨rfl, hb⟩; (have HB2 := Aside0.mk hb); (have hk0 := (two_blocks (t2 := 29) HK.out hb F0 F1).1); (have hk1 := (two_blocks (t2 := 29) HK.out hb F0 F1).2.1); (have hk2 := (two_blocks (t2 := 29) HK.out hb F0 F1).2.2.1); (have hk3 := (two_blocks (t2 := 29) HK.out hb F0 F1).2.2.2); clear hb)
              go_ret
              exact ⟨by rw [HPo.out]; unfold photoOk; rw [not_all_range _ m 8 hlt HWf.out]; rfl, below_alloc (below_step HB1.out HB2.out) _⟩
          · have HWf := Aside0.mk (show wheelOk s x m = false from by rw [HWe.out, decide_eq_false g0]; simp)
            have g0' : (Go.bits .andNot .u64 z0 F0 = 0) = False := eq_false g0
            have g0'' : (Go.bits .andNot .u64 z0 F0 == 0) = false := by simpa using g0
            clear HWe g0
            go_wp2_with (go_at_call 63; refine (impl_below.calls k _ _ _ _ HFull.out).mono ?_; rintro e w2 ⟨rfl, hb⟩; (have HB2 := Aside0.mk hb); (have hk0 := (two_blocks (t2 := 29) HK.out hb F0 F1).1); (have hk1 := (two_blocks (t2 := 29) HK.out hb F0 F1).2.1); (have hk2 := (two_blocks (t2 := 29) HK.out hb F0 F1).2.2.1); (have hk3 := (two_blocks (t2 := 29) HK.out hb F0 F1).2.2.2); clear hb)
            go_ret
            exact ⟨by rw [HPo.out]; unfold photoOk; rw [not_all_range _ m 8 hlt HWf.out]; rfl, below_alloc (below_step HB1.out HB2.out) _⟩
    · obtain rfl : m = 8 := by omega
      go_wp2_with fail
      go_ret
      exact ⟨by rw [HPo.out]; unfold photoOk; rw [HA.out]; rfl, HB.out⟩
end Go.Proofs.YtgfimdoildaonaaDoor.P

-- Written by a program of this session (a turned form of the kit's print) out of the translation.
namespace Go.Proofs.YtgfimdoildaonaaDoor.P
open Go.RowKit Go.Proofs.YtgfimdoildaonaaDoorW.PrintWords Go.Proofs.YtgfimdoildaonaaDoorW.PrintLast Go.Proofs.YtgfimdoildaonaaDoorW.PrintMore
attribute [local go_sem] max2_int min2_int max_two min_two max_three min_three max_four min_four   -- for this text's walks alone
set_option linter.unusedVariables false
set_option linter.unusedSimpArgs false

/-! ### laws_toMarks: function 19 -/
def laws_toMarks.l0 : Nat → Int → Int → Int → Int → Int → Option (Int × Int)
  | 0, _, _, _, _, _ => none
  | k + 1, x4, x149000, x149001, x151000, x151001 => if x4 < 2 then (if 0 ≤ x4 then (laws_toMarks.l0 k (wrap64 (x4 + 1)) x149000 x149001 (sel 0 x4 (nth [x149000, x149001] x4) x151000) (sel 1 x4 (nth [x149000, x149001] x4) x151001)) else (none)) else (some (x151000, x151001))
def laws_toMarks.f (k : Nat) (a0_0 : Int) (a0_1 : Int) : Option (Int × Int) := laws_toMarks.l0 k 0 a0_0 a0_1 0 0
theorem laws_toMarks.mono_l : ∀ k, (∀ y0 y1 y2 y3 y4, LeO (laws_toMarks.l0 k y0 y1 y2 y3 y4) (laws_toMarks.l0 (k + 1) y0 y1 y2 y3 y4))
  | 0 => fun _ _ _ _ _ r h => by simp [laws_toMarks.l0] at h
  | k + 1 => by
    have ih0 := laws_toMarks.mono_l k
    · intro y0 y1 y2 y3 y4
      unfold laws_toMarks.l0
      repeat' first
      | (with_reducible exact ih0 _ _ _ _ _)
      | (with_reducible exact LeO.refl _)
      | (with_reducible exact LeO.none _)
      | (with_reducible refine LeO.ite ?_ ?_)
      | (with_reducible refine LeO.bind ?_ (fun _ => ?_))
      | exact ih0 _ _ _ _ _
      | exact LeO.none _
      | refine LeO.ite ?_ ?_
      | refine LeO.bind ?_ (fun _ => ?_)
theorem laws_toMarks.mono : ∀ a0 a1 k, LeO (laws_toMarks.f k a0 a1) (laws_toMarks.f (k + 1) a0 a1) := by
  intro a0 a1 k
  have ih0 := laws_toMarks.mono_l k
  unfold laws_toMarks.f
  repeat' first
      | (with_reducible exact ih0 _ _ _ _ _)
      | (with_reducible exact LeO.refl _)
      | (with_reducible exact LeO.none _)
      | (with_reducible refine LeO.ite ?_ ?_)
      | (with_reducible refine LeO.bind ?_ (fun _ => ?_))
      | exact ih0 _ _ _ _ _
      | exact LeO.none _
      | refine LeO.ite ?_ ?_
      | refine LeO.bind ?_ (fun _ => ?_)
set_option maxHeartbeats 8000000 in
set_option maxRecDepth 100000 in
theorem laws_toMarks.calls (k : Nat) (a0_0 : Int) (a0_1 : Int) (r1 : Int) (r2 : Int) (w : World) (h : laws_toMarks.f k a0_0 a0_1 = some (r1, r2)) :
    Calls Tryd.prog 19 #[.agg #[.int .u64 a0_0, .int .u64 a0_1]] w fun e w' => e = .returned (.agg #[.int .u64 r1, .int .u64 r2]) ∧ Below w.heap.size w w' := by
  have hu24 := Tryd.underlying24
  have hu29 := Tryd.underlying29
  have HB := Aside0.mk (Below.refl w.heap.size w)
  have H : (laws_toMarks.l0 k 0 a0_0 a0_1 0 0) = some (r1, r2) := h
  clear h
  have H' := Aside0.mk H
  clear H
  go_enter Tryd.func19, Tryd.ntmps19
  go_wp2_with (first | ((with_reducible refine gate_dst (N := 1) rfl ?_); refine box_event ?hg (N := 1) ?hd (cs := #[.int .u64 a0_0, .int .u64 a0_1]) (t := 24) ?hr ?_; (case hd => rfl); (case hg => rfl); (case hr => first | (go_simp; done) | (go_simp; rfl)); intro gb148 hg w2 hbox hb; have n0_ := Aside0.mk (below_step (by repeat (first | (with_reducible first | exact HB.out | apply below_alloc | apply pw_below_drewN | apply below_drew1) | exact HB.out)) hb); have n1_ := Aside0.mk (hbox); have n2_ := Aside0.mk ((by rw [hg]; exact (below_size (by repeat (first | (with_reducible first | exact HB.out | apply below_alloc | apply pw_below_drewN | apply below_drew1) | exact HB.out))) : w.heap.size ≤ gb148)); have n3_ := Aside0.mk ((by rw [hg]; exact (below_size (by repeat (first | (with_reducible first | exact HB.out | apply below_alloc | apply pw_below_drewN | apply below_drew1) | exact HB.out))) : w.heap.size ≤ gb148)); clear HB; have HB := n0_; have BK148 := n1_; have GW148 := n2_; have GE148 := n3_; clear n0_ n1_ n2_ n3_; clear hb hbox hg) | ((with_reducible refine gate_dst (N := 2) rfl ?_); refine box_event ?hg (N := 2) ?hd (cs := #[.int .u64 0, .int .u64 0]) (t := 29) ?hr ?_; (case hd => rfl); (case hg => rfl); (case hr => first | (go_simp; done) | (go_simp; rfl)); intro gb149 hg w3 hbox hb; have n0_ := Aside0.mk (blk_below (g := gb148) (o := .cells #[.int .u64 a0_0, .int .u64 a0_1] 24 (0, 0)) (by (with_reducible repeat (first | refine blk_drewN ?_ _ | refine blk_drew ?_ | refine blk_alloc ?_ _)); exact BK148.out) hb); have n1_ := Aside0.mk (below_step (by repeat (first | (with_reducible first | exact HB.out | apply below_alloc | apply pw_below_drewN | apply below_drew1 | refine below_set ?_ GE148.out) | exact HB.out)) hb); have n2_ := Aside0.mk (hbox); have n3_ := Aside0.mk ((by rw [hg]; exact (below_size (by repeat (first | (with_reducible first | exact HB.out | apply below_alloc | apply pw_below_drewN | apply below_drew1 | refine below_set ?_ GE148.out) | exact HB.out))) : w.heap.size ≤ gb149)); have n4_ := Aside0.mk ((by rw [hg]; exact (below_size (by repeat (first | (with_reducible first | exact HB.out | apply below_alloc | apply pw_below_drewN | apply below_drew1 | refine below_set ?_ GE148.out) | exact HB.out))) : w.heap.size ≤ gb149)); have n5_ := Aside0.mk ((by rw [hg]; exact Nat.ne_of_lt (blk_lt (g := gb148) (o := .cells #[.int .u64 a0_0, .int .u64 a0_1] 24 (0, 0)) (by (with_reducible repeat (first | refine blk_drewN ?_ _ | refine blk_drew ?_ | refine blk_alloc ?_ _)); exact BK148.out)) : gb148 ≠ gb149)); have n6_ := Aside0.mk ((by rw [hg]; exact Nat.ne_of_gt (blk_lt (g := gb148) (o := .cells #[.int .u64 a0_0, .int .u64 a0_1] 24 (0, 0)) (by (with_reducible repeat (first | refine blk_drewN ?_ _ | refine blk_drew ?_ | refine blk_alloc ?_ _)); exact BK148.out)) : gb149 ≠ gb148)); clear BK148; clear HB; have BK148 := n0_; have HB := n1_; have BK149 := n2_; have GW149 := n3_; have GE149 := n4_; have NB148_149 := n5_; have NB149_148 := n6_; clear n0_ n1_ n2_ n3_ n4_ n5_ n6_; clear hb hbox hg) | ((with_reducible refine gate_dst (N := 3) rfl ?_); refine box_event ?hg (N := 3) ?hd (cs := #[.int .u64 0, .int .u64 0]) (t := 29) ?hr ?_; (case hd => rfl); (case hg => rfl); (case hr => first | (go_simp; done) | (go_simp; rfl)); intro gb150 hg w4 hbox hb; have n0_ := Aside0.mk (blk_below (g := gb148) (o := .cells #[.int .u64 a0_0, .int .u64 a0_1] 24 (0, 0)) (by (with_reducible repeat (first | refine blk_drewN ?_ _ | refine blk_drew ?_ | refine blk_alloc ?_ _)); exact BK148.out) hb); have n1_ := Aside0.mk (blk_below (g := gb149) (o := .cells #[.int .u64 0, .int .u64 0] 29 (0, 0)) (by (with_reducible repeat (first | refine blk_drewN ?_ _ | refine blk_drew ?_ | refine blk_alloc ?_ _)); exact BK149.out) hb); have n2_ := Aside0.mk (below_step (by repeat (first | (with_reducible first | exact HB.out | apply below_alloc | apply pw_below_drewN | apply below_drew1 | refine below_set ?_ GE148.out | refine below_set ?_ GE149.out) | exact HB.out)) hb); have n3_ := Aside0.mk (hbox); have n4_ := Aside0.mk ((by rw [hg]; exact (below_size (by repeat (first | (with_reducible first | exact HB.out | apply below_alloc | apply pw_below_drewN | apply below_drew1 | refine below_set ?_ GE148.out | refine below_set ?_ GE149.out) | exact HB.out))) : w.heap.size ≤ gb150)); have n5_ := Aside0.mk ((by rw [hg]; exact (below_size (by repeat (first | (with_reducible first | exact HB.out | apply below_alloc | apply pw_below_drewN | apply below_drew1 | refine below_set ?_ GE148.out | refine below_set ?_ GE149.out) | exact HB.out))) : w.heap.size ≤ gb150)); have n6_ := Aside0.mk ((by rw [hg]; exact Nat.ne_of_lt (blk_lt (g := gb148) (o := .cells #[.int .u64 a0_0, .int .u64 a0_1] 24 (0, 0)) (by (with_reducible repeat (first | refine blk_drewN ?_ _ | refine blk_drew ?_ | refine blk_alloc ?_ _)); exact BK148.out)) : gb148 ≠ gb150)); have n7_ := Aside0.mk ((by rw [hg]; exact Nat.ne_of_gt (blk_lt (g := gb148) (o := .cells #[.int .u64 a0_0, .int .u64 a0_1] 24 (0, 0)) (by (with_reducible repeat (first | refine blk_drewN ?_ _ | refine blk_drew ?_ | refine blk_alloc ?_ _)); exact BK148.out)) : gb150 ≠ gb148)); have n8_ := Aside0.mk ((by rw [hg]; exact Nat.ne_of_lt (blk_lt (g := gb149) (o := .cells #[.int .u64 0, .int .u64 0] 29 (0, 0)) (by (with_reducible repeat (first | refine blk_drewN ?_ _ | refine blk_drew ?_ | refine blk_alloc ?_ _)); exact BK149.out)) : gb149 ≠ gb150)); have n9_ := Aside0.mk ((by rw [hg]; exact Nat.ne_of_gt (blk_lt (g := gb149) (o := .cells #[.int .u64 0, .int .u64 0] 29 (0, 0)) (by (with_reducible repeat (first | refine blk_drewN ?_ _ | refine blk_drew ?_ | refine blk_alloc ?_ _)); exact BK149.out)) : gb150 ≠ gb149)); clear BK148; clear BK149; clear HB; have BK148 := n0_; have BK149 := n1_; have HB := n2_; have BK150 := n3_; have GW150 := n4_; have GE150 := n5_; have NB148_150 := n6_; have NB150_148 := n7_; have NB149_150 := n8_; have NB150_149 := n9_; clear n0_ n1_ n2_ n3_ n4_ n5_ n6_ n7_ n8_ n9_; clear hb hbox hg))
  go_loopg [4] k (fun kq v4 w' => ∃ (x4_1 : Int) (x151000_1 : Int) (x151001_1 : Int), v4 = .int .i64 x4_1 ∧ Aside0 (laws_toMarks.l0 kq x4_1 a0_0 a0_1 x151000_1 x151001_1 = some (r1, r2)) ∧ Aside0 (kq ≤ k) ∧ Aside0 (w'.heap[gb148]? = some (.cells #[.int .u64 a0_0, .int .u64 a0_1] 24 (0, 0))) ∧ Aside0 (w'.heap[gb149]? = some (.cells #[.int .u64 0, .int .u64 0] 29 (0, 0))) ∧ Aside0 (w'.heap[gb150]? = some (.cells #[.int .u64 x151000_1, .int .u64 x151001_1] 29 (0, 0))) ∧ Aside0 (Below w.heap.size w w'))
  case atStart => exact ⟨(0), (0), (0), (by first | rfl | (simp; done) | (simp [*]; done)), H', ⟨Nat.le_refl _⟩, ⟨by (with_reducible repeat (first | refine blk_drewN ?_ _ | refine blk_drew ?_ | refine blk_alloc ?_ _)); exact BK148.out⟩, ⟨by (with_reducible repeat (first | refine blk_drewN ?_ _ | refine blk_drew ?_ | refine blk_alloc ?_ _)); exact BK149.out⟩, ⟨by (with_reducible repeat (first | refine blk_drewN ?_ _ | refine blk_drew ?_ | refine blk_alloc ?_ _)); exact BK150.out⟩, ⟨by repeat (first | (with_reducible first | exact HB.out | apply below_alloc | apply pw_below_drewN | apply below_drew1 | refine below_set ?_ GE148.out | refine below_set ?_ GE149.out | refine below_set ?_ GE150.out) | exact HB.out)⟩⟩
  case round =>
    clear H'
    try clear c1
    try clear p2
    obtain ⟨x4_1, x151000_1, x151001_1, rfl, HA, HK1, BK148, BK149, BK150, HB⟩ := hrel
    cases gk with
    | zero => exact absurd HA.out (by simp [laws_toMarks.l0])
    | succ k1 =>
      have H := HA.out
      clear HA
      simp only [laws_toMarks.l0] at H
      by_cases c5 : x4_1 < 2
      · rw [if_pos c5] at H
        have c5b0 : decide (x4_1 < 2) = true := decide_eq_true c5
        clear c5
        by_cases c6 : 0 ≤ x4_1
        · rw [if_pos c6] at H
          have c6b0 : decide (0 ≤ x4_1) = true := decide_eq_true c6
          clear c6
          have H' := Aside0.mk H
          clear H
          have hnb7 := NB148_149.out
          have hnc7 := NB149_148.out
          have hnb8 := NB148_150.out
          have hnc8 := NB150_148.out
          have hcz9_0 : wr.cell? ⟨gb148, 0, none⟩ = some (.int .u64 a0_0) := (blk_cell BK148.out 0).trans rfl
          have hcz9_1 : wr.cell? ⟨gb148, 1, none⟩ = some (.int .u64 a0_1) := (blk_cell BK148.out 1).trans rfl
          have hfz9_0 := blk_frozen BK148.out 0
          have hfz9_1 := blk_frozen BK148.out 1
          have p10 : 0 ≤ (x4_1 : Int) := of_decide_eq_true (by first | (with_reducible assumption) | assumption)
          have q10 : (x4_1 : Int) < 2 := of_decide_eq_true (by first | (with_reducible assumption) | assumption)
          have hx10_0 : wr.cell? ⟨gb148, (x4_1 : Int).toNat, none⟩ = some (.int .u64 (nth [a0_0, a0_1] x4_1)) := (blk_cell BK148.out _).trans (arr_nth .u64 [a0_0, a0_1] x4_1 2 rfl p10 q10)
          replace p10 := eq_true p10
          replace q10 := eq_true q10
          have hnb11 := NB150_149.out
          have hnc11 := NB149_150.out
          have hcz12_0 : wr.cell? ⟨gb150, 0, none⟩ = some (.int .u64 x151000_1) := (blk_cell BK150.out 0).trans rfl
          have hcz12_1 : wr.cell? ⟨gb150, 1, none⟩ = some (.int .u64 x151001_1) := (blk_cell BK150.out 1).trans rfl
          have hfz12_0 := blk_frozen BK150.out 0
          have hfz12_1 := blk_frozen BK150.out 1
          have p13 : 0 ≤ (x4_1 : Int) := of_decide_eq_true (by first | (with_reducible assumption) | assumption)
          have q13 : (x4_1 : Int) < 2 := of_decide_eq_true (by first | (with_reducible assumption) | assumption)
          have hx13_0 : wr.cell? ⟨gb150, (x4_1 : Int).toNat, none⟩ = some (.int .u64 (nth [x151000_1, x151001_1] x4_1)) := (blk_cell BK150.out _).trans (arr_nth .u64 [x151000_1, x151001_1] x4_1 2 rfl p13 q13)
          have hf13_0 : wr.frozen? ⟨gb150, (x4_1 : Int).toNat, none⟩ = false := blk_frozen BK150.out _
          have HP13 := Aside0.mk p13
          have HQ13 := Aside0.mk q13
          replace p13 := eq_true p13
          replace q13 := eq_true q13
          go_wp2_with (first | ((with_reducible refine gate_store (t := 23) (p := 13) rfl ?_); refine store_event (t := 23) (p := 13) (v := ?vo_w14) (w1 := (wr.setCell ⟨gb150, (x4_1 : Int).toNat, none⟩ (.int .u64 (nth [a0_0, a0_1] x4_1)))) ?hg ?ho ?hn ?hr ?_; (case ho => rfl); (case hg => rfl); (case hn => rfl); (case hr => first | (go_simp; done) | (go_simp; rfl)); intro w14 hw; have n0_ : Aside0 (w14.heap[gb148]? = some (.cells #[.int .u64 a0_0, .int .u64 a0_1] 24 (0, 0))) := ⟨(by rw [hw]; exact (blk_far (BK148.out) NB148_150.out _))⟩; have n1_ : Aside0 (w14.heap[gb149]? = some (.cells #[.int .u64 0, .int .u64 0] 29 (0, 0))) := ⟨(by rw [hw]; exact (blk_far (BK149.out) NB149_150.out _))⟩; have n2_ : Aside0 (w14.heap[gb150]? = some (.cells #[.int .u64 (sel 0 x4_1 (nth [a0_0, a0_1] x4_1) x151000_1), .int .u64 (sel 1 x4_1 (nth [a0_0, a0_1] x4_1) x151001_1)] 29 (0, 0))) := ⟨(by rw [hw]; exact (blk_putv .u64 [x151000_1, x151001_1] x4_1 (nth [a0_0, a0_1] x4_1) BK150.out HP13.out))⟩; have n3_ : Aside0 (Below w.heap.size w w14) := ⟨(by rw [hw]; exact (below_set (HB.out) GE150.out))⟩; clear hw; clear BK148; clear BK149; clear BK150; clear HB; have BK148 := n0_; have BK149 := n1_; have BK150 := n2_; have HB := n3_; clear n0_ n1_ n2_ n3_))
          go_roundg k1
          case measure => have := HK1.out; omega
          case rel => exact ⟨(wrap64 (x4_1 + 1)), (sel 0 x4_1 (nth [a0_0, a0_1] x4_1) x151000_1), (sel 1 x4_1 (nth [a0_0, a0_1] x4_1) x151001_1), (by first | rfl | (simp; done) | (simp [*]; done)), H', ⟨by have := HK1.out; omega⟩, ⟨by (with_reducible repeat (first | refine blk_drewN ?_ _ | refine blk_drew ?_ | refine blk_alloc ?_ _)); exact BK148.out⟩, ⟨by (with_reducible repeat (first | refine blk_drewN ?_ _ | refine blk_drew ?_ | refine blk_alloc ?_ _)); exact BK149.out⟩, ⟨by (with_reducible repeat (first | refine blk_drewN ?_ _ | refine blk_drew ?_ | refine blk_alloc ?_ _)); exact BK150.out⟩, ⟨by repeat (first | (with_reducible first | exact HB.out | apply below_alloc | apply pw_below_drewN | apply below_drew1 | refine below_set ?_ GE148.out | refine below_set ?_ GE149.out | refine below_set ?_ GE150.out) | exact HB.out)⟩⟩
        · rw [if_neg c6] at H
          exact absurd H (by simp)
      · rw [if_neg c5] at H
        have c5b0 : decide (x4_1 < 2) = false := decide_eq_false c5
        clear c5
        simp only [Option.some.injEq, Prod.mk.injEq] at H
        obtain ⟨rfl, rfl⟩ := H
        have hnb15 := NB150_148.out
        have hnc15 := NB148_150.out
        have hnb16 := NB150_149.out
        have hnc16 := NB149_150.out
        have hcz17_0 : wr.cell? ⟨gb150, 0, none⟩ = some (.int .u64 x151000_1) := (blk_cell BK150.out 0).trans rfl
        have hcz17_1 : wr.cell? ⟨gb150, 1, none⟩ = some (.int .u64 x151001_1) := (blk_cell BK150.out 1).trans rfl
        have hfz17_0 := blk_frozen BK150.out 0
        have hfz17_1 := blk_frozen BK150.out 1
        have hnb18 := NB149_148.out
        have hnc18 := NB148_149.out
        have hcz19_0 : wr.cell? ⟨gb149, 0, none⟩ = some (.int .u64 0) := (blk_cell BK149.out 0).trans rfl
        have hcz19_1 : wr.cell? ⟨gb149, 1, none⟩ = some (.int .u64 0) := (blk_cell BK149.out 1).trans rfl
        have hfz19_0 := blk_frozen BK149.out 0
        have hfz19_1 := blk_frozen BK149.out 1
        go_wp2
        refine bodyPost_ret (results_cell_row rfl _ _ gb149 29 #[.int .u64 x151000_1, .int .u64 x151001_1] (0, 0) _ rfl (by (with_reducible repeat (first | refine blk_drewN ?_ _ | refine blk_drew ?_ | refine blk_alloc ?_ _)); refine blk_put (cs := #[.int .u64 x151000_1, .int .u64 0]) ?_ 1 _ rfl; (with_reducible repeat (first | refine blk_drewN ?_ _ | refine blk_drew ?_ | refine blk_alloc ?_ _)); refine blk_put (cs := #[.int .u64 0, .int .u64 0]) ?_ 0 _ rfl; (with_reducible repeat (first | refine blk_drewN ?_ _ | refine blk_drew ?_ | refine blk_alloc ?_ _)); exact BK149.out) Tryd.underlying29 rfl (by kernel_rfl)) rfl ?_
        exact ⟨by first | rfl | (simp [errW_none, errW_some] <;> rfl) | (simp [*, errW_none, errW_some] <;> rfl), by repeat (first | (with_reducible first | exact HB.out | apply below_alloc | apply pw_below_drewN | apply below_drew1 | refine below_set ?_ GE148.out | refine below_set ?_ GE149.out | refine below_set ?_ GE150.out) | exact HB.out)⟩

end Go.Proofs.YtgfimdoildaonaaDoor.P

-- Written by a program of this session (a turned form of the kit's print) out of the translation.
namespace Go.Proofs.YtgfimdoildaonaaDoor.P
open Go.RowKit Go.Proofs.YtgfimdoildaonaaDoorW.PrintWords Go.Proofs.YtgfimdoildaonaaDoorW.PrintLast Go.Proofs.YtgfimdoildaonaaDoorW.PrintMore
attribute [local go_sem] max2_int min2_int max_two min_two max_three min_three max_four min_four   -- for this text's walks alone
set_option linter.unusedVariables false
set_option linter.unusedSimpArgs false

/-! ### laws_toPhoto: function 8 -/
def laws_toPhoto.l0 : Nat → Int → Int → Int → Int → Int → Int → Int → Int → Int → Int → Int → Int → Int → Int → Int → Int → Int → Int → Int → Int → Int → Int → Int → Int → Int → Int → Int → Int → Int → Int → Int → Int → Int → Option (Int × Int × Int × Int × Int × Int × Int × Int × Int × Int × Int × Int × Int × Int × Int × Int)
  | 0, _, _, _, _, _, _, _, _, _, _, _, _, _, _, _, _, _, _, _, _, _, _, _, _, _, _, _, _, _, _, _, _, _ => none
  | k + 1, x4, x152000, x152001, x152002, x152003, x152004, x152005, x152006, x152007, x152008, x152009, x152010, x152011, x152012, x152013, x152014, x152015, x154000, x154001, x154002, x154003, x154004, x154005, x154006, x154007, x154008, x154009, x154010, x154011, x154012, x154013, x154014, x154015 => if x4 < 8 then (if 0 ≤ x4 then ((laws_toMarks.f k (nth [x152000, x152002, x152004, x152006, x152008, x152010, x152012, x152014] x4) (nth [x152001, x152003, x152005, x152007, x152009, x152011, x152013, x152015] x4)).bind fun bt154 => (laws_toPhoto.l0 k (wrap64 (x4 + 1)) x152000 x152001 x152002 x152003 x152004 x152005 x152006 x152007 x152008 x152009 x152010 x152011 x152012 x152013 x152014 x152015 (sel 0 x4 bt154.1 x154000) (sel 0 x4 bt154.2 x154001) (sel 1 x4 bt154.1 x154002) (sel 1 x4 bt154.2 x154003) (sel 2 x4 bt154.1 x154004) (sel 2 x4 bt154.2 x154005) (sel 3 x4 bt154.1 x154006) (sel 3 x4 bt154.2 x154007) (sel 4 x4 bt154.1 x154008) (sel 4 x4 bt154.2 x154009) (sel 5 x4 bt154.1 x154010) (sel 5 x4 bt154.2 x154011) (sel 6 x4 bt154.1 x154012) (sel 6 x4 bt154.2 x154013) (sel 7 x4 bt154.1 x154014) (sel 7 x4 bt154.2 x154015))) else (none)) else (some (x154000, x154001, x154002, x154003, x154004, x154005, x154006, x154007, x154008, x154009, x154010, x154011, x154012, x154013, x154014, x154015))
def laws_toPhoto.f (k : Nat) (a0_0 : Int) (a0_1 : Int) (a0_2 : Int) (a0_3 : Int) (a0_4 : Int) (a0_5 : Int) (a0_6 : Int) (a0_7 : Int) (a0_8 : Int) (a0_9 : Int) (a0_10 : Int) (a0_11 : Int) (a0_12 : Int) (a0_13 : Int) (a0_14 : Int) (a0_15 : Int) : Option (Int × Int × Int × Int × Int × Int × Int × Int × Int × Int × Int × Int × Int × Int × Int × Int) := laws_toPhoto.l0 k 0 a0_0 a0_1 a0_2 a0_3 a0_4 a0_5 a0_6 a0_7 a0_8 a0_9 a0_10 a0_11 a0_12 a0_13 a0_14 a0_15 0 0 0 0 0 0 0 0 0 0 0 0 0 0 0 0
theorem laws_toPhoto.mono_l : ∀ k, (∀ y0 y1 y2 y3 y4 y5 y6 y7 y8 y9 y10 y11 y12 y13 y14 y15 y16 y17 y18 y19 y20 y21 y22 y23 y24 y25 y26 y27 y28 y29 y30 y31 y32, LeO (laws_toPhoto.l0 k y0 y1 y2 y3 y4 y5 y6 y7 y8 y9 y10 y11 y12 y13 y14 y15 y16 y17 y18 y19 y20 y21 y22 y23 y24 y25 y26 y27 y28 y29 y30 y31 y32) (laws_toPhoto.l0 (k + 1) y0 y1 y2 y3 y4 y5 y6 y7 y8 y9 y10 y11 y12 y13 y14 y15 y16 y17 y18 y19 y20 y21 y22 y23 y24 y25 y26 y27 y28 y29 y30 y31 y32))
  | 0 => fun _ _ _ _ _ _ _ _ _ _ _ _ _ _ _ _ _ _ _ _ _ _ _ _ _ _ _ _ _ _ _ _ _ r h => by simp [laws_toPhoto.l0] at h
  | k + 1 => by
    have ih0 := laws_toPhoto.mono_l k
    · intro y0 y1 y2 y3 y4 y5 y6 y7 y8 y9 y10 y11 y12 y13 y14 y15 y16 y17 y18 y19 y20 y21 y22 y23 y24 y25 y26 y27 y28 y29 y30 y31 y32
      unfold laws_toPhoto.l0
      repeat' first
      | (with_reducible exact ih0 _ _ _ _ _ _ _ _ _ _ _ _ _ _ _ _ _ _ _ _ _ _ _ _ _ _ _ _ _ _ _ _ _)
      | (with_reducible exact laws_toMarks.mono _ _ _)
      | (with_reducible exact LeO.refl _)
      | (with_reducible exact LeO.none _)
      | (with_reducible refine LeO.ite ?_ ?_)
      | (with_reducible refine LeO.bind ?_ (fun _ => ?_))
      | exact ih0 _ _ _ _ _ _ _ _ _ _ _ _ _ _ _ _ _ _ _ _ _ _ _ _ _ _ _ _ _ _ _ _ _
      | exact laws_toMarks.mono _ _ _
      | exact LeO.none _
      | refine LeO.ite ?_ ?_
      | refine LeO.bind ?_ (fun _ => ?_)
theorem laws_toPhoto.mono : ∀ a0 a1 a2 a3 a4 a5 a6 a7 a8 a9 a10 a11 a12 a13 a14 a15 k, LeO (laws_toPhoto.f k a0 a1 a2 a3 a4 a5 a6 a7 a8 a9 a10 a11 a12 a13 a14 a15) (laws_toPhoto.f (k + 1) a0 a1 a2 a3 a4 a5 a6 a7 a8 a9 a10 a11 a12 a13 a14 a15) := by
  intro a0 a1 a2 a3 a4 a5 a6 a7 a8 a9 a10 a11 a12 a13 a14 a15 k
  have ih0 := laws_toPhoto.mono_l k
  unfold laws_toPhoto.f
  repeat' first
      | (with_reducible exact ih0 _ _ _ _ _ _ _ _ _ _ _ _ _ _ _ _ _ _ _ _ _ _ _ _ _ _ _ _ _ _ _ _ _)
      | (with_reducible exact laws_toMarks.mono _ _ _)
      | (with_reducible exact LeO.refl _)
      | (with_reducible exact LeO.none _)
      | (with_reducible refine LeO.ite ?_ ?_)
      | (with_reducible refine LeO.bind ?_ (fun _ => ?_))
      | exact ih0 _ _ _ _ _ _ _ _ _ _ _ _ _ _ _ _ _ _ _ _ _ _ _ _ _ _ _ _ _ _ _ _ _
      | exact laws_toMarks.mono _ _ _
      | exact LeO.none _
      | refine LeO.ite ?_ ?_
      | refine LeO.bind ?_ (fun _ => ?_)
set_option maxHeartbeats 8000000 in
set_option maxRecDepth 100000 in
theorem laws_toPhoto.calls (k : Nat) (a0_0 : Int) (a0_1 : Int) (a0_2 : Int) (a0_3 : Int) (a0_4 : Int) (a0_5 : Int) (a0_6 : Int) (a0_7 : Int) (a0_8 : Int) (a0_9 : Int) (a0_10 : Int) (a0_11 : Int) (a0_12 : Int) (a0_13 : Int) (a0_14 : Int) (a0_15 : Int) (r1 : Int) (r2 : Int) (r3 : Int) (r4 : Int) (r5 : Int) (r6 : Int) (r7 : Int) (r8 : Int) (r9 : Int) (r10 : Int) (r11 : Int) (r12 : Int) (r13 : Int) (r14 : Int) (r15 : Int) (r16 : Int) (w : World) (h : laws_toPhoto.f k a0_0 a0_1 a0_2 a0_3 a0_4 a0_5 a0_6 a0_7 a0_8 a0_9 a0_10 a0_11 a0_12 a0_13 a0_14 a0_15 = some (r1, r2, r3, r4, r5, r6, r7, r8, r9, r10, r11, r12, r13, r14, r15, r16)) :
    Calls Tryd.prog 8 #[.agg #[.int .u64 a0_0, .int .u64 a0_1, .int .u64 a0_2, .int .u64 a0_3, .int .u64 a0_4, .int .u64 a0_5, .int .u64 a0_6, .int .u64 a0_7, .int .u64 a0_8, .int .u64 a0_9, .int .u64 a0_10, .int .u64 a0_11, .int .u64 a0_12, .int .u64 a0_13, .int .u64 a0_14, .int .u64 a0_15]] w fun e w' => e = .returned (.agg #[.int .u64 r1, .int .u64 r2, .int .u64 r3, .int .u64 r4, .int .u64 r5, .int .u64 r6, .int .u64 r7, .int .u64 r8, .int .u64 r9, .int .u64 r10, .int .u64 r11, .int .u64 r12, .int .u64 r13, .int .u64 r14, .int .u64 r15, .int .u64 r16]) ∧ Below w.heap.size w w' := by
  have hu25 := Tryd.underlying25
  have hu31 := Tryd.underlying31
  have hu24 := Tryd.underlying24
  have hu29 := Tryd.underlying29
  have HB := Aside0.mk (Below.refl w.heap.size w)
  have H : (laws_toPhoto.l0 k 0 a0_0 a0_1 a0_2 a0_3 a0_4 a0_5 a0_6 a0_7 a0_8 a0_9 a0_10 a0_11 a0_12 a0_13 a0_14 a0_15 0 0 0 0 0 0 0 0 0 0 0 0 0 0 0 0) = some (r1, r2, r3, r4, r5, r6, r7, r8, r9, r10, r11, r12, r13, r14, r15, r16) := h
  clear h
  have H' := Aside0.mk H
  clear H
  go_enter Tryd.func8, Tryd.ntmps8
  go_wp2_with (first | ((with_reducible refine gate_dst (N := 1) rfl ?_); refine box_event ?hg (N := 1) ?hd (cs := #[.int .u64 a0_0, .int .u64 a0_1, .int .u64 a0_2, .int .u64 a0_3, .int .u64 a0_4, .int .u64 a0_5, .int .u64 a0_6, .int .u64 a0_7, .int .u64 a0_8, .int .u64 a0_9, .int .u64 a0_10, .int .u64 a0_11, .int .u64 a0_12, .int .u64 a0_13, .int .u64 a0_14, .int .u64 a0_15]) (t := 25) ?hr ?_; (case hd => rfl); (case hg => rfl); (case hr => first | (go_simp; done) | (go_simp; rfl)); intro gb151 hg w2 hbox hb; have n0_ := Aside0.mk (below_step (by repeat (first | (with_reducible first | exact HB.out | apply below_alloc | apply pw_below_drewN | apply below_drew1) | exact HB.out)) hb); have n1_ := Aside0.mk (hbox); have n2_ := Aside0.mk ((by rw [hg]; exact (below_size (by repeat (first | (with_reducible first | exact HB.out | apply below_alloc | apply pw_below_drewN | apply below_drew1) | exact HB.out))) : w.heap.size ≤ gb151)); have n3_ := Aside0.mk ((by rw [hg]; exact (below_size (by repeat (first | (with_reducible first | exact HB.out | apply below_alloc | apply pw_below_drewN | apply below_drew1) | exact HB.out))) : w.heap.size ≤ gb151)); clear HB; have HB := n0_; have BK151 := n1_; have GW151 := n2_; have GE151 := n3_; clear n0_ n1_ n2_ n3_; clear hb hbox hg) | ((with_reducible refine gate_dst (N := 2) rfl ?_); refine box_event ?hg (N := 2) ?hd (cs := #[.int .u64 0, .int .u64 0, .int .u64 0, .int .u64 0, .int .u64 0, .int .u64 0, .int .u64 0, .int .u64 0, .int .u64 0, .int .u64 0, .int .u64 0, .int .u64 0, .int .u64 0, .int .u64 0, .int .u64 0, .int .u64 0]) (t := 31) ?hr ?_; (case hd => rfl); (case hg => rfl); (case hr => first | (go_simp; done) | (go_simp; rfl)); intro gb152 hg w3 hbox hb; have n0_ := Aside0.mk (blk_below (g := gb151) (o := .cells #[.int .u64 a0_0, .int .u64 a0_1, .int .u64 a0_2, .int .u64 a0_3, .int .u64 a0_4, .int .u64 a0_5, .int .u64 a0_6, .int .u64 a0_7, .int .u64 a0_8, .int .u64 a0_9, .int .u64 a0_10, .int .u64 a0_11, .int .u64 a0_12, .int .u64 a0_13, .int .u64 a0_14, .int .u64 a0_15] 25 (0, 0)) (by (with_reducible repeat (first | refine blk_drewN ?_ _ | refine blk_drew ?_ | refine blk_alloc ?_ _)); exact BK151.out) hb); have n1_ := Aside0.mk (below_step (by repeat (first | (with_reducible first | exact HB.out | apply below_alloc | apply pw_below_drewN | apply below_drew1 | refine below_set ?_ GE151.out) | exact HB.out)) hb); have n2_ := Aside0.mk (hbox); have n3_ := Aside0.mk ((by rw [hg]; exact (below_size (by repeat (first | (with_reducible first | exact HB.out | apply below_alloc | apply pw_below_drewN | apply below_drew1 | refine below_set ?_ GE151.out) | exact HB.out))) : w.heap.size ≤ gb152)); have n4_ := Aside0.mk ((by rw [hg]; exact (below_size (by repeat (first | (with_reducible first | exact HB.out | apply below_alloc | apply pw_below_drewN | apply below_drew1 | refine below_set ?_ GE151.out) | exact HB.out))) : w.heap.size ≤ gb152)); have n5_ := Aside0.mk ((by rw [hg]; exact Nat.ne_of_lt (blk_lt (g := gb151) (o := .cells #[.int .u64 a0_0, .int .u64 a0_1, .int .u64 a0_2, .int .u64 a0_3, .int .u64 a0_4, .int .u64 a0_5, .int .u64 a0_6, .int .u64 a0_7, .int .u64 a0_8, .int .u64 a0_9, .int .u64 a0_10, .int .u64 a0_11, .int .u64 a0_12, .int .u64 a0_13, .int .u64 a0_14, .int .u64 a0_15] 25 (0, 0)) (by (with_reducible repeat (first | refine blk_drewN ?_ _ | refine blk_drew ?_ | refine blk_alloc ?_ _)); exact BK151.out)) : gb151 ≠ gb152)); have n6_ := Aside0.mk ((by rw [hg]; exact Nat.ne_of_gt (blk_lt (g := gb151) (o := .cells #[.int .u64 a0_0, .int .u64 a0_1, .int .u64 a0_2, .int .u64 a0_3, .int .u64 a0_4, .int .u64 a0_5, .int .u64 a0_6, .int .u64 a0_7, .int .u64 a0_8, .int .u64 a0_9, .int .u64 a0_10, .int .u64 a0_11, .int .u64 a0_12, .int .u64 a0_13, .int .u64 a0_14, .int .u64 a0_15] 25 (0, 0)) (by (with_reducible repeat (first | refine blk_drewN ?_ _ | refine blk_drew ?_ | refine blk_alloc ?_ _)); exact BK151.out)) : gb152 ≠ gb151)); clear BK151; clear HB; have BK151 := n0_; have HB := n1_; have BK152 := n2_; have GW152 := n3_; have GE152 := n4_; have NB151_152 := n5_; have NB152_151 := n6_; clear n0_ n1_ n2_ n3_ n4_ n5_ n6_; clear hb hbox hg) | ((with_reducible refine gate_dst (N := 3) rfl ?_); refine box_event ?hg (N := 3) ?hd (cs := #[.int .u64 0, .int .u64 0, .int .u64 0, .int .u64 0, .int .u64 0, .int .u64 0, .int .u64 0, .int .u64 0, .int .u64 0, .int .u64 0, .int .u64 0, .int .u64 0, .int .u64 0, .int .u64 0, .int .u64 0, .int .u64 0]) (t := 31) ?hr ?_; (case hd => rfl); (case hg => rfl); (case hr => first | (go_simp; done) | (go_simp; rfl)); intro gb153 hg w4 hbox hb; have n0_ := Aside0.mk (blk_below (g := gb151) (o := .cells #[.int .u64 a0_0, .int .u64 a0_1, .int .u64 a0_2, .int .u64 a0_3, .int .u64 a0_4, .int .u64 a0_5, .int .u64 a0_6, .int .u64 a0_7, .int .u64 a0_8, .int .u64 a0_9, .int .u64 a0_10, .int .u64 a0_11, .int .u64 a0_12, .int .u64 a0_13, .int .u64 a0_14, .int .u64 a0_15] 25 (0, 0)) (by (with_reducible repeat (first | refine blk_drewN ?_ _ | refine blk_drew ?_ | refine blk_alloc ?_ _)); exact BK151.out) hb); have n1_ := Aside0.mk (blk_below (g := gb152) (o := .cells #[.int .u64 0, .int .u64 0, .int .u64 0, .int .u64 0, .int .u64 0, .int .u64 0, .int .u64 0, .int .u64 0, .int .u64 0, .int .u64 0, .int .u64 0, .int .u64 0, .int .u64 0, .int .u64 0, .int .u64 0, .int .u64 0] 31 (0, 0)) (by (with_reducible repeat (first | refine blk_drewN ?_ _ | refine blk_drew ?_ | refine blk_alloc ?_ _)); exact BK152.out) hb); have n2_ := Aside0.mk (below_step (by repeat (first | (with_reducible first | exact HB.out | apply below_alloc | apply pw_below_drewN | apply below_drew1 | refine below_set ?_ GE151.out | refine below_set ?_ GE152.out) | exact HB.out)) hb); have n3_ := Aside0.mk (hbox); have n4_ := Aside0.mk ((by rw [hg]; exact (below_size (by repeat (first | (with_reducible first | exact HB.out | apply below_alloc | apply pw_below_drewN | apply below_drew1 | refine below_set ?_ GE151.out | refine below_set ?_ GE152.out) | exact HB.out))) : w.heap.size ≤ gb153)); have n5_ := Aside0.mk ((by rw [hg]; exact (below_size (by repeat (first | (with_reducible first | exact HB.out | apply below_alloc | apply pw_below_drewN | apply below_drew1 | refine below_set ?_ GE151.out | refine below_set ?_ GE152.out) | exact HB.out))) : w.heap.size ≤ gb153)); have n6_ := Aside0.mk ((by rw [hg]; exact Nat.ne_of_lt (blk_lt (g := gb151) (o := .cells #[.int .u64 a0_0, .int .u64 a0_1, .int .u64 a0_2, .int .u64 a0_3, .int .u64 a0_4, .int .u64 a0_5, .int .u64 a0_6, .int .u64 a0_7, .int .u64 a0_8, .int .u64 a0_9, .int .u64 a0_10, .int .u64 a0_11, .int .u64 a0_12, .int .u64 a0_13, .int .u64 a0_14, .int .u64 a0_15] 25 (0, 0)) (by (with_reducible repeat (first | refine blk_drewN ?_ _ | refine blk_drew ?_ | refine blk_alloc ?_ _)); exact BK151.out)) : gb151 ≠ gb153)); have n7_ := Aside0.mk ((by rw [hg]; exact Nat.ne_of_gt (blk_lt (g := gb151) (o := .cells #[.int .u64 a0_0, .int .u64 a0_1, .int .u64 a0_2, .int .u64 a0_3, .int .u64 a0_4, .int .u64 a0_5, .int .u64 a0_6, .int .u64 a0_7, .int .u64 a0_8, .int .u64 a0_9, .int .u64 a0_10, .int .u64 a0_11, .int .u64 a0_12, .int .u64 a0_13, .int .u64 a0_14, .int .u64 a0_15] 25 (0, 0)) (by (with_reducible repeat (first | refine blk_drewN ?_ _ | refine blk_drew ?_ | refine blk_alloc ?_ _)); exact BK151.out)) : gb153 ≠ gb151)); have n8_ := Aside0.mk ((by rw [hg]; exact Nat.ne_of_lt (blk_lt (g := gb152) (o := .cells #[.int .u64 0, .int .u64 0, .int .u64 0, .int .u64 0, .int .u64 0, .int .u64 0, .int .u64 0, .int .u64 0, .int .u64 0, .int .u64 0, .int .u64 0, .int .u64 0, .int .u64 0, .int .u64 0, .int .u64 0, .int .u64 0] 31 (0, 0)) (by (with_reducible repeat (first | refine blk_drewN ?_ _ | refine blk_drew ?_ | refine blk_alloc ?_ _)); exact BK152.out)) : gb152 ≠ gb153)); have n9_ := Aside0.mk ((by rw [hg]; exact Nat.ne_of_gt (blk_lt (g := gb152) (o := .cells #[.int .u64 0, .int .u64 0, .int .u64 0, .int .u64 0, .int .u64 0, .int .u64 0, .int .u64 0, .int .u64 0, .int .u64 0, .int .u64 0, .int .u64 0, .int .u64 0, .int .u64 0, .int .u64 0, .int .u64 0, .int .u64 0] 31 (0, 0)) (by (with_reducible repeat (first | refine blk_drewN ?_ _ | refine blk_drew ?_ | refine blk_alloc ?_ _)); exact BK152.out)) : gb153 ≠ gb152)); clear BK151; clear BK152; clear HB; have BK151 := n0_; have BK152 := n1_; have HB := n2_; have BK153 := n3_; have GW153 := n4_; have GE153 := n5_; have NB151_153 := n6_; have NB153_151 := n7_; have NB152_153 := n8_; have NB153_152 := n9_; clear n0_ n1_ n2_ n3_ n4_ n5_ n6_ n7_ n8_ n9_; clear hb hbox hg))
  go_loopg [4] k (fun kq v4 w' => ∃ (x4_1 : Int) (x154000_1 : Int) (x154001_1 : Int) (x154002_1 : Int) (x154003_1 : Int) (x154004_1 : Int) (x154005_1 : Int) (x154006_1 : Int) (x154007_1 : Int) (x154008_1 : Int) (x154009_1 : Int) (x154010_1 : Int) (x154011_1 : Int) (x154012_1 : Int) (x154013_1 : Int) (x154014_1 : Int) (x154015_1 : Int), v4 = .int .i64 x4_1 ∧ Aside0 (laws_toPhoto.l0 kq x4_1 a0_0 a0_1 a0_2 a0_3 a0_4 a0_5 a0_6 a0_7 a0_8 a0_9 a0_10 a0_11 a0_12 a0_13 a0_14 a0_15 x154000_1 x154001_1 x154002_1 x154003_1 x154004_1 x154005_1 x154006_1 x154007_1 x154008_1 x154009_1 x154010_1 x154011_1 x154012_1 x154013_1 x154014_1 x154015_1 = some (r1, r2, r3, r4, r5, r6, r7, r8, r9, r10, r11, r12, r13, r14, r15, r16)) ∧ Aside0 (kq ≤ k) ∧ Aside0 (w'.heap[gb151]? = some (.cells #[.int .u64 a0_0, .int .u64 a0_1, .int .u64 a0_2, .int .u64 a0_3, .int .u64 a0_4, .int .u64 a0_5, .int .u64 a0_6, .int .u64 a0_7, .int .u64 a0_8, .int .u64 a0_9, .int .u64 a0_10, .int .u64 a0_11, .int .u64 a0_12, .int .u64 a0_13, .int .u64 a0_14, .int .u64 a0_15] 25 (0, 0))) ∧ Aside0 (w'.heap[gb152]? = some (.cells #[.int .u64 0, .int .u64 0, .int .u64 0, .int .u64 0, .int .u64 0, .int .u64 0, .int .u64 0, .int .u64 0, .int .u64 0, .int .u64 0, .int .u64 0, .int .u64 0, .int .u64 0, .int .u64 0, .int .u64 0, .int .u64 0] 31 (0, 0))) ∧ Aside0 (w'.heap[gb153]? = some (.cells #[.int .u64 x154000_1, .int .u64 x154001_1, .int .u64 x154002_1, .int .u64 x154003_1, .int .u64 x154004_1, .int .u64 x154005_1, .int .u64 x154006_1, .int .u64 x154007_1, .int .u64 x154008_1, .int .u64 x154009_1, .int .u64 x154010_1, .int .u64 x154011_1, .int .u64 x154012_1, .int .u64 x154013_1, .int .u64 x154014_1, .int .u64 x154015_1] 31 (0, 0))) ∧ Aside0 (Below w.heap.size w w'))
  case atStart => exact ⟨(0), (0), (0), (0), (0), (0), (0), (0), (0), (0), (0), (0), (0), (0), (0), (0), (0), (by first | rfl | (simp; done) | (simp [*]; done)), H', ⟨Nat.le_refl _⟩, ⟨by (with_reducible repeat (first | refine blk_drewN ?_ _ | refine blk_drew ?_ | refine blk_alloc ?_ _)); exact BK151.out⟩, ⟨by (with_reducible repeat (first | refine blk_drewN ?_ _ | refine blk_drew ?_ | refine blk_alloc ?_ _)); exact BK152.out⟩, ⟨by (with_reducible repeat (first | refine blk_drewN ?_ _ | refine blk_drew ?_ | refine blk_alloc ?_ _)); exact BK153.out⟩, ⟨by repeat (first | (with_reducible first | exact HB.out | apply below_alloc | apply pw_below_drewN | apply below_drew1 | refine below_set ?_ GE151.out | refine below_set ?_ GE152.out | refine below_set ?_ GE153.out) | exact HB.out)⟩⟩
  case round =>
    clear H'
    try clear p2
    obtain ⟨x4_1, x154000_1, x154001_1, x154002_1, x154003_1, x154004_1, x154005_1, x154006_1, x154007_1, x154008_1, x154009_1, x154010_1, x154011_1, x154012_1, x154013_1, x154014_1, x154015_1, rfl, HA, HK1, BK151, BK152, BK153, HB⟩ := hrel
    cases gk with
    | zero => exact absurd HA.out (by simp [laws_toPhoto.l0])
    | succ k1 =>
      have H := HA.out
      clear HA
      simp only [laws_toPhoto.l0] at H
      by_cases c5 : x4_1 < 8
      · rw [if_pos c5] at H
        have c5b0 : decide (x4_1 < 8) = true := decide_eq_true c5
        clear c5
        by_cases c6 : 0 ≤ x4_1
        · rw [if_pos c6] at H
          have c6b0 : decide (0 ≤ x4_1) = true := decide_eq_true c6
          clear c6
          replace H := Option.bind_eq_some_iff.mp H
          obtain ⟨⟨t154, t155⟩, A70, H⟩ := H
          replace H : (laws_toPhoto.l0 k1 (wrap64 (x4_1 + 1)) a0_0 a0_1 a0_2 a0_3 a0_4 a0_5 a0_6 a0_7 a0_8 a0_9 a0_10 a0_11 a0_12 a0_13 a0_14 a0_15 (sel 0 x4_1 t154 x154000_1) (sel 0 x4_1 t155 x154001_1) (sel 1 x4_1 t154 x154002_1) (sel 1 x4_1 t155 x154003_1) (sel 2 x4_1 t154 x154004_1) (sel 2 x4_1 t155 x154005_1) (sel 3 x4_1 t154 x154006_1) (sel 3 x4_1 t155 x154007_1) (sel 4 x4_1 t154 x154008_1) (sel 4 x4_1 t155 x154009_1) (sel 5 x4_1 t154 x154010_1) (sel 5 x4_1 t155 x154011_1) (sel 6 x4_1 t154 x154012_1) (sel 6 x4_1 t155 x154013_1) (sel 7 x4_1 t154 x154014_1) (sel 7 x4_1 t155 x154015_1)) = some (r1, r2, r3, r4, r5, r6, r7, r8, r9, r10, r11, r12, r13, r14, r15, r16) := H
          have A7 := Aside0.mk A70
          clear A70
          have H' := Aside0.mk H
          clear H
          have hnb8 := NB151_152.out
          have hnc8 := NB152_151.out
          have hnb9 := NB151_153.out
          have hnc9 := NB153_151.out
          have hcz10_0 : wr.cell? ⟨gb151, 0, none⟩ = some (.int .u64 a0_0) := (blk_cell BK151.out 0).trans rfl
          have hcz10_1 : wr.cell? ⟨gb151, 1, none⟩ = some (.int .u64 a0_1) := (blk_cell BK151.out 1).trans rfl
          have hcz10_2 : wr.cell? ⟨gb151, 2, none⟩ = some (.int .u64 a0_2) := (blk_cell BK151.out 2).trans rfl
          have hcz10_3 : wr.cell? ⟨gb151, 3, none⟩ = some (.int .u64 a0_3) := (blk_cell BK151.out 3).trans rfl
          have hcz10_4 : wr.cell? ⟨gb151, 4, none⟩ = some (.int .u64 a0_4) := (blk_cell BK151.out 4).trans rfl
          have hcz10_5 : wr.cell? ⟨gb151, 5, none⟩ = some (.int .u64 a0_5) := (blk_cell BK151.out 5).trans rfl
          have hcz10_6 : wr.cell? ⟨gb151, 6, none⟩ = some (.int .u64 a0_6) := (blk_cell BK151.out 6).trans rfl
          have hcz10_7 : wr.cell? ⟨gb151, 7, none⟩ = some (.int .u64 a0_7) := (blk_cell BK151.out 7).trans rfl
          have hcz10_8 : wr.cell? ⟨gb151, 8, none⟩ = some (.int .u64 a0_8) := (blk_cell BK151.out 8).trans rfl
          have hcz10_9 : wr.cell? ⟨gb151, 9, none⟩ = some (.int .u64 a0_9) := (blk_cell BK151.out 9).trans rfl
          have hcz10_10 : wr.cell? ⟨gb151, 10, none⟩ = some (.int .u64 a0_10) := (blk_cell BK151.out 10).trans rfl
          have hcz10_11 : wr.cell? ⟨gb151, 11, none⟩ = some (.int .u64 a0_11) := (blk_cell BK151.out 11).trans rfl
          have hcz10_12 : wr.cell? ⟨gb151, 12, none⟩ = some (.int .u64 a0_12) := (blk_cell BK151.out 12).trans rfl
          have hcz10_13 : wr.cell? ⟨gb151, 13, none⟩ = some (.int .u64 a0_13) := (blk_cell BK151.out 13).trans rfl
          have hcz10_14 : wr.cell? ⟨gb151, 14, none⟩ = some (.int .u64 a0_14) := (blk_cell BK151.out 14).trans rfl
          have hcz10_15 : wr.cell? ⟨gb151, 15, none⟩ = some (.int .u64 a0_15) := (blk_cell BK151.out 15).trans rfl
          have hfz10_0 := blk_frozen BK151.out 0
          have hfz10_1 := blk_frozen BK151.out 1
          have hfz10_2 := blk_frozen BK151.out 2
          have hfz10_3 := blk_frozen BK151.out 3
          have hfz10_4 := blk_frozen BK151.out 4
          have hfz10_5 := blk_frozen BK151.out 5
          have hfz10_6 := blk_frozen BK151.out 6
          have hfz10_7 := blk_frozen BK151.out 7
          have hfz10_8 := blk_frozen BK151.out 8
          have hfz10_9 := blk_frozen BK151.out 9
          have hfz10_10 := blk_frozen BK151.out 10
          have hfz10_11 := blk_frozen BK151.out 11
          have hfz10_12 := blk_frozen BK151.out 12
          have hfz10_13 := blk_frozen BK151.out 13
          have hfz10_14 := blk_frozen BK151.out 14
          have hfz10_15 := blk_frozen BK151.out 15
          have p11 : 0 ≤ (x4_1 : Int) := of_decide_eq_true (by first | (with_reducible assumption) | assumption)
          have q11 : (x4_1 : Int) < 8 := of_decide_eq_true (by first | (with_reducible assumption) | assumption)
          have hx11_0 : wr.cell? ⟨gb151, (x4_1 : Int).toNat * 2, none⟩ = some (.int .u64 (nth [a0_0, a0_2, a0_4, a0_6, a0_8, a0_10, a0_12, a0_14] x4_1)) := (blk_cell BK151.out _).trans (arr_pair0 .u64 [(a0_0, a0_1), (a0_2, a0_3), (a0_4, a0_5), (a0_6, a0_7), (a0_8, a0_9), (a0_10, a0_11), (a0_12, a0_13), (a0_14, a0_15)] x4_1 8 rfl p11 q11)
          have hx11_1 : wr.cell? ⟨gb151, (x4_1 : Int).toNat * 2 + 1, none⟩ = some (.int .u64 (nth [a0_1, a0_3, a0_5, a0_7, a0_9, a0_11, a0_13, a0_15] x4_1)) := (blk_cell BK151.out _).trans (arr_pair1 .u64 [(a0_0, a0_1), (a0_2, a0_3), (a0_4, a0_5), (a0_6, a0_7), (a0_8, a0_9), (a0_10, a0_11), (a0_12, a0_13), (a0_14, a0_15)] x4_1 8 rfl p11 q11)
          replace p11 := eq_true p11
          replace q11 := eq_true q11
          go_wp2_with (first | ((with_reducible refine gate_callee (f := 19) rfl ?_); refine goesL_ (some 13) rfl rfl Tryd.func19 (by kernel_rfl) rfl #[.agg #[.int .u64 (nth [a0_0, a0_2, a0_4, a0_6, a0_8, a0_10, a0_12, a0_14] x4_1), .int .u64 (nth [a0_1, a0_3, a0_5, a0_7, a0_9, a0_11, a0_13, a0_15] x4_1)]] rfl (by (try simp only [List.map_toArray, List.map_cons, List.map_nil]); first | done | rfl | (simp only [List.length_drop, List.length_take]; rfl)) ?_; (with_reducible refine (laws_toMarks.calls k1 (nth [a0_0, a0_2, a0_4, a0_6, a0_8, a0_10, a0_12, a0_14] x4_1) (nth [a0_1, a0_3, a0_5, a0_7, a0_9, a0_11, a0_13, a0_15] x4_1) t154 t155 _ A7.out).mono ?_); rintro e w12 ⟨rfl, hb⟩; refine ⟨_, rfl, ?_⟩; have n0_ := Aside0.mk (blk_below (g := gb151) (o := .cells #[.int .u64 a0_0, .int .u64 a0_1, .int .u64 a0_2, .int .u64 a0_3, .int .u64 a0_4, .int .u64 a0_5, .int .u64 a0_6, .int .u64 a0_7, .int .u64 a0_8, .int .u64 a0_9, .int .u64 a0_10, .int .u64 a0_11, .int .u64 a0_12, .int .u64 a0_13, .int .u64 a0_14, .int .u64 a0_15] 25 (0, 0)) (by (with_reducible repeat (first | refine blk_drewN ?_ _ | refine blk_drew ?_ | refine blk_alloc ?_ _)); exact BK151.out) hb); have n1_ := Aside0.mk (blk_below (g := gb152) (o := .cells #[.int .u64 0, .int .u64 0, .int .u64 0, .int .u64 0, .int .u64 0, .int .u64 0, .int .u64 0, .int .u64 0, .int .u64 0, .int .u64 0, .int .u64 0, .int .u64 0, .int .u64 0, .int .u64 0, .int .u64 0, .int .u64 0] 31 (0, 0)) (by (with_reducible repeat (first | refine blk_drewN ?_ _ | refine blk_drew ?_ | refine blk_alloc ?_ _)); exact BK152.out) hb); have n2_ := Aside0.mk (blk_below (g := gb153) (o := .cells #[.int .u64 x154000_1, .int .u64 x154001_1, .int .u64 x154002_1, .int .u64 x154003_1, .int .u64 x154004_1, .int .u64 x154005_1, .int .u64 x154006_1, .int .u64 x154007_1, .int .u64 x154008_1, .int .u64 x154009_1, .int .u64 x154010_1, .int .u64 x154011_1, .int .u64 x154012_1, .int .u64 x154013_1, .int .u64 x154014_1, .int .u64 x154015_1] 31 (0, 0)) (by (with_reducible repeat (first | refine blk_drewN ?_ _ | refine blk_drew ?_ | refine blk_alloc ?_ _)); exact BK153.out) hb); have n3_ := Aside0.mk (below_step (by repeat (first | (with_reducible first | exact HB.out | apply below_alloc | apply pw_below_drewN | apply below_drew1 | refine below_set ?_ GE151.out | refine below_set ?_ GE152.out | refine below_set ?_ GE153.out) | exact HB.out)) hb); clear BK151; clear BK152; clear BK153; clear HB; have BK151 := n0_; have BK152 := n1_; have BK153 := n2_; have HB := n3_; clear n0_ n1_ n2_ n3_; (try clear hb); (try clear hb2); (try clear hk); (try clear hi); have hnb13 := NB153_152.out; have hnc13 := NB152_153.out; have hcz14_0 : w12.cell? ⟨gb153, 0, none⟩ = some (.int .u64 x154000_1) := (blk_cell BK153.out 0).trans rfl; have hcz14_1 : w12.cell? ⟨gb153, 1, none⟩ = some (.int .u64 x154001_1) := (blk_cell BK153.out 1).trans rfl; have hcz14_2 : w12.cell? ⟨gb153, 2, none⟩ = some (.int .u64 x154002_1) := (blk_cell BK153.out 2).trans rfl; have hcz14_3 : w12.cell? ⟨gb153, 3, none⟩ = some (.int .u64 x154003_1) := (blk_cell BK153.out 3).trans rfl; have hcz14_4 : w12.cell? ⟨gb153, 4, none⟩ = some (.int .u64 x154004_1) := (blk_cell BK153.out 4).trans rfl; have hcz14_5 : w12.cell? ⟨gb153, 5, none⟩ = some (.int .u64 x154005_1) := (blk_cell BK153.out 5).trans rfl; have hcz14_6 : w12.cell? ⟨gb153, 6, none⟩ = some (.int .u64 x154006_1) := (blk_cell BK153.out 6).trans rfl; have hcz14_7 : w12.cell? ⟨gb153, 7, none⟩ = some (.int .u64 x154007_1) := (blk_cell BK153.out 7).trans rfl; have hcz14_8 : w12.cell? ⟨gb153, 8, none⟩ = some (.int .u64 x154008_1) := (blk_cell BK153.out 8).trans rfl; have hcz14_9 : w12.cell? ⟨gb153, 9, none⟩ = some (.int .u64 x154009_1) := (blk_cell BK153.out 9).trans rfl; have hcz14_10 : w12.cell? ⟨gb153, 10, none⟩ = some (.int .u64 x154010_1) := (blk_cell BK153.out 10).trans rfl; have hcz14_11 : w12.cell? ⟨gb153, 11, none⟩ = some (.int .u64 x154011_1) := (blk_cell BK153.out 11).trans rfl; have hcz14_12 : w12.cell? ⟨gb153, 12, none⟩ = some (.int .u64 x154012_1) := (blk_cell BK153.out 12).trans rfl; have hcz14_13 : w12.cell? ⟨gb153, 13, none⟩ = some (.int .u64 x154013_1) := (blk_cell BK153.out 13).trans rfl; have hcz14_14 : w12.cell? ⟨gb153, 14, none⟩ = some (.int .u64 x154014_1) := (blk_cell BK153.out 14).trans rfl; have hcz14_15 : w12.cell? ⟨gb153, 15, none⟩ = some (.int .u64 x154015_1) := (blk_cell BK153.out 15).trans rfl; have hfz14_0 := blk_frozen BK153.out 0; have hfz14_1 := blk_frozen BK153.out 1; have hfz14_2 := blk_frozen BK153.out 2; have hfz14_3 := blk_frozen BK153.out 3; have hfz14_4 := blk_frozen BK153.out 4; have hfz14_5 := blk_frozen BK153.out 5; have hfz14_6 := blk_frozen BK153.out 6; have hfz14_7 := blk_frozen BK153.out 7; have hfz14_8 := blk_frozen BK153.out 8; have hfz14_9 := blk_frozen BK153.out 9; have hfz14_10 := blk_frozen BK153.out 10; have hfz14_11 := blk_frozen BK153.out 11; have hfz14_12 := blk_frozen BK153.out 12; have hfz14_13 := blk_frozen BK153.out 13; have hfz14_14 := blk_frozen BK153.out 14; have hfz14_15 := blk_frozen BK153.out 15; have p15 : 0 ≤ (x4_1 : Int) := of_decide_eq_true (by first | (with_reducible assumption) | assumption); have q15 : (x4_1 : Int) < 8 := of_decide_eq_true (by first | (with_reducible assumption) | assumption); have hx15_0 : w12.cell? ⟨gb153, (x4_1 : Int).toNat * 2, none⟩ = some (.int .u64 (nth [x154000_1, x154002_1, x154004_1, x154006_1, x154008_1, x154010_1, x154012_1, x154014_1] x4_1)) := (blk_cell BK153.out _).trans (arr_pair0 .u64 [(x154000_1, x154001_1), (x154002_1, x154003_1), (x154004_1, x154005_1), (x154006_1, x154007_1), (x154008_1, x154009_1), (x154010_1, x154011_1), (x154012_1, x154013_1), (x154014_1, x154015_1)] x4_1 8 rfl p15 q15); have hx15_1 : w12.cell? ⟨gb153, (x4_1 : Int).toNat * 2 + 1, none⟩ = some (.int .u64 (nth [x154001_1, x154003_1, x154005_1, x154007_1, x154009_1, x154011_1, x154013_1, x154015_1] x4_1)) := (blk_cell BK153.out _).trans (arr_pair1 .u64 [(x154000_1, x154001_1), (x154002_1, x154003_1), (x154004_1, x154005_1), (x154006_1, x154007_1), (x154008_1, x154009_1), (x154010_1, x154011_1), (x154012_1, x154013_1), (x154014_1, x154015_1)] x4_1 8 rfl p15 q15); have hf15_0 : w12.frozen? ⟨gb153, (x4_1 : Int).toNat * 2, none⟩ = false := blk_frozen BK153.out _; have hf15_1 : w12.frozen? ⟨gb153, (x4_1 : Int).toNat * 2 + 1, none⟩ = false := blk_frozen BK153.out _; have HP15 := Aside0.mk p15; have HQ15 := Aside0.mk q15; replace p15 := eq_true p15; replace q15 := eq_true q15) | ((with_reducible refine gate_store (t := 29) (p := 14) rfl ?_); refine store_event (t := 29) (p := 14) (v := ?vo_w16) (w1 := ((w12.setCell ⟨gb153, (x4_1 : Int).toNat * 2, none⟩ (.int .u64 t154)).setCell ⟨gb153, (x4_1 : Int).toNat * 2 + 1, none⟩ (.int .u64 t155))) ?hg ?ho ?hn ?hr ?_; (case ho => rfl); (case hg => rfl); (case hn => rfl); (case hr => first | (go_simp; done) | (go_simp; rfl)); intro w16 hw; have n0_ : Aside0 (w16.heap[gb151]? = some (.cells #[.int .u64 a0_0, .int .u64 a0_1, .int .u64 a0_2, .int .u64 a0_3, .int .u64 a0_4, .int .u64 a0_5, .int .u64 a0_6, .int .u64 a0_7, .int .u64 a0_8, .int .u64 a0_9, .int .u64 a0_10, .int .u64 a0_11, .int .u64 a0_12, .int .u64 a0_13, .int .u64 a0_14, .int .u64 a0_15] 25 (0, 0))) := ⟨(by rw [hw]; exact (blk_far (blk_far (BK151.out) NB151_153.out _) NB151_153.out _))⟩; have n1_ : Aside0 (w16.heap[gb152]? = some (.cells #[.int .u64 0, .int .u64 0, .int .u64 0, .int .u64 0, .int .u64 0, .int .u64 0, .int .u64 0, .int .u64 0, .int .u64 0, .int .u64 0, .int .u64 0, .int .u64 0, .int .u64 0, .int .u64 0, .int .u64 0, .int .u64 0] 31 (0, 0))) := ⟨(by rw [hw]; exact (blk_far (blk_far (BK152.out) NB152_153.out _) NB152_153.out _))⟩; have n2_ : Aside0 (w16.heap[gb153]? = some (.cells #[.int .u64 (sel 0 x4_1 t154 x154000_1), .int .u64 (sel 0 x4_1 t155 x154001_1), .int .u64 (sel 1 x4_1 t154 x154002_1), .int .u64 (sel 1 x4_1 t155 x154003_1), .int .u64 (sel 2 x4_1 t154 x154004_1), .int .u64 (sel 2 x4_1 t155 x154005_1), .int .u64 (sel 3 x4_1 t154 x154006_1), .int .u64 (sel 3 x4_1 t155 x154007_1), .int .u64 (sel 4 x4_1 t154 x154008_1), .int .u64 (sel 4 x4_1 t155 x154009_1), .int .u64 (sel 5 x4_1 t154 x154010_1), .int .u64 (sel 5 x4_1 t155 x154011_1), .int .u64 (sel 6 x4_1 t154 x154012_1), .int .u64 (sel 6 x4_1 t155 x154013_1), .int .u64 (sel 7 x4_1 t154 x154014_1), .int .u64 (sel 7 x4_1 t155 x154015_1)] 31 (0, 0))) := ⟨(by rw [hw]; exact (blk_putv2 .u64 [(x154000_1, x154001_1), (x154002_1, x154003_1), (x154004_1, x154005_1), (x154006_1, x154007_1), (x154008_1, x154009_1), (x154010_1, x154011_1), (x154012_1, x154013_1), (x154014_1, x154015_1)] x4_1 t154 t155 BK153.out HP15.out))⟩; have n3_ : Aside0 (Below w.heap.size w w16) := ⟨(by rw [hw]; exact (below_set (below_set (HB.out) GE153.out) GE153.out))⟩; clear hw; clear BK151; clear BK152; clear BK153; clear HB; have BK151 := n0_; have BK152 := n1_; have BK153 := n2_; have HB := n3_; clear n0_ n1_ n2_ n3_))
          go_roundg k1
          case measure => have := HK1.out; omega
          case rel => exact ⟨(wrap64 (x4_1 + 1)), (sel 0 x4_1 t154 x154000_1), (sel 0 x4_1 t155 x154001_1), (sel 1 x4_1 t154 x154002_1), (sel 1 x4_1 t155 x154003_1), (sel 2 x4_1 t154 x154004_1), (sel 2 x4_1 t155 x154005_1), (sel 3 x4_1 t154 x154006_1), (sel 3 x4_1 t155 x154007_1), (sel 4 x4_1 t154 x154008_1), (sel 4 x4_1 t155 x154009_1), (sel 5 x4_1 t154 x154010_1), (sel 5 x4_1 t155 x154011_1), (sel 6 x4_1 t154 x154012_1), (sel 6 x4_1 t155 x154013_1), (sel 7 x4_1 t154 x154014_1), (sel 7 x4_1 t155 x154015_1), (by first | rfl | (simp; done) | (simp [*]; done)), H', ⟨by have := HK1.out; omega⟩, ⟨by (with_reducible repeat (first | refine blk_drewN ?_ _ | refine blk_drew ?_ | refine blk_alloc ?_ _)); exact BK151.out⟩, ⟨by (with_reducible repeat (first | refine blk_drewN ?_ _ | refine blk_drew ?_ | refine blk_alloc ?_ _)); exact BK152.out⟩, ⟨by (with_reducible repeat (first | refine blk_drewN ?_ _ | refine blk_drew ?_ | refine blk_alloc ?_ _)); exact BK153.out⟩, ⟨by repeat (first | (with_reducible first | exact HB.out | apply below_alloc | apply pw_below_drewN | apply below_drew1 | refine below_set ?_ GE151.out | refine below_set ?_ GE152.out | refine below_set ?_ GE153.out) | exact HB.out)⟩⟩
        · rw [if_neg c6] at H
          exact absurd H (by simp)
      · rw [if_neg c5] at H
        have c5b0 : decide (x4_1 < 8) = false := decide_eq_false c5
        clear c5
        simp only [Option.some.injEq, Prod.mk.injEq] at H
        obtain ⟨rfl, rfl, rfl, rfl, rfl, rfl, rfl, rfl, rfl, rfl, rfl, rfl, rfl, rfl, rfl, rfl⟩ := H
        have hnb17 := NB153_151.out
        have hnc17 := NB151_153.out
        have hnb18 := NB153_152.out
        have hnc18 := NB152_153.out
        have hcz19_0 : wr.cell? ⟨gb153, 0, none⟩ = some (.int .u64 x154000_1) := (blk_cell BK153.out 0).trans rfl
        have hcz19_1 : wr.cell? ⟨gb153, 1, none⟩ = some (.int .u64 x154001_1) := (blk_cell BK153.out 1).trans rfl
        have hcz19_2 : wr.cell? ⟨gb153, 2, none⟩ = some (.int .u64 x154002_1) := (blk_cell BK153.out 2).trans rfl
        have hcz19_3 : wr.cell? ⟨gb153, 3, none⟩ = some (.int .u64 x154003_1) := (blk_cell BK153.out 3).trans rfl
        have hcz19_4 : wr.cell? ⟨gb153, 4, none⟩ = some (.int .u64 x154004_1) := (blk_cell BK153.out 4).trans rfl
        have hcz19_5 : wr.cell? ⟨gb153, 5, none⟩ = some (.int .u64 x154005_1) := (blk_cell BK153.out 5).trans rfl
        have hcz19_6 : wr.cell? ⟨gb153, 6, none⟩ = some (.int .u64 x154006_1) := (blk_cell BK153.out 6).trans rfl
        have hcz19_7 : wr.cell? ⟨gb153, 7, none⟩ = some (.int .u64 x154007_1) := (blk_cell BK153.out 7).trans rfl
        have hcz19_8 : wr.cell? ⟨gb153, 8, none⟩ = some (.int .u64 x154008_1) := (blk_cell BK153.out 8).trans rfl
        have hcz19_9 : wr.cell? ⟨gb153, 9, none⟩ = some (.int .u64 x154009_1) := (blk_cell BK153.out 9).trans rfl
        have hcz19_10 : wr.cell? ⟨gb153, 10, none⟩ = some (.int .u64 x154010_1) := (blk_cell BK153.out 10).trans rfl
        have hcz19_11 : wr.cell? ⟨gb153, 11, none⟩ = some (.int .u64 x154011_1) := (blk_cell BK153.out 11).trans rfl
        have hcz19_12 : wr.cell? ⟨gb153, 12, none⟩ = some (.int .u64 x154012_1) := (blk_cell BK153.out 12).trans rfl
        have hcz19_13 : wr.cell? ⟨gb153, 13, none⟩ = some (.int .u64 x154013_1) := (blk_cell BK153.out 13).trans rfl
        have hcz19_14 : wr.cell? ⟨gb153, 14, none⟩ = some (.int .u64 x154014_1) := (blk_cell BK153.out 14).trans rfl
        have hcz19_15 : wr.cell? ⟨gb153, 15, none⟩ = some (.int .u64 x154015_1) := (blk_cell BK153.out 15).trans rfl
        have hfz19_0 := blk_frozen BK153.out 0
        have hfz19_1 := blk_frozen BK153.out 1
        have hfz19_2 := blk_frozen BK153.out 2
        have hfz19_3 := blk_frozen BK153.out 3
        have hfz19_4 := blk_frozen BK153.out 4
        have hfz19_5 := blk_frozen BK153.out 5
        have hfz19_6 := blk_frozen BK153.out 6
        have hfz19_7 := blk_frozen BK153.out 7
        have hfz19_8 := blk_frozen BK153.out 8
        have hfz19_9 := blk_frozen BK153.out 9
        have hfz19_10 := blk_frozen BK153.out 10
        have hfz19_11 := blk_frozen BK153.out 11
        have hfz19_12 := blk_frozen BK153.out 12
        have hfz19_13 := blk_frozen BK153.out 13
        have hfz19_14 := blk_frozen BK153.out 14
        have hfz19_15 := blk_frozen BK153.out 15
        have hnb20 := NB152_151.out
        have hnc20 := NB151_152.out
        have hcz21_0 : wr.cell? ⟨gb152, 0, none⟩ = some (.int .u64 0) := (blk_cell BK152.out 0).trans rfl
        have hcz21_1 : wr.cell? ⟨gb152, 1, none⟩ = some (.int .u64 0) := (blk_cell BK152.out 1).trans rfl
        have hcz21_2 : wr.cell? ⟨gb152, 2, none⟩ = some (.int .u64 0) := (blk_cell BK152.out 2).trans rfl
        have hcz21_3 : wr.cell? ⟨gb152, 3, none⟩ = some (.int .u64 0) := (blk_cell BK152.out 3).trans rfl
        have hcz21_4 : wr.cell? ⟨gb152, 4, none⟩ = some (.int .u64 0) := (blk_cell BK152.out 4).trans rfl
        have hcz21_5 : wr.cell? ⟨gb152, 5, none⟩ = some (.int .u64 0) := (blk_cell BK152.out 5).trans rfl
        have hcz21_6 : wr.cell? ⟨gb152, 6, none⟩ = some (.int .u64 0) := (blk_cell BK152.out 6).trans rfl
        have hcz21_7 : wr.cell? ⟨gb152, 7, none⟩ = some (.int .u64 0) := (blk_cell BK152.out 7).trans rfl
        have hcz21_8 : wr.cell? ⟨gb152, 8, none⟩ = some (.int .u64 0) := (blk_cell BK152.out 8).trans rfl
        have hcz21_9 : wr.cell? ⟨gb152, 9, none⟩ = some (.int .u64 0) := (blk_cell BK152.out 9).trans rfl
        have hcz21_10 : wr.cell? ⟨gb152, 10, none⟩ = some (.int .u64 0) := (blk_cell BK152.out 10).trans rfl
        have hcz21_11 : wr.cell? ⟨gb152, 11, none⟩ = some (.int .u64 0) := (blk_cell BK152.out 11).trans rfl
        have hcz21_12 : wr.cell? ⟨gb152, 12, none⟩ = some (.int .u64 0) := (blk_cell BK152.out 12).trans rfl
        have hcz21_13 : wr.cell? ⟨gb152, 13, none⟩ = some (.int .u64 0) := (blk_cell BK152.out 13).trans rfl
        have hcz21_14 : wr.cell? ⟨gb152, 14, none⟩ = some (.int .u64 0) := (blk_cell BK152.out 14).trans rfl
        have hcz21_15 : wr.cell? ⟨gb152, 15, none⟩ = some (.int .u64 0) := (blk_cell BK152.out 15).trans rfl
        have hfz21_0 := blk_frozen BK152.out 0
        have hfz21_1 := blk_frozen BK152.out 1
        have hfz21_2 := blk_frozen BK152.out 2
        have hfz21_3 := blk_frozen BK152.out 3
        have hfz21_4 := blk_frozen BK152.out 4
        have hfz21_5 := blk_frozen BK152.out 5
        have hfz21_6 := blk_frozen BK152.out 6
        have hfz21_7 := blk_frozen BK152.out 7
        have hfz21_8 := blk_frozen BK152.out 8
        have hfz21_9 := blk_frozen BK152.out 9
        have hfz21_10 := blk_frozen BK152.out 10
        have hfz21_11 := blk_frozen BK152.out 11
        have hfz21_12 := blk_frozen BK152.out 12
        have hfz21_13 := blk_frozen BK152.out 13
        have hfz21_14 := blk_frozen BK152.out 14
        have hfz21_15 := blk_frozen BK152.out 15
        go_wp2
        refine bodyPost_ret (results_cell_row rfl _ _ gb152 31 #[.int .u64 x154000_1, .int .u64 x154001_1, .int .u64 x154002_1, .int .u64 x154003_1, .int .u64 x154004_1, .int .u64 x154005_1, .int .u64 x154006_1, .int .u64 x154007_1, .int .u64 x154008_1, .int .u64 x154009_1, .int .u64 x154010_1, .int .u64 x154011_1, .int .u64 x154012_1, .int .u64 x154013_1, .int .u64 x154014_1, .int .u64 x154015_1] (0, 0) _ rfl (by (with_reducible repeat (first | refine blk_drewN ?_ _ | refine blk_drew ?_ | refine blk_alloc ?_ _)); refine blk_put (cs := #[.int .u64 x154000_1, .int .u64 x154001_1, .int .u64 x154002_1, .int .u64 x154003_1, .int .u64 x154004_1, .int .u64 x154005_1, .int .u64 x154006_1, .int .u64 x154007_1, .int .u64 x154008_1, .int .u64 x154009_1, .int .u64 x154010_1, .int .u64 x154011_1, .int .u64 x154012_1, .int .u64 x154013_1, .int .u64 x154014_1, .int .u64 0]) ?_ 15 _ rfl; (with_reducible repeat (first | refine blk_drewN ?_ _ | refine blk_drew ?_ | refine blk_alloc ?_ _)); refine blk_put (cs := #[.int .u64 x154000_1, .int .u64 x154001_1, .int .u64 x154002_1, .int .u64 x154003_1, .int .u64 x154004_1, .int .u64 x154005_1, .int .u64 x154006_1, .int .u64 x154007_1, .int .u64 x154008_1, .int .u64 x154009_1, .int .u64 x154010_1, .int .u64 x154011_1, .int .u64 x154012_1, .int .u64 x154013_1, .int .u64 0, .int .u64 0]) ?_ 14 _ rfl; (with_reducible repeat (first | refine blk_drewN ?_ _ | refine blk_drew ?_ | refine blk_alloc ?_ _)); refine blk_put (cs := #[.int .u64 x154000_1, .int .u64 x154001_1, .int .u64 x154002_1, .int .u64 x154003_1, .int .u64 x154004_1, .int .u64 x154005_1, .int .u64 x154006_1, .int .u64 x154007_1, .int .u64 x154008_1, .int .u64 x154009_1, .int .u64 x154010_1, .int .u64 x154011_1, .int .u64 x154012_1, .int .u64 0, .int .u64 0, .int .u64 0]) ?_ 13 _ rfl; (with_reducible repeat (first | refine blk_drewN ?_ _ | refine blk_drew ?_ | refine blk_alloc ?_ _)); refine blk_put (cs := #[.int .u64 x154000_1, .int .u64 x154001_1, .int .u64 x154002_1, .int .u64 x154003_1, .int .u64 x154004_1, .int .u64 x154005_1, .int .u64 x154006_1, .int .u64 x154007_1, .int .u64 x154008_1, .int .u64 x154009_1, .int .u64 x154010_1, .int .u64 x154011_1, .int .u64 0, .int .u64 0, .int .u64 0, .int .u64 0]) ?_ 12 _ rfl; (with_reducible repeat (first | refine blk_drewN ?_ _ | refine blk_drew ?_ | refine blk_alloc ?_ _)); refine blk_put (cs := #[.int .u64 x154000_1, .int .u64 x154001_1, .int .u64 x154002_1, .int .u64 x154003_1, .int .u64 x154004_1, .int .u64 x154005_1, .int .u64 x154006_1, .int .u64 x154007_1, .int .u64 x154008_1, .int .u64 x154009_1, .int .u64 x154010_1, .int .u64 0, .int .u64 0, .int .u64 0, .int .u64 0, .int .u64 0]) ?_ 11 _ rfl; (with_reducible repeat (first | refine blk_drewN ?_ _ | refine blk_drew ?_ | refine blk_alloc ?_ _)); refine blk_put (cs := #[.int .u64 x154000_1, .int .u64 x154001_1, .int .u64 x154002_1, .int .u64 x154003_1, .int .u64 x154004_1, .int .u64 x154005_1, .int .u64 x154006_1, .int .u64 x154007_1, .int .u64 x154008_1, .int .u64 x154009_1, .int .u64 0, .int .u64 0, .int .u64 0, .int .u64 0, .int .u64 0, .int .u64 0]) ?_ 10 _ rfl; (with_reducible repeat (first | refine blk_drewN ?_ _ | refine blk_drew ?_ | refine blk_alloc ?_ _)); refine blk_put (cs := #[.int .u64 x154000_1, .int .u64 x154001_1, .int .u64 x154002_1, .int .u64 x154003_1, .int .u64 x154004_1, .int .u64 x154005_1, .int .u64 x154006_1, .int .u64 x154007_1, .int .u64 x154008_1, .int .u64 0, .int .u64 0, .int .u64 0, .int .u64 0, .int .u64 0, .int .u64 0, .int .u64 0]) ?_ 9 _ rfl; (with_reducible repeat (first | refine blk_drewN ?_ _ | refine blk_drew ?_ | refine blk_alloc ?_ _)); refine blk_put (cs := #[.int .u64 x154000_1, .int .u64 x154001_1, .int .u64 x154002_1, .int .u64 x154003_1, .int .u64 x154004_1, .int .u64 x154005_1, .int .u64 x154006_1, .int .u64 x154007_1, .int .u64 0, .int .u64 0, .int .u64 0, .int .u64 0, .int .u64 0, .int .u64 0, .int .u64 0, .int .u64 0]) ?_ 8 _ rfl; (with_reducible repeat (first | refine blk_drewN ?_ _ | refine blk_drew ?_ | refine blk_alloc ?_ _)); refine blk_put (cs := #[.int .u64 x154000_1, .int .u64 x154001_1, .int .u64 x154002_1, .int .u64 x154003_1, .int .u64 x154004_1, .int .u64 x154005_1, .int .u64 x154006_1, .int .u64 0, .int .u64 0, .int .u64 0, .int .u64 0, .int .u64 0, .int .u64 0, .int .u64 0, .int .u64 0, .int .u64 0]) ?_ 7 _ rfl; (with_reducible repeat (first | refine blk_drewN ?_ _ | refine blk_drew ?_ | refine blk_alloc ?_ _)); refine blk_put (cs := #[.int .u64 x154000_1, .int .u64 x154001_1, .int .u64 x154002_1, .int .u64 x154003_1, .int .u64 x154004_1, .int .u64 x154005_1, .int .u64 0, .int .u64 0, .int .u64 0, .int .u64 0, .int .u64 0, .int .u64 0, .int .u64 0, .int .u64 0, .int .u64 0, .int .u64 0]) ?_ 6 _ rfl; (with_reducible repeat (first | refine blk_drewN ?_ _ | refine blk_drew ?_ | refine blk_alloc ?_ _)); refine blk_put (cs := #[.int .u64 x154000_1, .int .u64 x154001_1, .int .u64 x154002_1, .int .u64 x154003_1, .int .u64 x154004_1, .int .u64 0, .int .u64 0, .int .u64 0, .int .u64 0, .int .u64 0, .int .u64 0, .int .u64 0, .int .u64 0, .int .u64 0, .int .u64 0, .int .u64 0]) ?_ 5 _ rfl; (with_reducible repeat (first | refine blk_drewN ?_ _ | refine blk_drew ?_ | refine blk_alloc ?_ _)); refine blk_put (cs := #[.int .u64 x154000_1, .int .u64 x154001_1, .int .u64 x154002_1, .int .u64 x154003_1, .int .u64 0, .int .u64 0, .int .u64 0, .int .u64 0, .int .u64 0, .int .u64 0, .int .u64 0, .int .u64 0, .int .u64 0, .int .u64 0, .int .u64 0, .int .u64 0]) ?_ 4 _ rfl; (with_reducible repeat (first | refine blk_drewN ?_ _ | refine blk_drew ?_ | refine blk_alloc ?_ _)); refine blk_put (cs := #[.int .u64 x154000_1, .int .u64 x154001_1, .int .u64 x154002_1, .int .u64 0, .int .u64 0, .int .u64 0, .int .u64 0, .int .u64 0, .int .u64 0, .int .u64 0, .int .u64 0, .int .u64 0, .int .u64 0, .int .u64 0, .int .u64 0, .int .u64 0]) ?_ 3 _ rfl; (with_reducible repeat (first | refine blk_drewN ?_ _ | refine blk_drew ?_ | refine blk_alloc ?_ _)); refine blk_put (cs := #[.int .u64 x154000_1, .int .u64 x154001_1, .int .u64 0, .int .u64 0, .int .u64 0, .int .u64 0, .int .u64 0, .int .u64 0, .int .u64 0, .int .u64 0, .int .u64 0, .int .u64 0, .int .u64 0, .int .u64 0, .int .u64 0, .int .u64 0]) ?_ 2 _ rfl; (with_reducible repeat (first | refine blk_drewN ?_ _ | refine blk_drew ?_ | refine blk_alloc ?_ _)); refine blk_put (cs := #[.int .u64 x154000_1, .int .u64 0, .int .u64 0, .int .u64 0, .int .u64 0, .int .u64 0, .int .u64 0, .int .u64 0, .int .u64 0, .int .u64 0, .int .u64 0, .int .u64 0, .int .u64 0, .int .u64 0, .int .u64 0, .int .u64 0]) ?_ 1 _ rfl; (with_reducible repeat (first | refine blk_drewN ?_ _ | refine blk_drew ?_ | refine blk_alloc ?_ _)); refine blk_put (cs := #[.int .u64 0, .int .u64 0, .int .u64 0, .int .u64 0, .int .u64 0, .int .u64 0, .int .u64 0, .int .u64 0, .int .u64 0, .int .u64 0, .int .u64 0, .int .u64 0, .int .u64 0, .int .u64 0, .int .u64 0, .int .u64 0]) ?_ 0 _ rfl; (with_reducible repeat (first | refine blk_drewN ?_ _ | refine blk_drew ?_ | refine blk_alloc ?_ _)); exact BK152.out) Tryd.underlying31 rfl (by kernel_rfl)) rfl ?_
        exact ⟨by first | rfl | (simp [errW_none, errW_some] <;> rfl) | (simp [*, errW_none, errW_some] <;> rfl), by repeat (first | (with_reducible first | exact HB.out | apply below_alloc | apply pw_below_drewN | apply below_drew1 | refine below_set ?_ GE151.out | refine below_set ?_ GE152.out | refine below_set ?_ GE153.out) | exact HB.out)⟩

end Go.Proofs.YtgfimdoildaonaaDoor.P

/- ValidPhoto of both sides; spec's PhotoText. -/
namespace Go.Proofs.YtgfimdoildaonaaDoor.P
open Go.RowKit Go.Proofs.YtgfimdoildaonaaDoorW.PrintWords Go.Proofs.YtgfimdoildaonaaDoorW.PrintLast Go.Proofs.YtgfimdoildaonaaDoorW.PrintMore
set_option linter.unusedVariables false
set_option linter.unusedSimpArgs false
theorem okStk_bounds {s : List Int} (hk : okStk s = true) (i : Nat) (hi : i < s.length) : 0 ≤ rd s i ∧ rd s i ≤ 100 := by
  have := okStk_base hk i hi
  omega
set_option maxHeartbeats 2000000 in
set_option maxRecDepth 100000 in
theorem specValidPhoto_at (A0 : Option Addr) (c0 : Nat) (s : List Int) (x : Ph) (w : World) (hr : Kd.C (Kd.int .u8) w A0 s.length s) (hc : s.length ≤ c0) (hn : s.length ≤ 1048576) :
    Calls Tryd.prog 17 #[.slice A0 s.length c0, .agg #[.int .u64 x.f0.f0, .int .u64 x.f0.f1, .int .u64 x.f1.f0, .int .u64 x.f1.f1, .int .u64 x.f2.f0, .int .u64 x.f2.f1, .int .u64 x.f3.f0, .int .u64 x.f3.f1, .int .u64 x.f4.f0, .int .u64 x.f4.f1, .int .u64 x.f5.f0, .int .u64 x.f5.f1, .int .u64 x.f6.f0, .int .u64 x.f6.f1, .int .u64 x.f7.f0, .int .u64 x.f7.f1]] w fun e w' => e = .returned (.bool (okStk s && photoOk s x)) ∧ Below w.heap.size w w' := by
  have HR := Aside0.mk hr
  have HB1 := Aside0.mk (below_alloc (Below.refl w.heap.size w) (.cells #[.int .u64 x.f0.f0, .int .u64 x.f0.f1, .int .u64 x.f1.f0, .int .u64 x.f1.f1, .int .u64 x.f2.f0, .int .u64 x.f2.f1, .int .u64 x.f3.f0, .int .u64 x.f3.f1, .int .u64 x.f4.f0, .int .u64 x.f4.f1, .int .u64 x.f5.f0, .int .u64 x.f5.f1, .int .u64 x.f6.f0, .int .u64 x.f6.f1, .int .u64 x.f7.f0, .int .u64 x.f7.f1] 31))
  have HK1 := Aside0.mk (blk_new w (.cells #[.int .u64 x.f0.f0, .int .u64 x.f0.f1, .int .u64 x.f1.f0, .int .u64 x.f1.f1, .int .u64 x.f2.f0, .int .u64 x.f2.f1, .int .u64 x.f3.f0, .int .u64 x.f3.f1, .int .u64 x.f4.f0, .int .u64 x.f4.f1, .int .u64 x.f5.f0, .int .u64 x.f5.f1, .int .u64 x.f6.f0, .int .u64 x.f6.f1, .int .u64 x.f7.f0, .int .u64 x.f7.f1] 31))
  have HV := Aside0.mk (specOk_eq 2097200 s hn (by omega))
  clear hr
  cases hks : okStk s with
  | false =>
    rw [hks] at HV
    clear hks
    go_enter Tryd.func17, Tryd.ntmps17
    go_wp2_with (go_at_call 30; refine (spec_l01Ok.calls 2097200 _ _ s false _ (Kd.C_below HR.out HB1.out) hc HV.out).mono ?_; rintro e w2 ⟨rfl, hb⟩; (have hb' : Below _ _ w2 := (by first | exact hb | exact hb.below | (obtain ⟨n, rfl⟩ := hb; exact pw_below_drewN (Below.refl _ _) n))); (have HB2 := Aside0.mk (below_step HB1.out hb')); (have HK2 := Aside0.mk (blk_below HK1.out hb')); clear hb hb')
    go_ret
    exact ⟨rfl, HB2.out⟩
  | true =>
    rw [hks] at HV
    obtain ⟨hl1, hl8⟩ := okStk_len hks
    have HOK := Aside0.mk (fun W hb hp => l05Ok_at 200 (by omega) A0 c0 s x ⟨w.heap.size, 0, none⟩ W (Kd.C_below HR.out hb) hc hl8 (okStk_bounds hks) hp)
    clear hks
    generalize photoOk s x = pk at HOK ⊢
    go_enter Tryd.func17, Tryd.ntmps17
    go_wp2_with (first
      | (go_at_call 30; refine (spec_l01Ok.calls 2097200 _ _ s true _ (Kd.C_below HR.out HB1.out) hc HV.out).mono ?_; rintro e w2 ⟨rfl, hb⟩; (have hb' : Below _ _ w2 := (by first | exact hb | exact hb.below | (obtain ⟨n, rfl⟩ := hb; exact pw_below_drewN (Below.refl _ _) n))); (have HB2 := Aside0.mk (below_step HB1.out hb')); (have HK2 := Aside0.mk (blk_below HK1.out hb')); clear hb hb')
      | (go_at_call 36; refine (HOK.out _ HB2.out (phAt_box HK2.out)).mono ?_; rintro e w3 ⟨rfl, hb⟩; (have HB3 := Aside0.mk (below_step HB2.out hb)); clear hb))
    go_ret
    exact ⟨by first | rfl | simp, HB3.out⟩
set_option maxHeartbeats 2000000 in
set_option maxRecDepth 100000 in
theorem implValidPhoto_at (A0 : Option Addr) (c0 : Nat) (s : List Int) (x : Ph) (w : World) (hr : Kd.C (Kd.int .u8) w A0 s.length s) (hc : s.length ≤ c0) (hn : s.length ≤ 1048576) :
    Calls Tryd.prog 20 #[.slice A0 s.length c0, .agg #[.int .u64 x.f0.f0, .int .u64 x.f0.f1, .int .u64 x.f1.f0, .int .u64 x.f1.f1, .int .u64 x.f2.f0, .int .u64 x.f2.f1, .int .u64 x.f3.f0, .int .u64 x.f3.f1, .int .u64 x.f4.f0, .int .u64 x.f4.f1, .int .u64 x.f5.f0, .int .u64 x.f5.f1, .int .u64 x.f6.f0, .int .u64 x.f6.f1, .int .u64 x.f7.f0, .int .u64 x.f7.f1]] w fun e w' => e = .returned (.bool (okStk s && photoOk s x)) ∧ Below w.heap.size w w' := by
  have HR := Aside0.mk hr
  have HB1 := Aside0.mk (below_alloc (Below.refl w.heap.size w) (.cells #[.int .u64 x.f0.f0, .int .u64 x.f0.f1, .int .u64 x.f1.f0, .int .u64 x.f1.f1, .int .u64 x.f2.f0, .int .u64 x.f2.f1, .int .u64 x.f3.f0, .int .u64 x.f3.f1, .int .u64 x.f4.f0, .int .u64 x.f4.f1, .int .u64 x.f5.f0, .int .u64 x.f5.f1, .int .u64 x.f6.f0, .int .u64 x.f6.f1, .int .u64 x.f7.f0, .int .u64 x.f7.f1] 31))
  have HK1 := Aside0.mk (blk_new w (.cells #[.int .u64 x.f0.f0, .int .u64 x.f0.f1, .int .u64 x.f1.f0, .int .u64 x.f1.f1, .int .u64 x.f2.f0, .int .u64 x.f2.f1, .int .u64 x.f3.f0, .int .u64 x.f3.f1, .int .u64 x.f4.f0, .int .u64 x.f4.f1, .int .u64 x.f5.f0, .int .u64 x.f5.f1, .int .u64 x.f6.f0, .int .u64 x.f6.f1, .int .u64 x.f7.f0, .int .u64 x.f7.f1] 31))
  have HV := Aside0.mk (fun W hb => validStack_at A0 c0 s W (Kd.C_below HR.out hb) hc hn)
  clear hr
  cases hks : okStk s with
  | false =>
    rw [hks] at HV
    clear hks
    go_enter Tryd.func20, Tryd.ntmps20
    go_wp2_with (go_at_call 33; refine (HV.out _ HB1.out).mono ?_; rintro e w2 ⟨rfl, hb⟩; (have HB2 := Aside0.mk (below_step HB1.out hb)); clear hb)
    go_ret
    exact ⟨rfl, HB2.out⟩
  | true =>
    rw [hks] at HV
    obtain ⟨hl1, hl8⟩ := okStk_len hks
    have HOK := Aside0.mk (fun W hb => photoOK_at 200 (by omega) A0 c0 s x W (Kd.C_below HR.out hb) hc hl8 (okStk_bounds hks))
    clear hks
    generalize photoOk s x = pk at HOK ⊢
    go_enter Tryd.func20, Tryd.ntmps20
    go_wp2_with (first
      | (go_at_call 33; refine (HV.out _ HB1.out).mono ?_; rintro e w2 ⟨rfl, hb⟩; (have HB2 := Aside0.mk (below_step HB1.out hb)); (have HK2 := Aside0.mk (blk_below HK1.out hb)); clear hb; (have hq0 := (blk_cell HK2.out 0).trans rfl); (have hq1 := (blk_cell HK2.out 1).trans rfl); (have hq2 := (blk_cell HK2.out 2).trans rfl); (have hq3 := (blk_cell HK2.out 3).trans rfl); (have hq4 := (blk_cell HK2.out 4).trans rfl); (have hq5 := (blk_cell HK2.out 5).trans rfl); (have hq6 := (blk_cell HK2.out 6).trans rfl); (have hq7 := (blk_cell HK2.out 7).trans rfl); (have hq8 := (blk_cell HK2.out 8).trans rfl); (have hq9 := (blk_cell HK2.out 9).trans rfl); (have hq10 := (blk_cell HK2.out 10).trans rfl); (have hq11 := (blk_cell HK2.out 11).trans rfl); (have hq12 := (blk_cell HK2.out 12).trans rfl); (have hq13 := (blk_cell HK2.out 13).trans rfl); (have hq14 := (blk_cell HK2.out 14).trans rfl); (have hq15 := (blk_cell HK2.out 15).trans rfl))
      | (go_at_call 38; refine (HOK.out _ HB2.out).mono ?_; rintro e w3 ⟨rfl, hb⟩; (have HB3 := Aside0.mk (below_step HB2.out hb)); clear hb))
    go_ret
    exact ⟨by first | rfl | simp, HB3.out⟩
set_option maxHeartbeats 2000000 in
set_option maxRecDepth 100000 in
theorem specPhotoText_at (A0 : Option Addr) (c0 : Nat) (s : List Int) (x : Ph) (w : World) (hx : phIn x) (hr : Kd.C (Kd.int .u8) w A0 s.length s) (hc : s.length ≤ c0) (hn : s.length ≤ 1048576) :
    Calls Tryd.prog 6 #[.slice A0 s.length c0, .agg #[.int .u64 x.f0.f0, .int .u64 x.f0.f1, .int .u64 x.f1.f0, .int .u64 x.f1.f1, .int .u64 x.f2.f0, .int .u64 x.f2.f1, .int .u64 x.f3.f0, .int .u64 x.f3.f1, .int .u64 x.f4.f0, .int .u64 x.f4.f1, .int .u64 x.f5.f0, .int .u64 x.f5.f1, .int .u64 x.f6.f0, .int .u64 x.f6.f1, .int .u64 x.f7.f0, .int .u64 x.f7.f1]] w fun e w' => e = .returned (.string (photoText s x)) ∧ Below w.heap.size w w' := by
  have HR := Aside0.mk hr
  have HB1 := Aside0.mk (below_alloc (Below.refl w.heap.size w) (.cells #[.int .u64 x.f0.f0, .int .u64 x.f0.f1, .int .u64 x.f1.f0, .int .u64 x.f1.f1, .int .u64 x.f2.f0, .int .u64 x.f2.f1, .int .u64 x.f3.f0, .int .u64 x.f3.f1, .int .u64 x.f4.f0, .int .u64 x.f4.f1, .int .u64 x.f5.f0, .int .u64 x.f5.f1, .int .u64 x.f6.f0, .int .u64 x.f6.f1, .int .u64 x.f7.f0, .int .u64 x.f7.f1] 31))
  have HK1 := Aside0.mk (blk_new w (.cells #[.int .u64 x.f0.f0, .int .u64 x.f0.f1, .int .u64 x.f1.f0, .int .u64 x.f1.f1, .int .u64 x.f2.f0, .int .u64 x.f2.f1, .int .u64 x.f3.f0, .int .u64 x.f3.f1, .int .u64 x.f4.f0, .int .u64 x.f4.f1, .int .u64 x.f5.f0, .int .u64 x.f5.f1, .int .u64 x.f6.f0, .int .u64 x.f6.f1, .int .u64 x.f7.f0, .int .u64 x.f7.f1] 31))
  have HX := Aside0.mk hx
  have HV := Aside0.mk (fun W hb => specValidPhoto_at A0 c0 s x W (Kd.C_below HR.out hb) hc hn)
  obtain ⟨r, hres⟩ : ∃ r, r = photoText s x := ⟨_, rfl⟩
  rw [← hres]
  have HRES := Aside0.mk hres
  clear hr hx hres
  cases hok : (okStk s && photoOk s x) with
  | false =>
    have HE := Aside0.mk (show r = ⟨#[]⟩ by rw [HRES.out]; unfold photoText; rw [hok]; rfl)
    rw [hok] at HV
    clear hok HRES
    go_enter Tryd.func6, Tryd.ntmps6
    go_wp2_with (go_at_call 17; refine (HV.out _ HB1.out).mono ?_; rintro e w2 ⟨rfl, hb⟩; (have HB2 := Aside0.mk (below_step HB1.out hb)); clear hb)
    go_ret
    exact ⟨by rw [HE.out]; rfl, HB2.out⟩
  | true =>
    have HE := Aside0.mk (show r = txtDown (phT s x) s.length by rw [HRES.out]; unfold photoText; rw [hok]; rfl)
    rw [hok] at HV
    obtain ⟨hks, ho⟩ := Bool.and_eq_true_iff.1 hok
    have HOK := Aside0.mk (fun W hb hp => l05Text_at A0 c0 s x ⟨w.heap.size, 0, none⟩ W (Kd.C_below HR.out hb) hc hks ho HX.out hp)
    clear hok HRES hks ho
    go_enter Tryd.func6, Tryd.ntmps6
    go_wp2_with (first
      | (go_at_call 17; refine (HV.out _ HB1.out).mono ?_; rintro e w2 ⟨rfl, hb⟩; (have HB2 := Aside0.mk (below_step HB1.out hb)); (have HK2 := Aside0.mk (blk_below HK1.out hb)); clear hb)
      | (go_at_call 18; refine (HOK.out _ HB2.out (phAt_box HK2.out)).mono ?_; rintro e w3 ⟨rfl, hb⟩; (have HB3 := Aside0.mk (below_step HB2.out hb)); clear hb))
    go_ret
    exact ⟨by rw [HE.out]; rfl, HB3.out⟩
theorem to_photo (x : Ph) : laws_toPhoto.f 40 x.f0.f0 x.f0.f1 x.f1.f0 x.f1.f1 x.f2.f0 x.f2.f1 x.f3.f0 x.f3.f1 x.f4.f0 x.f4.f1 x.f5.f0 x.f5.f1 x.f6.f0 x.f6.f1 x.f7.f0 x.f7.f1 = some (x.f0.f0, x.f0.f1, x.f1.f0, x.f1.f1, x.f2.f0, x.f2.f1, x.f3.f0, x.f3.f1, x.f4.f0, x.f4.f1, x.f5.f0, x.f5.f1, x.f6.f0, x.f6.f1, x.f7.f0, x.f7.f1) := by kernel_rfl
end Go.Proofs.YtgfimdoildaonaaDoor.P

/- Helpers for impl's PhotoText: rows of strings, joined; the end of a round; a row of whole numbers. -/
namespace Go.Proofs.YtgfimdoildaonaaDoor.P
open Go.RowKit Go.Shelf Go.Proofs.YtgfimdoildaonaaDoorW.PrintWords Go.Proofs.YtgfimdoildaonaaDoorW.PrintLast Go.Proofs.YtgfimdoildaonaaDoorW.PrintMore
set_option linter.unusedVariables false
set_option linter.unusedSimpArgs false

theorem itoaGo (n : Int) (w : World) (hT : Tab w) (h0 : -9223372036854775808 ≤ n) (h1 : n ≤ 9223372036854775807) :
    Calls Tryd.prog 24 #[.int .i64 n] w fun e w' => e = .returned (.string (dec n)) ∧ Below w.heap.size w w' := by
  refine (Tryd.strconv_Itoa n h0 h1 _ hT.tab).mono ?_
  rintro e w' ⟨rfl, k, os, hw⟩
  exact ⟨rfl, by rw [hw]; exact Lib.below_grow _ _ (Nat.le_refl _) k os⟩
theorem join_own (b : Nat) (v : Value) (xs : List ByteArray) (sep : ByteArray) (W : World) (h : W.ownsRow b 9 1 v xs.length (encs Value.string xs)) (hn : v ≠ .slice none 0 0) (hN : xs.length ≤ 140737488355328) (hlen : (Lib.join (xs.map (·.data.toList)) sep.data.toList).length ≤ 140737488355328) :
    Calls Tryd.prog 25 #[v, .string sep] W fun e w' => e = .returned (.string ⟨(Lib.join (xs.map (·.data.toList)) sep.data.toList).toArray⟩) ∧ Below W.heap.size W w' := by
  rcases h.2 with ⟨h0, _⟩ | ⟨g, cap, cur, rfl, hg, hcur, hcap, _, _, htk⟩
  · exact (hn h0).elim
  have hcells : ∀ (j : Nat) x, xs[j]? = some x → W.cell? ⟨g, 0 + j, none⟩ = some (.string x) := by
    intro j x hj
    have hjl : j < xs.length := (List.getElem?_eq_some_iff.1 hj).1
    rw [Nat.zero_add, blk_cell hcur]
    have h2 : (encs Value.string xs)[j]? = some (.string x) := by
      unfold encs; rw [List.getElem?_map, hj]; rfl
    rw [← htk, List.getElem?_take_of_lt (by omega)] at h2
    simpa using h2
  exact Tryd.strings_Join g 0 cap xs sep W hcells (blk_lt hcur) hN hcap hlen
/-- What a round leaves behind when it has put one text more on the parts. -/
theorem rEnd {n : Nat} {w2 W W1 w4 : World} {v v1 st : Value} {k k1 : Nat} {xs ys : List Value} (B0 : Nat) (hn : n = w2.heap.size)
    (hv : Boxed W (n + 1) 52 v) (hrow : W.ownsRow n 9 1 v k xs) (hs : Boxed W (n + 1 + 1) 27 st) (hB : Below n w2 W) (hBW : Below W.heap.size W W1)
    (hown4 : w4.ownsRow n 9 1 v1 k1 ys) (hg4 : W1.grownBy w4 v.ownBlock) :
    Boxed w4 (n + 1) 52 v ∧ KeepsFrom B0 W (w4.setCell ⟨n + 1, 0, none⟩ v1) ∧ KpB n (n + 1 + 1) W (w4.setCell ⟨n + 1, 0, none⟩ v1) ∧
    ((∃ v, Boxed (w4.setCell ⟨n + 1, 0, none⟩ v1) (n + 1) 52 v ∧ (w4.setCell ⟨n + 1, 0, none⟩ v1).ownsRow n 9 1 v k1 ys) ∧ Boxed (w4.setCell ⟨n + 1, 0, none⟩ v1) (n + 1 + 1) 27 st) ∧ Below n w2 (w4.setCell ⟨n + 1, 0, none⟩ v1) := by
  have hne1 : some (n + 1) ≠ v.ownBlock := hv.not_row (by decide) hrow
  have hne2 : some (n + 1 + 1) ≠ v.ownBlock := hs.not_row (by decide) hrow
  have hv4 : Boxed w4 (n + 1) 52 v := blk_grown (blk_below hv hBW) hg4 hne1
  have hs4 : Boxed w4 (n + 1 + 1) 27 st := blk_grown (blk_below hs hBW) hg4 hne2
  have hsz : n ≤ W.heap.size := by rw [hn]; exact hB.size
  have hbW1 : Below n W W1 := hBW.mono hsz
  have hb4 : Below n W w4 := hbW1.grown hg4 (Nat.le_trans hsz hBW.size) (fun j ej => by
    rcases hrow.2 with ⟨rfl, _⟩ | ⟨g, cap, cur, rfl, hb, _, _⟩
    · simp [Value.ownBlock] at ej
    · obtain rfl : g = j := by simpa [Value.ownBlock] using ej
      exact hb)
  have hk4 : KeepsFrom B0 W w4 := (keepsFrom_below hBW).trans ((KeepsOthers.of_grownBy hg4 (fun j o ej hj => by
      have hrow2 := own_move hrow (fun k hk => hBW.block k (own_lt hrow k hk))
      obtain ⟨cells, hcl⟩ := own_typed hrow2 j ej
      rw [hcl] at hj; cases hj; rfl)).from _)
  have hset : Below n w4 (w4.setCell ⟨n + 1, 0, none⟩ v1) := (Below.refl _ _).setCell (p := ⟨n + 1, 0, none⟩) (by show n ≤ n + 1; omega) _
  refine ⟨hv4, hk4.trans ((KeepsOthers.setCell _ _ _).from _), ⟨hb4.trans hset, (blk_far hs4 (p := ⟨n + 1, 0, none⟩) (by show _ ≠ n + 1; omega) _).trans hs.symm⟩, ⟨⟨v1, hv4.set _, ?_⟩, ?_⟩, hB.trans (hb4.trans hset)⟩
  · exact own_move hown4 (fun k hk => Below.heap_setCell w4 ⟨n + 1, 0, none⟩ _ k (by
      rintro rfl
      exact (hv4.not_row (by decide) hown4) hk.symm))
  · exact blk_far hs4 (p := ⟨n + 1, 0, none⟩) (by show _ ≠ n + 1; omega) _
/-- A row of whole numbers, read at any place. -/
def IRow (W : World) (A : Option Addr) (L : List Int) : Prop := ∀ (j : Nat) (x : Int), L[j]? = some x → ∃ (g : Nat) (cur : Array Value), A = some ⟨g, 0, none⟩ ∧ W.heap[g]? = some (.cells cur 3 (0, 0)) ∧ cur[j]? = some (Value.int .i64 x)
theorem IRow.below {W W' : World} {A : Option Addr} {L : List Int} (h : IRow W A L) (hb : Below W.heap.size W W') : IRow W' A L := fun j x hj => by
  obtain ⟨g, cur, e, h1, h2⟩ := h j x hj
  exact ⟨g, cur, e, blk_below h1 hb, h2⟩
theorem IRow.grown {W W' : World} {A : Option Addr} {L : List Int} (h : IRow W A L) {v : Value} {b k : Nat} {xs : List Value} (ho : W.ownsRow b 9 1 v k xs) (hg : W.grownBy W' v.ownBlock) : IRow W' A L := fun j x hj => by
  obtain ⟨g, cur, e, h1, h2⟩ := h j x hj
  refine ⟨g, cur, e, blk_grown h1 hg ?_, h2⟩
  intro he
  obtain ⟨cells, hcl⟩ := own_typed ho g he.symm
  rw [h1] at hcl
  cases hcl
theorem irow_of {W : World} {b : Nat} {ok : Nat → Prop} {v : Value} {L : List Int} (h : Kd.R (Kd.int .i64) 3 W b ok v L) : ∃ A c, v = .slice A L.length c ∧ L.length ≤ c ∧ IRow W A L := by
  have ho := Kd.own_of_R h
  rcases ho.2 with ⟨rfl, h0⟩ | ⟨g, cap, cur, rfl, hg, hcur, hcap, _, _, htk⟩
  · have hL : L = [] := by cases L with | nil => rfl | cons _ _ => simp at h0
    subst hL
    exact ⟨none, 0, rfl, Nat.le_refl _, fun j x hj => by simp at hj⟩
  · refine ⟨some ⟨g, 0, none⟩, cap, rfl, hcap, fun j x hj => ⟨g, cur, rfl, hcur, ?_⟩⟩
    have hjl : j < L.length := (List.getElem?_eq_some_iff.1 hj).1
    have h2 : (encs (Value.int .i64) L)[j]? = some (.int .i64 x) := by
      unfold encs; rw [List.getElem?_map, hj]; rfl
    rw [← htk, List.getElem?_take_of_lt (by omega)] at h2
    simpa using h2
end Go.Proofs.YtgfimdoildaonaaDoor.P
