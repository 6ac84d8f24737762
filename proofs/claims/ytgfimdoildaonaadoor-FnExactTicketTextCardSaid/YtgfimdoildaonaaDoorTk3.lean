/- Joined texts, in the order in which they were built alone: STx, Loops, PlawstoDigits, DTx, Pspecl07Check, Chk. -/
import Derived.Test.YtgfimdoildaonaaDoorTk2
import Derived.Test.YtgfimdoildaonaaDoorTk0
/- spec's l01Text and DigitsText; impl.DigitsText: the same text. -/
namespace Go.Proofs.YtgfimdoildaonaaDoor.P
open Go.RowKit Go.Proofs.YtgfimdoildaonaaDoorW.PrintWords Go.Proofs.YtgfimdoildaonaaDoorW.PrintLast Go.Proofs.YtgfimdoildaonaaDoorW.PrintMore
set_option linter.unusedVariables false
set_option linter.unusedSimpArgs false
/-- The texts of the places below n, the last one first, with colons between. -/
def txtDown (f : Nat → ByteArray) : Nat → ByteArray
  | 0 => ⟨#[]⟩
  | m + 1 => f m ++ ((if 0 < m then ⟨#[58]⟩ else ⟨#[]⟩) ++ txtDown f m)
theorem txtDown_join (f : Nat → ByteArray) : ∀ n, txtDown f n = ⟨(Lib.join (((List.range n).map f).reverse.map (·.data.toList)) [58]).toArray⟩ := by
  intro n
  induction n with
  | zero => rfl
  | succ m ih =>
    rw [List.range_succ, List.map_append, List.reverse_append, List.map_append]
    simp only [txtDown, List.map_cons, List.map_nil, List.reverse_cons, List.reverse_nil, List.nil_append, List.singleton_append]
    cases m with
    | zero => apply ByteArray.ext; simp [txtDown, Lib.join_one]
    | succ q =>
      rw [if_pos (by omega), ih]
      have hne : ∃ y r, (((List.range (q + 1)).map f).reverse.map (·.data.toList)) = y :: r := by
        rw [List.range_succ, List.map_append, List.reverse_append, List.map_append]
        exact ⟨_, _, rfl⟩
      obtain ⟨y, r, hyr⟩ := hne
      rw [hyr, join_two]
      apply ByteArray.ext
      simp
theorem txtDown_size (f : Nat → ByteArray) (n : Nat) (h : ∀ i, i < n → (f i).size ≤ 100) : (txtDown f n).size ≤ 101 * n := by
  induction n with
  | zero => show (⟨#[]⟩ : ByteArray).size ≤ _; simp [ByteArray.size]
  | succ m ih =>
    have h1 := h m (by omega)
    have h2 := ih (fun i hi => h i (by omega))
    have h3 : (if 0 < m then (⟨#[58]⟩ : ByteArray) else ⟨#[]⟩).size ≤ 1 := by split <;> simp [ByteArray.size]
    simp only [txtDown, ByteArray.size_append]
    omega
theorem dec_size1 {n : Int} (h0 : 0 ≤ n) (h1 : n < 10) : (dec n).size = 1 := by rw [dec_digit h0 h1]; rfl
theorem dec_size2 {n : Int} (h0 : 10 ≤ n) (h1 : n < 100) : (dec n).size = 2 := by
  rw [dec_more h0, ByteArray.size_append, dec_size1 (by omega) (by omega), dec_size1 (by omega) (by omega)]
theorem digT_eq {b d : Int} (h0 : 2 ≤ b) (h1 : b ≤ 100) (h2 : 0 ≤ d) (h3 : d < b) : spec_l01Digit.f b d = some (digT b d) := by
  have hw : wrap64 d = d := by unfold wrap64; omega
  unfold spec_l01Digit.f specDecimal.f
  rw [hw, if_pos (by omega), Option.bind_some]
  unfold digT padT
  have e0 : (⟨(Lib.repeatL [48] 0).toArray⟩ : ByteArray) ++ dec d = dec d := by apply ByteArray.ext; simp [Lib.repeatL]
  by_cases hb : b > 10
  · rw [if_pos hb, dec_size2 (show 10 ≤ b - 1 by omega) (by omega)]
    by_cases hd : d < 10
    · rw [if_pos hd, dec_size1 h2 hd, if_pos (by omega), Lib.repeatL_one]
    · rw [if_neg hd, dec_size2 (show 10 ≤ d by omega) (by omega), e0]
  · rw [if_neg hb, dec_size1 (show 0 ≤ b - 1 by omega) (by omega), dec_size1 h2 (by omega), e0]
theorem okDg_all {s : List Int} {d : Dg} (h : okDg s d = true) : okStk s = true ∧ ∀ i : Nat, i < s.length → nth (dlist d) i < rd s i := by
  unfold okDg at h
  simp only [Bool.and_eq_true] at h
  refine ⟨h.1, fun i hi => ?_⟩
  have hl := (okStk_len h.1).2
  have := List.all_eq_true.1 h.2 i (List.mem_range.2 (by omega))
  unfold okD at this
  rw [if_pos hi] at this
  exact of_decide_eq_true this
theorem stT_size (s : List Int) (d : Dg) (h : okDg s d = true) (hd : ∀ i : Nat, i < 8 → 0 ≤ nth (dlist d) i ∧ nth (dlist d) i ≤ 255) (i : Nat) (hi : i < s.length) : (stT s d i).size ≤ 100 := by
  obtain ⟨hk, ho⟩ := okDg_all h
  have hl := okStk_len hk
  have hb := okStk_base hk i hi
  have hd2 := hd i (by omega)
  exact padT_le _ _ (by omega) (by omega) (dec_size _ (by omega) (by omega))
theorem stTxt_eq (s : List Int) (d : Dg) : stTxt s d = txtDown (stT s d) s.length := (txtDown_join _ _).symm

set_option maxHeartbeats 2000000 in
set_option maxRecDepth 100000 in
theorem l01Text_at (A0 : Option Addr) (c0 : Nat) (s : List Int) (d : Dg) (w : World) (hr : Kd.C (Kd.int .u8) w A0 s.length s) (hc : s.length ≤ c0) (hok : okDg s d = true) (hd : ∀ i : Nat, i < 8 → 0 ≤ nth (dlist d) i ∧ nth (dlist d) i ≤ 255) :
    Calls Tryd.prog 27 #[.slice A0 s.length c0, .agg #[.int .u8 d.f0, .int .u8 d.f1, .int .u8 d.f2, .int .u8 d.f3, .int .u8 d.f4, .int .u8 d.f5, .int .u8 d.f6, .int .u8 d.f7]] w fun e w' => e = .returned (.string (stTxt s d)) ∧ Below w.heap.size w w' := by
  have HR := Aside0.mk hr
  obtain ⟨hk, ho⟩ := okDg_all hok
  have hl8 := (okStk_len hk).2
  have HBA := Aside0.mk (okStk_base hk)
  have HO := Aside0.mk ho
  have HDA := Aside0.mk hd
  have HSZ := Aside0.mk (txtDown_size (stT s d) s.length (stT_size s d hok hd))
  rw [stTxt_eq]
  obtain ⟨total, htot⟩ : ∃ t, t = txtDown (stT s d) s.length := ⟨_, rfl⟩
  rw [← htot] at HSZ ⊢
  have HTOT := Aside0.mk htot
  clear hr hok hk ho hd htot
  have HB1 := Aside0.mk (below_alloc (Below.refl w.heap.size w) (.cells #[.int .u8 d.f0, .int .u8 d.f1, .int .u8 d.f2, .int .u8 d.f3, .int .u8 d.f4, .int .u8 d.f5, .int .u8 d.f6, .int .u8 d.f7] 37))
  have HK1 := Aside0.mk (blk_new w (.cells #[.int .u8 d.f0, .int .u8 d.f1, .int .u8 d.f2, .int .u8 d.f3, .int .u8 d.f4, .int .u8 d.f5, .int .u8 d.f6, .int .u8 d.f7] 37))
  go_enter Tryd.func27, Tryd.ntmps27
  go_wp2_with fail
  go_loopw [5, 6] (fun o i wr => ∃ (j : Nat) (out : ByteArray), j ≤ s.length ∧ i = .int .i64 ((j : Int) - 1) ∧ o = .string out ∧ Aside0 (out ++ txtDown (stT s d) j = total) ∧ Aside0 (Below w.heap.size w wr) ∧ Aside0 (wr.heap[w.heap.size]? = some (.cells #[.int .u8 d.f0, .int .u8 d.f1, .int .u8 d.f2, .int .u8 d.f3, .int .u8 d.f4, .int .u8 d.f5, .int .u8 d.f6, .int .u8 d.f7] 37 (0, 0)))) (fun _ i _ => (intOf i + 1).toNat)
  case atStart => exact ⟨s.length, ⟨#[]⟩, Nat.le_refl _, rfl, rfl, ⟨by rw [HTOT.out]; apply ByteArray.ext; simp⟩, HB1, HK1⟩
  case round =>
    clear HB1 HK1
    obtain ⟨j, out, hj, rfl, rfl, HE, HB, HK⟩ := hrel
    cases j with
    | zero =>
      have HE2 := Aside0.mk (show out = total by rw [← HE.out]; apply ByteArray.ext; simp [txtDown])
      clear HE
      go_wp2_with fail
      go_ret
      exact ⟨by rw [← HE2.out]; rfl, HB.out⟩
    | succ m =>
      have hi : ((m + 1 : Nat) : Int) - 1 = (m : Int) := by omega
      rw [hi]
      clear hi
      have hm0 : (0 : Int) ≤ (m : Int) := by omega
      have hm1 : (m : Int) < (s.length : Int) := by omega
      have hm8 : (m : Int) < 8 := by omega
      obtain ⟨ad, e, hx⟩ := Kd.at_int HR.out (m : Int) (by omega) (by omega)
      cases e
      rw [Int.toNat_natCast] at hx
      replace hx := (HB.out.cell (World.block_lt_of_cell? w _ hx)).trans hx
      have hdc : wr.cell? ⟨w.heap.size, m, none⟩ = some (.int .u8 (nth (dlist d) m)) := by
        have := (blk_cell HK.out m).trans (arr_nth .u8 (dlist d) (m : Int) 8 rfl hm0 hm8)
        exact this
      have hT := digT_eq (HBA.out m (by omega)).1 (HBA.out m (by omega)).2 (HDA.out m (by omega)).1 (HO.out m (by omega))
      have HT := Aside0.mk (show spec_l01Digit.f (rd s m) (nth (dlist d) m) = some (stT s d m) from hT)
      have HE1 := Aside0.mk (show out ++ (stT s d m ++ ((if 0 < m then ⟨#[58]⟩ else ⟨#[]⟩) ++ txtDown (stT s d) m)) = total from HE.out)
      have hsz : out.size + (stT s d m).size + 1 ≤ 101 * s.length + 1 := by
        have h := congrArg ByteArray.size HE1.out
        simp only [ByteArray.size_append] at h
        have := HSZ.out
        omega
      clear HE hT
      generalize rd s (m : Int) = bx at hx HT
      generalize nth (dlist d) (m : Int) = dx at hdc HT
      generalize stT s d m = txt at HT HE1 hsz
      have s1 : (9223372036854775807 < out.size + txt.size) = False := eq_false (by omega)
      have s2 : (9223372036854775807 < out.size + txt.size + 1) = False := eq_false (by omega)
      go_wp2_with fail
      refine start_ (n := 11) (S := fun w' => w'.cell? (ad.add m) = some (.int .u8 bx) ∧ w'.cell? ⟨w.heap.size, m, none⟩ = some (.int .u8 dx)) (ds := []) #[false, false, false, false, false, false, false, false, false, false, false] (by kernel_rfl) rfl rfl ⟨hx, hdc⟩ (fun hHeld => ?_)
      have HBW := Aside0.mk (below_drew1 (Below.refl wr.heap.size wr))
      generalize wr.drew = W1 at HBW hHeld ⊢
      refine pure_ (i := 0) (N := (some 14)) (v := ?_) (a' := ?_) #[true, false, false, false, false, false, false, false, false, false, false] rfl rfl (by kernel_rfl) (fun _ _ _ h => h) (Or.inl ⟨by rfl, ?_⟩) ?_ ?_
      rotate_left
      · intro w'
        go_simp
        with_reducible rfl
      rotate_left
      · simp only [Act.put, List.setIfInBounds_toArray, List.set_cons_zero, List.set_cons_succ, i64_w, i32_w]
        rfl
      refine pure_ (i := 1) (N := (some 15)) (v := ?_) (a' := ?_) #[true, true, false, false, false, false, false, false, false, false, false] rfl rfl (by kernel_rfl) (fun _ _ _ h => h) (Or.inl ⟨by rfl, ?_⟩) ?_ ?_
      rotate_left
      · intro w'
        go_simp
        with_reducible rfl
      rotate_left
      · simp only [Act.put, List.setIfInBounds_toArray, List.set_cons_zero, List.set_cons_succ, i64_w, i32_w]
        rfl
      refine pure_ (i := 2) (N := (some 16)) (v := ?_) (a' := ?_) #[true, true, true, false, false, false, false, false, false, false, false] rfl rfl (by kernel_rfl) (fun _ _ _ h => h) (Or.inl ⟨by rfl, ?_⟩) ?_ ?_
      rotate_left
      · intro w'
        go_simp
        with_reducible rfl
      rotate_left
      · simp only [Act.put, List.setIfInBounds_toArray, List.set_cons_zero, List.set_cons_succ, i64_w, i32_w]
        rfl
      refine pure_ (i := 3) (N := (some 17)) (v := ?_) (a' := ?_) #[true, true, true, true, false, false, false, false, false, false, false] rfl rfl (by kernel_rfl) (fun _ _ _ h => h) (Or.inl ⟨by rfl, ?_⟩) ?_ ?_
      rotate_left
      · intro w'
        go_simp
        with_reducible rfl
      rotate_left
      · simp only [Act.put, List.setIfInBounds_toArray, List.set_cons_zero, List.set_cons_succ, i64_w, i32_w]
        rfl
      refine take_ (i := 4) (N := (some 18)) (v := ?_) (a' := ?_) #[true, true, true, true, true, false, false, false, false, false, false] rfl rfl (by kernel_rfl) (fun _ _ _ h => h) (Or.inl ⟨by rfl, ?_⟩) hHeld ?_ ?_
      rotate_left
      · rintro w' ⟨s0, s1⟩
        go_simp
        with_reducible rfl
      rotate_left
      · simp only [Act.put, List.setIfInBounds_toArray, List.set_cons_zero, List.set_cons_succ, i64_w, i32_w]
        rfl
      refine pure_ (i := 5) (N := (some 19)) (v := ?_) (a' := ?_) #[true, true, true, true, true, true, false, false, false, false, false] rfl rfl (by kernel_rfl) (fun _ _ _ h => h) (Or.inl ⟨by rfl, ?_⟩) ?_ ?_
      rotate_left
      · intro w'
        go_simp
        with_reducible rfl
      rotate_left
      · simp only [Act.put, List.setIfInBounds_toArray, List.set_cons_zero, List.set_cons_succ, i64_w, i32_w]
        rfl
      refine pure_ (i := 6) (N := (some 20)) (v := ?_) (a' := ?_) #[true, true, true, true, true, true, true, false, false, false, false] rfl rfl (by kernel_rfl) (fun _ _ _ h => h) (Or.inl ⟨by rfl, ?_⟩) ?_ ?_
      rotate_left
      · intro w'
        go_simp
        with_reducible rfl
      rotate_left
      · simp only [Act.put, List.setIfInBounds_toArray, List.set_cons_zero, List.set_cons_succ, i64_w, i32_w]
        rfl
      refine take_ (i := 7) (N := (some 21)) (v := ?_) (a' := ?_) #[true, true, true, true, true, true, true, true, false, false, false] rfl rfl (by kernel_rfl) (fun _ _ _ h => h) (Or.inl ⟨by rfl, ?_⟩) hHeld ?_ ?_
      rotate_left
      · rintro w' ⟨s0, s1⟩
        go_simp
        with_reducible rfl
      rotate_left
      · simp only [Act.put, List.setIfInBounds_toArray, List.set_cons_zero, List.set_cons_succ, i64_w, i32_w]
        rfl
      refine one_ (i := 8) (N := (some 22)) #[true, true, true, true, true, true, true, true, true, false, false] rfl rfl (by kernel_rfl) (by decide) (fun K hK => ?_)
      refine goes_ Tryd.func47 (by kernel_rfl) rfl #[.int .u8 bx, .int .u8 dx] (by rfl) rfl rfl (by (try simp only [List.map_toArray, List.map_cons, List.map_nil]); first | done | rfl) ?_
      with_reducible refine (spec_l01Digit.calls bx dx txt _ HT.out).mono ?_
      rintro e w2 ⟨rfl, hb⟩
      refine ⟨_, rfl, ?_⟩
      have n0_ := Aside0.mk (below_step HBW.out hb)
      clear hb HBW
      have HBW := n0_
      clear n0_
      refine hK.out _ _ ⟨(HBW.out.cell (World.block_lt_of_cell? _ _ hx)).trans hx, (HBW.out.cell (World.block_lt_of_cell? _ _ hdc)).trans hdc⟩ (fun hHeld => ?_)
      clear hK K
      refine norm_ (a' := ?_) ?_ ?_
      rotate_left
      · show Act.put _ (some 22) _ = _
        simp only [Act.put, List.setIfInBounds_toArray, List.set_cons_zero, List.set_cons_succ, i64_w, i32_w]
        rfl
      refine pure_ (i := 9) (N := (some 23)) (v := ?_) (a' := ?_) #[true, true, true, true, true, true, true, true, true, true, false] rfl rfl (by kernel_rfl) (fun _ _ _ h => h) (Or.inl ⟨by rfl, ?_⟩) ?_ ?_
      rotate_left
      · intro w'
        go_simp
        with_reducible rfl
      rotate_left
      · simp only [Act.put, List.setIfInBounds_toArray, List.set_cons_zero, List.set_cons_succ, i64_w, i32_w]
        rfl
      refine pure_ (i := 10) (N := (some 5)) (v := ?_) (a' := ?_) #[true, true, true, true, true, true, true, true, true, true, true] rfl rfl (by kernel_rfl) (fun _ _ _ h => h) (Or.inl ⟨by rfl, ?_⟩) ?_ ?_
      rotate_left
      · intro w'
        go_simp
        with_reducible rfl
      rotate_left
      · simp only [Act.put, List.setIfInBounds_toArray, List.set_cons_zero, List.set_cons_succ, i64_w, i32_w]
        rfl
      refine done_ (by kernel_rfl) ?_
      have HB2 := Aside0.mk (below_step HB.out HBW.out)
      have HK2 := Aside0.mk (blk_below HK.out HBW.out)
      by_cases hz : 0 < m
      · have hmp : decide (0 < (m : Int)) = true := decide_eq_true (by omega)
        have HE2 := Aside0.mk (show (out ++ txt ++ ⟨#[58]⟩) ++ txtDown (stT s d) m = total by
          rw [← HE1.out, if_pos hz]; apply ByteArray.ext; simp)
        clear HE1
        go_wp2_with fail
        first
          | (go_roundw
             case rel => exact ⟨m, _, by omega, rfl, rfl, HE2, HB2, HK2⟩
             case measure => simp [intOf]; try omega)
          | exact ⟨⟨m, _, by omega, rfl, rfl, HE2, HB2, HK2⟩, by simp [intOf]; try omega⟩
      · have hmp : decide (0 < (m : Int)) = false := decide_eq_false (by omega)
        have HE2 := Aside0.mk (show (out ++ txt) ++ txtDown (stT s d) m = total by
          rw [← HE1.out, if_neg hz]; apply ByteArray.ext; simp)
        clear HE1
        go_wp2_with fail
        first
          | (go_roundw
             case rel => exact ⟨m, _, by omega, rfl, rfl, HE2, HB2, HK2⟩
             case measure => simp [intOf]; try omega)
          | exact ⟨⟨m, _, by omega, rfl, rfl, HE2, HB2, HK2⟩, by simp [intOf]; try omega⟩
end Go.Proofs.YtgfimdoildaonaaDoor.P

/- Plain laws of the loops that the laws' own helpers run: copying a list element by element, comparing two lists, asking all elements. -/
namespace Go.Proofs.YtgfimdoildaonaaDoor.P
open Go.RowKit Go.Proofs.YtgfimdoildaonaaDoorW.PrintWords Go.Proofs.YtgfimdoildaonaaDoorW.PrintLast Go.Proofs.YtgfimdoildaonaaDoorW.PrintMore
set_option linter.unusedVariables false

theorem wrap_succ {i : Nat} (h : i < 9223372036854775807) : wrap64 ((i : Int) + 1) = ((i + 1 : Nat) : Int) := by
  unfold wrap64; omega
theorem wrap_pred {i : Nat} (h0 : 0 < i) (h : i < 9223372036854775807) : wrap64 ((i : Int) - 1) = ((i - 1 : Nat) : Int) := by
  unfold wrap64; omega

/-- for i := range out { out[i] = conv(xs[i]) } -/
theorem map_loop {α β : Type} (d : α) (conv : α → β) (xs : List α) (F : Nat → List β → Int → Option (List β)) (hn : xs.length < 9223372036854775807)
    (hrec : ∀ k ys (i : Nat), i < xs.length → ys.length = xs.length → F (k + 1) ys i = F k (ys.set i (conv (xs.getD i d))) (wrap64 ((i : Int) + 1)))
    (hend : ∀ k ys, F (k + 1) ys (xs.length : Int) = some ys) :
    ∀ (m k i : Nat) (ys : List β), i + m = xs.length → m < k → ys.length = xs.length → F k ys i = some (ys.take i ++ (xs.drop i).map conv) := by
  intro m
  induction m with
  | zero =>
    intro k i ys hi hk hl
    obtain ⟨k, rfl⟩ : ∃ j, k = j + 1 := ⟨k - 1, by omega⟩
    obtain rfl : i = xs.length := by omega
    rw [hend, List.drop_length, ← hl, List.take_length]; simp
  | succ m ih =>
    intro k i ys hi hk hl
    obtain ⟨k, rfl⟩ : ∃ j, k = j + 1 := ⟨k - 1, by omega⟩
    have hlt : i < xs.length := by omega
    rw [hrec k ys i hlt hl, wrap_succ (by omega), ih k (i + 1) _ (by omega) (by omega) (by simpa using hl)]
    congr 1
    rw [List.take_succ_eq_append_getElem (by rw [List.length_set]; omega), List.getElem_set_self, List.take_set, List.drop_eq_getElem_cons hlt]
    rw [List.set_eq_of_length_le (by simp; omega), List.getD_eq_getElem?_getD, List.getElem?_eq_getElem hlt]
    rw [List.map_cons, List.append_assoc]; rfl
/-- for i := range xs { if !ok(i) { return false } }; return true -/
theorem all_loop (ok : Nat → Bool) (n : Nat) (F : Nat → Int → Option Bool) (hn : n < 9223372036854775807) (c : Nat) (hc : 0 < c)
    (hyes : ∀ k (i : Nat), i < n → ok i = true → F (k + c) i = F k (wrap64 ((i : Int) + 1)))
    (hno : ∀ k (i : Nat), i < n → ok i = false → F (k + c) i = some false)
    (hend : ∀ k, F (k + 1) (n : Int) = some true) :
    ∀ (m k i : Nat), i + m = n → (m + 1) * c ≤ k → F k i = some ((List.range' i m).all ok) := by
  intro m
  induction m with
  | zero =>
    intro k i hi hk
    obtain ⟨k, rfl⟩ : ∃ j, k = j + 1 := ⟨k - 1, by omega⟩
    obtain rfl : i = n := by omega
    rw [hend]; simp
  | succ m ih =>
    intro k i hi hk
    have hck : c ≤ k := Nat.le_trans (Nat.le_mul_of_pos_left c (by omega)) hk
    obtain ⟨k, rfl⟩ : ∃ j, k = j + c := ⟨k - c, by omega⟩
    rw [List.range'_succ, List.all_cons]
    cases h : ok i with
    | true =>
      rw [hyes k i (by omega) h, wrap_succ (by omega), ih k (i + 1) (by omega) (by rw [Nat.succ_mul] at hk; omega)]
      simp
    | false => rw [hno k i (by omega) h]; simp
/-- The same, where a round needs rounds of its own (K), and the ends are whatever they are. -/
theorem all_loop2 {R : Type} (ok : Nat → Bool) (n : Nat) (F : Nat → Int → Option R) (yes no : Option R) (hn : n < 9223372036854775807) (K c : Nat) (hc : 0 < c)
    (hyes : ∀ k (i : Nat), K ≤ k → i < n → ok i = true → F (k + c) i = F k (wrap64 ((i : Int) + 1)))
    (hno : ∀ k (i : Nat), K ≤ k → i < n → ok i = false → F (k + c) i = no)
    (hend : ∀ k, K ≤ k → F (k + 1) (n : Int) = yes) :
    ∀ (m k i : Nat), i + m = n → (m + 1) * c + K ≤ k → F k i = if (List.range' i m).all ok = true then yes else no := by
  intro m
  induction m with
  | zero =>
    intro k i hi hk
    obtain ⟨k, rfl⟩ : ∃ j, k = j + 1 := ⟨k - 1, by omega⟩
    obtain rfl : i = n := by omega
    rw [hend _ (by omega)]; simp
  | succ m ih =>
    intro k i hi hk
    have hck : c + K ≤ k := Nat.le_trans (Nat.add_le_add_right (Nat.le_mul_of_pos_left c (by omega)) K) hk
    obtain ⟨k, rfl⟩ : ∃ j, k = j + c := ⟨k - c, by omega⟩
    rw [List.range'_succ, List.all_cons]
    cases h : ok i with
    | true =>
      rw [hyes k i (by omega) (by omega) h, wrap_succ (by omega), ih k (i + 1) (by omega) (by rw [Nat.succ_mul] at hk; omega), Bool.true_and]
    | false => rw [hno k i (by omega) (by omega) h, Bool.false_and, if_neg (by decide)]
/-- All places of a list, or all its elements. -/
theorem all_range {α : Type} (d : α) (p : α → Bool) (l : List α) : ((List.range' 0 l.length).all fun i => p (l.getD i d)) = l.all p := by
  rw [Bool.eq_iff_iff, List.all_eq_true, List.all_eq_true]
  constructor
  · intro h x hx
    obtain ⟨i, hi, rfl⟩ := List.getElem_of_mem hx
    have := h i (by simp [List.mem_range']; omega)
    simpa [List.getD_eq_getElem?_getD, List.getElem?_eq_getElem hi] using this
  · intro h i hi
    have hlt : i < l.length := by simpa [List.mem_range'] using hi
    have := h l[i] (List.getElem_mem hlt)
    simpa [List.getD_eq_getElem?_getD, List.getElem?_eq_getElem hlt] using this
end Go.Proofs.YtgfimdoildaonaaDoor.P

-- Written by a program of this session (a turned form of the kit's print) out of the translation.
namespace Go.Proofs.YtgfimdoildaonaaDoor.P
open Go.RowKit Go.Proofs.YtgfimdoildaonaaDoorW.PrintWords Go.Proofs.YtgfimdoildaonaaDoorW.PrintLast Go.Proofs.YtgfimdoildaonaaDoorW.PrintMore
attribute [local go_sem] max2_int min2_int max_two min_two max_three min_three max_four min_four   -- for this text's walks alone
set_option linter.unusedVariables false
set_option linter.unusedSimpArgs false

/-! ### laws_toDigits: function 12 -/
def laws_toDigits.l0 : Nat → Int → Int → Int → Int → Int → Int → Int → Int → Int → Int → Int → Int → Int → Int → Int → Int → Int → Option (Int × Int × Int × Int × Int × Int × Int × Int)
  | 0, _, _, _, _, _, _, _, _, _, _, _, _, _, _, _, _, _ => none
  | k + 1, x4, x213000, x213001, x213002, x213003, x213004, x213005, x213006, x213007, x215000, x215001, x215002, x215003, x215004, x215005, x215006, x215007 => if x4 < 8 then (if 0 ≤ x4 then (laws_toDigits.l0 k (wrap64 (x4 + 1)) x213000 x213001 x213002 x213003 x213004 x213005 x213006 x213007 (sel 0 x4 (nth [x213000, x213001, x213002, x213003, x213004, x213005, x213006, x213007] x4) x215000) (sel 1 x4 (nth [x213000, x213001, x213002, x213003, x213004, x213005, x213006, x213007] x4) x215001) (sel 2 x4 (nth [x213000, x213001, x213002, x213003, x213004, x213005, x213006, x213007] x4) x215002) (sel 3 x4 (nth [x213000, x213001, x213002, x213003, x213004, x213005, x213006, x213007] x4) x215003) (sel 4 x4 (nth [x213000, x213001, x213002, x213003, x213004, x213005, x213006, x213007] x4) x215004) (sel 5 x4 (nth [x213000, x213001, x213002, x213003, x213004, x213005, x213006, x213007] x4) x215005) (sel 6 x4 (nth [x213000, x213001, x213002, x213003, x213004, x213005, x213006, x213007] x4) x215006) (sel 7 x4 (nth [x213000, x213001, x213002, x213003, x213004, x213005, x213006, x213007] x4) x215007)) else (none)) else (some (x215000, x215001, x215002, x215003, x215004, x215005, x215006, x215007))
def laws_toDigits.f (k : Nat) (a0_0 : Int) (a0_1 : Int) (a0_2 : Int) (a0_3 : Int) (a0_4 : Int) (a0_5 : Int) (a0_6 : Int) (a0_7 : Int) : Option (Int × Int × Int × Int × Int × Int × Int × Int) := laws_toDigits.l0 k 0 a0_0 a0_1 a0_2 a0_3 a0_4 a0_5 a0_6 a0_7 0 0 0 0 0 0 0 0
theorem laws_toDigits.mono_l : ∀ k, (∀ y0 y1 y2 y3 y4 y5 y6 y7 y8 y9 y10 y11 y12 y13 y14 y15 y16, LeO (laws_toDigits.l0 k y0 y1 y2 y3 y4 y5 y6 y7 y8 y9 y10 y11 y12 y13 y14 y15 y16) (laws_toDigits.l0 (k + 1) y0 y1 y2 y3 y4 y5 y6 y7 y8 y9 y10 y11 y12 y13 y14 y15 y16))
  | 0 => fun _ _ _ _ _ _ _ _ _ _ _ _ _ _ _ _ _ r h => by simp [laws_toDigits.l0] at h
  | k + 1 => by
    have ih0 := laws_toDigits.mono_l k
    · intro y0 y1 y2 y3 y4 y5 y6 y7 y8 y9 y10 y11 y12 y13 y14 y15 y16
      unfold laws_toDigits.l0
      repeat' first
      | (with_reducible exact ih0 _ _ _ _ _ _ _ _ _ _ _ _ _ _ _ _ _)
      | (with_reducible exact LeO.refl _)
      | (with_reducible exact LeO.none _)
      | (with_reducible refine LeO.ite ?_ ?_)
      | (with_reducible refine LeO.bind ?_ (fun _ => ?_))
      | exact ih0 _ _ _ _ _ _ _ _ _ _ _ _ _ _ _ _ _
      | exact LeO.none _
      | refine LeO.ite ?_ ?_
      | refine LeO.bind ?_ (fun _ => ?_)
theorem laws_toDigits.mono : ∀ a0 a1 a2 a3 a4 a5 a6 a7 k, LeO (laws_toDigits.f k a0 a1 a2 a3 a4 a5 a6 a7) (laws_toDigits.f (k + 1) a0 a1 a2 a3 a4 a5 a6 a7) := by
  intro a0 a1 a2 a3 a4 a5 a6 a7 k
  have ih0 := laws_toDigits.mono_l k
  unfold laws_toDigits.f
  repeat' first
      | (with_reducible exact ih0 _ _ _ _ _ _ _ _ _ _ _ _ _ _ _ _ _)
      | (with_reducible exact LeO.refl _)
      | (with_reducible exact LeO.none _)
      | (with_reducible refine LeO.ite ?_ ?_)
      | (with_reducible refine LeO.bind ?_ (fun _ => ?_))
      | exact ih0 _ _ _ _ _ _ _ _ _ _ _ _ _ _ _ _ _
      | exact LeO.none _
      | refine LeO.ite ?_ ?_
      | refine LeO.bind ?_ (fun _ => ?_)
set_option maxHeartbeats 8000000 in
set_option maxRecDepth 100000 in
theorem laws_toDigits.calls (k : Nat) (a0_0 : Int) (a0_1 : Int) (a0_2 : Int) (a0_3 : Int) (a0_4 : Int) (a0_5 : Int) (a0_6 : Int) (a0_7 : Int) (r1 : Int) (r2 : Int) (r3 : Int) (r4 : Int) (r5 : Int) (r6 : Int) (r7 : Int) (r8 : Int) (w : World) (h : laws_toDigits.f k a0_0 a0_1 a0_2 a0_3 a0_4 a0_5 a0_6 a0_7 = some (r1, r2, r3, r4, r5, r6, r7, r8)) :
    Calls Tryd.prog 12 #[.agg #[.int .u8 a0_0, .int .u8 a0_1, .int .u8 a0_2, .int .u8 a0_3, .int .u8 a0_4, .int .u8 a0_5, .int .u8 a0_6, .int .u8 a0_7]] w fun e w' => e = .returned (.agg #[.int .u8 r1, .int .u8 r2, .int .u8 r3, .int .u8 r4, .int .u8 r5, .int .u8 r6, .int .u8 r7, .int .u8 r8]) ∧ Below w.heap.size w w' := by
  have hu35 := Tryd.underlying35
  have hu37 := Tryd.underlying37
  have HB := Aside0.mk (Below.refl w.heap.size w)
  have H : (laws_toDigits.l0 k 0 a0_0 a0_1 a0_2 a0_3 a0_4 a0_5 a0_6 a0_7 0 0 0 0 0 0 0 0) = some (r1, r2, r3, r4, r5, r6, r7, r8) := h
  clear h
  have H' := Aside0.mk H
  clear H
  go_enter Tryd.func12, Tryd.ntmps12
  go_wp2_with (first | ((with_reducible refine gate_dst (N := 1) rfl ?_); refine box_event ?hg (N := 1) ?hd (cs := #[.int .u8 a0_0, .int .u8 a0_1, .int .u8 a0_2, .int .u8 a0_3, .int .u8 a0_4, .int .u8 a0_5, .int .u8 a0_6, .int .u8 a0_7]) (t := 35) ?hr ?_; (case hd => rfl); (case hg => rfl); (case hr => first | (go_simp; done) | (go_simp; rfl)); intro gb212 hg w2 hbox hb; have n0_ := Aside0.mk (below_step (by repeat (first | (with_reducible first | exact HB.out | apply below_alloc | apply pw_below_drewN | apply below_drew1) | exact HB.out)) hb); have n1_ := Aside0.mk (hbox); have n2_ := Aside0.mk ((by rw [hg]; exact (below_size (by repeat (first | (with_reducible first | exact HB.out | apply below_alloc | apply pw_below_drewN | apply below_drew1) | exact HB.out))) : w.heap.size ≤ gb212)); have n3_ := Aside0.mk ((by rw [hg]; exact (below_size (by repeat (first | (with_reducible first | exact HB.out | apply below_alloc | apply pw_below_drewN | apply below_drew1) | exact HB.out))) : w.heap.size ≤ gb212)); clear HB; have HB := n0_; have BK212 := n1_; have GW212 := n2_; have GE212 := n3_; clear n0_ n1_ n2_ n3_; clear hb hbox hg) | ((with_reducible refine gate_dst (N := 2) rfl ?_); refine box_event ?hg (N := 2) ?hd (cs := #[.int .u8 0, .int .u8 0, .int .u8 0, .int .u8 0, .int .u8 0, .int .u8 0, .int .u8 0, .int .u8 0]) (t := 37) ?hr ?_; (case hd => rfl); (case hg => rfl); (case hr => first | (go_simp; done) | (go_simp; rfl)); intro gb213 hg w3 hbox hb; have n0_ := Aside0.mk (blk_below (g := gb212) (o := .cells #[.int .u8 a0_0, .int .u8 a0_1, .int .u8 a0_2, .int .u8 a0_3, .int .u8 a0_4, .int .u8 a0_5, .int .u8 a0_6, .int .u8 a0_7] 35 (0, 0)) (by (with_reducible repeat (first | refine blk_drewN ?_ _ | refine blk_drew ?_ | refine blk_alloc ?_ _)); exact BK212.out) hb); have n1_ := Aside0.mk (below_step (by repeat (first | (with_reducible first | exact HB.out | apply below_alloc | apply pw_below_drewN | apply below_drew1 | refine below_set ?_ GE212.out) | exact HB.out)) hb); have n2_ := Aside0.mk (hbox); have n3_ := Aside0.mk ((by rw [hg]; exact (below_size (by repeat (first | (with_reducible first | exact HB.out | apply below_alloc | apply pw_below_drewN | apply below_drew1 | refine below_set ?_ GE212.out) | exact HB.out))) : w.heap.size ≤ gb213)); have n4_ := Aside0.mk ((by rw [hg]; exact (below_size (by repeat (first | (with_reducible first | exact HB.out | apply below_alloc | apply pw_below_drewN | apply below_drew1 | refine below_set ?_ GE212.out) | exact HB.out))) : w.heap.size ≤ gb213)); have n5_ := Aside0.mk ((by rw [hg]; exact Nat.ne_of_lt (blk_lt (g := gb212) (o := .cells #[.int .u8 a0_0, .int .u8 a0_1, .int .u8 a0_2, .int .u8 a0_3, .int .u8 a0_4, .int .u8 a0_5, .int .u8 a0_6, .int .u8 a0_7] 35 (0, 0)) (by (with_reducible repeat (first | refine blk_drewN ?_ _ | refine blk_drew ?_ | refine blk_alloc ?_ _)); exact BK212.out)) : gb212 ≠ gb213)); have n6_ := Aside0.mk ((by rw [hg]; exact Nat.ne_of_gt (blk_lt (g := gb212) (o := .cells #[.int .u8 a0_0, .int .u8 a0_1, .int .u8 a0_2, .int .u8 a0_3, .int .u8 a0_4, .int .u8 a0_5, .int .u8 a0_6, .int .u8 a0_7] 35 (0, 0)) (by (with_reducible repeat (first | refine blk_drewN ?_ _ | refine blk_drew ?_ | refine blk_alloc ?_ _)); exact BK212.out)) : gb213 ≠ gb212)); clear BK212; clear HB; have BK212 := n0_; have HB := n1_; have BK213 := n2_; have GW213 := n3_; have GE213 := n4_; have NB212_213 := n5_; have NB213_212 := n6_; clear n0_ n1_ n2_ n3_ n4_ n5_ n6_; clear hb hbox hg) | ((with_reducible refine gate_dst (N := 3) rfl ?_); refine box_event ?hg (N := 3) ?hd (cs := #[.int .u8 0, .int .u8 0, .int .u8 0, .int .u8 0, .int .u8 0, .int .u8 0, .int .u8 0, .int .u8 0]) (t := 37) ?hr ?_; (case hd => rfl); (case hg => rfl); (case hr => first | (go_simp; done) | (go_simp; rfl)); intro gb214 hg w4 hbox hb; have n0_ := Aside0.mk (blk_below (g := gb212) (o := .cells #[.int .u8 a0_0, .int .u8 a0_1, .int .u8 a0_2, .int .u8 a0_3, .int .u8 a0_4, .int .u8 a0_5, .int .u8 a0_6, .int .u8 a0_7] 35 (0, 0)) (by (with_reducible repeat (first | refine blk_drewN ?_ _ | refine blk_drew ?_ | refine blk_alloc ?_ _)); exact BK212.out) hb); have n1_ := Aside0.mk (blk_below (g := gb213) (o := .cells #[.int .u8 0, .int .u8 0, .int .u8 0, .int .u8 0, .int .u8 0, .int .u8 0, .int .u8 0, .int .u8 0] 37 (0, 0)) (by (with_reducible repeat (first | refine blk_drewN ?_ _ | refine blk_drew ?_ | refine blk_alloc ?_ _)); exact BK213.out) hb); have n2_ := Aside0.mk (below_step (by repeat (first | (with_reducible first | exact HB.out | apply below_alloc | apply pw_below_drewN | apply below_drew1 | refine below_set ?_ GE212.out | refine below_set ?_ GE213.out) | exact HB.out)) hb); have n3_ := Aside0.mk (hbox); have n4_ := Aside0.mk ((by rw [hg]; exact (below_size (by repeat (first | (with_reducible first | exact HB.out | apply below_alloc | apply pw_below_drewN | apply below_drew1 | refine below_set ?_ GE212.out | refine below_set ?_ GE213.out) | exact HB.out))) : w.heap.size ≤ gb214)); have n5_ := Aside0.mk ((by rw [hg]; exact (below_size (by repeat (first | (with_reducible first | exact HB.out | apply below_alloc | apply pw_below_drewN | apply below_drew1 | refine below_set ?_ GE212.out | refine below_set ?_ GE213.out) | exact HB.out))) : w.heap.size ≤ gb214)); have n6_ := Aside0.mk ((by rw [hg]; exact Nat.ne_of_lt (blk_lt (g := gb212) (o := .cells #[.int .u8 a0_0, .int .u8 a0_1, .int .u8 a0_2, .int .u8 a0_3, .int .u8 a0_4, .int .u8 a0_5, .int .u8 a0_6, .int .u8 a0_7] 35 (0, 0)) (by (with_reducible repeat (first | refine blk_drewN ?_ _ | refine blk_drew ?_ | refine blk_alloc ?_ _)); exact BK212.out)) : gb212 ≠ gb214)); have n7_ := Aside0.mk ((by rw [hg]; exact Nat.ne_of_gt (blk_lt (g := gb212) (o := .cells #[.int .u8 a0_0, .int .u8 a0_1, .int .u8 a0_2, .int .u8 a0_3, .int .u8 a0_4, .int .u8 a0_5, .int .u8 a0_6, .int .u8 a0_7] 35 (0, 0)) (by (with_reducible repeat (first | refine blk_drewN ?_ _ | refine blk_drew ?_ | refine blk_alloc ?_ _)); exact BK212.out)) : gb214 ≠ gb212)); have n8_ := Aside0.mk ((by rw [hg]; exact Nat.ne_of_lt (blk_lt (g := gb213) (o := .cells #[.int .u8 0, .int .u8 0, .int .u8 0, .int .u8 0, .int .u8 0, .int .u8 0, .int .u8 0, .int .u8 0] 37 (0, 0)) (by (with_reducible repeat (first | refine blk_drewN ?_ _ | refine blk_drew ?_ | refine blk_alloc ?_ _)); exact BK213.out)) : gb213 ≠ gb214)); have n9_ := Aside0.mk ((by rw [hg]; exact Nat.ne_of_gt (blk_lt (g := gb213) (o := .cells #[.int .u8 0, .int .u8 0, .int .u8 0, .int .u8 0, .int .u8 0, .int .u8 0, .int .u8 0, .int .u8 0] 37 (0, 0)) (by (with_reducible repeat (first | refine blk_drewN ?_ _ | refine blk_drew ?_ | refine blk_alloc ?_ _)); exact BK213.out)) : gb214 ≠ gb213)); clear BK212; clear BK213; clear HB; have BK212 := n0_; have BK213 := n1_; have HB := n2_; have BK214 := n3_; have GW214 := n4_; have GE214 := n5_; have NB212_214 := n6_; have NB214_212 := n7_; have NB213_214 := n8_; have NB214_213 := n9_; clear n0_ n1_ n2_ n3_ n4_ n5_ n6_ n7_ n8_ n9_; clear hb hbox hg))
  go_loopg [4] k (fun kq v4 w' => ∃ (x4_1 : Int) (x215000_1 : Int) (x215001_1 : Int) (x215002_1 : Int) (x215003_1 : Int) (x215004_1 : Int) (x215005_1 : Int) (x215006_1 : Int) (x215007_1 : Int), v4 = .int .i64 x4_1 ∧ Aside0 (laws_toDigits.l0 kq x4_1 a0_0 a0_1 a0_2 a0_3 a0_4 a0_5 a0_6 a0_7 x215000_1 x215001_1 x215002_1 x215003_1 x215004_1 x215005_1 x215006_1 x215007_1 = some (r1, r2, r3, r4, r5, r6, r7, r8)) ∧ Aside0 (kq ≤ k) ∧ Aside0 (w'.heap[gb212]? = some (.cells #[.int .u8 a0_0, .int .u8 a0_1, .int .u8 a0_2, .int .u8 a0_3, .int .u8 a0_4, .int .u8 a0_5, .int .u8 a0_6, .int .u8 a0_7] 35 (0, 0))) ∧ Aside0 (w'.heap[gb213]? = some (.cells #[.int .u8 0, .int .u8 0, .int .u8 0, .int .u8 0, .int .u8 0, .int .u8 0, .int .u8 0, .int .u8 0] 37 (0, 0))) ∧ Aside0 (w'.heap[gb214]? = some (.cells #[.int .u8 x215000_1, .int .u8 x215001_1, .int .u8 x215002_1, .int .u8 x215003_1, .int .u8 x215004_1, .int .u8 x215005_1, .int .u8 x215006_1, .int .u8 x215007_1] 37 (0, 0))) ∧ Aside0 (Below w.heap.size w w'))
  case atStart => exact ⟨(0), (0), (0), (0), (0), (0), (0), (0), (0), (by first | rfl | (simp; done) | (simp [*]; done)), H', ⟨Nat.le_refl _⟩, ⟨by (with_reducible repeat (first | refine blk_drewN ?_ _ | refine blk_drew ?_ | refine blk_alloc ?_ _)); exact BK212.out⟩, ⟨by (with_reducible repeat (first | refine blk_drewN ?_ _ | refine blk_drew ?_ | refine blk_alloc ?_ _)); exact BK213.out⟩, ⟨by (with_reducible repeat (first | refine blk_drewN ?_ _ | refine blk_drew ?_ | refine blk_alloc ?_ _)); exact BK214.out⟩, ⟨by repeat (first | (with_reducible first | exact HB.out | apply below_alloc | apply pw_below_drewN | apply below_drew1 | refine below_set ?_ GE212.out | refine below_set ?_ GE213.out | refine below_set ?_ GE214.out) | exact HB.out)⟩⟩
  case round =>
    clear H'
    try clear c1
    try clear p2
    obtain ⟨x4_1, x215000_1, x215001_1, x215002_1, x215003_1, x215004_1, x215005_1, x215006_1, x215007_1, rfl, HA, HK1, BK212, BK213, BK214, HB⟩ := hrel
    cases gk with
    | zero => exact absurd HA.out (by simp [laws_toDigits.l0])
    | succ k1 =>
      have H := HA.out
      clear HA
      simp only [laws_toDigits.l0] at H
      by_cases c5 : x4_1 < 8
      · rw [if_pos c5] at H
        have c5b0 : decide (x4_1 < 8) = true := decide_eq_true c5
        clear c5
        by_cases c6 : 0 ≤ x4_1
        · rw [if_pos c6] at H
          have c6b0 : decide (0 ≤ x4_1) = true := decide_eq_true c6
          clear c6
          have H' := Aside0.mk H
          clear H
          have hnb7 := NB212_213.out
          have hnc7 := NB213_212.out
          have hnb8 := NB212_214.out
          have hnc8 := NB214_212.out
          have hcz9_0 : wr.cell? ⟨gb212, 0, none⟩ = some (.int .u8 a0_0) := (blk_cell BK212.out 0).trans rfl
          have hcz9_1 : wr.cell? ⟨gb212, 1, none⟩ = some (.int .u8 a0_1) := (blk_cell BK212.out 1).trans rfl
          have hcz9_2 : wr.cell? ⟨gb212, 2, none⟩ = some (.int .u8 a0_2) := (blk_cell BK212.out 2).trans rfl
          have hcz9_3 : wr.cell? ⟨gb212, 3, none⟩ = some (.int .u8 a0_3) := (blk_cell BK212.out 3).trans rfl
          have hcz9_4 : wr.cell? ⟨gb212, 4, none⟩ = some (.int .u8 a0_4) := (blk_cell BK212.out 4).trans rfl
          have hcz9_5 : wr.cell? ⟨gb212, 5, none⟩ = some (.int .u8 a0_5) := (blk_cell BK212.out 5).trans rfl
          have hcz9_6 : wr.cell? ⟨gb212, 6, none⟩ = some (.int .u8 a0_6) := (blk_cell BK212.out 6).trans rfl
          have hcz9_7 : wr.cell? ⟨gb212, 7, none⟩ = some (.int .u8 a0_7) := (blk_cell BK212.out 7).trans rfl
          have hfz9_0 := blk_frozen BK212.out 0
          have hfz9_1 := blk_frozen BK212.out 1
          have hfz9_2 := blk_frozen BK212.out 2
          have hfz9_3 := blk_frozen BK212.out 3
          have hfz9_4 := blk_frozen BK212.out 4
          have hfz9_5 := blk_frozen BK212.out 5
          have hfz9_6 := blk_frozen BK212.out 6
          have hfz9_7 := blk_frozen BK212.out 7
          have p10 : 0 ≤ (x4_1 : Int) := of_decide_eq_true (by first | (with_reducible assumption) | assumption)
          have q10 : (x4_1 : Int) < 8 := of_decide_eq_true (by first | (with_reducible assumption) | assumption)
          have hx10_0 : wr.cell? ⟨gb212, (x4_1 : Int).toNat, none⟩ = some (.int .u8 (nth [a0_0, a0_1, a0_2, a0_3, a0_4, a0_5, a0_6, a0_7] x4_1)) := (blk_cell BK212.out _).trans (arr_nth .u8 [a0_0, a0_1, a0_2, a0_3, a0_4, a0_5, a0_6, a0_7] x4_1 8 rfl p10 q10)
          replace p10 := eq_true p10
          replace q10 := eq_true q10
          have hnb11 := NB214_213.out
          have hnc11 := NB213_214.out
          have hcz12_0 : wr.cell? ⟨gb214, 0, none⟩ = some (.int .u8 x215000_1) := (blk_cell BK214.out 0).trans rfl
          have hcz12_1 : wr.cell? ⟨gb214, 1, none⟩ = some (.int .u8 x215001_1) := (blk_cell BK214.out 1).trans rfl
          have hcz12_2 : wr.cell? ⟨gb214, 2, none⟩ = some (.int .u8 x215002_1) := (blk_cell BK214.out 2).trans rfl
          have hcz12_3 : wr.cell? ⟨gb214, 3, none⟩ = some (.int .u8 x215003_1) := (blk_cell BK214.out 3).trans rfl
          have hcz12_4 : wr.cell? ⟨gb214, 4, none⟩ = some (.int .u8 x215004_1) := (blk_cell BK214.out 4).trans rfl
          have hcz12_5 : wr.cell? ⟨gb214, 5, none⟩ = some (.int .u8 x215005_1) := (blk_cell BK214.out 5).trans rfl
          have hcz12_6 : wr.cell? ⟨gb214, 6, none⟩ = some (.int .u8 x215006_1) := (blk_cell BK214.out 6).trans rfl
          have hcz12_7 : wr.cell? ⟨gb214, 7, none⟩ = some (.int .u8 x215007_1) := (blk_cell BK214.out 7).trans rfl
          have hfz12_0 := blk_frozen BK214.out 0
          have hfz12_1 := blk_frozen BK214.out 1
          have hfz12_2 := blk_frozen BK214.out 2
          have hfz12_3 := blk_frozen BK214.out 3
          have hfz12_4 := blk_frozen BK214.out 4
          have hfz12_5 := blk_frozen BK214.out 5
          have hfz12_6 := blk_frozen BK214.out 6
          have hfz12_7 := blk_frozen BK214.out 7
          have p13 : 0 ≤ (x4_1 : Int) := of_decide_eq_true (by first | (with_reducible assumption) | assumption)
          have q13 : (x4_1 : Int) < 8 := of_decide_eq_true (by first | (with_reducible assumption) | assumption)
          have hx13_0 : wr.cell? ⟨gb214, (x4_1 : Int).toNat, none⟩ = some (.int .u8 (nth [x215000_1, x215001_1, x215002_1, x215003_1, x215004_1, x215005_1, x215006_1, x215007_1] x4_1)) := (blk_cell BK214.out _).trans (arr_nth .u8 [x215000_1, x215001_1, x215002_1, x215003_1, x215004_1, x215005_1, x215006_1, x215007_1] x4_1 8 rfl p13 q13)
          have hf13_0 : wr.frozen? ⟨gb214, (x4_1 : Int).toNat, none⟩ = false := blk_frozen BK214.out _
          have HP13 := Aside0.mk p13
          have HQ13 := Aside0.mk q13
          replace p13 := eq_true p13
          replace q13 := eq_true q13
          go_wp2_with (first | ((with_reducible refine gate_store (t := 5) (p := 13) rfl ?_); refine store_event (t := 5) (p := 13) (v := ?vo_w14) (w1 := (wr.setCell ⟨gb214, (x4_1 : Int).toNat, none⟩ (.int .u8 (nth [a0_0, a0_1, a0_2, a0_3, a0_4, a0_5, a0_6, a0_7] x4_1)))) ?hg ?ho ?hn ?hr ?_; (case ho => rfl); (case hg => rfl); (case hn => rfl); (case hr => first | (go_simp; done) | (go_simp; rfl)); intro w14 hw; have n0_ : Aside0 (w14.heap[gb212]? = some (.cells #[.int .u8 a0_0, .int .u8 a0_1, .int .u8 a0_2, .int .u8 a0_3, .int .u8 a0_4, .int .u8 a0_5, .int .u8 a0_6, .int .u8 a0_7] 35 (0, 0))) := ⟨(by rw [hw]; exact (blk_far (BK212.out) NB212_214.out _))⟩; have n1_ : Aside0 (w14.heap[gb213]? = some (.cells #[.int .u8 0, .int .u8 0, .int .u8 0, .int .u8 0, .int .u8 0, .int .u8 0, .int .u8 0, .int .u8 0] 37 (0, 0))) := ⟨(by rw [hw]; exact (blk_far (BK213.out) NB213_214.out _))⟩; have n2_ : Aside0 (w14.heap[gb214]? = some (.cells #[.int .u8 (sel 0 x4_1 (nth [a0_0, a0_1, a0_2, a0_3, a0_4, a0_5, a0_6, a0_7] x4_1) x215000_1), .int .u8 (sel 1 x4_1 (nth [a0_0, a0_1, a0_2, a0_3, a0_4, a0_5, a0_6, a0_7] x4_1) x215001_1), .int .u8 (sel 2 x4_1 (nth [a0_0, a0_1, a0_2, a0_3, a0_4, a0_5, a0_6, a0_7] x4_1) x215002_1), .int .u8 (sel 3 x4_1 (nth [a0_0, a0_1, a0_2, a0_3, a0_4, a0_5, a0_6, a0_7] x4_1) x215003_1), .int .u8 (sel 4 x4_1 (nth [a0_0, a0_1, a0_2, a0_3, a0_4, a0_5, a0_6, a0_7] x4_1) x215004_1), .int .u8 (sel 5 x4_1 (nth [a0_0, a0_1, a0_2, a0_3, a0_4, a0_5, a0_6, a0_7] x4_1) x215005_1), .int .u8 (sel 6 x4_1 (nth [a0_0, a0_1, a0_2, a0_3, a0_4, a0_5, a0_6, a0_7] x4_1) x215006_1), .int .u8 (sel 7 x4_1 (nth [a0_0, a0_1, a0_2, a0_3, a0_4, a0_5, a0_6, a0_7] x4_1) x215007_1)] 37 (0, 0))) := ⟨(by rw [hw]; exact (blk_putv .u8 [x215000_1, x215001_1, x215002_1, x215003_1, x215004_1, x215005_1, x215006_1, x215007_1] x4_1 (nth [a0_0, a0_1, a0_2, a0_3, a0_4, a0_5, a0_6, a0_7] x4_1) BK214.out HP13.out))⟩; have n3_ : Aside0 (Below w.heap.size w w14) := ⟨(by rw [hw]; exact (below_set (HB.out) GE214.out))⟩; clear hw; clear BK212; clear BK213; clear BK214; clear HB; have BK212 := n0_; have BK213 := n1_; have BK214 := n2_; have HB := n3_; clear n0_ n1_ n2_ n3_))
          go_roundg k1
          case measure => have := HK1.out; omega
          case rel => exact ⟨(wrap64 (x4_1 + 1)), (sel 0 x4_1 (nth [a0_0, a0_1, a0_2, a0_3, a0_4, a0_5, a0_6, a0_7] x4_1) x215000_1), (sel 1 x4_1 (nth [a0_0, a0_1, a0_2, a0_3, a0_4, a0_5, a0_6, a0_7] x4_1) x215001_1), (sel 2 x4_1 (nth [a0_0, a0_1, a0_2, a0_3, a0_4, a0_5, a0_6, a0_7] x4_1) x215002_1), (sel 3 x4_1 (nth [a0_0, a0_1, a0_2, a0_3, a0_4, a0_5, a0_6, a0_7] x4_1) x215003_1), (sel 4 x4_1 (nth [a0_0, a0_1, a0_2, a0_3, a0_4, a0_5, a0_6, a0_7] x4_1) x215004_1), (sel 5 x4_1 (nth [a0_0, a0_1, a0_2, a0_3, a0_4, a0_5, a0_6, a0_7] x4_1) x215005_1), (sel 6 x4_1 (nth [a0_0, a0_1, a0_2, a0_3, a0_4, a0_5, a0_6, a0_7] x4_1) x215006_1), (sel 7 x4_1 (nth [a0_0, a0_1, a0_2, a0_3, a0_4, a0_5, a0_6, a0_7] x4_1) x215007_1), (by first | rfl | (simp; done) | (simp [*]; done)), H', ⟨by have := HK1.out; omega⟩, ⟨by (with_reducible repeat (first | refine blk_drewN ?_ _ | refine blk_drew ?_ | refine blk_alloc ?_ _)); exact BK212.out⟩, ⟨by (with_reducible repeat (first | refine blk_drewN ?_ _ | refine blk_drew ?_ | refine blk_alloc ?_ _)); exact BK213.out⟩, ⟨by (with_reducible repeat (first | refine blk_drewN ?_ _ | refine blk_drew ?_ | refine blk_alloc ?_ _)); exact BK214.out⟩, ⟨by repeat (first | (with_reducible first | exact HB.out | apply below_alloc | apply pw_below_drewN | apply below_drew1 | refine below_set ?_ GE212.out | refine below_set ?_ GE213.out | refine below_set ?_ GE214.out) | exact HB.out)⟩⟩
        · rw [if_neg c6] at H
          exact absurd H (by simp)
      · rw [if_neg c5] at H
        have c5b0 : decide (x4_1 < 8) = false := decide_eq_false c5
        clear c5
        simp only [Option.some.injEq, Prod.mk.injEq] at H
        obtain ⟨rfl, rfl, rfl, rfl, rfl, rfl, rfl, rfl⟩ := H
        have hnb15 := NB214_212.out
        have hnc15 := NB212_214.out
        have hnb16 := NB214_213.out
        have hnc16 := NB213_214.out
        have hcz17_0 : wr.cell? ⟨gb214, 0, none⟩ = some (.int .u8 x215000_1) := (blk_cell BK214.out 0).trans rfl
        have hcz17_1 : wr.cell? ⟨gb214, 1, none⟩ = some (.int .u8 x215001_1) := (blk_cell BK214.out 1).trans rfl
        have hcz17_2 : wr.cell? ⟨gb214, 2, none⟩ = some (.int .u8 x215002_1) := (blk_cell BK214.out 2).trans rfl
        have hcz17_3 : wr.cell? ⟨gb214, 3, none⟩ = some (.int .u8 x215003_1) := (blk_cell BK214.out 3).trans rfl
        have hcz17_4 : wr.cell? ⟨gb214, 4, none⟩ = some (.int .u8 x215004_1) := (blk_cell BK214.out 4).trans rfl
        have hcz17_5 : wr.cell? ⟨gb214, 5, none⟩ = some (.int .u8 x215005_1) := (blk_cell BK214.out 5).trans rfl
        have hcz17_6 : wr.cell? ⟨gb214, 6, none⟩ = some (.int .u8 x215006_1) := (blk_cell BK214.out 6).trans rfl
        have hcz17_7 : wr.cell? ⟨gb214, 7, none⟩ = some (.int .u8 x215007_1) := (blk_cell BK214.out 7).trans rfl
        have hfz17_0 := blk_frozen BK214.out 0
        have hfz17_1 := blk_frozen BK214.out 1
        have hfz17_2 := blk_frozen BK214.out 2
        have hfz17_3 := blk_frozen BK214.out 3
        have hfz17_4 := blk_frozen BK214.out 4
        have hfz17_5 := blk_frozen BK214.out 5
        have hfz17_6 := blk_frozen BK214.out 6
        have hfz17_7 := blk_frozen BK214.out 7
        have hnb18 := NB213_212.out
        have hnc18 := NB212_213.out
        have hcz19_0 : wr.cell? ⟨gb213, 0, none⟩ = some (.int .u8 0) := (blk_cell BK213.out 0).trans rfl
        have hcz19_1 : wr.cell? ⟨gb213, 1, none⟩ = some (.int .u8 0) := (blk_cell BK213.out 1).trans rfl
        have hcz19_2 : wr.cell? ⟨gb213, 2, none⟩ = some (.int .u8 0) := (blk_cell BK213.out 2).trans rfl
        have hcz19_3 : wr.cell? ⟨gb213, 3, none⟩ = some (.int .u8 0) := (blk_cell BK213.out 3).trans rfl
        have hcz19_4 : wr.cell? ⟨gb213, 4, none⟩ = some (.int .u8 0) := (blk_cell BK213.out 4).trans rfl
        have hcz19_5 : wr.cell? ⟨gb213, 5, none⟩ = some (.int .u8 0) := (blk_cell BK213.out 5).trans rfl
        have hcz19_6 : wr.cell? ⟨gb213, 6, none⟩ = some (.int .u8 0) := (blk_cell BK213.out 6).trans rfl
        have hcz19_7 : wr.cell? ⟨gb213, 7, none⟩ = some (.int .u8 0) := (blk_cell BK213.out 7).trans rfl
        have hfz19_0 := blk_frozen BK213.out 0
        have hfz19_1 := blk_frozen BK213.out 1
        have hfz19_2 := blk_frozen BK213.out 2
        have hfz19_3 := blk_frozen BK213.out 3
        have hfz19_4 := blk_frozen BK213.out 4
        have hfz19_5 := blk_frozen BK213.out 5
        have hfz19_6 := blk_frozen BK213.out 6
        have hfz19_7 := blk_frozen BK213.out 7
        go_wp2
        refine bodyPost_ret (results_cell_row rfl _ _ gb213 37 #[.int .u8 x215000_1, .int .u8 x215001_1, .int .u8 x215002_1, .int .u8 x215003_1, .int .u8 x215004_1, .int .u8 x215005_1, .int .u8 x215006_1, .int .u8 x215007_1] (0, 0) _ rfl (by (with_reducible repeat (first | refine blk_drewN ?_ _ | refine blk_drew ?_ | refine blk_alloc ?_ _)); refine blk_put (cs := #[.int .u8 x215000_1, .int .u8 x215001_1, .int .u8 x215002_1, .int .u8 x215003_1, .int .u8 x215004_1, .int .u8 x215005_1, .int .u8 x215006_1, .int .u8 0]) ?_ 7 _ rfl; (with_reducible repeat (first | refine blk_drewN ?_ _ | refine blk_drew ?_ | refine blk_alloc ?_ _)); refine blk_put (cs := #[.int .u8 x215000_1, .int .u8 x215001_1, .int .u8 x215002_1, .int .u8 x215003_1, .int .u8 x215004_1, .int .u8 x215005_1, .int .u8 0, .int .u8 0]) ?_ 6 _ rfl; (with_reducible repeat (first | refine blk_drewN ?_ _ | refine blk_drew ?_ | refine blk_alloc ?_ _)); refine blk_put (cs := #[.int .u8 x215000_1, .int .u8 x215001_1, .int .u8 x215002_1, .int .u8 x215003_1, .int .u8 x215004_1, .int .u8 0, .int .u8 0, .int .u8 0]) ?_ 5 _ rfl; (with_reducible repeat (first | refine blk_drewN ?_ _ | refine blk_drew ?_ | refine blk_alloc ?_ _)); refine blk_put (cs := #[.int .u8 x215000_1, .int .u8 x215001_1, .int .u8 x215002_1, .int .u8 x215003_1, .int .u8 0, .int .u8 0, .int .u8 0, .int .u8 0]) ?_ 4 _ rfl; (with_reducible repeat (first | refine blk_drewN ?_ _ | refine blk_drew ?_ | refine blk_alloc ?_ _)); refine blk_put (cs := #[.int .u8 x215000_1, .int .u8 x215001_1, .int .u8 x215002_1, .int .u8 0, .int .u8 0, .int .u8 0, .int .u8 0, .int .u8 0]) ?_ 3 _ rfl; (with_reducible repeat (first | refine blk_drewN ?_ _ | refine blk_drew ?_ | refine blk_alloc ?_ _)); refine blk_put (cs := #[.int .u8 x215000_1, .int .u8 x215001_1, .int .u8 0, .int .u8 0, .int .u8 0, .int .u8 0, .int .u8 0, .int .u8 0]) ?_ 2 _ rfl; (with_reducible repeat (first | refine blk_drewN ?_ _ | refine blk_drew ?_ | refine blk_alloc ?_ _)); refine blk_put (cs := #[.int .u8 x215000_1, .int .u8 0, .int .u8 0, .int .u8 0, .int .u8 0, .int .u8 0, .int .u8 0, .int .u8 0]) ?_ 1 _ rfl; (with_reducible repeat (first | refine blk_drewN ?_ _ | refine blk_drew ?_ | refine blk_alloc ?_ _)); refine blk_put (cs := #[.int .u8 0, .int .u8 0, .int .u8 0, .int .u8 0, .int .u8 0, .int .u8 0, .int .u8 0, .int .u8 0]) ?_ 0 _ rfl; (with_reducible repeat (first | refine blk_drewN ?_ _ | refine blk_drew ?_ | refine blk_alloc ?_ _)); exact BK213.out) Tryd.underlying37 rfl (by kernel_rfl)) rfl ?_
        exact ⟨by first | rfl | (simp [errW_none, errW_some] <;> rfl) | (simp [*, errW_none, errW_some] <;> rfl), by repeat (first | (with_reducible first | exact HB.out | apply below_alloc | apply pw_below_drewN | apply below_drew1 | refine below_set ?_ GE212.out | refine below_set ?_ GE213.out | refine below_set ?_ GE214.out) | exact HB.out)⟩

end Go.Proofs.YtgfimdoildaonaaDoor.P

/- DigitsText of both sides: the same. -/
namespace Go.Proofs.YtgfimdoildaonaaDoor.P
open Go.RowKit Go.Proofs.YtgfimdoildaonaaDoorW.PrintWords Go.Proofs.YtgfimdoildaonaaDoorW.PrintLast Go.Proofs.YtgfimdoildaonaaDoorW.PrintMore
set_option linter.unusedVariables false
set_option linter.unusedSimpArgs false
theorem specDigits_eq (s : List Int) (d : Dg) (hn : s.length ≤ 8) : spec_l01Digits.f 20 s d.f0 d.f1 d.f2 d.f3 d.f4 d.f5 d.f6 d.f7 = some ((List.range 8).all (okD s d)) := by
  unfold spec_l01Digits.f
  have key := all_loop (okD s d) 8 (fun k i => spec_l01Digits.l0 k s i d.f0 d.f1 d.f2 d.f3 d.f4 d.f5 d.f6 d.f7) (by omega) 1 (by omega) ?_ ?_ ?_ 8 20 0 (by omega) (by omega)
  · rw [show ((0 : Nat) : Int) = 0 from rfl] at key
    rw [key, List.range_eq_range']
  · intro k i hi h
    simp only [spec_l01Digits.l0]
    have hd : [d.f0, d.f1, d.f2, d.f3, d.f4, d.f5, d.f6, d.f7] = dlist d := rfl
    rw [hd, if_pos (by omega)]
    unfold okD at h
    by_cases hin : i < s.length
    · rw [if_pos hin] at h
      have h2 := of_decide_eq_true h
      rw [if_pos (by omega), if_pos (by omega), if_neg (by omega), if_neg (by omega)]
    · rw [if_neg hin] at h
      have h2 := of_decide_eq_true h
      rw [if_neg (by omega), if_pos (by omega), if_pos (by omega), if_pos h2]
  · intro k i hi h
    simp only [spec_l01Digits.l0]
    have hd : [d.f0, d.f1, d.f2, d.f3, d.f4, d.f5, d.f6, d.f7] = dlist d := rfl
    rw [hd, if_pos (by omega)]
    unfold okD at h
    by_cases hin : i < s.length
    · rw [if_pos hin] at h
      have h2 := of_decide_eq_false h
      rw [if_pos (by omega), if_pos (by omega), if_pos (by omega)]
    · rw [if_neg hin] at h
      have h2 := of_decide_eq_false h
      rw [if_neg (by omega), if_pos (by omega), if_pos (by omega), if_neg h2]
  · intro k
    simp only [spec_l01Digits.l0]
    rw [if_neg (by omega)]
theorem specVDg_eq (s : List Int) (d : Dg) (hn : s.length ≤ 1048576) : spec_ValidDigits.f 2097200 s d.f0 d.f1 d.f2 d.f3 d.f4 d.f5 d.f6 d.f7 = some (okDg s d) := by
  unfold spec_ValidDigits.f okDg
  rw [specOk_eq 2097200 s hn (by omega), Option.bind_some]
  cases h : okStk s with
  | false => rw [if_neg (by simp)]; rfl
  | true =>
    rw [if_pos rfl]
    have h2 := specDigits_eq s d (okStk_len h).2
    have h3 : spec_l01Digits.f 2097200 s d.f0 d.f1 d.f2 d.f3 d.f4 d.f5 d.f6 d.f7 = some ((List.range 8).all (okD s d)) := by
      have := at_rounds (fun k => spec_l01Digits.mono s d.f0 d.f1 d.f2 d.f3 d.f4 d.f5 d.f6 d.f7 k) (show 20 ≤ 2097200 by omega) h2
      exact this
    rw [h3, Option.bind_some, Bool.true_and]
def dgTxt (s : List Int) (d : Dg) : ByteArray := if okDg s d = true then stTxt s d else ⟨#[]⟩

set_option maxHeartbeats 1000000 in
theorem specDigitsText_at (A0 : Option Addr) (c0 : Nat) (s : List Int) (d : Dg) (w : World) (hr : Kd.C (Kd.int .u8) w A0 s.length s) (hc : s.length ≤ c0) (hn : s.length ≤ 1048576) (hd : ∀ i : Nat, i < 8 → 0 ≤ nth (dlist d) i ∧ nth (dlist d) i ≤ 255) :
    Calls Tryd.prog 11 #[.slice A0 s.length c0, .agg #[.int .u8 d.f0, .int .u8 d.f1, .int .u8 d.f2, .int .u8 d.f3, .int .u8 d.f4, .int .u8 d.f5, .int .u8 d.f6, .int .u8 d.f7]] w fun e w' => e = .returned (.string (dgTxt s d)) ∧ Below w.heap.size w w' := by
  have HR := Aside0.mk hr
  have HDA := Aside0.mk hd
  have HV := Aside0.mk (specVDg_eq s d hn)
  obtain ⟨t, ht⟩ : ∃ t, t = dgTxt s d := ⟨_, rfl⟩
  rw [← ht]
  have HT := Aside0.mk ht
  have HB1 := Aside0.mk (below_alloc (Below.refl w.heap.size w) (.cells #[.int .u8 d.f0, .int .u8 d.f1, .int .u8 d.f2, .int .u8 d.f3, .int .u8 d.f4, .int .u8 d.f5, .int .u8 d.f6, .int .u8 d.f7] 37))
  have HK1 := Aside0.mk (blk_new w (.cells #[.int .u8 d.f0, .int .u8 d.f1, .int .u8 d.f2, .int .u8 d.f3, .int .u8 d.f4, .int .u8 d.f5, .int .u8 d.f6, .int .u8 d.f7] 37))
  clear hr hd ht
  cases hk : okDg s d with
  | false =>
    rw [hk] at HV
    have HT2 := Aside0.mk (show t = ⟨#[]⟩ by rw [HT.out]; unfold dgTxt; rw [hk]; rfl)
    clear hk HT
    go_enter Tryd.func11, Tryd.ntmps11
    go_wp2_with (go_at_call 26; refine (spec_ValidDigits.calls 2097200 _ _ s _ _ _ _ _ _ _ _ false _ (Kd.C_below HR.out HB1.out) hc HV.out).mono ?_; rintro e w2 ⟨rfl, hb⟩; (have HB2 := Aside0.mk (below_step HB1.out hb)); clear hb)
    go_ret
    exact ⟨by rw [HT2.out]; rfl, HB2.out⟩
  | true =>
    rw [hk] at HV
    have HT2 := Aside0.mk (show t = stTxt s d by rw [HT.out]; unfold dgTxt; rw [hk]; rfl)
    have HOK := Aside0.mk hk
    clear hk HT
    go_enter Tryd.func11, Tryd.ntmps11
    go_wp2_with (first
      | (go_at_call 26; refine (spec_ValidDigits.calls 2097200 _ _ s _ _ _ _ _ _ _ _ true _ (Kd.C_below HR.out HB1.out) hc HV.out).mono ?_; rintro e w2 ⟨rfl, hb⟩; (have HB2 := Aside0.mk (below_step HB1.out hb)); (have HK2 := Aside0.mk (blk_below HK1.out hb)); clear hb; (have hq0 := (blk_cell HK2.out 0).trans rfl); (have hq1 := (blk_cell HK2.out 1).trans rfl); (have hq2 := (blk_cell HK2.out 2).trans rfl); (have hq3 := (blk_cell HK2.out 3).trans rfl); (have hq4 := (blk_cell HK2.out 4).trans rfl); (have hq5 := (blk_cell HK2.out 5).trans rfl); (have hq6 := (blk_cell HK2.out 6).trans rfl); (have hq7 := (blk_cell HK2.out 7).trans rfl))
      | (go_at_call 27; refine (l01Text_at _ _ s d _ (Kd.C_below HR.out HB2.out) hc HOK.out HDA.out).mono ?_; rintro e w3 ⟨rfl, hb⟩; (have HB3 := Aside0.mk (below_step HB2.out hb)); clear hb))
    go_ret
    exact ⟨by rw [HT2.out]; rfl, HB3.out⟩
set_option maxHeartbeats 1000000 in
theorem implDigitsText_at (A0 : Option Addr) (c0 : Nat) (s : List Int) (d : Dg) (w : World) (hT : Tab w) (hr : Kd.C (Kd.int .u8) w A0 s.length s) (hc : s.length ≤ c0) (hn : s.length ≤ 1048576) (hd : ∀ i : Nat, i < 8 → 0 ≤ nth (dlist d) i ∧ nth (dlist d) i ≤ 255) :
    Calls Tryd.prog 13 #[.slice A0 s.length c0, .agg #[.int .u8 d.f0, .int .u8 d.f1, .int .u8 d.f2, .int .u8 d.f3, .int .u8 d.f4, .int .u8 d.f5, .int .u8 d.f6, .int .u8 d.f7]] w fun e w' => e = .returned (.string (dgTxt s d)) ∧ Below w.heap.size w w' := by
  have HR := Aside0.mk hr
  have HDA := Aside0.mk hd
  have HTB := Aside0.mk hT
  obtain ⟨t, ht⟩ : ∃ t, t = dgTxt s d := ⟨_, rfl⟩
  rw [← ht]
  have HT := Aside0.mk ht
  have HB1 := Aside0.mk (below_alloc (Below.refl w.heap.size w) (.cells #[.int .u8 d.f0, .int .u8 d.f1, .int .u8 d.f2, .int .u8 d.f3, .int .u8 d.f4, .int .u8 d.f5, .int .u8 d.f6, .int .u8 d.f7] 37))
  have HK1 := Aside0.mk (blk_new w (.cells #[.int .u8 d.f0, .int .u8 d.f1, .int .u8 d.f2, .int .u8 d.f3, .int .u8 d.f4, .int .u8 d.f5, .int .u8 d.f6, .int .u8 d.f7] 37))
  have HV := Aside0.mk (fun W hb => validDigits_at A0 c0 s d W (Kd.C_below HR.out hb) hc hn HDA.out)
  clear hr hd ht hT
  cases hk : okDg s d with
  | false =>
    rw [hk] at HV
    have HT2 := Aside0.mk (show t = ⟨#[]⟩ by rw [HT.out]; unfold dgTxt; rw [hk]; rfl)
    clear hk HT
    go_enter Tryd.func13, Tryd.ntmps13
    go_wp2_with (go_at_call 28; refine (HV.out _ HB1.out).mono ?_; rintro e w2 ⟨rfl, hb⟩; (have HB2 := Aside0.mk (below_step HB1.out hb)); clear hb)
    go_ret
    exact ⟨by rw [HT2.out]; rfl, HB2.out⟩
  | true =>
    rw [hk] at HV
    have HT2 := Aside0.mk (show t = stTxt s d by rw [HT.out]; unfold dgTxt; rw [hk]; rfl)
    obtain ⟨hks, ho⟩ := okDg_all hk
    obtain ⟨hl1, hl8⟩ := okStk_len hks
    have HST := Aside0.mk (fun W hb => stackText_at A0 c0 s d W (HTB.out.below hb) (Kd.C_below HR.out hb) hl8 hl1 (okStk_base hks) (fun i hi => HDA.out i (by omega)))
    clear hk HT hks ho
    go_enter Tryd.func13, Tryd.ntmps13
    go_wp2_with (first
      | (go_at_call 28; refine (HV.out _ HB1.out).mono ?_; rintro e w2 ⟨rfl, hb⟩; (have HB2 := Aside0.mk (below_step HB1.out hb)); (have HK2 := Aside0.mk (blk_below HK1.out hb)); clear hb; (have hq0 := (blk_cell HK2.out 0).trans rfl); (have hq1 := (blk_cell HK2.out 1).trans rfl); (have hq2 := (blk_cell HK2.out 2).trans rfl); (have hq3 := (blk_cell HK2.out 3).trans rfl); (have hq4 := (blk_cell HK2.out 4).trans rfl); (have hq5 := (blk_cell HK2.out 5).trans rfl); (have hq6 := (blk_cell HK2.out 6).trans rfl); (have hq7 := (blk_cell HK2.out 7).trans rfl))
      | (go_at_call 29; refine (HST.out _ HB2.out).mono ?_; rintro e w3 ⟨rfl, hb⟩; (have HB3 := Aside0.mk (below_step HB2.out hb)); clear hb))
    go_ret
    exact ⟨by rw [HT2.out]; rfl, HB3.out⟩
theorem to_digits (d : Dg) : laws_toDigits.f 20 d.f0 d.f1 d.f2 d.f3 d.f4 d.f5 d.f6 d.f7 = some (d.f0, d.f1, d.f2, d.f3, d.f4, d.f5, d.f6, d.f7) := by kernel_rfl
end Go.Proofs.YtgfimdoildaonaaDoor.P

-- Written by a program of this session (a turned form of the kit's print) out of the translation.
namespace Go.Proofs.YtgfimdoildaonaaDoor.P
open Go.RowKit Go.Proofs.YtgfimdoildaonaaDoorW.PrintWords Go.Proofs.YtgfimdoildaonaaDoorW.PrintLast Go.Proofs.YtgfimdoildaonaaDoorW.PrintMore
attribute [local go_sem] max2_int min2_int max_two min_two max_three min_three max_four min_four   -- for this text's walks alone
set_option linter.unusedVariables false
set_option linter.unusedSimpArgs false

/-! ### spec_l07Check: function 51 -/
mutual
def spec_l07Check.l0 : Nat → Int → Int → Int → Int → Int → Int → Int → Int → Int → Int → Int → Option (Int)
  | 0, _, _, _, _, _, _, _, _, _, _, _ => none
  | k + 1, x0, x5, x6, x237000, x237001, x237002, x237003, x237004, x237005, x237006, x237007 => if x6 < 4 then (if 0 ≤ (IntKind.u64.wrap (wrap64 (8 * x6))) then (spec_l07Check.l0 k x0 (IntKind.u16.wrap ((IntKind.u16.wrap (x5 * 259)) + (IntKind.u16.wrap (Go.bits .and .i64 (shr .i64 x0 (IntKind.u64.wrap (wrap64 (8 * x6)))) 255)))) (wrap64 (x6 + 1)) x237000 x237001 x237002 x237003 x237004 x237005 x237006 x237007) else (none)) else (spec_l07Check.l1 k x5 0 x237000 x237001 x237002 x237003 x237004 x237005 x237006 x237007)
def spec_l07Check.l1 : Nat → Int → Int → Int → Int → Int → Int → Int → Int → Int → Int → Option (Int)
  | 0, _, _, _, _, _, _, _, _, _, _ => none
  | k + 1, x5, x7, x237000, x237001, x237002, x237003, x237004, x237005, x237006, x237007 => if x7 < 8 then (if 0 ≤ x7 then (spec_l07Check.l1 k (IntKind.u16.wrap ((IntKind.u16.wrap (x5 * 259)) + (IntKind.u16.wrap (nth [x237000, x237001, x237002, x237003, x237004, x237005, x237006, x237007] x7)))) (wrap64 (x7 + 1)) x237000 x237001 x237002 x237003 x237004 x237005 x237006 x237007) else (none)) else (some x5)
end
def spec_l07Check.f (k : Nat) (a0 : Int) (a1_0 : Int) (a1_1 : Int) (a1_2 : Int) (a1_3 : Int) (a1_4 : Int) (a1_5 : Int) (a1_6 : Int) (a1_7 : Int) : Option (Int) := spec_l07Check.l0 k a0 1 0 a1_0 a1_1 a1_2 a1_3 a1_4 a1_5 a1_6 a1_7
theorem spec_l07Check.mono_l : ∀ k, (∀ y0 y1 y2 y3 y4 y5 y6 y7 y8 y9 y10, LeO (spec_l07Check.l0 k y0 y1 y2 y3 y4 y5 y6 y7 y8 y9 y10) (spec_l07Check.l0 (k + 1) y0 y1 y2 y3 y4 y5 y6 y7 y8 y9 y10)) ∧ (∀ y0 y1 y2 y3 y4 y5 y6 y7 y8 y9, LeO (spec_l07Check.l1 k y0 y1 y2 y3 y4 y5 y6 y7 y8 y9) (spec_l07Check.l1 (k + 1) y0 y1 y2 y3 y4 y5 y6 y7 y8 y9))
  | 0 => ⟨fun _ _ _ _ _ _ _ _ _ _ _ r h => by simp [spec_l07Check.l0] at h, fun _ _ _ _ _ _ _ _ _ _ r h => by simp [spec_l07Check.l1] at h⟩
  | k + 1 => by
    obtain ⟨ih0, ih1⟩ := spec_l07Check.mono_l k
    refine ⟨?_, ?_⟩
    · intro y0 y1 y2 y3 y4 y5 y6 y7 y8 y9 y10
      unfold spec_l07Check.l0
      repeat' first
      | (with_reducible exact ih0 _ _ _ _ _ _ _ _ _ _ _)
      | (with_reducible exact ih1 _ _ _ _ _ _ _ _ _ _)
      | (with_reducible exact LeO.refl _)
      | (with_reducible exact LeO.none _)
      | (with_reducible refine LeO.ite ?_ ?_)
      | (with_reducible refine LeO.bind ?_ (fun _ => ?_))
      | exact ih0 _ _ _ _ _ _ _ _ _ _ _
      | exact ih1 _ _ _ _ _ _ _ _ _ _
      | exact LeO.none _
      | refine LeO.ite ?_ ?_
      | refine LeO.bind ?_ (fun _ => ?_)
    · intro y0 y1 y2 y3 y4 y5 y6 y7 y8 y9
      unfold spec_l07Check.l1
      repeat' first
      | (with_reducible exact ih0 _ _ _ _ _ _ _ _ _ _ _)
      | (with_reducible exact ih1 _ _ _ _ _ _ _ _ _ _)
      | (with_reducible exact LeO.refl _)
      | (with_reducible exact LeO.none _)
      | (with_reducible refine LeO.ite ?_ ?_)
      | (with_reducible refine LeO.bind ?_ (fun _ => ?_))
      | exact ih0 _ _ _ _ _ _ _ _ _ _ _
      | exact ih1 _ _ _ _ _ _ _ _ _ _
      | exact LeO.none _
      | refine LeO.ite ?_ ?_
      | refine LeO.bind ?_ (fun _ => ?_)
theorem spec_l07Check.mono : ∀ a0 a1 a2 a3 a4 a5 a6 a7 a8 k, LeO (spec_l07Check.f k a0 a1 a2 a3 a4 a5 a6 a7 a8) (spec_l07Check.f (k + 1) a0 a1 a2 a3 a4 a5 a6 a7 a8) := by
  intro a0 a1 a2 a3 a4 a5 a6 a7 a8 k
  obtain ⟨ih0, ih1⟩ := spec_l07Check.mono_l k
  unfold spec_l07Check.f
  repeat' first
      | (with_reducible exact ih0 _ _ _ _ _ _ _ _ _ _ _)
      | (with_reducible exact ih1 _ _ _ _ _ _ _ _ _ _)
      | (with_reducible exact LeO.refl _)
      | (with_reducible exact LeO.none _)
      | (with_reducible refine LeO.ite ?_ ?_)
      | (with_reducible refine LeO.bind ?_ (fun _ => ?_))
      | exact ih0 _ _ _ _ _ _ _ _ _ _ _
      | exact ih1 _ _ _ _ _ _ _ _ _ _
      | exact LeO.none _
      | refine LeO.ite ?_ ?_
      | refine LeO.bind ?_ (fun _ => ?_)
set_option maxHeartbeats 8000000 in
set_option maxRecDepth 100000 in
theorem spec_l07Check.calls (k : Nat) (a0 : Int) (a1_0 : Int) (a1_1 : Int) (a1_2 : Int) (a1_3 : Int) (a1_4 : Int) (a1_5 : Int) (a1_6 : Int) (a1_7 : Int) (r : Int) (w : World) (h : spec_l07Check.f k a0 a1_0 a1_1 a1_2 a1_3 a1_4 a1_5 a1_6 a1_7 = some r) :
    Calls Tryd.prog 51 #[.int .i64 a0, .agg #[.int .u8 a1_0, .int .u8 a1_1, .int .u8 a1_2, .int .u8 a1_3, .int .u8 a1_4, .int .u8 a1_5, .int .u8 a1_6, .int .u8 a1_7]] w fun e w' => e = .returned (.int .u16 r) ∧ Below w.heap.size w w' := by
  have hu37 := Tryd.underlying37
  have HB := Aside0.mk (Below.refl w.heap.size w)
  have H : (spec_l07Check.l0 k a0 1 0 a1_0 a1_1 a1_2 a1_3 a1_4 a1_5 a1_6 a1_7) = some r := h
  clear h
  have H' := Aside0.mk H
  clear H
  go_enter Tryd.func51, Tryd.ntmps51
  go_wp2_with (first | ((with_reducible refine gate_dst (N := 3) rfl ?_); refine box_event ?hg (N := 3) ?hd (cs := #[.int .u8 a1_0, .int .u8 a1_1, .int .u8 a1_2, .int .u8 a1_3, .int .u8 a1_4, .int .u8 a1_5, .int .u8 a1_6, .int .u8 a1_7]) (t := 37) ?hr ?_; (case hd => rfl); (case hg => rfl); (case hr => first | (go_simp; done) | (go_simp; rfl)); intro gb236 hg w3 hbox hb; have n0_ := Aside0.mk (below_step (by repeat (first | (with_reducible first | exact HB.out | apply below_alloc | apply pw_below_drewN | apply below_drew1) | exact HB.out)) hb); have n1_ := Aside0.mk (hbox); have n2_ := Aside0.mk ((by rw [hg]; exact (below_size (by repeat (first | (with_reducible first | exact HB.out | apply below_alloc | apply pw_below_drewN | apply below_drew1) | exact HB.out))) : w.heap.size ≤ gb236)); have n3_ := Aside0.mk ((by rw [hg]; exact (below_size (by repeat (first | (with_reducible first | exact HB.out | apply below_alloc | apply pw_below_drewN | apply below_drew1) | exact HB.out))) : w.heap.size ≤ gb236)); clear HB; have HB := n0_; have BK236 := n1_; have GW236 := n2_; have GE236 := n3_; clear n0_ n1_ n2_ n3_; clear hb hbox hg))
  go_loopg [5, 6] k (fun kq v5 v6 w' => ∃ (x5_1 : Int) (x6_1 : Int), v5 = .int .u16 x5_1 ∧ v6 = .int .i64 x6_1 ∧ Aside0 (spec_l07Check.l0 kq a0 x5_1 x6_1 a1_0 a1_1 a1_2 a1_3 a1_4 a1_5 a1_6 a1_7 = some r) ∧ Aside0 (kq ≤ k) ∧ Aside0 (w'.heap[gb236]? = some (.cells #[.int .u8 a1_0, .int .u8 a1_1, .int .u8 a1_2, .int .u8 a1_3, .int .u8 a1_4, .int .u8 a1_5, .int .u8 a1_6, .int .u8 a1_7] 37 (0, 0))) ∧ Aside0 (Below w.heap.size w w'))
  case atStart => exact ⟨(1), (0), (by first | rfl | (simp; done) | (simp [*]; done)), (by first | rfl | (simp; done) | (simp [*]; done)), H', ⟨Nat.le_refl _⟩, ⟨by (with_reducible repeat (first | refine blk_drewN ?_ _ | refine blk_drew ?_ | refine blk_alloc ?_ _)); exact BK236.out⟩, ⟨by repeat (first | (with_reducible first | exact HB.out | apply below_alloc | apply pw_below_drewN | apply below_drew1 | refine below_set ?_ GE236.out) | exact HB.out)⟩⟩
  case round =>
    clear H'
    try clear p2
    obtain ⟨x5_1, x6_1, rfl, rfl, HA, HK1, BK236, HB⟩ := hrel
    cases gk with
    | zero => exact absurd HA.out (by simp [spec_l07Check.l0])
    | succ k1 =>
      have H := HA.out
      clear HA
      simp only [spec_l07Check.l0] at H
      by_cases c4 : x6_1 < 4
      · rw [if_pos c4] at H
        have c4b0 : decide (x6_1 < 4) = true := decide_eq_true c4
        clear c4
        obtain ⟨ji5, hji5⟩ : ∃ j_ : Int, (IntKind.u64.wrap (wrap64 (8 * x6_1))) = j_ := ⟨_, rfl⟩
        replace H : (if 0 ≤ (ji5) then (spec_l07Check.l0 k1 a0 (IntKind.u16.wrap ((IntKind.u16.wrap (x5_1 * 259)) + (IntKind.u16.wrap (Go.bits .and .i64 (shr .i64 a0 (ji5)) 255)))) (wrap64 (x6_1 + 1)) a1_0 a1_1 a1_2 a1_3 a1_4 a1_5 a1_6 a1_7) else (none)) = some r := by first | (rw [hji5] at H; exact H) | (simp only [hji5] at H ⊢; exact H)
        by_cases c6 : 0 ≤ (ji5)
        · rw [if_pos c6] at H
          have c6b0 := eq_true c6
          have c6b1 : decide (0 ≤ (ji5)) = true := decide_eq_true c6
          clear c6
          obtain ⟨ji7, hji7⟩ : ∃ j_ : Int, (shr .i64 a0 (ji5)) = j_ := ⟨_, rfl⟩
          replace H : (spec_l07Check.l0 k1 a0 (IntKind.u16.wrap ((IntKind.u16.wrap (x5_1 * 259)) + (IntKind.u16.wrap (Go.bits .and .i64 (ji7) 255)))) (wrap64 (x6_1 + 1)) a1_0 a1_1 a1_2 a1_3 a1_4 a1_5 a1_6 a1_7) = some r := by first | (rw [hji7] at H; exact H) | (simp only [hji7] at H ⊢; exact H)
          have hji7_ : (a0 / 2 ^ min (ji5).toNat 64) = ji7 := hji7
          have hji7z : (ji5) ≤ 64 → (a0 / 2 ^ (ji5).toNat) = ji7 := shr_small hji7
          have H' := Aside0.mk H
          clear H
          go_wp2
          go_roundg k1
          case measure => have := HK1.out; omega
          case rel => exact ⟨(IntKind.u16.wrap ((IntKind.u16.wrap (x5_1 * 259)) + (IntKind.u16.wrap (Go.bits .and .i64 (ji7) 255)))), (wrap64 (x6_1 + 1)), (by first | rfl | (simp; done) | (simp only [← hji7] <;> (first | rfl | simp)) | (simp [*]; done)), (by first | rfl | (simp; done) | (simp [*]; done)), H', ⟨by have := HK1.out; omega⟩, ⟨by (with_reducible repeat (first | refine blk_drewN ?_ _ | refine blk_drew ?_ | refine blk_alloc ?_ _)); exact BK236.out⟩, ⟨by repeat (first | (with_reducible first | exact HB.out | apply below_alloc | apply pw_below_drewN | apply below_drew1 | refine below_set ?_ GE236.out) | exact HB.out)⟩⟩
        · rw [if_neg c6] at H
          exact absurd H (by simp)
      · rw [if_neg c4] at H
        have c4b0 : decide (x6_1 < 4) = false := decide_eq_false c4
        clear c4
        have H' := Aside0.mk H
        clear H
        go_wp2
        go_loopg [5, 7] k1 (fun kq v5 v7 w' => ∃ (x5_2 : Int) (x7_2 : Int), v5 = .int .u16 x5_2 ∧ v7 = .int .i64 x7_2 ∧ Aside0 (spec_l07Check.l1 kq x5_2 x7_2 a1_0 a1_1 a1_2 a1_3 a1_4 a1_5 a1_6 a1_7 = some r) ∧ Aside0 (kq ≤ k1) ∧ Aside0 (w'.heap[gb236]? = some (.cells #[.int .u8 a1_0, .int .u8 a1_1, .int .u8 a1_2, .int .u8 a1_3, .int .u8 a1_4, .int .u8 a1_5, .int .u8 a1_6, .int .u8 a1_7] 37 (0, 0))) ∧ Aside0 (Below w.heap.size w w'))
        case atStart => exact ⟨(x5_1), (0), (by first | rfl | (simp; done) | (simp [*]; done)), (by first | rfl | (simp; done) | (simp [*]; done)), H', ⟨Nat.le_refl _⟩, ⟨by (with_reducible repeat (first | refine blk_drewN ?_ _ | refine blk_drew ?_ | refine blk_alloc ?_ _)); exact BK236.out⟩, ⟨by repeat (first | (with_reducible first | exact HB.out | apply below_alloc | apply pw_below_drewN | apply below_drew1 | refine below_set ?_ GE236.out) | exact HB.out)⟩⟩
        case round =>
          clear H'
          try clear p2
          try clear c4
          try clear c4b0
          try clear c5
          try clear c6
          try clear c6b0
          try clear c6b1
          try clear p6
          try clear p2
          obtain ⟨x5_2, x7_2, rfl, rfl, HA, HK2, BK236, HB⟩ := hrel
          cases gk with
          | zero => exact absurd HA.out (by simp [spec_l07Check.l1])
          | succ k2 =>
            have H := HA.out
            clear HA
            simp only [spec_l07Check.l1] at H
            by_cases c8 : x7_2 < 8
            · rw [if_pos c8] at H
              have c8b0 : decide (x7_2 < 8) = true := decide_eq_true c8
              clear c8
              by_cases c9 : 0 ≤ x7_2
              · rw [if_pos c9] at H
                have c9b0 : decide (0 ≤ x7_2) = true := decide_eq_true c9
                clear c9
                have H' := Aside0.mk H
                clear H
                have hcz10_0 : wr.cell? ⟨gb236, 0, none⟩ = some (.int .u8 a1_0) := (blk_cell BK236.out 0).trans rfl
                have hcz10_1 : wr.cell? ⟨gb236, 1, none⟩ = some (.int .u8 a1_1) := (blk_cell BK236.out 1).trans rfl
                have hcz10_2 : wr.cell? ⟨gb236, 2, none⟩ = some (.int .u8 a1_2) := (blk_cell BK236.out 2).trans rfl
                have hcz10_3 : wr.cell? ⟨gb236, 3, none⟩ = some (.int .u8 a1_3) := (blk_cell BK236.out 3).trans rfl
                have hcz10_4 : wr.cell? ⟨gb236, 4, none⟩ = some (.int .u8 a1_4) := (blk_cell BK236.out 4).trans rfl
                have hcz10_5 : wr.cell? ⟨gb236, 5, none⟩ = some (.int .u8 a1_5) := (blk_cell BK236.out 5).trans rfl
                have hcz10_6 : wr.cell? ⟨gb236, 6, none⟩ = some (.int .u8 a1_6) := (blk_cell BK236.out 6).trans rfl
                have hcz10_7 : wr.cell? ⟨gb236, 7, none⟩ = some (.int .u8 a1_7) := (blk_cell BK236.out 7).trans rfl
                have hfz10_0 := blk_frozen BK236.out 0
                have hfz10_1 := blk_frozen BK236.out 1
                have hfz10_2 := blk_frozen BK236.out 2
                have hfz10_3 := blk_frozen BK236.out 3
                have hfz10_4 := blk_frozen BK236.out 4
                have hfz10_5 := blk_frozen BK236.out 5
                have hfz10_6 := blk_frozen BK236.out 6
                have hfz10_7 := blk_frozen BK236.out 7
                have p11 : 0 ≤ (x7_2 : Int) := of_decide_eq_true (by first | (with_reducible assumption) | assumption)
                have q11 : (x7_2 : Int) < 8 := of_decide_eq_true (by first | (with_reducible assumption) | assumption)
                have hx11_0 : wr.cell? ⟨gb236, (x7_2 : Int).toNat, none⟩ = some (.int .u8 (nth [a1_0, a1_1, a1_2, a1_3, a1_4, a1_5, a1_6, a1_7] x7_2)) := (blk_cell BK236.out _).trans (arr_nth .u8 [a1_0, a1_1, a1_2, a1_3, a1_4, a1_5, a1_6, a1_7] x7_2 8 rfl p11 q11)
                replace p11 := eq_true p11
                replace q11 := eq_true q11
                go_wp2
                go_roundg k2
                case measure => have := HK1.out; have := HK2.out; omega
                case rel => exact ⟨(IntKind.u16.wrap ((IntKind.u16.wrap (x5_2 * 259)) + (IntKind.u16.wrap (nth [a1_0, a1_1, a1_2, a1_3, a1_4, a1_5, a1_6, a1_7] x7_2)))), (wrap64 (x7_2 + 1)), (by first | rfl | (simp; done) | (simp [*]; done)), (by first | rfl | (simp; done) | (simp [*]; done)), H', ⟨by have := HK1.out; have := HK2.out; omega⟩, ⟨by (with_reducible repeat (first | refine blk_drewN ?_ _ | refine blk_drew ?_ | refine blk_alloc ?_ _)); exact BK236.out⟩, ⟨by repeat (first | (with_reducible first | exact HB.out | apply below_alloc | apply pw_below_drewN | apply below_drew1 | refine below_set ?_ GE236.out) | exact HB.out)⟩⟩
              · rw [if_neg c9] at H
                exact absurd H (by simp)
            · rw [if_neg c8] at H
              have c8b0 : decide (x7_2 < 8) = false := decide_eq_false c8
              clear c8
              obtain rfl := Option.some.inj H
              go_wp2
              go_ret
              exact ⟨by first | rfl | (simp [errW_none, errW_some] <;> rfl) | (simp [*, errW_none, errW_some] <;> rfl), by repeat (first | (with_reducible first | exact HB.out | apply below_alloc | apply pw_below_drewN | apply below_drew1 | refine below_set ?_ GE236.out) | exact HB.out)⟩

end Go.Proofs.YtgfimdoildaonaaDoor.P

/- The check of a ticket: impl.check with its closure, and spec.l07Check. -/
namespace Go.Proofs.YtgfimdoildaonaaDoor.P
open Go.RowKit Go.Proofs.YtgfimdoildaonaaDoorW.PrintWords Go.Proofs.YtgfimdoildaonaaDoorW.PrintLast Go.Proofs.YtgfimdoildaonaaDoorW.PrintMore
set_option linter.unusedVariables false
set_option linter.unusedSimpArgs false
def ckS (c b : Int) : Int := IntKind.u16.wrap (IntKind.u16.wrap (c * 259) + IntKind.u16.wrap b)
def numAt (n : Int) : Nat → Int
  | 0 => n
  | k + 1 => numAt n k / 256
def chkA (n : Int) : Nat → Int
  | 0 => 1
  | k + 1 => ckS (chkA n k) (numAt n k % 256)
def chkB (c : Int) (d : Dg) : Nat → Int
  | 0 => c
  | k + 1 => ckS (chkB c d k) (nth (dlist d) k)
def chk (n : Int) (d : Dg) : Int := chkB (chkA n 4) d 8
theorem numAt_in (n : Int) (h0 : 0 ≤ n) (h1 : n ≤ 1000000) : ∀ k, 0 ≤ numAt n k ∧ numAt n k ≤ 1000000 := by
  intro k
  induction k with
  | zero => exact ⟨h0, h1⟩
  | succ k ih => simp only [numAt]; omega
set_option maxHeartbeats 1000000 in
theorem check1_at (b c : Int) (g : Nat) (w : World) (hg : w.heap[g]? = some (.cells #[.int .u16 c] 40 (0, 0))) :
    Calls Tryd.prog 70 #[.int .u8 b, .pointer (some ⟨g, 0, none⟩)] w fun e w' => e = .returned (.tuple #[]) ∧ w' = w.setCell ⟨g, 0, none⟩ (.int .u16 (ckS c b)) := by
  have hc := (blk_cell hg 0).trans rfl
  have hf := blk_frozen hg 0
  go_enter Tryd.func70, Tryd.ntmps70
  go_wp2_with fail
  go_end0
  exact ⟨rfl, rfl⟩

set_option maxHeartbeats 2000000 in
set_option maxRecDepth 100000 in
theorem check_at (n : Int) (d : Dg) (w : World) (h0 : 0 ≤ n) (h1 : n ≤ 1000000) :
    Calls Tryd.prog 58 #[.int .i64 n, .agg #[.int .u8 d.f0, .int .u8 d.f1, .int .u8 d.f2, .int .u8 d.f3, .int .u8 d.f4, .int .u8 d.f5, .int .u8 d.f6, .int .u8 d.f7]] w fun e w' => e = .returned (.int .u16 (chk n d)) ∧ Below w.heap.size w w' := by
  have HX := Aside0.mk (index_dg d)
  have HN := Aside0.mk (numAt_in n h0 h1)
  have eg := enters_of Tryd.func70 (by kernel_rfl) rfl
  have hsz : (w.alloc (.cells #[.int .u8 d.f0, .int .u8 d.f1, .int .u8 d.f2, .int .u8 d.f3, .int .u8 d.f4, .int .u8 d.f5, .int .u8 d.f6, .int .u8 d.f7] 37)).heap.size = w.heap.size + 1 := by simp
  have HK1 := Aside0.mk (blk_alloc (blk_new w (.cells #[.int .u8 d.f0, .int .u8 d.f1, .int .u8 d.f2, .int .u8 d.f3, .int .u8 d.f4, .int .u8 d.f5, .int .u8 d.f6, .int .u8 d.f7] 37)) (.cells #[.int .u16 1] 40))
  have HK2 := Aside0.mk (show ((w.alloc (.cells #[.int .u8 d.f0, .int .u8 d.f1, .int .u8 d.f2, .int .u8 d.f3, .int .u8 d.f4, .int .u8 d.f5, .int .u8 d.f6, .int .u8 d.f7] 37)).alloc (.cells #[.int .u16 1] 40)).heap[w.heap.size + 1]? = some (.cells #[.int .u16 1] 40 (0, 0)) by rw [← hsz]; exact blk_new _ _)
  have HB1 := Aside0.mk (below_alloc (below_alloc (Below.refl w.heap.size w) (.cells #[.int .u8 d.f0, .int .u8 d.f1, .int .u8 d.f2, .int .u8 d.f3, .int .u8 d.f4, .int .u8 d.f5, .int .u8 d.f6, .int .u8 d.f7] 37)) (.cells #[.int .u16 1] 40))
  clear hsz
  go_enter Tryd.func58, Tryd.ntmps58
  go_wp2_with fail
  go_loopw [0, 10] (fun v i wr => ∃ m : Nat, m ≤ 4 ∧ i = .int .i64 m ∧ v = .int .i64 (numAt n m) ∧ Aside0 (Below w.heap.size w wr) ∧ Aside0 (wr.heap[w.heap.size]? = some (.cells #[.int .u8 d.f0, .int .u8 d.f1, .int .u8 d.f2, .int .u8 d.f3, .int .u8 d.f4, .int .u8 d.f5, .int .u8 d.f6, .int .u8 d.f7] 37 (0, 0))) ∧ Aside0 (wr.heap[w.heap.size + 1]? = some (.cells #[.int .u16 (chkA n m)] 40 (0, 0)))) (fun _ i _ => 4 - (intOf i).toNat)
  case atStart => exact ⟨0, by omega, rfl, rfl, HB1, HK1, HK2⟩
  case round =>
    clear HB1 HK1 HK2
    obtain ⟨m, hm, rfl, rfl, HB, HK, HC⟩ := hrel
    by_cases hlt : m < 4
    · have hni := HN.out m
      have HA := Aside0.mk (show chkA n (m + 1) = ckS (chkA n m) (numAt n m % 256) from rfl)
      have HM := Aside0.mk (show numAt n (m + 1) = numAt n m / 256 from rfl)
      generalize numAt n m = q at hni HA HM ⊢
      obtain ⟨hq0, hq1⟩ := hni
      generalize chkA n m = c at HC HA
      go_wp2_with (go_at_call 70; refine (check1_at _ c _ _ HC.out).mono ?_; rintro e w2 ⟨rfl, rfl⟩)
      have hB2 := below_set (g := w.heap.size + 1) (j := 0) (v := .int .u16 (ckS c (q % 256))) HB.out (by omega)
      exact ⟨⟨m + 1, by omega, by go_num, by rw [HM.out], ⟨hB2⟩, ⟨blk_far HK.out (p := ⟨w.heap.size + 1, 0, none⟩) (by show _ ≠ w.heap.size + 1; omega) _⟩, ⟨by rw [HA.out]; exact blk_put HC.out _ _ rfl⟩⟩, by simp [intOf]; try omega⟩
    · obtain rfl : m = 4 := by omega
      have hq0 := (blk_cell HK.out 0).trans rfl
      have hq1 := (blk_cell HK.out 1).trans rfl
      have hq2 := (blk_cell HK.out 2).trans rfl
      have hq3 := (blk_cell HK.out 3).trans rfl
      have hq4 := (blk_cell HK.out 4).trans rfl
      have hq5 := (blk_cell HK.out 5).trans rfl
      have hq6 := (blk_cell HK.out 6).trans rfl
      have hq7 := (blk_cell HK.out 7).trans rfl
      go_wp2_with fail
      clear hq0 hq1 hq2 hq3 hq4 hq5 hq6 hq7 HK
      obtain ⟨wo, hwo⟩ : ∃ wo : World, wo = wr := ⟨_, rfl⟩
      subst hwo
      go_loopw [8, 20] (fun v i wr => ∃ (m : Nat) (u : Value), m ≤ 8 ∧ i = .int .i64 m ∧ v = u ∧ Aside0 (Below w.heap.size w wr) ∧ Aside0 (wr.heap[w.heap.size + 1]? = some (.cells #[.int .u16 (chkB (chkA n 4) d m)] 40 (0, 0)))) (fun _ i _ => 8 - (intOf i).toNat)
      case atStart => exact ⟨0, _, by omega, rfl, rfl, HB, HC⟩
      case round =>
        clear HB HC
        obtain ⟨m, u, hm, rfl, rfl, HB, HC⟩ := hrel
        by_cases hlt : m < 8
        · have hix := HX.out (m : Int) (by omega) (by omega)
          have HA := Aside0.mk (show chkB (chkA n 4) d (m + 1) = ckS (chkB (chkA n 4) d m) (nth (dlist d) m) from rfl)
          generalize nth (dlist d) (m : Int) = z at hix HA
          generalize chkB (chkA n 4) d m = c at HC HA
          go_wp2_with (go_at_call 70; refine (check1_at _ c _ _ HC.out).mono ?_; rintro e w2 ⟨rfl, rfl⟩)
          have hB2 := below_set (g := w.heap.size + 1) (j := 0) (v := .int .u16 (ckS c z)) HB.out (by omega)
          exact ⟨⟨_, _, _, _, _, _, _, _, ⟨m + 1, _, by omega, by go_num, rfl, ⟨hB2⟩, ⟨by rw [HA.out]; exact blk_put HC.out _ _ rfl⟩⟩, rfl⟩, by simp [intOf]; try omega⟩
        · obtain rfl : m = 8 := by omega
          have HE := Aside0.mk (show chkB (chkA n 4) d 8 = chk n d from rfl)
          rw [HE.out] at HC
          have hq := (blk_cell HC.out 0).trans rfl
          go_wp2_with fail
          go_ret
          exact ⟨rfl, HB.out⟩
theorem spec_chkB (c : Int) (d : Dg) : spec_l07Check.l1 20 c 0 d.f0 d.f1 d.f2 d.f3 d.f4 d.f5 d.f6 d.f7 = some (chkB c d 8) := by kernel_rfl
theorem shr_at (n : Int) (h0 : 0 ≤ n) (h1 : n ≤ 1000000) (k : Nat) (hk : k < 4) : IntKind.u16.wrap (Go.bits .and .i64 (shr .i64 n (IntKind.u64.wrap (wrap64 (8 * (k : Int))))) 255) = IntKind.u16.wrap (numAt n k % 256) := by
  obtain ⟨a, rfl⟩ := Int.eq_ofNat_of_zero_le h0
  have e1 : shr .i64 (a : Int) (IntKind.u64.wrap (wrap64 (8 * (k : Int)))) = ((a / 2 ^ (8 * k) : Nat) : Int) := by
    have hw : IntKind.u64.wrap (wrap64 (8 * (k : Int))) = ((8 * k : Nat) : Int) := by rw [IntKind.wrap_u64]; unfold wrap64; omega
    rw [hw]
    unfold shr
    rw [show min ((8 * k : Nat) : Int).toNat IntKind.i64.bits = 8 * k by show min ((8 * k : Nat) : Int).toNat 64 = 8 * k; omega]
    simp
  have e2 : numAt (a : Int) k = ((a / 2 ^ (8 * k) : Nat) : Int) := by
    have : k = 0 ∨ k = 1 ∨ k = 2 ∨ k = 3 := by omega
    rcases this with rfl | rfl | rfl | rfl <;> simp [numAt] <;> omega
  rw [e1, e2]
  have hlt : a / 2 ^ (8 * k) ≤ 1000000 := Nat.le_trans (Nat.div_le_self _ _) (by omega)
  generalize a / 2 ^ (8 * k) = q at hlt
  have e3 : Go.bits .and .i64 (q : Int) 255 = ((q % 256 : Nat) : Int) := by
    show IntKind.i64.wrap ((BitVec.ofInt 64 (q : Int) &&& BitVec.ofInt 64 (255 : Int)).toNat : Int) = _
    rw [BitVec.toNat_and, BitVec.ofInt_natCast, BitVec.toNat_ofNat, Nat.mod_eq_of_lt (by omega), show (BitVec.ofInt 64 (255 : Int)).toNat = 2 ^ 8 - 1 from rfl, Nat.and_two_pow_sub_one_eq_mod, IntKind.wrap_i64]
    omega
  rw [e3]
  congr 1
theorem spec_chk (n : Int) (d : Dg) (h0 : 0 ≤ n) (h1 : n ≤ 1000000) : spec_l07Check.f 30 n d.f0 d.f1 d.f2 d.f3 d.f4 d.f5 d.f6 d.f7 = some (chk n d) := by
  unfold spec_l07Check.f chk
  have step : ∀ (k m : Nat), m < 4 → spec_l07Check.l0 (k + 1) n (chkA n m) (m : Int) d.f0 d.f1 d.f2 d.f3 d.f4 d.f5 d.f6 d.f7 = spec_l07Check.l0 k n (chkA n (m + 1)) ((m + 1 : Nat) : Int) d.f0 d.f1 d.f2 d.f3 d.f4 d.f5 d.f6 d.f7 := by
    intro k m hm
    simp only [spec_l07Check.l0]
    rw [if_pos (by omega), if_pos (by rw [IntKind.wrap_u64]; unfold wrap64; omega), shr_at n h0 h1 m hm, show wrap64 ((m : Int) + 1) = ((m + 1 : Nat) : Int) by unfold wrap64; omega]
    rfl
  have s0 := step 29 0 (by omega)
  have s1 := step 28 1 (by omega)
  have s2 := step 27 2 (by omega)
  have s3 := step 26 3 (by omega)
  have e : spec_l07Check.l0 26 n (chkA n 4) ((4 : Nat) : Int) d.f0 d.f1 d.f2 d.f3 d.f4 d.f5 d.f6 d.f7 = spec_l07Check.l1 25 (chkA n 4) 0 d.f0 d.f1 d.f2 d.f3 d.f4 d.f5 d.f6 d.f7 := by
    simp only [spec_l07Check.l0]
    rw [if_neg (by omega)]
  rw [show spec_l07Check.l0 30 n 1 0 d.f0 d.f1 d.f2 d.f3 d.f4 d.f5 d.f6 d.f7 = spec_l07Check.l0 30 n (chkA n 0) ((0 : Nat) : Int) d.f0 d.f1 d.f2 d.f3 d.f4 d.f5 d.f6 d.f7 from rfl, s0, s1, s2, s3, e]
  exact at_rounds (fun k => (spec_l07Check.mono_l k).2 _ _ _ _ _ _ _ _ _ _) (show 20 ≤ 25 by omega) (spec_chkB (chkA n 4) d)
end Go.Proofs.YtgfimdoildaonaaDoor.P
