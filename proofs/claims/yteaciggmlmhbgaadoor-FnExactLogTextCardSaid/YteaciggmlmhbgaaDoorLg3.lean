/- Joined texts, in the order in which they were built alone: STx, Loops, DTx, VSt, PlawstoStack, PlawseqStack, LStk, PimplStackhasValue, PimplreadingOK. -/
import Derived.Test.YteaciggmlmhbgaaDoorLg2
import Derived.Test.YteaciggmlmhbgaaDoorLg0
import Derived.Test.YteaciggmlmhbgaaDoorLg1
/- spec's l01Text and DigitsText; impl.DigitsText: the same text. -/
namespace Go.Proofs.YteaciggmlmhbgaaDoor.P
open Go.RowKit Go.Proofs.YteaciggmlmhbgaaDoorW.PrintWords Go.Proofs.YteaciggmlmhbgaaDoorW.PrintLast Go.Proofs.YteaciggmlmhbgaaDoorW.PrintMore
set_option linter.unusedVariables false
set_option linter.unusedSimpArgs false
/-- The texts of the places below n, the last one first, with colons between. -/
def txtDown (f : Nat → ByteArray) : Nat → ByteArray
  | 0 => ⟨#[]⟩
  | m + 1 => f m ++ ((if 0 < m then ⟨#[58]⟩ else ⟨#[]⟩) ++ txtDown f m)
theorem txtDown_join (f : Nat → ByteArray) : ∀ n, txtDown f n = ⟨(Lib.join (((List.range n).map f).reverse.map (·.data.toList)) [58]).toArray⟩ := by
  intro n
  induction n with
  | zero => rfl
  | succ m ih =>
    rw [List.range_succ, List.map_append, List.reverse_append, List.map_append]
    simp only [txtDown, List.map_cons, List.map_nil, List.reverse_cons, List.reverse_nil, List.nil_append, List.singleton_append]
    cases m with
    | zero => apply ByteArray.ext; simp [txtDown, Lib.join_one]
    | succ q =>
      rw [if_pos (by omega), ih]
      have hne : ∃ y r, (((List.range (q + 1)).map f).reverse.map (·.data.toList)) = y :: r := by
        rw [List.range_succ, List.map_append, List.reverse_append, List.map_append]
        exact ⟨_, _, rfl⟩
      obtain ⟨y, r, hyr⟩ := hne
      rw [hyr, join_two]
      apply ByteArray.ext
      simp
theorem txtDown_size (f : Nat → ByteArray) (n : Nat) (h : ∀ i, i < n → (f i).size ≤ 100) : (txtDown f n).size ≤ 101 * n := by
  induction n with
  | zero => show (⟨#[]⟩ : ByteArray).size ≤ _; simp [ByteArray.size]
  | succ m ih =>
    have h1 := h m (by omega)
    have h2 := ih (fun i hi => h i (by omega))
    have h3 : (if 0 < m then (⟨#[58]⟩ : ByteArray) else ⟨#[]⟩).size ≤ 1 := by split <;> simp [ByteArray.size]
    simp only [txtDown, ByteArray.size_append]
    omega
theorem dec_size1 {n : Int} (h0 : 0 ≤ n) (h1 : n < 10) : (dec n).size = 1 := by rw [dec_digit h0 h1]; rfl
theorem dec_size2 {n : Int} (h0 : 10 ≤ n) (h1 : n < 100) : (dec n).size = 2 := by
  rw [dec_more h0, ByteArray.size_append, dec_size1 (by omega) (by omega), dec_size1 (by omega) (by omega)]
theorem digT_eq {b d : Int} (h0 : 2 ≤ b) (h1 : b ≤ 100) (h2 : 0 ≤ d) (h3 : d < b) : spec_l01Digit.f b d = some (digT b d) := by
  have hw : wrap64 d = d := by unfold wrap64; omega
  unfold spec_l01Digit.f specDecimal.f
  rw [hw, if_pos (by omega), Option.bind_some]
  unfold digT padT
  have e0 : (⟨(Lib.repeatL [48] 0).toArray⟩ : ByteArray) ++ dec d = dec d := by apply ByteArray.ext; simp [Lib.repeatL]
  by_cases hb : b > 10
  · rw [if_pos hb, dec_size2 (show 10 ≤ b - 1 by omega) (by omega)]
    by_cases hd : d < 10
    · rw [if_pos hd, dec_size1 h2 hd, if_pos (by omega), Lib.repeatL_one]
    · rw [if_neg hd, dec_size2 (show 10 ≤ d by omega) (by omega), e0]
  · rw [if_neg hb, dec_size1 (show 0 ≤ b - 1 by omega) (by omega), dec_size1 h2 (by omega), e0]
theorem okDg_all {s : List Int} {d : Dg} (h : okDg s d = true) : okStk s = true ∧ ∀ i : Nat, i < s.length → nth (dlist d) i < rd s i := by
  unfold okDg at h
  simp only [Bool.and_eq_true] at h
  refine ⟨h.1, fun i hi => ?_⟩
  have hl := (okStk_len h.1).2
  have := List.all_eq_true.1 h.2 i (List.mem_range.2 (by omega))
  unfold okD at this
  rw [if_pos hi] at this
  exact of_decide_eq_true this
theorem stT_size (s : List Int) (d : Dg) (h : okDg s d = true) (hd : ∀ i : Nat, i < 8 → 0 ≤ nth (dlist d) i ∧ nth (dlist d) i ≤ 255) (i : Nat) (hi : i < s.length) : (stT s d i).size ≤ 100 := by
  obtain ⟨hk, ho⟩ := okDg_all h
  have hl := okStk_len hk
  have hb := okStk_base hk i hi
  have hd2 := hd i (by omega)
  exact padT_le _ _ (by omega) (by omega) (dec_size _ (by omega) (by omega))
theorem stTxt_eq (s : List Int) (d : Dg) : stTxt s d = txtDown (stT s d) s.length := (txtDown_join _ _).symm

set_option maxHeartbeats 2000000 in
set_option maxRecDepth 100000 in
theorem l01Text_at (A0 : Option Addr) (c0 : Nat) (s : List Int) (d : Dg) (w : World) (hr : Kd.C (Kd.int .u8) w A0 s.length s) (hc : s.length ≤ c0) (hok : okDg s d = true) (hd : ∀ i : Nat, i < 8 → 0 ≤ nth (dlist d) i ∧ nth (dlist d) i ≤ 255) :
    Calls Tryd.prog 36 #[.slice A0 s.length c0, .agg #[.int .u8 d.f0, .int .u8 d.f1, .int .u8 d.f2, .int .u8 d.f3, .int .u8 d.f4, .int .u8 d.f5, .int .u8 d.f6, .int .u8 d.f7]] w fun e w' => e = .returned (.string (stTxt s d)) ∧ Below w.heap.size w w' := by
  have HR := Aside0.mk hr
  obtain ⟨hk, ho⟩ := okDg_all hok
  have hl8 := (okStk_len hk).2
  have HBA := Aside0.mk (okStk_base hk)
  have HO := Aside0.mk ho
  have HDA := Aside0.mk hd
  have HSZ := Aside0.mk (txtDown_size (stT s d) s.length (stT_size s d hok hd))
  rw [stTxt_eq]
  obtain ⟨total, htot⟩ : ∃ t, t = txtDown (stT s d) s.length := ⟨_, rfl⟩
  rw [← htot] at HSZ ⊢
  have HTOT := Aside0.mk htot
  clear hr hok hk ho hd htot
  have HB1 := Aside0.mk (below_alloc (Below.refl w.heap.size w) (.cells #[.int .u8 d.f0, .int .u8 d.f1, .int .u8 d.f2, .int .u8 d.f3, .int .u8 d.f4, .int .u8 d.f5, .int .u8 d.f6, .int .u8 d.f7] 48))
  have HK1 := Aside0.mk (blk_new w (.cells #[.int .u8 d.f0, .int .u8 d.f1, .int .u8 d.f2, .int .u8 d.f3, .int .u8 d.f4, .int .u8 d.f5, .int .u8 d.f6, .int .u8 d.f7] 48))
  go_enter Tryd.func36, Tryd.ntmps36
  go_wp2_with fail
  go_loopw [5, 6] (fun o i wr => ∃ (j : Nat) (out : ByteArray), j ≤ s.length ∧ i = .int .i64 ((j : Int) - 1) ∧ o = .string out ∧ Aside0 (out ++ txtDown (stT s d) j = total) ∧ Aside0 (Below w.heap.size w wr) ∧ Aside0 (wr.heap[w.heap.size]? = some (.cells #[.int .u8 d.f0, .int .u8 d.f1, .int .u8 d.f2, .int .u8 d.f3, .int .u8 d.f4, .int .u8 d.f5, .int .u8 d.f6, .int .u8 d.f7] 48 (0, 0)))) (fun _ i _ => (intOf i + 1).toNat)
  case atStart => exact ⟨s.length, ⟨#[]⟩, Nat.le_refl _, rfl, rfl, ⟨by rw [HTOT.out]; apply ByteArray.ext; simp⟩, HB1, HK1⟩
  case round =>
    clear HB1 HK1
    obtain ⟨j, out, hj, rfl, rfl, HE, HB, HK⟩ := hrel
    cases j with
    | zero =>
      have HE2 := Aside0.mk (show out = total by rw [← HE.out]; apply ByteArray.ext; simp [txtDown])
      clear HE
      go_wp2_with fail
      go_ret
      exact ⟨by rw [← HE2.out]; rfl, HB.out⟩
    | succ m =>
      have hi : ((m + 1 : Nat) : Int) - 1 = (m : Int) := by omega
      rw [hi]
      clear hi
      have hm0 : (0 : Int) ≤ (m : Int) := by omega
      have hm1 : (m : Int) < (s.length : Int) := by omega
      have hm8 : (m : Int) < 8 := by omega
      obtain ⟨ad, e, hx⟩ := Kd.at_int HR.out (m : Int) (by omega) (by omega)
      cases e
      rw [Int.toNat_natCast] at hx
      replace hx := (HB.out.cell (World.block_lt_of_cell? w _ hx)).trans hx
      have hdc : wr.cell? ⟨w.heap.size, m, none⟩ = some (.int .u8 (nth (dlist d) m)) := by
        have := (blk_cell HK.out m).trans (arr_nth .u8 (dlist d) (m : Int) 8 rfl hm0 hm8)
        exact this
      have hT := digT_eq (HBA.out m (by omega)).1 (HBA.out m (by omega)).2 (HDA.out m (by omega)).1 (HO.out m (by omega))
      have HT := Aside0.mk (show spec_l01Digit.f (rd s m) (nth (dlist d) m) = some (stT s d m) from hT)
      have HE1 := Aside0.mk (show out ++ (stT s d m ++ ((if 0 < m then ⟨#[58]⟩ else ⟨#[]⟩) ++ txtDown (stT s d) m)) = total from HE.out)
      have hsz : out.size + (stT s d m).size + 1 ≤ 101 * s.length + 1 := by
        have h := congrArg ByteArray.size HE1.out
        simp only [ByteArray.size_append] at h
        have := HSZ.out
        omega
      clear HE hT
      generalize rd s (m : Int) = bx at hx HT
      generalize nth (dlist d) (m : Int) = dx at hdc HT
      generalize stT s d m = txt at HT HE1 hsz
      have s1 : (9223372036854775807 < out.size + txt.size) = False := eq_false (by omega)
      have s2 : (9223372036854775807 < out.size + txt.size + 1) = False := eq_false (by omega)
      go_wp2_with fail
      refine start_ (n := 11) (S := fun w' => w'.cell? (ad.add m) = some (.int .u8 bx) ∧ w'.cell? ⟨w.heap.size, m, none⟩ = some (.int .u8 dx)) (ds := []) #[false, false, false, false, false, false, false, false, false, false, false] (by kernel_rfl) rfl rfl ⟨hx, hdc⟩ (fun hHeld => ?_)
      have HBW := Aside0.mk (below_drew1 (Below.refl wr.heap.size wr))
      generalize wr.drew = W1 at HBW hHeld ⊢
      refine pure_ (i := 0) (N := (some 14)) (v := ?_) (a' := ?_) #[true, false, false, false, false, false, false, false, false, false, false] rfl rfl (by kernel_rfl) (fun _ _ _ h => h) (Or.inl ⟨by rfl, ?_⟩) ?_ ?_
      rotate_left
      · intro w'
        go_simp
        with_reducible rfl
      rotate_left
      · simp only [Act.put, List.setIfInBounds_toArray, List.set_cons_zero, List.set_cons_succ, i64_w, i32_w]
        rfl
      refine pure_ (i := 1) (N := (some 15)) (v := ?_) (a' := ?_) #[true, true, false, false, false, false, false, false, false, false, false] rfl rfl (by kernel_rfl) (fun _ _ _ h => h) (Or.inl ⟨by rfl, ?_⟩) ?_ ?_
      rotate_left
      · intro w'
        go_simp
        with_reducible rfl
      rotate_left
      · simp only [Act.put, List.setIfInBounds_toArray, List.set_cons_zero, List.set_cons_succ, i64_w, i32_w]
        rfl
      refine pure_ (i := 2) (N := (some 16)) (v := ?_) (a' := ?_) #[true, true, true, false, false, false, false, false, false, false, false] rfl rfl (by kernel_rfl) (fun _ _ _ h => h) (Or.inl ⟨by rfl, ?_⟩) ?_ ?_
      rotate_left
      · intro w'
        go_simp
        with_reducible rfl
      rotate_left
      · simp only [Act.put, List.setIfInBounds_toArray, List.set_cons_zero, List.set_cons_succ, i64_w, i32_w]
        rfl
      refine pure_ (i := 3) (N := (some 17)) (v := ?_) (a' := ?_) #[true, true, true, true, false, false, false, false, false, false, false] rfl rfl (by kernel_rfl) (fun _ _ _ h => h) (Or.inl ⟨by rfl, ?_⟩) ?_ ?_
      rotate_left
      · intro w'
        go_simp
        with_reducible rfl
      rotate_left
      · simp only [Act.put, List.setIfInBounds_toArray, List.set_cons_zero, List.set_cons_succ, i64_w, i32_w]
        rfl
      refine take_ (i := 4) (N := (some 18)) (v := ?_) (a' := ?_) #[true, true, true, true, true, false, false, false, false, false, false] rfl rfl (by kernel_rfl) (fun _ _ _ h => h) (Or.inl ⟨by rfl, ?_⟩) hHeld ?_ ?_
      rotate_left
      · rintro w' ⟨s0, s1⟩
        go_simp
        with_reducible rfl
      rotate_left
      · simp only [Act.put, List.setIfInBounds_toArray, List.set_cons_zero, List.set_cons_succ, i64_w, i32_w]
        rfl
      refine pure_ (i := 5) (N := (some 19)) (v := ?_) (a' := ?_) #[true, true, true, true, true, true, false, false, false, false, false] rfl rfl (by kernel_rfl) (fun _ _ _ h => h) (Or.inl ⟨by rfl, ?_⟩) ?_ ?_
      rotate_left
      · intro w'
        go_simp
        with_reducible rfl
      rotate_left
      · simp only [Act.put, List.setIfInBounds_toArray, List.set_cons_zero, List.set_cons_succ, i64_w, i32_w]
        rfl
      refine pure_ (i := 6) (N := (some 20)) (v := ?_) (a' := ?_) #[true, true, true, true, true, true, true, false, false, false, false] rfl rfl (by kernel_rfl) (fun _ _ _ h => h) (Or.inl ⟨by rfl, ?_⟩) ?_ ?_
      rotate_left
      · intro w'
        go_simp
        with_reducible rfl
      rotate_left
      · simp only [Act.put, List.setIfInBounds_toArray, List.set_cons_zero, List.set_cons_succ, i64_w, i32_w]
        rfl
      refine take_ (i := 7) (N := (some 21)) (v := ?_) (a' := ?_) #[true, true, true, true, true, true, true, true, false, false, false] rfl rfl (by kernel_rfl) (fun _ _ _ h => h) (Or.inl ⟨by rfl, ?_⟩) hHeld ?_ ?_
      rotate_left
      · rintro w' ⟨s0, s1⟩
        go_simp
        with_reducible rfl
      rotate_left
      · simp only [Act.put, List.setIfInBounds_toArray, List.set_cons_zero, List.set_cons_succ, i64_w, i32_w]
        rfl
      refine one_ (i := 8) (N := (some 22)) #[true, true, true, true, true, true, true, true, true, false, false] rfl rfl (by kernel_rfl) (by decide) (fun K hK => ?_)
      refine goes_ Tryd.func50 (by kernel_rfl) rfl #[.int .u8 bx, .int .u8 dx] (by rfl) rfl rfl (by (try simp only [List.map_toArray, List.map_cons, List.map_nil]); first | done | rfl) ?_
      with_reducible refine (spec_l01Digit.calls bx dx txt _ HT.out).mono ?_
      rintro e w2 ⟨rfl, hb⟩
      refine ⟨_, rfl, ?_⟩
      have n0_ := Aside0.mk (below_step HBW.out hb)
      clear hb HBW
      have HBW := n0_
      clear n0_
      refine hK.out _ _ ⟨(HBW.out.cell (World.block_lt_of_cell? _ _ hx)).trans hx, (HBW.out.cell (World.block_lt_of_cell? _ _ hdc)).trans hdc⟩ (fun hHeld => ?_)
      clear hK K
      refine norm_ (a' := ?_) ?_ ?_
      rotate_left
      · show Act.put _ (some 22) _ = _
        simp only [Act.put, List.setIfInBounds_toArray, List.set_cons_zero, List.set_cons_succ, i64_w, i32_w]
        rfl
      refine pure_ (i := 9) (N := (some 23)) (v := ?_) (a' := ?_) #[true, true, true, true, true, true, true, true, true, true, false] rfl rfl (by kernel_rfl) (fun _ _ _ h => h) (Or.inl ⟨by rfl, ?_⟩) ?_ ?_
      rotate_left
      · intro w'
        go_simp
        with_reducible rfl
      rotate_left
      · simp only [Act.put, List.setIfInBounds_toArray, List.set_cons_zero, List.set_cons_succ, i64_w, i32_w]
        rfl
      refine pure_ (i := 10) (N := (some 5)) (v := ?_) (a' := ?_) #[true, true, true, true, true, true, true, true, true, true, true] rfl rfl (by kernel_rfl) (fun _ _ _ h => h) (Or.inl ⟨by rfl, ?_⟩) ?_ ?_
      rotate_left
      · intro w'
        go_simp
        with_reducible rfl
      rotate_left
      · simp only [Act.put, List.setIfInBounds_toArray, List.set_cons_zero, List.set_cons_succ, i64_w, i32_w]
        rfl
      refine done_ (by kernel_rfl) ?_
      have HB2 := Aside0.mk (below_step HB.out HBW.out)
      have HK2 := Aside0.mk (blk_below HK.out HBW.out)
      by_cases hz : 0 < m
      · have hmp : decide (0 < (m : Int)) = true := decide_eq_true (by omega)
        have HE2 := Aside0.mk (show (out ++ txt ++ ⟨#[58]⟩) ++ txtDown (stT s d) m = total by
          rw [← HE1.out, if_pos hz]; apply ByteArray.ext; simp)
        clear HE1
        go_wp2_with fail
        first
          | (go_roundw
             case rel => exact ⟨m, _, by omega, rfl, rfl, HE2, HB2, HK2⟩
             case measure => simp [intOf]; try omega)
          | exact ⟨⟨m, _, by omega, rfl, rfl, HE2, HB2, HK2⟩, by simp [intOf]; try omega⟩
      · have hmp : decide (0 < (m : Int)) = false := decide_eq_false (by omega)
        have HE2 := Aside0.mk (show (out ++ txt) ++ txtDown (stT s d) m = total by
          rw [← HE1.out, if_neg hz]; apply ByteArray.ext; simp)
        clear HE1
        go_wp2_with fail
        first
          | (go_roundw
             case rel => exact ⟨m, _, by omega, rfl, rfl, HE2, HB2, HK2⟩
             case measure => simp [intOf]; try omega)
          | exact ⟨⟨m, _, by omega, rfl, rfl, HE2, HB2, HK2⟩, by simp [intOf]; try omega⟩
end Go.Proofs.YteaciggmlmhbgaaDoor.P

/- Plain laws of the loops that the laws' own helpers run: copying a list element by element, comparing two lists, asking all elements. -/
namespace Go.Proofs.YteaciggmlmhbgaaDoor.P
open Go.RowKit Go.Proofs.YteaciggmlmhbgaaDoorW.PrintWords Go.Proofs.YteaciggmlmhbgaaDoorW.PrintLast Go.Proofs.YteaciggmlmhbgaaDoorW.PrintMore
set_option linter.unusedVariables false

theorem wrap_succ {i : Nat} (h : i < 9223372036854775807) : wrap64 ((i : Int) + 1) = ((i + 1 : Nat) : Int) := by
  unfold wrap64; omega
theorem wrap_pred {i : Nat} (h0 : 0 < i) (h : i < 9223372036854775807) : wrap64 ((i : Int) - 1) = ((i - 1 : Nat) : Int) := by
  unfold wrap64; omega

/-- for i := range out { out[i] = conv(xs[i]) } -/
theorem map_loop {α β : Type} (d : α) (conv : α → β) (xs : List α) (F : Nat → List β → Int → Option (List β)) (hn : xs.length < 9223372036854775807)
    (hrec : ∀ k ys (i : Nat), i < xs.length → ys.length = xs.length → F (k + 1) ys i = F k (ys.set i (conv (xs.getD i d))) (wrap64 ((i : Int) + 1)))
    (hend : ∀ k ys, F (k + 1) ys (xs.length : Int) = some ys) :
    ∀ (m k i : Nat) (ys : List β), i + m = xs.length → m < k → ys.length = xs.length → F k ys i = some (ys.take i ++ (xs.drop i).map conv) := by
  intro m
  induction m with
  | zero =>
    intro k i ys hi hk hl
    obtain ⟨k, rfl⟩ : ∃ j, k = j + 1 := ⟨k - 1, by omega⟩
    obtain rfl : i = xs.length := by omega
    rw [hend, List.drop_length, ← hl, List.take_length]; simp
  | succ m ih =>
    intro k i ys hi hk hl
    obtain ⟨k, rfl⟩ : ∃ j, k = j + 1 := ⟨k - 1, by omega⟩
    have hlt : i < xs.length := by omega
    rw [hrec k ys i hlt hl, wrap_succ (by omega), ih k (i + 1) _ (by omega) (by omega) (by simpa using hl)]
    congr 1
    rw [List.take_succ_eq_append_getElem (by rw [List.length_set]; omega), List.getElem_set_self, List.take_set, List.drop_eq_getElem_cons hlt]
    rw [List.set_eq_of_length_le (by simp; omega), List.getD_eq_getElem?_getD, List.getElem?_eq_getElem hlt]
    rw [List.map_cons, List.append_assoc]; rfl
/-- for i := range xs { if !ok(i) { return false } }; return true -/
theorem all_loop (ok : Nat → Bool) (n : Nat) (F : Nat → Int → Option Bool) (hn : n < 9223372036854775807) (c : Nat) (hc : 0 < c)
    (hyes : ∀ k (i : Nat), i < n → ok i = true → F (k + c) i = F k (wrap64 ((i : Int) + 1)))
    (hno : ∀ k (i : Nat), i < n → ok i = false → F (k + c) i = some false)
    (hend : ∀ k, F (k + 1) (n : Int) = some true) :
    ∀ (m k i : Nat), i + m = n → (m + 1) * c ≤ k → F k i = some ((List.range' i m).all ok) := by
  intro m
  induction m with
  | zero =>
    intro k i hi hk
    obtain ⟨k, rfl⟩ : ∃ j, k = j + 1 := ⟨k - 1, by omega⟩
    obtain rfl : i = n := by omega
    rw [hend]; simp
  | succ m ih =>
    intro k i hi hk
    have hck : c ≤ k := Nat.le_trans (Nat.le_mul_of_pos_left c (by omega)) hk
    obtain ⟨k, rfl⟩ : ∃ j, k = j + c := ⟨k - c, by omega⟩
    rw [List.range'_succ, List.all_cons]
    cases h : ok i with
    | true =>
      rw [hyes k i (by omega) h, wrap_succ (by omega), ih k (i + 1) (by omega) (by rw [Nat.succ_mul] at hk; omega)]
      simp
    | false => rw [hno k i (by omega) h]; simp
/-- The same, where a round needs rounds of its own (K), and the ends are whatever they are. -/
theorem all_loop2 {R : Type} (ok : Nat → Bool) (n : Nat) (F : Nat → Int → Option R) (yes no : Option R) (hn : n < 9223372036854775807) (K c : Nat) (hc : 0 < c)
    (hyes : ∀ k (i : Nat), K ≤ k → i < n → ok i = true → F (k + c) i = F k (wrap64 ((i : Int) + 1)))
    (hno : ∀ k (i : Nat), K ≤ k → i < n → ok i = false → F (k + c) i = no)
    (hend : ∀ k, K ≤ k → F (k + 1) (n : Int) = yes) :
    ∀ (m k i : Nat), i + m = n → (m + 1) * c + K ≤ k → F k i = if (List.range' i m).all ok = true then yes else no := by
  intro m
  induction m with
  | zero =>
    intro k i hi hk
    obtain ⟨k, rfl⟩ : ∃ j, k = j + 1 := ⟨k - 1, by omega⟩
    obtain rfl : i = n := by omega
    rw [hend _ (by omega)]; simp
  | succ m ih =>
    intro k i hi hk
    have hck : c + K ≤ k := Nat.le_trans (Nat.add_le_add_right (Nat.le_mul_of_pos_left c (by omega)) K) hk
    obtain ⟨k, rfl⟩ : ∃ j, k = j + c := ⟨k - c, by omega⟩
    rw [List.range'_succ, List.all_cons]
    cases h : ok i with
    | true =>
      rw [hyes k i (by omega) (by omega) h, wrap_succ (by omega), ih k (i + 1) (by omega) (by rw [Nat.succ_mul] at hk; omega), Bool.true_and]
    | false => rw [hno k i (by omega) (by omega) h, Bool.false_and, if_neg (by decide)]
/-- All places of a list, or all its elements. -/
theorem all_range {α : Type} (d : α) (p : α → Bool) (l : List α) : ((List.range' 0 l.length).all fun i => p (l.getD i d)) = l.all p := by
  rw [Bool.eq_iff_iff, List.all_eq_true, List.all_eq_true]
  constructor
  · intro h x hx
    obtain ⟨i, hi, rfl⟩ := List.getElem_of_mem hx
    have := h i (by simp [List.mem_range']; omega)
    simpa [List.getD_eq_getElem?_getD, List.getElem?_eq_getElem hi] using this
  · intro h i hi
    have hlt : i < l.length := by simpa [List.mem_range'] using hi
    have := h l[i] (List.getElem_mem hlt)
    simpa [List.getD_eq_getElem?_getD, List.getElem?_eq_getElem hlt] using this
end Go.Proofs.YteaciggmlmhbgaaDoor.P

/- DigitsText of both sides: the same. -/
namespace Go.Proofs.YteaciggmlmhbgaaDoor.P
open Go.RowKit Go.Proofs.YteaciggmlmhbgaaDoorW.PrintWords Go.Proofs.YteaciggmlmhbgaaDoorW.PrintLast Go.Proofs.YteaciggmlmhbgaaDoorW.PrintMore
set_option linter.unusedVariables false
set_option linter.unusedSimpArgs false
theorem specDigits_eq (s : List Int) (d : Dg) (hn : s.length ≤ 8) : spec_l01Digits.f 20 s d.f0 d.f1 d.f2 d.f3 d.f4 d.f5 d.f6 d.f7 = some ((List.range 8).all (okD s d)) := by
  unfold spec_l01Digits.f
  have key := all_loop (okD s d) 8 (fun k i => spec_l01Digits.l0 k s i d.f0 d.f1 d.f2 d.f3 d.f4 d.f5 d.f6 d.f7) (by omega) 1 (by omega) ?_ ?_ ?_ 8 20 0 (by omega) (by omega)
  · rw [show ((0 : Nat) : Int) = 0 from rfl] at key
    rw [key, List.range_eq_range']
  · intro k i hi h
    simp only [spec_l01Digits.l0]
    have hd : [d.f0, d.f1, d.f2, d.f3, d.f4, d.f5, d.f6, d.f7] = dlist d := rfl
    rw [hd, if_pos (by omega)]
    unfold okD at h
    by_cases hin : i < s.length
    · rw [if_pos hin] at h
      have h2 := of_decide_eq_true h
      rw [if_pos (by omega), if_pos (by omega), if_neg (by omega), if_neg (by omega)]
    · rw [if_neg hin] at h
      have h2 := of_decide_eq_true h
      rw [if_neg (by omega), if_pos (by omega), if_pos (by omega), if_pos h2]
  · intro k i hi h
    simp only [spec_l01Digits.l0]
    have hd : [d.f0, d.f1, d.f2, d.f3, d.f4, d.f5, d.f6, d.f7] = dlist d := rfl
    rw [hd, if_pos (by omega)]
    unfold okD at h
    by_cases hin : i < s.length
    · rw [if_pos hin] at h
      have h2 := of_decide_eq_false h
      rw [if_pos (by omega), if_pos (by omega), if_pos (by omega)]
    · rw [if_neg hin] at h
      have h2 := of_decide_eq_false h
      rw [if_neg (by omega), if_pos (by omega), if_pos (by omega), if_neg h2]
  · intro k
    simp only [spec_l01Digits.l0]
    rw [if_neg (by omega)]
theorem specVDg_eq (s : List Int) (d : Dg) (hn : s.length ≤ 1048576) : spec_ValidDigits.f 2097200 s d.f0 d.f1 d.f2 d.f3 d.f4 d.f5 d.f6 d.f7 = some (okDg s d) := by
  unfold spec_ValidDigits.f okDg
  rw [specOk_eq 2097200 s hn (by omega), Option.bind_some]
  cases h : okStk s with
  | false => rw [if_neg (by simp)]; rfl
  | true =>
    rw [if_pos rfl]
    have h2 := specDigits_eq s d (okStk_len h).2
    have h3 : spec_l01Digits.f 2097200 s d.f0 d.f1 d.f2 d.f3 d.f4 d.f5 d.f6 d.f7 = some ((List.range 8).all (okD s d)) := by
      have := at_rounds (fun k => spec_l01Digits.mono s d.f0 d.f1 d.f2 d.f3 d.f4 d.f5 d.f6 d.f7 k) (show 20 ≤ 2097200 by omega) h2
      exact this
    rw [h3, Option.bind_some, Bool.true_and]
def dgTxt (s : List Int) (d : Dg) : ByteArray := if okDg s d = true then stTxt s d else ⟨#[]⟩

set_option maxHeartbeats 1000000 in
theorem specDigitsText_at (A0 : Option Addr) (c0 : Nat) (s : List Int) (d : Dg) (w : World) (hr : Kd.C (Kd.int .u8) w A0 s.length s) (hc : s.length ≤ c0) (hn : s.length ≤ 1048576) (hd : ∀ i : Nat, i < 8 → 0 ≤ nth (dlist d) i ∧ nth (dlist d) i ≤ 255) :
    Calls Tryd.prog 24 #[.slice A0 s.length c0, .agg #[.int .u8 d.f0, .int .u8 d.f1, .int .u8 d.f2, .int .u8 d.f3, .int .u8 d.f4, .int .u8 d.f5, .int .u8 d.f6, .int .u8 d.f7]] w fun e w' => e = .returned (.string (dgTxt s d)) ∧ Below w.heap.size w w' := by
  have HR := Aside0.mk hr
  have HDA := Aside0.mk hd
  have HV := Aside0.mk (specVDg_eq s d hn)
  obtain ⟨t, ht⟩ : ∃ t, t = dgTxt s d := ⟨_, rfl⟩
  rw [← ht]
  have HT := Aside0.mk ht
  have HB1 := Aside0.mk (below_alloc (Below.refl w.heap.size w) (.cells #[.int .u8 d.f0, .int .u8 d.f1, .int .u8 d.f2, .int .u8 d.f3, .int .u8 d.f4, .int .u8 d.f5, .int .u8 d.f6, .int .u8 d.f7] 48))
  have HK1 := Aside0.mk (blk_new w (.cells #[.int .u8 d.f0, .int .u8 d.f1, .int .u8 d.f2, .int .u8 d.f3, .int .u8 d.f4, .int .u8 d.f5, .int .u8 d.f6, .int .u8 d.f7] 48))
  clear hr hd ht
  cases hk : okDg s d with
  | false =>
    rw [hk] at HV
    have HT2 := Aside0.mk (show t = ⟨#[]⟩ by rw [HT.out]; unfold dgTxt; rw [hk]; rfl)
    clear hk HT
    go_enter Tryd.func24, Tryd.ntmps24
    go_wp2_with (go_at_call 35; refine (spec_ValidDigits.calls 2097200 _ _ s _ _ _ _ _ _ _ _ false _ (Kd.C_below HR.out HB1.out) hc HV.out).mono ?_; rintro e w2 ⟨rfl, hb⟩; (have HB2 := Aside0.mk (below_step HB1.out hb)); clear hb)
    go_ret
    exact ⟨by rw [HT2.out]; rfl, HB2.out⟩
  | true =>
    rw [hk] at HV
    have HT2 := Aside0.mk (show t = stTxt s d by rw [HT.out]; unfold dgTxt; rw [hk]; rfl)
    have HOK := Aside0.mk hk
    clear hk HT
    go_enter Tryd.func24, Tryd.ntmps24
    go_wp2_with (first
      | (go_at_call 35; refine (spec_ValidDigits.calls 2097200 _ _ s _ _ _ _ _ _ _ _ true _ (Kd.C_below HR.out HB1.out) hc HV.out).mono ?_; rintro e w2 ⟨rfl, hb⟩; (have HB2 := Aside0.mk (below_step HB1.out hb)); (have HK2 := Aside0.mk (blk_below HK1.out hb)); clear hb; (have hq0 := (blk_cell HK2.out 0).trans rfl); (have hq1 := (blk_cell HK2.out 1).trans rfl); (have hq2 := (blk_cell HK2.out 2).trans rfl); (have hq3 := (blk_cell HK2.out 3).trans rfl); (have hq4 := (blk_cell HK2.out 4).trans rfl); (have hq5 := (blk_cell HK2.out 5).trans rfl); (have hq6 := (blk_cell HK2.out 6).trans rfl); (have hq7 := (blk_cell HK2.out 7).trans rfl))
      | (go_at_call 36; refine (l01Text_at _ _ s d _ (Kd.C_below HR.out HB2.out) hc HOK.out HDA.out).mono ?_; rintro e w3 ⟨rfl, hb⟩; (have HB3 := Aside0.mk (below_step HB2.out hb)); clear hb))
    go_ret
    exact ⟨by rw [HT2.out]; rfl, HB3.out⟩
end Go.Proofs.YteaciggmlmhbgaaDoor.P

/- The program's ValidStack, told as a function of the stack. -/
namespace Go.Proofs.YteaciggmlmhbgaaDoor.P
open Go.RowKit Go.Proofs.YteaciggmlmhbgaaDoorW.PrintWords Go.Proofs.YteaciggmlmhbgaaDoorW.PrintLast Go.Proofs.YteaciggmlmhbgaaDoorW.PrintMore
set_option linter.unusedVariables false
def impl_ValidStack.f (l0 : List Int) : Option Bool := if l0.length ≤ 1048576 then some (okStk l0) else none
theorem impl_ValidStack.calls (A0 : Option Addr) (c0 : Nat) (l0 : List Int) (r : Bool) (w : World) (hr0 : Kd.C (Kd.int .u8) w A0 l0.length l0) (hc0 : l0.length ≤ c0) (h : impl_ValidStack.f l0 = some r) :
    Calls Tryd.prog 26 #[.slice A0 l0.length c0] w fun e w' => e = .returned (.bool r) ∧ Below w.heap.size w w' := by
  unfold impl_ValidStack.f at h
  split at h
  · rename_i hn
    obtain rfl := Option.some.inj h
    exact validStack_at A0 c0 l0 w hr0 hc0 hn
  · cases h
end Go.Proofs.YteaciggmlmhbgaaDoor.P

-- Written by a program of this session (a turned form of the kit's print) out of the translation.
namespace Go.Proofs.YteaciggmlmhbgaaDoor.P
open Go.RowKit Go.Proofs.YteaciggmlmhbgaaDoorW.PrintWords Go.Proofs.YteaciggmlmhbgaaDoorW.PrintLast Go.Proofs.YteaciggmlmhbgaaDoorW.PrintMore
attribute [local go_sem] max2_int min2_int max_two min_two max_three min_three max_four min_four   -- for this text's walks alone
set_option linter.unusedVariables false
set_option linter.unusedSimpArgs false

/-! ### laws_toStack: function 6 -/
def laws_toStack.l0 : Nat → List Int → List Int → Int → Option (List Int)
  | 0, _, _, _ => none
  | k + 1, x0, x3, x4 => if x4 < (x0.length : Int) then (if 0 ≤ x4 then (if x4 < (x3.length : Int) then (laws_toStack.l0 k x0 (x3.set (x4 : Int).toNat (rd x0 x4)) (wrap64 (x4 + 1))) else (none)) else (none)) else (some x3)
def laws_toStack.f (k : Nat) (l0 : List Int) : Option (List Int) := if 0 ≤ (l0.length : Int) then (if ((l0.length : Int) : Int).toNat ≤ 281474976710656 then (laws_toStack.l0 k l0 (List.replicate ((l0.length : Int) : Int).toNat 0) 0) else (none)) else (none)
theorem laws_toStack.mono_l : ∀ k, (∀ y0 y1 y2, LeO (laws_toStack.l0 k y0 y1 y2) (laws_toStack.l0 (k + 1) y0 y1 y2))
  | 0 => fun _ _ _ r h => by simp [laws_toStack.l0] at h
  | k + 1 => by
    have ih0 := laws_toStack.mono_l k
    · intro y0 y1 y2
      unfold laws_toStack.l0
      repeat' first
      | (with_reducible exact ih0 _ _ _)
      | (with_reducible exact LeO.refl _)
      | (with_reducible exact LeO.none _)
      | (with_reducible refine LeO.ite ?_ ?_)
      | (with_reducible refine LeO.bind ?_ (fun _ => ?_))
      | exact ih0 _ _ _
      | exact LeO.none _
      | refine LeO.ite ?_ ?_
      | refine LeO.bind ?_ (fun _ => ?_)
theorem laws_toStack.mono : ∀ a0 k, LeO (laws_toStack.f k a0) (laws_toStack.f (k + 1) a0) := by
  intro a0 k
  have ih0 := laws_toStack.mono_l k
  unfold laws_toStack.f
  repeat' first
      | (with_reducible exact ih0 _ _ _)
      | (with_reducible exact LeO.refl _)
      | (with_reducible exact LeO.none _)
      | (with_reducible refine LeO.ite ?_ ?_)
      | (with_reducible refine LeO.bind ?_ (fun _ => ?_))
      | exact ih0 _ _ _
      | exact LeO.none _
      | refine LeO.ite ?_ ?_
      | refine LeO.bind ?_ (fun _ => ?_)
set_option maxHeartbeats 8000000 in
set_option maxRecDepth 100000 in
theorem laws_toStack.calls (k : Nat) (A0 : Option Addr) (c0 : Nat) (l0 : List Int) (r : List Int) (w : World) (hr0 : Kd.C (Kd.int .u8) w A0 l0.length l0) (hc0 : l0.length ≤ c0) (h : laws_toStack.f k l0 = some r) :
    Calls Tryd.prog 6 #[.slice A0 l0.length c0] w fun e w' => ∃ v0_ : Value, e = .returned (v0_) ∧ Kd.R (Kd.int .u8) 5 w' w.heap.size (fun _ => True) v0_ r ∧ Below w.heap.size w w' := by
  have HR0 := Aside0.mk hr0
  have HC0 := Aside0.mk hc0
  clear hr0 hc0
  have HB := Aside0.mk (Below.refl w.heap.size w)
  have H : (if 0 ≤ (l0.length : Int) then (if ((l0.length : Int) : Int).toNat ≤ 281474976710656 then (laws_toStack.l0 k l0 (List.replicate ((l0.length : Int) : Int).toNat 0) 0) else (none)) else (none)) = some r := h
  clear h
  by_cases c2 : 0 ≤ (l0.length : Int)
  · rw [if_pos c2] at H
    have c2b0 := eq_true c2
    have c2b1 : decide (0 ≤ (l0.length : Int)) = true := decide_eq_true c2
    clear c2
    by_cases c3 : ((l0.length : Int) : Int).toNat ≤ 281474976710656
    · rw [if_pos c3] at H
      have c3b0 := eq_true c3
      have c3b1 : decide (((l0.length : Int) : Int).toNat ≤ 281474976710656) = true := decide_eq_true c3
      clear c3
      obtain ⟨y150, hy150⟩ : ∃ y_ : List Int, y_ = (List.replicate ((l0.length : Int) : Int).toNat 0) := ⟨_, rfl⟩
      replace H : (laws_toStack.l0 k l0 y150 0) = some r := by first | (rw [hy150]; with_reducible exact H) | (have H2_ := (Option.bind_some _ _).symm.trans H; rw [hy150]; with_reducible exact H2_) | (have H2_ := (Option.bind_some _ _).symm.trans H; with_reducible exact H2_) | with_reducible exact H | (rw [hy150]; exact H) | exact H
      have Ny150 := Aside0.mk hy150
      clear hy150
      have H' := Aside0.mk H
      clear H
      go_enter Tryd.func6, Tryd.ntmps6
      go_wp2_with (first | ((with_reducible refine gate_dst (N := 7) rfl ?_); refine Kd.R_make (Kd.int .u8) _ 5 rfl (N := 7) rfl 26 _ _ rfl (l0.length : Int) rfl rfl Tryd.underlying26 (.int .u8 0) 1 info5 rfl (by decide) (by omega) 0 (ok := fun _ => True) (okp := fun _ => True) rfl (fun _ hk => hk) trivial (of_decide_eq_true (by first | (with_reducible assumption) | assumption)) (Nat.le_trans (Nat.mul_le_mul_right _ (of_decide_eq_true (by first | (with_reducible assumption) | assumption) : (l0.length : Int).toNat ≤ 281474976710656)) (by omega)) (Below.refl _ _) (Nat.le_refl _) ?_; intro v151 w4 ho5 hb hg_ hnew_; clear hg_ hnew_; (first | rw [← Ny150.out] at ho5 | (simp only [Int.reduceToNat] at ho5; rw [← Ny150.out] at ho5)); have n0_ := Aside0.mk (Kd.R_lower ho5 (below_size (by repeat (first | (with_reducible first | exact HB.out | apply below_alloc | apply pw_below_drewN | apply below_drew1) | exact HB.out)))); have n1_ := Aside0.mk (below_step (by repeat (first | (with_reducible first | exact HB.out | apply below_alloc | apply pw_below_drewN | apply below_drew1) | exact HB.out)) hb); clear HB; have HO152 := n0_; have HB := n1_; clear n0_ n1_; clear hb ho5))
      go_loopg [4] k (fun kq v4 w' => ∃ (x3_1 : List Int) (x4_1 : Int), v4 = .int .i64 x4_1 ∧ Aside0 (laws_toStack.l0 kq l0 x3_1 x4_1 = some r) ∧ Aside0 (kq ≤ k) ∧ Aside0 (Kd.R (Kd.int .u8) 5 w' w.heap.size (fun _ => True) v151 x3_1) ∧ Aside0 (Below w.heap.size w w'))
      case atStart => exact ⟨(y150), (0), (by first | rfl | (simp; done) | (simp [*]; done)), H', ⟨Nat.le_refl _⟩, ⟨by (with_reducible repeat (first | apply Kd.R_alloc | apply Kd.R_drewN | apply Kd.R_drew)); exact HO152.out⟩, ⟨by repeat (first | (with_reducible first | exact HB.out | apply below_alloc | apply pw_below_drewN | apply below_drew1) | exact HB.out)⟩⟩
      case round =>
        clear H'
        try clear c2
        try clear c2b0
        try clear c2b1
        try clear p2
        try clear c3
        try clear c3b0
        try clear c3b1
        obtain ⟨x3_1, x4_1, rfl, HA, HK1, HO_3, HB⟩ := hrel
        cases gk with
        | zero => exact absurd HA.out (by simp [laws_toStack.l0])
        | succ k1 =>
          have H := HA.out
          clear HA
          simp only [laws_toStack.l0] at H
          by_cases c6 : x4_1 < (l0.length : Int)
          · rw [if_pos c6] at H
            have c6b0 : decide (x4_1 < (l0.length : Int)) = true := decide_eq_true c6
            clear c6
            by_cases c7 : 0 ≤ x4_1
            · rw [if_pos c7] at H
              have c7b0 : decide (0 ≤ x4_1) = true := decide_eq_true c7
              clear c7
              by_cases c8 : x4_1 < (x3_1.length : Int)
              · rw [if_pos c8] at H
                have c8b0 : decide (x4_1 < (x3_1.length : Int)) = true := decide_eq_true c8
                clear c8
                obtain ⟨y154, hy154⟩ : ∃ y_ : List Int, y_ = (x3_1.set (x4_1 : Int).toNat (rd l0 x4_1)) := ⟨_, rfl⟩
                replace H : (laws_toStack.l0 k1 l0 y154 (wrap64 (x4_1 + 1))) = some r := by first | (rw [hy154]; with_reducible exact H) | (have H2_ := (Option.bind_some _ _).symm.trans H; rw [hy154]; with_reducible exact H2_) | (have H2_ := (Option.bind_some _ _).symm.trans H; with_reducible exact H2_) | with_reducible exact H | (rw [hy154]; exact H) | exact H
                have Ny154 := Aside0.mk hy154
                clear hy154
                have H' := Aside0.mk H
                clear H
                have p153 : 0 ≤ (x4_1 : Int) := of_decide_eq_true (by first | (with_reducible assumption) | assumption)
                have q153 : x4_1 < (l0.length : Int) := of_decide_eq_true (by first | (with_reducible assumption) | assumption)
                obtain ⟨ad153, e153, hx153_0⟩ := Kd.at_int HR0.out x4_1 p153 q153
                cases e153
                replace hx153_0 := (HB.out.cell (World.block_lt_of_cell? w _ hx153_0)).trans hx153_0
                replace p153 := eq_true p153
                replace q153 := eq_true q153
                have p9 : 0 ≤ (x4_1 : Int) := of_decide_eq_true (by first | (with_reducible assumption) | assumption)
                have q9 : (x4_1 : Int) < ((x3_1.length : Int) : Int) := of_decide_eq_true (by first | (with_reducible assumption) | assumption)
                obtain ⟨go9, co9, eo9, gb9, gl9, cl9, HG9⟩ := Kd.R_form HO_3.out (by omega)
                (first | cases eo9 | (injection eo9 with ea_ en_ ec_; (first | subst ea_ | (injection ea_ with ea_; subst ea_)); subst ec_; clear en_))
                have GB9 := Aside0.mk gb9
                have GG9 := Aside0.mk HG9
                clear gb9 gl9 HG9
                obtain ⟨hx9_0, hf9_0⟩ := Kd.R_celln 0 HO_3.out (x4_1 : Int) p9 q9
                replace p9 := eq_true p9
                replace q9 := eq_true q9
                have HP10 := Kd.R_putg HO_3.out (x4_1 : Int) (rd l0 x4_1)
                go_wp2_with (first | ((with_reducible refine gate_store (t := 5) (p := 20) rfl ?_); refine store_event (t := 5) (p := 20) (v := ?vo_w11) (w1 := (wr.setCell ⟨go9, (x4_1 : Int).toNat, none⟩ (.int .u8 (rd l0 x4_1)))) ?hg ?ho ?hn ?hr ?_; (case ho => rfl); (case hg => rfl); (case hn => rfl); (case hr => first | (go_simp; done) | (go_simp; rfl)); intro w11 hw; have hg : wr.grownBy w11 (some go9) := (by rw [hw]; exact HP10.2); have hp_ : Kd.R (Kd.int .u8) 5 w11 w.heap.size (fun _ => True) (.slice (some ⟨go9, 0, none⟩) x3_1.length co9) y154 := (by rw [hw, Ny154.out]; exact HP10.1); clear HP10; have n0_ := Aside0.mk (hp_); have n1_ := Aside0.mk ((by rw [hw]; exact below_set (HB.out) GB9.out : Below w.heap.size w w11)); clear HO_3; clear HB; have HO_3 := n0_; have HB := n1_; clear n0_ n1_; clear hg hw hp_))
                go_roundg k1
                case measure => have := HK1.out; omega
                case rel => exact ⟨(y154), (wrap64 (x4_1 + 1)), (by first | rfl | (simp; done) | (simp [*]; done)), H', ⟨by have := HK1.out; omega⟩, ⟨by (with_reducible repeat (first | apply Kd.R_alloc | apply Kd.R_drewN | apply Kd.R_drew)); exact HO_3.out⟩, ⟨by repeat (first | (with_reducible first | exact HB.out | apply below_alloc | apply pw_below_drewN | apply below_drew1) | exact HB.out)⟩⟩
              · rw [if_neg c8] at H
                exact absurd H (by simp)
            · rw [if_neg c7] at H
              exact absurd H (by simp)
          · rw [if_neg c6] at H
            have c6b0 : decide (x4_1 < (l0.length : Int)) = false := decide_eq_false c6
            clear c6
            obtain rfl := Option.some.inj H
            go_wp2
            go_ret
            exact ⟨_, by first | rfl | (simp [errW_none, errW_some] <;> rfl) | (simp [*, errW_none, errW_some] <;> rfl), by (with_reducible repeat (first | apply Kd.R_alloc | apply Kd.R_drewN | apply Kd.R_drew)); exact HO_3.out, by repeat (first | (with_reducible first | exact HB.out | apply below_alloc | apply pw_below_drewN | apply below_drew1) | exact HB.out)⟩
    · rw [if_neg c3] at H
      exact absurd H (by simp)
  · rw [if_neg c2] at H
    exact absurd H (by simp)

end Go.Proofs.YteaciggmlmhbgaaDoor.P

-- Written by a program of this session (a turned form of the kit's print) out of the translation.
namespace Go.Proofs.YteaciggmlmhbgaaDoor.P
open Go.RowKit Go.Proofs.YteaciggmlmhbgaaDoorW.PrintWords Go.Proofs.YteaciggmlmhbgaaDoorW.PrintLast Go.Proofs.YteaciggmlmhbgaaDoorW.PrintMore
attribute [local go_sem] max2_int min2_int max_two min_two max_three min_three max_four min_four   -- for this text's walks alone
set_option linter.unusedVariables false
set_option linter.unusedSimpArgs false

/-! ### laws_eqStack: function 9 -/
def laws_eqStack.l0 : Nat → List Int → List Int → Int → Option (Bool)
  | 0, _, _, _ => none
  | k + 1, x0, x1, x5 => if x5 < (x0.length : Int) then (if 0 ≤ x5 then (if x5 < (x1.length : Int) then (if (rd x0 x5) = (rd x1 x5) then (laws_eqStack.l0 k x0 x1 (wrap64 (x5 + 1))) else (some false)) else (none)) else (none)) else (some true)
def laws_eqStack.f (k : Nat) (l0 : List Int) (l1 : List Int) : Option (Bool) := if (l0.length : Int) = (l1.length : Int) then (laws_eqStack.l0 k l0 l1 0) else (some false)
theorem laws_eqStack.mono_l : ∀ k, (∀ y0 y1 y2, LeO (laws_eqStack.l0 k y0 y1 y2) (laws_eqStack.l0 (k + 1) y0 y1 y2))
  | 0 => fun _ _ _ r h => by simp [laws_eqStack.l0] at h
  | k + 1 => by
    have ih0 := laws_eqStack.mono_l k
    · intro y0 y1 y2
      unfold laws_eqStack.l0
      repeat' first
      | (with_reducible exact ih0 _ _ _)
      | (with_reducible exact LeO.refl _)
      | (with_reducible exact LeO.none _)
      | (with_reducible refine LeO.ite ?_ ?_)
      | (with_reducible refine LeO.bind ?_ (fun _ => ?_))
      | exact ih0 _ _ _
      | exact LeO.none _
      | refine LeO.ite ?_ ?_
      | refine LeO.bind ?_ (fun _ => ?_)
theorem laws_eqStack.mono : ∀ a0 a1 k, LeO (laws_eqStack.f k a0 a1) (laws_eqStack.f (k + 1) a0 a1) := by
  intro a0 a1 k
  have ih0 := laws_eqStack.mono_l k
  unfold laws_eqStack.f
  repeat' first
      | (with_reducible exact ih0 _ _ _)
      | (with_reducible exact LeO.refl _)
      | (with_reducible exact LeO.none _)
      | (with_reducible refine LeO.ite ?_ ?_)
      | (with_reducible refine LeO.bind ?_ (fun _ => ?_))
      | exact ih0 _ _ _
      | exact LeO.none _
      | refine LeO.ite ?_ ?_
      | refine LeO.bind ?_ (fun _ => ?_)
set_option maxHeartbeats 8000000 in
set_option maxRecDepth 100000 in
theorem laws_eqStack.calls (k : Nat) (A0 : Option Addr) (c0 : Nat) (l0 : List Int) (A1 : Option Addr) (c1 : Nat) (l1 : List Int) (r : Bool) (w : World) (hr0 : Kd.C (Kd.int .u8) w A0 l0.length l0) (hc0 : l0.length ≤ c0) (hr1 : Kd.C (Kd.int .u8) w A1 l1.length l1) (hc1 : l1.length ≤ c1) (h : laws_eqStack.f k l0 l1 = some r) :
    Calls Tryd.prog 9 #[.slice A0 l0.length c0, .slice A1 l1.length c1] w fun e w' => e = .returned (.bool r) ∧ Drawn0 w w' := by
  have HR0 := Aside0.mk hr0
  have HC0 := Aside0.mk hc0
  clear hr0 hc0
  have HR1 := Aside0.mk hr1
  have HC1 := Aside0.mk hc1
  clear hr1 hc1
  have H : (if (l0.length : Int) = (l1.length : Int) then (laws_eqStack.l0 k l0 l1 0) else (some false)) = some r := h
  clear h
  by_cases c3 : (l0.length : Int) = (l1.length : Int)
  · rw [if_pos c3] at H
    have c3b0 : ((l0.length : Int) == (l1.length : Int)) = true := beq_iff_eq.mpr c3
    have c3b1 : ((l0.length : Int) != (l1.length : Int)) = false := bne_eq_false_iff_eq.mpr c3
    have c3b2 : (l0.length == l1.length) = true := by first | simpa using c3 | (simp at c3 ⊢; omega)
    clear c3
    have H' := Aside0.mk H
    clear H
    go_enter Tryd.func9, Tryd.ntmps9
    go_wp2
    repeat (go_quiet (fail); try go_wp2)
    go_loopg [5] k (fun kq v5 w' => ∃ (x5_1 : Int), v5 = .int .i64 x5_1 ∧ Aside0 (laws_eqStack.l0 kq l0 l1 x5_1 = some r) ∧ Aside0 (kq ≤ k) ∧ Drawn0 w w')
    case atStart => exact ⟨(0), (by first | rfl | (simp; done) | (simp [*]; done)), H', ⟨Nat.le_refl _⟩, by repeat (first | exact Drawn0.refl _ | apply Drawn0.step)⟩
    case round =>
      clear H'
      try clear c1
      try clear p2
      try clear c3
      try clear c3b0
      try clear c3b1
      try clear c3b2
      obtain ⟨x5_1, rfl, HA, HK1, ⟨m1, rfl⟩⟩ := hrel
      cases gk with
      | zero => exact absurd HA.out (by simp [laws_eqStack.l0])
      | succ k1 =>
        have H := HA.out
        clear HA
        simp only [laws_eqStack.l0] at H
        by_cases c4 : x5_1 < (l0.length : Int)
        · rw [if_pos c4] at H
          have c4b0 : decide (x5_1 < (l0.length : Int)) = true := decide_eq_true c4
          clear c4
          by_cases c5 : 0 ≤ x5_1
          · rw [if_pos c5] at H
            have c5b0 : decide (0 ≤ x5_1) = true := decide_eq_true c5
            clear c5
            by_cases c6 : x5_1 < (l1.length : Int)
            · rw [if_pos c6] at H
              have c6b0 : decide (x5_1 < (l1.length : Int)) = true := decide_eq_true c6
              clear c6
              by_cases c7 : (rd l0 x5_1) = (rd l1 x5_1)
              · rw [if_pos c7] at H
                have c7b0 : ((rd l0 x5_1) == (rd l1 x5_1)) = true := beq_iff_eq.mpr c7
                have c7b1 : ((rd l0 x5_1) != (rd l1 x5_1)) = false := bne_eq_false_iff_eq.mpr c7
                clear c7
                have H' := Aside0.mk H
                clear H
                have p186 : 0 ≤ (x5_1 : Int) := of_decide_eq_true (by first | (with_reducible assumption) | assumption)
                have q186 : x5_1 < (l0.length : Int) := of_decide_eq_true (by first | (with_reducible assumption) | assumption)
                obtain ⟨ad186, e186, hx186_0⟩ := Kd.at_int HR0.out x5_1 p186 q186
                cases e186
                replace p186 := eq_true p186
                replace q186 := eq_true q186
                have p187 : 0 ≤ (x5_1 : Int) := of_decide_eq_true (by first | (with_reducible assumption) | assumption)
                have q187 : x5_1 < (l1.length : Int) := of_decide_eq_true (by first | (with_reducible assumption) | assumption)
                obtain ⟨ad187, e187, hx187_0⟩ := Kd.at_int HR1.out x5_1 p187 q187
                cases e187
                replace p187 := eq_true p187
                replace q187 := eq_true q187
                go_wp2
                repeat (go_quiet (fail); try go_wp2)
                go_roundg k1
                case measure => have := HK1.out; omega
                case rel => exact ⟨(wrap64 (x5_1 + 1)), (by first | rfl | (simp; done) | (simp [*]; done)), H', ⟨by have := HK1.out; omega⟩, by repeat (first | exact Drawn0.refl _ | apply Drawn0.step)⟩
              · rw [if_neg c7] at H
                have c7b0 : ((rd l0 x5_1) == (rd l1 x5_1)) = false := beq_eq_false_iff_ne.mpr c7
                have c7b1 : ((rd l0 x5_1) != (rd l1 x5_1)) = true := bne_iff_ne.mpr c7
                obtain rfl := Option.some.inj H
                have p186 : 0 ≤ (x5_1 : Int) := of_decide_eq_true (by first | (with_reducible assumption) | assumption)
                have q186 : x5_1 < (l0.length : Int) := of_decide_eq_true (by first | (with_reducible assumption) | assumption)
                obtain ⟨ad186, e186, hx186_0⟩ := Kd.at_int HR0.out x5_1 p186 q186
                cases e186
                replace p186 := eq_true p186
                replace q186 := eq_true q186
                have p187 : 0 ≤ (x5_1 : Int) := of_decide_eq_true (by first | (with_reducible assumption) | assumption)
                have q187 : x5_1 < (l1.length : Int) := of_decide_eq_true (by first | (with_reducible assumption) | assumption)
                obtain ⟨ad187, e187, hx187_0⟩ := Kd.at_int HR1.out x5_1 p187 q187
                cases e187
                replace p187 := eq_true p187
                replace q187 := eq_true q187
                go_wp2
                repeat (go_quiet (fail); try go_wp2)
                go_ret
                exact ⟨by first | rfl | (simp; done) | (simp [*]; done), by repeat (first | exact Drawn0.refl _ | apply Drawn0.step)⟩
            · rw [if_neg c6] at H
              exact absurd H (by simp)
          · rw [if_neg c5] at H
            exact absurd H (by simp)
        · rw [if_neg c4] at H
          have c4b0 : decide (x5_1 < (l0.length : Int)) = false := decide_eq_false c4
          clear c4
          obtain rfl := Option.some.inj H
          go_wp2
          repeat (go_quiet (fail); try go_wp2)
          go_ret
          exact ⟨by first | rfl | (simp; done) | (simp [*]; done), by repeat (first | exact Drawn0.refl _ | apply Drawn0.step)⟩
  · rw [if_neg c3] at H
    have c3b0 : ((l0.length : Int) == (l1.length : Int)) = false := beq_eq_false_iff_ne.mpr c3
    have c3b1 : ((l0.length : Int) != (l1.length : Int)) = true := bne_iff_ne.mpr c3
    have c3b2 : (l0.length == l1.length) = false := by first | simpa using c3 | (simp at c3 ⊢; omega)
    obtain rfl := Option.some.inj H
    go_enter Tryd.func9, Tryd.ntmps9
    go_wp2
    repeat (go_quiet (fail); try go_wp2)
    go_ret
    exact ⟨by first | rfl | (simp; done) | (simp [*]; done), by repeat (first | exact Drawn0.refl _ | apply Drawn0.step)⟩

end Go.Proofs.YteaciggmlmhbgaaDoor.P

/- Plain laws of the laws' helpers on stacks and digits: copies are equal. -/
namespace Go.Proofs.YteaciggmlmhbgaaDoor.P
open Go.RowKit Go.Proofs.YteaciggmlmhbgaaDoorW.PrintWords Go.Proofs.YteaciggmlmhbgaaDoorW.PrintLast Go.Proofs.YteaciggmlmhbgaaDoorW.PrintMore
set_option linter.unusedVariables false
theorem to_stack (l : List Int) (hn : l.length ≤ 1048576) : laws_toStack.f 1048577 l = some l := by
  unfold laws_toStack.f
  rw [if_pos (by omega), if_pos (by omega)]
  have key := map_loop 0 (fun x : Int => x) l (fun k ys i => laws_toStack.l0 k l ys i) (by omega) ?_ ?_ l.length 1048577 0 (List.replicate ((l.length : Int)).toNat 0) (by omega) (by omega) (by simp)
  · simp only [Int.ofNat_zero] at key
    rw [key]; simp
  · intro k ys i hi hl
    simp only [laws_toStack.l0]
    rw [if_pos (by omega), if_pos (by omega), if_pos (by omega)]
    simp [rd]
  · intro k ys
    simp only [laws_toStack.l0]
    rw [if_neg (by omega)]
theorem eq_stack (l : List Int) (hn : l.length ≤ 1048576) : laws_eqStack.f 1048577 l l = some true := by
  unfold laws_eqStack.f
  rw [if_pos rfl]
  have key := all_loop (fun _ => true) l.length (fun k i => laws_eqStack.l0 k l l i) (by omega) 1 (by omega) ?_ ?_ ?_ l.length 1048577 0 (by omega) (by omega)
  · rw [show ((0 : Nat) : Int) = 0 from rfl] at key
    rw [key]; simp
  · intro k i hi _
    simp only [laws_eqStack.l0]
    rw [if_pos (by omega), if_pos (by omega), if_pos (by omega)]
    simp
  · intro k i hi h; cases h
  · intro k
    simp only [laws_eqStack.l0]
    rw [if_neg (by omega)]
end Go.Proofs.YteaciggmlmhbgaaDoor.P

-- Written by a program of this session (a turned form of the kit's print) out of the translation.
namespace Go.Proofs.YteaciggmlmhbgaaDoor.P
open Go.RowKit Go.Proofs.YteaciggmlmhbgaaDoorW.PrintWords Go.Proofs.YteaciggmlmhbgaaDoorW.PrintLast Go.Proofs.YteaciggmlmhbgaaDoorW.PrintMore
attribute [local go_sem] max2_int min2_int max_two min_two max_three min_three max_four min_four   -- for this text's walks alone
set_option linter.unusedVariables false
set_option linter.unusedSimpArgs false

/-! ### impl_Stack_hasValue: function 42 -/
def impl_Stack_hasValue.f (k : Nat) (l0 : List Int) (a1 : Int) : Option (Bool) := (impl_Stack_size.f k l0).bind fun t166 => ((impl_within.f a1 0 (wrap64 (t166 - 1))).bind fun t167 => (some t167))
theorem impl_Stack_hasValue.mono : ∀ a0 a1 k, LeO (impl_Stack_hasValue.f k a0 a1) (impl_Stack_hasValue.f (k + 1) a0 a1) := by
  intro a0 a1 k
  unfold impl_Stack_hasValue.f
  repeat' first
      | (with_reducible exact impl_Stack_size.mono _ _)
      | (with_reducible exact LeO.refl _)
      | (with_reducible exact LeO.none _)
      | (with_reducible refine LeO.ite ?_ ?_)
      | (with_reducible refine LeO.bind ?_ (fun _ => ?_))
      | exact impl_Stack_size.mono _ _
      | exact LeO.none _
      | refine LeO.ite ?_ ?_
      | refine LeO.bind ?_ (fun _ => ?_)
set_option maxHeartbeats 8000000 in
set_option maxRecDepth 100000 in
theorem impl_Stack_hasValue.calls (k : Nat) (A0 : Option Addr) (c0 : Nat) (l0 : List Int) (a1 : Int) (r : Bool) (w : World) (hr0 : Kd.C (Kd.int .u8) w A0 l0.length l0) (hc0 : l0.length ≤ c0) (h : impl_Stack_hasValue.f k l0 a1 = some r) :
    Calls Tryd.prog 42 #[.slice A0 l0.length c0, .int .i64 a1] w fun e w' => e = .returned (.bool r) ∧ Below w.heap.size w w' := by
  have HR0 := Aside0.mk hr0
  have HC0 := Aside0.mk hc0
  clear hr0 hc0
  have HB := Aside0.mk (Below.refl w.heap.size w)
  have H : ((impl_Stack_size.f k l0).bind fun t166 => ((impl_within.f a1 0 (wrap64 (t166 - 1))).bind fun t167 => (some t167))) = some r := h
  clear h
  replace H := Option.bind_eq_some_iff.mp H
  obtain ⟨t166, A30, H⟩ := H
  replace H : ((impl_within.f a1 0 (wrap64 (t166 - 1))).bind fun t167 => (some t167)) = some r := H
  have A3 := Aside0.mk A30
  clear A30
  replace H := Option.bind_eq_some_iff.mp H
  obtain ⟨t167, A40, H⟩ := H
  replace H : (some t167) = some r := H
  have A4 := Aside0.mk A40
  clear A40
  obtain rfl := Option.some.inj H
  go_enter Tryd.func42, Tryd.ntmps42
  go_wp2_with (first | ((with_reducible refine gate_callee (f := 41) rfl ?_); refine goesL_ (some 7) rfl rfl Tryd.func41 (by kernel_rfl) rfl #[.slice A0 l0.length c0] rfl (by (try simp only [List.map_toArray, List.map_cons, List.map_nil]); first | done | rfl | (simp only [List.length_drop, List.length_take]; rfl)) ?_; (with_reducible refine (impl_Stack_size.calls k _ _ l0 t166 _ ?side1 ?side2 A3.out).mono ?_); (case side1 => repeat (first | exact HR0.out | (with_reducible refine Kd.C_alloc ?_ _) | (with_reducible refine Kd.C_drewN ?_ _) | (with_reducible refine Kd.C_drew ?_))); (case side2 => exact HC0.out); rintro e w5 ⟨rfl, hb⟩; refine ⟨_, rfl, ?_⟩; have n0_ := Aside0.mk (below_step (by repeat (first | (with_reducible first | exact HB.out | apply below_alloc | apply pw_below_drewN | apply below_drew1) | exact HB.out)) hb); clear HB; have HB := n0_; clear n0_; (try clear hb); (try clear hb2); (try clear hk); (try clear hi)) | ((with_reducible refine gate_callee (f := 37) rfl ?_); refine goesL_ (some 9) rfl rfl Tryd.func37 (by kernel_rfl) rfl #[.int .i64 a1, .int .i64 0, .int .i64 (wrap64 (t166 - 1))] rfl (by (try simp only [List.map_toArray, List.map_cons, List.map_nil]); first | done | rfl | (simp only [List.length_drop, List.length_take]; rfl)) ?_; (with_reducible refine (impl_within.calls a1 0 (wrap64 (t166 - 1)) t167 _ A4.out).mono ?_); rintro e w' ⟨rfl, ⟨nd, rfl⟩⟩; refine ⟨_, rfl, ?_⟩))
  go_ret
  exact ⟨by first | rfl | (simp [errW_none, errW_some] <;> rfl) | (simp [*, errW_none, errW_some] <;> rfl), by repeat (first | (with_reducible first | exact HB.out | apply below_alloc | apply pw_below_drewN | apply below_drew1) | exact HB.out)⟩

end Go.Proofs.YteaciggmlmhbgaaDoor.P

-- Written by a program of this session (a turned form of the kit's print) out of the translation.
namespace Go.Proofs.YteaciggmlmhbgaaDoor.P
open Go.RowKit Go.Proofs.YteaciggmlmhbgaaDoorW.PrintWords Go.Proofs.YteaciggmlmhbgaaDoorW.PrintLast Go.Proofs.YteaciggmlmhbgaaDoorW.PrintMore
attribute [local go_sem] max2_int min2_int max_two min_two max_three min_three max_four min_four   -- for this text's walks alone
set_option linter.unusedVariables false
set_option linter.unusedSimpArgs false

/-! ### impl_readingOK: function 27 -/
def impl_readingOK.f (k : Nat) (l0 : List Int) (a1_0 : Int) (a1_1 : Int) : Option (Bool) := (impl_within.f a1_0 0 100000).bind fun t169 => (if t169 = true then ((impl_Stack_hasValue.f k l0 a1_1).bind fun t170 => (some t170)) else (some false))
theorem impl_readingOK.mono : ∀ a0 a1 a2 k, LeO (impl_readingOK.f k a0 a1 a2) (impl_readingOK.f (k + 1) a0 a1 a2) := by
  intro a0 a1 a2 k
  unfold impl_readingOK.f
  repeat' first
      | (with_reducible exact impl_Stack_hasValue.mono _ _ _)
      | (with_reducible exact LeO.refl _)
      | (with_reducible exact LeO.none _)
      | (with_reducible refine LeO.ite ?_ ?_)
      | (with_reducible refine LeO.bind ?_ (fun _ => ?_))
      | exact impl_Stack_hasValue.mono _ _ _
      | exact LeO.none _
      | refine LeO.ite ?_ ?_
      | refine LeO.bind ?_ (fun _ => ?_)
set_option maxHeartbeats 8000000 in
set_option maxRecDepth 100000 in
theorem impl_readingOK.calls (k : Nat) (A0 : Option Addr) (c0 : Nat) (l0 : List Int) (a1_0 : Int) (a1_1 : Int) (r : Bool) (w : World) (hr0 : Kd.C (Kd.int .u8) w A0 l0.length l0) (hc0 : l0.length ≤ c0) (h : impl_readingOK.f k l0 a1_0 a1_1 = some r) :
    Calls Tryd.prog 27 #[.slice A0 l0.length c0, .agg #[.int .i64 a1_0, .int .i64 a1_1]] w fun e w' => e = .returned (.bool r) ∧ Below w.heap.size w w' := by
  have hu35 := Tryd.underlying35
  have HR0 := Aside0.mk hr0
  have HC0 := Aside0.mk hc0
  clear hr0 hc0
  have HB := Aside0.mk (Below.refl w.heap.size w)
  have H : ((impl_within.f a1_0 0 100000).bind fun t169 => (if t169 = true then ((impl_Stack_hasValue.f k l0 a1_1).bind fun t170 => (some t170)) else (some false))) = some r := h
  clear h
  replace H := Option.bind_eq_some_iff.mp H
  obtain ⟨t169, A30, H⟩ := H
  replace H : (if t169 = true then ((impl_Stack_hasValue.f k l0 a1_1).bind fun t170 => (some t170)) else (some false)) = some r := H
  have A3 := Aside0.mk A30
  clear A30
  by_cases c4 : t169 = true
  · subst c4
    have H1 : ((impl_Stack_hasValue.f k l0 a1_1).bind fun t170 => (some t170)) = some r := by rw [if_pos rfl] at H; exact H
    clear H
    have H := H1
    clear H1
    replace H := Option.bind_eq_some_iff.mp H
    obtain ⟨t170, A50, H⟩ := H
    replace H : (some t170) = some r := H
    have A5 := Aside0.mk A50
    clear A50
    obtain rfl := Option.some.inj H
    go_enter Tryd.func27, Tryd.ntmps27
    go_wp2_with (first | ((with_reducible refine gate_dst (N := 3) rfl ?_); refine box_event ?hg (N := 3) ?hd (cs := #[.int .i64 a1_0, .int .i64 a1_1]) (t := 35) ?hr ?_; (case hd => rfl); (case hg => rfl); (case hr => first | (go_simp; done) | (go_simp; rfl)); intro gb168 hg w6 hbox hb; have n0_ := Aside0.mk (below_step (by repeat (first | (with_reducible first | exact HB.out | apply below_alloc | apply pw_below_drewN | apply below_drew1) | exact HB.out)) hb); have n1_ := Aside0.mk (hbox); have n2_ := Aside0.mk ((by rw [hg]; exact (below_size (by repeat (first | (with_reducible first | exact HB.out | apply below_alloc | apply pw_below_drewN | apply below_drew1) | exact HB.out))) : w.heap.size ≤ gb168)); have n3_ := Aside0.mk ((by rw [hg]; exact (below_size (by repeat (first | (with_reducible first | exact HB.out | apply below_alloc | apply pw_below_drewN | apply below_drew1) | exact HB.out))) : w.heap.size ≤ gb168)); clear HB; have HB := n0_; have BK168 := n1_; have GW168 := n2_; have GE168 := n3_; clear n0_ n1_ n2_ n3_; clear hb hbox hg; have hcz7_0 : w6.cell? ⟨gb168, 0, none⟩ = some (.int .i64 a1_0) := (blk_cell BK168.out 0).trans rfl; have hcz7_1 : w6.cell? ⟨gb168, 1, none⟩ = some (.int .i64 a1_1) := (blk_cell BK168.out 1).trans rfl; have hfz7_0 := blk_frozen BK168.out 0; have hfz7_1 := blk_frozen BK168.out 1) | ((with_reducible refine gate_callee (f := 37) rfl ?_); refine goesL_ (some 7) rfl rfl Tryd.func37 (by kernel_rfl) rfl #[.int .i64 a1_0, .int .i64 0, .int .i64 100000] rfl (by (try simp only [List.map_toArray, List.map_cons, List.map_nil]); first | done | rfl | (simp only [List.length_drop, List.length_take]; rfl)) ?_; (with_reducible refine (impl_within.calls a1_0 0 100000 true _ A3.out).mono ?_); rintro e w' ⟨rfl, ⟨nd, rfl⟩⟩; refine ⟨_, rfl, ?_⟩) | (go_at_call 42; (with_reducible refine (impl_Stack_hasValue.calls k _ _ l0 a1_1 t170 _ ?side1 ?side2 A5.out).mono ?_); (case side1 => repeat (first | exact (Kd.C_below HR0.out (by repeat (first | (with_reducible first | exact HB.out | apply below_alloc | apply pw_below_drewN | apply below_drew1 | refine below_set ?_ GE168.out) | exact HB.out))) | (with_reducible refine Kd.C_alloc ?_ _) | (with_reducible refine Kd.C_drewN ?_ _) | (with_reducible refine Kd.C_drew ?_))); (case side2 => exact HC0.out); rintro e w8 ⟨rfl, hb⟩; have n0_ := Aside0.mk (blk_below (g := gb168) (o := .cells #[.int .i64 a1_0, .int .i64 a1_1] 35 (0, 0)) (by (with_reducible repeat (first | refine blk_drewN ?_ _ | refine blk_drew ?_ | refine blk_alloc ?_ _)); exact BK168.out) hb); have n1_ := Aside0.mk (below_step (by repeat (first | (with_reducible first | exact HB.out | apply below_alloc | apply pw_below_drewN | apply below_drew1 | refine below_set ?_ GE168.out) | exact HB.out)) hb); clear BK168; clear HB; have BK168 := n0_; have HB := n1_; clear n0_ n1_; (try clear hb); (try clear hb2); (try clear hk); (try clear hi)))
    go_ret
    exact ⟨by first | rfl | (simp [errW_none, errW_some] <;> rfl) | (simp [*, errW_none, errW_some] <;> rfl), by repeat (first | (with_reducible first | exact HB.out | apply below_alloc | apply pw_below_drewN | apply below_drew1 | refine below_set ?_ GE168.out) | exact HB.out)⟩
  · replace c4 := Bool.eq_false_iff.mpr c4
    subst c4
    have H1 : (some false) = some r := by rw [if_neg (show ¬ (false = true) by decide)] at H; exact H
    clear H
    have H := H1
    clear H1
    obtain rfl := Option.some.inj H
    go_enter Tryd.func27, Tryd.ntmps27
    go_wp2_with (first | ((with_reducible refine gate_dst (N := 3) rfl ?_); refine box_event ?hg (N := 3) ?hd (cs := #[.int .i64 a1_0, .int .i64 a1_1]) (t := 35) ?hr ?_; (case hd => rfl); (case hg => rfl); (case hr => first | (go_simp; done) | (go_simp; rfl)); intro gb168 hg w9 hbox hb; have n0_ := Aside0.mk (below_step (by repeat (first | (with_reducible first | exact HB.out | apply below_alloc | apply pw_below_drewN | apply below_drew1) | exact HB.out)) hb); have n1_ := Aside0.mk (hbox); have n2_ := Aside0.mk ((by rw [hg]; exact (below_size (by repeat (first | (with_reducible first | exact HB.out | apply below_alloc | apply pw_below_drewN | apply below_drew1) | exact HB.out))) : w.heap.size ≤ gb168)); have n3_ := Aside0.mk ((by rw [hg]; exact (below_size (by repeat (first | (with_reducible first | exact HB.out | apply below_alloc | apply pw_below_drewN | apply below_drew1) | exact HB.out))) : w.heap.size ≤ gb168)); clear HB; have HB := n0_; have BK168 := n1_; have GW168 := n2_; have GE168 := n3_; clear n0_ n1_ n2_ n3_; clear hb hbox hg; have hcz10_0 : w9.cell? ⟨gb168, 0, none⟩ = some (.int .i64 a1_0) := (blk_cell BK168.out 0).trans rfl; have hcz10_1 : w9.cell? ⟨gb168, 1, none⟩ = some (.int .i64 a1_1) := (blk_cell BK168.out 1).trans rfl; have hfz10_0 := blk_frozen BK168.out 0; have hfz10_1 := blk_frozen BK168.out 1) | ((with_reducible refine gate_callee (f := 37) rfl ?_); refine goesL_ (some 7) rfl rfl Tryd.func37 (by kernel_rfl) rfl #[.int .i64 a1_0, .int .i64 0, .int .i64 100000] rfl (by (try simp only [List.map_toArray, List.map_cons, List.map_nil]); first | done | rfl | (simp only [List.length_drop, List.length_take]; rfl)) ?_; (with_reducible refine (impl_within.calls a1_0 0 100000 false _ A3.out).mono ?_); rintro e w' ⟨rfl, ⟨nd, rfl⟩⟩; refine ⟨_, rfl, ?_⟩))
    go_ret
    exact ⟨by first | rfl | (simp [errW_none, errW_some] <;> rfl) | (simp [*, errW_none, errW_some] <;> rfl), by repeat (first | (with_reducible first | exact HB.out | apply below_alloc | apply pw_below_drewN | apply below_drew1 | refine below_set ?_ GE168.out) | exact HB.out)⟩

end Go.Proofs.YteaciggmlmhbgaaDoor.P
