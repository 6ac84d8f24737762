/- FnExactTicketText: for every stack and ticket the program's TicketText returns what the reference's returns; no condition. -/
import Derived.Test.YtgfimdoildaonaaDoorTk4
import Derived.Test.YtgfimdoildaonaaDoorTk0
import Derived.Test.YtgfimdoildaonaaDoorTk3
import Derived.Test.YtgfimdoildaonaaDoorCards
import Derived.Test.YtgfimdoildaonaaDoorTie
import Derived.Below
/- TicketText of both sides: the same. -/
namespace Go.Proofs.YtgfimdoildaonaaDoor.P
open Go.RowKit Go.Proofs.YtgfimdoildaonaaDoorW.PrintWords Go.Proofs.YtgfimdoildaonaaDoorW.PrintLast Go.Proofs.YtgfimdoildaonaaDoorW.PrintMore
set_option linter.unusedVariables false
set_option linter.unusedSimpArgs false
theorem okTk_all {s : List Int} {t : Tk} (h : okTk s t = true) : (1 ≤ t.n ∧ t.n ≤ 1000000) ∧ okDg s t.d = true := by
  unfold okTk at h
  simp only [Bool.and_eq_true] at h
  exact ⟨of_decide_eq_true h.1, h.2.1⟩
theorem okTk_stk {s : List Int} (t : Tk) (h : okStk s = false) : okTk s t = false := by
  unfold okTk okDg
  rw [h]; simp
def ticketText (s : List Int) (t : Tk) : ByteArray := if okTk s t = true then tkTxt s t else ⟨#[]⟩
def tkIn (t : Tk) : Prop := (∀ i : Nat, i < 8 → 0 ≤ nth (dlist t.d) i ∧ nth (dlist t.d) i ≤ 255) ∧ (0 ≤ t.c ∧ t.c ≤ 65535)
set_option maxHeartbeats 4000000 in
set_option maxRecDepth 100000 in
theorem l07Ticket_at (A0 : Option Addr) (c0 : Nat) (s : List Int) (t : Tk) (g : Nat) (w : World) (hr : Kd.C (Kd.int .u8) w A0 s.length s) (hc : s.length ≤ c0) (hok : okTk s t = true) (hti : tkIn t) (hk : w.heap[g]? = some (.cells #[.int .i64 t.n, .int .u8 t.d.f0, .int .u8 t.d.f1, .int .u8 t.d.f2, .int .u8 t.d.f3, .int .u8 t.d.f4, .int .u8 t.d.f5, .int .u8 t.d.f6, .int .u8 t.d.f7, .int .u16 t.c] 45 (0, 0))) :
    Calls Tryd.prog 32 #[.slice A0 s.length c0, .pointer (some ⟨g, 0, none⟩)] w fun e w' => e = .returned (.string (tkTxt s t)) ∧ Below w.heap.size w w' := by
    obtain ⟨hin, hdg⟩ := okTk_all hok
    have HR := Aside0.mk hr
    have HDA := Aside0.mk hti.1
    have hcb := hti.2
    have HOK := Aside0.mk hdg
    have HB := Aside0.mk (Below.refl w.heap.size w)
    have HK := Aside0.mk hk
    have hq1 := dec_size t.n (by omega) (by omega)
    have hq2 := dec_size t.c (by omega) (by omega)
    have hq3 := stTxt_size s t.d hdg HDA.out
    have e32 : (⟨#[32]⟩ : ByteArray).size = 1 := rfl
    have z1 : (9223372036854775807 < (dec t.n).size + 1) = False := eq_false (by omega)
    have z2 : (9223372036854775807 < (dec t.n).size + 1 + (stTxt s t.d).size) = False := eq_false (by omega)
    have z3 : (9223372036854775807 < (dec t.n).size + 1 + (stTxt s t.d).size + 1) = False := eq_false (by omega)
    have z4 : (9223372036854775807 < (dec t.n).size + 1 + (stTxt s t.d).size + 1 + (dec t.c).size) = False := eq_false (by omega)
    have HWC := Aside0.mk (show wrap64 t.c = t.c by unfold wrap64; omega)
    have HTX := Aside0.mk (show tkTxt s t = dec t.n ++ ⟨#[32]⟩ ++ stTxt s t.d ++ ⟨#[32]⟩ ++ dec t.c from rfl)
    have HD1 := Aside0.mk (fun W => decimal_any t.n W (by omega) (by omega))
    have HD2 := Aside0.mk (fun W => decimal_any t.c W (by omega) (by omega))
    clear hr hk hok hti hdg
    generalize tkTxt s t = res at HTX ⊢
    go_enter Tryd.func32, Tryd.ntmps32
    go_wp2_with fail
    refine start_ (n := 22) (S := fun w' => w'.cell? ⟨g, 0, none⟩ = some (.int .i64 t.n) ∧ w'.cell? ⟨g, 1, none⟩ = some (.int .u8 t.d.f0) ∧ w'.cell? ⟨g, 2, none⟩ = some (.int .u8 t.d.f1) ∧ w'.cell? ⟨g, 3, none⟩ = some (.int .u8 t.d.f2) ∧ w'.cell? ⟨g, 4, none⟩ = some (.int .u8 t.d.f3) ∧ w'.cell? ⟨g, 5, none⟩ = some (.int .u8 t.d.f4) ∧ w'.cell? ⟨g, 6, none⟩ = some (.int .u8 t.d.f5) ∧ w'.cell? ⟨g, 7, none⟩ = some (.int .u8 t.d.f6) ∧ w'.cell? ⟨g, 8, none⟩ = some (.int .u8 t.d.f7) ∧ w'.cell? ⟨g, 9, none⟩ = some (.int .u16 t.c)) (ds := []) #[false, false, false, false, false, false, false, false, false, false, false, false, false, false, false, false, false, false, false, false, false, false] (by kernel_rfl) rfl rfl (⟨(blk_cell HK.out 0).trans rfl, (blk_cell HK.out 1).trans rfl, (blk_cell HK.out 2).trans rfl, (blk_cell HK.out 3).trans rfl, (blk_cell HK.out 4).trans rfl, (blk_cell HK.out 5).trans rfl, (blk_cell HK.out 6).trans rfl, (blk_cell HK.out 7).trans rfl, (blk_cell HK.out 8).trans rfl, (blk_cell HK.out 9).trans rfl⟩) (fun hHeld => ?_)
    have n0_ := Aside0.mk (blk_drew HK.out)
    have n1_ := Aside0.mk (below_drew1 HB.out)
    clear HK HB
    have HK := n0_
    have HB := n1_
    clear n0_ n1_
    generalize w.drew = W1 at HK HB hHeld ⊢
    refine pure_ (i := 0) (N := (some 5)) (v := ?_) (a' := ?_) #[true, false, false, false, false, false, false, false, false, false, false, false, false, false, false, false, false, false, false, false, false, false] rfl rfl (by kernel_rfl) (fun _ _ _ h => h) (Or.inl ⟨by rfl, ?_⟩) ?_ ?_
    rotate_left
    · intro w'
      go_simp
      with_reducible rfl
    rotate_left
    · simp only [Act.put, List.setIfInBounds_toArray, List.set_cons_zero, List.set_cons_succ, i64_w, i32_w]
      rfl
    refine pure_ (i := 1) (N := (some 6)) (v := ?_) (a' := ?_) #[true, true, false, false, false, false, false, false, false, false, false, false, false, false, false, false, false, false, false, false, false, false] rfl rfl (by kernel_rfl) (fun _ _ _ h => h) (Or.inl ⟨by rfl, ?_⟩) ?_ ?_
    rotate_left
    · intro w'
      go_simp
      with_reducible rfl
    rotate_left
    · simp only [Act.put, List.setIfInBounds_toArray, List.set_cons_zero, List.set_cons_succ, i64_w, i32_w]
      rfl
    refine pure_ (i := 2) (N := (some 7)) (v := ?_) (a' := ?_) #[true, true, true, false, false, false, false, false, false, false, false, false, false, false, false, false, false, false, false, false, false, false] rfl rfl (by kernel_rfl) (fun _ _ _ h => h) (Or.inl ⟨by rfl, ?_⟩) ?_ ?_
    rotate_left
    · intro w'
      go_simp
      with_reducible rfl
    rotate_left
    · simp only [Act.put, List.setIfInBounds_toArray, List.set_cons_zero, List.set_cons_succ, i64_w, i32_w]
      rfl
    refine take_ (i := 3) (N := (some 8)) (v := ?_) (a' := ?_) #[true, true, true, true, false, false, false, false, false, false, false, false, false, false, false, false, false, false, false, false, false, false] rfl rfl (by kernel_rfl) (fun _ _ _ h => h) (Or.inl ⟨by rfl, ?_⟩) hHeld ?_ ?_
    rotate_left
    · rintro w' ⟨s0, s1, s2, s3, s4, s5, s6, s7, s8, s9⟩
      go_simp
      with_reducible rfl
    rotate_left
    · simp only [Act.put, List.setIfInBounds_toArray, List.set_cons_zero, List.set_cons_succ, i64_w, i32_w]
      rfl
    refine pure_ (i := 6) (N := (some 11)) (v := ?_) (a' := ?_) #[true, true, true, true, false, false, true, false, false, false, false, false, false, false, false, false, false, false, false, false, false, false] rfl rfl (by kernel_rfl) (fun _ _ _ h => h) (Or.inl ⟨by rfl, ?_⟩) ?_ ?_
    rotate_left
    · intro w'
      go_simp
      with_reducible rfl
    rotate_left
    · simp only [Act.put, List.setIfInBounds_toArray, List.set_cons_zero, List.set_cons_succ, i64_w, i32_w]
      rfl
    refine pure_ (i := 7) (N := (some 12)) (v := ?_) (a' := ?_) #[true, true, true, true, false, false, true, true, false, false, false, false, false, false, false, false, false, false, false, false, false, false] rfl rfl (by kernel_rfl) (fun _ _ _ h => h) (Or.inl ⟨by rfl, ?_⟩) ?_ ?_
    rotate_left
    · intro w'
      go_simp
      with_reducible rfl
    rotate_left
    · simp only [Act.put, List.setIfInBounds_toArray, List.set_cons_zero, List.set_cons_succ, i64_w, i32_w]
      rfl
    refine pure_ (i := 8) (N := (some 13)) (v := ?_) (a' := ?_) #[true, true, true, true, false, false, true, true, true, false, false, false, false, false, false, false, false, false, false, false, false, false] rfl rfl (by kernel_rfl) (fun _ _ _ h => h) (Or.inl ⟨by rfl, ?_⟩) ?_ ?_
    rotate_left
    · intro w'
      go_simp
      with_reducible rfl
    rotate_left
    · simp only [Act.put, List.setIfInBounds_toArray, List.set_cons_zero, List.set_cons_succ, i64_w, i32_w]
      rfl
    refine pure_ (i := 9) (N := (some 14)) (v := ?_) (a' := ?_) #[true, true, true, true, false, false, true, true, true, true, false, false, false, false, false, false, false, false, false, false, false, false] rfl rfl (by kernel_rfl) (fun _ _ _ h => h) (Or.inl ⟨by rfl, ?_⟩) ?_ ?_
    rotate_left
    · intro w'
      go_simp
      with_reducible rfl
    rotate_left
    · simp only [Act.put, List.setIfInBounds_toArray, List.set_cons_zero, List.set_cons_succ, i64_w, i32_w]
      rfl
    refine take_ (i := 10) (N := (some 15)) (v := ?_) (a' := ?_) #[true, true, true, true, false, false, true, true, true, true, true, false, false, false, false, false, false, false, false, false, false, false] rfl rfl (by kernel_rfl) (fun _ _ _ h => h) (Or.inl ⟨by rfl, ?_⟩) hHeld ?_ ?_
    rotate_left
    · rintro w' ⟨s0, s1, s2, s3, s4, s5, s6, s7, s8, s9⟩
      go_simp
      with_reducible rfl
    rotate_left
    · simp only [Act.put, List.setIfInBounds_toArray, List.set_cons_zero, List.set_cons_succ, i64_w, i32_w]
      rfl
    refine pure_ (i := 14) (N := (some 19)) (v := ?_) (a' := ?_) #[true, true, true, true, false, false, true, true, true, true, true, false, false, false, true, false, false, false, false, false, false, false] rfl rfl (by kernel_rfl) (fun _ _ _ h => h) (Or.inl ⟨by rfl, ?_⟩) ?_ ?_
    rotate_left
    · intro w'
      go_simp
      with_reducible rfl
    rotate_left
    · simp only [Act.put, List.setIfInBounds_toArray, List.set_cons_zero, List.set_cons_succ, i64_w, i32_w]
      rfl
    refine pure_ (i := 15) (N := (some 20)) (v := ?_) (a' := ?_) #[true, true, true, true, false, false, true, true, true, true, true, false, false, false, true, true, false, false, false, false, false, false] rfl rfl (by kernel_rfl) (fun _ _ _ h => h) (Or.inl ⟨by rfl, ?_⟩) ?_ ?_
    rotate_left
    · intro w'
      go_simp
      with_reducible rfl
    rotate_left
    · simp only [Act.put, List.setIfInBounds_toArray, List.set_cons_zero, List.set_cons_succ, i64_w, i32_w]
      rfl
    refine pure_ (i := 16) (N := (some 21)) (v := ?_) (a' := ?_) #[true, true, true, true, false, false, true, true, true, true, true, false, false, false, true, true, true, false, false, false, false, false] rfl rfl (by kernel_rfl) (fun _ _ _ h => h) (Or.inl ⟨by rfl, ?_⟩) ?_ ?_
    rotate_left
    · intro w'
      go_simp
      with_reducible rfl
    rotate_left
    · simp only [Act.put, List.setIfInBounds_toArray, List.set_cons_zero, List.set_cons_succ, i64_w, i32_w]
      rfl
    refine take_ (i := 17) (N := (some 22)) (v := ?_) (a' := ?_) #[true, true, true, true, false, false, true, true, true, true, true, false, false, false, true, true, true, true, false, false, false, false] rfl rfl (by kernel_rfl) (fun _ _ _ h => h) (Or.inl ⟨by rfl, ?_⟩) hHeld ?_ ?_
    rotate_left
    · rintro w' ⟨s0, s1, s2, s3, s4, s5, s6, s7, s8, s9⟩
      go_simp
      with_reducible rfl
    rotate_left
    · simp only [Act.put, List.setIfInBounds_toArray, List.set_cons_zero, List.set_cons_succ, i64_w, i32_w]
      rfl
    refine pure_ (i := 18) (N := (some 23)) (v := ?_) (a' := ?_) #[true, true, true, true, false, false, true, true, true, true, true, false, false, false, true, true, true, true, true, false, false, false] rfl rfl (by kernel_rfl) (fun _ _ _ h => h) (Or.inl ⟨by rfl, ?_⟩) ?_ ?_
    rotate_left
    · intro w'
      go_simp
      with_reducible rfl
    rotate_left
    · simp only [Act.put, List.setIfInBounds_toArray, List.set_cons_zero, List.set_cons_succ, i64_w, i32_w]
      rfl
    refine one_ (i := 4) (N := (some 9)) #[true, true, true, true, true, false, true, true, true, true, true, false, false, false, true, true, true, true, true, false, false, false] rfl rfl (by kernel_rfl) (by decide) (fun K hK => ?_)
    refine goes_ Tryd.func52 (by kernel_rfl) rfl #[.int .i64 t.n] (by rfl) rfl rfl (by (try simp only [List.map_toArray, List.map_cons, List.map_nil]); first | done | rfl) ?_
    with_reducible refine (HD1.out _).mono ?_
    rintro e w2 ⟨rfl, hb⟩
    refine ⟨_, rfl, ?_⟩
    have n0_ := Aside0.mk (blk_below HK.out (hb))
    have n1_ := Aside0.mk (below_step HB.out (hb))
    clear HK HB hb
    have HK := n0_
    have HB := n1_
    clear n0_ n1_
    refine hK.out _ _ (⟨(blk_cell HK.out 0).trans rfl, (blk_cell HK.out 1).trans rfl, (blk_cell HK.out 2).trans rfl, (blk_cell HK.out 3).trans rfl, (blk_cell HK.out 4).trans rfl, (blk_cell HK.out 5).trans rfl, (blk_cell HK.out 6).trans rfl, (blk_cell HK.out 7).trans rfl, (blk_cell HK.out 8).trans rfl, (blk_cell HK.out 9).trans rfl⟩) (fun hHeld => ?_)
    clear hK K
    refine norm_ (a' := ?_) ?_ ?_
    rotate_left
    · show Act.put _ (some 9) _ = _
      simp only [Act.put, List.setIfInBounds_toArray, List.set_cons_zero, List.set_cons_succ, i64_w, i32_w]
      rfl
    refine pure_ (i := 5) (N := (some 10)) (v := ?_) (a' := ?_) #[true, true, true, true, true, true, true, true, true, true, true, false, false, false, true, true, true, true, true, false, false, false] rfl rfl (by kernel_rfl) (fun _ _ _ h => h) (Or.inl ⟨by rfl, ?_⟩) ?_ ?_
    rotate_left
    · intro w'
      go_simp
      with_reducible rfl
    rotate_left
    · simp only [Act.put, List.setIfInBounds_toArray, List.set_cons_zero, List.set_cons_succ, i64_w, i32_w]
      rfl
    refine one_ (i := 11) (N := (some 16)) #[true, true, true, true, true, true, true, true, true, true, true, true, false, false, true, true, true, true, true, false, false, false] rfl rfl (by kernel_rfl) (by decide) (fun K hK => ?_)
    refine goes_ Tryd.func27 (by kernel_rfl) rfl #[.slice A0 s.length c0, .agg #[.int .u8 t.d.f0, .int .u8 t.d.f1, .int .u8 t.d.f2, .int .u8 t.d.f3, .int .u8 t.d.f4, .int .u8 t.d.f5, .int .u8 t.d.f6, .int .u8 t.d.f7]] (by rfl) rfl rfl (by (try simp only [List.map_toArray, List.map_cons, List.map_nil]); first | done | rfl) ?_
    with_reducible refine (l01Text_at _ _ s t.d _ (Kd.C_below HR.out HB.out) hc HOK.out HDA.out).mono ?_
    rintro e w2 ⟨rfl, hb⟩
    refine ⟨_, rfl, ?_⟩
    have n0_ := Aside0.mk (blk_below HK.out (hb))
    have n1_ := Aside0.mk (below_step HB.out (hb))
    clear HK HB hb
    have HK := n0_
    have HB := n1_
    clear n0_ n1_
    refine hK.out _ _ (⟨(blk_cell HK.out 0).trans rfl, (blk_cell HK.out 1).trans rfl, (blk_cell HK.out 2).trans rfl, (blk_cell HK.out 3).trans rfl, (blk_cell HK.out 4).trans rfl, (blk_cell HK.out 5).trans rfl, (blk_cell HK.out 6).trans rfl, (blk_cell HK.out 7).trans rfl, (blk_cell HK.out 8).trans rfl, (blk_cell HK.out 9).trans rfl⟩) (fun hHeld => ?_)
    clear hK K
    refine norm_ (a' := ?_) ?_ ?_
    rotate_left
    · show Act.put _ (some 16) _ = _
      simp only [Act.put, List.setIfInBounds_toArray, List.set_cons_zero, List.set_cons_succ, i64_w, i32_w]
      rfl
    refine pure_ (i := 12) (N := (some 17)) (v := ?_) (a' := ?_) #[true, true, true, true, true, true, true, true, true, true, true, true, true, false, true, true, true, true, true, false, false, false] rfl rfl (by kernel_rfl) (fun _ _ _ h => h) (Or.inl ⟨by rfl, ?_⟩) ?_ ?_
    rotate_left
    · intro w'
      go_simp
      with_reducible rfl
    rotate_left
    · simp only [Act.put, List.setIfInBounds_toArray, List.set_cons_zero, List.set_cons_succ, i64_w, i32_w]
      rfl
    refine pure_ (i := 13) (N := (some 18)) (v := ?_) (a' := ?_) #[true, true, true, true, true, true, true, true, true, true, true, true, true, true, true, true, true, true, true, false, false, false] rfl rfl (by kernel_rfl) (fun _ _ _ h => h) (Or.inl ⟨by rfl, ?_⟩) ?_ ?_
    rotate_left
    · intro w'
      go_simp
      with_reducible rfl
    rotate_left
    · simp only [Act.put, List.setIfInBounds_toArray, List.set_cons_zero, List.set_cons_succ, i64_w, i32_w]
      rfl
    refine one_ (i := 19) (N := (some 24)) #[true, true, true, true, true, true, true, true, true, true, true, true, true, true, true, true, true, true, true, true, false, false] rfl rfl (by kernel_rfl) (by decide) (fun K hK => ?_)
    refine goes_ Tryd.func52 (by kernel_rfl) rfl #[.int .i64 (wrap64 t.c)] (by rfl) rfl rfl (by (try simp only [List.map_toArray, List.map_cons, List.map_nil]); first | done | rfl) ?_
    rw [HWC.out]
    with_reducible refine (HD2.out _).mono ?_
    rintro e w2 ⟨rfl, hb⟩
    refine ⟨_, rfl, ?_⟩
    have n0_ := Aside0.mk (blk_below HK.out (hb))
    have n1_ := Aside0.mk (below_step HB.out (hb))
    clear HK HB hb
    have HK := n0_
    have HB := n1_
    clear n0_ n1_
    refine hK.out _ _ (⟨(blk_cell HK.out 0).trans rfl, (blk_cell HK.out 1).trans rfl, (blk_cell HK.out 2).trans rfl, (blk_cell HK.out 3).trans rfl, (blk_cell HK.out 4).trans rfl, (blk_cell HK.out 5).trans rfl, (blk_cell HK.out 6).trans rfl, (blk_cell HK.out 7).trans rfl, (blk_cell HK.out 8).trans rfl, (blk_cell HK.out 9).trans rfl⟩) (fun hHeld => ?_)
    clear hK K
    refine norm_ (a' := ?_) ?_ ?_
    rotate_left
    · show Act.put _ (some 24) _ = _
      simp only [Act.put, List.setIfInBounds_toArray, List.set_cons_zero, List.set_cons_succ, i64_w, i32_w]
      rfl
    refine pure_ (i := 20) (N := (some 25)) (v := ?_) (a' := ?_) #[true, true, true, true, true, true, true, true, true, true, true, true, true, true, true, true, true, true, true, true, true, false] rfl rfl (by kernel_rfl) (fun _ _ _ h => h) (Or.inl ⟨by rfl, ?_⟩) ?_ ?_
    rotate_left
    · intro w'
      go_simp
      with_reducible rfl
    rotate_left
    · simp only [Act.put, List.setIfInBounds_toArray, List.set_cons_zero, List.set_cons_succ, i64_w, i32_w]
      rfl
    refine pure_ (i := 21) (N := (some 4)) (v := ?_) (a' := ?_) #[true, true, true, true, true, true, true, true, true, true, true, true, true, true, true, true, true, true, true, true, true, true] rfl rfl (by kernel_rfl) (fun _ _ _ h => h) (Or.inl ⟨by rfl, ?_⟩) ?_ ?_
    rotate_left
    · intro w'
      go_simp
      with_reducible rfl
    rotate_left
    · simp only [Act.put, List.setIfInBounds_toArray, List.set_cons_zero, List.set_cons_succ, i64_w, i32_w]
      rfl
    refine done_ (by kernel_rfl) ?_
    go_wp2_with fail
    go_ret
    exact ⟨by rw [HTX.out]; rfl, HB.out⟩
set_option maxHeartbeats 4000000 in
set_option maxRecDepth 100000 in
theorem implTicketText_at (A0 : Option Addr) (c0 : Nat) (s : List Int) (t : Tk) (w : World) (hT : Tab w) (hr : Kd.C (Kd.int .u8) w A0 s.length s) (hc : s.length ≤ c0) (hn : s.length ≤ 1048576) (hti : tkIn t) :
    Calls Tryd.prog 16 #[.slice A0 s.length c0, .agg #[.int .i64 t.n, .int .u8 t.d.f0, .int .u8 t.d.f1, .int .u8 t.d.f2, .int .u8 t.d.f3, .int .u8 t.d.f4, .int .u8 t.d.f5, .int .u8 t.d.f6, .int .u8 t.d.f7, .int .u16 t.c]] w fun e w' => e = .returned (.string (ticketText s t)) ∧ Below w.heap.size w w' := by
  have HR := Aside0.mk hr
  have HTB := Aside0.mk hT
  have HDA := Aside0.mk hti.1
  have hcb := hti.2
  have HB1 := Aside0.mk (below_alloc (Below.refl w.heap.size w) (.cells #[.int .i64 t.n, .int .u8 t.d.f0, .int .u8 t.d.f1, .int .u8 t.d.f2, .int .u8 t.d.f3, .int .u8 t.d.f4, .int .u8 t.d.f5, .int .u8 t.d.f6, .int .u8 t.d.f7, .int .u16 t.c] 45))
  have HK1 := Aside0.mk (blk_new w (.cells #[.int .i64 t.n, .int .u8 t.d.f0, .int .u8 t.d.f1, .int .u8 t.d.f2, .int .u8 t.d.f3, .int .u8 t.d.f4, .int .u8 t.d.f5, .int .u8 t.d.f6, .int .u8 t.d.f7, .int .u16 t.c] 45))
  have HV := Aside0.mk (fun W hb => validStack_at A0 c0 s W (Kd.C_below HR.out hb) hc hn)
  have HG := Aside0.mk (fun W hb => genuine_at A0 c0 s t W (Kd.C_below HR.out hb) hc hn HDA.out)
  obtain ⟨r, hres⟩ : ∃ r, r = ticketText s t := ⟨_, rfl⟩
  rw [← hres]
  have HRES := Aside0.mk hres
  clear hr hT hti hres
  cases hks : okStk s with
  | false =>
    have HE := Aside0.mk (show r = ⟨#[]⟩ by rw [HRES.out]; unfold ticketText; rw [okTk_stk t hks]; rfl)
    rw [hks] at HV
    clear hks HRES
    go_enter Tryd.func16, Tryd.ntmps16
    go_wp2_with (go_at_call 33; refine (HV.out _ HB1.out).mono ?_; rintro e w2 ⟨rfl, hb⟩; (have HB2 := Aside0.mk (below_step HB1.out hb)); clear hb)
    go_ret
    exact ⟨by rw [HE.out]; rfl, HB2.out⟩
  | true =>
    rw [hks] at HV
    cases hok : okTk s t with
    | false =>
      have HE := Aside0.mk (show r = ⟨#[]⟩ by rw [HRES.out]; unfold ticketText; rw [hok]; rfl)
      rw [hok] at HG
      clear hks hok HRES
      go_enter Tryd.func16, Tryd.ntmps16
      go_wp2_with (first
        | (go_at_call 33; refine (HV.out _ HB1.out).mono ?_; rintro e w2 ⟨rfl, hb⟩; (have HB2 := Aside0.mk (below_step HB1.out hb)); (have HK2 := Aside0.mk (blk_below HK1.out hb)); clear hb; (have hz0 := (blk_cell HK2.out 0).trans rfl); (have hz1 := (blk_cell HK2.out 1).trans rfl); (have hz2 := (blk_cell HK2.out 2).trans rfl); (have hz3 := (blk_cell HK2.out 3).trans rfl); (have hz4 := (blk_cell HK2.out 4).trans rfl); (have hz5 := (blk_cell HK2.out 5).trans rfl); (have hz6 := (blk_cell HK2.out 6).trans rfl); (have hz7 := (blk_cell HK2.out 7).trans rfl); (have hz8 := (blk_cell HK2.out 8).trans rfl); (have hz9 := (blk_cell HK2.out 9).trans rfl))
        | (go_at_call 34; refine (HG.out _ HB2.out).mono ?_; rintro e w3 ⟨rfl, hb⟩; (have HB3 := Aside0.mk (below_step HB2.out hb)); clear hb))
      go_ret
      exact ⟨by rw [HE.out]; rfl, HB3.out⟩
    | true =>
      have HE := Aside0.mk (show r = tkTxt s t by rw [HRES.out]; unfold ticketText; rw [hok]; rfl)
      rw [hok] at HG
      obtain ⟨hin, hdg⟩ := okTk_all hok
      obtain ⟨hl1, hl8⟩ := okStk_len hks
      have HST := Aside0.mk (fun W hb => stackText_at A0 c0 s t.d W (HTB.out.below hb) (Kd.C_below HR.out hb) hl8 hl1 (okStk_base hks) (fun i hi => HDA.out i (by omega)))
      have hq1 := dec_size t.n (by omega) (by omega)
      have hq2 := dec_size t.c (by omega) (by omega)
      have hq3 := stTxt_size s t.d hdg HDA.out
      have e32 : (⟨#[32]⟩ : ByteArray).size = 1 := rfl
      have z1 : (9223372036854775807 < (dec t.n).size + 1) = False := eq_false (by omega)
      have z2 : (9223372036854775807 < (dec t.n).size + 1 + (stTxt s t.d).size) = False := eq_false (by omega)
      have z3 : (9223372036854775807 < (dec t.n).size + 1 + (stTxt s t.d).size + 1) = False := eq_false (by omega)
      have z4 : (9223372036854775807 < (dec t.n).size + 1 + (stTxt s t.d).size + 1 + (dec t.c).size) = False := eq_false (by omega)
      have HWC := Aside0.mk (show wrap64 t.c = t.c by unfold wrap64; omega)
      have HTX := Aside0.mk (show tkTxt s t = dec t.n ++ ⟨#[32]⟩ ++ stTxt s t.d ++ ⟨#[32]⟩ ++ dec t.c from rfl)
      clear hks hok HRES hdg
      have HTX2 := Aside0.mk (HE.out.trans HTX.out)
      clear HE HTX
      go_enter Tryd.func16, Tryd.ntmps16
      go_wp2_with (first
        | (go_at_call 33; refine (HV.out _ HB1.out).mono ?_; rintro e w2 ⟨rfl, hb⟩; (have HB2 := Aside0.mk (below_step HB1.out hb)); (have HK2 := Aside0.mk (blk_below HK1.out hb)); clear hb; (have hz0 := (blk_cell HK2.out 0).trans rfl); (have hz1 := (blk_cell HK2.out 1).trans rfl); (have hz2 := (blk_cell HK2.out 2).trans rfl); (have hz3 := (blk_cell HK2.out 3).trans rfl); (have hz4 := (blk_cell HK2.out 4).trans rfl); (have hz5 := (blk_cell HK2.out 5).trans rfl); (have hz6 := (blk_cell HK2.out 6).trans rfl); (have hz7 := (blk_cell HK2.out 7).trans rfl); (have hz8 := (blk_cell HK2.out 8).trans rfl); (have hz9 := (blk_cell HK2.out 9).trans rfl))
        | (go_at_call 34; refine (HG.out _ HB2.out).mono ?_; rintro e w3 ⟨rfl, hb⟩; (have HB := Aside0.mk (below_step HB2.out hb)); (have HK := Aside0.mk (blk_below HK2.out hb)); clear hb))
      clear hz0 hz1 hz2 hz3 hz4 hz5 hz6 hz7 hz8 hz9
      refine start_ (n := 16) (S := fun w' => w'.cell? ⟨w.heap.size, 0, none⟩ = some (.int .i64 t.n) ∧ w'.cell? ⟨w.heap.size, 1, none⟩ = some (.int .u8 t.d.f0) ∧ w'.cell? ⟨w.heap.size, 2, none⟩ = some (.int .u8 t.d.f1) ∧ w'.cell? ⟨w.heap.size, 3, none⟩ = some (.int .u8 t.d.f2) ∧ w'.cell? ⟨w.heap.size, 4, none⟩ = some (.int .u8 t.d.f3) ∧ w'.cell? ⟨w.heap.size, 5, none⟩ = some (.int .u8 t.d.f4) ∧ w'.cell? ⟨w.heap.size, 6, none⟩ = some (.int .u8 t.d.f5) ∧ w'.cell? ⟨w.heap.size, 7, none⟩ = some (.int .u8 t.d.f6) ∧ w'.cell? ⟨w.heap.size, 8, none⟩ = some (.int .u8 t.d.f7) ∧ w'.cell? ⟨w.heap.size, 9, none⟩ = some (.int .u16 t.c)) (ds := []) #[false, false, false, false, false, false, false, false, false, false, false, false, false, false, false, false] (by kernel_rfl) rfl rfl (⟨(blk_cell HK.out 0).trans rfl, (blk_cell HK.out 1).trans rfl, (blk_cell HK.out 2).trans rfl, (blk_cell HK.out 3).trans rfl, (blk_cell HK.out 4).trans rfl, (blk_cell HK.out 5).trans rfl, (blk_cell HK.out 6).trans rfl, (blk_cell HK.out 7).trans rfl, (blk_cell HK.out 8).trans rfl, (blk_cell HK.out 9).trans rfl⟩) (fun hHeld => ?_)
      have n0_ := Aside0.mk (blk_drew HK.out)
      have n1_ := Aside0.mk (below_drew1 HB.out)
      clear HK HB
      have HK := n0_
      have HB := n1_
      clear n0_ n1_
      generalize w3.drew = W1 at HK HB hHeld ⊢
      refine pure_ (i := 0) (N := (some 14)) (v := ?_) (a' := ?_) #[true, false, false, false, false, false, false, false, false, false, false, false, false, false, false, false] rfl rfl (by kernel_rfl) (fun _ _ _ h => h) (Or.inl ⟨by rfl, ?_⟩) ?_ ?_
      rotate_left
      · intro w'
        go_simp
        with_reducible rfl
      rotate_left
      · simp only [Act.put, List.setIfInBounds_toArray, List.set_cons_zero, List.set_cons_succ, i64_w, i32_w]
        rfl
      refine take_ (i := 1) (N := (some 15)) (v := ?_) (a' := ?_) #[true, true, false, false, false, false, false, false, false, false, false, false, false, false, false, false] rfl rfl (by kernel_rfl) (fun _ _ _ h => h) (Or.inl ⟨by rfl, ?_⟩) hHeld ?_ ?_
      rotate_left
      · rintro w' ⟨s0, s1, s2, s3, s4, s5, s6, s7, s8, s9⟩
        go_simp
        with_reducible rfl
      rotate_left
      · simp only [Act.put, List.setIfInBounds_toArray, List.set_cons_zero, List.set_cons_succ, i64_w, i32_w]
        rfl
      refine pure_ (i := 4) (N := (some 18)) (v := ?_) (a' := ?_) #[true, true, false, false, true, false, false, false, false, false, false, false, false, false, false, false] rfl rfl (by kernel_rfl) (fun _ _ _ h => h) (Or.inl ⟨by rfl, ?_⟩) ?_ ?_
      rotate_left
      · intro w'
        go_simp
        with_reducible rfl
      rotate_left
      · simp only [Act.put, List.setIfInBounds_toArray, List.set_cons_zero, List.set_cons_succ, i64_w, i32_w]
        rfl
      refine pure_ (i := 5) (N := (some 19)) (v := ?_) (a' := ?_) #[true, true, false, false, true, true, false, false, false, false, false, false, false, false, false, false] rfl rfl (by kernel_rfl) (fun _ _ _ h => h) (Or.inl ⟨by rfl, ?_⟩) ?_ ?_
      rotate_left
      · intro w'
        go_simp
        with_reducible rfl
      rotate_left
      · simp only [Act.put, List.setIfInBounds_toArray, List.set_cons_zero, List.set_cons_succ, i64_w, i32_w]
        rfl
      refine take_ (i := 6) (N := (some 20)) (v := ?_) (a' := ?_) #[true, true, false, false, true, true, true, false, false, false, false, false, false, false, false, false] rfl rfl (by kernel_rfl) (fun _ _ _ h => h) (Or.inl ⟨by rfl, ?_⟩) hHeld ?_ ?_
      rotate_left
      · rintro w' ⟨s0, s1, s2, s3, s4, s5, s6, s7, s8, s9⟩
        go_simp
        with_reducible rfl
      rotate_left
      · simp only [Act.put, List.setIfInBounds_toArray, List.set_cons_zero, List.set_cons_succ, i64_w, i32_w]
        rfl
      refine pure_ (i := 10) (N := (some 24)) (v := ?_) (a' := ?_) #[true, true, false, false, true, true, true, false, false, false, true, false, false, false, false, false] rfl rfl (by kernel_rfl) (fun _ _ _ h => h) (Or.inl ⟨by rfl, ?_⟩) ?_ ?_
      rotate_left
      · intro w'
        go_simp
        with_reducible rfl
      rotate_left
      · simp only [Act.put, List.setIfInBounds_toArray, List.set_cons_zero, List.set_cons_succ, i64_w, i32_w]
        rfl
      refine take_ (i := 11) (N := (some 25)) (v := ?_) (a' := ?_) #[true, true, false, false, true, true, true, false, false, false, true, true, false, false, false, false] rfl rfl (by kernel_rfl) (fun _ _ _ h => h) (Or.inl ⟨by rfl, ?_⟩) hHeld ?_ ?_
      rotate_left
      · rintro w' ⟨s0, s1, s2, s3, s4, s5, s6, s7, s8, s9⟩
        go_simp
        with_reducible rfl
      rotate_left
      · simp only [Act.put, List.setIfInBounds_toArray, List.set_cons_zero, List.set_cons_succ, i64_w, i32_w]
        rfl
      refine pure_ (i := 12) (N := (some 26)) (v := ?_) (a' := ?_) #[true, true, false, false, true, true, true, false, false, false, true, true, true, false, false, false] rfl rfl (by kernel_rfl) (fun _ _ _ h => h) (Or.inl ⟨by rfl, ?_⟩) ?_ ?_
      rotate_left
      · intro w'
        go_simp
        with_reducible rfl
      rotate_left
      · simp only [Act.put, List.setIfInBounds_toArray, List.set_cons_zero, List.set_cons_succ, i64_w, i32_w]
        rfl
      refine one_ (i := 2) (N := (some 16)) #[true, true, true, false, true, true, true, false, false, false, true, true, true, false, false, false] rfl rfl (by kernel_rfl) (by decide) (fun K hK => ?_)
      refine goes_ Tryd.func35 (by kernel_rfl) rfl #[.int .i64 t.n] (by rfl) rfl rfl (by (try simp only [List.map_toArray, List.map_cons, List.map_nil]); first | done | rfl) ?_
      with_reducible refine (decimalGo t.n _ (HTB.out.below HB.out) (by omega) (by omega)).mono ?_
      rintro e w2 ⟨rfl, hb⟩
      refine ⟨_, rfl, ?_⟩
      have n0_ := Aside0.mk (blk_below HK.out (hb))
      have n1_ := Aside0.mk (below_step HB.out (hb))
      clear HK HB hb
      have HK := n0_
      have HB := n1_
      clear n0_ n1_
      refine hK.out _ _ (⟨(blk_cell HK.out 0).trans rfl, (blk_cell HK.out 1).trans rfl, (blk_cell HK.out 2).trans rfl, (blk_cell HK.out 3).trans rfl, (blk_cell HK.out 4).trans rfl, (blk_cell HK.out 5).trans rfl, (blk_cell HK.out 6).trans rfl, (blk_cell HK.out 7).trans rfl, (blk_cell HK.out 8).trans rfl, (blk_cell HK.out 9).trans rfl⟩) (fun hHeld => ?_)
      clear hK K
      refine norm_ (a' := ?_) ?_ ?_
      rotate_left
      · show Act.put _ (some 16) _ = _
        simp only [Act.put, List.setIfInBounds_toArray, List.set_cons_zero, List.set_cons_succ, i64_w, i32_w]
        rfl
      refine pure_ (i := 3) (N := (some 17)) (v := ?_) (a' := ?_) #[true, true, true, true, true, true, true, false, false, false, true, true, true, false, false, false] rfl rfl (by kernel_rfl) (fun _ _ _ h => h) (Or.inl ⟨by rfl, ?_⟩) ?_ ?_
      rotate_left
      · intro w'
        go_simp
        with_reducible rfl
      rotate_left
      · simp only [Act.put, List.setIfInBounds_toArray, List.set_cons_zero, List.set_cons_succ, i64_w, i32_w]
        rfl
      refine one_ (i := 7) (N := (some 21)) #[true, true, true, true, true, true, true, true, false, false, true, true, true, false, false, false] rfl rfl (by kernel_rfl) (by decide) (fun K hK => ?_)
      refine goes_ Tryd.func29 (by kernel_rfl) rfl #[.slice A0 s.length c0, .agg #[.int .u8 t.d.f0, .int .u8 t.d.f1, .int .u8 t.d.f2, .int .u8 t.d.f3, .int .u8 t.d.f4, .int .u8 t.d.f5, .int .u8 t.d.f6, .int .u8 t.d.f7]] (by rfl) rfl rfl (by (try simp only [List.map_toArray, List.map_cons, List.map_nil]); first | done | rfl) ?_
      with_reducible refine (HST.out _ HB.out).mono ?_
      rintro e w2 ⟨rfl, hb⟩
      refine ⟨_, rfl, ?_⟩
      have n0_ := Aside0.mk (blk_below HK.out (hb))
      have n1_ := Aside0.mk (below_step HB.out (hb))
      clear HK HB hb
      have HK := n0_
      have HB := n1_
      clear n0_ n1_
      refine hK.out _ _ (⟨(blk_cell HK.out 0).trans rfl, (blk_cell HK.out 1).trans rfl, (blk_cell HK.out 2).trans rfl, (blk_cell HK.out 3).trans rfl, (blk_cell HK.out 4).trans rfl, (blk_cell HK.out 5).trans rfl, (blk_cell HK.out 6).trans rfl, (blk_cell HK.out 7).trans rfl, (blk_cell HK.out 8).trans rfl, (blk_cell HK.out 9).trans rfl⟩) (fun hHeld => ?_)
      clear hK K
      refine norm_ (a' := ?_) ?_ ?_
      rotate_left
      · show Act.put _ (some 21) _ = _
        simp only [Act.put, List.setIfInBounds_toArray, List.set_cons_zero, List.set_cons_succ, i64_w, i32_w]
        rfl
      refine pure_ (i := 8) (N := (some 22)) (v := ?_) (a' := ?_) #[true, true, true, true, true, true, true, true, true, false, true, true, true, false, false, false] rfl rfl (by kernel_rfl) (fun _ _ _ h => h) (Or.inl ⟨by rfl, ?_⟩) ?_ ?_
      rotate_left
      · intro w'
        go_simp
        with_reducible rfl
      rotate_left
      · simp only [Act.put, List.setIfInBounds_toArray, List.set_cons_zero, List.set_cons_succ, i64_w, i32_w]
        rfl
      refine pure_ (i := 9) (N := (some 23)) (v := ?_) (a' := ?_) #[true, true, true, true, true, true, true, true, true, true, true, true, true, false, false, false] rfl rfl (by kernel_rfl) (fun _ _ _ h => h) (Or.inl ⟨by rfl, ?_⟩) ?_ ?_
      rotate_left
      · intro w'
        go_simp
        with_reducible rfl
      rotate_left
      · simp only [Act.put, List.setIfInBounds_toArray, List.set_cons_zero, List.set_cons_succ, i64_w, i32_w]
        rfl
      refine one_ (i := 13) (N := (some 27)) #[true, true, true, true, true, true, true, true, true, true, true, true, true, true, false, false] rfl rfl (by kernel_rfl) (by decide) (fun K hK => ?_)
      refine goes_ Tryd.func35 (by kernel_rfl) rfl #[.int .i64 (wrap64 t.c)] (by rfl) rfl rfl (by (try simp only [List.map_toArray, List.map_cons, List.map_nil]); first | done | rfl) ?_
      rw [HWC.out]
      with_reducible refine (decimalGo t.c _ (HTB.out.below HB.out) (by omega) (by omega)).mono ?_
      rintro e w2 ⟨rfl, hb⟩
      refine ⟨_, rfl, ?_⟩
      have n0_ := Aside0.mk (blk_below HK.out (hb))
      have n1_ := Aside0.mk (below_step HB.out (hb))
      clear HK HB hb
      have HK := n0_
      have HB := n1_
      clear n0_ n1_
      refine hK.out _ _ (⟨(blk_cell HK.out 0).trans rfl, (blk_cell HK.out 1).trans rfl, (blk_cell HK.out 2).trans rfl, (blk_cell HK.out 3).trans rfl, (blk_cell HK.out 4).trans rfl, (blk_cell HK.out 5).trans rfl, (blk_cell HK.out 6).trans rfl, (blk_cell HK.out 7).trans rfl, (blk_cell HK.out 8).trans rfl, (blk_cell HK.out 9).trans rfl⟩) (fun hHeld => ?_)
      clear hK K
      refine norm_ (a' := ?_) ?_ ?_
      rotate_left
      · show Act.put _ (some 27) _ = _
        simp only [Act.put, List.setIfInBounds_toArray, List.set_cons_zero, List.set_cons_succ, i64_w, i32_w]
        rfl
      refine pure_ (i := 14) (N := (some 28)) (v := ?_) (a' := ?_) #[true, true, true, true, true, true, true, true, true, true, true, true, true, true, true, false] rfl rfl (by kernel_rfl) (fun _ _ _ h => h) (Or.inl ⟨by rfl, ?_⟩) ?_ ?_
      rotate_left
      · intro w'
        go_simp
        with_reducible rfl
      rotate_left
      · simp only [Act.put, List.setIfInBounds_toArray, List.set_cons_zero, List.set_cons_succ, i64_w, i32_w]
        rfl
      refine pure_ (i := 15) (N := (some 4)) (v := ?_) (a' := ?_) #[true, true, true, true, true, true, true, true, true, true, true, true, true, true, true, true] rfl rfl (by kernel_rfl) (fun _ _ _ h => h) (Or.inl ⟨by rfl, ?_⟩) ?_ ?_
      rotate_left
      · intro w'
        go_simp
        with_reducible rfl
      rotate_left
      · simp only [Act.put, List.setIfInBounds_toArray, List.set_cons_zero, List.set_cons_succ, i64_w, i32_w]
        rfl
      refine done_ (by kernel_rfl) ?_
      go_wp2_with fail
      go_ret
      exact ⟨by rw [HTX2.out]; rfl, HB.out⟩
set_option maxHeartbeats 4000000 in
set_option maxRecDepth 100000 in
theorem specTicketText_at (A0 : Option Addr) (c0 : Nat) (s : List Int) (t : Tk) (w : World) (hr : Kd.C (Kd.int .u8) w A0 s.length s) (hc : s.length ≤ c0) (hn : s.length ≤ 1048576) (hti : tkIn t) :
    Calls Tryd.prog 14 #[.slice A0 s.length c0, .agg #[.int .i64 t.n, .int .u8 t.d.f0, .int .u8 t.d.f1, .int .u8 t.d.f2, .int .u8 t.d.f3, .int .u8 t.d.f4, .int .u8 t.d.f5, .int .u8 t.d.f6, .int .u8 t.d.f7, .int .u16 t.c]] w fun e w' => e = .returned (.string (ticketText s t)) ∧ Below w.heap.size w w' := by
  have HR := Aside0.mk hr
  have HTI := Aside0.mk hti
  have HB1 := Aside0.mk (below_alloc (Below.refl w.heap.size w) (.cells #[.int .i64 t.n, .int .u8 t.d.f0, .int .u8 t.d.f1, .int .u8 t.d.f2, .int .u8 t.d.f3, .int .u8 t.d.f4, .int .u8 t.d.f5, .int .u8 t.d.f6, .int .u8 t.d.f7, .int .u16 t.c] 45))
  have HK1 := Aside0.mk (blk_new w (.cells #[.int .i64 t.n, .int .u8 t.d.f0, .int .u8 t.d.f1, .int .u8 t.d.f2, .int .u8 t.d.f3, .int .u8 t.d.f4, .int .u8 t.d.f5, .int .u8 t.d.f6, .int .u8 t.d.f7, .int .u16 t.c] 45))
  have HV := Aside0.mk (specOk_eq 2097200 s hn (by omega))
  obtain ⟨r, hres⟩ : ∃ r, r = ticketText s t := ⟨_, rfl⟩
  rw [← hres]
  have HRES := Aside0.mk hres
  clear hr hti hres
  cases hks : okStk s with
  | false =>
    have HE := Aside0.mk (show r = ⟨#[]⟩ by rw [HRES.out]; unfold ticketText; rw [okTk_stk t hks]; rfl)
    rw [hks] at HV
    clear hks HRES
    go_enter Tryd.func14, Tryd.ntmps14
    go_wp2_with (go_at_call 30; refine (spec_l01Ok.calls 2097200 _ _ s false _ (Kd.C_below HR.out HB1.out) hc HV.out).mono ?_; rintro e w2 ⟨rfl, hb⟩; (have HB2 := Aside0.mk (below_step HB1.out (show Below _ _ w2 by first | exact hb | exact hb.below | (obtain ⟨n, rfl⟩ := hb; exact pw_below_drewN (Below.refl _ _) n)))); clear hb)
    go_ret
    exact ⟨by rw [HE.out]; rfl, HB2.out⟩
  | true =>
    rw [hks] at HV
    have HGn := Aside0.mk (fun W hb hk => l07Genuine_at A0 c0 s t w.heap.size W (Kd.C_below HR.out hb) hc hks hk)
    cases hok : okTk s t with
    | false =>
      have HE := Aside0.mk (show r = ⟨#[]⟩ by rw [HRES.out]; unfold ticketText; rw [hok]; rfl)
      rw [hok] at HGn
      clear hks hok HRES
      go_enter Tryd.func14, Tryd.ntmps14
      go_wp2_with (first
        | (go_at_call 30; refine (spec_l01Ok.calls 2097200 _ _ s true _ (Kd.C_below HR.out HB1.out) hc HV.out).mono ?_; rintro e w2 ⟨rfl, hb⟩; (have hb' : Below _ _ w2 := (by first | exact hb | exact hb.below | (obtain ⟨n, rfl⟩ := hb; exact pw_below_drewN (Below.refl _ _) n))); (have HB2 := Aside0.mk (below_step HB1.out hb')); (have HK2 := Aside0.mk (blk_below HK1.out hb')); clear hb hb')
        | (go_at_call 31; refine (HGn.out _ HB2.out HK2.out).mono ?_; rintro e w3 ⟨rfl, hb⟩; (have HB3 := Aside0.mk (below_step HB2.out hb)); clear hb))
      go_ret
      exact ⟨by rw [HE.out]; rfl, HB3.out⟩
    | true =>
      have HE := Aside0.mk (show r = tkTxt s t by rw [HRES.out]; unfold ticketText; rw [hok]; rfl)
      rw [hok] at HGn
      have HOK := Aside0.mk hok
      clear hks hok HRES
      go_enter Tryd.func14, Tryd.ntmps14
      go_wp2_with (first
        | (go_at_call 30; refine (spec_l01Ok.calls 2097200 _ _ s true _ (Kd.C_below HR.out HB1.out) hc HV.out).mono ?_; rintro e w2 ⟨rfl, hb⟩; (have hb' : Below _ _ w2 := (by first | exact hb | exact hb.below | (obtain ⟨n, rfl⟩ := hb; exact pw_below_drewN (Below.refl _ _) n))); (have HB2 := Aside0.mk (below_step HB1.out hb')); (have HK2 := Aside0.mk (blk_below HK1.out hb')); clear hb hb')
        | (go_at_call 31; refine (HGn.out _ HB2.out HK2.out).mono ?_; rintro e w3 ⟨rfl, hb⟩; (have HB3 := Aside0.mk (below_step HB2.out hb)); (have HK3 := Aside0.mk (blk_below HK2.out hb)); clear hb)
        | (go_at_call 32; refine (l07Ticket_at _ _ s t _ _ (Kd.C_below HR.out HB3.out) hc HOK.out HTI.out HK3.out).mono ?_; rintro e w4 ⟨rfl, hb⟩; (have HB4 := Aside0.mk (below_step HB3.out hb)); clear hb))
      go_ret
      exact ⟨by rw [HE.out]; rfl, HB4.out⟩
theorem to_ticket (t : Tk) : laws_toTicket.f 20 t.n t.d.f0 t.d.f1 t.d.f2 t.d.f3 t.d.f4 t.d.f5 t.d.f6 t.d.f7 t.c = some (t.n, t.d.f0, t.d.f1, t.d.f2, t.d.f3, t.d.f4, t.d.f5, t.d.f6, t.d.f7, t.c) := by kernel_rfl
end Go.Proofs.YtgfimdoildaonaaDoor.P

-- Written by a program of this session (a turned form of the kit's print) out of the translation.
namespace Go.Proofs.YtgfimdoildaonaaDoor.P
open Go.RowKit Go.Proofs.YtgfimdoildaonaaDoorW.PrintWords Go.Proofs.YtgfimdoildaonaaDoorW.PrintLast Go.Proofs.YtgfimdoildaonaaDoorW.PrintMore
attribute [local go_sem] max2_int min2_int max_two min_two max_three min_three max_four min_four   -- for this text's walks alone
set_option linter.unusedVariables false
set_option linter.unusedSimpArgs false

/-! ### laws_toStack: function 7 -/
def laws_toStack.l0 : Nat → List Int → List Int → Int → Option (List Int)
  | 0, _, _, _ => none
  | k + 1, x0, x3, x4 => if x4 < (x0.length : Int) then (if 0 ≤ x4 then (if x4 < (x3.length : Int) then (laws_toStack.l0 k x0 (x3.set (x4 : Int).toNat (rd x0 x4)) (wrap64 (x4 + 1))) else (none)) else (none)) else (some x3)
def laws_toStack.f (k : Nat) (l0 : List Int) : Option (List Int) := if 0 ≤ (l0.length : Int) then (if ((l0.length : Int) : Int).toNat ≤ 281474976710656 then (laws_toStack.l0 k l0 (List.replicate ((l0.length : Int) : Int).toNat 0) 0) else (none)) else (none)
theorem laws_toStack.mono_l : ∀ k, (∀ y0 y1 y2, LeO (laws_toStack.l0 k y0 y1 y2) (laws_toStack.l0 (k + 1) y0 y1 y2))
  | 0 => fun _ _ _ r h => by simp [laws_toStack.l0] at h
  | k + 1 => by
    have ih0 := laws_toStack.mono_l k
    · intro y0 y1 y2
      unfold laws_toStack.l0
      repeat' first
      | (with_reducible exact ih0 _ _ _)
      | (with_reducible exact LeO.refl _)
      | (with_reducible exact LeO.none _)
      | (with_reducible refine LeO.ite ?_ ?_)
      | (with_reducible refine LeO.bind ?_ (fun _ => ?_))
      | exact ih0 _ _ _
      | exact LeO.none _
      | refine LeO.ite ?_ ?_
      | refine LeO.bind ?_ (fun _ => ?_)
theorem laws_toStack.mono : ∀ a0 k, LeO (laws_toStack.f k a0) (laws_toStack.f (k + 1) a0) := by
  intro a0 k
  have ih0 := laws_toStack.mono_l k
  unfold laws_toStack.f
  repeat' first
      | (with_reducible exact ih0 _ _ _)
      | (with_reducible exact LeO.refl _)
      | (with_reducible exact LeO.none _)
      | (with_reducible refine LeO.ite ?_ ?_)
      | (with_reducible refine LeO.bind ?_ (fun _ => ?_))
      | exact ih0 _ _ _
      | exact LeO.none _
      | refine LeO.ite ?_ ?_
      | refine LeO.bind ?_ (fun _ => ?_)
set_option maxHeartbeats 8000000 in
set_option maxRecDepth 100000 in
theorem laws_toStack.calls (k : Nat) (A0 : Option Addr) (c0 : Nat) (l0 : List Int) (r : List Int) (w : World) (hr0 : Kd.C (Kd.int .u8) w A0 l0.length l0) (hc0 : l0.length ≤ c0) (h : laws_toStack.f k l0 = some r) :
    Calls Tryd.prog 7 #[.slice A0 l0.length c0] w fun e w' => ∃ v0_ : Value, e = .returned (v0_) ∧ Kd.R (Kd.int .u8) 5 w' w.heap.size (fun _ => True) v0_ r ∧ Below w.heap.size w w' := by
  have HR0 := Aside0.mk hr0
  have HC0 := Aside0.mk hc0
  clear hr0 hc0
  have HB := Aside0.mk (Below.refl w.heap.size w)
  have H : (if 0 ≤ (l0.length : Int) then (if ((l0.length : Int) : Int).toNat ≤ 281474976710656 then (laws_toStack.l0 k l0 (List.replicate ((l0.length : Int) : Int).toNat 0) 0) else (none)) else (none)) = some r := h
  clear h
  by_cases c2 : 0 ≤ (l0.length : Int)
  · rw [if_pos c2] at H
    have c2b0 := eq_true c2
    have c2b1 : decide (0 ≤ (l0.length : Int)) = true := decide_eq_true c2
    clear c2
    by_cases c3 : ((l0.length : Int) : Int).toNat ≤ 281474976710656
    · rw [if_pos c3] at H
      have c3b0 := eq_true c3
      have c3b1 : decide (((l0.length : Int) : Int).toNat ≤ 281474976710656) = true := decide_eq_true c3
      clear c3
      obtain ⟨y143, hy143⟩ : ∃ y_ : List Int, y_ = (List.replicate ((l0.length : Int) : Int).toNat 0) := ⟨_, rfl⟩
      replace H : (laws_toStack.l0 k l0 y143 0) = some r := by first | (rw [hy143]; with_reducible exact H) | (have H2_ := (Option.bind_some _ _).symm.trans H; rw [hy143]; with_reducible exact H2_) | (have H2_ := (Option.bind_some _ _).symm.trans H; with_reducible exact H2_) | with_reducible exact H | (rw [hy143]; exact H) | exact H
      have Ny143 := Aside0.mk hy143
      clear hy143
      have H' := Aside0.mk H
      clear H
      go_enter Tryd.func7, Tryd.ntmps7
      go_wp2_with (first | ((with_reducible refine gate_dst (N := 7) rfl ?_); refine Kd.R_make (Kd.int .u8) _ 5 rfl (N := 7) rfl 27 _ _ rfl (l0.length : Int) rfl rfl Tryd.underlying27 (.int .u8 0) 1 info5 rfl (by decide) (by omega) 0 (ok := fun _ => True) (okp := fun _ => True) rfl (fun _ hk => hk) trivial (of_decide_eq_true (by first | (with_reducible assumption) | assumption)) (Nat.le_trans (Nat.mul_le_mul_right _ (of_decide_eq_true (by first | (with_reducible assumption) | assumption) : (l0.length : Int).toNat ≤ 281474976710656)) (by omega)) (Below.refl _ _) (Nat.le_refl _) ?_; intro v144 w4 ho5 hb hg_ hnew_; clear hg_ hnew_; (first | rw [← Ny143.out] at ho5 | (simp only [Int.reduceToNat] at ho5; rw [← Ny143.out] at ho5)); have n0_ := Aside0.mk (Kd.R_lower ho5 (below_size (by repeat (first | (with_reducible first | exact HB.out | apply below_alloc | apply pw_below_drewN | apply below_drew1) | exact HB.out)))); have n1_ := Aside0.mk (below_step (by repeat (first | (with_reducible first | exact HB.out | apply below_alloc | apply pw_below_drewN | apply below_drew1) | exact HB.out)) hb); clear HB; have HO145 := n0_; have HB := n1_; clear n0_ n1_; clear hb ho5))
      go_loopg [4] k (fun kq v4 w' => ∃ (x3_1 : List Int) (x4_1 : Int), v4 = .int .i64 x4_1 ∧ Aside0 (laws_toStack.l0 kq l0 x3_1 x4_1 = some r) ∧ Aside0 (kq ≤ k) ∧ Aside0 (Kd.R (Kd.int .u8) 5 w' w.heap.size (fun _ => True) v144 x3_1) ∧ Aside0 (Below w.heap.size w w'))
      case atStart => exact ⟨(y143), (0), (by first | rfl | (simp; done) | (simp [*]; done)), H', ⟨Nat.le_refl _⟩, ⟨by (with_reducible repeat (first | apply Kd.R_alloc | apply Kd.R_drewN | apply Kd.R_drew)); exact HO145.out⟩, ⟨by repeat (first | (with_reducible first | exact HB.out | apply below_alloc | apply pw_below_drewN | apply below_drew1) | exact HB.out)⟩⟩
      case round =>
        clear H'
        try clear c2
        try clear c2b0
        try clear c2b1
        try clear p2
        try clear c3
        try clear c3b0
        try clear c3b1
        obtain ⟨x3_1, x4_1, rfl, HA, HK1, HO_3, HB⟩ := hrel
        cases gk with
        | zero => exact absurd HA.out (by simp [laws_toStack.l0])
        | succ k1 =>
          have H := HA.out
          clear HA
          simp only [laws_toStack.l0] at H
          by_cases c6 : x4_1 < (l0.length : Int)
          · rw [if_pos c6] at H
            have c6b0 : decide (x4_1 < (l0.length : Int)) = true := decide_eq_true c6
            clear c6
            by_cases c7 : 0 ≤ x4_1
            · rw [if_pos c7] at H
              have c7b0 : decide (0 ≤ x4_1) = true := decide_eq_true c7
              clear c7
              by_cases c8 : x4_1 < (x3_1.length : Int)
              · rw [if_pos c8] at H
                have c8b0 : decide (x4_1 < (x3_1.length : Int)) = true := decide_eq_true c8
                clear c8
                obtain ⟨y147, hy147⟩ : ∃ y_ : List Int, y_ = (x3_1.set (x4_1 : Int).toNat (rd l0 x4_1)) := ⟨_, rfl⟩
                replace H : (laws_toStack.l0 k1 l0 y147 (wrap64 (x4_1 + 1))) = some r := by first | (rw [hy147]; with_reducible exact H) | (have H2_ := (Option.bind_some _ _).symm.trans H; rw [hy147]; with_reducible exact H2_) | (have H2_ := (Option.bind_some _ _).symm.trans H; with_reducible exact H2_) | with_reducible exact H | (rw [hy147]; exact H) | exact H
                have Ny147 := Aside0.mk hy147
                clear hy147
                have H' := Aside0.mk H
                clear H
                have p146 : 0 ≤ (x4_1 : Int) := of_decide_eq_true (by first | (with_reducible assumption) | assumption)
                have q146 : x4_1 < (l0.length : Int) := of_decide_eq_true (by first | (with_reducible assumption) | assumption)
                obtain ⟨ad146, e146, hx146_0⟩ := Kd.at_int HR0.out x4_1 p146 q146
                cases e146
                replace hx146_0 := (HB.out.cell (World.block_lt_of_cell? w _ hx146_0)).trans hx146_0
                replace p146 := eq_true p146
                replace q146 := eq_true q146
                have p9 : 0 ≤ (x4_1 : Int) := of_decide_eq_true (by first | (with_reducible assumption) | assumption)
                have q9 : (x4_1 : Int) < ((x3_1.length : Int) : Int) := of_decide_eq_true (by first | (with_reducible assumption) | assumption)
                obtain ⟨go9, co9, eo9, gb9, gl9, cl9, HG9⟩ := Kd.R_form HO_3.out (by omega)
                (first | cases eo9 | (injection eo9 with ea_ en_ ec_; (first | subst ea_ | (injection ea_ with ea_; subst ea_)); subst ec_; clear en_))
                have GB9 := Aside0.mk gb9
                have GG9 := Aside0.mk HG9
                clear gb9 gl9 HG9
                obtain ⟨hx9_0, hf9_0⟩ := Kd.R_celln 0 HO_3.out (x4_1 : Int) p9 q9
                replace p9 := eq_true p9
                replace q9 := eq_true q9
                have HP10 := Kd.R_putg HO_3.out (x4_1 : Int) (rd l0 x4_1)
                go_wp2_with (first | ((with_reducible refine gate_store (t := 5) (p := 20) rfl ?_); refine store_event (t := 5) (p := 20) (v := ?vo_w11) (w1 := (wr.setCell ⟨go9, (x4_1 : Int).toNat, none⟩ (.int .u8 (rd l0 x4_1)))) ?hg ?ho ?hn ?hr ?_; (case ho => rfl); (case hg => rfl); (case hn => rfl); (case hr => first | (go_simp; done) | (go_simp; rfl)); intro w11 hw; have hg : wr.grownBy w11 (some go9) := (by rw [hw]; exact HP10.2); have hp_ : Kd.R (Kd.int .u8) 5 w11 w.heap.size (fun _ => True) (.slice (some ⟨go9, 0, none⟩) x3_1.length co9) y147 := (by rw [hw, Ny147.out]; exact HP10.1); clear HP10; have n0_ := Aside0.mk (hp_); have n1_ := Aside0.mk ((by rw [hw]; exact below_set (HB.out) GB9.out : Below w.heap.size w w11)); clear HO_3; clear HB; have HO_3 := n0_; have HB := n1_; clear n0_ n1_; clear hg hw hp_))
                go_roundg k1
                case measure => have := HK1.out; omega
                case rel => exact ⟨(y147), (wrap64 (x4_1 + 1)), (by first | rfl | (simp; done) | (simp [*]; done)), H', ⟨by have := HK1.out; omega⟩, ⟨by (with_reducible repeat (first | apply Kd.R_alloc | apply Kd.R_drewN | apply Kd.R_drew)); exact HO_3.out⟩, ⟨by repeat (first | (with_reducible first | exact HB.out | apply below_alloc | apply pw_below_drewN | apply below_drew1) | exact HB.out)⟩⟩
              · rw [if_neg c8] at H
                exact absurd H (by simp)
            · rw [if_neg c7] at H
              exact absurd H (by simp)
          · rw [if_neg c6] at H
            have c6b0 : decide (x4_1 < (l0.length : Int)) = false := decide_eq_false c6
            clear c6
            obtain rfl := Option.some.inj H
            go_wp2
            go_ret
            exact ⟨_, by first | rfl | (simp [errW_none, errW_some] <;> rfl) | (simp [*, errW_none, errW_some] <;> rfl), by (with_reducible repeat (first | apply Kd.R_alloc | apply Kd.R_drewN | apply Kd.R_drew)); exact HO_3.out, by repeat (first | (with_reducible first | exact HB.out | apply below_alloc | apply pw_below_drewN | apply below_drew1) | exact HB.out)⟩
    · rw [if_neg c3] at H
      exact absurd H (by simp)
  · rw [if_neg c2] at H
    exact absurd H (by simp)

end Go.Proofs.YtgfimdoildaonaaDoor.P

-- Written by a program of this session (a turned form of the kit's print) out of the translation.
namespace Go.Proofs.YtgfimdoildaonaaDoor.P
open Go.RowKit Go.Proofs.YtgfimdoildaonaaDoorW.PrintWords Go.Proofs.YtgfimdoildaonaaDoorW.PrintLast Go.Proofs.YtgfimdoildaonaaDoorW.PrintMore
attribute [local go_sem] max2_int min2_int max_two min_two max_three min_three max_four min_four   -- for this text's walks alone
set_option linter.unusedVariables false
set_option linter.unusedSimpArgs false

/-! ### laws_eqStack: function 10 -/
def laws_eqStack.l0 : Nat → List Int → List Int → Int → Option (Bool)
  | 0, _, _, _ => none
  | k + 1, x0, x1, x5 => if x5 < (x0.length : Int) then (if 0 ≤ x5 then (if x5 < (x1.length : Int) then (if (rd x0 x5) = (rd x1 x5) then (laws_eqStack.l0 k x0 x1 (wrap64 (x5 + 1))) else (some false)) else (none)) else (none)) else (some true)
def laws_eqStack.f (k : Nat) (l0 : List Int) (l1 : List Int) : Option (Bool) := if (l0.length : Int) = (l1.length : Int) then (laws_eqStack.l0 k l0 l1 0) else (some false)
theorem laws_eqStack.mono_l : ∀ k, (∀ y0 y1 y2, LeO (laws_eqStack.l0 k y0 y1 y2) (laws_eqStack.l0 (k + 1) y0 y1 y2))
  | 0 => fun _ _ _ r h => by simp [laws_eqStack.l0] at h
  | k + 1 => by
    have ih0 := laws_eqStack.mono_l k
    · intro y0 y1 y2
      unfold laws_eqStack.l0
      repeat' first
      | (with_reducible exact ih0 _ _ _)
      | (with_reducible exact LeO.refl _)
      | (with_reducible exact LeO.none _)
      | (with_reducible refine LeO.ite ?_ ?_)
      | (with_reducible refine LeO.bind ?_ (fun _ => ?_))
      | exact ih0 _ _ _
      | exact LeO.none _
      | refine LeO.ite ?_ ?_
      | refine LeO.bind ?_ (fun _ => ?_)
theorem laws_eqStack.mono : ∀ a0 a1 k, LeO (laws_eqStack.f k a0 a1) (laws_eqStack.f (k + 1) a0 a1) := by
  intro a0 a1 k
  have ih0 := laws_eqStack.mono_l k
  unfold laws_eqStack.f
  repeat' first
      | (with_reducible exact ih0 _ _ _)
      | (with_reducible exact LeO.refl _)
      | (with_reducible exact LeO.none _)
      | (with_reducible refine LeO.ite ?_ ?_)
      | (with_reducible refine LeO.bind ?_ (fun _ => ?_))
      | exact ih0 _ _ _
      | exact LeO.none _
      | refine LeO.ite ?_ ?_
      | refine LeO.bind ?_ (fun _ => ?_)
set_option maxHeartbeats 8000000 in
set_option maxRecDepth 100000 in
theorem laws_eqStack.calls (k : Nat) (A0 : Option Addr) (c0 : Nat) (l0 : List Int) (A1 : Option Addr) (c1 : Nat) (l1 : List Int) (r : Bool) (w : World) (hr0 : Kd.C (Kd.int .u8) w A0 l0.length l0) (hc0 : l0.length ≤ c0) (hr1 : Kd.C (Kd.int .u8) w A1 l1.length l1) (hc1 : l1.length ≤ c1) (h : laws_eqStack.f k l0 l1 = some r) :
    Calls Tryd.prog 10 #[.slice A0 l0.length c0, .slice A1 l1.length c1] w fun e w' => e = .returned (.bool r) ∧ Drawn0 w w' := by
  have HR0 := Aside0.mk hr0
  have HC0 := Aside0.mk hc0
  clear hr0 hc0
  have HR1 := Aside0.mk hr1
  have HC1 := Aside0.mk hc1
  clear hr1 hc1
  have H : (if (l0.length : Int) = (l1.length : Int) then (laws_eqStack.l0 k l0 l1 0) else (some false)) = some r := h
  clear h
  by_cases c3 : (l0.length : Int) = (l1.length : Int)
  · rw [if_pos c3] at H
    have c3b0 : ((l0.length : Int) == (l1.length : Int)) = true := beq_iff_eq.mpr c3
    have c3b1 : ((l0.length : Int) != (l1.length : Int)) = false := bne_eq_false_iff_eq.mpr c3
    have c3b2 : (l0.length == l1.length) = true := by first | simpa using c3 | (simp at c3 ⊢; omega)
    clear c3
    have H' := Aside0.mk H
    clear H
    go_enter Tryd.func10, Tryd.ntmps10
    go_wp2
    repeat (go_quiet (fail); try go_wp2)
    go_loopg [5] k (fun kq v5 w' => ∃ (x5_1 : Int), v5 = .int .i64 x5_1 ∧ Aside0 (laws_eqStack.l0 kq l0 l1 x5_1 = some r) ∧ Aside0 (kq ≤ k) ∧ Drawn0 w w')
    case atStart => exact ⟨(0), (by first | rfl | (simp; done) | (simp [*]; done)), H', ⟨Nat.le_refl _⟩, by repeat (first | exact Drawn0.refl _ | apply Drawn0.step)⟩
    case round =>
      clear H'
      try clear c1
      try clear p2
      try clear c3
      try clear c3b0
      try clear c3b1
      try clear c3b2
      obtain ⟨x5_1, rfl, HA, HK1, ⟨m1, rfl⟩⟩ := hrel
      cases gk with
      | zero => exact absurd HA.out (by simp [laws_eqStack.l0])
      | succ k1 =>
        have H := HA.out
        clear HA
        simp only [laws_eqStack.l0] at H
        by_cases c4 : x5_1 < (l0.length : Int)
        · rw [if_pos c4] at H
          have c4b0 : decide (x5_1 < (l0.length : Int)) = true := decide_eq_true c4
          clear c4
          by_cases c5 : 0 ≤ x5_1
          · rw [if_pos c5] at H
            have c5b0 : decide (0 ≤ x5_1) = true := decide_eq_true c5
            clear c5
            by_cases c6 : x5_1 < (l1.length : Int)
            · rw [if_pos c6] at H
              have c6b0 : decide (x5_1 < (l1.length : Int)) = true := decide_eq_true c6
              clear c6
              by_cases c7 : (rd l0 x5_1) = (rd l1 x5_1)
              · rw [if_pos c7] at H
                have c7b0 : ((rd l0 x5_1) == (rd l1 x5_1)) = true := beq_iff_eq.mpr c7
                have c7b1 : ((rd l0 x5_1) != (rd l1 x5_1)) = false := bne_eq_false_iff_eq.mpr c7
                clear c7
                have H' := Aside0.mk H
                clear H
                have p179 : 0 ≤ (x5_1 : Int) := of_decide_eq_true (by first | (with_reducible assumption) | assumption)
                have q179 : x5_1 < (l0.length : Int) := of_decide_eq_true (by first | (with_reducible assumption) | assumption)
                obtain ⟨ad179, e179, hx179_0⟩ := Kd.at_int HR0.out x5_1 p179 q179
                cases e179
                replace p179 := eq_true p179
                replace q179 := eq_true q179
                have p180 : 0 ≤ (x5_1 : Int) := of_decide_eq_true (by first | (with_reducible assumption) | assumption)
                have q180 : x5_1 < (l1.length : Int) := of_decide_eq_true (by first | (with_reducible assumption) | assumption)
                obtain ⟨ad180, e180, hx180_0⟩ := Kd.at_int HR1.out x5_1 p180 q180
                cases e180
                replace p180 := eq_true p180
                replace q180 := eq_true q180
                go_wp2
                repeat (go_quiet (fail); try go_wp2)
                go_roundg k1
                case measure => have := HK1.out; omega
                case rel => exact ⟨(wrap64 (x5_1 + 1)), (by first | rfl | (simp; done) | (simp [*]; done)), H', ⟨by have := HK1.out; omega⟩, by repeat (first | exact Drawn0.refl _ | apply Drawn0.step)⟩
              · rw [if_neg c7] at H
                have c7b0 : ((rd l0 x5_1) == (rd l1 x5_1)) = false := beq_eq_false_iff_ne.mpr c7
                have c7b1 : ((rd l0 x5_1) != (rd l1 x5_1)) = true := bne_iff_ne.mpr c7
                obtain rfl := Option.some.inj H
                have p179 : 0 ≤ (x5_1 : Int) := of_decide_eq_true (by first | (with_reducible assumption) | assumption)
                have q179 : x5_1 < (l0.length : Int) := of_decide_eq_true (by first | (with_reducible assumption) | assumption)
                obtain ⟨ad179, e179, hx179_0⟩ := Kd.at_int HR0.out x5_1 p179 q179
                cases e179
                replace p179 := eq_true p179
                replace q179 := eq_true q179
                have p180 : 0 ≤ (x5_1 : Int) := of_decide_eq_true (by first | (with_reducible assumption) | assumption)
                have q180 : x5_1 < (l1.length : Int) := of_decide_eq_true (by first | (with_reducible assumption) | assumption)
                obtain ⟨ad180, e180, hx180_0⟩ := Kd.at_int HR1.out x5_1 p180 q180
                cases e180
                replace p180 := eq_true p180
                replace q180 := eq_true q180
                go_wp2
                repeat (go_quiet (fail); try go_wp2)
                go_ret
                exact ⟨by first | rfl | (simp; done) | (simp [*]; done), by repeat (first | exact Drawn0.refl _ | apply Drawn0.step)⟩
            · rw [if_neg c6] at H
              exact absurd H (by simp)
          · rw [if_neg c5] at H
            exact absurd H (by simp)
        · rw [if_neg c4] at H
          have c4b0 : decide (x5_1 < (l0.length : Int)) = false := decide_eq_false c4
          clear c4
          obtain rfl := Option.some.inj H
          go_wp2
          repeat (go_quiet (fail); try go_wp2)
          go_ret
          exact ⟨by first | rfl | (simp; done) | (simp [*]; done), by repeat (first | exact Drawn0.refl _ | apply Drawn0.step)⟩
  · rw [if_neg c3] at H
    have c3b0 : ((l0.length : Int) == (l1.length : Int)) = false := beq_eq_false_iff_ne.mpr c3
    have c3b1 : ((l0.length : Int) != (l1.length : Int)) = true := bne_iff_ne.mpr c3
    have c3b2 : (l0.length == l1.length) = false := by first | simpa using c3 | (simp at c3 ⊢; omega)
    obtain rfl := Option.some.inj H
    go_enter Tryd.func10, Tryd.ntmps10
    go_wp2
    repeat (go_quiet (fail); try go_wp2)
    go_ret
    exact ⟨by first | rfl | (simp; done) | (simp [*]; done), by repeat (first | exact Drawn0.refl _ | apply Drawn0.step)⟩

end Go.Proofs.YtgfimdoildaonaaDoor.P

/- Plain laws of the laws' helpers on stacks and digits: copies are equal. -/
namespace Go.Proofs.YtgfimdoildaonaaDoor.P
open Go.RowKit Go.Proofs.YtgfimdoildaonaaDoorW.PrintWords Go.Proofs.YtgfimdoildaonaaDoorW.PrintLast Go.Proofs.YtgfimdoildaonaaDoorW.PrintMore
set_option linter.unusedVariables false
theorem to_stack (l : List Int) (hn : l.length ≤ 1048576) : laws_toStack.f 1048577 l = some l := by
  unfold laws_toStack.f
  rw [if_pos (by omega), if_pos (by omega)]
  have key := map_loop 0 (fun x : Int => x) l (fun k ys i => laws_toStack.l0 k l ys i) (by omega) ?_ ?_ l.length 1048577 0 (List.replicate ((l.length : Int)).toNat 0) (by omega) (by omega) (by simp)
  · simp only [Int.ofNat_zero] at key
    rw [key]; simp
  · intro k ys i hi hl
    simp only [laws_toStack.l0]
    rw [if_pos (by omega), if_pos (by omega), if_pos (by omega)]
    simp [rd]
  · intro k ys
    simp only [laws_toStack.l0]
    rw [if_neg (by omega)]
theorem eq_stack (l : List Int) (hn : l.length ≤ 1048576) : laws_eqStack.f 1048577 l l = some true := by
  unfold laws_eqStack.f
  rw [if_pos rfl]
  have key := all_loop (fun _ => true) l.length (fun k i => laws_eqStack.l0 k l l i) (by omega) 1 (by omega) ?_ ?_ ?_ l.length 1048577 0 (by omega) (by omega)
  · rw [show ((0 : Nat) : Int) = 0 from rfl] at key
    rw [key]; simp
  · intro k i hi _
    simp only [laws_eqStack.l0]
    rw [if_pos (by omega), if_pos (by omega), if_pos (by omega)]
    simp
  · intro k i hi h; cases h
  · intro k
    simp only [laws_eqStack.l0]
    rw [if_neg (by omega)]
end Go.Proofs.YtgfimdoildaonaaDoor.P

/- The law FnExactTicketText, walked over the contracts of what it calls. -/
namespace Go.Proofs.YtgfimdoildaonaaDoor.P
open Go.RowKit Go.Proofs.YtgfimdoildaonaaDoorW.PrintWords Go.Proofs.YtgfimdoildaonaaDoorW.PrintLast Go.Proofs.YtgfimdoildaonaaDoorW.PrintMore
set_option linter.unusedVariables false
set_option linter.unusedSimpArgs false
set_option maxHeartbeats 2000000 in
set_option maxRecDepth 100000 in
theorem lawTicketText (A0 : Option Addr) (c0 : Nat) (s : List Int) (t : Tk) (w : World) (hT : Tab w) (hr0 : Kd.C (Kd.int .u8) w A0 s.length s) (hc0 : s.length ≤ c0) (hm : s.length ≤ maxLen) (hd : tkIn t) :
    Calls Tryd.prog 5 #[.slice A0 s.length c0, .agg #[.int .i64 t.n, .int .u8 t.d.f0, .int .u8 t.d.f1, .int .u8 t.d.f2, .int .u8 t.d.f3, .int .u8 t.d.f4, .int .u8 t.d.f5, .int .u8 t.d.f6, .int .u8 t.d.f7, .int .u16 t.c]] w fun e w' => e = .returned (.bool true) ∧ Below w.heap.size w w' := by
  unfold maxLen at hm
  have HR := Aside0.mk hr0
  have HTB := Aside0.mk hT
  have HDA := Aside0.mk hd
  have HB1 := Aside0.mk (below_alloc (Below.refl w.heap.size w) (.cells #[.int .i64 t.n, .int .u8 t.d.f0, .int .u8 t.d.f1, .int .u8 t.d.f2, .int .u8 t.d.f3, .int .u8 t.d.f4, .int .u8 t.d.f5, .int .u8 t.d.f6, .int .u8 t.d.f7, .int .u16 t.c] 42))
  have HK1 := Aside0.mk (blk_new w (.cells #[.int .i64 t.n, .int .u8 t.d.f0, .int .u8 t.d.f1, .int .u8 t.d.f2, .int .u8 t.d.f3, .int .u8 t.d.f4, .int .u8 t.d.f5, .int .u8 t.d.f6, .int .u8 t.d.f7, .int .u16 t.c] 42))
  clear hr0 hT hd
  by_cases hbig : 1048576 < s.length
  · have hg : decide ((1048576 : Int) < (s.length : Int)) = true := decide_eq_true (by omega)
    clear hbig
    go_enter Tryd.func5, Tryd.ntmps5
    go_wp2_with fail
    go_ret
    exact ⟨rfl, HB1.out⟩
  · have hn : s.length ≤ 1048576 := by omega
    have hg : decide ((1048576 : Int) < (s.length : Int)) = false := decide_eq_false (by omega)
    have HTS := Aside0.mk (to_stack s hn)
    have HES := Aside0.mk (eq_stack s hn)
    have HTD := Aside0.mk (to_ticket t)
    have HN := Aside0.mk hn
    clear hbig
    go_enter Tryd.func5, Tryd.ntmps5
    go_wp2_with fail
    have HK := HK1
    have HB := HB1
    clear HK1 HB1
    generalize w.alloc (.cells #[.int .i64 t.n, .int .u8 t.d.f0, .int .u8 t.d.f1, .int .u8 t.d.f2, .int .u8 t.d.f3, .int .u8 t.d.f4, .int .u8 t.d.f5, .int .u8 t.d.f6, .int .u8 t.d.f7, .int .u16 t.c] 42) = W0 at HK HB ⊢
    refine start_ (n := 6) (S := fun w' => w'.cell? ⟨w.heap.size, 0, none⟩ = some (.int .i64 t.n) ∧ w'.cell? ⟨w.heap.size, 1, none⟩ = some (.int .u8 t.d.f0) ∧ w'.cell? ⟨w.heap.size, 2, none⟩ = some (.int .u8 t.d.f1) ∧ w'.cell? ⟨w.heap.size, 3, none⟩ = some (.int .u8 t.d.f2) ∧ w'.cell? ⟨w.heap.size, 4, none⟩ = some (.int .u8 t.d.f3) ∧ w'.cell? ⟨w.heap.size, 5, none⟩ = some (.int .u8 t.d.f4) ∧ w'.cell? ⟨w.heap.size, 6, none⟩ = some (.int .u8 t.d.f5) ∧ w'.cell? ⟨w.heap.size, 7, none⟩ = some (.int .u8 t.d.f6) ∧ w'.cell? ⟨w.heap.size, 8, none⟩ = some (.int .u8 t.d.f7) ∧ w'.cell? ⟨w.heap.size, 9, none⟩ = some (.int .u16 t.c)) (ds := []) #[false, false, false, false, false, false] (by kernel_rfl) rfl rfl (⟨(blk_cell HK.out 0).trans rfl, (blk_cell HK.out 1).trans rfl, (blk_cell HK.out 2).trans rfl, (blk_cell HK.out 3).trans rfl, (blk_cell HK.out 4).trans rfl, (blk_cell HK.out 5).trans rfl, (blk_cell HK.out 6).trans rfl, (blk_cell HK.out 7).trans rfl, (blk_cell HK.out 8).trans rfl, (blk_cell HK.out 9).trans rfl⟩) (fun hHeld => ?_)
    have n0_ := Aside0.mk (blk_drew HK.out)
    have n1_ := Aside0.mk (below_drew1 HB.out)
    clear HK HB
    have HK := n0_
    have HB := n1_
    clear n0_ n1_
    generalize W0.drew = W1 at HK HB hHeld ⊢
    refine pure_ (i := 0) (N := (some 11)) (v := ?_) (a' := ?_) #[true, false, false, false, false, false] rfl rfl (by kernel_rfl) (fun _ _ _ h => h) (Or.inl ⟨by rfl, ?_⟩) ?_ ?_
    rotate_left
    · intro w'
      go_simp
      with_reducible rfl
    rotate_left
    · simp only [Act.put, List.setIfInBounds_toArray, List.set_cons_zero, List.set_cons_succ, i64_w, i32_w]
      rfl
    refine take_ (i := 2) (N := (some 13)) (v := ?_) (a' := ?_) #[true, false, true, false, false, false] rfl rfl (by kernel_rfl) (fun _ _ _ h => h) (Or.inl ⟨by rfl, ?_⟩) hHeld ?_ ?_
    rotate_left
    · rintro w' ⟨s0, s1, s2, s3, s4, s5, s6, s7, s8, s9⟩
      go_simp
      with_reducible rfl
    rotate_left
    · simp only [Act.put, List.setIfInBounds_toArray, List.set_cons_zero, List.set_cons_succ, i64_w, i32_w]
      rfl
    refine one_ (i := 1) (N := (some 12)) #[true, true, true, false, false, false] rfl rfl (by kernel_rfl) (by decide) (fun K hK => ?_)
    refine goes_ Tryd.func7 (by kernel_rfl) rfl #[.slice A0 s.length c0] (by rfl) rfl rfl (by (try simp only [List.map_toArray, List.map_cons, List.map_nil]); first | done | rfl) ?_
    with_reducible refine (laws_toStack.calls 1048577 _ _ s s _ (Kd.C_below HR.out HB.out) hc0 HTS.out).mono ?_
    rintro e w2 ⟨v0, rfl, ho, hb⟩
    obtain ⟨A1, c1, hv, hl1, hC1⟩ := Kd.R_reads ho
    subst hv
    refine ⟨_, rfl, ?_⟩
    have n0_ := Aside0.mk (blk_below HK.out hb)
    have n1_ := Aside0.mk (below_step HB.out hb)
    have HC1 := Aside0.mk hC1
    clear HK HB hb ho hC1
    have HK := n0_
    have HB := n1_
    clear n0_ n1_
    refine hK.out _ _ (⟨(blk_cell HK.out 0).trans rfl, (blk_cell HK.out 1).trans rfl, (blk_cell HK.out 2).trans rfl, (blk_cell HK.out 3).trans rfl, (blk_cell HK.out 4).trans rfl, (blk_cell HK.out 5).trans rfl, (blk_cell HK.out 6).trans rfl, (blk_cell HK.out 7).trans rfl, (blk_cell HK.out 8).trans rfl, (blk_cell HK.out 9).trans rfl⟩) (fun hHeld => ?_)
    clear hK K
    refine norm_ (a' := ?_) ?_ ?_
    rotate_left
    · show Act.put _ (some 12) _ = _
      simp only [Act.put, List.setIfInBounds_toArray, List.set_cons_zero, List.set_cons_succ, i64_w, i32_w]
      rfl
    refine one_ (i := 3) (N := (some 14)) #[true, true, true, true, false, false] rfl rfl (by kernel_rfl) (by decide) (fun K hK => ?_)
    refine goes_ Tryd.func15 (by kernel_rfl) rfl #[.agg #[.int .i64 t.n, .int .u8 t.d.f0, .int .u8 t.d.f1, .int .u8 t.d.f2, .int .u8 t.d.f3, .int .u8 t.d.f4, .int .u8 t.d.f5, .int .u8 t.d.f6, .int .u8 t.d.f7, .int .u16 t.c]] (by rfl) rfl rfl (by (try simp only [List.map_toArray, List.map_cons, List.map_nil]); first | done | rfl) ?_
    with_reducible refine (laws_toTicket.calls 20 _ _ _ _ _ _ _ _ _ _ _ _ _ _ _ _ _ _ _ _ _ HTD.out).mono ?_
    rintro e w3 ⟨rfl, hb⟩
    refine ⟨_, rfl, ?_⟩
    have n0_ := Aside0.mk (blk_below HK.out hb)
    have n1_ := Aside0.mk (below_step HB.out hb)
    have n2_ := Aside0.mk (Kd.C_below HC1.out hb)
    clear HK HB hb HC1
    have HK := n0_
    have HB := n1_
    have HC1 := n2_
    clear n0_ n1_ n2_
    refine hK.out _ _ (⟨(blk_cell HK.out 0).trans rfl, (blk_cell HK.out 1).trans rfl, (blk_cell HK.out 2).trans rfl, (blk_cell HK.out 3).trans rfl, (blk_cell HK.out 4).trans rfl, (blk_cell HK.out 5).trans rfl, (blk_cell HK.out 6).trans rfl, (blk_cell HK.out 7).trans rfl, (blk_cell HK.out 8).trans rfl, (blk_cell HK.out 9).trans rfl⟩) (fun hHeld => ?_)
    clear hK K
    refine norm_ (a' := ?_) ?_ ?_
    rotate_left
    · show Act.put _ (some 14) _ = _
      simp only [Act.put, List.setIfInBounds_toArray, List.set_cons_zero, List.set_cons_succ, i64_w, i32_w]
      rfl
    refine one_ (i := 4) (N := (some 15)) #[true, true, true, true, true, false] rfl rfl (by kernel_rfl) (by decide) (fun K hK => ?_)
    refine goes_ Tryd.func14 (by kernel_rfl) rfl #[.slice A1 s.length c1, .agg #[.int .i64 t.n, .int .u8 t.d.f0, .int .u8 t.d.f1, .int .u8 t.d.f2, .int .u8 t.d.f3, .int .u8 t.d.f4, .int .u8 t.d.f5, .int .u8 t.d.f6, .int .u8 t.d.f7, .int .u16 t.c]] (by rfl) rfl rfl (by (try simp only [List.map_toArray, List.map_cons, List.map_nil]); first | done | rfl) ?_
    with_reducible refine (specTicketText_at _ _ s t _ HC1.out hl1 HN.out HDA.out).mono ?_
    rintro e w4 ⟨rfl, hb⟩
    refine ⟨_, rfl, ?_⟩
    have n0_ := Aside0.mk (blk_below HK.out hb)
    have n1_ := Aside0.mk (below_step HB.out hb)
    clear HK HB hb HC1
    have HK := n0_
    have HB := n1_
    clear n0_ n1_
    refine hK.out _ _ (⟨(blk_cell HK.out 0).trans rfl, (blk_cell HK.out 1).trans rfl, (blk_cell HK.out 2).trans rfl, (blk_cell HK.out 3).trans rfl, (blk_cell HK.out 4).trans rfl, (blk_cell HK.out 5).trans rfl, (blk_cell HK.out 6).trans rfl, (blk_cell HK.out 7).trans rfl, (blk_cell HK.out 8).trans rfl, (blk_cell HK.out 9).trans rfl⟩) (fun hHeld => ?_)
    clear hK K
    refine norm_ (a' := ?_) ?_ ?_
    rotate_left
    · show Act.put _ (some 15) _ = _
      simp only [Act.put, List.setIfInBounds_toArray, List.set_cons_zero, List.set_cons_succ, i64_w, i32_w]
      rfl
    refine pure_ (i := 5) (N := (some 5)) (v := ?_) (a' := ?_) #[true, true, true, true, true, true] rfl rfl (by kernel_rfl) (fun _ _ _ h => h) (Or.inl ⟨by rfl, ?_⟩) ?_ ?_
    rotate_left
    · intro w'
      go_simp
      with_reducible rfl
    rotate_left
    · simp only [Act.put, List.setIfInBounds_toArray, List.set_cons_zero, List.set_cons_succ, i64_w, i32_w]
      rfl
    refine done_ (by kernel_rfl) ?_
    clear hHeld
    go_wp2_with fail
    refine (laws_toStack.calls 1048577 _ _ s s _ (Kd.C_below HR.out HB.out) hc0 HTS.out).mono ?_
    rintro e w5 ⟨v1, rfl, ho, hb⟩
    obtain ⟨A2, c2, hv, hl2, hC2⟩ := Kd.R_reads ho
    subst hv
    have n0_ := Aside0.mk (blk_below HK.out hb)
    have n1_ := Aside0.mk (below_step HB.out hb)
    have HC2 := Aside0.mk hC2
    clear HK HB hb ho hC2
    have HK := n0_
    have HB := n1_
    clear n0_ n1_
    have hq0 := (blk_cell HK.out 0).trans rfl
    have hq1 := (blk_cell HK.out 1).trans rfl
    have hq2 := (blk_cell HK.out 2).trans rfl
    have hq3 := (blk_cell HK.out 3).trans rfl
    have hq4 := (blk_cell HK.out 4).trans rfl
    have hq5 := (blk_cell HK.out 5).trans rfl
    have hq6 := (blk_cell HK.out 6).trans rfl
    have hq7 := (blk_cell HK.out 7).trans rfl
    have hq8 := (blk_cell HK.out 8).trans rfl
    have hq9 := (blk_cell HK.out 9).trans rfl
    go_wp2_with fail
    refine (laws_toTicket.calls 20 _ _ _ _ _ _ _ _ _ _ _ _ _ _ _ _ _ _ _ _ _ HTD.out).mono ?_
    rintro e w6 ⟨rfl, hb⟩
    clear hq0 hq1 hq2 hq3 hq4 hq5 hq6 hq7 hq8 hq9 HK
    have n1_ := Aside0.mk (below_step HB.out hb)
    have n2_ := Aside0.mk (Kd.C_below HC2.out hb)
    clear HB hb HC2
    have HB := n1_
    have HC2 := n2_
    clear n1_ n2_
    go_wp2_with fail
    refine (implTicketText_at _ _ s t _ (HTB.out.below HB.out) HC2.out hl2 HN.out HDA.out).mono ?_
    rintro e w7 ⟨rfl, hb⟩
    have n1_ := Aside0.mk (below_step HB.out hb)
    have n2_ := Aside0.mk (Kd.C_below HC2.out hb)
    clear HB hb HC2
    have HB := n1_
    have HC2 := n2_
    clear n1_ n2_
    generalize ticketText s t = txt
    go_wp2_with fail
    refine (laws_toStack.calls 1048577 _ _ s s _ (Kd.C_below HR.out HB.out) hc0 HTS.out).mono ?_
    rintro e w8 ⟨v2, rfl, ho, hb⟩
    obtain ⟨A3, c3, hv, hl3, hC3⟩ := Kd.R_reads ho
    subst hv
    have n1_ := Aside0.mk (below_step HB.out hb)
    have n2_ := Aside0.mk (Kd.C_below HC2.out hb)
    have HC3 := Aside0.mk hC3
    clear HB hb ho hC3 HC2
    have HB := n1_
    have HC2 := n2_
    clear n1_ n2_
    go_wp2_with fail
    refine (laws_eqStack.calls 1048577 _ _ s _ _ s true _ HC2.out hl2 HC3.out hl3 HES.out).mono ?_
    rintro e w9 ⟨rfl, hb⟩
    have HB9 := Aside0.mk (below_step HB.out hb.below)
    clear HB hb
    go_wp2_with fail
    go_ret
    exact ⟨rfl, HB9.out⟩
end Go.Proofs.YtgfimdoildaonaaDoor.P

/- FnExactTicketText: for every stack and ticket the program's TicketText returns what the reference's returns; no condition. -/
namespace Go.Proofs.YtgfimdoildaonaaDoor.P
open Go.ChangeShapes Go.WideShapes Go.ChangeAt Go.RowKit Go.Proofs.YtgfimdoildaonaaDoorW.PrintWords
set_option linter.unusedVariables false

theorem ownTk : ownKnob Tryd.prog.godebug = none := by kernel_rfl
theorem laidOutTk : laidOutB Tryd.prog = true := by kernel_rfl
set_option maxRecDepth 100000 in
theorem lTk_contract (H : Type) (enc : TypeId × Value → H) (W : World) (base : Nat) (args : Array Value) (ds gs : List (DataW H)) (before : List MemPlace)
    (hval : ∀ (j : Nat) t v, Tryd.f5.params[j]? = some t → args[j]? = some v → Value.okWide Tryd.prog W .any base t v)
    (hW : DataW.Whole enc Tryd.prog Tryd.f5.params.toList Rows.fnExactTicketTextSpec.vars false W args.toList ds gs before) (hL : laidMetH Tryd.prog Rows.fnExactTicketTextRow.laid W) :
    Calls Tryd.prog 5 args W fun e W' => ∃ v, e = .returned v ∧ Rows.fnExactTicketTextSpec.post enc Tryd.prog Tryd.f5 false true false false W args v W' := by
  have hT : Tab W := tab_of_laid (l := Rows.fnExactTicketTextRow.laid) (.tail _ (.tail _ (.head _))) hL
  have hW' := hW
  obtain ⟨p, q, hA0, hV, rfl, hfz, hnd⟩ := hW
  have hA : DataW.TrodAll enc Tryd.prog W 0 (fun _ => true) true Tryd.f5.params.toList args.toList ds p := hA0
  rw [Tryd.params5] at hA hval
  obtain ⟨v0, vs0, d0, ds0, p0, q0, hargs, rfl, rfl, h0, r0⟩ := trodAll_cons hA
  obtain ⟨v1, vs1, d1, ds1, p1, q1, rfl, rfl, rfl, h1, r1⟩ := trodAll_cons r0
  obtain ⟨rfl, rfl, rfl⟩ := trodAll_nil r1
  obtain rfl : args = #[v0, v1] := by cases args; simp_all
  obtain ⟨rfl, rfl⟩ := trodVars_none hV
  obtain ⟨a0, len0, cap0, rfl⟩ := okWide_slice Tryd.underlying22 (hval 0 22 v0 rfl rfl)
  have k0 := h0
  have lt0 : ∀ x ∈ p0, x.block < W.heap.size := by exact trod_lt1 k0
  have k1 := h1
  have lt1 : ∀ x ∈ p1, x.block < W.heap.size := by exact trod_lt1 k1
  obtain ⟨fuel, hf⟩ := h0
  obtain ⟨A, c, xs, hcs, hle, hcm, hC, hwf⟩ := opens_slice (Kd.int .u8) (fun n => 0 ≤ n ∧ n ≤ 255) open_u8 (by kernel_rfl) Tryd.underlying22 hf
  simp [Value.cells] at hcs
  obtain ⟨rfl, rfl, rfl⟩ := hcs
  obtain ⟨cs1, rfl, _⟩ := okWide_struct Tryd.underlying42 (hval 1 42 v1 rfl rfl)
  obtain ⟨fuel1, hf1⟩ := h1
  obtain ⟨n, ns, ck, hns, hnl, hnb, hck⟩ := open_ticket hf1
  match ns, hnl, hns, hnb with
  | [e0, e1, e2, e3, e4, e5, e6, e7], _, hns, hnb =>
    have hcs1 : cs1 = #[.int .i64 n, .int .u8 e0, .int .u8 e1, .int .u8 e2, .int .u8 e3, .int .u8 e4, .int .u8 e5, .int .u8 e6, .int .u8 e7, .int .u16 ck] := by
      have h : cs1.toList = _ := hns
      exact Array.toList_inj.1 h
    subst hcs1
    refine (lawTicketText a0 cap0 xs ⟨n, ⟨e0, e1, e2, e3, e4, e5, e6, e7⟩, ck⟩ W hT hC hle (Nat.le_trans hle hcm) ⟨(fun i hi => hnb _ (by
      have : nth [e0, e1, e2, e3, e4, e5, e6, e7] (i : Int) ∈ [e0, e1, e2, e3, e4, e5, e6, e7] := by
        unfold nth
        rw [Int.toNat_natCast, List.getD_eq_getElem?_getD, List.getElem?_eq_getElem (by simpa using hi)]
        exact List.getElem_mem _
      exact this)), hck⟩).mono fun e W' ⟨he, bel⟩ => ?_
    subst he
    exact ⟨_, rfl, _, _, _, [], _, [], hW', trodAll_mk1 (shut_bool Tryd.underlying4 _), trodAll_cons_mk (Below.trod laidOutTk (by kernel_rfl) (of_decide_eq_true (by kernel_rfl)) k0 bel lt0) (trodAll_cons_mk (Below.trod laidOutTk (by kernel_rfl) (of_decide_eq_true (by kernel_rfl)) k1 bel lt1) trodAll_mk0), rfl, bel.frame _, fun h => by cases h⟩

/-- A world for the witness: the settled one, the listed tables laid. -/
noncomputable def lTk_world (os : Os) : World :=
  { World.holding Tryd.prog os ⟨#[], #[], []⟩ with heap := (((World.holding Tryd.prog os ⟨#[], #[], []⟩).heap.modify 0 (layIn (tabCells Rows.laid_internal_strconv_uint64pow10))).modify 2 (layIn (tabCells Rows.laid_math_bits_deBruijn32tab))).modify 3 (layIn (tabCells Rows.laid_math_bits_deBruijn64tab)) }
theorem lTk_met (os : Os) : laidMet Tryd.prog Rows.fnExactTicketTextRow.laid ((lTk_world os).forCall (fun _ _ => 0) ⟨#[], #[.slice none 0 0, .agg #[.int .i64 0, .int .u8 0, .int .u8 0, .int .u8 0, .int .u8 0, .int .u8 0, .int .u8 0, .int .u8 0, .int .u8 0, .int .u16 0]], []⟩).memory :=
  laidMet_of_run' 8 (by kernel_rfl) (by kernel_rfl)
theorem lTk_reads (os : Os) {H : Type} (enc : TypeId × Value → H) : ∃ places, DataW.whole enc Tryd.prog ((lTk_world os).forCall (fun _ _ => 0) ⟨#[], #[.slice none 0 0, .agg #[.int .i64 0, .int .u8 0, .int .u8 0, .int .u8 0, .int .u8 0, .int .u8 0, .int .u8 0, .int .u8 0, .int .u8 0, .int .u16 0]], []⟩).memory Tryd.f5.params.toList Rows.fnExactTicketTextSpec.vars false #[Value.slice none 0 0, Value.agg #[.int .i64 0, .int .u8 0, .int .u8 0, .int .u8 0, .int .u8 0, .int .u8 0, .int .u8 0, .int .u8 0, .int .u8 0, .int .u16 0]].toList 8 = some ([.nil, .agg [.lit (.int .i64 0), .agg [.lit (.int .u8 0), .lit (.int .u8 0), .lit (.int .u8 0), .lit (.int .u8 0), .lit (.int .u8 0), .lit (.int .u8 0), .lit (.int .u8 0), .lit (.int .u8 0)], .lit (.int .u16 0)]], [], places) :=
  ⟨[], by kernel_rfl⟩

set_option maxRecDepth 100000 in
theorem lTk_lifted (os : Os) (started : os.Started) (H : Type) (enc : TypeId × Value → H) (F : Stop.Interp) :
    ReturnsInHanded {} Tryd.checked os 5 .any ((OpenSpec.ofChange Rows.fnExactTicketTextSpec).preRow enc Tryd.prog Tryd.f5 Rows.fnExactTicketTextRow.domain false Rows.fnExactTicketTextRow.laid) (((OpenSpec.ofChange Rows.fnExactTicketTextSpec).at F).post enc Tryd.prog Tryd.f5 false true false false) := by
  obtain ⟨places, hx⟩ := lTk_reads os enc
  refine returnsInHanded_of_row (C := Tryd.checked) (s := OpenSpec.ofChange Rows.fnExactTicketTextSpec) ownTk started (by kernel_rfl) Tryd.func5
    (witness_row_at (enc := enc) (C := Tryd.checked) false (lTk_world os) #[.slice none 0 0, .agg #[.int .i64 0, .int .u8 0, .int .u8 0, .int .u8 0, .int .u8 0, .int .u8 0, .int .u8 0, .int .u8 0, .int .u8 0, .int .u16 0]] rfl (by kernel_rfl) (by kernel_rfl) (by kernel_rfl)
      (OpenSpec.preRow_of_cond 8 hx (by kernel_rfl) (fun k hk => by cases hk) (by kernel_rfl) (lTk_met os))) ?_
  intro W base args ds gs before hval hW _ _ _ hL _ _
  exact lTk_contract H enc W base args ds gs before hval hW hL

theorem lTk_said : Rows.FnExactTicketTextSaid :=
  OpenClaim.holds_of_cond 5 Tryd.f5 rfl rfl rfl rfl rfl rfl rfl ⟨rfl, rfl, rfl, rfl, rfl⟩ rfl rfl rfl rfl rfl (by kernel_rfl) Tryd.func5 (by kernel_rfl)
    (of_decide_eq_true (by kernel_rfl)) (by unfold Func.isWrapper; first | (rw [if_pos (by decide +kernel)]; kernel_rfl) | (rw [if_neg (by decide +kernel)]; exact ⟨rfl, rfl⟩))
    (fun os started H enc _ F => by rw [OpenClaim.pre_eq_preRow]; exact lTk_lifted os started H enc F)

theorem lTk_plain (f : FuncId) (fn : Func) (hf : Tryd.pinned.checked.prog.funcNamed "loop.example/g01278/laws.FnExactTicketText" = some f) (hfn : Tryd.pinned.checked.prog.funcs[f]? = some fn) :
    false = Tryd.pinned.checked.prog.looks [] ∧ ∀ (j : Nat) t, fn.params[j]? = some t → Tryd.pinned.checked.prog.wantsStandIn t = false := by
  obtain rfl : f = 5 := Option.some.inj ((show Tryd.prog.funcNamed "loop.example/g01278/laws.FnExactTicketText" = some 5 by kernel_rfl).symm.trans hf) |>.symm
  obtain rfl : fn = Tryd.f5 := (Option.some.inj (Tryd.func5.symm.trans hfn)).symm
  refine ⟨by kernel_rfl, fun j t ht => ?_⟩
  rw [Tryd.params5] at ht
  have hm : t = 22 ∨ t = 42 := by simpa using Array.mem_of_getElem? ht
  rcases hm with rfl | rfl
  · exact (show Tryd.prog.wantsStandIn 22 = false by kernel_rfl)
  · exact (show Tryd.prog.wantsStandIn 42 = false by kernel_rfl)

theorem lTk_card : Rows.FnExactTicketTextCardSaid :=
  Claim7.holds_tied_plain_at .later [] _ _ _ _ lTk_said (fun _ h => by cases h) (by kernel_rfl) (fun _ h => by cases h) fnExactTicketText_row_tie rfl ⟨rfl, rfl⟩ (by kernel_rfl) rfl lTk_plain (by kernel_rfl)
end Go.Proofs.YtgfimdoildaonaaDoor.P
namespace Go.Proofs.YtgfimdoildaonaaDoor
theorem fnExactTicketText_holds : Rows.FnExactTicketTextCardSaid := P.lTk_card
#print axioms fnExactTicketText_holds
end Go.Proofs.YtgfimdoildaonaaDoor
