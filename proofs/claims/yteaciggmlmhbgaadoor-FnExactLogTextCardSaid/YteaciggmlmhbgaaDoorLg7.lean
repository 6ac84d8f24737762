/- FnExactLogText: for every stack and log the program's LogText returns what the reference's returns; no condition. -/
import Derived.Test.YteaciggmlmhbgaaDoorLg6
import Derived.Test.YteaciggmlmhbgaaDoorLg2
import Derived.Outline
import Derived.WalkSpells
import Derived.Test.YteaciggmlmhbgaaDoorProg
import Derived.Shelf.Strings.BuilderX
import Derived.Lib.Strings
import Derived.Lib.Slices
import Derived.Lib.Walk
import Derived.Lib.Builder
import Derived.Lib.AppendStr
import Derived.Lib.UnsafeStr
import Derived.WalkKit
import Derived.Laws.Externs
import Derived.Laws.IdiomCopy
import Derived.Test.YteaciggmlmhbgaaDoorLg0
import Derived.Deep.RegionWith
import Derived.Test.YteaciggmlmhbgaaDoorCards
import Derived.Test.YteaciggmlmhbgaaDoorTie
import Derived.Below
/- spec's l04Text and LogText. -/
namespace Go.Proofs.YteaciggmlmhbgaaDoor.P
open Go.RowKit Go.Proofs.YteaciggmlmhbgaaDoorW.PrintWords Go.Proofs.YteaciggmlmhbgaaDoorW.PrintLast Go.Proofs.YteaciggmlmhbgaaDoorW.PrintMore
set_option linter.unusedVariables false
set_option linter.unusedSimpArgs false
set_option maxHeartbeats 2000000 in
set_option maxRecDepth 100000 in
theorem l04Text_at (A0 : Option Addr) (c0 : Nat) (s : List Int) (A1 : Option Addr) (c1 : Nat) (l0 : List Rg) (w : World) (hs : Kd.C (Kd.int .u8) w A0 s.length s) (hc0 : s.length ≤ c0) (hr : Kd.C k35 w A1 l0.length l0) (hc1 : l0.length ≤ c1) (hk : okStk s = true) (hlen : l0.length ≤ 40) (hall : l0.all (okRd s) = true) :
    Calls Tryd.prog 12 #[.slice A0 s.length c0, .slice A1 l0.length c1] w fun e w' => e = .returned (.string (logLines s l0)) ∧ Below w.heap.size w w' := by
  have HALL := Aside0.mk hall
  have HS := Aside0.mk hs
  have HR := Aside0.mk hr
  have HOK := Aside0.mk hk
  have hsn : s.length ≤ 1048576 := by have := okStk_len hk; omega
  clear hall hs hr hk
  go_enter Tryd.func12, Tryd.ntmps12
  go_wp2_with fail
  go_loopw [5, 6] (fun o i wr => ∃ k : Nat, k ≤ l0.length ∧ i = .int .i64 k ∧ o = .string (logLines s (l0.take k)) ∧ Aside0 (Below w.heap.size w wr)) (fun _ i _ => l0.length - (intOf i).toNat)
  case atStart => exact ⟨0, Nat.zero_le _, rfl, rfl, ⟨Below.refl _ _⟩⟩
  case round =>
    obtain ⟨k, hk, rfl, rfl, HB⟩ := hrel
    by_cases hlt : k < l0.length
    · obtain ⟨ad, e, hx0, hx1⟩ := at_T35 HR.out (k : Int) (by omega) (by omega)
      cases e
      rw [Int.toNat_natCast] at hx0 hx1
      have hok : okRd s (rd_T35 l0 k) = true := by
        have := List.all_eq_true.1 HALL.out (l0[k]) (List.getElem_mem hlt)
        simpa [rd_T35, List.getD_eq_getElem?_getD, List.getElem?_eq_getElem hlt] using this
      have hsn2 := Aside0.mk (logLines_snoc s l0 k hlt)
      have hz : (logLines s (l0.take k)).size ≤ 830 * 40 := by
        have := logLines_size HOK.out (l := l0.take k) (List.all_eq_true.2 fun x hx => List.all_eq_true.1 HALL.out x (List.mem_of_mem_take hx))
        rw [List.length_take] at this
        omega
      rw [← rdR] at hsn2
      generalize hT : rd_T35 l0 k = T at hx0 hx1 hok hsn2
      clear hT
      obtain ⟨a, b⟩ := T
      obtain ⟨⟨a0, a1⟩, b0, b1⟩ := okRd_in HOK.out hok
      dsimp only at hx0 hx1 a0 a1 b0 b1
      clear hok
      have da := dec_size a (by omega) (by omega)
      have db := stTxt_sz HOK.out b b0 b1
      have HDG := Aside0.mk (specOf_of HOK.out b b0 b1)
      have HDB := Aside0.mk (dgOf_byte HOK.out b b0 b1)
      have hdt : dgTxt s (dgOf s b) = stTxt s (dgOf s b) := by unfold dgTxt; rw [dgOf_ok HOK.out b b0 b1]; rfl
      have HDT := Aside0.mk hdt
      clear hdt
      have HLN := Aside0.mk (show logLine s ⟨a, b⟩ = dec a ++ (⟨#[32]⟩ : ByteArray) ++ stTxt s (dgOf s b) ++ (⟨#[10]⟩ : ByteArray) from rfl)
      replace hx0 := (HB.out.cell (World.block_lt_of_cell? w _ hx0)).trans hx0
      replace hx1 := (HB.out.cell (World.block_lt_of_cell? w _ hx1)).trans hx1
      generalize dgOf s b = D at HDG HDB HDT HLN db
      have e32 : (⟨#[32]⟩ : ByteArray).size = 1 := rfl
      have e10 : (⟨#[10]⟩ : ByteArray).size = 1 := rfl
      have s1 : (9223372036854775807 < (dec a).size + 1) = False := eq_false (by omega)
      have s2 : (9223372036854775807 < (dec a).size + 1 + (stTxt s D).size) = False := eq_false (by omega)
      have s3 : (9223372036854775807 < (dec a).size + 1 + (stTxt s D).size + 1) = False := eq_false (by omega)
      have s4 : (9223372036854775807 < (logLines s (List.take k l0)).size + ((dec a).size + 1 + (stTxt s D).size + 1)) = False := eq_false (by omega)
      go_wp2_with fail
      refine start_ (n := 21) (S := fun w' => w'.cell? (ad.add (k * 2)) = some (.int .i64 a) ∧ w'.cell? ⟨(ad.add (k * 2)).block, (ad.add (k * 2)).off + 1, none⟩ = some (.int .i64 b)) (ds := []) #[false, false, false, false, false, false, false, false, false, false, false, false, false, false, false, false, false, false, false, false, false] (by kernel_rfl) rfl rfl ⟨hx0, hx1⟩ (fun hHeld => ?_)
      have HBW := Aside0.mk (below_drew1 (Below.refl wr.heap.size wr))
      generalize wr.drew = W1 at HBW hHeld ⊢
      refine pure_ (i := 0) (N := (some 13)) (v := ?_) (a' := ?_) #[true, false, false, false, false, false, false, false, false, false, false, false, false, false, false, false, false, false, false, false, false] rfl rfl (by kernel_rfl) (fun _ _ _ h => h) (Or.inl ⟨by rfl, ?_⟩) ?_ ?_
      rotate_left
      · intro w'
        go_simp
        with_reducible rfl
      rotate_left
      · simp only [Act.put, List.setIfInBounds_toArray, List.set_cons_zero, List.set_cons_succ, i64_w, i32_w]
        rfl
      refine pure_ (i := 1) (N := (some 14)) (v := ?_) (a' := ?_) #[true, true, false, false, false, false, false, false, false, false, false, false, false, false, false, false, false, false, false, false, false] rfl rfl (by kernel_rfl) (fun _ _ _ h => h) (Or.inl ⟨by rfl, ?_⟩) ?_ ?_
      rotate_left
      · intro w'
        go_simp
        with_reducible rfl
      rotate_left
      · simp only [Act.put, List.setIfInBounds_toArray, List.set_cons_zero, List.set_cons_succ, i64_w, i32_w]
        rfl
      refine pure_ (i := 2) (N := (some 15)) (v := ?_) (a' := ?_) #[true, true, true, false, false, false, false, false, false, false, false, false, false, false, false, false, false, false, false, false, false] rfl rfl (by kernel_rfl) (fun _ _ _ h => h) (Or.inl ⟨by rfl, ?_⟩) ?_ ?_
      rotate_left
      · intro w'
        go_simp
        with_reducible rfl
      rotate_left
      · simp only [Act.put, List.setIfInBounds_toArray, List.set_cons_zero, List.set_cons_succ, i64_w, i32_w]
        rfl
      refine pure_ (i := 3) (N := (some 16)) (v := ?_) (a' := ?_) #[true, true, true, true, false, false, false, false, false, false, false, false, false, false, false, false, false, false, false, false, false] rfl rfl (by kernel_rfl) (fun _ _ _ h => h) (Or.inl ⟨by rfl, ?_⟩) ?_ ?_
      rotate_left
      · intro w'
        go_simp
        with_reducible rfl
      rotate_left
      · simp only [Act.put, List.setIfInBounds_toArray, List.set_cons_zero, List.set_cons_succ, i64_w, i32_w]
        rfl
      refine pure_ (i := 4) (N := (some 17)) (v := ?_) (a' := ?_) #[true, true, true, true, true, false, false, false, false, false, false, false, false, false, false, false, false, false, false, false, false] rfl rfl (by kernel_rfl) (fun _ _ _ h => h) (Or.inl ⟨by rfl, ?_⟩) ?_ ?_
      rotate_left
      · intro w'
        go_simp
        with_reducible rfl
      rotate_left
      · simp only [Act.put, List.setIfInBounds_toArray, List.set_cons_zero, List.set_cons_succ, i64_w, i32_w]
        rfl
      refine take_ (i := 5) (N := (some 18)) (v := ?_) (a' := ?_) #[true, true, true, true, true, true, false, false, false, false, false, false, false, false, false, false, false, false, false, false, false] rfl rfl (by kernel_rfl) (fun _ _ _ h => h) (Or.inl ⟨by rfl, ?_⟩) hHeld ?_ ?_
      rotate_left
      · rintro w' ⟨s0, s1⟩
        go_simp
        with_reducible rfl
      rotate_left
      · simp only [Act.put, List.setIfInBounds_toArray, List.set_cons_zero, List.set_cons_succ, i64_w, i32_w]
        rfl
      refine pure_ (i := 8) (N := (some 21)) (v := ?_) (a' := ?_) #[true, true, true, true, true, true, false, false, true, false, false, false, false, false, false, false, false, false, false, false, false] rfl rfl (by kernel_rfl) (fun _ _ _ h => h) (Or.inl ⟨by rfl, ?_⟩) ?_ ?_
      rotate_left
      · intro w'
        go_simp
        with_reducible rfl
      rotate_left
      · simp only [Act.put, List.setIfInBounds_toArray, List.set_cons_zero, List.set_cons_succ, i64_w, i32_w]
        rfl
      refine pure_ (i := 9) (N := (some 22)) (v := ?_) (a' := ?_) #[true, true, true, true, true, true, false, false, true, true, false, false, false, false, false, false, false, false, false, false, false] rfl rfl (by kernel_rfl) (fun _ _ _ h => h) (Or.inl ⟨by rfl, ?_⟩) ?_ ?_
      rotate_left
      · intro w'
        go_simp
        with_reducible rfl
      rotate_left
      · simp only [Act.put, List.setIfInBounds_toArray, List.set_cons_zero, List.set_cons_succ, i64_w, i32_w]
        rfl
      refine pure_ (i := 10) (N := (some 23)) (v := ?_) (a' := ?_) #[true, true, true, true, true, true, false, false, true, true, true, false, false, false, false, false, false, false, false, false, false] rfl rfl (by kernel_rfl) (fun _ _ _ h => h) (Or.inl ⟨by rfl, ?_⟩) ?_ ?_
      rotate_left
      · intro w'
        go_simp
        with_reducible rfl
      rotate_left
      · simp only [Act.put, List.setIfInBounds_toArray, List.set_cons_zero, List.set_cons_succ, i64_w, i32_w]
        rfl
      refine pure_ (i := 11) (N := (some 24)) (v := ?_) (a' := ?_) #[true, true, true, true, true, true, false, false, true, true, true, true, false, false, false, false, false, false, false, false, false] rfl rfl (by kernel_rfl) (fun _ _ _ h => h) (Or.inl ⟨by rfl, ?_⟩) ?_ ?_
      rotate_left
      · intro w'
        go_simp
        with_reducible rfl
      rotate_left
      · simp only [Act.put, List.setIfInBounds_toArray, List.set_cons_zero, List.set_cons_succ, i64_w, i32_w]
        rfl
      refine pure_ (i := 12) (N := (some 25)) (v := ?_) (a' := ?_) #[true, true, true, true, true, true, false, false, true, true, true, true, true, false, false, false, false, false, false, false, false] rfl rfl (by kernel_rfl) (fun _ _ _ h => h) (Or.inl ⟨by rfl, ?_⟩) ?_ ?_
      rotate_left
      · intro w'
        go_simp
        with_reducible rfl
      rotate_left
      · simp only [Act.put, List.setIfInBounds_toArray, List.set_cons_zero, List.set_cons_succ, i64_w, i32_w]
        rfl
      refine pure_ (i := 13) (N := (some 26)) (v := ?_) (a' := ?_) #[true, true, true, true, true, true, false, false, true, true, true, true, true, true, false, false, false, false, false, false, false] rfl rfl (by kernel_rfl) (fun _ _ _ h => h) (Or.inl ⟨by rfl, ?_⟩) ?_ ?_
      rotate_left
      · intro w'
        go_simp
        with_reducible rfl
      rotate_left
      · simp only [Act.put, List.setIfInBounds_toArray, List.set_cons_zero, List.set_cons_succ, i64_w, i32_w]
        rfl
      refine take_ (i := 14) (N := (some 27)) (v := ?_) (a' := ?_) #[true, true, true, true, true, true, false, false, true, true, true, true, true, true, true, false, false, false, false, false, false] rfl rfl (by kernel_rfl) (fun _ _ _ h => h) (Or.inl ⟨by rfl, ?_⟩) hHeld ?_ ?_
      rotate_left
      · rintro w' ⟨s0, s1⟩
        go_simp
        with_reducible rfl
      rotate_left
      · simp only [Act.put, List.setIfInBounds_toArray, List.set_cons_zero, List.set_cons_succ, i64_w, i32_w]
        rfl
      refine one_ (i := 6) (N := (some 19)) #[true, true, true, true, true, true, true, false, true, true, true, true, true, true, true, false, false, false, false, false, false] rfl rfl (by kernel_rfl) (by decide) (fun K hK => ?_)
      refine goes_ Tryd.func23 (by kernel_rfl) rfl #[.int .i64 a] (by rfl) rfl rfl (by (try simp only [List.map_toArray, List.map_cons, List.map_nil]); first | done | rfl) ?_
      with_reducible refine (decimal_any a _ (by omega) (by omega)).mono ?_
      rintro e w2 ⟨rfl, hb⟩
      refine ⟨_, rfl, ?_⟩
      have n0_ := Aside0.mk (below_step HBW.out hb)
      clear hb HBW
      have HBW := n0_
      clear n0_
      refine hK.out _ _ ⟨(HBW.out.cell (World.block_lt_of_cell? _ _ hx0)).trans hx0, (HBW.out.cell (World.block_lt_of_cell? _ _ hx1)).trans hx1⟩ (fun hHeld => ?_)
      clear hK K
      refine norm_ (a' := ?_) ?_ ?_
      rotate_left
      · show Act.put _ (some 19) _ = _
        simp only [Act.put, List.setIfInBounds_toArray, List.set_cons_zero, List.set_cons_succ, i64_w, i32_w]
        rfl
      refine pure_ (i := 7) (N := (some 20)) (v := ?_) (a' := ?_) #[true, true, true, true, true, true, true, true, true, true, true, true, true, true, true, false, false, false, false, false, false] rfl rfl (by kernel_rfl) (fun _ _ _ h => h) (Or.inl ⟨by rfl, ?_⟩) ?_ ?_
      rotate_left
      · intro w'
        go_simp
        with_reducible rfl
      rotate_left
      · simp only [Act.put, List.setIfInBounds_toArray, List.set_cons_zero, List.set_cons_succ, i64_w, i32_w]
        rfl
      refine one_ (i := 15) (N := (some 28)) #[true, true, true, true, true, true, true, true, true, true, true, true, true, true, true, true, false, false, false, false, false] rfl rfl (by kernel_rfl) (by decide) (fun K hK => ?_)
      refine goes_ Tryd.func25 (by kernel_rfl) rfl #[.slice A0 s.length c0, .int .i64 b] (by rfl) rfl rfl (by (try simp only [List.map_toArray, List.map_cons, List.map_nil]); first | done | rfl) ?_
      with_reducible refine (spec_l01Of.calls 20 _ _ s b _ _ _ _ _ _ _ _ _ (Kd.C_below HS.out (below_step HB.out HBW.out)) hc0 HDG.out).mono ?_
      rintro e w3 ⟨rfl, hb⟩
      refine ⟨_, rfl, ?_⟩
      have n0_ := Aside0.mk (below_step HBW.out hb)
      clear hb HBW
      have HBW := n0_
      clear n0_
      refine hK.out _ _ ⟨(HBW.out.cell (World.block_lt_of_cell? _ _ hx0)).trans hx0, (HBW.out.cell (World.block_lt_of_cell? _ _ hx1)).trans hx1⟩ (fun hHeld => ?_)
      clear hK K
      refine norm_ (a' := ?_) ?_ ?_
      rotate_left
      · show Act.put _ (some 28) _ = _
        simp only [Act.put, List.setIfInBounds_toArray, List.set_cons_zero, List.set_cons_succ, i64_w, i32_w]
        rfl
      refine one_ (i := 16) (N := (some 29)) #[true, true, true, true, true, true, true, true, true, true, true, true, true, true, true, true, true, false, false, false, false] rfl rfl (by kernel_rfl) (by decide) (fun K hK => ?_)
      refine goes_ Tryd.func24 (by kernel_rfl) rfl #[.slice A0 s.length c0, .agg #[.int .u8 D.f0, .int .u8 D.f1, .int .u8 D.f2, .int .u8 D.f3, .int .u8 D.f4, .int .u8 D.f5, .int .u8 D.f6, .int .u8 D.f7]] (by rfl) rfl rfl (by (try simp only [List.map_toArray, List.map_cons, List.map_nil]); first | done | rfl) ?_
      with_reducible refine (specDigitsText_at _ _ s D _ (Kd.C_below HS.out (below_step HB.out HBW.out)) hc0 hsn HDB.out).mono ?_
      rw [HDT.out]
      rintro e w4 ⟨rfl, hb⟩
      refine ⟨_, rfl, ?_⟩
      have n0_ := Aside0.mk (below_step HBW.out hb)
      clear hb HBW
      have HBW := n0_
      clear n0_
      refine hK.out _ _ ⟨(HBW.out.cell (World.block_lt_of_cell? _ _ hx0)).trans hx0, (HBW.out.cell (World.block_lt_of_cell? _ _ hx1)).trans hx1⟩ (fun hHeld => ?_)
      clear hK K
      refine norm_ (a' := ?_) ?_ ?_
      rotate_left
      · show Act.put _ (some 29) _ = _
        simp only [Act.put, List.setIfInBounds_toArray, List.set_cons_zero, List.set_cons_succ, i64_w, i32_w]
        rfl
      refine pure_ (i := 17) (N := (some 30)) (v := ?_) (a' := ?_) #[true, true, true, true, true, true, true, true, true, true, true, true, true, true, true, true, true, true, false, false, false] rfl rfl (by kernel_rfl) (fun _ _ _ h => h) (Or.inl ⟨by rfl, ?_⟩) ?_ ?_
      rotate_left
      · intro w'
        go_simp
        with_reducible rfl
      rotate_left
      · simp only [Act.put, List.setIfInBounds_toArray, List.set_cons_zero, List.set_cons_succ, i64_w, i32_w]
        rfl
      refine pure_ (i := 18) (N := (some 31)) (v := ?_) (a' := ?_) #[true, true, true, true, true, true, true, true, true, true, true, true, true, true, true, true, true, true, true, false, false] rfl rfl (by kernel_rfl) (fun _ _ _ h => h) (Or.inl ⟨by rfl, ?_⟩) ?_ ?_
      rotate_left
      · intro w'
        go_simp
        with_reducible rfl
      rotate_left
      · simp only [Act.put, List.setIfInBounds_toArray, List.set_cons_zero, List.set_cons_succ, i64_w, i32_w]
        rfl
      refine pure_ (i := 19) (N := (some 32)) (v := ?_) (a' := ?_) #[true, true, true, true, true, true, true, true, true, true, true, true, true, true, true, true, true, true, true, true, false] rfl rfl (by kernel_rfl) (fun _ _ _ h => h) (Or.inl ⟨by rfl, ?_⟩) ?_ ?_
      rotate_left
      · intro w'
        go_simp
        with_reducible rfl
      rotate_left
      · simp only [Act.put, List.setIfInBounds_toArray, List.set_cons_zero, List.set_cons_succ, i64_w, i32_w]
        rfl
      refine pure_ (i := 20) (N := (some 5)) (v := ?_) (a' := ?_) #[true, true, true, true, true, true, true, true, true, true, true, true, true, true, true, true, true, true, true, true, true] rfl rfl (by kernel_rfl) (fun _ _ _ h => h) (Or.inl ⟨by rfl, ?_⟩) ?_ ?_
      rotate_left
      · intro w'
        go_simp
        with_reducible rfl
      rotate_left
      · simp only [Act.put, List.setIfInBounds_toArray, List.set_cons_zero, List.set_cons_succ, i64_w, i32_w]
        rfl
      refine done_ (by kernel_rfl) ?_
      have HB2 := Aside0.mk (below_step HB.out HBW.out)
      go_wp2_with fail
      first
        | (go_roundw
           case rel => exact ⟨k + 1, by omega, by go_num, by rw [hsn2.out, HLN.out], HB2⟩
           case measure => simp [intOf]; try omega)
        | exact ⟨⟨k + 1, by omega, by go_num, by rw [hsn2.out, HLN.out], HB2⟩, by simp [intOf]; try omega⟩
    · obtain rfl : k = l0.length := by omega
      have ht : Aside0 (logLines s (l0.take l0.length) = logLines s l0) := ⟨by rw [List.take_length]⟩
      go_wp2_with fail
      go_ret
      exact ⟨by rw [ht.out]; rfl, HB.out⟩
set_option maxHeartbeats 1000000 in
theorem specLogText_at (A0 : Option Addr) (c0 : Nat) (s : List Int) (A1 : Option Addr) (c1 : Nat) (l0 : List Rg) (w : World) (hs : Kd.C (Kd.int .u8) w A0 s.length s) (hc0 : s.length ≤ c0) (hr : Kd.C k35 w A1 l0.length l0) (hc1 : l0.length ≤ c1) (hsn : s.length ≤ 1048576) (hn : l0.length ≤ 1048576) :
    Calls Tryd.prog 5 #[.slice A0 s.length c0, .slice A1 l0.length c1] w fun e w' => e = .returned (.string (logText s l0)) ∧ Below w.heap.size w w' := by
  have HS := Aside0.mk hs
  have HR := Aside0.mk hr
  have HV := Aside0.mk (spec_validLog s l0 hsn hn)
  clear hs hr
  unfold logText
  cases hv : validLog s l0 with
  | false =>
    rw [hv] at HV
    clear hv
    go_enter Tryd.func5, Tryd.ntmps5
    go_wp2_with (go_at_call 11; refine (spec_l04Ok.calls 2097300 _ _ s _ _ l0 false _ HS.out hc0 HR.out hc1 HV.out).mono ?_; rintro e w1 ⟨rfl, hb⟩; (have HB := Aside0.mk hb); clear hb)
    go_ret
    exact ⟨rfl, HB.out⟩
  | true =>
    rw [hv] at HV
    obtain ⟨h1, h2, h3⟩ := validLog_all hv
    clear hv
    go_enter Tryd.func5, Tryd.ntmps5
    go_wp2_with (first
      | (go_at_call 11; refine (spec_l04Ok.calls 2097300 _ _ s _ _ l0 true _ HS.out hc0 HR.out hc1 HV.out).mono ?_; rintro e w1 ⟨rfl, hb⟩; (have HB := Aside0.mk hb); clear hb)
      | (go_at_call 12; refine (l04Text_at _ _ s _ _ l0 _ (Kd.C_below HS.out HB.out) hc0 (Kd.C_below HR.out HB.out) hc1 h1 h2 h3).mono ?_; rintro e w2 ⟨rfl, hb⟩; (have HB2 := Aside0.mk (below_step HB.out hb)); clear hb))
    go_ret
    exact ⟨rfl, HB2.out⟩
end Go.Proofs.YteaciggmlmhbgaaDoor.P

/- strings.Builder's copyCheck and WriteString over this seat's program (the shelf's own bodies differ in the refused panic); after the shelf's proofs. -/
set_option linter.unusedVariables false
namespace Go.Proofs.YteaciggmlmhbgaaDoor.Bld
open Go.RowKit

theorem sizeBuilder : (Tryd.prog.info? 40).map (·.size) = some 2 := by kernel_rfl
theorem liesBuilder : liesAt Tryd.prog Tryd.prog.depth 40 (2 / Tryd.prog.cellsOf 40) 0 40 1 = true := by kernel_rfl
theorem infoByte : (Tryd.prog.info? 5).map (fun i => (i.zero, i.size, i.bytes)) = some (some (.int .u8 0), 1, 1) := by kernel_rfl

set_option maxHeartbeats 1000000 in
set_option maxRecDepth 100000 in
theorem copyCheck_used (b : Nat) (w : World) (h0 : w.cell? ⟨b, 0, none⟩ = some (.pointer (some ⟨b, 0, none⟩))) :
    Calls Tryd.prog 28 #[.pointer (some ⟨b, 0, none⟩)] w fun e w' => e = .returned (.tuple #[]) ∧ w' = w := by
  obtain ⟨j, hj, _⟩ := Option.map_eq_some_iff.1 sizeBuilder
  go_enter Tryd.func28, Tryd.ntmps28
  go_wp2
  rw [Lib.run_neq_ptr_same w _ Tryd.underlying38 hj]
  go_wp2
  go_end0
  exact ⟨rfl, rfl⟩

set_option maxHeartbeats 1000000 in
set_option maxRecDepth 100000 in
theorem copyCheck_fresh (b : Nat) (w : World) (h0 : w.cell? ⟨b, 0, none⟩ = some (.pointer none)) (hsh : w.shape? b = some (40, 2)) (hfz : w.frozen? ⟨b, 0, none⟩ = false) :
    Calls Tryd.prog 28 #[.pointer (some ⟨b, 0, none⟩)] w fun e w' => e = .returned (.tuple #[]) ∧ w' = w.setCell ⟨b, 0, none⟩ (.pointer (some ⟨b, 0, none⟩)) := by
  obtain ⟨j, hj, hjs⟩ := Option.map_eq_some_iff.1 sizeBuilder
  go_enter Tryd.func28, Tryd.ntmps28
  go_wp2
  rw [Lib.run_to_unsafe w ⟨b, 0, none⟩ Tryd.underlying38 Tryd.underlying70 hj (by rw [hjs]; decide) hsh (Nat.zero_lt_succ 1)]
  simp only [Result.andThen]
  rw [Oper.upon_value]
  go_wp2
  rw [run_callFunc_extern Tryd.func43 (by kernel_rfl) (by kernel_rfl) (by kernel_rfl) (e := Extern.AbiNoEscape.same) (by kernel_rfl)]
  rw [Lib.run_noEscape]
  simp only [Result.andThen]
  rw [Oper.upon_value]
  go_wp2
  rw [Lib.run_from_unsafe w ⟨b, 0, none⟩ Tryd.underlying70 Tryd.underlying38 hj hsh liesBuilder]
  simp only [Result.andThen]
  rw [Oper.upon_value]
  go_wp2
  go_end0
  exact ⟨rfl, rfl⟩

theorem copyCheck (B b : Nat) (bs : List Value) (w : World) (h : Lib.IsBuilder 40 5 B b bs w) :
    Calls Tryd.prog 28 #[.pointer (some ⟨b, 0, none⟩)] w fun e w' => e = .returned (.tuple #[]) ∧ (Lib.BuilderAt 40 5 B b (.pointer (some ⟨b, 0, none⟩)) bs w' ∧ Below B w w') := by
  rcases h with h | h
  · refine (copyCheck_fresh b w h.cell0 h.shape h.frozen0).mono ?_
    rintro e w' ⟨rfl, rfl⟩
    exact ⟨rfl, h.used _, (Below.refl B w).setCell (p := ⟨b, 0, none⟩) h.1 _⟩
  · refine (copyCheck_used b w h.cell0).mono ?_
    rintro e w' ⟨rfl, rfl⟩
    exact ⟨rfl, h, Below.refl B _⟩

set_option maxHeartbeats 2000000 in
set_option maxRecDepth 100000 in
theorem writeString (B b : Nat) (bs : List Value) (s : ByteArray) (w : World) (h : Lib.IsBuilder 40 5 B b bs w) (hlen : bs.length + s.size ≤ 140737488355328) (hBw : B ≤ w.heap.size) :
    Calls Tryd.prog 15 #[.pointer (some ⟨b, 0, none⟩), .string s] w fun e w' => e = .returned (.tuple #[.int .i64 s.size, .nilIface]) ∧ (Lib.BuilderAt 40 5 B b (.pointer (some ⟨b, 0, none⟩)) (bs ++ Lib.strCells s) w' ∧ Below B w w') := by
  obtain ⟨i0, hi, hz0, hz1, hz2⟩ := info_parts infoByte
  go_enter Tryd.func15, Tryd.ntmps15
  go_wp2_with (go_at_call 28; refine (copyCheck B b bs _ h).mono ?_)
  rintro e w1 ⟨rfl, h1, hb1⟩
  obtain ⟨hB, v, hbk, hown, hne⟩ := h1
  have c0 : w1.cell? ⟨b, 0, none⟩ = some (.pointer (some ⟨b, 0, none⟩)) := by rw [Lib.cell_of_heap hbk]; rfl
  have c1 : w1.cell? ⟨b, 1, none⟩ = some v := by rw [Lib.cell_of_heap hbk]; rfl
  go_wp2_with (at_builtin; refine Lib.wpList_append_own_string _ rfl _ _ 22 9 rfl B 5 i0 Tryd.underlying22 Tryd.underlying9 hi hz0 hz1 hz2 _ _ _ rfl hown s rfl ?c3 ?c4 ?c5 ?_)
  case c3 => unfold maxLen; omega
  case c4 => omega
  case c5 => have := hb1.size; omega
  intro v' w2 hown' hgrow _
  have hlt : b < w1.heap.size := by
    rcases Nat.lt_or_ge b w1.heap.size with h' | h'
    · exact h'
    · simp [Array.getElem?_eq_none h'] at hbk
  have hb2 : w2.heap[b]? = some (.cells #[.pointer (some ⟨b, 0, none⟩), v] 40 (0, 0)) := by
    rw [hgrow.block b hlt (fun e => hne e.symm)]
    exact hbk
  have d0 : w2.cell? ⟨b, 0, none⟩ = some (.pointer (some ⟨b, 0, none⟩)) := by rw [Lib.cell_of_heap hb2]; rfl
  have d1 : w2.cell? ⟨b, 1, none⟩ = some v := by rw [Lib.cell_of_heap hb2]; rfl
  have f1 : w2.frozen? ⟨b, 1, none⟩ = false := Lib.frozen_of_heap hb2 1
  obtain ⟨ao, n', cap, rfl⟩ : ∃ ao n' cap, v' = .slice ao n' cap := by
    rcases hown'.2 with ⟨hv, _⟩ | ⟨g, cap, cur, hv, _⟩
    · exact ⟨_, _, _, hv⟩
    · exact ⟨_, _, _, hv⟩
  go_wp2
  go_ret2
  refine ⟨rfl, ?_, ?_⟩
  · exact Lib.BuilderAt.put (T := 40) (e := 5) hB hb2 (bs' := bs ++ Lib.strCells s) (by simpa [Lib.strCells_length] using hown') (by decide)
  · exact (hb1.grown hgrow (by have := hb1.size; omega) (fun k hk => (hown.lt k hk).1)).setCell (p := ⟨b, 1, none⟩) hB _
end Go.Proofs.YteaciggmlmhbgaaDoor.Bld

/- More on builders: they stay under later calls; bytes of strings. -/
namespace Go.Proofs.YteaciggmlmhbgaaDoor.P
open Go.RowKit Go.Proofs.YteaciggmlmhbgaaDoorW.PrintWords Go.Proofs.YteaciggmlmhbgaaDoorW.PrintLast Go.Proofs.YteaciggmlmhbgaaDoorW.PrintMore
set_option linter.unusedVariables false

theorem builder_below {T e : TypeId} {B b : Nat} {bs : List Value} {w w' : World} (h : Lib.IsBuilder T e B b bs w) (hb : Below w.heap.size w w') : Lib.IsBuilder T e B b bs w' := by
  have one : ∀ p, Lib.BuilderAt T e B b p bs w → Lib.BuilderAt T e B b p bs w' := by
    rintro p ⟨hB, v, hbk, hown, hne⟩
    have hlt : b < w.heap.size := Lib.BuilderAt.lt ⟨hB, v, hbk, hown, hne⟩
    exact ⟨hB, v, (hb.block b hlt).trans hbk, own_move hown (fun k hk => hb.block k (own_lt hown k hk)), hne⟩
  exact h.imp (one _) (one _)
theorem builder_weaken {T e : TypeId} {B B' b : Nat} {bs : List Value} {w : World} (h : Lib.IsBuilder T e B b bs w) (hB : B' ≤ B) : Lib.IsBuilder T e B' b bs w := by
  have one : ∀ p, Lib.BuilderAt T e B b p bs w → Lib.BuilderAt T e B' b p bs w := by
    rintro p ⟨hB1, v, hbk, hown, hne⟩
    exact ⟨Nat.le_trans hB hB1, v, hbk, own_weaken hown hB, hne⟩
  exact h.imp (one _) (one _)
theorem byteCells_str (l : List UInt8) (s : ByteArray) : Lib.byteCells l ++ Lib.strCells s = Lib.byteCells (l ++ s.data.toList) := by simp [Lib.byteCells, Lib.strCells]
theorem ba_list_append (a b : ByteArray) : (a ++ b).data.toList = a.data.toList ++ b.data.toList := by simp

end Go.Proofs.YteaciggmlmhbgaaDoor.P

/- impl's LogText returns the lines of a valid log, and the empty string for others. -/
namespace Go.Proofs.YteaciggmlmhbgaaDoor.P
open Go.RowKit Go.Proofs.YteaciggmlmhbgaaDoorW.PrintWords Go.Proofs.YteaciggmlmhbgaaDoorW.PrintLast Go.Proofs.YteaciggmlmhbgaaDoorW.PrintMore
set_option linter.unusedVariables false
set_option linter.unusedSimpArgs false
set_option maxHeartbeats 2000000 in
set_option maxRecDepth 100000 in
theorem implLogText_at (A0 : Option Addr) (c0 : Nat) (s : List Int) (A1 : Option Addr) (c1 : Nat) (l0 : List Rg) (w : World) (hT : Tab w) (hs : Kd.C (Kd.int .u8) w A0 s.length s) (hc0 : s.length ≤ c0) (hr : Kd.C k35 w A1 l0.length l0) (hc1 : l0.length ≤ c1) (hsn : s.length ≤ 1048576) (hn : l0.length ≤ 1048576) :
    Calls Tryd.prog 8 #[.slice A0 s.length c0, .slice A1 l0.length c1] w fun e w' => e = .returned (.string (logText s l0)) ∧ Below w.heap.size w w' := by
  have HT := Aside0.mk hT
  have HS := Aside0.mk hs
  have HR := Aside0.mk hr
  have HV := Aside0.mk (impl_validLog s l0 hsn hn)
  clear hT hs hr
  unfold logText
  cases hv : validLog s l0 with
  | false =>
    rw [hv] at HV
    clear hv
    go_enter Tryd.func8, Tryd.ntmps8
    go_wp2_with (go_at_call 14; refine (impl_ValidLog.calls 3000 _ _ s _ _ l0 false _ HS.out hc0 HR.out hc1 HV.out).mono ?_; rintro e w1 ⟨rfl, hb⟩; (have HB := Aside0.mk hb); clear hb)
    go_ret
    exact ⟨rfl, HB.out⟩
  | true =>
    rw [hv] at HV
    obtain ⟨h1, hlen, h3⟩ := validLog_all hv
    have HOK := Aside0.mk h1
    have HALL := Aside0.mk h3
    have HL := Aside0.mk (okStk_len h1)
    clear hv h1 h3
    go_enter Tryd.func8, Tryd.ntmps8
    go_wp2_with (go_at_call 14; refine (impl_ValidLog.calls 3000 _ _ s _ _ l0 true _ HS.out hc0 HR.out hc1 HV.out).mono ?_; rintro e w1 ⟨rfl, hb⟩; (have HB := Aside0.mk hb); clear hb)
    have HBLD := Aside0.mk (show Lib.IsBuilder 40 5 w.heap.size w1.heap.size (Lib.byteCells (logLines s (l0.take 0)).data.toList) (w1.alloc (Obj.cells #[Value.pointer none, Value.slice none 0 0] 40)) from
      builder_weaken (Lib.fresh_isBuilder 40 5 w1) HB.out.size)
    have HB1 := Aside0.mk (below_alloc HB.out (Obj.cells #[Value.pointer none, Value.slice none 0 0] 40))
    go_loopw [15] (fun i wr => ∃ k : Nat, k ≤ l0.length ∧ i = .int .i64 k ∧ Aside0 (Lib.IsBuilder 40 5 w.heap.size w1.heap.size (Lib.byteCells (logLines s (l0.take k)).data.toList) wr) ∧ Aside0 (Below w.heap.size w wr)) (fun i _ => l0.length - (intOf i).toNat)
    case atStart => exact ⟨0, Nat.zero_le _, rfl, HBLD, HB1⟩
    case round =>
      clear HB HBLD HB1
      obtain ⟨k, hk, rfl, HBLD, HB⟩ := hrel
      by_cases hlt : k < l0.length
      · obtain ⟨ad, e, hx0, hx1⟩ := at_T35 HR.out (k : Int) (by omega) (by omega)
        cases e
        rw [Int.toNat_natCast] at hx0 hx1
        have hok : okRd s (rd_T35 l0 k) = true := by
          have := List.all_eq_true.1 HALL.out (l0[k]) (List.getElem_mem hlt)
          simpa [rd_T35, List.getD_eq_getElem?_getD, List.getElem?_eq_getElem hlt] using this
        have hsn2 := Aside0.mk (logLines_snoc s l0 k hlt)
        have hz : (logLines s (l0.take k)).size ≤ 830 * 40 := by
          have := logLines_size HOK.out (l := l0.take k) (List.all_eq_true.2 fun x hx => List.all_eq_true.1 HALL.out x (List.mem_of_mem_take hx))
          rw [List.length_take] at this
          omega
        rw [← rdR] at hsn2
        generalize hTT : rd_T35 l0 k = T at hx0 hx1 hok hsn2
        clear hTT
        obtain ⟨a, b⟩ := T
        obtain ⟨⟨a0, a1⟩, b0, b1⟩ := okRd_in HOK.out hok
        dsimp only at hx0 hx1 a0 a1 b0 b1
        clear hok
        have da := dec_size a (by omega) (by omega)
        have db := stTxt_sz HOK.out b b0 b1
        have HDG := Aside0.mk (digits_of HOK.out b b0 b1)
        have HDB := Aside0.mk (dgOf_byte HOK.out b b0 b1)
        have HLN := Aside0.mk (show logLine s ⟨a, b⟩ = dec a ++ (⟨#[32]⟩ : ByteArray) ++ stTxt s (dgOf s b) ++ (⟨#[10]⟩ : ByteArray) from rfl)
        replace hx0 := (HB.out.cell (World.block_lt_of_cell? w _ hx0)).trans hx0
        replace hx1 := (HB.out.cell (World.block_lt_of_cell? w _ hx1)).trans hx1
        generalize dgOf s b = D at HDG HDB HLN db
        have e32 : (⟨#[32]⟩ : ByteArray).size = 1 := rfl
        have e10 : (⟨#[10]⟩ : ByteArray).size = 1 := rfl
        have s1 : (9223372036854775807 < (dec a).size + 1) = False := eq_false (by omega)
        have s2 : (9223372036854775807 < (dec a).size + 1 + (stTxt s D).size) = False := eq_false (by omega)
        have s3 : (9223372036854775807 < (dec a).size + 1 + (stTxt s D).size + 1) = False := eq_false (by omega)
        have HK := Aside0.mk (heap_alloc_new wr (.cells #[.int .i64 a, .int .i64 b] 35))
        have HBb := Aside0.mk (below_alloc HB.out (.cells #[.int .i64 a, .int .i64 b] 35))
        have HBLb := Aside0.mk (builder_below HBLD.out (below_alloc (Below.refl wr.heap.size wr) (.cells #[.int .i64 a, .int .i64 b] 35)))
        go_wp2_with fail
        clear HB HBLD
        generalize wr.alloc (.cells #[.int .i64 a, .int .i64 b] 35) = Wb at HK HBb HBLb ⊢
        have hy0 : Wb.cell? ⟨wr.heap.size, 0, none⟩ = some (.int .i64 a) := (blk_cell HK.out 0).trans rfl
        have hy1 : Wb.cell? ⟨wr.heap.size, 1, none⟩ = some (.int .i64 b) := (blk_cell HK.out 1).trans rfl
        refine start_ (n := 13) (S := fun w' => w'.cell? ⟨wr.heap.size, 0, none⟩ = some (.int .i64 a) ∧ w'.cell? ⟨wr.heap.size, 1, none⟩ = some (.int .i64 b)) (ds := [12]) #[false, false, false, false, false, false, false, false, false, false, false, false, false] (by kernel_rfl) rfl rfl ⟨hy0, hy1⟩ (fun hHeld => ?_)
        have HBW := Aside0.mk (below_drew1 (Below.refl Wb.heap.size Wb))
        generalize Wb.drew = W1 at HBW hHeld ⊢
        refine pure_ (i := 0) (N := (some 19)) (v := ?_) (a' := ?_) #[true, false, false, false, false, false, false, false, false, false, false, false, false] rfl rfl (by kernel_rfl) (fun _ _ _ h => h) (Or.inl ⟨by rfl, ?_⟩) ?_ ?_
        rotate_left
        · intro w'
          go_simp
          with_reducible rfl
        rotate_left
        · simp only [Act.put, List.setIfInBounds_toArray, List.set_cons_zero, List.set_cons_succ, i64_w, i32_w]
          rfl
        refine take_ (i := 1) (N := (some 20)) (v := ?_) (a' := ?_) #[true, true, false, false, false, false, false, false, false, false, false, false, false] rfl rfl (by kernel_rfl) (fun _ _ _ h => h) (Or.inl ⟨by rfl, ?_⟩) hHeld ?_ ?_
        rotate_left
        · rintro w' ⟨s0, s1⟩
          go_simp
          with_reducible rfl
        rotate_left
        · simp only [Act.put, List.setIfInBounds_toArray, List.set_cons_zero, List.set_cons_succ, i64_w, i32_w]
          rfl
        refine pure_ (i := 4) (N := (some 23)) (v := ?_) (a' := ?_) #[true, true, false, false, true, false, false, false, false, false, false, false, false] rfl rfl (by kernel_rfl) (fun _ _ _ h => h) (Or.inl ⟨by rfl, ?_⟩) ?_ ?_
        rotate_left
        · intro w'
          go_simp
          with_reducible rfl
        rotate_left
        · simp only [Act.put, List.setIfInBounds_toArray, List.set_cons_zero, List.set_cons_succ, i64_w, i32_w]
          rfl
        refine pure_ (i := 5) (N := (some 24)) (v := ?_) (a' := ?_) #[true, true, false, false, true, true, false, false, false, false, false, false, false] rfl rfl (by kernel_rfl) (fun _ _ _ h => h) (Or.inl ⟨by rfl, ?_⟩) ?_ ?_
        rotate_left
        · intro w'
          go_simp
          with_reducible rfl
        rotate_left
        · simp only [Act.put, List.setIfInBounds_toArray, List.set_cons_zero, List.set_cons_succ, i64_w, i32_w]
          rfl
        refine pure_ (i := 6) (N := (some 25)) (v := ?_) (a' := ?_) #[true, true, false, false, true, true, true, false, false, false, false, false, false] rfl rfl (by kernel_rfl) (fun _ _ _ h => h) (Or.inl ⟨by rfl, ?_⟩) ?_ ?_
        rotate_left
        · intro w'
          go_simp
          with_reducible rfl
        rotate_left
        · simp only [Act.put, List.setIfInBounds_toArray, List.set_cons_zero, List.set_cons_succ, i64_w, i32_w]
          rfl
        refine take_ (i := 7) (N := (some 26)) (v := ?_) (a' := ?_) #[true, true, false, false, true, true, true, true, false, false, false, false, false] rfl rfl (by kernel_rfl) (fun _ _ _ h => h) (Or.inl ⟨by rfl, ?_⟩) hHeld ?_ ?_
        rotate_left
        · rintro w' ⟨s0, s1⟩
          go_simp
          with_reducible rfl
        rotate_left
        · simp only [Act.put, List.setIfInBounds_toArray, List.set_cons_zero, List.set_cons_succ, i64_w, i32_w]
          rfl
        refine one_ (i := 2) (N := (some 21)) #[true, true, true, false, true, true, true, true, false, false, false, false, false] rfl rfl (by kernel_rfl) (by decide) (fun K hK => ?_)
        refine goes_ Tryd.func16 (by kernel_rfl) rfl #[.int .i64 a] (by rfl) rfl rfl (by (try simp only [List.map_toArray, List.map_cons, List.map_nil]); first | done | rfl) ?_
        with_reducible refine (decimalGo a _ (HT.out.below (below_step HBb.out HBW.out)) (by omega) (by omega)).mono ?_
        rintro e w2 ⟨rfl, hb⟩
        refine ⟨_, rfl, ?_⟩
        have n0_ := Aside0.mk (below_step HBW.out hb)
        clear hb HBW
        have HBW := n0_
        clear n0_
        refine hK.out _ _ ⟨(HBW.out.cell (World.block_lt_of_cell? _ _ hy0)).trans hy0, (HBW.out.cell (World.block_lt_of_cell? _ _ hy1)).trans hy1⟩ (fun hHeld => ?_)
        clear hK K
        refine norm_ (a' := ?_) ?_ ?_
        rotate_left
        · show Act.put _ (some 21) _ = _
          simp only [Act.put, List.setIfInBounds_toArray, List.set_cons_zero, List.set_cons_succ, i64_w, i32_w]
          rfl
        refine pure_ (i := 3) (N := (some 22)) (v := ?_) (a' := ?_) #[true, true, true, true, true, true, true, true, false, false, false, false, false] rfl rfl (by kernel_rfl) (fun _ _ _ h => h) (Or.inl ⟨by rfl, ?_⟩) ?_ ?_
        rotate_left
        · intro w'
          go_simp
          with_reducible rfl
        rotate_left
        · simp only [Act.put, List.setIfInBounds_toArray, List.set_cons_zero, List.set_cons_succ, i64_w, i32_w]
          rfl
        refine one_ (i := 8) (N := (some 27)) #[true, true, true, true, true, true, true, true, true, false, false, false, false] rfl rfl (by kernel_rfl) (by decide) (fun K hK => ?_)
        refine goes_ Tryd.func18 (by kernel_rfl) rfl #[.slice A0 s.length c0, .int .i64 b] (by rfl) rfl rfl (by (try simp only [List.map_toArray, List.map_cons, List.map_nil]); first | done | rfl) ?_
        with_reducible refine (impl_Stack_digits.calls 20 _ _ s b _ _ _ _ _ _ _ _ _ (Kd.C_below HS.out (below_step HBb.out HBW.out)) hc0 HDG.out).mono ?_
        rintro e w3 ⟨rfl, hb⟩
        refine ⟨_, rfl, ?_⟩
        have n0_ := Aside0.mk (below_step HBW.out hb)
        clear hb HBW
        have HBW := n0_
        clear n0_
        refine hK.out _ _ ⟨(HBW.out.cell (World.block_lt_of_cell? _ _ hy0)).trans hy0, (HBW.out.cell (World.block_lt_of_cell? _ _ hy1)).trans hy1⟩ (fun hHeld => ?_)
        clear hK K
        refine norm_ (a' := ?_) ?_ ?_
        rotate_left
        · show Act.put _ (some 27) _ = _
          simp only [Act.put, List.setIfInBounds_toArray, List.set_cons_zero, List.set_cons_succ, i64_w, i32_w]
          rfl
        refine one_ (i := 9) (N := (some 28)) #[true, true, true, true, true, true, true, true, true, true, false, false, false] rfl rfl (by kernel_rfl) (by decide) (fun K hK => ?_)
        refine goes_ Tryd.func17 (by kernel_rfl) rfl #[.slice A0 s.length c0, .agg #[.int .u8 D.f0, .int .u8 D.f1, .int .u8 D.f2, .int .u8 D.f3, .int .u8 D.f4, .int .u8 D.f5, .int .u8 D.f6, .int .u8 D.f7]] (by rfl) rfl rfl (by (try simp only [List.map_toArray, List.map_cons, List.map_nil]); first | done | rfl) ?_
        with_reducible refine (stackText_at A0 c0 s D _ (HT.out.below (below_step HBb.out HBW.out)) (Kd.C_below HS.out (below_step HBb.out HBW.out)) HL.out.2 HL.out.1 (okStk_base HOK.out) (fun i hi => HDB.out i (by have := HL.out; omega))).mono ?_
        rintro e w4 ⟨rfl, hb⟩
        refine ⟨_, rfl, ?_⟩
        have n0_ := Aside0.mk (below_step HBW.out hb)
        clear hb HBW
        have HBW := n0_
        clear n0_
        refine hK.out _ _ ⟨(HBW.out.cell (World.block_lt_of_cell? _ _ hy0)).trans hy0, (HBW.out.cell (World.block_lt_of_cell? _ _ hy1)).trans hy1⟩ (fun hHeld => ?_)
        clear hK K
        refine norm_ (a' := ?_) ?_ ?_
        rotate_left
        · show Act.put _ (some 28) _ = _
          simp only [Act.put, List.setIfInBounds_toArray, List.set_cons_zero, List.set_cons_succ, i64_w, i32_w]
          rfl
        refine pure_ (i := 10) (N := (some 29)) (v := ?_) (a' := ?_) #[true, true, true, true, true, true, true, true, true, true, true, false, false] rfl rfl (by kernel_rfl) (fun _ _ _ h => h) (Or.inl ⟨by rfl, ?_⟩) ?_ ?_
        rotate_left
        · intro w'
          go_simp
          with_reducible rfl
        rotate_left
        · simp only [Act.put, List.setIfInBounds_toArray, List.set_cons_zero, List.set_cons_succ, i64_w, i32_w]
          rfl
        refine pure_ (i := 11) (N := (some 30)) (v := ?_) (a' := ?_) #[true, true, true, true, true, true, true, true, true, true, true, true, false] rfl rfl (by kernel_rfl) (fun _ _ _ h => h) (Or.inl ⟨by rfl, ?_⟩) ?_ ?_
        rotate_left
        · intro w'
          go_simp
          with_reducible rfl
        rotate_left
        · simp only [Act.put, List.setIfInBounds_toArray, List.set_cons_zero, List.set_cons_succ, i64_w, i32_w]
          rfl
        refine last_ (i := 12) (N := (some 31)) #[true, true, true, true, true, true, true, true, true, true, true, true, true] rfl rfl (by kernel_rfl) (by decide) (fun K hK => ?_)
        refine goes_ Tryd.func15 (by kernel_rfl) rfl #[.pointer (some ⟨w1.heap.size, 0, none⟩), .string (dec a ++ (⟨#[32]⟩ : ByteArray) ++ stTxt s D ++ (⟨#[10]⟩ : ByteArray))] (by rfl) rfl rfl (by (try simp only [List.map_toArray, List.map_cons, List.map_nil]); first | done | rfl) ?_
        with_reducible refine (Bld.writeString w.heap.size _ _ _ _ (builder_below HBLb.out HBW.out) ?_ (Nat.le_trans HBb.out.size HBW.out.size)).mono ?_
        · simp only [Lib.byteCells_length, ByteArray.size_append, Array.length_toList]
          have q3 : (logLines s (l0.take k)).data.size = (logLines s (l0.take k)).size := rfl
          omega
        rintro e w5 ⟨rfl, hbld, hb⟩
        refine ⟨_, rfl, ?_⟩
        have HG := Aside0.mk ((below_step HBb.out HBW.out).trans hb)
        have HN : Aside0 (Lib.IsBuilder 40 5 w.heap.size w1.heap.size (Lib.byteCells (logLines s (l0.take (k + 1))).data.toList) w5) :=
          ⟨.inr (by rw [hsn2.out, HLN.out, ba_list_append, ← byteCells_str]; exact hbld)⟩
        clear hbld hb HBLb
        refine hK.out _ _ ?_
        clear hK K
        refine norm_ (a' := ?_) ?_ ?_
        rotate_left
        · show Act.put _ (some 31) _ = _
          simp only [Act.put, List.setIfInBounds_toArray, List.set_cons_zero, List.set_cons_succ, i64_w, i32_w]
          rfl
        refine done_ (by kernel_rfl) ?_
        go_wp2_with fail
        first
          | (go_roundw
             case rel => exact ⟨k + 1, by omega, by go_num, HN, HG⟩
             case measure => simp [intOf]; try omega)
          | exact ⟨⟨k + 1, by omega, by go_num, HN, HG⟩, by simp [intOf]; try omega⟩
      · obtain rfl : k = l0.length := by omega
        have HB3 : Aside0 (Lib.IsBuilder 40 5 w.heap.size w1.heap.size (Lib.byteCells (logLines s l0).data.toList) wr) := ⟨by have := HBLD.out; rwa [List.take_length] at this⟩
        go_wp2_with (go_at_call 19; refine (Tryd.Builder_String_any w.heap.size w1.heap.size _ _ HB3.out HB.out.size).mono ?_; rintro e w2 ⟨rfl, hb⟩; (have HG := Aside0.mk (HB.out.trans hb)); clear hb)
        go_ret
        exact ⟨by simp, HG.out⟩
end Go.Proofs.YteaciggmlmhbgaaDoor.P

/- The law FnExactLogText, walked over the contracts of what it calls. -/
namespace Go.Proofs.YteaciggmlmhbgaaDoor.P
open Go.RowKit Go.Proofs.YteaciggmlmhbgaaDoorW.PrintWords Go.Proofs.YteaciggmlmhbgaaDoorW.PrintLast Go.Proofs.YteaciggmlmhbgaaDoorW.PrintMore
set_option linter.unusedVariables false
set_option linter.unusedSimpArgs false
set_option maxHeartbeats 2000000 in
set_option maxRecDepth 100000 in
theorem lawLogText (A0 : Option Addr) (c0 : Nat) (s : List Int) (A9 : Option Addr) (c9 : Nat) (l0 : List S37) (w : World) (hT : Tab w) (hr0 : Kd.C (Kd.int .u8) w A0 s.length s) (hc0 : s.length ≤ c0) (hm0 : s.length ≤ maxLen) (hr9 : Kd.C k37 w A9 l0.length l0) (hc9 : l0.length ≤ c9) (hm9 : l0.length ≤ maxLen) :
    Calls Tryd.prog 3 #[.slice A0 s.length c0, .slice A9 l0.length c9] w fun e w' => e = .returned (.bool true) ∧ Below w.heap.size w w' := by
  unfold maxLen at hm0 hm9
  have HT := Aside0.mk hT
  have HR := Aside0.mk hr0
  have HL := Aside0.mk hr9
  clear hT hr0 hr9
  by_cases hbig : 1048576 < s.length
  · have hg : decide ((1048576 : Int) < (s.length : Int)) = true := decide_eq_true (by omega)
    clear hbig
    go_enter Tryd.func3, Tryd.ntmps3
    go_wp2_with fail
    go_ret
    exact ⟨rfl, Below.refl _ _⟩
  · have hn : s.length ≤ 1048576 := by omega
    have hg : decide ((1048576 : Int) < (s.length : Int)) = false := decide_eq_false (by omega)
    clear hbig
    by_cases hbig : 1048576 < l0.length
    · have hsz : laws_szReadingS.f l0 1048576 = some (-1) := by
        unfold laws_szReadingS.f
        rw [if_pos (by unfold wrap64; omega)]
      have HS := Aside0.mk hsz
      clear hsz
      go_enter Tryd.func3, Tryd.ntmps3
      go_wp2_with (go_at_call 4; refine (laws_szReadingS.calls _ _ _ _ _ _ HL.out hc9 HS.out).mono ?_; rintro e w1 ⟨rfl, hd⟩; (have HB := Aside0.mk hd.below); clear hd)
      go_ret
      exact ⟨rfl, HB.out⟩
    · have hn9 : l0.length ≤ 1048576 := by omega
      have hsz : laws_szReadingS.f l0 1048576 = some (1048576 - (l0.length : Int)) := by
        unfold laws_szReadingS.f
        rw [if_neg (by unfold wrap64; omega)]
        congr 1; unfold wrap64; omega
      have HS := Aside0.mk hsz
      have hnn : (0 : Int) ≤ 1048576 - (l0.length : Int) := by omega
      have HTS := Aside0.mk (to_stack s hn)
      have HES := Aside0.mk (eq_stack s hn)
      have HN := Aside0.mk hn
      have h1 := to_log l0 hn9
      have hlm : (l0.map convR).length ≤ 1048576 := by simpa using hn9
      generalize l0.map convR = M at h1 hlm
      have H1 := Aside0.mk h1
      have H3 := Aside0.mk (eq_log M hlm)
      have HM := Aside0.mk hlm
      clear h1 hsz hlm hn
      go_enter Tryd.func3, Tryd.ntmps3
      go_wp2_with (go_at_call 4; refine (laws_szReadingS.calls _ _ _ _ _ _ HL.out hc9 HS.out).mono ?_; rintro e w1 ⟨rfl, hd⟩; (have HB := Aside0.mk hd.below); clear hd)
      refine (laws_toStack.calls 1048577 _ _ s s _ (Kd.C_below HR.out HB.out) hc0 HTS.out).mono ?_
      rintro e w2 ⟨v0, rfl, ho, hb⟩
      have HB2 := Aside0.mk (below_step HB.out hb)
      obtain ⟨A1, c1, hv, hl1, hC1⟩ := Kd.R_reads ho
      subst hv
      have HC1 := Aside0.mk hC1
      clear hb ho hC1 HB
      go_wp2_with fail
      refine (laws_toReadingS.calls 1048577 _ _ l0 M _ (Kd.C_below HL.out HB2.out) hc9 H1.out).mono ?_
      rintro e w3 ⟨v0, rfl, ho, hb⟩
      have HB3 := Aside0.mk (below_step HB2.out hb)
      have HC2 := Aside0.mk (Kd.C_below HC1.out hb)
      obtain ⟨A2, c2, hv, hl2, hC2⟩ := Kd.R_reads ho
      subst hv
      have HD1 := Aside0.mk hC2
      clear hb ho hC2 HB2 HC1
      go_wp2_with fail
      refine (specLogText_at _ _ s _ _ M _ HC2.out hl1 HD1.out hl2 HN.out HM.out).mono ?_
      rintro e w4 ⟨rfl, hb⟩
      have HB4 := Aside0.mk (below_step HB3.out hb)
      clear hb HB3 HC2 HD1 hl1 hl2
      go_wp2_with fail
      refine (laws_toStack.calls 1048577 _ _ s s _ (Kd.C_below HR.out HB4.out) hc0 HTS.out).mono ?_
      rintro e w5 ⟨v0, rfl, ho, hb⟩
      have HB5 := Aside0.mk (below_step HB4.out hb)
      obtain ⟨A3, c3, hv, hl3, hC1⟩ := Kd.R_reads ho
      subst hv
      have HC5 := Aside0.mk hC1
      clear hb ho hC1 HB4
      go_wp2_with fail
      refine (laws_toReadingS.calls 1048577 _ _ l0 M _ (Kd.C_below HL.out HB5.out) hc9 H1.out).mono ?_
      rintro e w6 ⟨v0, rfl, ho, hb⟩
      have HB6 := Aside0.mk (below_step HB5.out hb)
      have HC6 := Aside0.mk (Kd.C_below HC5.out hb)
      obtain ⟨A4, c4, hv, hl4, hC2⟩ := Kd.R_reads ho
      subst hv
      have HD6 := Aside0.mk hC2
      clear hb ho hC2 HB5 HC5
      go_wp2_with fail
      refine (implLogText_at _ _ s _ _ M _ (HT.out.below HB6.out) HC6.out hl3 HD6.out hl4 HN.out HM.out).mono ?_
      rintro e w7 ⟨rfl, hb⟩
      have HB7 := Aside0.mk (below_step HB6.out hb)
      have HC7 := Aside0.mk (Kd.C_below HC6.out hb)
      have HD7 := Aside0.mk (Kd.C_below HD6.out hb)
      clear hb HB6 HC6 HD6
      generalize logText s M = txt
      go_wp2_with fail
      refine (laws_toStack.calls 1048577 _ _ s s _ (Kd.C_below HR.out HB7.out) hc0 HTS.out).mono ?_
      rintro e w8 ⟨v0, rfl, ho, hb⟩
      have HB8 := Aside0.mk (below_step HB7.out hb)
      have HC8 := Aside0.mk (Kd.C_below HC7.out hb)
      have HD8 := Aside0.mk (Kd.C_below HD7.out hb)
      obtain ⟨A5, c5, hv, hl5, hC1⟩ := Kd.R_reads ho
      subst hv
      have HE8 := Aside0.mk hC1
      clear hb ho hC1 HB7 HC7 HD7
      go_wp2_with fail
      refine (laws_eqStack.calls 1048577 _ _ s _ _ s true _ HC8.out hl3 HE8.out hl5 HES.out).mono ?_
      rintro e w9 ⟨rfl, hb⟩
      have HB9 := Aside0.mk (below_step HB8.out hb.below)
      have HD9 := Aside0.mk (Kd.C_below HD8.out hb.below)
      clear hb HB8 HC8 HD8 HE8
      go_wp2_with fail
      refine (laws_toReadingS.calls 1048577 _ _ l0 M _ (Kd.C_below HL.out HB9.out) hc9 H1.out).mono ?_
      rintro e w10 ⟨v0, rfl, ho, hb⟩
      have HB10 := Aside0.mk (below_step HB9.out hb)
      have HD10 := Aside0.mk (Kd.C_below HD9.out hb)
      obtain ⟨A6, c6, hv, hl6, hC1⟩ := Kd.R_reads ho
      subst hv
      have HE10 := Aside0.mk hC1
      clear hb ho hC1 HB9 HD9
      go_wp2_with fail
      refine (laws_eqReadingS.calls 1048577 _ _ M _ _ M true _ HD10.out hl4 HE10.out hl6 H3.out).mono ?_
      rintro e w11 ⟨rfl, hb⟩
      have HB11 := Aside0.mk (below_step HB10.out hb)
      clear hb HB10
      go_wp2_with fail
      go_ret
      exact ⟨rfl, HB11.out⟩
end Go.Proofs.YteaciggmlmhbgaaDoor.P

/- FnExactLogText: for every stack and log the program's LogText returns what the reference's returns; no condition. -/
namespace Go.Proofs.YteaciggmlmhbgaaDoor.P
open Go.ChangeShapes Go.WideShapes Go.ChangeAt Go.RowKit Go.Proofs.YteaciggmlmhbgaaDoorW.PrintWords
set_option linter.unusedVariables false

theorem ownLog : ownKnob Tryd.prog.godebug = none := by kernel_rfl
theorem laidOutLog : laidOutB Tryd.prog = true := by kernel_rfl
set_option maxRecDepth 100000 in
theorem lLog_contract (H : Type) (enc : TypeId × Value → H) (W : World) (base : Nat) (args : Array Value) (ds gs : List (DataW H)) (before : List MemPlace)
    (hval : ∀ (j : Nat) t v, Tryd.f3.params[j]? = some t → args[j]? = some v → Value.okWide Tryd.prog W .any base t v)
    (hW : DataW.Whole enc Tryd.prog Tryd.f3.params.toList Rows.fnExactLogTextSpec.vars false W args.toList ds gs before) (hL : laidMetH Tryd.prog Rows.fnExactLogTextRow.laid W) :
    Calls Tryd.prog 3 args W fun e W' => ∃ v, e = .returned v ∧ Rows.fnExactLogTextSpec.post enc Tryd.prog Tryd.f3 false true false false W args v W' := by
  have hT : Tab W := tab_of_laid (l := Rows.fnExactLogTextRow.laid) (.tail _ (.tail _ (.head _))) hL
  have hW' := hW
  obtain ⟨p, q, hA0, hV, rfl, hfz, hnd⟩ := hW
  have hA : DataW.TrodAll enc Tryd.prog W 0 (fun _ => true) true Tryd.f3.params.toList args.toList ds p := hA0
  rw [Tryd.params3] at hA hval
  obtain ⟨v0, vs0, d0, ds0, p0, q0, hargs, rfl, rfl, h0, r0⟩ := trodAll_cons hA
  obtain ⟨v1, vs1, d1, ds1, p1, q1, rfl, rfl, rfl, h1, r1⟩ := trodAll_cons r0
  obtain ⟨rfl, rfl, rfl⟩ := trodAll_nil r1
  obtain rfl : args = #[v0, v1] := by cases args; simp_all
  obtain ⟨rfl, rfl⟩ := trodVars_none hV
  obtain ⟨a0, len0, cap0, rfl⟩ := okWide_slice Tryd.underlying22 (hval 0 22 v0 rfl rfl)
  have k0 := h0
  have lt0 : ∀ x ∈ p0, x.block < W.heap.size := by exact trod_lt1 k0
  have k1 := h1
  have lt1 : ∀ x ∈ p1, x.block < W.heap.size := by exact trod_lt1 k1
  obtain ⟨fuel, hf⟩ := h0
  obtain ⟨A, c, xs, hcs, hle, hcm, hC, hwf⟩ := opens_slice (Kd.int .u8) (fun n => 0 ≤ n ∧ n ≤ 255) open_u8 (by kernel_rfl) Tryd.underlying22 hf
  simp [Value.cells] at hcs
  obtain ⟨rfl, rfl, rfl⟩ := hcs
  obtain ⟨a1, len1, cap1, rfl⟩ := okWide_slice Tryd.underlying23 (hval 1 23 v1 rfl rfl)
  obtain ⟨fuel1, hf1⟩ := h1
  obtain ⟨B, c', ys, hcs1, hle1, hcm1, hC1, hwf1⟩ := opens_slice k37 (fun s => inI64 s.f0 ∧ inI64 s.f1) open_Reading (by kernel_rfl) Tryd.underlying23 hf1
  simp [Value.cells] at hcs1
  obtain ⟨rfl, rfl, rfl⟩ := hcs1
  · refine (lawLogText a0 cap0 xs a1 cap1 ys W hT hC hle (Nat.le_trans hle hcm) hC1 hle1 (Nat.le_trans hle1 hcm1)).mono fun e W' ⟨he, bel⟩ => ?_
    subst he
    exact ⟨_, rfl, _, _, _, [], _, [], hW', trodAll_mk1 (shut_bool Tryd.underlying4 _), trodAll_cons_mk (Below.trod laidOutLog (by kernel_rfl) (of_decide_eq_true (by kernel_rfl)) k0 bel lt0) (trodAll_cons_mk (Below.trod laidOutLog (by kernel_rfl) (of_decide_eq_true (by kernel_rfl)) k1 bel lt1) trodAll_mk0), rfl, bel.frame _, fun h => by cases h⟩

/-- A world for the witness: the settled one, the listed tables laid. -/
noncomputable def lLog_world (os : Os) : World :=
  { World.holding Tryd.prog os ⟨#[], #[], []⟩ with heap := (((World.holding Tryd.prog os ⟨#[], #[], []⟩).heap.modify 0 (layIn (tabCells Rows.laid_internal_strconv_uint64pow10))).modify 2 (layIn (tabCells Rows.laid_math_bits_deBruijn32tab))).modify 3 (layIn (tabCells Rows.laid_math_bits_deBruijn64tab)) }
theorem lLog_met (os : Os) : laidMet Tryd.prog Rows.fnExactLogTextRow.laid ((lLog_world os).forCall (fun _ _ => 0) ⟨#[], #[.slice none 0 0, .slice none 0 0], []⟩).memory :=
  laidMet_of_run' 8 (by kernel_rfl) (by kernel_rfl)
theorem lLog_reads (os : Os) {H : Type} (enc : TypeId × Value → H) : ∃ places, DataW.whole enc Tryd.prog ((lLog_world os).forCall (fun _ _ => 0) ⟨#[], #[.slice none 0 0, .slice none 0 0], []⟩).memory Tryd.f3.params.toList Rows.fnExactLogTextSpec.vars false #[Value.slice none 0 0, Value.slice none 0 0].toList 8 = some ([.nil, .nil], [], places) :=
  ⟨[], by kernel_rfl⟩

set_option maxRecDepth 100000 in
theorem lLog_lifted (os : Os) (started : os.Started) (H : Type) (enc : TypeId × Value → H) (F : Stop.Interp) :
    ReturnsInHanded {} Tryd.checked os 3 .any ((OpenSpec.ofChange Rows.fnExactLogTextSpec).preRow enc Tryd.prog Tryd.f3 Rows.fnExactLogTextRow.domain false Rows.fnExactLogTextRow.laid) (((OpenSpec.ofChange Rows.fnExactLogTextSpec).at F).post enc Tryd.prog Tryd.f3 false true false false) := by
  obtain ⟨places, hx⟩ := lLog_reads os enc
  refine returnsInHanded_of_row (C := Tryd.checked) (s := OpenSpec.ofChange Rows.fnExactLogTextSpec) ownLog started (by kernel_rfl) Tryd.func3
    (witness_row_at (enc := enc) (C := Tryd.checked) false (lLog_world os) #[.slice none 0 0, .slice none 0 0] rfl (by kernel_rfl) (by kernel_rfl) (by kernel_rfl)
      (OpenSpec.preRow_of_cond 8 hx (by kernel_rfl) (fun k hk => by cases hk) (by kernel_rfl) (lLog_met os))) ?_
  intro W base args ds gs before hval hW _ _ _ hL _ _
  exact lLog_contract H enc W base args ds gs before hval hW hL

theorem lLog_said : Rows.FnExactLogTextSaid :=
  OpenClaim.holds_of_cond 3 Tryd.f3 rfl rfl rfl rfl rfl rfl rfl ⟨rfl, rfl, rfl, rfl, rfl⟩ rfl rfl rfl rfl rfl (by kernel_rfl) Tryd.func3 (by kernel_rfl)
    (of_decide_eq_true (by kernel_rfl)) (by unfold Func.isWrapper; first | (rw [if_pos (by decide +kernel)]; kernel_rfl) | (rw [if_neg (by decide +kernel)]; exact ⟨rfl, rfl⟩))
    (fun os started H enc _ F => by rw [OpenClaim.pre_eq_preRow]; exact lLog_lifted os started H enc F)

theorem lLog_plain (f : FuncId) (fn : Func) (hf : Tryd.pinned.checked.prog.funcNamed "loop.example/g01278/laws.FnExactLogText" = some f) (hfn : Tryd.pinned.checked.prog.funcs[f]? = some fn) :
    false = Tryd.pinned.checked.prog.looks [] ∧ ∀ (j : Nat) t, fn.params[j]? = some t → Tryd.pinned.checked.prog.wantsStandIn t = false := by
  obtain rfl : f = 3 := Option.some.inj ((show Tryd.prog.funcNamed "loop.example/g01278/laws.FnExactLogText" = some 3 by kernel_rfl).symm.trans hf) |>.symm
  obtain rfl : fn = Tryd.f3 := (Option.some.inj (Tryd.func3.symm.trans hfn)).symm
  refine ⟨by kernel_rfl, fun j t ht => ?_⟩
  rw [Tryd.params3] at ht
  have hm : t = 22 ∨ t = 23 := by simpa using Array.mem_of_getElem? ht
  rcases hm with rfl | rfl
  · exact (show Tryd.prog.wantsStandIn 22 = false by kernel_rfl)
  · exact (show Tryd.prog.wantsStandIn 23 = false by kernel_rfl)

theorem lLog_card : Rows.FnExactLogTextCardSaid :=
  Claim7.holds_tied_plain_at .later [] _ _ _ _ lLog_said (fun _ h => by cases h) (by kernel_rfl) (fun _ h => by cases h) fnExactLogText_row_tie rfl ⟨rfl, rfl⟩ (by kernel_rfl) rfl lLog_plain (by kernel_rfl)
end Go.Proofs.YteaciggmlmhbgaaDoor.P
namespace Go.Proofs.YteaciggmlmhbgaaDoor
theorem fnExactLogText_holds : Rows.FnExactLogTextCardSaid := P.lLog_card
#print axioms fnExactLogText_holds
end Go.Proofs.YteaciggmlmhbgaaDoor
