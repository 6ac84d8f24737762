/- impl.Act.text and impl.ActsText return the texts of acts. -/
import Derived.Test.YtiaihdfpbgnaoaaDoorAW
import Derived.Test.YtiaihdfpbgnaoaaDoorNum
import Derived.Test.YtiaihdfpbgnaoaaDoorBldM
import Derived.Deep.RegionWith
namespace Go.Proofs.YtiaihdfpbgnaoaaDoor.P
open Go.RowKit Go.Proofs.YtiaihdfpbgnaoaaDoorW.PrintWords Go.Proofs.YtiaihdfpbgnaoaaDoorW.PrintLast Go.Proofs.YtiaihdfpbgnaoaaDoorW.PrintMore
set_option linter.unusedVariables false
set_option linter.unusedSimpArgs false

set_option maxHeartbeats 2000000 in
set_option maxRecDepth 100000 in
theorem actText_calls (T : Ac) (w : World) (hT : Tab w) (hok : okAct T = true) :
    Calls Tryd.prog 27 #[.agg #[.int .i8 T.f0, .int .i64 T.f1]] w fun e w' => e = .returned (.string (actText T)) ∧ Below w.heap.size w w' := by
  have HT := Aside0.mk hT
  clear hT
  obtain ⟨a, b⟩ := T
  have hr := okAct_range hok
  dsimp only at hr ⊢
  obtain ⟨a0, a1, b0, b1⟩ := hr
  clear hok
  have db := dec_size b (by omega) (by omega)
  have dw := actWord_size a
  have s2 : (9223372036854775807 < 1 + (dec b).size) = False := eq_false (by omega)
  have s3 : (9223372036854775807 < (actWord a).size + (1 + (dec b).size)) = False := eq_false (by omega)
  have p0 : (0 : Int) ≤ a := by omega
  have p6 : a < 6 := by omega
  have hi0 : (w.alloc (.cells #[.int .i8 a, .int .i64 b] 55)).cell? ⟨w.heap.size, 0, none⟩ = some (.int .i8 a) := (blk_cell (heap_alloc_new _ _) 0).trans rfl
  have hi1 : (w.alloc (.cells #[.int .i8 a, .int .i64 b] 55)).cell? ⟨w.heap.size, 1, none⟩ = some (.int .i64 b) := (blk_cell (heap_alloc_new _ _) 1).trans rfl
  have HB := Aside0.mk (below_alloc (Below.refl w.heap.size w) (.cells #[.int .i8 a, .int .i64 b] 55))
  go_enter Tryd.func27, Tryd.ntmps27
  go_wp2_with fail
  go_region_with (first
    | (go_at_call 40; refine (implWords_any a (by omega) (by omega) _).mono ?_; rintro e w2 ⟨⟨v, rfl, ad2, c2, rfl, hc2, hcw⟩, hb⟩; (have HB2 := Aside0.mk (show Below w.heap.size w w2 from below_step (by first | exact HB.out | exact below_drew HB.out) hb)); (have hy0 := (hb.cell (World.block_lt_of_cell? _ _ hi0)).trans hi0); (have hy1 := (hb.cell (World.block_lt_of_cell? _ _ hi1)).trans hi1); clear hb))
  all_goals
    by_cases h3 : a ≤ 3
    · have HE : Aside0 (actText ⟨a, b⟩ = actWord a ++ ((⟨#[32]⟩ : ByteArray) ++ dec b)) := ⟨by unfold actText; rw [if_pos h3]⟩
      go_wp2_with (go_at_call 20; refine (decimalGo b _ (HT.out.below HB2.out) (by omega) (by omega)).mono ?_; rintro e w3 ⟨rfl, hb⟩; (have HB3 := Aside0.mk (below_step HB2.out hb)); clear hb)
      go_ret
      exact ⟨by rw [HE.out]; rfl, HB3.out⟩
    · have HE : Aside0 (actText ⟨a, b⟩ = actWord a) := ⟨by unfold actText; rw [if_neg h3]⟩
      go_wp2_with fail
      go_ret
      exact ⟨by rw [HE.out]; rfl, HB2.out⟩

set_option maxHeartbeats 2000000 in
set_option maxRecDepth 100000 in
theorem actsText_yes (A0 : Option Addr) (c0 : Nat) (l0 : List Ac) (w : World) (hT : Tab w) (hr0 : Kd.C k55 w A0 l0.length l0) (hc0 : l0.length ≤ c0) (hlen : l0.length ≤ 60) (hall : l0.all okAct = true) :
    Calls Tryd.prog 13 #[.slice A0 l0.length c0] w fun e w' => e = .returned (.string (actLines l0)) ∧ Below w.heap.size w w' := by
  have HALL := Aside0.mk hall
  have HT := Aside0.mk hT
  have hfault := actsFault_calls A0 c0 l0 w hr0 hc0 (by omega)
  rw [show actsFaultOf l0 = 0 by unfold actsFaultOf; rw [if_pos hall, if_neg (by omega)]] at hfault
  have HF := Aside0.mk hfault
  have HR := Aside0.mk hr0
  clear hall hr0 hT hfault
  go_enter Tryd.func13, Tryd.ntmps13
  go_wp2_with (go_at_call 26; refine HF.out.mono ?_; rintro e w1 ⟨rfl, hb⟩; (have HB := Aside0.mk hb); clear hb)
  have HBLD := Aside0.mk (show Lib.IsBuilder 44 5 w.heap.size w1.heap.size (Lib.byteCells (actLines (l0.take 0)).data.toList) (w1.alloc (Obj.cells #[Value.pointer none, Value.slice none 0 0] 44)) from
    builder_weaken (Lib.fresh_isBuilder 44 5 w1) HB.out.size)
  have HB1 := Aside0.mk (below_alloc HB.out (Obj.cells #[Value.pointer none, Value.slice none 0 0] 44))
  go_loopw [12] (fun i wr => ∃ k : Nat, k ≤ l0.length ∧ i = .int .i64 k ∧ Aside0 (Lib.IsBuilder 44 5 w.heap.size w1.heap.size (Lib.byteCells (actLines (l0.take k)).data.toList) wr) ∧ Aside0 (Below w.heap.size w wr)) (fun i _ => l0.length - (intOf i).toNat)
  case atStart => exact ⟨0, Nat.zero_le _, rfl, HBLD, HB1⟩
  case round =>
    clear HB HBLD HB1
    obtain ⟨k, hk, rfl, HBLD, HB⟩ := hrel
    by_cases hlt : k < l0.length
    · obtain ⟨ad, e, hx0, hx1⟩ := at_T55 HR.out (k : Int) (by omega) (by omega)
      cases e
      rw [Int.toNat_natCast] at hx0 hx1
      have hrd : rd_T55 l0 k = l0[k] := by simp [rd_T55, List.getD_eq_getElem?_getD, List.getElem?_eq_getElem hlt]
      have hok : okAct l0[k] = true := List.all_eq_true.1 HALL.out (l0[k]) (List.getElem_mem hlt)
      have hsn := actLines_snoc l0 k hlt
      have hz : (actLines (l0.take k)).size ≤ 28 * 60 := by
        have := actLines_size (l := l0.take k) (List.all_eq_true.2 fun x hx => List.all_eq_true.1 HALL.out x (List.mem_of_mem_take hx))
        rw [List.length_take] at this
        omega
      rw [hrd] at hx0 hx1
      generalize l0[k] = T at hx0 hx1 hok hsn
      clear hrd
      have HS := Aside0.mk hsn
      clear hsn
      generalize actLines (l0.take k) = L at hz HS HBLD
      have dz := actText_size hok
      have HOK := Aside0.mk hok
      clear hok
      replace hx0 := (HB.out.cell (World.block_lt_of_cell? w _ hx0)).trans hx0
      replace hx1 := (HB.out.cell (World.block_lt_of_cell? w _ hx1)).trans hx1
      have s1 : (9223372036854775807 < (actText T).size + 1) = False := eq_false (by omega)
      have HB2 := Aside0.mk (below_alloc HB.out (.cells #[.int .i8 T.f0, .int .i64 T.f1] 55))
      have HBL2 := Aside0.mk (builder_below HBLD.out (below_alloc (Below.refl _ _) (.cells #[.int .i8 T.f0, .int .i64 T.f1] 55)))
      have hi0 : (wr.alloc (.cells #[.int .i8 T.f0, .int .i64 T.f1] 55)).cell? ⟨wr.heap.size, 0, none⟩ = some (.int .i8 T.f0) := (blk_cell (heap_alloc_new _ _) 0).trans rfl
      have hi1 : (wr.alloc (.cells #[.int .i8 T.f0, .int .i64 T.f1] 55)).cell? ⟨wr.heap.size, 1, none⟩ = some (.int .i64 T.f1) := (blk_cell (heap_alloc_new _ _) 1).trans rfl
      go_wp2_with fail
      refine (actText_calls T _ (HT.out.below HB2.out) HOK.out).mono ?_
      rintro e w2 ⟨rfl, hb⟩
      have HB3 := Aside0.mk (below_step HB2.out hb)
      have HBL3 := Aside0.mk (builder_below HBL2.out hb)
      clear hb HBL2 HB2 HBLD HB
      go_wp2_with fail
      refine (Bld.writeString w.heap.size _ _ _ _ HBL3.out ?_ HB3.out.size).mono ?_
      · simp only [Lib.byteCells_length, ByteArray.size_append, Array.length_toList]
        have q2 : (⟨#[10]⟩ : ByteArray).size = 1 := rfl
        have q3 : L.data.size = L.size := rfl
        omega
      rintro e w3 ⟨rfl, hbld, hb⟩
      have HG := Aside0.mk (HB3.out.trans hb)
      have HN : Aside0 (Lib.IsBuilder 44 5 w.heap.size w1.heap.size (Lib.byteCells (actLines (l0.take (k + 1))).data.toList) w3) :=
        ⟨.inr (by rw [HS.out, ba_list_append, ← byteCells_str]; exact hbld)⟩
      clear hb hbld HBL3 HB3
      go_wp2_with fail
      go_roundw
      case rel => exact ⟨k + 1, by omega, by go_num, HN, HG⟩
      case measure => simp [intOf]; omega
    · obtain rfl : k = l0.length := by omega
      have HB3 : Aside0 (Lib.IsBuilder 44 5 w.heap.size w1.heap.size (Lib.byteCells (actLines l0).data.toList) wr) := ⟨by have := HBLD.out; rwa [List.take_length] at this⟩
      go_wp2_with (go_at_call 21; refine (Tryd.Builder_String_any w.heap.size w1.heap.size _ _ HB3.out HB.out.size).mono ?_; rintro e w2 ⟨rfl, hb⟩; (have HG := Aside0.mk (HB.out.trans hb)); clear hb)
      go_ret
      exact ⟨by simp, HG.out⟩

set_option maxHeartbeats 1000000 in
set_option maxRecDepth 100000 in
theorem actsText_no (A0 : Option Addr) (c0 : Nat) (l0 : List Ac) (w : World) (hr0 : Kd.C k55 w A0 l0.length l0) (hc0 : l0.length ≤ c0) (hn : l0.length ≤ 1048576) (hv : actsFaultOf l0 = 1 ∨ actsFaultOf l0 = 3) :
    Calls Tryd.prog 13 #[.slice A0 l0.length c0] w fun e w' => e = .returned (.string ⟨#[]⟩) ∧ Below w.heap.size w w' := by
  have hfault := actsFault_calls A0 c0 l0 w hr0 hc0 hn
  clear hr0
  rcases hv with hv | hv
  all_goals
    rw [hv] at hfault
    have HF := Aside0.mk hfault
    clear hfault hv
    go_enter Tryd.func13, Tryd.ntmps13
    go_wp2_with (go_at_call 26; refine HF.out.mono ?_; rintro e w1 ⟨rfl, hb⟩; (have HB := Aside0.mk hb); clear hb)
    go_ret
    exact ⟨rfl, HB.out⟩
end Go.Proofs.YtiaihdfpbgnaoaaDoor.P
