/- impl.TotalsText returns the lines of the totals that ValidTotals lets by, and the empty string for others. -/
import Derived.Test.YtiaihdfpbgnaoaaDoorNum
import Derived.Test.YtiaihdfpbgnaoaaDoorBld
import Derived.Test.YtiaihdfpbgnaoaaDoorL06T
import Derived.Test.YtiaihdfpbgnaoaaDoorPimplValidTotals
import Derived.Deep.RegionWith
import Derived.WalkSpells
import Derived.Outline
namespace Go.Proofs.YtiaihdfpbgnaoaaDoor.P
open Go.RowKit Go.Proofs.YtiaihdfpbgnaoaaDoorW.PrintWords Go.Proofs.YtiaihdfpbgnaoaaDoorW.PrintLast Go.Proofs.YtiaihdfpbgnaoaaDoorW.PrintMore
set_option linter.unusedVariables false
set_option linter.unusedSimpArgs false

theorem builder_below {T e : TypeId} {B b : Nat} {bs : List Value} {w w' : World} (h : Lib.IsBuilder T e B b bs w) (hb : Below w.heap.size w w') : Lib.IsBuilder T e B b bs w' := by
  have one : ∀ p, Lib.BuilderAt T e B b p bs w → Lib.BuilderAt T e B b p bs w' := by
    rintro p ⟨hB, v, hbk, hown, hne⟩
    have hlt : b < w.heap.size := Lib.BuilderAt.lt ⟨hB, v, hbk, hown, hne⟩
    exact ⟨hB, v, (hb.block b hlt).trans hbk, own_move hown (fun k hk => hb.block k (own_lt hown k hk)), hne⟩
  exact h.imp (one _) (one _)
theorem builder_weaken {T e : TypeId} {B B' b : Nat} {bs : List Value} {w : World} (h : Lib.IsBuilder T e B b bs w) (hB : B' ≤ B) : Lib.IsBuilder T e B' b bs w := by
  have one : ∀ p, Lib.BuilderAt T e B b p bs w → Lib.BuilderAt T e B' b p bs w := by
    rintro p ⟨hB1, v, hbk, hown, hne⟩
    exact ⟨Nat.le_trans hB hB1, v, hbk, own_weaken hown hB, hne⟩
  exact h.imp (one _) (one _)
theorem byteCells_str (l : List UInt8) (s : ByteArray) : Lib.byteCells l ++ Lib.strCells s = Lib.byteCells (l ++ s.data.toList) := by simp [Lib.byteCells, Lib.strCells]
theorem ba_list_append (a b : ByteArray) : (a ++ b).data.toList = a.data.toList ++ b.data.toList := by simp

/-- What holds while a round of TotalsText goes on. -/
structure TInv (w : World) (g gb : Nat) (a b : Int) (s : ByteArray) (W : World) : Prop where
  c0 : W.cell? ⟨gb, 0, none⟩ = some (.int .i64 a)
  c1 : W.cell? ⟨gb, 1, none⟩ = some (.int .i64 b)
  bld : Lib.IsBuilder 44 5 w.heap.size g (Lib.byteCells s.data.toList) W
  tab : Tab W
  below : Below w.heap.size w W
theorem TInv.step {w : World} {g gb : Nat} {a b : Int} {s : ByteArray} {W W' : World} (h : TInv w g gb a b s W) (hb : Below W.heap.size W W') : TInv w g gb a b s W' :=
  ⟨(hb.cell (World.block_lt_of_cell? _ _ h.c0)).trans h.c0, (hb.cell (World.block_lt_of_cell? _ _ h.c1)).trans h.c1, builder_below h.bld hb, h.tab.below hb, below_step h.below hb⟩

set_option maxHeartbeats 2000000 in
set_option maxRecDepth 100000 in
theorem totalsText_yes (k : Nat) (A0 : Option Addr) (c0 : Nat) (l0 : List S38) (w : World) (hT : Tab w) (hr0 : Kd.C k38 w A0 l0.length l0) (hc0 : l0.length ≤ c0)
    (hv : impl_ValidTotals.f k l0 = some true) (hlen : l0.length ≤ 60) (hall : l0.all okTotal = true) :
    Calls Tryd.prog 8 #[.slice A0 l0.length c0] w fun e w' => e = .returned (.string (totalLines l0)) ∧ Below w.heap.size w w' := by
  have HALL := Aside0.mk hall
  have HR := Aside0.mk hr0
  have HT := Aside0.mk hT
  have HV := Aside0.mk hv
  clear hall hr0 hT hv
  go_enter Tryd.func8, Tryd.ntmps8
  go_wp2_with (go_at_call 18; refine (impl_ValidTotals.calls k _ _ l0 true _ HR.out hc0 HV.out).mono ?_; rintro e w1 ⟨rfl, hb⟩; (have HB := Aside0.mk hb); clear hb)
  have HBLD := Aside0.mk (show Lib.IsBuilder 44 5 w.heap.size w1.heap.size (Lib.byteCells (totalLines (l0.take 0)).data.toList) (w1.alloc (Obj.cells #[Value.pointer none, Value.slice none 0 0] 44)) from
    builder_weaken (Lib.fresh_isBuilder 44 5 w1) HB.out.size)
  have HB1 := Aside0.mk (below_alloc HB.out (Obj.cells #[Value.pointer none, Value.slice none 0 0] 44))
  go_loopw [12] (fun i wr => ∃ k : Nat, k ≤ l0.length ∧ i = .int .i64 k ∧ Aside0 (Lib.IsBuilder 44 5 w.heap.size w1.heap.size (Lib.byteCells (totalLines (l0.take k)).data.toList) wr) ∧ Aside0 (Below w.heap.size w wr)) (fun i _ => l0.length - (intOf i).toNat)
  case atStart => exact ⟨0, Nat.zero_le _, rfl, HBLD, HB1⟩
  case round =>
    clear HB HBLD HB1
    obtain ⟨k, hk, rfl, HBLD, HB⟩ := hrel
    by_cases hlt : k < l0.length
    · obtain ⟨ad, e, hx0, hx1⟩ := at_T38 HR.out (k : Int) (by omega) (by omega)
      cases e
      rw [Int.toNat_natCast] at hx0 hx1
      have hok : okTotal (rd_T38 l0 k) = true := by
        have := List.all_eq_true.1 HALL.out (l0[k]) (List.getElem_mem hlt)
        simpa [rd_T38, List.getD_eq_getElem?_getD, List.getElem?_eq_getElem hlt] using this
      have hsn := Aside0.mk (totalLines_snoc l0 k hlt)
      have hz : (totalLines (l0.take k)).size ≤ 42 * 60 := by
        have := totalLines_size (l := l0.take k) (List.all_eq_true.2 fun x hx => List.all_eq_true.1 HALL.out x (List.mem_of_mem_take hx))
        rw [List.length_take] at this
        omega
      have hrd : rd_T38 l0 k = l0.getD k z38 := by simp [rd_T38]
      generalize hT : rd_T38 l0 k = T at hx0 hx1 hok
      rw [← hrd, hT] at hsn
      clear hrd hT
      obtain ⟨a, b⟩ := T
      unfold okTotal at hok
      dsimp only at hx0 hx1
      obtain ⟨a0, a1, b0, b1⟩ := of_decide_eq_true hok
      dsimp only at a0 a1 b0 b1
      clear hok
      have da := dec_size a (by omega) (by omega)
      have db := dec_size b (by omega) (by omega)
      replace hx0 := (HB.out.cell (World.block_lt_of_cell? w _ hx0)).trans hx0
      replace hx1 := (HB.out.cell (World.block_lt_of_cell? w _ hx1)).trans hx1
      have s1 : (9223372036854775807 < (dec a).size + 1) = False := eq_false (by omega)
      have s2 : (9223372036854775807 < (dec a).size + 1 + (dec b).size) = False := eq_false (by omega)
      have s3 : (9223372036854775807 < (dec a).size + 1 + (dec b).size + 1) = False := eq_false (by omega)
      have HI : Aside0 (TInv w w1.heap.size wr.heap.size a b (totalLines (l0.take k)) (wr.alloc (.cells #[.int .i64 a, .int .i64 b] 38))) :=
        ⟨⟨(blk_cell (heap_alloc_new _ _) 0).trans rfl, (blk_cell (heap_alloc_new _ _) 1).trans rfl, builder_below HBLD.out (below_alloc (Below.refl _ _) _), (HT.out.below HB.out).below (below_alloc (Below.refl _ _) _), below_alloc HB.out _⟩⟩
      go_wp2_with fail
      have hi0 := HI.out.c0
      have hi1 := HI.out.c1
      go_region_with (first
        | (go_at_call 20; refine (decimalGo _ _ ?_ (by omega) (by omega)).mono ?_; exact (HI.out.step (by first | exact Below.refl _ _ | exact below_drew (Below.refl _ _))).tab; rintro e w2 ⟨rfl, hb⟩; (have HI2 := Aside0.mk (HI.out.step (show Below _ _ w2 from by first | exact hb | exact below_step (below_drew (Below.refl _ _)) hb))); clear HI hb hi0 hi1; (have HI := HI2); clear HI2; (have hi0 := HI.out.c0); (have hi1 := HI.out.c1))
        | (go_at_call 19; refine (Bld.writeString w.heap.size _ _ _ _ HI.out.bld ?_ HI.out.below.size).mono ?_; (simp only [Lib.byteCells_length, ByteArray.size_append, Array.length_toList]; have q1 : (⟨#[32]⟩ : ByteArray).size = 1 := rfl; have q2 : (⟨#[10]⟩ : ByteArray).size = 1 := rfl; have q3 : (totalLines (l0.take k)).data.size = (totalLines (l0.take k)).size := rfl; omega); rintro e w2 ⟨rfl, hbld, hb⟩; (have HF := Aside0.mk hbld); (have HG := Aside0.mk (HI.out.below.trans hb)); clear HI hbld hb hi0 hi1))
      all_goals
        have HN : Aside0 (Lib.IsBuilder 44 5 w.heap.size w1.heap.size (Lib.byteCells (totalLines (l0.take (k + 1))).data.toList) w2) :=
          ⟨.inr (by rw [hsn.out, ba_list_append, ← byteCells_str]; exact HF.out)⟩
        go_wp2_with fail
        go_roundw
        case rel => exact ⟨k + 1, by omega, by go_num, HN, HG⟩
        case measure => simp [intOf]; omega
    · obtain rfl : k = l0.length := by omega
      have HB3 : Aside0 (Lib.IsBuilder 44 5 w.heap.size w1.heap.size (Lib.byteCells (totalLines l0).data.toList) wr) := ⟨by have := HBLD.out; rwa [List.take_length] at this⟩
      go_wp2_with (go_at_call 21; refine (Tryd.Builder_String_any w.heap.size w1.heap.size _ _ HB3.out HB.out.size).mono ?_; rintro e w2 ⟨rfl, hb⟩; (have HG := Aside0.mk (HB.out.trans hb)); clear hb)
      go_ret
      exact ⟨by simp, HG.out⟩

set_option maxHeartbeats 1000000 in
set_option maxRecDepth 100000 in
theorem totalsText_no (k : Nat) (A0 : Option Addr) (c0 : Nat) (l0 : List S38) (w : World) (hr0 : Kd.C k38 w A0 l0.length l0) (hc0 : l0.length ≤ c0)
    (hv : impl_ValidTotals.f k l0 = some false) :
    Calls Tryd.prog 8 #[.slice A0 l0.length c0] w fun e w' => e = .returned (.string ⟨#[]⟩) ∧ Below w.heap.size w w' := by
  have HR := Aside0.mk hr0
  have HV := Aside0.mk hv
  clear hr0 hv
  go_enter Tryd.func8, Tryd.ntmps8
  go_wp2_with (go_at_call 18; refine (impl_ValidTotals.calls k _ _ l0 false _ HR.out hc0 HV.out).mono ?_; rintro e w1 ⟨rfl, hb⟩; (have HB := Aside0.mk hb); clear hb)
  go_ret
  exact ⟨rfl, HB.out⟩
end Go.Proofs.YtiaihdfpbgnaoaaDoor.P
