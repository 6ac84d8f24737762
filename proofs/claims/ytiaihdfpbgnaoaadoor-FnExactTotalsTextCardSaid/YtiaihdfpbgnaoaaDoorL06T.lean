/- spec.l06Text returns the lines of totals that are all in range. -/
import Derived.Test.YtiaihdfpbgnaoaaDoorDec
import Derived.Outline
import Derived.WalkSpells
import Derived.Deep.RegionHeld3
import Derived.StillTactics
namespace Go.Proofs.YtiaihdfpbgnaoaaDoor.P
open Go.RowKit Go.Proofs.YtiaihdfpbgnaoaaDoorW.PrintWords Go.Proofs.YtiaihdfpbgnaoaaDoorW.PrintLast Go.Proofs.YtiaihdfpbgnaoaaDoorW.PrintMore
set_option linter.unusedVariables false
set_option linter.unusedSimpArgs false

/-- The line of a total. -/
def totalLine (t : S38) : ByteArray := dec t.f0 ++ (⟨#[32]⟩ : ByteArray) ++ dec t.f1 ++ (⟨#[10]⟩ : ByteArray)
def totalLines : List S38 → ByteArray
  | [] => ⟨#[]⟩
  | t :: r => totalLine t ++ totalLines r
def okTotal (t : S38) : Bool := decide (0 ≤ t.f0 ∧ t.f0 ≤ 1000000000000 ∧ 0 ≤ t.f1 ∧ t.f1 ≤ 1000000000000)
def l06Text.f (l : List S38) : Option ByteArray := if l.length ≤ 60 ∧ l.all okTotal = true then some (totalLines l) else none
theorem totalLine_size {t : S38} (h : okTotal t = true) : (totalLine t).size ≤ 42 := by
  unfold okTotal at h
  have h := of_decide_eq_true h
  have a := dec_size t.f0 (by omega) (by omega)
  have b := dec_size t.f1 (by omega) (by omega)
  unfold totalLine
  simp only [ByteArray.size_append]
  have c : (⟨#[32]⟩ : ByteArray).size = 1 := rfl
  have d : (⟨#[10]⟩ : ByteArray).size = 1 := rfl
  omega
theorem totalLines_append (a b : List S38) : totalLines (a ++ b) = totalLines a ++ totalLines b := by
  induction a with
  | nil => simp [totalLines]; rfl
  | cons x a ih => simp [totalLines, ih, ByteArray.append_assoc]
theorem totalLines_size {l : List S38} (h : l.all okTotal = true) : (totalLines l).size ≤ 42 * l.length := by
  induction l with
  | nil => simp [totalLines]; rfl
  | cons x a ih =>
    simp only [List.all_cons, Bool.and_eq_true] at h
    have p := totalLine_size h.1
    have q := ih h.2
    simp only [totalLines, ByteArray.size_append, List.length_cons]
    omega
theorem totalLines_snoc (l : List S38) (k : Nat) (h : k < l.length) : totalLines (l.take (k + 1)) = totalLines (l.take k) ++ totalLine (l.getD k z38) := by
  rw [List.take_succ_eq_append_getElem h, totalLines_append]
  simp [totalLines, List.getD_eq_getElem?_getD, List.getElem?_eq_getElem h]
  exact ByteArray.append_empty

set_option maxHeartbeats 1000000 in
set_option maxRecDepth 100000 in
theorem l06Text.calls (A0 : Option Addr) (c0 : Nat) (l0 : List S38) (r : ByteArray) (w : World) (hr0 : Kd.C k38 w A0 l0.length l0) (hc0 : l0.length ≤ c0) (h : l06Text.f l0 = some r) :
    Calls Tryd.prog 16 #[.slice A0 l0.length c0] w fun e w' => e = .returned (.string r) ∧ Below w.heap.size w w' := by
  unfold l06Text.f at h
  split at h
  case isFalse => cases h
  rename_i hh
  obtain rfl := Option.some.inj h
  obtain ⟨hlen, hall⟩ := hh
  have HALL := Aside0.mk hall
  have HR := Aside0.mk hr0
  clear hall hr0 h
  go_enter Tryd.func16, Tryd.ntmps16
  go_wp2_with fail
  go_loopw [3, 4] (fun s i wr => ∃ k : Nat, k ≤ l0.length ∧ i = .int .i64 k ∧ s = .string (totalLines (l0.take k)) ∧ Aside0 (Below w.heap.size w wr)) (fun _ i _ => l0.length - (intOf i).toNat)
  case atStart => exact ⟨0, Nat.zero_le _, rfl, rfl, ⟨Below.refl _ _⟩⟩
  case round =>
    obtain ⟨k, hk, rfl, rfl, HB⟩ := hrel
    by_cases hlt : k < l0.length
    · obtain ⟨ad, e, hx0, hx1⟩ := at_T38 HR.out (k : Int) (by omega) (by omega)
      cases e
      rw [Int.toNat_natCast] at hx0 hx1
      have hok : okTotal (rd_T38 l0 k) = true := by
        have := List.all_eq_true.1 HALL.out (l0[k]) (List.getElem_mem hlt)
        simpa [rd_T38, List.getD_eq_getElem?_getD, List.getElem?_eq_getElem hlt] using this
      have hsn := Aside0.mk (totalLines_snoc l0 k hlt)
      have hz : (totalLines (l0.take k)).size ≤ 42 * 60 := by
        have := totalLines_size (l := l0.take k) (List.all_eq_true.2 fun x hx => List.all_eq_true.1 HALL.out x (List.mem_of_mem_take hx))
        rw [List.length_take] at this
        omega
      have hrd : rd_T38 l0 k = l0.getD k z38 := by simp [rd_T38]
      generalize hT : rd_T38 l0 k = T at hx0 hx1 hok
      rw [← hrd, hT] at hsn
      clear hrd hT
      obtain ⟨a, b⟩ := T
      unfold okTotal at hok
      dsimp only at hx0 hx1
      obtain ⟨a0, a1, b0, b1⟩ := of_decide_eq_true hok
      dsimp only at a0 a1 b0 b1
      clear hok
      have da := dec_size a (by omega) (by omega)
      have db := dec_size b (by omega) (by omega)
      replace hx0 := (HB.out.cell (World.block_lt_of_cell? w _ hx0)).trans hx0
      replace hx1 := (HB.out.cell (World.block_lt_of_cell? w _ hx1)).trans hx1
      have s1 : (9223372036854775807 < (dec a).size + 1) = False := eq_false (by omega)
      have s2 : (9223372036854775807 < (dec a).size + 1 + (dec b).size) = False := eq_false (by omega)
      have s3 : (9223372036854775807 < (dec a).size + 1 + (dec b).size + 1) = False := eq_false (by omega)
      have s4 : (9223372036854775807 < (totalLines (List.take k l0)).size + ((dec a).size + 1 + (dec b).size + 1)) = False := eq_false (by omega)
      go_wp2_with fail
      go_region_held3 (fun w' => w'.cell? (ad.add (k * 2)) = some (.int .i64 a) ∧ w'.cell? ⟨(ad.add (k * 2)).block, (ad.add (k * 2)).off + 1, none⟩ = some (.int .i64 b) ∧ Below w.heap.size w w')
        ((go_split_ands; refine ⟨?_, ?_, ?_⟩ <;> first
          | assumption
          | exact hx0
          | exact hx1
          | exact below_drew HB.out
          | exact below_step (by first | assumption | exact below_drew HB.out) hb
          | exact (hb.cell (World.block_lt_of_cell? _ _ (by first | assumption | exact hx0 | exact hx1))).trans (by first | assumption | exact hx0 | exact hx1)))
        ((first | (go_at_call 31; refine (decimal_any _ _ (by omega) (by omega)).mono ?_; rintro e w' ⟨rfl, hb⟩)))
      go_wp2_with fail
      go_roundw
      case rel => exact ⟨k + 1, by omega, by go_num, by rw [hsn.out]; simp only [totalLine], ⟨by go_split_ands; assumption⟩⟩
      case measure => simp [intOf]; omega
    · obtain rfl : k = l0.length := by omega
      have ht : Aside0 (totalLines (l0.take l0.length) = totalLines l0) := ⟨by rw [List.take_length]⟩
      go_wp2
      go_ret
      exact ⟨by simp, HB.out⟩
end Go.Proofs.YtiaihdfpbgnaoaaDoor.P
