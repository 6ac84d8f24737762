/- spec.l07Text returns the lines of acts that are all valid. -/
import Derived.Test.YtiaihdfpbgnaoaaDoorAW
import Derived.Deep.RegionWith
namespace Go.Proofs.YtiaihdfpbgnaoaaDoor.P
open Go.RowKit Go.Proofs.YtiaihdfpbgnaoaaDoorW.PrintWords Go.Proofs.YtiaihdfpbgnaoaaDoorW.PrintLast Go.Proofs.YtiaihdfpbgnaoaaDoorW.PrintMore
set_option linter.unusedVariables false
set_option linter.unusedSimpArgs false
def l07Text.f (l : List Ac) : Option ByteArray := if l.length ≤ 60 ∧ l.all okAct = true then some (actLines l) else none

set_option maxHeartbeats 2000000 in
set_option maxRecDepth 100000 in
theorem l07Text.calls (A0 : Option Addr) (c0 : Nat) (l0 : List Ac) (r : ByteArray) (w : World) (hr0 : Kd.C k55 w A0 l0.length l0) (hc0 : l0.length ≤ c0) (h : l07Text.f l0 = some r) :
    Calls Tryd.prog 24 #[.slice A0 l0.length c0] w fun e w' => e = .returned (.string r) ∧ Below w.heap.size w w' := by
  unfold l07Text.f at h
  split at h
  case isFalse => cases h
  rename_i hh
  obtain rfl := Option.some.inj h
  obtain ⟨hlen, hall⟩ := hh
  have HALL := Aside0.mk hall
  have HR := Aside0.mk hr0
  clear hall hr0 h
  go_enter Tryd.func24, Tryd.ntmps24
  go_wp2_with fail
  go_loopw [3, 4] (fun s i wr => ∃ k : Nat, k ≤ l0.length ∧ i = .int .i64 k ∧ s = .string (actLines (l0.take k)) ∧ Aside0 (Below w.heap.size w wr)) (fun _ i _ => l0.length - (intOf i).toNat)
  case atStart => exact ⟨0, Nat.zero_le _, rfl, rfl, ⟨Below.refl _ _⟩⟩
  case round =>
    obtain ⟨k, hk, rfl, rfl, HB⟩ := hrel
    by_cases hlt : k < l0.length
    · obtain ⟨ad, e, hx0, hx1⟩ := at_T55 HR.out (k : Int) (by omega) (by omega)
      cases e
      rw [Int.toNat_natCast] at hx0 hx1
      have hrd : rd_T55 l0 k = l0[k] := by simp [rd_T55, List.getD_eq_getElem?_getD, List.getElem?_eq_getElem hlt]
      have hok : okAct l0[k] = true := List.all_eq_true.1 HALL.out (l0[k]) (List.getElem_mem hlt)
      have hsn := actLines_snoc l0 k hlt
      have hz : (actLines (l0.take k)).size ≤ 28 * 60 := by
        have := actLines_size (l := l0.take k) (List.all_eq_true.2 fun x hx => List.all_eq_true.1 HALL.out x (List.mem_of_mem_take hx))
        rw [List.length_take] at this
        omega
      rw [hrd] at hx0 hx1
      generalize l0[k] = T at hx0 hx1 hok hsn
      clear hrd
      have HS := Aside0.mk hsn
      clear hsn
      generalize actLines (l0.take k) = L at hz HS
      obtain ⟨a, b⟩ := T
      dsimp only at hx0 hx1
      have hr := okAct_range hok
      dsimp only at hr
      obtain ⟨a0, a1, b0, b1⟩ := hr
      clear hok
      have db := dec_size b (by omega) (by omega)
      have dw := actWord_size a
      replace hx0 := (HB.out.cell (World.block_lt_of_cell? w _ hx0)).trans hx0
      replace hx1 := (HB.out.cell (World.block_lt_of_cell? w _ hx1)).trans hx1
      have s1 : (9223372036854775807 < L.size + (actWord a).size) = False := eq_false (by omega)
      have s2 : (9223372036854775807 < 1 + (dec b).size) = False := eq_false (by omega)
      have s3 : (9223372036854775807 < L.size + (actWord a).size + (1 + (dec b).size)) = False := eq_false (by omega)
      have s4 : (9223372036854775807 < L.size + (actWord a).size + (1 + (dec b).size) + 1) = False := eq_false (by omega)
      have s5 : (9223372036854775807 < L.size + (actWord a).size + 1) = False := eq_false (by omega)
      have p0 : (0 : Int) ≤ a := by omega
      have p6 : a < 6 := by omega
      go_wp2_with fail
      go_region_with (first
        | (go_at_call 35; refine (specWords_any a (by omega) (by omega) _).mono ?_; rintro e w2 ⟨⟨v, rfl, ad2, c2, rfl, hc2, hcw⟩, hb⟩; (have HB2 := Aside0.mk (show Below w.heap.size w w2 from below_step (by first | exact HB.out | exact below_drew HB.out) hb)); (have hy0 := (hb.cell (World.block_lt_of_cell? _ _ hx0)).trans hx0); (have hy1 := (hb.cell (World.block_lt_of_cell? _ _ hx1)).trans hx1); clear hb))
      all_goals
        by_cases h3 : a ≤ 3
        · have HE : Aside0 (actLine ⟨a, b⟩ = actWord a ++ ((⟨#[32]⟩ : ByteArray) ++ dec b) ++ (⟨#[10]⟩ : ByteArray)) := ⟨by unfold actLine actText; rw [if_pos h3]⟩
          go_wp2_with (go_at_call 36; refine (signed_any b _ (by omega) (by omega)).mono ?_; rintro e w3 ⟨rfl, hb⟩; (have HB3 := Aside0.mk (below_step HB2.out hb)); clear hb)
          go_roundw
          case rel => exact ⟨k + 1, by omega, by go_num, by rw [HS.out, HE.out]; simp [ByteArray.append_assoc], HB3⟩
          case measure => simp [intOf]; omega
        · have HE : Aside0 (actLine ⟨a, b⟩ = actWord a ++ (⟨#[10]⟩ : ByteArray)) := ⟨by unfold actLine actText; rw [if_neg h3]⟩
          go_wp2_with fail
          go_roundw
          case rel => exact ⟨k + 1, by omega, by go_num, by rw [HS.out, HE.out]; simp [ByteArray.append_assoc], HB2⟩
          case measure => simp [intOf]; omega
    · obtain rfl : k = l0.length := by omega
      have ht : Aside0 (actLines (l0.take l0.length) = actLines l0) := ⟨by rw [List.take_length]⟩
      go_wp2
      go_ret
      exact ⟨by simp, HB.out⟩
end Go.Proofs.YtiaihdfpbgnaoaaDoor.P
