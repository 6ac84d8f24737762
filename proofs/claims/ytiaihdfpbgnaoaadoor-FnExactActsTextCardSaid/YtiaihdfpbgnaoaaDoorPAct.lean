/- Plain law of acts: the reference's text, and the laws' helpers. -/
import Derived.Test.YtiaihdfpbgnaoaaDoorLoops
import Derived.Test.YtiaihdfpbgnaoaaDoorL07T
import Derived.Test.YtiaihdfpbgnaoaaDoorPspecActsText
import Derived.Test.YtiaihdfpbgnaoaaDoorPlawstoActS
import Derived.Test.YtiaihdfpbgnaoaaDoorPlawseqActS
import Derived.Test.YtiaihdfpbgnaoaaDoorPlawsszActS
namespace Go.Proofs.YtiaihdfpbgnaoaaDoor.P
open Go.RowKit Go.Proofs.YtiaihdfpbgnaoaaDoorW.PrintWords Go.Proofs.YtiaihdfpbgnaoaaDoorW.PrintLast Go.Proofs.YtiaihdfpbgnaoaaDoorW.PrintMore
set_option linter.unusedVariables false

/-- The text of acts. -/
def actsText (l : List Ac) : ByteArray := if l.length ≤ 60 ∧ l.all okAct = true then actLines l else ⟨#[]⟩
theorem rdA (l : List Ac) (i : Nat) : rd_T55 l (i : Int) = l.getD i Az := by simp [rd_T55]
theorem spec_acts (l : List Ac) (hn : l.length ≤ 1048576) : spec_ActsText.f 2000 l = some (actsText l) := by
  unfold spec_ActsText.f actsText
  by_cases h60 : (l.length : Int) > 60
  · rw [if_pos h60, if_neg (by omega)]
  · rw [if_neg h60]
    have key := all_loop2 (fun i => okAct (l.getD i Az)) l.length (fun k i => spec_ActsText.l0 k l i) ((l07Text.f l).bind fun t => some t) (some ⟨#[]⟩) (by omega) 1 1 (by omega) ?_ ?_ ?_ l.length 2000 0 (by omega) (by omega)
    · simp only [Int.ofNat_zero] at key
      rw [all_range] at key
      rw [key]
      by_cases hall : l.all okAct = true
      · rw [if_pos hall, if_pos ⟨by omega, hall⟩]
        unfold l07Text.f
        rw [if_pos ⟨by omega, hall⟩]; rfl
      · rw [if_neg hall, if_neg (fun h => hall h.2)]
    · intro k i hk hi hok
      obtain ⟨k, rfl⟩ : ∃ j, k = j + 1 := ⟨k - 1, by omega⟩
      simp only [spec_ActsText.l0]
      rw [if_pos (by omega), if_pos (by omega), rdA, spec_act]
      simp only [Option.bind_some]
      rw [if_pos hok]
    · intro k i hk hi hok
      obtain ⟨k, rfl⟩ : ∃ j, k = j + 1 := ⟨k - 1, by omega⟩
      simp only [spec_ActsText.l0]
      rw [if_pos (by omega), if_pos (by omega), rdA, spec_act]
      simp only [Option.bind_some]
      rw [if_neg (by rw [hok]; decide)]
    · intro k hk
      simp only [spec_ActsText.l0]
      rw [if_neg (by omega)]

def convA (x : S57) : Ac := ⟨x.f0, x.f1⟩
theorem to_acts (l : List S57) (hn : l.length ≤ 1048576) : laws_toActS.f 1048577 l = some (l.map convA) := by
  unfold laws_toActS.f
  rw [if_pos (by omega), if_pos (by omega)]
  have key := map_loop z57 convA l (fun k ys i => laws_toActS.l0 k l ys i) (by omega) ?_ ?_ l.length 1048577 0 (List.replicate ((l.length : Int)).toNat z55) (by omega) (by omega) (by simp)
  · simp only [Int.ofNat_zero] at key
    rw [key]; simp
  · intro k ys i hi hl
    simp only [laws_toActS.l0]
    rw [if_pos (by omega), if_pos (by omega)]
    simp only [laws_toAct.f, Option.bind_some]
    rw [if_pos (by omega)]
    simp [convA, rd_T57]
  · intro k ys
    simp only [laws_toActS.l0]
    rw [if_neg (by omega)]
theorem eq_acts (l : List Ac) (hn : l.length ≤ 1048576) : laws_eqActS.f 1048577 l l = some true := by
  unfold laws_eqActS.f
  rw [if_pos rfl]
  have key := all_loop (fun _ => true) l.length (fun k i => laws_eqActS.l0 k l l i) (by omega) 1 (by omega) ?_ ?_ ?_ l.length 1048577 0 (by omega) (by omega)
  · simp only [Int.ofNat_zero] at key
    rw [key]; simp
  · intro k i hi _
    simp only [laws_eqActS.l0]
    rw [if_pos (by omega), if_pos (by omega), if_pos (by omega)]
    simp [laws_eqAct.f]
  · intro k i hi h; cases h
  · intro k
    simp only [laws_eqActS.l0]
    rw [if_neg (by omega)]
end Go.Proofs.YtiaihdfpbgnaoaaDoor.P
