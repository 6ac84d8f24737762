/- impl.decimal returns the decimal numeral of its argument, in every world that holds the table of powers of ten. -/
import Derived.Test.YtiaihdfpbgnaoaaDoorTxt
import Derived.Test.YtiaihdfpbgnaoaaDoorShelf
import Derived.Lib.AppendIntMem
import Derived.WalkSmall
import Derived.WalkKit
namespace Go.Proofs.YtiaihdfpbgnaoaaDoor.P
open Go.RowKit Go.Proofs.YtiaihdfpbgnaoaaDoorW.PrintWords Go.Proofs.YtiaihdfpbgnaoaaDoorW.PrintLast Go.Proofs.YtiaihdfpbgnaoaaDoorW.PrintMore
set_option linter.unusedVariables false

/-- The world holds strconv's table of powers of ten. -/
structure Tab (w : World) : Prop where
  tab : Lib.TabIs Tryd.prog w "internal/strconv.uint64pow10" .u64 Lib.pow10Tab
  lt : 0 < w.heap.size
theorem globalTab : Tryd.prog.globalNamed "internal/strconv.uint64pow10" = some 0 := by kernel_rfl
theorem Tab.below {w w' : World} (h : Tab w) (hb : Below w.heap.size w w') : Tab w' :=
  ⟨var?_below hb globalTab h.lt h.tab, Nat.lt_of_lt_of_le h.lt hb.size⟩

theorem decimalGo (n : Int) (w : World) (hT : Tab w) (h0 : -9223372036854775808 ≤ n) (h1 : n ≤ 9223372036854775807) :
    Calls Tryd.prog 20 #[.int .i64 n] w fun e w' => e = .returned (.string (dec n)) ∧ Below w.heap.size w w' := by
  have hT' := Aside0.mk hT
  clear hT
  go_enter Tryd.func20, Tryd.ntmps20
  go_wp2_with (go_at_call 34; refine (Tryd.strconv_FormatInt_10 n h0 h1 _ hT'.out.tab).mono ?_; rintro e w' ⟨rfl, hw⟩; obtain ⟨k, os, hw⟩ := hw; (have hb : Below w.heap.size w w' := by rw [hw]; exact Lib.below_grow _ _ (Nat.le_refl _) k os); clear hw)
  go_ret
  exact ⟨rfl, hb⟩
end Go.Proofs.YtiaihdfpbgnaoaaDoor.P
