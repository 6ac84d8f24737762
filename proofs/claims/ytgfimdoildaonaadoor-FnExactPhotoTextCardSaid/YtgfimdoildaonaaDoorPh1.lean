/- Joined texts, in the order in which they were built alone: PbitsOnesCount64, Pop, Pop2, Pspecl00In, Pspecl05Has, Pspecl05Put, Pspecl05Full, PimplMarkshas, PimplMarkswith. -/
import Derived.Test.YtgfimdoildaonaaDoorPh0
import Derived.Laws.BitsLemmas
import Derived.Laws.Bits64
-- Written by a program of this session (a turned form of the kit's print) out of the translation.
namespace Go.Proofs.YtgfimdoildaonaaDoor.P
open Go.RowKit Go.Proofs.YtgfimdoildaonaaDoorW.PrintWords Go.Proofs.YtgfimdoildaonaaDoorW.PrintLast Go.Proofs.YtgfimdoildaonaaDoorW.PrintMore
attribute [local go_sem] max2_int min2_int max_two min_two max_three min_three max_four min_four   -- for this text's walks alone
set_option linter.unusedVariables false
set_option linter.unusedSimpArgs false

/-! ### bits_OnesCount64: function 40 -/
def bits_OnesCount64.f (a0 : Int) : Option (Int) := some (Go.bits .and .i64 (wrap64 (IntKind.u64.wrap ((IntKind.u64.wrap ((IntKind.u64.wrap ((Go.bits .and .u64 (IntKind.u64.wrap (((IntKind.u64.wrap ((Go.bits .and .u64 ((IntKind.u64.wrap ((Go.bits .and .u64 (a0 / 2) 6148914691236517205) + (Go.bits .and .u64 a0 6148914691236517205))) / 4) 3689348814741910323) + (Go.bits .and .u64 (IntKind.u64.wrap ((Go.bits .and .u64 (a0 / 2) 6148914691236517205) + (Go.bits .and .u64 a0 6148914691236517205))) 3689348814741910323))) / 16) + (IntKind.u64.wrap ((Go.bits .and .u64 ((IntKind.u64.wrap ((Go.bits .and .u64 (a0 / 2) 6148914691236517205) + (Go.bits .and .u64 a0 6148914691236517205))) / 4) 3689348814741910323) + (Go.bits .and .u64 (IntKind.u64.wrap ((Go.bits .and .u64 (a0 / 2) 6148914691236517205) + (Go.bits .and .u64 a0 6148914691236517205))) 3689348814741910323))))) 1085102592571150095) + ((Go.bits .and .u64 (IntKind.u64.wrap (((IntKind.u64.wrap ((Go.bits .and .u64 ((IntKind.u64.wrap ((Go.bits .and .u64 (a0 / 2) 6148914691236517205) + (Go.bits .and .u64 a0 6148914691236517205))) / 4) 3689348814741910323) + (Go.bits .and .u64 (IntKind.u64.wrap ((Go.bits .and .u64 (a0 / 2) 6148914691236517205) + (Go.bits .and .u64 a0 6148914691236517205))) 3689348814741910323))) / 16) + (IntKind.u64.wrap ((Go.bits .and .u64 ((IntKind.u64.wrap ((Go.bits .and .u64 (a0 / 2) 6148914691236517205) + (Go.bits .and .u64 a0 6148914691236517205))) / 4) 3689348814741910323) + (Go.bits .and .u64 (IntKind.u64.wrap ((Go.bits .and .u64 (a0 / 2) 6148914691236517205) + (Go.bits .and .u64 a0 6148914691236517205))) 3689348814741910323))))) 1085102592571150095) / 256))) + ((IntKind.u64.wrap ((Go.bits .and .u64 (IntKind.u64.wrap (((IntKind.u64.wrap ((Go.bits .and .u64 ((IntKind.u64.wrap ((Go.bits .and .u64 (a0 / 2) 6148914691236517205) + (Go.bits .and .u64 a0 6148914691236517205))) / 4) 3689348814741910323) + (Go.bits .and .u64 (IntKind.u64.wrap ((Go.bits .and .u64 (a0 / 2) 6148914691236517205) + (Go.bits .and .u64 a0 6148914691236517205))) 3689348814741910323))) / 16) + (IntKind.u64.wrap ((Go.bits .and .u64 ((IntKind.u64.wrap ((Go.bits .and .u64 (a0 / 2) 6148914691236517205) + (Go.bits .and .u64 a0 6148914691236517205))) / 4) 3689348814741910323) + (Go.bits .and .u64 (IntKind.u64.wrap ((Go.bits .and .u64 (a0 / 2) 6148914691236517205) + (Go.bits .and .u64 a0 6148914691236517205))) 3689348814741910323))))) 1085102592571150095) + ((Go.bits .and .u64 (IntKind.u64.wrap (((IntKind.u64.wrap ((Go.bits .and .u64 ((IntKind.u64.wrap ((Go.bits .and .u64 (a0 / 2) 6148914691236517205) + (Go.bits .and .u64 a0 6148914691236517205))) / 4) 3689348814741910323) + (Go.bits .and .u64 (IntKind.u64.wrap ((Go.bits .and .u64 (a0 / 2) 6148914691236517205) + (Go.bits .and .u64 a0 6148914691236517205))) 3689348814741910323))) / 16) + (IntKind.u64.wrap ((Go.bits .and .u64 ((IntKind.u64.wrap ((Go.bits .and .u64 (a0 / 2) 6148914691236517205) + (Go.bits .and .u64 a0 6148914691236517205))) / 4) 3689348814741910323) + (Go.bits .and .u64 (IntKind.u64.wrap ((Go.bits .and .u64 (a0 / 2) 6148914691236517205) + (Go.bits .and .u64 a0 6148914691236517205))) 3689348814741910323))))) 1085102592571150095) / 256))) / 65536))) + ((IntKind.u64.wrap ((IntKind.u64.wrap ((Go.bits .and .u64 (IntKind.u64.wrap (((IntKind.u64.wrap ((Go.bits .and .u64 ((IntKind.u64.wrap ((Go.bits .and .u64 (a0 / 2) 6148914691236517205) + (Go.bits .and .u64 a0 6148914691236517205))) / 4) 3689348814741910323) + (Go.bits .and .u64 (IntKind.u64.wrap ((Go.bits .and .u64 (a0 / 2) 6148914691236517205) + (Go.bits .and .u64 a0 6148914691236517205))) 3689348814741910323))) / 16) + (IntKind.u64.wrap ((Go.bits .and .u64 ((IntKind.u64.wrap ((Go.bits .and .u64 (a0 / 2) 6148914691236517205) + (Go.bits .and .u64 a0 6148914691236517205))) / 4) 3689348814741910323) + (Go.bits .and .u64 (IntKind.u64.wrap ((Go.bits .and .u64 (a0 / 2) 6148914691236517205) + (Go.bits .and .u64 a0 6148914691236517205))) 3689348814741910323))))) 1085102592571150095) + ((Go.bits .and .u64 (IntKind.u64.wrap (((IntKind.u64.wrap ((Go.bits .and .u64 ((IntKind.u64.wrap ((Go.bits .and .u64 (a0 / 2) 6148914691236517205) + (Go.bits .and .u64 a0 6148914691236517205))) / 4) 3689348814741910323) + (Go.bits .and .u64 (IntKind.u64.wrap ((Go.bits .and .u64 (a0 / 2) 6148914691236517205) + (Go.bits .and .u64 a0 6148914691236517205))) 3689348814741910323))) / 16) + (IntKind.u64.wrap ((Go.bits .and .u64 ((IntKind.u64.wrap ((Go.bits .and .u64 (a0 / 2) 6148914691236517205) + (Go.bits .and .u64 a0 6148914691236517205))) / 4) 3689348814741910323) + (Go.bits .and .u64 (IntKind.u64.wrap ((Go.bits .and .u64 (a0 / 2) 6148914691236517205) + (Go.bits .and .u64 a0 6148914691236517205))) 3689348814741910323))))) 1085102592571150095) / 256))) + ((IntKind.u64.wrap ((Go.bits .and .u64 (IntKind.u64.wrap (((IntKind.u64.wrap ((Go.bits .and .u64 ((IntKind.u64.wrap ((Go.bits .and .u64 (a0 / 2) 6148914691236517205) + (Go.bits .and .u64 a0 6148914691236517205))) / 4) 3689348814741910323) + (Go.bits .and .u64 (IntKind.u64.wrap ((Go.bits .and .u64 (a0 / 2) 6148914691236517205) + (Go.bits .and .u64 a0 6148914691236517205))) 3689348814741910323))) / 16) + (IntKind.u64.wrap ((Go.bits .and .u64 ((IntKind.u64.wrap ((Go.bits .and .u64 (a0 / 2) 6148914691236517205) + (Go.bits .and .u64 a0 6148914691236517205))) / 4) 3689348814741910323) + (Go.bits .and .u64 (IntKind.u64.wrap ((Go.bits .and .u64 (a0 / 2) 6148914691236517205) + (Go.bits .and .u64 a0 6148914691236517205))) 3689348814741910323))))) 1085102592571150095) + ((Go.bits .and .u64 (IntKind.u64.wrap (((IntKind.u64.wrap ((Go.bits .and .u64 ((IntKind.u64.wrap ((Go.bits .and .u64 (a0 / 2) 6148914691236517205) + (Go.bits .and .u64 a0 6148914691236517205))) / 4) 3689348814741910323) + (Go.bits .and .u64 (IntKind.u64.wrap ((Go.bits .and .u64 (a0 / 2) 6148914691236517205) + (Go.bits .and .u64 a0 6148914691236517205))) 3689348814741910323))) / 16) + (IntKind.u64.wrap ((Go.bits .and .u64 ((IntKind.u64.wrap ((Go.bits .and .u64 (a0 / 2) 6148914691236517205) + (Go.bits .and .u64 a0 6148914691236517205))) / 4) 3689348814741910323) + (Go.bits .and .u64 (IntKind.u64.wrap ((Go.bits .and .u64 (a0 / 2) 6148914691236517205) + (Go.bits .and .u64 a0 6148914691236517205))) 3689348814741910323))))) 1085102592571150095) / 256))) / 65536))) / 4294967296)))) 127)
set_option maxHeartbeats 8000000 in
set_option maxRecDepth 100000 in
theorem bits_OnesCount64.calls (a0 : Int) (r : Int) (w : World) (h : bits_OnesCount64.f a0 = some r) :
    Calls Tryd.prog 40 #[.int .u64 a0] w fun e w' => e = .returned (.int .i64 r) ∧ Drawn0 w w' := by
  have H : (some (Go.bits .and .i64 (wrap64 (IntKind.u64.wrap ((IntKind.u64.wrap ((IntKind.u64.wrap ((Go.bits .and .u64 (IntKind.u64.wrap (((IntKind.u64.wrap ((Go.bits .and .u64 ((IntKind.u64.wrap ((Go.bits .and .u64 (a0 / 2) 6148914691236517205) + (Go.bits .and .u64 a0 6148914691236517205))) / 4) 3689348814741910323) + (Go.bits .and .u64 (IntKind.u64.wrap ((Go.bits .and .u64 (a0 / 2) 6148914691236517205) + (Go.bits .and .u64 a0 6148914691236517205))) 3689348814741910323))) / 16) + (IntKind.u64.wrap ((Go.bits .and .u64 ((IntKind.u64.wrap ((Go.bits .and .u64 (a0 / 2) 6148914691236517205) + (Go.bits .and .u64 a0 6148914691236517205))) / 4) 3689348814741910323) + (Go.bits .and .u64 (IntKind.u64.wrap ((Go.bits .and .u64 (a0 / 2) 6148914691236517205) + (Go.bits .and .u64 a0 6148914691236517205))) 3689348814741910323))))) 1085102592571150095) + ((Go.bits .and .u64 (IntKind.u64.wrap (((IntKind.u64.wrap ((Go.bits .and .u64 ((IntKind.u64.wrap ((Go.bits .and .u64 (a0 / 2) 6148914691236517205) + (Go.bits .and .u64 a0 6148914691236517205))) / 4) 3689348814741910323) + (Go.bits .and .u64 (IntKind.u64.wrap ((Go.bits .and .u64 (a0 / 2) 6148914691236517205) + (Go.bits .and .u64 a0 6148914691236517205))) 3689348814741910323))) / 16) + (IntKind.u64.wrap ((Go.bits .and .u64 ((IntKind.u64.wrap ((Go.bits .and .u64 (a0 / 2) 6148914691236517205) + (Go.bits .and .u64 a0 6148914691236517205))) / 4) 3689348814741910323) + (Go.bits .and .u64 (IntKind.u64.wrap ((Go.bits .and .u64 (a0 / 2) 6148914691236517205) + (Go.bits .and .u64 a0 6148914691236517205))) 3689348814741910323))))) 1085102592571150095) / 256))) + ((IntKind.u64.wrap ((Go.bits .and .u64 (IntKind.u64.wrap (((IntKind.u64.wrap ((Go.bits .and .u64 ((IntKind.u64.wrap ((Go.bits .and .u64 (a0 / 2) 6148914691236517205) + (Go.bits .and .u64 a0 6148914691236517205))) / 4) 3689348814741910323) + (Go.bits .and .u64 (IntKind.u64.wrap ((Go.bits .and .u64 (a0 / 2) 6148914691236517205) + (Go.bits .and .u64 a0 6148914691236517205))) 3689348814741910323))) / 16) + (IntKind.u64.wrap ((Go.bits .and .u64 ((IntKind.u64.wrap ((Go.bits .and .u64 (a0 / 2) 6148914691236517205) + (Go.bits .and .u64 a0 6148914691236517205))) / 4) 3689348814741910323) + (Go.bits .and .u64 (IntKind.u64.wrap ((Go.bits .and .u64 (a0 / 2) 6148914691236517205) + (Go.bits .and .u64 a0 6148914691236517205))) 3689348814741910323))))) 1085102592571150095) + ((Go.bits .and .u64 (IntKind.u64.wrap (((IntKind.u64.wrap ((Go.bits .and .u64 ((IntKind.u64.wrap ((Go.bits .and .u64 (a0 / 2) 6148914691236517205) + (Go.bits .and .u64 a0 6148914691236517205))) / 4) 3689348814741910323) + (Go.bits .and .u64 (IntKind.u64.wrap ((Go.bits .and .u64 (a0 / 2) 6148914691236517205) + (Go.bits .and .u64 a0 6148914691236517205))) 3689348814741910323))) / 16) + (IntKind.u64.wrap ((Go.bits .and .u64 ((IntKind.u64.wrap ((Go.bits .and .u64 (a0 / 2) 6148914691236517205) + (Go.bits .and .u64 a0 6148914691236517205))) / 4) 3689348814741910323) + (Go.bits .and .u64 (IntKind.u64.wrap ((Go.bits .and .u64 (a0 / 2) 6148914691236517205) + (Go.bits .and .u64 a0 6148914691236517205))) 3689348814741910323))))) 1085102592571150095) / 256))) / 65536))) + ((IntKind.u64.wrap ((IntKind.u64.wrap ((Go.bits .and .u64 (IntKind.u64.wrap (((IntKind.u64.wrap ((Go.bits .and .u64 ((IntKind.u64.wrap ((Go.bits .and .u64 (a0 / 2) 6148914691236517205) + (Go.bits .and .u64 a0 6148914691236517205))) / 4) 3689348814741910323) + (Go.bits .and .u64 (IntKind.u64.wrap ((Go.bits .and .u64 (a0 / 2) 6148914691236517205) + (Go.bits .and .u64 a0 6148914691236517205))) 3689348814741910323))) / 16) + (IntKind.u64.wrap ((Go.bits .and .u64 ((IntKind.u64.wrap ((Go.bits .and .u64 (a0 / 2) 6148914691236517205) + (Go.bits .and .u64 a0 6148914691236517205))) / 4) 3689348814741910323) + (Go.bits .and .u64 (IntKind.u64.wrap ((Go.bits .and .u64 (a0 / 2) 6148914691236517205) + (Go.bits .and .u64 a0 6148914691236517205))) 3689348814741910323))))) 1085102592571150095) + ((Go.bits .and .u64 (IntKind.u64.wrap (((IntKind.u64.wrap ((Go.bits .and .u64 ((IntKind.u64.wrap ((Go.bits .and .u64 (a0 / 2) 6148914691236517205) + (Go.bits .and .u64 a0 6148914691236517205))) / 4) 3689348814741910323) + (Go.bits .and .u64 (IntKind.u64.wrap ((Go.bits .and .u64 (a0 / 2) 6148914691236517205) + (Go.bits .and .u64 a0 6148914691236517205))) 3689348814741910323))) / 16) + (IntKind.u64.wrap ((Go.bits .and .u64 ((IntKind.u64.wrap ((Go.bits .and .u64 (a0 / 2) 6148914691236517205) + (Go.bits .and .u64 a0 6148914691236517205))) / 4) 3689348814741910323) + (Go.bits .and .u64 (IntKind.u64.wrap ((Go.bits .and .u64 (a0 / 2) 6148914691236517205) + (Go.bits .and .u64 a0 6148914691236517205))) 3689348814741910323))))) 1085102592571150095) / 256))) + ((IntKind.u64.wrap ((Go.bits .and .u64 (IntKind.u64.wrap (((IntKind.u64.wrap ((Go.bits .and .u64 ((IntKind.u64.wrap ((Go.bits .and .u64 (a0 / 2) 6148914691236517205) + (Go.bits .and .u64 a0 6148914691236517205))) / 4) 3689348814741910323) + (Go.bits .and .u64 (IntKind.u64.wrap ((Go.bits .and .u64 (a0 / 2) 6148914691236517205) + (Go.bits .and .u64 a0 6148914691236517205))) 3689348814741910323))) / 16) + (IntKind.u64.wrap ((Go.bits .and .u64 ((IntKind.u64.wrap ((Go.bits .and .u64 (a0 / 2) 6148914691236517205) + (Go.bits .and .u64 a0 6148914691236517205))) / 4) 3689348814741910323) + (Go.bits .and .u64 (IntKind.u64.wrap ((Go.bits .and .u64 (a0 / 2) 6148914691236517205) + (Go.bits .and .u64 a0 6148914691236517205))) 3689348814741910323))))) 1085102592571150095) + ((Go.bits .and .u64 (IntKind.u64.wrap (((IntKind.u64.wrap ((Go.bits .and .u64 ((IntKind.u64.wrap ((Go.bits .and .u64 (a0 / 2) 6148914691236517205) + (Go.bits .and .u64 a0 6148914691236517205))) / 4) 3689348814741910323) + (Go.bits .and .u64 (IntKind.u64.wrap ((Go.bits .and .u64 (a0 / 2) 6148914691236517205) + (Go.bits .and .u64 a0 6148914691236517205))) 3689348814741910323))) / 16) + (IntKind.u64.wrap ((Go.bits .and .u64 ((IntKind.u64.wrap ((Go.bits .and .u64 (a0 / 2) 6148914691236517205) + (Go.bits .and .u64 a0 6148914691236517205))) / 4) 3689348814741910323) + (Go.bits .and .u64 (IntKind.u64.wrap ((Go.bits .and .u64 (a0 / 2) 6148914691236517205) + (Go.bits .and .u64 a0 6148914691236517205))) 3689348814741910323))))) 1085102592571150095) / 256))) / 65536))) / 4294967296)))) 127)) = some r := h
  clear h
  obtain rfl := Option.some.inj H
  go_enter Tryd.func40, Tryd.ntmps40
  go_wp2
  go_ret
  exact ⟨by first | rfl | (simp; done) | (simp [*]; done), by repeat (first | exact Drawn0.refl _ | apply Drawn0.step)⟩

end Go.Proofs.YtgfimdoildaonaaDoor.P

/- The count of one bits of 64: what bits.OnesCount64 computes is the sum of the bits. Plain Lean. -/
namespace Go.Proofs.YtgfimdoildaonaaDoor.P
open Go.RowKit Go.Proofs.YtgfimdoildaonaaDoorW.PrintWords Go.Proofs.YtgfimdoildaonaaDoorW.PrintLast Go.Proofs.YtgfimdoildaonaaDoorW.PrintMore
set_option linter.unusedVariables false
set_option linter.unusedSimpArgs false

def popN : Nat → Nat → Nat
  | 0, _ => 0
  | n + 1, x => x % 2 + popN n (x / 2)
theorem popN_le : ∀ n x, popN n x ≤ n
  | 0, _ => Nat.le_refl _
  | n + 1, x => by have := popN_le n (x / 2); unfold popN; omega
theorem popN_zero : ∀ n, popN n 0 = 0
  | 0 => rfl
  | n + 1 => by unfold popN; rw [Nat.zero_div, popN_zero n]
theorem popN_add : ∀ (j n a y : Nat), a < 2 ^ j → popN (j + n) (a + 2 ^ j * y) = popN j a + popN n y
  | 0, n, a, y, h => by have : a = 0 := by omega
                        subst this; simp [popN]
  | j + 1, n, a, y, h => by
    have e : j + 1 + n = (j + n) + 1 := by omega
    rw [e]
    show (a + 2 ^ (j + 1) * y) % 2 + popN (j + n) ((a + 2 ^ (j + 1) * y) / 2) = a % 2 + popN j (a / 2) + popN n y
    have h2 : 2 ^ (j + 1) = 2 * 2 ^ j := by rw [Nat.pow_succ]; omega
    rw [h2] at h ⊢
    have e1 : (a + 2 * 2 ^ j * y) / 2 = a / 2 + 2 ^ j * y := by rw [Nat.mul_assoc]; omega
    have e2 : (a + 2 * 2 ^ j * y) % 2 = a % 2 := by rw [Nat.mul_assoc]; omega
    rw [e1, e2, popN_add j n (a / 2) y (by omega)]
    omega

/-- A byte told n times. -/
def msk : Nat → Nat → Nat
  | 0, _ => 0
  | n + 1, c => c + 256 * msk n c
/-- A function on each of n bytes. -/
def mapB (f : Nat → Nat) : Nat → Nat → Nat
  | 0, _ => 0
  | n + 1, x => f (x % 256) + 256 * mapB f n (x / 256)
theorem mapB_succ (f : Nat → Nat) (n x : Nat) : mapB f (n + 1) x = f (x % 256) + 256 * mapB f n (x / 256) := rfl
theorem and_byte (a c y z : Nat) (ha : a < 256) (hc : c < 256) : (a + 256 * y) &&& (c + 256 * z) = (a &&& c) + 256 * (y &&& z) := by
  have hac : a &&& c < 2 ^ 8 := Nat.and_lt_two_pow _ hc
  apply Nat.eq_of_testBit_eq
  intro i
  rw [Nat.testBit_and, Nat.add_comm a, Nat.add_comm c, Nat.add_comm (a &&& c), show 256 = 2 ^ 8 from rfl, Nat.testBit_two_pow_mul_add _ ha, Nat.testBit_two_pow_mul_add _ hc, Nat.testBit_two_pow_mul_add _ hac]
  split <;> simp [Nat.testBit_and]
def fA (b : Nat) : Nat := (b / 2 &&& 85) + (b &&& 85)
def fB (b : Nat) : Nat := (b / 4 &&& 51) + (b &&& 51)
def fC (b : Nat) : Nat := b / 16 + b % 16
set_option maxRecDepth 20000 in
theorem lowA : ∀ b : Fin 256, ∀ t : Fin 2, (b.val / 2 + 128 * t.val) &&& 85 = b.val / 2 &&& 85 ∧ fA b.val < 256 := by decide +kernel
set_option maxRecDepth 20000 in
theorem lowB : ∀ b : Fin 256, ∀ t : Fin 4, (b.val / 4 + 64 * t.val) &&& 51 = b.val / 4 &&& 51 ∧ fB b.val < 256 := by decide +kernel
set_option maxRecDepth 20000 in
theorem lowC : ∀ b : Fin 256, fB (fA b.val) % 16 ≤ 4 ∧ fB (fA b.val) / 16 ≤ 4 ∧ fC (fB (fA b.val)) = popN 8 b.val := by decide +kernel
theorem and_mod16 (n : Nat) : n &&& 15 = n % 16 := Nat.and_two_pow_sub_one_eq_mod n 4
theorem stepA : ∀ n x, x < 256 ^ n → (x / 2 &&& msk n 85) + (x &&& msk n 85) = mapB fA n x
  | 0, x, h => by simp [msk, mapB]
  | n + 1, x, h => by
    have hy : x / 256 < 256 ^ n := by rw [Nat.pow_succ] at h; omega
    have ih := stepA n (x / 256) hy
    have hb : x % 256 < 256 := Nat.mod_lt _ (by decide)
    have l := lowA ⟨x % 256, hb⟩ ⟨x / 256 % 2, Nat.mod_lt _ (by decide)⟩
    dsimp only at l
    have e : x = x % 256 + 256 * (x / 256) := by omega
    have e2 : x / 2 = (x % 256 / 2 + 128 * (x / 256 % 2)) + 256 * (x / 256 / 2) := by omega
    unfold msk mapB
    generalize x / 256 = y at *
    generalize x % 256 = b at *
    rw [e2, e, and_byte _ _ _ _ (by omega) (by decide), and_byte _ _ _ _ hb (by decide), l.1]
    have hf : fA b = (b / 2 &&& 85) + (b &&& 85) := rfl
    omega
theorem stepB : ∀ n x, x < 256 ^ n → (x / 4 &&& msk n 51) + (x &&& msk n 51) = mapB fB n x
  | 0, x, h => by simp [msk, mapB]
  | n + 1, x, h => by
    have hy : x / 256 < 256 ^ n := by rw [Nat.pow_succ] at h; omega
    have ih := stepB n (x / 256) hy
    have hb : x % 256 < 256 := Nat.mod_lt _ (by decide)
    have l := lowB ⟨x % 256, hb⟩ ⟨x / 256 % 4, Nat.mod_lt _ (by decide)⟩
    dsimp only at l
    have e : x = x % 256 + 256 * (x / 256) := by omega
    have e2 : x / 4 = (x % 256 / 4 + 64 * (x / 256 % 4)) + 256 * (x / 256 / 4) := by omega
    unfold msk mapB
    generalize x / 256 = y at *
    generalize x % 256 = b at *
    rw [e2, e, and_byte _ _ _ _ (by omega) (by decide), and_byte _ _ _ _ hb (by decide), l.1]
    have hf : fB b = (b / 4 &&& 51) + (b &&& 51) := rfl
    omega
/-- Each of n bytes has both halves up to four. -/
def halves : Nat → Nat → Prop
  | 0, x => x = 0
  | n + 1, x => x % 256 % 16 ≤ 4 ∧ x % 256 / 16 ≤ 4 ∧ halves n (x / 256)
theorem halves_low : ∀ n x, halves n x → x % 16 ≤ 4
  | 0, x, h => by unfold halves at h; omega
  | n + 1, x, h => by have := h.1; omega
theorem stepC : ∀ n x, halves n x → (x / 16 + x) &&& msk n 15 = mapB fC n x
  | 0, x, h => by simp [msk, mapB]
  | n + 1, x, h => by
    obtain ⟨h1, h2, h3⟩ := h
    have ih := stepC n (x / 256) h3
    have h4 := halves_low n _ h3
    have hb : x % 256 < 256 := Nat.mod_lt _ (by decide)
    have e : x / 16 + x = (x % 256 / 16 + 16 * (x / 256 % 16) + x % 256) + 256 * (x / 256 / 16 + x / 256) := by omega
    unfold msk mapB
    rw [e, and_byte _ _ _ _ (by omega) (by decide), ih, and_mod16]
    have hf : fC (x % 256) = x % 256 / 16 + x % 256 % 16 := rfl
    omega
theorem mapB_lt (f : Nat → Nat) (hf : ∀ b, b < 256 → f b < 256) : ∀ n x, mapB f n x < 256 ^ n
  | 0, x => by simp [mapB]
  | n + 1, x => by
    have := mapB_lt f hf n (x / 256)
    have := hf (x % 256) (Nat.mod_lt _ (by decide))
    unfold mapB
    rw [Nat.pow_succ]
    omega
theorem mapB_comp (f g : Nat → Nat) (hg : ∀ b, b < 256 → g b < 256) : ∀ n x, mapB f n (mapB g n x) = mapB (fun b => f (g b)) n x
  | 0, x => rfl
  | n + 1, x => by
    have := hg (x % 256) (Nat.mod_lt _ (by decide))
    have e1 : mapB g (n + 1) x % 256 = g (x % 256) := by rw [mapB_succ]; omega
    have e2 : mapB g (n + 1) x / 256 = mapB g n (x / 256) := by rw [mapB_succ]; omega
    show f (mapB g (n + 1) x % 256) + 256 * mapB f n (mapB g (n + 1) x / 256) = _
    rw [e1, e2, mapB_comp f g hg n]
    rfl
theorem fA_lt (b : Nat) (h : b < 256) : fA b < 256 := (lowA ⟨b, h⟩ 0).2
theorem fB_lt (b : Nat) (h : b < 256) : fB b < 256 := (lowB ⟨b, h⟩ 0).2
theorem halves_BA : ∀ n x, x < 256 ^ n → halves n (mapB (fun b => fB (fA b)) n x)
  | 0, x, h => rfl
  | n + 1, x, h => by
    have hb : x % 256 < 256 := Nat.mod_lt _ (by decide)
    have l := lowC ⟨x % 256, hb⟩
    dsimp only at l
    have hlt := fB_lt _ (fA_lt _ hb)
    have e1 : mapB (fun b => fB (fA b)) (n + 1) x % 256 = fB (fA (x % 256)) := by rw [mapB_succ]; omega
    have e2 : mapB (fun b => fB (fA b)) (n + 1) x / 256 = mapB (fun b => fB (fA b)) n (x / 256) := by rw [mapB_succ]; omega
    refine ⟨by rw [e1]; exact l.1, by rw [e1]; exact l.2.1, ?_⟩
    rw [e2]
    exact halves_BA n (x / 256) (by rw [Nat.pow_succ] at h; omega)
theorem msk85 : msk 8 85 = 6148914691236517205 := by decide
theorem msk51 : msk 8 51 = 3689348814741910323 := by decide
theorem msk15 : msk 8 15 = 1085102592571150095 := by decide
theorem mapB_congr (f g : Nat → Nat) (h : ∀ b, b < 256 → f b = g b) : ∀ n x, mapB f n x = mapB g n x
  | 0, x => rfl
  | n + 1, x => by unfold mapB; rw [h _ (Nat.mod_lt _ (by decide)), mapB_congr f g h n]
/-- The three steps leave each byte's count in its place. -/
theorem swar (x : Nat) (h : x < 2 ^ 64) :
    let x1 := (x / 2 &&& 6148914691236517205) + (x &&& 6148914691236517205)
    let x2 := (x1 / 4 &&& 3689348814741910323) + (x1 &&& 3689348814741910323)
    x1 < 2 ^ 64 ∧ x2 < 2 ^ 64 ∧ x2 / 16 + x2 < 2 ^ 64 ∧ (x2 / 16 + x2) &&& 1085102592571150095 = mapB (popN 8) 8 x := by
  intro x1 x2
  have p : (256 : Nat) ^ 8 = 2 ^ 64 := by decide
  have e1 : x1 = mapB fA 8 x := by show _ = _; rw [← stepA 8 x (by omega), msk85]
  have l1 : x1 < 2 ^ 64 := by rw [e1, ← p]; exact mapB_lt _ fA_lt 8 x
  have e2 : x2 = mapB (fun b => fB (fA b)) 8 x := by
    show (x1 / 4 &&& 3689348814741910323) + (x1 &&& 3689348814741910323) = _
    rw [← msk51, stepB 8 x1 (by omega), e1, mapB_comp _ _ fA_lt]
  have l2 : x2 < 2 ^ 64 := by rw [e2, ← p]; exact mapB_lt _ (fun b hb => fB_lt _ (fA_lt _ hb)) 8 x
  have hh : halves 8 x2 := by rw [e2]; exact halves_BA 8 x (by omega)
  refine ⟨l1, l2, ?_, ?_⟩
  · unfold halves at hh
    have := hh.2.2.2.2.2.2.2
    simp only [halves] at hh
    omega
  · rw [← msk15, stepC 8 x2 hh, e2, mapB_comp _ _ (fun b hb => fB_lt _ (fA_lt _ hb))]
    exact mapB_congr _ _ (fun b hb => (lowC ⟨b, hb⟩).2.2) 8 x
end Go.Proofs.YtgfimdoildaonaaDoor.P

/- The count of one bits of 64: the last sums. Plain Lean. -/
namespace Go.Proofs.YtgfimdoildaonaaDoor.P
open Go.RowKit Go.Proofs.YtgfimdoildaonaaDoorW.PrintWords Go.Proofs.YtgfimdoildaonaaDoorW.PrintLast Go.Proofs.YtgfimdoildaonaaDoorW.PrintMore
set_option linter.unusedVariables false
set_option linter.unusedSimpArgs false
theorem popN_bytes (x : Nat) (h : x < 18446744073709551616) : ∃ c0 c1 c2 c3 c4 c5 c6 c7 : Nat, c0 ≤ 8 ∧ c1 ≤ 8 ∧ c2 ≤ 8 ∧ c3 ≤ 8 ∧ c4 ≤ 8 ∧ c5 ≤ 8 ∧ c6 ≤ 8 ∧ c7 ≤ 8 ∧
    popN 64 x = c0 + (c1 + (c2 + (c3 + (c4 + (c5 + (c6 + c7)))))) ∧ mapB (popN 8) 8 x = c0 + 256 * (c1 + 256 * (c2 + 256 * (c3 + 256 * (c4 + 256 * (c5 + 256 * (c6 + 256 * c7)))))) := by
  have e : ∀ n y, popN (8 + n) y = popN 8 (y % 256) + popN n (y / 256) := fun n y => by
    have := popN_add 8 n (y % 256) (y / 256) (Nat.mod_lt _ (by decide))
    rwa [show y % 256 + 2 ^ 8 * (y / 256) = y by omega] at this
  refine ⟨_, _, _, _, _, _, _, _, popN_le 8 (x % 256), popN_le 8 (x / 256 % 256), popN_le 8 (x / 256 / 256 % 256), popN_le 8 (x / 256 / 256 / 256 % 256), popN_le 8 (x / 256 / 256 / 256 / 256 % 256), popN_le 8 (x / 256 / 256 / 256 / 256 / 256 % 256), popN_le 8 (x / 256 / 256 / 256 / 256 / 256 / 256 % 256), popN_le 8 (x / 256 / 256 / 256 / 256 / 256 / 256 / 256 % 256), ?_, ?_⟩
  · rw [show (64 : Nat) = 8 + (8 + (8 + (8 + (8 + (8 + (8 + (8 + 0))))))) from rfl, e, e, e, e, e, e, e, e]
    rw [show ∀ y, popN 0 y = 0 from fun _ => rfl, Nat.add_zero]
  · rw [mapB_succ, mapB_succ, mapB_succ, mapB_succ, mapB_succ, mapB_succ, mapB_succ, mapB_succ]
    rw [show ∀ y, mapB (popN 8) 0 y = 0 from fun _ => rfl, Nat.mul_zero, Nat.add_zero]
theorem sum8 (c0 c1 c2 c3 c4 c5 c6 c7 z z1 z2 z3 : Nat) (l0 : c0 ≤ 8) (l1 : c1 ≤ 8) (l2 : c2 ≤ 8) (l3 : c3 ≤ 8) (l4 : c4 ≤ 8) (l5 : c5 ≤ 8) (l6 : c6 ≤ 8) (l7 : c7 ≤ 8)
    (hz : z = c0 + 256 * (c1 + 256 * (c2 + 256 * (c3 + 256 * (c4 + 256 * (c5 + 256 * (c6 + 256 * c7)))))))
    (h1 : z1 = z / 256 + z) (h2 : z2 = z1 / 65536 + z1) (h3 : z3 = z2 / 4294967296 + z2) :
    z1 < 18446744073709551616 ∧ z2 < 18446744073709551616 ∧ z3 < 9223372036854775808 ∧ z3 % 128 = c0 + (c1 + (c2 + (c3 + (c4 + (c5 + (c6 + c7)))))) := by
  have e1 : z / 256 = c1 + 256 * (c2 + 256 * (c3 + 256 * (c4 + 256 * (c5 + 256 * (c6 + 256 * c7))))) := by omega
  have f1 : z1 = (c0 + c1) + 256 * ((c1 + c2) + 256 * ((c2 + c3) + 256 * ((c3 + c4) + 256 * ((c4 + c5) + 256 * ((c5 + c6) + 256 * ((c6 + c7) + 256 * c7)))))) := by omega
  clear h1 e1 hz
  have e2 : z1 / 65536 = (c2 + c3) + 256 * ((c3 + c4) + 256 * ((c4 + c5) + 256 * ((c5 + c6) + 256 * ((c6 + c7) + 256 * c7)))) := by omega
  have f2 : z2 = (c0 + c1 + c2 + c3) + 256 * ((c1 + c2 + c3 + c4) + 256 * ((c2 + c3 + c4 + c5) + 256 * ((c3 + c4 + c5 + c6) + 256 * ((c4 + c5 + c6 + c7) + 256 * ((c5 + c6 + c7) + 256 * ((c6 + c7) + 256 * c7)))))) := by omega
  have g1 : z1 < 18446744073709551616 := by omega
  clear h2 e2 f1
  have e3 : z2 / 4294967296 = (c4 + c5 + c6 + c7) + 256 * ((c5 + c6 + c7) + 256 * ((c6 + c7) + 256 * c7)) := by omega
  have g2 : z2 < 18446744073709551616 := by omega
  have f3 : z3 = (c0 + c1 + c2 + c3 + c4 + c5 + c6 + c7) + 256 * ((c1 + c2 + c3 + c4 + c5 + c6 + c7) + 256 * ((c2 + c3 + c4 + c5 + c6 + c7) + 256 * ((c3 + c4 + c5 + c6 + c7) + 256 * ((c4 + c5 + c6 + c7) + 256 * ((c5 + c6 + c7) + 256 * ((c6 + c7) + 256 * c7)))))) := by omega
  clear h3 e3 f2
  exact ⟨g1, g2, by omega, by omega⟩
theorem pc_and (a b : Nat) (ha : a < 2 ^ 64) (hb : b < 2 ^ 64) : Go.bits .and .u64 (a : Int) (b : Int) = ((a &&& b : Nat) : Int) :=
  (bits_nat .u64 64 (by decide) (fun n h0 h1 => by rw [IntKind.wrap_u64]; omega) a b ha hb).1
theorem pc_or (a b : Nat) (ha : a < 2 ^ 64) (hb : b < 2 ^ 64) : Go.bits .or .u64 (a : Int) (b : Int) = ((a ||| b : Nat) : Int) :=
  (bits_nat .u64 64 (by decide) (fun n h0 h1 => by rw [IntKind.wrap_u64]; omega) a b ha hb).2
theorem pc_and63 (a b : Nat) (ha : a < 2 ^ 63) (hb : b < 2 ^ 63) : Go.bits .and .i64 (a : Int) (b : Int) = ((a &&& b : Nat) : Int) :=
  (bits_nat .i64 63 (by decide) (fun n h0 h1 => by rw [IntKind.wrap_i64]; omega) a b ha hb).1
theorem and127 (z : Nat) (h : z < 9223372036854775808) : Go.bits .and .i64 (z : Int) 127 = ((z % 128 : Nat) : Int) := by
  have hb := pc_and63 z 127 h (by decide)
  rw [show z &&& 127 = z % 128 from Nat.and_two_pow_sub_one_eq_mod z 7] at hb
  exact hb
set_option maxRecDepth 4000 in
set_option maxHeartbeats 1000000 in
theorem onesCount (x : Nat) (h : x < 18446744073709551616) : bits_OnesCount64.f (x : Int) = some ((popN 64 x : Nat) : Int) := by
  obtain ⟨l1, l2, l3, hs⟩ := swar x h
  obtain ⟨c0, c1, c2, c3, c4, c5, c6, c7, b0, b1, b2, b3, b4, b5, b6, b7, hp, hm⟩ := popN_bytes x h
  rw [hm] at hs
  rw [hp]
  clear hp hm
  generalize hx1 : (x / 2 &&& 6148914691236517205) + (x &&& 6148914691236517205) = x1 at *
  generalize hx2 : (x1 / 4 &&& 3689348814741910323) + (x1 &&& 3689348814741910323) = x2 at *
  obtain ⟨s1, s2, s3, hs4⟩ := sum8 c0 c1 c2 c3 c4 c5 c6 c7 _ _ _ _ b0 b1 b2 b3 b4 b5 b6 b7 hs rfl rfl rfl
  clear hs b0 b1 b2 b3 b4 b5 b6 b7
  generalize hz : (x2 / 16 + x2) &&& 1085102592571150095 = z at *
  have a1 : Go.bits .and .u64 ((x : Int) / 2) 6148914691236517205 = ((x / 2 &&& 6148914691236517205 : Nat) : Int) := pc_and (x / 2) 6148914691236517205 (by omega) (by decide)
  have a2 : Go.bits .and .u64 (x : Int) 6148914691236517205 = ((x &&& 6148914691236517205 : Nat) : Int) := pc_and x 6148914691236517205 h (by decide)
  have w1 : IntKind.u64.wrap (((x / 2 &&& 6148914691236517205 : Nat) : Int) + ((x &&& 6148914691236517205 : Nat) : Int)) = (x1 : Int) := by rw [IntKind.wrap_u64]; omega
  have a3 : Go.bits .and .u64 ((x1 : Int) / 4) 3689348814741910323 = ((x1 / 4 &&& 3689348814741910323 : Nat) : Int) := pc_and (x1 / 4) 3689348814741910323 (by omega) (by decide)
  have a4 : Go.bits .and .u64 (x1 : Int) 3689348814741910323 = ((x1 &&& 3689348814741910323 : Nat) : Int) := pc_and x1 3689348814741910323 l1 (by decide)
  have w2 : IntKind.u64.wrap (((x1 / 4 &&& 3689348814741910323 : Nat) : Int) + ((x1 &&& 3689348814741910323 : Nat) : Int)) = (x2 : Int) := by rw [IntKind.wrap_u64]; omega
  have w3 : IntKind.u64.wrap ((x2 : Int) / 16 + (x2 : Int)) = ((x2 / 16 + x2 : Nat) : Int) := by rw [IntKind.wrap_u64]; omega
  have a5 : Go.bits .and .u64 ((x2 / 16 + x2 : Nat) : Int) 1085102592571150095 = (z : Int) := by rw [← hz]; exact pc_and (x2 / 16 + x2) 1085102592571150095 l3 (by decide)
  unfold bits_OnesCount64.f
  rw [a1, a2, w1, a3, a4, w2, w3, a5]
  clear a1 a2 w1 a3 a4 w2 w3 a5 hx1 hx2 hz l1 l2 l3 h
  have w4 : IntKind.u64.wrap ((z : Int) + (z : Int) / 256) = ((z / 256 + z : Nat) : Int) := by rw [IntKind.wrap_u64]; omega
  rw [w4]
  clear w4
  generalize z / 256 + z = z1 at *
  have w5 : IntKind.u64.wrap ((z1 : Int) + (z1 : Int) / 65536) = ((z1 / 65536 + z1 : Nat) : Int) := by rw [IntKind.wrap_u64]; omega
  rw [w5]
  clear w5
  generalize z1 / 65536 + z1 = z2 at *
  have w6 : IntKind.u64.wrap ((z2 : Int) + (z2 : Int) / 4294967296) = ((z2 / 4294967296 + z2 : Nat) : Int) := by rw [IntKind.wrap_u64]; omega
  rw [w6]
  clear w6
  generalize z2 / 4294967296 + z2 = z3 at *
  have w7 : wrap64 (z3 : Int) = z3 := by unfold wrap64; omega
  rw [w7]
  rw [and127 z3 s3]
  exact congrArg some (by omega)
end Go.Proofs.YtgfimdoildaonaaDoor.P

-- Written by a program of this session (a turned form of the kit's print) out of the translation.
namespace Go.Proofs.YtgfimdoildaonaaDoor.P
open Go.RowKit Go.Proofs.YtgfimdoildaonaaDoorW.PrintWords Go.Proofs.YtgfimdoildaonaaDoorW.PrintLast Go.Proofs.YtgfimdoildaonaaDoorW.PrintMore
attribute [local go_sem] max2_int min2_int max_two min_two max_three min_three max_four min_four   -- for this text's walks alone
set_option linter.unusedVariables false
set_option linter.unusedSimpArgs false

/-! ### spec_l00In: function 49 -/
def spec_l00In.f (a0 : Int) (a1 : Int) (a2 : Int) : Option (Bool) := if a0 ≥ a1 then (some (decide (a0 ≤ a2))) else (some false)
set_option maxHeartbeats 8000000 in
set_option maxRecDepth 100000 in
theorem spec_l00In.calls (a0 : Int) (a1 : Int) (a2 : Int) (r : Bool) (w : World) (h : spec_l00In.f a0 a1 a2 = some r) :
    Calls Tryd.prog 49 #[.int .i64 a0, .int .i64 a1, .int .i64 a2] w fun e w' => e = .returned (.bool r) ∧ Drawn0 w w' := by
  have H : (if a0 ≥ a1 then (some (decide (a0 ≤ a2))) else (some false)) = some r := h
  clear h
  by_cases c4 : a0 ≥ a1
  · rw [if_pos c4] at H
    have c4b0 : decide (a1 ≤ a0) = true := decide_eq_true c4
    clear c4
    obtain rfl := Option.some.inj H
    go_enter Tryd.func49, Tryd.ntmps49
    go_wp2
    go_ret
    exact ⟨by first | rfl | (simp; done) | (simp [*]; done), by repeat (first | exact Drawn0.refl _ | apply Drawn0.step)⟩
  · rw [if_neg c4] at H
    have c4b0 : decide (a1 ≤ a0) = false := decide_eq_false c4
    clear c4
    obtain rfl := Option.some.inj H
    go_enter Tryd.func49, Tryd.ntmps49
    go_wp2
    go_ret
    exact ⟨by first | rfl | (simp; done) | (simp [*]; done), by repeat (first | exact Drawn0.refl _ | apply Drawn0.step)⟩

end Go.Proofs.YtgfimdoildaonaaDoor.P

-- Written by a program of this session (a turned form of the kit's print) out of the translation.
namespace Go.Proofs.YtgfimdoildaonaaDoor.P
open Go.RowKit Go.Proofs.YtgfimdoildaonaaDoorW.PrintWords Go.Proofs.YtgfimdoildaonaaDoorW.PrintLast Go.Proofs.YtgfimdoildaonaaDoorW.PrintMore
attribute [local go_sem] max2_int min2_int max_two min_two max_three min_three max_four min_four   -- for this text's walks alone
set_option linter.unusedVariables false
set_option linter.unusedSimpArgs false

/-! ### spec_l05Has: function 62 -/
def spec_l05Has.f (a0_0 : Int) (a0_1 : Int) (a1 : Int) : Option (Bool) := (spec_l00In.f a1 0 127).bind fun t133 => (if t133 = true then (if 0 ≤ (wrap64 (Int.tdiv a1 64)) then (if (wrap64 (Int.tdiv a1 64)) < 2 then (if 0 ≤ (IntKind.u64.wrap (Int.tmod a1 64)) then (some ((Go.bits .and .u64 (shr .u64 (nth [a0_0, a0_1] (wrap64 (Int.tdiv a1 64))) (IntKind.u64.wrap (Int.tmod a1 64))) 1) == 1)) else (none)) else (none)) else (none)) else (some false))
set_option maxHeartbeats 8000000 in
set_option maxRecDepth 100000 in
theorem spec_l05Has.calls (a0_0 : Int) (a0_1 : Int) (a1 : Int) (r : Bool) (w : World) (h : spec_l05Has.f a0_0 a0_1 a1 = some r) :
    Calls Tryd.prog 62 #[.agg #[.int .u64 a0_0, .int .u64 a0_1], .int .i64 a1] w fun e w' => e = .returned (.bool r) ∧ Below w.heap.size w w' := by
  have hu29 := Tryd.underlying29
  have HB := Aside0.mk (Below.refl w.heap.size w)
  have H : ((spec_l00In.f a1 0 127).bind fun t133 => (if t133 = true then (if 0 ≤ (wrap64 (Int.tdiv a1 64)) then (if (wrap64 (Int.tdiv a1 64)) < 2 then (if 0 ≤ (IntKind.u64.wrap (Int.tmod a1 64)) then (some ((Go.bits .and .u64 (shr .u64 (nth [a0_0, a0_1] (wrap64 (Int.tdiv a1 64))) (IntKind.u64.wrap (Int.tmod a1 64))) 1) == 1)) else (none)) else (none)) else (none)) else (some false))) = some r := h
  clear h
  replace H := Option.bind_eq_some_iff.mp H
  obtain ⟨t133, A30, H⟩ := H
  replace H : (if t133 = true then (if 0 ≤ (wrap64 (Int.tdiv a1 64)) then (if (wrap64 (Int.tdiv a1 64)) < 2 then (if 0 ≤ (IntKind.u64.wrap (Int.tmod a1 64)) then (some ((Go.bits .and .u64 (shr .u64 (nth [a0_0, a0_1] (wrap64 (Int.tdiv a1 64))) (IntKind.u64.wrap (Int.tmod a1 64))) 1) == 1)) else (none)) else (none)) else (none)) else (some false)) = some r := H
  have A3 := Aside0.mk A30
  clear A30
  by_cases c4 : t133 = true
  · subst c4
    have H1 : (if 0 ≤ (wrap64 (Int.tdiv a1 64)) then (if (wrap64 (Int.tdiv a1 64)) < 2 then (if 0 ≤ (IntKind.u64.wrap (Int.tmod a1 64)) then (some ((Go.bits .and .u64 (shr .u64 (nth [a0_0, a0_1] (wrap64 (Int.tdiv a1 64))) (IntKind.u64.wrap (Int.tmod a1 64))) 1) == 1)) else (none)) else (none)) else (none)) = some r := by rw [if_pos rfl] at H; exact H
    clear H
    have H := H1
    clear H1
    obtain ⟨ji5, hji5⟩ : ∃ j_ : Int, (wrap64 (Int.tdiv a1 64)) = j_ := ⟨_, rfl⟩
    replace H : (if 0 ≤ (ji5) then (if (ji5) < 2 then (if 0 ≤ (IntKind.u64.wrap (Int.tmod a1 64)) then (some ((Go.bits .and .u64 (shr .u64 (nth [a0_0, a0_1] (ji5)) (IntKind.u64.wrap (Int.tmod a1 64))) 1) == 1)) else (none)) else (none)) else (none)) = some r := by first | (rw [hji5] at H; exact H) | (simp only [hji5] at H ⊢; exact H)
    (try rw [hji5] at A3)
    have hji5w : (IntKind.i64.wrap (Int.tdiv a1 64)) = ji5 := (i64_w _).trans hji5
    by_cases c6 : 0 ≤ (ji5)
    · rw [if_pos c6] at H
      have c6b0 : decide (0 ≤ (ji5)) = true := decide_eq_true c6
      clear c6
      by_cases c7 : (ji5) < 2
      · rw [if_pos c7] at H
        have c7b0 : decide ((ji5) < 2) = true := decide_eq_true c7
        clear c7
        obtain ⟨ji8, hji8⟩ : ∃ j_ : Int, (IntKind.u64.wrap (Int.tmod a1 64)) = j_ := ⟨_, rfl⟩
        replace H : (if 0 ≤ (ji8) then (some ((Go.bits .and .u64 (shr .u64 (nth [a0_0, a0_1] (ji5)) (ji8)) 1) == 1)) else (none)) = some r := by first | (rw [hji8] at H; exact H) | (simp only [hji8] at H ⊢; exact H)
        (try rw [hji8] at A3)
        by_cases c9 : 0 ≤ (ji8)
        · rw [if_pos c9] at H
          have c9b0 := eq_true c9
          have c9b1 : decide (0 ≤ (ji8)) = true := decide_eq_true c9
          clear c9
          obtain ⟨ji10, hji10⟩ : ∃ j_ : Int, (shr .u64 (nth [a0_0, a0_1] (ji5)) (ji8)) = j_ := ⟨_, rfl⟩
          replace H : (some ((Go.bits .and .u64 (ji10) 1) == 1)) = some r := by first | (rw [hji10] at H; exact H) | (simp only [hji10] at H ⊢; exact H)
          (try rw [hji10] at A3)
          have hji10_ : ((nth [a0_0, a0_1] (ji5)) / 2 ^ min (ji8).toNat 64) = ji10 := hji10
          have hji10z : (ji8) ≤ 64 → ((nth [a0_0, a0_1] (ji5)) / 2 ^ (ji8).toNat) = ji10 := shr_small hji10
          obtain rfl := Option.some.inj H
          go_enter Tryd.func62, Tryd.ntmps62
          go_wp2_with (first | ((with_reducible refine gate_dst (N := 2) rfl ?_); refine box_event ?hg (N := 2) ?hd (cs := #[.int .u64 a0_0, .int .u64 a0_1]) (t := 29) ?hr ?_; (case hd => rfl); (case hg => rfl); (case hr => first | (go_simp; done) | (go_simp; rfl)); intro gb132 hg w11 hbox hb; have n0_ := Aside0.mk (below_step (by repeat (first | (with_reducible first | exact HB.out | apply below_alloc | apply pw_below_drewN | apply below_drew1) | exact HB.out)) hb); have n1_ := Aside0.mk (hbox); have n2_ := Aside0.mk ((by rw [hg]; exact (below_size (by repeat (first | (with_reducible first | exact HB.out | apply below_alloc | apply pw_below_drewN | apply below_drew1) | exact HB.out))) : w.heap.size ≤ gb132)); have n3_ := Aside0.mk ((by rw [hg]; exact (below_size (by repeat (first | (with_reducible first | exact HB.out | apply below_alloc | apply pw_below_drewN | apply below_drew1) | exact HB.out))) : w.heap.size ≤ gb132)); clear HB; have HB := n0_; have BK132 := n1_; have GW132 := n2_; have GE132 := n3_; clear n0_ n1_ n2_ n3_; clear hb hbox hg) | ((with_reducible refine gate_callee (f := 49) rfl ?_); refine goesL_ (some 6) rfl rfl Tryd.func49 (by kernel_rfl) rfl #[.int .i64 a1, .int .i64 0, .int .i64 127] rfl (by (try simp only [List.map_toArray, List.map_cons, List.map_nil]); first | done | rfl | (simp only [List.length_drop, List.length_take]; rfl)) ?_; (with_reducible refine (spec_l00In.calls a1 0 127 true _ A3.out).mono ?_); rintro e w' ⟨rfl, ⟨nd, rfl⟩⟩; refine ⟨_, rfl, ?_⟩; have hcz12_0 : w11.cell? ⟨gb132, 0, none⟩ = some (.int .u64 a0_0) := (blk_cell BK132.out 0).trans rfl; have hcz12_1 : w11.cell? ⟨gb132, 1, none⟩ = some (.int .u64 a0_1) := (blk_cell BK132.out 1).trans rfl; have hfz12_0 := blk_frozen BK132.out 0; have hfz12_1 := blk_frozen BK132.out 1; have p13 : 0 ≤ ((ji5) : Int) := of_decide_eq_true (by first | (with_reducible assumption) | assumption); have q13 : ((ji5) : Int) < 2 := of_decide_eq_true (by first | (with_reducible assumption) | assumption); have hx13_0 : w11.cell? ⟨gb132, ((ji5) : Int).toNat, none⟩ = some (.int .u64 (nth [a0_0, a0_1] (ji5))) := (blk_cell BK132.out _).trans (arr_nth .u64 [a0_0, a0_1] (ji5) 2 rfl p13 q13); replace p13 := eq_true p13; replace q13 := eq_true q13))
          go_ret
          exact ⟨by first | rfl | (simp [errW_none, errW_some] <;> rfl) | (simp only [← hji5, ← hji8, ← hji10]; first | rfl | (simp [errW_none, errW_some] <;> rfl)) | (simp [*, errW_none, errW_some] <;> rfl), by repeat (first | (with_reducible first | exact HB.out | apply below_alloc | apply pw_below_drewN | apply below_drew1 | refine below_set ?_ GE132.out) | exact HB.out)⟩
        · rw [if_neg c9] at H
          exact absurd H (by simp)
      · rw [if_neg c7] at H
        exact absurd H (by simp)
    · rw [if_neg c6] at H
      exact absurd H (by simp)
  · replace c4 := Bool.eq_false_iff.mpr c4
    subst c4
    have H1 : (some false) = some r := by rw [if_neg (show ¬ (false = true) by decide)] at H; exact H
    clear H
    have H := H1
    clear H1
    obtain rfl := Option.some.inj H
    go_enter Tryd.func62, Tryd.ntmps62
    go_wp2_with (first | ((with_reducible refine gate_dst (N := 2) rfl ?_); refine box_event ?hg (N := 2) ?hd (cs := #[.int .u64 a0_0, .int .u64 a0_1]) (t := 29) ?hr ?_; (case hd => rfl); (case hg => rfl); (case hr => first | (go_simp; done) | (go_simp; rfl)); intro gb132 hg w14 hbox hb; have n0_ := Aside0.mk (below_step (by repeat (first | (with_reducible first | exact HB.out | apply below_alloc | apply pw_below_drewN | apply below_drew1) | exact HB.out)) hb); have n1_ := Aside0.mk (hbox); have n2_ := Aside0.mk ((by rw [hg]; exact (below_size (by repeat (first | (with_reducible first | exact HB.out | apply below_alloc | apply pw_below_drewN | apply below_drew1) | exact HB.out))) : w.heap.size ≤ gb132)); have n3_ := Aside0.mk ((by rw [hg]; exact (below_size (by repeat (first | (with_reducible first | exact HB.out | apply below_alloc | apply pw_below_drewN | apply below_drew1) | exact HB.out))) : w.heap.size ≤ gb132)); clear HB; have HB := n0_; have BK132 := n1_; have GW132 := n2_; have GE132 := n3_; clear n0_ n1_ n2_ n3_; clear hb hbox hg) | ((with_reducible refine gate_callee (f := 49) rfl ?_); refine goesL_ (some 6) rfl rfl Tryd.func49 (by kernel_rfl) rfl #[.int .i64 a1, .int .i64 0, .int .i64 127] rfl (by (try simp only [List.map_toArray, List.map_cons, List.map_nil]); first | done | rfl | (simp only [List.length_drop, List.length_take]; rfl)) ?_; (with_reducible refine (spec_l00In.calls a1 0 127 false _ A3.out).mono ?_); rintro e w' ⟨rfl, ⟨nd, rfl⟩⟩; refine ⟨_, rfl, ?_⟩))
    go_ret
    exact ⟨by first | rfl | (simp [errW_none, errW_some] <;> rfl) | (simp [*, errW_none, errW_some] <;> rfl), by repeat (first | (with_reducible first | exact HB.out | apply below_alloc | apply pw_below_drewN | apply below_drew1 | refine below_set ?_ GE132.out) | exact HB.out)⟩

end Go.Proofs.YtgfimdoildaonaaDoor.P

-- Written by a program of this session (a turned form of the kit's print) out of the translation.
namespace Go.Proofs.YtgfimdoildaonaaDoor.P
open Go.RowKit Go.Proofs.YtgfimdoildaonaaDoorW.PrintWords Go.Proofs.YtgfimdoildaonaaDoorW.PrintLast Go.Proofs.YtgfimdoildaonaaDoorW.PrintMore
attribute [local go_sem] max2_int min2_int max_two min_two max_three min_three max_four min_four   -- for this text's walks alone
set_option linter.unusedVariables false
set_option linter.unusedSimpArgs false

/-! ### spec_l05Put: function 71 -/
def spec_l05Put.f (a0_0 : Int) (a0_1 : Int) (a1 : Int) : Option (Int × Int) := if 0 ≤ (wrap64 (Int.tdiv a1 64)) then (if (wrap64 (Int.tdiv a1 64)) < 2 then (if 0 ≤ (IntKind.u64.wrap (Int.tmod a1 64)) then (some (sel 0 (wrap64 (Int.tdiv a1 64)) (Go.bits .or .u64 (nth [a0_0, a0_1] (wrap64 (Int.tdiv a1 64))) (shl .u64 1 (IntKind.u64.wrap (Int.tmod a1 64)))) a0_0, sel 1 (wrap64 (Int.tdiv a1 64)) (Go.bits .or .u64 (nth [a0_0, a0_1] (wrap64 (Int.tdiv a1 64))) (shl .u64 1 (IntKind.u64.wrap (Int.tmod a1 64)))) a0_1)) else (none)) else (none)) else (none)
set_option maxHeartbeats 8000000 in
set_option maxRecDepth 100000 in
theorem spec_l05Put.calls (a0_0 : Int) (a0_1 : Int) (a1 : Int) (r1 : Int) (r2 : Int) (w : World) (h : spec_l05Put.f a0_0 a0_1 a1 = some (r1, r2)) :
    Calls Tryd.prog 71 #[.agg #[.int .u64 a0_0, .int .u64 a0_1], .int .i64 a1] w fun e w' => e = .returned (.agg #[.int .u64 r1, .int .u64 r2]) ∧ Below w.heap.size w w' := by
  have hu29 := Tryd.underlying29
  have HB := Aside0.mk (Below.refl w.heap.size w)
  have H : (if 0 ≤ (wrap64 (Int.tdiv a1 64)) then (if (wrap64 (Int.tdiv a1 64)) < 2 then (if 0 ≤ (IntKind.u64.wrap (Int.tmod a1 64)) then (some (sel 0 (wrap64 (Int.tdiv a1 64)) (Go.bits .or .u64 (nth [a0_0, a0_1] (wrap64 (Int.tdiv a1 64))) (shl .u64 1 (IntKind.u64.wrap (Int.tmod a1 64)))) a0_0, sel 1 (wrap64 (Int.tdiv a1 64)) (Go.bits .or .u64 (nth [a0_0, a0_1] (wrap64 (Int.tdiv a1 64))) (shl .u64 1 (IntKind.u64.wrap (Int.tmod a1 64)))) a0_1)) else (none)) else (none)) else (none)) = some (r1, r2) := h
  clear h
  obtain ⟨ji3, hji3⟩ : ∃ j_ : Int, (wrap64 (Int.tdiv a1 64)) = j_ := ⟨_, rfl⟩
  replace H : (if 0 ≤ (ji3) then (if (ji3) < 2 then (if 0 ≤ (IntKind.u64.wrap (Int.tmod a1 64)) then (some (sel 0 (ji3) (Go.bits .or .u64 (nth [a0_0, a0_1] (ji3)) (shl .u64 1 (IntKind.u64.wrap (Int.tmod a1 64)))) a0_0, sel 1 (ji3) (Go.bits .or .u64 (nth [a0_0, a0_1] (ji3)) (shl .u64 1 (IntKind.u64.wrap (Int.tmod a1 64)))) a0_1)) else (none)) else (none)) else (none)) = some (r1, r2) := by first | (rw [hji3] at H; exact H) | (simp only [hji3] at H ⊢; exact H)
  have hji3w : (IntKind.i64.wrap (Int.tdiv a1 64)) = ji3 := (i64_w _).trans hji3
  by_cases c4 : 0 ≤ (ji3)
  · rw [if_pos c4] at H
    have c4b0 : decide (0 ≤ (ji3)) = true := decide_eq_true c4
    clear c4
    by_cases c5 : (ji3) < 2
    · rw [if_pos c5] at H
      have c5b0 : decide ((ji3) < 2) = true := decide_eq_true c5
      clear c5
      obtain ⟨ji6, hji6⟩ : ∃ j_ : Int, (IntKind.u64.wrap (Int.tmod a1 64)) = j_ := ⟨_, rfl⟩
      replace H : (if 0 ≤ (ji6) then (some (sel 0 (ji3) (Go.bits .or .u64 (nth [a0_0, a0_1] (ji3)) (shl .u64 1 (ji6))) a0_0, sel 1 (ji3) (Go.bits .or .u64 (nth [a0_0, a0_1] (ji3)) (shl .u64 1 (ji6))) a0_1)) else (none)) = some (r1, r2) := by first | (rw [hji6] at H; exact H) | (simp only [hji6] at H ⊢; exact H)
      by_cases c7 : 0 ≤ (ji6)
      · rw [if_pos c7] at H
        have c7b0 := eq_true c7
        have c7b1 : decide (0 ≤ (ji6)) = true := decide_eq_true c7
        clear c7
        obtain ⟨ji8, hji8⟩ : ∃ j_ : Int, (shl .u64 1 (ji6)) = j_ := ⟨_, rfl⟩
        replace H : (some (sel 0 (ji3) (Go.bits .or .u64 (nth [a0_0, a0_1] (ji3)) (ji8)) a0_0, sel 1 (ji3) (Go.bits .or .u64 (nth [a0_0, a0_1] (ji3)) (ji8)) a0_1)) = some (r1, r2) := by first | (rw [hji8] at H; exact H) | (simp only [hji8] at H ⊢; exact H)
        have hji8_ : (IntKind.u64.wrap (1 * 2 ^ min (ji6).toNat 64)) = ji8 := hji8
        have hji8z : (ji6) ≤ 64 → (IntKind.u64.wrap (1 * 2 ^ (ji6).toNat)) = ji8 := shl_small hji8
        have hji8u : (IntKind.u64.wrap (2 ^ min (ji6).toNat 64)) = ji8 := by have h_ := hji8_; rw [Int.one_mul] at h_; exact h_
        have hji8v : (ji6) ≤ 64 → (IntKind.u64.wrap (2 ^ (ji6).toNat)) = ji8 := fun hle_ => by have h_ := hji8z hle_; rw [Int.one_mul] at h_; exact h_
        simp only [Option.some.injEq, Prod.mk.injEq] at H
        obtain ⟨rfl, rfl⟩ := H
        go_enter Tryd.func71, Tryd.ntmps71
        go_wp2_with (first | ((with_reducible refine gate_dst (N := 2) rfl ?_); refine box_event ?hg (N := 2) ?hd (cs := #[.int .u64 a0_0, .int .u64 a0_1]) (t := 29) ?hr ?_; (case hd => rfl); (case hg => rfl); (case hr => first | (go_simp; done) | (go_simp; rfl)); intro gb109 hg w9 hbox hb; have n0_ := Aside0.mk (below_step (by repeat (first | (with_reducible first | exact HB.out | apply below_alloc | apply pw_below_drewN | apply below_drew1) | exact HB.out)) hb); have n1_ := Aside0.mk (hbox); have n2_ := Aside0.mk ((by rw [hg]; exact (below_size (by repeat (first | (with_reducible first | exact HB.out | apply below_alloc | apply pw_below_drewN | apply below_drew1) | exact HB.out))) : w.heap.size ≤ gb109)); have n3_ := Aside0.mk ((by rw [hg]; exact (below_size (by repeat (first | (with_reducible first | exact HB.out | apply below_alloc | apply pw_below_drewN | apply below_drew1) | exact HB.out))) : w.heap.size ≤ gb109)); clear HB; have HB := n0_; have BK109 := n1_; have GW109 := n2_; have GE109 := n3_; clear n0_ n1_ n2_ n3_; clear hb hbox hg) | ((with_reducible refine gate_dst (N := 4) rfl ?_); refine box_event ?hg (N := 4) ?hd (cs := #[.int .u64 0, .int .u64 0]) (t := 29) ?hr ?_; (case hd => rfl); (case hg => rfl); (case hr => first | (go_simp; done) | (go_simp; rfl)); intro gb110 hg w10 hbox hb; have n0_ := Aside0.mk (blk_below (g := gb109) (o := .cells #[.int .u64 a0_0, .int .u64 a0_1] 29 (0, 0)) (by (with_reducible repeat (first | refine blk_drewN ?_ _ | refine blk_drew ?_ | refine blk_alloc ?_ _)); exact BK109.out) hb); have n1_ := Aside0.mk (below_step (by repeat (first | (with_reducible first | exact HB.out | apply below_alloc | apply pw_below_drewN | apply below_drew1 | refine below_set ?_ GE109.out) | exact HB.out)) hb); have n2_ := Aside0.mk (hbox); have n3_ := Aside0.mk ((by rw [hg]; exact (below_size (by repeat (first | (with_reducible first | exact HB.out | apply below_alloc | apply pw_below_drewN | apply below_drew1 | refine below_set ?_ GE109.out) | exact HB.out))) : w.heap.size ≤ gb110)); have n4_ := Aside0.mk ((by rw [hg]; exact (below_size (by repeat (first | (with_reducible first | exact HB.out | apply below_alloc | apply pw_below_drewN | apply below_drew1 | refine below_set ?_ GE109.out) | exact HB.out))) : w.heap.size ≤ gb110)); have n5_ := Aside0.mk ((by rw [hg]; exact Nat.ne_of_lt (blk_lt (g := gb109) (o := .cells #[.int .u64 a0_0, .int .u64 a0_1] 29 (0, 0)) (by (with_reducible repeat (first | refine blk_drewN ?_ _ | refine blk_drew ?_ | refine blk_alloc ?_ _)); exact BK109.out)) : gb109 ≠ gb110)); have n6_ := Aside0.mk ((by rw [hg]; exact Nat.ne_of_gt (blk_lt (g := gb109) (o := .cells #[.int .u64 a0_0, .int .u64 a0_1] 29 (0, 0)) (by (with_reducible repeat (first | refine blk_drewN ?_ _ | refine blk_drew ?_ | refine blk_alloc ?_ _)); exact BK109.out)) : gb110 ≠ gb109)); clear BK109; clear HB; have BK109 := n0_; have HB := n1_; have BK110 := n2_; have GW110 := n3_; have GE110 := n4_; have NB109_110 := n5_; have NB110_109 := n6_; clear n0_ n1_ n2_ n3_ n4_ n5_ n6_; clear hb hbox hg; have hnb11 := NB109_110.out; have hnc11 := NB110_109.out; have hcz12_0 : w10.cell? ⟨gb109, 0, none⟩ = some (.int .u64 a0_0) := (blk_cell BK109.out 0).trans rfl; have hcz12_1 : w10.cell? ⟨gb109, 1, none⟩ = some (.int .u64 a0_1) := (blk_cell BK109.out 1).trans rfl; have hfz12_0 := blk_frozen BK109.out 0; have hfz12_1 := blk_frozen BK109.out 1; have p13 : 0 ≤ ((ji3) : Int) := of_decide_eq_true (by first | (with_reducible assumption) | assumption); have q13 : ((ji3) : Int) < 2 := of_decide_eq_true (by first | (with_reducible assumption) | assumption); have hx13_0 : w10.cell? ⟨gb109, ((ji3) : Int).toNat, none⟩ = some (.int .u64 (nth [a0_0, a0_1] (ji3))) := (blk_cell BK109.out _).trans (arr_nth .u64 [a0_0, a0_1] (ji3) 2 rfl p13 q13); replace p13 := eq_true p13; replace q13 := eq_true q13; have p14 : 0 ≤ ((ji3) : Int) := of_decide_eq_true (by first | (with_reducible assumption) | assumption); have q14 : ((ji3) : Int) < 2 := of_decide_eq_true (by first | (with_reducible assumption) | assumption); have hx14_0 : w10.cell? ⟨gb109, ((ji3) : Int).toNat, none⟩ = some (.int .u64 (nth [a0_0, a0_1] (ji3))) := (blk_cell BK109.out _).trans (arr_nth .u64 [a0_0, a0_1] (ji3) 2 rfl p14 q14); have hf14_0 : w10.frozen? ⟨gb109, ((ji3) : Int).toNat, none⟩ = false := blk_frozen BK109.out _; have HP14 := Aside0.mk p14; have HQ14 := Aside0.mk q14; replace p14 := eq_true p14; replace q14 := eq_true q14) | ((with_reducible refine gate_store (t := 23) (p := 14) rfl ?_); refine store_event (t := 23) (p := 14) (v := ?vo_w15) (w1 := (w10.setCell ⟨gb109, ((ji3) : Int).toNat, none⟩ (.int .u64 (Go.bits .or .u64 (nth [a0_0, a0_1] (ji3)) (ji8))))) ?hg ?ho ?hn ?hr ?_; (case ho => rfl); (case hg => rfl); (case hn => rfl); (case hr => first | (go_simp; done) | (go_simp; rfl)); intro w15 hw; have n0_ : Aside0 (w15.heap[gb110]? = some (.cells #[.int .u64 0, .int .u64 0] 29 (0, 0))) := ⟨(by rw [hw]; exact (blk_far (BK110.out) NB110_109.out _))⟩; have n1_ : Aside0 (w15.heap[gb109]? = some (.cells #[.int .u64 (sel 0 (ji3) (Go.bits .or .u64 (nth [a0_0, a0_1] (ji3)) (ji8)) a0_0), .int .u64 (sel 1 (ji3) (Go.bits .or .u64 (nth [a0_0, a0_1] (ji3)) (ji8)) a0_1)] 29 (0, 0))) := ⟨(by rw [hw]; exact (blk_putv .u64 [a0_0, a0_1] (ji3) (Go.bits .or .u64 (nth [a0_0, a0_1] (ji3)) (ji8)) BK109.out HP14.out))⟩; have n2_ : Aside0 (Below w.heap.size w w15) := ⟨(by rw [hw]; exact (below_set (HB.out) GE109.out))⟩; clear hw; clear BK110; clear BK109; clear HB; have BK110 := n0_; have BK109 := n1_; have HB := n2_; clear n0_ n1_ n2_; have hcz16_0 : w15.cell? ⟨gb109, 0, none⟩ = some (.int .u64 (sel 0 (ji3) (Go.bits .or .u64 (nth [a0_0, a0_1] (ji3)) (ji8)) a0_0)) := (blk_cell BK109.out 0).trans rfl; have hcz16_1 : w15.cell? ⟨gb109, 1, none⟩ = some (.int .u64 (sel 1 (ji3) (Go.bits .or .u64 (nth [a0_0, a0_1] (ji3)) (ji8)) a0_1)) := (blk_cell BK109.out 1).trans rfl; have hfz16_0 := blk_frozen BK109.out 0; have hfz16_1 := blk_frozen BK109.out 1; have hcz17_0 : w15.cell? ⟨gb110, 0, none⟩ = some (.int .u64 0) := (blk_cell BK110.out 0).trans rfl; have hcz17_1 : w15.cell? ⟨gb110, 1, none⟩ = some (.int .u64 0) := (blk_cell BK110.out 1).trans rfl; have hfz17_0 := blk_frozen BK110.out 0; have hfz17_1 := blk_frozen BK110.out 1))
        refine bodyPost_ret (results_cell_row rfl _ _ gb110 29 #[.int .u64 (sel 0 (ji3) (Go.bits .or .u64 (nth [a0_0, a0_1] (ji3)) (ji8)) a0_0), .int .u64 (sel 1 (ji3) (Go.bits .or .u64 (nth [a0_0, a0_1] (ji3)) (ji8)) a0_1)] (0, 0) _ rfl (by (with_reducible repeat (first | refine blk_drewN ?_ _ | refine blk_drew ?_ | refine blk_alloc ?_ _)); refine blk_put (cs := #[.int .u64 (sel 0 (ji3) (Go.bits .or .u64 (nth [a0_0, a0_1] (ji3)) (ji8)) a0_0), .int .u64 0]) ?_ 1 _ rfl; (with_reducible repeat (first | refine blk_drewN ?_ _ | refine blk_drew ?_ | refine blk_alloc ?_ _)); refine blk_put (cs := #[.int .u64 0, .int .u64 0]) ?_ 0 _ rfl; (with_reducible repeat (first | refine blk_drewN ?_ _ | refine blk_drew ?_ | refine blk_alloc ?_ _)); exact BK110.out) Tryd.underlying29 rfl (by kernel_rfl)) rfl ?_
        exact ⟨by first | rfl | (simp [errW_none, errW_some] <;> rfl) | (simp only [← hji3, ← hji6, ← hji8]; first | rfl | (simp [errW_none, errW_some] <;> rfl)) | (simp [*, errW_none, errW_some] <;> rfl), by repeat (first | (with_reducible first | exact HB.out | apply below_alloc | apply pw_below_drewN | apply below_drew1 | refine below_set ?_ GE109.out | refine below_set ?_ GE110.out) | exact HB.out)⟩
      · rw [if_neg c7] at H
        exact absurd H (by simp)
    · rw [if_neg c5] at H
      exact absurd H (by simp)
  · rw [if_neg c4] at H
    exact absurd H (by simp)

end Go.Proofs.YtgfimdoildaonaaDoor.P

-- Written by a program of this session (a turned form of the kit's print) out of the translation.
namespace Go.Proofs.YtgfimdoildaonaaDoor.P
open Go.RowKit Go.Proofs.YtgfimdoildaonaaDoorW.PrintWords Go.Proofs.YtgfimdoildaonaaDoorW.PrintLast Go.Proofs.YtgfimdoildaonaaDoorW.PrintMore
attribute [local go_sem] max2_int min2_int max_two min_two max_three min_three max_four min_four   -- for this text's walks alone
set_option linter.unusedVariables false
set_option linter.unusedSimpArgs false

/-! ### spec_l05Full: function 61 -/
def spec_l05Full.l0 : Nat → Int → Int → Int → Int → Option (Int × Int)
  | 0, _, _, _, _ => none
  | k + 1, x0, x4, x113000, x113001 => if x4 < (wrap64 (x0)) then ((spec_l05Put.f x113000 x113001 x4).bind fun bt113 => (spec_l05Full.l0 k x0 (wrap64 (x4 + 1)) bt113.1 bt113.2)) else (some (x113000, x113001))
def spec_l05Full.f (k : Nat) (a0 : Int) : Option (Int × Int) := spec_l05Full.l0 k a0 0 0 0
theorem spec_l05Full.mono_l : ∀ k, (∀ y0 y1 y2 y3, LeO (spec_l05Full.l0 k y0 y1 y2 y3) (spec_l05Full.l0 (k + 1) y0 y1 y2 y3))
  | 0 => fun _ _ _ _ r h => by simp [spec_l05Full.l0] at h
  | k + 1 => by
    have ih0 := spec_l05Full.mono_l k
    · intro y0 y1 y2 y3
      unfold spec_l05Full.l0
      repeat' first
      | (with_reducible exact ih0 _ _ _ _)
      | (with_reducible exact LeO.refl _)
      | (with_reducible exact LeO.none _)
      | (with_reducible refine LeO.ite ?_ ?_)
      | (with_reducible refine LeO.bind ?_ (fun _ => ?_))
      | exact ih0 _ _ _ _
      | exact LeO.none _
      | refine LeO.ite ?_ ?_
      | refine LeO.bind ?_ (fun _ => ?_)
theorem spec_l05Full.mono : ∀ a0 k, LeO (spec_l05Full.f k a0) (spec_l05Full.f (k + 1) a0) := by
  intro a0 k
  have ih0 := spec_l05Full.mono_l k
  unfold spec_l05Full.f
  repeat' first
      | (with_reducible exact ih0 _ _ _ _)
      | (with_reducible exact LeO.refl _)
      | (with_reducible exact LeO.none _)
      | (with_reducible refine LeO.ite ?_ ?_)
      | (with_reducible refine LeO.bind ?_ (fun _ => ?_))
      | exact ih0 _ _ _ _
      | exact LeO.none _
      | refine LeO.ite ?_ ?_
      | refine LeO.bind ?_ (fun _ => ?_)
set_option maxHeartbeats 8000000 in
set_option maxRecDepth 100000 in
theorem spec_l05Full.calls (k : Nat) (a0 : Int) (r1 : Int) (r2 : Int) (w : World) (h : spec_l05Full.f k a0 = some (r1, r2)) :
    Calls Tryd.prog 61 #[.int .u8 a0] w fun e w' => e = .returned (.agg #[.int .u64 r1, .int .u64 r2]) ∧ Below w.heap.size w w' := by
  have hu29 := Tryd.underlying29
  have HB := Aside0.mk (Below.refl w.heap.size w)
  have H : (spec_l05Full.l0 k a0 0 0 0) = some (r1, r2) := h
  clear h
  have H' := Aside0.mk H
  clear H
  go_enter Tryd.func61, Tryd.ntmps61
  go_wp2_with (first | ((with_reducible refine gate_dst (N := 2) rfl ?_); refine box_event ?hg (N := 2) ?hd (cs := #[.int .u64 0, .int .u64 0]) (t := 29) ?hr ?_; (case hd => rfl); (case hg => rfl); (case hr => first | (go_simp; done) | (go_simp; rfl)); intro gb111 hg w2 hbox hb; have n0_ := Aside0.mk (below_step (by repeat (first | (with_reducible first | exact HB.out | apply below_alloc | apply pw_below_drewN | apply below_drew1) | exact HB.out)) hb); have n1_ := Aside0.mk (hbox); have n2_ := Aside0.mk ((by rw [hg]; exact (below_size (by repeat (first | (with_reducible first | exact HB.out | apply below_alloc | apply pw_below_drewN | apply below_drew1) | exact HB.out))) : w.heap.size ≤ gb111)); have n3_ := Aside0.mk ((by rw [hg]; exact (below_size (by repeat (first | (with_reducible first | exact HB.out | apply below_alloc | apply pw_below_drewN | apply below_drew1) | exact HB.out))) : w.heap.size ≤ gb111)); clear HB; have HB := n0_; have BK111 := n1_; have GW111 := n2_; have GE111 := n3_; clear n0_ n1_ n2_ n3_; clear hb hbox hg) | ((with_reducible refine gate_dst (N := 3) rfl ?_); refine box_event ?hg (N := 3) ?hd (cs := #[.int .u64 0, .int .u64 0]) (t := 29) ?hr ?_; (case hd => rfl); (case hg => rfl); (case hr => first | (go_simp; done) | (go_simp; rfl)); intro gb112 hg w3 hbox hb; have n0_ := Aside0.mk (blk_below (g := gb111) (o := .cells #[.int .u64 0, .int .u64 0] 29 (0, 0)) (by (with_reducible repeat (first | refine blk_drewN ?_ _ | refine blk_drew ?_ | refine blk_alloc ?_ _)); exact BK111.out) hb); have n1_ := Aside0.mk (below_step (by repeat (first | (with_reducible first | exact HB.out | apply below_alloc | apply pw_below_drewN | apply below_drew1 | refine below_set ?_ GE111.out) | exact HB.out)) hb); have n2_ := Aside0.mk (hbox); have n3_ := Aside0.mk ((by rw [hg]; exact (below_size (by repeat (first | (with_reducible first | exact HB.out | apply below_alloc | apply pw_below_drewN | apply below_drew1 | refine below_set ?_ GE111.out) | exact HB.out))) : w.heap.size ≤ gb112)); have n4_ := Aside0.mk ((by rw [hg]; exact (below_size (by repeat (first | (with_reducible first | exact HB.out | apply below_alloc | apply pw_below_drewN | apply below_drew1 | refine below_set ?_ GE111.out) | exact HB.out))) : w.heap.size ≤ gb112)); have n5_ := Aside0.mk ((by rw [hg]; exact Nat.ne_of_lt (blk_lt (g := gb111) (o := .cells #[.int .u64 0, .int .u64 0] 29 (0, 0)) (by (with_reducible repeat (first | refine blk_drewN ?_ _ | refine blk_drew ?_ | refine blk_alloc ?_ _)); exact BK111.out)) : gb111 ≠ gb112)); have n6_ := Aside0.mk ((by rw [hg]; exact Nat.ne_of_gt (blk_lt (g := gb111) (o := .cells #[.int .u64 0, .int .u64 0] 29 (0, 0)) (by (with_reducible repeat (first | refine blk_drewN ?_ _ | refine blk_drew ?_ | refine blk_alloc ?_ _)); exact BK111.out)) : gb112 ≠ gb111)); clear BK111; clear HB; have BK111 := n0_; have HB := n1_; have BK112 := n2_; have GW112 := n3_; have GE112 := n4_; have NB111_112 := n5_; have NB112_111 := n6_; clear n0_ n1_ n2_ n3_ n4_ n5_ n6_; clear hb hbox hg; have hnb4 := NB112_111.out; have hnc4 := NB111_112.out; have hcz5_0 : w3.cell? ⟨gb112, 0, none⟩ = some (.int .u64 0) := (blk_cell BK112.out 0).trans rfl; have hcz5_1 : w3.cell? ⟨gb112, 1, none⟩ = some (.int .u64 0) := (blk_cell BK112.out 1).trans rfl; have hfz5_0 := blk_frozen BK112.out 0; have hfz5_1 := blk_frozen BK112.out 1))
  go_loopg [4] k (fun kq v4 w' => ∃ (x4_1 : Int) (x113000_1 : Int) (x113001_1 : Int), v4 = .int .i64 x4_1 ∧ Aside0 (spec_l05Full.l0 kq a0 x4_1 x113000_1 x113001_1 = some (r1, r2)) ∧ Aside0 (kq ≤ k) ∧ Aside0 (w'.heap[gb111]? = some (.cells #[.int .u64 0, .int .u64 0] 29 (0, 0))) ∧ Aside0 (w'.heap[gb112]? = some (.cells #[.int .u64 x113000_1, .int .u64 x113001_1] 29 (0, 0))) ∧ Aside0 (Below w.heap.size w w'))
  case atStart => exact ⟨(0), (0), (0), (by first | rfl | (simp; done) | (simp [*]; done)), H', ⟨Nat.le_refl _⟩, ⟨by (with_reducible repeat (first | refine blk_drewN ?_ _ | refine blk_drew ?_ | refine blk_alloc ?_ _)); refine blk_far ?_ NB111_112.out _; (with_reducible repeat (first | refine blk_drewN ?_ _ | refine blk_drew ?_ | refine blk_alloc ?_ _)); refine blk_far ?_ NB111_112.out _; (with_reducible repeat (first | refine blk_drewN ?_ _ | refine blk_drew ?_ | refine blk_alloc ?_ _)); exact BK111.out⟩, ⟨by (with_reducible repeat (first | refine blk_drewN ?_ _ | refine blk_drew ?_ | refine blk_alloc ?_ _)); refine blk_put (cs := #[.int .u64 0, .int .u64 0]) ?_ 1 _ rfl; (with_reducible repeat (first | refine blk_drewN ?_ _ | refine blk_drew ?_ | refine blk_alloc ?_ _)); refine blk_put (cs := #[.int .u64 0, .int .u64 0]) ?_ 0 _ rfl; (with_reducible repeat (first | refine blk_drewN ?_ _ | refine blk_drew ?_ | refine blk_alloc ?_ _)); exact BK112.out⟩, ⟨by repeat (first | (with_reducible first | exact HB.out | apply below_alloc | apply pw_below_drewN | apply below_drew1 | refine below_set ?_ GE111.out | refine below_set ?_ GE112.out) | exact HB.out)⟩⟩
  case round =>
    clear H'
    try clear p2
    try clear c4
    try clear hcz5_0
    try clear hcz5_1
    try clear hfz5_0
    try clear hfz5_1
    obtain ⟨x4_1, x113000_1, x113001_1, rfl, HA, HK1, BK111, BK112, HB⟩ := hrel
    cases gk with
    | zero => exact absurd HA.out (by simp [spec_l05Full.l0])
    | succ k1 =>
      have H := HA.out
      clear HA
      simp only [spec_l05Full.l0] at H
      by_cases c6 : x4_1 < (wrap64 (a0))
      · rw [if_pos c6] at H
        have c6b0 : decide (x4_1 < (wrap64 (a0))) = true := decide_eq_true c6
        clear c6
        replace H := Option.bind_eq_some_iff.mp H
        obtain ⟨⟨t113, t114⟩, A70, H⟩ := H
        replace H : (spec_l05Full.l0 k1 a0 (wrap64 (x4_1 + 1)) t113 t114) = some (r1, r2) := H
        have A7 := Aside0.mk A70
        clear A70
        have H' := Aside0.mk H
        clear H
        have hnb8 := NB112_111.out
        have hnc8 := NB111_112.out
        have hcz9_0 : wr.cell? ⟨gb112, 0, none⟩ = some (.int .u64 x113000_1) := (blk_cell BK112.out 0).trans rfl
        have hcz9_1 : wr.cell? ⟨gb112, 1, none⟩ = some (.int .u64 x113001_1) := (blk_cell BK112.out 1).trans rfl
        have hfz9_0 := blk_frozen BK112.out 0
        have hfz9_1 := blk_frozen BK112.out 1
        go_wp2_with (first | ((with_reducible refine gate_callee (f := 71) rfl ?_); refine goesL_ (some 14) rfl rfl Tryd.func71 (by kernel_rfl) rfl #[.agg #[.int .u64 x113000_1, .int .u64 x113001_1], .int .i64 x4_1] rfl (by (try simp only [List.map_toArray, List.map_cons, List.map_nil]); first | done | rfl | (simp only [List.length_drop, List.length_take]; rfl)) ?_; (with_reducible refine (spec_l05Put.calls x113000_1 x113001_1 x4_1 t113 t114 _ A7.out).mono ?_); rintro e w10 ⟨rfl, hb⟩; refine ⟨_, rfl, ?_⟩; have n0_ := Aside0.mk (blk_below (g := gb111) (o := .cells #[.int .u64 0, .int .u64 0] 29 (0, 0)) (by (with_reducible repeat (first | refine blk_drewN ?_ _ | refine blk_drew ?_ | refine blk_alloc ?_ _)); exact BK111.out) hb); have n1_ := Aside0.mk (blk_below (g := gb112) (o := .cells #[.int .u64 x113000_1, .int .u64 x113001_1] 29 (0, 0)) (by (with_reducible repeat (first | refine blk_drewN ?_ _ | refine blk_drew ?_ | refine blk_alloc ?_ _)); exact BK112.out) hb); have n2_ := Aside0.mk (below_step (by repeat (first | (with_reducible first | exact HB.out | apply below_alloc | apply pw_below_drewN | apply below_drew1 | refine below_set ?_ GE111.out | refine below_set ?_ GE112.out) | exact HB.out)) hb); clear BK111; clear BK112; clear HB; have BK111 := n0_; have BK112 := n1_; have HB := n2_; clear n0_ n1_ n2_; (try clear hb); (try clear hb2); (try clear hk); (try clear hi); have hcz11_0 : w10.cell? ⟨gb112, 0, none⟩ = some (.int .u64 x113000_1) := (blk_cell BK112.out 0).trans rfl; have hcz11_1 : w10.cell? ⟨gb112, 1, none⟩ = some (.int .u64 x113001_1) := (blk_cell BK112.out 1).trans rfl; have hfz11_0 := blk_frozen BK112.out 0; have hfz11_1 := blk_frozen BK112.out 1))
        go_roundg k1
        case measure => have := HK1.out; omega
        case rel => exact ⟨(wrap64 (x4_1 + 1)), (t113), (t114), (by first | rfl | (simp; done) | (simp [*]; done)), H', ⟨by have := HK1.out; omega⟩, ⟨by (with_reducible repeat (first | refine blk_drewN ?_ _ | refine blk_drew ?_ | refine blk_alloc ?_ _)); refine blk_far ?_ NB111_112.out _; (with_reducible repeat (first | refine blk_drewN ?_ _ | refine blk_drew ?_ | refine blk_alloc ?_ _)); refine blk_far ?_ NB111_112.out _; (with_reducible repeat (first | refine blk_drewN ?_ _ | refine blk_drew ?_ | refine blk_alloc ?_ _)); exact BK111.out⟩, ⟨by (with_reducible repeat (first | refine blk_drewN ?_ _ | refine blk_drew ?_ | refine blk_alloc ?_ _)); refine blk_put (cs := #[.int .u64 t113, .int .u64 x113001_1]) ?_ 1 _ rfl; (with_reducible repeat (first | refine blk_drewN ?_ _ | refine blk_drew ?_ | refine blk_alloc ?_ _)); refine blk_put (cs := #[.int .u64 x113000_1, .int .u64 x113001_1]) ?_ 0 _ rfl; (with_reducible repeat (first | refine blk_drewN ?_ _ | refine blk_drew ?_ | refine blk_alloc ?_ _)); exact BK112.out⟩, ⟨by repeat (first | (with_reducible first | exact HB.out | apply below_alloc | apply pw_below_drewN | apply below_drew1 | refine below_set ?_ GE111.out | refine below_set ?_ GE112.out) | exact HB.out)⟩⟩
      · rw [if_neg c6] at H
        have c6b0 : decide (x4_1 < (wrap64 (a0))) = false := decide_eq_false c6
        clear c6
        simp only [Option.some.injEq, Prod.mk.injEq] at H
        obtain ⟨rfl, rfl⟩ := H
        have hnb12 := NB112_111.out
        have hnc12 := NB111_112.out
        have hcz13_0 : wr.cell? ⟨gb112, 0, none⟩ = some (.int .u64 x113000_1) := (blk_cell BK112.out 0).trans rfl
        have hcz13_1 : wr.cell? ⟨gb112, 1, none⟩ = some (.int .u64 x113001_1) := (blk_cell BK112.out 1).trans rfl
        have hfz13_0 := blk_frozen BK112.out 0
        have hfz13_1 := blk_frozen BK112.out 1
        have hcz14_0 : wr.cell? ⟨gb111, 0, none⟩ = some (.int .u64 0) := (blk_cell BK111.out 0).trans rfl
        have hcz14_1 : wr.cell? ⟨gb111, 1, none⟩ = some (.int .u64 0) := (blk_cell BK111.out 1).trans rfl
        have hfz14_0 := blk_frozen BK111.out 0
        have hfz14_1 := blk_frozen BK111.out 1
        go_wp2
        refine bodyPost_ret (results_cell_row rfl _ _ gb111 29 #[.int .u64 x113000_1, .int .u64 x113001_1] (0, 0) _ rfl (by (with_reducible repeat (first | refine blk_drewN ?_ _ | refine blk_drew ?_ | refine blk_alloc ?_ _)); refine blk_put (cs := #[.int .u64 x113000_1, .int .u64 0]) ?_ 1 _ rfl; (with_reducible repeat (first | refine blk_drewN ?_ _ | refine blk_drew ?_ | refine blk_alloc ?_ _)); refine blk_put (cs := #[.int .u64 0, .int .u64 0]) ?_ 0 _ rfl; (with_reducible repeat (first | refine blk_drewN ?_ _ | refine blk_drew ?_ | refine blk_alloc ?_ _)); exact BK111.out) Tryd.underlying29 rfl (by kernel_rfl)) rfl ?_
        exact ⟨by first | rfl | (simp [errW_none, errW_some] <;> rfl) | (simp [*, errW_none, errW_some] <;> rfl), by repeat (first | (with_reducible first | exact HB.out | apply below_alloc | apply pw_below_drewN | apply below_drew1 | refine below_set ?_ GE111.out | refine below_set ?_ GE112.out) | exact HB.out)⟩

end Go.Proofs.YtgfimdoildaonaaDoor.P

-- Written by a program of this session (a turned form of the kit's print) out of the translation.
namespace Go.Proofs.YtgfimdoildaonaaDoor.P
open Go.RowKit Go.Proofs.YtgfimdoildaonaaDoorW.PrintWords Go.Proofs.YtgfimdoildaonaaDoorW.PrintLast Go.Proofs.YtgfimdoildaonaaDoorW.PrintMore
attribute [local go_sem] max2_int min2_int max_two min_two max_three min_three max_four min_four   -- for this text's walks alone
set_option linter.unusedVariables false
set_option linter.unusedSimpArgs false

/-! ### impl_Marks_has: function 41 -/
def impl_Marks_has.f (a0_0 : Int) (a0_1 : Int) (a1 : Int) : Option (Bool) := if 0 ≤ (wrap64 (Int.tdiv a1 64)) then (if (wrap64 (Int.tdiv a1 64)) < 2 then (if 0 ≤ (Int.tmod a1 64) then (some ((Go.bits .and .u64 (shr .u64 (nth [a0_0, a0_1] (wrap64 (Int.tdiv a1 64))) (Int.tmod a1 64)) 1) == 1)) else (none)) else (none)) else (none)
set_option maxHeartbeats 8000000 in
set_option maxRecDepth 100000 in
theorem impl_Marks_has.calls (a0_0 : Int) (a0_1 : Int) (a1 : Int) (r : Bool) (w : World) (h : impl_Marks_has.f a0_0 a0_1 a1 = some r) :
    Calls Tryd.prog 41 #[.agg #[.int .u64 a0_0, .int .u64 a0_1], .int .i64 a1] w fun e w' => e = .returned (.bool r) ∧ Below w.heap.size w w' := by
  have hu29 := Tryd.underlying29
  have HB := Aside0.mk (Below.refl w.heap.size w)
  have H : (if 0 ≤ (wrap64 (Int.tdiv a1 64)) then (if (wrap64 (Int.tdiv a1 64)) < 2 then (if 0 ≤ (Int.tmod a1 64) then (some ((Go.bits .and .u64 (shr .u64 (nth [a0_0, a0_1] (wrap64 (Int.tdiv a1 64))) (Int.tmod a1 64)) 1) == 1)) else (none)) else (none)) else (none)) = some r := h
  clear h
  obtain ⟨ji3, hji3⟩ : ∃ j_ : Int, (wrap64 (Int.tdiv a1 64)) = j_ := ⟨_, rfl⟩
  replace H : (if 0 ≤ (ji3) then (if (ji3) < 2 then (if 0 ≤ (Int.tmod a1 64) then (some ((Go.bits .and .u64 (shr .u64 (nth [a0_0, a0_1] (ji3)) (Int.tmod a1 64)) 1) == 1)) else (none)) else (none)) else (none)) = some r := by first | (rw [hji3] at H; exact H) | (simp only [hji3] at H ⊢; exact H)
  have hji3w : (IntKind.i64.wrap (Int.tdiv a1 64)) = ji3 := (i64_w _).trans hji3
  by_cases c4 : 0 ≤ (ji3)
  · rw [if_pos c4] at H
    have c4b0 : decide (0 ≤ (ji3)) = true := decide_eq_true c4
    clear c4
    by_cases c5 : (ji3) < 2
    · rw [if_pos c5] at H
      have c5b0 : decide ((ji3) < 2) = true := decide_eq_true c5
      clear c5
      obtain ⟨ji6, hji6⟩ : ∃ j_ : Int, (Int.tmod a1 64) = j_ := ⟨_, rfl⟩
      replace H : (if 0 ≤ (ji6) then (some ((Go.bits .and .u64 (shr .u64 (nth [a0_0, a0_1] (ji3)) (ji6)) 1) == 1)) else (none)) = some r := by first | (rw [hji6] at H; exact H) | (simp only [hji6] at H ⊢; exact H)
      by_cases c7 : 0 ≤ (ji6)
      · rw [if_pos c7] at H
        have c7b0 := eq_true c7
        have c7b1 : decide (0 ≤ (ji6)) = true := decide_eq_true c7
        clear c7
        obtain ⟨ji8, hji8⟩ : ∃ j_ : Int, (shr .u64 (nth [a0_0, a0_1] (ji3)) (ji6)) = j_ := ⟨_, rfl⟩
        replace H : (some ((Go.bits .and .u64 (ji8) 1) == 1)) = some r := by first | (rw [hji8] at H; exact H) | (simp only [hji8] at H ⊢; exact H)
        have hji8_ : ((nth [a0_0, a0_1] (ji3)) / 2 ^ min (ji6).toNat 64) = ji8 := hji8
        have hji8z : (ji6) ≤ 64 → ((nth [a0_0, a0_1] (ji3)) / 2 ^ (ji6).toNat) = ji8 := shr_small hji8
        obtain rfl := Option.some.inj H
        go_enter Tryd.func41, Tryd.ntmps41
        go_wp2_with (first | ((with_reducible refine gate_dst (N := 2) rfl ?_); refine box_event ?hg (N := 2) ?hd (cs := #[.int .u64 a0_0, .int .u64 a0_1]) (t := 29) ?hr ?_; (case hd => rfl); (case hg => rfl); (case hr => first | (go_simp; done) | (go_simp; rfl)); intro gb169 hg w9 hbox hb; have n0_ := Aside0.mk (below_step (by repeat (first | (with_reducible first | exact HB.out | apply below_alloc | apply pw_below_drewN | apply below_drew1) | exact HB.out)) hb); have n1_ := Aside0.mk (hbox); have n2_ := Aside0.mk ((by rw [hg]; exact (below_size (by repeat (first | (with_reducible first | exact HB.out | apply below_alloc | apply pw_below_drewN | apply below_drew1) | exact HB.out))) : w.heap.size ≤ gb169)); have n3_ := Aside0.mk ((by rw [hg]; exact (below_size (by repeat (first | (with_reducible first | exact HB.out | apply below_alloc | apply pw_below_drewN | apply below_drew1) | exact HB.out))) : w.heap.size ≤ gb169)); clear HB; have HB := n0_; have BK169 := n1_; have GW169 := n2_; have GE169 := n3_; clear n0_ n1_ n2_ n3_; clear hb hbox hg; have hcz10_0 : w9.cell? ⟨gb169, 0, none⟩ = some (.int .u64 a0_0) := (blk_cell BK169.out 0).trans rfl; have hcz10_1 : w9.cell? ⟨gb169, 1, none⟩ = some (.int .u64 a0_1) := (blk_cell BK169.out 1).trans rfl; have hfz10_0 := blk_frozen BK169.out 0; have hfz10_1 := blk_frozen BK169.out 1; have p11 : 0 ≤ ((ji3) : Int) := of_decide_eq_true (by first | (with_reducible assumption) | assumption); have q11 : ((ji3) : Int) < 2 := of_decide_eq_true (by first | (with_reducible assumption) | assumption); have hx11_0 : w9.cell? ⟨gb169, ((ji3) : Int).toNat, none⟩ = some (.int .u64 (nth [a0_0, a0_1] (ji3))) := (blk_cell BK169.out _).trans (arr_nth .u64 [a0_0, a0_1] (ji3) 2 rfl p11 q11); replace p11 := eq_true p11; replace q11 := eq_true q11))
        go_ret
        exact ⟨by first | rfl | (simp [errW_none, errW_some] <;> rfl) | (simp only [← hji3, ← hji6, ← hji8]; first | rfl | (simp [errW_none, errW_some] <;> rfl)) | (simp [*, errW_none, errW_some] <;> rfl), by repeat (first | (with_reducible first | exact HB.out | apply below_alloc | apply pw_below_drewN | apply below_drew1 | refine below_set ?_ GE169.out) | exact HB.out)⟩
      · rw [if_neg c7] at H
        exact absurd H (by simp)
    · rw [if_neg c5] at H
      exact absurd H (by simp)
  · rw [if_neg c4] at H
    exact absurd H (by simp)

end Go.Proofs.YtgfimdoildaonaaDoor.P

-- Written by a program of this session (a turned form of the kit's print) out of the translation.
namespace Go.Proofs.YtgfimdoildaonaaDoor.P
open Go.RowKit Go.Proofs.YtgfimdoildaonaaDoorW.PrintWords Go.Proofs.YtgfimdoildaonaaDoorW.PrintLast Go.Proofs.YtgfimdoildaonaaDoorW.PrintMore
attribute [local go_sem] max2_int min2_int max_two min_two max_three min_three max_four min_four   -- for this text's walks alone
set_option linter.unusedVariables false
set_option linter.unusedSimpArgs false

/-! ### impl_Marks_with: function 72 -/
def impl_Marks_with.f (a0_0 : Int) (a0_1 : Int) (a1 : Int) (a2 : Bool) : Option (Int × Int) := if 0 ≤ (Int.tmod a1 64) then (if a2 = true then (if 0 ≤ (wrap64 (Int.tdiv a1 64)) then (if (wrap64 (Int.tdiv a1 64)) < 2 then (some (sel 0 (wrap64 (Int.tdiv a1 64)) (Go.bits .or .u64 (nth [a0_0, a0_1] (wrap64 (Int.tdiv a1 64))) (shl .u64 1 (Int.tmod a1 64))) a0_0, sel 1 (wrap64 (Int.tdiv a1 64)) (Go.bits .or .u64 (nth [a0_0, a0_1] (wrap64 (Int.tdiv a1 64))) (shl .u64 1 (Int.tmod a1 64))) a0_1)) else (none)) else (none)) else (if 0 ≤ (wrap64 (Int.tdiv a1 64)) then (if (wrap64 (Int.tdiv a1 64)) < 2 then (some (sel 0 (wrap64 (Int.tdiv a1 64)) (Go.bits .andNot .u64 (nth [a0_0, a0_1] (wrap64 (Int.tdiv a1 64))) (shl .u64 1 (Int.tmod a1 64))) a0_0, sel 1 (wrap64 (Int.tdiv a1 64)) (Go.bits .andNot .u64 (nth [a0_0, a0_1] (wrap64 (Int.tdiv a1 64))) (shl .u64 1 (Int.tmod a1 64))) a0_1)) else (none)) else (none))) else (none)
set_option maxHeartbeats 8000000 in
set_option maxRecDepth 100000 in
theorem impl_Marks_with.calls (a0_0 : Int) (a0_1 : Int) (a1 : Int) (a2 : Bool) (r1 : Int) (r2 : Int) (w : World) (h : impl_Marks_with.f a0_0 a0_1 a1 a2 = some (r1, r2)) :
    Calls Tryd.prog 72 #[.agg #[.int .u64 a0_0, .int .u64 a0_1], .int .i64 a1, .bool a2] w fun e w' => e = .returned (.agg #[.int .u64 r1, .int .u64 r2]) ∧ Below w.heap.size w w' := by
  have hu29 := Tryd.underlying29
  have HB := Aside0.mk (Below.refl w.heap.size w)
  have H : (if 0 ≤ (Int.tmod a1 64) then (if a2 = true then (if 0 ≤ (wrap64 (Int.tdiv a1 64)) then (if (wrap64 (Int.tdiv a1 64)) < 2 then (some (sel 0 (wrap64 (Int.tdiv a1 64)) (Go.bits .or .u64 (nth [a0_0, a0_1] (wrap64 (Int.tdiv a1 64))) (shl .u64 1 (Int.tmod a1 64))) a0_0, sel 1 (wrap64 (Int.tdiv a1 64)) (Go.bits .or .u64 (nth [a0_0, a0_1] (wrap64 (Int.tdiv a1 64))) (shl .u64 1 (Int.tmod a1 64))) a0_1)) else (none)) else (none)) else (if 0 ≤ (wrap64 (Int.tdiv a1 64)) then (if (wrap64 (Int.tdiv a1 64)) < 2 then (some (sel 0 (wrap64 (Int.tdiv a1 64)) (Go.bits .andNot .u64 (nth [a0_0, a0_1] (wrap64 (Int.tdiv a1 64))) (shl .u64 1 (Int.tmod a1 64))) a0_0, sel 1 (wrap64 (Int.tdiv a1 64)) (Go.bits .andNot .u64 (nth [a0_0, a0_1] (wrap64 (Int.tdiv a1 64))) (shl .u64 1 (Int.tmod a1 64))) a0_1)) else (none)) else (none))) else (none)) = some (r1, r2) := h
  clear h
  obtain ⟨ji4, hji4⟩ : ∃ j_ : Int, (Int.tmod a1 64) = j_ := ⟨_, rfl⟩
  replace H : (if 0 ≤ (ji4) then (if a2 = true then (if 0 ≤ (wrap64 (Int.tdiv a1 64)) then (if (wrap64 (Int.tdiv a1 64)) < 2 then (some (sel 0 (wrap64 (Int.tdiv a1 64)) (Go.bits .or .u64 (nth [a0_0, a0_1] (wrap64 (Int.tdiv a1 64))) (shl .u64 1 (ji4))) a0_0, sel 1 (wrap64 (Int.tdiv a1 64)) (Go.bits .or .u64 (nth [a0_0, a0_1] (wrap64 (Int.tdiv a1 64))) (shl .u64 1 (ji4))) a0_1)) else (none)) else (none)) else (if 0 ≤ (wrap64 (Int.tdiv a1 64)) then (if (wrap64 (Int.tdiv a1 64)) < 2 then (some (sel 0 (wrap64 (Int.tdiv a1 64)) (Go.bits .andNot .u64 (nth [a0_0, a0_1] (wrap64 (Int.tdiv a1 64))) (shl .u64 1 (ji4))) a0_0, sel 1 (wrap64 (Int.tdiv a1 64)) (Go.bits .andNot .u64 (nth [a0_0, a0_1] (wrap64 (Int.tdiv a1 64))) (shl .u64 1 (ji4))) a0_1)) else (none)) else (none))) else (none)) = some (r1, r2) := by first | (rw [hji4] at H; exact H) | (simp only [hji4] at H ⊢; exact H)
  by_cases c5 : 0 ≤ (ji4)
  · rw [if_pos c5] at H
    have c5b0 := eq_true c5
    have c5b1 : decide (0 ≤ (ji4)) = true := decide_eq_true c5
    clear c5
    obtain ⟨ji6, hji6⟩ : ∃ j_ : Int, (shl .u64 1 (ji4)) = j_ := ⟨_, rfl⟩
    replace H : (if a2 = true then (if 0 ≤ (wrap64 (Int.tdiv a1 64)) then (if (wrap64 (Int.tdiv a1 64)) < 2 then (some (sel 0 (wrap64 (Int.tdiv a1 64)) (Go.bits .or .u64 (nth [a0_0, a0_1] (wrap64 (Int.tdiv a1 64))) (ji6)) a0_0, sel 1 (wrap64 (Int.tdiv a1 64)) (Go.bits .or .u64 (nth [a0_0, a0_1] (wrap64 (Int.tdiv a1 64))) (ji6)) a0_1)) else (none)) else (none)) else (if 0 ≤ (wrap64 (Int.tdiv a1 64)) then (if (wrap64 (Int.tdiv a1 64)) < 2 then (some (sel 0 (wrap64 (Int.tdiv a1 64)) (Go.bits .andNot .u64 (nth [a0_0, a0_1] (wrap64 (Int.tdiv a1 64))) (ji6)) a0_0, sel 1 (wrap64 (Int.tdiv a1 64)) (Go.bits .andNot .u64 (nth [a0_0, a0_1] (wrap64 (Int.tdiv a1 64))) (ji6)) a0_1)) else (none)) else (none))) = some (r1, r2) := by first | (rw [hji6] at H; exact H) | (simp only [hji6] at H ⊢; exact H)
    have hji6_ : (IntKind.u64.wrap (1 * 2 ^ min (ji4).toNat 64)) = ji6 := hji6
    have hji6z : (ji4) ≤ 64 → (IntKind.u64.wrap (1 * 2 ^ (ji4).toNat)) = ji6 := shl_small hji6
    have hji6u : (IntKind.u64.wrap (2 ^ min (ji4).toNat 64)) = ji6 := by have h_ := hji6_; rw [Int.one_mul] at h_; exact h_
    have hji6v : (ji4) ≤ 64 → (IntKind.u64.wrap (2 ^ (ji4).toNat)) = ji6 := fun hle_ => by have h_ := hji6z hle_; rw [Int.one_mul] at h_; exact h_
    by_cases c7 : a2 = true
    · subst c7
      have H1 : (if 0 ≤ (wrap64 (Int.tdiv a1 64)) then (if (wrap64 (Int.tdiv a1 64)) < 2 then (some (sel 0 (wrap64 (Int.tdiv a1 64)) (Go.bits .or .u64 (nth [a0_0, a0_1] (wrap64 (Int.tdiv a1 64))) (ji6)) a0_0, sel 1 (wrap64 (Int.tdiv a1 64)) (Go.bits .or .u64 (nth [a0_0, a0_1] (wrap64 (Int.tdiv a1 64))) (ji6)) a0_1)) else (none)) else (none)) = some (r1, r2) := by rw [if_pos rfl] at H; exact H
      clear H
      have H := H1
      clear H1
      obtain ⟨ji8, hji8⟩ : ∃ j_ : Int, (wrap64 (Int.tdiv a1 64)) = j_ := ⟨_, rfl⟩
      replace H : (if 0 ≤ (ji8) then (if (ji8) < 2 then (some (sel 0 (ji8) (Go.bits .or .u64 (nth [a0_0, a0_1] (ji8)) (ji6)) a0_0, sel 1 (ji8) (Go.bits .or .u64 (nth [a0_0, a0_1] (ji8)) (ji6)) a0_1)) else (none)) else (none)) = some (r1, r2) := by first | (rw [hji8] at H; exact H) | (simp only [hji8] at H ⊢; exact H)
      have hji8w : (IntKind.i64.wrap (Int.tdiv a1 64)) = ji8 := (i64_w _).trans hji8
      by_cases c9 : 0 ≤ (ji8)
      · rw [if_pos c9] at H
        have c9b0 : decide (0 ≤ (ji8)) = true := decide_eq_true c9
        clear c9
        by_cases c10 : (ji8) < 2
        · rw [if_pos c10] at H
          have c10b0 : decide ((ji8) < 2) = true := decide_eq_true c10
          clear c10
          simp only [Option.some.injEq, Prod.mk.injEq] at H
          obtain ⟨rfl, rfl⟩ := H
          go_enter Tryd.func72, Tryd.ntmps72
          go_wp2_with (first | ((with_reducible refine gate_dst (N := 3) rfl ?_); refine box_event ?hg (N := 3) ?hd (cs := #[.int .u64 a0_0, .int .u64 a0_1]) (t := 29) ?hr ?_; (case hd => rfl); (case hg => rfl); (case hr => first | (go_simp; done) | (go_simp; rfl)); intro gb157 hg w11 hbox hb; have n0_ := Aside0.mk (below_step (by repeat (first | (with_reducible first | exact HB.out | apply below_alloc | apply pw_below_drewN | apply below_drew1) | exact HB.out)) hb); have n1_ := Aside0.mk (hbox); have n2_ := Aside0.mk ((by rw [hg]; exact (below_size (by repeat (first | (with_reducible first | exact HB.out | apply below_alloc | apply pw_below_drewN | apply below_drew1) | exact HB.out))) : w.heap.size ≤ gb157)); have n3_ := Aside0.mk ((by rw [hg]; exact (below_size (by repeat (first | (with_reducible first | exact HB.out | apply below_alloc | apply pw_below_drewN | apply below_drew1) | exact HB.out))) : w.heap.size ≤ gb157)); clear HB; have HB := n0_; have BK157 := n1_; have GW157 := n2_; have GE157 := n3_; clear n0_ n1_ n2_ n3_; clear hb hbox hg) | ((with_reducible refine gate_dst (N := 6) rfl ?_); refine box_event ?hg (N := 6) ?hd (cs := #[.int .u64 0, .int .u64 0]) (t := 29) ?hr ?_; (case hd => rfl); (case hg => rfl); (case hr => first | (go_simp; done) | (go_simp; rfl)); intro gb158 hg w12 hbox hb; have n0_ := Aside0.mk (blk_below (g := gb157) (o := .cells #[.int .u64 a0_0, .int .u64 a0_1] 29 (0, 0)) (by (with_reducible repeat (first | refine blk_drewN ?_ _ | refine blk_drew ?_ | refine blk_alloc ?_ _)); exact BK157.out) hb); have n1_ := Aside0.mk (below_step (by repeat (first | (with_reducible first | exact HB.out | apply below_alloc | apply pw_below_drewN | apply below_drew1 | refine below_set ?_ GE157.out) | exact HB.out)) hb); have n2_ := Aside0.mk (hbox); have n3_ := Aside0.mk ((by rw [hg]; exact (below_size (by repeat (first | (with_reducible first | exact HB.out | apply below_alloc | apply pw_below_drewN | apply below_drew1 | refine below_set ?_ GE157.out) | exact HB.out))) : w.heap.size ≤ gb158)); have n4_ := Aside0.mk ((by rw [hg]; exact (below_size (by repeat (first | (with_reducible first | exact HB.out | apply below_alloc | apply pw_below_drewN | apply below_drew1 | refine below_set ?_ GE157.out) | exact HB.out))) : w.heap.size ≤ gb158)); have n5_ := Aside0.mk ((by rw [hg]; exact Nat.ne_of_lt (blk_lt (g := gb157) (o := .cells #[.int .u64 a0_0, .int .u64 a0_1] 29 (0, 0)) (by (with_reducible repeat (first | refine blk_drewN ?_ _ | refine blk_drew ?_ | refine blk_alloc ?_ _)); exact BK157.out)) : gb157 ≠ gb158)); have n6_ := Aside0.mk ((by rw [hg]; exact Nat.ne_of_gt (blk_lt (g := gb157) (o := .cells #[.int .u64 a0_0, .int .u64 a0_1] 29 (0, 0)) (by (with_reducible repeat (first | refine blk_drewN ?_ _ | refine blk_drew ?_ | refine blk_alloc ?_ _)); exact BK157.out)) : gb158 ≠ gb157)); clear BK157; clear HB; have BK157 := n0_; have HB := n1_; have BK158 := n2_; have GW158 := n3_; have GE158 := n4_; have NB157_158 := n5_; have NB158_157 := n6_; clear n0_ n1_ n2_ n3_ n4_ n5_ n6_; clear hb hbox hg; have hnb13 := NB157_158.out; have hnc13 := NB158_157.out; have hcz14_0 : w12.cell? ⟨gb157, 0, none⟩ = some (.int .u64 a0_0) := (blk_cell BK157.out 0).trans rfl; have hcz14_1 : w12.cell? ⟨gb157, 1, none⟩ = some (.int .u64 a0_1) := (blk_cell BK157.out 1).trans rfl; have hfz14_0 := blk_frozen BK157.out 0; have hfz14_1 := blk_frozen BK157.out 1; have p15 : 0 ≤ ((ji8) : Int) := of_decide_eq_true (by first | (with_reducible assumption) | assumption); have q15 : ((ji8) : Int) < 2 := of_decide_eq_true (by first | (with_reducible assumption) | assumption); have hx15_0 : w12.cell? ⟨gb157, ((ji8) : Int).toNat, none⟩ = some (.int .u64 (nth [a0_0, a0_1] (ji8))) := (blk_cell BK157.out _).trans (arr_nth .u64 [a0_0, a0_1] (ji8) 2 rfl p15 q15); replace p15 := eq_true p15; replace q15 := eq_true q15; have p16 : 0 ≤ ((ji8) : Int) := of_decide_eq_true (by first | (with_reducible assumption) | assumption); have q16 : ((ji8) : Int) < 2 := of_decide_eq_true (by first | (with_reducible assumption) | assumption); have hx16_0 : w12.cell? ⟨gb157, ((ji8) : Int).toNat, none⟩ = some (.int .u64 (nth [a0_0, a0_1] (ji8))) := (blk_cell BK157.out _).trans (arr_nth .u64 [a0_0, a0_1] (ji8) 2 rfl p16 q16); have hf16_0 : w12.frozen? ⟨gb157, ((ji8) : Int).toNat, none⟩ = false := blk_frozen BK157.out _; have HP16 := Aside0.mk p16; have HQ16 := Aside0.mk q16; replace p16 := eq_true p16; replace q16 := eq_true q16) | ((with_reducible refine gate_store (t := 23) (p := 18) rfl ?_); refine store_event (t := 23) (p := 18) (v := ?vo_w17) (w1 := (w12.setCell ⟨gb157, ((ji8) : Int).toNat, none⟩ (.int .u64 (Go.bits .or .u64 (nth [a0_0, a0_1] (ji8)) (ji6))))) ?hg ?ho ?hn ?hr ?_; (case ho => rfl); (case hg => rfl); (case hn => rfl); (case hr => first | (go_simp; done) | (go_simp; rfl)); intro w17 hw; have n0_ : Aside0 (w17.heap[gb158]? = some (.cells #[.int .u64 0, .int .u64 0] 29 (0, 0))) := ⟨(by rw [hw]; exact (blk_far (BK158.out) NB158_157.out _))⟩; have n1_ : Aside0 (w17.heap[gb157]? = some (.cells #[.int .u64 (sel 0 (ji8) (Go.bits .or .u64 (nth [a0_0, a0_1] (ji8)) (ji6)) a0_0), .int .u64 (sel 1 (ji8) (Go.bits .or .u64 (nth [a0_0, a0_1] (ji8)) (ji6)) a0_1)] 29 (0, 0))) := ⟨(by rw [hw]; exact (blk_putv .u64 [a0_0, a0_1] (ji8) (Go.bits .or .u64 (nth [a0_0, a0_1] (ji8)) (ji6)) BK157.out HP16.out))⟩; have n2_ : Aside0 (Below w.heap.size w w17) := ⟨(by rw [hw]; exact (below_set (HB.out) GE157.out))⟩; clear hw; clear BK158; clear BK157; clear HB; have BK158 := n0_; have BK157 := n1_; have HB := n2_; clear n0_ n1_ n2_; have hcz18_0 : w17.cell? ⟨gb157, 0, none⟩ = some (.int .u64 (sel 0 (ji8) (Go.bits .or .u64 (nth [a0_0, a0_1] (ji8)) (ji6)) a0_0)) := (blk_cell BK157.out 0).trans rfl; have hcz18_1 : w17.cell? ⟨gb157, 1, none⟩ = some (.int .u64 (sel 1 (ji8) (Go.bits .or .u64 (nth [a0_0, a0_1] (ji8)) (ji6)) a0_1)) := (blk_cell BK157.out 1).trans rfl; have hfz18_0 := blk_frozen BK157.out 0; have hfz18_1 := blk_frozen BK157.out 1; have hcz19_0 : w17.cell? ⟨gb158, 0, none⟩ = some (.int .u64 0) := (blk_cell BK158.out 0).trans rfl; have hcz19_1 : w17.cell? ⟨gb158, 1, none⟩ = some (.int .u64 0) := (blk_cell BK158.out 1).trans rfl; have hfz19_0 := blk_frozen BK158.out 0; have hfz19_1 := blk_frozen BK158.out 1))
          refine bodyPost_ret (results_cell_row rfl _ _ gb158 29 #[.int .u64 (sel 0 (ji8) (Go.bits .or .u64 (nth [a0_0, a0_1] (ji8)) (ji6)) a0_0), .int .u64 (sel 1 (ji8) (Go.bits .or .u64 (nth [a0_0, a0_1] (ji8)) (ji6)) a0_1)] (0, 0) _ rfl (by (with_reducible repeat (first | refine blk_drewN ?_ _ | refine blk_drew ?_ | refine blk_alloc ?_ _)); refine blk_put (cs := #[.int .u64 (sel 0 (ji8) (Go.bits .or .u64 (nth [a0_0, a0_1] (ji8)) (ji6)) a0_0), .int .u64 0]) ?_ 1 _ rfl; (with_reducible repeat (first | refine blk_drewN ?_ _ | refine blk_drew ?_ | refine blk_alloc ?_ _)); refine blk_put (cs := #[.int .u64 0, .int .u64 0]) ?_ 0 _ rfl; (with_reducible repeat (first | refine blk_drewN ?_ _ | refine blk_drew ?_ | refine blk_alloc ?_ _)); exact BK158.out) Tryd.underlying29 rfl (by kernel_rfl)) rfl ?_
          exact ⟨by first | rfl | (simp [errW_none, errW_some] <;> rfl) | (simp only [← hji4, ← hji6, ← hji8]; first | rfl | (simp [errW_none, errW_some] <;> rfl)) | (simp [*, errW_none, errW_some] <;> rfl), by repeat (first | (with_reducible first | exact HB.out | apply below_alloc | apply pw_below_drewN | apply below_drew1 | refine below_set ?_ GE157.out | refine below_set ?_ GE158.out) | exact HB.out)⟩
        · rw [if_neg c10] at H
          exact absurd H (by simp)
      · rw [if_neg c9] at H
        exact absurd H (by simp)
    · replace c7 := Bool.eq_false_iff.mpr c7
      subst c7
      have H1 : (if 0 ≤ (wrap64 (Int.tdiv a1 64)) then (if (wrap64 (Int.tdiv a1 64)) < 2 then (some (sel 0 (wrap64 (Int.tdiv a1 64)) (Go.bits .andNot .u64 (nth [a0_0, a0_1] (wrap64 (Int.tdiv a1 64))) (ji6)) a0_0, sel 1 (wrap64 (Int.tdiv a1 64)) (Go.bits .andNot .u64 (nth [a0_0, a0_1] (wrap64 (Int.tdiv a1 64))) (ji6)) a0_1)) else (none)) else (none)) = some (r1, r2) := by rw [if_neg (show ¬ (false = true) by decide)] at H; exact H
      clear H
      have H := H1
      clear H1
      obtain ⟨ji20, hji20⟩ : ∃ j_ : Int, (wrap64 (Int.tdiv a1 64)) = j_ := ⟨_, rfl⟩
      replace H : (if 0 ≤ (ji20) then (if (ji20) < 2 then (some (sel 0 (ji20) (Go.bits .andNot .u64 (nth [a0_0, a0_1] (ji20)) (ji6)) a0_0, sel 1 (ji20) (Go.bits .andNot .u64 (nth [a0_0, a0_1] (ji20)) (ji6)) a0_1)) else (none)) else (none)) = some (r1, r2) := by first | (rw [hji20] at H; exact H) | (simp only [hji20] at H ⊢; exact H)
      have hji20w : (IntKind.i64.wrap (Int.tdiv a1 64)) = ji20 := (i64_w _).trans hji20
      by_cases c21 : 0 ≤ (ji20)
      · rw [if_pos c21] at H
        have c21b0 : decide (0 ≤ (ji20)) = true := decide_eq_true c21
        clear c21
        by_cases c22 : (ji20) < 2
        · rw [if_pos c22] at H
          have c22b0 : decide ((ji20) < 2) = true := decide_eq_true c22
          clear c22
          simp only [Option.some.injEq, Prod.mk.injEq] at H
          obtain ⟨rfl, rfl⟩ := H
          go_enter Tryd.func72, Tryd.ntmps72
          go_wp2_with (first | ((with_reducible refine gate_dst (N := 3) rfl ?_); refine box_event ?hg (N := 3) ?hd (cs := #[.int .u64 a0_0, .int .u64 a0_1]) (t := 29) ?hr ?_; (case hd => rfl); (case hg => rfl); (case hr => first | (go_simp; done) | (go_simp; rfl)); intro gb157 hg w23 hbox hb; have n0_ := Aside0.mk (below_step (by repeat (first | (with_reducible first | exact HB.out | apply below_alloc | apply pw_below_drewN | apply below_drew1) | exact HB.out)) hb); have n1_ := Aside0.mk (hbox); have n2_ := Aside0.mk ((by rw [hg]; exact (below_size (by repeat (first | (with_reducible first | exact HB.out | apply below_alloc | apply pw_below_drewN | apply below_drew1) | exact HB.out))) : w.heap.size ≤ gb157)); have n3_ := Aside0.mk ((by rw [hg]; exact (below_size (by repeat (first | (with_reducible first | exact HB.out | apply below_alloc | apply pw_below_drewN | apply below_drew1) | exact HB.out))) : w.heap.size ≤ gb157)); clear HB; have HB := n0_; have BK157 := n1_; have GW157 := n2_; have GE157 := n3_; clear n0_ n1_ n2_ n3_; clear hb hbox hg) | ((with_reducible refine gate_dst (N := 6) rfl ?_); refine box_event ?hg (N := 6) ?hd (cs := #[.int .u64 0, .int .u64 0]) (t := 29) ?hr ?_; (case hd => rfl); (case hg => rfl); (case hr => first | (go_simp; done) | (go_simp; rfl)); intro gb158 hg w24 hbox hb; have n0_ := Aside0.mk (blk_below (g := gb157) (o := .cells #[.int .u64 a0_0, .int .u64 a0_1] 29 (0, 0)) (by (with_reducible repeat (first | refine blk_drewN ?_ _ | refine blk_drew ?_ | refine blk_alloc ?_ _)); exact BK157.out) hb); have n1_ := Aside0.mk (below_step (by repeat (first | (with_reducible first | exact HB.out | apply below_alloc | apply pw_below_drewN | apply below_drew1 | refine below_set ?_ GE157.out) | exact HB.out)) hb); have n2_ := Aside0.mk (hbox); have n3_ := Aside0.mk ((by rw [hg]; exact (below_size (by repeat (first | (with_reducible first | exact HB.out | apply below_alloc | apply pw_below_drewN | apply below_drew1 | refine below_set ?_ GE157.out) | exact HB.out))) : w.heap.size ≤ gb158)); have n4_ := Aside0.mk ((by rw [hg]; exact (below_size (by repeat (first | (with_reducible first | exact HB.out | apply below_alloc | apply pw_below_drewN | apply below_drew1 | refine below_set ?_ GE157.out) | exact HB.out))) : w.heap.size ≤ gb158)); have n5_ := Aside0.mk ((by rw [hg]; exact Nat.ne_of_lt (blk_lt (g := gb157) (o := .cells #[.int .u64 a0_0, .int .u64 a0_1] 29 (0, 0)) (by (with_reducible repeat (first | refine blk_drewN ?_ _ | refine blk_drew ?_ | refine blk_alloc ?_ _)); exact BK157.out)) : gb157 ≠ gb158)); have n6_ := Aside0.mk ((by rw [hg]; exact Nat.ne_of_gt (blk_lt (g := gb157) (o := .cells #[.int .u64 a0_0, .int .u64 a0_1] 29 (0, 0)) (by (with_reducible repeat (first | refine blk_drewN ?_ _ | refine blk_drew ?_ | refine blk_alloc ?_ _)); exact BK157.out)) : gb158 ≠ gb157)); clear BK157; clear HB; have BK157 := n0_; have HB := n1_; have BK158 := n2_; have GW158 := n3_; have GE158 := n4_; have NB157_158 := n5_; have NB158_157 := n6_; clear n0_ n1_ n2_ n3_ n4_ n5_ n6_; clear hb hbox hg; have hnb25 := NB157_158.out; have hnc25 := NB158_157.out; have hcz26_0 : w24.cell? ⟨gb157, 0, none⟩ = some (.int .u64 a0_0) := (blk_cell BK157.out 0).trans rfl; have hcz26_1 : w24.cell? ⟨gb157, 1, none⟩ = some (.int .u64 a0_1) := (blk_cell BK157.out 1).trans rfl; have hfz26_0 := blk_frozen BK157.out 0; have hfz26_1 := blk_frozen BK157.out 1; have p27 : 0 ≤ ((ji20) : Int) := of_decide_eq_true (by first | (with_reducible assumption) | assumption); have q27 : ((ji20) : Int) < 2 := of_decide_eq_true (by first | (with_reducible assumption) | assumption); have hx27_0 : w24.cell? ⟨gb157, ((ji20) : Int).toNat, none⟩ = some (.int .u64 (nth [a0_0, a0_1] (ji20))) := (blk_cell BK157.out _).trans (arr_nth .u64 [a0_0, a0_1] (ji20) 2 rfl p27 q27); replace p27 := eq_true p27; replace q27 := eq_true q27; have p28 : 0 ≤ ((ji20) : Int) := of_decide_eq_true (by first | (with_reducible assumption) | assumption); have q28 : ((ji20) : Int) < 2 := of_decide_eq_true (by first | (with_reducible assumption) | assumption); have hx28_0 : w24.cell? ⟨gb157, ((ji20) : Int).toNat, none⟩ = some (.int .u64 (nth [a0_0, a0_1] (ji20))) := (blk_cell BK157.out _).trans (arr_nth .u64 [a0_0, a0_1] (ji20) 2 rfl p28 q28); have hf28_0 : w24.frozen? ⟨gb157, ((ji20) : Int).toNat, none⟩ = false := blk_frozen BK157.out _; have HP28 := Aside0.mk p28; have HQ28 := Aside0.mk q28; replace p28 := eq_true p28; replace q28 := eq_true q28) | ((with_reducible refine gate_store (t := 23) (p := 25) rfl ?_); refine store_event (t := 23) (p := 25) (v := ?vo_w29) (w1 := (w24.setCell ⟨gb157, ((ji20) : Int).toNat, none⟩ (.int .u64 (Go.bits .andNot .u64 (nth [a0_0, a0_1] (ji20)) (ji6))))) ?hg ?ho ?hn ?hr ?_; (case ho => rfl); (case hg => rfl); (case hn => rfl); (case hr => first | (go_simp; done) | (go_simp; rfl)); intro w29 hw; have n0_ : Aside0 (w29.heap[gb158]? = some (.cells #[.int .u64 0, .int .u64 0] 29 (0, 0))) := ⟨(by rw [hw]; exact (blk_far (BK158.out) NB158_157.out _))⟩; have n1_ : Aside0 (w29.heap[gb157]? = some (.cells #[.int .u64 (sel 0 (ji20) (Go.bits .andNot .u64 (nth [a0_0, a0_1] (ji20)) (ji6)) a0_0), .int .u64 (sel 1 (ji20) (Go.bits .andNot .u64 (nth [a0_0, a0_1] (ji20)) (ji6)) a0_1)] 29 (0, 0))) := ⟨(by rw [hw]; exact (blk_putv .u64 [a0_0, a0_1] (ji20) (Go.bits .andNot .u64 (nth [a0_0, a0_1] (ji20)) (ji6)) BK157.out HP28.out))⟩; have n2_ : Aside0 (Below w.heap.size w w29) := ⟨(by rw [hw]; exact (below_set (HB.out) GE157.out))⟩; clear hw; clear BK158; clear BK157; clear HB; have BK158 := n0_; have BK157 := n1_; have HB := n2_; clear n0_ n1_ n2_; have hcz30_0 : w29.cell? ⟨gb157, 0, none⟩ = some (.int .u64 (sel 0 (ji20) (Go.bits .andNot .u64 (nth [a0_0, a0_1] (ji20)) (ji6)) a0_0)) := (blk_cell BK157.out 0).trans rfl; have hcz30_1 : w29.cell? ⟨gb157, 1, none⟩ = some (.int .u64 (sel 1 (ji20) (Go.bits .andNot .u64 (nth [a0_0, a0_1] (ji20)) (ji6)) a0_1)) := (blk_cell BK157.out 1).trans rfl; have hfz30_0 := blk_frozen BK157.out 0; have hfz30_1 := blk_frozen BK157.out 1; have hcz31_0 : w29.cell? ⟨gb158, 0, none⟩ = some (.int .u64 0) := (blk_cell BK158.out 0).trans rfl; have hcz31_1 : w29.cell? ⟨gb158, 1, none⟩ = some (.int .u64 0) := (blk_cell BK158.out 1).trans rfl; have hfz31_0 := blk_frozen BK158.out 0; have hfz31_1 := blk_frozen BK158.out 1))
          refine bodyPost_ret (results_cell_row rfl _ _ gb158 29 #[.int .u64 (sel 0 (ji20) (Go.bits .andNot .u64 (nth [a0_0, a0_1] (ji20)) (ji6)) a0_0), .int .u64 (sel 1 (ji20) (Go.bits .andNot .u64 (nth [a0_0, a0_1] (ji20)) (ji6)) a0_1)] (0, 0) _ rfl (by (with_reducible repeat (first | refine blk_drewN ?_ _ | refine blk_drew ?_ | refine blk_alloc ?_ _)); refine blk_put (cs := #[.int .u64 (sel 0 (ji20) (Go.bits .andNot .u64 (nth [a0_0, a0_1] (ji20)) (ji6)) a0_0), .int .u64 0]) ?_ 1 _ rfl; (with_reducible repeat (first | refine blk_drewN ?_ _ | refine blk_drew ?_ | refine blk_alloc ?_ _)); refine blk_put (cs := #[.int .u64 0, .int .u64 0]) ?_ 0 _ rfl; (with_reducible repeat (first | refine blk_drewN ?_ _ | refine blk_drew ?_ | refine blk_alloc ?_ _)); exact BK158.out) Tryd.underlying29 rfl (by kernel_rfl)) rfl ?_
          exact ⟨by first | rfl | (simp [errW_none, errW_some] <;> rfl) | (simp only [← hji4, ← hji6, ← hji20]; first | rfl | (simp [errW_none, errW_some] <;> rfl)) | (simp [*, errW_none, errW_some] <;> rfl), by repeat (first | (with_reducible first | exact HB.out | apply below_alloc | apply pw_below_drewN | apply below_drew1 | refine below_set ?_ GE157.out | refine below_set ?_ GE158.out) | exact HB.out)⟩
        · rw [if_neg c22] at H
          exact absurd H (by simp)
      · rw [if_neg c21] at H
        exact absurd H (by simp)
  · rw [if_neg c5] at H
    exact absurd H (by simp)

end Go.Proofs.YtgfimdoildaonaaDoor.P
