/- The text of an act, plainly; what the tables of words hold; spec.Signed. -/
import Derived.Test.YtiaihdfpbgnaoaaDoorAct
import Derived.Test.YtiaihdfpbgnaoaaDoorDec
import Derived.Test.YtiaihdfpbgnaoaaDoorPspecSigned
import Derived.Test.YtiaihdfpbgnaoaaDoorPspecl07Words
import Derived.Test.YtiaihdfpbgnaoaaDoorPimplactWords
namespace Go.Proofs.YtiaihdfpbgnaoaaDoor.P
open Go.RowKit Go.Proofs.YtiaihdfpbgnaoaaDoorW.PrintWords Go.Proofs.YtiaihdfpbgnaoaaDoorW.PrintLast Go.Proofs.YtiaihdfpbgnaoaaDoorW.PrintMore
set_option linter.unusedVariables false

def words6 : List ByteArray := [(⟨#[]⟩ : ByteArray), (⟨#[112, 117, 108, 115, 101]⟩ : ByteArray), (⟨#[98, 97, 99, 107]⟩ : ByteArray), (⟨#[112, 114, 101, 115, 101, 116]⟩ : ByteArray), (⟨#[114, 101, 115, 101, 116]⟩ : ByteArray), (⟨#[116, 105, 99, 107, 101, 116]⟩ : ByteArray)]
def actWord (k : Int) : ByteArray := words6.getD k.toNat ⟨#[]⟩
theorem actWord_size (k : Int) : (actWord k).size ≤ 6 := by
  unfold actWord words6
  match k.toNat with
  | 0 => decide
  | 1 => decide
  | 2 => decide
  | 3 => decide
  | 4 => decide
  | 5 => decide
  | n + 6 => simp; decide
/-- The text of an act. -/
def actText (a : Ac) : ByteArray := if a.f0 ≤ 3 then actWord a.f0 ++ ((⟨#[32]⟩ : ByteArray) ++ dec a.f1) else actWord a.f0
def actLine (a : Ac) : ByteArray := actText a ++ (⟨#[10]⟩ : ByteArray)
def actLines : List Ac → ByteArray
  | [] => ⟨#[]⟩
  | t :: r => actLine t ++ actLines r
theorem okAct_range {a : Ac} (h : okAct a = true) : 1 ≤ a.f0 ∧ a.f0 ≤ 5 ∧ -1 ≤ a.f1 ∧ a.f1 ≤ 1000000000000 := by
  have h := of_decide_eq_true h
  omega
theorem actText_size {a : Ac} (h : okAct a = true) : (actText a).size ≤ 27 := by
  have hr := okAct_range h
  have d := dec_size a.f1 (by omega) (by omega)
  have e := actWord_size a.f0
  have c : (⟨#[32]⟩ : ByteArray).size = 1 := rfl
  unfold actText
  split
  · simp only [ByteArray.size_append]; omega
  · omega
theorem actLine_size {a : Ac} (h : okAct a = true) : (actLine a).size ≤ 28 := by
  have := actText_size h
  have c : (⟨#[10]⟩ : ByteArray).size = 1 := rfl
  unfold actLine
  simp only [ByteArray.size_append]; omega
theorem actLines_append (a b : List Ac) : actLines (a ++ b) = actLines a ++ actLines b := by
  induction a with
  | nil => simp [actLines]; rfl
  | cons x a ih => simp [actLines, ih, ByteArray.append_assoc]
theorem actLines_size {l : List Ac} (h : l.all okAct = true) : (actLines l).size ≤ 28 * l.length := by
  induction l with
  | nil => simp [actLines]; rfl
  | cons x a ih =>
    simp only [List.all_cons, Bool.and_eq_true] at h
    have p := actLine_size h.1
    have q := ih h.2
    simp only [actLines, ByteArray.size_append, List.length_cons]
    omega
theorem actLines_snoc (l : List Ac) (k : Nat) (h : k < l.length) : actLines (l.take (k + 1)) = actLines (l.take k) ++ actLine l[k] := by
  rw [List.take_succ_eq_append_getElem h, actLines_append]
  simp [actLines]
  exact ByteArray.append_empty

theorem signed_pure (n : Int) (h0 : -9223372036854775807 ≤ n) (h1 : n ≤ 9223372036854775807) : spec_Signed.f n = some (dec n) := by
  unfold spec_Signed.f
  by_cases hn : n < 0
  · have hw : wrap64 (-n) = -n := by unfold wrap64; omega
    have hd : specDecimal.f (-n) = some (dec (-n)) := by unfold specDecimal.f; rw [if_pos (by omega)]
    have hz := dec_size (-n) (by omega) (by omega)
    rw [if_pos hn, hw, hd]
    simp only [Option.bind_some]
    rw [if_pos (by omega), dec_neg hn]
  · have hd : specDecimal.f n = some (dec n) := by unfold specDecimal.f; rw [if_pos (by omega)]
    rw [if_neg hn, hd]; rfl
theorem signed_any (n : Int) (w : World) (h0 : -9223372036854775807 ≤ n) (h1 : n ≤ 9223372036854775807) :
    Calls Tryd.prog 36 #[.int .i64 n] w fun e w' => e = .returned (.string (dec n)) ∧ Below w.heap.size w w' :=
  spec_Signed.calls n _ w (signed_pure n h0 h1)

/-- The words, read: a slice of six strings. -/
def WordsAt (k : Int) (v : Value) (w : World) : Prop := ∃ (ad : Addr) (c : Nat), v = .slice (some ad) 6 c ∧ 6 ≤ c ∧ w.cell? (ad.add k.toNat) = some (.string (actWord k))
theorem wordsAt {v : Value} {w : World} {B : Nat} (k : Int) (h0 : 0 ≤ k) (h1 : k ≤ 5) (h : Kd.R Kd.string 9 w B (fun _ => True) v words6) : WordsAt k v w := by
  obtain ⟨A, c, rfl, hl, hC⟩ := Kd.R_reads h
  obtain ⟨ad, cs, rfl, hlen, hK, hcell⟩ := Kd.C_get hC (⟨#[]⟩ : ByteArray) k h0 (by show k < ((6 : Nat) : Int); omega)
  have hK' : cs = [.string (words6.getD k.toNat ⟨#[]⟩)] := hK
  subst hK'
  have := hcell 0 _ rfl
  rw [Nat.add_zero, show (Kd.string).sz = 1 from rfl, Nat.mul_one] at this
  exact ⟨ad, c, rfl, hl, this⟩
theorem specWords_any (k : Int) (h0 : 0 ≤ k) (h1 : k ≤ 5) (w : World) :
    Calls Tryd.prog 35 #[] w fun e w' => (∃ v, e = .returned v ∧ WordsAt k v w') ∧ Below w.heap.size w w' :=
  (spec_l07Words.calls words6 w rfl).mono fun e w' ⟨v, he, ho, hb⟩ => ⟨⟨v, he, wordsAt k h0 h1 ho⟩, hb⟩
theorem implWords_any (k : Int) (h0 : 0 ≤ k) (h1 : k ≤ 5) (w : World) :
    Calls Tryd.prog 40 #[] w fun e w' => (∃ v, e = .returned v ∧ WordsAt k v w') ∧ Below w.heap.size w w' :=
  (impl_actWords.calls words6 w rfl).mono fun e w' ⟨v, he, ho, hb⟩ => ⟨⟨v, he, wordsAt k h0 h1 ho⟩, hb⟩
end Go.Proofs.YtiaihdfpbgnaoaaDoor.P
