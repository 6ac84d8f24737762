/- The law FnExactActsText, walked over the contracts of what it calls. -/
import Derived.Test.YtiaihdfpbgnaoaaDoorATxt
import Derived.Test.YtiaihdfpbgnaoaaDoorPAct
namespace Go.Proofs.YtiaihdfpbgnaoaaDoor.P
open Go.RowKit Go.Proofs.YtiaihdfpbgnaoaaDoorW.PrintWords Go.Proofs.YtiaihdfpbgnaoaaDoorW.PrintLast Go.Proofs.YtiaihdfpbgnaoaaDoorW.PrintMore
set_option linter.unusedVariables false
set_option linter.unusedSimpArgs false

theorem impl_acts (A0 : Option Addr) (c0 : Nat) (l0 : List Ac) (w : World) (hT : Tab w) (hr0 : Kd.C k55 w A0 l0.length l0) (hc0 : l0.length ≤ c0) (hn : l0.length ≤ 1048576) :
    Calls Tryd.prog 13 #[.slice A0 l0.length c0] w fun e w' => e = .returned (.string (actsText l0)) ∧ Below w.heap.size w w' := by
  unfold actsText
  by_cases h : l0.length ≤ 60 ∧ l0.all okAct = true
  · rw [if_pos h]
    exact actsText_yes A0 c0 l0 w hT hr0 hc0 h.1 h.2
  · rw [if_neg h]
    refine actsText_no A0 c0 l0 w hr0 hc0 hn ?_
    unfold actsFaultOf
    by_cases ha : l0.all okAct = true
    · rw [if_pos ha, if_pos (by rcases Nat.lt_or_ge 60 l0.length with h6 | h6; exact h6; exact absurd ⟨h6, ha⟩ h)]; exact .inr rfl
    · rw [if_neg ha]; exact .inl rfl

set_option maxHeartbeats 2000000 in
set_option maxRecDepth 100000 in
theorem lawActsText (A0 : Option Addr) (c0 : Nat) (l0 : List S57) (w : World) (hT : Tab w) (hr0 : Kd.C k57 w A0 l0.length l0) (hc0 : l0.length ≤ c0) (hm : l0.length ≤ maxLen) :
    Calls Tryd.prog 4 #[.slice A0 l0.length c0] w fun e w' => e = .returned (.bool true) ∧ Below w.heap.size w w' := by
  unfold maxLen at hm
  by_cases hbig : 1048576 < l0.length
  · have hsz : laws_szActS.f l0 1048576 = some (-1) := by
      unfold laws_szActS.f
      rw [if_pos (by unfold wrap64; omega)]
    have HS := Aside0.mk hsz
    have HR := Aside0.mk hr0
    clear hsz hr0
    go_enter Tryd.func4, Tryd.ntmps4
    go_wp2_with (go_at_call 10; refine (laws_szActS.calls _ _ _ _ _ _ HR.out hc0 HS.out).mono ?_; rintro e w1 ⟨rfl, hd⟩; (have HB := Aside0.mk hd.below); clear hd)
    go_ret
    exact ⟨rfl, HB.out⟩
  · have hn : l0.length ≤ 1048576 := by omega
    have hsz : laws_szActS.f l0 1048576 = some (1048576 - (l0.length : Int)) := by
      unfold laws_szActS.f
      rw [if_neg (by unfold wrap64; omega)]
      congr 1; unfold wrap64; omega
    have HS := Aside0.mk hsz
    have HR := Aside0.mk hr0
    have HT := Aside0.mk hT
    have hnn : (0 : Int) ≤ 1048576 - (l0.length : Int) := by omega
    have h1 := to_acts l0 hn
    have hlm : (l0.map convA).length ≤ 1048576 := by simpa using hn
    generalize l0.map convA = M at h1 hlm
    have H1 := Aside0.mk h1
    have H2 := Aside0.mk (spec_acts M hlm)
    have H3 := Aside0.mk (eq_acts M hlm)
    clear h1
    clear hsz hr0 hT
    have HL := Aside0.mk hlm
    clear hlm
    go_enter Tryd.func4, Tryd.ntmps4
    go_wp2_with (go_at_call 10; refine (laws_szActS.calls _ _ _ _ _ _ HR.out hc0 HS.out).mono ?_; rintro e w1 ⟨rfl, hd⟩; (have HB := Aside0.mk hd.below); clear hd)
    refine (laws_toActS.calls 1048577 _ _ l0 M _ (Kd.C_below HR.out HB.out) hc0 H1.out).mono ?_
    rintro e w2 ⟨v0, rfl, ho, hb⟩
    have HB2 := Aside0.mk (below_step HB.out hb)
    obtain ⟨A1, c1, hv, hl1, hC1⟩ := Kd.R_reads ho
    subst hv
    have HC1 := Aside0.mk hC1
    clear hb ho hC1 HB
    go_wp2_with fail
    refine (spec_ActsText.calls 2000 _ _ M _ _ HC1.out hl1 H2.out).mono ?_
    rintro e w3 ⟨rfl, hb⟩
    have HB3 := Aside0.mk (below_step HB2.out hb)
    clear hb HB2 HC1 hl1
    go_wp2_with fail
    refine (laws_toActS.calls 1048577 _ _ l0 M _ (Kd.C_below HR.out HB3.out) hc0 H1.out).mono ?_
    rintro e w4 ⟨v1, rfl, ho, hb⟩
    have HB4 := Aside0.mk (below_step HB3.out hb)
    obtain ⟨A2, c2, hv, hl2, hC2⟩ := Kd.R_reads ho
    subst hv
    have HC2 := Aside0.mk hC2
    clear hb ho hC2 HB3
    go_wp2_with fail
    refine (impl_acts _ _ M _ (HT.out.below HB4.out) HC2.out hl2 HL.out).mono ?_
    rintro e w5 ⟨rfl, hb⟩
    have HB5 := Aside0.mk (below_step HB4.out hb)
    have HC3 := Aside0.mk (Kd.C_below HC2.out hb)
    clear hb HB4 HC2
    go_wp2_with fail
    refine (laws_toActS.calls 1048577 _ _ l0 M _ (Kd.C_below HR.out HB5.out) hc0 H1.out).mono ?_
    rintro e w6 ⟨v2, rfl, ho, hb⟩
    have HB6 := Aside0.mk (below_step HB5.out hb)
    obtain ⟨A3, c3, hv, hl3, hC3⟩ := Kd.R_reads ho
    subst hv
    have HC4 := Aside0.mk hC3
    have HC5 := Aside0.mk (Kd.C_below HC3.out hb)
    clear hb ho hC3 HB5 HC3
    go_wp2_with fail
    refine (laws_eqActS.calls 1048577 _ _ M _ _ M true _ HC5.out hl2 HC4.out hl3 H3.out).mono ?_
    rintro e w7 ⟨rfl, hb⟩
    have HB7 := Aside0.mk (below_step HB6.out hb)
    clear hb HB6
    go_wp2_with fail
    go_ret
    exact ⟨rfl, HB7.out⟩
end Go.Proofs.YtiaihdfpbgnaoaaDoor.P
