/- FnExactPhotoText: for every stack and photo the program's PhotoText returns what the reference's returns; no condition. -/
import Derived.Test.YtgfimdoildaonaaDoorPh5
import Derived.Test.YtgfimdoildaonaaDoorPh0
import Derived.Test.YtgfimdoildaonaaDoorCards
import Derived.Test.YtgfimdoildaonaaDoorTie
import Derived.Below
/- impl's PhotoText: the wheels' texts, the last one first, with colons between. -/
namespace Go.Proofs.YtgfimdoildaonaaDoor.P
open Go.RowKit Go.Shelf Go.Proofs.YtgfimdoildaonaaDoorW.PrintWords Go.Proofs.YtgfimdoildaonaaDoorW.PrintLast Go.Proofs.YtgfimdoildaonaaDoorW.PrintMore
set_option linter.unusedVariables false
set_option linter.unusedSimpArgs false
attribute [local go_sem] Oper.semAt_some
set_option maxHeartbeats 8000000 in
set_option maxRecDepth 100000 in
theorem implPhotoText_at (A0 : Option Addr) (c0 : Nat) (s : List Int) (x : Ph) (w : World) (hT : Tab w) (hx : phIn x) (hr : Kd.C (Kd.int .u8) w A0 s.length s) (hc : s.length ≤ c0) (hn : s.length ≤ 1048576) :
    Calls Tryd.prog 9 #[.slice A0 s.length c0, .agg #[.int .u64 x.f0.f0, .int .u64 x.f0.f1, .int .u64 x.f1.f0, .int .u64 x.f1.f1, .int .u64 x.f2.f0, .int .u64 x.f2.f1, .int .u64 x.f3.f0, .int .u64 x.f3.f1, .int .u64 x.f4.f0, .int .u64 x.f4.f1, .int .u64 x.f5.f0, .int .u64 x.f5.f1, .int .u64 x.f6.f0, .int .u64 x.f6.f1, .int .u64 x.f7.f0, .int .u64 x.f7.f1]] w fun e w' => e = .returned (.string (photoText s x)) ∧ Below w.heap.size w w' := by
  have HT0 := Aside0.mk hT
  have HR0 := Aside0.mk hr
  have HX := Aside0.mk hx
  have HB1 := Aside0.mk (below_alloc (Below.refl w.heap.size w) (.cells #[.int .u64 x.f0.f0, .int .u64 x.f0.f1, .int .u64 x.f1.f0, .int .u64 x.f1.f1, .int .u64 x.f2.f0, .int .u64 x.f2.f1, .int .u64 x.f3.f0, .int .u64 x.f3.f1, .int .u64 x.f4.f0, .int .u64 x.f4.f1, .int .u64 x.f5.f0, .int .u64 x.f5.f1, .int .u64 x.f6.f0, .int .u64 x.f6.f1, .int .u64 x.f7.f0, .int .u64 x.f7.f1] 31))
  have HK1 := Aside0.mk (blk_new w (.cells #[.int .u64 x.f0.f0, .int .u64 x.f0.f1, .int .u64 x.f1.f0, .int .u64 x.f1.f1, .int .u64 x.f2.f0, .int .u64 x.f2.f1, .int .u64 x.f3.f0, .int .u64 x.f3.f1, .int .u64 x.f4.f0, .int .u64 x.f4.f1, .int .u64 x.f5.f0, .int .u64 x.f5.f1, .int .u64 x.f6.f0, .int .u64 x.f6.f1, .int .u64 x.f7.f0, .int .u64 x.f7.f1] 31))
  have HV := Aside0.mk (fun W hb => implValidPhoto_at A0 c0 s x W (Kd.C_below HR0.out hb) hc hn)
  obtain ⟨i0, hi, hz0, hz1, hz2⟩ := info_parts infoStr
  obtain ⟨res, hres⟩ : ∃ r, r = photoText s x := ⟨_, rfl⟩
  rw [← hres]
  have HRES := Aside0.mk hres
  clear hT hr hx hres
  refine (callsIn_wide (n := 8)).1 ?_
  refine callsIn_of_wp_marks Tryd.func9 rfl trivial ?_ rfl
  simp only [Tryd.ntmps9, List.size_toArray, List.length_cons, List.length_nil, Nat.reduceAdd, Nat.reduceSub, Array.replicate_succ, Array.replicate_zero, List.push_toArray, List.append_toArray, List.nil_append, List.cons_append]
  cases hok : (okStk s && photoOk s x) with
  | false =>
    have HE := Aside0.mk (show res = ⟨#[]⟩ by rw [HRES.out]; unfold photoText; rw [hok]; rfl)
    rw [hok] at HV
    clear hok HRES
    gi_wp2_with (refine ⟨trivial, ?_⟩; gi_at_call 20; refine (callsIn_wide.2 (HV.out _ HB1.out)).mono ?_; rintro e w2 ⟨rfl, hb⟩; (have HB2 := Aside0.mk (below_step HB1.out hb)); clear hb)
    exact ⟨_, results_tmp rfl _ _ _, by rw [HE.out]; rfl, HB2.out⟩
  | true =>
    have HE := Aside0.mk (show res = txtDown (phT s x) s.length by rw [HRES.out]; unfold photoText; rw [hok]; rfl)
    rw [hok] at HV
    obtain ⟨hks, ho⟩ := Bool.and_eq_true_iff.1 hok
    obtain ⟨hl1, hl8⟩ := okStk_len hks
    have HKS := Aside0.mk hks
    have HO := Aside0.mk ho
    clear hok HRES hks ho
    gi_wp2_with (first
      | (refine ⟨trivial, ?_⟩; gi_at_call 20; refine (callsIn_wide.2 (HV.out _ HB1.out)).mono ?_; rintro e w2 ⟨rfl, hb⟩; (have HB2 := Aside0.mk (below_step HB1.out hb)); (have HK2 := Aside0.mk (blk_below HK1.out hb)); clear hb HV)
      | (refine ⟨trivial, ?_⟩; gi_at_call 21; refine (callsIn_wide.2 (back_at _ _ _ _)).mono ?_; rintro e w' ⟨rfl, rfl⟩))
    have hW0g : (((w2.alloc (.cells #[] 9)).alloc (.cells #[.slice (some ⟨w2.heap.size, 0, none⟩) 0 0] 52)).alloc (.cells #[.slice A0 s.length c0] 27)).heap.size = w2.heap.size + 3 := by simp
    have hB0 : Below w2.heap.size w2 (((w2.alloc (.cells #[] 9)).alloc (.cells #[.slice (some ⟨w2.heap.size, 0, none⟩) 0 0] 52)).alloc (.cells #[.slice A0 s.length c0] 27)) := below_alloc (below_alloc (below_alloc (Below.refl _ _) _) _) _
    have b2 := blk_new w2 (.cells #[] 9)
    have b3 := blk_new (w2.alloc (.cells #[] 9)) (.cells #[.slice (some ⟨w2.heap.size, 0, none⟩) 0 0] 52)
    have b4 := blk_new ((w2.alloc (.cells #[] 9)).alloc (.cells #[.slice (some ⟨w2.heap.size, 0, none⟩) 0 0] 52)) (.cells #[.slice A0 s.length c0] 27)
    simp only [World.size_alloc] at b3 b4
    replace b2 := blk_alloc (blk_alloc b2 (.cells #[.slice (some ⟨w2.heap.size, 0, none⟩) 0 0] 52)) (.cells #[.slice A0 s.length c0] 27)
    replace b3 := blk_alloc b3 (.cells #[.slice A0 s.length c0] 27)
    have hlt2 : w.heap.size < w2.heap.size := blk_lt HK2.out
    have HR := Aside0.mk (Kd.C_below HR0.out HB2.out)
    have HT := Aside0.mk (HT0.out.below HB2.out)
    generalize (((w2.alloc (.cells #[] 9)).alloc (.cells #[.slice (some ⟨w2.heap.size, 0, none⟩) 0 0] 52)).alloc (.cells #[.slice A0 s.length c0] 27)) = W0 at hW0g hB0 b2 b3 b4 ⊢
    have hgp : w2.heap.size ≤ w2.heap.size + 1 := by omega
    have hgs : w2.heap.size ≤ w2.heap.size + 1 + 1 := by omega
    have HW0 := Aside0.mk hW0g
    have HB0 := Aside0.mk hB0
    refine wpIn_rangeFunc_ownG rfl (by omega) (gf := 39) (lb := #[.pointer (some ⟨w2.heap.size + 1 + 1, 0, none⟩)]) rfl trivial (enters_of Tryd.func39 (by kernel_rfl) rfl)
      (back_stops _ (by omega) (w2.heap.size + 1 + 1) A0 c0 s w2 W0 HR.out (by omega) hB0 b4) (fun h k => kpB_t h k) (kpB_b (by omega) (by omega)) (Below.refl _ _) (fun _ => rfl)
      (fun pre W => ((∃ v, Boxed W (w2.heap.size + 1) 52 v ∧ W.ownsRow w2.heap.size 9 1 v pre.length (encs Value.string (pre.map fun i => phT s x i.1))) ∧ Boxed W (w2.heap.size + 1 + 1) 27 (.slice A0 s.length c0)) ∧ Below w2.heap.size w2 W)
      (fun _ _ _ => False)
      (OwnFrom.and (Own.from (fun pre A B row hs hg hr => by
        obtain ⟨⟨v, h1, h2⟩, h4⟩ := hs
        exact ⟨⟨v, blk_own h1 hg hr, row_own h2 hg hr⟩, blk_own h4 hg hr⟩) _) (ownFrom_below (Nat.le_refl _) (by omega)))
      (fun _ _ _ _ _ hs _ _ => hs)
      ⟨⟨⟨_, b3, ⟨rfl, .inr ⟨_, 0, #[], rfl, by omega, b2, Nat.le_refl _, by unfold maxLen; omega, rfl, rfl⟩⟩⟩, b4⟩, hB0⟩
      (fun y => { tmps := #[.slice A0 s.length c0, .agg #[.int .u64 x.f0.f0, .int .u64 x.f0.f1, .int .u64 x.f1.f0, .int .u64 x.f1.f1, .int .u64 x.f2.f0, .int .u64 x.f2.f1, .int .u64 x.f3.f0, .int .u64 x.f3.f1, .int .u64 x.f4.f0, .int .u64 x.f4.f1, .int .u64 x.f5.f0, .int .u64 x.f5.f1, .int .u64 x.f6.f0, .int .u64 x.f6.f1, .int .u64 x.f7.f0, .int .u64 x.f7.f1], undef, .pointer (some ⟨w.heap.size, 0, none⟩), .string ⟨#[]⟩, .pointer (some ⟨w2.heap.size + 1, 0, none⟩), .int .i64 (y.1 : Int), .int .u8 (rd s (y.1 : Int)), undef, undef, undef, .slice A0 s.length c0, .agg #[.int .u64 x.f0.f0, .int .u64 x.f0.f1, .int .u64 x.f1.f0, .int .u64 x.f1.f1, .int .u64 x.f2.f0, .int .u64 x.f2.f1, .int .u64 x.f3.f0, .int .u64 x.f3.f1, .int .u64 x.f4.f0, .int .u64 x.f4.f1, .int .u64 x.f5.f0, .int .u64 x.f5.f1, .int .u64 x.f6.f0, .int .u64 x.f6.f1, .int .u64 x.f7.f0, .int .u64 x.f7.f1], .bool true, .bool false, .slice (some ⟨w2.heap.size, 0, none⟩) 0 0, .slice A0 s.length c0, .func (.func 39) #[] #[.pointer (some ⟨w2.heap.size + 1 + 1, 0, none⟩)], .int .i64 (y.1 : Int), .int .u8 (rd s (y.1 : Int)), undef, undef, undef, undef, undef, undef, undef, undef, undef, undef, undef, undef, undef, undef, undef, undef, undef, undef, undef, undef, undef, undef, undef, undef, undef, undef, undef, undef, undef, undef, undef, undef, undef], defers := [] }) ?assign ?body ?done ?stop
    case assign =>
      intro l y W K hK
      gi_wp2
      exact hK
    case body =>
      clear b2 b3 b4 hW0g hB0
      rintro l pre y W ⟨⟨⟨v, hv, hrow⟩, hS⟩, hB⟩ hlt
      have hx0 : (0 : Int) ≤ (y.1 : Int) := by omega
      have hx8 : (y.1 : Int) < 8 := by have := y.2; omega
      have hin := HX.out y.1 (by omega)
      have hP : W.heap[w.heap.size]? = _ := (hB.block w.heap.size hlt2).trans HK2.out
      obtain ⟨hc0', hc1'⟩ := (phAt_box hP).cell (y.1 : Int) hx0 hx8
      rw [Int.toNat_natCast, add_plain] at hc0' hc1'
      have hpt : phT s x y.1 = wheelT (nth (mk0 x) (y.1 : Int)) (nth (mk1 x) (y.1 : Int)) (rd s (y.1 : Int)) := rfl
      have hbb := okStk_base HKS.out y.1 y.2
      have HPT := Aside0.mk hpt
      have HIN := Aside0.mk hin
      generalize nth (mk0 x) (y.1 : Int) = z0 at hc0' HPT HIN
      generalize nth (mk1 x) (y.1 : Int) = z1 at hc1' HPT HIN
      generalize rd s (y.1 : Int) = bx at hbb HPT ⊢
      clear hin hpt
      have HCN := Aside0.mk (count_eq z0 z1 HIN.out.1 HIN.out.2)
      have HWB := Aside0.mk (show wrap64 bx = bx by unfold wrap64; omega)
      have hpc := hv.cell
      have hpf := hv.frozen
      have HVB := Aside0.mk hv
      have HROW := Aside0.mk hrow
      have HS := Aside0.mk hS
      have HB := Aside0.mk hB
      have HP := Aside0.mk hP
      have HTW := Aside0.mk (HT.out.below hB)
      have hl8' : pre.length < 8 := by omega
      clear hv hrow hS hB hP
      generalize hcn : (cntM z0 z1 : Int) = cn at HCN
      by_cases hcb : cn = bx
      · have hq : (cn == wrap64 bx) = true := by rw [HWB.out]; simpa using hcb
        have HTX := Aside0.mk (show phT s x y.1 = ⟨#[63]⟩ by rw [HPT.out]; unfold wheelT; rw [hcn, if_pos hcb])
        gi_wp2_with (first
          | (refine ⟨trivial, ?_⟩; gi_at_call 22; refine (CallsIn.inRound l (callsIn_wide.2 (impl_Marks_count.calls z0 z1 cn _ HCN.out))).mono ?_; rintro e w1 ⟨rfl, hb⟩; (have HBW := Aside0.mk hb); (have hv1 : Boxed w1 (w2.heap.size + 1) 52 v := blk_below HVB.out hb); (have hpc1 := hv1.cell); (have hpf1 := hv1.frozen); clear hb)
          | (gi_at_builtin; refine wpListIn_append_own _ rfl _ _ 52 rfl w2.heap.size 9 i0 (.string ⟨#[]⟩) 1 16 Tryd.underlying52 hi hz0 hz1 hz2 rfl (by decide) _ _ _ rfl ((own_move HROW.out (fun k hk => HBW.out.block k (own_lt HROW.out k hk))).alloc _) ⟨w1.heap.size, 0, none⟩ 1 1 [.string ⟨#[63]⟩] rfl rfl (cell_one_new _ _ _) (by simp [Value.oneCell']) (by unfold maxLen; omega) (by omega) (by have := HB.out.size; have := HBW.out.size; simp; omega) ?_; intro v1 w4 hown4 hg4 _; obtain ⟨g1, cap1, rfl⟩ := ownsRow_succ hown4; (have hEND := rEnd W0.heap.size rfl HVB.out HROW.out HS.out HB.out (below_alloc HBW.out _) hown4 hg4); (have hc1 := hEND.1.cell); (have hf1 := hEND.1.frozen); (have HEND := Aside0.mk hEND.2); clear hEND))
        obtain ⟨h1, h2, ⟨⟨v9, h3, h4⟩, h5⟩, h6⟩ := HEND.out
        refine ⟨h1, h2, ⟨⟨v9, h3, ?_⟩, h5⟩, h6⟩
        simpa [encs, HTX.out] using h4
      · have hq : (cn == wrap64 bx) = false := by rw [HWB.out]; simpa using hcb
        obtain ⟨L, hL⟩ : ∃ L, L = (mdigs z0 z1 128).map Int.ofNat := ⟨_, rfl⟩
        have HDG := Aside0.mk (show impl_Marks_digits.f 200 z0 z1 = some L by rw [hL]; exact digits_eq z0 z1 HIN.out.1 HIN.out.2 200 (by omega))
        have hLl : L.length ≤ 128 := by rw [hL, List.length_map]; exact mdigs_len _ _ _
        have HLD := Aside0.mk (show ∀ d ∈ L, 0 ≤ d ∧ d < 128 by
          intro d hd
          rw [hL] at hd
          obtain ⟨m, hm, rfl⟩ := List.mem_map.1 hd
          have := List.mem_range.1 (List.mem_filter.1 hm).1
          constructor <;> simp <;> omega)
        have hbar : (⟨(Lib.join ((L.map dec).map (·.data.toList)) [124]).toArray⟩ : ByteArray) = phT s x y.1 := by
          rw [HPT.out]; unfold wheelT; rw [hcn, if_neg hcb]; unfold barT; rw [hL, List.map_map, List.map_map]; rfl
        have HBAR := Aside0.mk hbar
        have HBSZ := Aside0.mk (show (Lib.join ((L.map dec).map (·.data.toList)) [124]).length ≤ 2688 by
          have h1 : (⟨(Lib.join ((L.map dec).map (·.data.toList)) [124]).toArray⟩ : ByteArray).size ≤ 2688 := by rw [hbar]; exact wheelT_size _ _ _
          rwa [ba_size] at h1)
        clear hbar hL
        gi_wp2_with (first
          | (refine ⟨trivial, ?_⟩; gi_at_call 22; refine (CallsIn.inRound l (callsIn_wide.2 (impl_Marks_count.calls z0 z1 cn _ HCN.out))).mono ?_; rintro e w1 ⟨rfl, hb⟩; (have HBW := Aside0.mk (below_alloc hb (.cells #[] 9))); (have HLIT := Aside0.mk (blk_new w1 (.cells #[] 9))); (have hd0 := (HBW.out.cell (World.block_lt_of_cell? _ _ hc0')).trans hc0'); (have hd1 := (HBW.out.cell (World.block_lt_of_cell? _ _ hc1')).trans hc1'); (have hw1s := hb.size); clear hb)
          | (refine ⟨trivial, ?_⟩; gi_at_call 23; refine (CallsIn.inRound l (callsIn_wide.2 (impl_Marks_digits.calls 200 z0 z1 L _ HDG.out))).mono ?_; rintro e w3 ⟨v3, rfl, hR3, hb3⟩; obtain ⟨A3, c3, rfl, hc3, hir⟩ := irow_of hR3; (have HIR := Aside0.mk hir); (have HBW3 := Aside0.mk (below_step HBW.out hb3)); (have HLIT3 := Aside0.mk (blk_below HLIT.out hb3)); clear hir hR3 hb3))
        gi_loopw [8, 36] (fun v8 i wr => ∃ (j : Nat) (u : Value), j ≤ L.length ∧ i = .int .i64 j ∧ u = v8 ∧ Aside0 (wr.ownsRow W.heap.size 9 1 u j (encs Value.string ((L.take j).map dec)) ∧ u ≠ .slice none 0 0) ∧ Aside0 (IRow wr A3 L) ∧ Aside0 (Below W.heap.size W wr)) (fun _ i _ => L.length - (intOf i).toNat)
        case atStart => exact ⟨0, _, Nat.zero_le _, rfl, rfl, ⟨⟨rfl, .inr ⟨_, 0, #[], rfl, by omega, HLIT3.out, Nat.le_refl _, by unfold maxLen; omega, rfl, rfl⟩⟩, by simp⟩, HIR, HBW3⟩
        case round =>
          clear HIR HBW3 HLIT3 HBW HLIT hd0 hd1
          obtain ⟨j, u, hj, rfl, rfl, HO8, HIR, HBR⟩ := hrel
          by_cases hlt2' : j < L.length
          · obtain ⟨d, hd⟩ : ∃ d, L[j]? = some d := ⟨_, List.getElem?_eq_getElem hlt2'⟩
            obtain ⟨g3, cur3, rfl, hcur3, hcj⟩ := HIR.out j d hd
            have hcd : wr.cell? ⟨g3, j, none⟩ = some (.int .i64 d) := (blk_cell hcur3 j).trans hcj
            obtain ⟨hd0, hd1⟩ := HLD.out d (List.mem_of_getElem? hd)
            have HTK := Aside0.mk (show (L.take (j + 1)).map dec = (L.take j).map dec ++ [dec d] by
              rw [List.take_add_one, hd, List.map_append]; rfl)
            clear hcj hcur3 hd
            gi_wp2_with (first
              | (refine ⟨trivial, ?_⟩; gi_at_call 24; refine (CallsIn.inRound l (callsIn_wide.2 (itoaGo d _ (HTW.out.below HBR.out) (by omega) (by omega)))).mono ?_; rintro e w5 ⟨rfl, hb⟩; (have HB5 := Aside0.mk hb); clear hb)
              | (gi_at_builtin; refine wpListIn_append_own _ rfl _ _ 52 rfl W.heap.size 9 i0 (.string ⟨#[]⟩) 1 16 Tryd.underlying52 hi hz0 hz1 hz2 rfl (by decide) _ _ _ rfl ((own_move HO8.out.1 (fun k hk => HB5.out.block k (own_lt HO8.out.1 k hk))).alloc _) ⟨w5.heap.size, 0, none⟩ 1 1 [.string (dec d)] rfl rfl (cell_one_new _ _ _) (by simp [Value.oneCell']) (by unfold maxLen; omega) (by omega) (by have := HBR.out.size; have := HB5.out.size; simp; omega) ?_; intro v1 w6 hown6 hg6 hnil6; (have HO6 := Aside0.mk hown6); (have HG6 := Aside0.mk (show World.grownBy _ w6 u.ownBlock from hg6)); (have HN6 := Aside0.mk (show (v1 = .slice none 0 0 ↔ u = .slice none 0 0 ∧ 1 = 0) from hnil6)); clear hown6 hg6 hnil6))
            have HB5a := Aside0.mk (below_alloc HB5.out (.cells #[.string (dec d)] 9))
            have hown5 := own_move HO8.out.1 (fun k hk => HB5a.out.block k (own_lt HO8.out.1 k hk))
            have HIR6 := Aside0.mk ((HIR.out.below HB5a.out).grown hown5 HG6.out)
            have HBR6 := Aside0.mk ((below_step HBR.out HB5a.out).grown HG6.out (Nat.le_trans HBR.out.size HB5a.out.size) (fun k ek => by
              rcases HO8.out.1.2 with ⟨h0, _⟩ | ⟨g, cap, cur, rfl, hb, _, _⟩
              · exact (HO8.out.2 h0).elim
              · obtain rfl : g = k := by simpa [Value.ownBlock] using ek
                exact hb))
            clear hown5
            go_roundw
            case rel => exact ⟨j + 1, v1, by omega, by go_num, rfl, ⟨by rw [HTK.out]; simpa [encs] using HO6.out, fun h0 => HO8.out.2 (HN6.out.1 h0).1⟩, HIR6, HBR6⟩
            case measure => simp [intOf]; try omega
          · obtain rfl : j = L.length := by omega
            have HO9 := Aside0.mk (show wr.ownsRow W.heap.size 9 1 u (L.map dec).length (encs Value.string (L.map dec)) by
              have := HO8.out.1; rwa [List.take_length, ← List.length_map (f := dec)] at this)
            have HN9 := Aside0.mk HO8.out.2
            clear HO8 HIR
            have hpcr := (HBR.out.cell (World.block_lt_of_cell? _ _ hpc)).trans hpc
            gi_wp2
            refine startIn_ (m := 6) (S := fun w' => w'.cell? ⟨w2.heap.size + 1, 0, none⟩ = some v ∧ w'.cell? ⟨w2.heap.size + 1, 0, none⟩ = some v) (ds := [5]) #[false, false, false, false, false, false] (by kernel_rfl) rfl rfl (fun ⟨_, _, h⟩ => h) (by kernel_rfl) ⟨hpcr, hpcr⟩ (fun hHeld => ?_)
            have HBW := Aside0.mk (below_drew1 HBR.out)
            have HO10 := Aside0.mk (own_move HO9.out (fun k hk => (below_drew1 (Below.refl wr.heap.size wr)).block k (own_lt HO9.out k hk)))
            generalize wr.drew = W1 at HBW HO10 hHeld ⊢
            refine take_ (i := 0) (N := (some 46)) (v := ?_) (a' := ?_) #[true, false, false, false, false, false] rfl rfl (by kernel_rfl) (fun _ _ _ h => h) (Or.inl ⟨by rfl, ?_⟩) hHeld ?_ ?_
            rotate_left
            · rintro w' ⟨s0, s1⟩
              go_simp
              with_reducible rfl
            rotate_left
            · simp only [Act.put, List.setIfInBounds_toArray, List.set_cons_zero, List.set_cons_succ, i64_w, i32_w]
              rfl
            refine pure_ (i := 1) (N := (some 47)) (v := ?_) (a' := ?_) #[true, true, false, false, false, false] rfl rfl (by kernel_rfl) (fun _ _ _ h => h) (Or.inl ⟨by rfl, ?_⟩) ?_ ?_
            rotate_left
            · intro w'
              go_simp
              with_reducible rfl
            rotate_left
            · simp only [Act.put, List.setIfInBounds_toArray, List.set_cons_zero, List.set_cons_succ, i64_w, i32_w]
              rfl
            refine one_ (i := 2) (N := (some 48)) #[true, true, true, false, false, false] rfl rfl (by kernel_rfl) (by decide) (fun K hK => ?_)
            refine goes_ Tryd.func25 (by kernel_rfl) rfl #[u, .string ⟨#[124]⟩] (by rfl) rfl rfl (by (try simp only [List.map_toArray, List.map_cons, List.map_nil]); first | done | rfl) ?_
            with_reducible refine (join_own W.heap.size u (L.map dec) ⟨#[124]⟩ _ HO10.out HN9.out (by rw [List.length_map]; omega) (Nat.le_trans HBSZ.out (by omega))).mono ?_
            rintro e u2 ⟨rfl, hb⟩
            refine ⟨_, rfl, ?_⟩
            have n0_ := Aside0.mk (below_step HBW.out hb)
            clear hb HBW
            have HBW := n0_
            clear n0_
            refine hK.out _ _ ⟨(HBW.out.cell (World.block_lt_of_cell? _ _ hpc)).trans hpc, (HBW.out.cell (World.block_lt_of_cell? _ _ hpc)).trans hpc⟩ (fun hHeld => ?_)
            clear hK K
            rw [show (⟨(Lib.join ((L.map dec).map (·.data.toList)) (⟨#[124]⟩ : ByteArray).data.toList).toArray⟩ : ByteArray) = phT s x y.1 from HBAR.out]
            obtain ⟨txt, htxt⟩ : ∃ t, t = phT s x y.1 := ⟨_, rfl⟩
            rw [← htxt]
            have HTXT := Aside0.mk htxt
            clear htxt
            refine norm_ (a' := ?_) ?_ ?_
            rotate_left
            · show Act.put _ (some 48) _ = _
              simp only [Act.put, List.setIfInBounds_toArray, List.set_cons_zero, List.set_cons_succ, i64_w, i32_w]
              rfl
            refine one_ (i := 3) (N := (some 49)) #[true, true, true, true, false, false] rfl rfl (by kernel_rfl) (by decide) (fun K hK => ?_)
            refine event_step (v := .slice (some ⟨u2.heap.size, 0, none⟩) 1 1) (w1 := u2.alloc (.cells #[.string txt] 9)) (by rfl) ?_ ?_
            · go_simp
            have HBW3 := Aside0.mk (below_alloc HBW.out (.cells #[.string txt] 9))
            refine hK.out _ _ ⟨(HBW3.out.cell (World.block_lt_of_cell? _ _ hpc)).trans hpc, (HBW3.out.cell (World.block_lt_of_cell? _ _ hpc)).trans hpc⟩ (fun hHeld => ?_)
            clear hK K
            refine norm_ (a' := ?_) ?_ ?_
            rotate_left
            · show Act.put _ (some 49) _ = _
              simp only [Act.put, List.setIfInBounds_toArray, List.set_cons_zero, List.set_cons_succ, i64_w, i32_w]
              rfl
            refine one_ (i := 4) (N := (some 50)) #[true, true, true, true, true, false] rfl rfl (by kernel_rfl) (by decide) (fun K hK => ?_)
            have hBW2 := below_step HB.out HBW.out
            refine Kd.R_append_step Kd.string (w0 := w2) w2.heap.size (by rfl) (.tmp 46) (.tmp 49) 52 9 (.string ⟨#[]⟩) 16 rfl Tryd.underlying52 infoStr rfl (by decide) (by omega) v (pre.map fun i => phT s x i.1) txt [.string txt] (fun _ => True) (fun _ => False) rfl rfl rfl (fun _ hk => hk.elim) (fun _ _ => trivial) ?aO hBW2 hBW2.size ?aL ?_
            case aO => exact Kd.R_below (Kd.R_of_own (by rw [List.length_map]; exact HROW.out) (fun _ _ => trivial)) HBW.out
            case aL => rw [List.length_map]; omega
            intro v1 w4 ho hb4 hg4 _
            have hown4 : w4.ownsRow w2.heap.size 9 1 v1 (pre ++ [y]).length (encs Value.string ((pre ++ [y]).map fun i => phT s x i.1)) := by
              have := Kd.own_of_R ho
              rw [show (pre.map fun i => phT s x i.1) ++ [txt] = (pre ++ [y]).map fun i => phT s x i.1 by rw [List.map_append, List.map_cons, List.map_nil, HTXT.out], List.length_map] at this
              exact this
            have hEND := rEnd W0.heap.size rfl HVB.out HROW.out HS.out HB.out HBW.out hown4 hg4
            refine hK.out _ _ ⟨hEND.1.cell, hEND.1.cell⟩ (fun hHeld => ?_)
            clear hK K
            refine norm_ (a' := ?_) ?_ ?_
            rotate_left
            · show Act.put _ (some 50) _ = _
              simp only [Act.put, List.setIfInBounds_toArray, List.set_cons_zero, List.set_cons_succ, i64_w, i32_w]
              rfl
            have hp4 := hEND.1.cell
            have hf4 := hEND.1.frozen
            obtain ⟨A1, c1, rfl⟩ : ∃ A1 c1, v1 = .slice A1 (pre ++ [y]).length c1 := by
              rcases hown4.2 with ⟨_, h0⟩ | ⟨g, cap, _, e, _⟩
              · simp at h0
              · exact ⟨_, _, e⟩
            refine last_ (i := 5) (N := none) #[true, true, true, true, true, true] rfl rfl (by kernel_rfl) (by decide) (fun K hK => ?_)
            refine event_none (w1 := w4.setCell ⟨w2.heap.size + 1, 0, none⟩ (.slice A1 (pre ++ [y]).length c1)) (by rfl) rfl ?_ ?_
            · go_simp
            refine hK.out _ _ ?_
            clear hK K
            refine done_ (by kernel_rfl) ?_
            exact hEND.2
    case done =>
      clear b2 b3 b4 hW0g hB0
      rintro D ys W hD rfl ⟨⟨⟨v, hv, hrow⟩, _⟩, hB⟩ hK
      have hdn : (dn s.length).map (fun i => phT s x i.1) = ((List.range s.length).map (phT s x)).reverse := dn_map s.length (phT s x)
      rw [hdn, dn_length] at hrow
      have hvn : v ≠ .slice none 0 0 := by
        rintro rfl
        rcases hrow.2 with ⟨_, h0⟩ | ⟨g, cap, cur, e, _⟩
        · omega
        · cases e
      have hlen : ((List.range s.length).map (phT s x)).reverse.length = s.length := by simp
      have hsz : (Lib.join (((List.range s.length).map (phT s x)).reverse.map (·.data.toList)) [58]).length ≤ 140737488355328 := by
        have h1 := txtDown_size3 (phT s x) s.length (fun i _ => wheelT_size _ _ _)
        rw [txtDown_join, ba_size] at h1
        omega
      have hJ := join_own w2.heap.size v ((List.range s.length).map (phT s x)).reverse ⟨#[58]⟩ W (by rw [hlen]; exact hrow) hvn (by rw [hlen]; omega) hsz
      have HJ := Aside0.mk (show Calls Tryd.prog 25 #[v, .string ⟨#[58]⟩] W fun e w' => e = .returned (.string (txtDown (phT s x) s.length)) ∧ Below W.heap.size W w' by rw [txtDown_join]; exact hJ)
      have HK := Aside0.mk hK
      have HB := Aside0.mk hB
      have hpc := hv.cell
      clear hJ hK hB hrow hdn hlen hsz hv
      gi_wp2_with (refine ⟨trivial, ?_⟩; gi_at_call 25; refine (callsIn_wide.2 HJ.out).mono ?_; rintro e w5 ⟨rfl, hb5⟩; (have HB5 := Aside0.mk hb5); clear hb5)
      have hK5 := blk_below HK.out HB5.out
      refine ⟨by simp, .inl ⟨_, _, rfl, run_takeDeferred hK5, ?_⟩⟩
      exact ⟨_, results_tmp rfl _ _ _, by rw [HE.out]; rfl, HB2.out.trans (((below_step HB.out HB5.out).trans (belowK_b (w := w2) (Nat.le_refl _) w5 D _ _ (by have := HW0.out; omega) hK5 rfl rfl)).mono HB2.out.size)⟩
    case stop =>
      rintro D c pre W _ _ h _
      exact h.elim
end Go.Proofs.YtgfimdoildaonaaDoor.P

/- Plain laws of the loops that the laws' own helpers run: copying a list element by element, comparing two lists, asking all elements. -/
namespace Go.Proofs.YtgfimdoildaonaaDoor.P
open Go.RowKit Go.Proofs.YtgfimdoildaonaaDoorW.PrintWords Go.Proofs.YtgfimdoildaonaaDoorW.PrintLast Go.Proofs.YtgfimdoildaonaaDoorW.PrintMore
set_option linter.unusedVariables false

theorem wrap_succ {i : Nat} (h : i < 9223372036854775807) : wrap64 ((i : Int) + 1) = ((i + 1 : Nat) : Int) := by
  unfold wrap64; omega
theorem wrap_pred {i : Nat} (h0 : 0 < i) (h : i < 9223372036854775807) : wrap64 ((i : Int) - 1) = ((i - 1 : Nat) : Int) := by
  unfold wrap64; omega

/-- for i := range out { out[i] = conv(xs[i]) } -/
theorem map_loop {α β : Type} (d : α) (conv : α → β) (xs : List α) (F : Nat → List β → Int → Option (List β)) (hn : xs.length < 9223372036854775807)
    (hrec : ∀ k ys (i : Nat), i < xs.length → ys.length = xs.length → F (k + 1) ys i = F k (ys.set i (conv (xs.getD i d))) (wrap64 ((i : Int) + 1)))
    (hend : ∀ k ys, F (k + 1) ys (xs.length : Int) = some ys) :
    ∀ (m k i : Nat) (ys : List β), i + m = xs.length → m < k → ys.length = xs.length → F k ys i = some (ys.take i ++ (xs.drop i).map conv) := by
  intro m
  induction m with
  | zero =>
    intro k i ys hi hk hl
    obtain ⟨k, rfl⟩ : ∃ j, k = j + 1 := ⟨k - 1, by omega⟩
    obtain rfl : i = xs.length := by omega
    rw [hend, List.drop_length, ← hl, List.take_length]; simp
  | succ m ih =>
    intro k i ys hi hk hl
    obtain ⟨k, rfl⟩ : ∃ j, k = j + 1 := ⟨k - 1, by omega⟩
    have hlt : i < xs.length := by omega
    rw [hrec k ys i hlt hl, wrap_succ (by omega), ih k (i + 1) _ (by omega) (by omega) (by simpa using hl)]
    congr 1
    rw [List.take_succ_eq_append_getElem (by rw [List.length_set]; omega), List.getElem_set_self, List.take_set, List.drop_eq_getElem_cons hlt]
    rw [List.set_eq_of_length_le (by simp; omega), List.getD_eq_getElem?_getD, List.getElem?_eq_getElem hlt]
    rw [List.map_cons, List.append_assoc]; rfl
/-- for i := range xs { if !ok(i) { return false } }; return true -/
theorem all_loop (ok : Nat → Bool) (n : Nat) (F : Nat → Int → Option Bool) (hn : n < 9223372036854775807) (c : Nat) (hc : 0 < c)
    (hyes : ∀ k (i : Nat), i < n → ok i = true → F (k + c) i = F k (wrap64 ((i : Int) + 1)))
    (hno : ∀ k (i : Nat), i < n → ok i = false → F (k + c) i = some false)
    (hend : ∀ k, F (k + 1) (n : Int) = some true) :
    ∀ (m k i : Nat), i + m = n → (m + 1) * c ≤ k → F k i = some ((List.range' i m).all ok) := by
  intro m
  induction m with
  | zero =>
    intro k i hi hk
    obtain ⟨k, rfl⟩ : ∃ j, k = j + 1 := ⟨k - 1, by omega⟩
    obtain rfl : i = n := by omega
    rw [hend]; simp
  | succ m ih =>
    intro k i hi hk
    have hck : c ≤ k := Nat.le_trans (Nat.le_mul_of_pos_left c (by omega)) hk
    obtain ⟨k, rfl⟩ : ∃ j, k = j + c := ⟨k - c, by omega⟩
    rw [List.range'_succ, List.all_cons]
    cases h : ok i with
    | true =>
      rw [hyes k i (by omega) h, wrap_succ (by omega), ih k (i + 1) (by omega) (by rw [Nat.succ_mul] at hk; omega)]
      simp
    | false => rw [hno k i (by omega) h]; simp
/-- The same, where a round needs rounds of its own (K), and the ends are whatever they are. -/
theorem all_loop2 {R : Type} (ok : Nat → Bool) (n : Nat) (F : Nat → Int → Option R) (yes no : Option R) (hn : n < 9223372036854775807) (K c : Nat) (hc : 0 < c)
    (hyes : ∀ k (i : Nat), K ≤ k → i < n → ok i = true → F (k + c) i = F k (wrap64 ((i : Int) + 1)))
    (hno : ∀ k (i : Nat), K ≤ k → i < n → ok i = false → F (k + c) i = no)
    (hend : ∀ k, K ≤ k → F (k + 1) (n : Int) = yes) :
    ∀ (m k i : Nat), i + m = n → (m + 1) * c + K ≤ k → F k i = if (List.range' i m).all ok = true then yes else no := by
  intro m
  induction m with
  | zero =>
    intro k i hi hk
    obtain ⟨k, rfl⟩ : ∃ j, k = j + 1 := ⟨k - 1, by omega⟩
    obtain rfl : i = n := by omega
    rw [hend _ (by omega)]; simp
  | succ m ih =>
    intro k i hi hk
    have hck : c + K ≤ k := Nat.le_trans (Nat.add_le_add_right (Nat.le_mul_of_pos_left c (by omega)) K) hk
    obtain ⟨k, rfl⟩ : ∃ j, k = j + c := ⟨k - c, by omega⟩
    rw [List.range'_succ, List.all_cons]
    cases h : ok i with
    | true =>
      rw [hyes k i (by omega) (by omega) h, wrap_succ (by omega), ih k (i + 1) (by omega) (by rw [Nat.succ_mul] at hk; omega), Bool.true_and]
    | false => rw [hno k i (by omega) (by omega) h, Bool.false_and, if_neg (by decide)]
/-- All places of a list, or all its elements. -/
theorem all_range {α : Type} (d : α) (p : α → Bool) (l : List α) : ((List.range' 0 l.length).all fun i => p (l.getD i d)) = l.all p := by
  rw [Bool.eq_iff_iff, List.all_eq_true, List.all_eq_true]
  constructor
  · intro h x hx
    obtain ⟨i, hi, rfl⟩ := List.getElem_of_mem hx
    have := h i (by simp [List.mem_range']; omega)
    simpa [List.getD_eq_getElem?_getD, List.getElem?_eq_getElem hi] using this
  · intro h i hi
    have hlt : i < l.length := by simpa [List.mem_range'] using hi
    have := h l[i] (List.getElem_mem hlt)
    simpa [List.getD_eq_getElem?_getD, List.getElem?_eq_getElem hlt] using this
end Go.Proofs.YtgfimdoildaonaaDoor.P

-- Written by a program of this session (a turned form of the kit's print) out of the translation.
namespace Go.Proofs.YtgfimdoildaonaaDoor.P
open Go.RowKit Go.Proofs.YtgfimdoildaonaaDoorW.PrintWords Go.Proofs.YtgfimdoildaonaaDoorW.PrintLast Go.Proofs.YtgfimdoildaonaaDoorW.PrintMore
attribute [local go_sem] max2_int min2_int max_two min_two max_three min_three max_four min_four   -- for this text's walks alone
set_option linter.unusedVariables false
set_option linter.unusedSimpArgs false

/-! ### laws_toStack: function 7 -/
def laws_toStack.l0 : Nat → List Int → List Int → Int → Option (List Int)
  | 0, _, _, _ => none
  | k + 1, x0, x3, x4 => if x4 < (x0.length : Int) then (if 0 ≤ x4 then (if x4 < (x3.length : Int) then (laws_toStack.l0 k x0 (x3.set (x4 : Int).toNat (rd x0 x4)) (wrap64 (x4 + 1))) else (none)) else (none)) else (some x3)
def laws_toStack.f (k : Nat) (l0 : List Int) : Option (List Int) := if 0 ≤ (l0.length : Int) then (if ((l0.length : Int) : Int).toNat ≤ 281474976710656 then (laws_toStack.l0 k l0 (List.replicate ((l0.length : Int) : Int).toNat 0) 0) else (none)) else (none)
theorem laws_toStack.mono_l : ∀ k, (∀ y0 y1 y2, LeO (laws_toStack.l0 k y0 y1 y2) (laws_toStack.l0 (k + 1) y0 y1 y2))
  | 0 => fun _ _ _ r h => by simp [laws_toStack.l0] at h
  | k + 1 => by
    have ih0 := laws_toStack.mono_l k
    · intro y0 y1 y2
      unfold laws_toStack.l0
      repeat' first
      | (with_reducible exact ih0 _ _ _)
      | (with_reducible exact LeO.refl _)
      | (with_reducible exact LeO.none _)
      | (with_reducible refine LeO.ite ?_ ?_)
      | (with_reducible refine LeO.bind ?_ (fun _ => ?_))
      | exact ih0 _ _ _
      | exact LeO.none _
      | refine LeO.ite ?_ ?_
      | refine LeO.bind ?_ (fun _ => ?_)
theorem laws_toStack.mono : ∀ a0 k, LeO (laws_toStack.f k a0) (laws_toStack.f (k + 1) a0) := by
  intro a0 k
  have ih0 := laws_toStack.mono_l k
  unfold laws_toStack.f
  repeat' first
      | (with_reducible exact ih0 _ _ _)
      | (with_reducible exact LeO.refl _)
      | (with_reducible exact LeO.none _)
      | (with_reducible refine LeO.ite ?_ ?_)
      | (with_reducible refine LeO.bind ?_ (fun _ => ?_))
      | exact ih0 _ _ _
      | exact LeO.none _
      | refine LeO.ite ?_ ?_
      | refine LeO.bind ?_ (fun _ => ?_)
set_option maxHeartbeats 8000000 in
set_option maxRecDepth 100000 in
theorem laws_toStack.calls (k : Nat) (A0 : Option Addr) (c0 : Nat) (l0 : List Int) (r : List Int) (w : World) (hr0 : Kd.C (Kd.int .u8) w A0 l0.length l0) (hc0 : l0.length ≤ c0) (h : laws_toStack.f k l0 = some r) :
    Calls Tryd.prog 7 #[.slice A0 l0.length c0] w fun e w' => ∃ v0_ : Value, e = .returned (v0_) ∧ Kd.R (Kd.int .u8) 5 w' w.heap.size (fun _ => True) v0_ r ∧ Below w.heap.size w w' := by
  have HR0 := Aside0.mk hr0
  have HC0 := Aside0.mk hc0
  clear hr0 hc0
  have HB := Aside0.mk (Below.refl w.heap.size w)
  have H : (if 0 ≤ (l0.length : Int) then (if ((l0.length : Int) : Int).toNat ≤ 281474976710656 then (laws_toStack.l0 k l0 (List.replicate ((l0.length : Int) : Int).toNat 0) 0) else (none)) else (none)) = some r := h
  clear h
  by_cases c2 : 0 ≤ (l0.length : Int)
  · rw [if_pos c2] at H
    have c2b0 := eq_true c2
    have c2b1 : decide (0 ≤ (l0.length : Int)) = true := decide_eq_true c2
    clear c2
    by_cases c3 : ((l0.length : Int) : Int).toNat ≤ 281474976710656
    · rw [if_pos c3] at H
      have c3b0 := eq_true c3
      have c3b1 : decide (((l0.length : Int) : Int).toNat ≤ 281474976710656) = true := decide_eq_true c3
      clear c3
      obtain ⟨y143, hy143⟩ : ∃ y_ : List Int, y_ = (List.replicate ((l0.length : Int) : Int).toNat 0) := ⟨_, rfl⟩
      replace H : (laws_toStack.l0 k l0 y143 0) = some r := by first | (rw [hy143]; with_reducible exact H) | (have H2_ := (Option.bind_some _ _).symm.trans H; rw [hy143]; with_reducible exact H2_) | (have H2_ := (Option.bind_some _ _).symm.trans H; with_reducible exact H2_) | with_reducible exact H | (rw [hy143]; exact H) | exact H
      have Ny143 := Aside0.mk hy143
      clear hy143
      have H' := Aside0.mk H
      clear H
      go_enter Tryd.func7, Tryd.ntmps7
      go_wp2_with (first | ((with_reducible refine gate_dst (N := 7) rfl ?_); refine Kd.R_make (Kd.int .u8) _ 5 rfl (N := 7) rfl 27 _ _ rfl (l0.length : Int) rfl rfl Tryd.underlying27 (.int .u8 0) 1 info5 rfl (by decide) (by omega) 0 (ok := fun _ => True) (okp := fun _ => True) rfl (fun _ hk => hk) trivial (of_decide_eq_true (by first | (with_reducible assumption) | assumption)) (Nat.le_trans (Nat.mul_le_mul_right _ (of_decide_eq_true (by first | (with_reducible assumption) | assumption) : (l0.length : Int).toNat ≤ 281474976710656)) (by omega)) (Below.refl _ _) (Nat.le_refl _) ?_; intro v144 w4 ho5 hb hg_ hnew_; clear hg_ hnew_; (first | rw [← Ny143.out] at ho5 | (simp only [Int.reduceToNat] at ho5; rw [← Ny143.out] at ho5)); have n0_ := Aside0.mk (Kd.R_lower ho5 (below_size (by repeat (first | (with_reducible first | exact HB.out | apply below_alloc | apply pw_below_drewN | apply below_drew1) | exact HB.out)))); have n1_ := Aside0.mk (below_step (by repeat (first | (with_reducible first | exact HB.out | apply below_alloc | apply pw_below_drewN | apply below_drew1) | exact HB.out)) hb); clear HB; have HO145 := n0_; have HB := n1_; clear n0_ n1_; clear hb ho5))
      go_loopg [4] k (fun kq v4 w' => ∃ (x3_1 : List Int) (x4_1 : Int), v4 = .int .i64 x4_1 ∧ Aside0 (laws_toStack.l0 kq l0 x3_1 x4_1 = some r) ∧ Aside0 (kq ≤ k) ∧ Aside0 (Kd.R (Kd.int .u8) 5 w' w.heap.size (fun _ => True) v144 x3_1) ∧ Aside0 (Below w.heap.size w w'))
      case atStart => exact ⟨(y143), (0), (by first | rfl | (simp; done) | (simp [*]; done)), H', ⟨Nat.le_refl _⟩, ⟨by (with_reducible repeat (first | apply Kd.R_alloc | apply Kd.R_drewN | apply Kd.R_drew)); exact HO145.out⟩, ⟨by repeat (first | (with_reducible first | exact HB.out | apply below_alloc | apply pw_below_drewN | apply below_drew1) | exact HB.out)⟩⟩
      case round =>
        clear H'
        try clear c2
        try clear c2b0
        try clear c2b1
        try clear p2
        try clear c3
        try clear c3b0
        try clear c3b1
        obtain ⟨x3_1, x4_1, rfl, HA, HK1, HO_3, HB⟩ := hrel
        cases gk with
        | zero => exact absurd HA.out (by simp [laws_toStack.l0])
        | succ k1 =>
          have H := HA.out
          clear HA
          simp only [laws_toStack.l0] at H
          by_cases c6 : x4_1 < (l0.length : Int)
          · rw [if_pos c6] at H
            have c6b0 : decide (x4_1 < (l0.length : Int)) = true := decide_eq_true c6
            clear c6
            by_cases c7 : 0 ≤ x4_1
            · rw [if_pos c7] at H
              have c7b0 : decide (0 ≤ x4_1) = true := decide_eq_true c7
              clear c7
              by_cases c8 : x4_1 < (x3_1.length : Int)
              · rw [if_pos c8] at H
                have c8b0 : decide (x4_1 < (x3_1.length : Int)) = true := decide_eq_true c8
                clear c8
                obtain ⟨y147, hy147⟩ : ∃ y_ : List Int, y_ = (x3_1.set (x4_1 : Int).toNat (rd l0 x4_1)) := ⟨_, rfl⟩
                replace H : (laws_toStack.l0 k1 l0 y147 (wrap64 (x4_1 + 1))) = some r := by first | (rw [hy147]; with_reducible exact H) | (have H2_ := (Option.bind_some _ _).symm.trans H; rw [hy147]; with_reducible exact H2_) | (have H2_ := (Option.bind_some _ _).symm.trans H; with_reducible exact H2_) | with_reducible exact H | (rw [hy147]; exact H) | exact H
                have Ny147 := Aside0.mk hy147
                clear hy147
                have H' := Aside0.mk H
                clear H
                have p146 : 0 ≤ (x4_1 : Int) := of_decide_eq_true (by first | (with_reducible assumption) | assumption)
                have q146 : x4_1 < (l0.length : Int) := of_decide_eq_true (by first | (with_reducible assumption) | assumption)
                obtain ⟨ad146, e146, hx146_0⟩ := Kd.at_int HR0.out x4_1 p146 q146
                cases e146
                replace hx146_0 := (HB.out.cell (World.block_lt_of_cell? w _ hx146_0)).trans hx146_0
                replace p146 := eq_true p146
                replace q146 := eq_true q146
                have p9 : 0 ≤ (x4_1 : Int) := of_decide_eq_true (by first | (with_reducible assumption) | assumption)
                have q9 : (x4_1 : Int) < ((x3_1.length : Int) : Int) := of_decide_eq_true (by first | (with_reducible assumption) | assumption)
                obtain ⟨go9, co9, eo9, gb9, gl9, cl9, HG9⟩ := Kd.R_form HO_3.out (by omega)
                (first | cases eo9 | (injection eo9 with ea_ en_ ec_; (first | subst ea_ | (injection ea_ with ea_; subst ea_)); subst ec_; clear en_))
                have GB9 := Aside0.mk gb9
                have GG9 := Aside0.mk HG9
                clear gb9 gl9 HG9
                obtain ⟨hx9_0, hf9_0⟩ := Kd.R_celln 0 HO_3.out (x4_1 : Int) p9 q9
                replace p9 := eq_true p9
                replace q9 := eq_true q9
                have HP10 := Kd.R_putg HO_3.out (x4_1 : Int) (rd l0 x4_1)
                go_wp2_with (first | ((with_reducible refine gate_store (t := 5) (p := 20) rfl ?_); refine store_event (t := 5) (p := 20) (v := ?vo_w11) (w1 := (wr.setCell ⟨go9, (x4_1 : Int).toNat, none⟩ (.int .u8 (rd l0 x4_1)))) ?hg ?ho ?hn ?hr ?_; (case ho => rfl); (case hg => rfl); (case hn => rfl); (case hr => first | (go_simp; done) | (go_simp; rfl)); intro w11 hw; have hg : wr.grownBy w11 (some go9) := (by rw [hw]; exact HP10.2); have hp_ : Kd.R (Kd.int .u8) 5 w11 w.heap.size (fun _ => True) (.slice (some ⟨go9, 0, none⟩) x3_1.length co9) y147 := (by rw [hw, Ny147.out]; exact HP10.1); clear HP10; have n0_ := Aside0.mk (hp_); have n1_ := Aside0.mk ((by rw [hw]; exact below_set (HB.out) GB9.out : Below w.heap.size w w11)); clear HO_3; clear HB; have HO_3 := n0_; have HB := n1_; clear n0_ n1_; clear hg hw hp_))
                go_roundg k1
                case measure => have := HK1.out; omega
                case rel => exact ⟨(y147), (wrap64 (x4_1 + 1)), (by first | rfl | (simp; done) | (simp [*]; done)), H', ⟨by have := HK1.out; omega⟩, ⟨by (with_reducible repeat (first | apply Kd.R_alloc | apply Kd.R_drewN | apply Kd.R_drew)); exact HO_3.out⟩, ⟨by repeat (first | (with_reducible first | exact HB.out | apply below_alloc | apply pw_below_drewN | apply below_drew1) | exact HB.out)⟩⟩
              · rw [if_neg c8] at H
                exact absurd H (by simp)
            · rw [if_neg c7] at H
              exact absurd H (by simp)
          · rw [if_neg c6] at H
            have c6b0 : decide (x4_1 < (l0.length : Int)) = false := decide_eq_false c6
            clear c6
            obtain rfl := Option.some.inj H
            go_wp2
            go_ret
            exact ⟨_, by first | rfl | (simp [errW_none, errW_some] <;> rfl) | (simp [*, errW_none, errW_some] <;> rfl), by (with_reducible repeat (first | apply Kd.R_alloc | apply Kd.R_drewN | apply Kd.R_drew)); exact HO_3.out, by repeat (first | (with_reducible first | exact HB.out | apply below_alloc | apply pw_below_drewN | apply below_drew1) | exact HB.out)⟩
    · rw [if_neg c3] at H
      exact absurd H (by simp)
  · rw [if_neg c2] at H
    exact absurd H (by simp)

end Go.Proofs.YtgfimdoildaonaaDoor.P

-- Written by a program of this session (a turned form of the kit's print) out of the translation.
namespace Go.Proofs.YtgfimdoildaonaaDoor.P
open Go.RowKit Go.Proofs.YtgfimdoildaonaaDoorW.PrintWords Go.Proofs.YtgfimdoildaonaaDoorW.PrintLast Go.Proofs.YtgfimdoildaonaaDoorW.PrintMore
attribute [local go_sem] max2_int min2_int max_two min_two max_three min_three max_four min_four   -- for this text's walks alone
set_option linter.unusedVariables false
set_option linter.unusedSimpArgs false

/-! ### laws_eqStack: function 10 -/
def laws_eqStack.l0 : Nat → List Int → List Int → Int → Option (Bool)
  | 0, _, _, _ => none
  | k + 1, x0, x1, x5 => if x5 < (x0.length : Int) then (if 0 ≤ x5 then (if x5 < (x1.length : Int) then (if (rd x0 x5) = (rd x1 x5) then (laws_eqStack.l0 k x0 x1 (wrap64 (x5 + 1))) else (some false)) else (none)) else (none)) else (some true)
def laws_eqStack.f (k : Nat) (l0 : List Int) (l1 : List Int) : Option (Bool) := if (l0.length : Int) = (l1.length : Int) then (laws_eqStack.l0 k l0 l1 0) else (some false)
theorem laws_eqStack.mono_l : ∀ k, (∀ y0 y1 y2, LeO (laws_eqStack.l0 k y0 y1 y2) (laws_eqStack.l0 (k + 1) y0 y1 y2))
  | 0 => fun _ _ _ r h => by simp [laws_eqStack.l0] at h
  | k + 1 => by
    have ih0 := laws_eqStack.mono_l k
    · intro y0 y1 y2
      unfold laws_eqStack.l0
      repeat' first
      | (with_reducible exact ih0 _ _ _)
      | (with_reducible exact LeO.refl _)
      | (with_reducible exact LeO.none _)
      | (with_reducible refine LeO.ite ?_ ?_)
      | (with_reducible refine LeO.bind ?_ (fun _ => ?_))
      | exact ih0 _ _ _
      | exact LeO.none _
      | refine LeO.ite ?_ ?_
      | refine LeO.bind ?_ (fun _ => ?_)
theorem laws_eqStack.mono : ∀ a0 a1 k, LeO (laws_eqStack.f k a0 a1) (laws_eqStack.f (k + 1) a0 a1) := by
  intro a0 a1 k
  have ih0 := laws_eqStack.mono_l k
  unfold laws_eqStack.f
  repeat' first
      | (with_reducible exact ih0 _ _ _)
      | (with_reducible exact LeO.refl _)
      | (with_reducible exact LeO.none _)
      | (with_reducible refine LeO.ite ?_ ?_)
      | (with_reducible refine LeO.bind ?_ (fun _ => ?_))
      | exact ih0 _ _ _
      | exact LeO.none _
      | refine LeO.ite ?_ ?_
      | refine LeO.bind ?_ (fun _ => ?_)
set_option maxHeartbeats 8000000 in
set_option maxRecDepth 100000 in
theorem laws_eqStack.calls (k : Nat) (A0 : Option Addr) (c0 : Nat) (l0 : List Int) (A1 : Option Addr) (c1 : Nat) (l1 : List Int) (r : Bool) (w : World) (hr0 : Kd.C (Kd.int .u8) w A0 l0.length l0) (hc0 : l0.length ≤ c0) (hr1 : Kd.C (Kd.int .u8) w A1 l1.length l1) (hc1 : l1.length ≤ c1) (h : laws_eqStack.f k l0 l1 = some r) :
    Calls Tryd.prog 10 #[.slice A0 l0.length c0, .slice A1 l1.length c1] w fun e w' => e = .returned (.bool r) ∧ Drawn0 w w' := by
  have HR0 := Aside0.mk hr0
  have HC0 := Aside0.mk hc0
  clear hr0 hc0
  have HR1 := Aside0.mk hr1
  have HC1 := Aside0.mk hc1
  clear hr1 hc1
  have H : (if (l0.length : Int) = (l1.length : Int) then (laws_eqStack.l0 k l0 l1 0) else (some false)) = some r := h
  clear h
  by_cases c3 : (l0.length : Int) = (l1.length : Int)
  · rw [if_pos c3] at H
    have c3b0 : ((l0.length : Int) == (l1.length : Int)) = true := beq_iff_eq.mpr c3
    have c3b1 : ((l0.length : Int) != (l1.length : Int)) = false := bne_eq_false_iff_eq.mpr c3
    have c3b2 : (l0.length == l1.length) = true := by first | simpa using c3 | (simp at c3 ⊢; omega)
    clear c3
    have H' := Aside0.mk H
    clear H
    go_enter Tryd.func10, Tryd.ntmps10
    go_wp2
    repeat (go_quiet (fail); try go_wp2)
    go_loopg [5] k (fun kq v5 w' => ∃ (x5_1 : Int), v5 = .int .i64 x5_1 ∧ Aside0 (laws_eqStack.l0 kq l0 l1 x5_1 = some r) ∧ Aside0 (kq ≤ k) ∧ Drawn0 w w')
    case atStart => exact ⟨(0), (by first | rfl | (simp; done) | (simp [*]; done)), H', ⟨Nat.le_refl _⟩, by repeat (first | exact Drawn0.refl _ | apply Drawn0.step)⟩
    case round =>
      clear H'
      try clear c1
      try clear p2
      try clear c3
      try clear c3b0
      try clear c3b1
      try clear c3b2
      obtain ⟨x5_1, rfl, HA, HK1, ⟨m1, rfl⟩⟩ := hrel
      cases gk with
      | zero => exact absurd HA.out (by simp [laws_eqStack.l0])
      | succ k1 =>
        have H := HA.out
        clear HA
        simp only [laws_eqStack.l0] at H
        by_cases c4 : x5_1 < (l0.length : Int)
        · rw [if_pos c4] at H
          have c4b0 : decide (x5_1 < (l0.length : Int)) = true := decide_eq_true c4
          clear c4
          by_cases c5 : 0 ≤ x5_1
          · rw [if_pos c5] at H
            have c5b0 : decide (0 ≤ x5_1) = true := decide_eq_true c5
            clear c5
            by_cases c6 : x5_1 < (l1.length : Int)
            · rw [if_pos c6] at H
              have c6b0 : decide (x5_1 < (l1.length : Int)) = true := decide_eq_true c6
              clear c6
              by_cases c7 : (rd l0 x5_1) = (rd l1 x5_1)
              · rw [if_pos c7] at H
                have c7b0 : ((rd l0 x5_1) == (rd l1 x5_1)) = true := beq_iff_eq.mpr c7
                have c7b1 : ((rd l0 x5_1) != (rd l1 x5_1)) = false := bne_eq_false_iff_eq.mpr c7
                clear c7
                have H' := Aside0.mk H
                clear H
                have p179 : 0 ≤ (x5_1 : Int) := of_decide_eq_true (by first | (with_reducible assumption) | assumption)
                have q179 : x5_1 < (l0.length : Int) := of_decide_eq_true (by first | (with_reducible assumption) | assumption)
                obtain ⟨ad179, e179, hx179_0⟩ := Kd.at_int HR0.out x5_1 p179 q179
                cases e179
                replace p179 := eq_true p179
                replace q179 := eq_true q179
                have p180 : 0 ≤ (x5_1 : Int) := of_decide_eq_true (by first | (with_reducible assumption) | assumption)
                have q180 : x5_1 < (l1.length : Int) := of_decide_eq_true (by first | (with_reducible assumption) | assumption)
                obtain ⟨ad180, e180, hx180_0⟩ := Kd.at_int HR1.out x5_1 p180 q180
                cases e180
                replace p180 := eq_true p180
                replace q180 := eq_true q180
                go_wp2
                repeat (go_quiet (fail); try go_wp2)
                go_roundg k1
                case measure => have := HK1.out; omega
                case rel => exact ⟨(wrap64 (x5_1 + 1)), (by first | rfl | (simp; done) | (simp [*]; done)), H', ⟨by have := HK1.out; omega⟩, by repeat (first | exact Drawn0.refl _ | apply Drawn0.step)⟩
              · rw [if_neg c7] at H
                have c7b0 : ((rd l0 x5_1) == (rd l1 x5_1)) = false := beq_eq_false_iff_ne.mpr c7
                have c7b1 : ((rd l0 x5_1) != (rd l1 x5_1)) = true := bne_iff_ne.mpr c7
                obtain rfl := Option.some.inj H
                have p179 : 0 ≤ (x5_1 : Int) := of_decide_eq_true (by first | (with_reducible assumption) | assumption)
                have q179 : x5_1 < (l0.length : Int) := of_decide_eq_true (by first | (with_reducible assumption) | assumption)
                obtain ⟨ad179, e179, hx179_0⟩ := Kd.at_int HR0.out x5_1 p179 q179
                cases e179
                replace p179 := eq_true p179
                replace q179 := eq_true q179
                have p180 : 0 ≤ (x5_1 : Int) := of_decide_eq_true (by first | (with_reducible assumption) | assumption)
                have q180 : x5_1 < (l1.length : Int) := of_decide_eq_true (by first | (with_reducible assumption) | assumption)
                obtain ⟨ad180, e180, hx180_0⟩ := Kd.at_int HR1.out x5_1 p180 q180
                cases e180
                replace p180 := eq_true p180
                replace q180 := eq_true q180
                go_wp2
                repeat (go_quiet (fail); try go_wp2)
                go_ret
                exact ⟨by first | rfl | (simp; done) | (simp [*]; done), by repeat (first | exact Drawn0.refl _ | apply Drawn0.step)⟩
            · rw [if_neg c6] at H
              exact absurd H (by simp)
          · rw [if_neg c5] at H
            exact absurd H (by simp)
        · rw [if_neg c4] at H
          have c4b0 : decide (x5_1 < (l0.length : Int)) = false := decide_eq_false c4
          clear c4
          obtain rfl := Option.some.inj H
          go_wp2
          repeat (go_quiet (fail); try go_wp2)
          go_ret
          exact ⟨by first | rfl | (simp; done) | (simp [*]; done), by repeat (first | exact Drawn0.refl _ | apply Drawn0.step)⟩
  · rw [if_neg c3] at H
    have c3b0 : ((l0.length : Int) == (l1.length : Int)) = false := beq_eq_false_iff_ne.mpr c3
    have c3b1 : ((l0.length : Int) != (l1.length : Int)) = true := bne_iff_ne.mpr c3
    have c3b2 : (l0.length == l1.length) = false := by first | simpa using c3 | (simp at c3 ⊢; omega)
    obtain rfl := Option.some.inj H
    go_enter Tryd.func10, Tryd.ntmps10
    go_wp2
    repeat (go_quiet (fail); try go_wp2)
    go_ret
    exact ⟨by first | rfl | (simp; done) | (simp [*]; done), by repeat (first | exact Drawn0.refl _ | apply Drawn0.step)⟩

end Go.Proofs.YtgfimdoildaonaaDoor.P

/- Plain laws of the laws' helpers on stacks and digits: copies are equal. -/
namespace Go.Proofs.YtgfimdoildaonaaDoor.P
open Go.RowKit Go.Proofs.YtgfimdoildaonaaDoorW.PrintWords Go.Proofs.YtgfimdoildaonaaDoorW.PrintLast Go.Proofs.YtgfimdoildaonaaDoorW.PrintMore
set_option linter.unusedVariables false
theorem to_stack (l : List Int) (hn : l.length ≤ 1048576) : laws_toStack.f 1048577 l = some l := by
  unfold laws_toStack.f
  rw [if_pos (by omega), if_pos (by omega)]
  have key := map_loop 0 (fun x : Int => x) l (fun k ys i => laws_toStack.l0 k l ys i) (by omega) ?_ ?_ l.length 1048577 0 (List.replicate ((l.length : Int)).toNat 0) (by omega) (by omega) (by simp)
  · simp only [Int.ofNat_zero] at key
    rw [key]; simp
  · intro k ys i hi hl
    simp only [laws_toStack.l0]
    rw [if_pos (by omega), if_pos (by omega), if_pos (by omega)]
    simp [rd]
  · intro k ys
    simp only [laws_toStack.l0]
    rw [if_neg (by omega)]
theorem eq_stack (l : List Int) (hn : l.length ≤ 1048576) : laws_eqStack.f 1048577 l l = some true := by
  unfold laws_eqStack.f
  rw [if_pos rfl]
  have key := all_loop (fun _ => true) l.length (fun k i => laws_eqStack.l0 k l l i) (by omega) 1 (by omega) ?_ ?_ ?_ l.length 1048577 0 (by omega) (by omega)
  · rw [show ((0 : Nat) : Int) = 0 from rfl] at key
    rw [key]; simp
  · intro k i hi _
    simp only [laws_eqStack.l0]
    rw [if_pos (by omega), if_pos (by omega), if_pos (by omega)]
    simp
  · intro k i hi h; cases h
  · intro k
    simp only [laws_eqStack.l0]
    rw [if_neg (by omega)]
end Go.Proofs.YtgfimdoildaonaaDoor.P

/- The law FnExactPhotoText, walked over the contracts of what it calls. -/
namespace Go.Proofs.YtgfimdoildaonaaDoor.P
open Go.RowKit Go.Proofs.YtgfimdoildaonaaDoorW.PrintWords Go.Proofs.YtgfimdoildaonaaDoorW.PrintLast Go.Proofs.YtgfimdoildaonaaDoorW.PrintMore
set_option linter.unusedVariables false
set_option linter.unusedSimpArgs false
set_option maxHeartbeats 2000000 in
set_option maxRecDepth 100000 in
theorem lawPhotoText (A0 : Option Addr) (c0 : Nat) (s : List Int) (x : Ph) (w : World) (hT : Tab w) (hr0 : Kd.C (Kd.int .u8) w A0 s.length s) (hc0 : s.length ≤ c0) (hm : s.length ≤ maxLen) (hd : phIn x) :
    Calls Tryd.prog 3 #[.slice A0 s.length c0, .agg #[.int .u64 x.f0.f0, .int .u64 x.f0.f1, .int .u64 x.f1.f0, .int .u64 x.f1.f1, .int .u64 x.f2.f0, .int .u64 x.f2.f1, .int .u64 x.f3.f0, .int .u64 x.f3.f1, .int .u64 x.f4.f0, .int .u64 x.f4.f1, .int .u64 x.f5.f0, .int .u64 x.f5.f1, .int .u64 x.f6.f0, .int .u64 x.f6.f1, .int .u64 x.f7.f0, .int .u64 x.f7.f1]] w fun e w' => e = .returned (.bool true) ∧ Below w.heap.size w w' := by
  unfold maxLen at hm
  have HR := Aside0.mk hr0
  have HTB := Aside0.mk hT
  have HDA := Aside0.mk hd
  have HB1 := Aside0.mk (below_alloc (Below.refl w.heap.size w) (.cells #[.int .u64 x.f0.f0, .int .u64 x.f0.f1, .int .u64 x.f1.f0, .int .u64 x.f1.f1, .int .u64 x.f2.f0, .int .u64 x.f2.f1, .int .u64 x.f3.f0, .int .u64 x.f3.f1, .int .u64 x.f4.f0, .int .u64 x.f4.f1, .int .u64 x.f5.f0, .int .u64 x.f5.f1, .int .u64 x.f6.f0, .int .u64 x.f6.f1, .int .u64 x.f7.f0, .int .u64 x.f7.f1] 25))
  have HK1 := Aside0.mk (blk_new w (.cells #[.int .u64 x.f0.f0, .int .u64 x.f0.f1, .int .u64 x.f1.f0, .int .u64 x.f1.f1, .int .u64 x.f2.f0, .int .u64 x.f2.f1, .int .u64 x.f3.f0, .int .u64 x.f3.f1, .int .u64 x.f4.f0, .int .u64 x.f4.f1, .int .u64 x.f5.f0, .int .u64 x.f5.f1, .int .u64 x.f6.f0, .int .u64 x.f6.f1, .int .u64 x.f7.f0, .int .u64 x.f7.f1] 25))
  clear hr0 hT hd
  by_cases hbig : 1048576 < s.length
  · have hg : decide ((1048576 : Int) < (s.length : Int)) = true := decide_eq_true (by omega)
    clear hbig
    go_enter Tryd.func3, Tryd.ntmps3
    go_wp2_with fail
    go_ret
    exact ⟨rfl, HB1.out⟩
  · have hn : s.length ≤ 1048576 := by omega
    have hg : decide ((1048576 : Int) < (s.length : Int)) = false := decide_eq_false (by omega)
    have HTS := Aside0.mk (to_stack s hn)
    have HES := Aside0.mk (eq_stack s hn)
    have HTD := Aside0.mk (to_photo x)
    have HN := Aside0.mk hn
    clear hbig
    go_enter Tryd.func3, Tryd.ntmps3
    go_wp2_with fail
    have HK := HK1
    have HB := HB1
    clear HK1 HB1
    generalize w.alloc (.cells #[.int .u64 x.f0.f0, .int .u64 x.f0.f1, .int .u64 x.f1.f0, .int .u64 x.f1.f1, .int .u64 x.f2.f0, .int .u64 x.f2.f1, .int .u64 x.f3.f0, .int .u64 x.f3.f1, .int .u64 x.f4.f0, .int .u64 x.f4.f1, .int .u64 x.f5.f0, .int .u64 x.f5.f1, .int .u64 x.f6.f0, .int .u64 x.f6.f1, .int .u64 x.f7.f0, .int .u64 x.f7.f1] 25) = W0 at HK HB ⊢
    refine start_ (n := 6) (S := fun w' => w'.cell? ⟨w.heap.size, 0, none⟩ = some (.int .u64 x.f0.f0) ∧ w'.cell? ⟨w.heap.size, 1, none⟩ = some (.int .u64 x.f0.f1) ∧ w'.cell? ⟨w.heap.size, 2, none⟩ = some (.int .u64 x.f1.f0) ∧ w'.cell? ⟨w.heap.size, 3, none⟩ = some (.int .u64 x.f1.f1) ∧ w'.cell? ⟨w.heap.size, 4, none⟩ = some (.int .u64 x.f2.f0) ∧ w'.cell? ⟨w.heap.size, 5, none⟩ = some (.int .u64 x.f2.f1) ∧ w'.cell? ⟨w.heap.size, 6, none⟩ = some (.int .u64 x.f3.f0) ∧ w'.cell? ⟨w.heap.size, 7, none⟩ = some (.int .u64 x.f3.f1) ∧ w'.cell? ⟨w.heap.size, 8, none⟩ = some (.int .u64 x.f4.f0) ∧ w'.cell? ⟨w.heap.size, 9, none⟩ = some (.int .u64 x.f4.f1) ∧ w'.cell? ⟨w.heap.size, 10, none⟩ = some (.int .u64 x.f5.f0) ∧ w'.cell? ⟨w.heap.size, 11, none⟩ = some (.int .u64 x.f5.f1) ∧ w'.cell? ⟨w.heap.size, 12, none⟩ = some (.int .u64 x.f6.f0) ∧ w'.cell? ⟨w.heap.size, 13, none⟩ = some (.int .u64 x.f6.f1) ∧ w'.cell? ⟨w.heap.size, 14, none⟩ = some (.int .u64 x.f7.f0) ∧ w'.cell? ⟨w.heap.size, 15, none⟩ = some (.int .u64 x.f7.f1)) (ds := []) #[false, false, false, false, false, false] (by kernel_rfl) rfl rfl (⟨(blk_cell HK.out 0).trans rfl, (blk_cell HK.out 1).trans rfl, (blk_cell HK.out 2).trans rfl, (blk_cell HK.out 3).trans rfl, (blk_cell HK.out 4).trans rfl, (blk_cell HK.out 5).trans rfl, (blk_cell HK.out 6).trans rfl, (blk_cell HK.out 7).trans rfl, (blk_cell HK.out 8).trans rfl, (blk_cell HK.out 9).trans rfl, (blk_cell HK.out 10).trans rfl, (blk_cell HK.out 11).trans rfl, (blk_cell HK.out 12).trans rfl, (blk_cell HK.out 13).trans rfl, (blk_cell HK.out 14).trans rfl, (blk_cell HK.out 15).trans rfl⟩) (fun hHeld => ?_)
    have n0_ := Aside0.mk (blk_drew HK.out)
    have n1_ := Aside0.mk (below_drew1 HB.out)
    clear HK HB
    have HK := n0_
    have HB := n1_
    clear n0_ n1_
    generalize W0.drew = W1 at HK HB hHeld ⊢
    refine pure_ (i := 0) (N := (some 11)) (v := ?_) (a' := ?_) #[true, false, false, false, false, false] rfl rfl (by kernel_rfl) (fun _ _ _ h => h) (Or.inl ⟨by rfl, ?_⟩) ?_ ?_
    rotate_left
    · intro w'
      go_simp
      with_reducible rfl
    rotate_left
    · simp only [Act.put, List.setIfInBounds_toArray, List.set_cons_zero, List.set_cons_succ, i64_w, i32_w]
      rfl
    refine take_ (i := 2) (N := (some 13)) (v := ?_) (a' := ?_) #[true, false, true, false, false, false] rfl rfl (by kernel_rfl) (fun _ _ _ h => h) (Or.inl ⟨by rfl, ?_⟩) hHeld ?_ ?_
    rotate_left
    · rintro w' ⟨s0, s1, s2, s3, s4, s5, s6, s7, s8, s9, s10, s11, s12, s13, s14, s15⟩
      go_simp
      with_reducible rfl
    rotate_left
    · simp only [Act.put, List.setIfInBounds_toArray, List.set_cons_zero, List.set_cons_succ, i64_w, i32_w]
      rfl
    refine one_ (i := 1) (N := (some 12)) #[true, true, true, false, false, false] rfl rfl (by kernel_rfl) (by decide) (fun K hK => ?_)
    refine goes_ Tryd.func7 (by kernel_rfl) rfl #[.slice A0 s.length c0] (by rfl) rfl rfl (by (try simp only [List.map_toArray, List.map_cons, List.map_nil]); first | done | rfl) ?_
    with_reducible refine (laws_toStack.calls 1048577 _ _ s s _ (Kd.C_below HR.out HB.out) hc0 HTS.out).mono ?_
    rintro e w2 ⟨v0, rfl, ho, hb⟩
    obtain ⟨A1, c1, hv, hl1, hC1⟩ := Kd.R_reads ho
    subst hv
    refine ⟨_, rfl, ?_⟩
    have n0_ := Aside0.mk (blk_below HK.out hb)
    have n1_ := Aside0.mk (below_step HB.out hb)
    have HC1 := Aside0.mk hC1
    clear HK HB hb ho hC1
    have HK := n0_
    have HB := n1_
    clear n0_ n1_
    refine hK.out _ _ (⟨(blk_cell HK.out 0).trans rfl, (blk_cell HK.out 1).trans rfl, (blk_cell HK.out 2).trans rfl, (blk_cell HK.out 3).trans rfl, (blk_cell HK.out 4).trans rfl, (blk_cell HK.out 5).trans rfl, (blk_cell HK.out 6).trans rfl, (blk_cell HK.out 7).trans rfl, (blk_cell HK.out 8).trans rfl, (blk_cell HK.out 9).trans rfl, (blk_cell HK.out 10).trans rfl, (blk_cell HK.out 11).trans rfl, (blk_cell HK.out 12).trans rfl, (blk_cell HK.out 13).trans rfl, (blk_cell HK.out 14).trans rfl, (blk_cell HK.out 15).trans rfl⟩) (fun hHeld => ?_)
    clear hK K
    refine norm_ (a' := ?_) ?_ ?_
    rotate_left
    · show Act.put _ (some 12) _ = _
      simp only [Act.put, List.setIfInBounds_toArray, List.set_cons_zero, List.set_cons_succ, i64_w, i32_w]
      rfl
    refine one_ (i := 3) (N := (some 14)) #[true, true, true, true, false, false] rfl rfl (by kernel_rfl) (by decide) (fun K hK => ?_)
    refine goes_ Tryd.func8 (by kernel_rfl) rfl #[.agg #[.int .u64 x.f0.f0, .int .u64 x.f0.f1, .int .u64 x.f1.f0, .int .u64 x.f1.f1, .int .u64 x.f2.f0, .int .u64 x.f2.f1, .int .u64 x.f3.f0, .int .u64 x.f3.f1, .int .u64 x.f4.f0, .int .u64 x.f4.f1, .int .u64 x.f5.f0, .int .u64 x.f5.f1, .int .u64 x.f6.f0, .int .u64 x.f6.f1, .int .u64 x.f7.f0, .int .u64 x.f7.f1]] (by rfl) rfl rfl (by (try simp only [List.map_toArray, List.map_cons, List.map_nil]); first | done | rfl) ?_
    with_reducible refine (laws_toPhoto.calls 40 _ _ _ _ _ _ _ _ _ _ _ _ _ _ _ _ _ _ _ _ _ _ _ _ _ _ _ _ _ _ _ _ _ HTD.out).mono ?_
    rintro e w3 ⟨rfl, hb⟩
    refine ⟨_, rfl, ?_⟩
    have n0_ := Aside0.mk (blk_below HK.out hb)
    have n1_ := Aside0.mk (below_step HB.out hb)
    have n2_ := Aside0.mk (Kd.C_below HC1.out hb)
    clear HK HB hb HC1
    have HK := n0_
    have HB := n1_
    have HC1 := n2_
    clear n0_ n1_ n2_
    refine hK.out _ _ (⟨(blk_cell HK.out 0).trans rfl, (blk_cell HK.out 1).trans rfl, (blk_cell HK.out 2).trans rfl, (blk_cell HK.out 3).trans rfl, (blk_cell HK.out 4).trans rfl, (blk_cell HK.out 5).trans rfl, (blk_cell HK.out 6).trans rfl, (blk_cell HK.out 7).trans rfl, (blk_cell HK.out 8).trans rfl, (blk_cell HK.out 9).trans rfl, (blk_cell HK.out 10).trans rfl, (blk_cell HK.out 11).trans rfl, (blk_cell HK.out 12).trans rfl, (blk_cell HK.out 13).trans rfl, (blk_cell HK.out 14).trans rfl, (blk_cell HK.out 15).trans rfl⟩) (fun hHeld => ?_)
    clear hK K
    refine norm_ (a' := ?_) ?_ ?_
    rotate_left
    · show Act.put _ (some 14) _ = _
      simp only [Act.put, List.setIfInBounds_toArray, List.set_cons_zero, List.set_cons_succ, i64_w, i32_w]
      rfl
    refine one_ (i := 4) (N := (some 15)) #[true, true, true, true, true, false] rfl rfl (by kernel_rfl) (by decide) (fun K hK => ?_)
    refine goes_ Tryd.func6 (by kernel_rfl) rfl #[.slice A1 s.length c1, .agg #[.int .u64 x.f0.f0, .int .u64 x.f0.f1, .int .u64 x.f1.f0, .int .u64 x.f1.f1, .int .u64 x.f2.f0, .int .u64 x.f2.f1, .int .u64 x.f3.f0, .int .u64 x.f3.f1, .int .u64 x.f4.f0, .int .u64 x.f4.f1, .int .u64 x.f5.f0, .int .u64 x.f5.f1, .int .u64 x.f6.f0, .int .u64 x.f6.f1, .int .u64 x.f7.f0, .int .u64 x.f7.f1]] (by rfl) rfl rfl (by (try simp only [List.map_toArray, List.map_cons, List.map_nil]); first | done | rfl) ?_
    with_reducible refine (specPhotoText_at _ _ s x _ HDA.out HC1.out hl1 HN.out).mono ?_
    rintro e w4 ⟨rfl, hb⟩
    refine ⟨_, rfl, ?_⟩
    have n0_ := Aside0.mk (blk_below HK.out hb)
    have n1_ := Aside0.mk (below_step HB.out hb)
    clear HK HB hb HC1
    have HK := n0_
    have HB := n1_
    clear n0_ n1_
    refine hK.out _ _ (⟨(blk_cell HK.out 0).trans rfl, (blk_cell HK.out 1).trans rfl, (blk_cell HK.out 2).trans rfl, (blk_cell HK.out 3).trans rfl, (blk_cell HK.out 4).trans rfl, (blk_cell HK.out 5).trans rfl, (blk_cell HK.out 6).trans rfl, (blk_cell HK.out 7).trans rfl, (blk_cell HK.out 8).trans rfl, (blk_cell HK.out 9).trans rfl, (blk_cell HK.out 10).trans rfl, (blk_cell HK.out 11).trans rfl, (blk_cell HK.out 12).trans rfl, (blk_cell HK.out 13).trans rfl, (blk_cell HK.out 14).trans rfl, (blk_cell HK.out 15).trans rfl⟩) (fun hHeld => ?_)
    clear hK K
    refine norm_ (a' := ?_) ?_ ?_
    rotate_left
    · show Act.put _ (some 15) _ = _
      simp only [Act.put, List.setIfInBounds_toArray, List.set_cons_zero, List.set_cons_succ, i64_w, i32_w]
      rfl
    refine pure_ (i := 5) (N := (some 5)) (v := ?_) (a' := ?_) #[true, true, true, true, true, true] rfl rfl (by kernel_rfl) (fun _ _ _ h => h) (Or.inl ⟨by rfl, ?_⟩) ?_ ?_
    rotate_left
    · intro w'
      go_simp
      with_reducible rfl
    rotate_left
    · simp only [Act.put, List.setIfInBounds_toArray, List.set_cons_zero, List.set_cons_succ, i64_w, i32_w]
      rfl
    refine done_ (by kernel_rfl) ?_
    clear hHeld
    go_wp2_with fail
    refine (laws_toStack.calls 1048577 _ _ s s _ (Kd.C_below HR.out HB.out) hc0 HTS.out).mono ?_
    rintro e w5 ⟨v1, rfl, ho, hb⟩
    obtain ⟨A2, c2, hv, hl2, hC2⟩ := Kd.R_reads ho
    subst hv
    have n0_ := Aside0.mk (blk_below HK.out hb)
    have n1_ := Aside0.mk (below_step HB.out hb)
    have HC2 := Aside0.mk hC2
    clear HK HB hb ho hC2
    have HK := n0_
    have HB := n1_
    clear n0_ n1_
    have hq0 := (blk_cell HK.out 0).trans rfl
    have hq1 := (blk_cell HK.out 1).trans rfl
    have hq2 := (blk_cell HK.out 2).trans rfl
    have hq3 := (blk_cell HK.out 3).trans rfl
    have hq4 := (blk_cell HK.out 4).trans rfl
    have hq5 := (blk_cell HK.out 5).trans rfl
    have hq6 := (blk_cell HK.out 6).trans rfl
    have hq7 := (blk_cell HK.out 7).trans rfl
    have hq8 := (blk_cell HK.out 8).trans rfl
    have hq9 := (blk_cell HK.out 9).trans rfl
    have hq10 := (blk_cell HK.out 10).trans rfl
    have hq11 := (blk_cell HK.out 11).trans rfl
    have hq12 := (blk_cell HK.out 12).trans rfl
    have hq13 := (blk_cell HK.out 13).trans rfl
    have hq14 := (blk_cell HK.out 14).trans rfl
    have hq15 := (blk_cell HK.out 15).trans rfl
    go_wp2_with fail
    refine (laws_toPhoto.calls 40 _ _ _ _ _ _ _ _ _ _ _ _ _ _ _ _ _ _ _ _ _ _ _ _ _ _ _ _ _ _ _ _ _ HTD.out).mono ?_
    rintro e w6 ⟨rfl, hb⟩
    clear hq0 hq1 hq2 hq3 hq4 hq5 hq6 hq7 hq8 hq9 hq10 hq11 hq12 hq13 hq14 hq15 HK
    have n1_ := Aside0.mk (below_step HB.out hb)
    have n2_ := Aside0.mk (Kd.C_below HC2.out hb)
    clear HB hb HC2
    have HB := n1_
    have HC2 := n2_
    clear n1_ n2_
    go_wp2_with fail
    refine (implPhotoText_at _ _ s x _ (HTB.out.below HB.out) HDA.out HC2.out hl2 HN.out).mono ?_
    rintro e w7 ⟨rfl, hb⟩
    have n1_ := Aside0.mk (below_step HB.out hb)
    have n2_ := Aside0.mk (Kd.C_below HC2.out hb)
    clear HB hb HC2
    have HB := n1_
    have HC2 := n2_
    clear n1_ n2_
    generalize photoText s x = txt
    go_wp2_with fail
    refine (laws_toStack.calls 1048577 _ _ s s _ (Kd.C_below HR.out HB.out) hc0 HTS.out).mono ?_
    rintro e w8 ⟨v2, rfl, ho, hb⟩
    obtain ⟨A3, c3, hv, hl3, hC3⟩ := Kd.R_reads ho
    subst hv
    have n1_ := Aside0.mk (below_step HB.out hb)
    have n2_ := Aside0.mk (Kd.C_below HC2.out hb)
    have HC3 := Aside0.mk hC3
    clear HB hb ho hC3 HC2
    have HB := n1_
    have HC2 := n2_
    clear n1_ n2_
    go_wp2_with fail
    refine (laws_eqStack.calls 1048577 _ _ s _ _ s true _ HC2.out hl2 HC3.out hl3 HES.out).mono ?_
    rintro e w9 ⟨rfl, hb⟩
    have HB9 := Aside0.mk (below_step HB.out hb.below)
    clear HB hb
    go_wp2_with fail
    go_ret
    exact ⟨rfl, HB9.out⟩
end Go.Proofs.YtgfimdoildaonaaDoor.P

/- FnExactPhotoText: for every stack and photo the program's PhotoText returns what the reference's returns; no condition. -/
namespace Go.Proofs.YtgfimdoildaonaaDoor.P
open Go.ChangeShapes Go.WideShapes Go.ChangeAt Go.RowKit Go.Proofs.YtgfimdoildaonaaDoorW.PrintWords
set_option linter.unusedVariables false

theorem ownPh : ownKnob Tryd.prog.godebug = none := by kernel_rfl
theorem laidOutPh : laidOutB Tryd.prog = true := by kernel_rfl
set_option maxRecDepth 100000 in
theorem lPh_contract (H : Type) (enc : TypeId × Value → H) (W : World) (base : Nat) (args : Array Value) (ds gs : List (DataW H)) (before : List MemPlace)
    (hval : ∀ (j : Nat) t v, Tryd.f3.params[j]? = some t → args[j]? = some v → Value.okWide Tryd.prog W .any base t v)
    (hW : DataW.Whole enc Tryd.prog Tryd.f3.params.toList Rows.fnExactPhotoTextSpec.vars false W args.toList ds gs before) (hL : laidMetH Tryd.prog Rows.fnExactPhotoTextRow.laid W) :
    Calls Tryd.prog 3 args W fun e W' => ∃ v, e = .returned v ∧ Rows.fnExactPhotoTextSpec.post enc Tryd.prog Tryd.f3 false true false false W args v W' := by
  have hT : Tab W := tab_of_laid (l := Rows.fnExactPhotoTextRow.laid) (.tail _ (.tail _ (.head _))) hL
  have hW' := hW
  obtain ⟨p, q, hA0, hV, rfl, hfz, hnd⟩ := hW
  have hA : DataW.TrodAll enc Tryd.prog W 0 (fun _ => true) true Tryd.f3.params.toList args.toList ds p := hA0
  rw [Tryd.params3] at hA hval
  obtain ⟨v0, vs0, d0, ds0, p0, q0, hargs, rfl, rfl, h0, r0⟩ := trodAll_cons hA
  obtain ⟨v1, vs1, d1, ds1, p1, q1, rfl, rfl, rfl, h1, r1⟩ := trodAll_cons r0
  obtain ⟨rfl, rfl, rfl⟩ := trodAll_nil r1
  obtain rfl : args = #[v0, v1] := by cases args; simp_all
  obtain ⟨rfl, rfl⟩ := trodVars_none hV
  obtain ⟨a0, len0, cap0, rfl⟩ := okWide_slice Tryd.underlying22 (hval 0 22 v0 rfl rfl)
  have k0 := h0
  have lt0 : ∀ x ∈ p0, x.block < W.heap.size := by exact trod_lt1 k0
  have k1 := h1
  have lt1 : ∀ x ∈ p1, x.block < W.heap.size := by exact trod_lt1 k1
  obtain ⟨fuel, hf⟩ := h0
  obtain ⟨A, c, xs, hcs, hle, hcm, hC, hwf⟩ := opens_slice (Kd.int .u8) (fun n => 0 ≤ n ∧ n ≤ 255) open_u8 (by kernel_rfl) Tryd.underlying22 hf
  simp [Value.cells] at hcs
  obtain ⟨rfl, rfl, rfl⟩ := hcs
  obtain ⟨cs1, rfl, _⟩ := okWide_array Tryd.underlying25 (hval 1 25 v1 rfl rfl)
  obtain ⟨fuel1, hf1⟩ := h1
  obtain ⟨ps, hps, hpl, hpb⟩ := open_mks hf1
  match ps, hpl, hps, hpb with
  | [(a0_, b0_), (a1_, b1_), (a2_, b2_), (a3_, b3_), (a4_, b4_), (a5_, b5_), (a6_, b6_), (a7_, b7_)], _, hps, hpb =>
    have hcs1 : cs1 = #[.int .u64 a0_, .int .u64 b0_, .int .u64 a1_, .int .u64 b1_, .int .u64 a2_, .int .u64 b2_, .int .u64 a3_, .int .u64 b3_, .int .u64 a4_, .int .u64 b4_, .int .u64 a5_, .int .u64 b5_, .int .u64 a6_, .int .u64 b6_, .int .u64 a7_, .int .u64 b7_] := by
      have h : cs1.toList = _ := hps
      exact Array.toList_inj.1 h
    subst hcs1
    have hin : phIn ⟨⟨a0_, b0_⟩, ⟨a1_, b1_⟩, ⟨a2_, b2_⟩, ⟨a3_, b3_⟩, ⟨a4_, b4_⟩, ⟨a5_, b5_⟩, ⟨a6_, b6_⟩, ⟨a7_, b7_⟩⟩ := by
      intro i hi
      have : i = 0 ∨ i = 1 ∨ i = 2 ∨ i = 3 ∨ i = 4 ∨ i = 5 ∨ i = 6 ∨ i = 7 := by omega
      rcases this with rfl | rfl | rfl | rfl | rfl | rfl | rfl | rfl
      · have h := hpb (a0_, b0_) (by simp)
        exact ⟨⟨h.1.1, Int.lt_of_le_of_lt h.1.2 (by decide)⟩, ⟨h.2.1, Int.lt_of_le_of_lt h.2.2 (by decide)⟩⟩
      · have h := hpb (a1_, b1_) (by simp)
        exact ⟨⟨h.1.1, Int.lt_of_le_of_lt h.1.2 (by decide)⟩, ⟨h.2.1, Int.lt_of_le_of_lt h.2.2 (by decide)⟩⟩
      · have h := hpb (a2_, b2_) (by simp)
        exact ⟨⟨h.1.1, Int.lt_of_le_of_lt h.1.2 (by decide)⟩, ⟨h.2.1, Int.lt_of_le_of_lt h.2.2 (by decide)⟩⟩
      · have h := hpb (a3_, b3_) (by simp)
        exact ⟨⟨h.1.1, Int.lt_of_le_of_lt h.1.2 (by decide)⟩, ⟨h.2.1, Int.lt_of_le_of_lt h.2.2 (by decide)⟩⟩
      · have h := hpb (a4_, b4_) (by simp)
        exact ⟨⟨h.1.1, Int.lt_of_le_of_lt h.1.2 (by decide)⟩, ⟨h.2.1, Int.lt_of_le_of_lt h.2.2 (by decide)⟩⟩
      · have h := hpb (a5_, b5_) (by simp)
        exact ⟨⟨h.1.1, Int.lt_of_le_of_lt h.1.2 (by decide)⟩, ⟨h.2.1, Int.lt_of_le_of_lt h.2.2 (by decide)⟩⟩
      · have h := hpb (a6_, b6_) (by simp)
        exact ⟨⟨h.1.1, Int.lt_of_le_of_lt h.1.2 (by decide)⟩, ⟨h.2.1, Int.lt_of_le_of_lt h.2.2 (by decide)⟩⟩
      · have h := hpb (a7_, b7_) (by simp)
        exact ⟨⟨h.1.1, Int.lt_of_le_of_lt h.1.2 (by decide)⟩, ⟨h.2.1, Int.lt_of_le_of_lt h.2.2 (by decide)⟩⟩
    refine (lawPhotoText a0 cap0 xs ⟨⟨a0_, b0_⟩, ⟨a1_, b1_⟩, ⟨a2_, b2_⟩, ⟨a3_, b3_⟩, ⟨a4_, b4_⟩, ⟨a5_, b5_⟩, ⟨a6_, b6_⟩, ⟨a7_, b7_⟩⟩ W hT hC hle (Nat.le_trans hle hcm) hin).mono fun e W' ⟨he, bel⟩ => ?_
    subst he
    exact ⟨_, rfl, _, _, _, [], _, [], hW', trodAll_mk1 (shut_bool Tryd.underlying4 _), trodAll_cons_mk (Below.trod laidOutPh (by kernel_rfl) (of_decide_eq_true (by kernel_rfl)) k0 bel lt0) (trodAll_cons_mk (Below.trod laidOutPh (by kernel_rfl) (of_decide_eq_true (by kernel_rfl)) k1 bel lt1) trodAll_mk0), rfl, bel.frame _, fun h => by cases h⟩

/-- A world for the witness: the settled one, the listed tables laid. -/
noncomputable def lPh_world (os : Os) : World :=
  { World.holding Tryd.prog os ⟨#[], #[], []⟩ with heap := (((World.holding Tryd.prog os ⟨#[], #[], []⟩).heap.modify 0 (layIn (tabCells Rows.laid_internal_strconv_uint64pow10))).modify 2 (layIn (tabCells Rows.laid_math_bits_deBruijn32tab))).modify 3 (layIn (tabCells Rows.laid_math_bits_deBruijn64tab)) }
theorem lPh_met (os : Os) : laidMet Tryd.prog Rows.fnExactPhotoTextRow.laid ((lPh_world os).forCall (fun _ _ => 0) ⟨#[], #[.slice none 0 0, .agg #[.int .u64 0, .int .u64 0, .int .u64 0, .int .u64 0, .int .u64 0, .int .u64 0, .int .u64 0, .int .u64 0, .int .u64 0, .int .u64 0, .int .u64 0, .int .u64 0, .int .u64 0, .int .u64 0, .int .u64 0, .int .u64 0]], []⟩).memory :=
  laidMet_of_run' 8 (by kernel_rfl) (by kernel_rfl)
theorem lPh_reads (os : Os) {H : Type} (enc : TypeId × Value → H) : ∃ places, DataW.whole enc Tryd.prog ((lPh_world os).forCall (fun _ _ => 0) ⟨#[], #[.slice none 0 0, .agg #[.int .u64 0, .int .u64 0, .int .u64 0, .int .u64 0, .int .u64 0, .int .u64 0, .int .u64 0, .int .u64 0, .int .u64 0, .int .u64 0, .int .u64 0, .int .u64 0, .int .u64 0, .int .u64 0, .int .u64 0, .int .u64 0]], []⟩).memory Tryd.f3.params.toList Rows.fnExactPhotoTextSpec.vars false #[Value.slice none 0 0, Value.agg #[.int .u64 0, .int .u64 0, .int .u64 0, .int .u64 0, .int .u64 0, .int .u64 0, .int .u64 0, .int .u64 0, .int .u64 0, .int .u64 0, .int .u64 0, .int .u64 0, .int .u64 0, .int .u64 0, .int .u64 0, .int .u64 0]].toList 8 = some ([.nil, .agg [.agg [.lit (.int .u64 0), .lit (.int .u64 0)], .agg [.lit (.int .u64 0), .lit (.int .u64 0)], .agg [.lit (.int .u64 0), .lit (.int .u64 0)], .agg [.lit (.int .u64 0), .lit (.int .u64 0)], .agg [.lit (.int .u64 0), .lit (.int .u64 0)], .agg [.lit (.int .u64 0), .lit (.int .u64 0)], .agg [.lit (.int .u64 0), .lit (.int .u64 0)], .agg [.lit (.int .u64 0), .lit (.int .u64 0)]]], [], places) :=
  ⟨[], by kernel_rfl⟩

set_option maxRecDepth 100000 in
theorem lPh_lifted (os : Os) (started : os.Started) (H : Type) (enc : TypeId × Value → H) (F : Stop.Interp) :
    ReturnsInHanded {} Tryd.checked os 3 .any ((OpenSpec.ofChange Rows.fnExactPhotoTextSpec).preRow enc Tryd.prog Tryd.f3 Rows.fnExactPhotoTextRow.domain false Rows.fnExactPhotoTextRow.laid) (((OpenSpec.ofChange Rows.fnExactPhotoTextSpec).at F).post enc Tryd.prog Tryd.f3 false true false false) := by
  obtain ⟨places, hx⟩ := lPh_reads os enc
  refine returnsInHanded_of_row (C := Tryd.checked) (s := OpenSpec.ofChange Rows.fnExactPhotoTextSpec) ownPh started (by kernel_rfl) Tryd.func3
    (witness_row_at (enc := enc) (C := Tryd.checked) false (lPh_world os) #[.slice none 0 0, .agg #[.int .u64 0, .int .u64 0, .int .u64 0, .int .u64 0, .int .u64 0, .int .u64 0, .int .u64 0, .int .u64 0, .int .u64 0, .int .u64 0, .int .u64 0, .int .u64 0, .int .u64 0, .int .u64 0, .int .u64 0, .int .u64 0]] rfl (by kernel_rfl) (by kernel_rfl) (by kernel_rfl)
      (OpenSpec.preRow_of_cond 8 hx (by kernel_rfl) (fun k hk => by cases hk) (by kernel_rfl) (lPh_met os))) ?_
  intro W base args ds gs before hval hW _ _ _ hL _ _
  exact lPh_contract H enc W base args ds gs before hval hW hL

theorem lPh_said : Rows.FnExactPhotoTextSaid :=
  OpenClaim.holds_of_cond 3 Tryd.f3 rfl rfl rfl rfl rfl rfl rfl ⟨rfl, rfl, rfl, rfl, rfl⟩ rfl rfl rfl rfl rfl (by kernel_rfl) Tryd.func3 (by kernel_rfl)
    (of_decide_eq_true (by kernel_rfl)) (by unfold Func.isWrapper; first | (rw [if_pos (by decide +kernel)]; kernel_rfl) | (rw [if_neg (by decide +kernel)]; exact ⟨rfl, rfl⟩))
    (fun os started H enc _ F => by rw [OpenClaim.pre_eq_preRow]; exact lPh_lifted os started H enc F)

theorem lPh_plain (f : FuncId) (fn : Func) (hf : Tryd.pinned.checked.prog.funcNamed "loop.example/g01278/laws.FnExactPhotoText" = some f) (hfn : Tryd.pinned.checked.prog.funcs[f]? = some fn) :
    false = Tryd.pinned.checked.prog.looks [] ∧ ∀ (j : Nat) t, fn.params[j]? = some t → Tryd.pinned.checked.prog.wantsStandIn t = false := by
  obtain rfl : f = 3 := Option.some.inj ((show Tryd.prog.funcNamed "loop.example/g01278/laws.FnExactPhotoText" = some 3 by kernel_rfl).symm.trans hf) |>.symm
  obtain rfl : fn = Tryd.f3 := (Option.some.inj (Tryd.func3.symm.trans hfn)).symm
  refine ⟨by kernel_rfl, fun j t ht => ?_⟩
  rw [Tryd.params3] at ht
  have hm : t = 22 ∨ t = 25 := by simpa using Array.mem_of_getElem? ht
  rcases hm with rfl | rfl
  · exact (show Tryd.prog.wantsStandIn 22 = false by kernel_rfl)
  · exact (show Tryd.prog.wantsStandIn 25 = false by kernel_rfl)

theorem lPh_card : Rows.FnExactPhotoTextCardSaid :=
  Claim7.holds_tied_plain_at .later [] _ _ _ _ lPh_said (fun _ h => by cases h) (by kernel_rfl) (fun _ h => by cases h) fnExactPhotoText_row_tie rfl ⟨rfl, rfl⟩ (by kernel_rfl) rfl lPh_plain (by kernel_rfl)
end Go.Proofs.YtgfimdoildaonaaDoor.P
namespace Go.Proofs.YtgfimdoildaonaaDoor
theorem fnExactPhotoText_holds : Rows.FnExactPhotoTextCardSaid := P.lPh_card
#print axioms fnExactPhotoText_holds
end Go.Proofs.YtgfimdoildaonaaDoor
