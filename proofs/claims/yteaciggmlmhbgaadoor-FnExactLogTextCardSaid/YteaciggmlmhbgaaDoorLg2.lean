/- Joined texts, in the order in which they were built alone: Back, Pad, Stx, Pspecl01Digits, PspecValidDigits, VDg, PspecDecimal, Dec, Pspecl01Digit. -/
import Derived.Test.YteaciggmlmhbgaaDoorLg1
import Derived.Test.YteaciggmlmhbgaaDoorLg0
import Derived.Test.YteaciggmlmhbgaaDoorProg
import Derived.Shelf.Abstract
import Derived.WalkKit
import Derived.OwnWalkIn
import Derived.TacticsInMore
import Derived.LoopNIn
import Derived.LoopIn
import Derived.WalkSpells
import Derived.Outline
import Derived.Maps.AppendAt
/- slices.Backward over a stack: the iterator's contract. -/
namespace Go.Proofs.YteaciggmlmhbgaaDoor.P
open Go.RowKit Go.Shelf Go.Proofs.YteaciggmlmhbgaaDoorW.PrintWords Go.Proofs.YteaciggmlmhbgaaDoorW.PrintLast Go.Proofs.YteaciggmlmhbgaaDoorW.PrintMore
set_option linter.unusedVariables false
set_option linter.unusedSimpArgs false
attribute [local go_sem] Oper.semAt_some

/-- The places of a list of n elements, from the last one down. -/
def dn (n : Nat) : List (Fin n) := (List.finRange n).reverse
theorem dn_length (n : Nat) : (dn n).length = n := by simp [dn]
theorem dn_take (n k : Nat) (h : k < n) : (dn n).take (k + 1) = (dn n).take k ++ [⟨n - 1 - k, by omega⟩] := by
  rw [List.take_succ_eq_append_getElem (by rw [dn_length]; exact h)]
  congr 2
  simp [dn, List.getElem_reverse]
theorem dn_map {α : Type} (n : Nat) (f : Nat → α) : (dn n).map (fun i => f i.1) = ((List.range n).map f).reverse := by
  unfold dn
  rw [List.map_reverse]
  congr 1
  apply List.ext_getElem
  · simp
  · intro i h1 h2; simp
/-- What a round keeps: what lay below, and the box of the slice. -/
def KpB (n0 Bs : Nat) (W W' : World) : Prop := Below n0 W W' ∧ W'.heap[Bs]? = W.heap[Bs]?
theorem kpB_t {n0 Bs : Nat} {A B C : World} (h : KpB n0 Bs A B) (k : KpB n0 Bs B C) : KpB n0 Bs A C := ⟨h.1.trans k.1, k.2.trans h.2⟩
theorem kpB_b {n0 Bs : Nat} {w : World} (hn : n0 ≤ w.heap.size) (hB : Bs < w.heap.size) (W : World) (l : Nat) (o o' : Obj) (hl : w.heap.size ≤ l) (h : W.heap[l]? = some o) (h1 : o.isCells = false) (h2 : o.isWalk = false) : KpB n0 Bs W (W.putObj l o') :=
  ⟨belowK_b hn W l o o' hl h h1 h2, World.putObj_heap_other (by omega)⟩

set_option maxRecDepth 100000 in
set_option maxHeartbeats 2000000 in
theorem back1_in (n : Nat) (hn : 1 ≤ n) (l Bs : Nat) (A : Option Addr) (c : Nat) (s : List Int) (w0 : World) (hr : Kd.C (Kd.int .u8) w0 A s.length s) (hs : s.length ≤ 1048576) (J Jx : List (Fin s.length) → World → Prop)
    (hY : ∀ pre x W, J pre W → pre.length < s.length → YieldAt Fence.wide (n - 1) Tryd.prog l #[.int .i64 (x.1 : Int), .int .u8 (rd s (x.1 : Int))] W fun e W' =>
      (e = .returned (.bool true) ∧ J (pre ++ [x]) W' ∧ KpB w0.heap.size Bs W W') ∨ (e = .returned (.bool false) ∧ Jx (pre ++ [x]) W'))
    (W : World) (hb0 : Below w0.heap.size w0 W) (hBs : Boxed W Bs 26 (.slice A s.length c)) (h0 : J [] W) :
    CallsIn Fence.wide n Tryd.prog 45 #[.func (.yield l) #[] #[], .pointer (some ⟨Bs, 0, none⟩)] W fun e W' => (∃ v, e = .returned v) ∧
      ((∃ ys, ys = dn s.length ∧ J ys W') ∨ (∃ pre, True ∧ Jx pre W')) := by
  have HR := Aside0.mk hr
  clear hr
  refine callsIn_of_wp Tryd.func45 rfl trivial ?_ rfl
  simp only [Tryd.ntmps45, List.size_toArray, List.length_cons, List.length_nil, Nat.reduceAdd, Nat.reduceSub, Array.replicate_succ, Array.replicate_zero, List.push_toArray, List.append_toArray, List.nil_append, List.cons_append]
  have hcs := hBs.cell
  have HBx := Aside0.mk hBs
  clear hBs
  gi_wp2
  gi_loopw [3] (fun i wr => ∃ j : Nat, j ≤ s.length ∧ i = .int .i64 ((j : Int) - 1) ∧ Aside0 (J ((dn s.length).take (s.length - j)) wr) ∧ Aside0 (Below w0.heap.size w0 wr) ∧ Aside0 (Boxed wr Bs 26 (.slice A s.length c)))
    (fun i _ => (intOf i + 1).toNat)
  case atStart => exact ⟨s.length, Nat.le_refl _, rfl, ⟨by rw [Nat.sub_self]; exact h0⟩, ⟨hb0⟩, HBx⟩
  case round =>
    clear hcs
    obtain ⟨j, hj, rfl, HJ, HB, HX⟩ := hrel
    cases j with
    | zero =>
      gi_wp2
      go_end0
      exact ⟨⟨_, rfl⟩, .inl ⟨_, rfl, by have := HJ.out; rw [Nat.sub_zero, List.take_of_length_le (by rw [dn_length]; exact Nat.le_refl _)] at this; exact this⟩⟩
    | succ m =>
      have hi : ((m + 1 : Nat) : Int) - 1 = (m : Int) := by omega
      rw [hi]
      clear hi
      obtain ⟨ad, e, hx⟩ := Kd.at_int HR.out (m : Int) (by omega) (by omega)
      cases e
      rw [Int.toNat_natCast] at hx
      replace hx := (HB.out.cell (World.block_lt_of_cell? w0 _ hx)).trans hx
      have hcs := HX.out.cell
      have hlt : m < s.length := by omega
      obtain ⟨fn, tmps, assign, body, hy, hR⟩ := hY _ ⟨m, hlt⟩ wr HJ.out (by rw [List.length_take, dn_length]; omega)
      dsimp only at hy
      have HS := Aside0.mk (show (dn s.length).take (s.length - m) = (dn s.length).take (s.length - (m + 1)) ++ [⟨m, hlt⟩] by
        have := dn_take s.length (s.length - (m + 1)) (by omega)
        rw [show s.length - (m + 1) + 1 = s.length - m by omega] at this
        rw [this]
        congr 3
        omega)
      generalize rd s (m : Int) = b at hx hy
      gi_wp2
      refine hR.mono ?_
      rintro e W3 (⟨rfl, hJ3, hk3⟩ | ⟨rfl, hJx3⟩)
      · have HJ3 := Aside0.mk hJ3
        have HK3 := Aside0.mk hk3
        clear hJ3 hk3
        gi_wp2
        go_roundw
        case rel => exact ⟨m, by omega, rfl, ⟨by rw [HS.out]; exact HJ3.out⟩, ⟨HB.out.trans HK3.out.1⟩, ⟨HK3.out.2.trans HX.out⟩⟩
        case measure => simp [intOf]; try omega
      · gi_wp2
        refine bodyPost_ret (results_none rfl _ _ _) rfl ?_
        exact ⟨⟨_, rfl⟩, .inr ⟨_, trivial, hJx3⟩⟩

set_option maxHeartbeats 1000000 in
theorem back_at (A : Option Addr) (len c : Nat) (w : World) :
    Calls Tryd.prog 30 #[.slice A len c] w fun e w' => e = .returned (.func (.func 45) #[] #[.pointer (some ⟨w.heap.size, 0, none⟩)]) ∧ w' = w.alloc (.cells #[.slice A len c] 26) := by
  go_enter Tryd.func30, Tryd.ntmps30
  go_wp2
  go_ret
  exact ⟨rfl, rfl⟩

theorem back_stops (n : Nat) (hn : 1 ≤ n) (Bs : Nat) (A : Option Addr) (c : Nat) (s : List Int) (w0 w : World) (hr : Kd.C (Kd.int .u8) w0 A s.length s) (hs : s.length ≤ 1048576) (hb0 : Below w0.heap.size w0 w) (hBs : Boxed w Bs 26 (.slice A s.length c)) :
    SeqStopsK Fence.wide n Tryd.prog 45 #[.pointer (some ⟨Bs, 0, none⟩)] (fun x : Fin s.length => #[Value.int .i64 (x.1 : Int), Value.int .u8 (rd s (x.1 : Int))]) (KpB w0.heap.size Bs)
      (fun ys => ys = dn s.length) (fun _ => True) s.length w := fun l J Jx W hW _ _ hY h0 =>
  back1_in n hn l Bs A c s w0 hr hs J Jx hY W (hb0.trans (hW.mono hb0.size)) ((hW.block Bs hBs.lt).trans hBs) h0
end Go.Proofs.YteaciggmlmhbgaaDoor.P

/- impl.padded: a number with so many digits at least. -/
namespace Go.Proofs.YteaciggmlmhbgaaDoor.P
open Go.RowKit Go.Proofs.YteaciggmlmhbgaaDoorW.PrintWords Go.Proofs.YteaciggmlmhbgaaDoorW.PrintLast Go.Proofs.YteaciggmlmhbgaaDoorW.PrintMore
set_option linter.unusedVariables false
set_option linter.unusedSimpArgs false
def padT (n : Int) (dg : Nat) : ByteArray := ⟨(Lib.repeatL [48] (dg - (dec n).size)).toArray⟩ ++ dec n
set_option maxHeartbeats 1000000 in
theorem padded_at (n : Int) (dg : Nat) (w : World) (hT : Tab w) (h0 : -9223372036854775808 ≤ n) (h1 : n ≤ 9223372036854775807) (h2 : dg ≤ 20) :
    Calls Tryd.prog 31 #[.int .i64 n, .int .i64 dg] w fun e w' => e = .returned (.string (padT n dg)) ∧ Below w.heap.size w w' := by
  have hsz := dec_size n h0 h1
  have HT := Aside0.mk hT
  have hmx : max (0 : Int) ((dg : Int) - ((dec n).size : Int)) = ((dg - (dec n).size : Nat) : Int) := by omega
  have HP := Aside0.mk (show ∀ W, Calls Tryd.prog 46 #[.string ⟨#[48]⟩, .int .i64 ((dg - (dec n).size : Nat) : Int)] W fun e w' => e = .returned (.string ⟨(Lib.repeatL [48] (dg - (dec n).size)).toArray⟩) ∧ Below W.heap.size W w' from
    fun W => Tryd.strings_Repeat ⟨#[48]⟩ (dg - (dec n).size) W (by omega) (by show 1 * _ ≤ _; omega))
  have HD := Aside0.mk (decimalGo n w hT h0 h1)
  have HE := Aside0.mk (show padT n dg = ⟨(Lib.repeatL [48] (dg - (dec n).size)).toArray⟩ ++ dec n from rfl)
  have hl : (⟨(Lib.repeatL [48] (dg - (dec n).size)).toArray⟩ : ByteArray).size ≤ 20 := by
    rw [ba_size]
    rw [Lib.repeatL_length]; simp; omega
  generalize padT n dg = r at HE
  generalize (⟨(Lib.repeatL [48] (dg - (dec n).size)).toArray⟩ : ByteArray) = z at HP HE hl
  generalize dg - (dec n).size = q at hmx HP
  generalize dec n = t at hsz hmx HD HE
  have HM := Aside0.mk hmx
  clear hT
  go_enter Tryd.func31, Tryd.ntmps31
  go_wp2_with (go_at_call 16; refine HD.out.mono ?_; rintro e w1 ⟨rfl, hb⟩; (have HB := Aside0.mk hb); clear hb)
  have s1 : (9223372036854775807 < z.size + t.size) = False := eq_false (by omega)
  go_wp2_with (go_at_call 46; refine (HP.out _).mono ?_; rintro e w2 ⟨rfl, hb⟩; (have HB2 := Aside0.mk (below_step HB.out hb)); clear hb)
  go_ret
  exact ⟨by rw [HE.out]; rfl, HB2.out⟩
end Go.Proofs.YteaciggmlmhbgaaDoor.P

/- impl's Stack.text: the digits' texts, the last wheel first, with colons between. -/
namespace Go.Proofs.YteaciggmlmhbgaaDoor.P
open Go.RowKit Go.Shelf Go.Proofs.YteaciggmlmhbgaaDoorW.PrintWords Go.Proofs.YteaciggmlmhbgaaDoorW.PrintLast Go.Proofs.YteaciggmlmhbgaaDoorW.PrintMore
set_option linter.unusedVariables false
set_option linter.unusedSimpArgs false
attribute [local go_sem] Oper.semAt_some
theorem infoStr : (Tryd.prog.info? 9).map (fun i => (i.zero, i.size, i.bytes)) = some (some (.string ⟨#[]⟩), 1, 16) := by kernel_rfl

/-- The text of a digit of a wheel. -/
def digT (b d : Int) : ByteArray := padT d (dec (b - 1)).size
structure Dg where
  f0 : Int
  f1 : Int
  f2 : Int
  f3 : Int
  f4 : Int
  f5 : Int
  f6 : Int
  f7 : Int
def dlist (d : Dg) : List Int := [d.f0, d.f1, d.f2, d.f3, d.f4, d.f5, d.f6, d.f7]
def stT (s : List Int) (d : Dg) (i : Nat) : ByteArray := digT (rd s i) (nth (dlist d) i)

theorem join_two (x y : List UInt8) (r : List (List UInt8)) (sep : List UInt8) : Lib.join (x :: y :: r) sep = x ++ sep ++ Lib.join (y :: r) sep := by
  rw [Lib.join_cons, Lib.join_cons]
  simp [Lib.joinTail]
theorem join_le (xs : List (List UInt8)) (m : Nat) (h : ∀ l ∈ xs, l.length ≤ m) : (Lib.join xs [58]).length ≤ xs.length * (m + 1) := by
  match xs, h with
  | [], _ => simp [Lib.join]
  | [x], h => simp [Lib.join]; have := h x (by simp); omega
  | x :: y :: r, h =>
    have ih := join_le (y :: r) m (fun l hl => h l (List.mem_cons_of_mem _ hl))
    have hx := h x (by simp)
    rw [join_two]
    simp only [List.length_append, List.length_cons, List.length_nil] at ih ⊢
    have : (r.length + 1 + 1) * (m + 1) = (r.length + 1) * (m + 1) + (m + 1) := Nat.succ_mul _ _
    omega
theorem padT_le (n : Int) (dg : Nat) (h0 : -9223372036854775808 ≤ n) (h1 : n ≤ 9223372036854775807) (h2 : dg ≤ 20) : (padT n dg).data.toList.length ≤ 100 := by
  have := dec_size n h0 h1
  have h3 : (padT n dg).data.toList.length = (dg - (dec n).size) + (dec n).size := by
    unfold padT
    rw [show (⟨(Lib.repeatL [48] (dg - (dec n).size)).toArray⟩ ++ dec n : ByteArray).data.toList = (Lib.repeatL [48] (dg - (dec n).size)) ++ (dec n).data.toList by simp, List.length_append]
    congr 1
    simp [Lib.repeatL_length]
  omega
theorem event_none {P : Program} {ops : Array Oper} {o : Oper} {a : Act} {Q : Exit → Act → World → Prop} {Kc : Act → World → Prop} {W w1 : World} (hw : Region.wanted o (yielded ops a.tmps) = true) (hN : o.dst = none) (hrun : (execOp a.eval o).run P W = .ok .skip w1) (h : Kc a w1) :
    if Region.wanted o (yielded ops a.tmps) = true then Oper.wp P o a W Kc Q else Kc (a.put none undef) W := by
  rw [if_pos hw]
  unfold Oper.wp
  rw [hrun]
  show Kc (a.put o.dst undef) w1
  rw [hN]
  exact h
theorem below_via {B : Nat} {w W W' : World} (h : Below B w W) (h' : Below B w W') (hs : W.heap.size ≤ W'.heap.size) : Below B W W' :=
  ⟨h'.os.trans h.os.symm, h'.tape.trans h.tape.symm, h'.output.trans h.output.symm, hs, fun k hk => (h'.block k hk).trans (h.block k hk).symm⟩
theorem keepsFrom_below {B : Nat} {W W' : World} (h : Below W.heap.size W W') : KeepsFrom B W W' :=
  ⟨h.size, fun k o _ hk _ => (h.block k (Array.getElem?_eq_some_iff.1 hk).1).trans hk⟩
theorem blk_own {W W' : World} {row : Option Nat} {g : Nat} {cs : Array Value} {t : TypeId} (h : W.heap[g]? = some (.cells cs t (0, 0))) (hg : W.grownBy W' row) (hr : ∀ r, row = some r → ∃ o : Obj, W.heap[r]? = some o ∧ o.isCells = false) :
    W'.heap[g]? = some (.cells cs t (0, 0)) :=
  blk_grown h hg (fun e => by obtain ⟨o, ho, hc⟩ := hr g e.symm; rw [h] at ho; cases ho; cases hc)
theorem row_own {W W' : World} {row : Option Nat} {base : Nat} {e : TypeId} {size n : Nat} {v : Value} {xs : List Value} (h : W.ownsRow base e size v n xs) (hg : W.grownBy W' row) (hr : ∀ r, row = some r → ∃ o : Obj, W.heap[r]? = some o ∧ o.isCells = false) :
    W'.ownsRow base e size v n xs := by
  refine own_move h (fun k hk => hg.block k (own_lt h k hk) (fun e' => ?_))
  obtain ⟨o, ho, hc⟩ := hr k e'.symm
  obtain ⟨cells, hcl⟩ := own_typed h k hk
  rw [hcl] at ho; cases ho; cases hc

/-- The text of digits. -/
def stTxt (s : List Int) (d : Dg) : ByteArray := ⟨(Lib.join (((List.range s.length).map (stT s d)).reverse.map (·.data.toList)) [58]).toArray⟩
set_option maxHeartbeats 2000000 in
set_option maxRecDepth 100000 in
theorem stackText_at (A0 : Option Addr) (c0 : Nat) (s : List Int) (d : Dg) (w : World) (hT : Tab w) (hr : Kd.C (Kd.int .u8) w A0 s.length s) (hs : s.length ≤ 8) (hs1 : 1 ≤ s.length)
    (hb : ∀ i : Nat, i < s.length → 2 ≤ rd s i ∧ rd s i ≤ 100) (hd : ∀ i : Nat, i < s.length → 0 ≤ nth (dlist d) i ∧ nth (dlist d) i ≤ 255) :
    Calls Tryd.prog 17 #[.slice A0 s.length c0, .agg #[.int .u8 d.f0, .int .u8 d.f1, .int .u8 d.f2, .int .u8 d.f3, .int .u8 d.f4, .int .u8 d.f5, .int .u8 d.f6, .int .u8 d.f7]] w fun e w' => e = .returned (.string (stTxt s d)) ∧ Below w.heap.size w w' := by
  have HT := Aside0.mk hT
  have HR := Aside0.mk hr
  have HBA := Aside0.mk hb
  have HDA := Aside0.mk hd
  clear hT hr hb hd
  obtain ⟨i0, hi, hz0, hz1, hz2⟩ := info_parts infoStr
  refine (callsIn_wide (n := 8)).1 ?_
  refine callsIn_of_wp_marks Tryd.func17 rfl trivial ?_ rfl
  simp only [Tryd.ntmps17, List.size_toArray, List.length_cons, List.length_nil, Nat.reduceAdd, Nat.reduceSub, Array.replicate_succ, Array.replicate_zero, List.push_toArray, List.append_toArray, List.nil_append, List.cons_append]
  gi_wp2_with (refine ⟨trivial, ?_⟩; gi_at_call 30; refine (callsIn_wide.2 (back_at _ _ _ _)).mono ?_; rintro e w' ⟨rfl, rfl⟩)
  have hW0g : ((((w.alloc (.cells #[.int .u8 d.f0, .int .u8 d.f1, .int .u8 d.f2, .int .u8 d.f3, .int .u8 d.f4, .int .u8 d.f5, .int .u8 d.f6, .int .u8 d.f7] 48)).alloc (.cells #[] 9)).alloc (.cells #[.slice (some ⟨w.heap.size + 1, 0, none⟩) 0 0] 57)).alloc (.cells #[.slice A0 s.length c0] 26)).heap.size = w.heap.size + 4 := by simp
  have hB0 : Below w.heap.size w ((((w.alloc (.cells #[.int .u8 d.f0, .int .u8 d.f1, .int .u8 d.f2, .int .u8 d.f3, .int .u8 d.f4, .int .u8 d.f5, .int .u8 d.f6, .int .u8 d.f7] 48)).alloc (.cells #[] 9)).alloc (.cells #[.slice (some ⟨w.heap.size + 1, 0, none⟩) 0 0] 57)).alloc (.cells #[.slice A0 s.length c0] 26)) := below_alloc (below_alloc (below_alloc (below_alloc (Below.refl _ _) _) _) _) _
  have b1 := blk_new w (.cells #[.int .u8 d.f0, .int .u8 d.f1, .int .u8 d.f2, .int .u8 d.f3, .int .u8 d.f4, .int .u8 d.f5, .int .u8 d.f6, .int .u8 d.f7] 48)
  have b2 := blk_new (w.alloc (.cells #[.int .u8 d.f0, .int .u8 d.f1, .int .u8 d.f2, .int .u8 d.f3, .int .u8 d.f4, .int .u8 d.f5, .int .u8 d.f6, .int .u8 d.f7] 48)) (.cells #[] 9)
  have b3 := blk_new ((w.alloc (.cells #[.int .u8 d.f0, .int .u8 d.f1, .int .u8 d.f2, .int .u8 d.f3, .int .u8 d.f4, .int .u8 d.f5, .int .u8 d.f6, .int .u8 d.f7] 48)).alloc (.cells #[] 9)) (.cells #[.slice (some ⟨w.heap.size + 1, 0, none⟩) 0 0] 57)
  have b4 := blk_new (((w.alloc (.cells #[.int .u8 d.f0, .int .u8 d.f1, .int .u8 d.f2, .int .u8 d.f3, .int .u8 d.f4, .int .u8 d.f5, .int .u8 d.f6, .int .u8 d.f7] 48)).alloc (.cells #[] 9)).alloc (.cells #[.slice (some ⟨w.heap.size + 1, 0, none⟩) 0 0] 57)) (.cells #[.slice A0 s.length c0] 26)
  simp only [World.size_alloc] at b2 b3 b4
  replace b1 := blk_alloc (blk_alloc (blk_alloc b1 (.cells #[] 9)) (.cells #[.slice (some ⟨w.heap.size + 1, 0, none⟩) 0 0] 57)) (.cells #[.slice A0 s.length c0] 26)
  replace b2 := blk_alloc (blk_alloc b2 (.cells #[.slice (some ⟨w.heap.size + 1, 0, none⟩) 0 0] 57)) (.cells #[.slice A0 s.length c0] 26)
  replace b3 := blk_alloc b3 (.cells #[.slice A0 s.length c0] 26)
  generalize ((((w.alloc (.cells #[.int .u8 d.f0, .int .u8 d.f1, .int .u8 d.f2, .int .u8 d.f3, .int .u8 d.f4, .int .u8 d.f5, .int .u8 d.f6, .int .u8 d.f7] 48)).alloc (.cells #[] 9)).alloc (.cells #[.slice (some ⟨w.heap.size + 1, 0, none⟩) 0 0] 57)).alloc (.cells #[.slice A0 s.length c0] 26)) = W0 at hW0g hB0 b1 b2 b3 b4 ⊢
  have hgp : w.heap.size ≤ w.heap.size + 1 + 1 := by omega
  have hgs : w.heap.size ≤ w.heap.size + 1 + 1 + 1 := by omega
  have HW0 := Aside0.mk hW0g
  have HB0 := Aside0.mk hB0
  refine wpIn_rangeFunc_ownG rfl (by omega) (gf := 45) (lb := #[.pointer (some ⟨w.heap.size + 1 + 1 + 1, 0, none⟩)]) rfl trivial (enters_of Tryd.func45 (by kernel_rfl) rfl)
    (back_stops _ (by omega) (w.heap.size + 1 + 1 + 1) A0 c0 s w W0 HR.out (by omega) hB0 b4) (fun h k => kpB_t h k) (kpB_b (by omega) (by omega)) (Below.refl _ _) (fun _ => rfl)
    (fun pre W => ((∃ v, Boxed W (w.heap.size + 1 + 1) 57 v ∧ W.ownsRow w.heap.size 9 1 v pre.length (encs Value.string (pre.map fun i => stT s d i.1))) ∧ (W.heap[w.heap.size]? = some (.cells #[.int .u8 d.f0, .int .u8 d.f1, .int .u8 d.f2, .int .u8 d.f3, .int .u8 d.f4, .int .u8 d.f5, .int .u8 d.f6, .int .u8 d.f7] 48 (0, 0)) ∧ Boxed W (w.heap.size + 1 + 1 + 1) 26 (.slice A0 s.length c0))) ∧ Below w.heap.size w W)
    (fun _ _ _ => False)
    (OwnFrom.and (Own.from (fun pre A B row hs hg hr => by
      obtain ⟨⟨v, h1, h2⟩, h3, h4⟩ := hs
      exact ⟨⟨v, blk_own h1 hg hr, row_own h2 hg hr⟩, blk_own h3 hg hr, blk_own h4 hg hr⟩) _) (ownFrom_below (Nat.le_refl _) (by omega)))
    (fun _ _ _ _ _ hs _ _ => hs)
    ⟨⟨⟨_, b3, ⟨rfl, .inr ⟨_, 0, #[], rfl, by omega, b2, Nat.le_refl _, by unfold maxLen; omega, rfl, rfl⟩⟩⟩, b1, b4⟩, hB0⟩
    (fun x => { tmps := #[.slice A0 s.length c0, .agg #[.int .u8 d.f0, .int .u8 d.f1, .int .u8 d.f2, .int .u8 d.f3, .int .u8 d.f4, .int .u8 d.f5, .int .u8 d.f6, .int .u8 d.f7], undef, .pointer (some ⟨w.heap.size, 0, none⟩), .string ⟨#[]⟩, .pointer (some ⟨w.heap.size + 1 + 1, 0, none⟩), .int .i64 (x.1 : Int), .int .u8 (rd s (x.1 : Int)), .slice (some ⟨w.heap.size + 1, 0, none⟩) 0 0, .slice A0 s.length c0, .func (.func 45) #[] #[.pointer (some ⟨w.heap.size + 1 + 1 + 1, 0, none⟩)], .int .i64 (x.1 : Int), .int .u8 (rd s (x.1 : Int)), undef, undef, undef, undef, undef, undef, undef, undef, undef, undef, undef, undef, undef, undef, undef], defers := [] }) ?assign ?body ?done ?stop
  case assign =>
    intro l x W K hK
    gi_wp2
    exact hK
  case body =>
    clear b1 b2 b3 b4 hW0g hB0
    rintro l pre x W ⟨⟨⟨v, hv, hrow⟩, hG, hS⟩, hB⟩ hlt
    have hx0 : (0 : Int) ≤ (x.1 : Int) := by omega
    have hx8 : (x.1 : Int) < 8 := by have := x.2; omega
    obtain ⟨hb0, hb1⟩ := HBA.out x.1 x.2
    obtain ⟨hd0, hd1⟩ := HDA.out x.1 x.2
    have hst : stT s d x.1 = padT (nth (dlist d) x.1) (dec (rd s x.1 - 1)).size := rfl
    have hdc : W.cell? ⟨w.heap.size, x.1, none⟩ = some (.int .u8 (nth (dlist d) x.1)) := by
      have := (blk_cell hG x.1).trans (arr_nth .u8 (dlist d) (x.1 : Int) 8 rfl hx0 hx8)
      exact this
    have HST := Aside0.mk hst
    generalize hbx : rd s (x.1 : Int) = bx at hb0 hb1 HST ⊢
    generalize hdx : nth (dlist d) (x.1 : Int) = dx at hd0 hd1 HST hdc
    clear hst hbx hdx
    have hpc := hv.cell
    have hpf := hv.frozen
    have HV := Aside0.mk hv
    have HROW := Aside0.mk hrow
    have HG := Aside0.mk hG
    have HS := Aside0.mk hS
    have HB := Aside0.mk hB
    have HTW := Aside0.mk (HT.out.below hB)
    clear hv hrow hG hS hB
    have hl8 : pre.length < 8 := by omega
    have hw1 : wrap64 dx = dx := by unfold wrap64; omega
    have HW3 := Aside0.mk (show wrap64 (wrap64 bx - 1) = bx - 1 by unfold wrap64; omega)
    have HW1 := Aside0.mk hw1
    clear hw1
    gi_wp2
    refine startIn_ (m := 14) (S := fun w' => w'.cell? ⟨w.heap.size + 1 + 1, 0, none⟩ = some v ∧ w'.cell? ⟨w.heap.size, x.1, none⟩ = some (.int .u8 dx)) (ds := [13]) #[false, false, false, false, false, false, false, false, false, false, false, false, false, false] (by kernel_rfl) rfl rfl (fun ⟨_, _, h⟩ => h) (by kernel_rfl) ⟨hpc, hdc⟩ (fun hHeld => ?_)
    have HBW := Aside0.mk (below_drew1 (Below.refl W.heap.size W))
    generalize W.drew = W1 at HBW hHeld ⊢
    refine pure_ (i := 1) (N := (some 14)) (v := ?_) (a' := ?_) #[false, true, false, false, false, false, false, false, false, false, false, false, false, false] rfl rfl (by kernel_rfl) (fun _ _ _ h => h) (Or.inl ⟨by rfl, ?_⟩) ?_ ?_
    rotate_left
    · intro w'
      go_simp
      with_reducible rfl
    rotate_left
    · simp only [Act.put, List.setIfInBounds_toArray, List.set_cons_zero, List.set_cons_succ, i64_w, i32_w]
      rfl
    refine pure_ (i := 2) (N := (some 15)) (v := ?_) (a' := ?_) #[false, true, true, false, false, false, false, false, false, false, false, false, false, false] rfl rfl (by kernel_rfl) (fun _ _ _ h => h) (Or.inl ⟨by rfl, ?_⟩) ?_ ?_
    rotate_left
    · intro w'
      go_simp
      with_reducible rfl
    rotate_left
    · simp only [Act.put, List.setIfInBounds_toArray, List.set_cons_zero, List.set_cons_succ, i64_w, i32_w]
      rfl
    refine take_ (i := 0) (N := (some 13)) (v := ?_) (a' := ?_) #[true, true, true, false, false, false, false, false, false, false, false, false, false, false] rfl rfl (by kernel_rfl) (fun _ _ _ h => h) (Or.inl ⟨by rfl, ?_⟩) hHeld ?_ ?_
    rotate_left
    · rintro w' ⟨s0, s1⟩
      go_simp
      with_reducible rfl
    rotate_left
    · simp only [Act.put, List.setIfInBounds_toArray, List.set_cons_zero, List.set_cons_succ, i64_w, i32_w]
      rfl
    refine take_ (i := 3) (N := (some 16)) (v := ?_) (a' := ?_) #[true, true, true, true, false, false, false, false, false, false, false, false, false, false] rfl rfl (by kernel_rfl) (fun _ _ _ h => h) (Or.inl ⟨by rfl, ?_⟩) hHeld ?_ ?_
    rotate_left
    · rintro w' ⟨s0, s1⟩
      go_simp
      with_reducible rfl
    rotate_left
    · simp only [Act.put, List.setIfInBounds_toArray, List.set_cons_zero, List.set_cons_succ, i64_w, i32_w]
      rfl
    refine pure_ (i := 4) (N := (some 17)) (v := ?_) (a' := ?_) #[true, true, true, true, true, false, false, false, false, false, false, false, false, false] rfl rfl (by kernel_rfl) (fun _ _ _ h => h) (Or.inl ⟨by rfl, ?_⟩) ?_ ?_
    rotate_left
    · intro w'
      go_simp
      with_reducible rfl
    rotate_left
    · simp only [Act.put, List.setIfInBounds_toArray, List.set_cons_zero, List.set_cons_succ, i64_w, i32_w]
      rfl
    refine pure_ (i := 5) (N := (some 18)) (v := ?_) (a' := ?_) #[true, true, true, true, true, true, false, false, false, false, false, false, false, false] rfl rfl (by kernel_rfl) (fun _ _ _ h => h) (Or.inl ⟨by rfl, ?_⟩) ?_ ?_
    rotate_left
    · intro w'
      go_simp
      with_reducible rfl
    rotate_left
    · simp only [Act.put, List.setIfInBounds_toArray, List.set_cons_zero, List.set_cons_succ, i64_w, i32_w]
      rfl
    refine pure_ (i := 6) (N := (some 19)) (v := ?_) (a' := ?_) #[true, true, true, true, true, true, true, false, false, false, false, false, false, false] rfl rfl (by kernel_rfl) (fun _ _ _ h => h) (Or.inl ⟨by rfl, ?_⟩) ?_ ?_
    rotate_left
    · intro w'
      go_simp
      with_reducible rfl
    rotate_left
    · simp only [Act.put, List.setIfInBounds_toArray, List.set_cons_zero, List.set_cons_succ, i64_w, i32_w]
      rfl
    refine pure_ (i := 7) (N := (some 20)) (v := ?_) (a' := ?_) #[true, true, true, true, true, true, true, true, false, false, false, false, false, false] rfl rfl (by kernel_rfl) (fun _ _ _ h => h) (Or.inl ⟨by rfl, ?_⟩) ?_ ?_
    rotate_left
    · intro w'
      go_simp
      with_reducible rfl
    rotate_left
    · simp only [Act.put, List.setIfInBounds_toArray, List.set_cons_zero, List.set_cons_succ, i64_w, i32_w]
      rfl
    refine one_ (i := 8) (N := (some 21)) #[true, true, true, true, true, true, true, true, true, false, false, false, false, false] rfl rfl (by kernel_rfl) (by decide) (fun K hK => ?_)
    refine goes_ Tryd.func16 (by kernel_rfl) rfl #[.int .i64 (wrap64 (wrap64 bx - 1))] (by rfl) rfl rfl (by (try simp only [List.map_toArray, List.map_cons, List.map_nil]); first | done | rfl) ?_
    rw [HW3.out]
    with_reducible refine (decimalGo (bx - 1) _ (HTW.out.below HBW.out) (by omega) (by omega)).mono ?_
    rintro e w1 ⟨rfl, hb⟩
    refine ⟨_, rfl, ?_⟩
    have n0_ := Aside0.mk (below_step HBW.out hb)
    clear hb HBW
    have HBW := n0_
    clear n0_
    refine hK.out _ _ ⟨(HBW.out.cell (World.block_lt_of_cell? _ _ hpc)).trans hpc, (HBW.out.cell (World.block_lt_of_cell? _ _ hdc)).trans hdc⟩ (fun hHeld => ?_)
    clear hK K
    refine norm_ (a' := ?_) ?_ ?_
    rotate_left
    · show Act.put _ (some 21) _ = _
      simp only [Act.put, List.setIfInBounds_toArray, List.set_cons_zero, List.set_cons_succ, i64_w, i32_w]
      rfl
    refine pure_ (i := 9) (N := (some 22)) (v := ?_) (a' := ?_) #[true, true, true, true, true, true, true, true, true, true, false, false, false, false] rfl rfl (by kernel_rfl) (fun _ _ _ h => h) (Or.inl ⟨by rfl, ?_⟩) ?_ ?_
    rotate_left
    · intro w'
      go_simp
      with_reducible rfl
    rotate_left
    · simp only [Act.put, List.setIfInBounds_toArray, List.set_cons_zero, List.set_cons_succ, i64_w, i32_w]
      rfl
    refine one_ (i := 10) (N := (some 23)) #[true, true, true, true, true, true, true, true, true, true, true, false, false, false] rfl rfl (by kernel_rfl) (by decide) (fun K hK => ?_)
    refine goes_ Tryd.func31 (by kernel_rfl) rfl #[.int .i64 (wrap64 dx), .int .i64 (dec (bx - 1)).size] (by rfl) rfl rfl (by (try simp only [List.map_toArray, List.map_cons, List.map_nil]); first | done | rfl) ?_
    rw [HW1.out]
    with_reducible refine (padded_at dx (dec (bx - 1)).size _ (HTW.out.below HBW.out) (by omega) (by omega) (dec_size _ (by omega) (by omega))).mono ?_
    rintro e w2 ⟨rfl, hb⟩
    refine ⟨_, rfl, ?_⟩
    have n0_ := Aside0.mk (below_step HBW.out hb)
    clear hb HBW
    have HBW := n0_
    clear n0_
    refine hK.out _ _ ⟨(HBW.out.cell (World.block_lt_of_cell? _ _ hpc)).trans hpc, (HBW.out.cell (World.block_lt_of_cell? _ _ hdc)).trans hdc⟩ (fun hHeld => ?_)
    clear hK K
    rw [← HST.out]
    obtain ⟨txt, htxt⟩ : ∃ t, t = stT s d x.1 := ⟨_, rfl⟩
    rw [← htxt]
    have HTXT := Aside0.mk htxt
    clear htxt
    refine norm_ (a' := ?_) ?_ ?_
    rotate_left
    · show Act.put _ (some 23) _ = _
      simp only [Act.put, List.setIfInBounds_toArray, List.set_cons_zero, List.set_cons_succ, i64_w, i32_w]
      rfl
    refine one_ (i := 11) (N := (some 24)) #[true, true, true, true, true, true, true, true, true, true, true, true, false, false] rfl rfl (by kernel_rfl) (by decide) (fun K hK => ?_)
    refine event_step (v := .slice (some ⟨w2.heap.size, 0, none⟩) 1 1) (w1 := w2.alloc (.cells #[.string txt] 9)) (by rfl) ?_ ?_
    · go_simp
    have HBW3 := Aside0.mk (below_alloc HBW.out (.cells #[.string txt] 9))
    refine hK.out _ _ ⟨(HBW3.out.cell (World.block_lt_of_cell? _ _ hpc)).trans hpc, (HBW3.out.cell (World.block_lt_of_cell? _ _ hdc)).trans hdc⟩ (fun hHeld => ?_)
    clear hK K
    refine norm_ (a' := ?_) ?_ ?_
    rotate_left
    · show Act.put _ (some 24) _ = _
      simp only [Act.put, List.setIfInBounds_toArray, List.set_cons_zero, List.set_cons_succ, i64_w, i32_w]
      rfl
    refine one_ (i := 12) (N := (some 25)) #[true, true, true, true, true, true, true, true, true, true, true, true, true, false] rfl rfl (by kernel_rfl) (by decide) (fun K hK => ?_)
    have hBW2 := below_step HB.out HBW.out
    refine Kd.R_append_step Kd.string (w0 := w) w.heap.size (by rfl) (.tmp 13) (.tmp 24) 57 9 (.string ⟨#[]⟩) 16 rfl Tryd.underlying57 infoStr rfl (by decide) (by omega) v (pre.map fun i => stT s d i.1) txt [.string txt] (fun _ => True) (fun _ => False) rfl rfl rfl (fun _ hk => hk.elim) (fun _ _ => trivial) ?aO hBW2 hBW2.size ?aL ?_
    case aO => exact Kd.R_below (Kd.R_of_own (by rw [List.length_map]; exact HROW.out) (fun _ _ => trivial)) HBW.out
    case aL => rw [List.length_map]; omega
    intro v1 w4 ho hb4 hg4 _
    have hg5 : (w2.alloc (.cells #[.string txt] 9)).heap.size ≤ w4.heap.size → w2.heap.size ≤ w4.heap.size := fun h => by simp at h; omega
    have hne1 : some (w.heap.size + 1 + 1) ≠ v.ownBlock := HV.out.not_row (by decide) HROW.out
    have hne2 : some (w.heap.size + 1 + 1 + 1) ≠ v.ownBlock := HS.out.not_row (by decide) HROW.out
    have hne3 : some w.heap.size ≠ v.ownBlock := Kd.R_ne (Kd.R_of_own (ok := fun _ => True) (by rw [List.length_map]; exact HROW.out) (fun _ _ => trivial) : Kd.string.R 9 W w.heap.size (fun _ => True) v (pre.map fun i => stT s d i.1)) HG.out (by decide)
    have hv4 : Boxed w4 (w.heap.size + 1 + 1) 57 v := blk_grown (blk_below HV.out HBW.out) hg4 hne1
    have hs4 : Boxed w4 (w.heap.size + 1 + 1 + 1) 26 (.slice A0 s.length c0) := blk_grown (blk_below HS.out HBW.out) hg4 hne2
    have hd4 := blk_grown (blk_below HG.out HBW.out) hg4 hne3
    have hk4 : KeepsFrom W0.heap.size W w4 := ((keepsFrom_below HBW.out).trans ((KeepsOthers.of_grownBy hg4 (fun j o ej hj => by
      have hrow2 := own_move HROW.out (fun k hk => HBW.out.block k (own_lt HROW.out k hk))
      obtain ⟨cells, hcl⟩ := own_typed hrow2 j ej
      rw [hcl] at hj; cases hj; rfl)).from _))
    have hown4 : w4.ownsRow w.heap.size 9 1 v1 (pre ++ [x]).length (encs Value.string ((pre ++ [x]).map fun i => stT s d i.1)) := by
      have := Kd.own_of_R ho
      rw [show (pre.map fun i => stT s d i.1) ++ [txt] = (pre ++ [x]).map fun i => stT s d i.1 by rw [List.map_append, List.map_cons, List.map_nil, HTXT.out], List.length_map] at this
      exact this
    have hsz4 : W.heap.size ≤ w4.heap.size := Nat.le_trans HBW.out.size hg4.size
    refine hK.out _ _ ⟨hv4.cell, (blk_cell hd4 x.1).trans (by rw [← blk_cell HG.out x.1]; exact hdc)⟩ (fun hHeld => ?_)
    clear hK K
    refine norm_ (a' := ?_) ?_ ?_
    rotate_left
    · show Act.put _ (some 25) _ = _
      simp only [Act.put, List.setIfInBounds_toArray, List.set_cons_zero, List.set_cons_succ, i64_w, i32_w]
      rfl
    have hp4 := hv4.cell
    have hf4 := hv4.frozen
    obtain ⟨A1, c1, rfl⟩ : ∃ A1 c1, v1 = .slice A1 (pre ++ [x]).length c1 := by
      rcases hown4.2 with ⟨_, h0⟩ | ⟨g, cap, _, e, _⟩
      · simp at h0
      · exact ⟨_, _, e⟩
    refine last_ (i := 13) (N := none) #[true, true, true, true, true, true, true, true, true, true, true, true, true, true] rfl rfl (by kernel_rfl) (by decide) (fun K hK => ?_)
    refine event_none (w1 := w4.setCell ⟨w.heap.size + 1 + 1, 0, none⟩ (.slice A1 (pre ++ [x]).length c1)) (by rfl) rfl ?_ ?_
    · go_simp
    refine hK.out _ _ ?_
    clear hK K
    refine done_ (by kernel_rfl) ?_
    refine ⟨hk4.trans ((KeepsOthers.setCell _ _ _).from _), ⟨below_via HB.out (hb4.setCell (p := ⟨w.heap.size + 1 + 1, 0, none⟩) hgp _) (by rw [show (w4.setCell ⟨w.heap.size + 1 + 1, 0, none⟩ (.slice A1 (pre ++ [x]).length c1)).heap.size = w4.heap.size by simp [World.setCell]]; exact hsz4), (blk_far hs4 (p := ⟨w.heap.size + 1 + 1, 0, none⟩) (by show _ ≠ w.heap.size + 1 + 1; omega) _).trans HS.out.symm⟩, ⟨⟨_, hv4.set _, ?_⟩, ?_, ?_⟩, hb4.setCell (p := ⟨w.heap.size + 1 + 1, 0, none⟩) hgp _⟩
    · exact own_move hown4 (fun k hk => Below.heap_setCell w4 ⟨w.heap.size + 1 + 1, 0, none⟩ _ k (by
        rintro rfl
        exact (hv4.not_row (by decide) hown4) hk.symm))
    · exact blk_far hd4 (p := ⟨w.heap.size + 1 + 1, 0, none⟩) (by show w.heap.size ≠ w.heap.size + 1 + 1; omega) _
    · exact blk_far hs4 (p := ⟨w.heap.size + 1 + 1, 0, none⟩) (by show _ ≠ w.heap.size + 1 + 1; omega) _
  case done =>
    clear b1 b2 b3 b4 hW0g hB0
    rintro D ys W hD rfl ⟨⟨⟨v, hv, hrow⟩, _, _⟩, hB⟩ hK
    have hdn : (dn s.length).map (fun i => stT s d i.1) = ((List.range s.length).map (stT s d)).reverse := dn_map s.length (stT s d)
    rw [hdn, dn_length] at hrow
    rcases hrow.2 with ⟨_, h0⟩ | ⟨g, cap, cur, rfl, hg, hcur, hcap, _, _, htk⟩
    · omega
    have hlen : ((List.range s.length).map (stT s d)).reverse.length = s.length := by simp
    have hcells : ∀ (j : Nat) x, (((List.range s.length).map (stT s d)).reverse)[j]? = some x → W.cell? ⟨g, 0 + j, none⟩ = some (.string x) := by
      intro j x hj
      have hjl : j < s.length := by
        have := (List.getElem?_eq_some_iff.1 hj).1
        rw [hlen] at this; exact this
      rw [Nat.zero_add, blk_cell hcur]
      have h2 : (encs Value.string ((List.range s.length).map (stT s d)).reverse)[j]? = some (.string x) := by
        unfold encs; rw [List.getElem?_map, hj]; rfl
      rw [← htk, List.getElem?_take_of_lt (by omega)] at h2
      simpa using h2
    have hJ := Tryd.strings_Join g 0 cap ((List.range s.length).map (stT s d)).reverse ⟨#[58]⟩ W hcells (blk_lt hcur) (by rw [hlen]; omega) (by rw [hlen]; exact hcap) ?hjl
    case hjl =>
      have := join_le (((List.range s.length).map (stT s d)).reverse.map (·.data.toList)) 100 (by
        intro l hl
        simp only [List.mem_map, List.mem_reverse, List.mem_range] at hl
        obtain ⟨t, ⟨i, hi, rfl⟩, rfl⟩ := hl
        have hd2 := HDA.out i hi
        have hb2 := HBA.out i hi
        exact padT_le _ _ (by omega) (by omega) (dec_size _ (by omega) (by omega)))
      rw [List.length_map, hlen] at this
      show (Lib.join _ [58]).length ≤ _
      omega
    rw [hlen] at hJ
    have HJ := Aside0.mk (show Calls Tryd.prog 32 #[.slice (some ⟨g, 0, none⟩) s.length cap, .string ⟨#[58]⟩] W fun e w' => e = .returned (.string (stTxt s d)) ∧ Below W.heap.size W w' from hJ)
    have HK := Aside0.mk hK
    have HB := Aside0.mk hB
    have hpc := hv.cell
    clear hJ hK hB hrow hcells htk hdn hlen hcur hv
    gi_wp2_with (refine ⟨trivial, ?_⟩; gi_at_call 32; refine (callsIn_wide.2 HJ.out).mono ?_; rintro e w5 ⟨rfl, hb5⟩; (have HB5 := Aside0.mk hb5); clear hb5)
    have hK5 := blk_below HK.out HB5.out
    refine ⟨by simp, .inl ⟨_, _, rfl, run_takeDeferred hK5, ?_⟩⟩
    exact ⟨_, results_tmp rfl _ _ _, rfl, (below_step HB.out HB5.out).trans (belowK_b (w := w) (Nat.le_refl _) w5 D _ _ (by have := HW0.out; omega) hK5 rfl rfl)⟩
  case stop =>
    rintro D c pre W _ _ h _
    exact h.elim
end Go.Proofs.YteaciggmlmhbgaaDoor.P

-- Written by a program of this session (a turned form of the kit's print) out of the translation.
namespace Go.Proofs.YteaciggmlmhbgaaDoor.P
open Go.RowKit Go.Proofs.YteaciggmlmhbgaaDoorW.PrintWords Go.Proofs.YteaciggmlmhbgaaDoorW.PrintLast Go.Proofs.YteaciggmlmhbgaaDoorW.PrintMore
attribute [local go_sem] max2_int min2_int max_two min_two max_three min_three max_four min_four   -- for this text's walks alone
set_option linter.unusedVariables false
set_option linter.unusedSimpArgs false

/-! ### spec_l01Digits: function 49 -/
def spec_l01Digits.l0 : Nat → List Int → Int → Int → Int → Int → Int → Int → Int → Int → Int → Option (Bool)
  | 0, _, _, _, _, _, _, _, _, _, _ => none
  | k + 1, x0, x5, x124000, x124001, x124002, x124003, x124004, x124005, x124006, x124007 => if x5 < 8 then (if x5 < (x0.length : Int) then (if 0 ≤ x5 then (if (nth [x124000, x124001, x124002, x124003, x124004, x124005, x124006, x124007] x5) ≥ (rd x0 x5) then (some false) else (if x5 ≥ (x0.length : Int) then (if (nth [x124000, x124001, x124002, x124003, x124004, x124005, x124006, x124007] x5) = 0 then (spec_l01Digits.l0 k x0 (wrap64 (x5 + 1)) x124000 x124001 x124002 x124003 x124004 x124005 x124006 x124007) else (some false)) else (spec_l01Digits.l0 k x0 (wrap64 (x5 + 1)) x124000 x124001 x124002 x124003 x124004 x124005 x124006 x124007))) else (none)) else (if x5 ≥ (x0.length : Int) then (if 0 ≤ x5 then (if (nth [x124000, x124001, x124002, x124003, x124004, x124005, x124006, x124007] x5) = 0 then (spec_l01Digits.l0 k x0 (wrap64 (x5 + 1)) x124000 x124001 x124002 x124003 x124004 x124005 x124006 x124007) else (some false)) else (none)) else (spec_l01Digits.l0 k x0 (wrap64 (x5 + 1)) x124000 x124001 x124002 x124003 x124004 x124005 x124006 x124007))) else (some true)
def spec_l01Digits.f (k : Nat) (l0 : List Int) (a1_0 : Int) (a1_1 : Int) (a1_2 : Int) (a1_3 : Int) (a1_4 : Int) (a1_5 : Int) (a1_6 : Int) (a1_7 : Int) : Option (Bool) := spec_l01Digits.l0 k l0 0 a1_0 a1_1 a1_2 a1_3 a1_4 a1_5 a1_6 a1_7
theorem spec_l01Digits.mono_l : ∀ k, (∀ y0 y1 y2 y3 y4 y5 y6 y7 y8 y9, LeO (spec_l01Digits.l0 k y0 y1 y2 y3 y4 y5 y6 y7 y8 y9) (spec_l01Digits.l0 (k + 1) y0 y1 y2 y3 y4 y5 y6 y7 y8 y9))
  | 0 => fun _ _ _ _ _ _ _ _ _ _ r h => by simp [spec_l01Digits.l0] at h
  | k + 1 => by
    have ih0 := spec_l01Digits.mono_l k
    · intro y0 y1 y2 y3 y4 y5 y6 y7 y8 y9
      unfold spec_l01Digits.l0
      repeat' first
      | (with_reducible exact ih0 _ _ _ _ _ _ _ _ _ _)
      | (with_reducible exact LeO.refl _)
      | (with_reducible exact LeO.none _)
      | (with_reducible refine LeO.ite ?_ ?_)
      | (with_reducible refine LeO.bind ?_ (fun _ => ?_))
      | exact ih0 _ _ _ _ _ _ _ _ _ _
      | exact LeO.none _
      | refine LeO.ite ?_ ?_
      | refine LeO.bind ?_ (fun _ => ?_)
theorem spec_l01Digits.mono : ∀ a0 a1 a2 a3 a4 a5 a6 a7 a8 k, LeO (spec_l01Digits.f k a0 a1 a2 a3 a4 a5 a6 a7 a8) (spec_l01Digits.f (k + 1) a0 a1 a2 a3 a4 a5 a6 a7 a8) := by
  intro a0 a1 a2 a3 a4 a5 a6 a7 a8 k
  have ih0 := spec_l01Digits.mono_l k
  unfold spec_l01Digits.f
  repeat' first
      | (with_reducible exact ih0 _ _ _ _ _ _ _ _ _ _)
      | (with_reducible exact LeO.refl _)
      | (with_reducible exact LeO.none _)
      | (with_reducible refine LeO.ite ?_ ?_)
      | (with_reducible refine LeO.bind ?_ (fun _ => ?_))
      | exact ih0 _ _ _ _ _ _ _ _ _ _
      | exact LeO.none _
      | refine LeO.ite ?_ ?_
      | refine LeO.bind ?_ (fun _ => ?_)
set_option maxHeartbeats 8000000 in
set_option maxRecDepth 100000 in
theorem spec_l01Digits.calls (k : Nat) (A0 : Option Addr) (c0 : Nat) (l0 : List Int) (a1_0 : Int) (a1_1 : Int) (a1_2 : Int) (a1_3 : Int) (a1_4 : Int) (a1_5 : Int) (a1_6 : Int) (a1_7 : Int) (r : Bool) (w : World) (hr0 : Kd.C (Kd.int .u8) w A0 l0.length l0) (hc0 : l0.length ≤ c0) (h : spec_l01Digits.f k l0 a1_0 a1_1 a1_2 a1_3 a1_4 a1_5 a1_6 a1_7 = some r) :
    Calls Tryd.prog 49 #[.slice A0 l0.length c0, .agg #[.int .u8 a1_0, .int .u8 a1_1, .int .u8 a1_2, .int .u8 a1_3, .int .u8 a1_4, .int .u8 a1_5, .int .u8 a1_6, .int .u8 a1_7]] w fun e w' => e = .returned (.bool r) ∧ Below w.heap.size w w' := by
  have hu48 := Tryd.underlying48
  have HR0 := Aside0.mk hr0
  have HC0 := Aside0.mk hc0
  clear hr0 hc0
  have HB := Aside0.mk (Below.refl w.heap.size w)
  have H : (spec_l01Digits.l0 k l0 0 a1_0 a1_1 a1_2 a1_3 a1_4 a1_5 a1_6 a1_7) = some r := h
  clear h
  have H' := Aside0.mk H
  clear H
  go_enter Tryd.func49, Tryd.ntmps49
  go_wp2_with (first | ((with_reducible refine gate_dst (N := 3) rfl ?_); (try (refine gate_guard (by rfl) ?_; dsimp only)); refine box_event ?hg (N := 3) ?hd (cs := #[.int .u8 a1_0, .int .u8 a1_1, .int .u8 a1_2, .int .u8 a1_3, .int .u8 a1_4, .int .u8 a1_5, .int .u8 a1_6, .int .u8 a1_7]) (t := 48) ?hr ?_; (case hd => rfl); (case hg => rfl); (case hr => first | (go_simp; done) | (go_simp; rfl)); intro gb123 hg w3 hbox hb; have n0_ := Aside0.mk (below_step (by repeat (first | (with_reducible first | exact HB.out | apply below_alloc | apply pw_below_drewN | apply below_drew1) | exact HB.out)) hb); have n1_ := Aside0.mk (hbox); have n2_ := Aside0.mk ((by rw [hg]; exact (below_size (by repeat (first | (with_reducible first | exact HB.out | apply below_alloc | apply pw_below_drewN | apply below_drew1) | exact HB.out))) : w.heap.size ≤ gb123)); have n3_ := Aside0.mk ((by rw [hg]; exact (below_size (by repeat (first | (with_reducible first | exact HB.out | apply below_alloc | apply pw_below_drewN | apply below_drew1) | exact HB.out))) : w.heap.size ≤ gb123)); clear HB; have HB := n0_; have BK123 := n1_; have GW123 := n2_; have GE123 := n3_; clear n0_ n1_ n2_ n3_; clear hb hbox hg))
  repeat (go_quiet (first | ((with_reducible refine gate_dst (N := 3) rfl ?_); (try (refine gate_guard (by rfl) ?_; dsimp only)); refine box_event ?hg (N := 3) ?hd (cs := #[.int .u8 a1_0, .int .u8 a1_1, .int .u8 a1_2, .int .u8 a1_3, .int .u8 a1_4, .int .u8 a1_5, .int .u8 a1_6, .int .u8 a1_7]) (t := 48) ?hr ?_; (case hd => rfl); (case hg => rfl); (case hr => first | (go_simp; done) | (go_simp; rfl)); intro gb123 hg w3 hbox hb; have n0_ := Aside0.mk (below_step (by repeat (first | (with_reducible first | exact HB.out | apply below_alloc | apply pw_below_drewN | apply below_drew1) | exact HB.out)) hb); have n1_ := Aside0.mk (hbox); have n2_ := Aside0.mk ((by rw [hg]; exact (below_size (by repeat (first | (with_reducible first | exact HB.out | apply below_alloc | apply pw_below_drewN | apply below_drew1) | exact HB.out))) : w.heap.size ≤ gb123)); have n3_ := Aside0.mk ((by rw [hg]; exact (below_size (by repeat (first | (with_reducible first | exact HB.out | apply below_alloc | apply pw_below_drewN | apply below_drew1) | exact HB.out))) : w.heap.size ≤ gb123)); clear HB; have HB := n0_; have BK123 := n1_; have GW123 := n2_; have GE123 := n3_; clear n0_ n1_ n2_ n3_; clear hb hbox hg)); try go_wp2_with (first | ((with_reducible refine gate_dst (N := 3) rfl ?_); (try (refine gate_guard (by rfl) ?_; dsimp only)); refine box_event ?hg (N := 3) ?hd (cs := #[.int .u8 a1_0, .int .u8 a1_1, .int .u8 a1_2, .int .u8 a1_3, .int .u8 a1_4, .int .u8 a1_5, .int .u8 a1_6, .int .u8 a1_7]) (t := 48) ?hr ?_; (case hd => rfl); (case hg => rfl); (case hr => first | (go_simp; done) | (go_simp; rfl)); intro gb123 hg w3 hbox hb; have n0_ := Aside0.mk (below_step (by repeat (first | (with_reducible first | exact HB.out | apply below_alloc | apply pw_below_drewN | apply below_drew1) | exact HB.out)) hb); have n1_ := Aside0.mk (hbox); have n2_ := Aside0.mk ((by rw [hg]; exact (below_size (by repeat (first | (with_reducible first | exact HB.out | apply below_alloc | apply pw_below_drewN | apply below_drew1) | exact HB.out))) : w.heap.size ≤ gb123)); have n3_ := Aside0.mk ((by rw [hg]; exact (below_size (by repeat (first | (with_reducible first | exact HB.out | apply below_alloc | apply pw_below_drewN | apply below_drew1) | exact HB.out))) : w.heap.size ≤ gb123)); clear HB; have HB := n0_; have BK123 := n1_; have GW123 := n2_; have GE123 := n3_; clear n0_ n1_ n2_ n3_; clear hb hbox hg)))
  go_loopg [5] k (fun kq v5 w' => ∃ (x5_1 : Int), v5 = .int .i64 x5_1 ∧ Aside0 (spec_l01Digits.l0 kq l0 x5_1 a1_0 a1_1 a1_2 a1_3 a1_4 a1_5 a1_6 a1_7 = some r) ∧ Aside0 (kq ≤ k) ∧ Aside0 (w'.heap[gb123]? = some (.cells #[.int .u8 a1_0, .int .u8 a1_1, .int .u8 a1_2, .int .u8 a1_3, .int .u8 a1_4, .int .u8 a1_5, .int .u8 a1_6, .int .u8 a1_7] 48 (0, 0))) ∧ Aside0 (Below w.heap.size w w'))
  case atStart => exact ⟨(0), (by first | rfl | (simp; done) | (simp [*]; done)), H', ⟨Nat.le_refl _⟩, ⟨by (with_reducible repeat (first | refine blk_drewN ?_ _ | refine blk_drew ?_ | refine blk_alloc ?_ _)); exact BK123.out⟩, ⟨by repeat (first | (with_reducible first | exact HB.out | apply below_alloc | apply pw_below_drewN | apply below_drew1 | refine below_set ?_ GE123.out) | exact HB.out)⟩⟩
  case round =>
    clear H'
    try clear p2
    obtain ⟨x5_1, rfl, HA, HK1, BK123, HB⟩ := hrel
    cases gk with
    | zero => exact absurd HA.out (by simp [spec_l01Digits.l0])
    | succ k1 =>
      have H := HA.out
      clear HA
      simp only [spec_l01Digits.l0] at H
      by_cases c4 : x5_1 < 8
      · rw [if_pos c4] at H
        have c4b0 : decide (x5_1 < 8) = true := decide_eq_true c4
        clear c4
        by_cases c5 : x5_1 < (l0.length : Int)
        · rw [if_pos c5] at H
          have c5b0 : decide (x5_1 < (l0.length : Int)) = true := decide_eq_true c5
          clear c5
          by_cases c6 : 0 ≤ x5_1
          · rw [if_pos c6] at H
            have c6b0 : decide (0 ≤ x5_1) = true := decide_eq_true c6
            clear c6
            by_cases c7 : (nth [a1_0, a1_1, a1_2, a1_3, a1_4, a1_5, a1_6, a1_7] x5_1) ≥ (rd l0 x5_1)
            · rw [if_pos c7] at H
              have c7b0 : decide ((rd l0 x5_1) ≤ (nth [a1_0, a1_1, a1_2, a1_3, a1_4, a1_5, a1_6, a1_7] x5_1)) = true := decide_eq_true c7
              clear c7
              obtain rfl := Option.some.inj H
              have hcz8_0 : wr.cell? ⟨gb123, 0, none⟩ = some (.int .u8 a1_0) := (blk_cell BK123.out 0).trans rfl
              have hcz8_1 : wr.cell? ⟨gb123, 1, none⟩ = some (.int .u8 a1_1) := (blk_cell BK123.out 1).trans rfl
              have hcz8_2 : wr.cell? ⟨gb123, 2, none⟩ = some (.int .u8 a1_2) := (blk_cell BK123.out 2).trans rfl
              have hcz8_3 : wr.cell? ⟨gb123, 3, none⟩ = some (.int .u8 a1_3) := (blk_cell BK123.out 3).trans rfl
              have hcz8_4 : wr.cell? ⟨gb123, 4, none⟩ = some (.int .u8 a1_4) := (blk_cell BK123.out 4).trans rfl
              have hcz8_5 : wr.cell? ⟨gb123, 5, none⟩ = some (.int .u8 a1_5) := (blk_cell BK123.out 5).trans rfl
              have hcz8_6 : wr.cell? ⟨gb123, 6, none⟩ = some (.int .u8 a1_6) := (blk_cell BK123.out 6).trans rfl
              have hcz8_7 : wr.cell? ⟨gb123, 7, none⟩ = some (.int .u8 a1_7) := (blk_cell BK123.out 7).trans rfl
              have hfz8_0 := blk_frozen BK123.out 0
              have hfz8_1 := blk_frozen BK123.out 1
              have hfz8_2 := blk_frozen BK123.out 2
              have hfz8_3 := blk_frozen BK123.out 3
              have hfz8_4 := blk_frozen BK123.out 4
              have hfz8_5 := blk_frozen BK123.out 5
              have hfz8_6 := blk_frozen BK123.out 6
              have hfz8_7 := blk_frozen BK123.out 7
              have p9 : 0 ≤ (x5_1 : Int) := of_decide_eq_true (by first | (with_reducible assumption) | assumption)
              have q9 : (x5_1 : Int) < 8 := of_decide_eq_true (by first | (with_reducible assumption) | assumption)
              have hx9_0 : wr.cell? ⟨gb123, (x5_1 : Int).toNat, none⟩ = some (.int .u8 (nth [a1_0, a1_1, a1_2, a1_3, a1_4, a1_5, a1_6, a1_7] x5_1)) := (blk_cell BK123.out _).trans (arr_nth .u8 [a1_0, a1_1, a1_2, a1_3, a1_4, a1_5, a1_6, a1_7] x5_1 8 rfl p9 q9)
              replace p9 := eq_true p9
              replace q9 := eq_true q9
              have p124 : 0 ≤ (x5_1 : Int) := of_decide_eq_true (by first | (with_reducible assumption) | assumption)
              have q124 : x5_1 < (l0.length : Int) := of_decide_eq_true (by first | (with_reducible assumption) | assumption)
              obtain ⟨ad124, e124, hx124_0⟩ := Kd.at_int HR0.out x5_1 p124 q124
              cases e124
              replace hx124_0 := (HB.out.cell (World.block_lt_of_cell? w _ hx124_0)).trans hx124_0
              replace p124 := eq_true p124
              replace q124 := eq_true q124
              go_wp2
              repeat (go_quiet (fail); try go_wp2)
              go_ret
              exact ⟨by first | rfl | (simp [errW_none, errW_some] <;> rfl) | (simp [*, errW_none, errW_some] <;> rfl), by repeat (first | (with_reducible first | exact HB.out | apply below_alloc | apply pw_below_drewN | apply below_drew1 | refine below_set ?_ GE123.out) | exact HB.out)⟩
            · rw [if_neg c7] at H
              have c7b0 : decide ((rd l0 x5_1) ≤ (nth [a1_0, a1_1, a1_2, a1_3, a1_4, a1_5, a1_6, a1_7] x5_1)) = false := decide_eq_false c7
              clear c7
              by_cases c10 : x5_1 ≥ (l0.length : Int)
              · rw [if_pos c10] at H
                have c10b0 : decide ((l0.length : Int) ≤ x5_1) = true := decide_eq_true c10
                clear c10
                by_cases c11 : (nth [a1_0, a1_1, a1_2, a1_3, a1_4, a1_5, a1_6, a1_7] x5_1) = 0
                · rw [if_pos c11] at H
                  have c11b0 : ((nth [a1_0, a1_1, a1_2, a1_3, a1_4, a1_5, a1_6, a1_7] x5_1) == 0) = true := beq_iff_eq.mpr c11
                  have c11b1 : ((nth [a1_0, a1_1, a1_2, a1_3, a1_4, a1_5, a1_6, a1_7] x5_1) != 0) = false := bne_eq_false_iff_eq.mpr c11
                  clear c11
                  have H' := Aside0.mk H
                  clear H
                  have hcz12_0 : wr.cell? ⟨gb123, 0, none⟩ = some (.int .u8 a1_0) := (blk_cell BK123.out 0).trans rfl
                  have hcz12_1 : wr.cell? ⟨gb123, 1, none⟩ = some (.int .u8 a1_1) := (blk_cell BK123.out 1).trans rfl
                  have hcz12_2 : wr.cell? ⟨gb123, 2, none⟩ = some (.int .u8 a1_2) := (blk_cell BK123.out 2).trans rfl
                  have hcz12_3 : wr.cell? ⟨gb123, 3, none⟩ = some (.int .u8 a1_3) := (blk_cell BK123.out 3).trans rfl
                  have hcz12_4 : wr.cell? ⟨gb123, 4, none⟩ = some (.int .u8 a1_4) := (blk_cell BK123.out 4).trans rfl
                  have hcz12_5 : wr.cell? ⟨gb123, 5, none⟩ = some (.int .u8 a1_5) := (blk_cell BK123.out 5).trans rfl
                  have hcz12_6 : wr.cell? ⟨gb123, 6, none⟩ = some (.int .u8 a1_6) := (blk_cell BK123.out 6).trans rfl
                  have hcz12_7 : wr.cell? ⟨gb123, 7, none⟩ = some (.int .u8 a1_7) := (blk_cell BK123.out 7).trans rfl
                  have hfz12_0 := blk_frozen BK123.out 0
                  have hfz12_1 := blk_frozen BK123.out 1
                  have hfz12_2 := blk_frozen BK123.out 2
                  have hfz12_3 := blk_frozen BK123.out 3
                  have hfz12_4 := blk_frozen BK123.out 4
                  have hfz12_5 := blk_frozen BK123.out 5
                  have hfz12_6 := blk_frozen BK123.out 6
                  have hfz12_7 := blk_frozen BK123.out 7
                  have p13 : 0 ≤ (x5_1 : Int) := of_decide_eq_true (by first | (with_reducible assumption) | assumption)
                  have q13 : (x5_1 : Int) < 8 := of_decide_eq_true (by first | (with_reducible assumption) | assumption)
                  have hx13_0 : wr.cell? ⟨gb123, (x5_1 : Int).toNat, none⟩ = some (.int .u8 (nth [a1_0, a1_1, a1_2, a1_3, a1_4, a1_5, a1_6, a1_7] x5_1)) := (blk_cell BK123.out _).trans (arr_nth .u8 [a1_0, a1_1, a1_2, a1_3, a1_4, a1_5, a1_6, a1_7] x5_1 8 rfl p13 q13)
                  replace p13 := eq_true p13
                  replace q13 := eq_true q13
                  have p124 : 0 ≤ (x5_1 : Int) := of_decide_eq_true (by first | (with_reducible assumption) | assumption)
                  have q124 : x5_1 < (l0.length : Int) := of_decide_eq_true (by first | (with_reducible assumption) | assumption)
                  obtain ⟨ad124, e124, hx124_0⟩ := Kd.at_int HR0.out x5_1 p124 q124
                  cases e124
                  replace hx124_0 := (HB.out.cell (World.block_lt_of_cell? w _ hx124_0)).trans hx124_0
                  replace p124 := eq_true p124
                  replace q124 := eq_true q124
                  have p14 : 0 ≤ (x5_1 : Int) := of_decide_eq_true (by first | (with_reducible assumption) | assumption)
                  have q14 : (x5_1 : Int) < 8 := of_decide_eq_true (by first | (with_reducible assumption) | assumption)
                  have hx14_0 : wr.cell? ⟨gb123, (x5_1 : Int).toNat, none⟩ = some (.int .u8 (nth [a1_0, a1_1, a1_2, a1_3, a1_4, a1_5, a1_6, a1_7] x5_1)) := (blk_cell BK123.out _).trans (arr_nth .u8 [a1_0, a1_1, a1_2, a1_3, a1_4, a1_5, a1_6, a1_7] x5_1 8 rfl p14 q14)
                  replace p14 := eq_true p14
                  replace q14 := eq_true q14
                  go_wp2
                  repeat (go_quiet (fail); try go_wp2)
                  go_roundg k1
                  case measure => have := HK1.out; omega
                  case rel => exact ⟨(wrap64 (x5_1 + 1)), (by first | rfl | (simp; done) | (simp [*]; done)), H', ⟨by have := HK1.out; omega⟩, ⟨by (with_reducible repeat (first | refine blk_drewN ?_ _ | refine blk_drew ?_ | refine blk_alloc ?_ _)); exact BK123.out⟩, ⟨by repeat (first | (with_reducible first | exact HB.out | apply below_alloc | apply pw_below_drewN | apply below_drew1 | refine below_set ?_ GE123.out) | exact HB.out)⟩⟩
                · rw [if_neg c11] at H
                  have c11b0 : ((nth [a1_0, a1_1, a1_2, a1_3, a1_4, a1_5, a1_6, a1_7] x5_1) == 0) = false := beq_eq_false_iff_ne.mpr c11
                  have c11b1 : ((nth [a1_0, a1_1, a1_2, a1_3, a1_4, a1_5, a1_6, a1_7] x5_1) != 0) = true := bne_iff_ne.mpr c11
                  obtain rfl := Option.some.inj H
                  have hcz15_0 : wr.cell? ⟨gb123, 0, none⟩ = some (.int .u8 a1_0) := (blk_cell BK123.out 0).trans rfl
                  have hcz15_1 : wr.cell? ⟨gb123, 1, none⟩ = some (.int .u8 a1_1) := (blk_cell BK123.out 1).trans rfl
                  have hcz15_2 : wr.cell? ⟨gb123, 2, none⟩ = some (.int .u8 a1_2) := (blk_cell BK123.out 2).trans rfl
                  have hcz15_3 : wr.cell? ⟨gb123, 3, none⟩ = some (.int .u8 a1_3) := (blk_cell BK123.out 3).trans rfl
                  have hcz15_4 : wr.cell? ⟨gb123, 4, none⟩ = some (.int .u8 a1_4) := (blk_cell BK123.out 4).trans rfl
                  have hcz15_5 : wr.cell? ⟨gb123, 5, none⟩ = some (.int .u8 a1_5) := (blk_cell BK123.out 5).trans rfl
                  have hcz15_6 : wr.cell? ⟨gb123, 6, none⟩ = some (.int .u8 a1_6) := (blk_cell BK123.out 6).trans rfl
                  have hcz15_7 : wr.cell? ⟨gb123, 7, none⟩ = some (.int .u8 a1_7) := (blk_cell BK123.out 7).trans rfl
                  have hfz15_0 := blk_frozen BK123.out 0
                  have hfz15_1 := blk_frozen BK123.out 1
                  have hfz15_2 := blk_frozen BK123.out 2
                  have hfz15_3 := blk_frozen BK123.out 3
                  have hfz15_4 := blk_frozen BK123.out 4
                  have hfz15_5 := blk_frozen BK123.out 5
                  have hfz15_6 := blk_frozen BK123.out 6
                  have hfz15_7 := blk_frozen BK123.out 7
                  have p16 : 0 ≤ (x5_1 : Int) := of_decide_eq_true (by first | (with_reducible assumption) | assumption)
                  have q16 : (x5_1 : Int) < 8 := of_decide_eq_true (by first | (with_reducible assumption) | assumption)
                  have hx16_0 : wr.cell? ⟨gb123, (x5_1 : Int).toNat, none⟩ = some (.int .u8 (nth [a1_0, a1_1, a1_2, a1_3, a1_4, a1_5, a1_6, a1_7] x5_1)) := (blk_cell BK123.out _).trans (arr_nth .u8 [a1_0, a1_1, a1_2, a1_3, a1_4, a1_5, a1_6, a1_7] x5_1 8 rfl p16 q16)
                  replace p16 := eq_true p16
                  replace q16 := eq_true q16
                  have p124 : 0 ≤ (x5_1 : Int) := of_decide_eq_true (by first | (with_reducible assumption) | assumption)
                  have q124 : x5_1 < (l0.length : Int) := of_decide_eq_true (by first | (with_reducible assumption) | assumption)
                  obtain ⟨ad124, e124, hx124_0⟩ := Kd.at_int HR0.out x5_1 p124 q124
                  cases e124
                  replace hx124_0 := (HB.out.cell (World.block_lt_of_cell? w _ hx124_0)).trans hx124_0
                  replace p124 := eq_true p124
                  replace q124 := eq_true q124
                  have p17 : 0 ≤ (x5_1 : Int) := of_decide_eq_true (by first | (with_reducible assumption) | assumption)
                  have q17 : (x5_1 : Int) < 8 := of_decide_eq_true (by first | (with_reducible assumption) | assumption)
                  have hx17_0 : wr.cell? ⟨gb123, (x5_1 : Int).toNat, none⟩ = some (.int .u8 (nth [a1_0, a1_1, a1_2, a1_3, a1_4, a1_5, a1_6, a1_7] x5_1)) := (blk_cell BK123.out _).trans (arr_nth .u8 [a1_0, a1_1, a1_2, a1_3, a1_4, a1_5, a1_6, a1_7] x5_1 8 rfl p17 q17)
                  replace p17 := eq_true p17
                  replace q17 := eq_true q17
                  go_wp2
                  repeat (go_quiet (fail); try go_wp2)
                  go_ret
                  exact ⟨by first | rfl | (simp [errW_none, errW_some] <;> rfl) | (simp [*, errW_none, errW_some] <;> rfl), by repeat (first | (with_reducible first | exact HB.out | apply below_alloc | apply pw_below_drewN | apply below_drew1 | refine below_set ?_ GE123.out) | exact HB.out)⟩
              · rw [if_neg c10] at H
                have c10b0 : decide ((l0.length : Int) ≤ x5_1) = false := decide_eq_false c10
                clear c10
                have H' := Aside0.mk H
                clear H
                have hcz18_0 : wr.cell? ⟨gb123, 0, none⟩ = some (.int .u8 a1_0) := (blk_cell BK123.out 0).trans rfl
                have hcz18_1 : wr.cell? ⟨gb123, 1, none⟩ = some (.int .u8 a1_1) := (blk_cell BK123.out 1).trans rfl
                have hcz18_2 : wr.cell? ⟨gb123, 2, none⟩ = some (.int .u8 a1_2) := (blk_cell BK123.out 2).trans rfl
                have hcz18_3 : wr.cell? ⟨gb123, 3, none⟩ = some (.int .u8 a1_3) := (blk_cell BK123.out 3).trans rfl
                have hcz18_4 : wr.cell? ⟨gb123, 4, none⟩ = some (.int .u8 a1_4) := (blk_cell BK123.out 4).trans rfl
                have hcz18_5 : wr.cell? ⟨gb123, 5, none⟩ = some (.int .u8 a1_5) := (blk_cell BK123.out 5).trans rfl
                have hcz18_6 : wr.cell? ⟨gb123, 6, none⟩ = some (.int .u8 a1_6) := (blk_cell BK123.out 6).trans rfl
                have hcz18_7 : wr.cell? ⟨gb123, 7, none⟩ = some (.int .u8 a1_7) := (blk_cell BK123.out 7).trans rfl
                have hfz18_0 := blk_frozen BK123.out 0
                have hfz18_1 := blk_frozen BK123.out 1
                have hfz18_2 := blk_frozen BK123.out 2
                have hfz18_3 := blk_frozen BK123.out 3
                have hfz18_4 := blk_frozen BK123.out 4
                have hfz18_5 := blk_frozen BK123.out 5
                have hfz18_6 := blk_frozen BK123.out 6
                have hfz18_7 := blk_frozen BK123.out 7
                have p19 : 0 ≤ (x5_1 : Int) := of_decide_eq_true (by first | (with_reducible assumption) | assumption)
                have q19 : (x5_1 : Int) < 8 := of_decide_eq_true (by first | (with_reducible assumption) | assumption)
                have hx19_0 : wr.cell? ⟨gb123, (x5_1 : Int).toNat, none⟩ = some (.int .u8 (nth [a1_0, a1_1, a1_2, a1_3, a1_4, a1_5, a1_6, a1_7] x5_1)) := (blk_cell BK123.out _).trans (arr_nth .u8 [a1_0, a1_1, a1_2, a1_3, a1_4, a1_5, a1_6, a1_7] x5_1 8 rfl p19 q19)
                replace p19 := eq_true p19
                replace q19 := eq_true q19
                have p124 : 0 ≤ (x5_1 : Int) := of_decide_eq_true (by first | (with_reducible assumption) | assumption)
                have q124 : x5_1 < (l0.length : Int) := of_decide_eq_true (by first | (with_reducible assumption) | assumption)
                obtain ⟨ad124, e124, hx124_0⟩ := Kd.at_int HR0.out x5_1 p124 q124
                cases e124
                replace hx124_0 := (HB.out.cell (World.block_lt_of_cell? w _ hx124_0)).trans hx124_0
                replace p124 := eq_true p124
                replace q124 := eq_true q124
                go_wp2
                repeat (go_quiet (fail); try go_wp2)
                go_roundg k1
                case measure => have := HK1.out; omega
                case rel => exact ⟨(wrap64 (x5_1 + 1)), (by first | rfl | (simp; done) | (simp [*]; done)), H', ⟨by have := HK1.out; omega⟩, ⟨by (with_reducible repeat (first | refine blk_drewN ?_ _ | refine blk_drew ?_ | refine blk_alloc ?_ _)); exact BK123.out⟩, ⟨by repeat (first | (with_reducible first | exact HB.out | apply below_alloc | apply pw_below_drewN | apply below_drew1 | refine below_set ?_ GE123.out) | exact HB.out)⟩⟩
          · rw [if_neg c6] at H
            exact absurd H (by simp)
        · rw [if_neg c5] at H
          have c5b0 : decide (x5_1 < (l0.length : Int)) = false := decide_eq_false c5
          clear c5
          by_cases c20 : x5_1 ≥ (l0.length : Int)
          · rw [if_pos c20] at H
            have c20b0 : decide ((l0.length : Int) ≤ x5_1) = true := decide_eq_true c20
            clear c20
            by_cases c21 : 0 ≤ x5_1
            · rw [if_pos c21] at H
              have c21b0 : decide (0 ≤ x5_1) = true := decide_eq_true c21
              clear c21
              by_cases c22 : (nth [a1_0, a1_1, a1_2, a1_3, a1_4, a1_5, a1_6, a1_7] x5_1) = 0
              · rw [if_pos c22] at H
                have c22b0 : ((nth [a1_0, a1_1, a1_2, a1_3, a1_4, a1_5, a1_6, a1_7] x5_1) == 0) = true := beq_iff_eq.mpr c22
                have c22b1 : ((nth [a1_0, a1_1, a1_2, a1_3, a1_4, a1_5, a1_6, a1_7] x5_1) != 0) = false := bne_eq_false_iff_eq.mpr c22
                clear c22
                have H' := Aside0.mk H
                clear H
                have hcz23_0 : wr.cell? ⟨gb123, 0, none⟩ = some (.int .u8 a1_0) := (blk_cell BK123.out 0).trans rfl
                have hcz23_1 : wr.cell? ⟨gb123, 1, none⟩ = some (.int .u8 a1_1) := (blk_cell BK123.out 1).trans rfl
                have hcz23_2 : wr.cell? ⟨gb123, 2, none⟩ = some (.int .u8 a1_2) := (blk_cell BK123.out 2).trans rfl
                have hcz23_3 : wr.cell? ⟨gb123, 3, none⟩ = some (.int .u8 a1_3) := (blk_cell BK123.out 3).trans rfl
                have hcz23_4 : wr.cell? ⟨gb123, 4, none⟩ = some (.int .u8 a1_4) := (blk_cell BK123.out 4).trans rfl
                have hcz23_5 : wr.cell? ⟨gb123, 5, none⟩ = some (.int .u8 a1_5) := (blk_cell BK123.out 5).trans rfl
                have hcz23_6 : wr.cell? ⟨gb123, 6, none⟩ = some (.int .u8 a1_6) := (blk_cell BK123.out 6).trans rfl
                have hcz23_7 : wr.cell? ⟨gb123, 7, none⟩ = some (.int .u8 a1_7) := (blk_cell BK123.out 7).trans rfl
                have hfz23_0 := blk_frozen BK123.out 0
                have hfz23_1 := blk_frozen BK123.out 1
                have hfz23_2 := blk_frozen BK123.out 2
                have hfz23_3 := blk_frozen BK123.out 3
                have hfz23_4 := blk_frozen BK123.out 4
                have hfz23_5 := blk_frozen BK123.out 5
                have hfz23_6 := blk_frozen BK123.out 6
                have hfz23_7 := blk_frozen BK123.out 7
                have p24 : 0 ≤ (x5_1 : Int) := of_decide_eq_true (by first | (with_reducible assumption) | assumption)
                have q24 : (x5_1 : Int) < 8 := of_decide_eq_true (by first | (with_reducible assumption) | assumption)
                have hx24_0 : wr.cell? ⟨gb123, (x5_1 : Int).toNat, none⟩ = some (.int .u8 (nth [a1_0, a1_1, a1_2, a1_3, a1_4, a1_5, a1_6, a1_7] x5_1)) := (blk_cell BK123.out _).trans (arr_nth .u8 [a1_0, a1_1, a1_2, a1_3, a1_4, a1_5, a1_6, a1_7] x5_1 8 rfl p24 q24)
                replace p24 := eq_true p24
                replace q24 := eq_true q24
                go_wp2
                repeat (go_quiet (fail); try go_wp2)
                go_roundg k1
                case measure => have := HK1.out; omega
                case rel => exact ⟨(wrap64 (x5_1 + 1)), (by first | rfl | (simp; done) | (simp [*]; done)), H', ⟨by have := HK1.out; omega⟩, ⟨by (with_reducible repeat (first | refine blk_drewN ?_ _ | refine blk_drew ?_ | refine blk_alloc ?_ _)); exact BK123.out⟩, ⟨by repeat (first | (with_reducible first | exact HB.out | apply below_alloc | apply pw_below_drewN | apply below_drew1 | refine below_set ?_ GE123.out) | exact HB.out)⟩⟩
              · rw [if_neg c22] at H
                have c22b0 : ((nth [a1_0, a1_1, a1_2, a1_3, a1_4, a1_5, a1_6, a1_7] x5_1) == 0) = false := beq_eq_false_iff_ne.mpr c22
                have c22b1 : ((nth [a1_0, a1_1, a1_2, a1_3, a1_4, a1_5, a1_6, a1_7] x5_1) != 0) = true := bne_iff_ne.mpr c22
                obtain rfl := Option.some.inj H
                have hcz25_0 : wr.cell? ⟨gb123, 0, none⟩ = some (.int .u8 a1_0) := (blk_cell BK123.out 0).trans rfl
                have hcz25_1 : wr.cell? ⟨gb123, 1, none⟩ = some (.int .u8 a1_1) := (blk_cell BK123.out 1).trans rfl
                have hcz25_2 : wr.cell? ⟨gb123, 2, none⟩ = some (.int .u8 a1_2) := (blk_cell BK123.out 2).trans rfl
                have hcz25_3 : wr.cell? ⟨gb123, 3, none⟩ = some (.int .u8 a1_3) := (blk_cell BK123.out 3).trans rfl
                have hcz25_4 : wr.cell? ⟨gb123, 4, none⟩ = some (.int .u8 a1_4) := (blk_cell BK123.out 4).trans rfl
                have hcz25_5 : wr.cell? ⟨gb123, 5, none⟩ = some (.int .u8 a1_5) := (blk_cell BK123.out 5).trans rfl
                have hcz25_6 : wr.cell? ⟨gb123, 6, none⟩ = some (.int .u8 a1_6) := (blk_cell BK123.out 6).trans rfl
                have hcz25_7 : wr.cell? ⟨gb123, 7, none⟩ = some (.int .u8 a1_7) := (blk_cell BK123.out 7).trans rfl
                have hfz25_0 := blk_frozen BK123.out 0
                have hfz25_1 := blk_frozen BK123.out 1
                have hfz25_2 := blk_frozen BK123.out 2
                have hfz25_3 := blk_frozen BK123.out 3
                have hfz25_4 := blk_frozen BK123.out 4
                have hfz25_5 := blk_frozen BK123.out 5
                have hfz25_6 := blk_frozen BK123.out 6
                have hfz25_7 := blk_frozen BK123.out 7
                have p26 : 0 ≤ (x5_1 : Int) := of_decide_eq_true (by first | (with_reducible assumption) | assumption)
                have q26 : (x5_1 : Int) < 8 := of_decide_eq_true (by first | (with_reducible assumption) | assumption)
                have hx26_0 : wr.cell? ⟨gb123, (x5_1 : Int).toNat, none⟩ = some (.int .u8 (nth [a1_0, a1_1, a1_2, a1_3, a1_4, a1_5, a1_6, a1_7] x5_1)) := (blk_cell BK123.out _).trans (arr_nth .u8 [a1_0, a1_1, a1_2, a1_3, a1_4, a1_5, a1_6, a1_7] x5_1 8 rfl p26 q26)
                replace p26 := eq_true p26
                replace q26 := eq_true q26
                go_wp2
                repeat (go_quiet (fail); try go_wp2)
                go_ret
                exact ⟨by first | rfl | (simp [errW_none, errW_some] <;> rfl) | (simp [*, errW_none, errW_some] <;> rfl), by repeat (first | (with_reducible first | exact HB.out | apply below_alloc | apply pw_below_drewN | apply below_drew1 | refine below_set ?_ GE123.out) | exact HB.out)⟩
            · rw [if_neg c21] at H
              exact absurd H (by simp)
          · rw [if_neg c20] at H
            have c20b0 : decide ((l0.length : Int) ≤ x5_1) = false := decide_eq_false c20
            clear c20
            have H' := Aside0.mk H
            clear H
            go_wp2
            repeat (go_quiet (fail); try go_wp2)
            go_roundg k1
            case measure => have := HK1.out; omega
            case rel => exact ⟨(wrap64 (x5_1 + 1)), (by first | rfl | (simp; done) | (simp [*]; done)), H', ⟨by have := HK1.out; omega⟩, ⟨by (with_reducible repeat (first | refine blk_drewN ?_ _ | refine blk_drew ?_ | refine blk_alloc ?_ _)); exact BK123.out⟩, ⟨by repeat (first | (with_reducible first | exact HB.out | apply below_alloc | apply pw_below_drewN | apply below_drew1 | refine below_set ?_ GE123.out) | exact HB.out)⟩⟩
      · rw [if_neg c4] at H
        have c4b0 : decide (x5_1 < 8) = false := decide_eq_false c4
        clear c4
        obtain rfl := Option.some.inj H
        go_wp2
        repeat (go_quiet (fail); try go_wp2)
        go_ret
        exact ⟨by first | rfl | (simp [errW_none, errW_some] <;> rfl) | (simp [*, errW_none, errW_some] <;> rfl), by repeat (first | (with_reducible first | exact HB.out | apply below_alloc | apply pw_below_drewN | apply below_drew1 | refine below_set ?_ GE123.out) | exact HB.out)⟩

end Go.Proofs.YteaciggmlmhbgaaDoor.P

-- Written by a program of this session (a turned form of the kit's print) out of the translation.
namespace Go.Proofs.YteaciggmlmhbgaaDoor.P
open Go.RowKit Go.Proofs.YteaciggmlmhbgaaDoorW.PrintWords Go.Proofs.YteaciggmlmhbgaaDoorW.PrintLast Go.Proofs.YteaciggmlmhbgaaDoorW.PrintMore
attribute [local go_sem] max2_int min2_int max_two min_two max_three min_three max_four min_four   -- for this text's walks alone
set_option linter.unusedVariables false
set_option linter.unusedSimpArgs false

/-! ### spec_ValidDigits: function 35 -/
def spec_ValidDigits.f (k : Nat) (l0 : List Int) (a1_0 : Int) (a1_1 : Int) (a1_2 : Int) (a1_3 : Int) (a1_4 : Int) (a1_5 : Int) (a1_6 : Int) (a1_7 : Int) : Option (Bool) := (spec_l01Ok.f k l0).bind fun t126 => (if t126 = true then ((spec_l01Digits.f k l0 a1_0 a1_1 a1_2 a1_3 a1_4 a1_5 a1_6 a1_7).bind fun t127 => (some t127)) else (some false))
theorem spec_ValidDigits.mono : ∀ a0 a1 a2 a3 a4 a5 a6 a7 a8 k, LeO (spec_ValidDigits.f k a0 a1 a2 a3 a4 a5 a6 a7 a8) (spec_ValidDigits.f (k + 1) a0 a1 a2 a3 a4 a5 a6 a7 a8) := by
  intro a0 a1 a2 a3 a4 a5 a6 a7 a8 k
  unfold spec_ValidDigits.f
  repeat' first
      | (with_reducible exact spec_l01Digits.mono _ _ _ _ _ _ _ _ _ _)
      | (with_reducible exact spec_l01Ok.mono _ _)
      | (with_reducible exact LeO.refl _)
      | (with_reducible exact LeO.none _)
      | (with_reducible refine LeO.ite ?_ ?_)
      | (with_reducible refine LeO.bind ?_ (fun _ => ?_))
      | exact spec_l01Digits.mono _ _ _ _ _ _ _ _ _ _
      | exact spec_l01Ok.mono _ _
      | exact LeO.none _
      | refine LeO.ite ?_ ?_
      | refine LeO.bind ?_ (fun _ => ?_)
set_option maxHeartbeats 8000000 in
set_option maxRecDepth 100000 in
theorem spec_ValidDigits.calls (k : Nat) (A0 : Option Addr) (c0 : Nat) (l0 : List Int) (a1_0 : Int) (a1_1 : Int) (a1_2 : Int) (a1_3 : Int) (a1_4 : Int) (a1_5 : Int) (a1_6 : Int) (a1_7 : Int) (r : Bool) (w : World) (hr0 : Kd.C (Kd.int .u8) w A0 l0.length l0) (hc0 : l0.length ≤ c0) (h : spec_ValidDigits.f k l0 a1_0 a1_1 a1_2 a1_3 a1_4 a1_5 a1_6 a1_7 = some r) :
    Calls Tryd.prog 35 #[.slice A0 l0.length c0, .agg #[.int .u8 a1_0, .int .u8 a1_1, .int .u8 a1_2, .int .u8 a1_3, .int .u8 a1_4, .int .u8 a1_5, .int .u8 a1_6, .int .u8 a1_7]] w fun e w' => e = .returned (.bool r) ∧ Below w.heap.size w w' := by
  have hu48 := Tryd.underlying48
  have HR0 := Aside0.mk hr0
  have HC0 := Aside0.mk hc0
  clear hr0 hc0
  have HB := Aside0.mk (Below.refl w.heap.size w)
  have H : ((spec_l01Ok.f k l0).bind fun t126 => (if t126 = true then ((spec_l01Digits.f k l0 a1_0 a1_1 a1_2 a1_3 a1_4 a1_5 a1_6 a1_7).bind fun t127 => (some t127)) else (some false))) = some r := h
  clear h
  replace H := Option.bind_eq_some_iff.mp H
  obtain ⟨t126, A30, H⟩ := H
  replace H : (if t126 = true then ((spec_l01Digits.f k l0 a1_0 a1_1 a1_2 a1_3 a1_4 a1_5 a1_6 a1_7).bind fun t127 => (some t127)) else (some false)) = some r := H
  have A3 := Aside0.mk A30
  clear A30
  by_cases c4 : t126 = true
  · subst c4
    have H1 : ((spec_l01Digits.f k l0 a1_0 a1_1 a1_2 a1_3 a1_4 a1_5 a1_6 a1_7).bind fun t127 => (some t127)) = some r := by rw [if_pos rfl] at H; exact H
    clear H
    have H := H1
    clear H1
    replace H := Option.bind_eq_some_iff.mp H
    obtain ⟨t127, A50, H⟩ := H
    replace H : (some t127) = some r := H
    have A5 := Aside0.mk A50
    clear A50
    obtain rfl := Option.some.inj H
    go_enter Tryd.func35, Tryd.ntmps35
    go_wp2_with (first | ((with_reducible refine gate_dst (N := 3) rfl ?_); refine box_event ?hg (N := 3) ?hd (cs := #[.int .u8 a1_0, .int .u8 a1_1, .int .u8 a1_2, .int .u8 a1_3, .int .u8 a1_4, .int .u8 a1_5, .int .u8 a1_6, .int .u8 a1_7]) (t := 48) ?hr ?_; (case hd => rfl); (case hg => rfl); (case hr => first | (go_simp; done) | (go_simp; rfl)); intro gb125 hg w6 hbox hb; have n0_ := Aside0.mk (below_step (by repeat (first | (with_reducible first | exact HB.out | apply below_alloc | apply pw_below_drewN | apply below_drew1) | exact HB.out)) hb); have n1_ := Aside0.mk (hbox); have n2_ := Aside0.mk ((by rw [hg]; exact (below_size (by repeat (first | (with_reducible first | exact HB.out | apply below_alloc | apply pw_below_drewN | apply below_drew1) | exact HB.out))) : w.heap.size ≤ gb125)); have n3_ := Aside0.mk ((by rw [hg]; exact (below_size (by repeat (first | (with_reducible first | exact HB.out | apply below_alloc | apply pw_below_drewN | apply below_drew1) | exact HB.out))) : w.heap.size ≤ gb125)); clear HB; have HB := n0_; have BK125 := n1_; have GW125 := n2_; have GE125 := n3_; clear n0_ n1_ n2_ n3_; clear hb hbox hg) | ((with_reducible refine gate_callee (f := 21) rfl ?_); refine goesL_ (some 6) rfl rfl Tryd.func21 (by kernel_rfl) rfl #[.slice A0 l0.length c0] rfl (by (try simp only [List.map_toArray, List.map_cons, List.map_nil]); first | done | rfl | (simp only [List.length_drop, List.length_take]; rfl)) ?_; (with_reducible refine (spec_l01Ok.calls k _ _ l0 true _ ?side1 ?side2 A3.out).mono ?_); (case side1 => repeat (first | exact (Kd.C_below HR0.out HB.out) | (with_reducible refine Kd.C_alloc ?_ _) | (with_reducible refine Kd.C_drewN ?_ _) | (with_reducible refine Kd.C_drew ?_))); (case side2 => exact HC0.out); rintro e w' ⟨rfl, ⟨nd, rfl⟩⟩; refine ⟨_, rfl, ?_⟩; have hcz7_0 : w6.cell? ⟨gb125, 0, none⟩ = some (.int .u8 a1_0) := (blk_cell BK125.out 0).trans rfl; have hcz7_1 : w6.cell? ⟨gb125, 1, none⟩ = some (.int .u8 a1_1) := (blk_cell BK125.out 1).trans rfl; have hcz7_2 : w6.cell? ⟨gb125, 2, none⟩ = some (.int .u8 a1_2) := (blk_cell BK125.out 2).trans rfl; have hcz7_3 : w6.cell? ⟨gb125, 3, none⟩ = some (.int .u8 a1_3) := (blk_cell BK125.out 3).trans rfl; have hcz7_4 : w6.cell? ⟨gb125, 4, none⟩ = some (.int .u8 a1_4) := (blk_cell BK125.out 4).trans rfl; have hcz7_5 : w6.cell? ⟨gb125, 5, none⟩ = some (.int .u8 a1_5) := (blk_cell BK125.out 5).trans rfl; have hcz7_6 : w6.cell? ⟨gb125, 6, none⟩ = some (.int .u8 a1_6) := (blk_cell BK125.out 6).trans rfl; have hcz7_7 : w6.cell? ⟨gb125, 7, none⟩ = some (.int .u8 a1_7) := (blk_cell BK125.out 7).trans rfl; have hfz7_0 := blk_frozen BK125.out 0; have hfz7_1 := blk_frozen BK125.out 1; have hfz7_2 := blk_frozen BK125.out 2; have hfz7_3 := blk_frozen BK125.out 3; have hfz7_4 := blk_frozen BK125.out 4; have hfz7_5 := blk_frozen BK125.out 5; have hfz7_6 := blk_frozen BK125.out 6; have hfz7_7 := blk_frozen BK125.out 7) | (go_at_call 49; (with_reducible refine (spec_l01Digits.calls k _ _ l0 a1_0 a1_1 a1_2 a1_3 a1_4 a1_5 a1_6 a1_7 t127 _ ?side1 ?side2 A5.out).mono ?_); (case side1 => repeat (first | exact (Kd.C_below HR0.out (by repeat (first | (with_reducible first | exact HB.out | apply below_alloc | apply pw_below_drewN | apply below_drew1 | refine below_set ?_ GE125.out) | exact HB.out))) | (with_reducible refine Kd.C_alloc ?_ _) | (with_reducible refine Kd.C_drewN ?_ _) | (with_reducible refine Kd.C_drew ?_))); (case side2 => exact HC0.out); rintro e w8 ⟨rfl, hb⟩; have n0_ := Aside0.mk (blk_below (g := gb125) (o := .cells #[.int .u8 a1_0, .int .u8 a1_1, .int .u8 a1_2, .int .u8 a1_3, .int .u8 a1_4, .int .u8 a1_5, .int .u8 a1_6, .int .u8 a1_7] 48 (0, 0)) (by (with_reducible repeat (first | refine blk_drewN ?_ _ | refine blk_drew ?_ | refine blk_alloc ?_ _)); exact BK125.out) hb); have n1_ := Aside0.mk (below_step (by repeat (first | (with_reducible first | exact HB.out | apply below_alloc | apply pw_below_drewN | apply below_drew1 | refine below_set ?_ GE125.out) | exact HB.out)) hb); clear BK125; clear HB; have BK125 := n0_; have HB := n1_; clear n0_ n1_; (try clear hb); (try clear hb2); (try clear hk); (try clear hi)))
    go_ret
    exact ⟨by first | rfl | (simp [errW_none, errW_some] <;> rfl) | (simp [*, errW_none, errW_some] <;> rfl), by repeat (first | (with_reducible first | exact HB.out | apply below_alloc | apply pw_below_drewN | apply below_drew1 | refine below_set ?_ GE125.out) | exact HB.out)⟩
  · replace c4 := Bool.eq_false_iff.mpr c4
    subst c4
    have H1 : (some false) = some r := by rw [if_neg (show ¬ (false = true) by decide)] at H; exact H
    clear H
    have H := H1
    clear H1
    obtain rfl := Option.some.inj H
    go_enter Tryd.func35, Tryd.ntmps35
    go_wp2_with (first | ((with_reducible refine gate_dst (N := 3) rfl ?_); refine box_event ?hg (N := 3) ?hd (cs := #[.int .u8 a1_0, .int .u8 a1_1, .int .u8 a1_2, .int .u8 a1_3, .int .u8 a1_4, .int .u8 a1_5, .int .u8 a1_6, .int .u8 a1_7]) (t := 48) ?hr ?_; (case hd => rfl); (case hg => rfl); (case hr => first | (go_simp; done) | (go_simp; rfl)); intro gb125 hg w9 hbox hb; have n0_ := Aside0.mk (below_step (by repeat (first | (with_reducible first | exact HB.out | apply below_alloc | apply pw_below_drewN | apply below_drew1) | exact HB.out)) hb); have n1_ := Aside0.mk (hbox); have n2_ := Aside0.mk ((by rw [hg]; exact (below_size (by repeat (first | (with_reducible first | exact HB.out | apply below_alloc | apply pw_below_drewN | apply below_drew1) | exact HB.out))) : w.heap.size ≤ gb125)); have n3_ := Aside0.mk ((by rw [hg]; exact (below_size (by repeat (first | (with_reducible first | exact HB.out | apply below_alloc | apply pw_below_drewN | apply below_drew1) | exact HB.out))) : w.heap.size ≤ gb125)); clear HB; have HB := n0_; have BK125 := n1_; have GW125 := n2_; have GE125 := n3_; clear n0_ n1_ n2_ n3_; clear hb hbox hg) | ((with_reducible refine gate_callee (f := 21) rfl ?_); refine goesL_ (some 6) rfl rfl Tryd.func21 (by kernel_rfl) rfl #[.slice A0 l0.length c0] rfl (by (try simp only [List.map_toArray, List.map_cons, List.map_nil]); first | done | rfl | (simp only [List.length_drop, List.length_take]; rfl)) ?_; (with_reducible refine (spec_l01Ok.calls k _ _ l0 false _ ?side1 ?side2 A3.out).mono ?_); (case side1 => repeat (first | exact (Kd.C_below HR0.out HB.out) | (with_reducible refine Kd.C_alloc ?_ _) | (with_reducible refine Kd.C_drewN ?_ _) | (with_reducible refine Kd.C_drew ?_))); (case side2 => exact HC0.out); rintro e w' ⟨rfl, ⟨nd, rfl⟩⟩; refine ⟨_, rfl, ?_⟩))
    go_ret
    exact ⟨by first | rfl | (simp [errW_none, errW_some] <;> rfl) | (simp [*, errW_none, errW_some] <;> rfl), by repeat (first | (with_reducible first | exact HB.out | apply below_alloc | apply pw_below_drewN | apply below_drew1 | refine below_set ?_ GE125.out) | exact HB.out)⟩

end Go.Proofs.YteaciggmlmhbgaaDoor.P

/- impl.ValidDigits. -/
namespace Go.Proofs.YteaciggmlmhbgaaDoor.P
open Go.RowKit Go.Proofs.YteaciggmlmhbgaaDoorW.PrintWords Go.Proofs.YteaciggmlmhbgaaDoorW.PrintLast Go.Proofs.YteaciggmlmhbgaaDoorW.PrintMore
set_option linter.unusedVariables false
set_option linter.unusedSimpArgs false
def okD (s : List Int) (d : Dg) (i : Nat) : Bool := if i < s.length then decide (nth (dlist d) i < rd s i) else decide (nth (dlist d) i = 0)
def okDg (s : List Int) (d : Dg) : Bool := okStk s && (List.range 8).all (okD s d)
theorem range_succ_all' (p : Nat → Bool) (n : Nat) : (List.range (n + 1)).all p = ((List.range n).all p && p n) := by
  rw [List.range_succ, List.all_append]; simp
theorem not_all_range' (p : Nat → Bool) (n m : Nat) (h : n < m) (hp : p n = false) : (List.range m).all p = false := by
  rw [List.all_eq_false]
  exact ⟨n, List.mem_range.2 h, by rw [hp]; simp⟩
theorem okStk_len {s : List Int} (h : okStk s = true) : 1 ≤ s.length ∧ s.length ≤ 8 := by
  unfold okStk at h
  simp only [Bool.and_eq_true, decide_eq_true_eq] at h
  exact h.1
theorem okStk_base {s : List Int} (h : okStk s = true) (i : Nat) (hi : i < s.length) : 2 ≤ rd s i ∧ rd s i ≤ 100 := by
  unfold okStk at h
  simp only [Bool.and_eq_true, decide_eq_true_eq] at h
  have := List.all_eq_true.1 h.2.1 (rd s i) (by
    have hrd : rd s i = s[i] := by simp [rd, List.getD_eq_getElem?_getD, List.getElem?_eq_getElem hi]
    rw [hrd]; exact List.getElem_mem hi)
  unfold okBase at this
  exact of_decide_eq_true this
theorem index_dg (d : Dg) (m : Int) (h0 : 0 ≤ m) (h1 : m < 8) (W : World) :
    (Instr.index 48 (.agg #[.int .u8 d.f0, .int .u8 d.f1, .int .u8 d.f2, .int .u8 d.f3, .int .u8 d.f4, .int .u8 d.f5, .int .u8 d.f6, .int .u8 d.f7]) (.int .i64 m)).run Tryd.prog W = .ok (.int .u8 (nth (dlist d) m)) W :=
  index_nth .u8 48 5 (dlist d) m 8 Tryd.underlying48 Tryd.isAgg5 Tryd.sizeOf5 rfl h0 h1 W

end Go.Proofs.YteaciggmlmhbgaaDoor.P

-- Written by a program of this session (a turned form of the kit's print) out of the translation.
namespace Go.Proofs.YteaciggmlmhbgaaDoor.P
open Go.RowKit Go.Proofs.YteaciggmlmhbgaaDoorW.PrintWords Go.Proofs.YteaciggmlmhbgaaDoorW.PrintLast Go.Proofs.YteaciggmlmhbgaaDoorW.PrintMore
attribute [local go_sem] max2_int min2_int max_two min_two max_three min_three max_four min_four   -- for this text's walks alone
set_option linter.unusedVariables false
set_option linter.unusedSimpArgs false

/-! ### spec_Decimal: function 23 -/
def spec_Decimal.f : Nat → Int → Option (ByteArray)
  | 0, _ => none
  | k + 1, a0 => if a0 < 10 then (some (strOfNums (([(wrap64 (48 + (Int.tmod a0 10))) % 256] : List Int)))) else ((spec_Decimal.f k (wrap64 (Int.tdiv a0 10))).bind fun t119 => ((some (([(wrap64 (48 + (Int.tmod a0 10))) % 256] : List Int) : List Int)).bind fun y120 => (if t119.size + (strOfNums y120).size ≤ 9223372036854775807 then (some (t119 ++ (strOfNums y120))) else (none))))
theorem spec_Decimal.mono_l : ∀ k, (∀ y0, LeO (spec_Decimal.f k y0) (spec_Decimal.f (k + 1) y0))
  | 0 => fun _ r h => by simp [spec_Decimal.f] at h
  | k + 1 => by
    have ih0 := spec_Decimal.mono_l k
    · intro y0
      unfold spec_Decimal.f
      repeat' first
      | (with_reducible exact ih0 _)
      | (with_reducible exact LeO.refl _)
      | (with_reducible exact LeO.none _)
      | (with_reducible refine LeO.ite ?_ ?_)
      | (with_reducible refine LeO.bind ?_ (fun _ => ?_))
      | exact ih0 _
      | exact LeO.none _
      | refine LeO.ite ?_ ?_
      | refine LeO.bind ?_ (fun _ => ?_)
theorem spec_Decimal.mono : ∀ a0 k, LeO (spec_Decimal.f k a0) (spec_Decimal.f (k + 1) a0) := by
  intro a0 k
  have ih0 := spec_Decimal.mono_l k
  exact ih0 a0
def spec_Decimal.T3 : Bool × List (List Nat × List Nat) := (true, [([], []), ([0], [0]), ([1], [1]), ([], []), ([3], [3]), ([4], [4]), ([5], [5]), ([6], [6]), ([7], [7]), ([2, 8], [2, 8]), ([9, 2, 0, 1, 2, 3, 4, 5, 6, 7, 8, 9], [9])])
def spec_Decimal.B3 : List Nat := [0, 1, 3, 0, 8, 24, 56, 120, 248, 511, 1023]
theorem spec_Decimal.tab3 : rtab .any (opsOf Tryd.f23 3) = spec_Decimal.T3 := by kernel_rfl
theorem spec_Decimal.bits3 : waitsOk spec_Decimal.T3.2 spec_Decimal.B3 = true := by kernel_rfl
set_option maxHeartbeats 8000000 in
set_option maxRecDepth 100000 in
theorem spec_Decimal.calls (k : Nat) : ∀ (a0 : Int) (r : ByteArray) (w : World) (h : spec_Decimal.f k a0 = some r),
    Calls Tryd.prog 23 #[.int .i64 a0] w fun e w' => e = .returned (.string r) ∧ Below w.heap.size w w' := by
  induction k using Nat.strongRecOn with
  | _ k ih =>
  intro a0 r w h
  cases k with
  | zero => exact absurd h (by simp [spec_Decimal.f])
  | succ k =>
  simp only [spec_Decimal.f] at h
  have HB := Aside0.mk (Below.refl w.heap.size w)
  have H : (if a0 < 10 then (some (strOfNums (([(wrap64 (48 + (Int.tmod a0 10))) % 256] : List Int)))) else ((spec_Decimal.f k (wrap64 (Int.tdiv a0 10))).bind fun t119 => ((some (([(wrap64 (48 + (Int.tmod a0 10))) % 256] : List Int) : List Int)).bind fun y120 => (if t119.size + (strOfNums y120).size ≤ 9223372036854775807 then (some (t119 ++ (strOfNums y120))) else (none))))) = some r := h
  clear h
  by_cases c2 : a0 < 10
  · rw [if_pos c2] at H
    have c2b0 : decide (a0 < 10) = true := decide_eq_true c2
    clear c2
    obtain ⟨y116, hy116⟩ : ∃ y_ : List Int, y_ = (([(wrap64 (48 + (Int.tmod a0 10))) % 256] : List Int)) := ⟨_, rfl⟩
    replace H : (some (strOfNums y116)) = some r := by first | (rw [hy116]; with_reducible exact H) | (have H2_ := (Option.bind_some _ _).symm.trans H; rw [hy116]; with_reducible exact H2_) | (have H2_ := (Option.bind_some _ _).symm.trans H; with_reducible exact H2_) | with_reducible exact H | (rw [hy116]; exact H) | exact H
    have Ny116 := Aside0.mk hy116
    clear hy116
    obtain rfl := Option.some.inj H
    go_enter Tryd.func23, Tryd.ntmps23
    go_wp2_with (first | ((with_reducible refine gate_dst (N := 9) rfl ?_); refine Kd.R_lit (Kd.int .u8) _ 5 ?hg (N := 9) ?hd (xs := ([(wrap64 (48 + (Int.tmod a0 10))) % 256] : List Int)) (inner := [.int .u8 ((wrap64 (48 + (Int.tmod a0 10))) % 256)]) (ok := fun _ => True) (okp := fun _ => True) ?hr ?hp (fun _ hk => hk) trivial (Below.refl _ _) (Nat.le_refl _) (by simp) ?_; (case hd => rfl); (case hg => rfl); (case hr => first | (go_simp; done) | (go_simp; rfl)); (case hp => exact (Reps.one (show Kd.M (Kd.int .u8) _ _ _ ((wrap64 (48 + (Int.tmod a0 10))) % 256) [.int .u8 ((wrap64 (48 + (Int.tmod a0 10))) % 256)] from rfl) (Reps.none _ _))); intro v117 w3 ho4 hb hg_ hnew_; clear hg_ hnew_; (first | rw [← Ny116.out] at ho4 | (simp only [Int.reduceToNat] at ho4; rw [← Ny116.out] at ho4)); have n0_ := Aside0.mk (Kd.R_lower ho4 (below_size (by repeat (first | (with_reducible first | exact HB.out | apply below_alloc | apply pw_below_drewN | apply below_drew1) | exact HB.out)))); have n1_ := Aside0.mk (below_step (by repeat (first | (with_reducible first | exact HB.out | apply below_alloc | apply pw_below_drewN | apply below_drew1) | exact HB.out)) hb); clear HB; have HO118 := n0_; have HB := n1_; clear n0_ n1_; clear hb ho4; have hcv5 := own_string (P := Tryd.prog) Tryd.underlying22 Tryd.underlying5 Tryd.underlying9 (Kd.own_of_R HO118.out)))
    go_ret
    exact ⟨by first | rfl | (simp [errW_none, errW_some] <;> rfl) | (simp [*, errW_none, errW_some] <;> rfl), by repeat (first | (with_reducible first | exact HB.out | apply below_alloc | apply pw_below_drewN | apply below_drew1) | exact HB.out)⟩
  · rw [if_neg c2] at H
    have c2b0 : decide (a0 < 10) = false := decide_eq_false c2
    clear c2
    replace H := Option.bind_eq_some_iff.mp H
    obtain ⟨t119, A60, H⟩ := H
    replace H : ((some (([(wrap64 (48 + (Int.tmod a0 10))) % 256] : List Int) : List Int)).bind fun y120 => (if t119.size + (strOfNums y120).size ≤ 9223372036854775807 then (some (t119 ++ (strOfNums y120))) else (none))) = some r := H
    have A6 := Aside0.mk A60
    clear A60
    obtain ⟨y120, hy120⟩ : ∃ y_ : List Int, y_ = (([(wrap64 (48 + (Int.tmod a0 10))) % 256] : List Int)) := ⟨_, rfl⟩
    replace H : (if t119.size + (strOfNums y120).size ≤ 9223372036854775807 then (some (t119 ++ (strOfNums y120))) else (none)) = some r := by first | (rw [hy120]; with_reducible exact H) | (have H2_ := (Option.bind_some _ _).symm.trans H; rw [hy120]; with_reducible exact H2_) | (have H2_ := (Option.bind_some _ _).symm.trans H; with_reducible exact H2_) | with_reducible exact H | (rw [hy120]; exact H) | exact H
    have Ny120 := Aside0.mk hy120
    clear hy120
    by_cases c7 : t119.size + (strOfNums y120).size ≤ 9223372036854775807
    · rw [if_pos c7] at H
      have c7b0 := eq_true c7
      have c7b1 : decide (t119.size + (strOfNums y120).size ≤ 9223372036854775807) = true := decide_eq_true c7
      try have c7b2 : (9223372036854775807 < t119.size + (strOfNums y120).size) = False := eq_false (Nat.not_lt.2 c7)
      obtain rfl := Option.some.inj H
      go_enter Tryd.func23, Tryd.ntmps23
      try go_wp2
      have n0_ := Aside0.mk (below_drew1 HB.out)
      clear HB
      have HB := n0_
      clear n0_
      refine start_ (n := 11) (S := fun w' => True) (ds := []) #[false, false, false, false, false, false, false, false, false, false, false] (by kernel_rfl) rfl rfl trivial (fun hHeld => ?_); refine with_tabW spec_Decimal.tab3 spec_Decimal.bits3 (fun HT_ HW_ => ?_)
      generalize w.drew = w8 at HB hHeld ⊢
      refine pure_ (i := 0) (N := some 11) (v := ?_) (a' := ?_) #[true, false, false, false, false, false, false, false, false, false, false] rfl rfl (any_of HT_.out (by kernel_rfl)) (fun _ _ _ h => h) (Or.inl ⟨by rfl, ?_⟩) ?_ ?_
      rotate_left
      · intro w'
        go_simp
        with_reducible rfl
      rotate_left
      · simp only [Act.put, List.setIfInBounds_toArray, List.set_cons_zero, List.set_cons_succ, i64_w, i32_w]
        rfl
      refine pure_ (i := 1) (N := some 12) (v := ?_) (a' := ?_) #[true, true, false, false, false, false, false, false, false, false, false] rfl rfl (any_of HT_.out (by kernel_rfl)) (fun _ _ _ h => h) (Or.inl ⟨by rfl, ?_⟩) ?_ ?_
      rotate_left
      · intro w'
        go_simp
        with_reducible rfl
      rotate_left
      · simp only [Act.put, List.setIfInBounds_toArray, List.set_cons_zero, List.set_cons_succ, i64_w, i32_w]
        rfl
      refine pure_ (i := 3) (N := some 14) (v := ?_) (a' := ?_) #[true, true, false, true, false, false, false, false, false, false, false] rfl rfl (any_of HT_.out (by kernel_rfl)) (fun _ _ _ h => h) (Or.inl ⟨by rfl, ?_⟩) ?_ ?_
      rotate_left
      · intro w'
        go_simp
        with_reducible rfl
      rotate_left
      · simp only [Act.put, List.setIfInBounds_toArray, List.set_cons_zero, List.set_cons_succ, i64_w, i32_w]
        rfl
      refine pure_ (i := 4) (N := some 15) (v := ?_) (a' := ?_) #[true, true, false, true, true, false, false, false, false, false, false] rfl rfl (any_of HT_.out (by kernel_rfl)) (fun _ _ _ h => h) (Or.inl ⟨by rfl, ?_⟩) ?_ ?_
      rotate_left
      · intro w'
        go_simp
        with_reducible rfl
      rotate_left
      · simp only [Act.put, List.setIfInBounds_toArray, List.set_cons_zero, List.set_cons_succ, i64_w, i32_w]
        rfl
      refine pure_ (i := 5) (N := some 16) (v := ?_) (a' := ?_) #[true, true, false, true, true, true, false, false, false, false, false] rfl rfl (any_of HT_.out (by kernel_rfl)) (fun _ _ _ h => h) (Or.inl ⟨by rfl, ?_⟩) ?_ ?_
      rotate_left
      · intro w'
        go_simp
        with_reducible rfl
      rotate_left
      · simp only [Act.put, List.setIfInBounds_toArray, List.set_cons_zero, List.set_cons_succ, i64_w, i32_w]
        rfl
      refine pure_ (i := 6) (N := some 17) (v := ?_) (a' := ?_) #[true, true, false, true, true, true, true, false, false, false, false] rfl rfl (any_of HT_.out (by kernel_rfl)) (fun _ _ _ h => h) (Or.inl ⟨by rfl, ?_⟩) ?_ ?_
      rotate_left
      · intro w'
        go_simp
        with_reducible rfl
      rotate_left
      · simp only [Act.put, List.setIfInBounds_toArray, List.set_cons_zero, List.set_cons_succ, i64_w, i32_w]
        rfl
      refine join_ (σ := Value) 2 #[true, true, true, true, true, true, true, true, true, false, false] (fun s_ => [(13, .string t119), (18, s_), (19, .string (strOfNums y120))]) (fun s_ w' => (Kd.R (Kd.int .u8) 5 w' w.heap.size (fun _ => True) s_ y120) ∧ (Below w.heap.size w w')) ?_ ?_
      rotate_left
      · intro hCont
        refine two_ (i := 2) (j := 7) (Ni := some 13) (Nj := some 18) #[true, true, true, true, true, true, true, false, false, false, false] #[true, true, false, true, true, true, true, true, false, false, false] rfl rfl rfl rfl (two_of HT_.out (by kernel_rfl)) (by decide) (by decide) (fun K hK => ?_) (fun K hK => ?_)
        · skip
          refine goes_ Tryd.func23 (by kernel_rfl) rfl #[.int .i64 (wrap64 (Int.tdiv a0 10))] (by rfl) rfl rfl (by (try simp only [List.map_toArray, List.map_cons, List.map_nil]); first | done | rfl | (simp only [List.length_drop, List.length_take]; rfl)) ?_
          with_reducible refine (ih k (by omega) (wrap64 (Int.tdiv a0 10)) t119 _ A6.out).mono ?_
          rintro e w9 ⟨rfl, hb⟩
          refine ⟨_, rfl, ?_⟩
          have n0_ := Aside0.mk (below_step (by repeat (first | (with_reducible first | exact HB.out | apply below_alloc | apply pw_below_drewN | apply below_drew1) | exact HB.out)) hb)
          clear HB
          have HB := n0_
          clear n0_
          (try clear hb)
          (try clear hb2)
          (try clear hk)
          (try clear hi)
          refine hK.out _ _ trivial (fun hHeld => ?_)
          clear hK K
          refine norm_ (a' := ?_) ?_ ?_
          rotate_left
          · show Act.put _ (some 13) _ = _
            simp only [Act.put, List.setIfInBounds_toArray, List.set_cons_zero, List.set_cons_succ, i64_w, i32_w]
            rfl
          refine one_ (i := 7) (N := some 18) #[true, true, true, true, true, true, true, true, false, false, false] rfl rfl (one_of HT_.out (by kernel_rfl)) (by decide) (fun K hK => ?_)
          refine Kd.R_lit_step (Kd.int .u8) _ 5 ?hg (N := 18) ?hd (xs := ([(wrap64 (48 + (Int.tmod a0 10))) % 256] : List Int)) (inner := [.int .u8 ((wrap64 (48 + (Int.tmod a0 10))) % 256)]) (ok := fun _ => True) (okp := fun _ => True) ?hr ?hp (fun _ hk => hk) trivial (Below.refl _ _) (Nat.le_refl _) (by simp) ?_; (case hd => rfl); (case hg => rfl); (case hr => first | (go_simp; done) | (go_simp; rfl)); (case hp => exact (Reps.one (show Kd.M (Kd.int .u8) _ _ _ ((wrap64 (48 + (Int.tmod a0 10))) % 256) [.int .u8 ((wrap64 (48 + (Int.tmod a0 10))) % 256)] from rfl) (Reps.none _ _)))
          intro v121 w10 ho11 hb hg_ hnew_
          clear hg_ hnew_
          (first | rw [← Ny120.out] at ho11 | (simp only [Int.reduceToNat] at ho11; rw [← Ny120.out] at ho11))
          have n0_ := Aside0.mk (Kd.R_lower ho11 (below_size (by repeat (first | (with_reducible first | exact HB.out | apply below_alloc | apply pw_below_drewN | apply below_drew1) | exact HB.out))))
          have n1_ := Aside0.mk (below_step (by repeat (first | (with_reducible first | exact HB.out | apply below_alloc | apply pw_below_drewN | apply below_drew1) | exact HB.out)) hb)
          clear HB
          have HO122 := n0_
          have HB := n1_
          clear n0_ n1_
          clear hb ho11
          refine hK.out _ _ trivial (fun hHeld => ?_)
          clear hK K
          refine norm_ (a' := ?_) ?_ ?_
          rotate_left
          · show Act.put _ (some 18) _ = _
            simp only [Act.put, List.setIfInBounds_toArray, List.set_cons_zero, List.set_cons_succ, i64_w, i32_w]
            rfl
          refine one_ (i := 8) (N := some 19) #[true, true, true, true, true, true, true, true, true, false, false] rfl rfl (one_of HT_.out (by kernel_rfl)) (by decide) (fun K hK => ?_)
          have hcv12 := own_string (P := Tryd.prog) Tryd.underlying22 Tryd.underlying5 Tryd.underlying9 (Kd.own_of_R HO122.out)
          refine value_ (w1 := ?_) (v := ?_) (by rfl) rfl ?_ ?_
          rotate_left 2
          · go_simp
            constructor
            · rfl
            · rfl
          clear hcv12
          refine hK.out _ _ trivial (fun hHeld => ?_)
          clear hK K
          refine norm_ (a' := ?_) ?_ ?_
          rotate_left
          · show Act.put _ (some 19) _ = _
            simp only [Act.put, List.setIfInBounds_toArray, List.set_cons_zero, List.set_cons_succ, i64_w, i32_w]
            rfl
          exact norm_ (by simp only [putAll, Act.put, List.setIfInBounds_toArray, List.set_cons_zero, List.set_cons_succ]) (hCont (v121) _ ⟨(by (with_reducible repeat (first | apply Kd.R_alloc | apply Kd.R_drewN | apply Kd.R_drew)); exact HO122.out), (by repeat (first | (with_reducible first | exact HB.out | apply below_alloc | apply pw_below_drewN | apply below_drew1) | exact HB.out))⟩)
        · skip
          refine Kd.R_lit_step (Kd.int .u8) _ 5 ?hg (N := 18) ?hd (xs := ([(wrap64 (48 + (Int.tmod a0 10))) % 256] : List Int)) (inner := [.int .u8 ((wrap64 (48 + (Int.tmod a0 10))) % 256)]) (ok := fun _ => True) (okp := fun _ => True) ?hr ?hp (fun _ hk => hk) trivial (Below.refl _ _) (Nat.le_refl _) (by simp) ?_; (case hd => rfl); (case hg => rfl); (case hr => first | (go_simp; done) | (go_simp; rfl)); (case hp => exact (Reps.one (show Kd.M (Kd.int .u8) _ _ _ ((wrap64 (48 + (Int.tmod a0 10))) % 256) [.int .u8 ((wrap64 (48 + (Int.tmod a0 10))) % 256)] from rfl) (Reps.none _ _)))
          intro v121 w9 ho10 hb hg_ hnew_
          clear hg_ hnew_
          (first | rw [← Ny120.out] at ho10 | (simp only [Int.reduceToNat] at ho10; rw [← Ny120.out] at ho10))
          have n0_ := Aside0.mk (Kd.R_lower ho10 (below_size (by repeat (first | (with_reducible first | exact HB.out | apply below_alloc | apply pw_below_drewN | apply below_drew1) | exact HB.out))))
          have n1_ := Aside0.mk (below_step (by repeat (first | (with_reducible first | exact HB.out | apply below_alloc | apply pw_below_drewN | apply below_drew1) | exact HB.out)) hb)
          clear HB
          have HO122 := n0_
          have HB := n1_
          clear n0_ n1_
          clear hb ho10
          refine hK.out _ _ trivial (fun hHeld => ?_)
          clear hK K
          refine norm_ (a' := ?_) ?_ ?_
          rotate_left
          · show Act.put _ (some 18) _ = _
            simp only [Act.put, List.setIfInBounds_toArray, List.set_cons_zero, List.set_cons_succ, i64_w, i32_w]
            rfl
          refine two_ (i := 2) (j := 8) (Ni := some 13) (Nj := some 19) #[true, true, true, true, true, true, true, true, false, false, false] #[true, true, false, true, true, true, true, true, true, false, false] rfl rfl rfl rfl (two_of HT_.out (by kernel_rfl)) (by decide) (by decide) (fun K hK => ?_) (fun K hK => ?_)
          · skip
            refine goes_ Tryd.func23 (by kernel_rfl) rfl #[.int .i64 (wrap64 (Int.tdiv a0 10))] (by rfl) rfl rfl (by (try simp only [List.map_toArray, List.map_cons, List.map_nil]); first | done | rfl | (simp only [List.length_drop, List.length_take]; rfl)) ?_
            with_reducible refine (ih k (by omega) (wrap64 (Int.tdiv a0 10)) t119 _ A6.out).mono ?_
            rintro e w11 ⟨rfl, hb⟩
            refine ⟨_, rfl, ?_⟩
            have n0_ := Aside0.mk (Kd.R_below (by (with_reducible repeat (first | apply Kd.R_alloc | apply Kd.R_drewN | apply Kd.R_drew)); exact HO122.out) hb)
            have n1_ := Aside0.mk (below_step (by repeat (first | (with_reducible first | exact HB.out | apply below_alloc | apply pw_below_drewN | apply below_drew1) | exact HB.out)) hb)
            clear HO122
            clear HB
            have HO122 := n0_
            have HB := n1_
            clear n0_ n1_
            (try clear hb)
            (try clear hb2)
            (try clear hk)
            (try clear hi)
            refine hK.out _ _ trivial (fun hHeld => ?_)
            clear hK K
            refine norm_ (a' := ?_) ?_ ?_
            rotate_left
            · show Act.put _ (some 13) _ = _
              simp only [Act.put, List.setIfInBounds_toArray, List.set_cons_zero, List.set_cons_succ, i64_w, i32_w]
              rfl
            refine one_ (i := 8) (N := some 19) #[true, true, true, true, true, true, true, true, true, false, false] rfl rfl (one_of HT_.out (by kernel_rfl)) (by decide) (fun K hK => ?_)
            have hcv12 := own_string (P := Tryd.prog) Tryd.underlying22 Tryd.underlying5 Tryd.underlying9 (Kd.own_of_R HO122.out)
            refine value_ (w1 := ?_) (v := ?_) (by rfl) rfl ?_ ?_
            rotate_left 2
            · go_simp
              constructor
              · rfl
              · rfl
            clear hcv12
            refine hK.out _ _ trivial (fun hHeld => ?_)
            clear hK K
            refine norm_ (a' := ?_) ?_ ?_
            rotate_left
            · show Act.put _ (some 19) _ = _
              simp only [Act.put, List.setIfInBounds_toArray, List.set_cons_zero, List.set_cons_succ, i64_w, i32_w]
              rfl
            exact norm_ (by simp only [putAll, Act.put, List.setIfInBounds_toArray, List.set_cons_zero, List.set_cons_succ]) (hCont (v121) _ ⟨(by (with_reducible repeat (first | apply Kd.R_alloc | apply Kd.R_drewN | apply Kd.R_drew)); exact HO122.out), (by repeat (first | (with_reducible first | exact HB.out | apply below_alloc | apply pw_below_drewN | apply below_drew1) | exact HB.out))⟩)
          · skip
            have hcv11 := own_string (P := Tryd.prog) Tryd.underlying22 Tryd.underlying5 Tryd.underlying9 (Kd.own_of_R HO122.out)
            refine value_ (w1 := ?_) (v := ?_) (by rfl) rfl ?_ ?_
            rotate_left 2
            · go_simp
              constructor
              · rfl
              · rfl
            clear hcv11
            refine hK.out _ _ trivial (fun hHeld => ?_)
            clear hK K
            refine norm_ (a' := ?_) ?_ ?_
            rotate_left
            · show Act.put _ (some 19) _ = _
              simp only [Act.put, List.setIfInBounds_toArray, List.set_cons_zero, List.set_cons_succ, i64_w, i32_w]
              rfl
            refine one_ (i := 2) (N := some 13) #[true, true, true, true, true, true, true, true, true, false, false] rfl rfl (one_of HT_.out (by kernel_rfl)) (by decide) (fun K hK => ?_)
            refine goes_ Tryd.func23 (by kernel_rfl) rfl #[.int .i64 (wrap64 (Int.tdiv a0 10))] (by rfl) rfl rfl (by (try simp only [List.map_toArray, List.map_cons, List.map_nil]); first | done | rfl | (simp only [List.length_drop, List.length_take]; rfl)) ?_
            with_reducible refine (ih k (by omega) (wrap64 (Int.tdiv a0 10)) t119 _ A6.out).mono ?_
            rintro e w12 ⟨rfl, hb⟩
            refine ⟨_, rfl, ?_⟩
            have n0_ := Aside0.mk (Kd.R_below (by (with_reducible repeat (first | apply Kd.R_alloc | apply Kd.R_drewN | apply Kd.R_drew)); exact HO122.out) hb)
            have n1_ := Aside0.mk (below_step (by repeat (first | (with_reducible first | exact HB.out | apply below_alloc | apply pw_below_drewN | apply below_drew1) | exact HB.out)) hb)
            clear HO122
            clear HB
            have HO122 := n0_
            have HB := n1_
            clear n0_ n1_
            (try clear hb)
            (try clear hb2)
            (try clear hk)
            (try clear hi)
            refine hK.out _ _ trivial (fun hHeld => ?_)
            clear hK K
            refine norm_ (a' := ?_) ?_ ?_
            rotate_left
            · show Act.put _ (some 13) _ = _
              simp only [Act.put, List.setIfInBounds_toArray, List.set_cons_zero, List.set_cons_succ, i64_w, i32_w]
              rfl
            exact norm_ (by simp only [putAll, Act.put, List.setIfInBounds_toArray, List.set_cons_zero, List.set_cons_succ]) (hCont (v121) _ ⟨(by (with_reducible repeat (first | apply Kd.R_alloc | apply Kd.R_drewN | apply Kd.R_drew)); exact HO122.out), (by repeat (first | (with_reducible first | exact HB.out | apply below_alloc | apply pw_below_drewN | apply below_drew1) | exact HB.out))⟩)
      rintro v121 w13 ⟨h0_, h1_⟩
      have n0_ : Aside0 (Kd.R (Kd.int .u8) 5 w13 w.heap.size (fun _ => True) v121 y120) := ⟨h0_⟩
      have n1_ : Aside0 (Below w.heap.size w w13) := ⟨h1_⟩
      clear HB
      clear h0_ h1_
      have HO122 := n0_
      have HB := n1_
      clear n0_ n1_
      have hHeld := trivial
      refine norm_ (a' := ?_) ?_ ?_
      rotate_left
      · simp only [putAll, Act.put, List.setIfInBounds_toArray, List.set_cons_zero, List.set_cons_succ]
        rfl
      refine pure_ (i := 9) (N := some 20) (v := ?_) (a' := ?_) #[true, true, true, true, true, true, true, true, true, true, false] rfl rfl (any_of HT_.out (by kernel_rfl)) (fun _ _ _ h => h) (Or.inl ⟨by rfl, ?_⟩) ?_ ?_
      rotate_left
      · intro w'
        go_simp
        with_reducible rfl
      rotate_left
      · simp only [Act.put, List.setIfInBounds_toArray, List.set_cons_zero, List.set_cons_succ, i64_w, i32_w]
        rfl
      refine pure_ (i := 10) (N := some 2) (v := ?_) (a' := ?_) #[true, true, true, true, true, true, true, true, true, true, true] rfl rfl (any_of HT_.out (by kernel_rfl)) (fun _ _ _ h => h) (Or.inl ⟨by rfl, ?_⟩) ?_ ?_
      rotate_left
      · intro w'
        go_simp
        with_reducible rfl
      rotate_left
      · simp only [Act.put, List.setIfInBounds_toArray, List.set_cons_zero, List.set_cons_succ, i64_w, i32_w]
        rfl
      refine done_ (done_of HT_.out (by kernel_rfl)) ?_
      try go_wp2
      go_ret
      exact ⟨by first | rfl | (simp [errW_none, errW_some] <;> rfl) | (simp [*, errW_none, errW_some] <;> rfl), by repeat (first | (with_reducible first | exact HB.out | apply below_alloc | apply pw_below_drewN | apply below_drew1) | exact HB.out)⟩
    · rw [if_neg c7] at H
      exact absurd H (by simp)

end Go.Proofs.YteaciggmlmhbgaaDoor.P

/- spec.Decimal returns the decimal numeral of a number that is at least 0. -/
namespace Go.Proofs.YteaciggmlmhbgaaDoor.P
open Go.RowKit Go.Proofs.YteaciggmlmhbgaaDoorW.PrintWords Go.Proofs.YteaciggmlmhbgaaDoorW.PrintLast Go.Proofs.YteaciggmlmhbgaaDoorW.PrintMore
set_option linter.unusedVariables false

theorem one_digit {n : Int} (h0 : 0 ≤ n) : strOfNums [(wrap64 (48 + Int.tmod n 10)) % 256] = dec (n % 10) := by
  rw [dec_digit (Int.emod_nonneg _ (by omega)) (Int.emod_lt_of_pos _ (by omega)), Int.tmod_eq_emod_of_nonneg h0]
  have hx : wrap64 (48 + n % 10) % 256 = 48 + n % 10 := by unfold wrap64; omega
  rw [hx]
  have e : (48 + n % 10).toNat = 48 + (n % 10).toNat := by omega
  simp [strOfNums, e]
theorem decimal_pure (m : Nat) : ∀ (k : Nat) (n : Int), 0 ≤ n → n < (10 : Int) ^ (m + 1) → n ≤ 9223372036854775807 → m < k → spec_Decimal.f k n = some (dec n) := by
  induction m with
  | zero =>
    intro k n h0 h1 h2 hk
    obtain ⟨k, rfl⟩ : ∃ j, k = j + 1 := ⟨k - 1, by omega⟩
    simp only [spec_Decimal.f]
    rw [if_pos (by simpa using h1), one_digit h0, Int.emod_eq_of_lt h0 (by simpa using h1)]
  | succ m ih =>
    intro k n h0 h1 h2 hk
    obtain ⟨k, rfl⟩ : ∃ j, k = j + 1 := ⟨k - 1, by omega⟩
    by_cases hn : n < 10
    · simp only [spec_Decimal.f]
      rw [if_pos hn, one_digit h0, Int.emod_eq_of_lt h0 hn]
    · have hd : wrap64 (Int.tdiv n 10) = n / 10 := by rw [Int.tdiv_eq_ediv_of_nonneg h0]; unfold wrap64; omega
      have hp : (10 : Int) ^ (m + 1 + 1) = (10 : Int) ^ (m + 1) * 10 := Int.pow_succ _ _
      have := ih k (n / 10) (by omega) (by rw [hp] at h1; omega) (by omega) (by omega)
      simp only [spec_Decimal.f]
      rw [if_neg hn, hd, this]
      simp only [Option.bind_some, one_digit h0]
      have a := dec_size (n / 10) (by omega) (by omega)
      have b := dec_size (n % 10) (by omega) (by omega)
      rw [if_pos (by omega), ← dec_more (by omega)]

/-- What spec.Decimal computes. -/
def specDecimal.f (n : Int) : Option ByteArray := if 0 ≤ n ∧ n ≤ 9223372036854775807 then some (dec n) else none
theorem specDecimal.calls (a0 : Int) (r : ByteArray) (w : World) (h : specDecimal.f a0 = some r) :
    Calls Tryd.prog 23 #[.int .i64 a0] w fun e w' => e = .returned (.string r) ∧ Below w.heap.size w w' := by
  unfold specDecimal.f at h
  split at h
  · rename_i hh
    obtain rfl := Option.some.inj h
    exact spec_Decimal.calls 20 a0 _ w (decimal_pure 18 20 a0 hh.1 (Int.lt_of_le_of_lt hh.2 (by decide)) hh.2 (by omega))
  · cases h
theorem decimal_any (n : Int) (w : World) (h0 : 0 ≤ n) (h1 : n ≤ 9223372036854775807) :
    Calls Tryd.prog 23 #[.int .i64 n] w fun e w' => e = .returned (.string (dec n)) ∧ Below w.heap.size w w' :=
  specDecimal.calls n _ w (by unfold specDecimal.f; rw [if_pos ⟨h0, h1⟩])
end Go.Proofs.YteaciggmlmhbgaaDoor.P

-- Written by a program of this session (a turned form of the kit's print) out of the translation.
namespace Go.Proofs.YteaciggmlmhbgaaDoor.P
open Go.RowKit Go.Proofs.YteaciggmlmhbgaaDoorW.PrintWords Go.Proofs.YteaciggmlmhbgaaDoorW.PrintLast Go.Proofs.YteaciggmlmhbgaaDoorW.PrintMore
attribute [local go_sem] max2_int min2_int max_two min_two max_three min_three max_four min_four   -- for this text's walks alone
set_option linter.unusedVariables false
set_option linter.unusedSimpArgs false

/-! ### spec_l01Digit: function 50 -/
def spec_l01Digit.f (a0 : Int) (a1 : Int) : Option (ByteArray) := (specDecimal.f (wrap64 (a1))).bind fun t128 => (if a0 > 10 then (if a1 < 10 then (if 1 + t128.size ≤ 9223372036854775807 then (some ((⟨#[48]⟩ : ByteArray) ++ t128)) else (none)) else (some t128)) else (some t128))
set_option maxHeartbeats 8000000 in
set_option maxRecDepth 100000 in
theorem spec_l01Digit.calls (a0 : Int) (a1 : Int) (r : ByteArray) (w : World) (h : spec_l01Digit.f a0 a1 = some r) :
    Calls Tryd.prog 50 #[.int .u8 a0, .int .u8 a1] w fun e w' => e = .returned (.string r) ∧ Below w.heap.size w w' := by
  have HB := Aside0.mk (Below.refl w.heap.size w)
  have H : ((specDecimal.f (wrap64 (a1))).bind fun t128 => (if a0 > 10 then (if a1 < 10 then (if 1 + t128.size ≤ 9223372036854775807 then (some ((⟨#[48]⟩ : ByteArray) ++ t128)) else (none)) else (some t128)) else (some t128))) = some r := h
  clear h
  replace H := Option.bind_eq_some_iff.mp H
  obtain ⟨t128, A30, H⟩ := H
  replace H : (if a0 > 10 then (if a1 < 10 then (if 1 + t128.size ≤ 9223372036854775807 then (some ((⟨#[48]⟩ : ByteArray) ++ t128)) else (none)) else (some t128)) else (some t128)) = some r := H
  have A3 := Aside0.mk A30
  clear A30
  by_cases c4 : a0 > 10
  · rw [if_pos c4] at H
    have c4b0 : decide (10 < a0) = true := decide_eq_true c4
    clear c4
    by_cases c5 : a1 < 10
    · rw [if_pos c5] at H
      have c5b0 : decide (a1 < 10) = true := decide_eq_true c5
      clear c5
      by_cases c6 : 1 + t128.size ≤ 9223372036854775807
      · rw [if_pos c6] at H
        have c6b0 := eq_true c6
        have c6b1 : decide (1 + t128.size ≤ 9223372036854775807) = true := decide_eq_true c6
        try have c6b2 : (9223372036854775807 < 1 + t128.size) = False := eq_false (Nat.not_lt.2 c6)
        obtain rfl := Option.some.inj H
        go_enter Tryd.func50, Tryd.ntmps50
        go_wp2_with (first | ((with_reducible refine gate_callee (f := 23) rfl ?_); refine goesL_ (some 8) rfl rfl Tryd.func23 (by kernel_rfl) rfl #[.int .i64 (wrap64 (a1))] rfl (by (try simp only [List.map_toArray, List.map_cons, List.map_nil]); first | done | rfl | (simp only [List.length_drop, List.length_take]; rfl)) ?_; (with_reducible refine (specDecimal.calls (wrap64 (a1)) t128 _ A3.out).mono ?_); rintro e w7 ⟨rfl, hb⟩; refine ⟨_, rfl, ?_⟩; have n0_ := Aside0.mk (below_step (by repeat (first | (with_reducible first | exact HB.out | apply below_alloc | apply pw_below_drewN | apply below_drew1) | exact HB.out)) hb); clear HB; have HB := n0_; clear n0_; (try clear hb); (try clear hb2); (try clear hk); (try clear hi)))
        go_ret
        exact ⟨by first | rfl | (simp [errW_none, errW_some] <;> rfl) | (simp [*, errW_none, errW_some] <;> rfl), by repeat (first | (with_reducible first | exact HB.out | apply below_alloc | apply pw_below_drewN | apply below_drew1) | exact HB.out)⟩
      · rw [if_neg c6] at H
        exact absurd H (by simp)
    · rw [if_neg c5] at H
      have c5b0 : decide (a1 < 10) = false := decide_eq_false c5
      clear c5
      obtain rfl := Option.some.inj H
      go_enter Tryd.func50, Tryd.ntmps50
      go_wp2_with (first | ((with_reducible refine gate_callee (f := 23) rfl ?_); refine goesL_ (some 8) rfl rfl Tryd.func23 (by kernel_rfl) rfl #[.int .i64 (wrap64 (a1))] rfl (by (try simp only [List.map_toArray, List.map_cons, List.map_nil]); first | done | rfl | (simp only [List.length_drop, List.length_take]; rfl)) ?_; (with_reducible refine (specDecimal.calls (wrap64 (a1)) t128 _ A3.out).mono ?_); rintro e w8 ⟨rfl, hb⟩; refine ⟨_, rfl, ?_⟩; have n0_ := Aside0.mk (below_step (by repeat (first | (with_reducible first | exact HB.out | apply below_alloc | apply pw_below_drewN | apply below_drew1) | exact HB.out)) hb); clear HB; have HB := n0_; clear n0_; (try clear hb); (try clear hb2); (try clear hk); (try clear hi)))
      go_ret
      exact ⟨by first | rfl | (simp [errW_none, errW_some] <;> rfl) | (simp [*, errW_none, errW_some] <;> rfl), by repeat (first | (with_reducible first | exact HB.out | apply below_alloc | apply pw_below_drewN | apply below_drew1) | exact HB.out)⟩
  · rw [if_neg c4] at H
    have c4b0 : decide (10 < a0) = false := decide_eq_false c4
    clear c4
    obtain rfl := Option.some.inj H
    go_enter Tryd.func50, Tryd.ntmps50
    go_wp2_with (first | ((with_reducible refine gate_callee (f := 23) rfl ?_); refine goesL_ (some 8) rfl rfl Tryd.func23 (by kernel_rfl) rfl #[.int .i64 (wrap64 (a1))] rfl (by (try simp only [List.map_toArray, List.map_cons, List.map_nil]); first | done | rfl | (simp only [List.length_drop, List.length_take]; rfl)) ?_; (with_reducible refine (specDecimal.calls (wrap64 (a1)) t128 _ A3.out).mono ?_); rintro e w9 ⟨rfl, hb⟩; refine ⟨_, rfl, ?_⟩; have n0_ := Aside0.mk (below_step (by repeat (first | (with_reducible first | exact HB.out | apply below_alloc | apply pw_below_drewN | apply below_drew1) | exact HB.out)) hb); clear HB; have HB := n0_; clear n0_; (try clear hb); (try clear hb2); (try clear hk); (try clear hi)))
    go_ret
    exact ⟨by first | rfl | (simp [errW_none, errW_some] <;> rfl) | (simp [*, errW_none, errW_some] <;> rfl), by repeat (first | (with_reducible first | exact HB.out | apply below_alloc | apply pw_below_drewN | apply below_drew1) | exact HB.out)⟩

end Go.Proofs.YteaciggmlmhbgaaDoor.P
