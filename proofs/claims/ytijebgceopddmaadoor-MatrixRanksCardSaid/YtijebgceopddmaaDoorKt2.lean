/- Parts of the proof, laid together by a program of this session: Prt2, GridAt, Grid0, Grid1, Lit0, Lit1, GridPure, Pa0. -/
import Derived.Test.YtijebgceopddmaaDoorKt1
import Derived.Test.YtijebgceopddmaaDoorProg
import Derived.WalkKit
import Derived.KernelRfl
import Derived.Below
import Derived.Deep.QuietTactic
import Derived.BigQuiet
import Derived.Laws.BitsLemmas
import Derived.Test.YtijebgceopddmaaDoorKt0
import Derived.Deep.Draws
import Derived.Deep.AppendLies
import Derived.Maps.AppendAt
import Derived.OwnWalk
import Derived.Laws.BytesArg
import Derived.Laws.MakeOwn
import Derived.Laws.OwnMore
import Derived.Deep.OwnRows
import Derived.Tactics
import Derived.Lib.ConvBytes
import Derived.Laws.Slices
import Derived.RowKit3
import Derived.Deep.LoopGhost
import Derived.WideLaws
import Derived.Deep.DeepCutAuto
import Derived.Deep.CutBlock
import Derived.Deep.RegionHeld3
import Derived.Laws.Rows
import Derived.Lib.AppendStr
import Derived.ArgAppend
import Derived.Laws.IdiomCopy
import Derived.OrdersHeld
import Derived.RowKit
import Derived.WalkMore
set_option linter.unusedVariables false
set_option linter.unusedSimpArgs false
section
namespace Go.Proofs.YtijebgceopddmaaDoor.Prt
open Go.RowKit Go.Proofs.YtijebgceopddmaaDoor.Gf Go.Proofs.YtijebgceopddmaaDoor.Pr Go.Proofs.YtijebgceopddmaaDoorW.PrintWords Go.Proofs.YtijebgceopddmaaDoorW.PrintLast Go.Proofs.YtijebgceopddmaaDoorW.PrintMore
attribute [local go_sem] max2_int min2_int max_two min_two max_three min_three max_four min_four   -- for this text's walks alone
set_option linter.unusedVariables false
set_option linter.unusedSimpArgs false
mutual
def matrix_reduce.l0 : Nat → List (List Int) → List (List Int) → Int → Int → Option ((List (List Int)) × List Int)
 | 0, _, _, _, _ => none
 | k + 1, x0, x4, x20, x21 => if x21 < x20 then (if 0 ≤ x21 then (if x21 < (x0.length : Int) then (if 0 ≤ ((rd_L1 x0 x21).length : Int) then (if (((rd_L1 x0 x21).length : Int) : Int).toNat ≤ 281474976710656 then (if x21 < (x4.length : Int) then ((copyL (x4.set (x21 : Int).toNat (List.replicate (((rd_L1 x0 x21).length : Int) : Int).toNat 0)) x0 x21).bind fun t110 => (matrix_reduce.l0 k x0 t110 x20 (wrap64 (x21 + 1)))) else (none)) else (none)) else (none)) else (none)) else (none)) else ((matrix_columns.f x0).bind fun t111 => (matrix_reduce.l1 k x4 ([] : List Int) t111 0))
def matrix_reduce.l1 : Nat → List (List Int) → List Int → Int → Int → Option ((List (List Int)) × List Int)
 | 0, _, _, _, _ => none
 | k + 1, x4, x6, x44, x45 => if x45 < x44 then (matrix_reduce.l2 k x4 x6 x45 (x6.length : Int) (x6.length : Int) x44 x45) else (if 0 ≤ (x6.length : Int) then (if (x6.length : Int) ≤ (x4.length : Int) then (some ((x4.take ((x6.length : Int) : Int).toNat), x6)) else (none)) else (none))
def matrix_reduce.l2 : Nat → List (List Int) → List Int → Int → Int → Int → Int → Int → Option ((List (List Int)) × List Int)
 | 0, _, _, _, _, _, _, _ => none
 | k + 1, x4, x6, x7, x8, x9, x44, x45 => if x9 < (x4.length : Int) then (if 0 ≤ x9 then (if 0 ≤ x7 then (if x7 < ((rd_L1 x4 x9).length : Int) then (if (rd (rd_L1 x4 x9) x7) = 0 then (matrix_reduce.l2 k x4 x6 x7 x8 (wrap64 (x9 + 1)) x44 x45) else ((swapL x4 x8 x9).bind fun t117 => (if 0 ≤ x8 then (if x8 < (x4.length : Int) then (if x7 < ((rd_L1 t117 x8).length : Int) then ((gf_Inv.f k (rd (rd_L1 t117 x8) x7)).bind fun bt120 => (matrix_reduce.l3 k t117 x6 x7 x8 bt120.1 x44 x45 ((rd_L1 t117 x8).length : Int) 0)) else (none)) else (none)) else (none)))) else (none)) else (none)) else (none)) else (matrix_reduce.l1 k x4 x6 x44 (wrap64 (x45 + 1)))
def matrix_reduce.l3 : Nat → List (List Int) → List Int → Int → Int → Int → Int → Int → Int → Int → Option ((List (List Int)) × List Int)
 | 0, _, _, _, _, _, _, _, _, _ => none
 | k + 1, x4, x6, x7, x8, x10, x44, x45, x94, x95 => if x95 < x94 then (if 0 ≤ x8 then (if x8 < (x4.length : Int) then (if 0 ≤ x95 then (if x95 < ((rd_L1 x4 x8).length : Int) then ((gf_Mul.f k (rd (rd_L1 x4 x8) x95) x10).bind fun t126 => (matrix_reduce.l3 k (x4.set (x8 : Int).toNat ((rd_L1 x4 x8).set (x95 : Int).toNat t126)) x6 x7 x8 x10 x44 x45 x94 (wrap64 (x95 + 1)))) else (none)) else (none)) else (none)) else (none)) else (matrix_reduce.l4 k x4 x6 x7 x8 x44 x45 (x4.length : Int) 0)
def matrix_reduce.l4 : Nat → List (List Int) → List Int → Int → Int → Int → Int → Int → Int → Option ((List (List Int)) × List Int)
 | 0, _, _, _, _, _, _, _, _ => none
 | k + 1, x4, x6, x7, x8, x44, x45, x115, x116 => if x116 < x115 then (if 0 ≤ x116 then (if x116 < (x4.length : Int) then (if 0 ≤ x7 then (if x7 < ((rd_L1 x4 x116).length : Int) then (if x116 = x8 then (matrix_reduce.j5 k x4 x6 x7 x8 x116 (rd (rd_L1 x4 x116) x7) x44 x45 x115 x116 false) else (matrix_reduce.j5 k x4 x6 x7 x8 x116 (rd (rd_L1 x4 x116) x7) x44 x45 x115 x116 ((rd (rd_L1 x4 x116) x7) != 0))) else (none)) else (none)) else (none)) else (none)) else (if x6.length < 17592186044416 then (matrix_reduce.l1 k x4 (x6 ++ [x7]) x44 (wrap64 (x45 + 1))) else (none))
def matrix_reduce.j5 : Nat → List (List Int) → List Int → Int → Int → Int → Int → Int → Int → Int → Int → Bool → Option ((List (List Int)) × List Int)
 | 0, _, _, _, _, _, _, _, _, _, _, _ => none
 | k + 1, x4, x6, x7, x8, x13, x14, x44, x45, x115, x116, x132 => if x132 = true then (if 0 ≤ x13 then (if x13 < (x4.length : Int) then (matrix_reduce.l5 k x4 x6 x7 x8 x13 x14 x44 x45 x115 x116 ((rd_L1 x4 x13).length : Int) 0) else (none)) else (none)) else (matrix_reduce.l4 k x4 x6 x7 x8 x44 x45 x115 (wrap64 (x116 + 1)))
def matrix_reduce.l5 : Nat → List (List Int) → List Int → Int → Int → Int → Int → Int → Int → Int → Int → Int → Int → Option ((List (List Int)) × List Int)
 | 0, _, _, _, _, _, _, _, _, _, _, _, _ => none
 | k + 1, x4, x6, x7, x8, x13, x14, x44, x45, x115, x116, x137, x138 => if x138 < x137 then (if 0 ≤ x13 then (if x13 < (x4.length : Int) then (if 0 ≤ x138 then (if x138 < ((rd_L1 x4 x13).length : Int) then (if 0 ≤ x8 then (if x8 < (x4.length : Int) then (if x138 < ((rd_L1 x4 x8).length : Int) then ((gf_Mul.f k x14 (rd (rd_L1 x4 x8) x138)).bind fun t140 => (matrix_reduce.l5 k (x4.set (x13 : Int).toNat ((rd_L1 x4 x13).set (x138 : Int).toNat (Go.bits .xor .u8 (rd (rd_L1 x4 x13) x138) t140))) x6 x7 x8 x13 x14 x44 x45 x115 x116 x137 (wrap64 (x138 + 1)))) else (none)) else (none)) else (none)) else (none)) else (none)) else (none)) else (none)) else (matrix_reduce.l4 k x4 x6 x7 x8 x44 x45 x115 (wrap64 (x116 + 1)))
end
def matrix_reduce.f (k : Nat) (l0 : List (List Int)) : Option ((List (List Int)) × List Int) := if 0 ≤ (l0.length : Int) then (if ((l0.length : Int) : Int).toNat ≤ 11728124029610 then (matrix_reduce.l0 k l0 (List.replicate ((l0.length : Int) : Int).toNat []) (l0.length : Int) 0) else (none)) else (none)
def matrix_reduce.T22 : Bool × List (List Nat × List Nat) := (true, [([], []), ([], []), ([0, 1], [0, 1]), ([2], [2]), ([], []), ([], []), ([], []), ([5, 6], [5, 6]), ([7], [7]), ([], []), ([8, 9], [8, 9]), ([10], [10]), ([], []), ([11, 12], [11, 12]), ([3, 4, 0, 1, 2, 3, 4, 5, 6, 7, 8, 9, 10, 11, 12, 13], [3, 4]), ([14, 13, 13, 0, 1, 2, 3, 4, 5, 6, 7, 8, 9, 10, 11, 12, 13], [13, 14])])
def matrix_reduce.B22 : List Nat := [0, 0, 3, 7, 0, 0, 0, 96, 224, 0, 992, 2016, 0, 8160, 16383, 32767]
theorem matrix_reduce.tab22 : rtab .any (opsOf Tryd.f38 22) = matrix_reduce.T22 := by kernel_rfl
theorem matrix_reduce.bits22 : waitsOk matrix_reduce.T22.2 matrix_reduce.B22 = true := by kernel_rfl
def matrix_reduce.T32 : Bool × List (List Nat × List Nat) := (true, [([], []), ([], []), ([0, 1], [0, 1]), ([2], [2]), ([], []), ([3, 4], [3, 4]), ([5], [5]), ([], []), ([], []), ([], []), ([8, 9], [8, 9]), ([10], [10]), ([], []), ([11, 12], [11, 12]), ([13], [13]), ([7, 14], [7, 14]), ([6, 15], [6, 15]), ([3, 4, 0, 1, 2, 3, 4, 5, 6, 7, 8, 9, 10, 11, 12, 13, 14, 15, 16], [3, 4]), ([17, 16, 15, 0, 1, 2, 3, 4, 5, 6, 7, 8, 9, 10, 11, 12, 13, 14, 15, 16], [16, 17])])
def matrix_reduce.B32 : List Nat := [0, 0, 3, 7, 0, 31, 63, 0, 0, 0, 768, 1792, 0, 7936, 16128, 32640, 65535, 131071, 262143]
theorem matrix_reduce.tab32 : rtab .any (opsOf Tryd.f38 32) = matrix_reduce.T32 := by kernel_rfl
theorem matrix_reduce.bits32 : waitsOk matrix_reduce.T32.2 matrix_reduce.B32 = true := by kernel_rfl
set_option maxHeartbeats 8000000 in
set_option maxRecDepth 100000 in
theorem matrix_reduce.calls (k : Nat) (A0 : Option Addr) (c0 : Nat) (l0 : List (List Int)) (r1 : List (List Int)) (r2 : List Int) (w : World) (hG : HighIn w) (hr0 : Kd.C (Kd.slice 5 (Kd.int .u8)) w A0 l0.length l0) (hc0 : l0.length ≤ c0) (h : matrix_reduce.f k l0 = some (r1, r2)) :
  Calls Tryd.prog 38 #[.slice A0 l0.length c0] w fun e w' => ∃ v0_ v1_ : Value, e = .returned (.tuple #[v0_, v1_]) ∧ Kd.S (Kd.slice 5 (Kd.int .u8)) 43 w' w.heap.size (fun _ => True) v0_ r1 ∧ Kd.R (Kd.int .i64) 3 w' w.heap.size (fun _ => True) v1_ r2 ∧ Below w.heap.size w w' := by
 have HG := Aside0.mk hG
 clear hG
 have HR0 := Aside0.mk hr0
 have HC0 := Aside0.mk hc0
 clear hr0 hc0
 have HB := Aside0.mk (Below.refl w.heap.size w)
 have H : (if 0 ≤ (l0.length : Int) then (if ((l0.length : Int) : Int).toNat ≤ 11728124029610 then (matrix_reduce.l0 k l0 (List.replicate ((l0.length : Int) : Int).toNat []) (l0.length : Int) 0) else (none)) else (none)) = some (r1, r2) := h
 clear h
 by_cases c2 : 0 ≤ (l0.length : Int)
 ·rw [if_pos c2] at H
  have c2b0 := eq_true c2
  have c2b1 : decide (0 ≤ (l0.length : Int)) = true := decide_eq_true c2
  clear c2
  by_cases c3 : ((l0.length : Int) : Int).toNat ≤ 11728124029610
  ·rw [if_pos c3] at H
   have c3b0 := eq_true c3
   have c3b1 : decide (((l0.length : Int) : Int).toNat ≤ 11728124029610) = true := decide_eq_true c3
   clear c3
   obtain ⟨y102, hy102⟩ : ∃ y_ : List (List Int), y_ = (List.replicate ((l0.length : Int) : Int).toNat []) := ⟨_, rfl⟩
   replace H : (matrix_reduce.l0 k l0 y102 (l0.length : Int) 0) = some (r1, r2) := by first | (rw [hy102]; with_reducible exact H) | (have H2_ := (Option.bind_some _ _).symm.trans H; rw [hy102]; with_reducible exact H2_) | (have H2_ := (Option.bind_some _ _).symm.trans H; with_reducible exact H2_) | with_reducible exact H | (rw [hy102]; exact H) | exact H
   have Ny102 := Aside0.mk hy102
   clear hy102
   have H' := Aside0.mk H
   clear H
   go_enter Tryd.func38, Tryd.ntmps38
   (try refine wp_scope_straight ?_)
   go_wp2_with (first | ((with_reducible refine gate_dst (N := 18) rfl ?_); refine Kd.S_make (Kd.slice 5 (Kd.int .u8)) _ 43 rfl (N := 18) rfl 22 _ _ rfl (l0.length : Int) rfl rfl Tryd.underlying22 (.slice none 0 0) 24 info43 rfl (by decide) (by omega) [] (ok := fun _ => True) (okp := fun _ => True) ⟨_, rfl, Kd.R_nil _ _ _ _ _⟩ (fun _ hk => hk) trivial (of_decide_eq_true (by first | (with_reducible assumption) | assumption)) (Nat.le_trans (Nat.mul_le_mul_right _ (of_decide_eq_true (by first | (with_reducible assumption) | assumption) : (l0.length : Int).toNat ≤ 11728124029610)) (by omega)) (Below.refl _ _) (Nat.le_refl _) ?_; intro v103 w4 ho5 hb hg_ hnew_; clear hg_ hnew_; (first | rw [← Ny102.out] at ho5 | (simp only [Int.reduceToNat] at ho5; rw [← Ny102.out] at ho5)); have n0_ := Aside0.mk (Kd.S_lower ho5 (below_size (by repeat (first | (with_reducible first | exact HB.out | apply below_alloc | apply pw_below_drewN | apply below_drew1) | exact HB.out)))); have n1_ := Aside0.mk (below_step (by repeat (first | (with_reducible first | exact HB.out | apply below_alloc | apply pw_below_drewN | apply below_drew1) | exact HB.out)) hb); clear HB; have HO104 := n0_; have HB := n1_; clear n0_ n1_; clear hb ho5) | (go_step3))
   go_loopg [21] k (fun kq v21 w' => ∃ (x4_1 : List (List Int)) (x21_1 : Int), v21 = .int .i64 x21_1 ∧ Aside0 (matrix_reduce.l0 kq l0 x4_1 (l0.length : Int) x21_1 = some (r1, r2)) ∧ Aside0 (kq ≤ k) ∧ Aside0 (Kd.S (Kd.slice 5 (Kd.int .u8)) 43 w' w.heap.size (fun _ => True) v103 x4_1) ∧ Aside0 (Below w.heap.size w w'))
   case atStart => exact ⟨(y102), (0), (by first | rfl | (simp; done) | (simp [*]; done)), H', ⟨Nat.le_refl _⟩, ⟨by (with_reducible repeat (first | apply Kd.S_alloc | apply Kd.S_drewN | apply Kd.S_drew)); exact HO104.out⟩, ⟨by repeat (first | (with_reducible first | exact HB.out | apply below_alloc | apply pw_below_drewN | apply below_drew1) | exact HB.out)⟩⟩
   case round =>
    clear H'
    try clear c2
    try clear c2b0
    try clear c2b1
    try clear p2
    try clear c3
    try clear c3b0
    try clear c3b1
    try clear p3
    obtain ⟨x4_1, x21_1, rfl, HA, HK1, HO_4, HB⟩ := hrel
    cases gk with
    | zero => exact absurd HA.out (by simp [matrix_reduce.l0])
    | succ k1 =>
     have H := HA.out
     clear HA
     simp only [matrix_reduce.l0] at H
     by_cases c6 : x21_1 < (l0.length : Int)
     ·rw [if_pos c6] at H
      have c6b0 : decide (x21_1 < (l0.length : Int)) = true := decide_eq_true c6
      clear c6
      by_cases c7 : 0 ≤ x21_1
      ·rw [if_pos c7] at H
       have c7b0 : decide (0 ≤ x21_1) = true := decide_eq_true c7
       clear c7
       by_cases c8 : x21_1 < (l0.length : Int)
       ·rw [if_pos c8] at H
        have c8b0 : decide (x21_1 < (l0.length : Int)) = true := decide_eq_true c8
        clear c8
        by_cases c9 : 0 ≤ ((rd_L1 l0 x21_1).length : Int)
        ·rw [if_pos c9] at H
         have c9b0 := eq_true c9
         have c9b1 : decide (0 ≤ ((rd_L1 l0 x21_1).length : Int)) = true := decide_eq_true c9
         clear c9
         by_cases c10 : (((rd_L1 l0 x21_1).length : Int) : Int).toNat ≤ 281474976710656
         ·rw [if_pos c10] at H
          have c10b0 := eq_true c10
          have c10b1 : decide ((((rd_L1 l0 x21_1).length : Int) : Int).toNat ≤ 281474976710656) = true := decide_eq_true c10
          clear c10
          obtain ⟨y106, hy106⟩ : ∃ y_ : List Int, y_ = (List.replicate (((rd_L1 l0 x21_1).length : Int) : Int).toNat 0) := ⟨_, rfl⟩
          replace H : (if x21_1 < (x4_1.length : Int) then ((copyL (x4_1.set (x21_1 : Int).toNat y106) l0 x21_1).bind fun t110 => (matrix_reduce.l0 k1 l0 t110 (l0.length : Int) (wrap64 (x21_1 + 1)))) else (none)) = some (r1, r2) := by first | (rw [hy106]; with_reducible exact H) | (have H2_ := (Option.bind_some _ _).symm.trans H; rw [hy106]; with_reducible exact H2_) | (have H2_ := (Option.bind_some _ _).symm.trans H; with_reducible exact H2_) | with_reducible exact H | (rw [hy106]; exact H) | exact H
          have Ny106 := Aside0.mk hy106
          clear hy106
          by_cases c11 : x21_1 < (x4_1.length : Int)
          ·rw [if_pos c11] at H
           have c11b0 : decide (x21_1 < (x4_1.length : Int)) = true := decide_eq_true c11
           clear c11
           obtain ⟨y109, hy109⟩ : ∃ y_ : List (List Int), y_ = (x4_1.set (x21_1 : Int).toNat y106) := ⟨_, rfl⟩
           replace H : ((copyL y109 l0 x21_1).bind fun t110 => (matrix_reduce.l0 k1 l0 t110 (l0.length : Int) (wrap64 (x21_1 + 1)))) = some (r1, r2) := by first | (rw [hy109]; with_reducible exact H) | (have H2_ := (Option.bind_some _ _).symm.trans H; rw [hy109]; with_reducible exact H2_) | (have H2_ := (Option.bind_some _ _).symm.trans H; with_reducible exact H2_) | with_reducible exact H | (rw [hy109]; exact H) | exact H
           have Ny109 := Aside0.mk hy109
           clear hy109
           replace H := Option.bind_eq_some_iff.mp H
           obtain ⟨t110, A130, H⟩ := H
           replace H : (matrix_reduce.l0 k1 l0 t110 (l0.length : Int) (wrap64 (x21_1 + 1))) = some (r1, r2) := H
           have A13 := Aside0.mk A130
           clear A130
           have H' := Aside0.mk H
           clear H
           have p105 : 0 ≤ (x21_1 : Int) := of_decide_eq_true (by first | (with_reducible assumption) | assumption)
           have q105 : x21_1 < (l0.length : Int) := of_decide_eq_true (by first | (with_reducible assumption) | assumption)
           obtain ⟨ad105, A105_0, c105_0, e105, hx105_0, hl105_0, hi105_0⟩ := at_L1 HR0.out x21_1 p105 q105
           cases e105
           replace hx105_0 := (HB.out.cell (World.block_lt_of_cell? w _ hx105_0)).trans hx105_0
           have HR105_0 := Aside0.mk hi105_0
           have HC105_0 := Aside0.mk hl105_0
           clear hi105_0 hl105_0
           replace p105 := eq_true p105
           replace q105 := eq_true q105
           try go_wp2_with (first | ((with_reducible refine gate_dst (N := 31) rfl ?_); refine Kd.R_make (Kd.int .u8) _ 5 rfl (N := 31) rfl 43 _ _ rfl ((rd_L1 l0 x21_1).length : Int) rfl rfl Tryd.underlying43 (.int .u8 0) 1 info5 rfl (by decide) (by omega) 0 (ok := fun _ => True) (okp := fun _ => True) rfl (fun _ hk => hk) trivial (of_decide_eq_true (by first | (with_reducible assumption) | assumption)) (Nat.le_trans (Nat.mul_le_mul_right _ (of_decide_eq_true (by first | (with_reducible assumption) | assumption) : ((rd_L1 l0 x21_1).length : Int).toNat ≤ 281474976710656)) (by omega)) (Below.refl _ _) (Nat.le_refl _) ?_; intro v107 w14 ho15 hb hg_ hnew_; clear hg_ hnew_; (first | rw [← Ny106.out] at ho15 | (simp only [Int.reduceToNat] at ho15; rw [← Ny106.out] at ho15)); have n0_ := Aside0.mk (Kd.S_elder' (by (with_reducible repeat (first | apply Kd.S_alloc | apply Kd.S_drewN | apply Kd.S_drew)); exact HO_4.out) (Kd.R_base ho15) hb); have n1_ := Aside0.mk (Kd.R_lower ho15 (below_size (by repeat (first | (with_reducible first | exact HB.out | apply below_alloc | apply pw_below_drewN | apply below_drew1) | exact HB.out)))); have n2_ := Aside0.mk (below_step (by repeat (first | (with_reducible first | exact HB.out | apply below_alloc | apply pw_below_drewN | apply below_drew1) | exact HB.out)) hb); clear HO_4; clear HB; have HO_4 := n0_; have HO108 := n1_; have HB := n2_; clear n0_ n1_ n2_; clear hb ho15; have p12 : 0 ≤ (x21_1 : Int) := of_decide_eq_true (by first | (with_reducible assumption) | assumption); have q12 : (x21_1 : Int) < ((x4_1.length : Int) : Int) := of_decide_eq_true (by first | (with_reducible assumption) | assumption); obtain ⟨go12, co12, eo12, gb12, gl12, cl12, HG12⟩ := Kd.S_form HO_4.out (by omega); (first | cases eo12 | (injection eo12 with ea_ en_ ec_; (first | subst ea_ | (injection ea_ with ea_; subst ea_)); subst ec_; clear en_)); have GB12 := Aside0.mk gb12; have GG12 := Aside0.mk HG12; clear gb12 gl12 HG12; obtain ⟨_, ce12, hcl12, hM12, hcc12, hfr12, _, _⟩ := Kd.S_elem HO_4.out [] (x21_1 : Int) p12 q12; obtain ⟨ve12_0, rfl, ge12_0⟩ := hM12; have hx12_0 := hcc12 0 _ rfl; have hf12_0 := hfr12 0; (try simp only [show ((Kd.slice 5 (Kd.int .u8))).sz = 1 from rfl, Nat.mul_one, Nat.add_zero] at hx12_0); (try simp only [show ((Kd.slice 5 (Kd.int .u8))).sz = 1 from rfl, Nat.mul_one, Nat.add_zero] at hf12_0); clear hcl12 hcc12 hfr12; (try clear hM12); replace p12 := eq_true p12; replace q12 := eq_true q12; obtain ⟨Ao18, co18, eo18⟩ := Kd.R_slice HO108.out; subst eo18; have n_ := Aside0.mk (Kd.S_mono (ok' := (fun k_ => some k_ ≠ (.slice Ao18 y106.length co18 : Value).ownBlock)) HO_4.out (fun k_ hk => hk.2)); clear HO_4; have HO_4 := n_; clear n_; have HX16 := Aside0.mk (show Kd.S (Kd.slice 5 (Kd.int .u8)) 43 w14 w.heap.size (fun k_ => ((fun _ => True)) k_ ∧ ¬ ((fun k_ => some k_ = (.slice Ao18 y106.length co18 : Value).ownBlock)) k_) (.slice (some ⟨go12, 0, none⟩) x4_1.length co12) x4_1 from (by (with_reducible repeat (first | apply Kd.S_alloc | apply Kd.S_drewN | apply Kd.S_drew)); exact Kd.S_mono HO_4.out (fun k_ hk => ⟨trivial, fun e_ => hk e_⟩))); obtain ⟨oki16, ce16, hcl16, hM16, hcc16, hfr16, hoki16, hH16⟩ := Kd.S_elem HX16.out [] (x21_1 : Int) (of_decide_eq_true (by first | (with_reducible assumption) | assumption)) (by have h_ : (x21_1 : Int) < ((x4_1.length : Int) : Int) := of_decide_eq_true (by first | (with_reducible assumption) | assumption); first | exact h_ | (have e_ := (Kd.S_reads' HO_4.out).1; omega) | simpa using h_); obtain ⟨ve16_0, rfl, ge16_0⟩ := hM16; have HP16 := Kd.S_seg hH16 (of_decide_eq_true (by first | (with_reducible assumption) | assumption)) (by have h_ : (x21_1 : Int) < ((x4_1.length : Int) : Int) := of_decide_eq_true (by first | (with_reducible assumption) | assumption); first | exact h_ | (have e_ := (Kd.S_reads' HO_4.out).1; omega) | simpa using h_) (seg := [.slice Ao18 y106.length co18]) (j := 0) (show 1 ≤ 1 from by decide) (x' := y106) (Kd.M_row (Kd.R_mono (Kd.R_tight rfl (Kd.R_mono (ok' := fun k_ => ((fun _ => True)) k_ ∧ k_ ≠ go12) (Kd.R_apart' (HO108.out) (Kd.S_typed HO_4.out) (by decide)) (fun k_ hk => ⟨trivial, fun e_ => (hk.2) (by rw [e_]; rfl)⟩))) (fun _ h_ => Or.inr (h_)))) (fun _ hk => hk) (fun k_ hk_ => ((Kd.R_mono (ok' := fun k_ => ((fun _ => True)) k_ ∧ k_ ≠ go12) (Kd.R_apart' (HO108.out) (Kd.S_typed HO_4.out) (by decide)) (fun k_ hk => ⟨trivial, fun e_ => (hk.2) (by rw [e_]; rfl)⟩))).1 k_ hk_.symm); have hx16_0 := hcc16 0 _ rfl; (try simp only [show ((Kd.slice 5 (Kd.int .u8))).sz = 1 from rfl, Nat.mul_one, Nat.add_zero] at hx16_0); have hf16_0 := hfr16 0; (try simp only [show ((Kd.slice 5 (Kd.int .u8))).sz = 1 from rfl, Nat.mul_one, Nat.add_zero] at hf16_0); clear hcl16 hcc16 hfr16 hoki16 hH16; (try clear hM16); (try simp only [show ((Kd.slice 5 (Kd.int .u8))).sz = 1 from rfl, Nat.mul_one, Nat.add_zero] at HP16)) | ((with_reducible refine gate_store (t := 43) (p := 32) rfl ?_); refine store_event (t := 43) (p := 32) (v := ?vo_w17) (w1 := (w14.setCell ⟨go12, (x21_1 : Int).toNat, none⟩ (.slice Ao18 y106.length co18))) ?hg ?ho ?hn ?hr ?_; (case ho => rfl); (case hg => rfl); (case hn => rfl); (case hr => first | (go_simp; done) | (go_simp; rfl)); intro w17 hw; have hg : w14.grownBy w17 (some go12) := (by rw [hw]; exact HP16.2); have hp_ : Kd.S (Kd.slice 5 (Kd.int .u8)) 43 w17 w.heap.size (fun _ => True) (.slice (some ⟨go12, 0, none⟩) x4_1.length co12) y109 := (by rw [hw, Ny109.out]; exact HP16.1); clear HP16; have n0_ := Aside0.mk (hp_); have n1_ := Aside0.mk ((by rw [hw]; exact below_set (HB.out) GB12.out : Below w.heap.size w w17)); clear HO_4; clear HB; clear HO108; have HO_4 := n0_; have HB := n1_; clear n0_ n1_; clear hg hw hp_) | (go_step3))
           refine copy_step_ (w := w) (by (with_reducible repeat (first | apply Kd.S_alloc | apply Kd.S_drewN | apply Kd.S_drew)); exact HO_4.out) (by repeat (first | (with_reducible first | exact HB.out | apply below_alloc | apply pw_below_drewN | apply below_drew1) | exact HB.out)) (by repeat (first | exact (Kd.C_below HR0.out HB.out) | (with_reducible refine Kd.C_alloc ?_ _) | (with_reducible refine Kd.C_drewN ?_ _) | (with_reducible refine Kd.C_drew ?_))) A13.out (fun _ _ _ _ _ h => h) ?_
           intro zz0_20 zz1_20 zz2_20 zz3_20 zz4_20 zz5_20 zz6_20 zz7_20 zz8_20 w19 hp_ hb
           have n0_ := Aside0.mk (hp_)
           have n1_ := Aside0.mk (hb)
           clear HO_4
           clear HB
           have HO_4 := n0_
           have HB := n1_
           clear n0_ n1_
           clear hp_ hb
           try go_wp2_with (first | (go_step3))
           go_roundg k1
           case measure => have := HK1.out; omega
           case rel => exact ⟨(t110), (wrap64 (x21_1 + 1)), (by first | rfl | (simp; done) | (simp [*]; done)), H', ⟨by have := HK1.out; omega⟩, ⟨by (with_reducible repeat (first | apply Kd.S_alloc | apply Kd.S_drewN | apply Kd.S_drew)); exact HO_4.out⟩, ⟨by repeat (first | (with_reducible first | exact HB.out | apply below_alloc | apply pw_below_drewN | apply below_drew1) | exact HB.out)⟩⟩
          ·rw [if_neg c11] at H
           exact absurd H (by simp)
         ·rw [if_neg c10] at H
          exact absurd H (by simp)
        ·rw [if_neg c9] at H
         exact absurd H (by simp)
       ·rw [if_neg c8] at H
        exact absurd H (by simp)
      ·rw [if_neg c7] at H
       exact absurd H (by simp)
     ·rw [if_neg c6] at H
      have c6b0 : decide (x21_1 < (l0.length : Int)) = false := decide_eq_false c6
      clear c6
      replace H := Option.bind_eq_some_iff.mp H
      obtain ⟨t111, A210, H⟩ := H
      replace H : (matrix_reduce.l1 k1 x4_1 ([] : List Int) t111 0) = some (r1, r2) := H
      have A21 := Aside0.mk A210
      clear A210
      have H' := Aside0.mk H
      clear H
      go_wp2_with (first | ((with_reducible refine gate_callee (f := 36) rfl ?_); refine goesL_ (some 44) rfl rfl Tryd.func36 (by kernel_rfl) rfl #[.slice A0 l0.length c0] rfl (by (try simp only [List.map_toArray, List.map_cons, List.map_nil]); first | done | rfl | (simp only [List.length_drop, List.length_take]; rfl)) ?_; (with_reducible refine (matrix_columns.calls _ _ l0 t111 _ ?side1 ?side2 A21.out).mono ?_); (case side1 => repeat (first | exact (Kd.C_below HR0.out HB.out) | (with_reducible refine Kd.C_alloc ?_ _) | (with_reducible refine Kd.C_drewN ?_ _) | (with_reducible refine Kd.C_drew ?_))); (case side2 => exact HC0.out); rintro e w' ⟨rfl, ⟨nd, rfl⟩⟩; refine ⟨_, rfl, ?_⟩) | (go_step3))
      go_loopg [6, 45] k1 (fun kq v6 v45 w' => ∃ (x4_2 : List (List Int)) (x6_2 : List Int) (x45_2 : Int), v45 = .int .i64 x45_2 ∧ Aside0 (matrix_reduce.l1 kq x4_2 x6_2 t111 x45_2 = some (r1, r2)) ∧ Aside0 (kq ≤ k1) ∧ Aside0 (Kd.S (Kd.slice 5 (Kd.int .u8)) 43 w' w.heap.size (fun _ => True) v103 x4_2) ∧ Aside0 (Kd.R (Kd.int .i64) 3 w' w.heap.size (fun _ => True) v6 x6_2) ∧ Aside0 (Below w.heap.size w w'))
      case atStart => exact ⟨(x4_1), (([] : List Int)), (0), (by first | rfl | (simp; done) | (simp [*]; done)), H', ⟨Nat.le_refl _⟩, ⟨by (with_reducible repeat (first | apply Kd.S_alloc | apply Kd.S_drewN | apply Kd.S_drew)); exact HO_4.out⟩, ⟨by first | exact Kd.R_nil _ _ _ _ _ | exact Kd.N_nil _ _ _ _ _ | exact Kd.V_nil _ _ _ _ _ | exact Kd.Q_nil _ _ _ _ _ | exact Kd.S_nil _ _ _ _ _⟩, ⟨by repeat (first | (with_reducible first | exact HB.out | apply below_alloc | apply pw_below_drewN | apply below_drew1) | exact HB.out)⟩⟩
      case round =>
       clear H'
       try clear c1
       try clear p1
       try clear q1
       try clear hx1
       try clear hf1
       try clear c2
       try clear c2b0
       try clear c2b1
       try clear p2
       try clear c3
       try clear c3b0
       try clear c3b1
       try clear p3
       try clear c6
       try clear c6b0
       try clear p6
       try clear c7
       try clear c7b0
       try clear c8
       try clear c8b0
       try clear c9
       try clear c9b0
       try clear c9b1
       try clear c10
       try clear c10b0
       try clear c10b1
       try clear p10
       try clear q10
       try clear hx10
       try clear c11
       try clear c11b0
       try clear c12
       try clear p12
       try clear q12
       try clear hx12
       try clear hf12
       try clear c16
       try clear hx16
       try clear hf16
       try clear hx105_0
       try clear hx12_0
       try clear hx16_0
       try clear p105
       try clear p12
       try clear p2
       try clear p3
       try clear q105
       try clear q12
       obtain ⟨x4_2, x6_2, x45_2, rfl, HA, HK2, HO_4, HO_6, HB⟩ := hrel
       cases gk with
       | zero => exact absurd HA.out (by simp [matrix_reduce.l1])
       | succ k2 =>
        have H := HA.out
        clear HA
        simp only [matrix_reduce.l1] at H
        by_cases c22 : x45_2 < t111
        ·rw [if_pos c22] at H
         have c22b0 : decide (x45_2 < t111) = true := decide_eq_true c22
         clear c22
         have H' := Aside0.mk H
         clear H
         obtain ⟨Ao23, co23, eo23⟩ := Kd.R_slice HO_6.out
         subst eo23
         go_wp2_with (first | (go_step3))
         go_loopg [6, 9] k2 (fun kq v6 v9 w' => ∃ (x4_3 : List (List Int)) (x6_3 : List Int) (x9_3 : Int), v9 = .int .i64 x9_3 ∧ Aside0 (matrix_reduce.l2 kq x4_3 x6_3 x45_2 (x6_2.length : Int) x9_3 t111 x45_2 = some (r1, r2)) ∧ Aside0 (kq ≤ k2) ∧ Aside0 (Kd.S (Kd.slice 5 (Kd.int .u8)) 43 w' w.heap.size (fun _ => True) v103 x4_3) ∧ Aside0 (Kd.R (Kd.int .i64) 3 w' w.heap.size (fun _ => True) v6 x6_3) ∧ Aside0 (Below w.heap.size w w'))
         case atStart => exact ⟨(x4_2), (x6_2), ((x6_2.length : Int)), (by first | rfl | (simp; done) | (simp [*]; done)), H', ⟨Nat.le_refl _⟩, ⟨by (with_reducible repeat (first | apply Kd.S_alloc | apply Kd.S_drewN | apply Kd.S_drew)); exact HO_4.out⟩, ⟨by (with_reducible repeat (first | apply Kd.R_alloc | apply Kd.R_drewN | apply Kd.R_drew)); exact HO_6.out⟩, ⟨by repeat (first | (with_reducible first | exact HB.out | apply below_alloc | apply pw_below_drewN | apply below_drew1) | exact HB.out)⟩⟩
         case round =>
          clear H'
          try clear c1
          try clear p1
          try clear q1
          try clear hx1
          try clear hf1
          try clear c2
          try clear c2b0
          try clear c2b1
          try clear p2
          try clear c3
          try clear c3b0
          try clear c3b1
          try clear p3
          try clear c6
          try clear c6b0
          try clear p6
          try clear c7
          try clear c7b0
          try clear c8
          try clear c8b0
          try clear c9
          try clear c9b0
          try clear c9b1
          try clear c10
          try clear c10b0
          try clear c10b1
          try clear p10
          try clear q10
          try clear hx10
          try clear c11
          try clear c11b0
          try clear c12
          try clear p12
          try clear q12
          try clear hx12
          try clear hf12
          try clear c16
          try clear hx16
          try clear hf16
          try clear c22
          try clear c22b0
          try clear hx105_0
          try clear hx12_0
          try clear hx16_0
          try clear p1
          try clear p10
          try clear p105
          try clear p12
          try clear p2
          try clear p3
          try clear p6
          try clear q1
          try clear q10
          try clear q105
          try clear q12
          obtain ⟨x4_3, x6_3, x9_3, rfl, HA, HK3, HO_4, HO_6, HB⟩ := hrel
          cases gk with
          | zero => exact absurd HA.out (by simp [matrix_reduce.l2])
          | succ k3 =>
           have H := HA.out
           clear HA
           simp only [matrix_reduce.l2] at H
           by_cases c24 : x9_3 < (x4_3.length : Int)
           ·rw [if_pos c24] at H
            have c24b0 : decide (x9_3 < (x4_3.length : Int)) = true := decide_eq_true c24
            clear c24
            by_cases c25 : 0 ≤ x9_3
            ·rw [if_pos c25] at H
             have c25b0 : decide (0 ≤ x9_3) = true := decide_eq_true c25
             clear c25
             by_cases c26 : 0 ≤ x45_2
             ·rw [if_pos c26] at H
              have c26b0 : decide (0 ≤ x45_2) = true := decide_eq_true c26
              clear c26
              by_cases c27 : x45_2 < ((rd_L1 x4_3 x9_3).length : Int)
              ·rw [if_pos c27] at H
               have c27b0 : decide (x45_2 < ((rd_L1 x4_3 x9_3).length : Int)) = true := decide_eq_true c27
               clear c27
               by_cases c28 : (rd (rd_L1 x4_3 x9_3) x45_2) = 0
               ·rw [if_pos c28] at H
                have c28b0 : ((rd (rd_L1 x4_3 x9_3) x45_2) == 0) = true := beq_iff_eq.mpr c28
                have c28b1 : ((rd (rd_L1 x4_3 x9_3) x45_2) != 0) = false := bne_eq_false_iff_eq.mpr c28
                clear c28
                have H' := Aside0.mk H
                clear H
                obtain ⟨Ao29, co29, eo29⟩ := Kd.S_slice HO_4.out
                subst eo29
                have p115 : 0 ≤ (x9_3 : Int) := of_decide_eq_true (by first | (with_reducible assumption) | assumption)
                have q115 : x9_3 < (x4_3.length : Int) := of_decide_eq_true (by first | (with_reducible assumption) | assumption)
                obtain ⟨ad115, A115_0, c115_0, e115, hx115_0, hl115_0, hi115_0⟩ := at_L1 (Kd.S_reads' HO_4.out).2.2 x9_3 p115 q115
                cases e115
                obtain ⟨ce115, hce115, hMe115, hcc115⟩ := Kd.S_get HO_4.out [] x9_3 p115 (by first | exact q115 | exact of_decide_eq_true (by first | (with_reducible assumption) | assumption) | (have e_ := (Kd.S_reads' HO_4.out).1; omega))
                obtain ⟨ve115_0, rfl, ge115_0⟩ := hMe115
                have hv115_0 := hcc115 0 _ rfl
                rw [Nat.add_zero, show ((Kd.slice 5 (Kd.int .u8))).sz = 1 from rfl, Nat.mul_one] at hv115_0
                replace hv115_0 := Option.some.inj (hv115_0.symm.trans hx115_0)
                rw [hv115_0] at ge115_0
                have HL115_0 := Aside0.mk (show Kd.R (Kd.int .u8) 5 _ _ _ _ (rd_L1 x4_3 x9_3) from ge115_0)
                clear hv115_0 ge115_0
                have HX115_0 := Aside0.mk hx115_0
                clear hcc115 hce115
                have HR115_0 := Aside0.mk hi115_0
                have HC115_0 := Aside0.mk hl115_0
                clear hi115_0 hl115_0
                replace p115 := eq_true p115
                replace q115 := eq_true q115
                have p116 : 0 ≤ (x45_2 : Int) := of_decide_eq_true (by first | (with_reducible assumption) | assumption)
                have q116 : x45_2 < ((rd_L1 x4_3 x9_3).length : Int) := of_decide_eq_true (by first | (with_reducible assumption) | assumption)
                obtain ⟨ad116, e116, hx116_0⟩ := Kd.at_int (by repeat (first | (with_reducible exact HR115_0.out) | (with_reducible refine Kd.C_alloc ?_ _) | (with_reducible refine Kd.C_drewN ?_ _) | (with_reducible refine Kd.C_drew ?_) | exact HR115_0.out)) x45_2 p116 q116
                cases e116
                replace p116 := eq_true p116
                replace q116 := eq_true q116
                go_wp2_with (first | (go_step3))
                go_roundg k3
                case measure => have := HK1.out; have := HK2.out; have := HK3.out; omega
                case rel => exact ⟨(x4_3), (x6_3), (wrap64 (x9_3 + 1)), (by first | rfl | (simp; done) | (simp [*]; done)), H', ⟨by have := HK1.out; have := HK2.out; have := HK3.out; omega⟩, ⟨by (with_reducible repeat (first | apply Kd.S_alloc | apply Kd.S_drewN | apply Kd.S_drew)); exact HO_4.out⟩, ⟨by (with_reducible repeat (first | apply Kd.R_alloc | apply Kd.R_drewN | apply Kd.R_drew)); exact HO_6.out⟩, ⟨by repeat (first | (with_reducible first | exact HB.out | apply below_alloc | apply pw_below_drewN | apply below_drew1) | exact HB.out)⟩⟩
               ·rw [if_neg c28] at H
                have c28b0 : ((rd (rd_L1 x4_3 x9_3) x45_2) == 0) = false := beq_eq_false_iff_ne.mpr c28
                have c28b1 : ((rd (rd_L1 x4_3 x9_3) x45_2) != 0) = true := bne_iff_ne.mpr c28
                replace H := Option.bind_eq_some_iff.mp H
                obtain ⟨t117, A300, H⟩ := H
                replace H : (if 0 ≤ (x6_2.length : Int) then (if (x6_2.length : Int) < (x4_3.length : Int) then (if x45_2 < ((rd_L1 t117 (x6_2.length : Int)).length : Int) then ((gf_Inv.f k3 (rd (rd_L1 t117 (x6_2.length : Int)) x45_2)).bind fun bt120 => (matrix_reduce.l3 k3 t117 x6_3 x45_2 (x6_2.length : Int) bt120.1 t111 x45_2 ((rd_L1 t117 (x6_2.length : Int)).length : Int) 0)) else (none)) else (none)) else (none)) = some (r1, r2) := H
                have A30 := Aside0.mk A300
                clear A300
                by_cases c31 : 0 ≤ (x6_2.length : Int)
                ·rw [if_pos c31] at H
                 have c31b0 : decide (0 ≤ (x6_2.length : Int)) = true := decide_eq_true c31
                 have c31b1 : decide (0 ≤ x6_2.length) = true := decide_eq_true (by omega)
                 clear c31
                 by_cases c32 : (x6_2.length : Int) < (x4_3.length : Int)
                 ·rw [if_pos c32] at H
                  have c32b0 : decide ((x6_2.length : Int) < (x4_3.length : Int)) = true := decide_eq_true c32
                  have c32b1 : decide (x6_2.length < x4_3.length) = true := decide_eq_true (Int.ofNat_lt.mp c32)
                  clear c32
                  by_cases c33 : x45_2 < ((rd_L1 t117 (x6_2.length : Int)).length : Int)
                  ·rw [if_pos c33] at H
                   have c33b0 : decide (x45_2 < ((rd_L1 t117 (x6_2.length : Int)).length : Int)) = true := decide_eq_true c33
                   clear c33
                   replace H := Option.bind_eq_some_iff.mp H
                   obtain ⟨⟨t120, t121⟩, A340, H⟩ := H
                   replace H : (matrix_reduce.l3 k3 t117 x6_3 x45_2 (x6_2.length : Int) t120 t111 x45_2 ((rd_L1 t117 (x6_2.length : Int)).length : Int) 0) = some (r1, r2) := H
                   have A34 := Aside0.mk A340
                   clear A340
                   have H' := Aside0.mk H
                   clear H
                   obtain ⟨Ao35, co35, eo35⟩ := Kd.S_slice HO_4.out
                   subst eo35
                   have p115 : 0 ≤ (x9_3 : Int) := of_decide_eq_true (by first | (with_reducible assumption) | assumption)
                   have q115 : x9_3 < (x4_3.length : Int) := of_decide_eq_true (by first | (with_reducible assumption) | assumption)
                   obtain ⟨ad115, A115_0, c115_0, e115, hx115_0, hl115_0, hi115_0⟩ := at_L1 (Kd.S_reads' HO_4.out).2.2 x9_3 p115 q115
                   cases e115
                   obtain ⟨ce115, hce115, hMe115, hcc115⟩ := Kd.S_get HO_4.out [] x9_3 p115 (by first | exact q115 | exact of_decide_eq_true (by first | (with_reducible assumption) | assumption) | (have e_ := (Kd.S_reads' HO_4.out).1; omega))
                   obtain ⟨ve115_0, rfl, ge115_0⟩ := hMe115
                   have hv115_0 := hcc115 0 _ rfl
                   rw [Nat.add_zero, show ((Kd.slice 5 (Kd.int .u8))).sz = 1 from rfl, Nat.mul_one] at hv115_0
                   replace hv115_0 := Option.some.inj (hv115_0.symm.trans hx115_0)
                   rw [hv115_0] at ge115_0
                   have HL115_0 := Aside0.mk (show Kd.R (Kd.int .u8) 5 _ _ _ _ (rd_L1 x4_3 x9_3) from ge115_0)
                   clear hv115_0 ge115_0
                   have HX115_0 := Aside0.mk hx115_0
                   clear hcc115 hce115
                   have HR115_0 := Aside0.mk hi115_0
                   have HC115_0 := Aside0.mk hl115_0
                   clear hi115_0 hl115_0
                   replace p115 := eq_true p115
                   replace q115 := eq_true q115
                   have p116 : 0 ≤ (x45_2 : Int) := of_decide_eq_true (by first | (with_reducible assumption) | assumption)
                   have q116 : x45_2 < ((rd_L1 x4_3 x9_3).length : Int) := of_decide_eq_true (by first | (with_reducible assumption) | assumption)
                   obtain ⟨ad116, e116, hx116_0⟩ := Kd.at_int (by repeat (first | (with_reducible exact HR115_0.out) | (with_reducible refine Kd.C_alloc ?_ _) | (with_reducible refine Kd.C_drewN ?_ _) | (with_reducible refine Kd.C_drew ?_) | exact HR115_0.out)) x45_2 p116 q116
                   cases e116
                   replace p116 := eq_true p116
                   replace q116 := eq_true q116
                   try go_wp2_with (first | (go_step3))
                   refine swap_step (w := w) (by (with_reducible repeat (first | apply Kd.S_alloc | apply Kd.S_drewN | apply Kd.S_drew)); exact HO_4.out) (by repeat (first | (with_reducible first | exact HB.out | apply below_alloc | apply pw_below_drewN | apply below_drew1) | exact HB.out)) A30.out (fun _ _ _ _ _ h => h) ?_
                   intro zz0_37 zz1_37 zz2_37 zz3_37 zz4_37 zz5_37 zz6_37 zz7_37 zz8_37 zz9_37 zz10_37 zz11_37 zz12_37 zz13_37 w36 hp_ hg hb
                   have n0_ := Aside0.mk (hp_)
                   have n1_ := Aside0.mk (Kd.R_over' (v := (.slice (some ad115) x4_3.length co35)) (by (with_reducible repeat (first | apply Kd.R_alloc | apply Kd.R_drewN | apply Kd.R_drew)); exact HO_6.out) (Kd.S_typed (by (with_reducible repeat (first | apply Kd.S_alloc | apply Kd.S_drewN | apply Kd.S_drew)); exact HO_4.out)) (by decide) hg)
                   have n2_ := Aside0.mk (hb)
                   clear HO_4
                   clear HO_6
                   clear HB
                   have HO_4 := n0_
                   have HO_6 := n1_
                   have HB := n2_
                   clear n0_ n1_ n2_
                   clear hp_ hb hg
                   have p118 : 0 ≤ ((x6_2.length : Int) : Int) := of_decide_eq_true (by first | (with_reducible assumption) | assumption)
                   have q118 : (x6_2.length : Int) < (t117.length : Int) := (by have h_ : ((x6_2.length : Int) : Int) < ((x4_3.length : Int) : Int) := of_decide_eq_true (by first | (with_reducible assumption) | assumption); have e_ := (Kd.S_reads' HO_4.out).1; omega)
                   have ql118 : (((x6_2.length : Int) : Int) < ((x4_3.length : Int) : Int)) = True := eq_true (of_decide_eq_true (by first | (with_reducible assumption) | assumption))
                   obtain ⟨ad118, A118_0, c118_0, e118, hx118_0, hl118_0, hi118_0⟩ := at_L1 (Kd.S_reads' HO_4.out).2.2 (x6_2.length : Int) p118 q118
                   obtain rfl : ad115 = ad118 := (by injection e118)
                   obtain ⟨ce118, hce118, hMe118, hcc118⟩ := Kd.S_get HO_4.out [] (x6_2.length : Int) p118 (by first | exact q118 | exact of_decide_eq_true (by first | (with_reducible assumption) | assumption) | (have e_ := (Kd.S_reads' HO_4.out).1; omega))
                   obtain ⟨ve118_0, rfl, ge118_0⟩ := hMe118
                   have hv118_0 := hcc118 0 _ rfl
                   rw [Nat.add_zero, show ((Kd.slice 5 (Kd.int .u8))).sz = 1 from rfl, Nat.mul_one] at hv118_0
                   replace hv118_0 := Option.some.inj (hv118_0.symm.trans hx118_0)
                   rw [hv118_0] at ge118_0
                   have HL118_0 := Aside0.mk (show Kd.R (Kd.int .u8) 5 _ _ _ _ (rd_L1 t117 (x6_2.length : Int)) from ge118_0)
                   clear hv118_0 ge118_0
                   have HX118_0 := Aside0.mk hx118_0
                   clear hcc118 hce118
                   have HR118_0 := Aside0.mk hi118_0
                   have HC118_0 := Aside0.mk hl118_0
                   clear hi118_0 hl118_0
                   (try simp only [Go.IntWalk.toNatUp] at hx118_0)
                   replace p118 := eq_true p118
                   replace q118 := eq_true q118
                   have p119 : 0 ≤ (x45_2 : Int) := of_decide_eq_true (by first | (with_reducible assumption) | assumption)
                   have q119 : x45_2 < ((rd_L1 t117 (x6_2.length : Int)).length : Int) := of_decide_eq_true (by first | (with_reducible assumption) | assumption)
                   obtain ⟨ad119, e119, hx119_0⟩ := Kd.at_int (by repeat (first | (with_reducible exact HR118_0.out) | (with_reducible refine Kd.C_alloc ?_ _) | (with_reducible refine Kd.C_drewN ?_ _) | (with_reducible refine Kd.C_drew ?_) | exact HR118_0.out)) x45_2 p119 q119
                   cases e119
                   replace p119 := eq_true p119
                   replace q119 := eq_true q119
                   try go_wp2_with (first | ((with_reducible refine gate_callee (f := 50) rfl ?_); refine goesL_ (some 87) rfl rfl Tryd.func50 (by kernel_rfl) rfl #[.int .u8 (rd (rd_L1 t117 (x6_2.length : Int)) x45_2)] rfl (by (try simp only [List.map_toArray, List.map_cons, List.map_nil]); first | done | rfl | (simp only [List.length_drop, List.length_take]; rfl)) ?_; (with_reducible refine (gf_Inv.calls k3 (rd (rd_L1 t117 (x6_2.length : Int)) x45_2) t120 t121 _ ?side1 A34.out).mono ?_); (case side1 => first | (with_reducible exact HG.out) | (with_reducible exact HighIn.drewN HG.out _) | exact HighIn.below HG.out (by repeat (first | (with_reducible first | exact HB.out | apply below_alloc | apply pw_below_drewN | apply below_drew1) | exact HB.out)) | ((repeat (first | (with_reducible exact HG.out) | (with_reducible apply HighIn.drewN) | (with_reducible apply HighIn.drew) | (with_reducible apply HighIn.alloc))); done)); rintro e w' ⟨rfl, ⟨nd, rfl⟩⟩; refine ⟨_, rfl, ?_⟩; have p122 : 0 ≤ ((x6_2.length : Int) : Int) := of_decide_eq_true (by first | (with_reducible assumption) | assumption); have q122 : (x6_2.length : Int) < (t117.length : Int) := (by have h_ : ((x6_2.length : Int) : Int) < ((x4_3.length : Int) : Int) := of_decide_eq_true (by first | (with_reducible assumption) | assumption); have e_ := (Kd.S_reads' HO_4.out).1; omega); have ql122 : (((x6_2.length : Int) : Int) < ((x4_3.length : Int) : Int)) = True := eq_true (of_decide_eq_true (by first | (with_reducible assumption) | assumption)); obtain ⟨ad122, A122_0, c122_0, e122, hx122_0, hl122_0, hi122_0⟩ := at_L1 (Kd.S_reads' HO_4.out).2.2 (x6_2.length : Int) p122 q122; obtain rfl : ad115 = ad122 := (by injection e122); obtain ⟨ce122, hce122, hMe122, hcc122⟩ := Kd.S_get HO_4.out [] (x6_2.length : Int) p122 (by first | exact q122 | exact of_decide_eq_true (by first | (with_reducible assumption) | assumption) | (have e_ := (Kd.S_reads' HO_4.out).1; omega)); obtain ⟨ve122_0, rfl, ge122_0⟩ := hMe122; have hv122_0 := hcc122 0 _ rfl; rw [Nat.add_zero, show ((Kd.slice 5 (Kd.int .u8))).sz = 1 from rfl, Nat.mul_one] at hv122_0; replace hv122_0 := Option.some.inj (hv122_0.symm.trans hx122_0); rw [hv122_0] at ge122_0; have HL122_0 := Aside0.mk (show Kd.R (Kd.int .u8) 5 _ _ _ _ (rd_L1 t117 (x6_2.length : Int)) from ge122_0); clear hv122_0 ge122_0; have HX122_0 := Aside0.mk hx122_0; clear hcc122 hce122; have HR122_0 := Aside0.mk hi122_0; have HC122_0 := Aside0.mk hl122_0; clear hi122_0 hl122_0; (try simp only [Go.IntWalk.toNatUp] at hx122_0); replace p122 := eq_true p122; replace q122 := eq_true q122; have ea_ := Option.some.inj (hx118_0.symm.trans hx122_0); injection ea_ with ea_ en_ ec_; subst ea_; subst ec_; clear en_) | (go_step3))
                   go_loopg [95] k3 (fun kq v95 w' => ∃ (x4_4 : List (List Int)) (x95_4 : Int), v95 = .int .i64 x95_4 ∧ Aside0 (matrix_reduce.l3 kq x4_4 x6_3 x45_2 (x6_2.length : Int) t120 t111 x45_2 ((rd_L1 t117 (x6_2.length : Int)).length : Int) x95_4 = some (r1, r2)) ∧ Aside0 (kq ≤ k3) ∧ Aside0 (Kd.S (Kd.slice 5 (Kd.int .u8)) 43 w' w.heap.size (fun _ => True) (.slice (some ad115) x4_3.length co35) x4_4) ∧ Aside0 (Kd.R (Kd.int .i64) 3 w' w.heap.size (fun _ => True) u6 x6_3) ∧ Aside0 (Below w.heap.size w w'))
                   case atStart => exact ⟨(t117), (0), (by first | rfl | (simp; done) | (simp [*]; done)), H', ⟨Nat.le_refl _⟩, ⟨by (with_reducible repeat (first | apply Kd.S_alloc | apply Kd.S_drewN | apply Kd.S_drew)); exact HO_4.out⟩, ⟨by (with_reducible repeat (first | apply Kd.R_alloc | apply Kd.R_drewN | apply Kd.R_drew)); exact HO_6.out⟩, ⟨by repeat (first | (with_reducible first | exact HB.out | apply below_alloc | apply pw_below_drewN | apply below_drew1) | exact HB.out)⟩⟩
                   case round =>
                    clear H'
                    try clear c1
                    try clear p1
                    try clear q1
                    try clear hx1
                    try clear hf1
                    try clear c2
                    try clear c2b0
                    try clear c2b1
                    try clear p2
                    try clear c3
                    try clear c3b0
                    try clear c3b1
                    try clear p3
                    try clear c5
                    try clear c6
                    try clear c6b0
                    try clear p6
                    try clear c7
                    try clear c7b0
                    try clear c8
                    try clear c8b0
                    try clear c9
                    try clear c9b0
                    try clear c9b1
                    try clear c10
                    try clear c10b0
                    try clear c10b1
                    try clear p10
                    try clear q10
                    try clear hx10
                    try clear c11
                    try clear c11b0
                    try clear p11
                    try clear q11
                    try clear hx11
                    try clear c12
                    try clear p12
                    try clear q12
                    try clear hx12
                    try clear hf12
                    try clear c16
                    try clear hx16
                    try clear hf16
                    try clear c22
                    try clear c22b0
                    try clear c24
                    try clear c24b0
                    try clear c25
                    try clear c25b0
                    try clear c26
                    try clear c26b0
                    try clear c27
                    try clear c27b0
                    try clear c28
                    try clear c28b0
                    try clear c28b1
                    try clear c31
                    try clear c31b0
                    try clear c31b1
                    try clear c32
                    try clear c32b0
                    try clear c32b1
                    try clear c33
                    try clear c33b0
                    try clear c36
                    try clear hx105_0
                    try clear hx115_0
                    try clear hx116_0
                    try clear hx118_0
                    try clear hx119_0
                    try clear hx122_0
                    try clear hx12_0
                    try clear hx16_0
                    try clear p1
                    try clear p10
                    try clear p105
                    try clear p115
                    try clear p116
                    try clear p118
                    try clear p119
                    try clear p12
                    try clear p122
                    try clear p2
                    try clear p3
                    try clear p6
                    try clear q1
                    try clear q10
                    try clear q105
                    try clear q115
                    try clear q116
                    try clear q118
                    try clear q119
                    try clear q12
                    try clear q122
                    obtain ⟨x4_4, x95_4, rfl, HA, HK4, HO_4, HO_6, HB⟩ := hrel
                    have hl4_4 := (Kd.S_reads' HO_4.out).1
                    rw [hl4_4] at HO_4
                    (try simp only [hl4_4])
                    (try simp only [hl4_4] at HO_6)
                    cases gk with
                    | zero => exact absurd HA.out (by simp [matrix_reduce.l3])
                    | succ k4 =>
                     have H := HA.out
                     clear HA
                     simp only [matrix_reduce.l3] at H
                     by_cases c38 : x95_4 < ((rd_L1 t117 (x6_2.length : Int)).length : Int)
                     ·rw [if_pos c38] at H
                      have c38b0 : decide (x95_4 < ((rd_L1 t117 (x6_2.length : Int)).length : Int)) = true := decide_eq_true c38
                      clear c38
                      by_cases c39 : 0 ≤ (x6_2.length : Int)
                      ·rw [if_pos c39] at H
                       have c39b0 : decide (0 ≤ (x6_2.length : Int)) = true := decide_eq_true c39
                       have c39b1 : decide (0 ≤ x6_2.length) = true := decide_eq_true (by omega)
                       clear c39
                       by_cases c40 : (x6_2.length : Int) < (x4_4.length : Int)
                       ·rw [if_pos c40] at H
                        have c40b0 : decide ((x6_2.length : Int) < (x4_4.length : Int)) = true := decide_eq_true c40
                        have c40b1 : decide (x6_2.length < x4_4.length) = true := decide_eq_true (Int.ofNat_lt.mp c40)
                        clear c40
                        by_cases c41 : 0 ≤ x95_4
                        ·rw [if_pos c41] at H
                         have c41b0 : decide (0 ≤ x95_4) = true := decide_eq_true c41
                         clear c41
                         by_cases c42 : x95_4 < ((rd_L1 x4_4 (x6_2.length : Int)).length : Int)
                         ·rw [if_pos c42] at H
                          have c42b0 : decide (x95_4 < ((rd_L1 x4_4 (x6_2.length : Int)).length : Int)) = true := decide_eq_true c42
                          clear c42
                          replace H := Option.bind_eq_some_iff.mp H
                          obtain ⟨t126, A430, H⟩ := H
                          replace H : (matrix_reduce.l3 k4 (x4_4.set ((x6_2.length : Int) : Int).toNat ((rd_L1 x4_4 (x6_2.length : Int)).set (x95_4 : Int).toNat t126)) x6_3 x45_2 (x6_2.length : Int) t120 t111 x45_2 ((rd_L1 t117 (x6_2.length : Int)).length : Int) (wrap64 (x95_4 + 1))) = some (r1, r2) := H
                          have A43 := Aside0.mk A430
                          clear A430
                          obtain ⟨y127, hy127⟩ : ∃ y_ : List Int, y_ = ((rd_L1 x4_4 (x6_2.length : Int)).set (x95_4 : Int).toNat t126) := ⟨_, rfl⟩
                          replace H : (matrix_reduce.l3 k4 (x4_4.set ((x6_2.length : Int) : Int).toNat y127) x6_3 x45_2 (x6_2.length : Int) t120 t111 x45_2 ((rd_L1 t117 (x6_2.length : Int)).length : Int) (wrap64 (x95_4 + 1))) = some (r1, r2) := by first | (rw [hy127]; with_reducible exact H) | (have H2_ := (Option.bind_some _ _).symm.trans H; rw [hy127]; with_reducible exact H2_) | (have H2_ := (Option.bind_some _ _).symm.trans H; with_reducible exact H2_) | with_reducible exact H | (rw [hy127]; exact H) | exact H
                          have Ny127 := Aside0.mk hy127
                          clear hy127
                          obtain ⟨y129, hy129⟩ : ∃ y_ : List (List Int), y_ = (x4_4.set ((x6_2.length : Int) : Int).toNat y127) := ⟨_, rfl⟩
                          replace H : (matrix_reduce.l3 k4 y129 x6_3 x45_2 (x6_2.length : Int) t120 t111 x45_2 ((rd_L1 t117 (x6_2.length : Int)).length : Int) (wrap64 (x95_4 + 1))) = some (r1, r2) := by first | (rw [hy129]; with_reducible exact H) | (have H2_ := (Option.bind_some _ _).symm.trans H; rw [hy129]; with_reducible exact H2_) | (have H2_ := (Option.bind_some _ _).symm.trans H; with_reducible exact H2_) | with_reducible exact H | (rw [hy129]; exact H) | exact H
                          have Ny129 := Aside0.mk hy129
                          clear hy129
                          have H' := Aside0.mk H
                          clear H
                          try go_wp2_with (first | (go_step3))
                          have n0_ := Aside0.mk (Kd.S_drew HO_4.out)
                          have n1_ := Aside0.mk (Kd.R_drew HO_6.out)
                          have n2_ := Aside0.mk (below_drew1 HB.out)
                          clear HO_4
                          clear HO_6
                          clear HB
                          have HO_4 := n0_
                          have HO_6 := n1_
                          have HB := n2_
                          clear n0_ n1_ n2_
                          have p123 : 0 ≤ ((x6_2.length : Int) : Int) := of_decide_eq_true (by first | (with_reducible assumption) | assumption)
                          have q123 : (x6_2.length : Int) < (x4_4.length : Int) := of_decide_eq_true (by first | (with_reducible assumption) | assumption)
                          obtain ⟨ad123, A123_0, c123_0, e123, hx123_0, hl123_0, hi123_0⟩ := at_L1 (Kd.S_reads' HO_4.out).2.2 (x6_2.length : Int) p123 q123
                          obtain rfl : ad115 = ad123 := (by injection e123)
                          obtain ⟨ce123, hce123, hMe123, hcc123⟩ := Kd.S_get HO_4.out [] (x6_2.length : Int) p123 (by first | exact q123 | exact of_decide_eq_true (by first | (with_reducible assumption) | assumption) | (have e_ := (Kd.S_reads' HO_4.out).1; omega))
                          obtain ⟨ve123_0, rfl, ge123_0⟩ := hMe123
                          have hv123_0 := hcc123 0 _ rfl
                          rw [Nat.add_zero, show ((Kd.slice 5 (Kd.int .u8))).sz = 1 from rfl, Nat.mul_one] at hv123_0
                          replace hv123_0 := Option.some.inj (hv123_0.symm.trans hx123_0)
                          rw [hv123_0] at ge123_0
                          have HL123_0 := Aside0.mk (show Kd.R (Kd.int .u8) 5 _ _ _ _ (rd_L1 x4_4 (x6_2.length : Int)) from ge123_0)
                          clear hv123_0 ge123_0
                          have HX123_0 := Aside0.mk hx123_0
                          clear hcc123 hce123
                          have HR123_0 := Aside0.mk hi123_0
                          have HC123_0 := Aside0.mk hl123_0
                          clear hi123_0 hl123_0
                          (try simp only [Go.IntWalk.toNatUp] at hx123_0)
                          (try simp only [hl4_4] at p123)
                          (try simp only [hl4_4] at q123)
                          (try simp only [hl4_4] at hx123_0)
                          replace p123 := eq_true p123
                          replace q123 := eq_true q123
                          have p124 : 0 ≤ ((x6_2.length : Int) : Int) := of_decide_eq_true (by first | (with_reducible assumption) | assumption)
                          have q124 : (x6_2.length : Int) < (x4_4.length : Int) := of_decide_eq_true (by first | (with_reducible assumption) | assumption)
                          obtain ⟨ad124, A124_0, c124_0, e124, hx124_0, hl124_0, hi124_0⟩ := at_L1 (Kd.S_reads' HO_4.out).2.2 (x6_2.length : Int) p124 q124
                          obtain rfl : ad115 = ad124 := (by injection e124)
                          obtain ⟨ce124, hce124, hMe124, hcc124⟩ := Kd.S_get HO_4.out [] (x6_2.length : Int) p124 (by first | exact q124 | exact of_decide_eq_true (by first | (with_reducible assumption) | assumption) | (have e_ := (Kd.S_reads' HO_4.out).1; omega))
                          obtain ⟨ve124_0, rfl, ge124_0⟩ := hMe124
                          have hv124_0 := hcc124 0 _ rfl
                          rw [Nat.add_zero, show ((Kd.slice 5 (Kd.int .u8))).sz = 1 from rfl, Nat.mul_one] at hv124_0
                          replace hv124_0 := Option.some.inj (hv124_0.symm.trans hx124_0)
                          rw [hv124_0] at ge124_0
                          have HL124_0 := Aside0.mk (show Kd.R (Kd.int .u8) 5 _ _ _ _ (rd_L1 x4_4 (x6_2.length : Int)) from ge124_0)
                          clear hv124_0 ge124_0
                          have HX124_0 := Aside0.mk hx124_0
                          clear hcc124 hce124
                          have HR124_0 := Aside0.mk hi124_0
                          have HC124_0 := Aside0.mk hl124_0
                          clear hi124_0 hl124_0
                          (try simp only [Go.IntWalk.toNatUp] at hx124_0)
                          (try simp only [hl4_4] at p124)
                          (try simp only [hl4_4] at q124)
                          (try simp only [hl4_4] at hx124_0)
                          replace p124 := eq_true p124
                          replace q124 := eq_true q124
                          have ea_ := Option.some.inj (hx123_0.symm.trans hx124_0)
                          injection ea_ with ea_ en_ ec_
                          subst ea_
                          subst ec_
                          clear en_
                          have p125 : 0 ≤ (x95_4 : Int) := of_decide_eq_true (by first | (with_reducible assumption) | assumption)
                          have q125 : x95_4 < ((rd_L1 x4_4 (x6_2.length : Int)).length : Int) := of_decide_eq_true (by first | (with_reducible assumption) | assumption)
                          obtain ⟨ad125, e125, hx125_0⟩ := Kd.at_int (by repeat (first | (with_reducible exact HR124_0.out) | (with_reducible refine Kd.C_alloc ?_ _) | (with_reducible refine Kd.C_drewN ?_ _) | (with_reducible refine Kd.C_drew ?_) | exact HR124_0.out)) x95_4 p125 q125
                          cases e125
                          replace p125 := eq_true p125
                          replace q125 := eq_true q125
                          refine start_ (n := 16) (S := fun w' => w'.cell? (ad115.add ((x6_2.length : Int)).toNat) = some (.slice (some ad125) (rd_L1 x4_4 (x6_2.length : Int)).length c123_0) ∧ w'.cell? (ad115.add ((x6_2.length : Int)).toNat) = some (.slice (some ad125) (rd_L1 x4_4 (x6_2.length : Int)).length c123_0) ∧ w'.cell? (ad125.add (x95_4).toNat) = some (.int .u8 (rd (rd_L1 x4_4 (x6_2.length : Int)) x95_4))) (ds := [15]) #[false, false, false, false, false, false, false, false, false, false, false, false, false, false, false, false] (by kernel_rfl) rfl rfl ⟨hx123_0, hx124_0, hx125_0⟩ (fun hHeld => ?_); refine with_tabW matrix_reduce.tab22 matrix_reduce.bits22 (fun HT_ HW_ => ?_)
                          generalize wr.drew = w45 at HO_4 HO_6 HB HL123_0 HL124_0 HR123_0 HR124_0 HX123_0 HX124_0 hx123_0 hx124_0 hx125_0 hHeld ⊢
                          refine pure_ (i := 0) (N := some 98) (v := ?_) (a' := ?_) #[true, false, false, false, false, false, false, false, false, false, false, false, false, false, false, false] rfl rfl (any_of HT_.out (by kernel_rfl)) (fun _ _ _ h => h) (Or.inl ⟨by rfl, ?_⟩) ?_ ?_
                          rotate_left
                          ·intro w'
                           go_simp
                           with_reducible rfl
                          rotate_left
                          ·simp only [Act.put, List.setIfInBounds_toArray, List.set_cons_zero, List.set_cons_succ, i64_w, i32_w]
                           rfl
                          refine pure_ (i := 1) (N := some 99) (v := ?_) (a' := ?_) #[true, true, false, false, false, false, false, false, false, false, false, false, false, false, false, false] rfl rfl (any_of HT_.out (by kernel_rfl)) (fun _ _ _ h => h) (Or.inl ⟨by rfl, ?_⟩) ?_ ?_
                          rotate_left
                          ·intro w'
                           go_simp
                           with_reducible rfl
                          rotate_left
                          ·simp only [Act.put, List.setIfInBounds_toArray, List.set_cons_zero, List.set_cons_succ, i64_w, i32_w]
                           rfl
                          refine pure_ (i := 2) (N := some 100) (v := ?_) (a' := ?_) #[true, true, true, false, false, false, false, false, false, false, false, false, false, false, false, false] rfl rfl (any_of HT_.out (by kernel_rfl)) (fun _ _ _ h => h) (Or.inl ⟨by rfl, ?_⟩) ?_ ?_
                          rotate_left
                          ·intro w'
                           go_simp
                           with_reducible rfl
                          rotate_left
                          ·simp only [Act.put, List.setIfInBounds_toArray, List.set_cons_zero, List.set_cons_succ, i64_w, i32_w]
                           rfl
                          refine pure_ (i := 4) (N := some 102) (v := ?_) (a' := ?_) #[true, true, true, false, true, false, false, false, false, false, false, false, false, false, false, false] rfl rfl (any_of HT_.out (by kernel_rfl)) (fun _ _ _ h => h) (Or.inl ⟨by rfl, ?_⟩) ?_ ?_
                          rotate_left
                          ·intro w'
                           go_simp
                           with_reducible rfl
                          rotate_left
                          ·simp only [Act.put, List.setIfInBounds_toArray, List.set_cons_zero, List.set_cons_succ, i64_w, i32_w]
                           rfl
                          refine pure_ (i := 5) (N := some 103) (v := ?_) (a' := ?_) #[true, true, true, false, true, true, false, false, false, false, false, false, false, false, false, false] rfl rfl (any_of HT_.out (by kernel_rfl)) (fun _ _ _ h => h) (Or.inl ⟨by rfl, ?_⟩) ?_ ?_
                          rotate_left
                          ·intro w'
                           go_simp
                           with_reducible rfl
                          rotate_left
                          ·simp only [Act.put, List.setIfInBounds_toArray, List.set_cons_zero, List.set_cons_succ, i64_w, i32_w]
                           rfl
                          refine pure_ (i := 6) (N := some 104) (v := ?_) (a' := ?_) #[true, true, true, false, true, true, true, false, false, false, false, false, false, false, false, false] rfl rfl (any_of HT_.out (by kernel_rfl)) (fun _ _ _ h => h) (Or.inl ⟨by rfl, ?_⟩) ?_ ?_
                          rotate_left
                          ·intro w'
                           go_simp
                           with_reducible rfl
                          rotate_left
                          ·simp only [Act.put, List.setIfInBounds_toArray, List.set_cons_zero, List.set_cons_succ, i64_w, i32_w]
                           rfl
                          refine pure_ (i := 7) (N := some 105) (v := ?_) (a' := ?_) #[true, true, true, false, true, true, true, true, false, false, false, false, false, false, false, false] rfl rfl (any_of HT_.out (by kernel_rfl)) (fun _ _ _ h => h) (Or.inl ⟨by rfl, ?_⟩) ?_ ?_
                          rotate_left
                          ·intro w'
                           go_simp
                           with_reducible rfl
                          rotate_left
                          ·simp only [Act.put, List.setIfInBounds_toArray, List.set_cons_zero, List.set_cons_succ, i64_w, i32_w]
                           rfl
                          refine pure_ (i := 9) (N := some 107) (v := ?_) (a' := ?_) #[true, true, true, false, true, true, true, true, false, true, false, false, false, false, false, false] rfl rfl (any_of HT_.out (by kernel_rfl)) (fun _ _ _ h => h) (Or.inl ⟨by rfl, ?_⟩) ?_ ?_
                          rotate_left
                          ·intro w'
                           go_simp
                           with_reducible rfl
                          rotate_left
                          ·simp only [Act.put, List.setIfInBounds_toArray, List.set_cons_zero, List.set_cons_succ, i64_w, i32_w]
                           rfl
                          refine pure_ (i := 12) (N := some 110) (v := ?_) (a' := ?_) #[true, true, true, false, true, true, true, true, false, true, false, false, true, false, false, false] rfl rfl (any_of HT_.out (by kernel_rfl)) (fun _ _ _ h => h) (Or.inl ⟨by rfl, ?_⟩) ?_ ?_
                          rotate_left
                          ·intro w'
                           go_simp
                           with_reducible rfl
                          rotate_left
                          ·simp only [Act.put, List.setIfInBounds_toArray, List.set_cons_zero, List.set_cons_succ, i64_w, i32_w]
                           rfl
                          refine take_ (i := 3) (N := some 101) (v := ?_) (a' := ?_) #[true, true, true, true, true, true, true, true, false, true, false, false, true, false, false, false] rfl rfl (take_ofW HT_.out HW_.out (by kernel_rfl)) (fun _ _ _ h => h) (Or.inl ⟨by rfl, ?_⟩) hHeld ?_ ?_
                          rotate_left
                          ·rintro w' ⟨s0, s1, s2⟩
                           (try simp only [Int.toNat_natCast] at s0 s1 s2)
                           go_simp
                           with_reducible rfl
                          rotate_left
                          ·simp only [Act.put, List.setIfInBounds_toArray, List.set_cons_zero, List.set_cons_succ, i64_w, i32_w]
                           rfl
                          refine take_ (i := 8) (N := some 106) (v := ?_) (a' := ?_) #[true, true, true, true, true, true, true, true, true, true, false, false, true, false, false, false] rfl rfl (take_ofW HT_.out HW_.out (by kernel_rfl)) (fun _ _ _ h => h) (Or.inl ⟨by rfl, ?_⟩) hHeld ?_ ?_
                          rotate_left
                          ·rintro w' ⟨s0, s1, s2⟩
                           (try simp only [Int.toNat_natCast] at s0 s1 s2)
                           go_simp
                           with_reducible rfl
                          rotate_left
                          ·simp only [Act.put, List.setIfInBounds_toArray, List.set_cons_zero, List.set_cons_succ, i64_w, i32_w]
                           rfl
                          refine pure_ (i := 10) (N := some 108) (v := ?_) (a' := ?_) #[true, true, true, true, true, true, true, true, true, true, true, false, true, false, false, false] rfl rfl (any_of HT_.out (by kernel_rfl)) (fun _ _ _ h => h) (Or.inl ⟨by rfl, ?_⟩) ?_ ?_
                          rotate_left
                          ·intro w'
                           go_simp
                           with_reducible rfl
                          rotate_left
                          ·simp only [Act.put, List.setIfInBounds_toArray, List.set_cons_zero, List.set_cons_succ, i64_w, i32_w]
                           rfl
                          refine take_ (i := 11) (N := some 109) (v := ?_) (a' := ?_) #[true, true, true, true, true, true, true, true, true, true, true, true, true, false, false, false] rfl rfl (take_ofW HT_.out HW_.out (by kernel_rfl)) (fun _ _ _ h => h) (Or.inl ⟨by rfl, ?_⟩) hHeld ?_ ?_
                          rotate_left
                          ·rintro w' ⟨s0, s1, s2⟩
                           (try simp only [Int.toNat_natCast] at s0 s1 s2)
                           go_simp
                           with_reducible rfl
                          rotate_left
                          ·simp only [Act.put, List.setIfInBounds_toArray, List.set_cons_zero, List.set_cons_succ, i64_w, i32_w]
                           rfl
                          refine one_ (i := 13) (N := some 111) #[true, true, true, true, true, true, true, true, true, true, true, true, true, true, false, false] rfl rfl (one_of HT_.out (by kernel_rfl)) (by decide) (fun K hK => ?_)
                          refine goes_ Tryd.func48 (by kernel_rfl) rfl #[.int .u8 (rd (rd_L1 x4_4 (x6_2.length : Int)) x95_4), .int .u8 t120] (by rfl) rfl rfl (by (try simp only [List.map_toArray, List.map_cons, List.map_nil]); first | done | rfl | (simp only [List.length_drop, List.length_take]; rfl)) ?_
                          with_reducible refine (gf_Mul.calls k4 (rd (rd_L1 x4_4 (x6_2.length : Int)) x95_4) t120 t126 _ ?side1 A43.out).mono ?_
                          (case side1 => first | (with_reducible exact HG.out) | (with_reducible exact HighIn.drewN HG.out _) | exact HighIn.below HG.out (by repeat (first | (with_reducible first | exact HB.out | apply below_alloc | apply pw_below_drewN | apply below_drew1) | exact HB.out)) | ((repeat (first | (with_reducible exact HG.out) | (with_reducible apply HighIn.drewN) | (with_reducible apply HighIn.drew) | (with_reducible apply HighIn.alloc))); done))
                          rintro e w' ⟨rfl, ⟨nd, rfl⟩⟩
                          refine ⟨_, rfl, ?_⟩
                          have p44 : 0 ≤ (x95_4 : Int) := of_decide_eq_true (by first | (with_reducible assumption) | assumption)
                          have q44 : (x95_4 : Int) < (((rd_L1 x4_4 (x6_2.length : Int)).length : Int) : Int) := of_decide_eq_true (by first | (with_reducible assumption) | assumption)
                          obtain ⟨go44, co44, eo44, gb44, gl44, cl44, HG44⟩ := Kd.R_form HL123_0.out (by omega)
                          (first | cases eo44 | (injection eo44 with ea_ en_ ec_; (first | subst ea_ | (injection ea_ with ea_; subst ea_)); subst ec_; clear en_))
                          have GB44 := Aside0.mk gb44
                          have GG44 := Aside0.mk HG44
                          clear gb44 gl44 HG44
                          (first | simp only [add_plain] at hx125_0 | skip)
                          obtain ⟨hx44_0, hf44_0⟩ := Kd.R_celln 0 HL123_0.out (x95_4 : Int) p44 q44
                          replace p44 := eq_true p44
                          replace q44 := eq_true q44
                          have hq46 : ((x6_2.length : Int) : Int) < (x4_4.length : Int) := (by have h_ : ((x6_2.length : Int) : Int) < ((x4_4.length : Int) : Int) := of_decide_eq_true (by first | (with_reducible assumption) | assumption); first | exact h_ | (have e_ := (Kd.S_reads' HO_4.out).1; omega) | simpa only [List.length_set, List.length_set] using h_)
                          obtain ⟨oki46, ce46, hcl46, hM46, hcc46, hok46, hbk46⟩ := Kd.S_borrow HO_4.out [] ((x6_2.length : Int) : Int) (of_decide_eq_true (by first | (with_reducible assumption) | assumption)) hq46
                          obtain ⟨ve46_0, rfl, ge46_0⟩ := hM46
                          have hv46 := hcc46 0 _ rfl
                          rw [Nat.add_zero, show ((Kd.slice 5 (Kd.int .u8))).sz = 1 from rfl, Nat.mul_one] at hv46
                          replace hv46 := Option.some.inj (hv46.symm.trans HX123_0.out)
                          subst hv46
                          clear hcc46 hcl46
                          replace ge46_0 := (show Kd.R (Kd.int .u8) 5 _ _ _ _ (rd_L1 x4_4 (x6_2.length : Int)) from ge46_0)
                          have HP46 := Kd.R_putg ge46_0 (x95_4 : Int) t126
                          rw [← Ny127.out] at HP46
                          have HS46 := hbk46 HP46.2 (fun k_ e_ => by injection e_ with e_; subst e_; exact ge46_0.1 _ rfl) (x' := y127) (Kd.M_row HP46.1)
                          rw [← Ny129.out] at HS46
                          have HQ46 := Aside0.mk HS46
                          clear HP46 HS46 hbk46 hok46
                          refine hK.out _ _ ⟨hHeld.1, hHeld.2.1, hHeld.2.2⟩ (fun hHeld => ?_)
                          clear hK K
                          refine norm_ (a' := ?_) ?_ ?_
                          rotate_left
                          ·show Act.put _ (some 111) _ = _
                           simp only [Act.put, List.setIfInBounds_toArray, List.set_cons_zero, List.set_cons_succ, i64_w, i32_w]
                           rfl
                          refine pure_ (i := 14) (N := some 112) (v := ?_) (a' := ?_) #[true, true, true, true, true, true, true, true, true, true, true, true, true, true, true, false] rfl rfl (any_of HT_.out (by kernel_rfl)) (fun _ _ _ h => h) (Or.inl ⟨by rfl, ?_⟩) ?_ ?_
                          rotate_left
                          ·intro w'
                           go_simp
                           with_reducible rfl
                          rotate_left
                          ·simp only [Act.put, List.setIfInBounds_toArray, List.set_cons_zero, List.set_cons_succ, i64_w, i32_w]
                           rfl
                          refine last_ (i := 15) (N := none) #[true, true, true, true, true, true, true, true, true, true, true, true, true, true, true, true] rfl rfl (one_of HT_.out (by kernel_rfl)) (by decide) (fun K hK => ?_)
                          refine skip_ (w1 := ?_) (by rfl) rfl ?_ ?_
                          rotate_left
                          ·go_simp
                           rfl
                          refine hK.out _ _ ?_
                          clear hK K
                          refine done_ (done_of HT_.out (by kernel_rfl)) ?_
                          try go_wp2_with (first | (go_step3))
                          (try simp only [← hl4_4])
                          go_roundg k4
                          case measure => have := HK1.out; have := HK2.out; have := HK3.out; have := HK4.out; omega
                          case rel => exact ⟨(y129), (wrap64 (x95_4 + 1)), (by first | rfl | (simp; done) | (simp [*]; done)), H', ⟨by have := HK1.out; have := HK2.out; have := HK3.out; have := HK4.out; omega⟩, ⟨by (try simp only [hl4_4]); (with_reducible repeat (first | apply Kd.S_alloc | apply Kd.S_drewN | apply Kd.S_drew)); exact HQ46.out⟩, ⟨by (try simp only [hl4_4]); (with_reducible repeat (first | apply Kd.R_alloc | apply Kd.R_drewN | apply Kd.R_drew)); exact Kd.R_mono (Kd.R_far (p := ⟨go44, (x95_4 : Int).toNat, none⟩) (Kd.R_types HO_6.out GG44.out (by decide)) (fun _ hk => hk.2) (.int .u8 t126)) (fun _ hk => trivial)⟩, ⟨by repeat (first | (with_reducible first | exact HB.out | apply below_alloc | apply pw_below_drewN | apply below_drew1 | refine below_set ?_ GB44.out) | exact HB.out)⟩⟩
                         ·rw [if_neg c42] at H
                          exact absurd H (by simp)
                        ·rw [if_neg c41] at H
                         exact absurd H (by simp)
                       ·rw [if_neg c40] at H
                        exact absurd H (by simp)
                      ·rw [if_neg c39] at H
                       exact absurd H (by simp)
                     ·rw [if_neg c38] at H
                      have c38b0 : decide (x95_4 < ((rd_L1 t117 (x6_2.length : Int)).length : Int)) = false := decide_eq_false c38
                      have c38b0z := c38b0
                      (try simp only [hl4_4] at c38b0z)
                      clear c38
                      have H' := Aside0.mk H
                      clear H
                      go_wp2_with (first | (go_step3))
                      go_loopg [116] k4 (fun kq v116 w' => ∃ (x4_5 : List (List Int)) (x116_5 : Int), v116 = .int .i64 x116_5 ∧ Aside0 (matrix_reduce.l4 kq x4_5 x6_3 x45_2 (x6_2.length : Int) t111 x45_2 (x4_4.length : Int) x116_5 = some (r1, r2)) ∧ Aside0 (kq ≤ k4) ∧ Aside0 (Kd.S (Kd.slice 5 (Kd.int .u8)) 43 w' w.heap.size (fun _ => True) (.slice (some ad115) x4_4.length co35) x4_5) ∧ Aside0 (Kd.R (Kd.int .i64) 3 w' w.heap.size (fun _ => True) u6 x6_3) ∧ Aside0 (Below w.heap.size w w'))
                      case atStart => exact ⟨(x4_4), (0), (by first | rfl | (simp; done) | (simp [*]; done)), H', ⟨Nat.le_refl _⟩, ⟨by (try simp only [hl4_4]); (with_reducible repeat (first | apply Kd.S_alloc | apply Kd.S_drewN | apply Kd.S_drew)); exact HO_4.out⟩, ⟨by (try simp only [hl4_4]); (with_reducible repeat (first | apply Kd.R_alloc | apply Kd.R_drewN | apply Kd.R_drew)); exact HO_6.out⟩, ⟨by repeat (first | (with_reducible first | exact HB.out | apply below_alloc | apply pw_below_drewN | apply below_drew1) | exact HB.out)⟩⟩
                      case round =>
                       clear H'
                       try clear c1
                       try clear p1
                       try clear q1
                       try clear hx1
                       try clear hf1
                       try clear c2
                       try clear c2b0
                       try clear c2b1
                       try clear p2
                       try clear c3
                       try clear c3b0
                       try clear c3b1
                       try clear p3
                       try clear c4
                       try clear p4
                       try clear q4
                       try clear hx4
                       try clear hf4
                       try clear c5
                       try clear c6
                       try clear c6b0
                       try clear p6
                       try clear c7
                       try clear c7b0
                       try clear c8
                       try clear c8b0
                       try clear c9
                       try clear c9b0
                       try clear c9b1
                       try clear c10
                       try clear c10b0
                       try clear c10b1
                       try clear p10
                       try clear q10
                       try clear hx10
                       try clear c11
                       try clear c11b0
                       try clear p11
                       try clear q11
                       try clear hx11
                       try clear c12
                       try clear p12
                       try clear q12
                       try clear hx12
                       try clear hf12
                       try clear c16
                       try clear hx16
                       try clear hf16
                       try clear c22
                       try clear c22b0
                       try clear c24
                       try clear c24b0
                       try clear c25
                       try clear c25b0
                       try clear c26
                       try clear c26b0
                       try clear c27
                       try clear c27b0
                       try clear c28
                       try clear c28b0
                       try clear c28b1
                       try clear c31
                       try clear c31b0
                       try clear c31b1
                       try clear c32
                       try clear c32b0
                       try clear c32b1
                       try clear c33
                       try clear c33b0
                       try clear c36
                       try clear c38
                       try clear c38b0
                       try clear c39
                       try clear c39b0
                       try clear c39b1
                       try clear c40
                       try clear c40b0
                       try clear c40b1
                       try clear c41
                       try clear c41b0
                       try clear c42
                       try clear c42b0
                       try clear p44
                       try clear q44
                       try clear hx44
                       try clear hf44
                       try clear c46
                       try clear q46
                       try clear hx105_0
                       try clear hx115_0
                       try clear hx116_0
                       try clear hx118_0
                       try clear hx119_0
                       try clear hx122_0
                       try clear hx123_0
                       try clear hx124_0
                       try clear hx125_0
                       try clear hx12_0
                       try clear hx16_0
                       try clear hx44_0
                       try clear p1
                       try clear p10
                       try clear p105
                       try clear p11
                       try clear p115
                       try clear p116
                       try clear p118
                       try clear p119
                       try clear p12
                       try clear p122
                       try clear p123
                       try clear p124
                       try clear p125
                       try clear p2
                       try clear p3
                       try clear p44
                       try clear p6
                       try clear q1
                       try clear q10
                       try clear q105
                       try clear q11
                       try clear q115
                       try clear q116
                       try clear q118
                       try clear q119
                       try clear q12
                       try clear q122
                       try clear q123
                       try clear q124
                       try clear q125
                       try clear q44
                       obtain ⟨x4_5, x116_5, rfl, HA, HK5, HO_4, HO_6, HB⟩ := hrel
                       have hl4_5 := (Kd.S_reads' HO_4.out).1
                       rw [hl4_5] at HO_4
                       (try simp only [hl4_5])
                       (try simp only [hl4_5] at HO_6)
                       cases gk with
                       | zero => exact absurd HA.out (by simp [matrix_reduce.l4])
                       | succ k5 =>
                        have H := HA.out
                        clear HA
                        simp only [matrix_reduce.l4] at H
                        by_cases c48 : x116_5 < (x4_4.length : Int)
                        ·rw [if_pos c48] at H
                         have c48b0 : decide (x116_5 < (x4_4.length : Int)) = true := decide_eq_true c48
                         clear c48
                         by_cases c49 : 0 ≤ x116_5
                         ·rw [if_pos c49] at H
                          have c49b0 : decide (0 ≤ x116_5) = true := decide_eq_true c49
                          clear c49
                          by_cases c50 : x116_5 < (x4_5.length : Int)
                          ·rw [if_pos c50] at H
                           have c50b0 : decide (x116_5 < (x4_5.length : Int)) = true := decide_eq_true c50
                           clear c50
                           by_cases c51 : 0 ≤ x45_2
                           ·rw [if_pos c51] at H
                            have c51b0 : decide (0 ≤ x45_2) = true := decide_eq_true c51
                            clear c51
                            by_cases c52 : x45_2 < ((rd_L1 x4_5 x116_5).length : Int)
                            ·rw [if_pos c52] at H
                             have c52b0 : decide (x45_2 < ((rd_L1 x4_5 x116_5).length : Int)) = true := decide_eq_true c52
                             clear c52
                             have HC53 := Aside0.mk H
                             clear H
                             have p133 : 0 ≤ (x116_5 : Int) := of_decide_eq_true (by first | (with_reducible assumption) | assumption)
                             have q133 : x116_5 < (x4_5.length : Int) := of_decide_eq_true (by first | (with_reducible assumption) | assumption)
                             obtain ⟨ad133, A133_0, c133_0, e133, hx133_0, hl133_0, hi133_0⟩ := at_L1 (Kd.S_reads' HO_4.out).2.2 x116_5 p133 q133
                             obtain rfl : ad115 = ad133 := (by injection e133)
                             obtain ⟨ce133, hce133, hMe133, hcc133⟩ := Kd.S_get HO_4.out [] x116_5 p133 (by first | exact q133 | exact of_decide_eq_true (by first | (with_reducible assumption) | assumption) | (have e_ := (Kd.S_reads' HO_4.out).1; omega))
                             obtain ⟨ve133_0, rfl, ge133_0⟩ := hMe133
                             have hv133_0 := hcc133 0 _ rfl
                             rw [Nat.add_zero, show ((Kd.slice 5 (Kd.int .u8))).sz = 1 from rfl, Nat.mul_one] at hv133_0
                             replace hv133_0 := Option.some.inj (hv133_0.symm.trans hx133_0)
                             rw [hv133_0] at ge133_0
                             have HL133_0 := Aside0.mk (show Kd.R (Kd.int .u8) 5 _ _ _ _ (rd_L1 x4_5 x116_5) from ge133_0)
                             clear hv133_0 ge133_0
                             have HX133_0 := Aside0.mk hx133_0
                             clear hcc133 hce133
                             have HR133_0 := Aside0.mk hi133_0
                             have HC133_0 := Aside0.mk hl133_0
                             clear hi133_0 hl133_0
                             replace p133 := eq_true p133
                             replace q133 := eq_true q133
                             have p134 : 0 ≤ (x45_2 : Int) := of_decide_eq_true (by first | (with_reducible assumption) | assumption)
                             have q134 : x45_2 < ((rd_L1 x4_5 x116_5).length : Int) := of_decide_eq_true (by first | (with_reducible assumption) | assumption)
                             obtain ⟨ad134, e134, hx134_0⟩ := Kd.at_int (by repeat (first | (with_reducible exact HR133_0.out) | (with_reducible refine Kd.C_alloc ?_ _) | (with_reducible refine Kd.C_drewN ?_ _) | (with_reducible refine Kd.C_drew ?_) | exact HR133_0.out)) x45_2 p134 q134
                             cases e134
                             replace p134 := eq_true p134
                             replace q134 := eq_true q134
                             go_upto_region 28 with (fail)
                             go_cut [132] (fun v132 wc => ∃ (kq : Nat) (x132_52 : Bool), v132 = .bool x132_52 ∧ Aside0 (matrix_reduce.j5 kq x4_5 x6_3 x45_2 (x6_2.length : Int) x116_5 (rd (rd_L1 x4_5 x116_5) x45_2) t111 x45_2 (x4_4.length : Int) x116_5 x132_52 = some (r1, r2)) ∧ Aside0 (kq ≤ k5) ∧ Aside0 (Kd.S (Kd.slice 5 (Kd.int .u8)) 43 wc w.heap.size (fun _ => True) (.slice (some ad115) x4_5.length co35) x4_5) ∧ Aside0 (Kd.R (Kd.int .i64) 3 wc w.heap.size (fun _ => True) u6 x6_3) ∧ Aside0 (Kd.C (Kd.int .u8) wc (some ad134) (rd_L1 x4_5 x116_5).length (rd_L1 x4_5 x116_5)) ∧ Aside0 (Below w.heap.size w wc))
                             case first =>
                              have H := HC53.out
                              clear HC53
                              by_cases c54 : x116_5 = (x6_2.length : Int)
                              ·rw [if_pos c54] at H
                               have c54b0 : (x116_5 == (x6_2.length : Int)) = true := beq_iff_eq.mpr c54
                               have c54b1 : (x116_5 != (x6_2.length : Int)) = false := bne_eq_false_iff_eq.mpr c54
                               clear c54
                               (first | rw [c54b0] | (simp only [i64_w, i32_w]; rw [c54b0]) | skip)
                               have H' := Aside0.mk H
                               clear H
                               go_wp2_with (first | (go_step3))
                               go_meet
                               case rel => exact ⟨_, (false), (by first | rfl | (simp; done) | (simp [*]; done)), H', ⟨by have := HK1.out; have := HK2.out; have := HK3.out; have := HK4.out; have := HK5.out; first | omega | exact Nat.le_refl _⟩, ⟨by (try simp only [hl4_4]); (try simp only [hl4_5]); (with_reducible repeat (first | apply Kd.S_alloc | apply Kd.S_drewN | apply Kd.S_drew)); exact HO_4.out⟩, ⟨by (try simp only [hl4_4]); (try simp only [hl4_5]); (with_reducible repeat (first | apply Kd.R_alloc | apply Kd.R_drewN | apply Kd.R_drew)); exact HO_6.out⟩, ⟨by repeat (first | (with_reducible exact HR133_0.out) | (with_reducible refine Kd.C_alloc ?_ _) | (with_reducible refine Kd.C_drewN ?_ _) | (with_reducible refine Kd.C_drew ?_) | exact HR133_0.out)⟩, ⟨by repeat (first | (with_reducible first | exact HB.out | apply below_alloc | apply pw_below_drewN | apply below_drew1) | exact HB.out)⟩⟩
                              ·rw [if_neg c54] at H
                               have c54b0 : (x116_5 == (x6_2.length : Int)) = false := beq_eq_false_iff_ne.mpr c54
                               have c54b1 : (x116_5 != (x6_2.length : Int)) = true := bne_iff_ne.mpr c54
                               (first | rw [c54b0] | (simp only [i64_w, i32_w]; rw [c54b0]) | skip)
                               have H' := Aside0.mk H
                               clear H
                               go_wp2_with (first | (go_step3))
                               go_meet
                               case rel => exact ⟨_, (((rd (rd_L1 x4_5 x116_5) x45_2) != 0)), (by first | rfl | (simp; done) | (simp [*]; done)), H', ⟨by have := HK1.out; have := HK2.out; have := HK3.out; have := HK4.out; have := HK5.out; first | omega | exact Nat.le_refl _⟩, ⟨by (try simp only [hl4_4]); (try simp only [hl4_5]); (with_reducible repeat (first | apply Kd.S_alloc | apply Kd.S_drewN | apply Kd.S_drew)); exact HO_4.out⟩, ⟨by (try simp only [hl4_4]); (try simp only [hl4_5]); (with_reducible repeat (first | apply Kd.R_alloc | apply Kd.R_drewN | apply Kd.R_drew)); exact HO_6.out⟩, ⟨by repeat (first | (with_reducible exact HR133_0.out) | (with_reducible refine Kd.C_alloc ?_ _) | (with_reducible refine Kd.C_drewN ?_ _) | (with_reducible refine Kd.C_drew ?_) | exact HR133_0.out)⟩, ⟨by repeat (first | (with_reducible first | exact HB.out | apply below_alloc | apply pw_below_drewN | apply below_drew1) | exact HB.out)⟩⟩
                             case rest =>
                              clear HC53
                              try clear c1
                              try clear p1
                              try clear q1
                              try clear hx1
                              try clear hf1
                              try clear c2
                              try clear c2b0
                              try clear c2b1
                              try clear p2
                              try clear c3
                              try clear c3b0
                              try clear c3b1
                              try clear p3
                              try clear c4
                              try clear p4
                              try clear q4
                              try clear hx4
                              try clear hf4
                              try clear c5
                              try clear c6
                              try clear c6b0
                              try clear p6
                              try clear c7
                              try clear c7b0
                              try clear c8
                              try clear c8b0
                              try clear c9
                              try clear c9b0
                              try clear c9b1
                              try clear c10
                              try clear c10b0
                              try clear c10b1
                              try clear p10
                              try clear q10
                              try clear hx10
                              try clear c11
                              try clear c11b0
                              try clear p11
                              try clear q11
                              try clear hx11
                              try clear c12
                              try clear p12
                              try clear q12
                              try clear hx12
                              try clear hf12
                              try clear c13
                              try clear p13
                              try clear q13
                              try clear hx13
                              try clear c16
                              try clear hx16
                              try clear hf16
                              try clear c22
                              try clear c22b0
                              try clear c24
                              try clear c24b0
                              try clear c25
                              try clear c25b0
                              try clear c26
                              try clear c26b0
                              try clear c27
                              try clear c27b0
                              try clear c28
                              try clear c28b0
                              try clear c28b1
                              try clear c31
                              try clear c31b0
                              try clear c31b1
                              try clear c32
                              try clear c32b0
                              try clear c32b1
                              try clear c33
                              try clear c33b0
                              try clear c36
                              try clear c38
                              try clear c38b0
                              try clear c39
                              try clear c39b0
                              try clear c39b1
                              try clear c40
                              try clear c40b0
                              try clear c40b1
                              try clear c41
                              try clear c41b0
                              try clear c42
                              try clear c42b0
                              try clear p44
                              try clear q44
                              try clear hx44
                              try clear hf44
                              try clear c46
                              try clear q46
                              try clear c48
                              try clear c48b0
                              try clear c49
                              try clear c49b0
                              try clear c50
                              try clear c50b0
                              try clear c51
                              try clear c51b0
                              try clear c52
                              try clear c52b0
                              try clear c54
                              try clear c54b0
                              try clear c54b1
                              try clear hx105_0
                              try clear hx115_0
                              try clear hx116_0
                              try clear hx118_0
                              try clear hx119_0
                              try clear hx122_0
                              try clear hx123_0
                              try clear hx124_0
                              try clear hx125_0
                              try clear hx12_0
                              try clear hx133_0
                              try clear hx134_0
                              try clear hx16_0
                              try clear hx44_0
                              try clear p1
                              try clear p10
                              try clear p105
                              try clear p11
                              try clear p115
                              try clear p116
                              try clear p118
                              try clear p119
                              try clear p12
                              try clear p122
                              try clear p123
                              try clear p124
                              try clear p125
                              try clear p133
                              try clear p134
                              try clear p2
                              try clear p3
                              try clear p4
                              try clear p44
                              try clear p6
                              try clear q1
                              try clear q10
                              try clear q105
                              try clear q11
                              try clear q115
                              try clear q116
                              try clear q118
                              try clear q119
                              try clear q12
                              try clear q122
                              try clear q123
                              try clear q124
                              try clear q125
                              try clear q133
                              try clear q134
                              try clear q4
                              try clear q44
                              try clear q46
                              obtain ⟨kq, x132_52, rfl, HA, HJ52, HO_4, HO_6, HR133_0, HB⟩ := hcut
                              cases kq with
                              | zero => exact absurd HA.out (by simp [matrix_reduce.j5])
                              | succ kj52 =>
                               have H := HA.out
                               clear HA
                               simp only [matrix_reduce.j5] at H
                               by_cases c55 : x132_52 = true
                               ·subst c55
                                have H1 : (if 0 ≤ x116_5 then (if x116_5 < (x4_5.length : Int) then (matrix_reduce.l5 kj52 x4_5 x6_3 x45_2 (x6_2.length : Int) x116_5 (rd (rd_L1 x4_5 x116_5) x45_2) t111 x45_2 (x4_4.length : Int) x116_5 ((rd_L1 x4_5 x116_5).length : Int) 0) else (none)) else (none)) = some (r1, r2) := by rw [if_pos rfl] at H; exact H
                                clear H
                                have H := H1
                                clear H1
                                by_cases c56 : 0 ≤ x116_5
                                ·rw [if_pos c56] at H
                                 have c56b0 : decide (0 ≤ x116_5) = true := decide_eq_true c56
                                 clear c56
                                 by_cases c57 : x116_5 < (x4_5.length : Int)
                                 ·rw [if_pos c57] at H
                                  have c57b0 : decide (x116_5 < (x4_5.length : Int)) = true := decide_eq_true c57
                                  clear c57
                                  have H' := Aside0.mk H
                                  clear H
                                  have p135 : 0 ≤ (x116_5 : Int) := of_decide_eq_true (by first | (with_reducible assumption) | assumption)
                                  have q135 : x116_5 < (x4_5.length : Int) := of_decide_eq_true (by first | (with_reducible assumption) | assumption)
                                  obtain ⟨ad135, A135_0, c135_0, e135, hx135_0, hl135_0, hi135_0⟩ := at_L1 (Kd.S_reads' HO_4.out).2.2 x116_5 p135 q135
                                  obtain rfl : ad115 = ad135 := (by injection e135)
                                  obtain ⟨ce135, hce135, hMe135, hcc135⟩ := Kd.S_get HO_4.out [] x116_5 p135 (by first | exact q135 | exact of_decide_eq_true (by first | (with_reducible assumption) | assumption) | (have e_ := (Kd.S_reads' HO_4.out).1; omega))
                                  obtain ⟨ve135_0, rfl, ge135_0⟩ := hMe135
                                  have hv135_0 := hcc135 0 _ rfl
                                  rw [Nat.add_zero, show ((Kd.slice 5 (Kd.int .u8))).sz = 1 from rfl, Nat.mul_one] at hv135_0
                                  replace hv135_0 := Option.some.inj (hv135_0.symm.trans hx135_0)
                                  rw [hv135_0] at ge135_0
                                  have HL135_0 := Aside0.mk (show Kd.R (Kd.int .u8) 5 _ _ _ _ (rd_L1 x4_5 x116_5) from ge135_0)
                                  clear hv135_0 ge135_0
                                  have HX135_0 := Aside0.mk hx135_0
                                  clear hcc135 hce135
                                  have HR135_0 := Aside0.mk hi135_0
                                  have HC135_0 := Aside0.mk hl135_0
                                  clear hi135_0 hl135_0
                                  replace p135 := eq_true p135
                                  replace q135 := eq_true q135
                                  go_wp2_with (first | (go_step3))
                                  go_loopg [138] kj52 (fun kq v138 w' => ∃ (x4_7 : List (List Int)) (x138_7 : Int), v138 = .int .i64 x138_7 ∧ Aside0 (matrix_reduce.l5 kq x4_7 x6_3 x45_2 (x6_2.length : Int) x116_5 (rd (rd_L1 x4_5 x116_5) x45_2) t111 x45_2 (x4_4.length : Int) x116_5 ((rd_L1 x4_5 x116_5).length : Int) x138_7 = some (r1, r2)) ∧ Aside0 (kq ≤ kj52) ∧ Aside0 (Kd.S (Kd.slice 5 (Kd.int .u8)) 43 w' w.heap.size (fun _ => True) (.slice (some ad115) x4_5.length co35) x4_7) ∧ Aside0 (Kd.R (Kd.int .i64) 3 w' w.heap.size (fun _ => True) u6 x6_3) ∧ Aside0 (Below w.heap.size w w'))
                                  case atStart => exact ⟨(x4_5), (0), (by first | rfl | (simp; done) | (simp [*]; done)), H', ⟨Nat.le_refl _⟩, ⟨by (try simp only [hl4_4]); (try simp only [hl4_5]); (with_reducible repeat (first | apply Kd.S_alloc | apply Kd.S_drewN | apply Kd.S_drew)); exact HO_4.out⟩, ⟨by (try simp only [hl4_4]); (try simp only [hl4_5]); (with_reducible repeat (first | apply Kd.R_alloc | apply Kd.R_drewN | apply Kd.R_drew)); exact HO_6.out⟩, ⟨by repeat (first | (with_reducible first | exact HB.out | apply below_alloc | apply pw_below_drewN | apply below_drew1) | exact HB.out)⟩⟩
                                  case round =>
                                   clear H'
                                   try clear c1
                                   try clear p1
                                   try clear q1
                                   try clear hx1
                                   try clear hf1
                                   try clear c2
                                   try clear c2b0
                                   try clear c2b1
                                   try clear p2
                                   try clear c3
                                   try clear c3b0
                                   try clear c3b1
                                   try clear p3
                                   try clear c4
                                   try clear p4
                                   try clear q4
                                   try clear hx4
                                   try clear hf4
                                   try clear c5
                                   try clear c6
                                   try clear c6b0
                                   try clear p6
                                   try clear c7
                                   try clear c7b0
                                   try clear c8
                                   try clear c8b0
                                   try clear c9
                                   try clear c9b0
                                   try clear c9b1
                                   try clear c10
                                   try clear c10b0
                                   try clear c10b1
                                   try clear p10
                                   try clear q10
                                   try clear hx10
                                   try clear c11
                                   try clear c11b0
                                   try clear p11
                                   try clear q11
                                   try clear hx11
                                   try clear c12
                                   try clear p12
                                   try clear q12
                                   try clear hx12
                                   try clear hf12
                                   try clear c13
                                   try clear p13
                                   try clear q13
                                   try clear hx13
                                   try clear c16
                                   try clear hx16
                                   try clear hf16
                                   try clear c22
                                   try clear c22b0
                                   try clear c24
                                   try clear c24b0
                                   try clear c25
                                   try clear c25b0
                                   try clear c26
                                   try clear c26b0
                                   try clear c27
                                   try clear c27b0
                                   try clear c28
                                   try clear c28b0
                                   try clear c28b1
                                   try clear c31
                                   try clear c31b0
                                   try clear c31b1
                                   try clear c32
                                   try clear c32b0
                                   try clear c32b1
                                   try clear c33
                                   try clear c33b0
                                   try clear c36
                                   try clear c38
                                   try clear c38b0
                                   try clear c39
                                   try clear c39b0
                                   try clear c39b1
                                   try clear c40
                                   try clear c40b0
                                   try clear c40b1
                                   try clear c41
                                   try clear c41b0
                                   try clear c42
                                   try clear c42b0
                                   try clear p44
                                   try clear q44
                                   try clear hx44
                                   try clear hf44
                                   try clear c46
                                   try clear q46
                                   try clear c48
                                   try clear c48b0
                                   try clear c49
                                   try clear c49b0
                                   try clear c50
                                   try clear c50b0
                                   try clear c51
                                   try clear c51b0
                                   try clear c52
                                   try clear c52b0
                                   try clear c54
                                   try clear c54b0
                                   try clear c54b1
                                   try clear c55
                                   try clear c56
                                   try clear c56b0
                                   try clear c57
                                   try clear c57b0
                                   try clear hx105_0
                                   try clear hx115_0
                                   try clear hx116_0
                                   try clear hx118_0
                                   try clear hx119_0
                                   try clear hx122_0
                                   try clear hx123_0
                                   try clear hx124_0
                                   try clear hx125_0
                                   try clear hx12_0
                                   try clear hx133_0
                                   try clear hx134_0
                                   try clear hx135_0
                                   try clear hx16_0
                                   try clear hx44_0
                                   try clear p1
                                   try clear p10
                                   try clear p105
                                   try clear p11
                                   try clear p115
                                   try clear p116
                                   try clear p118
                                   try clear p119
                                   try clear p12
                                   try clear p122
                                   try clear p123
                                   try clear p124
                                   try clear p125
                                   try clear p13
                                   try clear p133
                                   try clear p134
                                   try clear p135
                                   try clear p2
                                   try clear p3
                                   try clear p4
                                   try clear p44
                                   try clear p6
                                   try clear q1
                                   try clear q10
                                   try clear q105
                                   try clear q11
                                   try clear q115
                                   try clear q116
                                   try clear q118
                                   try clear q119
                                   try clear q12
                                   try clear q122
                                   try clear q123
                                   try clear q124
                                   try clear q125
                                   try clear q13
                                   try clear q133
                                   try clear q134
                                   try clear q135
                                   try clear q4
                                   try clear q44
                                   try clear q46
                                   obtain ⟨x4_7, x138_7, rfl, HA, HK7, HO_4, HO_6, HB⟩ := hrel
                                   have hl4_7 := (Kd.S_reads' HO_4.out).1
                                   rw [hl4_7] at HO_4
                                   (try simp only [hl4_7])
                                   (try simp only [hl4_7] at HO_6)
                                   cases gk with
                                   | zero => exact absurd HA.out (by simp [matrix_reduce.l5])
                                   | succ k7 =>
                                    have H := HA.out
                                    clear HA
                                    simp only [matrix_reduce.l5] at H
                                    by_cases c58 : x138_7 < ((rd_L1 x4_5 x116_5).length : Int)
                                    ·rw [if_pos c58] at H
                                     have c58b0 : decide (x138_7 < ((rd_L1 x4_5 x116_5).length : Int)) = true := decide_eq_true c58
                                     clear c58
                                     by_cases c59 : 0 ≤ x116_5
                                     ·rw [if_pos c59] at H
                                      have c59b0 : decide (0 ≤ x116_5) = true := decide_eq_true c59
                                      clear c59
                                      by_cases c60 : x116_5 < (x4_7.length : Int)
                                      ·rw [if_pos c60] at H
                                       have c60b0 : decide (x116_5 < (x4_7.length : Int)) = true := decide_eq_true c60
                                       clear c60
                                       by_cases c61 : 0 ≤ x138_7
                                       ·rw [if_pos c61] at H
                                        have c61b0 : decide (0 ≤ x138_7) = true := decide_eq_true c61
                                        clear c61
                                        by_cases c62 : x138_7 < ((rd_L1 x4_7 x116_5).length : Int)
                                        ·rw [if_pos c62] at H
                                         have c62b0 : decide (x138_7 < ((rd_L1 x4_7 x116_5).length : Int)) = true := decide_eq_true c62
                                         clear c62
                                         by_cases c63 : 0 ≤ (x6_2.length : Int)
                                         ·rw [if_pos c63] at H
                                          have c63b0 : decide (0 ≤ (x6_2.length : Int)) = true := decide_eq_true c63
                                          have c63b1 : decide (0 ≤ x6_2.length) = true := decide_eq_true (by omega)
                                          clear c63
                                          by_cases c64 : (x6_2.length : Int) < (x4_7.length : Int)
                                          ·rw [if_pos c64] at H
                                           have c64b0 : decide ((x6_2.length : Int) < (x4_7.length : Int)) = true := decide_eq_true c64
                                           have c64b1 : decide (x6_2.length < x4_7.length) = true := decide_eq_true (Int.ofNat_lt.mp c64)
                                           clear c64
                                           by_cases c65 : x138_7 < ((rd_L1 x4_7 (x6_2.length : Int)).length : Int)
                                           ·rw [if_pos c65] at H
                                            have c65b0 : decide (x138_7 < ((rd_L1 x4_7 (x6_2.length : Int)).length : Int)) = true := decide_eq_true c65
                                            clear c65
                                            replace H := Option.bind_eq_some_iff.mp H
                                            obtain ⟨t140, A660, H⟩ := H
                                            replace H : (matrix_reduce.l5 k7 (x4_7.set (x116_5 : Int).toNat ((rd_L1 x4_7 x116_5).set (x138_7 : Int).toNat (Go.bits .xor .u8 (rd (rd_L1 x4_7 x116_5) x138_7) t140))) x6_3 x45_2 (x6_2.length : Int) x116_5 (rd (rd_L1 x4_5 x116_5) x45_2) t111 x45_2 (x4_4.length : Int) x116_5 ((rd_L1 x4_5 x116_5).length : Int) (wrap64 (x138_7 + 1))) = some (r1, r2) := H
                                            have A66 := Aside0.mk A660
                                            clear A660
                                            obtain ⟨y141, hy141⟩ : ∃ y_ : List Int, y_ = ((rd_L1 x4_7 x116_5).set (x138_7 : Int).toNat (Go.bits .xor .u8 (rd (rd_L1 x4_7 x116_5) x138_7) t140)) := ⟨_, rfl⟩
                                            replace H : (matrix_reduce.l5 k7 (x4_7.set (x116_5 : Int).toNat y141) x6_3 x45_2 (x6_2.length : Int) x116_5 (rd (rd_L1 x4_5 x116_5) x45_2) t111 x45_2 (x4_4.length : Int) x116_5 ((rd_L1 x4_5 x116_5).length : Int) (wrap64 (x138_7 + 1))) = some (r1, r2) := by first | (rw [hy141]; with_reducible exact H) | (have H2_ := (Option.bind_some _ _).symm.trans H; rw [hy141]; with_reducible exact H2_) | (have H2_ := (Option.bind_some _ _).symm.trans H; with_reducible exact H2_) | with_reducible exact H | (rw [hy141]; exact H) | exact H
                                            have Ny141 := Aside0.mk hy141
                                            clear hy141
                                            obtain ⟨y143, hy143⟩ : ∃ y_ : List (List Int), y_ = (x4_7.set (x116_5 : Int).toNat y141) := ⟨_, rfl⟩
                                            replace H : (matrix_reduce.l5 k7 y143 x6_3 x45_2 (x6_2.length : Int) x116_5 (rd (rd_L1 x4_5 x116_5) x45_2) t111 x45_2 (x4_4.length : Int) x116_5 ((rd_L1 x4_5 x116_5).length : Int) (wrap64 (x138_7 + 1))) = some (r1, r2) := by first | (rw [hy143]; with_reducible exact H) | (have H2_ := (Option.bind_some _ _).symm.trans H; rw [hy143]; with_reducible exact H2_) | (have H2_ := (Option.bind_some _ _).symm.trans H; with_reducible exact H2_) | with_reducible exact H | (rw [hy143]; exact H) | exact H
                                            have Ny143 := Aside0.mk hy143
                                            clear hy143
                                            have H' := Aside0.mk H
                                            clear H
                                            try go_wp2_with (first | (go_step3))
                                            have n0_ := Aside0.mk (Kd.S_drew HO_4.out)
                                            have n1_ := Aside0.mk (Kd.R_drew HO_6.out)
                                            have n2_ := Aside0.mk (below_drew1 HB.out)
                                            clear HO_4
                                            clear HO_6
                                            clear HB
                                            have HO_4 := n0_
                                            have HO_6 := n1_
                                            have HB := n2_
                                            clear n0_ n1_ n2_
                                            have p136 : 0 ≤ (x116_5 : Int) := of_decide_eq_true (by first | (with_reducible assumption) | assumption)
                                            have q136 : x116_5 < (x4_7.length : Int) := of_decide_eq_true (by first | (with_reducible assumption) | assumption)
                                            obtain ⟨ad136, A136_0, c136_0, e136, hx136_0, hl136_0, hi136_0⟩ := at_L1 (Kd.S_reads' HO_4.out).2.2 x116_5 p136 q136
                                            obtain rfl : ad115 = ad136 := (by injection e136)
                                            obtain ⟨ce136, hce136, hMe136, hcc136⟩ := Kd.S_get HO_4.out [] x116_5 p136 (by first | exact q136 | exact of_decide_eq_true (by first | (with_reducible assumption) | assumption) | (have e_ := (Kd.S_reads' HO_4.out).1; omega))
                                            obtain ⟨ve136_0, rfl, ge136_0⟩ := hMe136
                                            have hv136_0 := hcc136 0 _ rfl
                                            rw [Nat.add_zero, show ((Kd.slice 5 (Kd.int .u8))).sz = 1 from rfl, Nat.mul_one] at hv136_0
                                            replace hv136_0 := Option.some.inj (hv136_0.symm.trans hx136_0)
                                            rw [hv136_0] at ge136_0
                                            have HL136_0 := Aside0.mk (show Kd.R (Kd.int .u8) 5 _ _ _ _ (rd_L1 x4_7 x116_5) from ge136_0)
                                            clear hv136_0 ge136_0
                                            have HX136_0 := Aside0.mk hx136_0
                                            clear hcc136 hce136
                                            have HR136_0 := Aside0.mk hi136_0
                                            have HC136_0 := Aside0.mk hl136_0
                                            clear hi136_0 hl136_0
                                            replace p136 := eq_true p136
                                            replace q136 := eq_true q136
                                            have p137 : 0 ≤ (x138_7 : Int) := of_decide_eq_true (by first | (with_reducible assumption) | assumption)
                                            have q137 : x138_7 < ((rd_L1 x4_7 x116_5).length : Int) := of_decide_eq_true (by first | (with_reducible assumption) | assumption)
                                            obtain ⟨ad137, e137, hx137_0⟩ := Kd.at_int (by repeat (first | (with_reducible exact HR136_0.out) | (with_reducible refine Kd.C_alloc ?_ _) | (with_reducible refine Kd.C_drewN ?_ _) | (with_reducible refine Kd.C_drew ?_) | exact HR136_0.out)) x138_7 p137 q137
                                            cases e137
                                            replace p137 := eq_true p137
                                            replace q137 := eq_true q137
                                            have p138 : 0 ≤ ((x6_2.length : Int) : Int) := of_decide_eq_true (by first | (with_reducible assumption) | assumption)
                                            have q138 : (x6_2.length : Int) < (x4_7.length : Int) := of_decide_eq_true (by first | (with_reducible assumption) | assumption)
                                            obtain ⟨ad138, A138_0, c138_0, e138, hx138_0, hl138_0, hi138_0⟩ := at_L1 (Kd.S_reads' HO_4.out).2.2 (x6_2.length : Int) p138 q138
                                            obtain rfl : ad115 = ad138 := (by injection e138)
                                            obtain ⟨ce138, hce138, hMe138, hcc138⟩ := Kd.S_get HO_4.out [] (x6_2.length : Int) p138 (by first | exact q138 | exact of_decide_eq_true (by first | (with_reducible assumption) | assumption) | (have e_ := (Kd.S_reads' HO_4.out).1; omega))
                                            obtain ⟨ve138_0, rfl, ge138_0⟩ := hMe138
                                            have hv138_0 := hcc138 0 _ rfl
                                            rw [Nat.add_zero, show ((Kd.slice 5 (Kd.int .u8))).sz = 1 from rfl, Nat.mul_one] at hv138_0
                                            replace hv138_0 := Option.some.inj (hv138_0.symm.trans hx138_0)
                                            rw [hv138_0] at ge138_0
                                            have HL138_0 := Aside0.mk (show Kd.R (Kd.int .u8) 5 _ _ _ _ (rd_L1 x4_7 (x6_2.length : Int)) from ge138_0)
                                            clear hv138_0 ge138_0
                                            have HX138_0 := Aside0.mk hx138_0
                                            clear hcc138 hce138
                                            have HR138_0 := Aside0.mk hi138_0
                                            have HC138_0 := Aside0.mk hl138_0
                                            clear hi138_0 hl138_0
                                            (try simp only [Go.IntWalk.toNatUp] at hx138_0)
                                            (try simp only [hl4_4, hl4_5, hl4_7] at p138)
                                            (try simp only [hl4_4, hl4_5, hl4_7] at q138)
                                            (try simp only [hl4_4, hl4_5, hl4_7] at hx138_0)
                                            replace p138 := eq_true p138
                                            replace q138 := eq_true q138
                                            have p139 : 0 ≤ (x138_7 : Int) := of_decide_eq_true (by first | (with_reducible assumption) | assumption)
                                            have q139 : x138_7 < ((rd_L1 x4_7 (x6_2.length : Int)).length : Int) := of_decide_eq_true (by first | (with_reducible assumption) | assumption)
                                            obtain ⟨ad139, e139, hx139_0⟩ := Kd.at_int (by repeat (first | (with_reducible exact HR138_0.out) | (with_reducible refine Kd.C_alloc ?_ _) | (with_reducible refine Kd.C_drewN ?_ _) | (with_reducible refine Kd.C_drew ?_) | exact HR138_0.out)) x138_7 p139 q139
                                            cases e139
                                            replace p139 := eq_true p139
                                            replace q139 := eq_true q139
                                            refine start_ (n := 19) (S := fun w' => w'.cell? (ad115.add (x116_5).toNat) = some (.slice (some ad137) (rd_L1 x4_7 x116_5).length c136_0) ∧ w'.cell? (ad137.add (x138_7).toNat) = some (.int .u8 (rd (rd_L1 x4_7 x116_5) x138_7)) ∧ w'.cell? (ad115.add ((x6_2.length : Int)).toNat) = some (.slice (some ad139) (rd_L1 x4_7 (x6_2.length : Int)).length c138_0) ∧ w'.cell? (ad139.add (x138_7).toNat) = some (.int .u8 (rd (rd_L1 x4_7 (x6_2.length : Int)) x138_7))) (ds := [18]) #[false, false, false, false, false, false, false, false, false, false, false, false, false, false, false, false, false, false, false] (by kernel_rfl) rfl rfl ⟨hx136_0, hx137_0, hx138_0, hx139_0⟩ (fun hHeld => ?_); refine with_tabW matrix_reduce.tab32 matrix_reduce.bits32 (fun HT_ HW_ => ?_)
                                            generalize wr.drew = w68 at HO_4 HO_6 HB HL136_0 HL138_0 HR136_0 HR138_0 HX136_0 HX138_0 hx136_0 hx137_0 hx138_0 hx139_0 hHeld ⊢
                                            refine pure_ (i := 0) (N := some 141) (v := ?_) (a' := ?_) #[true, false, false, false, false, false, false, false, false, false, false, false, false, false, false, false, false, false, false] rfl rfl (any_of HT_.out (by kernel_rfl)) (fun _ _ _ h => h) (Or.inl ⟨by rfl, ?_⟩) ?_ ?_
                                            rotate_left
                                            ·intro w'
                                             go_simp
                                             with_reducible rfl
                                            rotate_left
                                            ·simp only [Act.put, List.setIfInBounds_toArray, List.set_cons_zero, List.set_cons_succ, i64_w, i32_w]
                                             rfl
                                            refine pure_ (i := 1) (N := some 142) (v := ?_) (a' := ?_) #[true, true, false, false, false, false, false, false, false, false, false, false, false, false, false, false, false, false, false] rfl rfl (any_of HT_.out (by kernel_rfl)) (fun _ _ _ h => h) (Or.inl ⟨by rfl, ?_⟩) ?_ ?_
                                            rotate_left
                                            ·intro w'
                                             go_simp
                                             with_reducible rfl
                                            rotate_left
                                            ·simp only [Act.put, List.setIfInBounds_toArray, List.set_cons_zero, List.set_cons_succ, i64_w, i32_w]
                                             rfl
                                            refine pure_ (i := 2) (N := some 143) (v := ?_) (a' := ?_) #[true, true, true, false, false, false, false, false, false, false, false, false, false, false, false, false, false, false, false] rfl rfl (any_of HT_.out (by kernel_rfl)) (fun _ _ _ h => h) (Or.inl ⟨by rfl, ?_⟩) ?_ ?_
                                            rotate_left
                                            ·intro w'
                                             go_simp
                                             with_reducible rfl
                                            rotate_left
                                            ·simp only [Act.put, List.setIfInBounds_toArray, List.set_cons_zero, List.set_cons_succ, i64_w, i32_w]
                                             rfl
                                            refine pure_ (i := 4) (N := some 145) (v := ?_) (a' := ?_) #[true, true, true, false, true, false, false, false, false, false, false, false, false, false, false, false, false, false, false] rfl rfl (any_of HT_.out (by kernel_rfl)) (fun _ _ _ h => h) (Or.inl ⟨by rfl, ?_⟩) ?_ ?_
                                            rotate_left
                                            ·intro w'
                                             go_simp
                                             with_reducible rfl
                                            rotate_left
                                            ·simp only [Act.put, List.setIfInBounds_toArray, List.set_cons_zero, List.set_cons_succ, i64_w, i32_w]
                                             rfl
                                            refine pure_ (i := 7) (N := some 148) (v := ?_) (a' := ?_) #[true, true, true, false, true, false, false, true, false, false, false, false, false, false, false, false, false, false, false] rfl rfl (any_of HT_.out (by kernel_rfl)) (fun _ _ _ h => h) (Or.inl ⟨by rfl, ?_⟩) ?_ ?_
                                            rotate_left
                                            ·intro w'
                                             go_simp
                                             with_reducible rfl
                                            rotate_left
                                            ·simp only [Act.put, List.setIfInBounds_toArray, List.set_cons_zero, List.set_cons_succ, i64_w, i32_w]
                                             rfl
                                            refine pure_ (i := 8) (N := some 149) (v := ?_) (a' := ?_) #[true, true, true, false, true, false, false, true, true, false, false, false, false, false, false, false, false, false, false] rfl rfl (any_of HT_.out (by kernel_rfl)) (fun _ _ _ h => h) (Or.inl ⟨by rfl, ?_⟩) ?_ ?_
                                            rotate_left
                                            ·intro w'
                                             go_simp
                                             with_reducible rfl
                                            rotate_left
                                            ·simp only [Act.put, List.setIfInBounds_toArray, List.set_cons_zero, List.set_cons_succ, i64_w, i32_w]
                                             rfl
                                            refine pure_ (i := 9) (N := some 150) (v := ?_) (a' := ?_) #[true, true, true, false, true, false, false, true, true, true, false, false, false, false, false, false, false, false, false] rfl rfl (any_of HT_.out (by kernel_rfl)) (fun _ _ _ h => h) (Or.inl ⟨by rfl, ?_⟩) ?_ ?_
                                            rotate_left
                                            ·intro w'
                                             go_simp
                                             with_reducible rfl
                                            rotate_left
                                            ·simp only [Act.put, List.setIfInBounds_toArray, List.set_cons_zero, List.set_cons_succ, i64_w, i32_w]
                                             rfl
                                            refine pure_ (i := 10) (N := some 151) (v := ?_) (a' := ?_) #[true, true, true, false, true, false, false, true, true, true, true, false, false, false, false, false, false, false, false] rfl rfl (any_of HT_.out (by kernel_rfl)) (fun _ _ _ h => h) (Or.inl ⟨by rfl, ?_⟩) ?_ ?_
                                            rotate_left
                                            ·intro w'
                                             go_simp
                                             with_reducible rfl
                                            rotate_left
                                            ·simp only [Act.put, List.setIfInBounds_toArray, List.set_cons_zero, List.set_cons_succ, i64_w, i32_w]
                                             rfl
                                            refine pure_ (i := 12) (N := some 153) (v := ?_) (a' := ?_) #[true, true, true, false, true, false, false, true, true, true, true, false, true, false, false, false, false, false, false] rfl rfl (any_of HT_.out (by kernel_rfl)) (fun _ _ _ h => h) (Or.inl ⟨by rfl, ?_⟩) ?_ ?_
                                            rotate_left
                                            ·intro w'
                                             go_simp
                                             with_reducible rfl
                                            rotate_left
                                            ·simp only [Act.put, List.setIfInBounds_toArray, List.set_cons_zero, List.set_cons_succ, i64_w, i32_w]
                                             rfl
                                            refine take_ (i := 3) (N := some 144) (v := ?_) (a' := ?_) #[true, true, true, true, true, false, false, true, true, true, true, false, true, false, false, false, false, false, false] rfl rfl (take_ofW HT_.out HW_.out (by kernel_rfl)) (fun _ _ _ h => h) (Or.inl ⟨by rfl, ?_⟩) hHeld ?_ ?_
                                            rotate_left
                                            ·rintro w' ⟨s0, s1, s2, s3⟩
                                             (try simp only [Int.toNat_natCast] at s0 s1 s2 s3)
                                             go_simp
                                             with_reducible rfl
                                            rotate_left
                                            ·simp only [Act.put, List.setIfInBounds_toArray, List.set_cons_zero, List.set_cons_succ, i64_w, i32_w]
                                             rfl
                                            refine pure_ (i := 5) (N := some 146) (v := ?_) (a' := ?_) #[true, true, true, true, true, true, false, true, true, true, true, false, true, false, false, false, false, false, false] rfl rfl (any_of HT_.out (by kernel_rfl)) (fun _ _ _ h => h) (Or.inl ⟨by rfl, ?_⟩) ?_ ?_
                                            rotate_left
                                            ·intro w'
                                             go_simp
                                             with_reducible rfl
                                            rotate_left
                                            ·simp only [Act.put, List.setIfInBounds_toArray, List.set_cons_zero, List.set_cons_succ, i64_w, i32_w]
                                             rfl
                                            refine take_ (i := 6) (N := some 147) (v := ?_) (a' := ?_) #[true, true, true, true, true, true, true, true, true, true, true, false, true, false, false, false, false, false, false] rfl rfl (take_ofW HT_.out HW_.out (by kernel_rfl)) (fun _ _ _ h => h) (Or.inl ⟨by rfl, ?_⟩) hHeld ?_ ?_
                                            rotate_left
                                            ·rintro w' ⟨s0, s1, s2, s3⟩
                                             (try simp only [Int.toNat_natCast] at s0 s1 s2 s3)
                                             go_simp
                                             with_reducible rfl
                                            rotate_left
                                            ·simp only [Act.put, List.setIfInBounds_toArray, List.set_cons_zero, List.set_cons_succ, i64_w, i32_w]
                                             rfl
                                            refine take_ (i := 11) (N := some 152) (v := ?_) (a' := ?_) #[true, true, true, true, true, true, true, true, true, true, true, true, true, false, false, false, false, false, false] rfl rfl (take_ofW HT_.out HW_.out (by kernel_rfl)) (fun _ _ _ h => h) (Or.inl ⟨by rfl, ?_⟩) hHeld ?_ ?_
                                            rotate_left
                                            ·rintro w' ⟨s0, s1, s2, s3⟩
                                             (try simp only [Int.toNat_natCast] at s0 s1 s2 s3)
                                             go_simp
                                             with_reducible rfl
                                            rotate_left
                                            ·simp only [Act.put, List.setIfInBounds_toArray, List.set_cons_zero, List.set_cons_succ, i64_w, i32_w]
                                             rfl
                                            refine pure_ (i := 13) (N := some 154) (v := ?_) (a' := ?_) #[true, true, true, true, true, true, true, true, true, true, true, true, true, true, false, false, false, false, false] rfl rfl (any_of HT_.out (by kernel_rfl)) (fun _ _ _ h => h) (Or.inl ⟨by rfl, ?_⟩) ?_ ?_
                                            rotate_left
                                            ·intro w'
                                             go_simp
                                             with_reducible rfl
                                            rotate_left
                                            ·simp only [Act.put, List.setIfInBounds_toArray, List.set_cons_zero, List.set_cons_succ, i64_w, i32_w]
                                             rfl
                                            refine take_ (i := 14) (N := some 155) (v := ?_) (a' := ?_) #[true, true, true, true, true, true, true, true, true, true, true, true, true, true, true, false, false, false, false] rfl rfl (take_ofW HT_.out HW_.out (by kernel_rfl)) (fun _ _ _ h => h) (Or.inl ⟨by rfl, ?_⟩) hHeld ?_ ?_
                                            rotate_left
                                            ·rintro w' ⟨s0, s1, s2, s3⟩
                                             (try simp only [Int.toNat_natCast] at s0 s1 s2 s3)
                                             go_simp
                                             with_reducible rfl
                                            rotate_left
                                            ·simp only [Act.put, List.setIfInBounds_toArray, List.set_cons_zero, List.set_cons_succ, i64_w, i32_w]
                                             rfl
                                            refine one_ (i := 15) (N := some 156) #[true, true, true, true, true, true, true, true, true, true, true, true, true, true, true, true, false, false, false] rfl rfl (one_of HT_.out (by kernel_rfl)) (by decide) (fun K hK => ?_)
                                            refine goes_ Tryd.func48 (by kernel_rfl) rfl #[.int .u8 (rd (rd_L1 x4_5 x116_5) x45_2), .int .u8 (rd (rd_L1 x4_7 (x6_2.length : Int)) x138_7)] (by rfl) rfl rfl (by (try simp only [List.map_toArray, List.map_cons, List.map_nil]); first | done | rfl | (simp only [List.length_drop, List.length_take]; rfl)) ?_
                                            with_reducible refine (gf_Mul.calls k7 (rd (rd_L1 x4_5 x116_5) x45_2) (rd (rd_L1 x4_7 (x6_2.length : Int)) x138_7) t140 _ ?side1 A66.out).mono ?_
                                            (case side1 => first | (with_reducible exact HG.out) | (with_reducible exact HighIn.drewN HG.out _) | exact HighIn.below HG.out (by repeat (first | (with_reducible first | exact HB.out | apply below_alloc | apply pw_below_drewN | apply below_drew1) | exact HB.out)) | ((repeat (first | (with_reducible exact HG.out) | (with_reducible apply HighIn.drewN) | (with_reducible apply HighIn.drew) | (with_reducible apply HighIn.alloc))); done))
                                            rintro e w' ⟨rfl, ⟨nd, rfl⟩⟩
                                            refine ⟨_, rfl, ?_⟩
                                            have p67 : 0 ≤ (x138_7 : Int) := of_decide_eq_true (by first | (with_reducible assumption) | assumption)
                                            have q67 : (x138_7 : Int) < (((rd_L1 x4_7 x116_5).length : Int) : Int) := of_decide_eq_true (by first | (with_reducible assumption) | assumption)
                                            obtain ⟨go67, co67, eo67, gb67, gl67, cl67, HG67⟩ := Kd.R_form HL136_0.out (by omega)
                                            (first | cases eo67 | (injection eo67 with ea_ en_ ec_; (first | subst ea_ | (injection ea_ with ea_; subst ea_)); subst ec_; clear en_))
                                            have GB67 := Aside0.mk gb67
                                            have GG67 := Aside0.mk HG67
                                            clear gb67 gl67 HG67
                                            (first | simp only [add_plain] at hx137_0 | skip)
                                            obtain ⟨hx67_0, hf67_0⟩ := Kd.R_celln 0 HL136_0.out (x138_7 : Int) p67 q67
                                            replace p67 := eq_true p67
                                            replace q67 := eq_true q67
                                            have hq69 : (x116_5 : Int) < (x4_7.length : Int) := (by have h_ : (x116_5 : Int) < ((x4_7.length : Int) : Int) := of_decide_eq_true (by first | (with_reducible assumption) | assumption); first | exact h_ | (have e_ := (Kd.S_reads' HO_4.out).1; omega) | simpa only [List.length_set, List.length_set] using h_)
                                            obtain ⟨oki69, ce69, hcl69, hM69, hcc69, hok69, hbk69⟩ := Kd.S_borrow HO_4.out [] (x116_5 : Int) (of_decide_eq_true (by first | (with_reducible assumption) | assumption)) hq69
                                            obtain ⟨ve69_0, rfl, ge69_0⟩ := hM69
                                            have hv69 := hcc69 0 _ rfl
                                            rw [Nat.add_zero, show ((Kd.slice 5 (Kd.int .u8))).sz = 1 from rfl, Nat.mul_one] at hv69
                                            replace hv69 := Option.some.inj (hv69.symm.trans HX136_0.out)
                                            subst hv69
                                            clear hcc69 hcl69
                                            replace ge69_0 := (show Kd.R (Kd.int .u8) 5 _ _ _ _ (rd_L1 x4_7 x116_5) from ge69_0)
                                            have HP69 := Kd.R_putg ge69_0 (x138_7 : Int) (Go.bits .xor .u8 (rd (rd_L1 x4_7 x116_5) x138_7) t140)
                                            rw [← Ny141.out] at HP69
                                            have HS69 := hbk69 HP69.2 (fun k_ e_ => by injection e_ with e_; subst e_; exact ge69_0.1 _ rfl) (x' := y141) (Kd.M_row HP69.1)
                                            rw [← Ny143.out] at HS69
                                            have HQ69 := Aside0.mk HS69
                                            clear HP69 HS69 hbk69 hok69
                                            refine hK.out _ _ ⟨hHeld.1, hHeld.2.1, hHeld.2.2.1, hHeld.2.2.2⟩ (fun hHeld => ?_)
                                            clear hK K
                                            refine norm_ (a' := ?_) ?_ ?_
                                            rotate_left
                                            ·show Act.put _ (some 156) _ = _
                                             simp only [Act.put, List.setIfInBounds_toArray, List.set_cons_zero, List.set_cons_succ, i64_w, i32_w]
                                             rfl
                                            refine pure_ (i := 16) (N := some 157) (v := ?_) (a' := ?_) #[true, true, true, true, true, true, true, true, true, true, true, true, true, true, true, true, true, false, false] rfl rfl (any_of HT_.out (by kernel_rfl)) (fun _ _ _ h => h) (Or.inl ⟨by rfl, ?_⟩) ?_ ?_
                                            rotate_left
                                            ·intro w'
                                             go_simp
                                             with_reducible rfl
                                            rotate_left
                                            ·simp only [Act.put, List.setIfInBounds_toArray, List.set_cons_zero, List.set_cons_succ, i64_w, i32_w]
                                             rfl
                                            refine pure_ (i := 17) (N := some 158) (v := ?_) (a' := ?_) #[true, true, true, true, true, true, true, true, true, true, true, true, true, true, true, true, true, true, false] rfl rfl (any_of HT_.out (by kernel_rfl)) (fun _ _ _ h => h) (Or.inl ⟨by rfl, ?_⟩) ?_ ?_
                                            rotate_left
                                            ·intro w'
                                             go_simp
                                             with_reducible rfl
                                            rotate_left
                                            ·simp only [Act.put, List.setIfInBounds_toArray, List.set_cons_zero, List.set_cons_succ, i64_w, i32_w]
                                             rfl
                                            refine last_ (i := 18) (N := none) #[true, true, true, true, true, true, true, true, true, true, true, true, true, true, true, true, true, true, true] rfl rfl (one_of HT_.out (by kernel_rfl)) (by decide) (fun K hK => ?_)
                                            refine skip_ (w1 := ?_) (by rfl) rfl ?_ ?_
                                            rotate_left
                                            ·go_simp
                                             rfl
                                            refine hK.out _ _ ?_
                                            clear hK K
                                            refine done_ (done_of HT_.out (by kernel_rfl)) ?_
                                            try go_wp2_with (first | (go_step3))
                                            (try simp only [← hl4_7])
                                            go_roundg k7
                                            case measure => have := HK1.out; have := HK2.out; have := HK3.out; have := HK4.out; have := HK5.out; have := HJ52.out; have := HK7.out; omega
                                            case rel => exact ⟨(y143), (wrap64 (x138_7 + 1)), (by first | rfl | (simp; done) | (simp [*]; done)), H', ⟨by have := HK1.out; have := HK2.out; have := HK3.out; have := HK4.out; have := HK5.out; have := HJ52.out; have := HK7.out; omega⟩, ⟨by (try simp only [hl4_4]); (try simp only [hl4_5]); (try simp only [hl4_7]); (with_reducible repeat (first | apply Kd.S_alloc | apply Kd.S_drewN | apply Kd.S_drew)); exact HQ69.out⟩, ⟨by (try simp only [hl4_4]); (try simp only [hl4_5]); (try simp only [hl4_7]); (with_reducible repeat (first | apply Kd.R_alloc | apply Kd.R_drewN | apply Kd.R_drew)); exact Kd.R_mono (Kd.R_far (p := ⟨go67, (x138_7 : Int).toNat, none⟩) (Kd.R_types HO_6.out GG67.out (by decide)) (fun _ hk => hk.2) (.int .u8 (Go.bits .xor .u8 (rd (rd_L1 x4_7 x116_5) x138_7) t140))) (fun _ hk => trivial)⟩, ⟨by repeat (first | (with_reducible first | exact HB.out | apply below_alloc | apply pw_below_drewN | apply below_drew1 | refine below_set ?_ GB67.out) | exact HB.out)⟩⟩
                                           ·rw [if_neg c65] at H
                                            exact absurd H (by simp)
                                          ·rw [if_neg c64] at H
                                           exact absurd H (by simp)
                                         ·rw [if_neg c63] at H
                                          exact absurd H (by simp)
                                        ·rw [if_neg c62] at H
                                         exact absurd H (by simp)
                                       ·rw [if_neg c61] at H
                                        exact absurd H (by simp)
                                      ·rw [if_neg c60] at H
                                       exact absurd H (by simp)
                                     ·rw [if_neg c59] at H
                                      exact absurd H (by simp)
                                    ·rw [if_neg c58] at H
                                     have c58b0 : decide (x138_7 < ((rd_L1 x4_5 x116_5).length : Int)) = false := decide_eq_false c58
                                     have c58b0z := c58b0
                                     (try simp only [hl4_4, hl4_5, hl4_7] at c58b0z)
                                     clear c58
                                     have H' := Aside0.mk H
                                     clear H
                                     go_wp2_with (first | (go_step3))
                                     (try simp only [← hl4_5, ← hl4_7])
                                     go_roundg k7
                                     case measure => have := HK1.out; have := HK2.out; have := HK3.out; have := HK4.out; have := HK5.out; have := HJ52.out; have := HK7.out; omega
                                     case rel => exact ⟨(x4_7), (wrap64 (x116_5 + 1)), (by first | rfl | (simp; done) | (simp [*]; done)), H', ⟨by have := HK1.out; have := HK2.out; have := HK3.out; have := HK4.out; have := HK5.out; have := HJ52.out; have := HK7.out; omega⟩, ⟨by (try simp only [hl4_4]); (try simp only [hl4_5]); (try simp only [hl4_7]); (with_reducible repeat (first | apply Kd.S_alloc | apply Kd.S_drewN | apply Kd.S_drew)); exact HO_4.out⟩, ⟨by (try simp only [hl4_4]); (try simp only [hl4_5]); (try simp only [hl4_7]); (with_reducible repeat (first | apply Kd.R_alloc | apply Kd.R_drewN | apply Kd.R_drew)); exact HO_6.out⟩, ⟨by repeat (first | (with_reducible first | exact HB.out | apply below_alloc | apply pw_below_drewN | apply below_drew1) | exact HB.out)⟩⟩
                                 ·rw [if_neg c57] at H
                                  exact absurd H (by simp)
                                ·rw [if_neg c56] at H
                                 exact absurd H (by simp)
                               ·replace c55 := Bool.eq_false_iff.mpr c55
                                subst c55
                                have H1 : (matrix_reduce.l4 kj52 x4_5 x6_3 x45_2 (x6_2.length : Int) t111 x45_2 (x4_4.length : Int) (wrap64 (x116_5 + 1))) = some (r1, r2) := by rw [if_neg (show ¬ (false = true) by decide)] at H; exact H
                                clear H
                                have H := H1
                                clear H1
                                have H' := Aside0.mk H
                                clear H
                                go_wp2_with (first | (go_step3))
                                (try simp only [← hl4_5])
                                go_roundg kj52
                                case measure => have := HK1.out; have := HK2.out; have := HK3.out; have := HK4.out; have := HK5.out; have := HJ52.out; omega
                                case rel => exact ⟨(x4_5), (wrap64 (x116_5 + 1)), (by first | rfl | (simp; done) | (simp [*]; done)), H', ⟨by have := HK1.out; have := HK2.out; have := HK3.out; have := HK4.out; have := HK5.out; have := HJ52.out; omega⟩, ⟨by (try simp only [hl4_4]); (try simp only [hl4_5]); (with_reducible repeat (first | apply Kd.S_alloc | apply Kd.S_drewN | apply Kd.S_drew)); exact HO_4.out⟩, ⟨by (try simp only [hl4_4]); (try simp only [hl4_5]); (with_reducible repeat (first | apply Kd.R_alloc | apply Kd.R_drewN | apply Kd.R_drew)); exact HO_6.out⟩, ⟨by repeat (first | (with_reducible first | exact HB.out | apply below_alloc | apply pw_below_drewN | apply below_drew1) | exact HB.out)⟩⟩
                            ·rw [if_neg c52] at H
                             exact absurd H (by simp)
                           ·rw [if_neg c51] at H
                            exact absurd H (by simp)
                          ·rw [if_neg c50] at H
                           exact absurd H (by simp)
                         ·rw [if_neg c49] at H
                          exact absurd H (by simp)
                        ·rw [if_neg c48] at H
                         have c48b0 : decide (x116_5 < (x4_4.length : Int)) = false := decide_eq_false c48
                         have c48b0z := c48b0
                         (try simp only [hl4_4, hl4_5] at c48b0z)
                         clear c48
                         by_cases c71 : x6_3.length < 17592186044416
                         ·rw [if_pos c71] at H
                          have LMc71 := Aside0.mk c71
                          clear c71
                          obtain ⟨y130, hy130⟩ : ∃ y_ : List Int, y_ = (x6_3 ++ [x45_2]) := ⟨_, rfl⟩
                          replace H : (matrix_reduce.l1 k5 x4_5 y130 t111 (wrap64 (x45_2 + 1))) = some (r1, r2) := by first | (rw [hy130]; with_reducible exact H) | (have H2_ := (Option.bind_some _ _).symm.trans H; rw [hy130]; with_reducible exact H2_) | (have H2_ := (Option.bind_some _ _).symm.trans H; with_reducible exact H2_) | with_reducible exact H | (rw [hy130]; exact H) | exact H
                          have Ny130 := Aside0.mk hy130
                          clear hy130
                          have H' := Aside0.mk H
                          clear H
                          go_wp2_with (first | ((with_reducible refine gate_builtin (b := .append) (xs := #[.tmp 161, .tmp 163]) rfl ?_); at_builtin; refine Kd.R_append (Kd.int .i64) (w0 := w) w.heap.size rfl (.tmp 161) (.tmp 163) 29 3 (.int .i64 0) 8 rfl Tryd.underlying29 info3 rfl (by decide) (by omega) u6 x6_3 x45_2 [.int .i64 x45_2] (fun _ => True) (fun _ => False) rfl rfl ?aP (fun _ hk => hk.elim) ?aF ?aO ?aB ?aS ?aL ?_; (case aP => exact rfl); (case aB => exact (by repeat (first | (with_reducible first | exact HB.out | apply below_alloc | apply pw_below_drewN | apply below_drew1) | exact HB.out))); (case aF => exact (fun _ _ => trivial)); (case aO => exact (by (with_reducible repeat (first | apply Kd.R_alloc | apply Kd.R_drewN | apply Kd.R_drew)); exact HO_6.out)); (case aS => exact (below_size (by repeat (first | (with_reducible first | exact HB.out | apply below_alloc | apply pw_below_drewN | apply below_drew1) | exact HB.out)))); (case aL => have := LMc71.out; omega); intro v131 w72 ho hb hg hat; rw [← Ny130.out] at ho; have n0_ := Aside0.mk (Kd.S_over' (by (with_reducible repeat (first | apply Kd.S_alloc | apply Kd.S_drewN | apply Kd.S_drew)); exact HO_4.out) (Kd.R_typed (by (with_reducible repeat (first | apply Kd.R_alloc | apply Kd.R_drewN | apply Kd.R_drew)); exact HO_6.out)) (by decide) hg); have n1_ := Aside0.mk (hb); have n2_ := Aside0.mk (ho); clear HO_4; clear HB; clear HO_6; have HO_4 := n0_; have HB := n1_; have HO132 := n2_; clear n0_ n1_ n2_; clear ho hb hg hat) | (go_step3))
                          (try simp only [← hl4_4, ← hl4_5])
                          go_roundg k5
                          case measure => have := HK1.out; have := HK2.out; have := HK3.out; have := HK4.out; have := HK5.out; omega
                          case rel => exact ⟨(x4_5), (y130), (wrap64 (x45_2 + 1)), (by first | rfl | (simp; done) | (simp [*]; done)), H', ⟨by have := HK1.out; have := HK2.out; have := HK3.out; have := HK4.out; have := HK5.out; omega⟩, ⟨by (try simp only [hl4_4]); (try simp only [hl4_5]); (with_reducible repeat (first | apply Kd.S_alloc | apply Kd.S_drewN | apply Kd.S_drew)); exact HO_4.out⟩, ⟨by (try simp only [hl4_4]); (try simp only [hl4_5]); (with_reducible repeat (first | apply Kd.R_alloc | apply Kd.R_drewN | apply Kd.R_drew)); exact HO132.out⟩, ⟨by repeat (first | (with_reducible first | exact HB.out | apply below_alloc | apply pw_below_drewN | apply below_drew1) | exact HB.out)⟩⟩
                         ·rw [if_neg c71] at H
                          exact absurd H (by simp)
                  ·rw [if_neg c33] at H
                   exact absurd H (by simp)
                 ·rw [if_neg c32] at H
                  exact absurd H (by simp)
                ·rw [if_neg c31] at H
                 exact absurd H (by simp)
              ·rw [if_neg c27] at H
               exact absurd H (by simp)
             ·rw [if_neg c26] at H
              exact absurd H (by simp)
            ·rw [if_neg c25] at H
             exact absurd H (by simp)
           ·rw [if_neg c24] at H
            have c24b0 : decide (x9_3 < (x4_3.length : Int)) = false := decide_eq_false c24
            clear c24
            have H' := Aside0.mk H
            clear H
            obtain ⟨Ao73, co73, eo73⟩ := Kd.S_slice HO_4.out
            subst eo73
            go_wp2_with (first | (go_step3))
            go_roundg k3
            case measure => have := HK1.out; have := HK2.out; have := HK3.out; omega
            case rel => exact ⟨(x4_3), (x6_3), (wrap64 (x45_2 + 1)), (by first | rfl | (simp; done) | (simp [*]; done)), H', ⟨by have := HK1.out; have := HK2.out; have := HK3.out; omega⟩, ⟨by (with_reducible repeat (first | apply Kd.S_alloc | apply Kd.S_drewN | apply Kd.S_drew)); exact HO_4.out⟩, ⟨by (with_reducible repeat (first | apply Kd.R_alloc | apply Kd.R_drewN | apply Kd.R_drew)); exact HO_6.out⟩, ⟨by repeat (first | (with_reducible first | exact HB.out | apply below_alloc | apply pw_below_drewN | apply below_drew1) | exact HB.out)⟩⟩
        ·rw [if_neg c22] at H
         have c22b0 : decide (x45_2 < t111) = false := decide_eq_false c22
         clear c22
         by_cases c74 : 0 ≤ (x6_2.length : Int)
         ·rw [if_pos c74] at H
          have c74b0 := eq_true c74
          have c74b1 : decide (0 ≤ (x6_2.length : Int)) = true := decide_eq_true c74
          clear c74
          by_cases c75 : (x6_2.length : Int) ≤ (x4_2.length : Int)
          ·rw [if_pos c75] at H
           have c75b0 := eq_true c75
           have c75b1 : decide ((x6_2.length : Int) ≤ (x4_2.length : Int)) = true := decide_eq_true c75
           clear c75
           obtain ⟨y112, hy112⟩ : ∃ y_ : List (List Int), y_ = (x4_2.take ((x6_2.length : Int) : Int).toNat) := ⟨_, rfl⟩
           replace H : (some (y112, x6_2)) = some (r1, r2) := by first | (rw [hy112]; with_reducible exact H) | (have H2_ := (Option.bind_some _ _).symm.trans H; rw [hy112]; with_reducible exact H2_) | (have H2_ := (Option.bind_some _ _).symm.trans H; with_reducible exact H2_) | with_reducible exact H | (rw [hy112]; exact H) | exact H
           have Ny112 := Aside0.mk hy112
           clear hy112
           simp only [Option.some.injEq, Prod.mk.injEq] at H
           obtain ⟨rfl, rfl⟩ := H
           obtain ⟨Ao76, co76, eo76⟩ := Kd.R_slice HO_6.out
           subst eo76
           obtain ⟨Ao77, co77, eo77⟩ := Kd.S_slice HO_4.out
           subst eo77
           have q78 : ((x6_2.length : Int) : Int) ≤ ((x4_2.length : Int) : Int) := of_decide_eq_true (by first | (with_reducible assumption) | assumption)
           obtain ⟨i078, hi078, _, hsz78, _⟩ := info_parts info43
           have hcut78 := cut_to (P := Tryd.prog) 22 43 .i64 Tryd.underlying22 hi078 Ao77 x4_2.length co77 (x6_2.length : Int) (of_decide_eq_true (by first | (with_reducible assumption) | assumption)) q78 (Kd.S_reads' HO_4.out).2.1
           have hr78 := Kd.S_take (m := ((x6_2.length : Int) : Int).toNat) HO_4.out (by omega)
           have hy78 : y112.length = ((x6_2.length : Int) : Int).toNat := (by rw [Ny112.out, List.length_take]; omega)
           rw [← Ny112.out] at hr78
           rw [← hy78] at hr78 hcut78
           clear hy78 hi078 hsz78 HO_4
           have HO114 := Aside0.mk hr78
           clear hr78
           replace q78 := eq_true q78
           go_wp2_with (first | (go_step3))
           (try simp only [Exit.inBlock, Exit.then, Exit.noGoto])
           go_ret2
           exact ⟨_, _, by first | rfl | (simp [errW_none, errW_some] <;> rfl) | (simp [*, errW_none, errW_some] <;> rfl), by (with_reducible repeat (first | apply Kd.S_alloc | apply Kd.S_drewN | apply Kd.S_drew)); exact HO114.out, by (with_reducible repeat (first | apply Kd.R_alloc | apply Kd.R_drewN | apply Kd.R_drew)); exact HO_6.out, by repeat (first | (with_reducible first | exact HB.out | apply below_alloc | apply pw_below_drewN | apply below_drew1) | exact HB.out)⟩
          ·rw [if_neg c75] at H
           exact absurd H (by simp)
         ·rw [if_neg c74] at H
          exact absurd H (by simp)
  ·rw [if_neg c3] at H
   exact absurd H (by simp)
 ·rw [if_neg c2] at H
  exact absurd H (by simp)
end Go.Proofs.YtijebgceopddmaaDoor.Prt
end
section
set_option linter.unusedVariables false
namespace Go.Proofs.YtijebgceopddmaaDoor.Grid
open Go.RowKit Go.Proofs.YtijebgceopddmaaDoorW.PrintWords Go.Proofs.YtijebgceopddmaaDoorW.PrintLast
class AtF where
  num : FuncId
  fn : Func
  cap : Array Value
  f : Int → Int → Option Int
  hf : Tryd.prog.funcs[num]? = some fn
  hname : (fn.name == "runtime.NumGoroutine") = false
  hb : fn.body.isSome = true
variable [AtF]
def HighIn (w : World) : Prop := ∀ W, Below w.heap.size w W → ∀ i k r, AtF.f i k = some r → Calls Tryd.prog AtF.num (#[.int .i64 i, .int .i64 k] ++ AtF.cap) W fun e W' => e = .returned (.int .u8 r) ∧ Drawn0 W W'
theorem HighIn.below {w w1 : World} (h : HighIn w) (hb : Below w.heap.size w w1) : HighIn w1 := fun W hW => h W (hb.trans ⟨hW.os, hW.tape, hW.output, hW.size, fun k hk => hW.block k (Nat.lt_of_lt_of_le hk hb.size)⟩)
def AT.f (i k : Int) : Option Int := AtF.f i k
theorem AT.calls (i k r : Int) (w : World) (hG : HighIn w) (h : AT.f i k = some r) : Calls Tryd.prog AtF.num (#[.int .i64 i, .int .i64 k] ++ AtF.cap) w fun e W' => e = .returned (.int .u8 r) ∧ Drawn0 w W' := hG w (Below.refl _ _) i k r h
theorem goesAt_ {ops : Array Oper} {Q : Exit → Act → World → Prop} {oi : Oper} {N : Option Tmp} {a : Act} {w : World} {K : Act → World → Prop} {x : Operand} {xs : Array Operand} {ts : Array TypeId} (args : Array Value)
    (hw : Region.wanted oi (yielded ops a.tmps) = true) (hN : oi.dst = N) (hop : oi.op = .call { callee := .value x, args := xs, argTypes := ts }) (hargs : xs.map a.eval = args) (hx : a.eval x = .func (.func AtF.num) #[] AtF.cap)
    (h : Calls Tryd.prog AtF.num (args ++ AtF.cap) w fun e w' => ∃ v, e = .returned v ∧ K (a.put N v) w') : if Region.wanted oi (yielded ops a.tmps) = true then Oper.wp Tryd.prog oi a w K Q else K (a.put N undef) w := by
  refine call_ AtF.num (args ++ AtF.cap) hw hN ?_ h
  have he := enters_ AtF.hf AtF.hname AtF.hb (args ++ AtF.cap) w
  unfold execOp
  simp [hop, resolve, Deferred.ofValue, invoke, hx, hargs, he]
end Go.Proofs.YtijebgceopddmaaDoor.Grid
end
section
namespace Go.Proofs.YtijebgceopddmaaDoor.Grid
open Go.RowKit Go.Proofs.YtijebgceopddmaaDoorW.PrintWords Go.Proofs.YtijebgceopddmaaDoorW.PrintLast Go.Proofs.YtijebgceopddmaaDoorW.PrintMore
attribute [local go_sem] max2_int min2_int max_two min_two max_three min_three max_four min_four   -- for this text's walks alone
set_option linter.unusedVariables false
set_option linter.unusedSimpArgs false
def errW : Option Int → Value
 | none => .nilIface
 | some c => .iface 0 (.int .i64 c)
theorem errW_none : errW none = .nilIface := rfl
theorem errW_some (c : Int) : errW (some c) = .iface 0 (.int .i64 c) := rfl
theorem info5 : (Tryd.prog.info? 5).map (fun i => (i.zero, i.size, i.bytes)) = some (some (.int .u8 0), 1, 1) := by kernel_rfl
theorem info43 : (Tryd.prog.info? 43).map (fun i => (i.zero, i.size, i.bytes)) = some (some (.slice none 0 0), 1, 24) := by kernel_rfl
-- the values' own types
def rd_L1 (xs : List (List Int)) (i : Int) : (List Int) := xs.getD i.toNat ([] : List Int)
theorem at_L1 {w : World} {A : Option Addr} {n : Nat} {xs : List (List Int)} (h : Kd.C (Kd.slice 5 (Kd.int .u8)) w A n xs) (i : Int) (h0 : 0 ≤ i) (h1 : i < n) : ∃ ad A0 c0, A = some ad ∧ w.cell? (ad.add i.toNat) = some (.slice A0 (rd_L1 xs i).length c0) ∧ (rd_L1 xs i).length ≤ c0 ∧ (Kd.int .u8).C w A0 (rd_L1 xs i).length (rd_L1 xs i) := by
 obtain ⟨ad, c, e, _, hK, hc0⟩ := Kd.C_get h ([] : List Int) i h0 h1
 have hc : ∀ j u, c[j]? = some u → w.cell? (ad.add (i.toNat * 1 + j)) = some u := hc0
 obtain ⟨A0, c0, rfl, l0, g0⟩ := hK
 exact ⟨ad, A0, c0, e, by have hq := hc 0 _ rfl; rwa [Nat.mul_one, Nat.add_zero] at hq, l0, g0⟩
end Go.Proofs.YtijebgceopddmaaDoor.Grid
end
section
namespace Go.Proofs.YtijebgceopddmaaDoor.Grid
open Go.RowKit Go.Proofs.YtijebgceopddmaaDoorW.PrintWords Go.Proofs.YtijebgceopddmaaDoorW.PrintLast Go.Proofs.YtijebgceopddmaaDoorW.PrintMore
attribute [local go_sem] max2_int min2_int max_two min_two max_three min_three max_four min_four   -- for this text's walks alone
set_option linter.unusedVariables false
set_option linter.unusedSimpArgs false
variable [AtF]
mutual
def matrix_grid.l0 : Nat → Int → List (List Int) → Int → Int → Option ((List (List Int)))
 | 0, _, _, _, _ => none
 | k + 1, x1, x7, x13, x14 => if x14 < x13 then (if 0 ≤ x1 then (if (x1 : Int).toNat ≤ 281474976710656 then (if 0 ≤ x14 then (if x14 < (x7.length : Int) then ((some (x7.set (x14 : Int).toNat (List.replicate (x1 : Int).toNat 0) : List (List Int))).bind fun y107 => (matrix_grid.l1 k x1 y107 x14 x13 x14 ((rd_L1 y107 x14).length : Int) 0)) else (none)) else (none)) else (none)) else (none)) else (some x7)
def matrix_grid.l1 : Nat → Int → List (List Int) → Int → Int → Int → Int → Int → Option ((List (List Int)))
 | 0, _, _, _, _, _, _, _ => none
 | k + 1, x1, x7, x8, x13, x14, x26, x27 => if x27 < x26 then (if 0 ≤ x8 then (if x8 < (x7.length : Int) then ((AT.f x8 x27).bind fun t110 => (if 0 ≤ x27 then (if x27 < ((rd_L1 x7 x8).length : Int) then (matrix_grid.l1 k x1 (x7.set (x8 : Int).toNat ((rd_L1 x7 x8).set (x27 : Int).toNat t110)) x8 x13 x14 x26 (wrap64 (x27 + 1))) else (none)) else (none))) else (none)) else (none)) else (matrix_grid.l0 k x1 x7 x13 (wrap64 (x14 + 1)))
end
def matrix_grid.f (k : Nat) (a0 : Int) (a1 : Int) (a2 : Int) : Option ((List (List Int))) := if 0 ≤ a0 then (if (a0 : Int).toNat ≤ 11728124029610 then ((some (List.replicate (a0 : Int).toNat [] : List (List Int))).bind fun y101 => (matrix_grid.l0 k a1 y101 (y101.length : Int) 0)) else (none)) else (none)
def matrix_grid.T9 : Bool × List (List Nat × List Nat) := (true, [([], []), ([], []), ([0, 1], [0, 1]), ([2], [2]), ([], []), ([], []), ([], []), ([], []), ([5, 6, 7], [5, 6, 7]), ([3, 4, 0, 1, 2, 3, 4, 5, 6, 7, 8], [3, 4]), ([9, 8, 8, 0, 1, 2, 3, 4, 5, 6, 7, 8], [8, 9])])
def matrix_grid.B9 : List Nat := [0, 0, 3, 7, 0, 0, 0, 0, 224, 511, 1023]
omit [AtF] in
theorem matrix_grid.tab9 : rtab .any (opsOf Tryd.f35 9) = matrix_grid.T9 := by kernel_rfl
omit [AtF] in
theorem matrix_grid.bits9 : waitsOk matrix_grid.T9.2 matrix_grid.B9 = true := by kernel_rfl
set_option maxHeartbeats 8000000 in
set_option maxRecDepth 100000 in
theorem matrix_grid.calls (k : Nat) (a0 : Int) (a1 : Int) (a2 : Int) (r : List (List Int)) (w : World) (hG : HighIn w) (h : matrix_grid.f k a0 a1 a2 = some r) :
  Calls Tryd.prog 35 #[.int .i64 a0, .int .i64 a1, .func (.func AtF.num) #[] AtF.cap] w fun e w' => ∃ v0_ : Value, e = .returned (v0_) ∧ Kd.S (Kd.slice 5 (Kd.int .u8)) 43 w' w.heap.size (fun _ => True) v0_ r ∧ Below w.heap.size w w' := by
 have HG := Aside0.mk hG
 clear hG
 have HB := Aside0.mk (Below.refl w.heap.size w)
 have H : (if 0 ≤ a0 then (if (a0 : Int).toNat ≤ 11728124029610 then ((some (List.replicate (a0 : Int).toNat [] : List (List Int))).bind fun y101 => (matrix_grid.l0 k a1 y101 (y101.length : Int) 0)) else (none)) else (none)) = some r := h
 clear h
 by_cases c4 : 0 ≤ a0
 ·rw [if_pos c4] at H
  have c4b0 := eq_true c4
  have c4b1 : decide (0 ≤ a0) = true := decide_eq_true c4
  clear c4
  by_cases c5 : (a0 : Int).toNat ≤ 11728124029610
  ·rw [if_pos c5] at H
   have c5b0 := eq_true c5
   have c5b1 : decide ((a0 : Int).toNat ≤ 11728124029610) = true := decide_eq_true c5
   clear c5
   obtain ⟨y101, hy101⟩ : ∃ y_ : List (List Int), y_ = (List.replicate (a0 : Int).toNat []) := ⟨_, rfl⟩
   replace H : (matrix_grid.l0 k a1 y101 (y101.length : Int) 0) = some r := by first | (rw [hy101]; with_reducible exact H) | (have H2_ := (Option.bind_some _ _).symm.trans H; rw [hy101]; with_reducible exact H2_) | (have H2_ := (Option.bind_some _ _).symm.trans H; with_reducible exact H2_) | with_reducible exact H | (rw [hy101]; exact H) | exact H
   have Ny101 := Aside0.mk hy101
   clear hy101
   have H' := Aside0.mk H
   clear H
   go_enter Tryd.func35, Tryd.ntmps35
   go_wp2_with (first | ((with_reducible refine gate_dst (N := 11) rfl ?_); refine Kd.S_make (Kd.slice 5 (Kd.int .u8)) _ 43 rfl (N := 11) rfl 22 _ _ rfl a0 rfl rfl Tryd.underlying22 (.slice none 0 0) 24 info43 rfl (by decide) (by omega) [] (ok := fun _ => True) (okp := fun _ => True) ⟨_, rfl, Kd.R_nil _ _ _ _ _⟩ (fun _ hk => hk) trivial (of_decide_eq_true (by first | (with_reducible assumption) | assumption)) (Nat.le_trans (Nat.mul_le_mul_right _ (of_decide_eq_true (by first | (with_reducible assumption) | assumption) : a0.toNat ≤ 11728124029610)) (by omega)) (Below.refl _ _) (Nat.le_refl _) ?_; intro v102 w6 ho7 hb hg_ hnew_; clear hg_ hnew_; (first | rw [← Ny101.out] at ho7 | (simp only [Int.reduceToNat] at ho7; rw [← Ny101.out] at ho7)); have n0_ := Aside0.mk (Kd.S_lower ho7 (below_size (by repeat (first | (with_reducible first | exact HB.out | apply below_alloc | apply pw_below_drewN | apply below_drew1) | exact HB.out)))); have n1_ := Aside0.mk (below_step (by repeat (first | (with_reducible first | exact HB.out | apply below_alloc | apply pw_below_drewN | apply below_drew1) | exact HB.out)) hb); clear HB; have HO103 := n0_; have HB := n1_; clear n0_ n1_; clear hb ho7; obtain ⟨Ao8, co8, eo8⟩ := Kd.S_slice HO103.out; subst eo8))
   go_loopg [14] k (fun kq v14 w' => ∃ (x7_1 : List (List Int)) (x14_1 : Int), v14 = .int .i64 x14_1 ∧ Aside0 (matrix_grid.l0 kq a1 x7_1 (y101.length : Int) x14_1 = some r) ∧ Aside0 (kq ≤ k) ∧ Aside0 (Kd.S (Kd.slice 5 (Kd.int .u8)) 43 w' w.heap.size (fun _ => True) (.slice Ao8 y101.length co8) x7_1) ∧ Aside0 (Below w.heap.size w w'))
   case atStart => exact ⟨(y101), (0), (by first | rfl | (simp; done) | (simp [*]; done)), H', ⟨Nat.le_refl _⟩, ⟨by (with_reducible repeat (first | apply Kd.S_alloc | apply Kd.S_drewN | apply Kd.S_drew)); exact HO103.out⟩, ⟨by repeat (first | (with_reducible first | exact HB.out | apply below_alloc | apply pw_below_drewN | apply below_drew1) | exact HB.out)⟩⟩
   case round =>
    clear H'
    try clear p2
    try clear c3
    try clear c4
    try clear c4b0
    try clear c4b1
    try clear c5
    try clear c5b0
    try clear c5b1
    obtain ⟨x7_1, x14_1, rfl, HA, HK1, HO_7, HB⟩ := hrel
    have hl7_1 := (Kd.S_reads' HO_7.out).1
    rw [hl7_1] at HO_7
    (try simp only [hl7_1])
    cases gk with
    | zero => exact absurd HA.out (by simp [matrix_grid.l0])
    | succ k1 =>
     have H := HA.out
     clear HA
     simp only [matrix_grid.l0] at H
     by_cases c9 : x14_1 < (y101.length : Int)
     ·rw [if_pos c9] at H
      have c9b0 : decide (x14_1 < (y101.length : Int)) = true := decide_eq_true c9
      clear c9
      by_cases c10 : 0 ≤ a1
      ·rw [if_pos c10] at H
       have c10b0 := eq_true c10
       have c10b1 : decide (0 ≤ a1) = true := decide_eq_true c10
       clear c10
       by_cases c11 : (a1 : Int).toNat ≤ 281474976710656
       ·rw [if_pos c11] at H
        have c11b0 := eq_true c11
        have c11b1 : decide ((a1 : Int).toNat ≤ 281474976710656) = true := decide_eq_true c11
        clear c11
        obtain ⟨y104, hy104⟩ : ∃ y_ : List Int, y_ = (List.replicate (a1 : Int).toNat 0) := ⟨_, rfl⟩
        replace H : (if 0 ≤ x14_1 then (if x14_1 < (x7_1.length : Int) then ((some (x7_1.set (x14_1 : Int).toNat y104 : List (List Int))).bind fun y107 => (matrix_grid.l1 k1 a1 y107 x14_1 (y101.length : Int) x14_1 ((rd_L1 y107 x14_1).length : Int) 0)) else (none)) else (none)) = some r := by first | (rw [hy104]; with_reducible exact H) | (have H2_ := (Option.bind_some _ _).symm.trans H; rw [hy104]; with_reducible exact H2_) | (have H2_ := (Option.bind_some _ _).symm.trans H; with_reducible exact H2_) | with_reducible exact H | (rw [hy104]; exact H) | exact H
        have Ny104 := Aside0.mk hy104
        clear hy104
        by_cases c12 : 0 ≤ x14_1
        ·rw [if_pos c12] at H
         have c12b0 : decide (0 ≤ x14_1) = true := decide_eq_true c12
         clear c12
         by_cases c13 : x14_1 < (x7_1.length : Int)
         ·rw [if_pos c13] at H
          have c13b0 : decide (x14_1 < (x7_1.length : Int)) = true := decide_eq_true c13
          clear c13
          obtain ⟨y107, hy107⟩ : ∃ y_ : List (List Int), y_ = (x7_1.set (x14_1 : Int).toNat y104) := ⟨_, rfl⟩
          replace H : (matrix_grid.l1 k1 a1 y107 x14_1 (y101.length : Int) x14_1 ((rd_L1 y107 x14_1).length : Int) 0) = some r := by first | (rw [hy107]; with_reducible exact H) | (have H2_ := (Option.bind_some _ _).symm.trans H; rw [hy107]; with_reducible exact H2_) | (have H2_ := (Option.bind_some _ _).symm.trans H; with_reducible exact H2_) | with_reducible exact H | (rw [hy107]; exact H) | exact H
          have Ny107 := Aside0.mk hy107
          clear hy107
          have H' := Aside0.mk H
          clear H
          go_wp2_with (first | ((with_reducible refine gate_dst (N := 20) rfl ?_); refine Kd.R_make (Kd.int .u8) _ 5 rfl (N := 20) rfl 43 _ _ rfl a1 rfl rfl Tryd.underlying43 (.int .u8 0) 1 info5 rfl (by decide) (by omega) 0 (ok := fun _ => True) (okp := fun _ => True) rfl (fun _ hk => hk) trivial (of_decide_eq_true (by first | (with_reducible assumption) | assumption)) (Nat.le_trans (Nat.mul_le_mul_right _ (of_decide_eq_true (by first | (with_reducible assumption) | assumption) : a1.toNat ≤ 281474976710656)) (by omega)) (Below.refl _ _) (Nat.le_refl _) ?_; intro v105 w15 ho16 hb hg_ hnew_; clear hg_ hnew_; (first | rw [← Ny104.out] at ho16 | (simp only [Int.reduceToNat] at ho16; rw [← Ny104.out] at ho16)); have n0_ := Aside0.mk (Kd.S_elder' (by (with_reducible repeat (first | apply Kd.S_alloc | apply Kd.S_drewN | apply Kd.S_drew)); exact HO_7.out) (Kd.R_base ho16) hb); have n1_ := Aside0.mk (Kd.R_lower ho16 (below_size (by repeat (first | (with_reducible first | exact HB.out | apply below_alloc | apply pw_below_drewN | apply below_drew1) | exact HB.out)))); have n2_ := Aside0.mk (below_step (by repeat (first | (with_reducible first | exact HB.out | apply below_alloc | apply pw_below_drewN | apply below_drew1) | exact HB.out)) hb); clear HO_7; clear HB; have HO_7 := n0_; have HO106 := n1_; have HB := n2_; clear n0_ n1_ n2_; clear hb ho16; have p14 : 0 ≤ (x14_1 : Int) := of_decide_eq_true (by first | (with_reducible assumption) | assumption); have q14 : (x14_1 : Int) < ((x7_1.length : Int) : Int) := of_decide_eq_true (by first | (with_reducible assumption) | assumption); obtain ⟨go14, co14, eo14, gb14, gl14, cl14, HG14⟩ := Kd.S_form HO_7.out (by omega); (first | cases eo14 | (injection eo14 with ea_ en_ ec_; (first | subst ea_ | (injection ea_ with ea_; subst ea_)); subst ec_; clear en_)); have GB14 := Aside0.mk gb14; have GG14 := Aside0.mk HG14; clear gb14 gl14 HG14; obtain ⟨_, ce14, hcl14, hM14, hcc14, hfr14, _, _⟩ := Kd.S_elem HO_7.out [] (x14_1 : Int) p14 q14; obtain ⟨ve14_0, rfl, ge14_0⟩ := hM14; have hx14_0 := hcc14 0 _ rfl; have hf14_0 := hfr14 0; (try simp only [show ((Kd.slice 5 (Kd.int .u8))).sz = 1 from rfl, Nat.mul_one, Nat.add_zero] at hx14_0); (try simp only [show ((Kd.slice 5 (Kd.int .u8))).sz = 1 from rfl, Nat.mul_one, Nat.add_zero] at hf14_0); clear hcl14 hcc14 hfr14; (try clear hM14); replace p14 := eq_true p14; replace q14 := eq_true q14; obtain ⟨Ao19, co19, eo19⟩ := Kd.R_slice HO106.out; subst eo19; have n_ := Aside0.mk (Kd.S_mono (ok' := (fun k_ => some k_ ≠ (.slice Ao19 y104.length co19 : Value).ownBlock)) HO_7.out (fun k_ hk => hk.2)); clear HO_7; have HO_7 := n_; clear n_; have HX17 := Aside0.mk (show Kd.S (Kd.slice 5 (Kd.int .u8)) 43 w15 w.heap.size (fun k_ => ((fun _ => True)) k_ ∧ ¬ ((fun k_ => some k_ = (.slice Ao19 y104.length co19 : Value).ownBlock)) k_) (.slice (some ⟨go14, 0, none⟩) x7_1.length co8) x7_1 from (by (with_reducible repeat (first | apply Kd.S_alloc | apply Kd.S_drewN | apply Kd.S_drew)); exact Kd.S_mono HO_7.out (fun k_ hk => ⟨trivial, fun e_ => hk e_⟩))); obtain ⟨oki17, ce17, hcl17, hM17, hcc17, hfr17, hoki17, hH17⟩ := Kd.S_elem HX17.out [] (x14_1 : Int) (of_decide_eq_true (by first | (with_reducible assumption) | assumption)) (by have h_ : (x14_1 : Int) < ((x7_1.length : Int) : Int) := of_decide_eq_true (by first | (with_reducible assumption) | assumption); first | exact h_ | (have e_ := (Kd.S_reads' HO_7.out).1; omega) | simpa using h_); obtain ⟨ve17_0, rfl, ge17_0⟩ := hM17; have HP17 := Kd.S_seg hH17 (of_decide_eq_true (by first | (with_reducible assumption) | assumption)) (by have h_ : (x14_1 : Int) < ((x7_1.length : Int) : Int) := of_decide_eq_true (by first | (with_reducible assumption) | assumption); first | exact h_ | (have e_ := (Kd.S_reads' HO_7.out).1; omega) | simpa using h_) (seg := [.slice Ao19 y104.length co19]) (j := 0) (show 1 ≤ 1 from by decide) (x' := y104) (Kd.M_row (Kd.R_mono (Kd.R_tight rfl (Kd.R_mono (ok' := fun k_ => ((fun _ => True)) k_ ∧ k_ ≠ go14) (Kd.R_apart' (HO106.out) (Kd.S_typed HO_7.out) (by decide)) (fun k_ hk => ⟨trivial, fun e_ => (hk.2) (by rw [e_]; rfl)⟩))) (fun _ h_ => Or.inr (h_)))) (fun _ hk => hk) (fun k_ hk_ => ((Kd.R_mono (ok' := fun k_ => ((fun _ => True)) k_ ∧ k_ ≠ go14) (Kd.R_apart' (HO106.out) (Kd.S_typed HO_7.out) (by decide)) (fun k_ hk => ⟨trivial, fun e_ => (hk.2) (by rw [e_]; rfl)⟩))).1 k_ hk_.symm); have hx17_0 := hcc17 0 _ rfl; (try simp only [show ((Kd.slice 5 (Kd.int .u8))).sz = 1 from rfl, Nat.mul_one, Nat.add_zero] at hx17_0); have hf17_0 := hfr17 0; (try simp only [show ((Kd.slice 5 (Kd.int .u8))).sz = 1 from rfl, Nat.mul_one, Nat.add_zero] at hf17_0); clear hcl17 hcc17 hfr17 hoki17 hH17; (try clear hM17); (try simp only [show ((Kd.slice 5 (Kd.int .u8))).sz = 1 from rfl, Nat.mul_one, Nat.add_zero] at HP17)) | ((with_reducible refine gate_store (t := 43) (p := 21) rfl ?_); refine store_event (t := 43) (p := 21) (v := ?vo_w18) (w1 := (w15.setCell ⟨go14, (x14_1 : Int).toNat, none⟩ (.slice Ao19 y104.length co19))) ?hg ?ho ?hn ?hr ?_; (case ho => rfl); (case hg => rfl); (case hn => rfl); (case hr => first | (go_simp; done) | (go_simp; rfl)); intro w18 hw; have hg : w15.grownBy w18 (some go14) := (by rw [hw]; exact HP17.2); have hp_ : Kd.S (Kd.slice 5 (Kd.int .u8)) 43 w18 w.heap.size (fun _ => True) (.slice (some ⟨go14, 0, none⟩) x7_1.length co8) y107 := (by rw [hw, Ny107.out]; exact HP17.1); clear HP17; have n0_ := Aside0.mk (hp_); have n1_ := Aside0.mk ((by rw [hw]; exact below_set (HB.out) GB14.out : Below w.heap.size w w18)); clear HO_7; clear HB; clear HO106; have HO_7 := n0_; have HB := n1_; clear n0_ n1_; clear hg hw hp_; have p108 : 0 ≤ (x14_1 : Int) := of_decide_eq_true (by first | (with_reducible assumption) | assumption); have q108 : x14_1 < (y107.length : Int) := (by have h_ : (x14_1 : Int) < ((x7_1.length : Int) : Int) := of_decide_eq_true (by first | (with_reducible assumption) | assumption); first | (have e_ := (Kd.S_reads' HO_7.out).1; omega) | simpa only [Ny107.out, List.length_set] using h_); have ql108 : ((x14_1 : Int) < ((x7_1.length : Int) : Int)) = True := eq_true (of_decide_eq_true (by first | (with_reducible assumption) | assumption)); obtain ⟨ad108, A108_0, c108_0, e108, hx108_0, hl108_0, hi108_0⟩ := at_L1 (Kd.S_reads' HO_7.out).2.2 x14_1 p108 q108; obtain rfl : (⟨go14, 0, none⟩ : Addr) = ad108 := (by injection e108); obtain ⟨ce108, hce108, hMe108, hcc108⟩ := Kd.S_get HO_7.out [] x14_1 p108 (by first | exact q108 | exact of_decide_eq_true (by first | (with_reducible assumption) | assumption) | (have e_ := (Kd.S_reads' HO_7.out).1; omega)); obtain ⟨ve108_0, rfl, ge108_0⟩ := hMe108; have hv108_0 := hcc108 0 _ rfl; rw [Nat.add_zero, show ((Kd.slice 5 (Kd.int .u8))).sz = 1 from rfl, Nat.mul_one] at hv108_0; replace hv108_0 := Option.some.inj (hv108_0.symm.trans hx108_0); rw [hv108_0] at ge108_0; have HL108_0 := Aside0.mk (show Kd.R (Kd.int .u8) 5 _ _ _ _ (rd_L1 y107 x14_1) from ge108_0); clear hv108_0 ge108_0; have HX108_0 := Aside0.mk hx108_0; clear hcc108 hce108; (first | simp only [add_plain] at hx108_0 | simp only [add_at] at hx108_0 | simp only [Addr.add, Nat.zero_add] at hx108_0 | skip); have HR108_0 := Aside0.mk hi108_0; have HC108_0 := Aside0.mk hl108_0; clear hi108_0 hl108_0; replace p108 := eq_true p108; replace q108 := eq_true q108))
          go_loopg [27] k1 (fun kq v27 w' => ∃ (x7_2 : List (List Int)) (x27_2 : Int), v27 = .int .i64 x27_2 ∧ Aside0 (matrix_grid.l1 kq a1 x7_2 x14_1 (y101.length : Int) x14_1 ((rd_L1 y107 x14_1).length : Int) x27_2 = some r) ∧ Aside0 (kq ≤ k1) ∧ Aside0 (Kd.S (Kd.slice 5 (Kd.int .u8)) 43 w' w.heap.size (fun _ => True) (.slice (some ⟨go14, 0, none⟩) x7_1.length co8) x7_2) ∧ Aside0 (Below w.heap.size w w'))
          case atStart => exact ⟨(y107), (0), (by first | rfl | (simp; done) | (simp [*]; done)), H', ⟨Nat.le_refl _⟩, ⟨by (try simp only [hl7_1]); (with_reducible repeat (first | apply Kd.S_alloc | apply Kd.S_drewN | apply Kd.S_drew)); exact HO_7.out⟩, ⟨by repeat (first | (with_reducible first | exact HB.out | apply below_alloc | apply pw_below_drewN | apply below_drew1) | exact HB.out)⟩⟩
          case round =>
           clear H'
           try clear c1
           try clear p1
           try clear q1
           try clear hx1
           try clear p2
           try clear c3
           try clear c4
           try clear c4b0
           try clear c4b1
           try clear c5
           try clear c5b0
           try clear c5b1
           try clear c9
           try clear c9b0
           try clear c10
           try clear c10b0
           try clear c10b1
           try clear p10
           try clear q10
           try clear hx10
           try clear c11
           try clear c11b0
           try clear c11b1
           try clear c12
           try clear c12b0
           try clear c13
           try clear c13b0
           try clear c14
           try clear p14
           try clear q14
           try clear hx14
           try clear hf14
           try clear c17
           try clear hx17
           try clear hf17
           try clear hx108_0
           try clear hx14_0
           try clear hx17_0
           try clear p108
           try clear p14
           try clear p2
           try clear q108
           try clear q14
           obtain ⟨x7_2, x27_2, rfl, HA, HK2, HO_7, HB⟩ := hrel
           have hl7_2 := (Kd.S_reads' HO_7.out).1
           rw [hl7_2] at HO_7
           (try simp only [hl7_2])
           cases gk with
           | zero => exact absurd HA.out (by simp [matrix_grid.l1])
           | succ k2 =>
            have H := HA.out
            clear HA
            simp only [matrix_grid.l1] at H
            by_cases c20 : x27_2 < ((rd_L1 y107 x14_1).length : Int)
            ·rw [if_pos c20] at H
             have c20b0 : decide (x27_2 < ((rd_L1 y107 x14_1).length : Int)) = true := decide_eq_true c20
             clear c20
             by_cases c21 : 0 ≤ x14_1
             ·rw [if_pos c21] at H
              have c21b0 : decide (0 ≤ x14_1) = true := decide_eq_true c21
              clear c21
              by_cases c22 : x14_1 < (x7_2.length : Int)
              ·rw [if_pos c22] at H
               have c22b0 : decide (x14_1 < (x7_2.length : Int)) = true := decide_eq_true c22
               clear c22
               replace H := Option.bind_eq_some_iff.mp H
               obtain ⟨t110, A230, H⟩ := H
               replace H : (if 0 ≤ x27_2 then (if x27_2 < ((rd_L1 x7_2 x14_1).length : Int) then (matrix_grid.l1 k2 a1 (x7_2.set (x14_1 : Int).toNat ((rd_L1 x7_2 x14_1).set (x27_2 : Int).toNat t110)) x14_1 (y101.length : Int) x14_1 ((rd_L1 y107 x14_1).length : Int) (wrap64 (x27_2 + 1))) else (none)) else (none)) = some r := H
               have A23 := Aside0.mk A230
               clear A230
               by_cases c24 : 0 ≤ x27_2
               ·rw [if_pos c24] at H
                have c24b0 : decide (0 ≤ x27_2) = true := decide_eq_true c24
                clear c24
                by_cases c25 : x27_2 < ((rd_L1 x7_2 x14_1).length : Int)
                ·rw [if_pos c25] at H
                 have c25b0 : decide (x27_2 < ((rd_L1 x7_2 x14_1).length : Int)) = true := decide_eq_true c25
                 clear c25
                 obtain ⟨y111, hy111⟩ : ∃ y_ : List Int, y_ = ((rd_L1 x7_2 x14_1).set (x27_2 : Int).toNat t110) := ⟨_, rfl⟩
                 replace H : (matrix_grid.l1 k2 a1 (x7_2.set (x14_1 : Int).toNat y111) x14_1 (y101.length : Int) x14_1 ((rd_L1 y107 x14_1).length : Int) (wrap64 (x27_2 + 1))) = some r := by first | (rw [hy111]; with_reducible exact H) | (have H2_ := (Option.bind_some _ _).symm.trans H; rw [hy111]; with_reducible exact H2_) | (have H2_ := (Option.bind_some _ _).symm.trans H; with_reducible exact H2_) | with_reducible exact H | (rw [hy111]; exact H) | exact H
                 have Ny111 := Aside0.mk hy111
                 clear hy111
                 obtain ⟨y113, hy113⟩ : ∃ y_ : List (List Int), y_ = (x7_2.set (x14_1 : Int).toNat y111) := ⟨_, rfl⟩
                 replace H : (matrix_grid.l1 k2 a1 y113 x14_1 (y101.length : Int) x14_1 ((rd_L1 y107 x14_1).length : Int) (wrap64 (x27_2 + 1))) = some r := by first | (rw [hy113]; with_reducible exact H) | (have H2_ := (Option.bind_some _ _).symm.trans H; rw [hy113]; with_reducible exact H2_) | (have H2_ := (Option.bind_some _ _).symm.trans H; with_reducible exact H2_) | with_reducible exact H | (rw [hy113]; exact H) | exact H
                 have Ny113 := Aside0.mk hy113
                 clear hy113
                 have H' := Aside0.mk H
                 clear H
                 try go_wp2
                 have n0_ := Aside0.mk (Kd.S_drew HO_7.out)
                 have n1_ := Aside0.mk (below_drew1 HB.out)
                 clear HO_7
                 clear HB
                 have HO_7 := n0_
                 have HB := n1_
                 clear n0_ n1_
                 have p109 : 0 ≤ (x14_1 : Int) := of_decide_eq_true (by first | (with_reducible assumption) | assumption)
                 have q109 : x14_1 < (x7_2.length : Int) := of_decide_eq_true (by first | (with_reducible assumption) | assumption)
                 obtain ⟨ad109, A109_0, c109_0, e109, hx109_0, hl109_0, hi109_0⟩ := at_L1 (Kd.S_reads' HO_7.out).2.2 x14_1 p109 q109
                 obtain rfl : (⟨go14, 0, none⟩ : Addr) = ad109 := (by injection e109)
                 obtain ⟨ce109, hce109, hMe109, hcc109⟩ := Kd.S_get HO_7.out [] x14_1 p109 (by first | exact q109 | exact of_decide_eq_true (by first | (with_reducible assumption) | assumption) | (have e_ := (Kd.S_reads' HO_7.out).1; omega))
                 obtain ⟨ve109_0, rfl, ge109_0⟩ := hMe109
                 have hv109_0 := hcc109 0 _ rfl
                 rw [Nat.add_zero, show ((Kd.slice 5 (Kd.int .u8))).sz = 1 from rfl, Nat.mul_one] at hv109_0
                 replace hv109_0 := Option.some.inj (hv109_0.symm.trans hx109_0)
                 rw [hv109_0] at ge109_0
                 have HL109_0 := Aside0.mk (show Kd.R (Kd.int .u8) 5 _ _ _ _ (rd_L1 x7_2 x14_1) from ge109_0)
                 clear hv109_0 ge109_0
                 have HX109_0 := Aside0.mk hx109_0
                 clear hcc109 hce109
                 (first | simp only [add_plain] at hx109_0 | simp only [add_at] at hx109_0 | simp only [Addr.add, Nat.zero_add] at hx109_0 | skip)
                 have HR109_0 := Aside0.mk hi109_0
                 have HC109_0 := Aside0.mk hl109_0
                 clear hi109_0 hl109_0
                 replace p109 := eq_true p109
                 replace q109 := eq_true q109
                 refine start_ (n := 11) (S := fun w' => w'.cell? ⟨go14, (x14_1).toNat, none⟩ = some (.slice A109_0 (rd_L1 x7_2 x14_1).length c109_0)) (ds := [10]) #[false, false, false, false, false, false, false, false, false, false, false] (by kernel_rfl) rfl rfl (hx109_0) (fun hHeld => ?_); refine with_tabW matrix_grid.tab9 matrix_grid.bits9 (fun HT_ HW_ => ?_)
                 generalize wr.drew = w27 at HO_7 HB HL109_0 HR109_0 HX109_0 hx109_0 hHeld ⊢
                 refine pure_ (i := 0) (N := some 30) (v := ?_) (a' := ?_) #[true, false, false, false, false, false, false, false, false, false, false] rfl rfl (any_of HT_.out (by kernel_rfl)) (fun _ _ _ h => h) (Or.inl ⟨by rfl, ?_⟩) ?_ ?_
                 rotate_left
                 ·intro w'
                  go_simp
                  with_reducible rfl
                 rotate_left
                 ·simp only [Act.put, List.setIfInBounds_toArray, List.set_cons_zero, List.set_cons_succ, i64_w, i32_w]
                  rfl
                 refine pure_ (i := 1) (N := some 31) (v := ?_) (a' := ?_) #[true, true, false, false, false, false, false, false, false, false, false] rfl rfl (any_of HT_.out (by kernel_rfl)) (fun _ _ _ h => h) (Or.inl ⟨by rfl, ?_⟩) ?_ ?_
                 rotate_left
                 ·intro w'
                  go_simp
                  with_reducible rfl
                 rotate_left
                 ·simp only [Act.put, List.setIfInBounds_toArray, List.set_cons_zero, List.set_cons_succ, i64_w, i32_w]
                  rfl
                 refine pure_ (i := 2) (N := some 32) (v := ?_) (a' := ?_) #[true, true, true, false, false, false, false, false, false, false, false] rfl rfl (any_of HT_.out (by kernel_rfl)) (fun _ _ _ h => h) (Or.inl ⟨by rfl, ?_⟩) ?_ ?_
                 rotate_left
                 ·intro w'
                  go_simp
                  with_reducible rfl
                 rotate_left
                 ·simp only [Act.put, List.setIfInBounds_toArray, List.set_cons_zero, List.set_cons_succ, i64_w, i32_w]
                  rfl
                 refine pure_ (i := 4) (N := some 34) (v := ?_) (a' := ?_) #[true, true, true, false, true, false, false, false, false, false, false] rfl rfl (any_of HT_.out (by kernel_rfl)) (fun _ _ _ h => h) (Or.inl ⟨by rfl, ?_⟩) ?_ ?_
                 rotate_left
                 ·intro w'
                  go_simp
                  with_reducible rfl
                 rotate_left
                 ·simp only [Act.put, List.setIfInBounds_toArray, List.set_cons_zero, List.set_cons_succ, i64_w, i32_w]
                  rfl
                 refine pure_ (i := 5) (N := some 35) (v := ?_) (a' := ?_) #[true, true, true, false, true, true, false, false, false, false, false] rfl rfl (any_of HT_.out (by kernel_rfl)) (fun _ _ _ h => h) (Or.inl ⟨by rfl, ?_⟩) ?_ ?_
                 rotate_left
                 ·intro w'
                  go_simp
                  with_reducible rfl
                 rotate_left
                 ·simp only [Act.put, List.setIfInBounds_toArray, List.set_cons_zero, List.set_cons_succ, i64_w, i32_w]
                  rfl
                 refine pure_ (i := 6) (N := some 36) (v := ?_) (a' := ?_) #[true, true, true, false, true, true, true, false, false, false, false] rfl rfl (any_of HT_.out (by kernel_rfl)) (fun _ _ _ h => h) (Or.inl ⟨by rfl, ?_⟩) ?_ ?_
                 rotate_left
                 ·intro w'
                  go_simp
                  with_reducible rfl
                 rotate_left
                 ·simp only [Act.put, List.setIfInBounds_toArray, List.set_cons_zero, List.set_cons_succ, i64_w, i32_w]
                  rfl
                 refine pure_ (i := 7) (N := some 37) (v := ?_) (a' := ?_) #[true, true, true, false, true, true, true, true, false, false, false] rfl rfl (any_of HT_.out (by kernel_rfl)) (fun _ _ _ h => h) (Or.inl ⟨by rfl, ?_⟩) ?_ ?_
                 rotate_left
                 ·intro w'
                  go_simp
                  with_reducible rfl
                 rotate_left
                 ·simp only [Act.put, List.setIfInBounds_toArray, List.set_cons_zero, List.set_cons_succ, i64_w, i32_w]
                  rfl
                 refine take_ (i := 3) (N := some 33) (v := ?_) (a' := ?_) #[true, true, true, true, true, true, true, true, false, false, false] rfl rfl (take_ofW HT_.out HW_.out (by kernel_rfl)) (fun _ _ _ h => h) (Or.inl ⟨by rfl, ?_⟩) hHeld ?_ ?_
                 rotate_left
                 ·intro w' s0
                  (try simp only [Int.toNat_natCast] at s0)
                  go_simp
                  with_reducible rfl
                 rotate_left
                 ·simp only [Act.put, List.setIfInBounds_toArray, List.set_cons_zero, List.set_cons_succ, i64_w, i32_w]
                  rfl
                 refine one_ (i := 8) (N := some 38) #[true, true, true, true, true, true, true, true, true, false, false] rfl rfl (one_of HT_.out (by kernel_rfl)) (by decide) (fun K hK => ?_)
                 refine goesAt_ #[.int .i64 x14_1, .int .i64 x27_2] (by rfl) rfl rfl (by (try simp only [List.map_toArray, List.map_cons, List.map_nil]); first | done | rfl) (by rfl) ?_
                 with_reducible refine (AT.calls x14_1 x27_2 t110 _ ?side1 A23.out).mono ?_
                 (case side1 => first | (with_reducible exact HG.out) | (with_reducible exact HighIn.drewN HG.out _) | exact HighIn.below HG.out (by repeat (first | (with_reducible first | exact HB.out | apply below_alloc | apply pw_below_drewN | apply below_drew1) | exact HB.out)) | ((repeat (first | (with_reducible exact HG.out) | (with_reducible apply HighIn.drewN) | (with_reducible apply HighIn.drew) | (with_reducible apply HighIn.alloc))); done))
                 rintro e w' ⟨rfl, ⟨nd, rfl⟩⟩
                 refine ⟨_, rfl, ?_⟩
                 have p26 : 0 ≤ (x27_2 : Int) := of_decide_eq_true (by first | (with_reducible assumption) | assumption)
                 have q26 : (x27_2 : Int) < (((rd_L1 x7_2 x14_1).length : Int) : Int) := of_decide_eq_true (by first | (with_reducible assumption) | assumption)
                 obtain ⟨go26, co26, eo26, gb26, gl26, cl26, HG26⟩ := Kd.R_form HL109_0.out (by omega)
                 (first | cases eo26 | (injection eo26 with ea_ en_ ec_; (first | subst ea_ | (injection ea_ with ea_; subst ea_)); subst ec_; clear en_))
                 have GB26 := Aside0.mk gb26
                 have GG26 := Aside0.mk HG26
                 clear gb26 gl26 HG26
                 obtain ⟨hx26_0, hf26_0⟩ := Kd.R_celln 0 HL109_0.out (x27_2 : Int) p26 q26
                 replace p26 := eq_true p26
                 replace q26 := eq_true q26
                 have hq28 : (x14_1 : Int) < (x7_2.length : Int) := (by have h_ : (x14_1 : Int) < ((x7_2.length : Int) : Int) := of_decide_eq_true (by first | (with_reducible assumption) | assumption); first | exact h_ | (have e_ := (Kd.S_reads' HO_7.out).1; omega) | simpa only [List.length_set, List.length_set] using h_)
                 obtain ⟨oki28, ce28, hcl28, hM28, hcc28, hok28, hbk28⟩ := Kd.S_borrow HO_7.out [] (x14_1 : Int) (of_decide_eq_true (by first | (with_reducible assumption) | assumption)) hq28
                 obtain ⟨ve28_0, rfl, ge28_0⟩ := hM28
                 have hv28 := hcc28 0 _ rfl
                 rw [Nat.add_zero, show ((Kd.slice 5 (Kd.int .u8))).sz = 1 from rfl, Nat.mul_one] at hv28
                 replace hv28 := Option.some.inj (hv28.symm.trans HX109_0.out)
                 subst hv28
                 clear hcc28 hcl28
                 replace ge28_0 := (show Kd.R (Kd.int .u8) 5 _ _ _ _ (rd_L1 x7_2 x14_1) from ge28_0)
                 have HP28 := Kd.R_putg ge28_0 (x27_2 : Int) t110
                 rw [← Ny111.out] at HP28
                 have HS28 := hbk28 HP28.2 (fun k_ e_ => by injection e_ with e_; subst e_; exact ge28_0.1 _ rfl) (x' := y111) (Kd.M_row HP28.1)
                 rw [← Ny113.out] at HS28
                 have HQ28 := Aside0.mk HS28
                 clear HP28 HS28 hbk28 hok28
                 refine hK.out _ _ (hHeld) (fun hHeld => ?_)
                 clear hK K
                 refine norm_ (a' := ?_) ?_ ?_
                 rotate_left
                 ·show Act.put _ (some 38) _ = _
                  simp only [Act.put, List.setIfInBounds_toArray, List.set_cons_zero, List.set_cons_succ, i64_w, i32_w]
                  rfl
                 refine pure_ (i := 9) (N := some 39) (v := ?_) (a' := ?_) #[true, true, true, true, true, true, true, true, true, true, false] rfl rfl (any_of HT_.out (by kernel_rfl)) (fun _ _ _ h => h) (Or.inl ⟨by rfl, ?_⟩) ?_ ?_
                 rotate_left
                 ·intro w'
                  go_simp
                  with_reducible rfl
                 rotate_left
                 ·simp only [Act.put, List.setIfInBounds_toArray, List.set_cons_zero, List.set_cons_succ, i64_w, i32_w]
                  rfl
                 refine last_ (i := 10) (N := none) #[true, true, true, true, true, true, true, true, true, true, true] rfl rfl (one_of HT_.out (by kernel_rfl)) (by decide) (fun K hK => ?_)
                 refine skip_ (w1 := ?_) (by rfl) rfl ?_ ?_
                 rotate_left
                 ·go_simp
                  rfl
                 refine hK.out _ _ ?_
                 clear hK K
                 refine done_ (done_of HT_.out (by kernel_rfl)) ?_
                 try go_wp2
                 (try simp only [← hl7_2])
                 go_roundg k2
                 case measure => have := HK1.out; have := HK2.out; omega
                 case rel => exact ⟨(y113), (wrap64 (x27_2 + 1)), (by first | rfl | (simp; done) | (simp [*]; done)), H', ⟨by have := HK1.out; have := HK2.out; omega⟩, ⟨by (try simp only [hl7_1]); (try simp only [hl7_2]); (with_reducible repeat (first | apply Kd.S_alloc | apply Kd.S_drewN | apply Kd.S_drew)); exact HQ28.out⟩, ⟨by repeat (first | (with_reducible first | exact HB.out | apply below_alloc | apply pw_below_drewN | apply below_drew1 | refine below_set ?_ GB26.out) | exact HB.out)⟩⟩
                ·rw [if_neg c25] at H
                 exact absurd H (by simp)
               ·rw [if_neg c24] at H
                exact absurd H (by simp)
              ·rw [if_neg c22] at H
               exact absurd H (by simp)
             ·rw [if_neg c21] at H
              exact absurd H (by simp)
            ·rw [if_neg c20] at H
             have c20b0 : decide (x27_2 < ((rd_L1 y107 x14_1).length : Int)) = false := decide_eq_false c20
             have c20b0z := c20b0
             (try simp only [hl7_1, hl7_2] at c20b0z)
             clear c20
             have H' := Aside0.mk H
             clear H
             go_wp2
             (try simp only [← hl7_1, ← hl7_2])
             go_roundg k2
             case measure => have := HK1.out; have := HK2.out; omega
             case rel => exact ⟨(x7_2), (wrap64 (x14_1 + 1)), (by first | rfl | (simp; done) | (simp [*]; done)), H', ⟨by have := HK1.out; have := HK2.out; omega⟩, ⟨by (try simp only [hl7_1]); (try simp only [hl7_2]); (with_reducible repeat (first | apply Kd.S_alloc | apply Kd.S_drewN | apply Kd.S_drew)); exact HO_7.out⟩, ⟨by repeat (first | (with_reducible first | exact HB.out | apply below_alloc | apply pw_below_drewN | apply below_drew1) | exact HB.out)⟩⟩
         ·rw [if_neg c13] at H
          exact absurd H (by simp)
        ·rw [if_neg c12] at H
         exact absurd H (by simp)
       ·rw [if_neg c11] at H
        exact absurd H (by simp)
      ·rw [if_neg c10] at H
       exact absurd H (by simp)
     ·rw [if_neg c9] at H
      have c9b0 : decide (x14_1 < (y101.length : Int)) = false := decide_eq_false c9
      have c9b0z := c9b0
      (try simp only [hl7_1] at c9b0z)
      clear c9
      obtain rfl := Option.some.inj H
      go_wp2
      go_ret
      exact ⟨_, by first | rfl | (simp [errW_none, errW_some] <;> rfl) | (simp [*, errW_none, errW_some] <;> rfl), by (with_reducible repeat (first | apply Kd.S_alloc | apply Kd.S_drewN | apply Kd.S_drew)); exact HO_7.out, by repeat (first | (with_reducible first | exact HB.out | apply below_alloc | apply pw_below_drewN | apply below_drew1) | exact HB.out)⟩
  ·rw [if_neg c5] at H
   exact absurd H (by simp)
 ·rw [if_neg c4] at H
  exact absurd H (by simp)
end Go.Proofs.YtijebgceopddmaaDoor.Grid
end
section
namespace Go.Proofs.YtijebgceopddmaaDoor.Lit
open Go.RowKit Go.Proofs.YtijebgceopddmaaDoor.Gf Go.Proofs.YtijebgceopddmaaDoorW.PrintWords Go.Proofs.YtijebgceopddmaaDoorW.PrintLast Go.Proofs.YtijebgceopddmaaDoorW.PrintMore
attribute [local go_sem] max2_int min2_int max_two min_two max_three min_three max_four min_four   -- for this text's walks alone
set_option linter.unusedVariables false
set_option linter.unusedSimpArgs false
def errW : Option Int → Value
 | none => .nilIface
 | some c => .iface 0 (.int .i64 c)
theorem errW_none : errW none = .nilIface := rfl
theorem errW_some (c : Int) : errW (some c) = .iface 0 (.int .i64 c) := rfl
-- the values' own types
def rd_L1 (xs : List (List Int)) (i : Int) : (List Int) := xs.getD i.toNat ([] : List Int)
theorem at_L1 {w : World} {A : Option Addr} {n : Nat} {xs : List (List Int)} (h : Kd.C (Kd.slice 5 (Kd.int .u8)) w A n xs) (i : Int) (h0 : 0 ≤ i) (h1 : i < n) : ∃ ad A0 c0, A = some ad ∧ w.cell? (ad.add i.toNat) = some (.slice A0 (rd_L1 xs i).length c0) ∧ (rd_L1 xs i).length ≤ c0 ∧ (Kd.int .u8).C w A0 (rd_L1 xs i).length (rd_L1 xs i) := by
 obtain ⟨ad, c, e, _, hK, hc0⟩ := Kd.C_get h ([] : List Int) i h0 h1
 have hc : ∀ j u, c[j]? = some u → w.cell? (ad.add (i.toNat * 1 + j)) = some u := hc0
 obtain ⟨A0, c0, rfl, l0, g0⟩ := hK
 exact ⟨ad, A0, c0, e, by have hq := hc 0 _ rfl; rwa [Nat.mul_one, Nat.add_zero] at hq, l0, g0⟩
end Go.Proofs.YtijebgceopddmaaDoor.Lit
end
section
namespace Go.Proofs.YtijebgceopddmaaDoor.Lit
open Go.RowKit Go.Proofs.YtijebgceopddmaaDoor.Gf Go.Proofs.YtijebgceopddmaaDoorW.PrintWords Go.Proofs.YtijebgceopddmaaDoorW.PrintLast Go.Proofs.YtijebgceopddmaaDoorW.PrintMore
attribute [local go_sem] max2_int min2_int max_two min_two max_three min_three max_four min_four   -- for this text's walks alone
set_option linter.unusedVariables false
set_option linter.unusedSimpArgs false
def matrix_Transpose_1.f (a0 : Int) (a1 : Int) (l2 : List (List Int)) : Option (Int) := if 0 ≤ a1 then (if a1 < (l2.length : Int) then (if 0 ≤ a0 then (if a0 < ((rd_L1 l2 a1).length : Int) then (some (rd (rd_L1 l2 a1) a0)) else (none)) else (none)) else (none)) else (none)
set_option maxHeartbeats 8000000 in
set_option maxRecDepth 100000 in
theorem matrix_Transpose_1.calls (a0 : Int) (a1 : Int) (gb2 : Nat) (A2 : Option Addr) (c2 : Nat) (l2 : List (List Int)) (r : Int) (w : World) (hr2 : Kd.C (Kd.slice 5 (Kd.int .u8)) w A2 l2.length l2) (hc2 : l2.length ≤ c2) (hb2 : w.heap[gb2]? = some (.cells #[.slice A2 l2.length c2] 22 (0, 0))) (h : matrix_Transpose_1.f a0 a1 l2 = some r) :
  Calls Tryd.prog 37 #[.int .i64 a0, .int .i64 a1, .pointer (some ⟨gb2, 0, none⟩)] w fun e w' => e = .returned (.int .u8 r) ∧ Drawn0 w w' := by
 have HR2 := Aside0.mk hr2
 have HC2 := Aside0.mk hc2
 clear hr2 hc2
 have BK902 := Aside0.mk hb2
 clear hb2
 have H : (if 0 ≤ a1 then (if a1 < (l2.length : Int) then (if 0 ≤ a0 then (if a0 < ((rd_L1 l2 a1).length : Int) then (some (rd (rd_L1 l2 a1) a0)) else (none)) else (none)) else (none)) else (none)) = some r := h
 clear h
 by_cases c4 : 0 ≤ a1
 ·rw [if_pos c4] at H
  have c4b0 : decide (0 ≤ a1) = true := decide_eq_true c4
  clear c4
  by_cases c5 : a1 < (l2.length : Int)
  ·rw [if_pos c5] at H
   have c5b0 : decide (a1 < (l2.length : Int)) = true := decide_eq_true c5
   clear c5
   by_cases c6 : 0 ≤ a0
   ·rw [if_pos c6] at H
    have c6b0 : decide (0 ≤ a0) = true := decide_eq_true c6
    clear c6
    by_cases c7 : a0 < ((rd_L1 l2 a1).length : Int)
    ·rw [if_pos c7] at H
     have c7b0 : decide (a0 < ((rd_L1 l2 a1).length : Int)) = true := decide_eq_true c7
     clear c7
     obtain rfl := Option.some.inj H
     have hcz8_0 := (blk_cell BK902.out 0).trans (show _ = some (.slice A2 l2.length c2) from rfl)
     have hfz8_0 := blk_frozen BK902.out 0
     have p101 : 0 ≤ (a1 : Int) := of_decide_eq_true (by first | (with_reducible assumption) | assumption)
     have q101 : a1 < (l2.length : Int) := of_decide_eq_true (by first | (with_reducible assumption) | assumption)
     obtain ⟨ad101, A101_0, c101_0, e101, hx101_0, hl101_0, hi101_0⟩ := at_L1 HR2.out a1 p101 q101
     cases e101
     have HR101_0 := Aside0.mk hi101_0
     have HC101_0 := Aside0.mk hl101_0
     clear hi101_0 hl101_0
     replace p101 := eq_true p101
     replace q101 := eq_true q101
     have p102 : 0 ≤ (a0 : Int) := of_decide_eq_true (by first | (with_reducible assumption) | assumption)
     have q102 : a0 < ((rd_L1 l2 a1).length : Int) := of_decide_eq_true (by first | (with_reducible assumption) | assumption)
     obtain ⟨ad102, e102, hx102_0⟩ := Kd.at_int HR101_0.out a0 p102 q102
     cases e102
     replace p102 := eq_true p102
     replace q102 := eq_true q102
     go_enter Tryd.func37, Tryd.ntmps37
     go_wp2
     go_ret
     exact ⟨by first | rfl | (simp; done) | (simp [*]; done), by repeat (first | exact Drawn0.refl _ | apply Drawn0.step)⟩
    ·rw [if_neg c7] at H
     exact absurd H (by simp)
   ·rw [if_neg c6] at H
    exact absurd H (by simp)
  ·rw [if_neg c5] at H
   exact absurd H (by simp)
 ·rw [if_neg c4] at H
  exact absurd H (by simp)
def matrix_Inverse_1.f (a0 : Int) (a1 : Int) (a2 : Int) (l3 : List (List Int)) : Option (Int) := if a1 < a2 then (if 0 ≤ a0 then (if a0 < (l3.length : Int) then (if 0 ≤ a1 then (if a1 < ((rd_L1 l3 a0).length : Int) then (some (rd (rd_L1 l3 a0) a1)) else (none)) else (none)) else (none)) else (none)) else (if a1 = (wrap64 (a2 + a0)) then (some 1) else (some 0))
set_option maxHeartbeats 8000000 in
set_option maxRecDepth 100000 in
theorem matrix_Inverse_1.calls (a0 : Int) (a1 : Int) (gb2 : Nat) (a2 : Int) (gb3 : Nat) (A3 : Option Addr) (c3 : Nat) (l3 : List (List Int)) (r : Int) (w : World) (hr3 : Kd.C (Kd.slice 5 (Kd.int .u8)) w A3 l3.length l3) (hc3 : l3.length ≤ c3) (hb2 : w.heap[gb2]? = some (.cells #[.int .i64 a2] 3 (0, 0))) (hb3 : w.heap[gb3]? = some (.cells #[.slice A3 l3.length c3] 22 (0, 0))) (h : matrix_Inverse_1.f a0 a1 a2 l3 = some r) :
  Calls Tryd.prog 44 #[.int .i64 a0, .int .i64 a1, .pointer (some ⟨gb2, 0, none⟩), .pointer (some ⟨gb3, 0, none⟩)] w fun e w' => e = .returned (.int .u8 r) ∧ Drawn0 w w' := by
 have HR3 := Aside0.mk hr3
 have HC3 := Aside0.mk hc3
 clear hr3 hc3
 have BK902 := Aside0.mk hb2
 clear hb2
 have BK903 := Aside0.mk hb3
 clear hb3
 have H : (if a1 < a2 then (if 0 ≤ a0 then (if a0 < (l3.length : Int) then (if 0 ≤ a1 then (if a1 < ((rd_L1 l3 a0).length : Int) then (some (rd (rd_L1 l3 a0) a1)) else (none)) else (none)) else (none)) else (none)) else (if a1 = (wrap64 (a2 + a0)) then (some 1) else (some 0))) = some r := h
 clear h
 by_cases c5 : a1 < a2
 ·rw [if_pos c5] at H
  have c5b0 : decide (a1 < a2) = true := decide_eq_true c5
  clear c5
  by_cases c6 : 0 ≤ a0
  ·rw [if_pos c6] at H
   have c6b0 : decide (0 ≤ a0) = true := decide_eq_true c6
   clear c6
   by_cases c7 : a0 < (l3.length : Int)
   ·rw [if_pos c7] at H
    have c7b0 : decide (a0 < (l3.length : Int)) = true := decide_eq_true c7
    clear c7
    by_cases c8 : 0 ≤ a1
    ·rw [if_pos c8] at H
     have c8b0 : decide (0 ≤ a1) = true := decide_eq_true c8
     clear c8
     by_cases c9 : a1 < ((rd_L1 l3 a0).length : Int)
     ·rw [if_pos c9] at H
      have c9b0 : decide (a1 < ((rd_L1 l3 a0).length : Int)) = true := decide_eq_true c9
      clear c9
      obtain rfl := Option.some.inj H
      have hcz10_0 := (blk_cell BK902.out 0).trans (show _ = some (.int .i64 a2) from rfl)
      have hfz10_0 := blk_frozen BK902.out 0
      have hcz11_0 := (blk_cell BK903.out 0).trans (show _ = some (.slice A3 l3.length c3) from rfl)
      have hfz11_0 := blk_frozen BK903.out 0
      have p103 : 0 ≤ (a0 : Int) := of_decide_eq_true (by first | (with_reducible assumption) | assumption)
      have q103 : a0 < (l3.length : Int) := of_decide_eq_true (by first | (with_reducible assumption) | assumption)
      obtain ⟨ad103, A103_0, c103_0, e103, hx103_0, hl103_0, hi103_0⟩ := at_L1 HR3.out a0 p103 q103
      cases e103
      have HR103_0 := Aside0.mk hi103_0
      have HC103_0 := Aside0.mk hl103_0
      clear hi103_0 hl103_0
      replace p103 := eq_true p103
      replace q103 := eq_true q103
      have p104 : 0 ≤ (a1 : Int) := of_decide_eq_true (by first | (with_reducible assumption) | assumption)
      have q104 : a1 < ((rd_L1 l3 a0).length : Int) := of_decide_eq_true (by first | (with_reducible assumption) | assumption)
      obtain ⟨ad104, e104, hx104_0⟩ := Kd.at_int HR103_0.out a1 p104 q104
      cases e104
      replace p104 := eq_true p104
      replace q104 := eq_true q104
      go_enter Tryd.func44, Tryd.ntmps44
      go_wp2
      go_ret
      exact ⟨by first | rfl | (simp; done) | (simp [*]; done), by repeat (first | exact Drawn0.refl _ | apply Drawn0.step)⟩
     ·rw [if_neg c9] at H
      exact absurd H (by simp)
    ·rw [if_neg c8] at H
     exact absurd H (by simp)
   ·rw [if_neg c7] at H
    exact absurd H (by simp)
  ·rw [if_neg c6] at H
   exact absurd H (by simp)
 ·rw [if_neg c5] at H
  have c5b0 : decide (a1 < a2) = false := decide_eq_false c5
  clear c5
  by_cases c12 : a1 = (wrap64 (a2 + a0))
  ·rw [if_pos c12] at H
   have c12b0 : (a1 == (wrap64 (a2 + a0))) = true := beq_iff_eq.mpr c12
   have c12b1 : (a1 != (wrap64 (a2 + a0))) = false := bne_eq_false_iff_eq.mpr c12
   clear c12
   obtain rfl := Option.some.inj H
   have hcz13_0 := (blk_cell BK902.out 0).trans (show _ = some (.int .i64 a2) from rfl)
   have hfz13_0 := blk_frozen BK902.out 0
   go_enter Tryd.func44, Tryd.ntmps44
   go_wp2
   go_ret
   exact ⟨by first | rfl | (simp; done) | (simp [*]; done), by repeat (first | exact Drawn0.refl _ | apply Drawn0.step)⟩
  ·rw [if_neg c12] at H
   have c12b0 : (a1 == (wrap64 (a2 + a0))) = false := beq_eq_false_iff_ne.mpr c12
   have c12b1 : (a1 != (wrap64 (a2 + a0))) = true := bne_iff_ne.mpr c12
   obtain rfl := Option.some.inj H
   have hcz14_0 := (blk_cell BK902.out 0).trans (show _ = some (.int .i64 a2) from rfl)
   have hfz14_0 := blk_frozen BK902.out 0
   go_enter Tryd.func44, Tryd.ntmps44
   go_wp2
   go_ret
   exact ⟨by first | rfl | (simp; done) | (simp [*]; done), by repeat (first | exact Drawn0.refl _ | apply Drawn0.step)⟩
def matrix_Inverse_2.f (a0 : Int) (a1 : Int) (l2 : List (List Int)) (a3 : Int) : Option (Int) := if 0 ≤ a0 then (if a0 < (l2.length : Int) then (if 0 ≤ (wrap64 (a3 + a1)) then (if (wrap64 (a3 + a1)) < ((rd_L1 l2 a0).length : Int) then (some (rd (rd_L1 l2 a0) (wrap64 (a3 + a1)))) else (none)) else (none)) else (none)) else (none)
set_option maxHeartbeats 8000000 in
set_option maxRecDepth 100000 in
theorem matrix_Inverse_2.calls (a0 : Int) (a1 : Int) (gb2 : Nat) (A2 : Option Addr) (c2 : Nat) (l2 : List (List Int)) (gb3 : Nat) (a3 : Int) (r : Int) (w : World) (hr2 : Kd.C (Kd.slice 5 (Kd.int .u8)) w A2 l2.length l2) (hc2 : l2.length ≤ c2) (hb2 : w.heap[gb2]? = some (.cells #[.slice A2 l2.length c2] 22 (0, 0))) (hb3 : w.heap[gb3]? = some (.cells #[.int .i64 a3] 3 (0, 0))) (h : matrix_Inverse_2.f a0 a1 l2 a3 = some r) :
  Calls Tryd.prog 45 #[.int .i64 a0, .int .i64 a1, .pointer (some ⟨gb2, 0, none⟩), .pointer (some ⟨gb3, 0, none⟩)] w fun e w' => e = .returned (.int .u8 r) ∧ Drawn0 w w' := by
 have HR2 := Aside0.mk hr2
 have HC2 := Aside0.mk hc2
 clear hr2 hc2
 have BK902 := Aside0.mk hb2
 clear hb2
 have BK903 := Aside0.mk hb3
 clear hb3
 have H : (if 0 ≤ a0 then (if a0 < (l2.length : Int) then (if 0 ≤ (wrap64 (a3 + a1)) then (if (wrap64 (a3 + a1)) < ((rd_L1 l2 a0).length : Int) then (some (rd (rd_L1 l2 a0) (wrap64 (a3 + a1)))) else (none)) else (none)) else (none)) else (none)) = some r := h
 clear h
 by_cases c5 : 0 ≤ a0
 ·rw [if_pos c5] at H
  have c5b0 : decide (0 ≤ a0) = true := decide_eq_true c5
  clear c5
  by_cases c6 : a0 < (l2.length : Int)
  ·rw [if_pos c6] at H
   have c6b0 : decide (a0 < (l2.length : Int)) = true := decide_eq_true c6
   clear c6
   obtain ⟨ji7, hji7⟩ : ∃ j_ : Int, (wrap64 (a3 + a1)) = j_ := ⟨_, rfl⟩
   replace H : (if 0 ≤ (ji7) then (if (ji7) < ((rd_L1 l2 a0).length : Int) then (some (rd (rd_L1 l2 a0) (ji7))) else (none)) else (none)) = some r := by first | (rw [hji7] at H; exact H) | (simp only [hji7] at H ⊢; exact H)
   have hji7w : (IntKind.i64.wrap (a3 + a1)) = ji7 := (i64_w _).trans hji7
   by_cases c8 : 0 ≤ (ji7)
   ·rw [if_pos c8] at H
    have c8b0 : decide (0 ≤ (ji7)) = true := decide_eq_true c8
    clear c8
    by_cases c9 : (ji7) < ((rd_L1 l2 a0).length : Int)
    ·rw [if_pos c9] at H
     have c9b0 : decide ((ji7) < ((rd_L1 l2 a0).length : Int)) = true := decide_eq_true c9
     clear c9
     obtain rfl := Option.some.inj H
     have hcz10_0 := (blk_cell BK902.out 0).trans (show _ = some (.slice A2 l2.length c2) from rfl)
     have hfz10_0 := blk_frozen BK902.out 0
     have p105 : 0 ≤ (a0 : Int) := of_decide_eq_true (by first | (with_reducible assumption) | assumption)
     have q105 : a0 < (l2.length : Int) := of_decide_eq_true (by first | (with_reducible assumption) | assumption)
     obtain ⟨ad105, A105_0, c105_0, e105, hx105_0, hl105_0, hi105_0⟩ := at_L1 HR2.out a0 p105 q105
     cases e105
     have HR105_0 := Aside0.mk hi105_0
     have HC105_0 := Aside0.mk hl105_0
     clear hi105_0 hl105_0
     replace p105 := eq_true p105
     replace q105 := eq_true q105
     have hcz11_0 := (blk_cell BK903.out 0).trans (show _ = some (.int .i64 a3) from rfl)
     have hfz11_0 := blk_frozen BK903.out 0
     have p106 : 0 ≤ ((ji7) : Int) := of_decide_eq_true (by first | (with_reducible assumption) | assumption)
     have q106 : (ji7) < ((rd_L1 l2 a0).length : Int) := of_decide_eq_true (by first | (with_reducible assumption) | assumption)
     obtain ⟨ad106, e106, hx106_0⟩ := Kd.at_int HR105_0.out (ji7) p106 q106
     cases e106
     replace p106 := eq_true p106
     replace q106 := eq_true q106
     go_enter Tryd.func45, Tryd.ntmps45
     go_wp2
     repeat (go_quiet (fail); try go_wp2)
     go_ret
     exact ⟨by first | rfl | (simp; done) | (simp only [← hji7] <;> (first | rfl | simp)) | (simp [*]; done), by repeat (first | exact Drawn0.refl _ | apply Drawn0.step)⟩
    ·rw [if_neg c9] at H
     exact absurd H (by simp)
   ·rw [if_neg c8] at H
    exact absurd H (by simp)
  ·rw [if_neg c6] at H
   exact absurd H (by simp)
 ·rw [if_neg c5] at H
  exact absurd H (by simp)
def matrix_Express_1.f (a0 : Int) (a1 : Int) (l2 : List (List Int)) : Option (Int) := if 0 ≤ a1 then (if a1 < (l2.length : Int) then (if 0 ≤ a0 then (if a0 < ((rd_L1 l2 a1).length : Int) then (some (rd (rd_L1 l2 a1) a0)) else (none)) else (none)) else (none)) else (none)
set_option maxHeartbeats 8000000 in
set_option maxRecDepth 100000 in
theorem matrix_Express_1.calls (a0 : Int) (a1 : Int) (gb2 : Nat) (A2 : Option Addr) (c2 : Nat) (l2 : List (List Int)) (r : Int) (w : World) (hr2 : Kd.C (Kd.slice 5 (Kd.int .u8)) w A2 l2.length l2) (hc2 : l2.length ≤ c2) (hb2 : w.heap[gb2]? = some (.cells #[.slice A2 l2.length c2] 22 (0, 0))) (h : matrix_Express_1.f a0 a1 l2 = some r) :
  Calls Tryd.prog 46 #[.int .i64 a0, .int .i64 a1, .pointer (some ⟨gb2, 0, none⟩)] w fun e w' => e = .returned (.int .u8 r) ∧ Drawn0 w w' := by
 have HR2 := Aside0.mk hr2
 have HC2 := Aside0.mk hc2
 clear hr2 hc2
 have BK902 := Aside0.mk hb2
 clear hb2
 have H : (if 0 ≤ a1 then (if a1 < (l2.length : Int) then (if 0 ≤ a0 then (if a0 < ((rd_L1 l2 a1).length : Int) then (some (rd (rd_L1 l2 a1) a0)) else (none)) else (none)) else (none)) else (none)) = some r := h
 clear h
 by_cases c4 : 0 ≤ a1
 ·rw [if_pos c4] at H
  have c4b0 : decide (0 ≤ a1) = true := decide_eq_true c4
  clear c4
  by_cases c5 : a1 < (l2.length : Int)
  ·rw [if_pos c5] at H
   have c5b0 : decide (a1 < (l2.length : Int)) = true := decide_eq_true c5
   clear c5
   by_cases c6 : 0 ≤ a0
   ·rw [if_pos c6] at H
    have c6b0 : decide (0 ≤ a0) = true := decide_eq_true c6
    clear c6
    by_cases c7 : a0 < ((rd_L1 l2 a1).length : Int)
    ·rw [if_pos c7] at H
     have c7b0 : decide (a0 < ((rd_L1 l2 a1).length : Int)) = true := decide_eq_true c7
     clear c7
     obtain rfl := Option.some.inj H
     have hcz8_0 := (blk_cell BK902.out 0).trans (show _ = some (.slice A2 l2.length c2) from rfl)
     have hfz8_0 := blk_frozen BK902.out 0
     have p107 : 0 ≤ (a1 : Int) := of_decide_eq_true (by first | (with_reducible assumption) | assumption)
     have q107 : a1 < (l2.length : Int) := of_decide_eq_true (by first | (with_reducible assumption) | assumption)
     obtain ⟨ad107, A107_0, c107_0, e107, hx107_0, hl107_0, hi107_0⟩ := at_L1 HR2.out a1 p107 q107
     cases e107
     have HR107_0 := Aside0.mk hi107_0
     have HC107_0 := Aside0.mk hl107_0
     clear hi107_0 hl107_0
     replace p107 := eq_true p107
     replace q107 := eq_true q107
     have p108 : 0 ≤ (a0 : Int) := of_decide_eq_true (by first | (with_reducible assumption) | assumption)
     have q108 : a0 < ((rd_L1 l2 a1).length : Int) := of_decide_eq_true (by first | (with_reducible assumption) | assumption)
     obtain ⟨ad108, e108, hx108_0⟩ := Kd.at_int HR107_0.out a0 p108 q108
     cases e108
     replace p108 := eq_true p108
     replace q108 := eq_true q108
     go_enter Tryd.func46, Tryd.ntmps46
     go_wp2
     go_ret
     exact ⟨by first | rfl | (simp; done) | (simp [*]; done), by repeat (first | exact Drawn0.refl _ | apply Drawn0.step)⟩
    ·rw [if_neg c7] at H
     exact absurd H (by simp)
   ·rw [if_neg c6] at H
    exact absurd H (by simp)
  ·rw [if_neg c5] at H
   exact absurd H (by simp)
 ·rw [if_neg c4] at H
  exact absurd H (by simp)
def matrix_Product_1.l0 : Nat → Int → Int → List Int → Int → Int → List (List Int) → Option (Int)
 | 0, _, _, _, _, _, _ => none
 | k + 1, x1, x7, x13, x14, x15, x904000 => if x15 < x14 then (if 0 ≤ x15 then (if x15 < (x13.length : Int) then (if x15 < (x904000.length : Int) then (if 0 ≤ x1 then (if x1 < ((rd_L1 x904000 x15).length : Int) then ((gf_Mul.f k (rd x13 x15) (rd (rd_L1 x904000 x15) x1)).bind fun t113 => (matrix_Product_1.l0 k x1 (Go.bits .xor .u8 x7 t113) x13 x14 (wrap64 (x15 + 1)) x904000)) else (none)) else (none)) else (none)) else (none)) else (none)) else (some x7)
def matrix_Product_1.f (k : Nat) (a0 : Int) (a1 : Int) (l2 : List (List Int)) (l3 : List (List Int)) : Option (Int) := if 0 ≤ a0 then (if a0 < (l2.length : Int) then (matrix_Product_1.l0 k a1 0 (rd_L1 l2 a0) ((rd_L1 l2 a0).length : Int) 0 l3) else (none)) else (none)
set_option maxHeartbeats 8000000 in
set_option maxRecDepth 100000 in
theorem matrix_Product_1.calls (k : Nat) (a0 : Int) (a1 : Int) (gb2 : Nat) (A2 : Option Addr) (c2 : Nat) (l2 : List (List Int)) (gb3 : Nat) (A3 : Option Addr) (c3 : Nat) (l3 : List (List Int)) (r : Int) (w : World) (hG : HighIn w) (hr2 : Kd.C (Kd.slice 5 (Kd.int .u8)) w A2 l2.length l2) (hc2 : l2.length ≤ c2) (hr3 : Kd.C (Kd.slice 5 (Kd.int .u8)) w A3 l3.length l3) (hc3 : l3.length ≤ c3) (hb2 : w.heap[gb2]? = some (.cells #[.slice A2 l2.length c2] 22 (0, 0))) (hb3 : w.heap[gb3]? = some (.cells #[.slice A3 l3.length c3] 22 (0, 0))) (h : matrix_Product_1.f k a0 a1 l2 l3 = some r) :
  Calls Tryd.prog 47 #[.int .i64 a0, .int .i64 a1, .pointer (some ⟨gb2, 0, none⟩), .pointer (some ⟨gb3, 0, none⟩)] w fun e w' => e = .returned (.int .u8 r) ∧ Drawn0 w w' := by
 have HG := Aside0.mk hG
 clear hG
 have HR2 := Aside0.mk hr2
 have HC2 := Aside0.mk hc2
 clear hr2 hc2
 have HR3 := Aside0.mk hr3
 have HC3 := Aside0.mk hc3
 clear hr3 hc3
 have BK902 := Aside0.mk hb2
 clear hb2
 have BK903 := Aside0.mk hb3
 clear hb3
 have H : (if 0 ≤ a0 then (if a0 < (l2.length : Int) then (matrix_Product_1.l0 k a1 0 (rd_L1 l2 a0) ((rd_L1 l2 a0).length : Int) 0 l3) else (none)) else (none)) = some r := h
 clear h
 by_cases c5 : 0 ≤ a0
 ·rw [if_pos c5] at H
  have c5b0 : decide (0 ≤ a0) = true := decide_eq_true c5
  clear c5
  by_cases c6 : a0 < (l2.length : Int)
  ·rw [if_pos c6] at H
   have c6b0 : decide (a0 < (l2.length : Int)) = true := decide_eq_true c6
   clear c6
   have H' := Aside0.mk H
   clear H
   have hcz7_0 := (blk_cell BK902.out 0).trans (show _ = some (.slice A2 l2.length c2) from rfl)
   have hfz7_0 := blk_frozen BK902.out 0
   have p109 : 0 ≤ (a0 : Int) := of_decide_eq_true (by first | (with_reducible assumption) | assumption)
   have q109 : a0 < (l2.length : Int) := of_decide_eq_true (by first | (with_reducible assumption) | assumption)
   obtain ⟨ad109, A109_0, c109_0, e109, hx109_0, hl109_0, hi109_0⟩ := at_L1 HR2.out a0 p109 q109
   cases e109
   have HR109_0 := Aside0.mk hi109_0
   have HC109_0 := Aside0.mk hl109_0
   clear hi109_0 hl109_0
   replace p109 := eq_true p109
   replace q109 := eq_true q109
   go_enter Tryd.func47, Tryd.ntmps47
   go_wp2
   go_loopg [7, 15] k (fun kq v7 v15 w' => ∃ (x7_1 : Int) (x15_1 : Int), v7 = .int .u8 x7_1 ∧ v15 = .int .i64 x15_1 ∧ Aside0 (matrix_Product_1.l0 kq a1 x7_1 (rd_L1 l2 a0) ((rd_L1 l2 a0).length : Int) x15_1 l3 = some r) ∧ Aside0 (kq ≤ k) ∧ Aside0 (w'.heap[gb2]? = some (.cells #[(.slice (some ad109) l2.length c2)] 22 (0, 0))) ∧ Aside0 (w'.heap[gb3]? = some (.cells #[(.slice A3 l3.length c3)] 22 (0, 0))) ∧ Drawn0 w w')
   case atStart => exact ⟨(0), (0), (by first | rfl | (simp; done) | (simp [*]; done)), (by first | rfl | (simp; done) | (simp [*]; done)), H', ⟨Nat.le_refl _⟩, ⟨by (with_reducible repeat (first | refine blk_drewN ?_ _ | refine blk_drew ?_ | refine blk_alloc ?_ _)); exact BK902.out⟩, ⟨by (with_reducible repeat (first | refine blk_drewN ?_ _ | refine blk_drew ?_ | refine blk_alloc ?_ _)); exact BK903.out⟩, by repeat (first | exact Drawn0.refl _ | apply Drawn0.step)⟩
   case round =>
    clear H'
    try clear c1
    try clear p1
    try clear q1
    try clear hx1
    try clear c2
    try clear p2
    try clear c3
    try clear c4
    try clear c5
    try clear c5b0
    try clear c6
    try clear c6b0
    try clear hcz7_0
    try clear hfz7_0
    try clear hx109_0
    try clear p109
    try clear q109
    obtain ⟨x7_1, x15_1, rfl, rfl, HA, HK1, BK902, BK903, ⟨m1, rfl⟩⟩ := hrel
    cases gk with
    | zero => exact absurd HA.out (by simp [matrix_Product_1.l0])
    | succ k1 =>
     have H := HA.out
     clear HA
     simp only [matrix_Product_1.l0] at H
     by_cases c8 : x15_1 < ((rd_L1 l2 a0).length : Int)
     ·rw [if_pos c8] at H
      have c8b0 : decide (x15_1 < ((rd_L1 l2 a0).length : Int)) = true := decide_eq_true c8
      clear c8
      by_cases c9 : 0 ≤ x15_1
      ·rw [if_pos c9] at H
       have c9b0 : decide (0 ≤ x15_1) = true := decide_eq_true c9
       clear c9
       by_cases c10 : x15_1 < ((rd_L1 l2 a0).length : Int)
       ·rw [if_pos c10] at H
        have c10b0 : decide (x15_1 < ((rd_L1 l2 a0).length : Int)) = true := decide_eq_true c10
        clear c10
        by_cases c11 : x15_1 < (l3.length : Int)
        ·rw [if_pos c11] at H
         have c11b0 : decide (x15_1 < (l3.length : Int)) = true := decide_eq_true c11
         clear c11
         by_cases c12 : 0 ≤ a1
         ·rw [if_pos c12] at H
          have c12b0 : decide (0 ≤ a1) = true := decide_eq_true c12
          clear c12
          by_cases c13 : a1 < ((rd_L1 l3 x15_1).length : Int)
          ·rw [if_pos c13] at H
           have c13b0 : decide (a1 < ((rd_L1 l3 x15_1).length : Int)) = true := decide_eq_true c13
           clear c13
           replace H := Option.bind_eq_some_iff.mp H
           obtain ⟨t113, A140, H⟩ := H
           replace H : (matrix_Product_1.l0 k1 a1 (Go.bits .xor .u8 x7_1 t113) (rd_L1 l2 a0) ((rd_L1 l2 a0).length : Int) (wrap64 (x15_1 + 1)) l3) = some r := H
           have A14 := Aside0.mk A140
           clear A140
           have H' := Aside0.mk H
           clear H
           have p110 : 0 ≤ (x15_1 : Int) := of_decide_eq_true (by first | (with_reducible assumption) | assumption)
           have q110 : x15_1 < ((rd_L1 l2 a0).length : Int) := of_decide_eq_true (by first | (with_reducible assumption) | assumption)
           obtain ⟨ad110, e110, hx110_0⟩ := Kd.at_int HR109_0.out x15_1 p110 q110
           cases e110
           replace p110 := eq_true p110
           replace q110 := eq_true q110
           have hcz15_0 := (blk_cell BK903.out 0).trans (show _ = some (.slice A3 l3.length c3) from rfl)
           have hfz15_0 := blk_frozen BK903.out 0
           have p111 : 0 ≤ (x15_1 : Int) := of_decide_eq_true (by first | (with_reducible assumption) | assumption)
           have q111 : x15_1 < (l3.length : Int) := of_decide_eq_true (by first | (with_reducible assumption) | assumption)
           obtain ⟨ad111, A111_0, c111_0, e111, hx111_0, hl111_0, hi111_0⟩ := at_L1 HR3.out x15_1 p111 q111
           cases e111
           have HR111_0 := Aside0.mk hi111_0
           have HC111_0 := Aside0.mk hl111_0
           clear hi111_0 hl111_0
           replace p111 := eq_true p111
           replace q111 := eq_true q111
           have p112 : 0 ≤ (a1 : Int) := of_decide_eq_true (by first | (with_reducible assumption) | assumption)
           have q112 : a1 < ((rd_L1 l3 x15_1).length : Int) := of_decide_eq_true (by first | (with_reducible assumption) | assumption)
           obtain ⟨ad112, e112, hx112_0⟩ := Kd.at_int HR111_0.out a1 p112 q112
           cases e112
           replace p112 := eq_true p112
           replace q112 := eq_true q112
           go_wp2_with (first | ((with_reducible refine gate_callee (f := 48) rfl ?_); refine goesL_ (some 29) rfl rfl Tryd.func48 (by kernel_rfl) rfl #[.int .u8 (rd (rd_L1 l2 a0) x15_1), .int .u8 (rd (rd_L1 l3 x15_1) a1)] rfl (by (try simp only [List.map_toArray, List.map_cons, List.map_nil]); first | done | rfl | (simp only [List.length_drop, List.length_take]; rfl)) ?_; (with_reducible refine (gf_Mul.calls k1 (rd (rd_L1 l2 a0) x15_1) (rd (rd_L1 l3 x15_1) a1) t113 _ ?side1 A14.out).mono ?_); (case side1 => first | (with_reducible exact HG.out) | (with_reducible exact HighIn.drewN HG.out _) | exact HighIn.below HG.out (by repeat (first | (with_reducible first | exact HB.out | apply below_alloc | apply pw_below_drewN | apply below_drew1 | refine below_set ?_ GE902.out | refine below_set ?_ GE903.out) | exact HB.out)) | ((repeat (first | (with_reducible exact HG.out) | (with_reducible apply HighIn.drewN) | (with_reducible apply HighIn.drew) | (with_reducible apply HighIn.alloc))); done)); rintro e w' ⟨rfl, ⟨nd, rfl⟩⟩; refine ⟨_, rfl, ?_⟩))
           go_roundg k1
           case measure => have := HK1.out; omega
           case rel => exact ⟨(Go.bits .xor .u8 x7_1 t113), (wrap64 (x15_1 + 1)), (by first | rfl | (simp; done) | (simp [*]; done)), (by first | rfl | (simp; done) | (simp [*]; done)), H', ⟨by have := HK1.out; omega⟩, ⟨by (with_reducible repeat (first | refine blk_drewN ?_ _ | refine blk_drew ?_ | refine blk_alloc ?_ _)); exact BK902.out⟩, ⟨by (with_reducible repeat (first | refine blk_drewN ?_ _ | refine blk_drew ?_ | refine blk_alloc ?_ _)); exact BK903.out⟩, by repeat (first | exact Drawn0.refl _ | apply Drawn0.step)⟩
          ·rw [if_neg c13] at H
           exact absurd H (by simp)
         ·rw [if_neg c12] at H
          exact absurd H (by simp)
        ·rw [if_neg c11] at H
         exact absurd H (by simp)
       ·rw [if_neg c10] at H
        exact absurd H (by simp)
      ·rw [if_neg c9] at H
       exact absurd H (by simp)
     ·rw [if_neg c8] at H
      have c8b0 : decide (x15_1 < ((rd_L1 l2 a0).length : Int)) = false := decide_eq_false c8
      clear c8
      obtain rfl := Option.some.inj H
      go_wp2
      go_ret
      exact ⟨by first | rfl | (simp; done) | (simp [*]; done), by repeat (first | exact Drawn0.refl _ | apply Drawn0.step)⟩
  ·rw [if_neg c6] at H
   exact absurd H (by simp)
 ·rw [if_neg c5] at H
  exact absurd H (by simp)
def matrix_solve_1.f (a0 : Int) (a1 : Int) (a2 : Int) (l3 : List (List Int)) (l4 : List Int) : Option (Int) := if a1 < a2 then (if 0 ≤ a0 then (if a0 < (l3.length : Int) then (if 0 ≤ a1 then (if a1 < ((rd_L1 l3 a0).length : Int) then (some (rd (rd_L1 l3 a0) a1)) else (none)) else (none)) else (none)) else (none)) else (if 0 ≤ a0 then (if a0 < (l4.length : Int) then (some (rd l4 a0)) else (none)) else (none))
set_option maxHeartbeats 8000000 in
set_option maxRecDepth 100000 in
theorem matrix_solve_1.calls (a0 : Int) (a1 : Int) (gb2 : Nat) (a2 : Int) (gb3 : Nat) (A3 : Option Addr) (c3 : Nat) (l3 : List (List Int)) (gb4 : Nat) (A4 : Option Addr) (c4 : Nat) (l4 : List Int) (r : Int) (w : World) (hr3 : Kd.C (Kd.slice 5 (Kd.int .u8)) w A3 l3.length l3) (hc3 : l3.length ≤ c3) (hr4 : Kd.C (Kd.int .u8) w A4 l4.length l4) (hc4 : l4.length ≤ c4) (hb2 : w.heap[gb2]? = some (.cells #[.int .i64 a2] 3 (0, 0))) (hb3 : w.heap[gb3]? = some (.cells #[.slice A3 l3.length c3] 22 (0, 0))) (hb4 : w.heap[gb4]? = some (.cells #[.slice A4 l4.length c4] 43 (0, 0))) (h : matrix_solve_1.f a0 a1 a2 l3 l4 = some r) :
  Calls Tryd.prog 52 #[.int .i64 a0, .int .i64 a1, .pointer (some ⟨gb2, 0, none⟩), .pointer (some ⟨gb3, 0, none⟩), .pointer (some ⟨gb4, 0, none⟩)] w fun e w' => e = .returned (.int .u8 r) ∧ Drawn0 w w' := by
 have HR3 := Aside0.mk hr3
 have HC3 := Aside0.mk hc3
 clear hr3 hc3
 have HR4 := Aside0.mk hr4
 have HC4 := Aside0.mk hc4
 clear hr4 hc4
 have BK902 := Aside0.mk hb2
 clear hb2
 have BK903 := Aside0.mk hb3
 clear hb3
 have BK904 := Aside0.mk hb4
 clear hb4
 have H : (if a1 < a2 then (if 0 ≤ a0 then (if a0 < (l3.length : Int) then (if 0 ≤ a1 then (if a1 < ((rd_L1 l3 a0).length : Int) then (some (rd (rd_L1 l3 a0) a1)) else (none)) else (none)) else (none)) else (none)) else (if 0 ≤ a0 then (if a0 < (l4.length : Int) then (some (rd l4 a0)) else (none)) else (none))) = some r := h
 clear h
 by_cases c6 : a1 < a2
 ·rw [if_pos c6] at H
  have c6b0 : decide (a1 < a2) = true := decide_eq_true c6
  clear c6
  by_cases c7 : 0 ≤ a0
  ·rw [if_pos c7] at H
   have c7b0 : decide (0 ≤ a0) = true := decide_eq_true c7
   clear c7
   by_cases c8 : a0 < (l3.length : Int)
   ·rw [if_pos c8] at H
    have c8b0 : decide (a0 < (l3.length : Int)) = true := decide_eq_true c8
    clear c8
    by_cases c9 : 0 ≤ a1
    ·rw [if_pos c9] at H
     have c9b0 : decide (0 ≤ a1) = true := decide_eq_true c9
     clear c9
     by_cases c10 : a1 < ((rd_L1 l3 a0).length : Int)
     ·rw [if_pos c10] at H
      have c10b0 : decide (a1 < ((rd_L1 l3 a0).length : Int)) = true := decide_eq_true c10
      clear c10
      obtain rfl := Option.some.inj H
      have hcz11_0 := (blk_cell BK902.out 0).trans (show _ = some (.int .i64 a2) from rfl)
      have hfz11_0 := blk_frozen BK902.out 0
      have hcz12_0 := (blk_cell BK903.out 0).trans (show _ = some (.slice A3 l3.length c3) from rfl)
      have hfz12_0 := blk_frozen BK903.out 0
      have p114 : 0 ≤ (a0 : Int) := of_decide_eq_true (by first | (with_reducible assumption) | assumption)
      have q114 : a0 < (l3.length : Int) := of_decide_eq_true (by first | (with_reducible assumption) | assumption)
      obtain ⟨ad114, A114_0, c114_0, e114, hx114_0, hl114_0, hi114_0⟩ := at_L1 HR3.out a0 p114 q114
      cases e114
      have HR114_0 := Aside0.mk hi114_0
      have HC114_0 := Aside0.mk hl114_0
      clear hi114_0 hl114_0
      replace p114 := eq_true p114
      replace q114 := eq_true q114
      have p115 : 0 ≤ (a1 : Int) := of_decide_eq_true (by first | (with_reducible assumption) | assumption)
      have q115 : a1 < ((rd_L1 l3 a0).length : Int) := of_decide_eq_true (by first | (with_reducible assumption) | assumption)
      obtain ⟨ad115, e115, hx115_0⟩ := Kd.at_int HR114_0.out a1 p115 q115
      cases e115
      replace p115 := eq_true p115
      replace q115 := eq_true q115
      go_enter Tryd.func52, Tryd.ntmps52
      go_wp2
      go_ret
      exact ⟨by first | rfl | (simp; done) | (simp [*]; done), by repeat (first | exact Drawn0.refl _ | apply Drawn0.step)⟩
     ·rw [if_neg c10] at H
      exact absurd H (by simp)
    ·rw [if_neg c9] at H
     exact absurd H (by simp)
   ·rw [if_neg c8] at H
    exact absurd H (by simp)
  ·rw [if_neg c7] at H
   exact absurd H (by simp)
 ·rw [if_neg c6] at H
  have c6b0 : decide (a1 < a2) = false := decide_eq_false c6
  clear c6
  by_cases c13 : 0 ≤ a0
  ·rw [if_pos c13] at H
   have c13b0 : decide (0 ≤ a0) = true := decide_eq_true c13
   clear c13
   by_cases c14 : a0 < (l4.length : Int)
   ·rw [if_pos c14] at H
    have c14b0 : decide (a0 < (l4.length : Int)) = true := decide_eq_true c14
    clear c14
    obtain rfl := Option.some.inj H
    have hcz15_0 := (blk_cell BK902.out 0).trans (show _ = some (.int .i64 a2) from rfl)
    have hfz15_0 := blk_frozen BK902.out 0
    have hcz16_0 := (blk_cell BK904.out 0).trans (show _ = some (.slice A4 l4.length c4) from rfl)
    have hfz16_0 := blk_frozen BK904.out 0
    have p116 : 0 ≤ (a0 : Int) := of_decide_eq_true (by first | (with_reducible assumption) | assumption)
    have q116 : a0 < (l4.length : Int) := of_decide_eq_true (by first | (with_reducible assumption) | assumption)
    obtain ⟨ad116, e116, hx116_0⟩ := Kd.at_int HR4.out a0 p116 q116
    cases e116
    replace p116 := eq_true p116
    replace q116 := eq_true q116
    go_enter Tryd.func52, Tryd.ntmps52
    go_wp2
    go_ret
    exact ⟨by first | rfl | (simp; done) | (simp [*]; done), by repeat (first | exact Drawn0.refl _ | apply Drawn0.step)⟩
   ·rw [if_neg c14] at H
    exact absurd H (by simp)
  ·rw [if_neg c13] at H
   exact absurd H (by simp)
end Go.Proofs.YtijebgceopddmaaDoor.Lit
end
section
set_option linter.unusedVariables false
namespace Go.Proofs.YtijebgceopddmaaDoor.Grid
open Go.RowKit Go.Proofs.YtijebgceopddmaaDoorW.PrintWords Go.Proofs.YtijebgceopddmaaDoorW.PrintLast Go.Proofs.YtijebgceopddmaaDoorW.PrintMore
def rowG (f : Int → Option Int) : Nat → Nat → Option (List Int)
  | _, 0 => some []
  | k, n + 1 => (f k).bind fun x => (rowG f (k + 1) n).bind fun xs => some (x :: xs)
def gridN (f : Int → Int → Option Int) (cols : Nat) : Nat → Nat → Option (List (List Int))
  | _, 0 => some []
  | i, n + 1 => (rowG (f i) 0 cols).bind fun r => (gridN f cols (i + 1) n).bind fun rs => some (r :: rs)
def gridG (f : Int → Int → Option Int) (rows cols : Int) : Option (List (List Int)) :=
  if 0 ≤ rows ∧ rows.toNat ≤ 11728124029610 ∧ 0 ≤ cols ∧ cols.toNat ≤ 281474976710656 then gridN f cols.toNat 0 rows.toNat else none
theorem w64 (n : Int) (h : 0 ≤ n ∧ n ≤ 9223372036854775807) : wrap64 n = n := by unfold wrap64; omega
theorem set_mid {α : Type} (a : List α) (x y : α) (b : List α) {i : Nat} (hi : a.length = i) : (a ++ x :: b).set i y = a ++ y :: b := by
  subst hi; simp
section
variable [AtF]
theorem l1_run {cols bound : Int} {i : Nat} (hi : i ≤ 11728124029610) {r : List (List Int)} {K : Nat} : ∀ (n k : Nat) (x7 : List (List Int)) (pre ys : List Int), x7[i]? = some (pre ++ List.replicate n 0) → pre.length = k → rowG (AtF.f i) k n = some ys → k + n ≤ 281474976710656 →
    matrix_grid.l0 K cols (x7.set i (pre ++ ys)) bound (wrap64 ((i : Int) + 1)) = some r → ∃ K', matrix_grid.l1 K' cols x7 (i : Int) bound (i : Int) ((k + n : Nat) : Int) (k : Int) = some r
  | 0, k, x7, pre, ys, hx, hp, hr, hb, h => by
    simp only [rowG, Option.some.injEq] at hr
    subst hr
    refine ⟨K + 1, ?_⟩
    simp only [matrix_grid.l1]
    rw [if_neg (by omega)]
    have e : x7.set i (pre ++ []) = x7 := by
      obtain ⟨hl, e⟩ := List.getElem?_eq_some_iff.1 hx
      apply List.ext_getElem?
      intro j
      by_cases hj : i = j
      · subst hj; rw [List.getElem?_set_self hl, hx]; simp
      · rw [List.getElem?_set_ne hj]
    rwa [e] at h
  | n + 1, k, x7, pre, ys, hx, hp, hr, hb, h => by
    simp only [rowG, Option.bind_eq_some_iff] at hr
    obtain ⟨y, hy, ys', hr', e⟩ := hr
    injection e with e; subst e
    obtain ⟨hl, ex⟩ := List.getElem?_eq_some_iff.1 hx
    have hrd : rd_L1 x7 (i : Int) = pre ++ List.replicate (n + 1) 0 := by
      unfold rd_L1; rw [List.getD_eq_getElem?_getD, Int.toNat_natCast, hx]; rfl
    have hset : (rd_L1 x7 (i : Int)).set k y = (pre ++ [y]) ++ List.replicate n 0 := by
      rw [hrd, List.replicate_succ, set_mid _ _ _ _ hp]; simp
    obtain ⟨K', hK⟩ := l1_run hi n (k + 1) (x7.set i ((pre ++ [y]) ++ List.replicate n 0)) (pre ++ [y]) ys' (by rw [List.getElem?_set_self hl]) (by simp [hp]) hr' (by omega) (by rw [List.set_set]; simpa using h)
    refine ⟨K' + 1, ?_⟩
    simp only [matrix_grid.l1]
    rw [if_pos (by omega), if_pos (by omega), if_pos (by omega)]
    rw [show AT.f (i : Int) (k : Int) = some y from hy, Option.bind_some, if_pos (by omega), if_pos (by rw [hrd]; simp; omega)]
    rw [Int.toNat_natCast, Int.toNat_natCast, hset, w64 _ (by omega), show ((k : Int) + 1) = ((k + 1 : Nat) : Int) by omega, show ((k + (n + 1) : Nat) : Int) = ((k + 1 + n : Nat) : Int) by omega]
    exact hK
theorem l0_run {cols : Nat} (hc : cols ≤ 281474976710656) : ∀ (n i : Nat) (done : List (List Int)) (rs : List (List Int)), done.length = i → gridN AtF.f cols i n = some rs → i + n ≤ 11728124029610 → ∃ K, matrix_grid.l0 K (cols : Int) (done ++ List.replicate n []) ((i + n : Nat) : Int) (i : Int) = some (done ++ rs)
  | 0, i, done, rs, hd, hg, hb => by
    simp only [gridN, Option.some.injEq] at hg
    subst hg
    refine ⟨1, ?_⟩
    simp only [matrix_grid.l0]
    rw [if_neg (by omega)]; simp
  | n + 1, i, done, rs, hd, hg, hb => by
    simp only [gridN, Option.bind_eq_some_iff] at hg
    obtain ⟨r0, hr0, rs', hg', e⟩ := hg
    injection e with e; subst e
    obtain ⟨K, hK⟩ := l0_run hc n (i + 1) (done ++ [r0]) rs' (by simp [hd]) hg' (by omega)
    have e1 : (done ++ List.replicate (n + 1) ([] : List Int)).set i (List.replicate cols 0) = done ++ List.replicate cols 0 :: List.replicate n [] := by rw [List.replicate_succ, set_mid _ _ _ _ hd]
    have hx : (done ++ List.replicate cols (0 : Int) :: List.replicate n [])[i]? = some (List.replicate cols 0) := by subst hd; simp
    obtain ⟨K', hK'⟩ := l1_run (cols := (cols : Int)) (bound := ((i + (n + 1) : Nat) : Int)) (i := i) (r := done ++ r0 :: rs') (K := K) (by omega) cols 0 (done ++ List.replicate cols 0 :: List.replicate n []) [] r0 (by rw [hx]; rfl) rfl hr0 (by omega) (by
      rw [List.nil_append, set_mid _ _ _ _ hd, w64 _ (by omega), show ((i : Int) + 1) = ((i + 1 : Nat) : Int) by omega, show ((i + (n + 1) : Nat) : Int) = ((i + 1 + n : Nat) : Int) by omega]
      simpa using hK)
    refine ⟨K' + 1, ?_⟩
    simp only [matrix_grid.l0]
    rw [if_pos (by omega), if_pos (by omega), if_pos (by simpa using hc), if_pos (by omega), if_pos (by simp; omega), Option.bind_some]
    rw [Int.toNat_natCast, Int.toNat_natCast, e1]
    have hl : ((rd_L1 (done ++ List.replicate cols 0 :: List.replicate n []) (i : Int)).length : Int) = ((0 + cols : Nat) : Int) := by
      unfold rd_L1; rw [List.getD_eq_getElem?_getD, Int.toNat_natCast, hx]; simp
    rw [hl]
    exact hK'
theorem grid_run {rows cols : Int} {r : List (List Int)} (h : gridG AtF.f rows cols = some r) : ∃ k, matrix_grid.f k rows cols 0 = some r := by
  unfold gridG at h
  by_cases hc : 0 ≤ rows ∧ rows.toNat ≤ 11728124029610 ∧ 0 ≤ cols ∧ cols.toNat ≤ 281474976710656
  · rw [if_pos hc] at h
    obtain ⟨K, hK⟩ := l0_run (cols := cols.toNat) hc.2.2.2 rows.toNat 0 [] r rfl h (by omega)
    refine ⟨K, ?_⟩
    unfold matrix_grid.f
    rw [if_pos hc.1, if_pos hc.2.1, Option.bind_some]
    rw [Int.toNat_of_nonneg hc.2.2.1, Nat.zero_add] at hK
    simpa using hK
  · rw [if_neg hc] at h; cases h
theorem grid_run_calls {rows cols : Int} {r : List (List Int)} (w : World) (hG : HighIn w) (h : gridG AtF.f rows cols = some r) :
    Calls Tryd.prog 35 #[.int .i64 rows, .int .i64 cols, .func (.func AtF.num) #[] AtF.cap] w fun e w' => ∃ v0_ : Value, e = .returned (v0_) ∧ Kd.S (Kd.slice 5 (Kd.int .u8)) 43 w' w.heap.size (fun _ => True) v0_ r ∧ Below w.heap.size w w' := by
  obtain ⟨k, hk⟩ := grid_run h
  exact matrix_grid.calls k rows cols 0 r w hG hk
end
end Go.Proofs.YtijebgceopddmaaDoor.Grid
namespace Go.Proofs.YtijebgceopddmaaDoor.Pr
open Go.RowKit Go.Proofs.YtijebgceopddmaaDoorW.PrintWords Go.Proofs.YtijebgceopddmaaDoorW.PrintLast Go.Proofs.YtijebgceopddmaaDoorW.PrintMore Go.Proofs.YtijebgceopddmaaDoor.Gf
theorem blkB {w W : World} {b : Nat} {o : Obj} (h : w.heap[b]? = some o) (hb : Below w.heap.size w W) : W.heap[b]? = some o := by
  have hl : b < w.heap.size := (Array.getElem?_eq_some_iff.1 h).1
  rw [hb.block b hl]; exact h
def grid_37.f (rows cols : Int) (l0 : List (List Int)) : Option (List (List Int)) := Grid.gridG (fun i k => Lit.matrix_Transpose_1.f i k l0) rows cols
theorem grid_37.calls (b0 : Nat) (rows cols : Int) (A0 : Option Addr) (c0 : Nat) (l0 : List (List Int)) (r : List (List Int)) (w : World) (hb0 : w.heap[b0]? = some (.cells #[.slice A0 l0.length c0] 22 (0, 0))) (hr0 : Kd.C (Kd.slice 5 (Kd.int .u8)) w A0 l0.length l0) (hc0 : l0.length ≤ c0) (h : grid_37.f rows cols l0 = some r) :
    Calls Tryd.prog 35 #[.int .i64 rows, .int .i64 cols, .func (.func 37) #[] #[.pointer (some ⟨b0, 0, none⟩)]] w fun e w' => ∃ v0_ : Value, e = .returned (v0_) ∧ Kd.S (Kd.slice 5 (Kd.int .u8)) 43 w' w.heap.size (fun _ => True) v0_ r ∧ Below w.heap.size w w' := by
  letI : Grid.AtF := { num := 37, fn := Tryd.f37, cap := #[.pointer (some ⟨b0, 0, none⟩)], f := fun i k => Lit.matrix_Transpose_1.f i k l0, hf := Tryd.func37, hname := by kernel_rfl, hb := by kernel_rfl }
  exact Grid.grid_run_calls w (fun W hb i k r h => Lit.matrix_Transpose_1.calls i k b0 A0 c0 l0 r W (Kd.C_below hr0 hb) hc0 (blkB hb0 hb) h) h
def grid_44.f (rows cols : Int) (a0 : Int) (l1 : List (List Int)) : Option (List (List Int)) := Grid.gridG (fun i k => Lit.matrix_Inverse_1.f i k a0 l1) rows cols
theorem grid_44.calls (b0 : Nat) (b1 : Nat) (rows cols : Int) (a0 : Int) (A1 : Option Addr) (c1 : Nat) (l1 : List (List Int)) (r : List (List Int)) (w : World) (hb0 : w.heap[b0]? = some (.cells #[.int .i64 a0] 3 (0, 0))) (hb1 : w.heap[b1]? = some (.cells #[.slice A1 l1.length c1] 22 (0, 0))) (hr1 : Kd.C (Kd.slice 5 (Kd.int .u8)) w A1 l1.length l1) (hc1 : l1.length ≤ c1) (h : grid_44.f rows cols a0 l1 = some r) :
    Calls Tryd.prog 35 #[.int .i64 rows, .int .i64 cols, .func (.func 44) #[] #[.pointer (some ⟨b0, 0, none⟩), .pointer (some ⟨b1, 0, none⟩)]] w fun e w' => ∃ v0_ : Value, e = .returned (v0_) ∧ Kd.S (Kd.slice 5 (Kd.int .u8)) 43 w' w.heap.size (fun _ => True) v0_ r ∧ Below w.heap.size w w' := by
  letI : Grid.AtF := { num := 44, fn := Tryd.f44, cap := #[.pointer (some ⟨b0, 0, none⟩), .pointer (some ⟨b1, 0, none⟩)], f := fun i k => Lit.matrix_Inverse_1.f i k a0 l1, hf := Tryd.func44, hname := by kernel_rfl, hb := by kernel_rfl }
  exact Grid.grid_run_calls w (fun W hb i k r h => Lit.matrix_Inverse_1.calls i k b0 a0 b1 A1 c1 l1 r W (Kd.C_below hr1 hb) hc1 (blkB hb0 hb) (blkB hb1 hb) h) h
def grid_45.f (rows cols : Int) (l0 : List (List Int)) (a1 : Int) : Option (List (List Int)) := Grid.gridG (fun i k => Lit.matrix_Inverse_2.f i k l0 a1) rows cols
theorem grid_45.calls (b0 : Nat) (b1 : Nat) (rows cols : Int) (A0 : Option Addr) (c0 : Nat) (l0 : List (List Int)) (a1 : Int) (r : List (List Int)) (w : World) (hb0 : w.heap[b0]? = some (.cells #[.slice A0 l0.length c0] 22 (0, 0))) (hb1 : w.heap[b1]? = some (.cells #[.int .i64 a1] 3 (0, 0))) (hr0 : Kd.C (Kd.slice 5 (Kd.int .u8)) w A0 l0.length l0) (hc0 : l0.length ≤ c0) (h : grid_45.f rows cols l0 a1 = some r) :
    Calls Tryd.prog 35 #[.int .i64 rows, .int .i64 cols, .func (.func 45) #[] #[.pointer (some ⟨b0, 0, none⟩), .pointer (some ⟨b1, 0, none⟩)]] w fun e w' => ∃ v0_ : Value, e = .returned (v0_) ∧ Kd.S (Kd.slice 5 (Kd.int .u8)) 43 w' w.heap.size (fun _ => True) v0_ r ∧ Below w.heap.size w w' := by
  letI : Grid.AtF := { num := 45, fn := Tryd.f45, cap := #[.pointer (some ⟨b0, 0, none⟩), .pointer (some ⟨b1, 0, none⟩)], f := fun i k => Lit.matrix_Inverse_2.f i k l0 a1, hf := Tryd.func45, hname := by kernel_rfl, hb := by kernel_rfl }
  exact Grid.grid_run_calls w (fun W hb i k r h => Lit.matrix_Inverse_2.calls i k b0 A0 c0 l0 b1 a1 r W (Kd.C_below hr0 hb) hc0 (blkB hb0 hb) (blkB hb1 hb) h) h
def grid_46.f (rows cols : Int) (l0 : List (List Int)) : Option (List (List Int)) := Grid.gridG (fun i k => Lit.matrix_Express_1.f i k l0) rows cols
theorem grid_46.calls (b0 : Nat) (rows cols : Int) (A0 : Option Addr) (c0 : Nat) (l0 : List (List Int)) (r : List (List Int)) (w : World) (hb0 : w.heap[b0]? = some (.cells #[.slice A0 l0.length c0] 22 (0, 0))) (hr0 : Kd.C (Kd.slice 5 (Kd.int .u8)) w A0 l0.length l0) (hc0 : l0.length ≤ c0) (h : grid_46.f rows cols l0 = some r) :
    Calls Tryd.prog 35 #[.int .i64 rows, .int .i64 cols, .func (.func 46) #[] #[.pointer (some ⟨b0, 0, none⟩)]] w fun e w' => ∃ v0_ : Value, e = .returned (v0_) ∧ Kd.S (Kd.slice 5 (Kd.int .u8)) 43 w' w.heap.size (fun _ => True) v0_ r ∧ Below w.heap.size w w' := by
  letI : Grid.AtF := { num := 46, fn := Tryd.f46, cap := #[.pointer (some ⟨b0, 0, none⟩)], f := fun i k => Lit.matrix_Express_1.f i k l0, hf := Tryd.func46, hname := by kernel_rfl, hb := by kernel_rfl }
  exact Grid.grid_run_calls w (fun W hb i k r h => Lit.matrix_Express_1.calls i k b0 A0 c0 l0 r W (Kd.C_below hr0 hb) hc0 (blkB hb0 hb) h) h
def grid_47.f (rows cols : Int) (l0 : List (List Int)) (l1 : List (List Int)) : Option (List (List Int)) := Grid.gridG (fun i k => Lit.matrix_Product_1.f 1000 i k l0 l1) rows cols
theorem grid_47.calls (b0 : Nat) (b1 : Nat) (rows cols : Int) (A0 : Option Addr) (c0 : Nat) (l0 : List (List Int)) (A1 : Option Addr) (c1 : Nat) (l1 : List (List Int)) (r : List (List Int)) (w : World) (hG : HighIn w) (hb0 : w.heap[b0]? = some (.cells #[.slice A0 l0.length c0] 22 (0, 0))) (hb1 : w.heap[b1]? = some (.cells #[.slice A1 l1.length c1] 22 (0, 0))) (hr0 : Kd.C (Kd.slice 5 (Kd.int .u8)) w A0 l0.length l0) (hc0 : l0.length ≤ c0) (hr1 : Kd.C (Kd.slice 5 (Kd.int .u8)) w A1 l1.length l1) (hc1 : l1.length ≤ c1) (h : grid_47.f rows cols l0 l1 = some r) :
    Calls Tryd.prog 35 #[.int .i64 rows, .int .i64 cols, .func (.func 47) #[] #[.pointer (some ⟨b0, 0, none⟩), .pointer (some ⟨b1, 0, none⟩)]] w fun e w' => ∃ v0_ : Value, e = .returned (v0_) ∧ Kd.S (Kd.slice 5 (Kd.int .u8)) 43 w' w.heap.size (fun _ => True) v0_ r ∧ Below w.heap.size w w' := by
  letI : Grid.AtF := { num := 47, fn := Tryd.f47, cap := #[.pointer (some ⟨b0, 0, none⟩), .pointer (some ⟨b1, 0, none⟩)], f := fun i k => Lit.matrix_Product_1.f 1000 i k l0 l1, hf := Tryd.func47, hname := by kernel_rfl, hb := by kernel_rfl }
  exact Grid.grid_run_calls w (fun W hb i k r h => Lit.matrix_Product_1.calls 1000 i k b0 A0 c0 l0 b1 A1 c1 l1 r W (hG.below hb) (Kd.C_below hr0 hb) hc0 (Kd.C_below hr1 hb) hc1 (blkB hb0 hb) (blkB hb1 hb) h) h
def grid_52.f (rows cols : Int) (a0 : Int) (l1 : List (List Int)) (l2 : List Int) : Option (List (List Int)) := Grid.gridG (fun i k => Lit.matrix_solve_1.f i k a0 l1 l2) rows cols
theorem grid_52.calls (b0 : Nat) (b1 : Nat) (b2 : Nat) (rows cols : Int) (a0 : Int) (A1 : Option Addr) (c1 : Nat) (l1 : List (List Int)) (A2 : Option Addr) (c2 : Nat) (l2 : List Int) (r : List (List Int)) (w : World) (hb0 : w.heap[b0]? = some (.cells #[.int .i64 a0] 3 (0, 0))) (hb1 : w.heap[b1]? = some (.cells #[.slice A1 l1.length c1] 22 (0, 0))) (hb2 : w.heap[b2]? = some (.cells #[.slice A2 l2.length c2] 43 (0, 0))) (hr1 : Kd.C (Kd.slice 5 (Kd.int .u8)) w A1 l1.length l1) (hc1 : l1.length ≤ c1) (hr2 : Kd.C (Kd.int .u8) w A2 l2.length l2) (hc2 : l2.length ≤ c2) (h : grid_52.f rows cols a0 l1 l2 = some r) :
    Calls Tryd.prog 35 #[.int .i64 rows, .int .i64 cols, .func (.func 52) #[] #[.pointer (some ⟨b0, 0, none⟩), .pointer (some ⟨b1, 0, none⟩), .pointer (some ⟨b2, 0, none⟩)]] w fun e w' => ∃ v0_ : Value, e = .returned (v0_) ∧ Kd.S (Kd.slice 5 (Kd.int .u8)) 43 w' w.heap.size (fun _ => True) v0_ r ∧ Below w.heap.size w w' := by
  letI : Grid.AtF := { num := 52, fn := Tryd.f52, cap := #[.pointer (some ⟨b0, 0, none⟩), .pointer (some ⟨b1, 0, none⟩), .pointer (some ⟨b2, 0, none⟩)], f := fun i k => Lit.matrix_solve_1.f i k a0 l1 l2, hf := Tryd.func52, hname := by kernel_rfl, hb := by kernel_rfl }
  exact Grid.grid_run_calls w (fun W hb i k r h => Lit.matrix_solve_1.calls i k b0 a0 b1 A1 c1 l1 b2 A2 c2 l2 r W (Kd.C_below hr1 hb) hc1 (Kd.C_below hr2 hb) hc2 (blkB hb0 hb) (blkB hb1 hb) (blkB hb2 hb) h) h
end Go.Proofs.YtijebgceopddmaaDoor.Pr
end
section
namespace Go.Proofs.YtijebgceopddmaaDoor.Pa
open Go.RowKit Go.Proofs.YtijebgceopddmaaDoor.Gf Go.Proofs.YtijebgceopddmaaDoor.Pr Go.Proofs.YtijebgceopddmaaDoorW.PrintWords Go.Proofs.YtijebgceopddmaaDoorW.PrintLast Go.Proofs.YtijebgceopddmaaDoorW.PrintMore
attribute [local go_sem] max2_int min2_int max_two min_two max_three min_three max_four min_four   -- for this text's walks alone
set_option linter.unusedVariables false
set_option linter.unusedSimpArgs false
def errW : Option Int → Value
 | none => .nilIface
 | some c => .iface 0 (.int .i64 c)
theorem errW_none : errW none = .nilIface := rfl
theorem errW_some (c : Int) : errW (some c) = .iface 0 (.int .i64 c) := rfl
theorem info4 : (Tryd.prog.info? 4).map (fun i => (i.zero, i.size, i.bytes)) = some (some (.bool false), 1, 1) := by kernel_rfl
theorem info5 : (Tryd.prog.info? 5).map (fun i => (i.zero, i.size, i.bytes)) = some (some (.int .u8 0), 1, 1) := by kernel_rfl
theorem info43 : (Tryd.prog.info? 43).map (fun i => (i.zero, i.size, i.bytes)) = some (some (.slice none 0 0), 1, 24) := by kernel_rfl
-- the values' own types
def rd_L1 (xs : List (List Int)) (i : Int) : (List Int) := xs.getD i.toNat ([] : List Int)
theorem at_L1 {w : World} {A : Option Addr} {n : Nat} {xs : List (List Int)} (h : Kd.C (Kd.slice 5 (Kd.int .u8)) w A n xs) (i : Int) (h0 : 0 ≤ i) (h1 : i < n) : ∃ ad A0 c0, A = some ad ∧ w.cell? (ad.add i.toNat) = some (.slice A0 (rd_L1 xs i).length c0) ∧ (rd_L1 xs i).length ≤ c0 ∧ (Kd.int .u8).C w A0 (rd_L1 xs i).length (rd_L1 xs i) := by
 obtain ⟨ad, c, e, _, hK, hc0⟩ := Kd.C_get h ([] : List Int) i h0 h1
 have hc : ∀ j u, c[j]? = some u → w.cell? (ad.add (i.toNat * 1 + j)) = some u := hc0
 obtain ⟨A0, c0, rfl, l0, g0⟩ := hK
 exact ⟨ad, A0, c0, e, by have hq := hc 0 _ rfl; rwa [Nat.mul_one, Nat.add_zero] at hq, l0, g0⟩
def rd_L4 (xs : List (List (List Int))) (i : Int) : (List (List Int)) := xs.getD i.toNat ([] : List (List Int))
theorem at_L4 {w : World} {A : Option Addr} {n : Nat} {xs : List (List (List Int))} (h : Kd.C (Kd.slice 43 (Kd.slice 5 (Kd.int .u8))) w A n xs) (i : Int) (h0 : 0 ≤ i) (h1 : i < n) : ∃ ad A0 c0, A = some ad ∧ w.cell? (ad.add i.toNat) = some (.slice A0 (rd_L4 xs i).length c0) ∧ (rd_L4 xs i).length ≤ c0 ∧ (Kd.slice 5 (Kd.int .u8)).C w A0 (rd_L4 xs i).length (rd_L4 xs i) := by
 obtain ⟨ad, c, e, _, hK, hc0⟩ := Kd.C_get h ([] : List (List Int)) i h0 h1
 have hc : ∀ j u, c[j]? = some u → w.cell? (ad.add (i.toNat * 1 + j)) = some u := hc0
 obtain ⟨A0, c0, rfl, l0, g0⟩ := hK
 exact ⟨ad, A0, c0, e, by have hq := hc 0 _ rfl; rwa [Nat.mul_one, Nat.add_zero] at hq, l0, g0⟩
end Go.Proofs.YtijebgceopddmaaDoor.Pa
end
